/- Layer 24's far, large, long: whether an argument is more than is looked at. -/
/- Layer 24's example and awake. -/
/- Layer 24's laws: bounds of what is returned. -/
import Derived.Test.YtiliglpolcpnbaaGreatDoorQWlkR
import Derived.Test.YtiliglpolcpnbaaGreatDoorQBsdG
namespace Go.Proofs.YtiliglpolcpnbaaGreatDoor
open Go.RowKit

/-- The call returns a bool; false says something; the world is as it was. -/
def BoolP (P : Prop) (w : World) (e : Ending) (w' : World) : Prop := ∃ r : Bool, e = .returned (.bool r) ∧ (r = false → P) ∧ w = w'
def Few (n : Nat) (l : List Attr) : Prop := l.length ≤ 10 ∧ ∀ a ∈ l, a.1.size ≤ n ∧ a.2.size ≤ n
theorem few_of {l : List Attr} {k n : Nat} (hk : k = l.length) (hl : l.length ≤ 10) (h : ∀ j (_ : j < k) (hj : j < l.length), (l[j]'hj).1.size ≤ n ∧ (l[j]'hj).2.size ≤ n) : Few n l := by
  refine ⟨hl, fun a ha => ?_⟩
  obtain ⟨j, hj, rfl⟩ := List.getElem_of_mem ha
  exact h j (by omega) hj
theorem gtT {a b : Nat} (h : a < b) : decide ((a : Int) < (b : Int)) = true := decide_eq_true (by omega)
theorem gtF {a b : Nat} (h : ¬ a < b) : decide ((a : Int) < (b : Int)) = false := decide_eq_false (by omega)
/-- A tree that is not too large. -/
structure FewT (n : Nat) (t : List TrN) : Prop where
  len : t.length ≤ 130
  ok : ∀ x ∈ t, Few n x.ats ∧ x.nm.size ≤ n ∧ x.dat.size ≤ n
/-- A branch that is not too large. -/
structure FewB (n : Nat) (b : List BrN) : Prop where
  len : b.length ≤ 130
  ok : ∀ x ∈ b, Few n x.ats ∧ x.nm.size ≤ n ∧ x.dat.size ≤ n ∧ x.red.length ≤ 12 ∧ ∀ s ∈ x.red, s.size ≤ n
end Go.Proofs.YtiliglpolcpnbaaGreatDoor

namespace Go.Proofs.YtiliglpolcpnbaaGreatDoor
open Go.RowKit

def zT : TrN := { dep := 0, nm := ⟨#[]⟩, kd := 0, ats := [], dat := ⟨#[]⟩, ma := 0, mi := 0, cl := 0 }
/-- The branch of the document. -/
def exB : List BrN :=
  [{ zT with kd := 1, ats := [(ofL [98, 115, 100, 46, 120], ⟨#[]⟩)], opq := false, red := [] },
   { zT with dep := 1, nm := ofL [97], kd := 1, opq := true, red := [] },
   { zT with dep := 2, nm := ofL [102], kd := 2, dat := ofL [49], opq := false, red := [] },
   { zT with dep := 1, nm := ofL [100], kd := 1, opq := false, red := [] },
   { zT with dep := 2, nm := ofL [119], kd := 5, opq := false, red := [] }]
set_option maxRecDepth 100000 in
theorem exB_ok : brEr exB = 0 := by kernel_rfl
theorem exB_enc : ∀ j, j < exB.length → encE exB j = 0 := by decide
def exT : List TrN :=
  [{ zT with kd := 1, ats := [(ofL [98, 115, 100, 46, 98, 115, 100, 46, 120], ⟨#[]⟩)] },
   { zT with dep := 1, nm := ofL [97], kd := 1, ats := [(ofL [98, 115, 100, 46, 111, 112, 97, 113, 117, 101], ⟨#[]⟩)] },
   { zT with dep := 2, nm := ofL [102], kd := 2, dat := ofL [49] },
   { zT with dep := 1, nm := ofL [100], kd := 1 },
   { zT with dep := 2, nm := ofL [119], kd := 5 }]
set_option maxRecDepth 100000 in
theorem ex_enc : encT exB = (exT, 0, 0) := by kernel_rfl
set_option maxRecDepth 100000 in
theorem ex_dec : decT exT = (exB, 0, 0) := by kernel_rfl
/-- .. with a redirect. -/
def exR : List BrN := exB.set 3 { zT with dep := 1, nm := ofL [100], kd := 1, opq := false, red := [ofL [111]] }
set_option maxRecDepth 100000 in
theorem ex_red : encT exR = ([], 3, 15) := by kernel_rfl
theorem exB_small : SmallB exB := by
  refine ⟨?_, ?_, ?_, by decide⟩
  · unfold SmallT; decide
  · decide
  · decide
theorem exR_small : SmallB exR := by
  refine ⟨?_, ?_, ?_, by decide⟩
  · unfold SmallT; decide
  · decide
  · decide
theorem exT_small : SmallT exT := by unfold SmallT; decide
/-- What awake reads of the tree. -/
structure AwkT (w : World) (g : Nat) : Prop where
  ex : ∃ ga oa ca gb ob cb, w.cell? ⟨g, 3, none⟩ = some (.slice (some ⟨ga, oa, none⟩) 1 ca) ∧ w.cell? ⟨g, 11, none⟩ = some (.slice (some ⟨gb, ob, none⟩) 1 cb) ∧ w.cell? ⟨ga, oa, none⟩ = some (.string ⟨#[98, 115, 100, 46, 98, 115, 100, 46, 120]⟩) ∧ w.cell? ⟨gb, ob, none⟩ = some (.string ⟨#[98, 115, 100, 46, 111, 112, 97, 113, 117, 101]⟩) ∧ w.cell? ⟨gb, ob + 1, none⟩ = some (.string ⟨#[]⟩)
theorem awkT_of {B : Nat} {w : World} {g c : Nat} (h : OwnL cdT B w (.slice (some ⟨g, 0, none⟩) 5 c) exT) : AwkT w g := by
  obtain ⟨b0, o0, v0, e0, _, h0, _, _, _, c0, _⟩ := (h.in okT).tr 0 (by decide)
  obtain ⟨b1, o1, v1, e1, _, h1, _, _, _, c1, _⟩ := (h.in okT).tr 1 (by decide)
  cases e0
  cases e1
  obtain ⟨a2, cap2, rfl, _, k0⟩ := h0.attrs
  obtain ⟨a3, cap3, rfl, _, k1⟩ := h1.attrs
  obtain ⟨ga, oa, rfl, _, x0, _⟩ := k0 0 (by decide)
  obtain ⟨gb, ob, rfl, _, y0, y1⟩ := k1 0 (by decide)
  exact ⟨ga, oa, cap2, gb, ob, cap3, c0, c1, x0, y0, y1⟩
/-- A redirect is stored into the branch. -/
theorem awk_red {B : Nat} {w : World} {g c : Nat} (_hB : B ≤ w.heap.size) (hg : g < w.heap.size) (h : OwnL cdB B w (.slice (some ⟨g, 0, none⟩) 5 c) exB) :
    OwnL cdB B ((w.setCell ⟨g, 39, none⟩ (.slice (some ⟨w.heap.size, 0, none⟩) 1 1)).alloc (.cells #[.string ⟨#[111]⟩] 9)) (.slice (some ⟨g, 0, none⟩) 5 c) exR := by
  have h1 := (((h.ext okB (ext_alloc w (.cells #[.string ⟨#[111]⟩] 9))).store okB 3 (by decide) 9 (by decide) (.slice (some ⟨w.heap.size, 0, none⟩) 1 1) { zT with dep := 1, nm := ofL [100], kd := 1, opq := false, red := [ofL [111]] } (fun cs hr => by
    obtain ⟨va, vr, h1, _, rfl⟩ := hr
    exact ⟨va, _, h1, (listIn_new okS w (ofL [111]) [.string ⟨#[111]⟩] _ rfl rfl), rfl⟩)).1)
  rw [show 3 * cdB.n + 9 = 39 from rfl, World.setCell_alloc_past _ _ _ _ hg] at h1
  exact h1
end Go.Proofs.YtiliglpolcpnbaaGreatDoor

namespace Go.Proofs.YtiliglpolcpnbaaGreatDoor
open Go.RowKit

theorem fewB_small {b : List BrN} (h : FewB 1000 b) : SmallB b := by
  have hl := h.len
  refine ⟨?_, ?_, ?_, by omega⟩
  · intro x hx
    obtain ⟨y, hy, rfl⟩ := List.mem_map.1 hx
    obtain ⟨h1, h2, _⟩ := h.ok y hy
    exact ⟨by show y.nm.size ≤ _; omega, fun a ha => by have := h1.2 a ha; omega, by have := h1.1; show y.ats.length ≤ _; omega⟩
  · intro x hx
    have := (h.ok x hx).1.1; omega
  · intro x hx
    obtain ⟨_, _, _, h4, h5⟩ := h.ok x hx
    exact ⟨by omega, fun s hs => by have := h5 s hs; omega⟩
theorem fewT_small {t : List TrN} (h : FewT 1000 t) : SmallT t := by
  intro x hx
  obtain ⟨h1, h2, _⟩ := h.ok x hx
  exact ⟨by omega, fun a ha => by have := h1.2 a ha; omega, by have := h1.1; omega⟩
theorem atsL_len (d : Int) (l : List Attr) : (atsL d l).length ≤ l.length := by
  unfold atsL
  split
  · split
    · rw [wantA_length]; exact Nat.le_refl _
    · exact Nat.zero_le _
  · exact Nat.zero_le _
theorem bwL_len (l : List Attr) (o : Bool) : (bwL l o).length ≤ l.length + 1 := by
  have := atsL_len 4 l
  unfold bwL bwT
  split
  · show (atsL 4 l).length ≤ _; omega
  · split
    · exact Nat.zero_le _
    · show (putA (atsL 4 l) mkA).length ≤ _; rw [put_length]; omega
theorem bdP_len (l : List Attr) : (bdP l).length ≤ l.length := by
  unfold bdP bdT
  split
  · exact Nat.zero_le _
  · split
    · exact Nat.zero_le _
    · show (ptsP 4 l).length ≤ _
      unfold ptsP
      split
      · rw [(srtA_perm _).length_eq]; exact plR_len 4 l
      · exact Nat.zero_le _
theorem encL_is (b : List BrN) : encL b = [] ∨ encL b = b.map encX := by
  unfold encL encT
  split
  · exact .inl rfl
  · split
    · exact .inl rfl
    · exact .inr rfl
theorem decL_is (t : List TrN) : decL t = [] ∨ decL t = t.map decX := by
  unfold decL decT
  split
  · exact .inl rfl
  · split
    · exact .inl rfl
    · split
      · exact .inl rfl
      · exact .inr rfl
theorem encL_bd {b : List BrN} (h : FewB 1000 b) : (encL b).length ≤ 1000 ∧ ∀ x ∈ encL b, x.ats.length ≤ 1000 := by
  have hl := h.len
  rcases encL_is b with e | e <;> rw [e]
  · exact ⟨Nat.zero_le _, fun x hx => by cases hx⟩
  · refine ⟨by rw [List.length_map]; omega, fun x hx => ?_⟩
    obtain ⟨y, hy, rfl⟩ := List.mem_map.1 hx
    have h1 := (h.ok y hy).1.1
    have h2 := bwL_len y.ats y.opq
    show (bwL y.ats y.opq).length ≤ _; omega
theorem decL_bd {t : List TrN} (h : FewT 1000 t) : (decL t).length ≤ 1000 ∧ (∀ x ∈ decL t, x.ats.length ≤ 1000) ∧ ∀ x ∈ decL t, x.red.length ≤ 1000 := by
  have hl := h.len
  rcases decL_is t with e | e <;> rw [e]
  · exact ⟨Nat.zero_le _, fun x hx => (by cases hx), fun x hx => by cases hx⟩
  · refine ⟨by rw [List.length_map]; omega, fun x hx => ?_, fun x hx => ?_⟩
    · obtain ⟨y, hy, rfl⟩ := List.mem_map.1 hx
      have h1 := (h.ok y hy).1.1
      have h2 := bdP_len y.ats
      show (bdP y.ats).length ≤ _; omega
    · obtain ⟨y, hy, rfl⟩ := List.mem_map.1 hx
      exact Nat.zero_le _
end Go.Proofs.YtiliglpolcpnbaaGreatDoor
