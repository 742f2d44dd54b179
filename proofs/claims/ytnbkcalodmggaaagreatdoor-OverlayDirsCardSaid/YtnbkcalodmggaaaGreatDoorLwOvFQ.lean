/- OverlayDirs is proved: for every directory the law returns true; a larger directory is answered by the fixed calls alone. -/
import Derived.Test.YtnbkcalodmggaaaGreatDoorQI6
import Derived.Test.YtnbkcalodmggaaaGreatDoorQOwnAx
import Derived.Test.YtnbkcalodmggaaaGreatDoorQDirR
import Derived.Test.YtnbkcalodmggaaaGreatDoorQOrG
import Derived.Test.YtnbkcalodmggaaaGreatDoorQOrW
import Derived.Test.YtnbkcalodmggaaaGreatDoorQOvHF
namespace Go.Proofs.YtnbkcalodmggaaaGreatDoor
open Go.ChangeShapes Go.WideShapes Go.Deep Go.RowKit

section
variable {H : Type} {enc : TypeId × Value -> H} {P : Program} {w : World} {base : Nat} {spare : Nat -> Bool} {held : Bool}
theorem open_fields {t e : TypeId} {fs : Array Field} {fuel : Nat} {cs : List Value} {x : DataW H × List MemPlace} (ht : P.underlying t = some (.slice e)) (he : P.underlying e = some (.struct fs))
    (hone : oneCellFields P fs = true) (hC : P.cellsOf e = fs.size) (h : DataW.trod enc P w base spare held fuel t cs = some x) :
    cs = [.slice none 0 0] \/
    ∃ (a : Addr) (len cap m : Nat), cs = [.slice (some a) len cap] /\ len <= cap /\ len <= m /\
      ∀ i, i < m -> ∃ n : Nat, ∀ (j : Nat) (f : Field), fs[j]? = some f -> ∃ (v : Value) (y : DataW H × List MemPlace), w.cell? (a.add (i * fs.size + j)) = some v /\ DataW.trod enc P w base spare held n f.type [v] = some y := by
  rcases open_slice ht h with h0 | ⟨a, len, cap, m, n, D, Pl, hcs, hb, hl, hm, hmm, hx, hi⟩
  · exact .inl h0.1
  · refine .inr ⟨a, len, cap, m, hcs, hl, by rw [hmm]; split <;> omega, fun i him => ?_⟩
    obtain ⟨cs', hc, ht'⟩ := hi i him
    rw [hC] at hc
    obtain ⟨ys, n', hn', hy, hlen, hyl, hf⟩ := DataW.trod_struct he ht'
    obtain ⟨_, hcl, hat⟩ := World.cells?_some hc
    refine ⟨n', fun j f hj => ?_⟩
    obtain ⟨ho, hk⟩ := hone_of hone j f hj
    have hjl : j < fs.size := (Array.getElem?_eq_some_iff.1 hj).1
    have hcell := hat j hjl
    have hv : cs'[j]? = some (cs'[j]'(by omega)) := List.getElem?_eq_getElem (by omega)
    have h1 := hf j f hj
    rw [ho, hk] at h1
    have hone' : (cs'.drop j).take 1 = [cs'[j]'(by omega)] := by
      rw [List.drop_eq_getElem_cons (by omega)]
      rfl
    rw [hone'] at h1
    have hys : ys[j]? = some (ys[j]'(by omega)) := List.getElem?_eq_getElem (by omega)
    refine ⟨_, _, ?_, h1.trans hys⟩
    rw [<- Go.Deep.add_add, hcell, hv]
end
end Go.Proofs.YtnbkcalodmggaaaGreatDoor
namespace Go.Proofs.YtnbkcalodmggaaaGreatDoor
open Go.ChangeShapes Go.WideShapes Go.Deep Go.RowKit

theorem choose_list {α : Type} {p : Nat -> α -> Prop} : ∀ (n : Nat), (∀ i, i < n -> ∃ x, p i x) -> ∃ l : List α, l.length = n /\ ∀ i (h : i < l.length), p i (l[i]'h)
  | 0, _ => ⟨[], rfl, fun i h => absurd h (by simp)⟩
  | n + 1, h => by
    obtain ⟨l, h1, h2⟩ := choose_list n (fun i hi => h i (by omega))
    obtain ⟨x, hx⟩ := h n (by omega)
    refine ⟨l ++ [x], by simp [h1], fun i hi => ?_⟩
    by_cases e : i < l.length
    · have := h2 i e
      rwa [List.getElem_append_left e]
    · have e2 : i = l.length := by simp at hi; omega
      subst e2
      rw [List.getElem_append_right (Nat.le_refl _)]
      simpa [h1] using hx
theorem addr_plain {w : World} {a : Addr} {v : Value} (h : w.cell? (a.add 0) = some v) : a.spot = none := by
  obtain ⟨b, off, sp⟩ := a
  cases sp with
  | none => rfl
  | some q =>
    simp only [World.cell?, Addr.add, if_true] at h
    split at h
    · simp at h
    · cases h
section
variable {H : Type} {enc : TypeId × Value -> H} {w : World} {base : Nat} {spare : Nat -> Bool} {held : Bool} {fuel : Nat} {u : Value} {x : DataW H × List MemPlace}
theorem nb_attrs {l : List Attr} (h : AttrsAt w u l) : AttIn w.heap.size w u l := by
  refine attIn_of h fun h0 b hb => .inl (h.block ?_ b hb)
  obtain ⟨a, cap, rfl, _⟩ := h; exact h0
theorem nb_strs {l : List ByteArray} (h : StrsAt w u l) : StrIn w.heap.size w u l := by
  refine strIn_of h fun h0 b hb => .inl ?_
  obtain ⟨a, cap, rfl, _, hc⟩ := h
  have h0 : 0 < l.length := h0
  obtain ⟨b', off, rfl, h1, _⟩ := hc 0 h0
  cases hb; exact h1
set_option maxRecDepth 100000 in
theorem open_attrsC (h : DataW.trod enc Tryz.prog w base spare held fuel 38 [u] = some x) : ∃ l, AttrsAt w u l := by
  rcases open_fields Tryz.underlying38 Tryz.underlying45 (by kernel_rfl) (by kernel_rfl) h with h0 | ⟨a, len, cap, m, hcs, hl, hm, hi⟩
  · simp at h0; subst h0; exact ⟨[], AttrsAt.nil _ _ _⟩
  · simp at hcs; subst hcs
    obtain ⟨l, h1, h2⟩ := choose_list (p := fun i (y : Attr) => w.cell? (a.add (i * 2)) = some (.string y.1) /\ w.cell? (a.add (i * 2 + 1)) = some (.string y.2)) len (by
      intro i hil
      obtain ⟨n, hf⟩ := hi i (by omega)
      obtain ⟨v0, y0, hc0, ht0⟩ := hf 0 _ rfl
      obtain ⟨v1, y1, hc1, ht1⟩ := hf 1 _ rfl
      obtain ⟨s0, e0, _⟩ := DataW.trod_string Tryz.underlying9 ht0
      obtain ⟨s1, e1, _⟩ := DataW.trod_string Tryz.underlying9 ht1
      simp only [List.cons.injEq, and_true] at e0 e1
      subst e0 e1
      exact ⟨(s0, s1), hc0, hc1⟩)
    subst h1
    refine ⟨l, some a, cap, rfl, hl, fun k hk => ?_⟩
    have hsp := addr_plain (by simpa using (h2 0 (by omega)).1)
    obtain ⟨b, off, sp⟩ := a
    obtain rfl : sp = none := hsp
    obtain ⟨c1, c2⟩ := h2 k hk
    rw [Addr.add_lit] at c1 c2
    exact ⟨b, off, rfl, World.block_lt_of_cell? _ _ c1, c1, by rw [<- c2, Nat.add_assoc]⟩
end
end Go.Proofs.YtnbkcalodmggaaaGreatDoor
namespace Go.Proofs.YtnbkcalodmggaaaGreatDoor
open Go.ChangeShapes Go.WideShapes Go.Deep Go.RowKit

section
variable {H : Type} {enc : TypeId × Value -> H} {w : World} {base : Nat} {spare : Nat -> Bool} {held : Bool} {fuel : Nat} {u : Value} {x : DataW H × List MemPlace}
theorem open_strsX (h : DataW.trod enc Tryz.prog w base spare held fuel 39 [u] = some x) : ∃ l, StrsAt w u l /\ ∀ s ∈ l, s.size <= longest := by
  rcases open_slice1 Tryz.underlying39 (by kernel_rfl) h with h0 | ⟨a, len, cap, m, n, V, D, Pl, hcs, _, hl, _, hm, _, hi⟩
  · simp at h0; obtain ⟨rfl, _⟩ := h0; exact ⟨[], ⟨none, 0, rfl, Nat.le_refl _, fun k hk => absurd hk (by simp)⟩, fun s hs => by cases hs⟩
  · simp at hcs; subst hcs
    have hlm : len <= m := by rw [hm]; split <;> omega
    obtain ⟨l, h1, h2⟩ := choose_list (p := fun i (y : ByteArray) => w.cell? (a.add i) = some (.string y) /\ y.size <= longest) len (by
      intro i hil
      obtain ⟨hc, ht⟩ := hi i (by omega)
      obtain ⟨s0, e0, _, hs0⟩ := DataW.trod_string Tryz.underlying9 ht
      simp only [List.cons.injEq, and_true] at e0
      exact ⟨s0, by rw [hc, e0], hs0⟩)
    subst h1
    refine ⟨l, ⟨some a, cap, rfl, hl, fun k hk => ?_⟩, fun s hs => ?_⟩
    · have hsp := addr_plain (h2 0 (by omega)).1
      obtain ⟨b, off, sp⟩ := a
      obtain rfl : sp = none := hsp
      have c1 := (h2 k hk).1
      rw [Addr.add_lit] at c1
      exact ⟨b, off, rfl, World.block_lt_of_cell? _ _ c1, c1⟩
    · obtain ⟨j, hj, rfl⟩ := List.getElem_of_mem hs
      exact (h2 j hj).2
theorem list12 {α : Type} {l : List α} (h : l.length = 12) : ∃ a b c d e f g h i j k m, l = [a, b, c, d, e, f, g, h, i, j, k, m] := by
  match l, h with
  | [a, b, c, d, e, f, g, h, i, j, k, m], _ => exact ⟨a, b, c, d, e, f, g, h, i, j, k, m, rfl⟩
end
end Go.Proofs.YtnbkcalodmggaaaGreatDoor
namespace Go.Proofs.YtnbkcalodmggaaaGreatDoor
open Go.ChangeShapes Go.WideShapes Go.Deep Go.RowKit

theorem wf_i64 {n : Int} (h : (Lit.int .i64 n).wf = true) : n <= 9223372036854775807 := by
  have h2 : (decide (IntKind.i64.min <= n) && decide (n <= IntKind.i64.max)) = true := h
  simp only [Bool.and_eq_true, decide_eq_true_eq] at h2
  exact Int.le_trans h2.2 (by decide)
section
variable {H : Type} {enc : TypeId × Value -> H} {w : World} {base : Nat} {spare : Nat -> Bool} {held : Bool} {fuel : Nat} {u : Value} {x : DataW H × List MemPlace}
set_option maxRecDepth 100000 in
theorem open_entsX (h : DataW.trod enc Tryz.prog w base spare held fuel 53 [u] = some x) : ∃ l, EnIn w.heap.size w u l /\ ∀ x ∈ l, x.ns <= 9223372036854775807 := by
  have hC : Tryz.prog.cellsOf 98 = 12 := by kernel_rfl
  have hC1 : Tryz.prog.cellsOf 9 = 1 := by kernel_rfl
  have hC2 : Tryz.prog.cellsOf 3 = 1 := by kernel_rfl
  have hC3 : Tryz.prog.cellsOf 4 = 1 := by kernel_rfl
  have hC4 : Tryz.prog.cellsOf 38 = 1 := by kernel_rfl
  have hC8 : Tryz.prog.cellsOf 43 = 8 := by kernel_rfl
  rcases open_slice Tryz.underlying53 h with h0 | ⟨a, len, cap, m, n, D, Pl, hcs, hb, hl, hm, hmm, hx, hi⟩
  · have h0 := h0.1; simp at h0; subst h0; exact ⟨[], ListIn.nil _ _ _ _, fun x hx => by cases hx⟩
  · simp at hcs; subst hcs
    have hlm : len <= m := by rw [hmm]; split <;> omega
    obtain ⟨l, h1, h2⟩ := choose_list (p := fun i (y : DeN × Value) => (AttIn w.heap.size w y.2 y.1.nd.ats /\ y.1.ns <= 9223372036854775807) /\ ∀ j c, (deC y.1 y.2)[j]? = some c -> w.cell? (a.add (i * 12 + j)) = some c) len (by
      intro i hil
      obtain ⟨cs', hc, ht'⟩ := hi i (by omega)
      rw [hC] at hc
      obtain ⟨ys, n', _, _, hcl', hyl, hf⟩ := DataW.trod_struct Tryz.underlying98 ht'
      obtain ⟨_, hcl, hat⟩ := World.cells?_some hc
      obtain ⟨k0, k1, k2, k3, k4, k5, k6, k7, k8, k9, k10, k11, rfl⟩ := list12 (hcl'.trans hC)
      have g : ∀ j, j < ys.length -> ∃ y, ys[j]? = some y := fun j hj => ⟨_, List.getElem?_eq_getElem hj⟩
      have f0 : DataW.trod enc Tryz.prog w base spare held n' 9 (List.take (Tryz.prog.cellsOf 9) [k0, k1, k2, k3, k4, k5, k6, k7, k8, k9, k10, k11]) = ys[0]? := hf 0 _ rfl
      have f1 : DataW.trod enc Tryz.prog w base spare held n' 43 (List.take (Tryz.prog.cellsOf 43) [k1, k2, k3, k4, k5, k6, k7, k8, k9, k10, k11]) = ys[1]? := hf 1 _ rfl
      have f2 : DataW.trod enc Tryz.prog w base spare held n' 4 (List.take (Tryz.prog.cellsOf 4) [k9, k10, k11]) = ys[2]? := hf 2 _ rfl
      have f3 : DataW.trod enc Tryz.prog w base spare held n' 4 (List.take (Tryz.prog.cellsOf 4) [k10, k11]) = ys[3]? := hf 3 _ rfl
      have f4 : DataW.trod enc Tryz.prog w base spare held n' 3 (List.take (Tryz.prog.cellsOf 3) [k11]) = ys[4]? := hf 4 _ rfl
      rw [hC1] at f0; rw [hC8] at f1; rw [hC3] at f2 f3; rw [hC2] at f4
      have hyl : ys.length = 5 := hyl
      obtain ⟨y0, e0⟩ := g 0 (by omega); obtain ⟨y1, e1⟩ := g 1 (by omega); obtain ⟨y2, e2⟩ := g 2 (by omega); obtain ⟨y3, e3⟩ := g 3 (by omega); obtain ⟨y4, e4⟩ := g 4 (by omega)
      rw [e0] at f0; rw [e1] at f1; rw [e2] at f2; rw [e3] at f3; rw [e4] at f4
      obtain ⟨s0, e0, _⟩ := DataW.trod_string Tryz.underlying9 f0
      obtain ⟨s9, e9, _⟩ := DataW.trod_bool Tryz.underlying4 f2
      obtain ⟨s10, e10, _⟩ := DataW.trod_bool Tryz.underlying4 f3
      obtain ⟨s11, e11, _, hw11⟩ := DataW.trod_int Tryz.underlying3 f4
      obtain ⟨zs, n'', _, _, _, hzl, hz⟩ := DataW.trod_struct Tryz.underlying43 f1
      have g' : ∀ j, j < zs.length -> ∃ y, zs[j]? = some y := fun j hj => ⟨_, List.getElem?_eq_getElem hj⟩
      have hzl : zs.length = 8 := hzl
      have d0 : DataW.trod enc Tryz.prog w base spare held n'' 3 (List.take (Tryz.prog.cellsOf 3) [k1, k2, k3, k4, k5, k6, k7, k8]) = zs[0]? := hz 0 _ rfl
      have d1 : DataW.trod enc Tryz.prog w base spare held n'' 9 (List.take (Tryz.prog.cellsOf 9) [k2, k3, k4, k5, k6, k7, k8]) = zs[1]? := hz 1 _ rfl
      have d2 : DataW.trod enc Tryz.prog w base spare held n'' 3 (List.take (Tryz.prog.cellsOf 3) [k3, k4, k5, k6, k7, k8]) = zs[2]? := hz 2 _ rfl
      have d3 : DataW.trod enc Tryz.prog w base spare held n'' 38 (List.take (Tryz.prog.cellsOf 38) [k4, k5, k6, k7, k8]) = zs[3]? := hz 3 _ rfl
      have d4 : DataW.trod enc Tryz.prog w base spare held n'' 9 (List.take (Tryz.prog.cellsOf 9) [k5, k6, k7, k8]) = zs[4]? := hz 4 _ rfl
      have d5 : DataW.trod enc Tryz.prog w base spare held n'' 3 (List.take (Tryz.prog.cellsOf 3) [k6, k7, k8]) = zs[5]? := hz 5 _ rfl
      have d6 : DataW.trod enc Tryz.prog w base spare held n'' 3 (List.take (Tryz.prog.cellsOf 3) [k7, k8]) = zs[6]? := hz 6 _ rfl
      have d7 : DataW.trod enc Tryz.prog w base spare held n'' 3 (List.take (Tryz.prog.cellsOf 3) [k8]) = zs[7]? := hz 7 _ rfl
      rw [hC2] at d0 d2 d5 d6 d7; rw [hC1] at d1 d4; rw [hC4] at d3
      obtain ⟨q0, w0⟩ := g' 0 (by omega); obtain ⟨q1, w1⟩ := g' 1 (by omega); obtain ⟨q2, w2⟩ := g' 2 (by omega); obtain ⟨q3, w3⟩ := g' 3 (by omega); obtain ⟨q4, w4⟩ := g' 4 (by omega); obtain ⟨q5, w5⟩ := g' 5 (by omega); obtain ⟨q6, w6⟩ := g' 6 (by omega); obtain ⟨q7, w7⟩ := g' 7 (by omega)
      rw [w0] at d0; rw [w1] at d1; rw [w2] at d2; rw [w3] at d3; rw [w4] at d4; rw [w5] at d5; rw [w6] at d6; rw [w7] at d7
      obtain ⟨s1, e1, _⟩ := DataW.trod_int Tryz.underlying3 d0
      obtain ⟨s2, e2, _⟩ := DataW.trod_string Tryz.underlying9 d1
      obtain ⟨s3, e3, _⟩ := DataW.trod_int Tryz.underlying3 d2
      obtain ⟨s4, e4⟩ := open_attrsC d3
      obtain ⟨s5, e5, _⟩ := DataW.trod_string Tryz.underlying9 d4
      obtain ⟨s6, e6, _⟩ := DataW.trod_int Tryz.underlying3 d5
      obtain ⟨s7, e7, _⟩ := DataW.trod_int Tryz.underlying3 d6
      obtain ⟨s8, e8, _⟩ := DataW.trod_int Tryz.underlying3 d7
      simp only [List.take_succ_cons, List.take_zero, List.cons.injEq, and_true] at e0 e1 e2 e3 e5 e6 e7 e8 e9 e10 e11
      subst e0 e1 e2 e3 e5 e6 e7 e8 e9 e10 e11
      refine ⟨(⟨s0, ⟨s1, s2, s3, s4, s5, s6, s7, s8⟩, s9, s10, s11⟩, k4), ⟨nb_attrs e4, wf_i64 hw11⟩, fun j c hj => ?_⟩
      have hjl := (List.getElem?_eq_some_iff.1 hj).1
      have hjl : j < 12 := hjl
      have := hat j hjl
      rw [Go.Deep.add_add] at this
      rw [this]; exact hj)
    subst h1
    have hsp : 0 < l.length -> a.spot = none := fun h0 => addr_plain (by simpa using (h2 0 h0).2 0 _ rfl)
    have hlm' : l.length = (l.map Prod.fst).length := by simp
    refine ⟨l.map Prod.fst, ⟨some a, cap, by rw [hlm'], by rw [<- hlm']; exact hl, fun h0 b hb => .inl ?_, fun k hk => ?_⟩, fun x hx => ?_⟩
    · have h0 : 0 < l.length := h0
      have hc := (h2 0 h0).2 0 _ rfl
      have hs := hsp h0
      obtain ⟨b', off, sp⟩ := a
      obtain rfl : sp = none := hs
      cases hb
      rw [Addr.add_lit] at hc
      exact World.block_lt_of_cell? _ _ hc
    · have hk' : k < l.length := by rw [hlm']; exact hk
      have hs := hsp (by omega)
      obtain ⟨b, off, sp⟩ := a
      obtain rfl : sp = none := hs
      obtain ⟨h3, h4⟩ := h2 k hk'
      have hc := h4 0 _ rfl
      rw [Addr.add_lit] at hc
      refine ⟨b, off, deC (l[k]'hk').1 (l[k]'hk').2, rfl, World.block_lt_of_cell? _ _ hc, ⟨_, by rw [List.getElem_map]; exact h3.1, by rw [List.getElem_map]⟩, fun j c hj => ?_⟩
      have := h4 j c hj
      rw [Addr.add_lit] at this
      rw [<- this, Nat.add_assoc]; rfl
    · obtain ⟨y, hy, rfl⟩ := List.mem_map.1 hx
      obtain ⟨k, hk, rfl⟩ := List.getElem_of_mem hy
      exact (h2 k hk).1.2
end
set_option maxRecDepth 100000 in
theorem open_dirX {H : Type} {enc : TypeId × Value -> H} {w : World} {base : Nat} {spare : Nat -> Bool} {held : Bool} {v : Value} {d : DataW H} {p : List MemPlace}
    (hval : Value.okWide Tryz.prog w .any base 55 v) (h : DataW.Trod enc Tryz.prog w 0 spare held 55 v d p) : ∃ x, DirIn w.heap.size w v x /\ (∀ s ∈ x.red, s.size <= longest) /\ ∀ y ∈ x.ens, y.ns <= 9223372036854775807 := by
  obtain ⟨v0, v1, v2, v3, y0, y1, y2, y3, n, rfl, _, _, t0, t1, t2, t3⟩ := Go.Joins.open_agg4 Tryz.underlying55 (by kernel_rfl) (by kernel_rfl) hval h
  obtain ⟨s0, e0⟩ := open_attrsC t0
  obtain ⟨s1, e1, _⟩ := DataW.trod_bool Tryz.underlying4 t1
  obtain ⟨s2, e2, hs2⟩ := open_strsX t2
  obtain ⟨s3, e3, hn3⟩ := open_entsX t3
  simp only [List.cons.injEq, and_true] at e1
  subst e1
  exact ⟨⟨s0, s1, s2, s3⟩, ⟨_, _, _, rfl, nb_attrs e0, nb_strs e2, e3⟩, hs2, hn3⟩
end Go.Proofs.YtnbkcalodmggaaaGreatDoor
namespace Go.Proofs.YtnbkcalodmggaaaGreatDoor
open Go.RowKit

set_option maxRecDepth 100000 in
set_option maxHeartbeats 8000000 in
theorem orEntry (B : Nat) (x : DeN) (va : Value) (w : World) (hv : AttIn B w va x.nd.ats) (hm : Small x.nd.ats) (hn : x.ns <= 9223372036854775807) (hB : B <= w.heap.size) :
    Calls Tryz.prog 115 #[.agg (deC x va).toArray] w (EntryP B w (weX x).nd (weE x)) := by
  have HA := hQq hv; have HM := hQq hm; have HN := hQq hn
  obtain ⟨a3, cap3, rfl⟩ := hv.form
  clear hv hm hn
  unfold deC
  cases hw : x.wh
  case true =>
    have HWE := hQq (we_white hw)
    clear hw
    go_enter Tryz.func115, Tryz.ntmps115
    go_wp2_with fail
    refine nW (P := fun W => bodyPost _ _ _ _ _ W) _ ?_
    intro W2 hW2
    have hW3 : W2 = (w.alloc (.cells #[.string x.nm, .int .i64 x.nd.dep, .string x.nd.nm, .int .i64 x.nd.kd, .slice a3 x.nd.ats.length cap3, .string x.nd.dat, .int .i64 x.nd.ma, .int .i64 x.nd.mi, .int .i64 x.nd.cl, .bool true, .bool x.fi, .int .i64 x.ns] 98 (0, 0))).alloc (.cells #[.int .i64 0, .string ⟨#[]⟩, .int .i64 4, .slice none 0 0, .string ⟨#[]⟩, .int .i64 0, .int .i64 0, .int .i64 0] 43 (0, 0)) := hW2
    have hq : W2.heap[w.heap.size + 1]? = some (.cells #[.int .i64 0, .string ⟨#[]⟩, .int .i64 4, .slice none 0 0, .string ⟨#[]⟩, .int .i64 0, .int .i64 0, .int .i64 0] 43 (0, 0)) := by rw [hW3]; exact blk_at (by simp)
    have hx : Ext w W2 := by rw [hW3]; exact (eA _ _).trans (eA _ _)
    refine bodyPost_ret (v := .tuple #[.agg #[.int .i64 0, .string ⟨#[]⟩, .int .i64 4, .slice none 0 0, .string ⟨#[]⟩, .int .i64 0, .int .i64 0, .int .i64 0], .int .i64 0]) (by simp [results, Tryz.f115, go_sem, bC hq 0, bC hq 1, bC hq 2, bC hq 3, bC hq 4, bC hq 5, bC hq 6, bC hq 7]) rfl ?_
    exact ⟨⟨kdN 4, none, 0, 0, by rw [HWE.out.1]; rfl, fun _ => by rw [HWE.out.2]; exact ⟨rfl, rfl, attIn_nil _ _ _⟩⟩, hx⟩
  case false =>
  have HWH := hQq hw
  clear hw
  cases hz : zeroB x.nd
  case true =>
    have HZ := hQq hz
    have HWE := hQq (we_dev HWH.out hz)
    clear hz
    go_enter Tryz.func115, Tryz.ntmps115
    go_wp2_with (go_at_call 171; refine (orZero x.nd _ ⟨_, _, _, rfl⟩ _).mono ?_; rintro e w3 ⟨rfl, hb3⟩; rw [HZ.out]; have QX := hQq (bX hb3 (bA (bN w (.cells #[.string x.nm, .int .i64 x.nd.dep, .string x.nd.nm, .int .i64 x.nd.kd, .slice a3 x.nd.ats.length cap3, .string x.nd.dat, .int .i64 x.nd.ma, .int .i64 x.nd.mi, .int .i64 x.nd.cl, .bool false, .bool x.fi, .int .i64 x.ns] 98 (0, 0))))); have QN := hQq (bX hb3 (blk_at (w := w.alloc (.cells #[.string x.nm, .int .i64 x.nd.dep, .string x.nd.nm, .int .i64 x.nd.kd, .slice a3 x.nd.ats.length cap3, .string x.nd.dat, .int .i64 x.nd.ma, .int .i64 x.nd.mi, .int .i64 x.nd.cl, .bool false, .bool x.fi, .int .i64 x.ns] 98 (0, 0))) (o := .cells #[.int .i64 0, .string ⟨#[]⟩, .int .i64 0, .slice none 0 0, .string ⟨#[]⟩, .int .i64 0, .int .i64 0, .int .i64 0] 43 (0, 0)) (n := w.heap.size + 1) (by simp))); have HB3 := hQq (((eA _ _).trans (eA _ _)).trans hb3); clear hb3; have c0 := bC QX.out 0; have c1 := bC QX.out 1; have c2 := bC QX.out 2; have c3 := bC QX.out 3; have c4 := bC QX.out 4; have c5 := bC QX.out 5; have c6 := bC QX.out 6; have c7 := bC QX.out 7; have c8 := bC QX.out 8; have c9 := bC QX.out 9; have c10 := bC QX.out 10; have c11 := bC QX.out 11; have d0 := bC QN.out 0; have d1 := bC QN.out 1; have d2 := bC QN.out 2; have d3 := bC QN.out 3; have d4 := bC QN.out 4; have d5 := bC QN.out 5; have d6 := bC QN.out 6; have d7 := bC QN.out 7; have fz := fun j => bT QN.out j; have fx := fun j => bT QX.out j; have z1 := blk_lt QX.out; have z2 := blk_lt QN.out)
    refine nW (P := fun W => bodyPost _ _ _ _ _ W) _ ?_
    intro W2 hW2
    have hW3 : W2 = setL w3 (w.heap.size + 1) 0 [.int .i64 x.nd.dep, .string x.nd.nm, .int .i64 x.nd.kd, .slice a3 x.nd.ats.length cap3, .string x.nd.dat, .int .i64 x.nd.ma, .int .i64 x.nd.mi, .int .i64 x.nd.cl] := hW2
    obtain ⟨hq, hx, hc⟩ := put8 (w := w) QN.out (by omega) HB3.out hW3
    refine bodyPost_ret (v := .tuple #[.agg #[.int .i64 x.nd.dep, .string x.nd.nm, .int .i64 x.nd.kd, .slice a3 x.nd.ats.length cap3, .string x.nd.dat, .int .i64 x.nd.ma, .int .i64 x.nd.mi, .int .i64 x.nd.cl], .int .i64 (16)]) (by simp [results, Tryz.f115, go_sem, bC hq 0, bC hq 1, bC hq 2, bC hq 3, bC hq 4, bC hq 5, bC hq 6, bC hq 7]) rfl ?_
    exact ⟨⟨x.nd, _, _, _, by rw [HWE.out], fun h => by rw [HWE.out] at h; cases h⟩, hx⟩
  case false =>
  have HZ := hQq hz
  clear hz
  cases hf : x.fi
  case false =>
    have HWE := hQq (we_rest HWH.out HZ.out hf)
    clear hf
    go_enter Tryz.func115, Tryz.ntmps115
    go_wp2_with (go_at_call 171; refine (orZero x.nd _ ⟨_, _, _, rfl⟩ _).mono ?_; rintro e w3 ⟨rfl, hb3⟩; rw [HZ.out]; have QX := hQq (bX hb3 (bA (bN w (.cells #[.string x.nm, .int .i64 x.nd.dep, .string x.nd.nm, .int .i64 x.nd.kd, .slice a3 x.nd.ats.length cap3, .string x.nd.dat, .int .i64 x.nd.ma, .int .i64 x.nd.mi, .int .i64 x.nd.cl, .bool false, .bool false, .int .i64 x.ns] 98 (0, 0))))); have QN := hQq (bX hb3 (blk_at (w := w.alloc (.cells #[.string x.nm, .int .i64 x.nd.dep, .string x.nd.nm, .int .i64 x.nd.kd, .slice a3 x.nd.ats.length cap3, .string x.nd.dat, .int .i64 x.nd.ma, .int .i64 x.nd.mi, .int .i64 x.nd.cl, .bool false, .bool false, .int .i64 x.ns] 98 (0, 0))) (o := .cells #[.int .i64 0, .string ⟨#[]⟩, .int .i64 0, .slice none 0 0, .string ⟨#[]⟩, .int .i64 0, .int .i64 0, .int .i64 0] 43 (0, 0)) (n := w.heap.size + 1) (by simp))); have HB3 := hQq (((eA _ _).trans (eA _ _)).trans hb3); clear hb3; have c0 := bC QX.out 0; have c1 := bC QX.out 1; have c2 := bC QX.out 2; have c3 := bC QX.out 3; have c4 := bC QX.out 4; have c5 := bC QX.out 5; have c6 := bC QX.out 6; have c7 := bC QX.out 7; have c8 := bC QX.out 8; have c9 := bC QX.out 9; have c10 := bC QX.out 10; have c11 := bC QX.out 11; have d0 := bC QN.out 0; have d1 := bC QN.out 1; have d2 := bC QN.out 2; have d3 := bC QN.out 3; have d4 := bC QN.out 4; have d5 := bC QN.out 5; have d6 := bC QN.out 6; have d7 := bC QN.out 7; have fz := fun j => bT QN.out j; have fx := fun j => bT QX.out j; have z1 := blk_lt QX.out; have z2 := blk_lt QN.out)
    refine nW (P := fun W => bodyPost _ _ _ _ _ W) _ ?_
    intro W2 hW2
    have hW3 : W2 = setL w3 (w.heap.size + 1) 0 [.int .i64 x.nd.dep, .string x.nd.nm, .int .i64 x.nd.kd, .slice a3 x.nd.ats.length cap3, .string x.nd.dat, .int .i64 x.nd.ma, .int .i64 x.nd.mi, .int .i64 x.nd.cl] := hW2
    obtain ⟨hq, hx, hc⟩ := put8 (w := w) QN.out (by omega) HB3.out hW3
    refine bodyPost_ret (v := .tuple #[.agg #[.int .i64 x.nd.dep, .string x.nd.nm, .int .i64 x.nd.kd, .slice a3 x.nd.ats.length cap3, .string x.nd.dat, .int .i64 x.nd.ma, .int .i64 x.nd.mi, .int .i64 x.nd.cl], .int .i64 (0)]) (by simp [results, Tryz.f115, go_sem, bC hq 0, bC hq 1, bC hq 2, bC hq 3, bC hq 4, bC hq 5, bC hq 6, bC hq 7]) rfl ?_
    exact ⟨⟨x.nd, _, _, _, by rw [HWE.out.1], fun _ => by rw [HWE.out.2]; exact ⟨rfl, rfl, ((HA.out.ext okA HB3.out).chg okA (chgB (by omega) hc QN.out) (by decide) (by decide))⟩⟩, hx⟩
  case true =>
  have HWE := hQq (we_first HWH.out HZ.out hf)
  clear hf
  go_enter Tryz.func115, Tryz.ntmps115
  go_wp2_with (first
    | (go_at_call 171; refine (orZero x.nd _ ⟨_, _, _, rfl⟩ _).mono ?_; rintro e w3 ⟨rfl, hb3⟩; rw [HZ.out]; have QX := hQq (bX hb3 (bA (bN w (.cells #[.string x.nm, .int .i64 x.nd.dep, .string x.nd.nm, .int .i64 x.nd.kd, .slice a3 x.nd.ats.length cap3, .string x.nd.dat, .int .i64 x.nd.ma, .int .i64 x.nd.mi, .int .i64 x.nd.cl, .bool false, .bool true, .int .i64 x.ns] 98 (0, 0))))); have QN := hQq (bX hb3 (blk_at (w := w.alloc (.cells #[.string x.nm, .int .i64 x.nd.dep, .string x.nd.nm, .int .i64 x.nd.kd, .slice a3 x.nd.ats.length cap3, .string x.nd.dat, .int .i64 x.nd.ma, .int .i64 x.nd.mi, .int .i64 x.nd.cl, .bool false, .bool true, .int .i64 x.ns] 98 (0, 0))) (o := .cells #[.int .i64 0, .string ⟨#[]⟩, .int .i64 0, .slice none 0 0, .string ⟨#[]⟩, .int .i64 0, .int .i64 0, .int .i64 0] 43 (0, 0)) (n := w.heap.size + 1) (by simp))); have HB3 := hQq (((eA _ _).trans (eA _ _)).trans hb3); clear hb3; have c0 := bC QX.out 0; have c1 := bC QX.out 1; have c2 := bC QX.out 2; have c3 := bC QX.out 3; have c4 := bC QX.out 4; have c5 := bC QX.out 5; have c6 := bC QX.out 6; have c7 := bC QX.out 7; have c8 := bC QX.out 8; have c9 := bC QX.out 9; have c10 := bC QX.out 10; have c11 := bC QX.out 11; have d0 := bC QN.out 0; have d1 := bC QN.out 1; have d2 := bC QN.out 2; have d3 := bC QN.out 3; have d4 := bC QN.out 4; have d5 := bC QN.out 5; have d6 := bC QN.out 6; have d7 := bC QN.out 7; have fz := fun j => bT QN.out j; have fx := fun j => bT QX.out j; have z1 := blk_lt QX.out; have z2 := blk_lt QN.out)
    | (go_at_call 114; refine (refOvWriteX _ x.nd.ats (optS false) (redS []) x.ns _ ((HA.out.ext okA HB3.out).attrs) HM.out HN.out (optS_size _) (redS_size _)).mono ?_; rintro e w4 ⟨⟨v4, rfl, hv4⟩, hb4⟩; obtain ⟨a4, c4', rfl, -, -⟩ := hv4.1; clear c0 c1 c2 c3 c4 c5 c6 c7 c8 c9 c10 c11 d0 d1 d2 d3 d4 d5 d6 d7 fz fx z1 z2; have QX4 := hQq (bX hb4 QX.out); have QN4 := hQq (bX hb4 QN.out); have HV4 : Hid (AttT w4 (.slice a4 (mwL 1 x.nd.ats (ovM false [] x.ns)).length c4') (mwL 1 x.nd.ats (ovM false [] x.ns))) := hQq hv4; have HB4 := hQq (HB3.out.trans hb4); clear hb4 hv4; have c0 := bC QX4.out 0; have c1 := bC QX4.out 1; have c2 := bC QX4.out 2; have c3 := bC QX4.out 3; have c4 := bC QX4.out 4; have c5 := bC QX4.out 5; have c6 := bC QX4.out 6; have c7 := bC QX4.out 7; have c8 := bC QX4.out 8; have c9 := bC QX4.out 9; have c10 := bC QX4.out 10; have c11 := bC QX4.out 11; have d0 := bC QN4.out 0; have d1 := bC QN4.out 1; have d2 := bC QN4.out 2; have d3 := bC QN4.out 3; have d4 := bC QN4.out 4; have d5 := bC QN4.out 5; have d6 := bC QN4.out 6; have d7 := bC QN4.out 7; have fz := fun j => bT QN4.out j; have fx := fun j => bT QX4.out j; have z1 := blk_lt QX4.out; have z2 := blk_lt QN4.out)
    | fail)
  refine nW (P := fun W => bodyPost _ _ _ _ _ W) _ ?_
  intro W2 hW2
  have hW3 : W2 = setL (w4.setCell ⟨w.heap.size, 4, none⟩ (.slice a4 (mwL 1 x.nd.ats (ovM false [] x.ns)).length c4')) (w.heap.size + 1) 0 [.int .i64 x.nd.dep, .string x.nd.nm, .int .i64 x.nd.kd, .slice a4 (mwL 1 x.nd.ats (ovM false [] x.ns)).length c4', .string x.nd.dat, .int .i64 x.nd.ma, .int .i64 x.nd.mi, .int .i64 x.nd.cl] := hW2
  have HC9 : Hid (Chg B 98 (some w.heap.size) w4 (w4.setCell ⟨w.heap.size, 4, none⟩ (.slice a4 (mwL 1 x.nd.ats (ovM false [] x.ns)).length c4'))) := hQq (cellChg QX4.out hB)
  have HS9 : Hid (Ext w (w4.setCell ⟨w.heap.size, 4, none⟩ (.slice a4 (mwL 1 x.nd.ats (ovM false [] x.ns)).length c4'))) := hQq (Below.setCell (p := ⟨w.heap.size, 4, none⟩) HB4.out (Nat.le_refl _) _)
  have hn9 := bSn QN4.out ⟨w.heap.size, 4, none⟩ (.slice a4 (mwL 1 x.nd.ats (ovM false [] x.ns)).length c4') (by show w.heap.size + 1 ≠ w.heap.size; omega)
  obtain ⟨hq, hx, hc⟩ := put8 (w := w) hn9 (by omega) HS9.out hW3
  refine bodyPost_ret (v := .tuple #[.agg #[.int .i64 x.nd.dep, .string x.nd.nm, .int .i64 x.nd.kd, .slice a4 (mwL 1 x.nd.ats (ovM false [] x.ns)).length c4', .string x.nd.dat, .int .i64 x.nd.ma, .int .i64 x.nd.mi, .int .i64 x.nd.cl], .int .i64 (mwE 1 x.nd.ats (ovM false [] x.ns))]) (by simp [results, Tryz.f115, go_sem, bC hq 0, bC hq 1, bC hq 2, bC hq 3, bC hq 4, bC hq 5, bC hq 6, bC hq 7]; try rfl) rfl ?_
  exact ⟨⟨{ x.nd with ats := mwL 1 x.nd.ats (ovM false [] x.ns) }, _, _, _, by rw [HWE.out.1], fun _ => by rw [HWE.out.2]; exact ⟨rfl, rfl, ((attT_in HV4.out).chg okA HC9.out (by decide) (by decide)).chg okA (chgB (by omega) hc hn9) (by decide) (by decide)⟩⟩, hx⟩
set_option maxRecDepth 100000 in
set_option maxHeartbeats 16000000 in
theorem refOvEncodeDir (B : Nat) (w : World) (v : Value) (d : DiN) (hd : DirIn B w v d) (hB : B <= w.heap.size) (hsm : SmallD d) (hns : NsOk d) :
    Calls Tryz.prog 41 #[v] w (DirP w.heap.size w (ocD d) (ocN d) (ocE d)) := by
  have HD := hQq hd
  obtain ⟨va, vr, ve, rfl, ha, hr, he⟩ := hd
  have HA := hQq ha; have HR := hQq hr; have HE := hQq he; have HSM := hQq hsm; have HNS := hQq hns
  obtain ⟨a3, cap3, rfl⟩ := ha.form
  obtain ⟨a4, cap4, rfl⟩ := hr.form
  obtain ⟨a5, cap5, rfl⟩ := he.form
  have hlen := hsm.len
  clear ha hr he hsm hns
  by_cases e1 : dirE d = 0
  case neg =>
    have HX := hQq (oc_of (ocT_dir e1))
    have q1 : (dirE d != 0) = true := bne_iff_ne.2 e1
    clear e1
    go_enter Tryz.func41, Tryz.ntmps41
    go_wp2_with (go_at_call 86; refine (refCheckDir B _ _ d (HD.out.ext ((eA _ _).trans (eA _ _))) HSM.out).mono ?_; rintro e w1 ⟨rfl, hb1⟩; have q2 : w1.heap[w.heap.size + 1]? = some (.cells #[.slice none 0 0, .bool false, .slice none 0 0, .slice none 0 0] 55 (0, 0)) := bX hb1 (blk_at (by simp)); have r0 := bC q2 0; have r1 := bC q2 1; have r2 := bC q2 2; have r3 := bC q2 3; have fz : ∀ j, w1.frozen? ⟨w.heap.size + 1, j, none⟩ = false := fun j => bT q2 j; have Q2 := hQq q2; clear q2; have q1 : w1.heap[w.heap.size]? = some (.cells #[.slice a3 d.ats.length cap3, .bool d.opq, .slice a4 d.red.length cap4, .slice a5 d.ens.length cap5] 55 (0, 0)) := bX hb1 (bA (bN w _)); have k0 := bC q1 0; have k1 := bC q1 1; have k2 := bC q1 2; have k3 := bC q1 3; have Q1 := hQq q1; have hz1 := blk_lt q1; have hz2 := blk_lt Q2.out; clear q1; have HB1 := hQq (((eA _ _).trans (eA _ _)).trans hb1); clear hb1)
    refine nW (P := fun W => bodyPost _ _ _ _ _ W) _ ?_
    intro W2 hW2
    obtain ⟨hq, hx, hc⟩ := set4 Q2.out (by omega) HB1.out hW2
    refine bodyPost_ret (v := .tuple #[.agg #[.slice none 0 0, .bool false, .slice none 0 0, .slice none 0 0], .int .i64 (dirN d), .int .i64 (dirE d)]) (by simp [results, Tryz.f41, go_sem, bC hq 0, bC hq 1, bC hq 2, bC hq 3]) rfl ?_
    exact ⟨⟨_, by rw [HX.out.2.1, HX.out.2.2], by rw [HX.out.1]; exact zDir_in _ _⟩, hx⟩
  have q1 : (dirE d != 0) = false := bne_eq_false_iff_eq.2 e1
  have E1 := hQq e1
  have HRS : Hid (0 < d.red.length -> pathE d.red = 0) := hQq (fun _ => (dirE_zero e1).2.2.2.1)
  clear e1
  obtain ⟨oq, hoq⟩ : ∃ oq, d.opq = oq := ⟨_, rfl⟩
  have HOQ := hQq hoq
  clear hoq
  go_enter Tryz.func41, Tryz.ntmps41
  go_upto_if 27 with (first
    | (go_at_call 86; refine (refCheckDir B _ _ d (HD.out.ext ((eA _ _).trans (eA _ _))) HSM.out).mono ?_; rintro e w1 ⟨rfl, hb1⟩; have q2 : w1.heap[w.heap.size + 1]? = some (.cells #[.slice none 0 0, .bool false, .slice none 0 0, .slice none 0 0] 55 (0, 0)) := bX hb1 (blk_at (by simp)); have r0 := bC q2 0; have r1 := bC q2 1; have r2 := bC q2 2; have r3 := bC q2 3; have fz : ∀ j, w1.frozen? ⟨w.heap.size + 1, j, none⟩ = false := fun j => bT q2 j; have Q2 := hQq q2; clear q2; have q1 : w1.heap[w.heap.size]? = some (.cells #[.slice a3 d.ats.length cap3, .bool d.opq, .slice a4 d.red.length cap4, .slice a5 d.ens.length cap5] 55 (0, 0)) := bX hb1 (bA (bN w _)); have k0 := bC q1 0; have k1 := bC q1 1; rw [HOQ.out] at k1; have k2 := bC q1 2; have k3 := bC q1 3; have Q1 := hQq q1; have hz1 := blk_lt q1; have hz2 := blk_lt Q2.out; clear q1; have HB1 := hQq (((eA _ _).trans (eA _ _)).trans hb1); clear hb1)
    | (go_at_call 113; refine (refText _ d.red _ ((HR.out.ext okS HB1.out).strs) HRS.out).mono ?_; rintro e w2 ⟨rfl, rfl⟩)
    | fail)
  have HM1 : Hid (w1.heap.size + 1 = (w1.alloc (.cells #[.string ⟨#[]⟩, .string (redS d.red), .int .i64 0] 130 (0, 0))).heap.size) := hQq (by simp)
  go_cut [27] (fun c wx => ∃ W, W = wx /\ W.heap[w1.heap.size]? = some (.cells #[.string (optS d.opq), .string (redS d.red), .int .i64 0] 130 (0, 0)) /\ Ext w1 W)
  case first =>
    cases oq
    all_goals
      go_wp2_with fail
      go_meet
      exact ⟨_, rfl, by rw [HOQ.out]; exact bN _ _, eA _ _⟩
  case rest =>
  obtain ⟨w2, rfl, hq2, hb2⟩ := hcut
  have QM := hQq hq2; have HB2 := hQq hb2
  clear r0 r1 r2 r3 fz k0 k1 k2 k3 HM1
  have q2 : w2.heap[w.heap.size + 1]? = some (.cells #[.slice none 0 0, .bool false, .slice none 0 0, .slice none 0 0] 55 (0, 0)) := bX hb2 Q2.out; have r0 := bC q2 0; have r1 := bC q2 1; have r2 := bC q2 2; have r3 := bC q2 3; have fz : ∀ j, w2.frozen? ⟨w.heap.size + 1, j, none⟩ = false := fun j => bT q2 j; have Q2 := hQq q2; clear q2
  have q1' := bX hb2 Q1.out
  have k0 := bC q1' 0; have k1 := bC q1' 1; have k2 := bC q1' 2; have k3 := bC q1' 3
  have S1 := hQq q1'
  have m0 := bC hq2 0; have m1 := bC hq2 1; have m2 := bC hq2 2
  clear q1' hq2 hb2
  by_cases e3 : mwE 1 d.ats (ovM d.opq d.red 1) = 0
  case neg =>
    have HX := hQq (oc_of (ocT_ats E1.out e3))
    have q3 : (mwE 1 d.ats (ovM d.opq d.red 1) != 0) = true := bne_iff_ne.2 e3
    clear e3
    go_wp2_with (go_at_call 114; refine (refOvWriteX _ d.ats (optS d.opq) (redS d.red) 0 _ ((HA.out.ext okA (HB1.out.trans HB2.out)).attrs) HSM.out.ats (by decide) (optS_size _) (redS_size _)).mono ?_; rw [ovM_zero]; rintro e w3 ⟨⟨v3, rfl, hv3⟩, hb3⟩; obtain ⟨a7, cap7, rfl, -, -⟩ := hv3.1; clear r0 r1 r2 r3 fz k0 k1 k2 k3 m0 m1 m2; have q2 : w3.heap[w.heap.size + 1]? = some (.cells #[.slice none 0 0, .bool false, .slice none 0 0, .slice none 0 0] 55 (0, 0)) := bX hb3 Q2.out; have r0 := bC q2 0; have r1 := bC q2 1; have r2 := bC q2 2; have r3 := bC q2 3; have fz : ∀ j, w3.frozen? ⟨w.heap.size + 1, j, none⟩ = false := fun j => bT q2 j; have Q3 := hQq q2; clear q2; have q1z := bX hb3 S1.out; have y0 := bC q1z 0; have y1 := bC q1z 1; have y2 := bC q1z 2; have y3 := bC q1z 3; have R1 := hQq q1z; have hz1 := blk_lt q1z; have HV3 := hQq hv3; have HB3 := hQq (HB1.out.trans (HB2.out.trans hb3)); clear hv3 hb3 q1z)
    refine nW (P := fun W => bodyPost _ _ _ _ _ W) _ ?_
    intro W2 hW2
    obtain ⟨hq, hx, hc⟩ := set4 Q3.out (by omega) HB3.out hW2
    refine bodyPost_ret (v := .tuple #[.agg #[.slice none 0 0, .bool false, .slice none 0 0, .slice none 0 0], .int .i64 (-1), .int .i64 (mwE 1 d.ats (ovM d.opq d.red 1))]) (by simp [results, Tryz.f41, go_sem, bC hq 0, bC hq 1, bC hq 2, bC hq 3]) rfl ?_
    exact ⟨⟨_, by rw [HX.out.2.1, HX.out.2.2], by rw [HX.out.1]; exact zDir_in _ _⟩, hx⟩
  have q3 : (mwE 1 d.ats (ovM d.opq d.red 1) != 0) = false := bne_eq_false_iff_eq.2 e3
  have E3 := hQq e3
  clear e3
  go_wp2_with (go_at_call 114; refine (refOvWriteX _ d.ats (optS d.opq) (redS d.red) 0 _ ((HA.out.ext okA (HB1.out.trans HB2.out)).attrs) HSM.out.ats (by decide) (optS_size _) (redS_size _)).mono ?_; rw [ovM_zero]; rintro e w3 ⟨⟨v3, rfl, hv3⟩, hb3⟩; obtain ⟨a7, cap7, rfl, -, -⟩ := hv3.1; clear r0 r1 r2 r3 fz k0 k1 k2 k3 m0 m1 m2; have q2 : w3.heap[w.heap.size + 1]? = some (.cells #[.slice none 0 0, .bool false, .slice none 0 0, .slice none 0 0] 55 (0, 0)) := bX hb3 Q2.out; have r0 := bC q2 0; have r1 := bC q2 1; have r2 := bC q2 2; have r3 := bC q2 3; have fz : ∀ j, w3.frozen? ⟨w.heap.size + 1, j, none⟩ = false := fun j => bT q2 j; have Q3 := hQq q2; clear q2; have q1z := bX hb3 S1.out; have y0 := bC q1z 0; have y1 := bC q1z 1; have y2 := bC q1z 2; have y3 := bC q1z 3; have R1 := hQq q1z; have hz1 := blk_lt q1z; have HV3 := hQq hv3; have HB3 := hQq (HB1.out.trans (HB2.out.trans hb3)); clear hv3 hb3 q1z)
  have HBO : Hid (w.heap.size + 1 < w3.heap.size) := hQq (blk_lt Q3.out)
  have HCH := hQq (fun x (hx : x ∈ d.ens) => small_chk (ens_chk E1.out hx))
  have HST0 : Hid (ODSt w w3.heap.size #[.slice a3 d.ats.length cap3, .bool d.opq, .slice a4 d.red.length cap4, .slice a5 d.ens.length cap5] (.slice a7 (mwL 1 d.ats (ovM d.opq d.red 1)).length cap7) (mwL 1 d.ats (ovM d.opq d.red 1)) false (.slice none 0 0) [] (.slice none 0 0) [] (w3.alloc (.cells #[.slice a7 (mwL 1 d.ats (ovM d.opq d.red 1)).length cap7, .bool false, .slice none 0 0, .slice none 0 0] 55))) := hQq ⟨bA R1.out, bA Q3.out, bN _ _, OwnL.nil _ _ _, (attT_in HV3.out).ext okA (eA _ _), strIn_nil _ _ _, HB3.out.trans (eA _ _)⟩
  clear r0 r1 r2 r3 fz y0 y1 y2 y3
  go_loopw [6, 10] (fun c i w' => ∃ (wi : World) (k : Nat) (ve : Value), wi = w' /\ k <= d.ens.length /\ c = .int .i64 0 /\ i = .int .i64 k /\ (∀ j, j < k -> weE (getE d.ens j) = 0) /\ ODSt w w3.heap.size #[.slice a3 d.ats.length cap3, .bool d.opq, .slice a4 d.red.length cap4, .slice a5 d.ens.length cap5] (.slice a7 (mwL 1 d.ats (ovM d.opq d.red 1)).length cap7) (mwL 1 d.ats (ovM d.opq d.red 1)) false (.slice none 0 0) [] ve ((d.ens.take k).map weX) wi) (fun _ i _ => d.ens.length - (intOf i).toNat)
  case atStart => exact ⟨_, 0, _, rfl, Nat.zero_le _, by rw [E3.out], rfl, fun j hj => absurd hj (by omega), HST0.out⟩
  case round =>
    clear HST0
    obtain ⟨wi, k, ve, rfl, hk, rfl, rfl, hok, hst⟩ := hrel
    obtain ⟨es, hes⟩ : ∃ es, es = (d.ens.take k).map weX := ⟨_, rfl⟩
    rw [<- hes] at hst
    have HES := hQq hes
    have HOK := hQq hok; have HST := hQq hst
    clear hes
    obtain ⟨a8, cap8, rfl⟩ := hst.own.form
    have k0 := bC HST.out.box 0; have k1 := bC HST.out.box 1; have k2 := bC HST.out.box 2; have k3 := bC HST.out.box 3
    have hb0 := blk_lt HST.out.box
    clear hok hst
    by_cases hlt : k < d.ens.length
    case neg =>
      obtain rfl : k = d.ens.length := by omega
      have HX := hQq (oc_of (ocT_ok E1.out E3.out (by rw [gnT_ok HOK.out])))
      have o0 := bC HST.out.out 0; have o1 := bC HST.out.out 1; have o2 := bC HST.out.out 2; have o3 := bC HST.out.out 3
      have r0 := bC HST.out.res 0; have r1 := bC HST.out.res 1; have r2 := bC HST.out.res 2; have r3 := bC HST.out.res 3
      have fz : ∀ j, wi.frozen? ⟨w.heap.size + 1, j, none⟩ = false := fun j => bT HST.out.res j
      have HTK : Hid (es = d.ens.map weX) := hQq (by rw [HES.out, List.take_length])
      go_wp2
      refine nW (P := fun W => bodyPost _ _ _ _ _ W) _ ?_
      intro W2 hW2
      obtain ⟨hq, hx, hc⟩ := set4 HST.out.res (by omega) HST.out.ext hW2
      refine bodyPost_ret (v := .tuple #[.agg #[.slice a7 (mwL 1 d.ats (ovM d.opq d.red 1)).length cap7, .bool false, .slice none 0 0, .slice a8 es.length cap8], .int .i64 (0), .int .i64 (0)]) (by simp [results, Tryz.f41, go_sem, bC hq 0, bC hq 1, bC hq 2, bC hq 3]) rfl ?_
      exact ⟨⟨_, by rw [HX.out.2.1, HX.out.2.2], by rw [HX.out.1]; exact ⟨_, _, _, rfl, HST.out.ats.chg okA (hcB (Nat.le_refl _) hc HST.out.res) (by decide) (by decide), strIn_nil _ _ _, by have h := (HST.out.own.in okE).chg okE (hcB (Nat.le_refl _) hc HST.out.res) (by decide) (by decide); rw [<- HTK.out]; exact h⟩⟩, hx⟩
    obtain ⟨b, off, va, hex, hbx, hva, c0, c1, c2, c3, c4, c5, c6, c7, c8, c9, c10, c11⟩ := (HE.out.ext okE HST.out.ext).en k hlt
    cases hex
    have HVA := hQq (hva.mono okA hB)
    obtain ⟨a6, cap6, rfl⟩ := hva.form
    have HG := hQq (getE_at d.ens k hlt)
    have HMEM := hQq (List.getElem_mem hlt)
    have HTK := hQq (take_mapX (X := weX) d.ens k hlt)
    rw [<- HES.out] at HTK
    have HSX' := hQq (HCH.out _ (List.getElem_mem hlt)); have HNB' := hQq (HNS.out _ (List.getElem_mem hlt)); have HEN' := hQq (show entX d.opq (lastE d.ens k) (getE d.ens k) = 0 from (dirE_zero E1.out).2.2.2.2.2 k hlt)
    rw [HG.out] at HEN'
    generalize d.ens[k]'hlt = x at c0 c1 c2 c3 c4 c5 c6 c7 c8 c9 c10 c11 HVA HG HMEM HTK HSX' HNB' HEN'
    have HSX := HSX'; have HNB : Hid (x.ns <= 9223372036854775807) := HNB'; have HEN := HEN'
    clear HSX' HNB' HEN'
    have HLN : Hid (es.length <= k) := hQq (by rw [HES.out, List.length_map, List.length_take]; omega)
    have j1 : ((k : Nat) : Int) < (d.ens.length : Int) := by omega
    have j0 : (0 : Int) <= (k : Int) := by omega
    have HNX : Hid (weE x = 0 -> ∀ j, j < k + 1 -> weE (getE d.ens j) = 0) := hQq (fun h j hj => by
      by_cases e : j = k
      · subst e; rw [HG.out]; exact h
      · exact HOK.out j (by omega))
    have HNE : Hid (∀ n, weE x = n -> n ≠ 0 -> gnT (weE) d.ens = ((k : Int), n)) := hQq (fun n hn h => by
      subst hn
      have := gnT_no (E := weE) hlt HOK.out (by rw [HG.out]; exact h)
      rw [HG.out] at this; exact this)
    obtain ⟨y, hy⟩ : ∃ y, y = weX x := ⟨_, rfl⟩
    have HY := hQq hy
    clear hva hy
    by_cases e4 : weE x = 0
    case neg =>
      have HNN := hQq (HNE.out (weE x) rfl e4)
      have HX := hQq (oc_of (ocT_ent E1.out E3.out HNN.out e4))
      have q4 : (weE x != 0) = true := bne_iff_ne.2 e4
      clear e4
      go_upto_region 16 with (go_at_call 115; go_loud (refine (orEntry w.heap.size x _ _ (HVA.out.ext okA (eA _ _)) HSX.out HNB.out (by have := HST.out.ext.size; simp; omega)).mono ?_; rintro e w4 ⟨⟨y4, a11, k11, c11', rfl, hy4⟩, hb4⟩; have q12 := bX hb4 (bN wi (.cells #[.string x.nm, .int .i64 x.nd.dep, .string x.nd.nm, .int .i64 x.nd.kd, .slice a6 x.nd.ats.length cap6, .string x.nd.dat, .int .i64 x.nd.ma, .int .i64 x.nd.mi, .int .i64 x.nd.cl, .bool x.wh, .bool x.fi, .int .i64 x.ns] 98 (0, 0))); have Q12 := hQq q12; have z0 := bC q12 0; have z1 := bC q12 1; have z2 := bC q12 2; have z3 := bC q12 3; have z4 := bC q12 4; have z5 := bC q12 5; have z6 := bC q12 6; have z7 := bC q12 7; have z8 := bC q12 8; have z9 := bC q12 9; have z10 := bC q12 10; have z11 := bC q12 11; have fx : ∀ j, w4.frozen? ⟨wi.heap.size, j, none⟩ = false := fun j => bT q12 j; have hsx := blk_lt q12; have HB4 : Hid (Ext wi w4) := hQq ((eA _ _).trans hb4); have hr2 := bX HB4.out HST.out.res; have r0 := bC hr2 0; have r1 := bC hr2 1; have r2 := bC hr2 2; have r3 := bC hr2 3; have fz : ∀ j, w4.frozen? ⟨w.heap.size + 1, j, none⟩ = false := fun j => bT hr2 j; have hrs := blk_lt HST.out.res; clear q12 hb4 hr2))
      refine nW (P := fun W => Code.wp _ _ _ _ W) _ ?_
      intro W hW
      have hW2 : W = setL w4 wi.heap.size 1 [.int .i64 y4.dep, .string y4.nm, .int .i64 y4.kd, .slice a11 k11 c11', .string y4.dat, .int .i64 y4.ma, .int .i64 y4.mi, .int .i64 y4.cl] := by rw [hW]; simp only [setL, Nat.reduceAdd]
      have HSA : Hid (Ext wi W) := hQq (by rw [hW2]; exact setL_below (Nat.le_refl _) _ _ _ HB4.out)
      clear hW hW2 c0 c1 c2 c3 c4 c5 c6 c7 c8 c9 c10 c11 k0 k1 k2 k3 z0 z1 z2 z3 z4 z5 z6 z7 z8 z9 z10 z11 fx r0 r1 r2 r3 fz
      have hr4 := bX HSA.out HST.out.res
      have r0 := bC hr4 0; have r1 := bC hr4 1; have r2 := bC hr4 2; have r3 := bC hr4 3
      have fz : ∀ j, W.frozen? ⟨w.heap.size + 1, j, none⟩ = false := fun j => bT hr4 j
      have hrs4 := blk_lt hr4
      have Q4 := hQq hr4
      clear hr4
      go_wp2
      refine nW (P := fun W => bodyPost _ _ _ _ _ W) _ ?_
      intro W2 hW2
      obtain ⟨hq, hx, hc⟩ := set4 Q4.out (by omega) (HST.out.ext.trans HSA.out) hW2
      refine bodyPost_ret (v := .tuple #[.agg #[.slice none 0 0, .bool false, .slice none 0 0, .slice none 0 0], .int .i64 k, .int .i64 (weE x)]) (by simp [results, Tryz.f41, go_sem, bC hq 0, bC hq 1, bC hq 2, bC hq 3]) rfl ?_
      exact ⟨⟨_, by rw [HX.out.2.1, HX.out.2.2], by rw [HX.out.1]; exact zDir_in _ _⟩, hx⟩
    have q4 : (weE x != 0) = false := bne_eq_false_iff_eq.2 e4
    have HN := hQq (HNX.out e4)
    have HE4 := hQq e4
    clear e4
    go_upto_region 19 with (go_at_call 115; go_loud (refine (orEntry w.heap.size x _ _ (HVA.out.ext okA (eA _ _)) HSX.out HNB.out (by have := HST.out.ext.size; simp; omega)).mono ?_; rintro e w4 ⟨⟨y4, a11, k11, c11', rfl, hy4⟩, hb4⟩; obtain ⟨rfl, rfl, ha4⟩ := hy4 HE4.out; have HA4 := hQq ha4; rw [HE4.out]; clear ha4; have q12 := bX hb4 (bN wi (.cells #[.string x.nm, .int .i64 x.nd.dep, .string x.nd.nm, .int .i64 x.nd.kd, .slice a6 x.nd.ats.length cap6, .string x.nd.dat, .int .i64 x.nd.ma, .int .i64 x.nd.mi, .int .i64 x.nd.cl, .bool x.wh, .bool x.fi, .int .i64 x.ns] 98 (0, 0))); have Q12 := hQq q12; have z0 := bC q12 0; have z1 := bC q12 1; have z2 := bC q12 2; have z3 := bC q12 3; have z4 := bC q12 4; have z5 := bC q12 5; have z6 := bC q12 6; have z7 := bC q12 7; have z8 := bC q12 8; have z9 := bC q12 9; have z10 := bC q12 10; have z11 := bC q12 11; have fx : ∀ j, w4.frozen? ⟨wi.heap.size, j, none⟩ = false := fun j => bT q12 j; have hsx := blk_lt q12; have HB4 : Hid (Ext wi w4) := hQq ((eA _ _).trans hb4); have hr2 := bX HB4.out HST.out.res; have r0 := bC hr2 0; have r1 := bC hr2 1; have r2 := bC hr2 2; have r3 := bC hr2 3; have fz : ∀ j, w4.frozen? ⟨w.heap.size + 1, j, none⟩ = false := fun j => bT hr2 j; have hrs := blk_lt HST.out.res; clear q12 hb4 hr2))
    refine nW (P := fun W => Code.wp _ _ _ _ W) _ ?_
    intro W hW
    have hW2 : W = (setL w4 wi.heap.size 1 [.int .i64 (weX x).nd.dep, .string (weX x).nd.nm, .int .i64 (weX x).nd.kd, .slice a11 (weX x).nd.ats.length c11', .string (weX x).nd.dat, .int .i64 (weX x).nd.ma, .int .i64 (weX x).nd.mi, .int .i64 (weX x).nd.cl]).setCell ⟨wi.heap.size, 9, none⟩ (.bool false) := by rw [hW]; simp only [setL, Nat.reduceAdd]
    have hq5 := setL_blk [.int .i64 (weX x).nd.dep, .string (weX x).nd.nm, .int .i64 (weX x).nd.kd, .slice a11 (weX x).nd.ats.length c11', .string (weX x).nd.dat, .int .i64 (weX x).nd.ma, .int .i64 (weX x).nd.mi, .int .i64 (weX x).nd.cl] w4 1 _ Q12.out
    have HXW := hQq (show Ext wi W from by rw [hW2]; exact Below.setCell (p := ⟨wi.heap.size, 9, none⟩) (setL_below (Nat.le_refl _) _ _ _ HB4.out) (Nat.le_refl _) _)
    obtain ⟨ay, capy, hqy, hvy⟩ : ∃ ay capy, W.heap[wi.heap.size]? = some (.cells #[.string y.nm, .int .i64 y.nd.dep, .string y.nd.nm, .int .i64 y.nd.kd, .slice ay y.nd.ats.length capy, .string y.nd.dat, .int .i64 y.nd.ma, .int .i64 y.nd.mi, .int .i64 y.nd.cl, .bool y.wh, .bool y.fi, .int .i64 y.ns] 98 (0, 0)) /\ AttIn w.heap.size W (.slice ay y.nd.ats.length capy) y.nd.ats := by
      refine ⟨a11, c11', ?_, ?_⟩
      · have h := bS (o := 9) hq5 (.bool false)
        rw [hW2, HY.out]
        obtain ⟨s1, s2, s3, s4⟩ := we_same x
        rw [s1, s2, s3, s4]
        rw [setC9] at h
        exact h
      · rw [hW2, HY.out]
        exact (HA4.out.chg okA (setL_chgj (by have := HST.out.ext.size; omega) Q12.out _) (by decide) (by decide)).chg okA (cellChg hq5 (by have := HST.out.ext.size; omega)) (by decide) (by decide)
    have HQW := hQq hqy; have HVY := hQq hvy
    clear hW2 hq5 hqy hvy z0 z1 z2 z3 z4 z5 z6 z7 z8 z9 z10 z11 fx r0 r1 r2 r3 fz
    clear hW c0 c1 c2 c3 c4 c5 c6 c7 c8 c9 c10 c11 k0 k1 k2 k3
    have o3 := bC (bX HXW.out HST.out.out) 3
    have z0 := bC HQW.out 0; have z1 := bC HQW.out 1; have z2 := bC HQW.out 2; have z3 := bC HQW.out 3; have z4 := bC HQW.out 4; have z5 := bC HQW.out 5; have z6 := bC HQW.out 6; have z7 := bC HQW.out 7; have z8 := bC HQW.out 8; have z9 := bC HQW.out 9; have z10 := bC HQW.out 10; have z11 := bC HQW.out 11
    go_wp2_with (at_builtin; go_loud (refine appL okE rfl (.tmp 67) (.tmp 69) rfl (.slice a8 es.length cap8) _ es [y] w _ (by rfl) (by rfl) (by exact (HST.out.up HXW.out).own.ext okE (eA _ _)) (by exact listIn_new okE _ y [.string y.nm, .int .i64 y.nd.dep, .string y.nd.nm, .int .i64 y.nd.kd, .slice ay y.nd.ats.length capy, .string y.nd.dat, .int .i64 y.nd.ma, .int .i64 y.nd.mi, .int .i64 y.nd.cl, .bool y.wh, .bool y.fi, .int .i64 y.ns] _ (by first | rfl | simp) ⟨_, HVY.out, rfl⟩) (by exact (HST.out.up HXW.out).ext.trans (eA _ _)) (by exact ((HST.out.up HXW.out).ext.trans (eA _ _)).size) (by have := HLN.out; simp only [List.length_singleton]; omega) ?_; intro v5 w5 hap; have hou := ODSt.app ((HST.out.up HXW.out).up (eA _ _)) hap; have p3 := bC hou 3; have fp : ∀ j, w5.frozen? ⟨w3.heap.size, j, none⟩ = false := fun j => bT hou j; obtain ⟨a10, cap10, rfl⟩ := hap.own.form; rw [len_snoc] at hap; have HAP := hQq hap; clear hap hou))
    go_roundw
    case rel => exact ⟨_, k + 1, _, rfl, by omega, rfl, by go_num, HN.out, by rw [HTK.out, <- HY.out]; exact ((HST.out.up HXW.out).up (eA _ _)).step HAP.out HBO.out⟩
    case measure => first | (simp [intOf]; done) | (simp [intOf]; omega)
end Go.Proofs.YtnbkcalodmggaaaGreatDoor
namespace Go.Proofs.YtnbkcalodmggaaaGreatDoor
open Go.RowKit

set_option maxRecDepth 100000 in
set_option maxHeartbeats 32000000 in
theorem refOvDecodeDir (B : Nat) (w : World) (v : Value) (d : DiN) (hd : DirIn B w v d) (hB : B <= w.heap.size) (hsm : SmallD d) (hns : NsOk d) :
    Calls Tryz.prog 43 #[v] w (DirP w.heap.size w (drD d) (drN d) (drE d)) := by
  have HD := hQq hd
  obtain ⟨va, vr, ve, rfl, ha, hr, he⟩ := hd
  have HA := hQq ha; have HR := hQq hr; have HE := hQq he; have HSM := hQq hsm; have HNS := hQq hns
  obtain ⟨a3, cap3, rfl⟩ := ha.form
  obtain ⟨a4, cap4, rfl⟩ := hr.form
  obtain ⟨a5, cap5, rfl⟩ := he.form
  have hlen := hsm.len
  clear ha hr he hsm hns
  by_cases e1 : dirE d = 0
  case neg =>
    have HX := hQq (dr_of (drT_dir e1))
    have q1 : (dirE d != 0) = true := bne_iff_ne.2 e1
    clear e1
    go_enter Tryz.func43, Tryz.ntmps43
    go_wp2_with (go_at_call 86; refine (refCheckDir B _ _ d (HD.out.ext ((eA _ _).trans (eA _ _))) HSM.out).mono ?_; rintro e w1 ⟨rfl, hb1⟩; have q2 : w1.heap[w.heap.size + 1]? = some (.cells #[.slice none 0 0, .bool false, .slice none 0 0, .slice none 0 0] 55 (0, 0)) := bX hb1 (blk_at (by simp)); have r0 := bC q2 0; have r1 := bC q2 1; have r2 := bC q2 2; have r3 := bC q2 3; have fz : ∀ j, w1.frozen? ⟨w.heap.size + 1, j, none⟩ = false := fun j => bT q2 j; have Q2 := hQq q2; clear q2; have q1 : w1.heap[w.heap.size]? = some (.cells #[.slice a3 d.ats.length cap3, .bool d.opq, .slice a4 d.red.length cap4, .slice a5 d.ens.length cap5] 55 (0, 0)) := bX hb1 (bA (bN w _)); have k0 := bC q1 0; have k1 := bC q1 1; have k2 := bC q1 2; have k3 := bC q1 3; have Q1 := hQq q1; have hz1 := blk_lt q1; have hz2 := blk_lt Q2.out; clear q1; have HB1 := hQq (((eA _ _).trans (eA _ _)).trans hb1); clear hb1)
    refine nW (P := fun W => bodyPost _ _ _ _ _ W) _ ?_
    intro W2 hW2
    obtain ⟨hq, hx, hc⟩ := set4 Q2.out (by omega) HB1.out hW2
    refine bodyPost_ret (v := .tuple #[.agg #[.slice none 0 0, .bool false, .slice none 0 0, .slice none 0 0], .int .i64 (dirN d), .int .i64 (dirE d)]) (by simp [results, Tryz.f43, go_sem, bC hq 0, bC hq 1, bC hq 2, bC hq 3]) rfl ?_
    exact ⟨⟨_, by rw [HX.out.2.1, HX.out.2.2], by rw [HX.out.1]; exact zDir_in _ _⟩, hx⟩
  have q1 : (dirE d != 0) = false := bne_eq_false_iff_eq.2 e1
  have E1 := hQq e1
  clear e1
  by_cases e2 : d.opq = true \/ 0 < d.red.length
  case pos =>
    have HX := hQq (dr_of (drT_mark E1.out e2))
    by_cases e3 : d.opq = true
    case pos =>
      have E5 := hQq e3
      clear e2 e3
      go_enter Tryz.func43, Tryz.ntmps43
      go_wp2_with (go_at_call 86; refine (refCheckDir B _ _ d (HD.out.ext ((eA _ _).trans (eA _ _))) HSM.out).mono ?_; rintro e w1 ⟨rfl, hb1⟩; have q2 : w1.heap[w.heap.size + 1]? = some (.cells #[.slice none 0 0, .bool false, .slice none 0 0, .slice none 0 0] 55 (0, 0)) := bX hb1 (blk_at (by simp)); have r0 := bC q2 0; have r1 := bC q2 1; have r2 := bC q2 2; have r3 := bC q2 3; have fz : ∀ j, w1.frozen? ⟨w.heap.size + 1, j, none⟩ = false := fun j => bT q2 j; have Q2 := hQq q2; clear q2; have q1 : w1.heap[w.heap.size]? = some (.cells #[.slice a3 d.ats.length cap3, .bool d.opq, .slice a4 d.red.length cap4, .slice a5 d.ens.length cap5] 55 (0, 0)) := bX hb1 (bA (bN w _)); have k0 := bC q1 0; have k1 := bC q1 1; rw [E5.out] at k1; have k2 := bC q1 2; have k3 := bC q1 3; have Q1 := hQq q1; have hz1 := blk_lt q1; have hz2 := blk_lt Q2.out; clear q1; have HB1 := hQq (((eA _ _).trans (eA _ _)).trans hb1); clear hb1)
      refine nW (P := fun W => bodyPost _ _ _ _ _ W) _ ?_
      intro W2 hW2
      obtain ⟨hq, hx, hc⟩ := set4 Q2.out (by omega) HB1.out hW2
      refine bodyPost_ret (v := .tuple #[.agg #[.slice none 0 0, .bool false, .slice none 0 0, .slice none 0 0], .int .i64 (-1), .int .i64 (6)]) (by simp [results, Tryz.f43, go_sem, bC hq 0, bC hq 1, bC hq 2, bC hq 3]) rfl ?_
      exact ⟨⟨_, by rw [HX.out.2.1, HX.out.2.2], by rw [HX.out.1]; exact zDir_in _ _⟩, hx⟩
    have e4 : 0 < d.red.length := e2.resolve_left e3
    have e5 : d.opq = false := Bool.eq_false_iff.2 e3
    have q2 := lenP e4
    have q2n : decide (0 < d.red.length) = true := decide_eq_true e4
    have E5 := hQq e5
    clear e2 e3 e5
    go_enter Tryz.func43, Tryz.ntmps43
    go_wp2_with (go_at_call 86; refine (refCheckDir B _ _ d (HD.out.ext ((eA _ _).trans (eA _ _))) HSM.out).mono ?_; rintro e w1 ⟨rfl, hb1⟩; have q2 : w1.heap[w.heap.size + 1]? = some (.cells #[.slice none 0 0, .bool false, .slice none 0 0, .slice none 0 0] 55 (0, 0)) := bX hb1 (blk_at (by simp)); have r0 := bC q2 0; have r1 := bC q2 1; have r2 := bC q2 2; have r3 := bC q2 3; have fz : ∀ j, w1.frozen? ⟨w.heap.size + 1, j, none⟩ = false := fun j => bT q2 j; have Q2 := hQq q2; clear q2; have q1 : w1.heap[w.heap.size]? = some (.cells #[.slice a3 d.ats.length cap3, .bool d.opq, .slice a4 d.red.length cap4, .slice a5 d.ens.length cap5] 55 (0, 0)) := bX hb1 (bA (bN w _)); have k0 := bC q1 0; have k1 := bC q1 1; rw [E5.out] at k1; have k2 := bC q1 2; have k3 := bC q1 3; have Q1 := hQq q1; have hz1 := blk_lt q1; have hz2 := blk_lt Q2.out; clear q1; have HB1 := hQq (((eA _ _).trans (eA _ _)).trans hb1); clear hb1)
    refine nW (P := fun W => bodyPost _ _ _ _ _ W) _ ?_
    intro W2 hW2
    obtain ⟨hq, hx, hc⟩ := set4 Q2.out (by omega) HB1.out hW2
    refine bodyPost_ret (v := .tuple #[.agg #[.slice none 0 0, .bool false, .slice none 0 0, .slice none 0 0], .int .i64 (-1), .int .i64 (6)]) (by simp [results, Tryz.f43, go_sem, bC hq 0, bC hq 1, bC hq 2, bC hq 3]) rfl ?_
    exact ⟨⟨_, by rw [HX.out.2.1, HX.out.2.2], by rw [HX.out.1]; exact zDir_in _ _⟩, hx⟩
  have E2 := hQq e2
  have E5 : Hid (d.opq = false) := hQq (Bool.eq_false_iff.2 fun h => e2 (.inl h))
  have q5 : ¬ 0 < d.red.length := fun h => e2 (.inr h)
  have q2 := lenZ q5
  have q2n : decide (0 < d.red.length) = false := decide_eq_false q5
  have HTZ : Hid ((valM (ptsO 1 d.ats) reW).size <= 900000) := hQq (own_size HSM.out.ats)
  clear e2 q5
  by_cases e3 : ptsE 1 d.ats = 0
  case neg =>
    have HX := hQq (dr_of (drT_pts E1.out E2.out e3))
    have q3 : (ptsE 1 d.ats != 0) = true := bne_iff_ne.2 e3
    have q3' : (ptsE 1 d.ats == 0) = false := beq_eq_false_iff_ne.2 e3
    clear e3
    go_enter Tryz.func43, Tryz.ntmps43
    go_wp2_with (first
      | (go_at_call 86; refine (refCheckDir B _ _ d (HD.out.ext ((eA _ _).trans (eA _ _))) HSM.out).mono ?_; rintro e w1 ⟨rfl, hb1⟩; have q2 : w1.heap[w.heap.size + 1]? = some (.cells #[.slice none 0 0, .bool false, .slice none 0 0, .slice none 0 0] 55 (0, 0)) := bX hb1 (blk_at (by simp)); have r0 := bC q2 0; have r1 := bC q2 1; have r2 := bC q2 2; have r3 := bC q2 3; have fz : ∀ j, w1.frozen? ⟨w.heap.size + 1, j, none⟩ = false := fun j => bT q2 j; have Q2 := hQq q2; clear q2; have q1 : w1.heap[w.heap.size]? = some (.cells #[.slice a3 d.ats.length cap3, .bool d.opq, .slice a4 d.red.length cap4, .slice a5 d.ens.length cap5] 55 (0, 0)) := bX hb1 (bA (bN w _)); have k0 := bC q1 0; have k1 := bC q1 1; rw [E5.out] at k1; have k2 := bC q1 2; have k3 := bC q1 3; have Q1 := hQq q1; have hz1 := blk_lt q1; have hz2 := blk_lt Q2.out; clear q1; have HB1 := hQq (((eA _ _).trans (eA _ _)).trans hb1); clear hb1)
      | (go_at_call 95; refine (refPartsT 1 _ d.ats _ ((HA.out.ext okA HB1.out).attrs) HSM.out.ats).mono ?_; rintro e w2 ⟨⟨v1, v2, rfl, ho1, ho2⟩, hb2⟩; obtain ⟨a7, cap7, rfl, -, -⟩ := ho1.1; obtain ⟨a2, c2', rfl, -, -⟩ := ho2.1; have HO1 := hQq ho1; have HO2 := hQq ho2; have HB2 := hQq (HB1.out.trans hb2); clear r0 r1 r2 r3 fz k0 k1 k2 k3 hz1 hz2; have q2 : w2.heap[w.heap.size + 1]? = some (.cells #[.slice none 0 0, .bool false, .slice none 0 0, .slice none 0 0] 55 (0, 0)) := bX hb2 Q2.out; have r0 := bC q2 0; have r1 := bC q2 1; have r2 := bC q2 2; have r3 := bC q2 3; have fz : ∀ j, w2.frozen? ⟨w.heap.size + 1, j, none⟩ = false := fun j => bT q2 j; have Q2 := hQq q2; clear q2; have q1x := bX hb2 Q1.out; have k0 := bC q1x 0; have k1 := bC q1x 1; have k2 := bC q1x 2; have k3 := bC q1x 3; rw [E5.out] at k1; have Q1 := hQq q1x; have hz1 := blk_lt q1x; have hz2 := blk_lt Q2.out; clear q1x; clear hb2 ho1 ho2)
      | (go_at_call 118; refine (refTurned _ (ptsO 1 d.ats) _ HO2.out.1 (own_small _) HTZ.out).mono ?_; rintro e w3 ⟨⟨oq, a9, n9, cap9, rfl, hturn⟩, hb3⟩; have HB3' := hQq hb3; clear r0 r1 r2 r3 fz k0 k1 k2 k3 hz1 hz2; have q2 : w3.heap[w.heap.size + 1]? = some (.cells #[.slice none 0 0, .bool false, .slice none 0 0, .slice none 0 0] 55 (0, 0)) := bX hb3 Q2.out; have r0 := bC q2 0; have r1 := bC q2 1; have r2 := bC q2 2; have r3 := bC q2 3; have fz : ∀ j, w3.frozen? ⟨w.heap.size + 1, j, none⟩ = false := fun j => bT q2 j; have Q2 := hQq q2; clear q2; have q1x := bX hb3 Q1.out; have k0 := bC q1x 0; have k1 := bC q1x 1; have k2 := bC q1x 2; have k3 := bC q1x 3; rw [E5.out] at k1; have Q1 := hQq q1x; have hz1 := blk_lt q1x; have hz2 := blk_lt Q2.out; clear q1x; have HTU := hQq hturn; clear hb3 hturn)
      | fail)
    refine nW (P := fun W => bodyPost _ _ _ _ _ W) _ ?_
    intro W2 hW2
    obtain ⟨hq, hx, hc⟩ := set4 Q2.out (by omega) (HB2.out.trans HB3'.out) hW2
    refine bodyPost_ret (v := .tuple #[.agg #[.slice none 0 0, .bool false, .slice none 0 0, .slice none 0 0], .int .i64 (-1), .int .i64 (ptsE 1 d.ats)]) (by simp [results, Tryz.f43, go_sem, bC hq 0, bC hq 1, bC hq 2, bC hq 3]) rfl ?_
    exact ⟨⟨_, by rw [HX.out.2.1, HX.out.2.2], by rw [HX.out.1]; exact zDir_in _ _⟩, hx⟩
  have E3 := hQq e3
  clear e3
  cases e4 : isM (ptsO 1 d.ats) nlW
  case true =>
    have HX := hQq (dr_of (drT_link E1.out E2.out E3.out e4))
    have HBK : Hid (bookE (ptsO 1 d.ats) 1 = 18) := hQq (by rw [one_book, e4]; rfl)
    clear e4
    go_enter Tryz.func43, Tryz.ntmps43
    go_wp2_with (first
      | (go_at_call 86; refine (refCheckDir B _ _ d (HD.out.ext ((eA _ _).trans (eA _ _))) HSM.out).mono ?_; rintro e w1 ⟨rfl, hb1⟩; have q2 : w1.heap[w.heap.size + 1]? = some (.cells #[.slice none 0 0, .bool false, .slice none 0 0, .slice none 0 0] 55 (0, 0)) := bX hb1 (blk_at (by simp)); have r0 := bC q2 0; have r1 := bC q2 1; have r2 := bC q2 2; have r3 := bC q2 3; have fz : ∀ j, w1.frozen? ⟨w.heap.size + 1, j, none⟩ = false := fun j => bT q2 j; have Q2 := hQq q2; clear q2; have q1 : w1.heap[w.heap.size]? = some (.cells #[.slice a3 d.ats.length cap3, .bool d.opq, .slice a4 d.red.length cap4, .slice a5 d.ens.length cap5] 55 (0, 0)) := bX hb1 (bA (bN w _)); have k0 := bC q1 0; have k1 := bC q1 1; rw [E5.out] at k1; have k2 := bC q1 2; have k3 := bC q1 3; have Q1 := hQq q1; have hz1 := blk_lt q1; have hz2 := blk_lt Q2.out; clear q1; have HB1 := hQq (((eA _ _).trans (eA _ _)).trans hb1); clear hb1)
      | (go_at_call 95; refine (refPartsT 1 _ d.ats _ ((HA.out.ext okA HB1.out).attrs) HSM.out.ats).mono ?_; rintro e w2 ⟨⟨v1, v2, rfl, ho1, ho2⟩, hb2⟩; rw [E3.out]; obtain ⟨a7, cap7, rfl, -, -⟩ := ho1.1; obtain ⟨a2, c2', rfl, -, -⟩ := ho2.1; have HO1 := hQq ho1; have HO2 := hQq ho2; have HB2 := hQq (HB1.out.trans hb2); clear r0 r1 r2 r3 fz k0 k1 k2 k3 hz1 hz2; have q2 : w2.heap[w.heap.size + 1]? = some (.cells #[.slice none 0 0, .bool false, .slice none 0 0, .slice none 0 0] 55 (0, 0)) := bX hb2 Q2.out; have r0 := bC q2 0; have r1 := bC q2 1; have r2 := bC q2 2; have r3 := bC q2 3; have fz : ∀ j, w2.frozen? ⟨w.heap.size + 1, j, none⟩ = false := fun j => bT q2 j; have Q2 := hQq q2; clear q2; have q1x := bX hb2 Q1.out; have k0 := bC q1x 0; have k1 := bC q1x 1; have k2 := bC q1x 2; have k3 := bC q1x 3; rw [E5.out] at k1; have Q1 := hQq q1x; have hz1 := blk_lt q1x; have hz2 := blk_lt Q2.out; clear q1x; clear hb2 ho1 ho2)
      | (go_at_call 117; refine (refBookedX _ (ptsO 1 d.ats) 1 _ HO2.out.1 (own_small _) (by decide)).mono ?_; rintro e w2b ⟨rfl, hb2b⟩; rw [HBK.out]; have HB2b : Hid (Ext w2 w2b) := hQq hb2b; clear r0 r1 r2 r3 fz k0 k1 k2 k3 hz1 hz2; have q2 : w2b.heap[w.heap.size + 1]? = some (.cells #[.slice none 0 0, .bool false, .slice none 0 0, .slice none 0 0] 55 (0, 0)) := bX hb2b Q2.out; have r0 := bC q2 0; have r1 := bC q2 1; have r2 := bC q2 2; have r3 := bC q2 3; have fz : ∀ j, w2b.frozen? ⟨w.heap.size + 1, j, none⟩ = false := fun j => bT q2 j; have Q2 := hQq q2; clear q2; have q1x := bX hb2b Q1.out; have k0 := bC q1x 0; have k1 := bC q1x 1; have k2 := bC q1x 2; have k3 := bC q1x 3; rw [E5.out] at k1; have Q1 := hQq q1x; have hz1 := blk_lt q1x; have hz2 := blk_lt Q2.out; clear q1x; clear hb2b)
      | (go_at_call 118; refine (refTurned _ (ptsO 1 d.ats) _ (HO2.out.ext HB2b.out).1 (own_small _) HTZ.out).mono ?_; rintro e w3 ⟨⟨oq, a9, n9, cap9, rfl, hturn⟩, hb3⟩; have HB3' := hQq hb3; clear r0 r1 r2 r3 fz k0 k1 k2 k3 hz1 hz2; have q2 : w3.heap[w.heap.size + 1]? = some (.cells #[.slice none 0 0, .bool false, .slice none 0 0, .slice none 0 0] 55 (0, 0)) := bX hb3 Q2.out; have r0 := bC q2 0; have r1 := bC q2 1; have r2 := bC q2 2; have r3 := bC q2 3; have fz : ∀ j, w3.frozen? ⟨w.heap.size + 1, j, none⟩ = false := fun j => bT q2 j; have Q2 := hQq q2; clear q2; have q1x := bX hb3 Q1.out; have k0 := bC q1x 0; have k1 := bC q1x 1; have k2 := bC q1x 2; have k3 := bC q1x 3; rw [E5.out] at k1; have Q1 := hQq q1x; have hz1 := blk_lt q1x; have hz2 := blk_lt Q2.out; clear q1x; have HTU := hQq hturn; clear hb3 hturn)
      | fail)
    refine nW (P := fun W => bodyPost _ _ _ _ _ W) _ ?_
    intro W2 hW2
    obtain ⟨hq, hx, hc⟩ := set4 Q2.out (by omega) (HB2.out.trans (HB2b.out.trans HB3'.out)) hW2
    refine bodyPost_ret (v := .tuple #[.agg #[.slice none 0 0, .bool false, .slice none 0 0, .slice none 0 0], .int .i64 (-1), .int .i64 (18)]) (by simp [results, Tryz.f43, go_sem, bC hq 0, bC hq 1, bC hq 2, bC hq 3]) rfl ?_
    exact ⟨⟨_, by rw [HX.out.2.1, HX.out.2.2], by rw [HX.out.1]; exact zDir_in _ _⟩, hx⟩
  case false =>
  have E4 := hQq e4
  have HBK : Hid (bookE (ptsO 1 d.ats) 1 = 0) := hQq (by rw [one_book, e4]; rfl)
  clear e4
  by_cases e6 : turnE (ptsO 1 d.ats) = 0
  case neg =>
    have HX := hQq (dr_of (drT_turn E1.out E2.out E3.out E4.out (.inl e6)))
    have q6 : (turnE (ptsO 1 d.ats) == 0) = false := beq_eq_false_iff_ne.2 e6
    have Q6 := hQq q6
    clear e6 q6
    go_enter Tryz.func43, Tryz.ntmps43
    go_wp2_with (first
      | (go_at_call 86; refine (refCheckDir B _ _ d (HD.out.ext ((eA _ _).trans (eA _ _))) HSM.out).mono ?_; rintro e w1 ⟨rfl, hb1⟩; have q2 : w1.heap[w.heap.size + 1]? = some (.cells #[.slice none 0 0, .bool false, .slice none 0 0, .slice none 0 0] 55 (0, 0)) := bX hb1 (blk_at (by simp)); have r0 := bC q2 0; have r1 := bC q2 1; have r2 := bC q2 2; have r3 := bC q2 3; have fz : ∀ j, w1.frozen? ⟨w.heap.size + 1, j, none⟩ = false := fun j => bT q2 j; have Q2 := hQq q2; clear q2; have q1 : w1.heap[w.heap.size]? = some (.cells #[.slice a3 d.ats.length cap3, .bool d.opq, .slice a4 d.red.length cap4, .slice a5 d.ens.length cap5] 55 (0, 0)) := bX hb1 (bA (bN w _)); have k0 := bC q1 0; have k1 := bC q1 1; rw [E5.out] at k1; have k2 := bC q1 2; have k3 := bC q1 3; have Q1 := hQq q1; have hz1 := blk_lt q1; have hz2 := blk_lt Q2.out; clear q1; have HB1 := hQq (((eA _ _).trans (eA _ _)).trans hb1); clear hb1)
      | (go_at_call 95; refine (refPartsT 1 _ d.ats _ ((HA.out.ext okA HB1.out).attrs) HSM.out.ats).mono ?_; rintro e w2 ⟨⟨v1, v2, rfl, ho1, ho2⟩, hb2⟩; rw [E3.out]; obtain ⟨a7, cap7, rfl, -, -⟩ := ho1.1; obtain ⟨a2, c2', rfl, -, -⟩ := ho2.1; have HO1 := hQq ho1; have HO2 := hQq ho2; have HB2 := hQq (HB1.out.trans hb2); clear r0 r1 r2 r3 fz k0 k1 k2 k3 hz1 hz2; have q2 : w2.heap[w.heap.size + 1]? = some (.cells #[.slice none 0 0, .bool false, .slice none 0 0, .slice none 0 0] 55 (0, 0)) := bX hb2 Q2.out; have r0 := bC q2 0; have r1 := bC q2 1; have r2 := bC q2 2; have r3 := bC q2 3; have fz : ∀ j, w2.frozen? ⟨w.heap.size + 1, j, none⟩ = false := fun j => bT q2 j; have Q2 := hQq q2; clear q2; have q1x := bX hb2 Q1.out; have k0 := bC q1x 0; have k1 := bC q1x 1; have k2 := bC q1x 2; have k3 := bC q1x 3; rw [E5.out] at k1; have Q1 := hQq q1x; have hz1 := blk_lt q1x; have hz2 := blk_lt Q2.out; clear q1x; clear hb2 ho1 ho2)
      | (go_at_call 117; refine (refBookedX _ (ptsO 1 d.ats) 1 _ HO2.out.1 (own_small _) (by decide)).mono ?_; rintro e w2b ⟨rfl, hb2b⟩; rw [HBK.out]; have HB2b : Hid (Ext w2 w2b) := hQq hb2b; clear r0 r1 r2 r3 fz k0 k1 k2 k3 hz1 hz2; have q2 : w2b.heap[w.heap.size + 1]? = some (.cells #[.slice none 0 0, .bool false, .slice none 0 0, .slice none 0 0] 55 (0, 0)) := bX hb2b Q2.out; have r0 := bC q2 0; have r1 := bC q2 1; have r2 := bC q2 2; have r3 := bC q2 3; have fz : ∀ j, w2b.frozen? ⟨w.heap.size + 1, j, none⟩ = false := fun j => bT q2 j; have Q2 := hQq q2; clear q2; have q1x := bX hb2b Q1.out; have k0 := bC q1x 0; have k1 := bC q1x 1; have k2 := bC q1x 2; have k3 := bC q1x 3; rw [E5.out] at k1; have Q1 := hQq q1x; have hz1 := blk_lt q1x; have hz2 := blk_lt Q2.out; clear q1x; clear hb2b)
      | (go_at_call 118; refine (refTurned _ (ptsO 1 d.ats) _ (HO2.out.ext HB2b.out).1 (own_small _) HTZ.out).mono ?_; rintro e w3 ⟨⟨oq, a9, n9, cap9, rfl, hturn⟩, hb3⟩; rw [Q6.out]; have HB3' := hQq hb3; clear r0 r1 r2 r3 fz k0 k1 k2 k3 hz1 hz2; have q2 : w3.heap[w.heap.size + 1]? = some (.cells #[.slice none 0 0, .bool false, .slice none 0 0, .slice none 0 0] 55 (0, 0)) := bX hb3 Q2.out; have r0 := bC q2 0; have r1 := bC q2 1; have r2 := bC q2 2; have r3 := bC q2 3; have fz : ∀ j, w3.frozen? ⟨w.heap.size + 1, j, none⟩ = false := fun j => bT q2 j; have Q2 := hQq q2; clear q2; have q1x := bX hb3 Q1.out; have k0 := bC q1x 0; have k1 := bC q1x 1; have k2 := bC q1x 2; have k3 := bC q1x 3; rw [E5.out] at k1; have Q1 := hQq q1x; have hz1 := blk_lt q1x; have hz2 := blk_lt Q2.out; clear q1x; have HTU := hQq hturn; clear hb3 hturn)
      | fail)
    refine nW (P := fun W => bodyPost _ _ _ _ _ W) _ ?_
    intro W2 hW2
    obtain ⟨hq, hx, hc⟩ := set4 Q2.out (by omega) (HB2.out.trans (HB2b.out.trans HB3'.out)) hW2
    refine bodyPost_ret (v := .tuple #[.agg #[.slice none 0 0, .bool false, .slice none 0 0, .slice none 0 0], .int .i64 (-1), .int .i64 (6)]) (by simp [results, Tryz.f43, go_sem, bC hq 0, bC hq 1, bC hq 2, bC hq 3]) rfl ?_
    exact ⟨⟨_, by rw [HX.out.2.1, HX.out.2.2], by rw [HX.out.1]; exact zDir_in _ _⟩, hx⟩
  have E6' := hQq e6
  have Q6 : Hid ((turnE (ptsO 1 d.ats) == 0) = true) := hQq (beq_iff_eq.2 e6)
  have HOB := hQq (opB_turn e6)
  obtain ⟨o, ho⟩ : ∃ o, turnO (ptsO 1 d.ats) = o := ⟨_, rfl⟩
  have HOQ := hQq ho
  rw [ho] at HOB
  clear e6 ho
  by_cases e7 : o = true /\ 0 < (turnR (ptsO 1 d.ats)).length
  case pos =>
    have HX := hQq (dr_of (drT_turn E1.out E2.out E3.out E4.out (.inr (by rw [HOQ.out]; exact e7))))
    obtain ⟨rfl, e8⟩ := e7
    have q8 := lenP e8
    have q8n : decide (0 < (turnR (ptsO 1 d.ats)).length) = true := decide_eq_true e8
    clear e8
    go_enter Tryz.func43, Tryz.ntmps43
    go_wp2_with (first
      | (go_at_call 86; refine (refCheckDir B _ _ d (HD.out.ext ((eA _ _).trans (eA _ _))) HSM.out).mono ?_; rintro e w1 ⟨rfl, hb1⟩; have q2 : w1.heap[w.heap.size + 1]? = some (.cells #[.slice none 0 0, .bool false, .slice none 0 0, .slice none 0 0] 55 (0, 0)) := bX hb1 (blk_at (by simp)); have r0 := bC q2 0; have r1 := bC q2 1; have r2 := bC q2 2; have r3 := bC q2 3; have fz : ∀ j, w1.frozen? ⟨w.heap.size + 1, j, none⟩ = false := fun j => bT q2 j; have Q2 := hQq q2; clear q2; have q1 : w1.heap[w.heap.size]? = some (.cells #[.slice a3 d.ats.length cap3, .bool d.opq, .slice a4 d.red.length cap4, .slice a5 d.ens.length cap5] 55 (0, 0)) := bX hb1 (bA (bN w _)); have k0 := bC q1 0; have k1 := bC q1 1; rw [E5.out] at k1; have k2 := bC q1 2; have k3 := bC q1 3; have Q1 := hQq q1; have hz1 := blk_lt q1; have hz2 := blk_lt Q2.out; clear q1; have HB1 := hQq (((eA _ _).trans (eA _ _)).trans hb1); clear hb1)
      | (go_at_call 95; refine (refPartsT 1 _ d.ats _ ((HA.out.ext okA HB1.out).attrs) HSM.out.ats).mono ?_; rintro e w2 ⟨⟨v1, v2, rfl, ho1, ho2⟩, hb2⟩; rw [E3.out]; obtain ⟨a7, cap7, rfl, -, -⟩ := ho1.1; obtain ⟨a2, c2', rfl, -, -⟩ := ho2.1; have HO1 := hQq ho1; have HO2 := hQq ho2; have HB2 := hQq (HB1.out.trans hb2); clear r0 r1 r2 r3 fz k0 k1 k2 k3 hz1 hz2; have q2 : w2.heap[w.heap.size + 1]? = some (.cells #[.slice none 0 0, .bool false, .slice none 0 0, .slice none 0 0] 55 (0, 0)) := bX hb2 Q2.out; have r0 := bC q2 0; have r1 := bC q2 1; have r2 := bC q2 2; have r3 := bC q2 3; have fz : ∀ j, w2.frozen? ⟨w.heap.size + 1, j, none⟩ = false := fun j => bT q2 j; have Q2 := hQq q2; clear q2; have q1x := bX hb2 Q1.out; have k0 := bC q1x 0; have k1 := bC q1x 1; have k2 := bC q1x 2; have k3 := bC q1x 3; rw [E5.out] at k1; have Q1 := hQq q1x; have hz1 := blk_lt q1x; have hz2 := blk_lt Q2.out; clear q1x; clear hb2 ho1 ho2)
      | (go_at_call 117; refine (refBookedX _ (ptsO 1 d.ats) 1 _ HO2.out.1 (own_small _) (by decide)).mono ?_; rintro e w2b ⟨rfl, hb2b⟩; rw [HBK.out]; have HB2b : Hid (Ext w2 w2b) := hQq hb2b; clear r0 r1 r2 r3 fz k0 k1 k2 k3 hz1 hz2; have q2 : w2b.heap[w.heap.size + 1]? = some (.cells #[.slice none 0 0, .bool false, .slice none 0 0, .slice none 0 0] 55 (0, 0)) := bX hb2b Q2.out; have r0 := bC q2 0; have r1 := bC q2 1; have r2 := bC q2 2; have r3 := bC q2 3; have fz : ∀ j, w2b.frozen? ⟨w.heap.size + 1, j, none⟩ = false := fun j => bT q2 j; have Q2 := hQq q2; clear q2; have q1x := bX hb2b Q1.out; have k0 := bC q1x 0; have k1 := bC q1x 1; have k2 := bC q1x 2; have k3 := bC q1x 3; rw [E5.out] at k1; have Q1 := hQq q1x; have hz1 := blk_lt q1x; have hz2 := blk_lt Q2.out; clear q1x; clear hb2b)
      | (go_at_call 118; refine (refTurned _ (ptsO 1 d.ats) _ (HO2.out.ext HB2b.out).1 (own_small _) HTZ.out).mono ?_; rintro e w3 ⟨⟨oq, a9, n9, cap9, rfl, hturn⟩, hb3⟩; obtain ⟨rfl, rfl, hs9⟩ := hturn E6'.out; rw [Q6.out, HOQ.out]; have HB3' := hQq hb3; clear r0 r1 r2 r3 fz k0 k1 k2 k3 hz1 hz2; have q2 : w3.heap[w.heap.size + 1]? = some (.cells #[.slice none 0 0, .bool false, .slice none 0 0, .slice none 0 0] 55 (0, 0)) := bX hb3 Q2.out; have r0 := bC q2 0; have r1 := bC q2 1; have r2 := bC q2 2; have r3 := bC q2 3; have fz : ∀ j, w3.frozen? ⟨w.heap.size + 1, j, none⟩ = false := fun j => bT q2 j; have Q2 := hQq q2; clear q2; have q1x := bX hb3 Q1.out; have k0 := bC q1x 0; have k1 := bC q1x 1; have k2 := bC q1x 2; have k3 := bC q1x 3; rw [E5.out] at k1; have Q1 := hQq q1x; have hz1 := blk_lt q1x; have hz2 := blk_lt Q2.out; clear q1x; have HTU := hQq hturn; clear hb3 hturn)
      | fail)
    refine nW (P := fun W => bodyPost _ _ _ _ _ W) _ ?_
    intro W2 hW2
    obtain ⟨hq, hx, hc⟩ := set4 Q2.out (by omega) (HB2.out.trans (HB2b.out.trans HB3'.out)) hW2
    refine bodyPost_ret (v := .tuple #[.agg #[.slice none 0 0, .bool false, .slice none 0 0, .slice none 0 0], .int .i64 (-1), .int .i64 (6)]) (by simp [results, Tryz.f43, go_sem, bC hq 0, bC hq 1, bC hq 2, bC hq 3]) rfl ?_
    exact ⟨⟨_, by rw [HX.out.2.1, HX.out.2.2], by rw [HX.out.1]; exact zDir_in _ _⟩, hx⟩
  have E6 : Hid (¬ (turnE (ptsO 1 d.ats) ≠ 0 \/ (turnO (ptsO 1 d.ats) = true /\ 0 < (turnR (ptsO 1 d.ats)).length))) := hQq (by
    rintro (h | h)
    · exact h E6'.out
    · rw [HOQ.out] at h; exact e7 h)
  go_enter Tryz.func43, Tryz.ntmps43
  go_upto_region 10 with (first
    | (go_at_call 86; refine (refCheckDir B _ _ d (HD.out.ext ((eA _ _).trans (eA _ _))) HSM.out).mono ?_; rintro e w1 ⟨rfl, hb1⟩; have q2 : w1.heap[w.heap.size + 1]? = some (.cells #[.slice none 0 0, .bool false, .slice none 0 0, .slice none 0 0] 55 (0, 0)) := bX hb1 (blk_at (by simp)); have r0 := bC q2 0; have r1 := bC q2 1; have r2 := bC q2 2; have r3 := bC q2 3; have fz : ∀ j, w1.frozen? ⟨w.heap.size + 1, j, none⟩ = false := fun j => bT q2 j; have Q2 := hQq q2; clear q2; have q1 : w1.heap[w.heap.size]? = some (.cells #[.slice a3 d.ats.length cap3, .bool d.opq, .slice a4 d.red.length cap4, .slice a5 d.ens.length cap5] 55 (0, 0)) := bX hb1 (bA (bN w _)); have k0 := bC q1 0; have k1 := bC q1 1; rw [E5.out] at k1; have k2 := bC q1 2; have k3 := bC q1 3; have Q1 := hQq q1; have hz1 := blk_lt q1; have hz2 := blk_lt Q2.out; clear q1; have HB1 := hQq (((eA _ _).trans (eA _ _)).trans hb1); clear hb1)
    | (go_at_call 95; refine (refPartsT 1 _ d.ats _ ((HA.out.ext okA HB1.out).attrs) HSM.out.ats).mono ?_; rintro e w2 ⟨⟨v1, v2, rfl, ho1, ho2⟩, hb2⟩; rw [E3.out]; obtain ⟨a7, cap7, rfl, -, -⟩ := ho1.1; obtain ⟨a2, c2', rfl, -, -⟩ := ho2.1; have HO1 := hQq ho1; have HO2 := hQq ho2; have HB2 := hQq (HB1.out.trans hb2); clear r0 r1 r2 r3 fz k0 k1 k2 k3 hz1 hz2; have q2 : w2.heap[w.heap.size + 1]? = some (.cells #[.slice none 0 0, .bool false, .slice none 0 0, .slice none 0 0] 55 (0, 0)) := bX hb2 Q2.out; have r0 := bC q2 0; have r1 := bC q2 1; have r2 := bC q2 2; have r3 := bC q2 3; have fz : ∀ j, w2.frozen? ⟨w.heap.size + 1, j, none⟩ = false := fun j => bT q2 j; have Q2 := hQq q2; clear q2; have q1x := bX hb2 Q1.out; have k0 := bC q1x 0; have k1 := bC q1x 1; have k2 := bC q1x 2; have k3 := bC q1x 3; rw [E5.out] at k1; have Q1 := hQq q1x; have hz1 := blk_lt q1x; have hz2 := blk_lt Q2.out; clear q1x; clear hb2 ho1 ho2)
    | (go_at_call 117; refine (refBookedX _ (ptsO 1 d.ats) 1 _ HO2.out.1 (own_small _) (by decide)).mono ?_; rintro e w2b ⟨rfl, hb2b⟩; rw [HBK.out]; have HB2b : Hid (Ext w2 w2b) := hQq hb2b; clear r0 r1 r2 r3 fz k0 k1 k2 k3 hz1 hz2; have q2 : w2b.heap[w.heap.size + 1]? = some (.cells #[.slice none 0 0, .bool false, .slice none 0 0, .slice none 0 0] 55 (0, 0)) := bX hb2b Q2.out; have r0 := bC q2 0; have r1 := bC q2 1; have r2 := bC q2 2; have r3 := bC q2 3; have fz : ∀ j, w2b.frozen? ⟨w.heap.size + 1, j, none⟩ = false := fun j => bT q2 j; have Q2 := hQq q2; clear q2; have q1x := bX hb2b Q1.out; have k0 := bC q1x 0; have k1 := bC q1x 1; have k2 := bC q1x 2; have k3 := bC q1x 3; rw [E5.out] at k1; have Q1 := hQq q1x; have hz1 := blk_lt q1x; have hz2 := blk_lt Q2.out; clear q1x; clear hb2b)
    | (go_at_call 118; refine (refTurned _ (ptsO 1 d.ats) _ (HO2.out.ext HB2b.out).1 (own_small _) HTZ.out).mono ?_; rintro e w3 ⟨⟨oq, a9, n9, cap9, rfl, hturn⟩, hb3⟩; obtain ⟨rfl, rfl, hs9⟩ := hturn E6'.out; have HS9 := hQq hs9; rw [Q6.out, HOQ.out]; clear hs9; have HB3' := hQq hb3; clear r0 r1 r2 r3 fz k0 k1 k2 k3 hz1 hz2; have q2 : w3.heap[w.heap.size + 1]? = some (.cells #[.slice none 0 0, .bool false, .slice none 0 0, .slice none 0 0] 55 (0, 0)) := bX hb3 Q2.out; have r0 := bC q2 0; have r1 := bC q2 1; have r2 := bC q2 2; have r3 := bC q2 3; have fz : ∀ j, w3.frozen? ⟨w.heap.size + 1, j, none⟩ = false := fun j => bT q2 j; have Q2 := hQq q2; clear q2; have q1x := bX hb3 Q1.out; have k0 := bC q1x 0; have k1 := bC q1x 1; have k2 := bC q1x 2; have k3 := bC q1x 3; rw [E5.out] at k1; have Q1 := hQq q1x; have hz1 := blk_lt q1x; have hz2 := blk_lt Q2.out; clear q1x; have HTU := hQq hturn; clear hb3 hturn)
    | fail)
  go_cut [66] (fun c wx => c = .bool false /\ w3 = wx)
  case first =>
    cases o
    case false => clear e7; go_wp2_with fail; go_meet; exact ⟨rfl, rfl⟩
    case true =>
      have q8 := lenZ (fun h => e7 ⟨rfl, h⟩)
      have q8n : decide (0 < (turnR (ptsO 1 d.ats)).length) = false := decide_eq_false (fun h => e7 ⟨rfl, h⟩)
      clear e7
      go_wp2_with fail; go_meet
      first
        | exact ⟨rfl, rfl⟩
        | exact ⟨by rw [q8n], rfl⟩
  case rest =>
  obtain ⟨rfl, rfl⟩ := hcut
  clear e7
  have HB3 : Hid (Ext w w3) := hQq (HB2.out.trans (HB2b.out.trans HB3'.out))
  have HO3 : Hid (AttrsAt w3 (.slice a2 (ptsO 1 d.ats).length c2') (ptsO 1 d.ats)) := hQq (HO2.out.ext (HB2b.out.trans HB3'.out)).1
  go_wp2_with (go_at_call 119; refine (refValueO _ (ptsO 1 d.ats) _ (HO3.out.ext (eA _ _)) (own_small _)).mono ?_; rintro e w5 ⟨rfl, rfl⟩)
  have HBO : Hid (w.heap.size + 1 < w3.heap.size) := hQq (blk_lt Q2.out)
  have HCH := hQq (fun x (hx : x ∈ d.ens) => small_chk (ens_chk E1.out hx))
  have HTN : Hid (∀ n e, gnT (rdE o) d.ens = (n, e) -> e ≠ 0 -> drT d = (zDiN, n, e)) := hQq (fun n e h he => drT_ent E1.out E2.out E3.out E4.out E6.out (by rw [HOQ.out]; exact h) he)
  have HST0 : Hid (ODSt w w3.heap.size #[.slice a3 d.ats.length cap3, .bool false, .slice a4 d.red.length cap4, .slice a5 d.ens.length cap5] (.slice a7 (ptsP 1 d.ats).length cap7) (ptsP 1 d.ats) o (.slice a9 (turnR (ptsO 1 d.ats)).length cap9) (turnR (ptsO 1 d.ats)) (.slice none 0 0) [] (w3.alloc (.cells #[.slice a7 (ptsP 1 d.ats).length cap7, .bool o, .slice a9 (turnR (ptsO 1 d.ats)).length cap9, .slice none 0 0] 55))) := hQq ⟨bA (by have h := Q1.out; rw [E5.out] at h; exact h), bA Q2.out, bN _ _, OwnL.nil _ _ _, (attT_in HO1.out).ext okA ((HB2b.out.trans HB3'.out).trans (eA _ _)), (HS9.out.mono okS (Nat.zero_le _)).ext okS (eA _ _), HB3.out.trans (eA _ _)⟩
  clear r0 r1 r2 r3 fz k0 k1 k2 k3
  go_loopw [6, 15] (fun c i w' => ∃ (wi : World) (k : Nat) (ve : Value), wi = w' /\ k <= d.ens.length /\ c = .int .i64 0 /\ i = .int .i64 k /\ (∀ j, j < k -> rdE o (getE d.ens j) = 0) /\ ODSt w w3.heap.size #[.slice a3 d.ats.length cap3, .bool false, .slice a4 d.red.length cap4, .slice a5 d.ens.length cap5] (.slice a7 (ptsP 1 d.ats).length cap7) (ptsP 1 d.ats) o (.slice a9 (turnR (ptsO 1 d.ats)).length cap9) (turnR (ptsO 1 d.ats)) ve ((d.ens.take k).map rdX) wi) (fun _ i _ => d.ens.length - (intOf i).toNat)
  case atStart => exact ⟨_, 0, _, rfl, Nat.zero_le _, rfl, rfl, fun j hj => absurd hj (by omega), HST0.out⟩
  case round =>
    clear HST0
    obtain ⟨wi, k, ve, rfl, hk, rfl, rfl, hok, hst⟩ := hrel
    obtain ⟨es, hes⟩ : ∃ es, es = (d.ens.take k).map rdX := ⟨_, rfl⟩
    rw [<- hes] at hst
    have HES := hQq hes
    have HOK := hQq hok; have HST := hQq hst
    clear hes
    obtain ⟨a8, cap8, rfl⟩ := hst.own.form
    have k0 := bC HST.out.box 0; have k1 := bC HST.out.box 1; have k2 := bC HST.out.box 2; have k3 := bC HST.out.box 3
    have hb0 := blk_lt HST.out.box
    clear hok hst
    by_cases hlt : k < d.ens.length
    case neg =>
      obtain rfl : k = d.ens.length := by omega
      have HX := hQq (dr_of (drT_ok E1.out E2.out E3.out E4.out E6.out (by rw [HOQ.out, gnT_ok HOK.out])))
      have o0 := bC HST.out.out 0; have o1 := bC HST.out.out 1; have o2 := bC HST.out.out 2; have o3 := bC HST.out.out 3
      have r0 := bC HST.out.res 0; have r1 := bC HST.out.res 1; have r2 := bC HST.out.res 2; have r3 := bC HST.out.res 3
      have fz : ∀ j, wi.frozen? ⟨w.heap.size + 1, j, none⟩ = false := fun j => bT HST.out.res j
      have HTK : Hid (es = d.ens.map rdX) := hQq (by rw [HES.out, List.take_length])
      go_wp2
      refine nW (P := fun W => bodyPost _ _ _ _ _ W) _ ?_
      intro W2 hW2
      obtain ⟨hq, hx, hc⟩ := set4 HST.out.res (by omega) HST.out.ext hW2
      refine bodyPost_ret (v := .tuple #[.agg #[.slice a7 (ptsP 1 d.ats).length cap7, .bool o, .slice a9 (turnR (ptsO 1 d.ats)).length cap9, .slice a8 es.length cap8], .int .i64 (0), .int .i64 (0)]) (by simp [results, Tryz.f43, go_sem, bC hq 0, bC hq 1, bC hq 2, bC hq 3]) rfl ?_
      exact ⟨⟨_, by rw [HX.out.2.1, HX.out.2.2], by rw [HX.out.1, HOQ.out]; exact ⟨_, _, _, rfl, HST.out.ats.chg okA (hcB (Nat.le_refl _) hc HST.out.res) (by decide) (by decide), HST.out.red.chg okS (hcB (Nat.le_refl _) hc HST.out.res) (by decide) (by decide), by have h := (HST.out.own.in okE).chg okE (hcB (Nat.le_refl _) hc HST.out.res) (by decide) (by decide); rw [<- HTK.out]; exact h⟩⟩, hx⟩
    obtain ⟨b, off, va, hex, hbx, hva, c0, c1, c2, c3, c4, c5, c6, c7, c8, c9, c10, c11⟩ := (HE.out.ext okE HST.out.ext).en k hlt
    cases hex
    have HVA := hQq (hva.mono okA hB)
    obtain ⟨a6, cap6, rfl⟩ := hva.form
    have HG := hQq (getE_at d.ens k hlt)
    have HMEM := hQq (List.getElem_mem hlt)
    have HTK := hQq (take_mapX (X := rdX) d.ens k hlt)
    rw [<- HES.out] at HTK
    have HSX' := hQq (HCH.out _ (List.getElem_mem hlt)); have HNB' := hQq (HNS.out _ (List.getElem_mem hlt)); have HEN' := hQq (show entX d.opq (lastE d.ens k) (getE d.ens k) = 0 from (dirE_zero E1.out).2.2.2.2.2 k hlt)
    rw [HG.out] at HEN'
    generalize d.ens[k]'hlt = x at c0 c1 c2 c3 c4 c5 c6 c7 c8 c9 c10 c11 HVA HG HMEM HTK HSX' HNB' HEN'
    have HSX := HSX'; have HNB : Hid (x.ns <= 9223372036854775807) := HNB'; have HEN := HEN'
    clear HSX' HNB' HEN'
    have HLN : Hid (es.length <= k) := hQq (by rw [HES.out, List.length_map, List.length_take]; omega)
    have j1 : ((k : Nat) : Int) < (d.ens.length : Int) := by omega
    have j0 : (0 : Int) <= (k : Int) := by omega
    have HNX : Hid (rdE o x = 0 -> ∀ j, j < k + 1 -> rdE o (getE d.ens j) = 0) := hQq (fun h j hj => by
      by_cases e : j = k
      · subst e; rw [HG.out]; exact h
      · exact HOK.out j (by omega))
    have HNE : Hid (∀ n, rdE o x = n -> n ≠ 0 -> gnT (rdE o) d.ens = ((k : Int), n)) := hQq (fun n hn h => by
      subst hn
      have := gnT_no (E := rdE o) hlt HOK.out (by rw [HG.out]; exact h)
      rw [HG.out] at this; exact this)
    obtain ⟨y, hy⟩ : ∃ y, y = rdX x := ⟨_, rfl⟩
    have HY := hQq hy
    clear hva hy
    have HRD : Hid (∀ W, Ext w W -> AttIn w.heap.size W (.slice a6 x.nd.ats.length cap6) x.nd.ats -> Calls Tryz.prog 120 #[.agg (deC x (.slice a6 x.nd.ats.length cap6)).toArray, .string (valM (ptsO 1 d.ats) opqW)] W (EntryP w.heap.size W (rdX x).nd (rdE o x))) := hQq (fun W hW hA => by
      have h := orRead w.heap.size x _ (valM (ptsO 1 d.ats) opqW) W hA HSX.out HNB.out hW.size
      rw [HOB.out] at h
      exact h)
    by_cases e4 : rdE o x = 0
    case neg =>
      have HNN := hQq (HNE.out (rdE o x) rfl e4)
      have HX := hQq (dr_of (HTN.out _ _ HNN.out e4))
      have q4 : (rdE o x != 0) = true := bne_iff_ne.2 e4
      clear e4
      go_upto_region 21 with (go_at_call 120; go_loud (refine (HRD.out _ (HST.out.ext.trans (eA _ _)) (HVA.out.ext okA (eA _ _))).mono ?_; rintro e w4 ⟨⟨y4, a11, k11, c11', rfl, hy4⟩, hb4⟩; have q12 := bX hb4 (bN wi (.cells #[.string x.nm, .int .i64 x.nd.dep, .string x.nd.nm, .int .i64 x.nd.kd, .slice a6 x.nd.ats.length cap6, .string x.nd.dat, .int .i64 x.nd.ma, .int .i64 x.nd.mi, .int .i64 x.nd.cl, .bool x.wh, .bool x.fi, .int .i64 x.ns] 98 (0, 0))); have Q12 := hQq q12; have z0 := bC q12 0; have z1 := bC q12 1; have z2 := bC q12 2; have z3 := bC q12 3; have z4 := bC q12 4; have z5 := bC q12 5; have z6 := bC q12 6; have z7 := bC q12 7; have z8 := bC q12 8; have z9 := bC q12 9; have z10 := bC q12 10; have z11 := bC q12 11; have fx : ∀ j, w4.frozen? ⟨wi.heap.size, j, none⟩ = false := fun j => bT q12 j; have hsx := blk_lt q12; have HB4 : Hid (Ext wi w4) := hQq ((eA _ _).trans hb4); have hr2 := bX HB4.out HST.out.res; have r0 := bC hr2 0; have r1 := bC hr2 1; have r2 := bC hr2 2; have r3 := bC hr2 3; have fz : ∀ j, w4.frozen? ⟨w.heap.size + 1, j, none⟩ = false := fun j => bT hr2 j; have hrs := blk_lt HST.out.res; clear q12 hb4 hr2))
      refine nW (P := fun W => Code.wp _ _ _ _ W) _ ?_
      intro W hW
      have hW2 : W = setL w4 wi.heap.size 1 [.int .i64 y4.dep, .string y4.nm, .int .i64 y4.kd, .slice a11 k11 c11', .string y4.dat, .int .i64 y4.ma, .int .i64 y4.mi, .int .i64 y4.cl] := by rw [hW]; simp only [setL, Nat.reduceAdd]
      have HSA : Hid (Ext wi W) := hQq (by rw [hW2]; exact setL_below (Nat.le_refl _) _ _ _ HB4.out)
      clear hW hW2 c0 c1 c2 c3 c4 c5 c6 c7 c8 c9 c10 c11 k0 k1 k2 k3 z0 z1 z2 z3 z4 z5 z6 z7 z8 z9 z10 z11 fx r0 r1 r2 r3 fz
      have hr4 := bX HSA.out HST.out.res
      have r0 := bC hr4 0; have r1 := bC hr4 1; have r2 := bC hr4 2; have r3 := bC hr4 3
      have fz : ∀ j, W.frozen? ⟨w.heap.size + 1, j, none⟩ = false := fun j => bT hr4 j
      have hrs4 := blk_lt hr4
      have Q4 := hQq hr4
      clear hr4
      go_wp2
      refine nW (P := fun W => bodyPost _ _ _ _ _ W) _ ?_
      intro W2 hW2
      obtain ⟨hq, hx, hc⟩ := set4 Q4.out (by omega) (HST.out.ext.trans HSA.out) hW2
      refine bodyPost_ret (v := .tuple #[.agg #[.slice none 0 0, .bool false, .slice none 0 0, .slice none 0 0], .int .i64 k, .int .i64 (rdE o x)]) (by simp [results, Tryz.f43, go_sem, bC hq 0, bC hq 1, bC hq 2, bC hq 3]) rfl ?_
      exact ⟨⟨_, by rw [HX.out.2.1, HX.out.2.2], by rw [HX.out.1]; exact zDir_in _ _⟩, hx⟩
    have q4 : (rdE o x != 0) = false := bne_eq_false_iff_eq.2 e4
    have HN := hQq (HNX.out e4)
    have HE4 := hQq e4
    clear e4
    go_upto_region 24 with (go_at_call 120; go_loud (refine (HRD.out _ (HST.out.ext.trans (eA _ _)) (HVA.out.ext okA (eA _ _))).mono ?_; rintro e w4 ⟨⟨y4, a11, k11, c11', rfl, hy4⟩, hb4⟩; obtain ⟨rfl, rfl, ha4⟩ := hy4 HE4.out; have HA4 := hQq ha4; rw [HE4.out]; clear ha4; have q12 := bX hb4 (bN wi (.cells #[.string x.nm, .int .i64 x.nd.dep, .string x.nd.nm, .int .i64 x.nd.kd, .slice a6 x.nd.ats.length cap6, .string x.nd.dat, .int .i64 x.nd.ma, .int .i64 x.nd.mi, .int .i64 x.nd.cl, .bool x.wh, .bool x.fi, .int .i64 x.ns] 98 (0, 0))); have Q12 := hQq q12; have z0 := bC q12 0; have z1 := bC q12 1; have z2 := bC q12 2; have z3 := bC q12 3; have z4 := bC q12 4; have z5 := bC q12 5; have z6 := bC q12 6; have z7 := bC q12 7; have z8 := bC q12 8; have z9 := bC q12 9; have z10 := bC q12 10; have z11 := bC q12 11; have fx : ∀ j, w4.frozen? ⟨wi.heap.size, j, none⟩ = false := fun j => bT q12 j; have hsx := blk_lt q12; have HB4 : Hid (Ext wi w4) := hQq ((eA _ _).trans hb4); have hr2 := bX HB4.out HST.out.res; have r0 := bC hr2 0; have r1 := bC hr2 1; have r2 := bC hr2 2; have r3 := bC hr2 3; have fz : ∀ j, w4.frozen? ⟨w.heap.size + 1, j, none⟩ = false := fun j => bT hr2 j; have hrs := blk_lt HST.out.res; clear q12 hb4 hr2))
    refine nW (P := fun W => Code.wp _ _ _ _ W) _ ?_
    intro W hW
    have hW2 : W = (setL w4 wi.heap.size 1 [.int .i64 (rdX x).nd.dep, .string (rdX x).nd.nm, .int .i64 (rdX x).nd.kd, .slice a11 (rdX x).nd.ats.length c11', .string (rdX x).nd.dat, .int .i64 (rdX x).nd.ma, .int .i64 (rdX x).nd.mi, .int .i64 (rdX x).nd.cl]).setCell ⟨wi.heap.size, 9, none⟩ (.bool ((rdX x).nd.kd == 5)) := by rw [hW]; simp only [setL, Nat.reduceAdd]
    have hq5 := setL_blk [.int .i64 (rdX x).nd.dep, .string (rdX x).nd.nm, .int .i64 (rdX x).nd.kd, .slice a11 (rdX x).nd.ats.length c11', .string (rdX x).nd.dat, .int .i64 (rdX x).nd.ma, .int .i64 (rdX x).nd.mi, .int .i64 (rdX x).nd.cl] w4 1 _ Q12.out
    have HXW := hQq (show Ext wi W from by rw [hW2]; exact Below.setCell (p := ⟨wi.heap.size, 9, none⟩) (setL_below (Nat.le_refl _) _ _ _ HB4.out) (Nat.le_refl _) _)
    obtain ⟨ay, capy, hqy, hvy⟩ : ∃ ay capy, W.heap[wi.heap.size]? = some (.cells #[.string y.nm, .int .i64 y.nd.dep, .string y.nd.nm, .int .i64 y.nd.kd, .slice ay y.nd.ats.length capy, .string y.nd.dat, .int .i64 y.nd.ma, .int .i64 y.nd.mi, .int .i64 y.nd.cl, .bool y.wh, .bool y.fi, .int .i64 y.ns] 98 (0, 0)) /\ AttIn w.heap.size W (.slice ay y.nd.ats.length capy) y.nd.ats := by
      refine ⟨a11, c11', ?_, ?_⟩
      · have h := bS (o := 9) hq5 (.bool ((rdX x).nd.kd == 5))
        rw [hW2, HY.out]
        obtain ⟨s1, s2, s3, s4⟩ := rd_same (ent_kind HEN.out).1
        rw [s1, s2, s3, s4]
        rw [setC9] at h
        exact h
      · rw [hW2, HY.out]
        exact (HA4.out.chg okA (setL_chgj (by have := HST.out.ext.size; omega) Q12.out _) (by decide) (by decide)).chg okA (cellChg hq5 (by have := HST.out.ext.size; omega)) (by decide) (by decide)
    have HQW := hQq hqy; have HVY := hQq hvy
    clear hW2 hq5 hqy hvy z0 z1 z2 z3 z4 z5 z6 z7 z8 z9 z10 z11 fx r0 r1 r2 r3 fz
    clear hW c0 c1 c2 c3 c4 c5 c6 c7 c8 c9 c10 c11 k0 k1 k2 k3
    have o3 := bC (bX HXW.out HST.out.out) 3
    have z0 := bC HQW.out 0; have z1 := bC HQW.out 1; have z2 := bC HQW.out 2; have z3 := bC HQW.out 3; have z4 := bC HQW.out 4; have z5 := bC HQW.out 5; have z6 := bC HQW.out 6; have z7 := bC HQW.out 7; have z8 := bC HQW.out 8; have z9 := bC HQW.out 9; have z10 := bC HQW.out 10; have z11 := bC HQW.out 11
    go_wp2_with (at_builtin; go_loud (refine appL okE rfl (.tmp 110) (.tmp 112) rfl (.slice a8 es.length cap8) _ es [y] w _ (by rfl) (by rfl) (by exact (HST.out.up HXW.out).own.ext okE (eA _ _)) (by exact listIn_new okE _ y [.string y.nm, .int .i64 y.nd.dep, .string y.nd.nm, .int .i64 y.nd.kd, .slice ay y.nd.ats.length capy, .string y.nd.dat, .int .i64 y.nd.ma, .int .i64 y.nd.mi, .int .i64 y.nd.cl, .bool y.wh, .bool y.fi, .int .i64 y.ns] _ (by first | rfl | simp) ⟨_, HVY.out, rfl⟩) (by exact (HST.out.up HXW.out).ext.trans (eA _ _)) (by exact ((HST.out.up HXW.out).ext.trans (eA _ _)).size) (by have := HLN.out; simp only [List.length_singleton]; omega) ?_; intro v5 w5 hap; have hou := ODSt.app ((HST.out.up HXW.out).up (eA _ _)) hap; have p3 := bC hou 3; have fp : ∀ j, w5.frozen? ⟨w3.heap.size, j, none⟩ = false := fun j => bT hou j; obtain ⟨a10, cap10, rfl⟩ := hap.own.form; rw [len_snoc] at hap; have HAP := hQq hap; clear hap hou))
    go_roundw
    case rel => exact ⟨_, k + 1, _, rfl, by omega, rfl, by go_num, HN.out, by rw [HTK.out, <- HY.out]; exact ((HST.out.up HXW.out).up (eA _ _)).step HAP.out HBO.out⟩
    case measure => first | (simp [intOf]; done) | (simp [intOf]; omega)
end Go.Proofs.YtnbkcalodmggaaaGreatDoor
namespace Go.Proofs.YtnbkcalodmggaaaGreatDoor.lwOverlayDirs
open Go.ChangeShapes Go.WideShapes Go.ChangeAt Go.RowKit
open Go.ChangeMaps (open_string shut_string)

set_option maxHeartbeats 16000000 in
set_option maxRecDepth 100000 in
theorem walk (v : Value) (d : DiN) (w : World) (hv : DirIn w.heap.size w v d) (hns : NsOk d) (hLT : LaidO w /\ ErrT w) : RetB Tryz.prog 10 #[v] w (.bool true) := by
  unfold RetB
  obtain ⟨hL, hT⟩ := hLT
  have HD := hQq hv; have HL := hQq hL; have HT := hQq hT; have HNS := hQq hns
  obtain ⟨va, vr, ve, rfl, ha, hr, he⟩ := hv
  obtain ⟨a3, cap3, rfl⟩ := ha.form
  obtain ⟨a4, cap4, rfl⟩ := hr.form
  obtain ⟨a5, cap5, rfl⟩ := he.form
  clear ha hr he hL hT hns
  go_enter Tryz.func10, Tryz.ntmps10
  go_wp2_with fail
  refine (law21wide w.heap.size _ d _ (HD.out.ext (eA _ _))).mono ?_
  rintro e wi ⟨r, rfl, hwide, hb0⟩
  have HI : Hid (Ext w wi) := hQq ((eA _ _).trans hb0)
  cases r
  case true =>
    clear hwide hb0
    go_wp2_with (go_at_call 39; refine (law21awake _ (HL.out.ext HI.out)).mono ?_; rintro e w9 ⟨rfl, hb9⟩; have HB9 := hQq hb9; clear hb9)
    go_ret
    exact ⟨rfl, HI.out.trans HB9.out⟩
  have SMD := hQq (wide_small (hwide rfl))
  have BD1 := hQq (bd_oc SMD.out); have BD2 := hQq (bd_dr SMD.out)
  have QI : Hid (wi.heap[w.heap.size]? = some (.cells #[.slice a3 d.ats.length cap3, .bool d.opq, .slice a4 d.red.length cap4, .slice a5 d.ens.length cap5] 55 (0, 0))) := hQq (bX hb0 (bN _ _))
  clear hwide hb0
  have k0 := bC QI.out 0; have k1 := bC QI.out 1; have k2 := bC QI.out 2; have k3 := bC QI.out 3
  go_wp2_with fail
  refine (ovEncodeDir w.heap.size wi _ d (HL.out.ext HI.out) (HT.out.ext HI.out) (HD.out.ext HI.out) HI.out.size SMD.out HNS.out).mono ?_
  rintro e w1 ⟨⟨v1, B1, rfl, hd1, hB1, hB1'⟩, hb1⟩
  have HD1 := hQq hd1
  obtain ⟨x1, y1, z1, rfl, i1, j1, l1⟩ := hd1
  obtain ⟨p1, q1, rfl⟩ := i1.form; obtain ⟨r1, s1, rfl⟩ := j1.form; obtain ⟨t1, u1, rfl⟩ := l1.form
  clear i1 j1 l1
  have QB1 := hQq (bX hb1 QI.out); have H1 := hQq (Ext.trans HI.out hb1)
  clear k0 k1 k2 k3 hb1
  have k0 := bC QB1.out 0; have k1 := bC QB1.out 1; have k2 := bC QB1.out 2; have k3 := bC QB1.out 3; have hs1 := blk_lt QB1.out
  go_wp2_with fail
  refine nW (P := fun W => Calls _ _ _ W _) _ ?_
  intro V1 hV1
  have QA1 : Hid (V1.heap[w1.heap.size]? = some (.cells #[.slice p1 (ocD d).ats.length q1, .bool (ocD d).opq, .slice r1 (ocD d).red.length s1, .slice t1 (ocD d).ens.length u1] 55 (0, 0))) := hQq (by rw [hV1]; exact bN _ _)
  have QV1 : Hid (V1.heap[w.heap.size]? = some (.cells #[.slice a3 d.ats.length cap3, .bool d.opq, .slice a4 d.red.length cap4, .slice a5 d.ens.length cap5] 55 (0, 0))) := hQq (by rw [hV1]; exact bA QB1.out)
  have HV1 : Hid (Ext w V1) := hQq (by rw [hV1]; exact H1.out.trans (eA _ _))
  replace HD1 : Hid (DirIn B1 V1 _ (ocD d)) := hQq (by rw [hV1]; exact HD1.out.ext (eA _ _))
  clear hV1 k0 k1 k2 k3
  refine (refOvEncodeDir w.heap.size V1 _ d (HD.out.ext HV1.out) HV1.out.size SMD.out HNS.out).mono ?_
  rintro e w2 ⟨⟨v2, rfl, hd2⟩, hb2⟩
  have HD2 := hQq hd2
  obtain ⟨x2, y2, z2, rfl, i2, j2, l2⟩ := hd2
  obtain ⟨p2, q2, rfl⟩ := i2.form; obtain ⟨r2, s2, rfl⟩ := j2.form; obtain ⟨t2, u2, rfl⟩ := l2.form
  clear i2 j2 l2
  have QB2 := hQq (bX hb2 QV1.out); have QA2 := hQq (bX hb2 QA1.out); have H2 := hQq (Ext.trans HV1.out hb2)
  replace HD1 := hQq (HD1.out.ext hb2)
  clear hb2
  have m0 := bC QA2.out 0; have m1 := bC QA2.out 1; have m2 := bC QA2.out 2; have m3 := bC QA2.out 3; have hs2 := blk_lt QA2.out
  go_wp2_with fail
  refine nW (P := fun W => Calls _ _ _ W _) _ ?_
  intro V2 hV2
  have QC2 : Hid (V2.heap[w2.heap.size]? = some (.cells #[.slice p2 (ocD d).ats.length q2, .bool (ocD d).opq, .slice r2 (ocD d).red.length s2, .slice t2 (ocD d).ens.length u2] 55 (0, 0))) := hQq (by rw [hV2]; exact bN _ _)
  have QV2 : Hid (V2.heap[w.heap.size]? = some (.cells #[.slice a3 d.ats.length cap3, .bool d.opq, .slice a4 d.red.length cap4, .slice a5 d.ens.length cap5] 55 (0, 0))) := hQq (by rw [hV2]; exact bA QB2.out)
  have QW2 : Hid (V2.heap[w1.heap.size]? = some (.cells #[.slice p1 (ocD d).ats.length q1, .bool (ocD d).opq, .slice r1 (ocD d).red.length s1, .slice t1 (ocD d).ens.length u1] 55 (0, 0))) := hQq (by rw [hV2]; exact bA QA2.out)
  have HV2 : Hid (Ext w V2) := hQq (by rw [hV2]; exact H2.out.trans (eA _ _))
  have HS2 := hQq (show Ext w2 V2 by rw [hV2]; exact eA _ _)
  clear hV2 m0 m1 m2 m3
  refine (refDirSame _ _ _ _ (ocD d) V2 (HD1.out.ext HS2.out) (HD2.out.ext HS2.out) BD1.out.1 BD1.out.2.1 BD1.out.2.2.1 BD1.out.2.2.2).mono ?_
  rintro e w3 ⟨rfl, hb3⟩
  have QB3 := hQq (bX hb3 QV2.out); have QA3 := hQq (bX hb3 QW2.out); have QC3 := hQq (bX hb3 QC2.out); have H3 := hQq (Ext.trans HV2.out hb3)
  clear hb3
  have k0 := bC QB3.out 0; have k1 := bC QB3.out 1; have k2 := bC QB3.out 2; have k3 := bC QB3.out 3
  have n1 : (ocN d != ocN d) = false := bne_self_eq_false _; have n2 : (ocE d != ocE d) = false := bne_self_eq_false _
  go_wp2_with fail
  refine (ovDecodeDir w.heap.size w3 _ d (HL.out.ext H3.out) (HT.out.ext H3.out) (HD.out.ext H3.out) H3.out.size SMD.out HNS.out).mono ?_
  rintro e w4 ⟨⟨v4, B4, rfl, hd4, hB4, hB4'⟩, hb4⟩
  have HD4 := hQq hd4
  obtain ⟨x4, y4, z4, rfl, i4, j4, l4⟩ := hd4
  obtain ⟨p4, q4, rfl⟩ := i4.form; obtain ⟨r4, s4, rfl⟩ := j4.form; obtain ⟨t4, u4, rfl⟩ := l4.form
  clear i4 j4 l4
  have QB4 := hQq (bX hb4 QB3.out); have QA4 := hQq (bX hb4 QA3.out); have QC4 := hQq (bX hb4 QC3.out); have H4 := hQq (Ext.trans H3.out hb4)
  clear k0 k1 k2 k3 hb4 n1 n2
  have k0 := bC QB4.out 0; have k1 := bC QB4.out 1; have k2 := bC QB4.out 2; have k3 := bC QB4.out 3; have m0 := bC QA4.out 0; have m1 := bC QA4.out 1; have m2 := bC QA4.out 2; have m3 := bC QA4.out 3; have fm := fun j => bT QA4.out j; have hs4 := blk_lt QC4.out
  go_wp2_with fail
  refine nW (P := fun W => Calls _ _ _ W _) _ ?_
  intro V4 hV4
  replace hV4 : V4 = setL w4 w1.heap.size 0 [.slice p4 (drD d).ats.length q4, .bool (drD d).opq, .slice r4 (drD d).red.length s4, .slice t4 (drD d).ens.length u4] := hV4
  have QA5 : Hid (V4.heap[w1.heap.size]? = some (.cells #[.slice p4 (drD d).ats.length q4, .bool (drD d).opq, .slice r4 (drD d).red.length s4, .slice t4 (drD d).ens.length u4] 55 (0, 0))) := hQq (by rw [hV4, setL_blk _ _ _ _ QA4.out]; rfl)
  have QB5 : Hid (V4.heap[w.heap.size]? = some (.cells #[.slice a3 d.ats.length cap3, .bool d.opq, .slice a4 d.red.length cap4, .slice a5 d.ens.length cap5] 55 (0, 0))) := hQq (by rw [hV4]; exact setL_keep _ _ _ _ _ QB4.out (fun e => by injection e with e; omega))
  have QC5 : Hid (V4.heap[w2.heap.size]? = some (.cells #[.slice p2 (ocD d).ats.length q2, .bool (ocD d).opq, .slice r2 (ocD d).red.length s2, .slice t2 (ocD d).ens.length u2] 55 (0, 0))) := hQq (by rw [hV4]; exact setL_keep _ _ _ _ _ QC4.out (fun e => by injection e with e; omega))
  have HV4 : Hid (Ext w V4) := hQq (by rw [hV4]; exact setL_below (by omega) _ _ _ H4.out)
  replace HD4 : Hid (DirIn B4 V4 _ (drD d)) := hQq (by rw [hV4]; exact HD4.out.keepX (setL_keep _ _ _) (Nat.le_of_eq (setL_size _ _ _).symm) (no_str QA4.out))
  clear hV4 k0 k1 k2 k3 m0 m1 m2 m3 fm
  refine (refOvDecodeDir w.heap.size V4 _ d (HD.out.ext HV4.out) HV4.out.size SMD.out HNS.out).mono ?_
  rintro e w5 ⟨⟨v5, rfl, hd5⟩, hb5⟩
  have HD5 := hQq hd5
  obtain ⟨x5, y5, z5, rfl, i5, j5, l5⟩ := hd5
  obtain ⟨p5, q5, rfl⟩ := i5.form; obtain ⟨r5, s5, rfl⟩ := j5.form; obtain ⟨t5, u5, rfl⟩ := l5.form
  clear i5 j5 l5
  have QA6 := hQq (bX hb5 QA5.out); have QC6 := hQq (bX hb5 QC5.out); have H5 := hQq (Ext.trans HV4.out hb5)
  replace HD4 := hQq (HD4.out.ext hb5)
  clear hb5
  have m0 := bC QA6.out 0; have m1 := bC QA6.out 1; have m2 := bC QA6.out 2; have m3 := bC QA6.out 3; have o0 := bC QC6.out 0; have o1 := bC QC6.out 1; have o2 := bC QC6.out 2; have o3 := bC QC6.out 3; have fo := fun j => bT QC6.out j
  go_wp2_with fail
  refine nW (P := fun W => Calls _ _ _ W _) _ ?_
  intro V5 hV5
  replace hV5 : V5 = setL w5 w2.heap.size 0 [.slice p5 (drD d).ats.length q5, .bool (drD d).opq, .slice r5 (drD d).red.length s5, .slice t5 (drD d).ens.length u5] := hV5
  have HV5 : Hid (Ext w V5) := hQq (by rw [hV5]; exact setL_below (by omega) _ _ _ H5.out)
  have HK5 := hQq (show KeepBut (some w2.heap.size) w5 V5 by rw [hV5]; exact setL_keep _ _ _); have HZ5 := hQq (show w5.heap.size <= V5.heap.size by rw [hV5]; exact Nat.le_of_eq (setL_size _ _ _).symm)
  clear hV5 m0 m1 m2 m3 o0 o1 o2 o3 fo
  refine (refDirSame _ _ _ _ (drD d) V5 (HD4.out.keepX HK5.out HZ5.out (no_str QC6.out)) (HD5.out.keepX HK5.out HZ5.out (no_str QC6.out)) BD2.out.1 BD2.out.2.1 BD2.out.2.2.1 BD2.out.2.2.2).mono ?_
  rintro e w6 ⟨rfl, hb6⟩
  have H6 := hQq (Ext.trans HV5.out hb6)
  clear hb6
  have n1 : (drN d == drN d) = true := beq_self_eq_true _; have n2 : (drE d == drE d) = true := beq_self_eq_true _
  go_wp2_with (go_at_call 39; refine (law21awake _ (HL.out.ext H6.out)).mono ?_; rintro e w9 ⟨rfl, hb9⟩; have HB9 := hQq hb9; clear hb9)
  go_ret
  exact ⟨rfl, H6.out.trans HB9.out⟩
set_option maxRecDepth 100000 in
theorem contract (H : Type) (enc : TypeId × Value -> H) (W : World) (base : Nat) (args : Array Value) (ds gs : List (DataW H)) (before : List MemPlace)
    (hval : ∀ (j : Nat) t v, Tryz.f10.params[j]? = some t -> args[j]? = some v -> Value.okWide Tryz.prog W .any base t v)
    (hW : DataW.Whole enc Tryz.prog Tryz.f10.params.toList Rows.overlayDirsSpec.vars false W args.toList ds gs before) (hz : (DataW.weightsEach Tryz.prog (Tryz.f10.params.toList ++ (OpenSpec.ofChange Rows.overlayDirsSpec).bare.plain.varTypes Tryz.prog) (ds ++ gs)).all (· <= reachBytes) = true) (hL : laidMetH Tryz.prog Rows.overlayDirsRow.laid W) (hS : W.ShapedOpen Tryz.prog) :
    Calls Tryz.prog 10 args W fun e W' => ∃ v, e = .returned v /\ Rows.overlayDirsSpec.post enc Tryz.prog Tryz.f10 false true false false W args v W' := by
  have hW' := hW
  obtain ⟨p, q, hA0, hV, rfl, hfz, hnd⟩ := hW
  have hA : DataW.TrodAll enc Tryz.prog W 0 (fun _ => true) true Tryz.f10.params.toList args.toList ds p := hA0
  rw [Tryz.params10] at hA hval
  obtain ⟨v0, vs0, d0, ds0, p0, q0, hargs, rfl, rfl, h0, r0⟩ := trodAll_cons hA
  obtain ⟨rfl, rfl, rfl⟩ := trodAll_nil r0
  obtain rfl : args = #[v0] := by cases args; simp_all
  obtain ⟨x0, w0, -, z0⟩ := open_dirX (hval 0 55 v0 rfl rfl) h0
  refine (walk v0 x0 W w0 z0 (laidE_of hL hS)).mono fun e W' ⟨he, hb⟩ => ?_
  subst he
  exact ⟨_, rfl, law_post hW' rfl rfl rfl (by intro t ht; rw [Tryz.params10] at ht; simp at ht; subst ht; exact ⟨by kernel_rfl, of_decide_eq_true (by kernel_rfl)⟩) hb⟩
theorem reads (os : Os) {H : Type} (enc : TypeId × Value -> H) : ∃ places, DataW.whole enc Tryz.prog ((laidWorldE os).forCall (fun _ _ => 0) ⟨#[], (#[.agg #[.slice none 0 0, .bool false, .slice none 0 0, .slice none 0 0]] : Array Value), []⟩).memory Tryz.f10.params.toList Rows.overlayDirsSpec.vars false (#[.agg #[.slice none 0 0, .bool false, .slice none 0 0, .slice none 0 0]] : Array Value).toList 8 = some ([.agg [.nil, .lit (.bool false), .nil, .nil]], [], places) :=
  ⟨[], by kernel_rfl⟩
set_option maxRecDepth 100000 in
theorem lifted (os : Os) (started : os.Started) (H : Type) (enc : TypeId × Value -> H) (F : Stop.Interp) :
    ReturnsInHanded {} Tryz.checked os 10 .any ((OpenSpec.ofChange Rows.overlayDirsSpec).preRow enc Tryz.prog Tryz.f10 Rows.overlayDirsRow.domain false Rows.overlayDirsRow.laid) (((OpenSpec.ofChange Rows.overlayDirsSpec).at F).post enc Tryz.prog Tryz.f10 false true false false) := by
  obtain ⟨places, hx⟩ := reads os enc
  refine returnsInHanded_of_row (C := Tryz.checked) (s := OpenSpec.ofChange Rows.overlayDirsSpec) own started (by kernel_rfl) Tryz.func10
    (witness_row_atRef (enc := enc) (C := Tryz.checked) false (laidWorldE os) (#[.agg #[.slice none 0 0, .bool false, .slice none 0 0, .slice none 0 0]] : Array Value) rfl (by kernel_rfl) (by kernel_rfl) (by kernel_rfl)
      (OpenSpec.preRow_of_cond 8 hx (by kernel_rfl) (fun k hk => by cases hk) (by kernel_rfl) (laidE_met os _))) ?_
  intro W base args ds gs before hval hW _ _ hz hL hS _
  exact contract H enc W base args ds gs before hval hW hz hL hS
theorem j0 : (Rows.overlayDirsRow.wf (OpenSpec.ofChange Rows.overlayDirsSpec)) = true := by kernel_rfl
theorem j1 : (laidOutB Tryz.prog) = true := laidOut
theorem j2 : (mapsRowed Tryz.prog) = true := jMaps
theorem j3 : (Tryz.f10.params.all (Tryz.prog.readableRec ·)) = true := by kernel_rfl
theorem j4 : (namedTie Tryz.prog Rows.overlayDirsRow.named Rows.overlayDirsSpec.vars) = true := by kernel_rfl
theorem j5 : ((Rows.overlayDirsRow.stops == [])) = true := by kernel_rfl
theorem j6 : ((Tryz.prog.stops == [])) = true := jStops
theorem j7 : ((Rows.overlayDirsRow.knobs == [])) = true := by kernel_rfl
theorem j8 : ((Tryz.prog.stopKnobs == [])) = true := jKnobs
theorem j9 : ((Rows.overlayDirsRow.inPlace == Tryz.prog.inPlace 10)) = true := by kernel_rfl
theorem j10 : ((Rows.overlayDirsRow.unfollowed == Tryz.prog.unfollowed 10)) = true := by kernel_rfl
theorem j11 : ((Rows.overlayDirsRow.recurses == Tryz.prog.recurses 10)) = true := by kernel_rfl
theorem j12 : ((Rows.overlayDirsRow.named == Tryz.prog.varsNamed 10)) = true := by kernel_rfl
theorem j13 : ((Rows.overlayDirsRow.maps == (Tryz.f10.params.toList ++ Rows.overlayDirsSpec.plain.varTypes Tryz.prog).any (Tryz.prog.mapsRec ·))) = true := by kernel_rfl
theorem j14 : ((Rows.overlayDirsRow.ifaces == (Tryz.f10.params.toList ++ Rows.overlayDirsSpec.plain.varTypes Tryz.prog).any (Tryz.prog.ifacesRec ·))) = true := by kernel_rfl
theorem j15 : ((Rows.overlayDirsRow.mapsOut == Tryz.prog.mapsAmong Tryz.f10.resultTypes.toList)) = true := by kernel_rfl
theorem j16 : ((Rows.overlayDirsRow.loops == (Tryz.f10.params.toList ++ Rows.overlayDirsSpec.plain.varTypes Tryz.prog).any (Tryz.prog.loopsFrom ·))) = true := by kernel_rfl
theorem j17 : ((Rows.overlayDirsRow.wideKeys == (Tryz.f10.params.toList ++ Rows.overlayDirsSpec.plain.varTypes Tryz.prog ++ Tryz.f10.resultTypes.toList).any (Tryz.prog.wideKeysFrom ·))) = true := by kernel_rfl
theorem j18 : (Rows.overlayDirsSpec.vars.all (Tryz.prog.varReadable ·)) = true := by kernel_rfl
theorem j19 : (Tryz.f10.resultTypes.all (fun t => Tryz.prog.readableRec t && decide (t < Tryz.prog.types.size))) = true := by kernel_rfl
theorem j20 : ((Rows.overlayDirsRow.ifacesOut == Tryz.f10.resultTypes.toList.any (Tryz.prog.ifacesRec ·))) = true := by kernel_rfl
theorem j21 : ((Rows.overlayDirsRow.loopsOut == Tryz.f10.resultTypes.toList.any (Tryz.prog.loopsFrom ·))) = true := by kernel_rfl
theorem j22 : ((Rows.overlayDirsRow.plainKeys == Tryz.prog.plainKeys)) = true := jPlain
theorem j23 : (Rows.overlayDirsRow.shortTexts.isNone) = true := by kernel_rfl
theorem j24 : (Tryz.prog.stopsHeard) = true := jHeard
theorem j25 : (Tryz.prog.mayEnter) = true := jEnter
theorem j26 : ((Rows.overlayDirsRow.lifted == Tryz.prog.liftsFinal)) = true := jLifts
theorem j27 : ((Tryz.prog.make == some Rows.overlayDirsRow.make)) = true := jMake
theorem j28 : ((Rows.overlayDirsRow.kinds == (if Rows.overlayDirsRow.domain.isEmpty then [] else Tryz.f10.params.toList.map fun t => match Tryz.prog.underlying t with | some (.int k) => some k | _ => none))) = true := by kernel_rfl
theorem j29 : ((Rows.overlayDirsRow.pinned == Rows.overlayDirsRow.pinnedBy)) = true := by kernel_rfl
theorem j30 : ((Rows.overlayDirsRow.veiled == (Tryz.f10.params.toList ++ Rows.overlayDirsSpec.plain.varTypes Tryz.prog ++ Tryz.f10.resultTypes.toList).any (Tryz.prog.veiledRec ·))) = true := by kernel_rfl
theorem j31 : (Rows.overlayDirsRow.veiledFits Tryz.prog Tryz.f10.params.toList (Tryz.f10.params.toList ++ Rows.overlayDirsSpec.plain.varTypes Tryz.prog ++ Tryz.f10.resultTypes.toList)) = true := by kernel_rfl
set_option maxRecDepth 100000 in
theorem facts : joinedFacts Tryz.prog 10 Tryz.f10 Rows.overlayDirsSpec Rows.overlayDirsRow = true := by
  unfold joinedFacts
  simp only [Bool.and_eq_true]
  exact ⟨⟨⟨⟨⟨⟨⟨⟨⟨⟨⟨⟨⟨⟨⟨⟨⟨⟨⟨⟨⟨⟨⟨⟨⟨⟨⟨⟨⟨⟨⟨j0, j1⟩, j2⟩, j3⟩, j4⟩, j5⟩, j6⟩, j7⟩, j8⟩, j9⟩, j10⟩, j11⟩, j12⟩, j13⟩, j14⟩, j15⟩, j16⟩, j17⟩, j18⟩, j19⟩, j20⟩, j21⟩, j22⟩, j23⟩, j24⟩, j25⟩, j26⟩, j27⟩, j28⟩, j29⟩, j30⟩, j31⟩
set_option maxRecDepth 100000 in
theorem said : Rows.OverlayDirsSaid :=
  OpenClaim.holds_of_cond 10 Tryz.f10 rfl rfl rfl rfl rfl rfl rfl ⟨rfl, rfl, rfl, rfl, rfl⟩ rfl rfl rfl rfl rfl (by kernel_rfl) Tryz.func10 facts
    (of_decide_eq_true (by kernel_rfl)) (by unfold Func.isWrapper; rw [if_neg (of_decide_eq_false (by kernel_rfl))]; exact ⟨rfl, rfl⟩)
    (fun os started H enc _ F => by rw [OpenClaim.pre_eq_preRow]; exact lifted os started H enc F)
theorem plain (f : FuncId) (fn : Func) (hf : Tryz.pinned.checked.prog.funcNamed Rows.overlayDirsRow.func = some f) (hfn : Tryz.pinned.checked.prog.funcs[f]? = some fn) :
    true = Tryz.pinned.checked.prog.looks [] /\ ∀ (j : Nat) t, fn.params[j]? = some t -> Tryz.pinned.checked.prog.wantsStandIn t = false := by
  obtain rfl : f = 10 := Option.some.inj ((show Tryz.prog.funcNamed Rows.overlayDirsRow.func = some 10 by kernel_rfl).symm.trans hf) |>.symm
  obtain rfl : fn = Tryz.f10 := (Option.some.inj (Tryz.func10.symm.trans hfn)).symm
  refine ⟨by kernel_rfl, fun j t ht => ?_⟩
  rw [Tryz.params10] at ht
  have hm := Array.mem_of_getElem? ht
  simp at hm
  subst hm
  exact (show Tryz.prog.wantsStandIn 55 = false by kernel_rfl)
theorem card : Rows.OverlayDirsCardSaid :=
  Claim7.holds_tied_plain_at .later [] _ _ _ _ said (fun _ h => by cases h) (by kernel_rfl) (fun _ h => by cases h) overlayDirs_row_tie rfl ⟨rfl, rfl⟩ (by kernel_rfl) rfl plain (by kernel_rfl)
#print axioms card
end Go.Proofs.YtnbkcalodmggaaaGreatDoor.lwOverlayDirs
