/- An argument that is a list of attributes, or one attribute. -/
/- An argument that is a tree, or a branch. -/
import Derived.Test.YtiliglpolcpnbaaGreatDoorQBase
import Derived.Deep.Slices
import Derived.Deep.Fields
import Derived.ChangeSame
import Derived.Lib.SmallJoins
import Derived.Test.YtiliglpolcpnbaaGreatDoorQCod
namespace Go.Proofs.YtiliglpolcpnbaaGreatDoor
open Go.ChangeShapes Go.WideShapes Go.Deep Go.RowKit

section
variable {H : Type} {enc : TypeId × Value → H} {P : Program} {w : World} {base : Nat} {spare : Nat → Bool} {held : Bool}
/-- A slice of structs: each field's cell, and how it is read. -/
theorem open_fields {t e : TypeId} {fs : Array Field} {fuel : Nat} {cs : List Value} {x : DataW H × List MemPlace} (ht : P.underlying t = some (.slice e)) (he : P.underlying e = some (.struct fs))
    (hone : oneCellFields P fs = true) (hC : P.cellsOf e = fs.size) (h : DataW.trod enc P w base spare held fuel t cs = some x) :
    cs = [.slice none 0 0] ∨
    ∃ (a : Addr) (len cap m : Nat), cs = [.slice (some a) len cap] ∧ len ≤ cap ∧ len ≤ m ∧
      ∀ i, i < m → ∃ n : Nat, ∀ (j : Nat) (f : Field), fs[j]? = some f → ∃ (v : Value) (y : DataW H × List MemPlace), w.cell? (a.add (i * fs.size + j)) = some v ∧ DataW.trod enc P w base spare held n f.type [v] = some y := by
  rcases open_slice ht h with h0 | ⟨a, len, cap, m, n, D, Pl, hcs, hb, hl, hm, hmm, hx, hi⟩
  · exact .inl h0.1
  · refine .inr ⟨a, len, cap, m, hcs, hl, by rw [hmm]; split <;> omega, fun i him => ?_⟩
    obtain ⟨cs', hc, ht'⟩ := hi i him
    rw [hC] at hc
    obtain ⟨ys, n', hn', hy, hlen, hyl, hf⟩ := DataW.trod_struct he ht'
    obtain ⟨_, hcl, hat⟩ := World.cells?_some hc
    refine ⟨n', fun j f hj => ?_⟩
    obtain ⟨ho, hk⟩ := hone_of hone j f hj
    have hjl : j < fs.size := (Array.getElem?_eq_some_iff.1 hj).1
    have hcell := hat j hjl
    have hv : cs'[j]? = some (cs'[j]'(by omega)) := List.getElem?_eq_getElem (by omega)
    have h1 := hf j f hj
    rw [ho, hk] at h1
    have hone' : (cs'.drop j).take 1 = [cs'[j]'(by omega)] := by
      rw [List.drop_eq_getElem_cons (by omega)]
      rfl
    rw [hone'] at h1
    have hys : ys[j]? = some (ys[j]'(by omega)) := List.getElem?_eq_getElem (by omega)
    refine ⟨_, _, ?_, h1.trans hys⟩
    rw [← Go.Deep.add_add, hcell, hv]
end
set_option maxRecDepth 100000 in
theorem open_attrs {H : Type} {enc : TypeId × Value → H} {w : World} {base : Nat} {spare : Nat → Bool} {held : Bool} {v : Value} {d : DataW H} {p : List MemPlace}
    (hval : Value.okWide Tryz.prog w .any base 38 v) (h : DataW.Trod enc Tryz.prog w 0 spare held 38 v d p) : ∃ l, AttrsAt w v l := by
  obtain ⟨a0, len0, cap0, rfl⟩ := okWide_slice Tryz.underlying38 hval
  obtain ⟨fuel, hf⟩ := h
  rcases open_fields Tryz.underlying38 Tryz.underlying50 (by kernel_rfl) (by kernel_rfl) hf with h0 | ⟨a, len, cap, m, hcs, hl, hm, hi⟩
  · simp [Value.cells] at h0
    obtain ⟨rfl, rfl, rfl⟩ := h0
    exact ⟨[], AttrsAt.nil _ _ _⟩
  · simp [Value.cells] at hcs
    obtain ⟨rfl, rfl, rfl⟩ := hcs
    have hs : ∀ i, i < len0 → ∃ x : Attr, w.cell? (a.add (i * 2)) = some (.string x.1) ∧ w.cell? (a.add (i * 2 + 1)) = some (.string x.2) := by
      intro i hil
      obtain ⟨n, hf⟩ := hi i (by omega)
      obtain ⟨v0, y0, hc0, ht0⟩ := hf 0 _ rfl
      obtain ⟨v1, y1, hc1, ht1⟩ := hf 1 _ rfl
      obtain ⟨s0, e0, _⟩ := DataW.trod_string Tryz.underlying9 ht0
      obtain ⟨s1, e1, _⟩ := DataW.trod_string Tryz.underlying9 ht1
      simp only [List.cons.injEq, and_true] at e0 e1
      subst e0 e1
      exact ⟨(s0, s1), hc0, hc1⟩
    let f : Nat → Attr := fun i => if h : i < len0 then (hs i h).choose else (⟨#[]⟩, ⟨#[]⟩)
    have hfs : ∀ i (h : i < len0), w.cell? (a.add (i * 2)) = some (.string (f i).1) ∧ w.cell? (a.add (i * 2 + 1)) = some (.string (f i).2) := by
      intro i h
      have : f i = (hs i h).choose := dif_pos h
      rw [this]; exact (hs i h).choose_spec
    refine ⟨(List.range len0).map f, some a, cap0, by simp, by simpa using hl, fun k hk => ?_⟩
    have hk' : k < len0 := by simpa using hk
    obtain ⟨c1, c2⟩ := hfs k hk'
    obtain ⟨b, off, sp⟩ := a
    have hsp : sp = none := by
      have c0 := (hfs 0 (by omega)).1
      cases sp with
      | none => rfl
      | some q =>
        simp only [World.cell?, Addr.add, Nat.zero_mul, if_true] at c0
        split at c0
        · simp at c0
        · cases c0
    subst hsp
    rw [Addr.add_lit] at c1 c2
    refine ⟨b, off, rfl, World.block_lt_of_cell? _ _ c1, ?_, ?_⟩
    · simpa using c1
    · simpa [Nat.add_assoc] using c2
set_option maxRecDepth 100000 in
/-- One attribute, by value. -/
theorem open_attr {H : Type} {enc : TypeId × Value → H} {w : World} {base : Nat} {spare : Nat → Bool} {held : Bool} {v : Value} {d : DataW H} {p : List MemPlace}
    (hval : Value.okWide Tryz.prog w .any base 50 v) (h : DataW.Trod enc Tryz.prog w 0 spare held 50 v d p) : ∃ x : Attr, v = .agg #[.string x.1, .string x.2] := by
  obtain ⟨v0, v1, y0, y1, n, rfl, _, _, t0, t1⟩ := Go.Joins.open_agg2 Tryz.underlying50 (by kernel_rfl) (by kernel_rfl) hval h
  obtain ⟨s0, e0, _⟩ := DataW.trod_string Tryz.underlying9 t0
  obtain ⟨s1, e1, _⟩ := DataW.trod_string Tryz.underlying9 t1
  simp only [List.cons.injEq, and_true] at e0 e1
  exact ⟨(s0, s1), by rw [e0, e1]⟩
end Go.Proofs.YtiliglpolcpnbaaGreatDoor

namespace Go.Proofs.YtiliglpolcpnbaaGreatDoor
open Go.ChangeShapes Go.WideShapes Go.Deep Go.RowKit

theorem choose_list {α : Type} {p : Nat → α → Prop} : ∀ (n : Nat), (∀ i, i < n → ∃ x, p i x) → ∃ l : List α, l.length = n ∧ ∀ i (h : i < l.length), p i (l[i]'h)
  | 0, _ => ⟨[], rfl, fun i h => absurd h (by simp)⟩
  | n + 1, h => by
    obtain ⟨l, h1, h2⟩ := choose_list n (fun i hi => h i (by omega))
    obtain ⟨x, hx⟩ := h n (by omega)
    refine ⟨l ++ [x], by simp [h1], fun i hi => ?_⟩
    by_cases e : i < l.length
    · have := h2 i e
      rwa [List.getElem_append_left e]
    · have e2 : i = l.length := by simp at hi; omega
      subst e2
      rw [List.getElem_append_right (Nat.le_refl _)]
      simpa [h1] using hx
theorem addr_plain {w : World} {a : Addr} {v : Value} (h : w.cell? (a.add 0) = some v) : a.spot = none := by
  obtain ⟨b, off, sp⟩ := a
  cases sp with
  | none => rfl
  | some q =>
    simp only [World.cell?, Addr.add, if_true] at h
    split at h
    · simp at h
    · cases h
section
variable {H : Type} {enc : TypeId × Value → H} {w : World} {base : Nat} {spare : Nat → Bool} {held : Bool} {fuel : Nat} {u : Value} {x : DataW H × List MemPlace}
theorem nb_attrs {l : List Attr} (h : AttrsAt w u l) : AttIn w.heap.size w u l := by
  refine attIn_of h fun h0 b hb => .inl (h.block ?_ b hb)
  obtain ⟨a, cap, rfl, _⟩ := h; exact h0
theorem nb_strs {l : List ByteArray} (h : StrsAt w u l) : StrIn w.heap.size w u l := by
  refine strIn_of h fun h0 b hb => .inl ?_
  obtain ⟨a, cap, rfl, _, hc⟩ := h
  have h0 : 0 < l.length := h0
  obtain ⟨b', off, rfl, h1, _⟩ := hc 0 h0
  cases hb; exact h1
set_option maxRecDepth 100000 in
theorem open_attrsC (h : DataW.trod enc Tryz.prog w base spare held fuel 38 [u] = some x) : ∃ l, AttrsAt w u l := by
  rcases open_fields Tryz.underlying38 Tryz.underlying50 (by kernel_rfl) (by kernel_rfl) h with h0 | ⟨a, len, cap, m, hcs, hl, hm, hi⟩
  · simp at h0; subst h0; exact ⟨[], AttrsAt.nil _ _ _⟩
  · simp at hcs; subst hcs
    obtain ⟨l, h1, h2⟩ := choose_list (p := fun i (y : Attr) => w.cell? (a.add (i * 2)) = some (.string y.1) ∧ w.cell? (a.add (i * 2 + 1)) = some (.string y.2)) len (by
      intro i hil
      obtain ⟨n, hf⟩ := hi i (by omega)
      obtain ⟨v0, y0, hc0, ht0⟩ := hf 0 _ rfl
      obtain ⟨v1, y1, hc1, ht1⟩ := hf 1 _ rfl
      obtain ⟨s0, e0, _⟩ := DataW.trod_string Tryz.underlying9 ht0
      obtain ⟨s1, e1, _⟩ := DataW.trod_string Tryz.underlying9 ht1
      simp only [List.cons.injEq, and_true] at e0 e1
      subst e0 e1
      exact ⟨(s0, s1), hc0, hc1⟩)
    subst h1
    refine ⟨l, some a, cap, rfl, hl, fun k hk => ?_⟩
    have hsp := addr_plain (by simpa using (h2 0 (by omega)).1)
    obtain ⟨b, off, sp⟩ := a
    obtain rfl : sp = none := hsp
    obtain ⟨c1, c2⟩ := h2 k hk
    rw [Addr.add_lit] at c1 c2
    exact ⟨b, off, rfl, World.block_lt_of_cell? _ _ c1, c1, by rw [← c2, Nat.add_assoc]⟩
theorem open_strsC (h : DataW.trod enc Tryz.prog w base spare held fuel 39 [u] = some x) : ∃ l, StrsAt w u l := by
  rcases open_slice1 Tryz.underlying39 (by kernel_rfl) h with h0 | ⟨a, len, cap, m, n, V, D, Pl, hcs, _, hl, _, hm, _, hi⟩
  · simp at h0; obtain ⟨rfl, _⟩ := h0; exact ⟨[], ⟨none, 0, rfl, Nat.le_refl _, fun k hk => absurd hk (by simp)⟩⟩
  · simp at hcs; subst hcs
    have hlm : len ≤ m := by rw [hm]; split <;> omega
    obtain ⟨l, h1, h2⟩ := choose_list (p := fun i (y : ByteArray) => w.cell? (a.add i) = some (.string y)) len (by
      intro i hil
      obtain ⟨hc, ht⟩ := hi i (by omega)
      obtain ⟨s0, e0, _⟩ := DataW.trod_string Tryz.underlying9 ht
      simp only [List.cons.injEq, and_true] at e0
      exact ⟨s0, by rw [hc, e0]⟩)
    subst h1
    refine ⟨l, some a, cap, rfl, hl, fun k hk => ?_⟩
    have hsp := addr_plain (h2 0 (by omega))
    obtain ⟨b, off, sp⟩ := a
    obtain rfl : sp = none := hsp
    have c1 := h2 k hk
    rw [Addr.add_lit] at c1
    exact ⟨b, off, rfl, World.block_lt_of_cell? _ _ c1, c1⟩
set_option maxRecDepth 100000 in
theorem open_treesC (h : DataW.trod enc Tryz.prog w base spare held fuel 25 [u] = some x) : ∃ l, TrIn w.heap.size w u l := by
  rcases open_fields Tryz.underlying25 Tryz.underlying43 (by kernel_rfl) (by kernel_rfl) h with h0 | ⟨a, len, cap, m, hcs, hl, hm, hi⟩
  · simp at h0; subst h0; exact ⟨[], ListIn.nil _ _ _ _⟩
  · simp at hcs; subst hcs
    obtain ⟨l, h1, h2⟩ := choose_list (p := fun i (y : TrN × Value) => AttIn w.heap.size w y.2 y.1.ats ∧ ∀ j c, (trC y.1 y.2)[j]? = some c → w.cell? (a.add (i * 8 + j)) = some c) len (by
      intro i hil
      obtain ⟨n, hf⟩ := hi i (by omega)
      obtain ⟨v0, y0, hc0, ht0⟩ := hf 0 _ rfl
      obtain ⟨v1, y1, hc1, ht1⟩ := hf 1 _ rfl
      obtain ⟨v2, y2, hc2, ht2⟩ := hf 2 _ rfl
      obtain ⟨v3, y3, hc3, ht3⟩ := hf 3 _ rfl
      obtain ⟨v4, y4, hc4, ht4⟩ := hf 4 _ rfl
      obtain ⟨v5, y5, hc5, ht5⟩ := hf 5 _ rfl
      obtain ⟨v6, y6, hc6, ht6⟩ := hf 6 _ rfl
      obtain ⟨v7, y7, hc7, ht7⟩ := hf 7 _ rfl
      obtain ⟨s0, e0, _⟩ := DataW.trod_int Tryz.underlying3 ht0
      obtain ⟨s1, e1, _⟩ := DataW.trod_string Tryz.underlying9 ht1
      obtain ⟨s2, e2, _⟩ := DataW.trod_int Tryz.underlying3 ht2
      obtain ⟨s3, e3⟩ := open_attrsC ht3
      obtain ⟨s4, e4, _⟩ := DataW.trod_string Tryz.underlying9 ht4
      obtain ⟨s5, e5, _⟩ := DataW.trod_int Tryz.underlying3 ht5
      obtain ⟨s6, e6, _⟩ := DataW.trod_int Tryz.underlying3 ht6
      obtain ⟨s7, e7, _⟩ := DataW.trod_int Tryz.underlying3 ht7
      simp only [List.cons.injEq, and_true] at e0 e1 e2 e4 e5 e6 e7
      subst e0 e1 e2 e4 e5 e6 e7
      refine ⟨(⟨s0, s1, s2, s3, s4, s5, s6, s7⟩, v3), nb_attrs e3, fun j c hj => ?_⟩
      match j, hj with
      | 0, hj => cases hj; exact hc0
      | 1, hj => cases hj; exact hc1
      | 2, hj => cases hj; exact hc2
      | 3, hj => cases hj; exact hc3
      | 4, hj => cases hj; exact hc4
      | 5, hj => cases hj; exact hc5
      | 6, hj => cases hj; exact hc6
      | 7, hj => cases hj; exact hc7
      | j + 8, hj => simp [trC] at hj)
    subst h1
    have hsp : 0 < l.length → a.spot = none := fun h0 => addr_plain (by simpa using (h2 0 h0).2 0 _ rfl)
    have hlm : l.length = (l.map Prod.fst).length := by simp
    refine ⟨l.map Prod.fst, some a, cap, by rw [hlm], by rw [← hlm]; exact hl, fun h0 b hb => .inl ?_, fun k hk => ?_⟩
    · have h0 : 0 < l.length := h0
      have hc := (h2 0 h0).2 0 _ rfl
      have hs := hsp h0
      obtain ⟨b', off, sp⟩ := a
      obtain rfl : sp = none := hs
      cases hb
      rw [Addr.add_lit] at hc
      exact World.block_lt_of_cell? _ _ hc
    · have hk' : k < l.length := by rw [hlm]; exact hk
      have hs := hsp (by omega)
      obtain ⟨b, off, sp⟩ := a
      obtain rfl : sp = none := hs
      obtain ⟨h3, h4⟩ := h2 k hk'
      have hc := h4 0 _ rfl
      rw [Addr.add_lit] at hc
      refine ⟨b, off, trC (l[k]'hk').1 (l[k]'hk').2, rfl, World.block_lt_of_cell? _ _ hc, ⟨_, by rw [List.getElem_map]; exact h3, by rw [List.getElem_map]⟩, fun j c hj => ?_⟩
      have := h4 j c hj
      rw [Addr.add_lit] at this
      rw [← this, Nat.add_assoc]; rfl
set_option maxRecDepth 100000 in
theorem open_nodesC (h : DataW.trod enc Tryz.prog w base spare held fuel 22 [u] = some x) : ∃ l, BrIn w.heap.size w u l := by
  rcases open_fields Tryz.underlying22 Tryz.underlying41 (by kernel_rfl) (by kernel_rfl) h with h0 | ⟨a, len, cap, m, hcs, hl, hm, hi⟩
  · simp at h0; subst h0; exact ⟨[], ListIn.nil _ _ _ _⟩
  · simp at hcs; subst hcs
    obtain ⟨l, h1, h2⟩ := choose_list (p := fun i (y : BrN × Value × Value) => AttIn w.heap.size w y.2.1 y.1.ats ∧ StrIn w.heap.size w y.2.2 y.1.red ∧ ∀ j c, (brC y.1 y.2.1 y.2.2)[j]? = some c → w.cell? (a.add (i * 10 + j)) = some c) len (by
      intro i hil
      obtain ⟨n, hf⟩ := hi i (by omega)
      obtain ⟨v0, y0, hc0, ht0⟩ := hf 0 _ rfl
      obtain ⟨v1, y1, hc1, ht1⟩ := hf 1 _ rfl
      obtain ⟨v2, y2, hc2, ht2⟩ := hf 2 _ rfl
      obtain ⟨v3, y3, hc3, ht3⟩ := hf 3 _ rfl
      obtain ⟨v4, y4, hc4, ht4⟩ := hf 4 _ rfl
      obtain ⟨v5, y5, hc5, ht5⟩ := hf 5 _ rfl
      obtain ⟨v6, y6, hc6, ht6⟩ := hf 6 _ rfl
      obtain ⟨v7, y7, hc7, ht7⟩ := hf 7 _ rfl
      obtain ⟨v8, y8, hc8, ht8⟩ := hf 8 _ rfl
      obtain ⟨v9, y9, hc9, ht9⟩ := hf 9 _ rfl
      obtain ⟨s0, e0, _⟩ := DataW.trod_int Tryz.underlying3 ht0
      obtain ⟨s1, e1, _⟩ := DataW.trod_string Tryz.underlying9 ht1
      obtain ⟨s2, e2, _⟩ := DataW.trod_int Tryz.underlying3 ht2
      obtain ⟨s3, e3⟩ := open_attrsC ht3
      obtain ⟨s4, e4, _⟩ := DataW.trod_string Tryz.underlying9 ht4
      obtain ⟨s5, e5, _⟩ := DataW.trod_int Tryz.underlying3 ht5
      obtain ⟨s6, e6, _⟩ := DataW.trod_int Tryz.underlying3 ht6
      obtain ⟨s7, e7, _⟩ := DataW.trod_int Tryz.underlying3 ht7
      obtain ⟨s8, e8, _⟩ := DataW.trod_bool Tryz.underlying4 ht8
      obtain ⟨s9, e9⟩ := open_strsC ht9
      simp only [List.cons.injEq, and_true] at e0 e1 e2 e4 e5 e6 e7 e8
      subst e0 e1 e2 e4 e5 e6 e7 e8
      refine ⟨(⟨⟨s0, s1, s2, s3, s4, s5, s6, s7⟩, s8, s9⟩, v3, v9), nb_attrs e3, nb_strs e9, fun j c hj => ?_⟩
      match j, hj with
      | 0, hj => cases hj; exact hc0
      | 1, hj => cases hj; exact hc1
      | 2, hj => cases hj; exact hc2
      | 3, hj => cases hj; exact hc3
      | 4, hj => cases hj; exact hc4
      | 5, hj => cases hj; exact hc5
      | 6, hj => cases hj; exact hc6
      | 7, hj => cases hj; exact hc7
      | 8, hj => cases hj; exact hc8
      | 9, hj => cases hj; exact hc9
      | j + 10, hj => simp [brC] at hj)
    subst h1
    have hsp : 0 < l.length → a.spot = none := fun h0 => addr_plain (by simpa using (h2 0 h0).2.2 0 _ rfl)
    have hlm : l.length = (l.map Prod.fst).length := by simp
    refine ⟨l.map Prod.fst, some a, cap, by rw [hlm], by rw [← hlm]; exact hl, fun h0 b hb => .inl ?_, fun k hk => ?_⟩
    · have h0 : 0 < l.length := h0
      have hc := (h2 0 h0).2.2 0 _ rfl
      have hs := hsp h0
      obtain ⟨b', off, sp⟩ := a
      obtain rfl : sp = none := hs
      cases hb
      rw [Addr.add_lit] at hc
      exact World.block_lt_of_cell? _ _ hc
    · have hk' : k < l.length := by rw [hlm]; exact hk
      have hs := hsp (by omega)
      obtain ⟨b, off, sp⟩ := a
      obtain rfl : sp = none := hs
      obtain ⟨h3, h3', h4⟩ := h2 k hk'
      have hc := h4 0 _ rfl
      rw [Addr.add_lit] at hc
      refine ⟨b, off, brC (l[k]'hk').1 (l[k]'hk').2.1 (l[k]'hk').2.2, rfl, World.block_lt_of_cell? _ _ hc, ⟨_, _, by rw [List.getElem_map]; exact h3, by rw [List.getElem_map]; exact h3', by rw [List.getElem_map]⟩, fun j c hj => ?_⟩
      have := h4 j c hj
      rw [Addr.add_lit] at this
      rw [← this, Nat.add_assoc]; rfl
end
set_option maxRecDepth 100000 in
theorem open_trees {H : Type} {enc : TypeId × Value → H} {w : World} {base : Nat} {spare : Nat → Bool} {held : Bool} {v : Value} {d : DataW H} {p : List MemPlace}
    (hval : Value.okWide Tryz.prog w .any base 25 v) (h : DataW.Trod enc Tryz.prog w 0 spare held 25 v d p) : ∃ l, TrIn w.heap.size w v l := by
  obtain ⟨a0, len0, cap0, rfl⟩ := okWide_slice Tryz.underlying25 hval
  obtain ⟨fuel, hf⟩ := h
  exact open_treesC (by simpa [Value.cells] using hf)
set_option maxRecDepth 100000 in
theorem open_nodes {H : Type} {enc : TypeId × Value → H} {w : World} {base : Nat} {spare : Nat → Bool} {held : Bool} {v : Value} {d : DataW H} {p : List MemPlace}
    (hval : Value.okWide Tryz.prog w .any base 22 v) (h : DataW.Trod enc Tryz.prog w 0 spare held 22 v d p) : ∃ l, BrIn w.heap.size w v l := by
  obtain ⟨a0, len0, cap0, rfl⟩ := okWide_slice Tryz.underlying22 hval
  obtain ⟨fuel, hf⟩ := h
  exact open_nodesC (by simpa [Value.cells] using hf)
end Go.Proofs.YtiliglpolcpnbaaGreatDoor
