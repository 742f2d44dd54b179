/- An argument that is a list of attributes, or one attribute. -/
import Derived.Test.YtnemfapegbehlaaDoorData
import Derived.Deep.Slices
import Derived.Deep.Fields
import Derived.ChangeSame
import Derived.Lib.SmallJoins
namespace Go.Proofs.YtnemfapegbehlaaDoor
open Go.ChangeShapes Go.WideShapes Go.Deep Go.RowKit

section
variable {H : Type} {enc : TypeId × Value → H} {P : Program} {w : World} {base : Nat} {spare : Nat → Bool} {held : Bool}
/-- A slice of structs: each field's cell, and how it is read. -/
theorem open_fields {t e : TypeId} {fs : Array Field} {fuel : Nat} {cs : List Value} {x : DataW H × List MemPlace} (ht : P.underlying t = some (.slice e)) (he : P.underlying e = some (.struct fs))
    (hone : oneCellFields P fs = true) (hC : P.cellsOf e = fs.size) (h : DataW.trod enc P w base spare held fuel t cs = some x) :
    cs = [.slice none 0 0] ∨
    ∃ (a : Addr) (len cap m : Nat), cs = [.slice (some a) len cap] ∧ len ≤ cap ∧ len ≤ m ∧
      ∀ i, i < m → ∃ n : Nat, ∀ (j : Nat) (f : Field), fs[j]? = some f → ∃ (v : Value) (y : DataW H × List MemPlace), w.cell? (a.add (i * fs.size + j)) = some v ∧ DataW.trod enc P w base spare held n f.type [v] = some y := by
  rcases open_slice ht h with h0 | ⟨a, len, cap, m, n, D, Pl, hcs, hb, hl, hm, hmm, hx, hi⟩
  · exact .inl h0.1
  · refine .inr ⟨a, len, cap, m, hcs, hl, by rw [hmm]; split <;> omega, fun i him => ?_⟩
    obtain ⟨cs', hc, ht'⟩ := hi i him
    rw [hC] at hc
    obtain ⟨ys, n', hn', hy, hlen, hyl, hf⟩ := DataW.trod_struct he ht'
    obtain ⟨_, hcl, hat⟩ := World.cells?_some hc
    refine ⟨n', fun j f hj => ?_⟩
    obtain ⟨ho, hk⟩ := hone_of hone j f hj
    have hjl : j < fs.size := (Array.getElem?_eq_some_iff.1 hj).1
    have hcell := hat j hjl
    have hv : cs'[j]? = some (cs'[j]'(by omega)) := List.getElem?_eq_getElem (by omega)
    have h1 := hf j f hj
    rw [ho, hk] at h1
    have hone' : (cs'.drop j).take 1 = [cs'[j]'(by omega)] := by
      rw [List.drop_eq_getElem_cons (by omega)]
      rfl
    rw [hone'] at h1
    have hys : ys[j]? = some (ys[j]'(by omega)) := List.getElem?_eq_getElem (by omega)
    refine ⟨_, _, ?_, h1.trans hys⟩
    rw [← Go.Deep.add_add, hcell, hv]
end
set_option maxRecDepth 100000 in
theorem open_attrs {H : Type} {enc : TypeId × Value → H} {w : World} {base : Nat} {spare : Nat → Bool} {held : Bool} {v : Value} {d : DataW H} {p : List MemPlace}
    (hval : Value.okWide Tryd.prog w .any base 33 v) (h : DataW.Trod enc Tryd.prog w 0 spare held 33 v d p) : ∃ l, AttrsAt w v l := by
  obtain ⟨a0, len0, cap0, rfl⟩ := okWide_slice Tryd.underlying33 hval
  obtain ⟨fuel, hf⟩ := h
  rcases open_fields Tryd.underlying33 Tryd.underlying42 (by kernel_rfl) (by kernel_rfl) hf with h0 | ⟨a, len, cap, m, hcs, hl, hm, hi⟩
  · simp [Value.cells] at h0
    obtain ⟨rfl, rfl, rfl⟩ := h0
    exact ⟨[], AttrsAt.nil _ _ _⟩
  · simp [Value.cells] at hcs
    obtain ⟨rfl, rfl, rfl⟩ := hcs
    have hs : ∀ i, i < len0 → ∃ x : Attr, w.cell? (a.add (i * 2)) = some (.string x.1) ∧ w.cell? (a.add (i * 2 + 1)) = some (.string x.2) := by
      intro i hil
      obtain ⟨n, hf⟩ := hi i (by omega)
      obtain ⟨v0, y0, hc0, ht0⟩ := hf 0 _ rfl
      obtain ⟨v1, y1, hc1, ht1⟩ := hf 1 _ rfl
      obtain ⟨s0, e0, _⟩ := DataW.trod_string Tryd.underlying9 ht0
      obtain ⟨s1, e1, _⟩ := DataW.trod_string Tryd.underlying9 ht1
      simp only [List.cons.injEq, and_true] at e0 e1
      subst e0 e1
      exact ⟨(s0, s1), hc0, hc1⟩
    let f : Nat → Attr := fun i => if h : i < len0 then (hs i h).choose else (⟨#[]⟩, ⟨#[]⟩)
    have hfs : ∀ i (h : i < len0), w.cell? (a.add (i * 2)) = some (.string (f i).1) ∧ w.cell? (a.add (i * 2 + 1)) = some (.string (f i).2) := by
      intro i h
      have : f i = (hs i h).choose := dif_pos h
      rw [this]; exact (hs i h).choose_spec
    refine ⟨(List.range len0).map f, some a, cap0, by simp, by simpa using hl, fun k hk => ?_⟩
    have hk' : k < len0 := by simpa using hk
    obtain ⟨c1, c2⟩ := hfs k hk'
    obtain ⟨b, off, sp⟩ := a
    have hsp : sp = none := by
      have c0 := (hfs 0 (by omega)).1
      cases sp with
      | none => rfl
      | some q =>
        simp only [World.cell?, Addr.add, Nat.zero_mul, if_true] at c0
        split at c0
        · simp at c0
        · cases c0
    subst hsp
    rw [Addr.add_lit] at c1 c2
    refine ⟨b, off, rfl, World.block_lt_of_cell? _ _ c1, ?_, ?_⟩
    · simpa using c1
    · simpa [Nat.add_assoc] using c2
set_option maxRecDepth 100000 in
/-- One attribute, by value. -/
theorem open_attr {H : Type} {enc : TypeId × Value → H} {w : World} {base : Nat} {spare : Nat → Bool} {held : Bool} {v : Value} {d : DataW H} {p : List MemPlace}
    (hval : Value.okWide Tryd.prog w .any base 42 v) (h : DataW.Trod enc Tryd.prog w 0 spare held 42 v d p) : ∃ x : Attr, v = .agg #[.string x.1, .string x.2] := by
  obtain ⟨v0, v1, y0, y1, n, rfl, _, _, t0, t1⟩ := Go.Joins.open_agg2 Tryd.underlying42 (by kernel_rfl) (by kernel_rfl) hval h
  obtain ⟨s0, e0, _⟩ := DataW.trod_string Tryd.underlying9 t0
  obtain ⟨s1, e1, _⟩ := DataW.trod_string Tryd.underlying9 t1
  simp only [List.cons.injEq, and_true] at e0 e1
  exact ⟨(s0, s1), by rw [e0, e1]⟩
end Go.Proofs.YtnemfapegbehlaaDoor
