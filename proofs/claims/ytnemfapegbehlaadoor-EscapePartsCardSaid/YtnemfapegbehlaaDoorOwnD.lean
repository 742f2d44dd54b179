/- A row of attributes that the call owns: its cells. -/
import Derived.Test.YtnemfapegbehlaaDoorSortP
import Derived.Test.YtnemfapegbehlaaDoorOwn
namespace Go.Proofs.YtnemfapegbehlaaDoor
open Go.RowKit

/-- An attribute's two cells; those of a list. -/
def encA (a : Attr) : List Value := [.string a.1, .string a.2]
def attC (l : List Attr) : List Value := l.flatMap encA
def cmpA (a b : Attr) : Int := cmpS (L a.1) (L b.1)
theorem attC_cons (a : Attr) (r : List Attr) : attC (a :: r) = .string a.1 :: .string a.2 :: attC r := rfl
theorem attC_append (l m : List Attr) : attC (l ++ m) = attC l ++ attC m := by simp [attC]
theorem attC_length (l : List Attr) : (attC l).length = l.length * 2 := by
  induction l with
  | nil => rfl
  | cons a r ih => rw [attC_cons]; simp [ih]; omega
theorem attC_get (l : List Attr) (j : Nat) : (attC l)[j]? = (l[j / 2]?).bind fun a => (encA a)[j % 2]? := by
  induction l generalizing j with
  | nil => simp [attC]
  | cons a r ih =>
    rw [attC_cons]
    match j with
    | 0 => simp [encA]
    | 1 => simp [encA]
    | j + 2 =>
      have h1 : (j + 2) / 2 = j / 2 + 1 := by omega
      have h2 : (j + 2) % 2 = j % 2 := by omega
      rw [h1, h2, List.getElem?_cons_succ, List.getElem?_cons_succ, List.getElem?_cons_succ, ih]
/-- A row of attributes that the call owns. -/
def OwnA (B : Nat) (w : World) (v : Value) (l : List Attr) : Prop := w.ownsRow B 42 2 v l.length (attC l)
theorem OwnA.at {B : Nat} {w : World} {v : Value} {l : List Attr} (h : OwnA B w v l) : AttrsAt w v l := by
  have hh := h
  rcases h.2 with ⟨rfl, h0⟩ | ⟨g, cap, cur, rfl, hb, hg, hnc, hcm, hcs, htake⟩
  · obtain rfl : l = [] := List.length_eq_zero_iff.1 h0
    exact AttrsAt.nil _ _ _
  · refine ⟨_, _, rfl, hnc, fun k hk => ⟨g, 0, rfl, ?_, ?_, ?_⟩⟩
    · rcases Nat.lt_or_ge g w.heap.size with x | x
      · exact x
      · rw [Array.getElem?_eq_none x] at hg; cases hg
    · have := World.ownsRow.cellAt hh (k * 2) (by omega)
      rw [Nat.zero_add, this, attC_get, show k * 2 / 2 = k by omega, show k * 2 % 2 = 0 by omega, List.getElem?_eq_getElem hk]; rfl
    · have := World.ownsRow.cellAt hh (k * 2 + 1) (by omega)
      rw [show 0 + k * 2 + 1 = k * 2 + 1 by omega, this, attC_get, show (k * 2 + 1) / 2 = k by omega, show (k * 2 + 1) % 2 = 1 by omega, List.getElem?_eq_getElem hk]; rfl
end Go.Proofs.YtnemfapegbehlaaDoor
