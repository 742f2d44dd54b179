/- ParP -/
import Derived.Test.YtimpejaaeinplaaGreatDoorJI5
import Derived.Test.YtimpejaaeinplaaGreatDoorJPthP
namespace Go.Proofs.YtimpejaaeinplaaGreatDoor
open Go.RowKit
theorem cuts_no (l : List UInt8) : ∀ x ∈ cutsL l, (47 : UInt8) ∉ x := by
 induction l with
 | nil => intro x hx; rw [List.mem_singleton.1 hx]; simp
 | cons c r ih =>
  intro x hx
  by_cases h : c = 47
  ·subst h
   rw [cuts_slash] at hx
   rcases List.mem_cons.1 hx with rfl | hx
   ·simp
   ·exact ih x hx
  ·obtain ⟨y, q, e⟩ := cuts_cons r
   rw [cuts_ne h, e] at hx
   rw [e] at ih
   rcases List.mem_cons.1 hx with rfl | hx
   ·have := ih y (by simp)
    simp only [List.headD_cons, List.mem_cons, not_or]
    exact ⟨fun e => h e.symm, this⟩
   ·exact ih x (by simpa using .inr hx)
theorem cuts_join (l : List UInt8) : Lib.join (cutsL l) [47] = l := by
 induction l with
 | nil => rfl
 | cons c r ih =>
  obtain ⟨y, q, e⟩ := cuts_cons r
  rw [e, Lib.join_cons] at ih
  by_cases h : c = 47
  ·subst h
   rw [cuts_slash, e, Lib.join_cons]
   show (47 : UInt8) :: (y ++ Lib.joinTail [47] q) = _
   rw [ih]
  ·rw [cuts_ne h, e, Lib.join_cons]
   show c :: (y ++ Lib.joinTail [47] q) = _
   rw [ih]
theorem cuts_of {x : List UInt8} {r : List (List UInt8)} (h : ∀ y ∈ x :: r, (47 : UInt8) ∉ y) : cutsL (Lib.join (x :: r) [47]) = x :: r := by
 have h1 := cuts_join (Lib.join (x :: r) [47])
 have h2 := cuts_no (Lib.join (x :: r) [47])
 obtain ⟨y, q, e⟩ := cuts_cons (Lib.join (x :: r) [47])
 rw [e] at h1 h2 ⊢
 rw [Lib.join_cons, Lib.join_cons] at h1
 obtain ⟨e1, e2⟩ := cutL_inj (h2 y (by simp)) (h x (by simp)) (tail_sl q) (tail_sl r) h1
 rw [e1, tail_inj (fun z hz => h2 z (by simp [hz])) (fun z hz => h z (by simp [hz])) e2]
theorem text_par {p : List ByteArray} (h : pathE p = 0) (hn : p ≠ []) : parT (textP p) = (p, 0) := by
 have hL : L (textP p) = 47 :: Lib.join (p.map L) [47] := by unfold textP; rw [L_ofL]
 have h2 := (pathE_zero h).2
 cases p with
 | nil => exact absurd rfl hn
 | cons x r =>
  have hc : cutsL (L (textP (x :: r))).tail = (x :: r).map L := by
   rw [hL]
   exact cuts_of fun y hy => by
    have hy : y ∈ (x :: r).map L := hy
    obtain ⟨s, hs, rfl⟩ := List.mem_map.1 hy
    exact (nameE_parts (h2 s hs)).2.1
  have ht : (L (textP (x :: r))).tail ≠ [] := by
   rw [hL]
   show Lib.join (L x :: r.map L) [47] ≠ []
   rw [Lib.join_cons]
   intro e
   exact (nameE_parts (h2 x (by simp))).1 (List.append_eq_nil_iff.1 e).1
  have := par_ok (s := textP (x :: r)) (by rw [hL]; rfl) ht (by rw [cutsB, hc, mapOfL]; exact h)
  rw [this, cutsB, hc, mapOfL]
end Go.Proofs.YtimpejaaeinplaaGreatDoor
