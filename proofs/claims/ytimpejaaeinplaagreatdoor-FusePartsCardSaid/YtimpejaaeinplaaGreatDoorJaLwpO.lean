/- LwpO -/
import Derived.Test.YtimpejaaeinplaaGreatDoorJI6
import Derived.Test.YtimpejaaeinplaaGreatDoorJPthW
namespace Go.Proofs.YtimpejaaeinplaaGreatDoor
open Go.RowKit
theorem fewB_smallO {n : Nat} (hn : n <= 500) {b : List BrN} (h : FewB n b) : SmallB b := by
 have hl := h.len
 refine small_of (by omega) fun x hx => ?_
 obtain ⟨h1, h2, h3, h4, h5⟩ := h.ok x hx
 exact ⟨by omega, by have := h1.1; omega, fun a ha => by have := h1.2 a ha; omega, by omega, fun s hs => by have := h5 s hs; omega⟩
theorem gen_nil {b : List BrN} {E : Nat -> Int} {X : Nat -> TrN} (h : (genT b E X).2.2 ≠ 0) : (genT b E X).1 = [] := by
 by_cases h1 : brEr b = 0
 case neg => rw [gen_br h1]
 cases hf : findB (fun i => E i != 0) 0 b.length with
 | some i => unfold genT; rw [if_neg (by simp [h1]), hf]
 | none => exact absurd (by rw [gen_ok h1 (fun j hj => bne_eq_false_iff_eq.1 (findB_none_iff _ _ hf j (Nat.zero_le _) (by omega)))]) h
theorem tree_bd {t : List TrN} (h : treeE t = 0) : t.length <= 1000 /\ ∀ x ∈ t, x.ats.length <= 6 := by
 refine ⟨by have := (treeE_zero h).2.1; omega, fun x hx => ?_⟩
 obtain ⟨k, hk, rfl⟩ := List.getElem_of_mem hx
 have := getT_chk h hk
 rw [getT_at t k hk] at this
 exact (chk_parts this).1
theorem OwnL.inS {P : Program} {α : Type} {C : Cd α} {B : Nat} {w : World} {v : Value} {l : List α} (h : OwnL C B w v l) (K : CdOk P C) : ∃ B', B' <= w.heap.size /\ ListIn C B' w v l := by
 by_cases hl : 0 < l.length
 ·obtain ⟨a, cap, rfl⟩ := h.form
  obtain ⟨g, _, h1, h2, _⟩ := h.addr hl
  exact ⟨B, by omega, h.in K⟩
 ·obtain rfl : l = [] := List.length_eq_zero_iff.1 (by omega)
  obtain ⟨a, cap, rfl⟩ := h.form
  exact ⟨0, Nat.zero_le _, a, cap, rfl, Nat.zero_le _, fun h0 => absurd h0 (by simp [lenV]), fun k hk => absurd hk (by simp)⟩
end Go.Proofs.YtimpejaaeinplaaGreatDoor
