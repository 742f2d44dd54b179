/- LwpF -/
import Derived.Test.YtimpejaaeinplaaGreatDoorJI6
import Derived.Test.YtimpejaaeinplaaGreatDoorJaLwpO
import Derived.Test.YtimpejaaeinplaaGreatDoorJeOvS
namespace Go.Proofs.YtimpejaaeinplaaGreatDoor
open Go.RowKit
theorem feL_bd (b : List BrN) : (feL b).length <= 1000 /\ ∀ x ∈ feL b, x.ats.length <= 6 := by
 by_cases h : feF b = 0
 ·exact tree_bd (fe_back h).1
 ·have : feL b = [] := gen_nil h
  rw [this]; exact ⟨Nat.zero_le _, fun x hx => by cases hx⟩
theorem feL_small {b : List BrN} (hs : SmallB b) : SmallT (feL b) := by
 by_cases h : feF b = 0
 case neg =>
  have : feL b = [] := gen_nil h
  rw [this]; intro x hx; cases hx
 have ht := (fe_back h).1
 obtain ⟨h1, h2, h3, h4⟩ := fe_parts h
 intro x hx
 obtain ⟨k, hk, rfl⟩ := List.getElem_of_mem hx
 have hc := getT_chk ht hk
 rw [getT_at _ k hk] at hc
 refine ⟨?_, (fun a ha => by have := size_of_chk hc a ha; omega), by have := (chk_parts hc).1; omega⟩
 have hkb : k < b.length := by rw [h3] at hk; simpa using hk
 have hg : (feL b)[k]'hk = feX b k := by simp only [h3, List.getElem_map, List.getElem_range]
 rw [hg, (fe_says h hkb).nm]
 have hm : (getB b k).toTrN ∈ plT b := by
  rw [<- getT_plT b k hkb, getT_at _ k (by rw [plT_len]; exact hkb)]; exact List.getElem_mem _
 exact (hs.tree _ hm).1
end Go.Proofs.YtimpejaaeinplaaGreatDoor
