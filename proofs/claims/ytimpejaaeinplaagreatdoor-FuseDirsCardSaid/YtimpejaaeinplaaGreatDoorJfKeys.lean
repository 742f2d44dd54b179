/- Keys KeyB LstP -/
import Derived.Test.YtimpejaaeinplaaGreatDoorJI0
import Derived.Test.YtimpejaaeinplaaGreatDoorShelf
import Derived.Test.YtimpejaaeinplaaGreatDoorJKeys
import Derived.Test.YtimpejaaeinplaaGreatDoorJfEsc
namespace Go.Proofs.YtimpejaaeinplaaGreatDoor
open Go.RowKit
theorem refList (d : Int) (v : Value) (l : List Attr) (w : World) (hv : aA w v l) (hm : ∀ a ∈ l, a.1.size <= 1000000 /\ a.2.size <= 1000000) :
  RetB Tryz.prog 150 #[.int .i64 d, v] w (.int .i64 (listE d l)) := by
 unfold RetB
 have HM := hQq hm; clear hm
 have HV := hQq hv; clear hv
 by_cases h1 : 1 <= d /\ d <= 4
 ·rw [listE_in (by omega) (by omega)]
  have h3 : decide (1 <= d /\ d <= 4) = true := decide_eq_true h1
  go_enter Tryz.func150, Tryz.ntmps150
  go_wp2_with (first | (go_at_call 193; refine (refDialect _ _).mono ?_; rintro e w' ⟨rfl, rfl⟩) | (go_at_call 71; refine (refCheck _ _ _ HV.out HM.out).mono ?_; rintro e w' ⟨rfl, hb⟩))
  go_ret
  exact ⟨rfl, hb⟩
 ·rw [listE_out h1]
  have h3 : decide (1 <= d /\ d <= 4) = false := decide_eq_false h1
  go_enter Tryz.func150, Tryz.ntmps150
  go_wp2_with (first | (go_at_call 193; refine (refDialect _ _).mono ?_; rintro e w' ⟨rfl, rfl⟩))
  go_ret
  exact ⟨rfl, bR _ _⟩
theorem refKeyE (d : Int) (s : ByteArray) (w : World) (hs : s.size <= 1000000) : RetB Tryz.prog 194 #[.int .i64 d, .string s] w (.int .i64 (kE d s)) := by
 unfold RetB
 by_cases h1 : 1 <= d /\ d <= 4
 ·rw [show kE d s = chkE [(s, ⟨#[]⟩)] from if_pos h1]
  have h3 : decide (1 <= d /\ d <= 4) = true := decide_eq_true h1
  go_enter Tryz.func194, Tryz.ntmps194
  go_wp2_with (first | (go_at_call 193; refine (refDialect _ _).mono ?_; rintro e w' ⟨rfl, rfl⟩) | (go_at_call 71; refine (refCheck _ _ _ (attrsAt_one w s ⟨#[]⟩ 45) (one_small hs)).mono ?_; rintro e w' ⟨rfl, hb⟩))
  go_ret
  exact ⟨rfl, Ext.trans (eA _ _) hb⟩
 ·rw [show kE d s = 2 from if_neg h1]
  have h3 : decide (1 <= d /\ d <= 4) = false := decide_eq_false h1
  go_enter Tryz.func194, Tryz.ntmps194
  go_wp2_with (first | (go_at_call 193; refine (refDialect _ _).mono ?_; rintro e w' ⟨rfl, rfl⟩))
  go_ret
  exact ⟨rfl, bR _ _⟩
def IsMarks (n : Nat) (e : Ending) (w' : World) : Prop := ∃ v, e = .returned v /\ StrsAt w' v ((mkW n).map ofL)
theorem mkW3 : mkW 3 = [] := by decide +kernel
theorem refPrefix (n : Nat) (w : World) (h1 : 1 <= n) (h4 : n <= 4) : RetB Tryz.prog 195 #[.int .i64 n] w (.string (dP n)) := by
 unfold RetB
 rcases four h1 h4 with rfl | rfl | rfl | rfl
 all_goals
  clear h1 h4
  go_enter Tryz.func195, Tryz.ntmps195
  go_wp2
  go_ret
  exact ⟨rfl, eA _ _⟩
theorem refInfix (n : Nat) (w : World) (h1 : 1 <= n) (h4 : n <= 4) : RetB Tryz.prog 198 #[.int .i64 n] w (.string (dI n)) := by
 unfold RetB
 rcases four h1 h4 with rfl | rfl | rfl | rfl
 all_goals
  clear h1 h4
  go_enter Tryz.func198, Tryz.ntmps198
  go_wp2
  go_ret
  exact ⟨rfl, eA _ _⟩
theorem refMarks (n : Nat) (w : World) (h1 : 1 <= n) (h4 : n <= 4) : Calls Tryz.prog 197 #[.int .i64 n] w fun e w' => IsMarks n e w' /\ Below w.heap.size w w' := by
 rcases four h1 h4 with rfl | rfl | rfl | rfl
 ·have hA := strsAt_new w (mkW 1) 9
  have HA := hQq hA; clear hA h1 h4
  go_enter Tryz.func197, Tryz.ntmps197
  go_wp2
  go_ret
  exact ⟨⟨_, rfl, by have := HA.out; rw [mkW1] at this; rw [mkW1]; exact this⟩, eA _ _⟩
 ·have hA := strsAt_new w (mkW 2) 9
  have HA := hQq hA; clear hA h1 h4
  go_enter Tryz.func197, Tryz.ntmps197
  go_wp2
  go_ret
  exact ⟨⟨_, rfl, by have := HA.out; rw [mkW2] at this; rw [mkW2]; exact this⟩, eA _ _⟩
 ·clear h1 h4
  go_enter Tryz.func197, Tryz.ntmps197
  go_wp2
  go_ret
  exact ⟨⟨_, rfl, by rw [mkW3]; exact ⟨none, 0, rfl, Nat.le_refl _, fun k hk => absurd hk (by simp)⟩⟩, bR _ _⟩
 ·have hA := strsAt_new w (mkW 4) 9
  have HA := hQq hA; clear hA h1 h4
  go_enter Tryz.func197, Tryz.ntmps197
  go_wp2
  go_ret
  exact ⟨⟨_, rfl, by have := HA.out; rw [mkW4] at this; rw [mkW4]; exact this⟩, eA _ _⟩
theorem srtA_snoc (l : List Attr) (x : Attr) : srtA (l ++ [x]) = putA (srtA l) x := by unfold srtA; rw [List.foldl_append]; rfl
end Go.Proofs.YtimpejaaeinplaaGreatDoor
