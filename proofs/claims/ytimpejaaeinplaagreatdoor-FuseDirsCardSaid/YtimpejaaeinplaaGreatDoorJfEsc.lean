/- Esc EscB -/
import Derived.Test.YtimpejaaeinplaaGreatDoorJI0
import Derived.Test.YtimpejaaeinplaaGreatDoorJBase
namespace Go.Proofs.YtimpejaaeinplaaGreatDoor
open Go.RowKit
theorem refDialect (d : Int) (w : World) : Ret Tryz.prog 193 #[.int .i64 d] w (.bool (decide (1 <= d /\ d <= 4))) := by
 unfold Ret
 by_cases h1 : 1 <= d
 ·by_cases h2 : d <= 4
  ·go_enter Tryz.func193, Tryz.ntmps193
   go_wp2
   go_ret
   exact ⟨by simp [h1, h2], rfl⟩
  ·go_enter Tryz.func193, Tryz.ntmps193
   go_wp2
   go_ret
   exact ⟨by simp [h2], rfl⟩
 ·rw [show decide (1 <= d /\ d <= 4) = false from decide_eq_false (by omega)]
  go_enter Tryz.func193, Tryz.ntmps193
  go_wp2
  go_ret
  exact ⟨rfl, rfl⟩
theorem refBegins (s t : ByteArray) (w : World) (_hs : s.size <= 1000000) : Ret Tryz.prog 196 #[.string s, .string t] w (.bool (hasP s t)) := by
 unfold Ret
 by_cases h : t.size <= s.size
 ·have h1 := hasP_long h
  go_enter Tryz.func196, Tryz.ntmps196
  go_wp2
  go_ret
  exact ⟨rfl, rfl⟩
 ·have h1 := hasP_short h
  go_enter Tryz.func196, Tryz.ntmps196
  go_wp2
  go_ret
  exact ⟨by simp [h1], rfl⟩
theorem extract_le (s : ByteArray) (k : Nat) : (s.extract k s.size).size <= s.size := by
 have := size_L s; rw [size_L, L_drop, List.length_drop]; omega
end Go.Proofs.YtimpejaaeinplaaGreatDoor
