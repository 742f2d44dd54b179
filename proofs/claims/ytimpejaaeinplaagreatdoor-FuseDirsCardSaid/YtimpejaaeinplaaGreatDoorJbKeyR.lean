/- KeyR -/
import Derived.Test.YtimpejaaeinplaaGreatDoorJI1
import Derived.Test.YtimpejaaeinplaaGreatDoorJKeys
namespace Go.Proofs.YtimpejaaeinplaaGreatDoor
open Go.RowKit
theorem mr_yes {n : Nat} {s : ByteArray} (h1 : 1 <= n) (h4 : n <= 4) (h : isMk n s = true) : mrS n s = dP n ++ s /\ mrE n s = 0 := by
 have c : (1 : Int) <= n /\ (n : Int) <= 4 := by omega
 unfold mrS mrE; rw [Int.toNat_natCast]; simp [c, h]
end Go.Proofs.YtimpejaaeinplaaGreatDoor
