/- limewashref03.Parse: the pieces of a text between the slashes. -/
/- limewashref21.turned, booked. -/
import Derived.Test.YtiliglpolcpnbaaGreatDoorQParP
import Derived.Test.YtiliglpolcpnbaaGreatDoorQPthP
import Derived.Test.YtiliglpolcpnbaaGreatDoorQOrA
import Derived.Test.YtiliglpolcpnbaaGreatDoorQOvA
namespace Go.Proofs.YtiliglpolcpnbaaGreatDoor
open Go.RowKit

/-- What the loop of Parse knows: the pieces so far, where the next one begins, and how far it has been looked at. -/
structure ParSt (s : ByteArray) (out : List ByteArray) (fr i : Nat) : Prop where
  lo : 1 ≤ i
  hi : i ≤ s.size + 1
  num : out.length + 1 ≤ i
  mid : i ≤ s.size → 1 ≤ fr ∧ fr ≤ i ∧ cutsB ((L s).drop 1) = out ++ cutsB ((L s).drop fr) ∧ (47 : UInt8) ∉ ((L s).drop fr).take (i - fr)
  fin : i = s.size + 1 → cutsB ((L s).drop 1) = out
end Go.Proofs.YtiliglpolcpnbaaGreatDoor

namespace Go.Proofs.YtiliglpolcpnbaaGreatDoor
open Go.RowKit

end Go.Proofs.YtiliglpolcpnbaaGreatDoor
