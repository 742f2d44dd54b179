/- bsd.write, bsd.read, and the reference's. -/
/- bsd.read, and the reference's. -/
import Derived.Test.YtiliglpolcpnbaaGreatDoorQBsdP
import Derived.Test.YtiliglpolcpnbaaGreatDoorQSetW
import Derived.Test.YtiliglpolcpnbaaGreatDoorQSrt
import Derived.Test.YtiliglpolcpnbaaGreatDoorQRefL
namespace Go.Proofs.YtiliglpolcpnbaaGreatDoor
open Go.RowKit

theorem size_of_chk {l : List Attr} (h : chkE l = 0) : ∀ a ∈ l, a.1.size ≤ 40 ∧ a.2.size ≤ 200 := by
  intro a ha
  obtain ⟨h1, h2⟩ := alone_key ((chk_parts h).2.1 a ha)
  have := keyE_len h1
  rw [← size_L] at this
  exact ⟨this, h2⟩
end Go.Proofs.YtiliglpolcpnbaaGreatDoor

namespace Go.Proofs.YtiliglpolcpnbaaGreatDoor
open Go.RowKit
end Go.Proofs.YtiliglpolcpnbaaGreatDoor
