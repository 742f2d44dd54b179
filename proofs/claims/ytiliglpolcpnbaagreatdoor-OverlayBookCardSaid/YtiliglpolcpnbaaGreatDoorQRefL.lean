/- The reference's Attrs. -/
/- The reference's Parts. -/
import Derived.Test.YtiliglpolcpnbaaGreatDoorQRefA
import Derived.Test.YtiliglpolcpnbaaGreatDoorQKeys
import Derived.Test.YtiliglpolcpnbaaGreatDoorQEscB
namespace Go.Proofs.YtiliglpolcpnbaaGreatDoor
open Go.RowKit

end Go.Proofs.YtiliglpolcpnbaaGreatDoor

namespace Go.Proofs.YtiliglpolcpnbaaGreatDoor
open Go.RowKit

end Go.Proofs.YtiliglpolcpnbaaGreatDoor
