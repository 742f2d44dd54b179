/- limewashref21.node. -/
/- limewashref21.Decode, Good. -/
import Derived.Test.YtiliglpolcpnbaaGreatDoorQOrP
import Derived.Test.YtiliglpolcpnbaaGreatDoorQOvX
import Derived.Test.YtiliglpolcpnbaaGreatDoorQOvC
namespace Go.Proofs.YtiliglpolcpnbaaGreatDoor
open Go.RowKit

end Go.Proofs.YtiliglpolcpnbaaGreatDoor

namespace Go.Proofs.YtiliglpolcpnbaaGreatDoor
open Go.RowKit

end Go.Proofs.YtiliglpolcpnbaaGreatDoor
