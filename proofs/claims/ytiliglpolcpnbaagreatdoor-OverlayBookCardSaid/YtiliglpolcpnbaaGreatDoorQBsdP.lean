/- Plain laws of the dialect bsd: what a node's attributes are written as, and read as; what Encode and Decode return. -/
/- Plain laws of bsd's one mark. -/
import Derived.Test.YtiliglpolcpnbaaGreatDoorQEscB
import Derived.Test.YtiliglpolcpnbaaGreatDoorQBrnH
import Derived.Test.YtiliglpolcpnbaaGreatDoorQSetW
namespace Go.Proofs.YtiliglpolcpnbaaGreatDoor
open Go.RowKit

/-- The word of the mark; its name. -/
def opqW : ByteArray := ofL [111, 112, 97, 113, 117, 101]


end Go.Proofs.YtiliglpolcpnbaaGreatDoor

namespace Go.Proofs.YtiliglpolcpnbaaGreatDoor
open Go.RowKit

end Go.Proofs.YtiliglpolcpnbaaGreatDoor
