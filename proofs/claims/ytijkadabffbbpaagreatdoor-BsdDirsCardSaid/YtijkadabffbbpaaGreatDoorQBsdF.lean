/- limewashref24.Encode. -/
import Derived.Test.YtijkadabffbbpaaGreatDoorQBsdE
namespace Go.Proofs.YtijkadabffbbpaaGreatDoor
open Go.RowKit
end Go.Proofs.YtijkadabffbbpaaGreatDoor
