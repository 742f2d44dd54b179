/- limewashref24.Decode. -/
import Derived.Test.YtijkadabffbbpaaGreatDoorQBsdG
namespace Go.Proofs.YtijkadabffbbpaaGreatDoor
open Go.RowKit
end Go.Proofs.YtijkadabffbbpaaGreatDoor
