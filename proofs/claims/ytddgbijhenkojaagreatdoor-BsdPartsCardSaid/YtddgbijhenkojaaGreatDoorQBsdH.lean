/- limewashref24.Decode. -/
import Derived.Test.YtddgbijhenkojaaGreatDoorQBsdG
namespace Go.Proofs.YtddgbijhenkojaaGreatDoor
open Go.RowKit
end Go.Proofs.YtddgbijhenkojaaGreatDoor
