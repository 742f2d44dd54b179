/- limewashref24.Encode. -/
import Derived.Test.YtddgbijhenkojaaGreatDoorQBsdE
namespace Go.Proofs.YtddgbijhenkojaaGreatDoor
open Go.RowKit
end Go.Proofs.YtddgbijhenkojaaGreatDoor
