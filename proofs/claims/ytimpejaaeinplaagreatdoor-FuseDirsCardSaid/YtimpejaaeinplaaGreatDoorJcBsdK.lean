/- BsdK -/
import Derived.Test.YtimpejaaeinplaaGreatDoorJI5
import Derived.Shelf.Spec.SlicesInsertGrow
import Derived.Shelf.SlSortCmp.NoneTotal
import Derived.Handy
import Derived.Test.YtimpejaaeinplaaGreatDoorJOwnA
namespace Go.Proofs.YtimpejaaeinplaaGreatDoor
open Go.RowKit
def DirP (B : Nat) (w : World) (d : DiN) (n er : Int) (e : Ending) (w' : World) : Prop := (∃ v', e = .returned (.tuple #[v', .int .i64 n, .int .i64 er]) /\ DirIn B w' v' d) /\ Ext w w'
end Go.Proofs.YtimpejaaeinplaaGreatDoor
