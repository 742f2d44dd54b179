/- FarO -/
import Derived.Test.YtbeeoomadnmogaaGreatQI5
import Derived.Shelf.Spec.SlicesInsertGrow
import Derived.Shelf.SlSortCmp.NoneTotal
import Derived.Test.YtbeeoomadnmogaaGreatQNodA
namespace Go.Proofs.YtbeeoomadnmogaaGreat
open Go.RowKit
def zWz (P:Prop) (w:World) (e:Ending) (w':World):Prop:=∃ r:Bool,e= .returned (.bool r)/\(r=false->P)/\Ext w w'
end Go.Proofs.YtbeeoomadnmogaaGreat
