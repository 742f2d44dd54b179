/- OpenN -/
import Derived.Test.YtbeeoomadnmogaaGreatQI6
import Derived.Test.YtbeeoomadnmogaaGreatQbNodT
namespace Go.Proofs.YtbeeoomadnmogaaGreat
open Go.ChangeShapes Go.WideShapes Go.Deep Go.RowKit
section
variable {H:Type} {enc:TypeId × Value->H} {w:World} {base:Nat} {spare:Nat->Bool} {held:Bool} {fuel:Nat} {u:Value} {x:DataW H × List MemPlace}
theorem zPA {l:List ByteArray} (h:zBY w u l):zCu w.heap.size w u l:=by
 refine zRC h fun h0 b hb=>.inl ?_
 obtain⟨a,cap,rfl,_,hc⟩:=h
 have h0:0 < l.length:=h0
 obtain⟨b',off,rfl,h1,_⟩:=hc 0 h0
 cases hb;exact h1
end
end Go.Proofs.YtbeeoomadnmogaaGreat
