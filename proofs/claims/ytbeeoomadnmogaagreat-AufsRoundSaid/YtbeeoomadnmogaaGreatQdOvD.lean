/- OvD -/
import Derived.Test.YtbeeoomadnmogaaGreatQI5
import Derived.Shelf.Spec.SlicesInsertGrow
import Derived.Shelf.SlSortCmp.NoneTotal
import Derived.Test.YtbeeoomadnmogaaGreatQChkB
namespace Go.Proofs.YtbeeoomadnmogaaGreat
open Go.RowKit
theorem zRG {b:List BrN} (hl:b.length<=1000) (h:∀ x ∈ b,x.nm.size<=1000000/\x.ats.length<=1000/\(∀ a ∈ x.ats,a.1.size<=1000000/\a.2.size<=1000000)/\x.red.length<=1000/\∀ s ∈ x.red,s.size<=1000000):zBr b where
 tree:=fun y hy=>by
  unfold plT at hy
  obtain⟨x,hx,rfl⟩:=List.mem_map.1 hy
  obtain⟨h1,h2,h3,_⟩:=h x hx
  exact⟨h1,h3,by show x.ats.length<=_;omega⟩
 ats:=fun x hx=>(h x hx).2.1
 red:=fun x hx=>(h x hx).2.2.2
 len:=hl
end Go.Proofs.YtbeeoomadnmogaaGreat
