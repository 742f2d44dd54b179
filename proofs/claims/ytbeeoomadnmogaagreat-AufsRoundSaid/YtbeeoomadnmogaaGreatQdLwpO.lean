/- LwpO -/
import Derived.Test.YtbeeoomadnmogaaGreatQI6
import Derived.Test.YtbeeoomadnmogaaGreatQdOvD
import Derived.Test.YtbeeoomadnmogaaGreatQPthW
namespace Go.Proofs.YtbeeoomadnmogaaGreat
open Go.RowKit
theorem zLK {n:Nat} (hn:n<=500) {b:List BrN} (h:zXV n b):zBr b:=by
 have hl:=h.len
 refine zRG (by omega) fun x hx=>?_
 obtain⟨h1,h2,h3,h4,h5⟩:=h.ok x hx
 exact⟨by omega,by have:=h1.1;omega,fun a ha=>by have:=h1.2 a ha;omega,by omega,fun s hs=>by have:=h5 s hs;omega⟩
end Go.Proofs.YtbeeoomadnmogaaGreat
