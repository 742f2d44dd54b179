/- LwpO -/
import Derived.Test.YtbeeoomadnmogaaGreatQI6
import Derived.Test.YtbeeoomadnmogaaGreatQPthW
namespace Go.Proofs.YtbeeoomadnmogaaGreat
open Go.RowKit
theorem zLJ {n:Nat} (hn:n<=500) {t:List TrN} (h:zXE n t):zAP t:=by
 intro x hx
 obtain⟨h1,h2,_⟩:=h.ok x hx
 exact⟨by omega,fun a ha=>by have:=h1.2 a ha;omega,by have:=h1.1;omega⟩
end Go.Proofs.YtbeeoomadnmogaaGreat
