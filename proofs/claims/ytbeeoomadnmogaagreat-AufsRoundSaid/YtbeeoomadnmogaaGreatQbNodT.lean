/- NodT -/
import Derived.Test.YtbeeoomadnmogaaGreatQI2
import Derived.Test.YtbeeoomadnmogaaGreatQOwnA
namespace Go.Proofs.YtbeeoomadnmogaaGreat
open Go.RowKit
theorem zRC {B:Nat} {w:World} {v:Value} {l:List ByteArray} (h:zBY w v l) (hn:Nb B w v 9):zCu B w v l:=by
 obtain⟨a,cap,rfl,hcap,hc⟩:=h
 refine⟨a,cap,rfl,hcap,hn,fun k hk=>?_⟩
 obtain⟨b,off,h1,h2,h3⟩:=hc k hk
 refine⟨b,off,[.string (l[k]'hk)],h1,h2,rfl,fun j c hj=>?_⟩
 match j,hj with
 | 0,hj=>cases hj;rw [Nat.add_zero,show cdS.n=1 from rfl,Nat.mul_one];exact h3
 | j+1,hj=>simp at hj
end Go.Proofs.YtbeeoomadnmogaaGreat
