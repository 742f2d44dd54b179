/- OpenN -/
import Derived.Test.YtbeeoomadnmogaaGreatQI6
import Derived.Test.YtbeeoomadnmogaaGreatQcOpenA
import Derived.Test.YtbeeoomadnmogaaGreatQOpenN
set_option maxRecDepth 100000
set_option maxHeartbeats 64000000
namespace Go.Proofs.YtbeeoomadnmogaaGreat
open Go.ChangeShapes Go.WideShapes Go.Deep Go.RowKit
section
variable {H:Type} {enc:TypeId × Value->H} {w:World} {base:Nat} {spare:Nat->Bool} {held:Bool} {fuel:Nat} {u:Value} {x:DataW H × List MemPlace}
theorem zFf (h:DataW.trod enc Tryz.prog w base spare held fuel 22 [u]=some x):∃ l,aA w u l:=by
 rcases zHs Tryz.underlying22 Tryz.underlying57 (by kernel_rfl) (by kernel_rfl) h with h0 | ⟨a,len,cap,m,hcs,hl,hm,hi⟩
 ·simp at h0;subst h0;exact⟨[],aA.nil _ _ _⟩
 ·simp at hcs;subst hcs
  obtain⟨l,h1,h2⟩:=zBP (p:=fun i (y:zAr)=>w.cell? (a.add (i * 2))=some (.string y.1)/\w.cell? (a.add (i * 2+1))=some (.string y.2)) len (by
   intro i hil
   obtain⟨n,hf⟩:=hi i (by omega)
   obtain⟨v0,y0,hc0,ht0⟩:=hf 0 _ rfl
   obtain⟨v1,y1,hc1,ht1⟩:=hf 1 _ rfl
   obtain⟨s0,e0,_⟩:=DataW.trod_string Tryz.underlying9 ht0
   obtain⟨s1,e1,_⟩:=DataW.trod_string Tryz.underlying9 ht1
   simp only [List.cons.injEq,and_true] at e0 e1
   subst e0 e1
   exact⟨(s0,s1),hc0,hc1⟩)
  subst h1
  refine⟨l,some a,cap,rfl,hl,fun k hk=>?_⟩
  have hsp:=zCH (by simpa using (h2 0 (by omega)).1)
  obtain⟨b,off,sp⟩:=a
  obtain rfl:sp=none:=hsp
  obtain⟨c1,c2⟩:=h2 k hk
  rw [Addr.add_lit] at c1 c2
  exact⟨b,off,rfl,World.block_lt_of_cell? _ _ c1,c1,by rw [<- c2,Nat.add_assoc]⟩
end
end Go.Proofs.YtbeeoomadnmogaaGreat
