/- OpenN -/
import Derived.Test.YtbeeoomadnmogaaGreatQI6
import Derived.Test.YtbeeoomadnmogaaGreatQcOpenN
set_option maxRecDepth 100000
set_option maxHeartbeats 64000000
namespace Go.Proofs.YtbeeoomadnmogaaGreat
open Go.ChangeShapes Go.WideShapes Go.Deep Go.RowKit
section
variable {H:Type} {enc:TypeId × Value->H} {w:World} {base:Nat} {spare:Nat->Bool} {held:Bool} {fuel:Nat} {u:Value} {x:DataW H × List MemPlace}
theorem zLr (h:DataW.trod enc Tryz.prog w base spare held fuel 33 [u]=some x):∃ l,zCt w.heap.size w u l:=by
 rcases zHs Tryz.underlying33 Tryz.underlying59 (by kernel_rfl) (by kernel_rfl) h with h0 | ⟨a,len,cap,m,hcs,hl,hm,hi⟩
 ·simp at h0;subst h0;exact⟨[],zAj.nil _ _ _ _⟩
 ·simp at hcs;subst hcs
  obtain⟨l,h1,h2⟩:=zBP (p:=fun i (y:TrN × Value)=>zAK w.heap.size w y.2 y.1.ats/\∀ j c,(trC y.1 y.2)[j]? = some c->w.cell? (a.add (i * 8+j))=some c) len (by
   intro i hil
   obtain⟨n,hf⟩:=hi i (by omega)
   obtain⟨v0,y0,hc0,ht0⟩:=hf 0 _ rfl
   obtain⟨v1,y1,hc1,ht1⟩:=hf 1 _ rfl
   obtain⟨v2,y2,hc2,ht2⟩:=hf 2 _ rfl
   obtain⟨v3,y3,hc3,ht3⟩:=hf 3 _ rfl
   obtain⟨v4,y4,hc4,ht4⟩:=hf 4 _ rfl
   obtain⟨v5,y5,hc5,ht5⟩:=hf 5 _ rfl
   obtain⟨v6,y6,hc6,ht6⟩:=hf 6 _ rfl
   obtain⟨v7,y7,hc7,ht7⟩:=hf 7 _ rfl
   obtain⟨s0,e0,_⟩:=DataW.trod_int Tryz.underlying3 ht0
   obtain⟨s1,e1,_⟩:=DataW.trod_string Tryz.underlying9 ht1
   obtain⟨s2,e2,_⟩:=DataW.trod_int Tryz.underlying3 ht2
   obtain⟨s3,e3⟩:=zFf ht3
   obtain⟨s4,e4,_⟩:=DataW.trod_string Tryz.underlying9 ht4
   obtain⟨s5,e5,_⟩:=DataW.trod_int Tryz.underlying3 ht5
   obtain⟨s6,e6,_⟩:=DataW.trod_int Tryz.underlying3 ht6
   obtain⟨s7,e7,_⟩:=DataW.trod_int Tryz.underlying3 ht7
   simp only [List.cons.injEq,and_true] at e0 e1 e2 e4 e5 e6 e7
   subst e0 e1 e2 e4 e5 e6 e7
   refine⟨(⟨s0,s1,s2,s3,s4,s5,s6,s7⟩,v3),zGW e3,fun j c hj=>?_⟩
   match j,hj with
   | 0,hj=>cases hj;exact hc0
   | 1,hj=>cases hj;exact hc1
   | 2,hj=>cases hj;exact hc2
   | 3,hj=>cases hj;exact hc3
   | 4,hj=>cases hj;exact hc4
   | 5,hj=>cases hj;exact hc5
   | 6,hj=>cases hj;exact hc6
   | 7,hj=>cases hj;exact hc7
   | j+8,hj=>simp [trC] at hj)
  subst h1
  have hsp:0 < l.length->a.spot=none:=fun h0=>zCH (by simpa using (h2 0 h0).2 0 _ rfl)
  have hlm:l.length=(l.map Prod.fst).length:=by simp
  refine⟨l.map Prod.fst,some a,cap,by rw [hlm],by rw [<- hlm];exact hl,fun h0 b hb=>.inl ?_,fun k hk=>?_⟩
  ·have h0:0 < l.length:=h0
   have hc:=(h2 0 h0).2 0 _ rfl
   have hs:=hsp h0
   obtain⟨b',off,sp⟩:=a
   obtain rfl:sp=none:=hs
   cases hb
   rw [Addr.add_lit] at hc
   exact World.block_lt_of_cell? _ _ hc
  ·have hk':k < l.length:=by rw [hlm];exact hk
   have hs:=hsp (by omega)
   obtain⟨b,off,sp⟩:=a
   obtain rfl:sp=none:=hs
   obtain⟨h3,h4⟩:=h2 k hk'
   have hc:=h4 0 _ rfl
   rw [Addr.add_lit] at hc
   refine⟨b,off,trC (l[k]'hk').1 (l[k]'hk').2,rfl,World.block_lt_of_cell? _ _ hc,⟨_,by rw [List.getElem_map];exact h3,by rw [List.getElem_map]⟩,fun j c hj=>?_⟩
   have:=h4 j c hj
   rw [Addr.add_lit] at this
   rw [<- this,Nat.add_assoc];rfl
end
theorem zNZ {H:Type} {enc:TypeId × Value->H} {w:World} {base:Nat} {spare:Nat->Bool} {held:Bool} {v:Value} {d:DataW H} {p:List MemPlace}
  (hval:Value.okWide Tryz.prog w .any base 33 v) (h:DataW.Trod enc Tryz.prog w 0 spare held 33 v d p):∃ l,zCt w.heap.size w v l:=by
 obtain⟨a0,len0,cap0,rfl⟩:=okWide_slice Tryz.underlying33 hval
 obtain⟨fuel,hf⟩:=h
 exact zLr (by simpa [Value.cells] using hf)
end Go.Proofs.YtbeeoomadnmogaaGreat
