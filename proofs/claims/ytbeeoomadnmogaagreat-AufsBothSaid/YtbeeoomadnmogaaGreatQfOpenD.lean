/- OpenD -/
import Derived.Test.YtbeeoomadnmogaaGreatQI6
import Derived.Test.YtbeeoomadnmogaaGreatQbOpenN
import Derived.Test.YtbeeoomadnmogaaGreatQcOpenN
set_option maxRecDepth 100000
set_option maxHeartbeats 64000000
namespace Go.Proofs.YtbeeoomadnmogaaGreat
open Go.ChangeShapes Go.WideShapes Go.Deep Go.RowKit
section
variable {H:Type} {enc:TypeId × Value->H} {w:World} {base:Nat} {spare:Nat->Bool} {held:Bool} {fuel:Nat} {u:Value} {x:DataW H × List MemPlace}
theorem zN0 (h:DataW.trod enc Tryz.prog w base spare held fuel 23 [u]=some x):∃ l,zBY w u l/\∀ s ∈ l,s.size<=zJo:=by
 rcases open_slice1 Tryz.underlying23 (by kernel_rfl) h with h0 | ⟨a,len,cap,m,n,V,D,Pl,hcs,_,hl,_,hm,_,hi⟩
 ·simp at h0;obtain⟨rfl,_⟩:=h0;exact⟨[],⟨none,0,rfl,Nat.le_refl _,fun k hk=>absurd hk (by simp)⟩,fun s hs=>by cases hs⟩
 ·simp at hcs;subst hcs
  have hlm:len<=m:=by rw [hm];split <;> omega
  obtain⟨l,h1,h2⟩:=zBP (p:=fun i (y:ByteArray)=>w.cell? (a.add i)=some (.string y)/\y.size<=zJo) len (by
   intro i hil
   obtain⟨hc,ht⟩:=hi i (by omega)
   obtain⟨s0,e0,_,hs0⟩:=DataW.trod_string Tryz.underlying9 ht
   simp only [List.cons.injEq,and_true] at e0
   exact⟨s0,by rw [hc,e0],hs0⟩)
  subst h1
  refine⟨l,⟨some a,cap,rfl,hl,fun k hk=>?_⟩,fun s hs=>?_⟩
  ·have hsp:=zCH (h2 0 (by omega)).1
   obtain⟨b,off,sp⟩:=a
   obtain rfl:sp=none:=hsp
   have c1:=(h2 k hk).1
   rw [Addr.add_lit] at c1
   exact⟨b,off,rfl,World.block_lt_of_cell? _ _ c1,c1⟩
  ·obtain⟨j,hj,rfl⟩:=List.getElem_of_mem hs
   exact(h2 j hj).2
theorem zVE {α:Type} {l:List α} (h:l.length=12):∃ a b c d e f g h i j k m,l= [a,b,c,d,e,f,g,h,i,j,k,m]:=by
 match l,h with
 | [a,b,c,d,e,f,g,h,i,j,k,m],_=>exact⟨a,b,c,d,e,f,g,h,i,j,k,m,rfl⟩
theorem zN2 (h:DataW.trod enc Tryz.prog w base spare held fuel 24 [u]=some x):∃ l,zVa w.heap.size w u l:=by
 have hC:Tryz.prog.cellsOf 66=12:=by kernel_rfl
 have hC1:Tryz.prog.cellsOf 9=1:=by kernel_rfl
 have hC2:Tryz.prog.cellsOf 3=1:=by kernel_rfl
 have hC3:Tryz.prog.cellsOf 4=1:=by kernel_rfl
 have hC4:Tryz.prog.cellsOf 22=1:=by kernel_rfl
 have hC8:Tryz.prog.cellsOf 59=8:=by kernel_rfl
 rcases open_slice Tryz.underlying24 h with h0 | ⟨a,len,cap,m,n,D,Pl,hcs,hb,hl,hm,hmm,hx,hi⟩
 ·have h0:=h0.1;simp at h0;subst h0;exact⟨[],zAj.nil _ _ _ _⟩
 ·simp at hcs;subst hcs
  have hlm:len<=m:=by rw [hmm];split <;> omega
  obtain⟨l,h1,h2⟩:=zBP (p:=fun i (y:DeN × Value)=>zAK w.heap.size w y.2 y.1.nd.ats/\∀ j c,(deC y.1 y.2)[j]? = some c->w.cell? (a.add (i * 12+j))=some c) len (by
   intro i hil
   obtain⟨cs',hc,ht'⟩:=hi i (by omega)
   rw [hC] at hc
   obtain⟨ys,n',_,_,hcl',hyl,hf⟩:=DataW.trod_struct Tryz.underlying66 ht'
   obtain⟨_,hcl,hat⟩:=World.cells?_some hc
   obtain⟨k0,k1,k2,k3,k4,k5,k6,k7,k8,k9,k10,k11,rfl⟩:=zVE (hcl'.trans hC)
   have g:∀ j,j < ys.length->∃ y,ys[j]? = some y:=fun j hj=>⟨_,List.getElem?_eq_getElem hj⟩
   have f0:DataW.trod enc Tryz.prog w base spare held n' 9 (List.take (Tryz.prog.cellsOf 9) [k0,k1,k2,k3,k4,k5,k6,k7,k8,k9,k10,k11])=ys[0]?:=hf 0 _ rfl
   have f1:DataW.trod enc Tryz.prog w base spare held n' 59 (List.take (Tryz.prog.cellsOf 59) [k1,k2,k3,k4,k5,k6,k7,k8,k9,k10,k11])=ys[1]?:=hf 1 _ rfl
   have f2:DataW.trod enc Tryz.prog w base spare held n' 4 (List.take (Tryz.prog.cellsOf 4) [k9,k10,k11])=ys[2]?:=hf 2 _ rfl
   have f3:DataW.trod enc Tryz.prog w base spare held n' 4 (List.take (Tryz.prog.cellsOf 4) [k10,k11])=ys[3]?:=hf 3 _ rfl
   have f4:DataW.trod enc Tryz.prog w base spare held n' 3 (List.take (Tryz.prog.cellsOf 3) [k11])=ys[4]?:=hf 4 _ rfl
   rw [hC1] at f0;rw [hC8] at f1;rw [hC3] at f2 f3;rw [hC2] at f4
   have hyl:ys.length=5:=hyl
   obtain⟨y0,e0⟩:=g 0 (by omega);obtain⟨y1,e1⟩:=g 1 (by omega);obtain⟨y2,e2⟩:=g 2 (by omega);obtain⟨y3,e3⟩:=g 3 (by omega);obtain⟨y4,e4⟩:=g 4 (by omega)
   rw [e0] at f0;rw [e1] at f1;rw [e2] at f2;rw [e3] at f3;rw [e4] at f4
   obtain⟨s0,e0,_⟩:=DataW.trod_string Tryz.underlying9 f0
   obtain⟨s9,e9,_⟩:=DataW.trod_bool Tryz.underlying4 f2
   obtain⟨s10,e10,_⟩:=DataW.trod_bool Tryz.underlying4 f3
   obtain⟨s11,e11,_⟩:=DataW.trod_int Tryz.underlying3 f4
   obtain⟨zs,n'',_,_,_,hzl,hz⟩:=DataW.trod_struct Tryz.underlying59 f1
   have g':∀ j,j < zs.length->∃ y,zs[j]? = some y:=fun j hj=>⟨_,List.getElem?_eq_getElem hj⟩
   have hzl:zs.length=8:=hzl
   have d0:DataW.trod enc Tryz.prog w base spare held n'' 3 (List.take (Tryz.prog.cellsOf 3) [k1,k2,k3,k4,k5,k6,k7,k8])=zs[0]?:=hz 0 _ rfl
   have d1:DataW.trod enc Tryz.prog w base spare held n'' 9 (List.take (Tryz.prog.cellsOf 9) [k2,k3,k4,k5,k6,k7,k8])=zs[1]?:=hz 1 _ rfl
   have d2:DataW.trod enc Tryz.prog w base spare held n'' 3 (List.take (Tryz.prog.cellsOf 3) [k3,k4,k5,k6,k7,k8])=zs[2]?:=hz 2 _ rfl
   have d3:DataW.trod enc Tryz.prog w base spare held n'' 22 (List.take (Tryz.prog.cellsOf 22) [k4,k5,k6,k7,k8])=zs[3]?:=hz 3 _ rfl
   have d4:DataW.trod enc Tryz.prog w base spare held n'' 9 (List.take (Tryz.prog.cellsOf 9) [k5,k6,k7,k8])=zs[4]?:=hz 4 _ rfl
   have d5:DataW.trod enc Tryz.prog w base spare held n'' 3 (List.take (Tryz.prog.cellsOf 3) [k6,k7,k8])=zs[5]?:=hz 5 _ rfl
   have d6:DataW.trod enc Tryz.prog w base spare held n'' 3 (List.take (Tryz.prog.cellsOf 3) [k7,k8])=zs[6]?:=hz 6 _ rfl
   have d7:DataW.trod enc Tryz.prog w base spare held n'' 3 (List.take (Tryz.prog.cellsOf 3) [k8])=zs[7]?:=hz 7 _ rfl
   rw [hC2] at d0 d2 d5 d6 d7;rw [hC1] at d1 d4;rw [hC4] at d3
   obtain⟨q0,w0⟩:=g' 0 (by omega);obtain⟨q1,w1⟩:=g' 1 (by omega);obtain⟨q2,w2⟩:=g' 2 (by omega);obtain⟨q3,w3⟩:=g' 3 (by omega);obtain⟨q4,w4⟩:=g' 4 (by omega);obtain⟨q5,w5⟩:=g' 5 (by omega);obtain⟨q6,w6⟩:=g' 6 (by omega);obtain⟨q7,w7⟩:=g' 7 (by omega)
   rw [w0] at d0;rw [w1] at d1;rw [w2] at d2;rw [w3] at d3;rw [w4] at d4;rw [w5] at d5;rw [w6] at d6;rw [w7] at d7
   obtain⟨s1,e1,_⟩:=DataW.trod_int Tryz.underlying3 d0
   obtain⟨s2,e2,_⟩:=DataW.trod_string Tryz.underlying9 d1
   obtain⟨s3,e3,_⟩:=DataW.trod_int Tryz.underlying3 d2
   obtain⟨s4,e4⟩:=zFf d3
   obtain⟨s5,e5,_⟩:=DataW.trod_string Tryz.underlying9 d4
   obtain⟨s6,e6,_⟩:=DataW.trod_int Tryz.underlying3 d5
   obtain⟨s7,e7,_⟩:=DataW.trod_int Tryz.underlying3 d6
   obtain⟨s8,e8,_⟩:=DataW.trod_int Tryz.underlying3 d7
   simp only [List.take_succ_cons,List.take_zero,List.cons.injEq,and_true] at e0 e1 e2 e3 e5 e6 e7 e8 e9 e10 e11
   subst e0 e1 e2 e3 e5 e6 e7 e8 e9 e10 e11
   refine⟨(⟨s0,⟨s1,s2,s3,s4,s5,s6,s7,s8⟩,s9,s10,s11⟩,k4),zGW e4,fun j c hj=>?_⟩
   have hjl:=(List.getElem?_eq_some_iff.1 hj).1
   have hjl:j < 12:=hjl
   have:=hat j hjl
   rw [Go.Deep.add_add] at this
   rw [this];exact hj)
  subst h1
  have hsp:0 < l.length->a.spot=none:=fun h0=>zCH (by simpa using (h2 0 h0).2 0 _ rfl)
  have hlm':l.length=(l.map Prod.fst).length:=by simp
  refine⟨l.map Prod.fst,some a,cap,by rw [hlm'],by rw [<- hlm'];exact hl,fun h0 b hb=>.inl ?_,fun k hk=>?_⟩
  ·have h0:0 < l.length:=h0
   have hc:=(h2 0 h0).2 0 _ rfl
   have hs:=hsp h0
   obtain⟨b',off,sp⟩:=a
   obtain rfl:sp=none:=hs
   cases hb
   rw [Addr.add_lit] at hc
   exact World.block_lt_of_cell? _ _ hc
  ·have hk':k < l.length:=by rw [hlm'];exact hk
   have hs:=hsp (by omega)
   obtain⟨b,off,sp⟩:=a
   obtain rfl:sp=none:=hs
   obtain⟨h3,h4⟩:=h2 k hk'
   have hc:=h4 0 _ rfl
   rw [Addr.add_lit] at hc
   refine⟨b,off,deC (l[k]'hk').1 (l[k]'hk').2,rfl,World.block_lt_of_cell? _ _ hc,⟨_,by rw [List.getElem_map];exact h3,by rw [List.getElem_map]⟩,fun j c hj=>?_⟩
   have:=h4 j c hj
   rw [Addr.add_lit] at this
   rw [<- this,Nat.add_assoc];rfl
end
theorem zR0 {H:Type} {enc:TypeId × Value->H} {w:World} {base:Nat} {spare:Nat->Bool} {held:Bool} {v:Value} {d:DataW H} {p:List MemPlace}
  (hval:Value.okWide Tryz.prog w .any base 26 v) (h:DataW.Trod enc Tryz.prog w 0 spare held 26 v d p):∃ x,zBK w.heap.size w v x/\∀ s ∈ x.red,s.size<=zJo:=by
 obtain⟨v0,v1,v2,v3,y0,y1,y2,y3,n,rfl,_,_,t0,t1,t2,t3⟩:=Go.Joins.open_agg4 Tryz.underlying26 (by kernel_rfl) (by kernel_rfl) hval h
 obtain⟨s0,e0⟩:=zFf t0
 obtain⟨s1,e1,_⟩:=DataW.trod_bool Tryz.underlying4 t1
 obtain⟨s2,e2,hs2⟩:=zN0 t2
 obtain⟨s3,e3⟩:=zN2 t3
 simp only [List.cons.injEq,and_true] at e1
 subst e1
 exact⟨⟨s0,s1,s2,s3⟩,⟨_,_,_,rfl,zGW e0,zPA e2,e3⟩,hs2⟩
end Go.Proofs.YtbeeoomadnmogaaGreat
