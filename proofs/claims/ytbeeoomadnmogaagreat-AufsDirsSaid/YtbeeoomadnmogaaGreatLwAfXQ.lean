/- AufsDirs is proved: for every directory the law returns true; a directory that is larger than what is looked at is answered by the fixed calls alone. (walk printed by gen/lwafx.py) -/
import Derived.Test.YtbeeoomadnmogaaGreatQI6
import Derived.Test.YtbeeoomadnmogaaGreatQFrameA
import Derived.Test.YtbeeoomadnmogaaGreatQAxM
import Derived.Test.YtbeeoomadnmogaaGreatQaFarAx
import Derived.Test.YtbeeoomadnmogaaGreatQaNodT
import Derived.Test.YtbeeoomadnmogaaGreatQOvG
set_option maxHeartbeats 64000000
set_option maxRecDepth 100000
namespace Go.Proofs.YtbeeoomadnmogaaGreat
open Go.ChangeShapes Go.WideShapes Go.Deep Go.RowKit
section
variable {H:Type} {enc:TypeId × Value->H} {P:Program} {w:World} {base:Nat} {spare:Nat->Bool} {held:Bool}
theorem zLA {t e:TypeId} {fs:Array Field} {fuel:Nat} {cs:List Value} {x:DataW H × List MemPlace} (ht:P.underlying t=some (.slice e)) (he:P.underlying e=some (.struct fs))
  (hone:oneCellFields P fs=true) (hC:P.cellsOf e=fs.size) (h:DataW.trod enc P w base spare held fuel t cs=some x) :
  cs= [.slice none 0 0] \/
  ∃ (a:Addr) (len cap m:Nat),cs= [.slice (some a) len cap]/\len<=cap/\len<=m /\
   ∀ i,i < m->∃ n:Nat,∀ (j:Nat) (f:Field),fs[j]? = some f->∃ (v:Value) (y:DataW H × List MemPlace),w.cell? (a.add (i * fs.size+j))=some v/\DataW.trod enc P w base spare held n f.type [v]=some y:=by
 rcases open_slice ht h with h0 | ⟨a,len,cap,m,n,D,Pl,hcs,hb,hl,hm,hmm,hx,hi⟩
 ·grind
 ·refine .inr ⟨a,len,cap,m,hcs,hl,by rw [hmm];split <;> omega,fun i him=>?_⟩
  obtain⟨cs',hc,ht'⟩:=hi i him
  rw [hC] at hc
  obtain⟨ys,n',hn',hy,hlen,hyl,hf⟩:=DataW.trod_struct he ht'
  obtain⟨_,hcl,hat⟩:=World.cells?_some hc
  refine⟨n',fun j f hj=>?_⟩
  obtain⟨ho,hk⟩:=hone_of hone j f hj
  have hjl:j < fs.size:=(Array.getElem?_eq_some_iff.1 hj).1
  have hcell:=hat j hjl
  have hv:cs'[j]? = some (cs'[j]'(by omega)):=List.getElem?_eq_getElem (by omega)
  have h1:=hf j f hj
  rw [ho,hk] at h1
  have hone':(cs'.drop j).take 1= [cs'[j]'(by omega)]:=by
   grind [List.drop_eq_getElem_cons]
  rw [hone'] at h1
  have hys:ys[j]? = some (ys[j]'(by omega)):=List.getElem?_eq_getElem (by omega)
  refine⟨_,_,?_,h1.trans hys⟩
  rw [<- Go.Deep.add_add,hcell,hv]
end
end Go.Proofs.YtbeeoomadnmogaaGreat
namespace Go.Proofs.YtbeeoomadnmogaaGreat
open Go.ChangeShapes Go.WideShapes Go.Deep Go.RowKit
theorem zD5 {α:Type}{p:Nat->α->Prop}:∀(n:Nat),(∀i,i<n->∃x,p i x)->∃l:List α,l.length=n/\∀i (h:i<l.length),p i (l[i]'h)
 | 0,_=>⟨[],rfl,fun i h=>absurd h (by simp)⟩
 | n+1,h=>by
  obtain⟨l,h1,h2⟩:=zD5 n (fun i hi=>h i (by omega));obtain⟨x,hx⟩:=h n (by omega);refine⟨l++ [x],by simp[h1],fun i hi=>?_⟩;by_cases e:i<l.length
  ·have:=h2 i e;rwa [List.getElem_append_left e]
  ·have e2:i=l.length:=by simp at hi;omega
   subst e2;rw[List.getElem_append_right (Nat.le_refl _)];simpa [h1] using hx
theorem zGG {w:World}{a:Addr}{v:Value}(h:w.cell? (a.add 0)=some v):a.spot=none:=by
 obtain⟨b,off,sp⟩:=a
 cases sp with
 | none=>rfl
 | some q=>
  simp only[World.cell?,Addr.add,if_true]at h;grind
section
variable {H:Type} {enc:TypeId × Value->H} {w:World} {base:Nat} {spare:Nat->Bool} {held:Bool} {fuel:Nat} {u:Value} {x:DataW H × List MemPlace}
theorem zMN {l:List zAq}(h:aA w u l):zAH w.heap.size w u l:=by
 refine zJT h fun h0 b hb=>.inl (h.block ?_ b hb);obtain⟨a,cap,rfl,_⟩:=h;exact h0
theorem zU3 {l:List ByteArray}(h:zCp w u l):zBV w.heap.size w u l:=by
 refine zRK h fun h0 b hb=>.inl ?_;obtain⟨a,cap,rfl,_,hc⟩:=h;have h0:0<l.length:=h0;obtain⟨b',off,rfl,h1,_⟩:=hc 0 h0;cases hb;exact h1
theorem zHz (h:DataW.trod enc Tryz.prog w base spare held fuel 22 [u]=some x):∃l,aA w u l:=by
 rcases zLA Tryz.underlying22 Tryz.underlying57 (by kernel_rfl) (by kernel_rfl) h with h0|⟨a,len,cap,m,hcs,hl,hm,hi⟩
 ·simp at h0;subst h0;exact⟨[],aA.nil _ _ _⟩
 ·simp at hcs;subst hcs;obtain⟨l,h1,h2⟩:=zD5 (p:=fun i (y:zAq)=>w.cell? (a.add (i*2))=some (.string y.1)/\w.cell? (a.add (i*2+1))=some (.string y.2)) len (by
   intro i hil;obtain⟨n,hf⟩:=hi i (by omega);obtain⟨v0,y0,hc0,ht0⟩:=hf 0 _ rfl;obtain⟨v1,y1,hc1,ht1⟩:=hf 1 _ rfl;obtain⟨s0,e0,_⟩:=DataW.trod_string Tryz.underlying9 ht0;obtain⟨s1,e1,_⟩:=DataW.trod_string Tryz.underlying9 ht1;simp only[List.cons.injEq,and_true]at e0 e1;subst e0 e1;exact⟨(s0,s1),hc0,hc1⟩)
  subst h1;refine⟨l,some a,cap,rfl,hl,fun k hk=>?_⟩;have hsp:=zGG (by simpa using (h2 0 (by omega)).1);obtain⟨b,off,sp⟩:=a;obtain rfl:sp=none:=hsp;obtain⟨c1,c2⟩:=h2 k hk;rw[Addr.add_lit]at c1 c2;exact⟨b,off,rfl,World.block_lt_of_cell? _ _ c1,c1,by rw[<- c2,Nat.add_assoc]⟩
end
end Go.Proofs.YtbeeoomadnmogaaGreat
namespace Go.Proofs.YtbeeoomadnmogaaGreat
open Go.ChangeShapes Go.WideShapes Go.Deep Go.RowKit
section
variable {H:Type} {enc:TypeId × Value->H} {w:World} {base:Nat} {spare:Nat->Bool} {held:Bool} {fuel:Nat} {u:Value} {x:DataW H × List MemPlace}
theorem zN7 (h:DataW.trod enc Tryz.prog w base spare held fuel 23 [u]=some x):∃l,zCp w u l/\∀s∈l,s.size<=zD2:=by
 rcases open_slice1 Tryz.underlying23 (by kernel_rfl) h with h0|⟨a,len,cap,m,n,V,D,Pl,hcs,_,hl,_,hm,_,hi⟩
 ·simp at h0;obtain⟨rfl,_⟩:=h0;exact⟨[],⟨none,0,rfl,Nat.le_refl _,fun k hk=>absurd hk (by simp)⟩,fun s hs=>by cases hs⟩
 ·simp at hcs;subst hcs;have hlm:len<=m:=by rw[hm];split<;>omega
  obtain⟨l,h1,h2⟩:=zD5 (p:=fun i (y:ByteArray)=>w.cell? (a.add i)=some (.string y)/\y.size<=zD2) len (by
   intro i hil;obtain⟨hc,ht⟩:=hi i (by omega);obtain⟨s0,e0,_,hs0⟩:=DataW.trod_string Tryz.underlying9 ht;simp only[List.cons.injEq,and_true]at e0;exact⟨s0,by rw[hc,e0],hs0⟩)
  subst h1;refine⟨l,⟨some a,cap,rfl,hl,fun k hk=>?_⟩,fun s hs=>?_⟩
  ·have hsp:=zGG (h2 0 (by omega)).1;obtain⟨b,off,sp⟩:=a;obtain rfl:sp=none:=hsp;have c1:=(h2 k hk).1;rw[Addr.add_lit]at c1;exact⟨b,off,rfl,World.block_lt_of_cell? _ _ c1,c1⟩
  ·obtain⟨j,hj,rfl⟩:=List.getElem_of_mem hs;exact(h2 j hj).2
theorem zWi {α:Type}{l:List α}(h:l.length=12):∃a b c d e f g h i j k m,l= [a,b,c,d,e,f,g,h,i,j,k,m]:=by
 match l,h with
 | [a,b,c,d,e,f,g,h,i,j,k,m],_=>exact⟨a,b,c,d,e,f,g,h,i,j,k,m,rfl⟩
theorem zN8 (h:DataW.trod enc Tryz.prog w base spare held fuel 24 [u]=some x):∃l,zRy w.heap.size w u l:=by
 have hC:Tryz.prog.cellsOf 66=12:=by kernel_rfl
 have hC1:Tryz.prog.cellsOf 9=1:=by kernel_rfl
 have hC2:Tryz.prog.cellsOf 3=1:=by kernel_rfl
 have hC3:Tryz.prog.cellsOf 4=1:=by kernel_rfl
 have hC4:Tryz.prog.cellsOf 22=1:=by kernel_rfl
 have hC8:Tryz.prog.cellsOf 59=8:=by kernel_rfl
 rcases open_slice Tryz.underlying24 h with h0|⟨a,len,cap,m,n,D,Pl,hcs,hb,hl,hm,hmm,hx,hi⟩
 ·have h0:=h0.1;simp at h0;subst h0;exact⟨[],zAh.nil _ _ _ _⟩
 ·simp at hcs;subst hcs;have hlm:len<=m:=by rw[hmm];split<;>omega
  obtain⟨l,h1,h2⟩:=zD5 (p:=fun i (y:DeN × Value)=>zAH w.heap.size w y.2 y.1.nd.ats/\∀j c,(deC y.1 y.2)[j]? = some c->w.cell? (a.add (i*12+j))=some c) len (by
   intro i hil;obtain⟨cs',hc,ht'⟩:=hi i (by omega);rw[hC]at hc;obtain⟨ys,n',_,_,hcl',hyl,hf⟩:=DataW.trod_struct Tryz.underlying66 ht';obtain⟨_,hcl,hat⟩:=World.cells?_some hc;obtain⟨k0,k1,k2,k3,k4,k5,k6,k7,k8,k9,k10,k11,rfl⟩:=zWi (hcl'.trans hC);have g:∀j,j<ys.length->∃y,ys[j]? = some y:=fun j hj=>⟨_,List.getElem?_eq_getElem hj⟩;have f0:DataW.trod enc Tryz.prog w base spare held n' 9 (List.take (Tryz.prog.cellsOf 9) [k0,k1,k2,k3,k4,k5,k6,k7,k8,k9,k10,k11])=ys[0]?:=hf 0 _ rfl;have f1:DataW.trod enc Tryz.prog w base spare held n' 59 (List.take (Tryz.prog.cellsOf 59) [k1,k2,k3,k4,k5,k6,k7,k8,k9,k10,k11])=ys[1]?:=hf 1 _ rfl;have f2:DataW.trod enc Tryz.prog w base spare held n' 4 (List.take (Tryz.prog.cellsOf 4) [k9,k10,k11])=ys[2]?:=hf 2 _ rfl;have f3:DataW.trod enc Tryz.prog w base spare held n' 4 (List.take (Tryz.prog.cellsOf 4) [k10,k11])=ys[3]?:=hf 3 _ rfl;have f4:DataW.trod enc Tryz.prog w base spare held n' 3 (List.take (Tryz.prog.cellsOf 3) [k11])=ys[4]?:=hf 4 _ rfl;rw[hC1]at f0;rw[hC8]at f1;rw[hC3]at f2 f3;rw[hC2]at f4;have hyl:ys.length=5:=hyl;obtain⟨y0,e0⟩:=g 0 (by omega);obtain⟨y1,e1⟩:=g 1 (by omega);obtain⟨y2,e2⟩:=g 2 (by omega);obtain⟨y3,e3⟩:=g 3 (by omega);obtain⟨y4,e4⟩:=g 4 (by omega);rw[e0]at f0;rw[e1]at f1;rw[e2]at f2;rw[e3]at f3;rw[e4]at f4;obtain⟨s0,e0,_⟩:=DataW.trod_string Tryz.underlying9 f0;obtain⟨s9,e9,_⟩:=DataW.trod_bool Tryz.underlying4 f2;obtain⟨s10,e10,_⟩:=DataW.trod_bool Tryz.underlying4 f3;obtain⟨s11,e11,_⟩:=DataW.trod_int Tryz.underlying3 f4;obtain⟨zs,n'',_,_,_,hzl,hz⟩:=DataW.trod_struct Tryz.underlying59 f1;have g':∀j,j<zs.length->∃y,zs[j]? = some y:=fun j hj=>⟨_,List.getElem?_eq_getElem hj⟩;have hzl:zs.length=8:=hzl;have d0:DataW.trod enc Tryz.prog w base spare held n'' 3 (List.take (Tryz.prog.cellsOf 3) [k1,k2,k3,k4,k5,k6,k7,k8])=zs[0]?:=hz 0 _ rfl;have d1:DataW.trod enc Tryz.prog w base spare held n'' 9 (List.take (Tryz.prog.cellsOf 9) [k2,k3,k4,k5,k6,k7,k8])=zs[1]?:=hz 1 _ rfl;have d2:DataW.trod enc Tryz.prog w base spare held n'' 3 (List.take (Tryz.prog.cellsOf 3) [k3,k4,k5,k6,k7,k8])=zs[2]?:=hz 2 _ rfl;have d3:DataW.trod enc Tryz.prog w base spare held n'' 22 (List.take (Tryz.prog.cellsOf 22) [k4,k5,k6,k7,k8])=zs[3]?:=hz 3 _ rfl;have d4:DataW.trod enc Tryz.prog w base spare held n'' 9 (List.take (Tryz.prog.cellsOf 9) [k5,k6,k7,k8])=zs[4]?:=hz 4 _ rfl;have d5:DataW.trod enc Tryz.prog w base spare held n'' 3 (List.take (Tryz.prog.cellsOf 3) [k6,k7,k8])=zs[5]?:=hz 5 _ rfl;have d6:DataW.trod enc Tryz.prog w base spare held n'' 3 (List.take (Tryz.prog.cellsOf 3) [k7,k8])=zs[6]?:=hz 6 _ rfl;have d7:DataW.trod enc Tryz.prog w base spare held n'' 3 (List.take (Tryz.prog.cellsOf 3) [k8])=zs[7]?:=hz 7 _ rfl;rw[hC2]at d0 d2 d5 d6 d7;rw[hC1]at d1 d4;rw[hC4]at d3;obtain⟨q0,w0⟩:=g' 0 (by omega);obtain⟨q1,w1⟩:=g' 1 (by omega);obtain⟨q2,w2⟩:=g' 2 (by omega);obtain⟨q3,w3⟩:=g' 3 (by omega);obtain⟨q4,w4⟩:=g' 4 (by omega);obtain⟨q5,w5⟩:=g' 5 (by omega);obtain⟨q6,w6⟩:=g' 6 (by omega);obtain⟨q7,w7⟩:=g' 7 (by omega);rw[w0]at d0;rw[w1]at d1;rw[w2]at d2;rw[w3]at d3;rw[w4]at d4;rw[w5]at d5;rw[w6]at d6;rw[w7]at d7;obtain⟨s1,e1,_⟩:=DataW.trod_int Tryz.underlying3 d0;obtain⟨s2,e2,_⟩:=DataW.trod_string Tryz.underlying9 d1;obtain⟨s3,e3,_⟩:=DataW.trod_int Tryz.underlying3 d2;obtain⟨s4,e4⟩:=zHz d3;obtain⟨s5,e5,_⟩:=DataW.trod_string Tryz.underlying9 d4;obtain⟨s6,e6,_⟩:=DataW.trod_int Tryz.underlying3 d5;obtain⟨s7,e7,_⟩:=DataW.trod_int Tryz.underlying3 d6;obtain⟨s8,e8,_⟩:=DataW.trod_int Tryz.underlying3 d7;simp only[List.take_succ_cons,List.take_zero,List.cons.injEq,and_true]at e0 e1 e2 e3 e5 e6 e7 e8 e9 e10 e11;subst e0 e1 e2 e3 e5 e6 e7 e8 e9 e10 e11;refine⟨(⟨s0,⟨s1,s2,s3,s4,s5,s6,s7,s8⟩,s9,s10,s11⟩,k4),zMN e4,fun j c hj=>?_⟩;have hjl:=(List.getElem?_eq_some_iff.1 hj).1;have hjl:j<12:=hjl;have:=hat j hjl;rw[Go.Deep.add_add]at this;rw[this];exact hj)
  subst h1;have hsp:0<l.length->a.spot=none:=fun h0=>zGG (by simpa using (h2 0 h0).2 0 _ rfl);have hlm':l.length=(l.map Prod.fst).length:=by simp
  refine⟨l.map Prod.fst,some a,cap,by rw[hlm'],by rw[<- hlm'];exact hl,fun h0 b hb=>.inl ?_,fun k hk=>?_⟩
  ·have h0:0<l.length:=h0;have hc:=(h2 0 h0).2 0 _ rfl;have hs:=hsp h0;obtain⟨b',off,sp⟩:=a;obtain rfl:sp=none:=hs;cases hb;rw[Addr.add_lit]at hc;exact World.block_lt_of_cell? _ _ hc
  ·have hk':k<l.length:=by rw[hlm'];exact hk
   have hs:=hsp (by omega);obtain⟨b,off,sp⟩:=a;obtain rfl:sp=none:=hs;obtain⟨h3,h4⟩:=h2 k hk';have hc:=h4 0 _ rfl;rw[Addr.add_lit]at hc;refine⟨b,off,deC (l[k]'hk').1 (l[k]'hk').2,rfl,World.block_lt_of_cell? _ _ hc,⟨_,by rw[List.getElem_map];exact h3,by rw[List.getElem_map]⟩,fun j c hj=>?_⟩;have:=h4 j c hj;rw[Addr.add_lit]at this;rw[<- this,Nat.add_assoc];rfl
end
theorem zR9 {H:Type}{enc:TypeId × Value->H}{w:World}{base:Nat}{spare:Nat->Bool}{held:Bool}{v:Value}{d:DataW H}{p:List MemPlace}
  (hval:Value.okWide Tryz.prog w .any base 26 v) (h:DataW.Trod enc Tryz.prog w 0 spare held 26 v d p):∃x,zBA w.heap.size w v x/\∀s∈x.red,s.size<=zD2:=by
 obtain⟨v0,v1,v2,v3,y0,y1,y2,y3,n,rfl,_,_,t0,t1,t2,t3⟩:=Go.Joins.open_agg4 Tryz.underlying26 (by kernel_rfl) (by kernel_rfl) hval h;obtain⟨s0,e0⟩:=zHz t0;obtain⟨s1,e1,_⟩:=DataW.trod_bool Tryz.underlying4 t1;obtain⟨s2,e2,hs2⟩:=zN7 t2;obtain⟨s3,e3⟩:=zN8 t3;simp only[List.cons.injEq,and_true]at e1;subst e1;exact⟨⟨s0,s1,s2,s3⟩,⟨_,_,_,rfl,zMN e0,zU3 e2,e3⟩,hs2⟩
end Go.Proofs.YtbeeoomadnmogaaGreat
namespace Go.Proofs.YtbeeoomadnmogaaGreat.lwAufsDirs
open Go.ChangeShapes Go.WideShapes Go.ChangeAt Go.RowKit
open Go.ChangeMaps (open_string shut_string)
def BdS (D:DiN):Prop:=D.ats.length<=1000000/\D.red.length<=1000000/\D.ens.length<=1000/\∀x∈D.ens,x.nd.ats.length<=1000000
theorem bd_small {D:DiN}(h:D=zIs\/zDR D/\D.red= []):BdS D:=by
 rcases h with rfl|⟨h,hr⟩
 ·exact⟨Nat.zero_le _,Nat.zero_le _,Nat.zero_le _,fun x hx=>by cases hx⟩
 ·exact⟨by have:=h.atl;omega,by rw[hr];exact Nat.zero_le _,h.len,fun x hx=>by have:=(h.ens x hx).2.2;omega⟩
theorem bd_ac (d:DiN):BdS (acD d):=by
 by_cases e1:zCs d=0
 case neg=>exact bd_small (.inl (zCd (zJ3 e1)).1)
 by_cases e2:0<d.red.length
 ·exact bd_small (.inl (zCd (zJ2 e1 e2)).1)
 by_cases e3:(gnT aeE d.ens).2=0
 case neg=>exact bd_small (.inl (zCd (zGH e1 e2 rfl e3)).1)
 by_cases e4:24<(acL d).length
 ·exact bd_small (.inl (zCd (zFb e1 e2 e3 e4)).1)
 ·exact bd_small (.inr ⟨zTr (zCd (zI0 e1 e2 e3 e4)).2.2,zUf d⟩)
theorem bd_ar (d:DiN):BdS (arD d):=bd_small (by
 rcases zIa d with h|h
 ·exact .inl h
 ·exact .inr ⟨zTk h,zRb d⟩)
theorem walk (v:Value)(d:DiN)(w:World)(hv:zBA w.heap.size w v d):zAs Tryz.prog 3 #[v] w (.bool true):=by
 unfold zAs;have HD:=hQq hv;obtain⟨va,vr,ve,rfl,ha,hr,he⟩:=hv;obtain⟨a3,cap3,rfl⟩:=ha.form;obtain⟨a4,cap4,rfl⟩:=hr.form;obtain⟨a5,cap5,rfl⟩:=he.form;clear ha hr he;go_enter Tryz.func3,Tryz.ntmps3;go_wp2_with fail
 refine(zLJ w.heap.size _ d _ (HD.out.ext (eA _ _)) (eA w _).size).mono ?_;rintro e wi ⟨r,rfl,hwide,hb0⟩;have HI:Hid (Ext w wi):=hQq ((eA _ _).trans hb0);cases r
 case true=>
  clear hwide hb0;go_wp2_with (go_at_call 12;refine(zGr _).mono ?_;rintro e w9 ⟨rfl,hb9⟩;have HB9:=hQq hb9;clear hb9)
  go_ret;exact⟨rfl,HI.out.trans HB9.out⟩
 have SMD:=hQq (zLj (hwide rfl));have QI:Hid (wi.heap[w.heap.size]? = some (.cells #[.slice a3 d.ats.length cap3,.bool d.opq,.slice a4 d.red.length cap4,.slice a5 d.ens.length cap5] 26 (0,0))):=hQq (bX hb0 (bN _ _));clear hwide hb0;obtain⟨k0,k1,k2,k3⟩:=b4C QI.out;have kl:=bL QI.out;go_wp2_with fail
 refine(zEc w.heap.size wi _ d (HD.out.ext HI.out) HI.out.size SMD.out).mono ?_;rintro e w1 ⟨⟨v1,rfl,hd1⟩,hb1⟩;have HD1:=hQq hd1;obtain⟨x1,y1,z1,rfl,i1,j1,l1⟩:=hd1;obtain⟨p1,q1,rfl⟩:=i1.form;obtain⟨r1,s1,rfl⟩:=j1.form;obtain⟨t1,u1,rfl⟩:=l1.form;obtain⟨V1,hV⟩:∃V,V=w1.alloc (.cells #[.slice p1 (acD d).ats.length q1,.bool (acD d).opq,.slice r1 (acD d).red.length s1,.slice t1 (acD d).ens.length u1] 26 (0,0)):=⟨_,rfl⟩;have HX1:=hQq (show Ext w1 V1 by rw[hV];exact eA _ _);have QB1:=hQq (bX HX1.out (bX hb1 QI.out));have H1:=hQq ((Ext.trans HI.out hb1).trans HX1.out);have G11:=hQq (show V1.heap[w1.heap.size]? = some (.cells #[.slice p1 (acD d).ats.length q1,.bool (acD d).opq,.slice r1 (acD d).red.length s1,.slice t1 (acD d).ens.length u1] 26 (0,0)) by rw[hV];exact bN _ _);have HW1:=hQq hV;replace HD1:=hQq (HD1.out.ext HX1.out);clear i1 j1 l1 hb1 hV k0 k1 k2 k3 kl;go_upto_region 4 with fail
 rw[<- HW1.out];obtain⟨k0,k1,k2,k3⟩:=b4C QB1.out;have kl:=bL QB1.out;go_wp2_with fail
 refine(zLs w.heap.size V1 _ d (HD.out.ext H1.out) H1.out.size SMD.out).mono ?_;rintro e w2 ⟨⟨v2,rfl,hd1⟩,hb1⟩;have HD2:=hQq hd1;obtain⟨x1,y1,z1,rfl,i1,j1,l1⟩:=hd1;obtain⟨p2,q2,rfl⟩:=i1.form;obtain⟨r2,s2,rfl⟩:=j1.form;obtain⟨t2,u2,rfl⟩:=l1.form;obtain⟨V2,hV⟩:∃V,V=w2.alloc (.cells #[.slice p2 (acD d).ats.length q2,.bool (acD d).opq,.slice r2 (acD d).red.length s2,.slice t2 (acD d).ens.length u2] 26 (0,0)):=⟨_,rfl⟩;have HX2:=hQq (show Ext w2 V2 by rw[hV];exact eA _ _);have QB2:=hQq (bX HX2.out (bX hb1 QB1.out));have H2:=hQq ((Ext.trans H1.out hb1).trans HX2.out);have G22:=hQq (show V2.heap[w2.heap.size]? = some (.cells #[.slice p2 (acD d).ats.length q2,.bool (acD d).opq,.slice r2 (acD d).red.length s2,.slice t2 (acD d).ens.length u2] 26 (0,0)) by rw[hV];exact bN _ _);have HW2:=hQq hV;have G12:=hQq (bX HX2.out (bX hb1 G11.out));replace HD1:=hQq ((HD1.out.ext hb1).ext HX2.out);replace HD2:=hQq (HD2.out.ext HX2.out);clear i1 j1 l1 hb1 hV k0 k1 k2 k3 kl;go_upto_region 5 with fail
 rw[<- HW2.out];obtain⟨k0,k1,k2,k3⟩:=b4C QB2.out;have kl:=bL QB2.out;go_wp2_with fail
 refine(zDj w.heap.size V2 _ d (HD.out.ext H2.out) H2.out.size SMD.out).mono ?_;rintro e w3 ⟨⟨v3,rfl,hd1⟩,hb1⟩;have HD3:=hQq hd1;obtain⟨x1,y1,z1,rfl,i1,j1,l1⟩:=hd1;obtain⟨p3,q3,rfl⟩:=i1.form;obtain⟨r3,s3,rfl⟩:=j1.form;obtain⟨t3,u3,rfl⟩:=l1.form;obtain⟨V3,hV⟩:∃V,V=w3.alloc (.cells #[.slice p3 (arD d).ats.length q3,.bool (arD d).opq,.slice r3 (arD d).red.length s3,.slice t3 (arD d).ens.length u3] 26 (0,0)):=⟨_,rfl⟩;have HX3:=hQq (show Ext w3 V3 by rw[hV];exact eA _ _);have QB3:=hQq (bX HX3.out (bX hb1 QB2.out));have H3:=hQq ((Ext.trans H2.out hb1).trans HX3.out);have G33:=hQq (show V3.heap[w3.heap.size]? = some (.cells #[.slice p3 (arD d).ats.length q3,.bool (arD d).opq,.slice r3 (arD d).red.length s3,.slice t3 (arD d).ens.length u3] 26 (0,0)) by rw[hV];exact bN _ _);have HW3:=hQq hV;have G13:=hQq (bX HX3.out (bX hb1 G12.out));replace HD1:=hQq ((HD1.out.ext hb1).ext HX3.out);have G23:=hQq (bX HX3.out (bX hb1 G22.out));replace HD2:=hQq ((HD2.out.ext hb1).ext HX3.out);replace HD3:=hQq (HD3.out.ext HX3.out);clear i1 j1 l1 hb1 hV k0 k1 k2 k3 kl;go_upto_region 6 with fail
 rw[<- HW3.out];obtain⟨k0,k1,k2,k3⟩:=b4C QB3.out;have kl:=bL QB3.out;go_wp2_with fail
 refine(zLt w.heap.size V3 _ d (HD.out.ext H3.out) H3.out.size SMD.out).mono ?_;rintro e w4 ⟨⟨v4,rfl,hd1⟩,hb1⟩;have HD4:=hQq hd1;obtain⟨x1,y1,z1,rfl,i1,j1,l1⟩:=hd1;obtain⟨p4,q4,rfl⟩:=i1.form;obtain⟨r4,s4,rfl⟩:=j1.form;obtain⟨t4,u4,rfl⟩:=l1.form;obtain⟨V4,hV⟩:∃V,V=w4.alloc (.cells #[.slice p4 (arD d).ats.length q4,.bool (arD d).opq,.slice r4 (arD d).red.length s4,.slice t4 (arD d).ens.length u4] 26 (0,0)):=⟨_,rfl⟩;have HX4:=hQq (show Ext w4 V4 by rw[hV];exact eA _ _);have QB4:=hQq (bX HX4.out (bX hb1 QB3.out));have H4:=hQq ((Ext.trans H3.out hb1).trans HX4.out);have G44:=hQq (show V4.heap[w4.heap.size]? = some (.cells #[.slice p4 (arD d).ats.length q4,.bool (arD d).opq,.slice r4 (arD d).red.length s4,.slice t4 (arD d).ens.length u4] 26 (0,0)) by rw[hV];exact bN _ _);have HW4:=hQq hV;have G14:=hQq (bX HX4.out (bX hb1 G13.out));replace HD1:=hQq ((HD1.out.ext hb1).ext HX4.out);have G24:=hQq (bX HX4.out (bX hb1 G23.out));replace HD2:=hQq ((HD2.out.ext hb1).ext HX4.out);have G34:=hQq (bX HX4.out (bX hb1 G33.out));replace HD3:=hQq ((HD3.out.ext hb1).ext HX4.out);replace HD4:=hQq (HD4.out.ext HX4.out);clear i1 j1 l1 hb1 hV k0 k1 k2 k3 kl;go_upto_region 7 with fail
 rw[<- HW4.out];obtain⟨k0,k1,k2,k3⟩:=b4C G14.out;obtain⟨m0,m1,m2,m3⟩:=b4C G24.out;have n1:(acN d==acN d)=true:=beq_self_eq_true _;have n2:(acE d==acE d)=true:=beq_self_eq_true _;go_wp2_with fail
 refine(zIB _ _ _ _ (acD d) V4 HD1.out HD2.out (bd_ac d).1 (bd_ac d).2.1 (bd_ac d).2.2.1 (bd_ac d).2.2.2).mono ?_;rintro e w5 ⟨rfl,hb5⟩;have H5:=hQq (Ext.trans H4.out hb5);have G35:=hQq (bX hb5 G34.out);have G45:=hQq (bX hb5 G44.out);replace HD3:=hQq (HD3.out.ext hb5);replace HD4:=hQq (HD4.out.ext hb5);clear hb5 k0 k1 k2 k3 m0 m1 m2 m3;obtain⟨k0,k1,k2,k3⟩:=b4C G35.out;obtain⟨m0,m1,m2,m3⟩:=b4C G45.out;go_wp2_with fail
 refine(zIB _ _ _ _ (arD d) w5 HD3.out HD4.out (bd_ar d).1 (bd_ar d).2.1 (bd_ar d).2.2.1 (bd_ar d).2.2.2).mono ?_;rintro e w6 ⟨rfl,hb6⟩;have H6:=hQq (Ext.trans H5.out hb6);clear hb6 n1 n2 k0 k1 k2 k3 m0 m1 m2 m3;have n1:(arN d==arN d)=true:=beq_self_eq_true _;have n2:(arE d==arE d)=true:=beq_self_eq_true _;go_wp2_with (go_at_call 12;refine(zGr _).mono ?_;rintro e w9 ⟨rfl,hb9⟩;have HB9:=hQq hb9;clear hb9)
 go_ret;exact⟨rfl,H6.out.trans HB9.out⟩
theorem contract (H:Type)(enc:TypeId × Value->H)(W:World)(base:Nat)(args:Array Value)(ds gs:List (DataW H))(before:List MemPlace)
  (hval:∀(j:Nat) t v,Tryz.f3.params[j]? = some t->args[j]? = some v->Value.okWide Tryz.prog W .any base t v)
  (hW:DataW.Whole enc Tryz.prog Tryz.f3.params.toList Rows.aufsDirsSpec.vars false W args.toList ds gs before) (_hz:(DataW.weightsEach Tryz.prog (Tryz.f3.params.toList++(OpenSpec.ofChange Rows.aufsDirsSpec).bare.plain.varTypes Tryz.prog) (ds++gs)).all (· <=reachBytes)=true) (_hL:laidMetH Tryz.prog Rows.aufsDirsRow.laid W) (_hS:W.ShapedOpen Tryz.prog) :
  Calls Tryz.prog 3 args W fun e W'=>∃v,e= .returned v/\Rows.aufsDirsSpec.post enc Tryz.prog Tryz.f3 false true false false W args v W':=by
 have hW':=hW;obtain⟨p,q,hA0,hV,rfl,hfz,hnd⟩:=hW;have hA:DataW.TrodAll enc Tryz.prog W 0 (fun _=>true) true Tryz.f3.params.toList args.toList ds p:=hA0;rw[Tryz.params3]at hA hval;obtain⟨v0,vs0,d0,ds0,p0,q0,hargs,rfl,rfl,h0,r0⟩:=trodAll_cons hA;obtain⟨rfl,rfl,rfl⟩:=trodAll_nil r0;obtain rfl:args= #[v0]:=by cases args;simp_all
 obtain⟨x0,w0,-⟩:=zR9 (hval 0 26 v0 rfl rfl) h0;refine(walk v0 x0 W w0).mono fun e W' ⟨he,hb⟩=>?_;subst he;exact⟨_,rfl,zMX hW' rfl rfl rfl (by intro t ht;rw[Tryz.params3]at ht;simp at ht;subst ht;exact⟨by kernel_rfl,of_decide_eq_true (by kernel_rfl)⟩) hb⟩
theorem reads (os:Os){H:Type}(enc:TypeId × Value->H):∃places,DataW.whole enc Tryz.prog ((zDN os).forCall (fun _ _=>0) ⟨#[],(#[.agg #[.slice none 0 0,.bool false,.slice none 0 0,.slice none 0 0]]:Array Value),[]⟩).memory Tryz.f3.params.toList Rows.aufsDirsSpec.vars false (#[.agg #[.slice none 0 0,.bool false,.slice none 0 0,.slice none 0 0]]:Array Value).toList 8=some ([.agg [.nil,.lit (.bool false),.nil,.nil]],[],places):=
 ⟨[],by kernel_rfl⟩
theorem lifted (os : Os) (started : os.Started) (H : Type) (enc : TypeId × Value -> H) (F : Stop.Interp) :
  ReturnsInHanded {} Tryz.checked os 3 .any ((OpenSpec.ofChange Rows.aufsDirsSpec).preRow enc Tryz.prog Tryz.f3 Rows.aufsDirsRow.domain false Rows.aufsDirsRow.laid) (((OpenSpec.ofChange Rows.aufsDirsSpec).at F).post enc Tryz.prog Tryz.f3 false true false false) := by
 obtain ⟨places, hx⟩ := reads os enc;refine returnsInHanded_of_row (C := Tryz.checked) (s := OpenSpec.ofChange Rows.aufsDirsSpec) own started (by kernel_rfl) Tryz.func3
  (witness_row_atRef (enc := enc) (C := Tryz.checked) false (zDN os) (#[.agg #[.slice none 0 0, .bool false, .slice none 0 0, .slice none 0 0]] : Array Value) rfl (by kernel_rfl) (by kernel_rfl) (by kernel_rfl)
   (OpenSpec.preRow_of_cond 8 hx (by kernel_rfl) (fun k hk => by cases hk) (by kernel_rfl) (zKE os _))) ?_
 intro W base args ds gs before hval hW _ _ hz hL hS _;exact contract H enc W base args ds gs before hval hW hz hL hS
theorem j0:(Rows.aufsDirsRow.wf (OpenSpec.ofChange Rows.aufsDirsSpec))=true:=by kernel_rfl
theorem j1:(laidOutB Tryz.prog)=true:=zLK
theorem j2:(mapsRowed Tryz.prog)=true:=zWm
theorem j3:(Tryz.f3.params.all (Tryz.prog.readableRec ·))=true:=by kernel_rfl
theorem j4:(namedTie Tryz.prog Rows.aufsDirsRow.named Rows.aufsDirsSpec.vars)=true:=by kernel_rfl
theorem j5:((Rows.aufsDirsRow.stops== []))=true:=by kernel_rfl
theorem j6:((Tryz.prog.stops== []))=true:=zTP
theorem j7:((Rows.aufsDirsRow.knobs== []))=true:=by kernel_rfl
theorem j8:((Tryz.prog.stopKnobs== []))=true:=zTS
theorem j9:((Rows.aufsDirsRow.inPlace==Tryz.prog.inPlace 3))=true:=by kernel_rfl
theorem j10:((Rows.aufsDirsRow.unfollowed==Tryz.prog.unfollowed 3))=true:=by kernel_rfl
theorem j11:((Rows.aufsDirsRow.recurses==Tryz.prog.recurses 3))=true:=by kernel_rfl
theorem j12:((Rows.aufsDirsRow.named==Tryz.prog.varsNamed 3))=true:=by kernel_rfl
theorem j13:((Rows.aufsDirsRow.maps==(Tryz.f3.params.toList++Rows.aufsDirsSpec.plain.varTypes Tryz.prog).any (Tryz.prog.mapsRec ·)))=true:=by kernel_rfl
theorem j14:((Rows.aufsDirsRow.ifaces==(Tryz.f3.params.toList++Rows.aufsDirsSpec.plain.varTypes Tryz.prog).any (Tryz.prog.ifacesRec ·)))=true:=by kernel_rfl
theorem j15:((Rows.aufsDirsRow.mapsOut==Tryz.prog.mapsAmong Tryz.f3.resultTypes.toList))=true:=by kernel_rfl
theorem j16:((Rows.aufsDirsRow.loops==(Tryz.f3.params.toList++Rows.aufsDirsSpec.plain.varTypes Tryz.prog).any (Tryz.prog.loopsFrom ·)))=true:=by kernel_rfl
theorem j17:((Rows.aufsDirsRow.wideKeys==(Tryz.f3.params.toList++Rows.aufsDirsSpec.plain.varTypes Tryz.prog++Tryz.f3.resultTypes.toList).any (Tryz.prog.wideKeysFrom ·)))=true:=by kernel_rfl
theorem j18:(Rows.aufsDirsSpec.vars.all (Tryz.prog.varReadable ·))=true:=by kernel_rfl
theorem j19:(Tryz.f3.resultTypes.all (fun t=>Tryz.prog.readableRec t&&decide (t<Tryz.prog.types.size)))=true:=by kernel_rfl
theorem j20:((Rows.aufsDirsRow.ifacesOut==Tryz.f3.resultTypes.toList.any (Tryz.prog.ifacesRec ·)))=true:=by kernel_rfl
theorem j21:((Rows.aufsDirsRow.loopsOut==Tryz.f3.resultTypes.toList.any (Tryz.prog.loopsFrom ·)))=true:=by kernel_rfl
theorem j22:((Rows.aufsDirsRow.plainKeys==Tryz.prog.plainKeys))=true:=zTQ
theorem j23:(Rows.aufsDirsRow.shortTexts.isNone)=true:=by kernel_rfl
theorem j24:(Tryz.prog.stopsHeard)=true:=zTT
theorem j25:(Tryz.prog.mayEnter)=true:=zTU
theorem j26:((Rows.aufsDirsRow.lifted==Tryz.prog.liftsFinal))=true:=zTR
theorem j27:((Tryz.prog.make==some Rows.aufsDirsRow.make))=true:=zWn
theorem j28:((Rows.aufsDirsRow.kinds==(if Rows.aufsDirsRow.domain.isEmpty then []else Tryz.f3.params.toList.map fun t=>match Tryz.prog.underlying t with|some (.int k)=>some k|_=>none)))=true:=by kernel_rfl
theorem j29:((Rows.aufsDirsRow.pinned==Rows.aufsDirsRow.pinnedBy))=true:=by kernel_rfl
theorem j30:((Rows.aufsDirsRow.veiled==(Tryz.f3.params.toList++Rows.aufsDirsSpec.plain.varTypes Tryz.prog++Tryz.f3.resultTypes.toList).any (Tryz.prog.veiledRec ·)))=true:=by kernel_rfl
theorem j31:(Rows.aufsDirsRow.veiledFits Tryz.prog Tryz.f3.params.toList (Tryz.f3.params.toList++Rows.aufsDirsSpec.plain.varTypes Tryz.prog++Tryz.f3.resultTypes.toList))=true:=by kernel_rfl
theorem facts:joinedFacts Tryz.prog 3 Tryz.f3 Rows.aufsDirsSpec Rows.aufsDirsRow=true:=by
 unfold joinedFacts;simp only[Bool.and_eq_true];exact⟨⟨⟨⟨⟨⟨⟨⟨⟨⟨⟨⟨⟨⟨⟨⟨⟨⟨⟨⟨⟨⟨⟨⟨⟨⟨⟨⟨⟨⟨⟨j0,j1⟩,j2⟩,j3⟩,j4⟩,j5⟩,j6⟩,j7⟩,j8⟩,j9⟩,j10⟩,j11⟩,j12⟩,j13⟩,j14⟩,j15⟩,j16⟩,j17⟩,j18⟩,j19⟩,j20⟩,j21⟩,j22⟩,j23⟩,j24⟩,j25⟩,j26⟩,j27⟩,j28⟩,j29⟩,j30⟩,j31⟩
theorem said:Rows.AufsDirsSaid:=
 OpenClaim.holds_of_cond 3 Tryz.f3 rfl rfl rfl rfl rfl rfl rfl ⟨rfl,rfl,rfl,rfl,rfl⟩ rfl rfl rfl rfl rfl (by kernel_rfl) Tryz.func3 facts
  (of_decide_eq_true (by kernel_rfl)) (by unfold Func.isWrapper;rw[if_neg (of_decide_eq_false (by kernel_rfl))];exact⟨rfl,rfl⟩)
  (fun os started H enc _ F=>by rw[OpenClaim.pre_eq_preRow];exact lifted os started H enc F)
#print axioms said
end Go.Proofs.YtbeeoomadnmogaaGreat.lwAufsDirs
