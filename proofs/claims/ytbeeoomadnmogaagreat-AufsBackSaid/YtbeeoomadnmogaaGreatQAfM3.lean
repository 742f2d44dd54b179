/- AfM3 AfM4 AfM6 AfM7 AfM8 AfW AfZ AfZ2 AxP -/
import Derived.Test.YtbeeoomadnmogaaGreatQI5
import Derived.Test.YtbeeoomadnmogaaGreatQAfH2
import Derived.Test.YtbeeoomadnmogaaGreatQAwkB
set_option maxRecDepth 100000
set_option maxHeartbeats 64000000
namespace Go.Proofs.YtbeeoomadnmogaaGreat
open Go.RowKit
theorem zIB {t:List TrN} (hok:zAW t t.length) {i j:Nat} (hi:i < t.length) (hj:j < t.length) (hc:(zAa t i).cl=(zAa t j).cl) (h0:(zAa t j).cl ≠ 0):zA5 (zAa t i) (zAa t j)=true/\(zAa t j).kd ≠ 1/\(zAa t j).kd ≠ 5:=by
 obtain⟨_,_,k1,_,c1⟩:=zAd (hok i hi)
 obtain⟨_,_,k2,_,c2⟩:=zAd (hok j hj)
 obtain⟨p1,p5,_⟩:=zGm k2
 refine⟨?_,fun e=>h0 (p1 e),fun e=>h0 (p5 e).1⟩
 obtain⟨a1,_,a3⟩:=zEK c1
 obtain⟨b1,_,b3⟩:=zEK c2
 rcases Nat.lt_trichotomy i j with h | h | h
 ·exact(zDY j).1 b3 i h (by omega) hc
 ·rw [h];exact zIC _
 ·obtain⟨q1,q2,q3,q4,q5⟩:=zBC.1 ((zDY i).1 a3 j h (by omega) hc.symm)
  exact zBC.2 ⟨q1.symm,q2.symm,q3.symm,q4.symm,q5.symm⟩
theorem zUr {b:List BrN} (hb:zB1 b=0) {j:Nat} (hj:j < (zB0 b).toNat):zCs (plT b) ((j+1:Nat):Int) < (plT b).length/\(zAa (plT b) (zCs (plT b) ((j+1:Nat):Int))).cl=((j+1:Nat):Int):=by
 obtain⟨h1,_,_⟩:=zAp hb
 obtain⟨_,_,hok,_,_⟩:=zAf h1
 obtain⟨i,hi,hc⟩:=zFF hok _ (Nat.le_refl _) ((j+1:Nat):Int) (by omega) (by rw [zAh];show _<=zB0 b;omega)
 obtain⟨f1,f2,_⟩:=zAS hi
 rw [hc] at f1 f2
 exact⟨by omega,f2⟩
theorem zQZ {b:List BrN} (hb:zB1 b=0) {t:List TrN} (hmem:∀ y ∈ t,y.cl ≠ 0->∃ z ∈ plT b,Alk y z):∀ i,i < t.length->zFm t i=false:=by
 intro i hi
 obtain⟨h1,_,_⟩:=zAp hb
 obtain⟨_,_,hok,_,_⟩:=zAf h1
 unfold zFm
 by_cases hc:(zAa t i).cl=0
 ·rw [hc];rfl
 obtain⟨f1,f2,_⟩:=zAS hi
 obtain⟨z,hz,a1,a2,a3,a4,a5,a6⟩:=hmem _ (zC2 hi) hc
 obtain⟨z',hz',b1,b2,b3,b4,b5,b6⟩:=hmem _ (zC2 (show zCs t (zAa t i).cl < t.length by omega)) (by rw [f2];exact hc)
 obtain⟨j,hj,hge⟩:=List.getElem_of_mem hz
 obtain⟨j',hj',hge'⟩:=List.getElem_of_mem hz'
 rw [<- zAm _ _ hj] at hge
 rw [<- zAm _ _ hj'] at hge'
 obtain⟨l1,l2,l3⟩:=zIB hok hj' hj (by rw [hge,hge',<- a1,<- b1,f2]) (by rw [hge,<- a1];exact hc)
 rw [hge,hge'] at l1
 rw [hge] at l2 l3
 obtain⟨q1,q2,q3,q4,q5⟩:=zBC.1 l1
 have hlk:zA5 (zAa t (zCs t (zAa t i).cl)) (zAa t i)=true:=
  zBC.2 ⟨by rw [b2,a2];exact q1,by rw [b3,a3];exact q2,by rw [b4,a4];exact q3,by rw [b5,a5];exact q4,by rw [b6,a6];exact q5⟩
 rw [hlk,a2,nB l2,nB l3]
 simp
theorem zNl {t:List TrN} (hl:t.length<=120) (hz:zAs (zC t)=0) (hbad:∀ i,i < t.length->zFm t i=false):zBh t=(zCV t,0):=by
 unfold zBh
 rw [if_neg (by omega),if_neg (by rw [show zAs (t.map (clM fun _=>0))=0 from hz];decide),if_neg]
 rw [List.any_eq_true]
 rintro⟨i,hi,h⟩
 rw [hbad i (List.mem_range.1 hi)] at h
 cases h
theorem zRw {t:List TrN} (h:zAs t=0):zAs (zC t)=0:=by
 obtain⟨z1,z2,hok,_,_⟩:=zAf h
 have hl:(zC t).length=t.length:=List.length_map _
 refine(zBj (zEO (by omega) (by omega) (fun i hi=>?_) fun i _=>?_)).2
 ·rw [hl] at hi
  obtain⟨n1,n2,n3,n4,_⟩:=zAd (hok i hi)
  rw [zBL (zDw rfl t i) (by rw [zHS rfl];exact n1) (fun h=>by rw [zHT rfl];exact n2 h) (zHA n3) n4]
  exact zJJ (zOE _) _
 ·unfold zDM
  rw [zOE];rfl
theorem zVZ {t:List TrN} (h:zAs t=0):zBh t=(t,0):=by
 obtain⟨z1,z2,hok,_,_⟩:=zAf h
 have:zBh t=(zCV t,0):=zNl z2 (zRw h) fun i hi=>by
  unfold zFm
  by_cases hc:(zAa t i).cl=0
  ·rw [hc];rfl
  obtain⟨f1,f2,_⟩:=zAS hi
  obtain⟨l1,l2,l3⟩:=zIB hok (show zCs t (zAa t i).cl < t.length by omega) hi f2 hc
  rw [l1,nB l2,nB l3]
  simp
 rw [this,zPu h]
section
variable {b:List BrN} {x:BrN} {f:For} (hb:zB1 b=0) (hw:∀ i,i < b.length->awE b i=0) (e:b=x :: flt 1 f) (hs:zCT Shp f) (h0:x.dep=0) (hk:x.kd=1)
include hb hw e hs h0 hk
theorem zI8:∀ y ∈ zA8 b,y.cl ≠ 0->∃ z ∈ plT b,Alk y z:=by
 intro y hy hc
 rw [zGd hb hw e hs h0 hk] at hy
 obtain⟨z,hz,rfl⟩:=List.mem_map.1 hy
 rcases List.mem_cons.1 hz with rfl | hz
 ·exact absurd rfl hc
 rw [zDg] at hz
 obtain⟨q,hq,hz⟩:=List.mem_flatMap.1 hz
 have hlist:q ∈ zB4 f ++ mkF x->∃ z' ∈ plT b,Alk z.toTrN z':=fun hq=>by
  rcases List.mem_append.1 hq with hq | hq
  ·obtain⟨w,hw,ha⟩:=zLN f 1 z (List.mem_flatMap.2 ⟨q,hq,hz⟩) hc
   exact⟨w.toTrN,List.mem_map.2 ⟨w,by rw [e];exact List.mem_cons_of_mem _ hw,rfl⟩,ha⟩
  ·obtain⟨rfl,_⟩:=zCR hq
   obtain rfl:=List.mem_singleton.1 hz
   exact absurd rfl hc
 unfold zRq at hq
 by_cases h:0 < zB0 b
 ·rw [if_pos h] at hq
  rcases List.mem_cons.1 ((zDI _ _).mem_iff.1 hq) with rfl | hq
  ·have hz2:z.toTrN ∈ plT (flc 1 (zKv b)):=List.mem_map.2 ⟨z,hz,rfl⟩
   rw [zMQ] at hz2
   rcases List.mem_cons.1 hz2 with hz2 | hz2
   ·rw [hz2] at hc;exact absurd rfl hc
   ·obtain⟨j,hj,hj2⟩:=List.mem_map.1 hz2
    obtain⟨f1,_⟩:=zUr hb (List.mem_range.1 hj)
    refine⟨_,zC2 f1,?_⟩
    rw [<- hj2]
    exact⟨rfl,rfl,rfl,rfl,rfl,rfl⟩
  ·exact hlist ((zAl _).mem_iff.1 hq)
 ·rw [if_neg h] at hq
  exact hlist ((zAl _).mem_iff.1 hq)
theorem zUf:∀ i,i < (zA8 b).length->zFm (zA8 b) i=false:=zQZ hb (zI8 hb hw e hs h0 hk)
theorem zPj (hn:zB0 b<=24) (h24:0 < zB0 b->(acD (zAo b 0)).ens.length ≠ 24) (hl:(zA8 b).length<=120):zBh (zA8 b)=(zCV (zA8 b),0):=
 zNl hl (zPh hb hw e hs h0 hk hn h24 hl) (zUf hb hw e hs h0 hk)
end
structure zXG (b:List BrN):Prop where
 br:zB1 b=0
 dirs:∀ i,i < b.length->awE b i=0
 few:zB0 b<=24
 room:0 < zB0 b->(acD (zAo b 0)).ens.length ≠ 24
 len:(zA8 b).length<=120
theorem zSZ {b:List BrN} {x:List TrN} {y z:Int} (h:awT b=(x,y,z)):awL b=x/\(awT b).2.1=y/\awF b=z:=by unfold awL awF;rw [h];exact⟨rfl,rfl,rfl⟩
theorem zTD {b:List BrN} (h:zXG b):awT b=(zCV (zA8 b),0,0):=by
 obtain⟨x,f,e,hs,h0,hk,_⟩:=zDf (zAp h.br).1
 have hc:=zPj h.br h.dirs e hs h0 hk h.few h.room h.len
 unfold awT
 rw [if_neg (by rw [h.br];decide),zBm b.length 0 (fun j _ hj=>by rw [h.dirs j (by omega)];rfl)]
 show (if (0 < zB0 b/\(acD (zAo b 0)).ens.length=24)\/24 < zB0 b then _ else _)=_
 rw [if_neg (by rintro(⟨a,c⟩ | a);exact h.room a c;have:=h.few;omega),if_neg (by have:=h.len;omega),hc]
theorem zHb {b:List BrN} (h:awF b=0):zXG b/\awL b=zCV (zA8 b):=by
 have key:zXG b:=by
  unfold awF awT at h
  by_cases h1:zB1 b=0
  case neg=>rw [if_pos h1] at h;exact absurd h h1
  rw [if_neg (by rw [h1];decide)] at h
  cases hf:zBs (fun i=>awE b i != 0) 0 b.length with
  | some i=>
   rw [hf] at h
   exact absurd h (bne_iff_ne.1 (zBo _ _ _ hf).1)
  | none=>
   rw [hf] at h
   have hd:∀ i,i < b.length->awE b i=0:=fun i hi=>bne_eq_false_iff_eq.1 (zAC _ _ hf i (Nat.zero_le _) (by omega))
   by_cases h2:(0 < zB0 b/\(acD (zAo b 0)).ens.length=24)\/24 < zB0 b
   ·have h:(if (0 < zB0 b/\(acD (zAo b 0)).ens.length=24)\/24 < zB0 b then (([],0,5):List TrN × Int × Int) else _).2.2=0:=h
    rw [if_pos h2] at h;cases h
   have h:(if (0 < zB0 b/\(acD (zAo b 0)).ens.length=24)\/24 < zB0 b then (([],0,5):List TrN × Int × Int) else if 120 < (zA8 b).length then ([],0,3) else ((zBh (zA8 b)).1,0,(zBh (zA8 b)).2)).2.2=0:=h
   rw [if_neg h2] at h
   by_cases h3:120 < (zA8 b).length
   ·rw [if_pos h3] at h;cases h
   exact⟨h1,hd,by omega,fun a c=>h2 (.inl ⟨a,c⟩),by omega⟩
 exact⟨key,(zSZ (zTD key)).1⟩
theorem zKJ {t:List TrN} {c:Int} (hc:c ≠ 0) (h:2<=t.countP fun y=>y.cl == c):zEV t c=true:=by
 unfold zEV
 rw [zNg,decide_eq_true hc,decide_eq_true (show 1 < t.countP fun y=>y.cl == c by omega)];rfl
theorem zJi {t:List TrN} {c:Int} (h:zEV t c=true):zBH t c ≠ 0:=by
 unfold zBH;rw [if_pos h];omega
theorem zOL {t:List TrN} (h:zAs t=0):∀ y ∈ t,y.cl ≠ 0->2<=t.countP fun z=>z.cl == y.cl:=by
 intro y hy hc
 obtain⟨_,_,hok,_,hl⟩:=zAf h
 obtain⟨j,hj,rfl⟩:=List.getElem_of_mem hy
 rw [<- zAm t j hj] at hc ⊢
 obtain⟨_,_,_,_,c1⟩:=zAd (hok j hj)
 have:=(zEK c1).1
 have h2:=hl j hj
 unfold zDM at h2
 rw [decide_eq_true (show 0 < (zAa t j).cl by omega),Bool.true_and] at h2
 have h3:zAi t (zAa t j).cl t.length ≠ 1:=beq_eq_false_iff_ne.1 h2
 have h4:=zE4 (t:=t) (i:=j) rfl t.length hj
 rw [<- zNg];omega
theorem zHo {b:List BrN}:∀ y ∈ plT (rwB b),y ∈ zA8 b:=by
 intro y hy
 unfold zA8
 by_cases h:0 < zB0 b
 ·rw [if_pos h]
  unfold zLF
  rw [<- List.takeWhile_append_dropWhile (p:=zEo) (l:=plT (rwB b))] at hy
  rcases List.mem_append.1 hy with hy | hy
  ·exact List.mem_append.2 (.inl (List.mem_append.2 (.inl hy)))
  ·exact List.mem_append.2 (.inr hy)
 ·rw [if_neg h];exact hy
theorem zPi {b:List BrN} (c:Int):(plT (rwB b)).countP (fun y=>y.cl == c)<=(zA8 b).countP fun y=>y.cl == c:=by
 unfold zA8
 by_cases h:0 < zB0 b
 ·rw [if_pos h]
  unfold zLF
  conv=>lhs;rw [<- List.takeWhile_append_dropWhile (p:=zEo) (l:=plT (rwB b))]
  rw [List.countP_append,List.countP_append,List.countP_append];omega
 ·rw [if_neg h];exact Nat.le_refl _
section
variable {b:List BrN} {x:BrN} {f:For} (hb:zB1 b=0) (hw:∀ i,i < b.length->awE b i=0) (e:b=x :: flt 1 f) (hs:zCT Shp f) (h0:x.dep=0) (hk:x.kd=1)
include hb hw e hs h0 hk
theorem zI2 {c:Int} (hc:c ≠ 0):(plT (rwB b)).countP (fun y=>y.cl == c)=(plT b).countP fun y=>y.cl == c:=by
 obtain⟨_,hcw⟩:=zBN hb hw e hs
 obtain⟨h1,_,_⟩:=zAp hb
 obtain⟨_,_,hok,_,_⟩:=zAf h1
 have hx:x.cl=0:=by
  have hl:(0:Nat) < b.length:=by rw [e];simp
  obtain⟨_,_,k1,_,_⟩:=zAd (hok 0 (by rw [zAh];exact hl))
  have hg:zAa (plT b) 0=x.toTrN:=by rw [zAv b 0 hl,e];rfl
  rw [hg] at k1
  exact(zGm k1).1 hk
 rw [zII,zII,zC5 hb hw e hs h0 hk]
 conv=>rhs;rw [e]
 rw [List.countP_cons,List.countP_cons,(zCL 1 x f).countP_eq,List.countP_append,zHL hc f 1 hcw]
 have e1:((mkF x).flatMap (flc 1)).countP (fun y=>y.cl == c)=0:=by
  rw [List.countP_eq_zero]
  intro y hy
  obtain⟨q,hq,hy⟩:=List.mem_flatMap.1 hy
  obtain⟨rfl,_⟩:=zCR hq
  obtain rfl:=List.mem_singleton.1 hy
  show ¬ ((0:Int) == c)=true
  rw [beq_iff_eq];exact fun e=>hc e.symm
 rw [e1,hx];rfl
theorem zUe:Ren (zBH (zA8 b)) (zA8 b):=by
 have hmul:∀ y ∈ zA8 b,y.cl ≠ 0->zEV (zA8 b) y.cl=true:=fun y hy hc=>by
  obtain⟨z,hz,a1,_⟩:=zI8 hb hw e hs h0 hk y hy hc
  have h2:=zOL (zAp hb).1 z hz (by rw [<- a1];exact hc)
  rw [<- a1] at h2
  refine zKJ hc (Nat.le_trans h2 ?_)
  rw [<- zI2 hb hw e hs h0 hk hc]
  exact zPi _
 have hnz:∀ y ∈ zA8 b,zBH (zA8 b) y.cl=0->y.cl=0:=fun y hy h=>by
  by_cases hc:y.cl=0
  ·exact hc
  ·exact absurd h (zJi (hmul y hy hc))
 refine⟨zDe _,hnz,fun y hy z hz h=>?_⟩
 by_cases hc:y.cl=0
 ·rw [hc,zDe] at h
  rw [hc,hnz z hz h.symm]
 ·obtain⟨i,hi,rfl⟩:=List.getElem_of_mem hy
  obtain⟨j,hj,rfl⟩:=List.getElem_of_mem hz
  rw [<- zAm _ i hi] at hc h ⊢
  rw [<- zAm _ j hj] at h ⊢
  exact zGV hi hj (zJi (hmul _ (zC2 hi) hc)) h
theorem zVu:Ren (zBH (plT (rwB b))) (plT (rwB b)):=by
 have hmul:∀ y ∈ plT (rwB b),y.cl ≠ 0->zEV (plT (rwB b)) y.cl=true:=fun y hy hc=>by
  obtain⟨z,hz,a1,_⟩:=zI8 hb hw e hs h0 hk y (zHo y hy) hc
  have h2:=zOL (zAp hb).1 z hz (by rw [<- a1];exact hc)
  rw [<- a1] at h2
  refine zKJ hc ?_
  rw [zI2 hb hw e hs h0 hk hc]
  exact h2
 have hnz:∀ y ∈ plT (rwB b),zBH (plT (rwB b)) y.cl=0->y.cl=0:=fun y hy h=>by
  by_cases hc:y.cl=0
  ·exact hc
  ·exact absurd h (zJi (hmul y hy hc))
 refine⟨zDe _,hnz,fun y hy z hz h=>?_⟩
 by_cases hc:y.cl=0
 ·rw [hc,zDe] at h
  rw [hc,hnz z hz h.symm]
 ·obtain⟨i,hi,rfl⟩:=List.getElem_of_mem hy
  obtain⟨j,hj,rfl⟩:=List.getElem_of_mem hz
  rw [<- zAm _ i hi] at hc h ⊢
  rw [<- zAm _ j hj] at h ⊢
  exact zGV hi hj (zJi (hmul _ (zC2 hi) hc)) h
end
/-! The directory of links is found, and cut out. -/
theorem zKm {q:BrN × For}:∀ S:List (BrN × For),∃ A B,S=A ++ B/\zGE zCj S q=A ++ q :: B
 | []=>⟨[],[],rfl,rfl⟩
 | p :: r=>by
  unfold zGE
  split
  ·obtain⟨A,B,h1,h2⟩:=zKm (q:=q) r
   exact⟨p :: A,B,by rw [h1];rfl,by rw [h2];rfl⟩
  ·exact⟨[],p :: r,rfl,rfl⟩
theorem zPx:∀ A:List (BrN × For),(∀ p ∈ A,p.1.nm ≠ zBn)->∀ y ∈ plT (A.flatMap (flc 1)),zEr y=true:=fun A h y hy=>by
 obtain⟨z,hz,rfl⟩:=List.mem_map.1 hy
 obtain⟨p,hp,hz⟩:=List.mem_flatMap.1 hz
 unfold zEr
 rcases List.mem_cons.1 hz with rfl | hz
 ·rw [decide_eq_false (show ¬ (p.1.at 1).toTrN.nm=zBn from h p hp),Bool.and_false];rfl
 ·have:=zEE _ _ _ hz
  rw [decide_eq_false (show ¬ z.toTrN.dep=1 by omega),Bool.false_and];rfl
theorem zQq {l m:List TrN} (hl:∀ y ∈ l,1 < y.dep) (hm:∀ y,m.head? = some y->¬ 1 < y.dep):(l ++ m).dropWhile (fun y=>decide (1 < y.dep))=m:=by
 rw [List.dropWhile_append_of_pos fun y hy=>decide_eq_true (hl y hy)]
 cases m with
 | nil=>rfl
 | cons y r=>rw [List.dropWhile_cons_of_neg (by rw [decide_eq_false (hm y rfl)];exact Bool.false_ne_true)]
theorem zKH {r:TrN} (hr:zEr r=true) {q:BrN × For} (hq:q.1.nm=zBn) {A B:List (BrN × For)} (hS:∀ p ∈ A,p.1.nm ≠ zBn) :
  zH8 (r :: plT ((A ++ q :: B).flatMap (flc 1)))=r :: plT ((A ++ B).flatMap (flc 1))/\zDz (r :: plT ((A ++ q :: B).flatMap (flc 1)))=if q.1.kd=1 then (plT (A.flatMap (flc 1))).length+1 else 0:=by
 have hA:∀ y ∈ r :: plT (A.flatMap (flc 1)),zEr y=true:=fun y hy=>by
  rcases List.mem_cons.1 hy with rfl | hy
  ·exact hr
  ·exact zPx A hS y hy
 have hn:¬ zEr (q.1.at 1).toTrN=true:=by
  unfold zEr
  rw [decide_eq_true (show (q.1.at 1).toTrN.dep=1 from rfl),decide_eq_true (show (q.1.at 1).toTrN.nm=zBn from hq)]
  exact Bool.false_ne_true
 have hl:r :: plT ((A ++ q :: B).flatMap (flc 1))=(r :: plT (A.flatMap (flc 1))) ++ ((q.1.at 1).toTrN :: (plT (flt 2 q.2) ++ plT (B.flatMap (flc 1)))):=by
  rw [List.flatMap_append,List.flatMap_cons,zDv,zDv];rfl
 have ht:(r :: plT ((A ++ q :: B).flatMap (flc 1))).takeWhile zEr=r :: plT (A.flatMap (flc 1)):=by
  rw [hl,List.takeWhile_append_of_pos hA,List.takeWhile_cons_of_neg hn,List.append_nil]
 have hd:(r :: plT ((A ++ q :: B).flatMap (flc 1))).dropWhile zEr=(q.1.at 1).toTrN :: (plT (flt 2 q.2) ++ plT (B.flatMap (flc 1))):=by
  rw [hl,List.dropWhile_append_of_pos hA,List.dropWhile_cons_of_neg hn]
 constructor
 ·unfold zH8
  rw [ht,hd,List.flatMap_append,zDv]
  show _ ++ (plT (flt 2 q.2) ++ plT (B.flatMap (flc 1))).dropWhile _=_
  rw [zQq (fun y hy=>by
   obtain⟨z,hz,rfl⟩:=List.mem_map.1 hy
   have:=zEE _ _ _ hz
   show 1 < z.dep;omega) fun y hy=>by
    cases B with
    | nil=>cases hy
    | cons p B=>
     rw [List.flatMap_cons] at hy
     cases hy
     show ¬ (1:Int) < 1;omega]
  rfl
 ·unfold zDz
  rw [hd,ht]
  rfl
theorem zUI {r:TrN} (hr:zEr r=true) {q:BrN × For} (hq:q.1.nm=zBn) (hk:q.1.kd=1) {S:List (BrN × For)} (hS:∀ p ∈ S,p.1.nm ≠ zBn) :
  zH8 (r :: plT ((zGE zCj S q).flatMap (flc 1)))=r :: plT (S.flatMap (flc 1))/\0 < zDz (r :: plT ((zGE zCj S q).flatMap (flc 1))):=by
 obtain⟨A,B,h1,h2⟩:=zKm (q:=q) S
 obtain⟨c1,c2⟩:=zKH hr hq (A:=A) (B:=B) fun p hp=>hS p (by rw [h1];exact List.mem_append.2 (.inl hp))
 rw [h2,h1]
 exact⟨c1,by rw [c2,if_pos hk];omega⟩
theorem zUJ (s:Int->Int) (t:List TrN):zH8 (t.map (clM s))=(zH8 t).map (clM s)/\zDz (t.map (clM s))=zDz t:=by
 have ht:∀ p:TrN->Bool,(∀ y,p (clM s y)=p y)->∀ l:List TrN,(l.map (clM s)).takeWhile p=(l.takeWhile p).map (clM s)/\(l.map (clM s)).dropWhile p=(l.dropWhile p).map (clM s):=fun p hp l=>by
  induction l with
  | nil=>exact⟨rfl,rfl⟩
  | cons a r ih=>
   rw [List.map_cons]
   by_cases e:p a=true
   ·rw [List.takeWhile_cons_of_pos (by rw [hp];exact e),List.takeWhile_cons_of_pos e,List.dropWhile_cons_of_pos (by rw [hp];exact e),List.dropWhile_cons_of_pos e,ih.1,ih.2];exact⟨rfl,rfl⟩
   ·rw [List.takeWhile_cons_of_neg (by rw [hp];exact e),List.takeWhile_cons_of_neg e,List.dropWhile_cons_of_neg (by rw [hp];exact e),List.dropWhile_cons_of_neg e];exact⟨rfl,rfl⟩
 have h1:=ht zEr (fun _=>rfl) t
 constructor
 ·unfold zH8
  rw [h1.1,h1.2,<- List.map_drop,(ht _ (fun _=>rfl) _).2,List.map_append]
 ·unfold zDz
  rw [h1.1,h1.2]
  cases t.dropWhile zEr with
  | nil=>rfl
  | cons y r=>show (if y.kd=1 then _ else 0)=_;rw [List.length_map]
theorem zTh {r:TrN} (hr:zEr r=true) {S:List (BrN × For)} (hS:∀ p ∈ S,p.1.nm ≠ zBn):zDz (r :: plT (S.flatMap (flc 1)))=0:=by
 have hA:∀ y ∈ r :: plT (S.flatMap (flc 1)),zEr y=true:=fun y hy=>by
  rcases List.mem_cons.1 hy with rfl | hy
  ·exact hr
  ·exact zPx S hS y hy
 have:(r :: plT (S.flatMap (flc 1))).dropWhile zEr= []:=by
  have:=List.dropWhile_append_of_pos (l₂:=[]) hA
  rw [List.append_nil] at this
  exact this
 unfold zDz
 rw [this]
section
variable {b:List BrN} {x:BrN} {f:For} (hb:zB1 b=0) (hw:∀ i,i < b.length->awE b i=0) (e:b=x :: flt 1 f) (hs:zCT Shp f) (h0:x.dep=0) (hk:x.kd=1)
include hb hw e hs h0 hk
theorem zTc (hl:(zA8 b).length<=120):zBh (plT (rwB b))=(zCV (plT (rwB b)),0):=by
 obtain⟨ha,hr⟩:=zHp hw e h0 hk
 obtain⟨z1,_,_,z4,z5⟩:=zCp ha
 obtain⟨hg,hc⟩:=zBN hb hw e hs
 obtain⟨_,hasc,_,hlen,_⟩:=zDQ hb hr
 obtain⟨h1,_,_⟩:=zAp hb
 obtain⟨_,_,hok,_,_⟩:=zAf h1
 have hx:zBR x.ats=0:=by
  obtain⟨_,_,_,n4,_⟩:=zAd (hok 0 (by rw [zAh,e];simp))
  rw [zAv b 0 (by rw [e];simp),(zAM hr).2] at n4
  exact n4
 have hL:(zB4 f ++ mkF x).length=(acL (zAo b 0)).length:=by
  unfold acL
  rw [List.length_append,List.length_append,List.length_map,hlen,zJC,zLz]
  have:(zAo b 0).opq=x.opq:=(congrArg BrN.opq (zAM hr).2).trans rfl
  rw [this]
  split <;> rfl
 have hle:(plT (rwB b)).length<=120:=by
  refine Nat.le_trans ?_ hl
  unfold zA8
  by_cases h:0 < zB0 b
  ·rw [if_pos h]
   unfold zLF
   conv=>lhs;rw [<- List.takeWhile_append_dropWhile (p:=zEo) (l:=plT (rwB b))]
   rw [List.length_append,List.length_append,List.length_append];omega
  ·rw [if_neg h];exact Nat.le_refl _
 refine zNl hle ?_ (zQZ hb fun y hy hc=>zI8 hb hw e hs h0 hk y (zHo y hy) hc)
 have hrw:=zC5 hb hw e hs h0 hk
 rw [hrw] at hle ⊢
 refine zJv (x:=rtB x) (zDP fun q hq=>zJw hg hc q ((zAl _).mem_iff.1 hq)) ?_ (by rw [zEH];exact zFs (zHK hc hasc)) (by rw [zEH,(zAl _).length_eq,hL];exact z4) rfl (show (⟨#[]⟩:ByteArray).toList= [] by rw [tL];rfl) rfl (by kernel_rfl) hx
 rw [zAh,List.length_cons,zA9] at hle
 omega
theorem zRQ (hl:(zA8 b).length<=120):zEl (zCV (zA8 b))=zCV (plT (rwB b)):=by
 obtain⟨_,hc⟩:=zBN hb hw e hs
 have hcan:=zTc hb hw e hs h0 hk hl
 have hren:=zUe hb hw e hs h0 hk
 have hrw:=zC5 hb hw e hs h0 hk
 have hpf:=zGd hb hw e hs h0 hk
 have hX:plT (rwB b)=(rtB x).toTrN :: plT ((zEg zCj (zB4 f ++ mkF x)).flatMap (flc 1)):=by
  rw [hrw]
  unfold zDm
  rw [zDg];rfl
 have hnor:zEr (rtB x).toTrN=true:=rfl
 obtain⟨c1,c2⟩:=zUJ (zBH (zA8 b)) (zA8 b)
 unfold zEl
 by_cases h:0 < zB0 b
 ·have hP:zA8 b=(rtB x).toTrN :: plT ((zGE zCj (zEg zCj (zB4 f ++ mkF x)) (zKv b)).flatMap (flc 1)):=by
   rw [hpf]
   unfold zRq
   rw [if_pos h,zDg];rfl
  obtain⟨d1,d2⟩:=zUI hnor (q:=zKv b) rfl rfl (zFT (x:=x) hc)
  rw [<- hP,<- hX] at d1
  rw [<- hP] at d2
  rw [if_neg (by show ¬ zDz ((zA8 b).map (clM (zBH (zA8 b))))=0;rw [c2];omega)]
  show (zBh (zH8 ((zA8 b).map (clM (zBH (zA8 b)))))).1=_
  rw [c1,d1,zQK (hren.sub fun y hy=>zHo y hy),hcan]
 ·have hP:zA8 b=plT (rwB b):=by unfold zA8;rw [if_neg h]
  rw [hP] at c2 ⊢
  rw [if_pos]
  show zDz ((plT (rwB b)).map (clM (zBH (plT (rwB b)))))=0
  rw [c2,hX]
  exact zTh hnor (zFT (x:=x) hc)
theorem zUk (hl:(zA8 b).length<=120):zC6 (zCV (zA8 b))=rtB x :: flt 1 (zDm (clN (zBH (plT (rwB b))) x) (zGj (zBH (plT (rwB b))) f))/\zB1 (zC6 (zCV (zA8 b)))=0:=by
 have hcan:=zTc hb hw e hs h0 hk hl
 have hz:=zDe (plT (rwB b))
 have hrw:=zC5 hb hw e hs h0 hk
 unfold zC6
 rw [zRQ hb hw e hs h0 hk hl]
 refine⟨?_,zC7 (zHU hcan)⟩
 unfold zCV
 generalize zBH (plT (rwB b))=s at hz ⊢
 rw [<- zLm,zR7]
 ·rw [zQn hz,zG2,hrw,List.map_cons]
  refine congrArg (· :: _) ?_
  unfold rtB clN clM
  show ({toTrN:={dep:=_,nm:=_,kd:=_,ats:=_,dat:=_,ma:=_,mi:=_,cl:=s 0},opq:=_,red:=_}:BrN)= {toTrN:=_,opq:=_,red:=_}
  rw [hz];rfl
 ·intro y hy
  obtain⟨z,hz,rfl⟩:=List.mem_map.1 hy
  rw [hrw] at hz
  rcases List.mem_cons.1 hz with rfl | hz
  ·exact⟨rfl,rfl⟩
  ·rcases List.mem_append.1 ((zCL 1 x f).mem_iff.1 hz) with hz | hz
   ·exact zJD f 1 z hz
   ·obtain⟨q,hq,hz⟩:=List.mem_flatMap.1 hz
    obtain⟨rfl,_⟩:=zCR hq
    obtain rfl:=List.mem_singleton.1 hz
    exact⟨rfl,rfl⟩
end
theorem zUE {P:BrN->For->Prop}:∀ {l:List (BrN × For)},(∀ q ∈ l,P q.1 q.2/\zCT P q.2)->zCT P (ofS l)
 | [],_=>trivial
 | (x,k) :: _,h=>⟨(h (x,k) (List.mem_cons_self ..)).1,(h (x,k) (List.mem_cons_self ..)).2,zUE fun q hq=>h q (List.mem_cons_of_mem _ hq)⟩
theorem zOT {b:List BrN} {P:BrN->For->Prop}:∀ (f:For) (pre post:List BrN) (d:Int),zCT P f->b=pre ++ flt d f ++ post->(∀ y,post.head? = some y->y.dep<=d)->∀ j,pre.length<=j->j < pre.length+siz f->∃ d' y ky,Sub b j d' y ky/\P y ky
 | .nil,pre,_,_,_,_,_,j,h1,h2=>by
  have h2:j < pre.length+0:=h2
  omega
 | .node x k r,pre,post,d,hP,hb,hp,j,h1,h2=>by
  have h2:j < pre.length+(1+siz k+siz r):=h2
  obtain⟨p1,p2,p3⟩:=hP
  have hl2:(pre ++ [x.at d]).length=pre.length+1:=by simp
  have hl3:(pre ++ [x.at d] ++ flt (d+1) k).length=pre.length+1+siz k:=by rw [List.length_append,hl2,zA9]
  by_cases e:j=pre.length
  ·refine⟨d,x,k,⟨pre,flt d r ++ post,by rw [hb,zBe];simp [List.append_assoc],e.symm,fun y hy=>?_⟩,p1⟩
   cases r with
   | nil=>exact hp y hy
   | node z k2 r2=>rw [zBe] at hy;cases hy;exact Int.le_refl _
  by_cases e2:j < pre.length+1+siz k
  ·refine zOT k (pre ++ [x.at d]) (flt d r ++ post) (d+1) p2 (by rw [hb,zBe];simp [List.append_assoc]) (fun y hy=>?_) j (by omega) (by omega)
   cases r with
   | nil=>have:=hp y hy;omega
   | node z k2 r2=>rw [zBe] at hy;cases hy;show d<=d+1;omega
  ·exact zOT r (pre ++ [x.at d] ++ flt (d+1) k) post d p3 (by rw [hb,zBe];simp [List.append_assoc]) hp j (by omega) (by omega)
def zWT (y:BrN) (k:For):Prop:=zVg y k/\(y.kd=1->∃ z kz,k=zDm z kz/\zCT zGJ kz/\zGK zCj (zBU kz)/\∀ q ∈ zBU kz,q.1.kd=5->z.opq=false)
theorem zLk:∀ (k:For),zCT zGJ k->∀ q ∈ zB4 k,zWT q.1 q.2/\zCT zWT q.2
 | .nil,_,q,h=>by cases h
 | .node x kk r,hc,q,h=>by
  obtain⟨cx,ck,cr⟩:=hc
  unfold zB4 at h
  rcases List.mem_cons.1 h with rfl | h
  ·refine⟨⟨?_,fun _=>⟨x,kk,rfl,ck,cx.2.2.2.2.2.1,cx.2.2.2.2.2.2.2⟩⟩,zUE fun q hq=>?_⟩
   ·show zVg (aeB x) (zDm x kk)
    unfold aeB
    by_cases e:x.kd=5
    ·rw [if_pos e]
     obtain⟨rfl,ho⟩:=cx.2.2.2.2.1 (by omega)
     refine⟨rfl,rfl,fun _=>⟨?_,rfl⟩,fun h=>?_⟩
     ·unfold zDm mkF
      rw [ho];rfl
     ·exact absurd (show (2:Int)=1 from h) (by decide)
    ·rw [if_neg e]
     refine⟨cx.1,rfl,fun h=>?_,cx.2.2.2.2.2.2.1⟩
     obtain⟨rfl,ho⟩:=cx.2.2.2.2.1 h
     refine⟨?_,rfl⟩
     unfold zDm mkF
     rw [ho];rfl
   ·rcases List.mem_append.1 ((zAl _).mem_iff.1 hq) with hq | hq
    ·exact zLk kk ck q hq
    ·obtain⟨rfl,_⟩:=zCR hq
     exact⟨⟨⟨rfl,rfl,fun _=>⟨rfl,rfl⟩,fun h=>absurd (show (2:Int)=1 from h) (by decide)⟩,fun h=>absurd (show (2:Int)=1 from h) (by decide)⟩,trivial⟩
  ·exact zLk r cr q h
theorem zRT (x:BrN) {k:For} (hc:zCT zGJ k):zCT zWT (zDm x k):=zUE fun q hq=>by
 rcases List.mem_append.1 ((zAl _).mem_iff.1 hq) with hq | hq
 ·exact zLk k hc q hq
 ·obtain⟨rfl,_⟩:=zCR hq
  exact⟨⟨⟨rfl,rfl,fun _=>⟨rfl,rfl⟩,fun h=>absurd (show (2:Int)=1 from h) (by decide)⟩,fun h=>absurd (show (2:Int)=1 from h) (by decide)⟩,trivial⟩
theorem zCT.imp {P Q:BrN->For->Prop} (h:∀ x k,P x k->Q x k):∀ {f:For},zCT P f->zCT Q f
 | .nil,_=>trivial
 | .node _ _ _,hp=>⟨h _ _ hp.1,zCT.imp h hp.2.1,zCT.imp h hp.2.2⟩
theorem zPe {b:List BrN} (hok:zAW (plT b) (plT b).length) {i:Nat} {d:Int} {y:BrN} {z:BrN} {kz:For} (hs:Sub b i d y (zDm z kz)) (hc:zCT zGJ kz) {x:DeN} (hx:x ∈ (zAo b i).ens) :
  bkE 3 x.nm=0/\((∃ p ∈ zBU kz,bkS 3 x.nm=p.1.nm/\x.nm=(aeB p.1).nm/\((bkW 3 x.nm=1/\x.nd.kd ≠ 5)\/(bkW 3 x.nm=2/\zG5 x=true/\p.1.kd=5)))\/(bkW 3 x.nm=3/\zG5 x=true)):=by
 rw [zC0 hok hs] at hx
 obtain⟨q,hq,rfl⟩:=List.mem_map.1 hx
 obtain⟨s1,_⟩:=zEv hs q hq
 obtain⟨hi,hg⟩:=zAM s1
 have hm:q.2 ∈ zBU (zDm z kz):=by rw [<- zFa (zDm z kz) (i+1)];exact List.mem_map.2 ⟨q,hq,rfl⟩
 rw [zEH] at hm
 have hnm:(zBl b i q.1).nm=q.2.1.nm:=(congrArg (fun y:BrN=>y.nm) hg).trans rfl
 have hnd:(zBl b i q.1).nd=zEs (q.2.1.at (d+1)).toTrN:=(congrArg (fun y:BrN=>zEs y.toTrN) hg).trans rfl
 have hemp:∀ nm,q.2.1=zFP nm->zG5 (zBl b i q.1)=true:=fun nm hf=>by
  have hcl:(zAa (plT b) q.1).cl=0:=by rw [zAv b _ hi,hg,hf];rfl
  have hns:(zBl b i q.1).ns=1:=by
   show ((zAR b q.1).length:Int)=1
   unfold zAR
   rw [<- zAh b,zHx (by rw [zAh];exact hi) hcl];rfl
  unfold zG5
  rw [hns,hnd,hf]
  rfl
 rw [hnm]
 rcases List.mem_append.1 ((zAl _).mem_iff.1 hm) with hm | hm
 ·obtain⟨p,hp,hpq,hcw,_,_⟩:=zEG hc hm
  obtain⟨b1,b2,b3⟩:=zDR hcw
  have hn:q.2.1.nm=(aeB p.1).nm:=by rw [hpq]
  rw [hn]
  refine⟨b3,.inl ⟨p,hp,b1,rfl,?_⟩⟩
  by_cases e:p.1.kd=5
  ·rw [if_pos e] at b2
   refine .inr ⟨b2,hemp (wtS 3 p.1.nm) ?_,e⟩
   rw [hpq]
   show aeB p.1=_
   unfold aeB
   rw [if_pos e]
  ·rw [if_neg e] at b2
   refine .inl ⟨b2,?_⟩
   rw [hnd,hpq]
   show (zEs ((aeB p.1).at (d+1)).toTrN).kd ≠ 5
   have:(aeB p.1).kd=p.1.kd:=by unfold aeB;rw [if_neg e]
   unfold zEs
   split
   ·decide
   ·show (aeB p.1).kd ≠ 5
    rw [this];exact e
 ·obtain⟨hq2,_⟩:=zCR hm
  have hn:q.2.1.nm=zDy:=by rw [hq2];rfl
  rw [hn]
  exact⟨zEj.2,.inr ⟨zEj.1,hemp zDy (by rw [hq2])⟩⟩
theorem zMx {b:List BrN} (hb:zB1 b=0) (hbare:∀ i,(zAk b i).opq=false/\(zAk b i).red= []) {i:Nat} {d:Int} {y:BrN} {z:BrN} {kz:For} (hs:Sub b i d y (zDm z kz)) (hk:y.kd=1) (hc:zCT zGJ kz) (ha:zGK zCj (zBU kz)) (hu:∀ q ∈ zBU kz,q.1.kd=5->z.opq=false):arE (zAo b i)=0:=by
 obtain⟨hi,hg⟩:=zAM hs
 obtain⟨h0,_,_⟩:=zAp hb
 obtain⟨_,_,hok,_,_⟩:=zAf h0
 have hd:zDA (zAo b i)=0:=zGs hb hi (by rw [hg];exact hk)
 have hE:=fun x hx=>zPe hok hs hc (x:=x) hx
 have ho:adO (zAo b i).ens=z.opq:=(zJd hok hs).trans (zLo hc)
 have hz:∀ j,j < (zAo b i).ens.length->adE (adO (zAo b i).ens) (zAo b i).ens j=0:=by
  intro j hj
  have hm:=List.getElem_mem hj
  obtain⟨e0,hcase⟩:=hE _ hm
  have hgj:=zAy _ _ hj
  have hdup:bkW 3 (zAo b i).ens[j].nm ≠ 3->zRt (zAo b i).ens j=false:=fun hn=>by
   unfold zRt
   rw [List.any_eq_false]
   intro k hk t
   have hk:=List.mem_range.1 hk
   simp only [Bool.and_eq_true,Bool.or_eq_true,beq_iff_eq,decide_eq_true_eq] at t
   obtain⟨t1,t2⟩:=t
   have hkl:k < (zAo b i).ens.length:=by omega
   have hgk:=zAy _ _ hkl
   have hlt:=zHQ hd hk hj
   rw [hgk,hgj] at t2 hlt
   rw [hgk] at t1
   obtain⟨_,hck⟩:=hE _ (List.getElem_mem hkl)
   rcases hcase with ⟨p,hp,bp,np,_⟩ | ⟨b3,_⟩
   case inr=>exact hn b3
   rcases hck with ⟨p',hp',bp',np',_⟩ | ⟨b3,_⟩
   case inr=>rw [b3] at t1;rcases t1 with t1 | t1 <;> cases t1
   rw [bp,bp'] at t2
   have:p'=p:=zDh ha.dist hp' hp (congrArg L t2)
   rw [np,np',this] at hlt
   exact List.lt_irrefl _ hlt
  unfold adE
  rw [hgj,if_neg (by rw [e0];decide)]
  rcases hcase with ⟨p,hp,bp,np,hw⟩ | ⟨bw,em⟩
  ·rcases hw with ⟨bw,kd⟩ | ⟨bw,em,k5⟩
   ·rw [if_neg (by rw [bw];decide),if_neg (by rintro(⟨t,_⟩ | ⟨_,t⟩);exact t bw;exact kd t),if_neg (by rintro⟨t,u⟩;rw [hdup t] at u;cases u),if_neg (by rintro⟨t,_⟩;rw [bw] at t;cases t)]
   ·rw [if_neg (by rw [bw];decide),if_neg (by rintro(⟨_,t⟩ | ⟨t,_⟩);rw [em] at t;cases t;rw [bw] at t;cases t),if_neg (by rintro⟨t,u⟩;rw [hdup t] at u;cases u),if_neg (by rintro⟨_,t⟩;rw [ho,hu p hp k5] at t;cases t)]
  ·rw [if_neg (by rw [bw];decide),if_neg (by rintro(⟨_,t⟩ | ⟨t,_⟩);rw [em] at t;cases t;rw [bw] at t;cases t),if_neg (by rintro⟨t,_⟩;exact t bw),if_neg (by rintro⟨t,_⟩;rw [bw] at t;cases t)]
 have:=zNA hd (by
  obtain⟨a,c⟩:=hbare i
  rintro(t | t)
  ·have t:(zAk b i).opq=true:=t
   rw [a] at t;cases t
  ·have t:0 < (zAk b i).red.length:=t
   rw [c] at t;cases t) (by rw [zP7 hz])
 exact(zDS this).2.2
theorem zR5 {b:List BrN} {s:Int->Int} (hb:zAs (plT b)=0) (hr:Ren s (plT b)):zMF (b.map (clN s))=b:=by
 have hc:zBh (plT (b.map (clN s)))=(plT b,0):=by rw [zLm,zQK hr,zVZ hb]
 unfold zMF
 rw [hc,if_pos rfl,List.map_map]
 refine(List.map_congr_left (g:=id) fun y hy=>?_).trans (List.map_id _)
 obtain⟨i,hi,rfl⟩:=List.getElem_of_mem hy
 have hil:i < (plT b).length:=by rw [zAh];exact hi
 have hn:=zO3 hr hil
 rw [zIs hb hil,zAv b i hi,zAw b i hi] at hn
 show ({toTrN:=clM (zBH (plT (b.map (clN s)))) (clM s b[i].toTrN),opq:=b[i].opq,red:=b[i].red}:BrN)=b[i]
 rw [zLm]
 unfold clM
 show ({toTrN:={b[i].toTrN with cl:=zBH ((plT b).map (clM s)) (s b[i].cl)},opq:=b[i].opq,red:=b[i].red}:BrN)=b[i]
 rw [show zBH ((plT b).map (clM s)) (s b[i].cl)=b[i].cl from hn]
theorem zKr (t:List TrN) (i:Nat):(zAk (zD3 t) i).opq=false/\(zAk (zD3 t) i).red= []:=by
 by_cases hi:i < (zD3 t).length
 ·rw [zAw _ _ hi]
  obtain⟨y,_,hy⟩:=List.mem_map.1 (List.getElem_mem hi)
  rw [<- hy]
  exact⟨rfl,rfl⟩
 ·unfold zAk
  rw [List.getD_eq_getElem?_getD,List.getElem?_eq_none (by omega)]
  exact⟨rfl,rfl⟩
section
variable {b:List BrN} {x:BrN} {f:For} (hb:zB1 b=0) (hw:∀ i,i < b.length->awE b i=0) (e:b=x :: flt 1 f) (hs:zCT Shp f) (h0:x.dep=0) (hk:x.kd=1)
include hb hw e hs h0 hk
theorem zXq:Ren (zBH (plT (rwB b))) (plT b):=by
 have hr:=zVu hb hw e hs h0 hk
 have hex:∀ y ∈ plT b,y.cl ≠ 0->∃ z ∈ plT (rwB b),z.cl=y.cl:=fun y hy hc=>by
  have h2:=zOL (zAp hb).1 y hy hc
  rw [<- zI2 hb hw e hs h0 hk hc] at h2
  obtain⟨z,hz,hzc⟩:=List.countP_pos_iff.1 (show 0 < (plT (rwB b)).countP fun z=>z.cl == y.cl by omega)
  exact⟨z,hz,beq_iff_eq.1 hzc⟩
 have hnz:∀ y ∈ plT b,zBH (plT (rwB b)) y.cl=0->y.cl=0:=fun y hy h=>by
  by_cases hc:y.cl=0
  ·exact hc
  ·obtain⟨z,hz,hzc⟩:=hex y hy hc
   rw [<- hzc] at h ⊢
   exact hr.nz z hz h
 refine⟨hr.zero,hnz,fun y hy z hz h=>?_⟩
 by_cases hc:y.cl=0
 ·rw [hc,hr.zero] at h
  rw [hc,hnz z hz h.symm]
 ·by_cases hd:z.cl=0
  ·rw [hd,hr.zero] at h
   exact absurd (hnz y hy h) hc
  ·obtain⟨y',hy',e1⟩:=hex y hy hc
   obtain⟨z',hz',e2⟩:=hex z hz hd
   rw [<- e1,<- e2] at h ⊢
   exact hr.inj y' hy' z' hz' h
theorem zR1 (hl:(zA8 b).length<=120):(∀ i,i < (zC6 (zCV (zA8 b))).length->zH1 (zC6 (zCV (zA8 b))) i=0)/\zOo (zC6 (zCV (zA8 b))) (fun i=>arD (zAo (zC6 (zCV (zA8 b))) i)) (nmS 3)=b.map (clN (zBH (plT (rwB b)))):=by
 obtain⟨ho,hbo⟩:=zUk hb hw e hs h0 hk hl
 obtain⟨ha,hr⟩:=zHp hw e h0 hk
 obtain⟨z1,z2,_,z4,z5⟩:=zCp ha
 obtain⟨hg,hc⟩:=zBN hb hw e hs
 obtain⟨_,hasc,hund,_,_⟩:=zDQ hb hr
 have hz:=zDe (plT (rwB b))
 have hbare:∀ i,(zAk (zC6 (zCV (zA8 b))) i).opq=false/\(zAk (zC6 (zCV (zA8 b))) i).red= []:=zKr _
 have hxk:zAc x.toTrN=0:=by
  obtain⟨h1,_,_⟩:=zAp hb
  obtain⟨_,_,hok,_,_⟩:=zAf h1
  obtain⟨_,_,n3,_,_⟩:=zAd (hok 0 (by rw [zAh,e];simp))
  rw [zAv b 0 (by rw [e];simp),(zAM hr).2] at n3
  exact n3
 have hnm:x.nm=⟨#[]⟩:=by
  obtain⟨h1,_,_⟩:=zAp hb
  obtain⟨_,_,hok,_,_⟩:=zAf h1
  obtain⟨n1,_⟩:=zAd (hok 0 (by rw [zAh,e];simp))
  unfold zAz at n1
  rw [if_pos rfl,zAv b 0 (by rw [e];simp),(zAM hr).2] at n1
  split at n1
  ·rename_i hh;exact zCn hh.2.1
  ·cases n1
 have hred:x.red= []:=by
  have:(zAo b 0).red=x.red:=(congrArg BrN.red (zAM hr).2).trans rfl
  rw [<- this];exact z2
 generalize zBH (plT (rwB b))=s at *
 generalize zC6 (zCV (zA8 b))=old at *
 have hcf:zCT zGJ (zGj s f):=zHN (fun _ _ h=>zQI hz h) hc
 have haf:zGK zCj (zBU (zGj s f)):=zNx hasc
 have huf:∀ q ∈ zBU (zGj s f),q.1.kd=5->(clN s x).opq=false:=fun q hq h5=>by
  rw [zFw] at hq
  obtain⟨p,hp,rfl⟩:=List.mem_map.1 hq
  exact hund p hp h5
 have hraw:=zRT (clN s x) hcf
 have hroot:Sub old 0 0 (rtB x) (zDm (clN s x) (zGj s f)):=by rw [ho];exact zGO _ _ rfl
 have hD:∀ i,i < old.length->(zAk old i).kd=1->arE (zAo old i)=0:=fun i hi hk1=>by
  by_cases hi0:i=0
  ·rw [hi0]
   exact zMx hbo hbare hroot rfl hcf haf huf
  ·obtain⟨d',y,ky,hsub,hcr,hex⟩:=zOT (b:=old) (P:=zWT) (zDm (clN s x) (zGj s f)) [rtB x] [] 1 hraw (by rw [ho];simp) (fun y hy=>by cases hy) i (by show 1<=i;omega) (by
    rw [ho,List.length_cons,zA9] at hi
    show i < 1+_;omega)
   have hy1:y.kd=1:=by rw [(zAM hsub).2] at hk1;exact hk1
   obtain⟨z,kz,rfl,q1,q2,q3⟩:=hex hy1
   exact zMx hbo hbare hsub hy1 q1 q2 q3
 refine⟨fun i hi=>?_,?_⟩
 ·unfold zH1
  by_cases h1:(zAk old i).kd=1
  ·rw [if_neg (by simp [h1])];exact hD i hi h1
  ·rw [if_pos h1]
 ·obtain⟨g0,_,_⟩:=zAp hbo
  obtain⟨_,_,hok,_,_⟩:=zAf g0
  have hbd:=zQW hok hD (siz (zDm (clN s x) (zGj s f))) 0 0 (rtB x) _ (Nat.le_refl _) hroot rfl (hraw.imp fun _ _ h=>h.1)
  rw [zQz hcf haf] at hbd
  have hlen:old.length=siz (zDm (clN s x) (zGj s f))+1:=by rw [ho,List.length_cons,zA9]
  obtain⟨_,_,_,_,r5⟩:=zDk (hD 0 (by omega) (by rw [(zAM hroot).2];rfl))
  have hat:(zAo old 0).ats=x.ats:=(congrArg (fun y:BrN=>y.ats) (zAM hroot).2).trans rfl
  have hop:adO (zAo old 0).ens=x.opq:=(zJd hok hroot).trans (zLo hcf)
  show (({kdN 1 with ats:=(arD (zAo old 0)).ats,opq:=(arD (zAo old 0)).opq,red:=[]}:BrN) :: zH9 old (fun i=>arD (zAo old i)) (nmS 3) old.length 0 1)=_
  rw [hlen,(zDS r5).1]
  show (({kdN 1 with ats:=(zAo old 0).ats,opq:=adO (zAo old 0).ens,red:=[]}:BrN) :: _)=_
  rw [hat,hop]
  conv=>rhs;rw [e]
  rw [List.map_cons,<- zG2]
  refine congr (congrArg _ ?_) hbd
  unfold zAc at hxk
  rw [if_neg (by omega),if_pos hk] at hxk
  split at hxk
  case isFalse=>cases hxk
  rename_i hh
  have hdat:=zCn hh.1
  obtain⟨_,hma,hmi,hcl⟩:=hh
  unfold clN clM
  obtain⟨⟨dep,nm,kd,ats,dat,ma,mi,cl⟩,opq,red⟩:=x
  simp only at h0 hk hnm hdat hma hmi hcl hred ⊢
  subst h0 hk hnm hdat hma hmi hcl hred
  rw [hz]
  rfl
end
theorem zL2 {b:List BrN} (h:awF b=0):zGw (awL b)=(b,0,0)/\zAs (awL b)=0:=by
 obtain⟨hk,hL⟩:=zHb h
 obtain⟨x,f,e,hs,h0,h1,_⟩:=zDf (zAp hk.br).1
 have hcan:=zPj hk.br hk.dirs e hs h0 h1 hk.few hk.room hk.len
 have ht:=zHU hcan
 obtain⟨o1,o2⟩:=zR1 hk.br hk.dirs e hs h0 h1 hk.len
 have hred:zEm (zCV (zA8 b))=b:=by
  unfold zEm
  rw [o2]
  exact zR5 (zAp hk.br).1 (zXq hk.br hk.dirs e hs h0 h1)
 refine⟨?_,by rw [hL];exact ht⟩
 rw [hL]
 unfold zGw
 rw [if_neg (by rw [ht];decide),zBm _ 0 (fun j _ hj=>by rw [o1 j (by omega)];rfl)]
 show (if awF (zEm (zCV (zA8 b))) ≠ 0\/zBW (awL (zEm (zCV (zA8 b)))) (zCV (zA8 b))=false then _ else _)=_
 rw [hred,if_neg]
 rintro(t | t)
 ·exact t h
 ·rw [zCx hL] at t;cases t
def sW (l:List UInt8):ByteArray:=ofL l
def trX (d:Int) (nm:List UInt8) (k:Int) (dat:List UInt8) (c:Int):TrN:=⟨d,sW nm,k,[],sW dat,0,0,c⟩
def brX (d:Int) (nm:List UInt8) (k:Int) (dat:List UInt8) (c:Int) (o:Bool):BrN:={trX d nm k dat c with opq:=o,red:=[]}
def exA:List BrN:=[brX 0 [] 1 [] 0 false,brX 1 [97] 1 [] 0 true,brX 2 [46,119,104,46,102] 2 [49] 1 false,brX 1 [119] 5 [] 0 false,brX 1 [120] 2 [49] 1 false]
def zGR:List TrN:=[trX 0 [] 1 [] 0,{kdN 1 with dep:=1,nm:=zBn},trX 2 [48,49] 2 [49] 1,trX 1 [46,119,104,46,119] 2 [] 0,trX 1 [97] 1 [] 0,trX 2 [46,119,104,46,46,119,104,46,111,112,113] 2 [] 0,trX 2 [46,119,104,46,46,119,104,46,120,102] 2 [49] 1,trX 1 [120] 2 [49] 1]
def zHa:List TrN:=[trX 0 [] 1 [] 0,trX 1 [46,119,104,46,97] 2 [] 0,trX 1 [97] 2 [] 0]
theorem zVS:awT exA=(zGR,0,0):=by kernel_rfl
theorem zVT:zGw zGR=(exA,0,0):=by
 obtain⟨h1,_,h3⟩:=zSZ zVS
 have:=(zL2 h3).1
 rw [h1] at this
 exact this
theorem zVR:zGw zHa=([],2,6):=by
 have h1:zAs zHa=0:=by kernel_rfl
 have h2:zBs (fun i=>zH1 (zC6 zHa) i != 0) 0 (zC6 zHa).length=some 0:=by kernel_rfl
 have h3:zTj zHa (atN (zC6 zHa) 0 (arN (zAo (zC6 zHa) 0)))=2:=by kernel_rfl
 have h4:zH1 (zC6 zHa) 0=6:=by kernel_rfl
 unfold zGw
 rw [if_neg (by rw [h1];decide),h2]
 show (_,zTj zHa (atN (zC6 zHa) 0 (arN (zAo (zC6 zHa) 0))),zH1 (zC6 zHa) 0)=_
 rw [h3,h4]
theorem zQJ {t:List TrN} (h:zAs t=0):∃ x f,zD3 t=x :: flt 1 f/\zCT zVg f/\x.dep=0/\x.kd=1/\x.nm.toList= []/\zCT Shp f:=by
 have hb:=zC7 h
 obtain⟨x,f,e,hs,h0,hk,hnm⟩:=zDf (zAp hb).1
 have hbare:=zKr t
 refine⟨x,f,e,?_,h0,hk,hnm,hs⟩
 have hg:zB6 (fun _ y ky=>y.red= []/\y.opq=false/\zAc y.toTrN=0) 1 f:=by
  have:∀ i d y ky,1<=d->Sub (x :: flt 1 f) i d y ky->y.red= []/\y.opq=false/\zAc y.toTrN=0:=fun i d y ky _ hs=>by
   rw [<- e] at hs
   obtain⟨hi,hg⟩:=zAM hs
   obtain⟨a,c⟩:=hbare i
   rw [hg] at a c
   obtain⟨h1,_,_⟩:=zAp hb
   obtain⟨_,_,hok,_,_⟩:=zAf h1
   obtain⟨_,_,n3,_,_⟩:=zAd (hok i (by rw [zAh];exact hi))
   rw [zAv _ i hi,hg] at n3
   exact⟨c,a,n3⟩
  exact zHM this
 refine hg.each (fun _ y ky hp hs=>⟨hs.1,hp.1,fun hk=>⟨hs.2 hk,hp.2.1⟩,fun hk=>?_⟩) hs
 have hx:=hp.2.2
 unfold zAc at hx
 rw [if_neg (by omega),if_pos hk] at hx
 split at hx
 ·rename_i hh;exact⟨zCn hh.1,hh.2.1,hh.2.2.1,hh.2.2.2⟩
 ·cases hx
theorem zVO {b:List BrN} (hb:zB1 b=0) {x:BrN} {f:For} (e:b=x :: flt 1 f):zB6 zK6 1 f:=by
 subst e
 suffices key:∀ i d y ky,1<=d->Sub (x :: flt 1 f) i d y ky->zK6 d y ky from zHM key
 intro i d y ky h1 hs
 obtain⟨hi,hg⟩:=zAM hs
 obtain⟨h0,_,_⟩:=zAp hb
 obtain⟨_,_,hok,_,_⟩:=zAf h0
 obtain⟨n,hn,hin,_,_⟩:=zPo hb h1 hs
 obtain⟨hnil,hasc,_,_,h24⟩:=zDQ hb hs
 have hl:=zAh (x :: flt 1 f)
 obtain⟨n1,_,n3,n4,_⟩:=zAd (hok i (by omega))
 have hT:zAa (plT (x :: flt 1 f)) i=(y.at d).toTrN:=by rw [zAv _ i hi,hg]
 have hname:=(zFK hok (by omega) (show abv (plT (x :: flt 1 f)) i=(n:Int) from of_decide_eq_true (List.mem_filter.1 hin).2)).1
 have hdep:=(zA4 n1).2.1
 rw [hT] at n3 n4 hname hdep
 exact⟨hdep,hname,zHA n3,n4,hnil,h24,hasc⟩
theorem zHD (d:Int):∀ S:List (BrN × For),(S.flatMap (flc d)).length=siz (ofS S)
 | []=>rfl
 | (x,k) :: r=>by
  rw [List.flatMap_cons,List.length_append,zHD d r]
  show (x.at d :: flt (d+1) k).length+_=1+siz k+siz (ofS r)
  rw [List.length_cons,zA9];omega
theorem zLH (S:List (BrN × For)):(∀ p ∈ S,p.1.nm ≠ zBn)\/∃ A q B,S=A ++ q :: B/\q.1.nm=zBn/\∀ p ∈ A,p.1.nm ≠ zBn:=by
 induction S with
 | nil=>exact .inl fun p hp=>by cases hp
 | cons a r ih=>
  by_cases e:a.1.nm=zBn
  ·exact .inr ⟨[],a,r,rfl,e,fun p hp=>by cases hp⟩
  ·rcases ih with h | ⟨A,q,B,h1,h2,h3⟩
   ·exact .inl fun p hp=>by
     rcases List.mem_cons.1 hp with rfl | hp
     ·exact e
     ·exact h p hp
   ·exact .inr ⟨a :: A,q,B,by rw [h1];rfl,h2,fun p hp=>by
     rcases List.mem_cons.1 hp with rfl | hp
     ·exact e
     ·exact h3 p hp⟩
theorem zOM {t:List TrN} (h:zAs t=0):∃ x S,t=x.toTrN :: plT (S.flatMap (flc 1))/\zD3 t=x :: flt 1 (ofS S)/\(∀ q ∈ S,zK6 1 q.1 q.2/\zB6 zK6 2 q.2)/\zGK zCj S/\S.length<=24/\x.dep=0/\x.kd=1/\x.nm.toList= []/\zAc x.toTrN=0/\zBR x.ats=0/\1+siz (ofS S)<=120:=by
 obtain⟨x,f,e,_,h0,hk,hnm,_⟩:=zQJ h
 have hb:=zC7 h
 have hf:=zVO hb e
 obtain⟨z1,z2,hok,_,_⟩:=zAf h
 have hr:Sub (zD3 t) 0 0 x f:=by rw [e];exact zGO x f h0
 obtain⟨_,hasc,_,_,h24⟩:=zDQ hb hr
 have ht:t=x.toTrN :: plT ((zBU f).flatMap (flc 1)):=by
  conv=>lhs;rw [<- zGS t,e]
  rw [<- zFE f,zDg,zCI];rfl
 have hg:zAa t 0=x.toTrN:=by rw [ht];rfl
 obtain⟨_,_,n3,n4,_⟩:=zAd (hok 0 (by omega))
 rw [hg] at n3 n4
 refine⟨x,zBU f,ht,by rw [zFE];exact e,zKE hf,hasc,h24,h0,hk,hnm,n3,n4,?_⟩
 rw [ht,List.length_cons,zAh,zHD] at z2
 omega
theorem zQA {t:List TrN} (h:zAs t=0) (hl:0 < zDz t):zBh (zH8 t)=(zCV (zH8 t),0):=by
 obtain⟨x,S,ht,_,hS,ha,h24,h0,hk,hnm,hki,hch,h120⟩:=zOM h
 have hnor:zEr x.toTrN=true:=by
  unfold zEr
  rw [decide_eq_false (show ¬ x.toTrN.dep=1 from fun e=>by have e:x.dep=1:=e;omega),Bool.false_and];rfl
 rcases zLH S with hno | ⟨A,q,B,h1,h2,h3⟩
 ·rw [ht,zTh hnor hno] at hl
  exact absurd hl (by decide)
 subst h1
 obtain⟨c1,_⟩:=zKH hnor h2 (B:=B) h3
 have hmem:∀ y ∈ zH8 t,y ∈ t:=fun y hy=>by
  rw [ht] at hy ⊢
  rw [c1] at hy
  rcases List.mem_cons.1 hy with rfl | hy
  ·exact List.mem_cons_self ..
  ·refine List.mem_cons_of_mem _ ?_
   rw [List.flatMap_append,zDv] at hy ⊢
   rcases List.mem_append.1 hy with hy | hy
   ·exact List.mem_append.2 (.inl hy)
   ·refine List.mem_append.2 (.inr ?_)
    rw [List.flatMap_cons,zDv]
    exact List.mem_append.2 (.inr hy)
 have hlen:(zH8 t).length<=120:=by
  rw [ht,c1,List.length_cons,zAh,zHD]
  have e1:=zHD 1 (A ++ q :: B)
  have e2:=zHD 1 (A ++ B)
  rw [List.flatMap_append,List.length_append] at e1 e2
  rw [List.flatMap_cons,List.length_append] at e1
  omega
 refine zNl hlen ?_ (zQZ (zC7 h) fun y hy _=>⟨y,by rw [zGS];exact hmem y hy,rfl,rfl,rfl,rfl,rfl,rfl⟩)
 have hsub:∀ p ∈ A ++ B,p ∈ A ++ q :: B:=fun p hp=>by
  rcases List.mem_append.1 hp with hp | hp
  ·exact List.mem_append.2 (.inl hp)
  ·exact List.mem_append.2 (.inr (List.mem_cons_of_mem _ hp))
 have hcut:zH8 t=plT (x :: flt 1 (ofS (A ++ B))):=by rw [ht,c1,zDg];rfl
 rw [hcut] at hlen ⊢
 rw [zAh,List.length_cons,zA9] at hlen
 refine zJv (x:=x) (zDP fun p hp=>hS p (hsub p hp)) (by omega) ?_ ?_ h0 hnm hk (zHA hki) hch
 ·rw [zCI]
  exact List.Pairwise.sublist (List.Sublist.append (List.Sublist.refl A) (List.sublist_cons_self q B)) ha
 ·rw [zCI,List.length_append]
  rw [List.length_append,List.length_cons] at h24
  omega
theorem zJS (d:DiN):arD d=zJ4\/arE d=0:=by
 unfold arD arE arT
 by_cases h1:zDA d ≠ 0
 ·rw [if_pos h1];exact .inl rfl
 rw [if_neg h1]
 by_cases h2:d.opq=true\/0 < d.red.length
 ·rw [if_pos h2];exact .inl rfl
 rw [if_neg h2]
 by_cases h3:(gnI (adE (adO d.ens) d.ens) d.ens.length).2 ≠ 0
 ·rw [if_pos h3];exact .inl rfl
 ·rw [if_neg h3];exact .inr rfl
theorem zIW:∀ f:For,szS (zNd f)<=siz f
 | .nil=>Nat.le_refl _
 | .node x k r=>by
  have h1:=zIW k;have h2:=zIW r
  unfold zNd
  split
  ·show szS (zNd r)<=1+siz k+siz r;omega
  ·show 1+siz (ofS (zEg zCj (zNd k)))+szS (zNd r)<=1+siz k+siz r
   rw [zHi,zIU];omega
theorem zUH {t:List TrN} {y:TrN} (hy:y ∈ zH8 t):y ∈ t:=by
 unfold zH8 at hy
 rcases List.mem_append.1 hy with h | h
 ·exact(List.takeWhile_sublist _).subset h
 ·exact(List.dropWhile_sublist _).subset (List.mem_of_mem_drop ((List.dropWhile_sublist _).subset h))
theorem zFB {t:List TrN} (h:zAs t=0):zAs (zEl t)=0:=by
 unfold zEl
 by_cases e:zDz t=0
 ·rw [if_pos e];exact h
 ·rw [if_neg e]
  have hc:=zQA h (Nat.pos_of_ne_zero e)
  rw [hc]
  exact zHU hc
theorem zNU {t:List TrN} (h:zAs t=0) (hs:zAP t):zAP (zEl t):=by
 unfold zEl
 by_cases e:zDz t=0
 ·rw [if_pos e];exact hs
 ·rw [if_neg e,zQA h (Nat.pos_of_ne_zero e)]
  intro x hx
  obtain⟨y,hy,rfl⟩:=List.mem_map.1 hx
  exact hs y (zUH hy)
theorem zKp {t:List TrN} (h:zAs t=0):zB1 (zC6 t)=0:=zC7 (zFB h)
theorem zPy (t:List TrN):(zD3 t).length=t.length:=List.length_map ..
theorem zN5 {t:List TrN} (h:zAs t=0) (hs:zAP t):zBr (zD3 t) where
 tree:=by rw [zGS];exact hs
 ats:=fun x hx=>by
  obtain⟨i,hi,rfl⟩:=List.getElem_of_mem hx
  have:=zQN (zC7 h) hi
  rw [zAw _ i hi] at this
  exact(zA3 this).2
 red:=fun x hx=>by
  obtain⟨y,_,rfl⟩:=List.mem_map.1 hx
  exact⟨Nat.zero_le _,fun s hs=>by cases hs⟩
 len:=by rw [zPy];exact Nat.le_trans (zAf h).2.1 (by omega)
theorem zPt {t:List TrN} (h:zAs t=0) (hs:zAP t):zBr (zC6 t):=zN5 (zFB h) (zNU h hs)
/-! The entries of a directory that is read. -/
theorem zWa (d:DiN):(arD d).ens.length<=24:=by
 rcases zJS d with h | h
 ·rw [h];exact Nat.zero_le _
 ·exact(zA0 (zHc h)).2.2.2.2.1
theorem zQ3 {d:DiN} {x:DeN} (hx:x ∈ (arD d).ens):arE d=0/\∃ y ∈ d.ens,x=adX y/\bkW 3 y.nm ≠ 3/\EnY (adO d.ens) x:=by
 rcases zJS d with h | h
 ·rw [h] at hx;cases hx
 ·rw [(zDS (zDk h).2.2.2.2).1] at hx
  have hx:x ∈ adL d.ens:=(zAl (key:=DeN.nm) (adL d.ens)).mem_iff.1 hx
  obtain⟨y,h1,h2,h3,_,_,h6⟩:=zPE h hx
  exact⟨h,y,h1,h2,h3,h6⟩
theorem zV9 {d:DiN} {x:DeN} (hx:x ∈ (arD d).ens):x.nm.size<=24:=by
 obtain⟨_,_,_,_,_,h⟩:=zQ3 hx
 rw [zAN]
 exact(zCA h.1).2.2.2.2
theorem zSI {b:List BrN} (hb:zB1 b=0) (i:Nat) (hi:i < b.length) (hki:(zAk b i).kd=1):(arD (zAo b i)).ens.length<=1000/\∀ x ∈ (arD (zAo b i)).ens,x.nm.size<=900000/\(x.nd.kd=1->∃ k,(zAE b i).find? (fun k=>decide ((zAk b k).nm=nmS 3 x.nm))=some k/\(zAk b k).kd=1):=by
 refine⟨Nat.le_trans (zWa _) (by omega),fun x hx=>⟨Nat.le_trans (zV9 hx) (by omega),fun h1=>?_⟩⟩
 obtain⟨h0,y,hy,rfl,h3,-⟩:=zQ3 hx
 obtain⟨z1,_,_,z4,_⟩:=zDk h0
 obtain⟨ix,hix,hge⟩:=List.getElem_of_mem hy
 have hpt:=zEd (z4 ix hix)
 rw [zAy _ _ hix,hge] at hpt
 obtain⟨t0,t4,_⟩:=hpt
 obtain⟨k,hk,rfl⟩:=List.mem_map.1 hy
 have n2:¬ bkW 3 (zBl b i k).nm=2:=fun e=>by
  unfold adX at h1
  rw [if_pos e] at h1
  exact absurd h1 (show ¬ (5:Int)=1 by decide)
 have ex:adX (zBl b i k)= {zBl b i k with nm:=bkS 3 (zBl b i k).nm}:=by unfold adX;rw [if_neg n2]
 rw [ex] at h1 ⊢
 rcases zE6 3 (zBl b i k).nm with ⟨a1,_,_⟩ | ⟨_,a2,a3,a4⟩ | ⟨_,a2,_⟩ | ⟨_,a2,_⟩ | ⟨_,a2,_⟩
 ·rw [t0] at a1;cases a1
 ·have hkk:(zAk b k).kd=1:=by
   have h1:(zEs (zAk b k).toTrN).kd=1:=h1
   unfold zEs at h1
   by_cases e:(zAk b k).toTrN.kd=1
   ·exact e
   ·rw [if_neg e] at h1;exact h1
  refine⟨k,?_,hkk⟩
  show (zAE b i).find? (fun j=>decide ((zAk b j).nm=nmS 3 (bkS 3 (zBl b i k).nm)))=some k
  rw [a4]
  exact zMU (zGs hb hi hki) hk
 ·exact absurd a2 n2
 ·exact absurd a2 h3
 ·exact absurd a2 t4
/-! The nodes that are put together. -/
def OkB (y:BrN):Prop:=y.nm.size<=24/\zBR y.ats=0/\y.red= []
theorem zUL:zBR []=0:=by decide
theorem zTF (d:DiN):zBR (arD d).ats=0:=by
 rcases zJS d with h | h
 ·rw [h];exact zUL
 ·exact(zA0 (zHc h)).2.1
theorem zTE (d:DiN):(arD d).red= []:=by
 rcases zJS d with h | h
 ·rw [h];rfl
 ·rw [(zDS (zDk h).2.2.2.2).1]
theorem zTz (b:List BrN) (back:ByteArray->ByteArray):∀ (n i:Nat) (d:Int),∀ y ∈ zH9 b (fun i=>arD (zAo b i)) back n i d,OkB y
 | 0,_,_,_,h=>by cases h
 | n+1,i,d,y,h=>by
  unfold zH9 at h
  obtain⟨x,hx,hy⟩:=List.mem_flatMap.1 h
  have h1:=zV9 hx
  obtain⟨_,_,_,_,_,h2⟩:=zQ3 hx
  split at hy
  ·rcases List.mem_cons.1 hy with rfl | hy
   ·exact⟨h1,zTF _,by first | rfl | exact zTE _⟩
   ·exact zTz b back n _ _ y hy
  ·obtain rfl:=List.mem_singleton.1 hy
   exact⟨h1,zMm h2.2.2.2.1,rfl⟩
def zKP (t:List TrN):List BrN:=zOo (zC6 t) (fun i=>arD (zAo (zC6 t) i)) (nmS 3)
theorem zLY {t:List TrN} {y:BrN} (h:y ∈ zKP t):OkB y:=by
 unfold zKP zOo at h
 rcases List.mem_cons.1 h with rfl | h
 ·exact⟨by show (0:Nat)<=24;omega,zTF _,rfl⟩
 ·exact zTz _ _ _ _ _ y h
theorem zSU {t:List TrN}:∀ x ∈ zKP t,x.ats.length<=1000:=fun _ hx=>(zA3 (zLY hx).2.1).2
theorem zQS {t:List TrN}:zAP (plT (zKP t)):=fun y hy=>by
 obtain⟨x,hx,rfl⟩:=List.mem_map.1 hy
 obtain⟨h1,h2,_⟩:=zLY hx
 exact⟨Nat.le_trans h1 (by omega),(zA3 h2).1.million,Nat.le_trans (zA3 h2).2 (by omega)⟩
theorem zNo {t:List TrN} (h:zAs t=0) (hw:∀ i,i < (zC6 t).length->zH1 (zC6 t) i=0):(zKP t).length<=120:=by
 have hb:=zKp h
 obtain⟨x,f,e,hc,h0,hk,_,hs⟩:=zQJ (zFB h)
 have e:zC6 t=x :: flt 1 f:=e
 obtain⟨z1,_,_⟩:=zAp hb
 obtain⟨_,z2,hok,_,_⟩:=zAf z1
 have hl:(zC6 t).length=siz f+1:=by rw [e,List.length_cons,zA9]
 have hr:Sub (zC6 t) 0 0 x f:=by rw [e];exact zGO x f h0
 have hbd:=zQW hok (fun i hi hki=>by have:=hw i hi;unfold zH1 at this;rw [if_neg (by simp [hki])] at this;exact this) (siz f) 0 0 x f (Nat.le_refl _) hr hk hc
 have hln:(zKP t).length=1+siz (zNe f):=by
  unfold zKP zOo
  rw [hl]
  show ((_:BrN) :: zH9 (zC6 t) (fun i=>arD (zAo (zC6 t) i)) (nmS 3) (siz f+1) 0 (0+1)).length=_
  rw [hbd,List.length_cons,zA9];omega
 rw [hln]
 unfold zNe
 rw [zHi,zIU]
 have:=zIW f
 rw [zAh,hl] at z2
 omega
theorem zUa (t:List TrN):zEm t=zMF (zKP t):=rfl
theorem zN4 {b:List BrN} (h:∀ y ∈ b,OkB y) (hl:b.length<=1000):zBr (zMF b):=by
 have key:∀ y ∈ zMF b,∃ z ∈ b,y.nm=z.nm/\y.ats=z.ats/\y.red=z.red:=fun y hy=>by
  unfold zMF at hy
  split at hy
  ·obtain⟨z,hz,rfl⟩:=List.mem_map.1 hy
   exact⟨z,hz,rfl,rfl,rfl⟩
  ·exact⟨y,hy,rfl,rfl,rfl⟩
 refine⟨fun x hx=>?_,fun x hx=>?_,fun x hx=>?_,?_⟩
 ·obtain⟨y,hy,rfl⟩:=List.mem_map.1 hx
  obtain⟨z,hz,e1,e2,_⟩:=key y hy
  obtain⟨h1,h2,_⟩:=h z hz
  show y.nm.size<=_/\(∀ a ∈ y.ats,_)/\y.ats.length<=_
  rw [e1,e2]
  exact⟨Nat.le_trans h1 (by omega),(zA3 h2).1.million,Nat.le_trans (zA3 h2).2 (by omega)⟩
 ·obtain⟨z,hz,_,e2,_⟩:=key x hx
  rw [e2];exact(zA3 (h z hz).2.1).2
 ·obtain⟨z,hz,_,_,e3⟩:=key x hx
  rw [e3,(h z hz).2.2]
  exact⟨Nat.zero_le _,fun s hs=>by cases hs⟩
 ·unfold zMF
  split
  ·rw [List.length_map];exact hl
  ·exact hl
theorem zIo {t:List TrN} (h:zAs t=0) (hw:∀ i,i < (zC6 t).length->zH1 (zC6 t) i=0):zBr (zEm t):=zN4 (fun y hy=>zLY hy) (Nat.le_trans (zNo h hw) (by omega))
theorem zWb {b:List BrN} {i:Nat} (hb:zB1 b=0) (hi:i < b.length) (hk:(zAk b i).kd=1) (h:arE (zAo b i) ≠ 0):arN (zAo b i) < (zAE b i).length:=by
 have hl:(zAo b i).ens.length=(zAE b i).length:=List.length_map ..
 have h0:zDA (zAo b i)=0:=zGs hb hi hk
 rw [<- hl]
 unfold arN arE at *
 unfold arT at *
 rw [if_neg (by simp [h0])] at h ⊢
 by_cases h1:(zAo b i).opq=true\/0 < (zAo b i).red.length
 ·rw [if_pos h1];show (-1:Int) < _;omega
 rw [if_neg h1] at h ⊢
 by_cases h2:(gnI (adE (adO (zAo b i).ens) (zAo b i).ens) (zAo b i).ens.length).2 ≠ 0
 ·rw [if_pos h2]
  show (gnI (adE (adO (zAo b i).ens) (zAo b i).ens) (zAo b i).ens.length).1 < _
  unfold gnI at h2 ⊢
  cases hf:zBs (fun j=>adE (adO (zAo b i).ens) (zAo b i).ens j != 0) 0 (zAo b i).ens.length with
  | none=>rw [hf] at h2;exact absurd rfl h2
  | some j=>have:=(zBo _ _ _ hf).2.2;show (j:Int) < _;omega
 ·rw [if_neg h2] at h;exact absurd rfl h
end Go.Proofs.YtbeeoomadnmogaaGreat
