/- AfH2 AfM3 AfM5 AfM7 AwY AxI -/
import Derived.Test.YtbeeoomadnmogaaGreatQI5
import Derived.Test.YtbeeoomadnmogaaGreatQBrnC
import Derived.Test.YtbeeoomadnmogaaGreatQAwA
import Derived.Test.YtbeeoomadnmogaaGreatQFarO
set_option maxRecDepth 100000
set_option maxHeartbeats 64000000
namespace Go.Proofs.YtbeeoomadnmogaaGreat
open Go.RowKit
structure Ren (s:Int->Int) (t:List TrN):Prop where
 zero:s 0=0
 nz:∀x∈t,s x.cl=0->x.cl=0
 inj:∀x∈t,∀y∈t,s x.cl=s y.cl->x.cl=y.cl
theorem zC1 {t:List TrN}{i:Nat}(h:i<t.length):zAa t i∈t:=by rw[zAl t i h];exact List.getElem_mem h
theorem Ren.sub {s:Int->Int}{t u:List TrN}(h:Ren s t)(hu:∀x∈u,x∈t):Ren s u:=⟨h.zero,fun x hx=>h.nz x (hu x hx),fun x hx y hy=>h.inj x (hu x hx) y (hu y hy)⟩
theorem zUm (s:Int->Int)(t:List TrN):(t.map (clM s)).map (clM fun _=>0)=t.map (clM fun _=>0):=by rw[List.map_map];rfl
section
variable {s:Int->Int} {t:List TrN} (h:Ren s t)
include h
theorem zPb {i j:Nat}(hi:i<t.length)(hj:j<t.length):(zAa (t.map (clM s)) j).cl=(zAa (t.map (clM s)) i).cl↔(zAa t j).cl=(zAa t i).cl:=by
 rw[zKW h.zero,zKW h.zero];exact⟨fun e=>h.inj _ (zC1 hj) _ (zC1 hi) e,fun e=>by rw[e]⟩
theorem zKr {i:Nat}(hi:i<t.length):∀k,k<=t.length->zAi (t.map (clM s)) (zAa (t.map (clM s)) i).cl k=zAi t (zAa t i).cl k
 | 0,_=>rfl
 | k+1,hk=>by
  show zAi _ _ k+_=zAi _ _ k+_;rw[zKr hi k (by omega)];have:=zPb h hi (show k<t.length from hk);by_cases e:(zAa t k).cl=(zAa t i).cl
  ·rw[if_pos e,if_pos (this.2 e)]
  ·rw[if_neg e,if_neg fun x=>e (this.1 x)]
theorem zPa {i:Nat}(hi:i<t.length):zDS (t.map (clM s)) (zAa (t.map (clM s)) i).cl=zDS t (zAa t i).cl:=by
 unfold zDS;rw[List.length_map,zKr h hi _ (Nat.le_refl _),zKW h.zero];have:s (zAa t i).cl≠0↔(zAa t i).cl≠0:=⟨fun e x=>e (by rw[x];exact h.zero),fun e x=>e (h.nz _ (zC1 hi) x)⟩;rw[decide_eq_decide.2 this]
theorem zLu {i:Nat}(hi:i<t.length):zCe (t.map (clM s)) (zAa (t.map (clM s)) i).cl=zCe t (zAa t i).cl:=by grind[clM,zCe,zAa,zAU,zPb,List.length_map,Nat.lt_trichotomy]
theorem zTD:∀k,k<=t.length->nfC (t.map (clM s)) k=nfC t k
 | 0,_=>rfl
 | k+1,hk=>by
  show nfC _ k+_=nfC _ k+_;rw[zTD k (by omega)];unfold zJt;rw[zPa h hk,zLu h hk]
theorem zO9 {i:Nat}(hi:i<t.length):zBd (t.map (clM s)) (s (zAa t i).cl)=zBd t (zAa t i).cl:=by
 have e:s (zAa t i).cl=(zAa (t.map (clM s)) i).cl:=(zKW h.zero t i).symm;grind[zBd,zAU,zPa,zLu,zTD]
theorem zUJ:zCr (t.map (clM s))=zCr t:=by
 unfold zCr;rw[List.map_map];refine List.map_congr_left fun x hx=>?_;obtain⟨i,hi,rfl⟩:=List.getElem_of_mem hx;have:=zO9 h hi;rw[zAl t i hi]at this;show clM _ (clM s t[i])=_;unfold clM;show ({t[i]with cl:=zBd (t.map (clM s)) (s t[i].cl)}:TrN)=_;rw[this]
theorem zPc {i:Nat}(hi:i<t.length):zEm (t.map (clM s)) i=zEm t i:=by
 unfold zEm;rw[zLu h hi,zDy h.zero,zDy h.zero];have:(s (zAa t i).cl != 0)=((zAa t i).cl != 0):=by
  rw[Bool.eq_iff_iff,bne_iff_ne,bne_iff_ne];exact⟨fun e x=>e (by rw[x];exact h.zero),fun e x=>e (h.nz _ (zC1 hi) x)⟩
 show ((s (zAa t i).cl != 0)&&_)=_;rw[this];rfl
theorem zQS:zA5 (t.map (clM s))=zA5 t:=by
 unfold zA5;rw[List.length_map,zUm s t,zUJ h];have:(List.range t.length).any (zEm (t.map (clM s)))=(List.range t.length).any (zEm t):=by
  rw[Bool.eq_iff_iff,List.any_eq_true,List.any_eq_true];constructor
  ·rintro⟨i,hi,e⟩;exact⟨i,hi,by rw[<- zPc h (List.mem_range.1 hi)];exact e⟩
  ·rintro⟨i,hi,e⟩;exact⟨i,hi,by rw[zPc h (List.mem_range.1 hi)];exact e⟩
 rw[this]
end
theorem zIM {x y:TrN}(h:zAT x y=true):x.kd=y.kd/\x.ats=y.ats/\x.dat=y.dat/\x.ma=y.ma/\x.mi=y.mi:=zBX.1 h
theorem zS6 {t u:List TrN}(h:zA5 t=(u,0)):t.length<=120/\zAt (t.map (clM fun _=>0))=0/\(∀i,i<t.length->zEm t i=false)/\u=zCr t:=by
 unfold zA5 at h;grind
theorem zH5 {t:List TrN}{i:Nat}(h:zEm t i=false)(hc:(zAa t i).cl≠0):(zAa t i).kd≠1/\(zAa t i).kd≠5/\zAT (zAa t (zCe t (zAa t i).cl)) (zAa t i)=true:=by grind[zEm]
theorem zH1 {t u:List TrN}(h:zA5 t=(u,0)):zAt u=0:=by
 obtain⟨h1,h2,h3,rfl⟩:=zS6 h;obtain⟨z1,z2,z3,_,_⟩:=zAf h2;rw[List.length_map]at z1 z2 z3;have hs:=zDd t;have hlen:(zCr t).length=t.length:=List.length_map _;have hu:∀i,zAa (zCr t) i=clM (zBd t) (zAa t i):=zDy hs t;have hm:∀k,k<=t.length->zAK (zCr t) k=nfC t k:=fun k=>by
  induction k with
  | zero=>intro _;rfl
  | succ k ih=>
   intro hk;have ih:=ih (by omega);show max (zAK (zCr t) k) (zAa (zCr t) k).cl=((nfC t k+(if zJt t k=true then 1 else 0):Nat):Int);rw[ih,hu];show max _ (zBd t (zAa t k).cl)=_;obtain⟨a1,a2,a3⟩:=zAU (show k<t.length from hk);unfold zBd zJt
   cases em:zDS t (zAa t k).cl with
   | false=>rw[if_neg Bool.false_ne_true,Bool.false_and,if_neg Bool.false_ne_true];omega
   | true=>
    rw[if_pos rfl,Bool.true_and];by_cases e:zCe t (zAa t k).cl=k
    ·rw[if_pos (beq_iff_eq.2 e),e];omega
    ·rw[if_neg fun x=>e (beq_iff_eq.1 x)];have n1:=zLC (show k<t.length from hk) em;have n2:nfC t (zCe t (zAa t k).cl+1)=nfC t (zCe t (zAa t k).cl)+1:=by show nfC t _+_=_;rw[if_pos n1]
     have n3:=zG2 t (show zCe t (zAa t k).cl+1<=k by omega);omega
 refine(zBh (zES (by rw[hlen];exact z1) (by rw[hlen];omega) ?_ ?_)).2
 ·intro i hi;rw[hlen]at hi;obtain⟨n1,n2,n3,n4,_⟩:=zAd (z3 i hi);rw[zHZ rfl]at n1;rw[zH0 rfl]at n2;rw[zDy rfl]at n3 n4;have hc0:((zAa t i).kd=1\/(zAa t i).kd=5)->zBd t (zAa t i).cl=0:=fun hk=>by
   by_cases e:(zAa t i).cl=0
   ·rw[e];exact hs
   ·obtain⟨b1,b2,_⟩:=zH5 (h3 i hi) e;rcases hk with hk|hk
    ·exact absurd hk b1
    ·exact absurd hk b2
  rw[zBO (hu i) (by unfold zCr;rw[zHZ hs];exact n1) (fun h=>by unfold zCr;rw[zH0 hs];exact n2 h) (zP3 n3 hc0) n4];unfold zGc;have hge:0<=zBd t (zAa t i).cl:=by unfold zBd;split<;>omega
  have hle:zBd t (zAa t i).cl<=nfC t i+1:=by
   unfold zBd;split
   ·have:=zG2 t (zAU hi).1;omega
   ·omega
  have hun:zBB (zCr t) i i=false:=by
   refine(zFo i).2 fun j hj hp he=>?_;rw[hu]at hp he;rw[hu]at he;have he:zBd t (zAa t j).cl=zBd t (zAa t i).cl:=he;have hp:0<zBd t (zAa t i).cl:=hp;have hcl:=zG3 hi (by omega) (by omega) he.symm;have hcn:(zAa t i).cl≠0:=fun e=>by rw[e,hs]at hp;exact absurd hp (by decide)
   obtain⟨_,_,l1⟩:=zH5 (h3 i hi) hcn;obtain⟨_,_,l2⟩:=zH5 (h3 j (by omega)) (by rw[<- hcl];exact hcn);rw[<- hcl]at l2;obtain⟨p1,p2,p3,p4,p5⟩:=zIM l1;obtain⟨q1,q2,q3,q4,q5⟩:=zIM l2;rw[hu,hu];exact zBX.2 ⟨q1.symm.trans p1,q2.symm.trans p2,q3.symm.trans p3,q4.symm.trans p4,q5.symm.trans p5⟩
  rw[if_neg (by rw[hun];exact Bool.false_ne_true),hm i (by omega),hu];exact if_neg (show ¬(zBd t (zAa t i).cl<0\/(nfC t i:Int)+1<zBd t (zAa t i).cl) by omega)
 ·intro i hi;rw[hlen]at hi;unfold zDM;by_cases e:0<(zAa (zCr t) i).cl
  ·rw[hu]at e;have hmul:=zJr (show zBd t (zAa t i).cl≠0 from by have:0<zBd t (zAa t i).cl:=e;omega);have hcnt:∀k,k<=t.length->zAi (zCr t) (zAa (zCr t) i).cl k=zAi t (zAa t i).cl k:=fun k=>by
    induction k with
    | zero=>intro _;rfl
    | succ k ih=>
     intro hk;show zAi _ _ k+_=zAi _ _ k+_;rw[ih (by omega),hu,hu];show _+(if zBd t (zAa t k).cl=zBd t (zAa t i).cl then 1 else 0)=_;by_cases e2:(zAa t k).cl=(zAa t i).cl
     ·rw[if_pos e2,if_pos (by rw[e2])]
     ·rw[if_neg e2,if_neg fun x=>e2 (zG3 hi (by omega) (by have:0<zBd t (zAa t i).cl:=e;omega) x.symm).symm]
   rw[hlen,hcnt _ (Nat.le_refl _)];unfold zDS at hmul;rw[Bool.and_eq_true,decide_eq_true_iff,decide_eq_true_iff]at hmul;rw[Bool.and_eq_false_iff];exact .inr (nB (by omega))
  ·rw[decide_eq_false e];rfl
theorem zIN {t:List TrN}(hok:zA1 t t.length){i j:Nat}(hi:i<t.length)(hj:j<t.length)(hc:(zAa t i).cl=(zAa t j).cl)(h0:(zAa t j).cl≠0):zAT (zAa t i) (zAa t j)=true/\(zAa t j).kd≠1/\(zAa t j).kd≠5:=by
 obtain⟨_,_,k1,_,c1⟩:=zAd (hok i hi);obtain⟨_,_,k2,_,c2⟩:=zAd (hok j hj);obtain⟨p1,p5,_⟩:=zGu k2;refine⟨?_,fun e=>h0 (p1 e),fun e=>h0 (p5 e).1⟩;obtain⟨a1,_,a3⟩:=zEN c1;obtain⟨b1,_,b3⟩:=zEN c2;rcases Nat.lt_trichotomy i j with h|h|h
 ·exact(zFo j).1 b3 i h (by omega) hc
 ·rw[h];exact zOn _
 ·obtain⟨q1,q2,q3,q4,q5⟩:=zBX.1 ((zFo i).1 a3 j h (by omega) hc.symm);exact zBX.2 ⟨q1.symm,q2.symm,q3.symm,q4.symm,q5.symm⟩
theorem zU6 {b:List BrN}(hb:zB9 b=0){j:Nat}(hj:j<(zB2 b).toNat):zCe (plT b) ((j+1:Nat):Int)<(plT b).length/\(zAa (plT b) (zCe (plT b) ((j+1:Nat):Int))).cl=((j+1:Nat):Int):=by
 obtain⟨h1,_,_⟩:=zAp hb;obtain⟨_,_,hok,_,_⟩:=zAf h1;obtain⟨i,hi,hc⟩:=zFR hok _ (Nat.le_refl _) ((j+1:Nat):Int) (by omega) (by rw[zAk];show _<=zB2 b;omega);obtain⟨f1,f2,_⟩:=zAU hi;rw[hc]at f1 f2;exact⟨by omega,f2⟩
theorem zQ7 {b:List BrN}(hb:zB9 b=0){t:List TrN}(hmem:∀y∈t,y.cl≠0->∃z∈plT b,Alk y z):∀i,i<t.length->zEm t i=false:=by
 intro i hi;obtain⟨h1,_,_⟩:=zAp hb;obtain⟨_,_,hok,_,_⟩:=zAf h1;unfold zEm;by_cases hc:(zAa t i).cl=0
 ·rw[hc];rfl
 obtain⟨f1,f2,_⟩:=zAU hi;obtain⟨z,hz,a1,a2,a3,a4,a5,a6⟩:=hmem _ (zC1 hi) hc;obtain⟨z',hz',b1,b2,b3,b4,b5,b6⟩:=hmem _ (zC1 (show zCe t (zAa t i).cl<t.length by omega)) (by rw[f2];exact hc);obtain⟨j,hj,hge⟩:=List.getElem_of_mem hz;obtain⟨j',hj',hge'⟩:=List.getElem_of_mem hz';rw[<- zAl _ _ hj]at hge;rw[<- zAl _ _ hj']at hge';obtain⟨l1,l2,l3⟩:=zIN hok hj' hj (by rw[hge,hge',<- a1,<- b1,f2]) (by rw[hge,<- a1];exact hc);rw[hge,hge']at l1;rw[hge]at l2 l3;obtain⟨q1,q2,q3,q4,q5⟩:=zBX.1 l1;have hlk:zAT (zAa t (zCe t (zAa t i).cl)) (zAa t i)=true:=
  zBX.2 ⟨by rw[b2,a2];exact q1,by rw[b3,a3];exact q2,by rw[b4,a4];exact q3,by rw[b5,a5];exact q4,by rw[b6,a6];exact q5⟩
 rw[hlk,a2,nB l2,nB l3];simp
theorem zNu {t:List TrN}(hl:t.length<=120)(hz:zAt (zC t)=0)(hbad:∀i,i<t.length->zEm t i=false):zA5 t=(zCr t,0):=by
 unfold zA5;grind
theorem zRF {t:List TrN}(h:zAt t=0):zAt (zC t)=0:=by
 obtain⟨z1,z2,hok,_,_⟩:=zAf h;have hl:(zC t).length=t.length:=List.length_map _;refine(zBh (zES (by omega) (by omega) (fun i hi=>?_) fun i _=>?_)).2
 ·rw[hl]at hi;obtain⟨n1,n2,n3,n4,_⟩:=zAd (hok i hi);rw[zBO (zDy rfl t i) (by rw[zHZ rfl];exact n1) (fun h=>by rw[zH0 rfl];exact n2 h) (zHH n3) n4];exact zJP (zOL _) _
 ·unfold zDM;rw[zOL];rfl
theorem zWE {t:List TrN}(h:zAt t=0):zA5 t=(t,0):=by
 obtain⟨z1,z2,hok,_,_⟩:=zAf h;have:zA5 t=(zCr t,0):=zNu z2 (zRF h) fun i hi=>by
  unfold zEm;by_cases hc:(zAa t i).cl=0
  ·rw[hc];rfl
  obtain⟨f1,f2,_⟩:=zAU hi;obtain⟨l1,l2,l3⟩:=zIN hok (show zCe t (zAa t i).cl<t.length by omega) hi f2 hc;rw[l1,nB l2,nB l3];simp
 rw[this,zPD h]
section
variable {b:List BrN} {x:BrN} {f:For} (hb:zB9 b=0) (hw:∀i,i<b.length->awE b i=0) (e:b=x :: flt 1 f) (hs:zCR Shp f) (h0:x.dep=0) (hk:x.kd=1)
include hb hw e hs h0 hk
theorem zJj:∀y∈zBk b,y.cl≠0->∃z∈plT b,Alk y z:=by
 intro y hy hc;rw[zGj hb hw e hs h0 hk]at hy;obtain⟨z,hz,rfl⟩:=List.mem_map.1 hy;rcases List.mem_cons.1 hz with rfl|hz
 ·exact absurd rfl hc
 rw[zDf]at hz;obtain⟨q,hq,hz⟩:=List.mem_flatMap.1 hz;have hlist:q∈zB5 f++mkF x->∃z'∈plT b,Alk z.toTrN z':=fun hq=>by
  rcases List.mem_append.1 hq with hq|hq
  ·obtain⟨w,hw,ha⟩:=zLS f 1 z (List.mem_flatMap.2 ⟨q,hq,hz⟩) hc;exact⟨w.toTrN,List.mem_map.2 ⟨w,by rw[e];exact List.mem_cons_of_mem _ hw,rfl⟩,ha⟩
  ·obtain⟨rfl,_⟩:=zCP hq;obtain rfl:=List.mem_singleton.1 hz;exact absurd rfl hc
 unfold zRA at hq;by_cases h:0<zB2 b
 ·rw[if_pos h]at hq;rcases List.mem_cons.1 ((zDI _ _).mem_iff.1 hq)with rfl|hq
  ·have hz2:z.toTrN∈plT (flc 1 (zKB b)):=List.mem_map.2 ⟨z,hz,rfl⟩;rw[zMV]at hz2;rcases List.mem_cons.1 hz2 with hz2|hz2
   ·rw[hz2]at hc;exact absurd rfl hc
   ·obtain⟨j,hj,hj2⟩:=List.mem_map.1 hz2;obtain⟨f1,_⟩:=zU6 hb (List.mem_range.1 hj);refine⟨_,zC1 f1,?_⟩;rw[<- hj2];exact⟨rfl,rfl,rfl,rfl,rfl,rfl⟩
  ·exact hlist ((zAr _).mem_iff.1 hq)
 ·rw[if_neg h]at hq;exact hlist ((zAr _).mem_iff.1 hq)
theorem zUR:∀i,i<(zBk b).length->zEm (zBk b) i=false:=zQ7 hb (zJj hb hw e hs h0 hk)
theorem zPs (hn:zB2 b<=24)(h24:0<zB2 b->(acD (zAo b 0)).ens.length≠24)(hl:(zBk b).length<=120):zA5 (zBk b)=(zCr (zBk b),0):=
 zNu hl (zPq hb hw e hs h0 hk hn h24 hl) (zUR hb hw e hs h0 hk)
end
structure zXz (b:List BrN):Prop where
 br:zB9 b=0
 dirs:∀i,i<b.length->awE b i=0
 few:zB2 b<=24
 room:0<zB2 b->(acD (zAo b 0)).ens.length≠24
 len:(zBk b).length<=120
theorem zTh {b:List BrN}{x:List TrN}{y z:Int}(h:awT b=(x,y,z)):awL b=x/\(awT b).2.1=y/\awF b=z:=by unfold awL awF;rw[h];exact⟨rfl,rfl,rfl⟩
theorem zWN {b:List BrN}(h:zXz b):awT b=(zCr (zBk b),0,0):=by grind[BrN,zXz,awT,zCr,zBk,zB2,acD,zAo,zDe,zAp,zPs,zBl]
theorem zNF {b:List BrN}(h:awF b=0):zXz b/\awL b=zCr (zBk b):=by
 have key:zXz b:=by
  unfold awF awT at h;by_cases h1:zB9 b=0
  case neg=>rw[if_pos h1]at h;exact absurd h h1
  rw[if_neg (by rw[h1];decide)]at h
  cases hf:zBy (fun i=>awE b i != 0) 0 b.length with
  | some i=>
   rw[hf]at h;exact absurd h (bne_iff_ne.1 (zBD _ _ _ hf).1)
  | none=>
   rw[hf]at h;have hd:∀i,i<b.length->awE b i=0:=fun i hi=>bne_eq_false_iff_eq.1 (zAJ _ _ hf i (Nat.zero_le _) (by omega));by_cases h2:(0<zB2 b/\(acD (zAo b 0)).ens.length=24)\/24<zB2 b
   ·have h:(if (0<zB2 b/\(acD (zAo b 0)).ens.length=24)\/24<zB2 b then (([],0,5):List TrN × Int × Int)else _).2.2=0:=h;rw[if_pos h2]at h;cases h
   have h:(if (0<zB2 b/\(acD (zAo b 0)).ens.length=24)\/24<zB2 b then (([],0,5):List TrN × Int × Int)else if 120<(zBk b).length then ([],0,3)else ((zA5 (zBk b)).1,0,(zA5 (zBk b)).2)).2.2=0:=h;rw[if_neg h2]at h;by_cases h3:120<(zBk b).length
   ·rw[if_pos h3]at h;cases h
   exact⟨h1,hd,by omega,fun a c=>h2 (.inl ⟨a,c⟩),by omega⟩
 exact⟨key,(zTh (zWN key)).1⟩
/-! A branch with other names of its classes. -/
def clN (s:Int->Int)(x:BrN):BrN:={x with toTrN:=clM s x.toTrN}
def zGq (s:Int->Int):For->For
 | .nil=>.nil
 | .node x k r=>.node (clN s x) (zGq s k) (zGq s r)
abbrev zTK (s:Int->Int)(q:BrN × For):BrN × For:=(clN s q.1,zGq s q.2)
theorem zFK (s:Int->Int):∀f:For,zBU (zGq s f)=(zBU f).map (zTK s)
 | .nil=>rfl
 | .node x k r=>by unfold zGq zBU;rw[zFK s r,List.map_cons]
theorem zJo (s:Int->Int):∀l:List (BrN × For),ofS (l.map (zTK s))=zGq s (ofS l)
 | []=>rfl
 | (x,k) :: r=>by
  rw[List.map_cons];show For.node _ _ (ofS (r.map (zTK s)))=For.node _ _ (zGq s (ofS r));rw[zJo s r]
theorem zHc (s:Int->Int):∀(f:For) (d:Int),flt d (zGq s f)=(flt d f).map (clN s)
 | .nil,_=>rfl
 | .node x k r,d=>by
  show (clN s x).at d :: (flt (d+1) (zGq s k)++flt d (zGq s r))=_;rw[zHc s k,zHc s r,zBo,List.map_cons,List.map_append];rfl
theorem zLx (s:Int->Int)(l:List BrN):plT (l.map (clN s))=(plT l).map (clM s):=by
 unfold plT;rw[List.map_map,List.map_map];rfl
theorem zHU {s:Int->Int} {P Q:BrN->For->Prop} (h:∀ x k,P x k->Q (clN s x) (zGq s k)):∀ {f:For},zCR P f->zCR Q (zGq s f)
 | .nil,_=>trivial
 | .node _ _ _,hp=>⟨h _ _ hp.1,zHU h hp.2.1,zHU h hp.2.2⟩
theorem zNH {s:Int->Int}{f:For}(h:zGS zCm (zBU f)):zGS zCm (zBU (zGq s f)):=by
 unfold zGS;rw[zFK,List.pairwise_map];exact h
section
variable {s:Int->Int} (h0:s 0=0)
include h0
theorem zVK (x:BrN):aeB (clN s x)=clN s (aeB x):=by
 unfold aeB;by_cases e:x.kd=5
 ·rw[if_pos e,if_pos (show (clN s x).kd=5 from e)];show zF0 _=clN s (zF0 _);unfold zF0 clN clM;show ({toTrN:=_,opq:=_,red:=_}:BrN)= {toTrN:={dep:=_,nm:=_,kd:=_,ats:=_,dat:=_,ma:=_,mi:=_,cl:=s 0},opq:=_,red:=_};rw[h0];rfl
 ·rw[if_neg e,if_neg (show ¬(clN s x).kd=5 from e)];rfl
theorem zPN (x:BrN):mkF (clN s x)=(mkF x).map (zTK s):=by
 unfold mkF;show (if x.opq=true then _ else _)=_;split
 ·rw[List.map_cons,List.map_nil];refine congrArg (· :: []) (Prod.ext ?_ rfl);show zF0 zDx=clN s (zF0 zDx);unfold zF0 clN clM;show ({toTrN:=_,opq:=_,red:=_}:BrN)= {toTrN:={dep:=_,nm:=_,kd:=_,ats:=_,dat:=_,ma:=_,mi:=_,cl:=s 0},opq:=_,red:=_};rw[h0];rfl
 ·rfl
theorem zHQ:∀f:For,zB5 (zGq s f)=(zB5 f).map (zTK s)
 | .nil=>rfl
 | .node x k r=>by
  unfold zGq zB5;rw[List.map_cons,zHQ r,zHQ k,zPN h0,<- List.map_append,zVK h0];refine congrArg (· :: _) (Prod.ext rfl ?_);show ofS (zCV zCm ((zB5 k++mkF x).map (zTK s)))=zGq s (ofS (zCV zCm (zB5 k++mkF x)));rw[<- zG7 (key:=zCm) (key':=zCm) (f:=zTK s) _ fun _ _=>rfl,zJo]
theorem zQw (x:BrN)(k:For):zDk (clN s x) (zGq s k)=zGq s (zDk x k):=by
 unfold zDk;rw[zHQ h0,zPN h0,<- List.map_append,<- zG7 (key:=zCm) (key':=zCm) (f:=zTK s) _ fun _ _=>rfl,zJo]
theorem zQQ {x:BrN}{k:For}(h:zGU x k):zGU (clN s x) (zGq s k):=by
 obtain⟨h1,h2,h3,h4,h5,h6,h7,h8⟩:=h;refine⟨h1,h2,fun e=>⟨?_,(h3 e).2⟩,h4,fun e=>?_,zNH h6,fun e=>?_,fun q hq e=>?_⟩
 ·have:=(h3 e).1;show clN s x=zMl x.nm;rw[this];unfold zMl clN clM;show ({toTrN:={dep:=_,nm:=_,kd:=_,ats:=_,dat:=_,ma:=_,mi:=_,cl:=s 0},opq:=_,red:=_}:BrN)= {toTrN:=_,opq:=_,red:=_};rw[h0];rfl
 ·obtain⟨rfl,a⟩:=h5 e;exact⟨rfl,a⟩
 ·obtain⟨a,b,c,d⟩:=h7 e;exact⟨a,b,c,show s x.cl=0 by rw[d];exact h0⟩
 ·rw[zFK]at hq;obtain⟨p,hp,rfl⟩:=List.mem_map.1 hq;exact h8 p hp e
end
theorem zJK:∀(k:For) (d:Int),∀y∈(zB5 k).flatMap (flc d),y.opq=false/\y.red= []
 | .nil,_,y,h=>by cases h
 | .node x kk r,d,y,h=>by
  unfold zB5 at h;rw[List.flatMap_cons,List.mem_append]at h;rcases h with h|h
  ·rcases List.mem_cons.1 h with rfl|h
   ·show (aeB x).opq=false/\(aeB x).red= [];unfold aeB;split<;>exact⟨rfl,rfl⟩
   ·rcases List.mem_append.1 ((zCH (d+1) x kk).mem_iff.1 h)with h|h
    ·exact zJK kk (d+1) y h
    ·obtain⟨q,hq,hy⟩:=List.mem_flatMap.1 h;obtain⟨rfl,_⟩:=zCP hq;obtain rfl:=List.mem_singleton.1 hy;exact⟨rfl,rfl⟩
  ·exact zJK r d y h
theorem zSe {l:List BrN}(h:∀y∈l,y.opq=false/\y.red= []):zD0 (plT l)=l:=by
 unfold zD0 plT;rw[List.map_map];refine(List.map_congr_left (g:=id) fun y hy=>?_).trans (List.map_id _);obtain⟨a,c⟩:=h y hy;obtain⟨t,opq,red⟩:=y;simp only at a c;subst a c;rfl
theorem zG0 (t:List TrN):plT (zD0 t)=t:=by
 unfold zD0 plT;rw[List.map_map];exact(List.map_congr_left (g:=id) fun y _=>rfl).trans (List.map_id _)
theorem zC5 {t:List TrN}(h:zAt t=0):zB9 (zD0 t)=0:=by
 have hg:∀i,(zAm (zD0 t) i).opq=false/\(zAm (zD0 t) i).red= []:=fun i=>by
  by_cases hi:i<(zD0 t).length
  ·rw[zAN _ _ hi];obtain⟨y,_,hy⟩:=List.mem_map.1 (List.getElem_mem hi);rw[<- hy];exact⟨rfl,rfl⟩
  ·unfold zAm;rw[List.getD_eq_getElem?_getD,List.getElem?_eq_none (by omega)];exact⟨rfl,rfl⟩
 refine(zH2 (zT6 (by rw[zG0];exact h) fun j _=>?_)).2;obtain⟨a,c⟩:=hg j;rw[zFu rfl (by rw[a];rintro⟨x,_⟩;cases x) (by rw[c];decide),if_neg];unfold zGL;rw[(hg _).1,Bool.and_false];exact Bool.false_ne_true
theorem zWy {P:BrN->For->Prop}:∀{l:List (BrN × For)},(∀q∈l,P q.1 q.2/\zCR P q.2)->zCR P (ofS l)
 :=by intro l;induction l<;>grind[BrN,zCR,ofS]
theorem zO0 {b:List BrN}{P:BrN->For->Prop}:∀(f:For) (pre post:List BrN) (d:Int),zCR P f->b=pre++flt d f++post->(∀y,post.head? = some y->y.dep<=d)->∀j,pre.length<=j->j<pre.length+siz f->∃d' y ky,Sub b j d' y ky/\P y ky
 | .nil,pre,_,_,_,_,_,j,h1,h2=>by
  have h2:j<pre.length+0:=h2;omega
 | .node x k r,pre,post,d,hP,hb,hp,j,h1,h2=>by
  have h2:j<pre.length+(1+siz k+siz r):=h2;obtain⟨p1,p2,p3⟩:=hP;have hl2:(pre++ [x.at d]).length=pre.length+1:=by simp
  have hl3:(pre++ [x.at d]++flt (d+1) k).length=pre.length+1+siz k:=by rw[List.length_append,hl2,zA9]
  by_cases e:j=pre.length
  ·refine⟨d,x,k,⟨pre,flt d r++post,by rw[hb,zBo];simp[List.append_assoc],e.symm,fun y hy=>?_⟩,p1⟩
   cases r with
   | nil=>exact hp y hy
   | node z k2 r2=>rw[zBo]at hy;cases hy;exact Int.le_refl _
  by_cases e2:j<pre.length+1+siz k
  ·refine zO0 k (pre++ [x.at d]) (flt d r++post) (d+1) p2 (by rw[hb,zBo];simp[List.append_assoc]) (fun y hy=>?_) j (by omega) (by omega)
   cases r with
   | nil=>have:=hp y hy;omega
   | node z k2 r2=>rw[zBo]at hy;cases hy;show d<=d+1;omega
  ·exact zO0 r (pre++ [x.at d]++flt (d+1) k) post d p3 (by rw[hb,zBo];simp[List.append_assoc]) hp j (by omega) (by omega)
def zXv (y:BrN)(k:For):Prop:=zVR y k/\(y.kd=1->∃z kz,k=zDk z kz/\zCR zGU kz/\zGS zCm (zBU kz)/\∀q∈zBU kz,q.1.kd=5->z.opq=false)
theorem zLv:∀(k:For),zCR zGU k->∀q∈zB5 k,zXv q.1 q.2/\zCR zXv q.2
 | .nil,_,q,h=>by cases h
 | .node x kk r,hc,q,h=>by
  obtain⟨cx,ck,cr⟩:=hc;unfold zB5 at h;rcases List.mem_cons.1 h with rfl|h
  ·refine⟨⟨?_,fun _=>⟨x,kk,rfl,ck,cx.2.2.2.2.2.1,cx.2.2.2.2.2.2.2⟩⟩,zWy fun q hq=>?_⟩
   ·show zVR (aeB x) (zDk x kk);unfold aeB;by_cases e:x.kd=5
    ·rw[if_pos e];obtain⟨rfl,ho⟩:=cx.2.2.2.2.1 (by omega);refine⟨rfl,rfl,fun _=>⟨?_,rfl⟩,fun h=>?_⟩
     ·unfold zDk mkF;rw[ho];rfl
     ·exact absurd (show (2:Int)=1 from h) (by decide)
    ·rw[if_neg e];refine⟨cx.1,rfl,fun h=>?_,cx.2.2.2.2.2.2.1⟩;obtain⟨rfl,ho⟩:=cx.2.2.2.2.1 h;refine⟨?_,rfl⟩;unfold zDk mkF;rw[ho];rfl
   ·rcases List.mem_append.1 ((zAr _).mem_iff.1 hq)with hq|hq
    ·exact zLv kk ck q hq
    ·obtain⟨rfl,_⟩:=zCP hq;exact⟨⟨⟨rfl,rfl,fun _=>⟨rfl,rfl⟩,fun h=>absurd (show (2:Int)=1 from h) (by decide)⟩,fun h=>absurd (show (2:Int)=1 from h) (by decide)⟩,trivial⟩
  ·exact zLv r cr q h
theorem zR2 (x:BrN){k:For}(hc:zCR zGU k):zCR zXv (zDk x k):=zWy fun q hq=>by
 rcases List.mem_append.1 ((zAr _).mem_iff.1 hq)with hq|hq
 ·exact zLv k hc q hq
 ·obtain⟨rfl,_⟩:=zCP hq;exact⟨⟨⟨rfl,rfl,fun _=>⟨rfl,rfl⟩,fun h=>absurd (show (2:Int)=1 from h) (by decide)⟩,fun h=>absurd (show (2:Int)=1 from h) (by decide)⟩,trivial⟩
theorem zCR.imp {P Q:BrN->For->Prop}(h:∀x k,P x k->Q x k):∀{f:For},zCR P f->zCR Q f
 | .nil,_=>trivial
 | .node _ _ _,hp=>⟨h _ _ hp.1,zCR.imp h hp.2.1,zCR.imp h hp.2.2⟩
theorem zPm {b:List BrN} (hok:zA1 (plT b) (plT b).length) {i:Nat} {d:Int} {y:BrN} {z:BrN} {kz:For} (hs:Sub b i d y (zDk z kz)) (hc:zCR zGU kz) {x:DeN} (hx:x ∈ (zAo b i).ens) :
  bkE 3 x.nm=0/\((∃ p ∈ zBU kz,bkS 3 x.nm=p.1.nm/\x.nm=(aeB p.1).nm/\((bkW 3 x.nm=1/\x.nd.kd ≠ 5)\/(bkW 3 x.nm=2/\zFk x=true/\p.1.kd=5)))\/(bkW 3 x.nm=3/\zFk x=true)):=by
 rw [zC0 hok hs] at hx
 obtain⟨q,hq,rfl⟩:=List.mem_map.1 hx
 obtain⟨s1,_⟩:=zEv hs q hq
 obtain⟨hi,hg⟩:=zAQ s1
 have hm:q.2 ∈ zBU (zDk z kz):=by rw [<- zFi (zDk z kz) (i+1)];exact List.mem_map.2 ⟨q,hq,rfl⟩
 rw [zEJ] at hm
 have hnm:(zBj b i q.1).nm=q.2.1.nm:=(congrArg (fun y:BrN=>y.nm) hg).trans rfl
 have hnd:(zBj b i q.1).nd=zEo (q.2.1.at (d+1)).toTrN:=(congrArg (fun y:BrN=>zEo y.toTrN) hg).trans rfl
 have hemp:∀ nm,q.2.1=zF0 nm->zFk (zBj b i q.1)=true:=fun nm hf=>by
  have hcl:(zAa (plT b) q.1).cl=0:=by rw [zAx b _ hi,hg,hf];rfl
  have hns:(zBj b i q.1).ns=1:=by
   show ((zAS b q.1).length:Int)=1
   unfold zAS
   rw [<- zAk b,zHE (by rw [zAk];exact hi) hcl];rfl
  unfold zFk
  rw [hns,hnd,hf]
  rfl
 rw [hnm]
 rcases List.mem_append.1 ((zAr _).mem_iff.1 hm) with hm | hm
 ·obtain⟨p,hp,hpq,hcw,_,_⟩:=zEI hc hm
  obtain⟨b1,b2,b3⟩:=zDQ hcw
  have hn:q.2.1.nm=(aeB p.1).nm:=by rw [hpq]
  rw [hn]
  refine⟨b3,.inl ⟨p,hp,b1,rfl,?_⟩⟩
  by_cases e:p.1.kd=5
  ·rw [if_pos e] at b2
   refine .inr ⟨b2,hemp (wtS 3 p.1.nm) ?_,e⟩
   rw [hpq]
   show aeB p.1=_
   unfold aeB
   rw [if_pos e]
  ·rw [if_neg e] at b2
   refine .inl ⟨b2,?_⟩
   rw [hnd,hpq]
   show (zEo ((aeB p.1).at (d+1)).toTrN).kd ≠ 5
   have:(aeB p.1).kd=p.1.kd:=by unfold aeB;rw [if_neg e]
   unfold zEo
   split
   ·decide
   ·show (aeB p.1).kd ≠ 5
    rw [this];exact e
 ·obtain⟨hq2,_⟩:=zCP hm
  have hn:q.2.1.nm=zDx:=by rw [hq2];rfl
  rw [hn]
  exact⟨zGR.2,.inr ⟨zGR.1,hemp zDx (by rw [hq2])⟩⟩
theorem zMA {b:List BrN}(hb:zB9 b=0)(hbare:∀i,(zAm b i).opq=false/\(zAm b i).red= []){i:Nat}{d:Int}{y:BrN}{z:BrN}{kz:For}(hs:Sub b i d y (zDk z kz))(hk:y.kd=1)(hc:zCR zGU kz)(ha:zGS zCm (zBU kz))(hu:∀q∈zBU kz,q.1.kd=5->z.opq=false):arE (zAo b i)=0:=by
 obtain⟨hi,hg⟩:=zAQ hs;obtain⟨h0,_,_⟩:=zAp hb;obtain⟨_,_,hok,_,_⟩:=zAf h0;have hd:zCs (zAo b i)=0:=zGB hb hi (by rw[hg];exact hk);have hE:=fun x hx=>zPm hok hs hc (x:=x) hx;have ho:adO (zAo b i).ens=z.opq:=(zJn hok hs).trans (zLy hc);have hz:∀j,j<(zAo b i).ens.length->adE (adO (zAo b i).ens) (zAo b i).ens j=0:=by
  intro j hj;have hm:=List.getElem_mem hj;obtain⟨e0,hcase⟩:=hE _ hm;have hgj:=zAL _ _ hj;have hdup:bkW 3 (zAo b i).ens[j].nm≠3->zNh (zAo b i).ens j=false:=fun hn=>by
   unfold zNh;rw[List.any_eq_false];intro k hk t;have hk:=List.mem_range.1 hk;simp only[Bool.and_eq_true,Bool.or_eq_true,beq_iff_eq,decide_eq_true_eq]at t;obtain⟨t1,t2⟩:=t;have hkl:k<(zAo b i).ens.length:=by omega
   have hgk:=zAL _ _ hkl;have hlt:=zLU hd hk hj;rw[hgk,hgj]at t2 hlt;rw[hgk]at t1;obtain⟨_,hck⟩:=hE _ (List.getElem_mem hkl);rcases hcase with ⟨p,hp,bp,np,_⟩|⟨b3,_⟩
   case inr=>exact hn b3
   rcases hck with ⟨p',hp',bp',np',_⟩|⟨b3,_⟩
   case inr=>rw[b3]at t1;rcases t1 with t1|t1<;>cases t1
   rw[bp,bp']at t2;have:p'=p:=zD4 ha.dist hp' hp (congrArg L t2);rw[np,np',this]at hlt;exact List.lt_irrefl _ hlt
  unfold adE;rw[hgj,if_neg (by rw[e0];decide)];rcases hcase with ⟨p,hp,bp,np,hw⟩|⟨bw,em⟩
  ·rcases hw with ⟨bw,kd⟩|⟨bw,em,k5⟩
   ·rw[if_neg (by rw[bw];decide),if_neg (by rintro(⟨t,_⟩|⟨_,t⟩);exact t bw;exact kd t),if_neg (by rintro⟨t,u⟩;rw[hdup t]at u;cases u),if_neg (by rintro⟨t,_⟩;rw[bw]at t;cases t)]
   ·rw[if_neg (by rw[bw];decide),if_neg (by rintro(⟨_,t⟩|⟨t,_⟩);rw[em]at t;cases t;rw[bw]at t;cases t),if_neg (by rintro⟨t,u⟩;rw[hdup t]at u;cases u),if_neg (by rintro⟨_,t⟩;rw[ho,hu p hp k5]at t;cases t)]
  ·rw[if_neg (by rw[bw];decide),if_neg (by rintro(⟨_,t⟩|⟨t,_⟩);rw[em]at t;cases t;rw[bw]at t;cases t),if_neg (by rintro⟨t,_⟩;exact t bw),if_neg (by rintro⟨t,_⟩;rw[bw]at t;cases t)]
 have:=zNJ hd (by
  obtain⟨a,c⟩:=hbare i;rintro(t|t)
  ·have t:(zAm b i).opq=true:=t;rw[a]at t;cases t
  ·have t:0<(zAm b i).red.length:=t;rw[c]at t;cases t) (by rw[zQj hz])
 exact(zEa this).2.2
theorem zKg (B:Nat)(w:World)(v vp:Value)(t:List TrN)(p:List ByteArray)(hb:zCa B w v t)(hp:zBV B w vp p)(hsm:zAI t)(h0:zAt t=0)(hpe:zAR p=0)(hlen:t.length<=1000):
  zAs Tryz.prog 129 #[v,vp] w (.tuple #[.int .i64 (zKJ t p).1,.int .i64 (zKJ t p).2]):=by
 unfold zAs;obtain⟨aa,cap,rfl⟩:=hb.form;obtain⟨ap,capp,rfl⟩:=hp.form;have HV:=hQq hb;have HP:=hQq hp;have HX:Hid (zAI t/\zAt t=0):=hQq ⟨hsm,h0⟩;have HPE:=hQq hpe;have HOK:=hQq (zAf h0).2.2.1;clear hb hp hsm h0 hpe;obtain⟨r,hr⟩:∃r,zGv (isP t p) t.length=r:=⟨_,rfl⟩;have HR:=hQq hr;have ht:zKJ t p=(if r<0 then (0,4)else (r,0)):=by unfold zKJ;rw[hr]
 rw[ht];clear ht hr;have A1:Hid (∀W,Ext w W->zAs Tryz.prog 135 #[.slice (some ⟨w.heap.size,0,none⟩) 1 1] (w.alloc (.cells #[.slice aa t.length cap] 33 (0,0))) (.int .i64 0)):=hQq (fun _ _=>zIx B _ w.heap.size 1 [(.slice aa t.length cap,t)] rfl (by simp) (by simp) (fun k hk=>by
    match k,hk with
    | 0,_=>exact bC (bN w (.cells #[.slice aa t.length cap] 33 (0,0))) 0) (fun p hp=>by
    simp only[List.mem_cons,List.not_mem_nil,or_false]at hp;subst hp;exact⟨HV.out.ext okT (eA _ _),HX.out⟩))
 by_cases h4:r<0
 ·rw[if_pos h4];go_enter Tryz.func129,Tryz.ntmps129;go_wp2_with (first
   | (go_at_call 135;refine(A1.out w (bR _ _)).mono ?_;rintro e w2 ⟨rfl,hb2⟩;have HB2:=hQq ((eA _ _).trans hb2);clear hb2)
   | (go_at_call 105;refine(zCv _ p _ ((HP.out.ext okS HB2.out).strs)).mono ?_;rw[HPE.out];rintro e w3 ⟨rfl,hb3⟩;have HB3:=hQq (HB2.out.trans hb3);clear hb3)
   | (go_at_call 174;refine(zMo B _ _ _ t p (HV.out.ext okT HB3.out) (HP.out.ext okS HB3.out) hlen HOK.out).mono ?_;rw[HR.out];rintro e w4 ⟨rfl,hb4⟩;have HB4:=hQq (HB3.out.trans hb4);clear hb4)
   | fail)
  go_ret2;exact⟨rfl,HB4.out⟩
 ·rw[if_neg h4];go_enter Tryz.func129,Tryz.ntmps129;go_wp2_with (first
   | (go_at_call 135;refine(A1.out w (bR _ _)).mono ?_;rintro e w2 ⟨rfl,hb2⟩;have HB2:=hQq ((eA _ _).trans hb2);clear hb2)
   | (go_at_call 105;refine(zCv _ p _ ((HP.out.ext okS HB2.out).strs)).mono ?_;rw[HPE.out];rintro e w3 ⟨rfl,hb3⟩;have HB3:=hQq (HB2.out.trans hb3);clear hb3)
   | (go_at_call 174;refine(zMo B _ _ _ t p (HV.out.ext okT HB3.out) (HP.out.ext okS HB3.out) hlen HOK.out).mono ?_;rw[HR.out];rintro e w4 ⟨rfl,hb4⟩;have HB4:=hQq (HB3.out.trans hb4);clear hb4)
   | fail)
  go_ret2;exact⟨rfl,HB4.out⟩
theorem zNN (B:Nat)(w:World)(v:Value)(b:List BrN)(hb:zEi B w v b)(_hB:B<=w.heap.size)(hsm:zBN b)(h24:zB2 b<=24)(hc:∀c:Nat,1<=c->(c:Int)<=zB2 b->zCe (plT b) c<b.length/\zGv (fun k=>(zAm b k).cl==(c:Int)) b.length=zCe (plT b) c):
  Calls Tryz.prog 86 #[v] w (zTu zNt w (zLg b)):=by
 obtain⟨aa,cap,rfl⟩:=hb.form;have HV:=hQq hb;have HSM:=hQq hsm;have HC:=hQq hc;have hlen:=hsm.len;obtain⟨N,hN⟩:∃N,N=(zB2 b).toNat:=⟨_,rfl⟩;have hP:zLg b=zOH :: zJx (plT b) N:=by unfold zLg;rw[hN]
 have hcn:0<=zB2 b:=zOe (plT b) b.length 0 (Nat.zero_le _);have hNc:zB2 b=(N:Int):=by omega
 have HN:=hQq hNc;rw[hP];rw[hNc]at h24;clear hb hsm hc hP hcn hNc hN;go_enter Tryz.func86,Tryz.ntmps86;go_wp2;refine nW (P:=fun W=>Code.wp _ _ _ _ W) _ ?_;intro W0 hW0;have HE0:Hid (Ext w W0):=hQq (by rw[hW0];exact(eA _ _).trans (eA _ _));have HL0:Hid (zAg zNt w.heap.size W0 (.slice (some ⟨w.heap.size,0,none⟩) 1 1) [zOH]):=hQq (by
  rw[hW0];exact(zPA w).ext zIF (eA _ _))
 have HC0:Hid (W0.heap[w.heap.size+1]? = some (.cells #[.int .i64 1] 3 (0,0))):=hQq (by rw[hW0];exact zAu (by simp));clear hW0;go_loopw [3,4] (fun q p w'=>∃(wi:World) (k g:Nat),wi=w'/\k<=N/\p= .pointer (some ⟨g,0,none⟩)/\wi.heap[g]? = some (.cells #[.int .i64 ((k+1:Nat))] 3 (0,0))/\w.heap.size<=g/\zAg zNt w.heap.size wi q (zOH :: zJx (plT b) k)/\Ext w wi) (fun _ p w'=>N+1-(zTV w' p).toNat)
 case atStart=>exact⟨_,0,_,rfl,Nat.zero_le _,rfl,HC0.out,by omega,HL0.out,HE0.out⟩
 case round=>
  clear HE0 HL0 HC0;obtain⟨wi,k,g,rfl,hk,rfl,hg,hgw,ho,hE⟩:=hrel;have HG:=hQq hg;have HO:=hQq ho;have HE:=hQq hE;obtain⟨a9,c9,rfl⟩:=ho.form;have hl9:(zOH :: zJx (plT b) k).length=k+1:=by unfold zJx;simp
  rw[hl9]at HO ⊢;have HL9:=hQq hl9;have p0:=bC hg 0;have p0l:=bL hg;have fz:=bT hg 0;clear hg ho hE hl9;obtain⟨c,hce⟩:∃c,c=k+1:=⟨_,rfl⟩;have HCE:=hQq hce;rw[<- hce]at p0 HG HO ⊢;by_cases hlt:k<N
  case neg=>
   have hl9:(zOH :: zJx (plT b) k).length=c:=by rw[HL9.out,HCE.out]
   obtain rfl:N=k:=by omega
   have q5:decide ((c:Int)<=(N:Int))=false:=decide_eq_false (by omega);have q6:decide (c<=N)=false:=decide_eq_false (by omega);clear hce;go_upto_region 3 with (fail)
   refine zDv (zXn (.slice aa b.length cap) c N) 3 3 rfl (by kernel_rfl) (by kernel_rfl) zKv ?_ ?_
   ·intro i1 o a wx hi ho hE hk hp;have n0:=zAe (show a.eval (.tmp 0)= .slice aa b.length cap from hk 0 (of_decide_eq_true (by kernel_rfl)));have n4:=zAe (show a.eval (.tmp 4)= .pointer (some ⟨g,0,none⟩)from hk 4 (of_decide_eq_true (by kernel_rfl)));clear hk
    match i1,hi,ho,hp with
    | 0,_,ho,hp=>
     obtain rfl:=oI ho;have r:=bX hE HG.out;have r0:=bL r;have rc0:=bC r 0;clear ho hp;unfold Oper.wp;go_simp;exact⟨_,rfl,rfl,bR _ _⟩
    | 1,_,ho,hp=>
     obtain rfl:=oI ho;clear ho hp;unfold Oper.wp;go_simp;exact⟨_,rfl,rfl,bR _ _⟩
    | 2,_,ho,hp=>
     obtain rfl:=oI ho;have p10:=zAe (show a.eval (.tmp 10)= .slice aa b.length cap from hp 1 _ 10 (by kernel_rfl) rfl rfl);have hcc:=zId B _ _ b (HV.out.ext okB (Ext.trans HE.out hE)) hlen;clear ho hp;unfold Oper.wp;go_simp;rw[HN.out]at hcc;refine Calls.mono hcc ?_;rintro e w5 ⟨rfl,hb5⟩;exact⟨_,rfl,rfl,hb5⟩
    | i1+3,h,_,_=>exact absurd h (by omega)
   ·intro vs wx hE hf;generalize hA:zAC _ _ _=A1;have p9:vs 9= .int .i64 c:=hf 0 _ 9 (by omega) rfl rfl;have p11:vs 11= .int .i64 N:=hf 2 _ 11 (by omega) rfl rfl;clear hf;have hA2:=hA.symm.trans (congrArg (fun D=>zAC _ D vs) (show zCu _ 3= [9,10,11] by kernel_rfl));rw[hA2];clear hA2 hA;simp only[zAC,List.foldl,Act.put,List.setIfInBounds_toArray,List.set_cons_succ,List.set_cons_zero];rw[p9,p11];refine zEt rfl ?_;unfold Oper.wp;go_simp;unfold zEu;go_wp2;go_ret;exact⟨⟨a9,c9,by rw[hl9];rfl,by rw[hl9];exact HO.out.ext zIF hE⟩,Ext.trans HE.out hE⟩
  have q5:decide ((c:Int)<=(N:Int))=true:=decide_eq_true (by omega);have q6:decide (c<=N)=true:=decide_eq_true (by omega);obtain⟨hfl,hix⟩:=HC.out c (by omega) (by rw[HN.out];omega);obtain⟨f,hf⟩:∃f,f=zCe (plT b) c:=⟨_,rfl⟩;rw[<- hf]at hfl hix;have HF:=hQq hf;have HIX:=hQq hix;have hcN:c<=N:=by omega
  obtain⟨bb,off,va0,vr0,hex,-⟩:=HV.out.br f hfl;cases hex;have hcap:b.length<=cap:=by obtain⟨_,_,e,h,_⟩:=HV.out;cases e;exact h
  have hcapf:¬(cap=f):=by omega
  obtain⟨x,hx⟩:∃x,x=b[f]'hfl:=⟨_,rfl⟩;have HX:=hQq hx;have HXT:Hid (zAa (plT b) f=x.toTrN):=hQq (by rw[zAx b f hfl,zAN b f hfl,hx]);have HXA:Hid (x.ats.length<=1000):=hQq (by rw[hx];exact HSM.out.ats _ (List.getElem_mem hfl));have HTR:=hQq (show ∀V,Ext w V->Calls Tryz.prog 82 #[.slice (some ⟨bb,off+f*10,none⟩) 1 (cap-f)] V (zUh V [x])from fun V hV=>by
   have h:=zCx (HV.out.ext okB hV) f 1 (by omega) (cap-f) (by omega) (off+f*10) rfl;have e:(b.drop f).take 1= [x]:=by rw[hx,List.drop_eq_getElem_cons hfl];rfl
   rw[e]at h;exact zFw B V _ [x] h (by simp) (fun y hy=>by rw[List.mem_singleton.1 hy];exact HXA.out))
  clear hx;clear hce hf hix;go_upto_region 3 with (fail)
  refine zDv (zXn (.slice (some ⟨bb,off,none⟩) b.length cap) c N) 3 3 rfl (by kernel_rfl) (by kernel_rfl) zKv ?_ ?_
  ·intro i1 o a wx hi ho hE hk hp;have n0:=zAe (show a.eval (.tmp 0)= .slice (some ⟨bb,off,none⟩) b.length cap from hk 0 (of_decide_eq_true (by kernel_rfl)));have n4:=zAe (show a.eval (.tmp 4)= .pointer (some ⟨g,0,none⟩)from hk 4 (of_decide_eq_true (by kernel_rfl)));clear hk
   match i1,hi,ho,hp with
   | 0,_,ho,hp=>
    obtain rfl:=oI ho;have r:=bX hE HG.out;have r0:=bL r;have rc0:=bC r 0;clear ho hp;unfold Oper.wp;go_simp;exact⟨_,rfl,rfl,bR _ _⟩
   | 1,_,ho,hp=>
    obtain rfl:=oI ho;clear ho hp;unfold Oper.wp;go_simp;exact⟨_,rfl,rfl,bR _ _⟩
   | 2,_,ho,hp=>
    obtain rfl:=oI ho;have p10:=zAe (show a.eval (.tmp 10)= .slice (some ⟨bb,off,none⟩) b.length cap from hp 1 _ 10 (by kernel_rfl) rfl rfl);have hcc:=zId B _ _ b (HV.out.ext okB (Ext.trans HE.out hE)) hlen;clear ho hp;unfold Oper.wp;go_simp;rw[HN.out]at hcc;refine Calls.mono hcc ?_;rintro e w5 ⟨rfl,hb5⟩;exact⟨_,rfl,rfl,hb5⟩
   | i1+3,h,_,_=>exact absurd h (by omega)
  ·intro vs wx hE hf;generalize hA:zAC _ _ _=A1;have p9:vs 9= .int .i64 c:=hf 0 _ 9 (by omega) rfl rfl;have p11:vs 11= .int .i64 N:=hf 2 _ 11 (by omega) rfl rfl;clear hf;have hA2:=hA.symm.trans (congrArg (fun D=>zAC _ D vs) (show zCu _ 3= [9,10,11] by kernel_rfl));rw[hA2];clear hA2 hA;simp only[zAC,List.foldl,Act.put,List.setIfInBounds_toArray,List.set_cons_succ,List.set_cons_zero];rw[p9,p11];refine zEt rfl ?_;unfold Oper.wp;go_simp;unfold zEu;have HE5:=hQq (Ext.trans HE.out hE);have HG5:=hQq (bX hE HG.out);have HO5:=hQq (HO.out.ext zIF hE);have HIF:=hQq (show ∀V,Ext wx V->Calls Tryz.prog 149 #[.slice (some ⟨bb,off,none⟩) b.length cap,.func (.func 150) #[] #[.pointer (some ⟨g,0,none⟩)]] V (fun e w'=>e= .returned (.int .i64 f)/\Ext V w')from fun V hV=>by
    have h:=zWV B V _ b (fun k=>(zAm b k).cl==(c:Int)) (c:Int) g (bC (bX hV HG5.out) 0) (bL (bX hV HG5.out)) (HV.out.ext okB (Ext.trans HE5.out hV)) (by omega) (fun k hk=>by rw[zAN b k hk]);rw[HIX.out]at h;exact h)
   have hff:(f:Int)<(b.length:Int):=by omega
   have hff1:IntKind.i64.wrap ((f:Int)+1)=((f+1:Nat):Int):=by rw[IntKind.wrap_i64];omega
   clear hE p0 p0l fz;go_upto_region 7 with (first
    | (go_at_call 149;refine(HIF.out _ (bR _ _)).mono ?_;rintro e w5 ⟨rfl,hb5⟩;have HE6:=hQq (Ext.trans HE5.out hb5);have HG6:=hQq (bX hb5 HG5.out);have HO6:=hQq (HO5.out.ext zIF hb5);clear hb5)
    | (go_at_call 82;refine(HTR.out _ HE6.out).mono ?_;rintro e w6 ⟨⟨at6,ct6,rfl,ho6⟩,hb6⟩;have HE7:=hQq (Ext.trans HE6.out hb6);have HG7:=hQq (bX hb6 HG6.out);have HO7:=hQq (HO6.out.ext zIF hb6);obtain⟨tb,tf,va,hex,htb,hva,y0,y1,y2,y3,y4,y5,y6,y7⟩:=((zAg.to (B':=0) ho6 (Nat.zero_le _)).in okT).tr 0 (by simp[plT]);cases hex;obtain⟨a3,cap3,rfl⟩:=hva.form;have HVA:=hQq hva;have hl6:([x]:List BrN).length=1:=rfl;have hp6:(plT [x])[0]'(by simp[plT])=x.toTrN:=rfl;rw[hp6]at y0 y1 y2 y3 y4 y5 y6 y7;simp only[Nat.zero_mul,Nat.add_zero]at y0 y1 y2 y3 y4 y5 y6 y7;clear hb6 ho6 hva)
    | fail)
   refine nW (P:=fun W=>Code.wp _ _ _ _ W) _ ?_;intro W8 hW8;have HX8:Hid (Ext w6 W8):=hQq (by rw[hW8];exact eA _ _);have HE8:=hQq (Ext.trans HE7.out HX8.out);have HG8:=hQq (bX HX8.out HG7.out);have HO8:=hQq (HO7.out.ext zIF HX8.out);have HVA8:=hQq (HVA.out.ext okA HX8.out);have HN8:Hid (W8.heap[w6.heap.size]? = some (.cells #[.int .i64 x.dep,.string x.nm,.int .i64 x.kd,.slice a3 x.ats.length cap3,.string x.dat,.int .i64 x.ma,.int .i64 x.mi,.int .i64 x.cl] 59 (0,0))):=hQq (by rw[hW8];exact bN _ _);have NEG:Hid (some w6.heap.size≠some g):=hQq (fun e=>by injection e with e;have:=bL HG7.out;omega);have HZ8:Hid (w6.heap.size<=w6.heap.size):=hQq (Nat.le_refl _);have hc24:c<=24:=by omega
   have DG:Hid ((⟨#[UInt8.ofNat ((48:Int)+(c:Int) / 10).toNat,UInt8.ofNat ((48:Int)+(c:Int) % 10).toNat]⟩:ByteArray)=zQE c):=hQq (by
    rw[show ((48:Int)+(c:Int) / 10).toNat=48+c / 10 by omega,show ((48:Int)+(c:Int) % 10).toNat=48+c % 10 by omega];rfl)
   clear hW8 y0 y1 y2 y3 y4 y5 y6 y7;refine zAX (apG (fun i=>match i with|0=>some (.int .i64 (c:Int))|1=>some (.int .i64 ((c:Int) / 10))|2=>some (.int .i64 (48+(c:Int) / 10))|3=>some (.int .u8 (48+(c:Int) / 10))|4=>some (.int .i64 (c:Int))|5=>some (.int .i64 ((c:Int) % 10))|6=>some (.int .i64 (48+(c:Int) % 10))|7=>some (.int .u8 (48+(c:Int) % 10))|9=>some (.string (zQE c))|10=>some (.pointer (some ⟨w6.heap.size,0,none⟩))|12=>some (.pointer (some ⟨w6.heap.size,1,none⟩))|_=>none)) (pkI w6 W8 w6.heap.size (.int .i64 x.dep) (.string x.nm) (.int .i64 x.kd) (.slice a3 x.ats.length cap3) (.string x.dat) (.int .i64 x.ma) (.int .i64 x.mi) (.int .i64 x.cl) (zQE c) (48+(c:Int) / 10) (48+(c:Int) % 10)) rfl (by kernel_rfl) (by kernel_rfl) ?_ ?_ ?_
   ·intro vs;exact⟨Ext.trans HX8.out (eD _),fun _ _ hq _=>hq,Nat.le_refl _,HN8.out,fun h=>(by cases h)⟩
   ·intro i o a wx z vs ho hz0 hdn hpd hI hvs hk hp;have n4:=zAe (show a.eval (.tmp 4)= .pointer (some ⟨g,0,none⟩)from hk 4 (of_decide_eq_true (by kernel_rfl)));have n6:=zAe (show a.eval (.tmp 6)= .pointer (some ⟨w6.heap.size,0,none⟩)from hk 6 (of_decide_eq_true (by kernel_rfl)));clear hk hz0 hdn
    match i,ho,hpd,hp with
    | 0,ho,hpd,hp=>
     obtain rfl:=oI ho;have r:=hI.2.1 _ _ HG8.out NEG.out;have r0:=bL r;have rc0:=bC r 0;clear ho hp hpd hvs;unfold Oper.wp;go_simp;exact⟨_,rfl,rfl,zCl (z:=z) (vs:=vs) rfl rfl rfl rfl hI⟩
    | 1,ho,hpd,hp=>
     obtain rfl:=oI ho;have p26:=zAe (show a.eval (.tmp 26)= .int .i64 (c:Int)from hp 0 _ 26 (by kernel_rfl) rfl rfl);have x1:IntKind.i64.wrap ((c:Int) / 10)=(c:Int) / 10:=IntWalk.i64_in _ (by omega);have x2:IntKind.i64.wrap (48+(c:Int) % 10)=48+(c:Int) % 10:=IntWalk.i64_in _ (by omega);have x3:IntKind.u8.wrap (48+(c:Int) % 10)=48+(c:Int) % 10:=zEe (by omega) (by omega);have x4:IntKind.i64.wrap (48+(c:Int) / 10)=48+(c:Int) / 10:=IntWalk.i64_in _ (by omega);have x5:IntKind.u8.wrap (48+(c:Int) / 10)=48+(c:Int) / 10:=zEe (by omega) (by omega);clear ho hp hpd hvs;unfold Oper.wp;go_simp;exact⟨_,rfl,rfl,zCl (z:=z) (vs:=vs) rfl rfl rfl rfl hI⟩
    | 2,ho,hpd,hp=>
     obtain rfl:=oI ho;have p27:=zAe (show a.eval (.tmp 27)= .int .i64 ((c:Int) / 10)from hp 1 _ 27 (by kernel_rfl) rfl rfl);have x1:IntKind.i64.wrap ((c:Int) / 10)=(c:Int) / 10:=IntWalk.i64_in _ (by omega);have x2:IntKind.i64.wrap (48+(c:Int) % 10)=48+(c:Int) % 10:=IntWalk.i64_in _ (by omega);have x3:IntKind.u8.wrap (48+(c:Int) % 10)=48+(c:Int) % 10:=zEe (by omega) (by omega);have x4:IntKind.i64.wrap (48+(c:Int) / 10)=48+(c:Int) / 10:=IntWalk.i64_in _ (by omega);have x5:IntKind.u8.wrap (48+(c:Int) / 10)=48+(c:Int) / 10:=zEe (by omega) (by omega);clear ho hp hpd hvs;unfold Oper.wp;go_simp;exact⟨_,rfl,rfl,zCl (z:=z) (vs:=vs) rfl rfl rfl rfl hI⟩
    | 3,ho,hpd,hp=>
     obtain rfl:=oI ho;have p28:=zAe (show a.eval (.tmp 28)= .int .i64 (48+(c:Int) / 10)from hp 2 _ 28 (by kernel_rfl) rfl rfl);have x1:IntKind.i64.wrap ((c:Int) / 10)=(c:Int) / 10:=IntWalk.i64_in _ (by omega);have x2:IntKind.i64.wrap (48+(c:Int) % 10)=48+(c:Int) % 10:=IntWalk.i64_in _ (by omega);have x3:IntKind.u8.wrap (48+(c:Int) % 10)=48+(c:Int) % 10:=zEe (by omega) (by omega);have x4:IntKind.i64.wrap (48+(c:Int) / 10)=48+(c:Int) / 10:=IntWalk.i64_in _ (by omega);have x5:IntKind.u8.wrap (48+(c:Int) / 10)=48+(c:Int) / 10:=zEe (by omega) (by omega);clear ho hp hpd hvs;unfold Oper.wp;go_simp;exact⟨_,rfl,rfl,zCl (z:=z) (vs:=vs) rfl rfl rfl rfl hI⟩
    | 4,ho,hpd,hp=>
     obtain rfl:=oI ho;have r:=hI.2.1 _ _ HG8.out NEG.out;have r0:=bL r;have rc0:=bC r 0;clear ho hp hpd hvs;unfold Oper.wp;go_simp;exact⟨_,rfl,rfl,zCl (z:=z) (vs:=vs) rfl rfl rfl rfl hI⟩
    | 5,ho,hpd,hp=>
     obtain rfl:=oI ho;have p30:=zAe (show a.eval (.tmp 30)= .int .i64 (c:Int)from hp 4 _ 30 (by kernel_rfl) rfl rfl);have x1:IntKind.i64.wrap ((c:Int) / 10)=(c:Int) / 10:=IntWalk.i64_in _ (by omega);have x2:IntKind.i64.wrap (48+(c:Int) % 10)=48+(c:Int) % 10:=IntWalk.i64_in _ (by omega);have x3:IntKind.u8.wrap (48+(c:Int) % 10)=48+(c:Int) % 10:=zEe (by omega) (by omega);have x4:IntKind.i64.wrap (48+(c:Int) / 10)=48+(c:Int) / 10:=IntWalk.i64_in _ (by omega);have x5:IntKind.u8.wrap (48+(c:Int) / 10)=48+(c:Int) / 10:=zEe (by omega) (by omega);clear ho hp hpd hvs;unfold Oper.wp;go_simp;exact⟨_,rfl,rfl,zCl (z:=z) (vs:=vs) rfl rfl rfl rfl hI⟩
    | 6,ho,hpd,hp=>
     obtain rfl:=oI ho;have p31:=zAe (show a.eval (.tmp 31)= .int .i64 ((c:Int) % 10)from hp 5 _ 31 (by kernel_rfl) rfl rfl);have x1:IntKind.i64.wrap ((c:Int) / 10)=(c:Int) / 10:=IntWalk.i64_in _ (by omega);have x2:IntKind.i64.wrap (48+(c:Int) % 10)=48+(c:Int) % 10:=IntWalk.i64_in _ (by omega);have x3:IntKind.u8.wrap (48+(c:Int) % 10)=48+(c:Int) % 10:=zEe (by omega) (by omega);have x4:IntKind.i64.wrap (48+(c:Int) / 10)=48+(c:Int) / 10:=IntWalk.i64_in _ (by omega);have x5:IntKind.u8.wrap (48+(c:Int) / 10)=48+(c:Int) / 10:=zEe (by omega) (by omega);clear ho hp hpd hvs;unfold Oper.wp;go_simp;exact⟨_,rfl,rfl,zCl (z:=z) (vs:=vs) rfl rfl rfl rfl hI⟩
    | 7,ho,hpd,hp=>
     obtain rfl:=oI ho;have p32:=zAe (show a.eval (.tmp 32)= .int .i64 (48+(c:Int) % 10)from hp 6 _ 32 (by kernel_rfl) rfl rfl);have x1:IntKind.i64.wrap ((c:Int) / 10)=(c:Int) / 10:=IntWalk.i64_in _ (by omega);have x2:IntKind.i64.wrap (48+(c:Int) % 10)=48+(c:Int) % 10:=IntWalk.i64_in _ (by omega);have x3:IntKind.u8.wrap (48+(c:Int) % 10)=48+(c:Int) % 10:=zEe (by omega) (by omega);have x4:IntKind.i64.wrap (48+(c:Int) / 10)=48+(c:Int) / 10:=IntWalk.i64_in _ (by omega);have x5:IntKind.u8.wrap (48+(c:Int) / 10)=48+(c:Int) / 10:=zEe (by omega) (by omega);clear ho hp hpd hvs;unfold Oper.wp;go_simp;exact⟨_,rfl,rfl,zCl (z:=z) (vs:=vs) rfl rfl rfl rfl hI⟩
    | 8,ho,hpd,hp=>
     obtain rfl:=oI ho;have p29:=zAe (show a.eval (.tmp 29)= .int .u8 (48+(c:Int) / 10)from hp 3 _ 29 (by kernel_rfl) rfl rfl);have p33:=zAe (show a.eval (.tmp 33)= .int .u8 (48+(c:Int) % 10)from hp 7 _ 33 (by kernel_rfl) rfl rfl);clear ho hp hpd hvs;unfold Oper.wp;go_simp;exact⟨_,rfl,trivial,zUS hI rfl rfl rfl rfl⟩
    | 9,ho,hpd,hp=>
     obtain rfl:=oI ho;obtain⟨g2,e2,-,h2⟩:=hI.2.2.2.2 (hpd 8 (of_decide_eq_true (by kernel_rfl)) (by kernel_rfl));have p34:=zAe (show a.eval (.tmp 34)= .slice (some ⟨g2,0,none⟩) 2 2 from(hvs 34 (of_decide_eq_true (by kernel_rfl))).symm.trans e2);have hcv:=zSZ wx g2 _ _ h2;rw[DG.out]at hcv;clear ho hp hpd hvs;unfold Oper.wp;go_simp;exact⟨_,rfl,rfl,zCl (z:=z) (vs:=vs) rfl rfl rfl rfl hI⟩
    | 10,ho,hpd,hp=>
     obtain rfl:=oI ho;clear ho hp hpd hvs;unfold Oper.wp;go_simp;exact⟨_,rfl,rfl,zCl (z:=z) (vs:=vs) rfl rfl rfl rfl hI⟩
    | 11,ho,hpd,hp=>
     obtain rfl:=oI ho;have p36:=zAe (show a.eval (.tmp 36)= .pointer (some ⟨w6.heap.size,0,none⟩)from hp 10 _ 36 (by kernel_rfl) rfl rfl);have r:=hI.2.2.2.1;have r0:=bL r;have rc0:=bC r 0;have rc1:=bC r 1;have fz0:=bT r 0;have fz1:=bT r 1;clear ho hp hpd hvs;unfold Oper.wp;go_simp;exact⟨undef,trivial,zPx hI HZ8.out rfl rfl rfl rfl⟩
    | 12,ho,hpd,hp=>
     obtain rfl:=oI ho;clear ho hp hpd hvs;unfold Oper.wp;go_simp;exact⟨_,rfl,rfl,zCl (z:=z) (vs:=vs) rfl rfl rfl rfl hI⟩
    | 13,ho,hpd,hp=>
     obtain rfl:=oI ho;have p37:=zAe (show a.eval (.tmp 37)= .pointer (some ⟨w6.heap.size,1,none⟩)from hp 12 _ 37 (by kernel_rfl) rfl rfl);have p35:=zAe (show a.eval (.tmp 35)= .string (zQE c)from hp 9 _ 35 (by kernel_rfl) rfl rfl);have r:=hI.2.2.2.1;have r0:=bL r;have rc0:=bC r 0;have rc1:=bC r 1;have fz0:=bT r 0;have fz1:=bT r 1;clear ho hp hpd hvs;unfold Oper.wp;go_simp;exact⟨undef,trivial,zPx hI HZ8.out rfl rfl rfl rfl⟩
    | i+14,ho,_,_=>exact absurd (Array.getElem?_eq_some_iff.1 ho).1 (by simp)
   ·intro z vs wx hz hI hf;have hI2:=hI.2.2.2.1;rw[if_pos (hz 11 (of_decide_eq_true (by kernel_rfl))),if_pos (hz 13 (of_decide_eq_true (by kernel_rfl)))]at hI2;have HQ9:=hQq hI2;have HK9:=hQq hI.2.1;have HE9:=hQq hI.1;have HS9:=hQq hI.2.2.1;clear hI2;clear hf hz hI;generalize hA:zAC _ _ _=A1;have hA2:=hA.symm.trans (congrArg (fun D=>zAC _ D vs) (show zCu _ 14= [26,27,28,29,30,31,32,33,34,35,36,37] by kernel_rfl));rw[hA2];clear hA2 hA;simp only[zAC,List.foldl,Act.put,List.setIfInBounds_toArray,List.set_cons_succ,List.set_cons_zero];obtain⟨Y,hY⟩:∃Y:TrN,Y= {x.toTrN with dep:=2,nm:=zQE c}:=⟨_,rfl⟩;have HYE:=hQq hY;have HY:Hid (zJx (plT b) (k+1)=zJx (plT b) k++ [Y]):=hQq (by
     unfold zJx;rw[List.range_succ,List.map_append];refine congrArg _ ?_;rw[hY];show [zXO (plT b) (k+1)]=_;unfold zXO;rw[<- HCE.out,<- HF.out,HXT.out])
    have HLL:Hid ((zOH :: zJx (plT b) k).length+1<=1000):=hQq (by rw[HL9.out];omega);have HVX:=hQq (HVA.out.ext okA HE9.out);have HG9:=hQq (bX HE9.out HG7.out);have HO9:=hQq (HO7.out.ext zIF HE9.out);have HEW:=hQq (Ext.trans HE7.out HE9.out);clear HK9 HS9 HE8 HG8 HO8 HVA8 HN8;have hc1:IntKind.i64.wrap ((c:Int)+1)=((c+1:Nat):Int):=by rw[IntKind.wrap_i64];omega
    have q2:=bC HQ9.out 0;have q3:=bC HQ9.out 1;have q4:=bC HQ9.out 2;have q5':=bC HQ9.out 3;have q6':=bC HQ9.out 4;have q7:=bC HQ9.out 5;have q8:=bC HQ9.out 6;have q9:=bC HQ9.out 7;have qz:=bL HQ9.out;go_wp2_with (at_builtin;refine zIX zIF rfl (.tmp 38) (.tmp 40) rfl _ _ (zOH :: zJx (plT b) k) [Y] w _ rfl rfl (by exact HO9.out.ext zIF (eA _ _)) (by exact zAj zIF _ Y [.int .i64 2,.string (zQE c),.int .i64 x.kd,.slice a3 x.ats.length cap3,.string x.dat,.int .i64 x.ma,.int .i64 x.mi,.int .i64 x.cl] _ (by first|rfl|simp) ⟨_,by rw[HYE.out];exact HVX.out,by rw[HYE.out];rfl⟩) (by exact Ext.trans HEW.out (eA _ _)) (by have:=HEW.out.size;simp;omega) (by have:=HLL.out;simp at this ⊢;omega) ?_;intro v9 w9 ha;have HA:=hQq ha;have hgk:=ha.chg.keep _ _ (bA HG9.out) (fun e=>by obtain⟨_,c9',f9,h9⟩:=HO9.out.row e _ rfl;rw[HG9.out]at h9;cases h9);have HGK:=hQq hgk;have hgk0:=bC hgk 0;have hgkl:=bL hgk;clear ha hgk)
    go_roundw
    case rel=>exact⟨_,k+1,_,rfl,hlt,rfl,by rw[<- HCE.out];first|exact bN _ _|(have h:=bN w9 (.cells #[.int .i64 ((c+1:Nat):Int)] 3 (0,0));simpa using h),Nat.le_trans HEW.out.size (Nat.le_trans (eA _ _).size HA.out.chg.size),by rw[HY.out];exact HA.out.own.ext zIF (eA _ _),Ext.trans HA.out.below (eA _ _)⟩
    case measure=>
     rw[zKH HG.out,zKH (bN w9 _)];omega
end Go.Proofs.YtbeeoomadnmogaaGreat
