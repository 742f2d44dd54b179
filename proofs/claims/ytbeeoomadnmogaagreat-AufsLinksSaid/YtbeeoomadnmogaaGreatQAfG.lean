/- AfG AfI AxE -/
import Derived.Test.YtbeeoomadnmogaaGreatQI5
import Derived.Test.YtbeeoomadnmogaaGreatQFarB
namespace Go.Proofs.YtbeeoomadnmogaaGreat
open Go.RowKit
def zOG (x:DeN):BrN:={x.nd with dep:=0,nm:=x.nm,opq:=false,red:=[]}
def zOI (x:DeN)(d:DiN):BrN:={zOG x with ats:=d.ats,opq:=d.opq}
def zTO (old:List BrN)(i:Nat)(s:ByteArray):Nat:=((zAF old i).find? fun k=>decide ((zAm old k).nm=s)).getD 0
def zIi (old:List BrN)(D:Nat->DiN)(back:ByteArray->ByteArray):Nat->Nat->Int->List BrN
 | 0,_,_=>[]
 | n+1,i,d=>(D i).ens.flatMap fun x=>if x.nd.kd=1 then (zOI x (D (zTO old i (back x.nm)))).at d :: zIi old D back n (zTO old i (back x.nm)) (d+1)else [(zOG x).at d]
def zOA (old:List BrN)(D:Nat->DiN)(back:ByteArray->ByteArray):List BrN:={kdN 1 with ats:=(D 0).ats,opq:=(D 0).opq,red:=[]} :: zIi old D back old.length 0 1
theorem zP4 {b:List BrN}{i k:Nat}(hd:zCs (zAo b i)=0)(hk:k∈zAF b i):zTO b i (zAm b k).nm=k:=by
 have h1:zDA (fun k=>(zAm b k).nm) (zAF b i):=by
  have:=zF6 hd;unfold zIq zDA zAo at this;rw[List.pairwise_map]at this;exact this
 unfold zTO
 cases hf:(zAF b i).find? fun j=>decide ((zAm b j).nm=(zAm b k).nm)with
 | none=>exact absurd (decide_eq_true rfl) (by have:=List.find?_eq_none.1 hf k hk;exact this)
 | some j=>
  have e:(zAm b j).nm=(zAm b k).nm:=by have:=List.find?_some hf;exact of_decide_eq_true this
  exact zD4 h1 (List.mem_of_find?_eq_some hf) hk (congrArg L e)
theorem zIU {P:List (DeN × (BrN × For))}{d:Int}{step:DeN->List BrN}(hk:∀p∈P,p.1.nm=p.2.1.nm)(hs:∀p∈P,step p.1=p.2.1.at d :: flt (d+1) p.2.2):
  (zIg (P.map (·.1))).flatMap step=flt d (ofS (zCV zCm (P.map (·.2)))):=by
 have e1:zIg (P.map (·.1))=(zCV (fun p=>p.1.nm) P).map (·.1):=(zG7 P fun _ _=>rfl).symm;have e2:zCV zCm (P.map (·.2))=(zCV (fun p=>p.1.nm) P).map (·.2):=(zG7 (key:=fun p:DeN × (BrN × For)=>p.1.nm) (key':=zCm) (f:=fun p=>p.2) P fun p hp=>(hk p hp).symm).symm;rw[e1,e2,zDf,List.flatMap_map,List.flatMap_map];have hm:∀p∈zCV (fun p=>p.1.nm) P,p∈P:=fun p hp=>(zAr P).mem_iff.1 hp;generalize zCV (fun p=>p.1.nm) P=S at hm
 induction S with
 | nil=>rfl
 | cons p r ih=>rw[List.flatMap_cons,List.flatMap_cons,ih fun q hq=>hm q (List.mem_cons_of_mem _ hq),hs p (hm p (List.mem_cons_self ..))]
theorem zC0 {b:List BrN} (hok:zA1 (plT b) (plT b).length) {i:Nat} {d:Int} {x:BrN} {k:For} (h:Sub b i d x k):(zAo b i).ens=(kq (i+1) k).map fun q=>zBj b i q.1:=by
 show (zAF b i).map (zBj b i)=_
 rw [zJy hok h,<- zMZ,List.map_map];rfl
section
variable {b:List BrN} (hok:zA1 (plT b) (plT b).length)
include hok
theorem zVx (hD:∀i,i<b.length->(zAm b i).kd=1->acE (zAo b i)=0):∀(n i:Nat) (d:Int) (x:BrN) (k:For),siz k<=n->Sub b i d x k->x.kd=1->zCR zGU k ->
  zIi b (fun i=>acD (zAo b i)) (bkS 3) (n+1) i (d+1)=flt (d+1) (zDk x k):=by
 intro n
 induction n using Nat.strongRecOn with
 | _ n ih=>
 intro i d x k hn hs hx hc;obtain⟨hil,hgi⟩:=zAQ hs;have hki:(zAm b i).kd=1:=by rw[hgi];exact hx
 obtain⟨z1,z2,z3,z4,z5⟩:=zEd (hD i hil hki);let P:List (DeN × (BrN × For)):=((kq (i+1) k).map fun q=>(aeX (zBj b i q.1),(aeB q.2.1,zDk q.2.1 q.2.2)))++(if x.opq=true then [(mkN zDx,(zF0 zDx,.nil))]else []);have ho:(zAo b i).opq=x.opq:=(congrArg BrN.opq hgi).trans rfl;have e1:acL (zAo b i)=P.map (·.1):=by
  unfold acL;rw[zC0 hok hs,ho,List.map_map,List.map_append,List.map_map];refine congrArg _ ?_;split<;>rfl
 have e2:zB5 k++mkF x=P.map (·.2):=by
  rw[List.map_append,List.map_map,zF3,<- zFi k (i+1),List.map_map];refine congr (congrArg _ rfl) ?_;unfold mkF;split<;>rfl
 have hP:∀p∈P,(∃q∈kq (i+1) k,p=(aeX (zBj b i q.1),(aeB q.2.1,zDk q.2.1 q.2.2)))\/p=(mkN zDx,(zF0 zDx,.nil)):=fun p hp=>by
  rcases List.mem_append.1 hp with hp|hp
  ·obtain⟨q,hq,rfl⟩:=List.mem_map.1 hp;exact .inl ⟨q,hq,rfl⟩
  ·split at hp
   ·exact .inr (List.mem_singleton.1 hp)
   ·cases hp
 have hq:∀q∈kq (i+1) k,zAm b q.1=q.2.1.at (d+1)/\zGU q.2.1 q.2.2/\zCR zGU q.2.2/\aeE (zBj b i q.1)=0:=fun q hq=>by
  obtain⟨s1,_⟩:=zEv hs q hq;have hm:q.2∈zBU k:=by rw[<- zFi k (i+1)];exact List.mem_map.2 ⟨q,hq,rfl⟩
  obtain⟨c1,c2⟩:=zE6 hc q.2 hm;refine⟨(zAQ s1).2,c1,c2,z3 _ ?_⟩;rw[zC0 hok hs];exact List.mem_map.2 ⟨q,hq,rfl⟩
 unfold zIi;show (acD (zAo b i)).ens.flatMap _=_;rw[(zCd z5).1];show (zIg (acL (zAo b i))).flatMap _=_;unfold zDk;rw[e1,e2];refine zIU (fun p hp=>?_) fun p hp=>?_
 ·rcases hP p hp with ⟨q,hm,rfl⟩|rfl
  ·obtain⟨g,c,_,_⟩:=hq q hm;have hnm:(zBj b i q.1).nm=q.2.1.nm:=(congrArg (fun y:BrN=>y.nm) g).trans rfl;have hwh:(zBj b i q.1).wh=(q.2.1.kd==5):=(congrArg (fun y:BrN=>y.kd==5) g).trans rfl;show (aeX (zBj b i q.1)).nm=(aeB q.2.1).nm;unfold aeB;by_cases e:q.2.1.kd=5
   ·rw[if_pos e,zBL (by rw[hwh,e];rfl),hnm];rfl
   ·rw[if_neg e,zBM (by rw[hwh];exact nB e),hnm]
  ·rfl
 ·rcases hP p hp with ⟨⟨j,y,ky⟩,hm,rfl⟩|rfl
  ·obtain⟨s1,s2⟩:=zEv hs _ hm;obtain⟨g,c,c2,ha⟩:=hq _ hm;simp only at s1 s2 g c c2 ha ⊢;have hj:j∈zAF b i:=by rw[zJy hok hs,<- zMZ];exact List.mem_map.2 ⟨_,hm,rfl⟩
   have hnm:(zBj b i j).nm=y.nm:=(congrArg (fun y:BrN=>y.nm) g).trans rfl;have hwh:(zBj b i j).wh=(y.kd==5):=(congrArg (fun y:BrN=>y.kd==5) g).trans rfl;have hnd:(zBj b i j).nd=zEo (y.at (d+1)).toTrN:=(congrArg (fun y:BrN=>zEo y.toTrN) g).trans rfl;obtain⟨w1,w2,w3,w4,w5,w6,w7,w8⟩:=c;by_cases e1:y.kd=1
   ·have hp:(zBj b i j).wh=false:=by rw[hwh,e1];rfl
    have hn1:(zBj b i j).nd=zCb:=by rw[hnd];exact if_pos e1
    rw[zBM hp,if_pos (show ({zBj b i j with nm:=nmS 3 (zBj b i j).nm}:DeN).nd.kd=1 by show (zBj b i j).nd.kd=1;rw[hn1];rfl)];have hb:bkS 3 ({zBj b i j with nm:=nmS 3 (zBj b i j).nm}:DeN).nm=(zAm b j).nm:=by
     rw[g];show bkS 3 (nmS 3 (zBj b i j).nm)=y.nm;rw[hnm];exact(zMe (w4 (by omega))).1
    rw[hb,zP4 z1 hj]
    cases n with
    | zero=>omega
    | succ m=>
     rw[ih m (by omega) j (d+1) y ky (by omega) s1 e1 c2];refine congrArg (· :: _) ?_;obtain⟨_,_,_,_,q5⟩:=zEd (hD j (zAQ s1).1 (by rw[g];exact e1));rw[(zCd q5).1];obtain⟨v1,v2,v3,v4⟩:=w7 e1;unfold aeB;rw[if_neg (by omega)];have ga:(zAo b j).ats=y.ats:=(congrArg (fun y:BrN=>y.ats) g).trans rfl;obtain⟨⟨dep,nm,kd,ats,dat,ma,mi,cl⟩,opq,red⟩:=y;simp only at e1 v1 v2 v3 v4 ga hnm;subst e1 v1 v2 v3 v4;unfold zOI zOG BrN.at;simp only[hn1,hnm,ga];rfl
   ·have hk:=(w5 e1).1;subst hk;have hfl:flt (d+1+1) (zDk y .nil)= []:=by
     unfold zDk mkF;rw[(w5 e1).2];rfl
    rw[hfl];by_cases e5:y.kd=5
    ·rw[zBL (by rw[hwh,e5];rfl),if_neg (show ¬(mkN (wtS 3 (zBj b i j).nm)).nd.kd=1 from show ¬(2:Int)=1 by decide),hnm];unfold aeB;rw[if_pos e5];rfl
    ·have hp:(zBj b i j).wh=false:=by rw[hwh];exact nB e5
     have hn1:(zBj b i j).nd= {(y.at (d+1)).toTrN with dep:=0,nm:=⟨#[]⟩}:=by rw[hnd];exact if_neg e1
     rw[zBM hp,if_neg (show ¬({zBj b i j with nm:=nmS 3 (zBj b i j).nm}:DeN).nd.kd=1 by show ¬(zBj b i j).nd.kd=1;rw[hn1];exact e1)];unfold aeB;rw[if_neg e5];unfold zOG BrN.at;simp only[hn1,hnm];rfl
  ·rfl
end
def zVR (x:BrN)(k:For):Prop:=x.dep=0/\x.red= []/\(x.kd≠1->k= .nil/\x.opq=false)/\(x.kd=1->x.dat=⟨#[]⟩/\x.ma=0/\x.mi=0/\x.cl=0)
theorem zJn {b:List BrN} (hok:zA1 (plT b) (plT b).length) {i:Nat} {d:Int} {x:BrN} {k:For} (h:Sub b i d x k):adO (zAo b i).ens=zWc k:=by
 unfold adO zWc
 rw [zC0 hok h,<- zFi k (i+1),List.any_map,List.any_map]
 rw [Bool.eq_iff_iff,List.any_eq_true,List.any_eq_true]
 have hg:∀ q ∈ kq (i+1) k,(zBj b i q.1).nm=q.2.1.nm:=fun q hq=>(congrArg (fun y:BrN=>y.nm) (zAQ (zEv h q hq).1).2).trans rfl
 constructor
 ·rintro⟨q,hq,e⟩
  refine⟨q,hq,?_⟩
  show decide (q.2.1.nm=zDx)=true
  rw [<- hg q hq];exact e
 ·rintro⟨q,hq,e⟩
  refine⟨q,hq,?_⟩
  show decide ((zBj b i q.1).nm=zDx)=true
  rw [hg q hq];exact e
section
variable {b:List BrN} (hok:zA1 (plT b) (plT b).length)
include hok
theorem zQ4 (hD:∀i,i<b.length->(zAm b i).kd=1->arE (zAo b i)=0):∀(n i:Nat) (d:Int) (x:BrN) (k:For),siz k<=n->Sub b i d x k->x.kd=1->zCR zVR k ->
  zIi b (fun i=>arD (zAo b i)) (nmS 3) (n+1) i (d+1)=flt (d+1) (zNm k):=by
 intro n
 induction n using Nat.strongRecOn with
 | _ n ih=>
 intro i d x k hn hs hx hc;obtain⟨hil,hgi⟩:=zAQ hs;have hki:(zAm b i).kd=1:=by rw[hgi];exact hx
 obtain⟨z1,z2,z3,z4,z5⟩:=zD9 (hD i hil hki);let P:List (DeN × (BrN × For)):=((kq (i+1) k).filter fun q=>bkW 3 q.2.1.nm != 3).map fun q=>(adX (zBj b i q.1),(adB q.2.1 q.2.2,zNm q.2.2));have hnmq:∀q∈kq (i+1) k,(zBj b i q.1).nm=q.2.1.nm:=fun q hq=>(congrArg (fun y:BrN=>y.nm) (zAQ (zEv hs q hq).1).2).trans rfl;have e1:adL (zAo b i).ens=P.map (·.1):=by
  unfold adL;rw[zC0 hok hs,List.filter_map,List.map_map,List.map_map];refine congrArg _ (List.filter_congr fun q hq=>?_);show (bkW 3 (zBj b i q.1).nm != 3)=_;rw[hnmq q hq]
 have e2:zNl k=P.map (·.2):=by
  rw[List.map_map,zSV,<- zFi k (i+1),List.filter_map,List.map_map];rfl
 have hP:∀p∈P,∃q∈kq (i+1) k,bkW 3 q.2.1.nm≠3/\p=(adX (zBj b i q.1),(adB q.2.1 q.2.2,zNm q.2.2)):=fun p hp=>by
  obtain⟨q,hq,rfl⟩:=List.mem_map.1 hp;obtain⟨h1,h2⟩:=List.mem_filter.1 hq;exact⟨q,h1,bne_iff_ne.1 h2,rfl⟩
 have hq:∀q∈kq (i+1) k,zAm b q.1=q.2.1.at (d+1)/\zVR q.2.1 q.2.2/\zCR zVR q.2.2:=fun q hq=>by
  obtain⟨s1,_⟩:=zEv hs q hq;have hm:q.2∈zBU k:=by rw[<- zFi k (i+1)];exact List.mem_map.2 ⟨q,hq,rfl⟩
  obtain⟨c1,c2⟩:=zE6 hc q.2 hm;exact⟨(zAQ s1).2,c1,c2⟩
 unfold zIi;show (arD (zAo b i)).ens.flatMap _=_;rw[(zEa z5).1];show (zIg (adL (zAo b i).ens)).flatMap _=_;unfold zNm;rw[e1,e2];refine zIU (fun p hp=>?_) fun p hp=>?_
 ·obtain⟨q,hm,_,rfl⟩:=hP p hp;have hnm:=hnmq q hm;show (adX (zBj b i q.1)).nm=(adB q.2.1 q.2.2).nm;unfold adB adX;rw[hnm];split<;>rfl
 ·obtain⟨⟨j,y,ky⟩,hm,h3,rfl⟩:=hP p hp;obtain⟨s1,s2⟩:=zEv hs _ hm;obtain⟨g,c,c2⟩:=hq _ hm;simp only at s1 s2 g c c2 h3 ⊢;have hj:j∈zAF b i:=by rw[zJy hok hs,<- zMZ];exact List.mem_map.2 ⟨_,hm,rfl⟩
  have hnm:(zBj b i j).nm=y.nm:=(congrArg (fun y:BrN=>y.nm) g).trans rfl;have hnd:(zBj b i j).nd=zEo (y.at (d+1)).toTrN:=(congrArg (fun y:BrN=>zEo y.toTrN) g).trans rfl;obtain⟨w1,w2,w5,w7⟩:=c;have hmem:zBj b i j∈(zAo b i).ens:=by rw[zC0 hok hs];exact List.mem_map.2 ⟨_,hm,rfl⟩
  obtain⟨ix,hix,hge⟩:=List.getElem_of_mem hmem;have hpt:=zGa (z4 ix hix);rw[zAL _ _ hix,hge,hnm]at hpt;obtain⟨t0,t4,t1,t5,_,_⟩:=hpt;have hkd:(zBj b i j).nd.kd=y.kd:=by
   rw[hnd];unfold zEo;by_cases e:(y.at (d+1)).toTrN.kd=1
   ·rw[if_pos e];exact e.symm
   ·rw[if_neg e];rfl
  rcases zFa 3 y.nm with ⟨a1,_,_⟩|⟨_,a2,a3,a4⟩|⟨_,a2,_,a3,a4⟩|⟨_,a2,_⟩|⟨_,a2,_⟩
  ·rw[t0]at a1;cases a1
  ·have n2:¬bkW 3 y.nm=2:=by rw[a2];decide
   have ex:adX (zBj b i j)= {zBj b i j with nm:=bkS 3 y.nm}:=by unfold adX;rw[hnm,if_neg n2]
   rw[ex];by_cases e1:y.kd=1
   ·have hn1:(zBj b i j).nd=zCb:=by rw[hnd];exact if_pos e1
    rw[if_pos (show ({zBj b i j with nm:=bkS 3 y.nm}:DeN).nd.kd=1 by show (zBj b i j).nd.kd=1;rw[hn1];rfl)];have hb:nmS 3 ({zBj b i j with nm:=bkS 3 y.nm}:DeN).nm=(zAm b j).nm:=by rw[g];exact a4
    rw[hb,zP4 z1 hj]
    cases n with
    | zero=>omega
    | succ m=>
     rw[ih m (by omega) j (d+1) y ky (by omega) s1 e1 c2];refine congrArg (· :: _) ?_;obtain⟨_,_,_,_,q5⟩:=zD9 (hD j (zAQ s1).1 (by rw[g];exact e1));rw[(zEa q5).1,zJn hok s1];obtain⟨v1,v2,v3,v4⟩:=w7 e1;unfold adB;rw[if_neg n2];have ga:(zAo b j).ats=y.ats:=(congrArg (fun y:BrN=>y.ats) g).trans rfl;obtain⟨⟨dep,nm,kd,ats,dat,ma,mi,cl⟩,opq,red⟩:=y;simp only at e1 v1 v2 v3 v4 ga w2;subst e1 v1 v2 v3 v4 w2;unfold zOI zOG BrN.at;simp only[hn1,ga];rfl
   ·obtain⟨hk,ho⟩:=w5 e1;subst hk;have hn1:(zBj b i j).nd= {(y.at (d+1)).toTrN with dep:=0,nm:=⟨#[]⟩}:=by rw[hnd];exact if_neg e1
    rw[if_neg (show ¬({zBj b i j with nm:=bkS 3 y.nm}:DeN).nd.kd=1 by show ¬(zBj b i j).nd.kd=1;rw[hn1];exact e1)];unfold adB;rw[if_neg n2];obtain⟨⟨dep,nm,kd,ats,dat,ma,mi,cl⟩,opq,red⟩:=y;simp only at w2 ho;subst w2;unfold zOG BrN.at;simp only[hn1];rfl
  ·have ex:adX (zBj b i j)=⟨bkS 3 y.nm,kdN 5,true,true,1⟩:=by unfold adX;rw[hnm,if_pos a2]
   have hk2:y.kd=2:=by
    have he:=t1 (by rw[a2];decide);unfold zFk at he;simp only[Bool.and_eq_true,beq_iff_eq]at he;rw[<- hkd];exact he.2.1
   obtain⟨hk,_⟩:=w5 (by omega);subst hk;rw[ex,if_neg (show ¬(⟨bkS 3 y.nm,kdN 5,true,true,1⟩:DeN).nd.kd=1 from show ¬(5:Int)=1 by decide)];unfold adB;rw[if_pos a2];rfl
  ·exact absurd a2 h3
  ·exact absurd a2 t4
end
abbrev zC (t:List TrN):List TrN:=t.map (clM fun _=>0)
def FOk:Int->For->Prop:=zB1 fun d x k=>d<=8/\zAn (L x.nm)=0/\zAc (clM (fun _=>0) x.toTrN)=0/\zBS x.ats=0/\(x.kd≠1->k= .nil)/\(zBU k).length<=24/\zGS zCm (zBU k)
theorem zOK (b:List BrN)(j:Nat)(h:j<b.length):zAa (zC (plT b)) j=clM (fun _=>0) (zAm b j).toTrN:=by rw[zDy rfl,zAx b j h]
theorem zJP {t:List TrN}(h:∀j,(zAa t j).cl=0)(i:Nat):zGc t i=0:=by
 have hm:∀k,zAK t k=0:=fun k=>by
  induction k with
  | zero=>rfl
  | succ k ih=>show max (zAK t k) (zAa t k).cl=0;rw[ih,h];rfl
 have hu:∀k,zBB t i k=false:=fun k=>by
  induction k with
  | zero=>rfl
  | succ k ih=>
   unfold zBB;rw[ih,h i];rfl
 unfold zGc;rw[hu,if_neg Bool.false_ne_true,hm,h,if_neg (by omega)]
theorem zOL (t:List TrN)(j:Nat):(zAa (zC t) j).cl=0:=zKW rfl t j
theorem zU0 {m:Nat}{z:Option ByteArray}{nm:ByteArray}(hm:m<24)(h:∀x,z=some x->L x<L nm):zDK m z nm=0:=by unfold zDK;grind
theorem zJB {b:List BrN}:∀(f:For) (pre post:List BrN) (d:Int) (i:Nat),b=pre++flt d f++post->i<pre.length->(zAa (zC (plT b)) i).dep+1=d->(zAa (zC (plT b)) i).kd=1 ->
  (∀j,i<j->j<pre.length->d<=(zAa (zC (plT b)) j).dep)->zA1 (zC (plT b)) pre.length->FOk d f->1<=d->(zBe (zC (plT b)) i pre.length).length+(zBU f).length<=24->zGS zCm (zBU f) ->
  (∀k,(zBe (zC (plT b)) i pre.length).getLast? = some k->∀q∈zBU f,L (zAa (zC (plT b)) k).nm<L q.1.nm)->zA1 (zC (plT b)) (pre.length+siz f)
 | .nil,pre,post,d,i,hb,hi,hd,hk,hbt,hok,hf,h1,hl,ha,hn=>hok
 | .node x k r,pre,post,d,i,hb,hi,hd,hk,hbt,hok,hf,h1,hl,ha,hn=>by
  obtain⟨⟨f1,f2,f3,f4,f5,f6,f7⟩,f8,f9⟩:=hf;have hb1:b=pre++ [x.at d]++(flt (d+1) k++flt d r++post):=by rw[hb,zBo];simp[List.append_assoc]
  have hb2:b=(pre++ [x.at d])++flt (d+1) k++(flt d r++post):=by rw[hb1];simp[List.append_assoc]
  have hb3:b=(pre++ [x.at d]++flt (d+1) k)++flt d r++post:=by rw[hb1];simp[List.append_assoc]
  have hl2:(pre++ [x.at d]).length=pre.length+1:=by simp
  have hl3:(pre++ [x.at d]++flt (d+1) k).length=pre.length+1+siz k:=by rw[List.length_append,hl2,zA9]
  have hbl:pre.length+1+siz k<=b.length:=by rw[hb3,List.length_append,List.length_append,hl3];omega
  have hx:zAa (zC (plT b)) pre.length=clM (fun _=>0) (x.at d).toTrN:=by
   rw[zOK _ _ (by omega)];have:=zE3 hb1 (j:=pre.length) (Nat.le_refl _) (by simp);rw[List.mem_singleton.1 this]
  have hzl:(zC (plT b)).length=b.length:=by rw[List.length_map,zAk]
  have hin:∀j,pre.length+1<=j->j<pre.length+1+siz k->d+1<=(zAa (zC (plT b)) j).dep:=fun j h1 h2=>by
   rw[zOK _ _ (by omega)];exact zEH _ _ _ (zE3 hb2 (by rw[hl2];exact h1) (by rw[hl2,zA9];exact h2))
  have hdx:(zAa (zC (plT b)) pre.length).dep=d:=by rw[hx];rfl
  have hsx:(zBU (.node x k r)).length=1+(zBU r).length:=by show (_ :: _).length=_;rw[List.length_cons];omega
  obtain⟨ha1,ha2⟩:=List.pairwise_cons.1 (show List.Pairwise _ ((x,k) :: zBU r)from ha);have hq:zBc (zC (plT b)) pre.length=0:=by
   have hs:zAD (zC (plT b)) pre.length=0:=by
    unfold zAD;rw[if_neg (by omega),hdx,if_neg,if_neg (by omega)];rintro(e|e)
    ·omega
    ·unfold zEk at e;by_cases e2:pre.length-1=i
     ·rw[e2,if_pos hk]at e;omega
     ·have:=hbt (pre.length-1) (by omega) (by omega);split at e<;>omega
   have he:zA0 (zC (plT b)) pre.length=0:=by
    obtain⟨s1,s2⟩:=zHt (t:=zC (plT b)) (n:=i) (j:=pre.length) hok (by omega) hi (fun k h2 h3=>by have:=hbt k h2 h3;omega);unfold zA0;rw[show (zAa (zC (plT b)) pre.length).nm=x.nm by rw[hx];rfl,if_neg (by rw[f2];decide),hdx,<- hd,s1,s2];refine zU0 (by omega) fun z hz=>?_
    cases hg:(zBe (zC (plT b)) i pre.length).getLast? with
    | none=>rw[hg]at hz;cases hz
    | some k'=>
     rw[hg]at hz;cases hz;exact hn k' hg (x,k) (List.mem_cons_self ..)
   rw[zBO hx hs (fun _=>he) f3 f4];exact zJP (zOL _) _
  have hok1:=zA1.step hok hq;have hsub:zA1 (zC (plT b)) (pre.length+1+siz k):=by
   by_cases hkd:x.kd=1
   ·have hk0:zBe (zC (plT b)) pre.length (pre.length+1)= []:=List.filter_eq_nil_iff.2 fun j hj=>by
     have hj:=List.mem_range.1 hj;have:=zCT (zC (plT b)) j;unfold zHb;rw[decide_eq_true_iff];omega
    have:=zJB k (pre++ [x.at d]) (flt d r++post) (d+1) pre.length hb2 (by omega) (by rw[hdx]) (by rw[hx];exact hkd) (fun j h2 h3=>by omega) (by rw[hl2];exact hok1) f8 (by omega)
     (by rw[hl2,hk0];simpa using f6) f7 (by rw[hl2,hk0];intro k' h;cases h)
    rw[hl2]at this;exact this
   ·rw[f5 hkd];exact hok1
  have hkids:zBe (zC (plT b)) i (pre.length+1+siz k)=zBe (zC (plT b)) i pre.length++ [pre.length]:=by
   unfold zBe;rw[Nat.add_assoc,List.range_eq_range',<- List.range'_append_1 (m:=pre.length),List.filter_append,<- List.range'_append_1 (m:=1) (n:=siz k),List.filter_append,<- List.range_eq_range',Nat.zero_add];rw[zFZ (siz k) (pre.length+1) fun j h2 h3=>by
    unfold zHb;rw[decide_eq_false_iff_not];intro e;have:=(zGI (fun m hm=>hsub m (by omega)) e).2.1;have:=hin j (by omega) (by omega);omega]
   rw[show List.range' pre.length 1= [pre.length]from rfl,List.filter_cons_of_pos,List.filter_nil,List.append_nil];unfold zHb;rw[decide_eq_true_iff];exact zMi hi (by omega) fun j h2 h3=>by have:=hbt j h2 h3;omega
  have:=zJB r (pre++ [x.at d]++flt (d+1) k) post d i hb3 (by omega) hd hk (fun j h2 h3=>by
    rw[hl3]at h3;by_cases e1:j<pre.length
    ·exact hbt j h2 e1
    ·by_cases e2:j=pre.length
     ·rw[e2,hdx];exact Int.le_refl _
     ·have:=hin j (by omega) (by omega);omega) (by rw[hl3];exact hsub) f9 h1 (by rw[hl3,hkids,List.length_append];simp only[List.length_singleton];omega) ha2 (fun k' hk' q hq'=>by
    rw[hl3,hkids,List.getLast?_append]at hk';have e:pre.length=k':=by simpa using hk'
    subst e;rw[hx];exact ha1 q hq')
  rw[hl3]at this;have e:pre.length+1+siz k+siz r=pre.length+siz (.node x k r):=by show _=pre.length+(1+siz k+siz r);omega
  rw[e]at this;exact this
theorem zJC {x:BrN}{g:For}(h:FOk 1 g)(hl:1+siz g<=120)(ha:zGS zCm (zBU g))(h24:(zBU g).length<=24)(h0:x.dep=0)(hn:x.nm.toList= [])(hk:x.kd=1)(hki:zAc (clM (fun _=>0) x.toTrN)=0)(hc:zBS x.ats=0):zAt (zC (plT (x :: flt 1 g)))=0:=by
 have hlen:(zC (plT (x :: flt 1 g))).length=1+siz g:=by rw[List.length_map,zAk,List.length_cons,zA9];omega
 have hg:zAa (zC (plT (x :: flt 1 g))) 0=clM (fun _=>0) x.toTrN:=zOK _ _ (by simp);have h1:zBc (zC (plT (x :: flt 1 g))) 0=0:=by
  rw[zBO hg (by unfold zAD;rw[if_pos rfl,hg,if_pos ⟨h0,hn,hk⟩]) (fun h=>absurd rfl h) hki hc];exact zJP (zOL _) _
 have hk0:zBe (zC (plT (x :: flt 1 g))) 0 1= []:=List.filter_eq_nil_iff.2 fun j hj=>by
  have hj:=List.mem_range.1 hj;have:=zCT (zC (plT (x :: flt 1 g))) j;unfold zHb;rw[decide_eq_true_iff];omega
 have hok:=zJB (b:=x :: flt 1 g) g [x] [] 1 0 (by simp) (by simp) (by rw[hg];show x.dep+1=1;rw[h0];rfl) (by rw[hg];exact hk) (fun j h2 h3=>by simp at h3;omega) (fun j hj=>by simp at hj;subst hj;exact h1) h (by decide)
  (by show (zBe _ 0 1).length+_<=24;rw[hk0];simpa using h24) ha (fun k hk'=>by rw[show ([x]:List BrN).length=1 from rfl,hk0]at hk';cases hk')
 refine(zBh (zES (by omega) (by omega) (by rw[hlen];exact hok) fun j _=>?_)).2;unfold zDM;rw[zOL];rfl
def plV:Value->Bool
 | .string _=>true
 | .int _ _=>true
 | _=>false
theorem zAh.keepY {α:Type}{C:Cd α}{B b:Nat}{w W:World}{v:Value}{l:List α}(h:zAh C B w v l)(hf:∀{B w x cs},C.R B w x cs->∃u,cs[0]? = some u/\plV u=true)(hk:zAy (some b) w W)(hs:w.heap.size<=W.heap.size)
  (hb:∀o u,w.cell? ⟨b,o,none⟩=some u->plV u=false) (hR:∀x cs,C.R B w x cs->C.R B W x cs):zAh C B W v l:=by
 obtain⟨a,cap,rfl,hcap,hn,hc⟩:=h;have hne:∀k (h:k<l.length) b' off,a=some ⟨b',off,none⟩->b'≠b:=by
  rintro k hk' b' off rfl rfl;obtain⟨b2,off2,cs,he,_,hr,hrow⟩:=hc k hk';cases he;obtain⟨s,h0,h1⟩:=hf hr;rw[hb _ s (hrow 0 _ h0)]at h1;cases h1
 refine⟨a,cap,rfl,hcap,fun h0 b' hb'=>?_,fun i hi=>?_⟩
 ·obtain⟨b2,off2,cs2,rfl,_⟩:=hc 0 h0;cases hb';refine(hn h0 b2 rfl).imp_right fun ⟨cs,f,h1⟩=>⟨cs,f,hk _ _ h1 (fun e=>hne 0 h0 b2 off2 rfl (by injection e with e;exact e.symm))⟩
 ·obtain⟨b2,off2,cs,rfl,hb2,hr,hrow⟩:=hc i hi;refine⟨b2,off2,cs,rfl,Nat.lt_of_lt_of_le hb2 hs,hR _ _ hr,fun j u hj=>?_⟩;rw[zF8 hk hb2 (fun e=>hne i hi b2 off2 rfl (by injection e with e;exact e.symm))];exact hrow j u hj
section
variable {B b:Nat} {w W:World} (hk:zAy (some b) w W) (hs:w.heap.size<=W.heap.size) (hb:∀o u,w.cell? ⟨b,o,none⟩=some u->plV u=false)
include hb in
theorem zGn:∀o s,w.cell? ⟨b,o,none⟩≠some (.string s):=fun o s e=>by have:=hb o _ e;cases this
include hk hs hb
theorem zKZ (x:BrN)(cs:List Value)(h:cdB.R B w x cs):cdB.R B W x cs:=by
 obtain⟨va,vr,h1,h2,h3⟩:=h;exact⟨va,vr,h1.keepX zVP hk hs (zGn hb) fun _ _ h=>h,h2.keepX zXT hk hs (zGn hb) fun _ _ h=>h,h3⟩
theorem zEi.keepY {v:Value}{l:List BrN}(h:zEi B w v l):zEi B W v l:=
 zAh.keepY h (fun h=>by obtain⟨_,_,_,_,rfl⟩:=h;exact⟨_,rfl,rfl⟩) hk hs hb (zKZ hk hs hb)
theorem zAg.keepB {v:Value}{l:List BrN}(h:zAg cdB B w v l)(hne:v.ownBlock≠some b):zAg cdB B W v l:=by
 obtain⟨css,hl,hR,ho⟩:=h;refine⟨css,hl,fun i hi hi'=>zKZ hk hs hb _ _ (hR i hi hi'),ho.1,?_⟩;rcases ho.2 with h1|⟨g,cap,cur,rfl,hb',hg,h3⟩
 ·exact .inl h1
 ·exact .inr ⟨g,cap,cur,rfl,hb',hk _ _ hg (fun x=>hne (by rw[x];rfl)),h3⟩
end
theorem zIT {B:Nat}{X Y:World}(h:Below B X Y)(p:Addr)(v:Value):Below B (X.setCell p v) (Y.setCell p v):=by
 refine⟨h.os,h.tape,h.output,by simpa [World.setCell] using h.size,fun k hk=>?_⟩;have:=h.block k hk;unfold World.setCell;grind
theorem set_set (X:World)(p:Addr)(u v:Value):(X.setCell p u).setCell p v=X.setCell p v:=by
 unfold World.setCell;simp only[World.mk.injEq,and_true];apply Array.ext_getElem?;intro i;simp only[Array.getElem?_modify];by_cases e:p.block=i
 ·rw[if_pos e,if_pos e,if_pos e]
  cases X.heap[i]? with
  | none=>rfl
  | some o=>
   cases o<;>simp
   by_cases hs:p.spot.isSome=true<;>simp[hs]
 ·rw[if_neg e,if_neg e,if_neg e]
structure BdW (Wc:World) (pb mb:Nat) (old fv v0:Value) (b:List BrN) (D:Nat->DiN):Prop where
 box:Wc.heap[pb]? = some (.cells #[old,.map (some mb),fv,v0] 98 (0,0))
 map:∃n f,zAA kI Wc mb n f/\∀i:Nat,i<b.length->(zAm b i).kd=1->∃v,f i=some v/\zBA Wc.heap.size Wc v (D i)
 tree:zEi Wc.heap.size Wc old b
 fn:plV fv=false
 low:plV v0=false
def Bd (Wc:World)(pb:Nat)(vo:Value)(W:World):Prop:=Below Wc.heap.size (Wc.setCell ⟨pb,3,none⟩ vo) W
section
variable {Wc W:World} {pb mb:Nat} {old fv v0 vo vo':Value} {b:List BrN} {D:Nat->DiN}
theorem zK8 (hW:Bd Wc pb vo W):Ext (Wc.setCell ⟨pb,3,none⟩ vo) W:=by
 have h:=hW;unfold Bd at h;have:(Wc.setCell ⟨pb,3,none⟩ vo).heap.size=Wc.heap.size:=by simp[World.setCell]
 rw[<- this]at h;exact h
theorem zFx (hW:Bd Wc pb vo W){V:World}(h:Ext W V):Bd Wc pb vo V:=Below.trans hW (h.mono (by have:=hW.size;simp[World.setCell]at this;exact this))
theorem zFy (hW:Bd Wc pb vo W):Wc.heap.size<=W.heap.size:=by have:=hW.size;simp[World.setCell]at this;exact this
theorem zWH (h:BdW Wc pb mb old fv v0 b D):pb<Wc.heap.size:=bL h.box
theorem zNC (h:BdW Wc pb mb old fv v0 b D):∃a cap,old= .slice a b.length cap:=h.tree.form
theorem zNB (h:BdW Wc pb mb old fv v0 b D):∀o u,Wc.cell? ⟨pb,o,none⟩=some u->plV u=false:=by
 intro o u e;rw[bC h.box]at e;obtain⟨a,cap,ho⟩:=zNC h
 match o,e with
 | 0,e=>cases e;rw[ho];rfl
 | 1,e=>cases e;rfl
 | 2,e=>cases e;exact h.fn
 | 3,e=>cases e;exact h.low
 | k+4,e=>simp at e
theorem zL5 (Wc:World)(pb:Nat)(vo:Value):zAy (some pb) Wc (Wc.setCell ⟨pb,3,none⟩ vo):=fun q o hq hne=>bSn hq _ _ (fun e=>hne (by rw[e]))
theorem zDr (h:BdW Wc pb mb old fv v0 b D)(hW:Bd Wc pb vo W):W.heap[pb]? = some (.cells #[old,.map (some mb),fv,vo] 98 (0,0)):=
 bX (zK8 hW) (bS h.box _)
theorem zQ6 (h:BdW Wc pb mb old fv v0 b D)(hW:Bd Wc pb vo W):zEi Wc.heap.size W old b:=
 zAh.ext (zEi.keepY (zL5 Wc pb vo) (by simp[World.setCell]) (zNB h) h.tree) okB (zK8 hW)
theorem zT9 {l:List BrN}{W1 W2:World}(h:BdW Wc pb mb old fv v0 b D)(hv:plV vo=false)(ho:zAg cdB Wc.heap.size W1 vo l)(hW:Bd Wc pb vo W1){l2:List BrN}(ha:zIr cdB Wc.heap.size vo vo' l2 (Wc.setCell ⟨pb,3,none⟩ vo) W1 W2):
  Bd Wc pb vo' (W2.setCell ⟨pb,3,none⟩ vo')/\zAg cdB Wc.heap.size (W2.setCell ⟨pb,3,none⟩ vo') vo' l2/\W2.heap[pb]? = some (.cells #[old,.map (some mb),fv,vo] 98 (0,0)):=by
 have hne:∀v:Value,∀l W,zAg cdB Wc.heap.size W v l->v.ownBlock≠some pb:=fun v l W hv e=>by
  have:=(hv.row e _ rfl).1;have:=zWH h;omega
 have hbx:=ha.chg.keep _ _ (zDr h hW) (hne _ _ _ ho);refine⟨?_,ha.own.keepB (zL5 W2 pb vo') (by simp[World.setCell]) ?_ (hne _ _ _ ha.own),hbx⟩
 ·have:=zIT ha.below ⟨pb,3,none⟩ vo';rw[set_set]at this;exact this
 ·intro o u e;rw[bC hbx]at e;obtain⟨a,cap,hold⟩:=zNC h
  match o,e with
  | 0,e=>cases e;rw[hold];rfl
  | 1,e=>cases e;rfl
  | 2,e=>cases e;exact h.fn
  | 3,e=>cases e;exact hv
  | k+4,e=>simp at e
end
end Go.Proofs.YtbeeoomadnmogaaGreat
