/- AfG AfJ AfL AfM AwA AwK AwB AwI AxE AxG AxI AwW -/
import Derived.Test.YtbeeoomadnmogaaGreatQI5
import Derived.Test.YtbeeoomadnmogaaGreatQWlkR
set_option maxRecDepth 100000
set_option maxHeartbeats 64000000
namespace Go.Proofs.YtbeeoomadnmogaaGreat
open Go.RowKit
def zOv (x:DeN):BrN:={x.nd with dep:=0,nm:=x.nm,opq:=false,red:=[]}
def zOA (x:DeN) (d:DiN):BrN:={zOv x with ats:=d.ats,opq:=d.opq}
def zTn (old:List BrN) (i:Nat) (s:ByteArray):Nat:=((zAE old i).find? fun k=>decide ((zAk old k).nm=s)).getD 0
def zH9 (old:List BrN) (D:Nat->DiN) (back:ByteArray->ByteArray):Nat->Nat->Int->List BrN
 | 0,_,_=>[]
 | n+1,i,d=>(D i).ens.flatMap fun x=>if x.nd.kd=1 then (zOA x (D (zTn old i (back x.nm)))).at d :: zH9 old D back n (zTn old i (back x.nm)) (d+1) else [(zOv x).at d]
def zOo (old:List BrN) (D:Nat->DiN) (back:ByteArray->ByteArray):List BrN:={kdN 1 with ats:=(D 0).ats,opq:=(D 0).opq,red:=[]} :: zH9 old D back old.length 0 1
theorem zPO {b:List BrN} {i k:Nat} (hd:zDA (zAo b i)=0) (hk:k ∈ zAE b i):zTn b i (zAk b k).nm=k:=by
 have h1:zDl (fun k=>(zAk b k).nm) (zAE b i):=by
  have:=zCJ hd
  unfold zH5 zDl zAo at this
  rw [List.pairwise_map] at this
  exact this
 unfold zTn
 cases hf:(zAE b i).find? fun j=>decide ((zAk b j).nm=(zAk b k).nm) with
 | none=>exact absurd (decide_eq_true rfl) (by have:=List.find?_eq_none.1 hf k hk;exact this)
 | some j=>
  have e:(zAk b j).nm=(zAk b k).nm:=by have:=List.find?_some hf;exact of_decide_eq_true this
  exact zDh h1 (List.mem_of_find?_eq_some hf) hk (congrArg L e)
theorem zIL {P:List (DeN × (BrN × For))} {d:Int} {step:DeN->List BrN} (hk:∀ p ∈ P,p.1.nm=p.2.1.nm) (hs:∀ p ∈ P,step p.1=p.2.1.at d :: flt (d+1) p.2.2) :
  (zFl (P.map (·.1))).flatMap step=flt d (ofS (zEg zCj (P.map (·.2)))):=by
 have e1:zFl (P.map (·.1))=(zEg (fun p=>p.1.nm) P).map (·.1):=(zGY P fun _ _=>rfl).symm
 have e2:zEg zCj (P.map (·.2))=(zEg (fun p=>p.1.nm) P).map (·.2):=(zGY (key:=fun p:DeN × (BrN × For)=>p.1.nm) (key':=zCj) (f:=fun p=>p.2) P fun p hp=>(hk p hp).symm).symm
 rw [e1,e2,zDg,List.flatMap_map,List.flatMap_map]
 have hm:∀ p ∈ zEg (fun p=>p.1.nm) P,p ∈ P:=fun p hp=>(zAl P).mem_iff.1 hp
 generalize zEg (fun p=>p.1.nm) P=S at hm
 induction S with
 | nil=>rfl
 | cons p r ih=>rw [List.flatMap_cons,List.flatMap_cons,ih fun q hq=>hm q (List.mem_cons_of_mem _ hq),hs p (hm p (List.mem_cons_self ..))]
theorem zC0 {b:List BrN} (hok:zAW (plT b) (plT b).length) {i:Nat} {d:Int} {x:BrN} {k:For} (h:Sub b i d x k):(zAo b i).ens=(kq (i+1) k).map fun q=>zBl b i q.1:=by
 show (zAE b i).map (zBl b i)=_
 rw [zJs hok h,<- zMT,List.map_map];rfl
section
variable {b:List BrN} (hok:zAW (plT b) (plT b).length)
include hok
theorem zUR (hD:∀ i,i < b.length->(zAk b i).kd=1->acE (zAo b i)=0):∀ (n i:Nat) (d:Int) (x:BrN) (k:For),siz k<=n->Sub b i d x k->x.kd=1->zCT zGJ k ->
  zH9 b (fun i=>acD (zAo b i)) (bkS 3) (n+1) i (d+1)=flt (d+1) (zDm x k):=by
 intro n
 induction n using Nat.strongRecOn with
 | _ n ih=>
 intro i d x k hn hs hx hc
 obtain⟨hil,hgi⟩:=zAM hs
 have hki:(zAk b i).kd=1:=by rw [hgi];exact hx
 obtain⟨z1,z2,z3,z4,z5⟩:=zCp (hD i hil hki)
 let P:List (DeN × (BrN × For)):=((kq (i+1) k).map fun q=>(aeX (zBl b i q.1),(aeB q.2.1,zDm q.2.1 q.2.2))) ++ (if x.opq=true then [(mkN zDy,(zFP zDy,.nil))] else [])
 have ho:(zAo b i).opq=x.opq:=(congrArg BrN.opq hgi).trans rfl
 have e1:acL (zAo b i)=P.map (·.1):=by
  unfold acL
  rw [zC0 hok hs,ho,List.map_map,List.map_append,List.map_map]
  refine congrArg _ ?_
  split <;> rfl
 have e2:zB4 k ++ mkF x=P.map (·.2):=by
  rw [List.map_append,List.map_map,zFS,<- zFa k (i+1),List.map_map]
  refine congr (congrArg _ rfl) ?_
  unfold mkF
  split <;> rfl
 have hP:∀ p ∈ P,(∃ q ∈ kq (i+1) k,p=(aeX (zBl b i q.1),(aeB q.2.1,zDm q.2.1 q.2.2)))\/p=(mkN zDy,(zFP zDy,.nil)):=fun p hp=>by
  rcases List.mem_append.1 hp with hp | hp
  ·obtain⟨q,hq,rfl⟩:=List.mem_map.1 hp
   exact .inl ⟨q,hq,rfl⟩
  ·split at hp
   ·exact .inr (List.mem_singleton.1 hp)
   ·cases hp
 have hq:∀ q ∈ kq (i+1) k,zAk b q.1=q.2.1.at (d+1)/\zGJ q.2.1 q.2.2/\zCT zGJ q.2.2/\aeE (zBl b i q.1)=0:=fun q hq=>by
  obtain⟨s1,_⟩:=zEv hs q hq
  have hm:q.2 ∈ zBU k:=by rw [<- zFa k (i+1)];exact List.mem_map.2 ⟨q,hq,rfl⟩
  obtain⟨c1,c2⟩:=zE2 hc q.2 hm
  refine⟨(zAM s1).2,c1,c2,z3 _ ?_⟩
  rw [zC0 hok hs]
  exact List.mem_map.2 ⟨q,hq,rfl⟩
 unfold zH9
 show (acD (zAo b i)).ens.flatMap _=_
 rw [(zDT z5).1]
 show (zFl (acL (zAo b i))).flatMap _=_
 unfold zDm
 rw [e1,e2]
 refine zIL (fun p hp=>?_) fun p hp=>?_
 ·rcases hP p hp with ⟨q,hm,rfl⟩ | rfl
  ·obtain⟨g,c,_,_⟩:=hq q hm
   have hnm:(zBl b i q.1).nm=q.2.1.nm:=(congrArg (fun y:BrN=>y.nm) g).trans rfl
   have hwh:(zBl b i q.1).wh=(q.2.1.kd == 5):=(congrArg (fun y:BrN=>y.kd == 5) g).trans rfl
   show (aeX (zBl b i q.1)).nm=(aeB q.2.1).nm
   unfold aeB
   by_cases e:q.2.1.kd=5
   ·rw [if_pos e,zBv (by rw [hwh,e];rfl),hnm];rfl
   ·rw [if_neg e,zBp (by rw [hwh];exact nB e),hnm]
  ·rfl
 ·rcases hP p hp with ⟨⟨j,y,ky⟩,hm,rfl⟩ | rfl
  ·obtain⟨s1,s2⟩:=zEv hs _ hm
   obtain⟨g,c,c2,ha⟩:=hq _ hm
   simp only at s1 s2 g c c2 ha ⊢
   have hj:j ∈ zAE b i:=by rw [zJs hok hs,<- zMT];exact List.mem_map.2 ⟨_,hm,rfl⟩
   have hnm:(zBl b i j).nm=y.nm:=(congrArg (fun y:BrN=>y.nm) g).trans rfl
   have hwh:(zBl b i j).wh=(y.kd == 5):=(congrArg (fun y:BrN=>y.kd == 5) g).trans rfl
   have hnd:(zBl b i j).nd=zEs (y.at (d+1)).toTrN:=(congrArg (fun y:BrN=>zEs y.toTrN) g).trans rfl
   obtain⟨w1,w2,w3,w4,w5,w6,w7,w8⟩:=c
   by_cases e1:y.kd=1
   ·have hp:(zBl b i j).wh=false:=by rw [hwh,e1];rfl
    have hn1:(zBl b i j).nd=zCK:=by rw [hnd];exact if_pos e1
    rw [zBp hp,if_pos (show ({zBl b i j with nm:=nmS 3 (zBl b i j).nm}:DeN).nd.kd=1 by show (zBl b i j).nd.kd=1;rw [hn1];rfl)]
    have hb:bkS 3 ({zBl b i j with nm:=nmS 3 (zBl b i j).nm}:DeN).nm=(zAk b j).nm:=by
     rw [g];show bkS 3 (nmS 3 (zBl b i j).nm)=y.nm
     rw [hnm];exact(zKW (w4 (by omega))).1
    rw [hb,zPO z1 hj]
    cases n with
    | zero=>omega
    | succ m=>
     rw [ih m (by omega) j (d+1) y ky (by omega) s1 e1 c2]
     refine congrArg (· :: _) ?_
     obtain⟨_,_,_,_,q5⟩:=zCp (hD j (zAM s1).1 (by rw [g];exact e1))
     rw [(zDT q5).1]
     obtain⟨v1,v2,v3,v4⟩:=w7 e1
     unfold aeB
     rw [if_neg (by omega)]
     have ga:(zAo b j).ats=y.ats:=(congrArg (fun y:BrN=>y.ats) g).trans rfl
     obtain⟨⟨dep,nm,kd,ats,dat,ma,mi,cl⟩,opq,red⟩:=y
     simp only at e1 v1 v2 v3 v4 ga hnm
     subst e1 v1 v2 v3 v4
     unfold zOA zOv BrN.at
     simp only [hn1,hnm,ga]
     rfl
   ·have hk:=(w5 e1).1
    subst hk
    have hfl:flt (d+1+1) (zDm y .nil)= []:=by
     unfold zDm mkF
     rw [(w5 e1).2];rfl
    rw [hfl]
    by_cases e5:y.kd=5
    ·rw [zBv (by rw [hwh,e5];rfl),if_neg (show ¬ (mkN (wtS 3 (zBl b i j).nm)).nd.kd=1 from show ¬ (2:Int)=1 by decide),hnm]
     unfold aeB
     rw [if_pos e5];rfl
    ·have hp:(zBl b i j).wh=false:=by rw [hwh];exact nB e5
     have hn1:(zBl b i j).nd= {(y.at (d+1)).toTrN with dep:=0,nm:=⟨#[]⟩}:=by rw [hnd];exact if_neg e1
     rw [zBp hp,if_neg (show ¬ ({zBl b i j with nm:=nmS 3 (zBl b i j).nm}:DeN).nd.kd=1 by show ¬ (zBl b i j).nd.kd=1;rw [hn1];exact e1)]
     unfold aeB
     rw [if_neg e5]
     unfold zOv BrN.at
     simp only [hn1,hnm]
     rfl
  ·rfl
end
def zVg (x:BrN) (k:For):Prop:=x.dep=0/\x.red= []/\(x.kd ≠ 1->k= .nil/\x.opq=false)/\(x.kd=1->x.dat=⟨#[]⟩/\x.ma=0/\x.mi=0/\x.cl=0)
theorem zJd {b:List BrN} (hok:zAW (plT b) (plT b).length) {i:Nat} {d:Int} {x:BrN} {k:For} (h:Sub b i d x k):adO (zAo b i).ens=zVy k:=by
 unfold adO zVy
 rw [zC0 hok h,<- zFa k (i+1),List.any_map,List.any_map]
 rw [Bool.eq_iff_iff,List.any_eq_true,List.any_eq_true]
 have hg:∀ q ∈ kq (i+1) k,(zBl b i q.1).nm=q.2.1.nm:=fun q hq=>(congrArg (fun y:BrN=>y.nm) (zAM (zEv h q hq).1).2).trans rfl
 constructor
 ·rintro⟨q,hq,e⟩
  refine⟨q,hq,?_⟩
  show decide (q.2.1.nm=zDy)=true
  rw [<- hg q hq];exact e
 ·rintro⟨q,hq,e⟩
  refine⟨q,hq,?_⟩
  show decide ((zBl b i q.1).nm=zDy)=true
  rw [hg q hq];exact e
section
variable {b:List BrN} (hok:zAW (plT b) (plT b).length)
include hok
theorem zQW (hD:∀ i,i < b.length->(zAk b i).kd=1->arE (zAo b i)=0):∀ (n i:Nat) (d:Int) (x:BrN) (k:For),siz k<=n->Sub b i d x k->x.kd=1->zCT zVg k ->
  zH9 b (fun i=>arD (zAo b i)) (nmS 3) (n+1) i (d+1)=flt (d+1) (zNe k):=by
 intro n
 induction n using Nat.strongRecOn with
 | _ n ih=>
 intro i d x k hn hs hx hc
 obtain⟨hil,hgi⟩:=zAM hs
 have hki:(zAk b i).kd=1:=by rw [hgi];exact hx
 obtain⟨z1,z2,z3,z4,z5⟩:=zDk (hD i hil hki)
 let P:List (DeN × (BrN × For)):=((kq (i+1) k).filter fun q=>bkW 3 q.2.1.nm != 3).map fun q=>(adX (zBl b i q.1),(adB q.2.1 q.2.2,zNe q.2.2))
 have hnmq:∀ q ∈ kq (i+1) k,(zBl b i q.1).nm=q.2.1.nm:=fun q hq=>(congrArg (fun y:BrN=>y.nm) (zAM (zEv hs q hq).1).2).trans rfl
 have e1:adL (zAo b i).ens=P.map (·.1):=by
  unfold adL
  rw [zC0 hok hs,List.filter_map,List.map_map,List.map_map]
  refine congrArg _ (List.filter_congr fun q hq=>?_)
  show (bkW 3 (zBl b i q.1).nm != 3)=_
  rw [hnmq q hq]
 have e2:zNd k=P.map (·.2):=by
  rw [List.map_map,zSH,<- zFa k (i+1),List.filter_map,List.map_map];rfl
 have hP:∀ p ∈ P,∃ q ∈ kq (i+1) k,bkW 3 q.2.1.nm ≠ 3/\p=(adX (zBl b i q.1),(adB q.2.1 q.2.2,zNe q.2.2)):=fun p hp=>by
  obtain⟨q,hq,rfl⟩:=List.mem_map.1 hp
  obtain⟨h1,h2⟩:=List.mem_filter.1 hq
  exact⟨q,h1,bne_iff_ne.1 h2,rfl⟩
 have hq:∀ q ∈ kq (i+1) k,zAk b q.1=q.2.1.at (d+1)/\zVg q.2.1 q.2.2/\zCT zVg q.2.2:=fun q hq=>by
  obtain⟨s1,_⟩:=zEv hs q hq
  have hm:q.2 ∈ zBU k:=by rw [<- zFa k (i+1)];exact List.mem_map.2 ⟨q,hq,rfl⟩
  obtain⟨c1,c2⟩:=zE2 hc q.2 hm
  exact⟨(zAM s1).2,c1,c2⟩
 unfold zH9
 show (arD (zAo b i)).ens.flatMap _=_
 rw [(zDS z5).1]
 show (zFl (adL (zAo b i).ens)).flatMap _=_
 unfold zNe
 rw [e1,e2]
 refine zIL (fun p hp=>?_) fun p hp=>?_
 ·obtain⟨q,hm,_,rfl⟩:=hP p hp
  have hnm:=hnmq q hm
  show (adX (zBl b i q.1)).nm=(adB q.2.1 q.2.2).nm
  unfold adB adX
  rw [hnm]
  split <;> rfl
 ·obtain⟨⟨j,y,ky⟩,hm,h3,rfl⟩:=hP p hp
  obtain⟨s1,s2⟩:=zEv hs _ hm
  obtain⟨g,c,c2⟩:=hq _ hm
  simp only at s1 s2 g c c2 h3 ⊢
  have hj:j ∈ zAE b i:=by rw [zJs hok hs,<- zMT];exact List.mem_map.2 ⟨_,hm,rfl⟩
  have hnm:(zBl b i j).nm=y.nm:=(congrArg (fun y:BrN=>y.nm) g).trans rfl
  have hnd:(zBl b i j).nd=zEs (y.at (d+1)).toTrN:=(congrArg (fun y:BrN=>zEs y.toTrN) g).trans rfl
  obtain⟨w1,w2,w5,w7⟩:=c
  have hmem:zBl b i j ∈ (zAo b i).ens:=by rw [zC0 hok hs];exact List.mem_map.2 ⟨_,hm,rfl⟩
  obtain⟨ix,hix,hge⟩:=List.getElem_of_mem hmem
  have hpt:=zEd (z4 ix hix)
  rw [zAy _ _ hix,hge,hnm] at hpt
  obtain⟨t0,t4,t1,t5,_,_⟩:=hpt
  have hkd:(zBl b i j).nd.kd=y.kd:=by
   rw [hnd];unfold zEs
   by_cases e:(y.at (d+1)).toTrN.kd=1
   ·rw [if_pos e];exact e.symm
   ·rw [if_neg e];rfl
  rcases zE6 3 y.nm with ⟨a1,_,_⟩ | ⟨_,a2,a3,a4⟩ | ⟨_,a2,_,a3,a4⟩ | ⟨_,a2,_⟩ | ⟨_,a2,_⟩
  ·rw [t0] at a1;cases a1
  ·have n2:¬ bkW 3 y.nm=2:=by rw [a2];decide
   have ex:adX (zBl b i j)= {zBl b i j with nm:=bkS 3 y.nm}:=by unfold adX;rw [hnm,if_neg n2]
   rw [ex]
   by_cases e1:y.kd=1
   ·have hn1:(zBl b i j).nd=zCK:=by rw [hnd];exact if_pos e1
    rw [if_pos (show ({zBl b i j with nm:=bkS 3 y.nm}:DeN).nd.kd=1 by show (zBl b i j).nd.kd=1;rw [hn1];rfl)]
    have hb:nmS 3 ({zBl b i j with nm:=bkS 3 y.nm}:DeN).nm=(zAk b j).nm:=by rw [g];exact a4
    rw [hb,zPO z1 hj]
    cases n with
    | zero=>omega
    | succ m=>
     rw [ih m (by omega) j (d+1) y ky (by omega) s1 e1 c2]
     refine congrArg (· :: _) ?_
     obtain⟨_,_,_,_,q5⟩:=zDk (hD j (zAM s1).1 (by rw [g];exact e1))
     rw [(zDS q5).1,zJd hok s1]
     obtain⟨v1,v2,v3,v4⟩:=w7 e1
     unfold adB
     rw [if_neg n2]
     have ga:(zAo b j).ats=y.ats:=(congrArg (fun y:BrN=>y.ats) g).trans rfl
     obtain⟨⟨dep,nm,kd,ats,dat,ma,mi,cl⟩,opq,red⟩:=y
     simp only at e1 v1 v2 v3 v4 ga w2
     subst e1 v1 v2 v3 v4 w2
     unfold zOA zOv BrN.at
     simp only [hn1,ga]
     rfl
   ·obtain⟨hk,ho⟩:=w5 e1
    subst hk
    have hn1:(zBl b i j).nd= {(y.at (d+1)).toTrN with dep:=0,nm:=⟨#[]⟩}:=by rw [hnd];exact if_neg e1
    rw [if_neg (show ¬ ({zBl b i j with nm:=bkS 3 y.nm}:DeN).nd.kd=1 by show ¬ (zBl b i j).nd.kd=1;rw [hn1];exact e1)]
    unfold adB
    rw [if_neg n2]
    obtain⟨⟨dep,nm,kd,ats,dat,ma,mi,cl⟩,opq,red⟩:=y
    simp only at w2 ho
    subst w2
    unfold zOv BrN.at
    simp only [hn1]
    rfl
  ·have ex:adX (zBl b i j)=⟨bkS 3 y.nm,kdN 5,true,true,1⟩:=by unfold adX;rw [hnm,if_pos a2]
   have hk2:y.kd=2:=by
    have he:=t1 (by rw [a2];decide)
    unfold zG5 at he
    simp only [Bool.and_eq_true,beq_iff_eq] at he
    rw [<- hkd];exact he.2.1
   obtain⟨hk,_⟩:=w5 (by omega)
   subst hk
   rw [ex,if_neg (show ¬ (⟨bkS 3 y.nm,kdN 5,true,true,1⟩:DeN).nd.kd=1 from show ¬ (5:Int)=1 by decide)]
   unfold adB
   rw [if_pos a2];rfl
  ·exact absurd a2 h3
  ·exact absurd a2 t4
end
def zB0 (b:List BrN):Int:=zAJ (plT b) b.length
def zQy (c:Nat):ByteArray:=ofL [UInt8.ofNat (48+c / 10),UInt8.ofNat (48+c % 10)]
def zOw:TrN:={kdN 1 with dep:=1,nm:=zBn}
def zW8 (t:List TrN) (c:Nat):TrN:={zAa t (zCs t c) with dep:=2,nm:=zQy c}
def zJp (t:List TrN) (n:Nat):List TrN:=(List.range n).map fun j=>zW8 t (j+1)
def zK3 (b:List BrN):List TrN:=zOw :: zJp (plT b) (zB0 b).toNat
def zEo (y:TrN):Bool:=!(decide (y.dep=1) && decide (L zBn < L y.nm))
def zLF (l p:List TrN):List TrN:=l.takeWhile zEo ++ p ++ l.dropWhile zEo
def rwB (b:List BrN):List BrN:=zOo b (fun i=>acD (zAo b i)) (bkS 3)
def zA8 (b:List BrN):List TrN:=if 0 < zB0 b then zLF (plT (rwB b)) (zK3 b) else plT (rwB b)
def awE (b:List BrN) (i:Nat):Int:=if (zAk b i).kd ≠ 1 then 0 else if acE (zAo b i) ≠ 0 then acE (zAo b i) else if (zAk b i).opq=true/\(zAk b i).dep=8 then 3 else 0
def atN (b:List BrN) (i:Nat) (n:Int):Int:=if n < 0 then i else ((zAE b i).getD n.toNat 0:Nat)
def awN (b:List BrN) (i:Nat):Int:=if acE (zAo b i) ≠ 0 then atN b i (acN (zAo b i)) else i
def awT (b:List BrN):List TrN × Int × Int:=
 if zB1 b ≠ 0 then ([],zLW b,zB1 b)
 else match zBs (fun i=>awE b i != 0) 0 b.length with
  | some i=>([],awN b i,awE b i)
  | none=>
   if (0 < zB0 b/\(acD (zAo b 0)).ens.length=24)\/24 < zB0 b then ([],0,5)
   else if 120 < (zA8 b).length then ([],0,3) else ((zBh (zA8 b)).1,0,(zBh (zA8 b)).2)
def awL (b:List BrN):List TrN:=(awT b).1
def awF (b:List BrN):Int:=(awT b).2.2
def zEr (y:TrN):Bool:=!(decide (y.dep=1) && decide (y.nm=zBn))
def zDz (t:List TrN):Nat:=match t.dropWhile zEr with
 | y :: _=>if y.kd=1 then (t.takeWhile zEr).length else 0
 | []=>0
def zH8 (t:List TrN):List TrN:=t.takeWhile zEr ++ ((t.dropWhile zEr).drop 1).dropWhile fun y=>decide (1 < y.dep)
def zEl (t:List TrN):List TrN:=if zDz t=0 then t else (zBh (zH8 t)).1
def zD3 (t:List TrN):List BrN:=t.map fun y=>{y with opq:=false,red:=[]}
def zC6 (t:List TrN):List BrN:=zD3 (zEl t)
def zH1 (b:List BrN) (i:Nat):Int:=if (zAk b i).kd ≠ 1 then 0 else arE (zAo b i)
def zTj (t:List TrN) (i:Int):Int:=if 0 < zDz t/\(zDz t:Int)<=i then i+(t.length - (zH8 t).length) else i
def zMF (b:List BrN):List BrN:=if (zBh (plT b)).2=0 then b.map fun x=>{x with toTrN:=clM (zBH (plT b)) x.toTrN} else b
def zEm (t:List TrN):List BrN:=zMF (zOo (zC6 t) (fun i=>arD (zAo (zC6 t) i)) (nmS 3))
noncomputable def zGw (t:List TrN):List BrN × Int × Int:=
 if zAs t ≠ 0 then ([],zFp t,zAs t)
 else match zBs (fun i=>zH1 (zC6 t) i != 0) 0 (zC6 t).length with
  | some i=>([],zTj t (atN (zC6 t) i (arN (zAo (zC6 t) i))),zH1 (zC6 t) i)
  | none=>if awF (zEm t) ≠ 0\/zBW (awL (zEm t)) t=false then ([],zDz t,18) else (zEm t,0,0)
/-! Every node of a forest. -/
theorem zLO {b:List BrN} {P:Int->BrN->For->Prop} (h:∀ i d y ky,1<=d->Sub b i d y ky->P d y ky):∀ (f:For) (pre post:List BrN) (d:Int),1<=d->b=pre ++ flt d f ++ post->(∀ y,post.head? = some y->y.dep<=d)->zB6 P d f
 | .nil,_,_,_,_,_,_=>trivial
 | .node x k r,pre,post,d,h1,hb,hp=>by
  refine⟨?_,?_,?_⟩
  ·refine h pre.length d x k h1 ⟨pre,flt d r ++ post,by rw [hb,zBe];simp [List.append_assoc],rfl,fun y hy=>?_⟩
   cases r with
   | nil=>exact hp y hy
   | node z k2 r2=>rw [zBe] at hy;cases hy;exact Int.le_refl _
  ·refine zLO h k (pre ++ [x.at d]) (flt d r ++ post) (d+1) (by omega) (by rw [hb,zBe];simp [List.append_assoc]) fun y hy=>?_
   cases r with
   | nil=>have:=hp y hy;omega
   | node z k2 r2=>rw [zBe] at hy;cases hy;show d<=d+1;omega
  ·exact zLO h r (pre ++ [x.at d] ++ flt (d+1) k) post d h1 (by rw [hb,zBe];simp [List.append_assoc]) hp
theorem zHM {x:BrN} {f:For} {P:Int->BrN->For->Prop} (h:∀ i d y ky,1<=d->Sub (x :: flt 1 f) i d y ky->P d y ky):zB6 P 1 f:=
 zLO h f [x] [] 1 (Int.le_refl _) (by simp) fun y hy=>by cases hy
theorem zNI {t:List TrN} {d:Int} (h:(zAa t 0).dep < d):∀ m,0 < m->0<=zDB t d m
 | m+1,_=>by
  unfold zDB
  by_cases e:(zAa t m).dep < d
  ·rw [if_pos e];omega
  ·rw [if_neg e]
   by_cases e0:m=0
   ·rw [e0] at e;exact absurd h e
   ·exact zNI h m (by omega)
theorem zPo {b:List BrN} (hb:zB1 b=0) {i:Nat} {d:Int} {y:BrN} {ky:For} (h1:1<=d) (hs:Sub b i d y ky):∃ n,n < b.length/\i ∈ zAE b n/\(zAk b n).kd=1/\i ≠ 0:=by
 obtain⟨hi,hg⟩:=zAM hs
 obtain⟨h0,_,_⟩:=zAp hb
 obtain⟨_,_,hok,_,_⟩:=zAf h0
 have hl:=zAh b
 have hd0:=(zA4 (zAd (hok 0 (by omega))).1).2.2.1 rfl
 have hi0:i ≠ 0:=fun e=>by
  have:=hd0.1
  rw [zAv b 0 (by omega),<- e,hg] at this
  have:d=0:=this
  omega
 have hp:0<=abv (plT b) i:=zNI (by rw [hd0.1,zAv b i hi,hg];show (0:Int) < d;omega) i (by omega)
 have hn:abv (plT b) i=((abv (plT b) i).toNat:Int):=(Int.toNat_of_nonneg hp).symm
 obtain⟨k1,_,k3,_⟩:=zGz (fun j hj=>hok j (by omega)) hn
 refine⟨(abv (plT b) i).toNat,by omega,List.mem_filter.2 ⟨List.mem_range.2 hi,?_⟩,?_,hi0⟩
 ·unfold zG0;exact decide_eq_true hn
 ·rw [zAv b _ (by omega)] at k3;exact k3
structure zOs (d:Int) (y:BrN) (k:For):Prop where
 dep:d<=8
 name:zAq (L y.nm)=0
 kind:zAc y.toTrN=0
 chk:zBR y.ats=0
 red:y.red= []
 wh:y.kd=5->wtE 3 y.nm=0
 nw:y.kd ≠ 5->nmE 3 y.nm=0
 opq:y.kd ≠ 1->y.opq=false
 len:(zBU k).length+(if y.opq=true then 1 else 0)<=24
 asc:zGK zCj (zBU k)
 deep:y.opq=true->d < 8
 und:∀ q ∈ zBU k,q.1.kd=5->y.opq=false
theorem zJP {b:List BrN} {i:Nat} (h:awE b i=0) (hk:(zAk b i).kd=1):acE (zAo b i)=0/\¬ ((zAk b i).opq=true/\(zAk b i).dep=8):=by
 unfold awE at h
 rw [if_neg (by simp [hk])] at h
 by_cases e:acE (zAo b i) ≠ 0
 ·rw [if_pos e] at h;exact absurd h e
 rw [if_neg e] at h
 refine⟨Decidable.not_not.1 e,fun e2=>?_⟩
 rw [if_pos e2] at h;cases h
theorem zVH {p:Nat} {k:For} (h:kp p k= []):k= .nil:=by
 cases k with
 | nil=>rfl
 | node x k r=>cases h
theorem zDQ {b:List BrN} (hb:zB1 b=0) {i:Nat} {d:Int} {y:BrN} {k:For} (hs:Sub b i d y k):(y.kd ≠ 1->k= .nil)/\zGK zCj (zBU k)/\(∀ q ∈ zBU k,q.1.kd=5->y.opq=false)/\(zAo b i).ens.length=(zBU k).length/\(zBU k).length<=24:=by
 obtain⟨hi,hg⟩:=zAM hs
 obtain⟨h0,_,_⟩:=zAp hb
 obtain⟨_,_,hok,_,_⟩:=zAf h0
 have hlen:(zAo b i).ens.length=(zBU k).length:=by rw [zC0 hok hs,List.length_map,<- zFa k (i+1),List.length_map]
 have hnil:y.kd ≠ 1->k= .nil:=fun hk=>by
  have:zAE b i= []:=List.filter_eq_nil_iff.2 fun j hj e=>by
   have:=(zGz (fun m hm=>hok m (by have:=List.mem_range.1 hj;rw [zAh];omega)) (of_decide_eq_true e)).2.2.1
   rw [zAv b i hi,hg] at this
   exact hk this
  rw [zJs hok hs] at this
  exact zVH this
 by_cases hk:y.kd=1
 case neg=>
  have:=hnil hk
  subst this
  exact⟨hnil,List.Pairwise.nil,fun q h=>(by cases h),hlen,Nat.zero_le _⟩
 have hd:zDA (zAo b i)=0:=zGs hb hi (by rw [hg];exact hk)
 have hnm:∀ q ∈ kq (i+1) k,zAk b q.1=q.2.1.at (d+1):=fun q hq=>(zAM (zEv hs q hq).1).2
 obtain⟨_,_,_,_,d4,d5⟩:=zA0 hd
 refine⟨hnil,?_,fun q hq h5=>?_,hlen,by rw [<- hlen];exact d4⟩
 ·have h1:(zAo b i).ens.Pairwise fun a b=>L a.nm < L b.nm:=List.pairwise_iff_getElem.2 fun m n hm hn hmn=>by
   have:=zHQ hd hmn hn
   rw [zAy _ _ hm,zAy _ _ hn] at this
   exact this
  rw [zC0 hok hs,List.pairwise_map] at h1
  unfold zGK
  rw [<- zFa k (i+1),List.pairwise_map]
  refine List.Pairwise.imp_of_mem (fun {p q} hp hq h=>?_) h1
  have e1:(zBl b i p.1).nm=p.2.1.nm:=(congrArg (fun y:BrN=>y.nm) (hnm p hp)).trans rfl
  have e2:(zBl b i q.1).nm=q.2.1.nm:=(congrArg (fun y:BrN=>y.nm) (hnm q hq)).trans rfl
  rw [e1,e2] at h
  exact h
 ·rw [<- zFa k (i+1)] at hq
  obtain⟨q,hqm,rfl⟩:=List.mem_map.1 hq
  have hm:zBl b i q.1 ∈ (zAo b i).ens:=by rw [zC0 hok hs];exact List.mem_map.2 ⟨q,hqm,rfl⟩
  obtain⟨j,hj,hge⟩:=List.getElem_of_mem hm
  have he:zEh (zAo b i).opq (zCZ (zAo b i).ens j) (zA6 (zAo b i).ens j)=0:=d5 j hj
  rw [zAy _ _ hj,hge] at he
  have ho:=(zFR he).2 (by
   show (zEs (zAk b q.1).toTrN).kd=5
   rw [hnm q hqm]
   unfold zEs
   rw [if_neg (show ¬ (q.2.1.at (d+1)).toTrN.kd=1 from fun e=>by have e:q.2.1.kd=1:=e;omega)]
   exact h5)
  have:(zAo b i).opq=y.opq:=(congrArg BrN.opq hg).trans rfl
  rw [this] at ho;exact ho
theorem zUz {b:List BrN} (hb:zB1 b=0) (hw:∀ i,i < b.length->awE b i=0) {i:Nat} {d:Int} {y:BrN} {k:For} (h1:1<=d) (hs:Sub b i d y k):zOs d y k:=by
 obtain⟨hi,hg⟩:=zAM hs
 obtain⟨h0,_,hm⟩:=zAp hb
 obtain⟨_,_,hok,_,_⟩:=zAf h0
 have hl:=zAh b
 obtain⟨n,hn,hin,hkn,hi0⟩:=zPo hb h1 hs
 obtain⟨hnil,hasc,hund,hlen,h24⟩:=zDQ hb hs
 obtain⟨n1,n2,n3,n4,_⟩:=zAd (hok i (by omega))
 have hT:zAa (plT b) i=(y.at d).toTrN:=by rw [zAv b i hi,hg]
 rw [hT] at n3 n4
 have hab:abv (plT b) i=(n:Int):=of_decide_eq_true (List.mem_filter.1 hin).2
 have hname:=(zFK hok (by omega) hab).1
 rw [hT] at hname
 have hdep:=(zA4 n1).2.1
 rw [hT] at hdep
 have hae:aeE (zBl b n i)=0:=(zCp (zJP (hw n hn) hkn).1).2.2.1 _ (List.mem_map.2 ⟨i,hin,rfl⟩)
 have hz:=zEc hae
 have hnm:(zBl b n i).nm=y.nm:=(congrArg (fun y:BrN=>y.nm) hg).trans rfl
 have hwh:(zBl b n i).wh=(y.kd == 5):=(congrArg (fun y:BrN=>y.kd == 5) hg).trans rfl
 rw [hnm,hwh] at hz
 have hmi:=hm i hi
 have hno:y.kd ≠ 1->y.opq=false/\y.red= []:=fun hk=>by
  unfold zAO at hmi
  rw [hg] at hmi
  by_cases e:(y.opq=true\/0 < y.red.length)/\y.kd ≠ 1
  ·rw [if_pos (.inl e)] at hmi;cases hmi
  ·constructor
   ·cases ho:y.opq with
    | false=>rfl
    | true=>exact absurd ⟨.inl ho,hk⟩ e
   ·refine List.length_eq_zero_iff.1 ?_
    by_cases e2:0 < y.red.length
    ·exact absurd ⟨.inr e2,hk⟩ e
    ·omega
 by_cases hk:y.kd=1
 ·obtain⟨w1,w2⟩:=zJP (hw i hi) (by rw [hg];exact hk)
  obtain⟨_,z2,_,z4,_⟩:=zCp w1
  have hred:y.red= []:=by
   have:(zAo b i).red=y.red:=(congrArg BrN.red hg).trans rfl
   rw [<- this];exact z2
  have hoq:(zAo b i).opq=y.opq:=(congrArg BrN.opq hg).trans rfl
  refine⟨hdep,hname,n3,n4,hred,fun h5=>by omega,fun h=>hz.2 (nB h),fun h=>absurd hk h,?_,hasc,fun ho=>?_,hund⟩
  ·unfold acL at z4
   rw [List.length_append,List.length_map,hlen,hoq] at z4
   refine Nat.le_trans (Nat.add_le_add_left ?_ _) z4
   split <;> exact Nat.le_refl _
  ·rw [hg] at w2
   have:¬ d=8:=fun e=>w2 ⟨ho,e⟩
   have hdep:d<=8:=hdep
   omega
 ·obtain⟨o1,o2⟩:=hno hk
  exact⟨hdep,hname,n3,n4,o2,fun h=>hz.1 (beq_iff_eq.2 h),fun h=>hz.2 (nB h),fun _=>o1,by rw [o1];simpa using h24,hasc,fun ho=>(by rw [o1] at ho;cases ho),hund⟩
theorem zSs {d:Int} {y:BrN} {k:For} (h:zOs d y k) (hs:Shp y k):zGJ y k:=by
 refine⟨hs.1,h.red,fun h5=>⟨?_,h.wh h5⟩,h.nw,fun hk=>⟨hs.2 hk,h.opq hk⟩,h.asc,fun h1=>?_,h.und⟩
 ·obtain⟨a1,a2,a3,a4,a5⟩:=zID h.kind h5
  have a2:=zCn a2
  have ho:=h.opq (by omega)
  have hr:=h.red
  have hd:=hs.1
  obtain⟨⟨dep,nm,kd,ats,dat,ma,mi,cl⟩,opq,red⟩:=y
  simp only at *
  subst hd h5 a1 a2 a3 a4 a5 ho hr
  rfl
 ·have hk:=h.kind
  unfold zAc at hk
  rw [if_neg (by omega),if_pos h1] at hk
  split at hk
  ·rename_i hh;exact⟨zCn hh.1,hh.2.1,hh.2.2.1,hh.2.2.2⟩
  ·cases hk
theorem zBN {b:List BrN} {x:BrN} {f:For} (hb:zB1 b=0) (hw:∀ i,i < b.length->awE b i=0) (e:b=x :: flt 1 f) (hs:zCT Shp f):zB6 zOs 1 f/\zCT zGJ f:=by
 have h:zB6 zOs 1 f:=by
  subst e
  exact zHM fun i d y ky h1 hs=>zUz hb hw h1 hs
 exact⟨h,h.each (fun _ _ _ a b=>zSs a b) hs⟩
abbrev flc (d:Int) (q:BrN × For):List BrN:=q.1.at d :: flt (d+1) q.2
theorem zCL (d:Int) (x:BrN) (k:For):(flt d (zDm x k)).Perm ((zB4 k).flatMap (flc d) ++ (mkF x).flatMap (flc d)):=by
 unfold zDm
 rw [zDg,<- List.flatMap_append]
 exact(zAl _).flatMap_right _
theorem zCR {x:BrN} {q:BrN × For} (h:q ∈ mkF x):q=(zFP zDy,.nil)/\x.opq=true:=by
 unfold mkF at h
 split at h
 ·rename_i ho;exact⟨List.mem_singleton.1 h,ho⟩
 ·cases h
def Alk (y z:TrN):Prop:=y.cl=z.cl/\y.kd=z.kd/\y.ats=z.ats/\y.dat=z.dat/\y.ma=z.ma/\y.mi=z.mi
theorem zLN:∀ (k:For) (d:Int),∀ y ∈ (zB4 k).flatMap (flc d),y.cl ≠ 0->∃ z ∈ flt d k,Alk y.toTrN z.toTrN
 | .nil,_,y,h,_=>by cases h
 | .node x kk r,d,y,h,hc=>by
  unfold zB4 at h
  rw [List.flatMap_cons,List.mem_append] at h
  rw [zBe]
  rcases h with h | h
  ·rcases List.mem_cons.1 h with rfl | h
   ·refine⟨x.at d,List.mem_cons_self ..,?_⟩
    have hc:(aeB x).cl ≠ 0:=hc
    show Alk ((aeB x).at d).toTrN _
    unfold aeB at hc ⊢
    by_cases e:x.kd=5
    ·rw [if_pos e] at hc;exact absurd rfl hc
    ·rw [if_neg e];exact⟨rfl,rfl,rfl,rfl,rfl,rfl⟩
   ·rcases List.mem_append.1 ((zCL (d+1) x kk).mem_iff.1 h) with h | h
    ·obtain⟨z,hz,a⟩:=zLN kk (d+1) y h hc
     exact⟨z,List.mem_cons_of_mem _ (List.mem_append.2 (.inl hz)),a⟩
    ·obtain⟨q,hq,hy⟩:=List.mem_flatMap.1 h
     obtain⟨rfl,_⟩:=zCR hq
     obtain rfl:=List.mem_singleton.1 hy
     exact absurd rfl hc
  ·obtain⟨z,hz,a⟩:=zLN r d y h hc
   exact⟨z,List.mem_cons_of_mem _ (List.mem_append.2 (.inr hz)),a⟩
theorem zHL {c:Int} (hc:c ≠ 0):∀ (k:For) (d:Int),zCT zGJ k->((zB4 k).flatMap (flc d)).countP (fun y=>y.cl == c)=(flt d k).countP (fun y=>y.cl == c)
 | .nil,_,_=>rfl
 | .node x kk r,d,h=>by
  obtain⟨hx,hk,hr⟩:=h
  unfold zB4
  rw [List.flatMap_cons,List.countP_append,zHL hc r d hr,zBe]
  show List.countP _ ((aeB x).at d :: flt (d+1) (zDm x kk))+_=_
  rw [List.countP_cons,List.countP_cons,List.countP_append,(zCL (d+1) x kk).countP_eq,List.countP_append,zHL hc kk (d+1) hk]
  have e1:((mkF x).flatMap (flc (d+1))).countP (fun y=>y.cl == c)=0:=by
   rw [List.countP_eq_zero]
   intro y hy
   obtain⟨q,hq,hy⟩:=List.mem_flatMap.1 hy
   obtain⟨rfl,_⟩:=zCR hq
   obtain rfl:=List.mem_singleton.1 hy
   show ¬ ((0:Int) == c)=true
   rw [beq_iff_eq];exact fun e=>hc e.symm
  have e2:((aeB x).at d).cl=(x.at d).cl:=by
   show (aeB x).cl=x.cl
   unfold aeB
   by_cases e:x.kd=5
   ·rw [if_pos e,(hx.2.2.1 e).1];rfl
   ·rw [if_neg e]
  rw [e1,e2]
  omega
theorem zNg (t:List TrN) (c:Int):zAi t c t.length=t.countP (fun y=>y.cl == c):=by
 have:∀ k,k<=t.length->zAi t c k=(t.take k).countP (fun y=>y.cl == c):=fun k=>by
  induction k with
  | zero=>intro _;rfl
  | succ k ih=>
   intro hk
   show zAi t c k+_=_
   rw [ih (by omega),List.take_succ_eq_append_getElem hk,List.countP_append,<- zAm t k hk,List.countP_cons,List.countP_nil]
   by_cases e:(zAa t k).cl=c
   ·rw [if_pos e,if_pos (beq_iff_eq.2 e)]
   ·rw [if_neg e,if_neg (fun x=>e (beq_iff_eq.1 x))]
 rw [this _ (Nat.le_refl _),List.take_length]
theorem zII (b:List BrN) (c:Int):(plT b).countP (fun y=>y.cl == c)=b.countP (fun y=>y.cl == c):=by
 unfold plT;rw [List.countP_map];rfl
/-! The written forest is right. -/
abbrev zK6 (d:Int) (x:BrN) (k:For):Prop:=d<=8/\zAq (L x.nm)=0/\zAc (clM (fun _=>0) x.toTrN)=0/\zBR x.ats=0/\(x.kd ≠ 1->k= .nil)/\(zBU k).length<=24/\zGK zCj (zBU k)
theorem zM2 {d:Int} (h:d<=8):zK6 d (zFP zDy) .nil/\zB6 zK6 (d+1) .nil:=
 ⟨⟨h,(by decide +kernel),(by decide +kernel),rfl,fun _=>rfl,Nat.zero_le _,List.Pairwise.nil⟩,trivial⟩
theorem zEH (x:BrN) (k:For):zBU (zDm x k)=zEg zCj (zB4 k ++ mkF x):=zCI _
theorem zJC (k:For):(zB4 k).length=(zBU k).length:=by rw [zFS,List.length_map]
theorem zLz (x:BrN):(mkF x).length=if x.opq=true then 1 else 0:=by unfold mkF;split <;> rfl
theorem zHA {y:TrN} (h:zAc y=0):zAc (clM (fun _=>0) y)=0:=by
 refine zPN (z:=id) ?_ fun _=>rfl
 exact h
theorem zLG:∀ (k:For) (d:Int),zB6 zOs d k->zCT zGJ k->∀ q ∈ zB4 k,zK6 d q.1 q.2/\zB6 zK6 (d+1) q.2
 | .nil,_,_,_,q,h=>by cases h
 | .node x kk r,d,hg,hc,q,h=>by
  obtain⟨gx,gk,gr⟩:=hg
  obtain⟨cx,ck,cr⟩:=hc
  unfold zB4 at h
  rcases List.mem_cons.1 h with rfl | h
  ·have hs:zB6 zK6 (d+1) (zDm x kk):=zDP fun q hq=>by
    rcases List.mem_append.1 ((zAl _).mem_iff.1 hq) with hq | hq
    ·exact zLG kk (d+1) gk ck q hq
    ·obtain⟨rfl,ho⟩:=zCR hq
     exact zM2 (by have:=gx.deep ho;omega)
   refine⟨⟨gx.dep,?_,?_,?_,fun hk=>?_,?_,?_⟩,hs⟩
   ·show zAq (L (aeB x).nm)=0
    unfold aeB
    by_cases e:x.kd=5
    ·rw [if_pos e]
     obtain⟨w1,w2,w3⟩:=zHg (gx.wh e)
     show zAq (L (wtS 3 x.nm))=0
     rw [w2,zMb];exact zHy (zCo w1).2 w3
    ·rw [if_neg e];exact(zL6 (gx.nw e)).1
   ·show zAc (clM (fun _=>0) (aeB x).toTrN)=0
    unfold aeB
    by_cases e:x.kd=5
    ·rw [if_pos e];rfl
    ·rw [if_neg e];exact zHA gx.kind
   ·show zBR (aeB x).ats=0
    unfold aeB
    by_cases e:x.kd=5
    ·rw [if_pos e];rfl
    ·rw [if_neg e];exact gx.chk
   ·have h1:x.kd ≠ 1:=fun e=>by
     have hk:(aeB x).kd ≠ 1:=hk
     unfold aeB at hk
     rw [if_neg (by omega)] at hk
     exact hk e
    obtain⟨rfl,ho⟩:=cx.2.2.2.2.1 h1
    show zDm x .nil= .nil
    unfold zDm mkF
    rw [ho];rfl
   ·show (zBU (zDm x kk)).length<=24
    rw [zEH,(zAl _).length_eq,List.length_append,zJC,zLz]
    exact gx.len
   ·show zGK zCj (zBU (zDm x kk))
    rw [zEH]
    exact zFs (zHK ck gx.asc)
  ·exact zLG r d gr cr q h
theorem zJw {x:BrN} {f:For} (hg:zB6 zOs 1 f) (hc:zCT zGJ f):∀ q ∈ zB4 f ++ mkF x,zK6 1 q.1 q.2/\zB6 zK6 2 q.2:=fun q hq=>by
 rcases List.mem_append.1 hq with hq | hq
 ·exact zLG f 1 hg hc q hq
 ·obtain⟨rfl,_⟩:=zCR hq
  exact zM2 (by decide)
theorem zUP (B:Nat) (w:World) (v:Value) (b:List BrN) (i:Nat) (hb:zC4 B w v b) (hsm:zBr b) (h0:zB1 b=0) (hi:i < b.length) :
  zAt Tryz.prog 181 #[v,.int .i64 i] w (.int .i64 0):=by
 unfold zAt
 obtain⟨aa,cap,rfl⟩:=hb.form
 have HV:=hQq hb;have HSM:=hQq hsm;have H0:=hQq h0
 have hlen:=hsm.len
 have j1:¬ ((i:Nat):Int) < 0:=by omega
 have j3:¬ (b.length:Int)<=(i:Int):=by omega
 clear hb hsm h0
 go_enter Tryz.func181,Tryz.ntmps181
 go_wp2_with (go_at_call 79;refine(zLX B _ _ b HV.out HSM.out).mono ?_;rintro e w1 ⟨rfl,hb1⟩;rw [H0.out];have HB1:=hQq hb1;clear hb1)
 go_ret
 exact⟨rfl,HB1.out⟩
theorem zUO (B:Nat) (w:World) (v:Value) (b:List BrN) (n:Nat) (hb:zC4 B w v b) (hlen:b.length<=1000) (hn:n < b.length) :
  Calls Tryz.prog 177 #[v,.int .i64 n] w (zYi w (zAR b n)):=by
 obtain⟨aa,cap,rfl⟩:=hb.form
 have HV:=hQq hb
 have j1:((n:Nat):Int) < (b.length:Int):=by omega
 have j0:(0:Int)<=(n:Int):=by omega
 have HG:=hQq (zAv b n hn)
 have HN:=hQq hn
 obtain⟨bb',off',va',vr',hex',hbx',_,_,_,_,_,_,_,_,_,d7,_⟩:=hb.br n hn
 cases hex'
 rw [<- zAw b n hn] at d7
 clear hb
 by_cases e2:(zAk b n).cl=0
 ·have q2:((zAk b n).cl == 0)=true:=beq_iff_eq.2 e2
  have HL:Hid (zAR b n= [n]):=hQq (by unfold zAR;rw [zGi (by rw [HG.out];exact e2),if_pos hn])
  clear e2
  go_enter Tryz.func177,Tryz.ntmps177
  go_wp2
  go_ret
  exact⟨⟨_,_,by rw [HL.out];rfl,by rw [HL.out];exact zUi w n⟩,eA _ _⟩
 have q2:((zAk b n).cl == 0)=false:=nB e2
 have HE2:=hQq e2
 have HCB:Hid (∀ k,zDi (plT b) n k=decide ((zAa (plT b) k).cl=(zAk b n).cl)):=hQq (fun k=>by
  unfold zDi
  rw [HG.out,decide_eq_true (show (zAk b n).toTrN.cl ≠ 0 from e2),Bool.true_and]
  by_cases e:k=n
  ·rw [e,HG.out];simp
  ·rw [decide_eq_false e,Bool.false_or])
 clear e2
 go_enter Tryz.func177,Tryz.ntmps177
 go_wp2
 go_loopw [5,18] (fun o i w'=>∃ (wi:World) (k:Nat),wi=w'/\k<=b.length/\i= .int .i64 k/\zAg cdN w.heap.size wi o (zCv (plT b) n k)/\Ext w wi) (fun _ i _=>b.length - (intOf i).toNat)
 case atStart=>exact⟨_,0,rfl,by omega,by go_num,zAg.nil _ _ _,bR _ _⟩
 case round=>
  clear d7
  obtain⟨wi,k,rfl,hk,rfl,ho,hE⟩:=hrel
  have HO:=hQq ho;have HE:=hQq hE
  obtain⟨a5,cap5,rfl⟩:=ho.form
  clear ho hE
  by_cases hlt:k < b.length
  case neg=>
   obtain rfl:k=b.length:=by omega
   go_wp2
   go_ret
   exact⟨⟨_,_,rfl,HO.out⟩,HE.out⟩
  have k1:((k:Nat):Int) < (b.length:Int):=by omega
  have k0:(0:Int)<=(k:Int):=by omega
  have HL:=hQq (zE1 (zDi (plT b) n) k)
  obtain⟨bb,off,va,vr,hex,hbx,hva,hvr,c0,c1,c2,c3,c4,c5,c6,c7,c8,c9⟩:=(HV.out.ext okB HE.out).br k hlt
  cases hex
  obtain⟨bb2,off2,va2,vr2,hex2,_,_,_,_,_,_,_,_,_,_,d7,_⟩:=(HV.out.ext okB HE.out).br n HN.out
  cases hex2
  rw [<- zAw b n HN.out] at d7
  have HGK:=hQq (zAv b k hlt)
  rw [<- zAw b k hlt] at hva hvr c0 c1 c2 c4 c5 c6 c7 c8
  obtain⟨a3,cap3,rfl⟩:=hva.form
  obtain⟨a4,cap4,rfl⟩:=hvr.form
  clear hva hvr
  generalize hx:zAk b k=x at c0 c1 c2 c3 c4 c5 c6 c7 c8 c9
  have HXK:=hQq hx
  clear hx
  have d8:=(eC (eA wi (.cells #[.int .i64 x.dep,.string x.nm,.int .i64 x.kd,.slice a3 x.ats.length cap3,.string x.dat,.int .i64 x.ma,.int .i64 x.mi,.int .i64 x.cl,.bool x.opq,.slice a4 x.red.length cap4] 46 (0,0))) hbx).trans d7
  by_cases e1:x.cl=(zAk b n).cl
  ·have HS:=hQq (zKs (t:=plT b) (n:=n) (k:=k) (by rw [HCB.out,HGK.out];exact decide_eq_true (by rw [HXK.out];exact e1)))
   have q1:(x.cl == (zAk b n).cl)=true:=beq_iff_eq.2 e1
   clear e1
   go_wp2
   go_quiet (fail)
   refine nW (P:=fun W=>Exit.then _ _ _ _ W) _ ?_
   intro W hW
   have HB3:Hid (Ext wi W):=hQq (by rw [hW];first | exact(eA _ _).trans (eDn _ _) | exact(eA _ _).trans (eD _) | exact eA _ _)
   clear hW
   go_wp2_with (at_builtin;refine zJU okN rfl (.tmp 31) (.tmp 33) rfl _ _ (zCv (plT b) n k) [k] w _ rfl rfl (by exact(HO.out.ext okN HB3.out).ext okN (eA _ _)) (by exact zAn okN _ k [.int .i64 k] _ rfl rfl) (by exact(HE.out.trans HB3.out).trans (eA _ _)) (by have:=HB3.out.size;have:=HE.out.size;simp;omega) (by have:=HL.out;unfold zCv;simp;omega) ?_;intro v2 w2 ha;have HA:=hQq ha;clear ha)
   go_roundw
   case rel=>exact⟨_,k+1,rfl,by omega,by go_num,by rw [HS.out];exact HA.out.own,HA.out.below⟩
   case measure=>simp [intOf] <;> omega
  ·have HS:=hQq (zMI (t:=plT b) (n:=n) (k:=k) (by rw [HCB.out,HGK.out];exact decide_eq_false (by rw [HXK.out];exact e1)))
   have q1:(x.cl == (zAk b n).cl)=false:=nB e1
   clear e1
   go_wp2
   go_quiet (fail)
   refine nW (P:=fun W=>Exit.then _ _ _ _ W) _ ?_
   intro W hW
   have HB3:Hid (Ext wi W):=hQq (by rw [hW];first | exact(eA _ _).trans (eDn _ _) | exact(eA _ _).trans (eD _) | exact eA _ _)
   clear hW
   go_wp2
   go_roundw
   case rel=>exact⟨_,k+1,rfl,by omega,by go_num,by rw [HS.out];exact HO.out.ext okN HB3.out,HE.out.trans HB3.out⟩
   case measure=>simp [intOf] <;> omega
attribute [local go_sem] Oper.semAt_some
theorem zQR (B:Nat) (w:World) (v:Value) (b:List BrN) (n:Nat) (hb:zC4 B w v b) (hsm:zBr b) (h0:zB1 b=0) (hn:n < b.length) (hk:(zAk b n).kd=1) :
  Calls Tryz.prog 133 #[v,.int .i64 n] w (zYl w (zAE b n)):=by
 obtain⟨aa,cap,rfl⟩:=hb.form
 have HV:=hQq hb;have HSM:=hQq hsm;have H0:=hQq h0
 have hlen:=hsm.len
 have HOK:=hQq (zAf (zAp h0).1).2.2.1
 have j1:((n:Nat):Int) < (b.length:Int):=by omega
 have j0:(0:Int)<=(n:Int):=by omega
 have HN:=hQq hn
 rw [zAw b n hn] at hk
 have HK:Hid (∀ W,Ext w W->∃ bb off,aa=some ⟨bb,off,none⟩/\W.cell? ⟨bb,off+n * 10+2,none⟩=some (.int .i64 1)):=hQq (fun W hW=>by
  obtain⟨bb,off,va,vr,hex,_,_,_,_,_,c2,_⟩:=(HV.out.ext okB hW).br n HN.out
  rw [hk] at c2
  exact⟨bb,off,hex,c2⟩)
 clear hb hsm h0 hk hn
 refine(callsIn_wide (n:=8)).1 ?_
 refine callsIn_of_wp_marks Tryz.func133 rfl trivial ?_ rfl
 refine wpIn_wide.2 ?_
 simp only [Tryz.ntmps133,List.size_toArray,List.length_cons,List.length_nil,Nat.reduceAdd,Nat.reduceSub,Array.replicate_succ,Array.replicate_zero,List.push_toArray,List.append_toArray,List.nil_append,List.cons_append]
 go_wp2_with (first
  | (go_at_call 181;refine(zUP B _ _ b n (HV.out.ext okB (eA _ _)) HSM.out H0.out HN.out).mono ?_;rintro e w1 ⟨rfl,hb1⟩;have HB1:Hid (Ext w w1):=hQq ((eA _ _).trans hb1);have Q1:=hQq (bX hb1 (bN w (.cells #[.int .i64 n] 3 (0,0))));obtain⟨bb,off,rfl,y2⟩:=HK.out _ HB1.out;have y3:=bC Q1.out 0;have hy:=bL Q1.out;clear hb1)
  | (go_at_call 143;refine(zQO _ _ _ _).mono ?_;rintro e w3 ⟨rfl,rfl⟩)
  | fail)
 refine nW (P:=fun W=>Code.wp _ _ _ _ W) _ ?_
 intro W0 hW0
 have HE0:Hid (Ext w W0):=hQq (by rw [hW0];exact HB1.out.trans ((eA _ _).trans (eA _ _)))
 have HS0:Hid (W0.heap.size=w1.heap.size+2):=hQq (by rw [hW0];simp)
 have HO0:Hid (W0.heap[w1.heap.size]? = some (.cells #[.slice none 0 0] 49 (0,0))):=hQq (by rw [hW0];exact bA (bN _ _))
 have HM2:Hid (W0.cell? ⟨w1.heap.size+1,0,none⟩=some (.slice (some ⟨bb,off,none⟩) b.length cap)):=hQq (by rw [hW0];exact bC (zAH (by simp)) 0)
 have HN0:Hid (W0.heap[w.heap.size]? = some (.cells #[.int .i64 n] 3 (0,0))):=hQq (by rw [hW0];exact bA (bA Q1.out))
 clear hW0 y2 y3
 have hsz:=HS0.out
 refine(wpIn_wide (n:=8)).1 ?_
 refine zFb (w:=W0) (w0:=W0) rfl (by omega) (gf:=185) (lb:=#[.pointer (some ⟨w1.heap.size+1,0,none⟩)]) rfl trivial (enters_of Tryz.func185 (by kernel_rfl) rfl) (zTR w1.heap.size) (fun W l r o' h=>zTQ w1.heap.size W l _ o' h rfl)
  (zOK w1.heap.size 7 (by omega) B w W0 _ b (w1.heap.size+1) HV.out (Kc.of_ext HE0.out) HM2.out (by omega) hlen HOK.out (by omega) (by rw [zM6 HO0.out];rfl) HE0.out.size) KcX.trans (fun W l o o' hl ho hc=>zUu (by omega) ho hc) (bR _ _) (fun _=>rfl) zGT
  (fun pre W=>KdI w W0 w1.heap.size n b pre.length W) (fun c _ W=>False)
  (fun s W W' h hx hX=>h.ab (by omega) (by omega) hx hX) (fun c s W W' h _ _=>h)
  ⟨⟨_,HO0.out,zAg.nil _ _ _⟩,HN0.out,HE0.out,Nat.le_refl _⟩
  (zXa w w1.heap.size b) (zSn w w1.heap.size b) ?assign ?body ?done ?stop
 case assign=>
  intro l pre x W K hi hok hK
  unfold zJE
  gi_wp2
  exact hK _ _ (eA _ _) (zPS (eA _ _) (by have:=hi.size;omega)) ⟨W.heap.size,[_,_,undef,undef,_,_,_,undef,undef,undef,_,_,_,_,_,_,_,_,_,_,_,_,_,_,_,_,_,_,_,_,_,_,_,_,_],bN W _,rfl⟩ ⟨hok.1,hok.2.ext okS (eA _ _)⟩
 case body=>
  rintro l pre x a2 W hI hlt hok ⟨Bx,M,hBx,rfl⟩
  obtain⟨xi,xa,xn,xc⟩:=x
  obtain⟨hxi,hxs⟩:=hok
  dsimp only at hxi hxs hBx ⊢
  subst hxi
  have HPI:Hid (∀ y:PlI,(pre ++ [y]).length=pre.length+1):=hQq (fun y=>by simp)
  generalize pre.length=k at hI hlt hBx HPI ⊢
  have HI:=hQq hI;have HBX:=hQq hBx
  obtain⟨vo,ho1,ho2⟩:=hI.box
  have HO1:=hQq ho1;have HO2:=hQq ho2
  obtain⟨ao,co,rfl⟩:=ho2.form
  have p3:W.cell? ⟨w.heap.size,0,none⟩=some (.int .i64 n):=bC hI.node 0
  have p4:W.cell? ⟨Bx,0,none⟩=some (.int .i64 (abv (plT b) k)):=bC hBx 0
  have p7:W.cell? ⟨w1.heap.size,0,none⟩=some (.slice ao (zBg (plT b) n k).length co):=bC ho1 0
  have z3:=bL hI.node;have z4:=bL hBx;have z7:=bL ho1
  have HL:=hQq (zE1 (zG0 (plT b) n) k)
  have HLT:=hQq hlt
  clear hI hBx hxs ho1 ho2 hlt
  by_cases ha:abv (plT b) k=(n:Int)
  ·have q1:(abv (plT b) k == (n:Int))=true:=beq_iff_eq.2 ha
   have HS:=hQq (zSj ha)
   clear ha
   gi_wp2_with (gi_at_builtin;refine zWc (B:=W0.heap.size) okN rfl (.tmp 30) (.tmp 32) rfl _ _ (zBg (plT b) n k) [k] W _ rfl rfl (by exact HO2.out.ext okN (eA _ _)) (by exact zAn okN _ k [.int .i64 k] _ rfl rfl) (by exact(eA W _).mono HI.out.size) (by have:=HI.out.size;simp;omega) (by have:=HL.out;have:=HLT.out;unfold zBg;simp;omega) ?_;intro v2 w2 ha;obtain⟨a9,cap9,rfl⟩:=ha.own.form;have hln:(zBg (plT b) n k ++ [k]).length=(zBg (plT b) n k).length+1:=by {simp};rw [hln] at ha;clear hln;have HA:=hQq ha;have hou:=ha.chg.keep _ _ (bA HO1.out) (fun e=>by obtain⟨_,c,f,h9⟩:=(HO2.out.ext okN (eA W (.cells #[.int .i64 k] 3))).row rfl _ e;rw [bA HO1.out] at h9;cases h9);have HOU:=hQq hou;have f7:w2.frozen? ⟨w1.heap.size,0,none⟩=false:=bT hou 0;have z8:=bL hou;have p8:=bC hou 0;clear ha hou)
   obtain⟨g1,g2,g3⟩:=zUt HI.out HO1.out HO2.out HA.out (by omega) (by omega) HS.out
   exact⟨g1.from _,g2,by show KdI w W0 _ n b (pre ++ [_]).length _;rw [HPI.out];exact g3⟩
  ·have q1:(abv (plT b) k == (n:Int))=false:=nB ha
   have HS:=hQq (zUs ha)
   clear ha
   gi_wp2
   exact⟨(KeepsOthers.refl _).from _,zPS (bR _ _) (by omega),by
    show KdI w W0 _ n b (pre ++ [_]).length _
    rw [HPI.out]
    obtain⟨⟨vo,g1,g2⟩,g3,g4,g5⟩:=HI.out
    exact⟨⟨vo,g1,by rw [HS.out];exact g2⟩,g3,g4,g5⟩⟩
 case done=>
  intro D xs W hD hS hI hdf
  rw [hS] at hI
  obtain⟨⟨vo,ho1,ho2⟩,-,hE,hs⟩:=hI
  have HD:=hQq hdf;have HDL:=hQq hD;have HE:=hQq hE
  obtain⟨ao,co,rfl⟩:=ho2.form
  have HO2:=hQq ho2
  have p7:W.cell? ⟨w1.heap.size,0,none⟩=some (.slice ao (zBg (plT b) n b.length).length co):=bC ho1 0
  have z7:=bL ho1
  clear hS hdf hD hE ho1 ho2
  go_wp2
  refine⟨by simp,.inl ⟨_,_,rfl,run_takeDeferred HD.out,?_⟩⟩
  refine⟨.tuple #[.slice ao (zBg (plT b) n b.length).length co,.int .i64 0],?_,⟨⟨ao,co,rfl,?_⟩,Below.trans HE.out (zAF HD.out (Nat.le_trans HE0.out.size HDL.out))⟩⟩
  ·simp [results,Tryz.f133,go_sem]
  ·refine(zAg.le (B':=w.heap.size) HO2.out okN (fun _ _ _ h=>h) HE0.out.size).keep1 fun q c e f _ hk=>(World.putObj_heap_other (by rintro rfl;have:=HD.out;rw [hk] at this;cases this)).trans hk
 case stop=>
  rintro D c pre W hD _ h
  exact h.elim
theorem zGy (B:Nat) (w:World) (v:Value) (b:List BrN) (hb:zC4 B w v b) (hlen:b.length<=1000) :
  zAt Tryz.prog 80 #[v] w (.int .i64 (zB0 b)):=by
 unfold zAt zB0
 obtain⟨aa,cap,rfl⟩:=hb.form
 have HV:=hQq hb
 clear hb
 go_enter Tryz.func80,Tryz.ntmps80
 go_wp2
 go_loopw [3,8] (fun m i w'=>∃ (wi:World) (k:Nat),wi=w'/\k<=b.length/\i= .int .i64 k/\m= .int .i64 (zAJ (plT b) k)/\Ext w wi) (fun _ i _=>b.length - (intOf i).toNat)
 case atStart=>exact⟨_,0,rfl,Nat.zero_le _,rfl,rfl,bR _ _⟩
 case round=>
  obtain⟨wi,k,rfl,hk,rfl,rfl,hE⟩:=hrel
  have HE:=hQq hE
  clear hE
  by_cases hlt:k < b.length
  case neg=>
   obtain rfl:k=b.length:=by omega
   go_wp2
   go_ret
   exact⟨rfl,HE.out⟩
  have k1:((k:Nat):Int) < (b.length:Int):=by omega
  have k0:(0:Int)<=(k:Int):=by omega
  obtain⟨bb,off,va,vr,hex,hbx,hva,hvr,c0,c1,c2,c3,c4,c5,c6,c7,c8,c9⟩:=(HV.out.ext okB HE.out).br k hlt
  cases hex
  have HGK:=hQq (zAv b k hlt)
  rw [<- zAw b k hlt] at hva hvr c0 c1 c2 c4 c5 c6 c7 c8
  obtain⟨a3,cap3,rfl⟩:=hva.form
  obtain⟨a4,cap4,rfl⟩:=hvr.form
  clear hva hvr
  generalize hx:zAk b k=x at c0 c1 c2 c3 c4 c5 c6 c7 c8 c9
  have HXK:=hQq hx
  clear hx
  go_wp2
  go_roundw
  case rel=>exact⟨_,k+1,rfl,by omega,by go_num,by show _=Value.int .i64 (max (zAJ (plT b) k) (zAa (plT b) k).cl);rw [HGK.out,HXK.out],HE.out.trans (eA _ _)⟩
  case measure=>simp [intOf] <;> omega
attribute [local go_sem] Oper.semAt_some
theorem zAe {a:Act} {t:Tmp} {v:Value} (h:a.eval (.tmp t)=v):a.tmps[t]?.getD undef=v:=by
 simpa [Act.eval,Array.getD_eq_getD_getElem?] using h
structure DrI (w W0:World) (mb:Nat) (b:List BrN) (k:Nat) (W:World):Prop where
 map:∃ n f,zAD kI W mb n f/\∀ i:Nat,i < k->f (i:Int)=some (.int .i64 (abv (plT b) i))
 kc:KcA W0 W
 ext:Ext w W
theorem DrI.ab {w W0:World} {mb:Nat} {b:List BrN} (hb:mb < W0.heap.size) (h0:w.heap.size<=W0.heap.size) {k:Nat} {W W':World} (h:DrI w W0 mb b k W) (hx:Below W0.heap.size W W'):DrI w W0 mb b k W' where
 map:=by
  obtain⟨n,f,⟨es,c,hh,r⟩,hm⟩:=h.map
  exact⟨n,f,⟨es,c,(hx.block _ hb).trans hh,r⟩,hm⟩
 kc:=⟨Nat.le_trans h.kc.size hx.size,fun j cs e f _ hj=>(hx.block _ (bL hj)).trans (h.kc.keep j cs e f (.inr (Nat.zero_le _)) hj)⟩
 ext:=Below.trans h.ext (hx.mono h0)
theorem KcA.any {B0 B1:Nat} {W V:World} (h:KcA W V):Kc B0 B1 W V:=⟨h.size,fun k cs e f _ hk=>h.keep k cs e f (.inr (Nat.zero_le _)) hk⟩
theorem zUF {w W0 W U:World} {mb n k n':Nat} {b:List BrN} {f:Int->Option Value} (h:DrI w W0 mb b k W) (hm:zAD kI W mb n f) (hf:∀ i:Nat,i < k->f (i:Int)=some (.int .i64 (abv (plT b) i))) (hu:zAD kI U mb n' (upd f (k:Int) (.int .i64 (abv (plT b) k)))) (hg:W.grownBy U (some mb)) (hb:mb < W0.heap.size) (hw:w.heap.size<=mb) :
  KeepsFrom W0.heap.size W U/\KcA W U/\DrI w W0 mb b (k+1) U:=by
 obtain⟨es,c,hh,-⟩:=hm
 have hk:=zMX hh hg
 refine⟨⟨hg.size,fun q o hB hq _=>zAU hg hq (fun e=>by injection e with e;omega)⟩,hk,⟨⟨n',_,hu,fun i hi=>?_⟩,h.kc.trans hk,Below.grown h.ext hg (Nat.le_trans (Nat.le_of_lt (Nat.lt_of_le_of_lt hw hb)) h.kc.size) (fun q e=>by injection e with e;omega)⟩⟩
 unfold upd
 by_cases e:i=k
 ·subst e;rw [if_pos rfl]
 ·rw [if_neg (by omega)];exact hf i (by omega)
def zXf (ab:Nat) (b:List BrN) (x:PlI) (a:Act) (W:World):Prop:=∃ (Bx:Nat) (M:List Value),W.heap[Bx]? = some (.cells #[.int .i64 (abv (plT b) x.i),.slice x.a x.n x.cap] 165 (0,0))/\a= {tmps:=#[zAb M 0,zAb M 1,zAb M 2,zAb M 3,zAb M 4,zAb M 5,zAb M 6,zAb M 7,zAb M 8,.pointer (some ⟨ab,0,none⟩),.int .i64 x.i,.pointer (some ⟨Bx,0,none⟩),zAb M 12,zAb M 13,zAb M 14,zAb M 15,zAb M 16,zAb M 17,zAb M 18,zAb M 19,zAb M 20,zAb M 21,zAb M 22,zAb M 23,zAb M 24,zAb M 25,zAb M 26,zAb M 27,zAb M 28,zAb M 29,zAb M 30,zAb M 31,zAb M 32,zAb M 33,zAb M 34,zAb M 35,zAb M 36,zAb M 37,zAb M 38,zAb M 39,zAb M 40,zAb M 41,zAb M 42,zAb M 43,zAb M 44,zAb M 45,zAb M 46,zAb M 47,zAb M 48,zAb M 49,zAb M 50,zAb M 51,zAb M 52,zAb M 53,zAb M 54,zAb M 55,zAb M 56,zAb M 57,zAb M 58,zAb M 59,zAb M 60,zAb M 61,zAb M 62,zAb M 63,zAb M 64,zAb M 65,zAb M 66,zAb M 67,zAb M 68,zAb M 69,zAb M 70,zAb M 71,zAb M 72,zAb M 73,zAb M 74,zAb M 75,zAb M 76,zAb M 77,zAb M 78,zAb M 79,zAb M 80,zAb M 81,zAb M 82,zAb M 83,zAb M 84,zAb M 85,zAb M 86,zAb M 87,zAb M 88,zAb M 89,zAb M 90,zAb M 91,zAb M 92,zAb M 93,zAb M 94,zAb M 95,zAb M 96,zAb M 97,zAb M 98,zAb M 99,zAb M 100,zAb M 101,zAb M 102,zAb M 103,zAb M 104,zAb M 105],defers:=[]}
theorem zSC (ab:Nat) (b:List BrN) (x:PlI) (a:Act) (W:World) (l:Nat) (o o':Obj) (h:W.heap[l]? = some o) (hc:o.isCells=false) (hx:zXf ab b x a W):zXf ab b x a (W.putObj l o'):=by
 obtain⟨Bx,M,h1,h2⟩:=hx
 refine⟨Bx,M,(World.putObj_heap_other ?_).trans h1,h2⟩
 rintro rfl;rw [h] at h1;cases h1;cases hc
theorem zJl {b:List BrN} {n i:Nat} (h:i ∈ zAE b n):i < b.length/\abv (plT b) i=(n:Int):=by
 obtain⟨h1,h2⟩:=List.mem_filter.1 h
 exact⟨List.mem_range.1 h1,of_decide_eq_true h2⟩
theorem zN9 {b:List BrN} {i j:Nat} (h:j ∈ zAR b i):j < b.length:=List.mem_range.1 (List.mem_filter.1 h).1
theorem zHv {b:List BrN} {i:Nat} (h:i < b.length):i ∈ zAR b i:=List.mem_filter.2 ⟨List.mem_range.2 h,by unfold zDi;simp⟩
theorem zVw {B:Nat} {w w1 W2:World} {b:Nat} {t:TypeId} {x0 x1 x2 x3 x4 x5 x6 x7 x8 x9 x10 x11 y0 y1 y2 y3 y4 y5 y6 y7 y8 y9 y10 y11:Value} (hq:w1.heap[b]? = some (.cells #[x0,x1,x2,x3,x4,x5,x6,x7,x8,x9,x10,x11] t (0,0))) (hb:w.heap.size<=b) (hB:B<=b) (he:Ext w w1) (hW:W2=zGa w1 b 0 [y0,y1,y2,y3,y4,y5,y6,y7,y8,y9,y10,y11]) :
  W2.heap[b]? = some (.cells #[y0,y1,y2,y3,y4,y5,y6,y7,y8,y9,y10,y11] t (0,0))/\Ext w W2/\Chg B t (some b) w1 W2:=by
 subst hW
 exact⟨by rw [zCY _ _ _ _ hq];simp only [zWE,List.setIfInBounds_toArray,List.set_cons_zero,List.set_cons_succ],zBG hb _ _ _ he,zCX hB hq _⟩
theorem zNk {w W:World} {b j:Nat} {c:Array Value} {t:TypeId} {v:Value} (hq:W.heap[b]? = some (.cells c t (0,0))) (hb:w.heap.size<=b):Chg w.heap.size t (some b) W (W.setCell ⟨b,j,none⟩ v):=
 ⟨fun q o h hne=>bSn h _ _ (fun e=>hne (by rw [e])),by simp [World.setCell],fun g hg=>by cases hg;exact⟨hb,_,_,hq⟩⟩
theorem zW4 {w w1 W2:World} {b:Nat} {t:TypeId} {x0 x1 x2 x3 y0 y1 y2 y3:Value} (hq:w1.heap[b]? = some (.cells #[x0,x1,x2,x3] t (0,0))) (hb:w.heap.size<=b) (he:Ext w w1) (hW:W2=zGa w1 b 0 [y0,y1,y2,y3]) :
  W2.heap[b]? = some (.cells #[y0,y1,y2,y3] t (0,0))/\Ext w W2/\Chg 0 t (some b) w1 W2:=by
 subst hW
 exact⟨by rw [zCY _ _ _ _ hq];rfl,zBG hb _ _ _ he,zCX (Nat.zero_le _) hq _⟩
structure DsI (w:World) (g:Nat) (la:Value) (ls:List zAr) (o:Bool) (lr:Value) (rs:List ByteArray) (ve:Value) (es:List DeN) (W:World):Prop where
 res:W.heap[w.heap.size]? = some (.cells #[.slice none 0 0,.bool false,.slice none 0 0,.slice none 0 0] 26 (0,0))
 out:W.heap[g]? = some (.cells #[la,.bool o,lr,ve] 26 (0,0))
 own:zAg cdE w.heap.size W ve es
 ats:zAK w.heap.size W la ls
 red:zCu w.heap.size W lr rs
 ext:Ext w W
section
variable {w W W':World} {g:Nat} {la lr ve ve':Value} {ls:List zAr} {o:Bool} {rs:List ByteArray} {es es':List DeN}
theorem DsI.up (h:DsI w g la ls o lr rs ve es W) (he:Ext W W'):DsI w g la ls o lr rs ve es W':=
 ⟨bX he h.res,bX he h.out,h.own.ext okE he,h.ats.ext okA he,h.red.ext okS he,h.ext.trans he⟩
theorem zXH {B:Nat} (h:zAg cdE B W ve es) {b:Nat} {c:Array Value} {f:Nat × Nat} (hb:W.heap[b]? = some (.cells c 26 f)):ve.ownBlock ≠ some b:=fun e=>by
 obtain⟨_,c',f',h2⟩:=h.row rfl _ e
 rw [hb] at h2;cases h2
theorem DsI.app (h:DsI w g la ls o lr rs ve es W) (ha:zH6 cdE w.heap.size ve ve' es' w W W'):W'.heap[g]? = some (.cells #[la,.bool o,lr,ve] 26 (0,0)):=ha.chg.keep _ _ h.out (zXH h.own h.out)
theorem DsI.step (h:DsI w g la ls o lr rs ve es W) (ha:zH6 cdE w.heap.size ve ve' es' w W W') (hg:w.heap.size < g) :
  DsI w g la ls o lr rs ve' es' (W'.setCell ⟨g,3,none⟩ ve')/\W.heap.size<=(W'.setCell ⟨g,3,none⟩ ve').heap.size/\∀ q ob,W.heap[q]? = some ob->ve.ownBlock ≠ some q->q ≠ g->(W'.setCell ⟨g,3,none⟩ ve').heap[q]? = some ob:=by
 have hout:=h.app ha
 have hc:Chg w.heap.size 26 (some g) W' (W'.setCell ⟨g,3,none⟩ ve'):=⟨fun b o hb hne=>bSn hb _ _ (fun e=>hne (by rw [e])),by simp [World.setCell],fun q hq=>by cases hq;exact⟨Nat.le_of_lt hg,_,_,hout⟩⟩
 refine⟨⟨?_,bS hout _,ha.own.other okE hc (by decide) (by decide),(h.ats.chg okA ha.chg (by decide) (by decide)).chg okA hc (by decide) (by decide),(h.red.chg okS ha.chg (by decide) (by decide)).chg okS hc (by decide) (by decide),Below.setCell (p:=⟨g,3,none⟩) ha.below (Nat.le_of_lt hg) _⟩,Nat.le_trans ha.chg.size hc.size,fun q ob hq h1 h2=>hc.keep _ _ (ha.chg.keep _ _ hq h1) (fun e=>h2 (by injection e with e;exact e.symm))⟩
 exact bSn (ha.chg.keep _ _ h.res (zXH h.own h.res)) _ _ (fun e=>by have e:w.heap.size=g:=e;omega)
end
structure DrC (b:List BrN) (ab mb D gk:Nat) (lk:Value) (l:List Nat) (B:Nat) (W:World):Prop where
 box:W.heap[ab]? = some (.cells #[.map (some mb)] 146 (0,0))
 map:∃ n f,zAD kI W mb n f/\∀ i:Nat,i < b.length->f (i:Int)=some (.int .i64 (abv (plT b) i))
 kids:zAg cdN B W lk l
 dfr:W.heap[D]? = some (.deferred (some []))
theorem DrC.abv {b:List BrN} {ab mb D gk B:Nat} {lk:Value} {l:List Nat} {W:World} (h:DrC b ab mb D gk lk l B W):zVi b ab W:=by
 obtain⟨n,f,h1,h2⟩:=h.map
 exact⟨mb,n,f,bC h.box 0,bL h.box,h1,h2⟩
theorem DrC.up {b:List BrN} {ab mb D gk B:Nat} {lk:Value} {l:List Nat} {W V:World} (h:DrC b ab mb D gk lk l B W) (he:Ext W V):DrC b ab mb D gk lk l B V:=by
 obtain⟨n,f,h1,h2⟩:=h.map
 exact⟨bX he h.box,⟨n,f,h1.ext he,h2⟩,h.kids.ext okN he,bX he h.dfr⟩
theorem DrC.step {b:List BrN} {ab mb D gk B g:Nat} {lk ve:Value} {l:List Nat} {es:List DeN} {W V:World} {cs:Array Value} {f:Nat × Nat} (h:DrC b ab mb D gk lk l B W) (ho:zAg cdE B W ve es) (hg:W.heap[g]? = some (.cells cs 26 f))
  (hk:∀ (q:Nat) (ob:Obj),W.heap[q]? = some ob->ve.ownBlock ≠ some q->q ≠ g->V.heap[q]? = some ob):DrC b ab mb D gk lk l B V:=by
 have hr:∀ (q:Nat) (ob:Obj),W.heap[q]? = some ob->(∀ c f,ob ≠ Obj.cells c 66 f)->(∀ c f,ob ≠ Obj.cells c 26 f)->V.heap[q]? = some ob:=fun q ob hq h1 h2=>hk q ob hq (fun e=>by
  obtain⟨_,c,f,h9⟩:=ho.row rfl _ e
  rw [hq] at h9;cases h9;exact h1 _ _ rfl) (fun e=>by subst e;rw [hq] at hg;cases hg;exact h2 _ _ rfl)
 obtain⟨n,fm,⟨es',c,h1,h2⟩,h3⟩:=h.map
 refine⟨hr _ _ h.box (fun _ _ e=>by cases e) (fun _ _ e=>by cases e),⟨n,fm,⟨es',c,hr _ _ h1 (fun _ _ e=>by cases e) (fun _ _ e=>by cases e),h2⟩,h3⟩,?_,hr _ _ h.dfr (fun _ _ e=>by cases e) (fun _ _ e=>by cases e)⟩
 exact h.kids.keep1 fun q c e f hq hh=>by
  obtain⟨_,c2,f2,h9⟩:=h.kids.row rfl _ hq
  rw [hh] at h9
  cases h9
  exact hr _ _ hh (fun _ _ e=>by cases e) (fun _ _ e=>by cases e)
def zUG (bb off ix m cap len nl cn B0 B1:Nat) (an:Option Addr) (va vr:Value) (y:BrN):Nat->Value->World->Prop
 | 0,v,_=>v= .slice (some ⟨bb,off,none⟩) len cap
 | 1,v,_=>v= .int .i64 ix
 | 2,v,_=>v= .pointer (some ⟨bb,off+ix * 10,none⟩)
 | 3,v,_=>v= .pointer (some ⟨bb,off+ix * 10+1,none⟩)
 | 4,v,_=>v= .string y.nm
 | 5,v,_=>v= .slice (some ⟨bb,off,none⟩) len cap
 | 6,v,_=>v= .int .i64 ix
 | 7,v,_=>v= .pointer (some ⟨bb,off+ix * 10,none⟩)
 | 8,v,_=>v= .agg #[.int .i64 y.dep,.string y.nm,.int .i64 y.kd,va,.string y.dat,.int .i64 y.ma,.int .i64 y.mi,.int .i64 y.cl,.bool y.opq,vr]
 | 9,v,w=>∃ a c,v= .agg #[.int .i64 y.dep,.string y.nm,.int .i64 y.kd,.slice a y.ats.length c,.string y.dat,.int .i64 y.ma,.int .i64 y.mi,.int .i64 y.cl]/\zAK B0 w (.slice a y.ats.length c) y.ats
 | 10,v,_=>v= .slice (some ⟨bb,off,none⟩) len cap
 | 11,v,_=>v= .int .i64 ix
 | 12,v,_=>v= .pointer (some ⟨bb,off+ix * 10,none⟩)
 | 13,v,_=>v= .pointer (some ⟨bb,off+ix * 10+2,none⟩)
 | 14,v,_=>v= .int .i64 y.kd
 | 15,v,_=>v= .bool (y.kd == 5)
 | 16,v,_=>v= .int .i64 m
 | 17,v,_=>v= .int .i64 ix
 | 18,v,_=>v= .bool ((m:Int) == (ix:Int))
 | 19,v,_=>v= .slice an nl cn
 | 20,v,_=>v= .int .i64 (nl:Nat)
 | 21,v,w=>∃ a c,v= .agg #[.string y.nm,.int .i64 y.dep,.string y.nm,.int .i64 y.kd,.slice a y.ats.length c,.string y.dat,.int .i64 y.ma,.int .i64 y.mi,.int .i64 y.cl,.bool (y.kd == 5),.bool ((m:Int) == (ix:Int)),.int .i64 (nl:Nat)]/\zAK B0 w (.slice a y.ats.length c) y.ats
 | 22,v,w=>∃ g,v= .pointer (some ⟨g,0,none⟩)/\B1<=g/\w.heap[g]? = some (.cells #[.string ⟨#[]⟩,.int .i64 0,.string ⟨#[]⟩,.int .i64 0,.slice none 0 0,.string ⟨#[]⟩,.int .i64 0,.int .i64 0,.int .i64 0,.bool false,.bool false,.int .i64 0] 66 (0,0))
 | _,_,_=>True
theorem zOk {bb off ix m cap len nl cn B0 B1:Nat} {an:Option Addr} {va vr:Value} {y:BrN}:∀ (i:Nat) (v:Value) (w w':World),zUG bb off ix m cap len nl cn B0 B1 an va vr y i v w->Ext w w'->zUG bb off ix m cap len nl cn B0 B1 an va vr y i v w':=by
 intro i v w w' hh he
 match i,hh with
 | 0,h=>exact h
 | 1,h=>exact h
 | 2,h=>exact h
 | 3,h=>exact h
 | 4,h=>exact h
 | 5,h=>exact h
 | 6,h=>exact h
 | 7,h=>exact h
 | 8,h=>exact h
 | 9,⟨a,c,h,h2⟩=>exact⟨a,c,h,h2.ext okA he⟩
 | 10,h=>exact h
 | 11,h=>exact h
 | 12,h=>exact h
 | 13,h=>exact h
 | 14,h=>exact h
 | 15,h=>exact h
 | 16,h=>exact h
 | 17,h=>exact h
 | 18,h=>exact h
 | 19,h=>exact h
 | 20,h=>exact h
 | 21,⟨a,c,h,h2⟩=>exact⟨a,c,h,h2.ext okA he⟩
 | 22,⟨g,h,h2⟩=>exact⟨g,h,⟨h2.1,bX he h2.2⟩⟩
 | i+23,_=>trivial
def zXe (bb off n cap len B0 B1:Nat) (va vr:Value) (x:BrN):Nat->Value->World->Prop
 | 0,v,_=>v= .slice (some ⟨bb,off,none⟩) len cap
 | 1,v,_=>v= .int .i64 n
 | 2,v,_=>v= .pointer (some ⟨bb,off+n * 10,none⟩)
 | 3,v,_=>v= .pointer (some ⟨bb,off+n * 10+3,none⟩)
 | 4,v,_=>v=va
 | 5,v,w=>∃ a c,v= .slice a x.ats.length c/\zAK B0 w (.slice a x.ats.length c) x.ats
 | 6,v,_=>v= .slice (some ⟨bb,off,none⟩) len cap
 | 7,v,_=>v= .int .i64 n
 | 8,v,_=>v= .pointer (some ⟨bb,off+n * 10,none⟩)
 | 9,v,_=>v= .pointer (some ⟨bb,off+n * 10+8,none⟩)
 | 10,v,_=>v= .bool x.opq
 | 11,v,_=>v= .slice (some ⟨bb,off,none⟩) len cap
 | 12,v,_=>v= .int .i64 n
 | 13,v,_=>v= .pointer (some ⟨bb,off+n * 10,none⟩)
 | 14,v,_=>v= .pointer (some ⟨bb,off+n * 10+9,none⟩)
 | 15,v,_=>v=vr
 | 16,v,w=>∃ a c,v= .slice a x.red.length c/\zCu B0 w (.slice a x.red.length c) x.red
 | 17,v,w=>∃ a c a2 c2,v= .agg #[.slice a x.ats.length c,.bool x.opq,.slice a2 x.red.length c2,.slice none 0 0]/\zAK B0 w (.slice a x.ats.length c) x.ats/\zCu B0 w (.slice a2 x.red.length c2) x.red
 | 18,v,w=>∃ g,v= .pointer (some ⟨g,0,none⟩)/\B1<=g/\w.heap[g]? = some (.cells #[.slice none 0 0,.bool false,.slice none 0 0,.slice none 0 0] 26 (0,0))
 | _,_,_=>True
theorem zQr {bb off n cap len B0 B1:Nat} {va vr:Value} {x:BrN}:∀ (i:Nat) (v:Value) (w w':World),zXe bb off n cap len B0 B1 va vr x i v w->Ext w w'->zXe bb off n cap len B0 B1 va vr x i v w':=by
 intro i v w w' hh he
 match i,hh with
 | 0,h=>exact h
 | 1,h=>exact h
 | 2,h=>exact h
 | 3,h=>exact h
 | 4,h=>exact h
 | 5,⟨a,c,h,h2⟩=>exact⟨a,c,h,h2.ext okA he⟩
 | 6,h=>exact h
 | 7,h=>exact h
 | 8,h=>exact h
 | 9,h=>exact h
 | 10,h=>exact h
 | 11,h=>exact h
 | 12,h=>exact h
 | 13,h=>exact h
 | 14,h=>exact h
 | 15,h=>exact h
 | 16,⟨a,c,h,h2⟩=>exact⟨a,c,h,h2.ext okS he⟩
 | 17,⟨a,c,a2,c2,h,h2⟩=>exact⟨a,c,a2,c2,h,⟨h2.1.ext okA he,h2.2.ext okS he⟩⟩
 | 18,⟨g,h,h2⟩=>exact⟨g,h,⟨h2.1,bX he h2.2⟩⟩
 | i+19,_=>trivial
def plV:Value->Bool
 | .string _=>true
 | .int _ _=>true
 | _=>false
theorem zAj.keepY {α:Type} {C:Cd α} {B b:Nat} {w W:World} {v:Value} {l:List α} (h:zAj C B w v l) (hf:∀ {B w x cs},C.R B w x cs->∃ u,cs[0]? = some u/\plV u=true) (hk:zAA (some b) w W) (hs:w.heap.size<=W.heap.size)
  (hb:∀ o u,w.cell? ⟨b,o,none⟩=some u->plV u=false) (hR:∀ x cs,C.R B w x cs->C.R B W x cs):zAj C B W v l:=by
 obtain⟨a,cap,rfl,hcap,hn,hc⟩:=h
 have hne:∀ k (h:k < l.length) b' off,a=some ⟨b',off,none⟩->b' ≠ b:=by
  rintro k hk' b' off rfl rfl
  obtain⟨b2,off2,cs,he,_,hr,hrow⟩:=hc k hk'
  cases he
  obtain⟨s,h0,h1⟩:=hf hr
  rw [hb _ s (hrow 0 _ h0)] at h1;cases h1
 refine⟨a,cap,rfl,hcap,fun h0 b' hb'=>?_,fun i hi=>?_⟩
 ·obtain⟨b2,off2,cs2,rfl,_⟩:=hc 0 h0
  cases hb'
  refine(hn h0 b2 rfl).imp_right fun ⟨cs,f,h1⟩=>⟨cs,f,hk _ _ h1 (fun e=>hne 0 h0 b2 off2 rfl (by injection e with e;exact e.symm))⟩
 ·obtain⟨b2,off2,cs,rfl,hb2,hr,hrow⟩:=hc i hi
  refine⟨b2,off2,cs,rfl,Nat.lt_of_lt_of_le hb2 hs,hR _ _ hr,fun j u hj=>?_⟩
  rw [zEL hk hb2 (fun e=>hne i hi b2 off2 rfl (by injection e with e;exact e.symm))]
  exact hrow j u hj
section
variable {B b:Nat} {w W:World} (hk:zAA (some b) w W) (hs:w.heap.size<=W.heap.size) (hb:∀ o u,w.cell? ⟨b,o,none⟩=some u->plV u=false)
include hb in
theorem zGh:∀ o s,w.cell? ⟨b,o,none⟩ ≠ some (.string s):=fun o s e=>by have:=hb o _ e;cases this
include hk hs hb
theorem zKN (x:BrN) (cs:List Value) (h:cdB.R B w x cs):cdB.R B W x cs:=by
 obtain⟨va,vr,h1,h2,h3⟩:=h
 exact⟨va,vr,h1.keepX zVd hk hs (zGh hb) fun _ _ h=>h,h2.keepX zXc hk hs (zGh hb) fun _ _ h=>h,h3⟩
theorem zC4.keepY {v:Value} {l:List BrN} (h:zC4 B w v l):zC4 B W v l:=
 zAj.keepY h (fun h=>by obtain⟨_,_,_,_,rfl⟩:=h;exact⟨_,rfl,rfl⟩) hk hs hb (zKN hk hs hb)
theorem zAg.keepB {v:Value} {l:List BrN} (h:zAg cdB B w v l) (hne:v.ownBlock ≠ some b):zAg cdB B W v l:=by
 obtain⟨css,hl,hR,ho⟩:=h
 refine⟨css,hl,fun i hi hi'=>zKN hk hs hb _ _ (hR i hi hi'),ho.1,?_⟩
 rcases ho.2 with h1 | ⟨g,cap,cur,rfl,hb',hg,h3⟩
 ·exact .inl h1
 ·exact .inr ⟨g,cap,cur,rfl,hb',hk _ _ hg (fun x=>hne (by rw [x];rfl)),h3⟩
end
theorem zIK {B:Nat} {X Y:World} (h:Below B X Y) (p:Addr) (v:Value):Below B (X.setCell p v) (Y.setCell p v):=by
 refine⟨h.os,h.tape,h.output,by simpa [World.setCell] using h.size,fun k hk=>?_⟩
 have:=h.block k hk
 unfold World.setCell
 simp only [Array.getElem?_modify,this]
theorem set_set (X:World) (p:Addr) (u v:Value):(X.setCell p u).setCell p v=X.setCell p v:=by
 unfold World.setCell
 simp only [World.mk.injEq,and_true]
 apply Array.ext_getElem?
 intro i
 simp only [Array.getElem?_modify]
 by_cases e:p.block=i
 ·rw [if_pos e,if_pos e,if_pos e]
  cases X.heap[i]? with
  | none=>rfl
  | some o=>
   cases o <;> simp
   by_cases hs:p.spot.isSome=true <;> simp [hs]
 ·rw [if_neg e,if_neg e,if_neg e]
structure BdW (Wc:World) (pb mb:Nat) (old fv v0:Value) (b:List BrN) (D:Nat->DiN):Prop where
 box:Wc.heap[pb]? = some (.cells #[old,.map (some mb),fv,v0] 98 (0,0))
 map:∃ n f,zAD kI Wc mb n f/\∀ i:Nat,i < b.length->(zAk b i).kd=1->∃ v,f i=some v/\zBK Wc.heap.size Wc v (D i)
 tree:zC4 Wc.heap.size Wc old b
 fn:plV fv=false
 low:plV v0=false
def Bd (Wc:World) (pb:Nat) (vo:Value) (W:World):Prop:=Below Wc.heap.size (Wc.setCell ⟨pb,3,none⟩ vo) W
section
variable {Wc W:World} {pb mb:Nat} {old fv v0 vo vo':Value} {b:List BrN} {D:Nat->DiN}
theorem zKR (hW:Bd Wc pb vo W):Ext (Wc.setCell ⟨pb,3,none⟩ vo) W:=by
 have h:=hW;unfold Bd at h
 have:(Wc.setCell ⟨pb,3,none⟩ vo).heap.size=Wc.heap.size:=by simp [World.setCell]
 rw [<- this] at h;exact h
theorem zFk (hW:Bd Wc pb vo W) {V:World} (h:Ext W V):Bd Wc pb vo V:=Below.trans hW (h.mono (by have:=hW.size;simp [World.setCell] at this;exact this))
theorem zD9 (hW:Bd Wc pb vo W):Wc.heap.size<=W.heap.size:=by have:=hW.size;simp [World.setCell] at this;exact this
theorem zV2 (h:BdW Wc pb mb old fv v0 b D):pb < Wc.heap.size:=bL h.box
theorem zNr (h:BdW Wc pb mb old fv v0 b D):∃ a cap,old= .slice a b.length cap:=h.tree.form
theorem zNq (h:BdW Wc pb mb old fv v0 b D):∀ o u,Wc.cell? ⟨pb,o,none⟩=some u->plV u=false:=by
 intro o u e
 rw [bC h.box] at e
 obtain⟨a,cap,ho⟩:=zNr h
 match o,e with
 | 0,e=>cases e;rw [ho];rfl
 | 1,e=>cases e;rfl
 | 2,e=>cases e;exact h.fn
 | 3,e=>cases e;exact h.low
 | k+4,e=>simp at e
theorem zLZ (Wc:World) (pb:Nat) (vo:Value):zAA (some pb) Wc (Wc.setCell ⟨pb,3,none⟩ vo):=fun q o hq hne=>bSn hq _ _ (fun e=>hne (by rw [e]))
theorem zDr (h:BdW Wc pb mb old fv v0 b D) (hW:Bd Wc pb vo W):W.heap[pb]? = some (.cells #[old,.map (some mb),fv,vo] 98 (0,0)):=
 bX (zKR hW) (bS h.box _)
theorem zQY (h:BdW Wc pb mb old fv v0 b D) (hW:Bd Wc pb vo W):zC4 Wc.heap.size W old b:=
 zAj.ext (zC4.keepY (zLZ Wc pb vo) (by simp [World.setCell]) (zNq h) h.tree) okB (zKR hW)
theorem zTC {l:List BrN} {W1 W2:World} (h:BdW Wc pb mb old fv v0 b D) (hv:plV vo=false) (ho:zAg cdB Wc.heap.size W1 vo l) (hW:Bd Wc pb vo W1) {l2:List BrN} (ha:zH6 cdB Wc.heap.size vo vo' l2 (Wc.setCell ⟨pb,3,none⟩ vo) W1 W2) :
  Bd Wc pb vo' (W2.setCell ⟨pb,3,none⟩ vo')/\zAg cdB Wc.heap.size (W2.setCell ⟨pb,3,none⟩ vo') vo' l2/\W2.heap[pb]? = some (.cells #[old,.map (some mb),fv,vo] 98 (0,0)):=by
 have hne:∀ v:Value,∀ l W,zAg cdB Wc.heap.size W v l->v.ownBlock ≠ some pb:=fun v l W hv e=>by
  have:=(hv.row e _ rfl).1
  have:=zV2 h;omega
 have hbx:=ha.chg.keep _ _ (zDr h hW) (hne _ _ _ ho)
 refine⟨?_,ha.own.keepB (zLZ W2 pb vo') (by simp [World.setCell]) ?_ (hne _ _ _ ha.own),hbx⟩
 ·have:=zIK ha.below ⟨pb,3,none⟩ vo'
  rw [set_set] at this
  exact this
 ·intro o u e
  rw [bC hbx] at e
  obtain⟨a,cap,hold⟩:=zNr h
  match o,e with
  | 0,e=>cases e;rw [hold];rfl
  | 1,e=>cases e;rfl
  | 2,e=>cases e;exact h.fn
  | 3,e=>cases e;exact hv
  | k+4,e=>simp at e
end
def BdS (pb:Nat) (vo vo':Value) (W W':World):Prop:=W.heap.size<=W'.heap.size/\(∀ q o,W.heap[q]? = some o->q ≠ pb->vo.ownBlock ≠ some q->W'.heap[q]? = some o)/\(vo'.ownBlock=vo.ownBlock\/∀ q,vo'.ownBlock=some q->W.heap.size<=q)
theorem zSV (pb:Nat) (vo:Value) (W:World):BdS pb vo vo W W:=⟨Nat.le_refl _,fun _ _ h _ _=>h,.inl rfl⟩
theorem BdS.trans {pb:Nat} {v v' v2:Value} {W W' W2:World} (h:BdS pb v v' W W') (k:BdS pb v' v2 W' W2):BdS pb v v2 W W2:=by
 refine⟨Nat.le_trans h.1 k.1,fun q o hq h1 h2=>k.2.1 q o (h.2.1 q o hq h1 h2) h1 ?_,?_⟩
 ·rcases h.2.2 with e | e
  ·rw [e];exact h2
  ·intro e2;have:=e q e2;have:=bL hq;omega
 ·rcases k.2.2 with e | e
  ·rcases h.2.2 with e2 | e2
   ·exact .inl (e.trans e2)
   ·exact .inr fun q hq=>e2 q (e.symm.trans hq)
  ·exact .inr fun q hq=>Nat.le_trans h.1 (e q hq)
theorem zD8 {pb:Nat} {v:Value} {W W':World} (h:Ext W W'):BdS pb v v W W':=⟨h.size,fun _ _ hq _ _=>bX h hq,.inl rfl⟩
theorem BdS.blk {B pb q:Nat} {v v':Value} {l:List BrN} {W W':World} {cs:Array Value} {e:TypeId} {f:Nat × Nat} {c0:Array Value} {f0:Nat × Nat} (h:BdS pb v v' W W') (ho:zAg cdB B W v l) (hp:W.heap[pb]? = some (.cells c0 98 f0)) (hq:W.heap[q]? = some (.cells cs e f)) (h1:e ≠ 98) (h2:e ≠ 46):W'.heap[q]? = some (.cells cs e f):=by
 refine h.2.1 q _ hq (fun e1=>?_) fun e1=>?_
 ·subst e1;rw [hp] at hq;cases hq;exact h1 rfl
 ·obtain⟨_,c,f',h9⟩:=ho.row rfl _ e1
  rw [hq] at h9;cases h9;exact h2 rfl
theorem zQX {Wc W1 W2:World} {pb:Nat} {vo vo':Value} {l2:List BrN} {w0:World} (ha:zH6 cdB Wc.heap.size vo vo' l2 w0 W1 W2):BdS pb vo vo' W1 (W2.setCell ⟨pb,3,none⟩ vo'):=by
 refine⟨by simpa [World.setCell] using ha.chg.size,fun q o hq h1 h2=>bSn (ha.chg.keep _ _ hq h2) _ _ (fun e=>h1 e),?_⟩
 rcases ha.lies with e | e
 ·exact .inl e
 ·exact .inr fun q hq=>by rw [e] at hq;injection hq with hq;omega
theorem zTB {Wc W:World} {pb mb:Nat} {old fv v0 vo:Value} {b:List BrN} {D:Nat->DiN} (h:BdW Wc pb mb old fv v0 b D) (hW:Bd Wc pb vo W) {v:Value} {d:DiN} (hd:zBK Wc.heap.size Wc v d):zBK Wc.heap.size W v d:=
 (hd.keepX (zLZ Wc pb vo) (by simp [World.setCell]) (zGh (zNq h))).ext (zKR hW)
theorem zVP {α β:Type} (f:α->List β) (L:List α) (m:Nat):((L.take m).flatMap f).length<=(L.flatMap f).length:=by
 have h:=congrArg List.length (congrArg (List.flatMap f) (List.take_append_drop m L))
 rw [List.flatMap_append,List.length_append] at h
 omega
def zF7 (b:List BrN) (D:Nat->DiN) (back:ByteArray->ByteArray) (n i:Nat) (d:Int) (x:DeN):List BrN:=if x.nd.kd=1 then (zOA x (D (zTn b i (back x.nm)))).at d :: zH9 b D back n (zTn b i (back x.nm)) (d+1) else [(zOv x).at d]
theorem zKQ (b:List BrN) (D:Nat->DiN) (back:ByteArray->ByteArray) (n i:Nat) (d:Int):zH9 b D back (n+1) i d=(D i).ens.flatMap (zF7 b D back n i d):=rfl
def blI (W0 W1:World) (g:Nat) (c0 c1 c2 A3 A2 c4 c5 c6 c7 c9:Value) (o2:Bool) (z:Nat->Bool) (_:Tmp->Value) (V:World):Prop:=
 Ext W0 V/\zAA (some g) W1 V/\W1.heap.size<=V.heap.size/\V.heap[g]? = some (.cells #[c0,c1,c2,if z 15=true then A2 else A3,c4,c5,c6,c7,.bool (if z 17=true then o2 else false),c9] 46 (0,0))
theorem zBt {W0 W1 V:World} {g:Nat} {c0 c1 c2 A3 A2 c4 c5 c6 c7 c9:Value} {o2:Bool} {z z':Nat->Bool} {vs vs':Tmp->Value} (h1:z' 15=z 15) (h2:z' 17=z 17) (h:blI W0 W1 g c0 c1 c2 A3 A2 c4 c5 c6 c7 c9 o2 z vs V):blI W0 W1 g c0 c1 c2 A3 A2 c4 c5 c6 c7 c9 o2 z' vs' V:=by
 unfold blI at h ⊢
 rw [h1,h2];exact h
theorem zQT {W0 W1 V V':World} {g:Nat} {c0 c1 c2 A3 A2 c4 c5 c6 c7 c9:Value} {o2:Bool} {z z':Nat->Bool} {vs vs':Tmp->Value} {j:Nat} {u:Value} (h:blI W0 W1 g c0 c1 c2 A3 A2 c4 c5 c6 c7 c9 o2 z vs V) (hg:W0.heap.size<=g) (hV:V'=V.setCell ⟨g,j,none⟩ u)
  (hc:#[c0,c1,c2,if z' 15=true then A2 else A3,c4,c5,c6,c7,.bool (if z' 17=true then o2 else false),c9]= #[c0,c1,c2,if z 15=true then A2 else A3,c4,c5,c6,c7,.bool (if z 17=true then o2 else false),c9].setIfInBounds j u):blI W0 W1 g c0 c1 c2 A3 A2 c4 c5 c6 c7 c9 o2 z' vs' V':=by
 obtain⟨h1,h2,h3,h4⟩:=h
 subst hV
 unfold blI
 rw [hc]
 exact⟨Below.setCell (p:=⟨g,j,none⟩) h1 hg _,fun q o hq hne=>bSn (h2 q o hq hne) _ _ (fun e=>hne (by rw [e])),by simpa [World.setCell] using h3,bS h4 _⟩
theorem zDV (w:World):(zeroValue 26).run Tryz.prog w= .ok (.agg #[.slice none 0 0,.bool false,.slice none 0 0,.slice none 0 0]) w:=by kernel_rfl
theorem zFV (a1 a2 a3:Option Addr) (n1 n2 n3 c1 c2 c3:Nat) (o:Bool) (w:World):(Instr.field 26 (.agg #[.slice a1 n1 c1,.bool o,.slice a2 n2 c2,.slice a3 n3 c3]) 3).run Tryz.prog w= .ok (.slice a3 n3 c3) w /\
 (Instr.field 26 (.agg #[.slice a1 n1 c1,.bool o,.slice a2 n2 c2,.slice a3 n3 c3]) 0).run Tryz.prog w= .ok (.slice a1 n1 c1) w/\(Instr.field 26 (.agg #[.slice a1 n1 c1,.bool o,.slice a2 n2 c2,.slice a3 n3 c3]) 1).run Tryz.prog w= .ok (.bool o) w:=⟨by kernel_rfl,by kernel_rfl,by kernel_rfl⟩
theorem zBM:Tryz.prog.underlying 95=some (.map 3 26):=Tryz.underlying95
theorem zIz {B n cap:Nat} {w:World} {a:Option Addr} {l:List Nat} (h:zAj cdN B w (.slice a n cap) l) (k:Nat) (hk:k < l.length):∃ b off,a=some ⟨b,off,none⟩/\b < w.heap.size/\w.cell? ⟨b,off+k,none⟩=some (.int .i64 (l[k]'hk:Nat)):=by
 obtain⟨a',cap',he,_,_,hc⟩:=h
 cases he
 obtain⟨b,off,cs,h1,h2,h3,h4⟩:=hc k hk
 have h3:cs= [.int .i64 (l[k]'hk:Nat)]:=h3
 subst h3
 have:=h4 0 _ rfl
 exact⟨b,off,h1,h2,by rw [Nat.add_zero,show off+k * cdN.n=off+k from by rw [show cdN.n=1 from rfl,Nat.mul_one]] at this;exact this⟩
theorem zUC {l:List Nat} {P:Nat->Bool} {k:Nat} (h:l.find? P=some k):∃ (j:Nat) (hj:j < l.length),l[j]'hj=k/\P k=true/\∀ i (hi:i < l.length),i < j->P (l[i]'hi)=false:=by
 induction l with
 | nil=>cases h
 | cons x r ih=>
  rw [List.find?_cons] at h
  cases hx:P x with
  | true=>rw [hx] at h;cases h;exact⟨0,by simp,rfl,hx,fun i _ hi=>absurd hi (by omega)⟩
  | false=>
   rw [hx] at h
   obtain⟨j,hj,h1,h2,h3⟩:=ih h
   refine⟨j+1,by simpa using hj,by simpa using h1,h2,fun i hi hij=>?_⟩
   cases i with
   | zero=>exact hx
   | succ i=>exact h3 i (by simpa using hi) (by omega)
def zXm (pb fb gx B1:Nat) (nm nb:ByteArray):Nat->Value->World->Prop
 | 0,v,_=>v= .pointer (some ⟨pb,0,none⟩)
 | 1,v,_=>v= .pointer (some ⟨pb,0,none⟩)
 | 2,v,_=>v= .pointer (some ⟨pb,2,none⟩)
 | 3,v,_=>v= .func (.func fb) #[] #[]
 | 4,v,_=>v= .pointer (some ⟨gx,0,none⟩)
 | 5,v,_=>v= .string nm
 | 6,v,_=>v= .string nb
 | 7,v,w=>∃ g,v= .pointer (some ⟨g,0,none⟩)/\B1<=g/\w.heap[g]? = some (.cells #[.string ⟨#[]⟩] 9 (0,0))
 | _,_,_=>True
theorem zQU {pb fb gx B1:Nat} {nm nb:ByteArray}:∀ (i:Nat) (v:Value) (w w':World),zXm pb fb gx B1 nm nb i v w->Ext w w'->zXm pb fb gx B1 nm nb i v w':=by
 intro i v w w' hh he
 match i,hh with
 | 0,h=>exact h
 | 1,h=>exact h
 | 2,h=>exact h
 | 3,h=>exact h
 | 4,h=>exact h
 | 5,h=>exact h
 | 6,h=>exact h
 | 7,⟨g,h,h2⟩=>exact⟨g,h,⟨h2.1,bX he h2.2⟩⟩
 | i+8,_=>trivial
theorem zPq (w:World):zAg zOB w.heap.size (w.alloc (.cells #[.int .i64 1,.string zBn,.int .i64 1,.slice none 0 0,.string ⟨#[]⟩,.int .i64 0,.int .i64 0,.int .i64 0] 59)) (.slice (some ⟨w.heap.size,0,none⟩) 1 1) [zOw]:=
 ⟨[trC zOw (.slice none 0 0)],rfl,fun k h h'=>by
  obtain rfl:k=0:=by simp at h;omega
  exact⟨_,zCM _ _ _,rfl⟩,rfl,.inr ⟨w.heap.size,1,_,rfl,Nat.le_refl _,bN w _,Nat.le_refl _,by unfold maxLen;omega,rfl,rfl⟩⟩
theorem zEf {x:Int} (h0:0<=x) (h1:x < 256):IntKind.u8.wrap x=x:=by
 show x % 256=x
 omega
theorem zSL (w:World) (g:Nat) (c d:Int) (hg:w.heap[g]? = some (.cells #[.int .u8 c,.int .u8 d] 5 (0,0))):(convert 170 9 (.slice (some ⟨g,0,none⟩) 2 2)).run Tryz.prog w= .ok (.string ⟨#[UInt8.ofNat c.toNat,UInt8.ofNat d.toNat]⟩) w:=by
 have h:=run_convert_bytes_arg (P:=Tryz.prog) w 170 5 Tryz.underlying170 Tryz.underlying5 g 0 2 2 [c,d] rfl (fun i hi=>by
  match i,hi with
  | 0,_=>exact bC hg 0
  | 1,_=>exact bC hg 1) 9 Tryz.underlying9
 exact h
def pkI (W0 W1:World) (g:Nat) (c0 c1 c2 c3 c4 c5 c6 c7:Value) (s:ByteArray) (x y:Int) (z:Nat->Bool) (vs:Tmp->Value) (V:World):Prop:=
 Ext W0 V/\zAA (some g) W1 V/\W1.heap.size<=V.heap.size/\V.heap[g]? = some (.cells #[if z 11=true then .int .i64 2 else c0,if z 13=true then .string s else c1,c2,c3,c4,c5,c6,c7] 59 (0,0)) /\
  (z 8=true->∃ g2,vs 34= .slice (some ⟨g2,0,none⟩) 2 2/\g2 ≠ g/\V.heap[g2]? = some (.cells #[.int .u8 x,.int .u8 y] 5 (0,0)))
section
variable {W0 W1 V V':World} {g:Nat} {c0 c1 c2 c3 c4 c5 c6 c7:Value} {s:ByteArray} {x y:Int} {z z':Nat->Bool} {vs vs':Tmp->Value}
theorem zCi (h1:z' 8=z 8) (h2:z' 11=z 11) (h3:z' 13=z 13) (h4:vs' 34=vs 34) (h:pkI W0 W1 g c0 c1 c2 c3 c4 c5 c6 c7 s x y z vs V):pkI W0 W1 g c0 c1 c2 c3 c4 c5 c6 c7 s x y z' vs' V:=by
 unfold pkI at h ⊢
 rw [h1,h2,h3,h4];exact h
theorem zPn {j:Nat} {u:Value} (h:pkI W0 W1 g c0 c1 c2 c3 c4 c5 c6 c7 s x y z vs V) (hg:W0.heap.size<=g) (h1:z' 8=z 8) (h4:vs' 34=vs 34) (hV:V'=V.setCell ⟨g,j,none⟩ u)
  (hc:#[if z' 11=true then .int .i64 2 else c0,if z' 13=true then .string s else c1,c2,c3,c4,c5,c6,c7]= #[if z 11=true then .int .i64 2 else c0,if z 13=true then .string s else c1,c2,c3,c4,c5,c6,c7].setIfInBounds j u):pkI W0 W1 g c0 c1 c2 c3 c4 c5 c6 c7 s x y z' vs' V':=by
 obtain⟨k1,k2,k3,k4,k5⟩:=h
 subst hV
 unfold pkI
 rw [hc,h1,h4]
 refine⟨Below.setCell (p:=⟨g,j,none⟩) k1 hg _,fun q o hq hne=>bSn (k2 q o hq hne) _ _ (fun e=>hne (by rw [e])),by simpa [World.setCell] using k3,bS k4 _,fun hz=>?_⟩
 obtain⟨g2,e1,e2,e3⟩:=k5 hz
 exact⟨g2,e1,e2,bSn e3 _ _ (fun e=>e2 (by first | exact e | exact e.symm))⟩
theorem zUg {o:Obj} (h:pkI W0 W1 g c0 c1 c2 c3 c4 c5 c6 c7 s x y z vs V) (hn:vs' 34= .slice (some ⟨V.heap.size,0,none⟩) 2 2) (h2:z' 11=z 11) (h3:z' 13=z 13) (ho:o= .cells #[.int .u8 x,.int .u8 y] 5 (0,0)):pkI W0 W1 g c0 c1 c2 c3 c4 c5 c6 c7 s x y z' vs' (V.alloc o):=by
 obtain⟨k1,k2,k3,k4,k5⟩:=h
 subst ho
 unfold pkI
 rw [h2,h3]
 exact⟨Ext.trans k1 (eA _ _),fun q o hq hne=>bA (k2 q o hq hne),Nat.le_trans k3 (eA _ _).size,bA k4,fun _=>⟨_,hn,fun e=>by have:=bL k4;omega,bN _ _⟩⟩
end
def zTo (w:World):Value->Int
 | .pointer (some a)=>intOf ((w.cell? a).getD undef)
 | _=>0
theorem zKA {w:World} {g:Nat} {c:Int} {t:TypeId} {f:Nat × Nat} (h:w.heap[g]? = some (.cells #[.int .i64 c] t f)):zTo w (.pointer (some ⟨g,0,none⟩))=c:=by
 show intOf ((w.cell? ⟨g,0,none⟩).getD undef)=c
 rw [bC h 0];rfl
def zWJ (SV:Value) (c N:Nat):Nat->Value->World->Prop
 | 0,v,_=>v= .int .i64 c
 | 1,v,_=>v=SV
 | 2,v,_=>v= .int .i64 N
 | _,_,_=>True
theorem zKo {SV:Value} {c N:Nat}:∀ (i:Nat) (v:Value) (w w':World),zWJ SV c N i v w->Ext w w'->zWJ SV c N i v w':=by
 intro i v w w' hh he
 match i,hh with
 | 0,h=>exact h
 | 1,h=>exact h
 | 2,h=>exact h
 | i+3,_=>trivial
attribute [local go_sem] Oper.semAt_some
def XeM (W W':World):Prop:=∀ (q:Nat) (o:Obj),W.heap[q]? = some o->(∀ r,o ≠ .loop r)->W'.heap[q]? = some o
theorem zIR (W W':World) (h:Ext W W'):XeM W W':=fun _ _ hk _=>bX h hk
theorem zOF (W:World) (l:Nat) (r:Loop) (o':Obj) (h:W.heap[l]? = some (.loop r)):XeM W (W.putObj l o'):=fun q o hk hn=>(World.putObj_heap_other (by rintro rfl;rw [h] at hk;cases hk;exact hn r rfl)).trans hk
theorem zBK.kc {B:Nat} {W V:World} {v:Value} {d:DiN} (h:zBK B W v d) (hk:KcA W V):zBK B V v d:=by
 obtain⟨va,vr,ve,rfl,h1,h2,h3⟩:=h
 exact⟨va,vr,ve,rfl,zDs h1 hk,zEQ h2 hk,zAj.kc h3 hk fun _ _ ⟨va,g1,g2⟩=>⟨va,zDs g1 hk,g2⟩⟩
def zSy (x:Nat × Value):Array Value:=#[.int .i64 x.1,x.2]
def zXz (b:List BrN) (pre:List (Nat × Value)) (x:Nat × Value) (W:World):Prop:=x.1=(zCS b).getD pre.length 0/\zBK W.heap.size W x.2 (zAo b x.1)
theorem zMC {b:List BrN} (pre:List (Nat × Value)) (x:Nat × Value) (W:World) (l:Nat) (o o':Obj) (h:W.heap[l]? = some o) (hc:o.isCells=false) (hx:zXz b pre x W):zXz b pre x (W.putObj l o'):=
 ⟨hx.1,by rw [show (W.putObj l o').heap.size=W.heap.size from by simp [World.putObj]];exact hx.2.kc (Kc.put h hc)⟩
theorem zW1 {n:Nat} {P:Program} {ops:Array Oper} {d:Bool} {Q:Exit->Act->World->Prop} {a:Act} {w:World} (h:(Code.region 5 ops d).wpIn Fence.wide n P Q a w):(Code.region 5 ops d).wp P Q a w:=wpIn_wide.1 h
theorem zHP {b:List BrN} {k:Nat} (hk:k < b.length) (h:(zAk b k).kd=1):(zCS b).getD (zEI b k).length 0=k/\(zEI b k).length < (zCS b).length:=by
 have h1:∀ m,k < m->∃ r,zEI b m=zEI b k ++ k :: r:=by
  intro m
  induction m with
  | zero=>intro h;omega
  | succ m ih=>
   intro hm
   by_cases e:k=m
   ·subst e;exact⟨[],by rw [zJF h]⟩
   ·obtain⟨r,hr⟩:=ih (by omega)
    by_cases hd:(zAk b m).kd=1
    ·exact⟨r ++ [m],by rw [zJF hd,hr];simp⟩
    ·exact⟨r,by rw [zQt hd,hr]⟩
 obtain⟨r,hr⟩:=h1 b.length hk
 unfold zCS
 rw [hr]
 refine⟨?_,by simp⟩
 rw [List.getD_eq_getElem?_getD,List.getElem?_append_right (Nat.le_refl _),Nat.sub_self];rfl
end Go.Proofs.YtbeeoomadnmogaaGreat
