/- FarO OvE AfL AfM AfM2 AwO AxC AwB AwL AxI -/
import Derived.Test.YtbeeoomadnmogaaGreatQI5
import Derived.Test.YtbeeoomadnmogaaGreatQAfS
set_option maxRecDepth 100000
set_option maxHeartbeats 64000000
namespace Go.Proofs.YtbeeoomadnmogaaGreat
open Go.RowKit
theorem Few.mono {n m:Nat}{l:List zAq}(h:Few n l)(hnm:n<=m):Few m l:=⟨h.1,fun a ha=>by have:=h.2 a ha;omega⟩
structure RbR (g:Nat) (w w':World):Prop where
 below:Below g w w'
 keep:zAy (some g) w w'
 typed:(∃c,w.heap[g]? = some (.cells c 59 (0,0)))->∃c,w'.heap[g]? = some (.cells c 59 (0,0))
theorem RbR.trans {g:Nat}{w w' w'':World}(h:RbR g w w')(k:RbR g w' w''):RbR g w w'':=⟨h.below.trans k.below,fun b o hb hne=>k.keep b o (h.keep b o hb hne) hne,fun ht=>k.typed (h.typed ht)⟩
structure zOD (d:Int) (y:BrN) (k:For):Prop where
 dep:d<=8
 name:zAn (L y.nm)=0
 kind:zAc y.toTrN=0
 chk:zBS y.ats=0
 red:y.red= []
 wh:y.kd=5->wtE 3 y.nm=0
 nw:y.kd≠5->nmE 3 y.nm=0
 opq:y.kd≠1->y.opq=false
 len:(zBU k).length+(if y.opq=true then 1 else 0)<=24
 asc:zGS zCm (zBU k)
 deep:y.opq=true->d<8
 und:∀q∈zBU k,q.1.kd=5->y.opq=false
theorem zJS {b:List BrN}{i:Nat}(h:awE b i=0)(hk:(zAm b i).kd=1):acE (zAo b i)=0/\¬((zAm b i).opq=true/\(zAm b i).dep=8):=by grind[awE,acE,zAo]
theorem zWj {p:Nat}{k:For}(h:kp p k= []):k= .nil:=by
 cases k with
 | nil=>rfl
 | node x k r=>cases h
theorem zDP {b:List BrN}(hb:zB9 b=0){i:Nat}{d:Int}{y:BrN}{k:For}(hs:Sub b i d y k):(y.kd≠1->k= .nil)/\zGS zCm (zBU k)/\(∀q∈zBU k,q.1.kd=5->y.opq=false)/\(zAo b i).ens.length=(zBU k).length/\(zBU k).length<=24:=by
 obtain⟨hi,hg⟩:=zAQ hs;obtain⟨h0,_,_⟩:=zAp hb;obtain⟨_,_,hok,_,_⟩:=zAf h0;have hlen:(zAo b i).ens.length=(zBU k).length:=by rw[zC0 hok hs,List.length_map,<- zFi k (i+1),List.length_map]
 have hnil:y.kd≠1->k= .nil:=fun hk=>by
  have:zAF b i= []:=List.filter_eq_nil_iff.2 fun j hj e=>by
   have:=(zGI (fun m hm=>hok m (by have:=List.mem_range.1 hj;rw[zAk];omega)) (of_decide_eq_true e)).2.2.1;rw[zAx b i hi,hg]at this;exact hk this
  rw[zJy hok hs]at this;exact zWj this
 by_cases hk:y.kd=1
 case neg=>
  have:=hnil hk;subst this;exact⟨hnil,List.Pairwise.nil,fun q h=>(by cases h),hlen,Nat.zero_le _⟩
 have hd:zCs (zAo b i)=0:=zGB hb hi (by rw[hg];exact hk);have hnm:∀q∈kq (i+1) k,zAm b q.1=q.2.1.at (d+1):=fun q hq=>(zAQ (zEv hs q hq).1).2;obtain⟨_,_,_,_,d4,d5⟩:=zBz hd;refine⟨hnil,?_,fun q hq h5=>?_,hlen,by rw[<- hlen];exact d4⟩
 ·have h1:(zAo b i).ens.Pairwise fun a b=>L a.nm<L b.nm:=List.pairwise_iff_getElem.2 fun m n hm hn hmn=>by
   have:=zLU hd hmn hn;rw[zAL _ _ hm,zAL _ _ hn]at this;exact this
  rw[zC0 hok hs,List.pairwise_map]at h1;unfold zGS;rw[<- zFi k (i+1),List.pairwise_map];refine List.Pairwise.imp_of_mem (fun {p q} hp hq h=>?_) h1;have e1:(zBj b i p.1).nm=p.2.1.nm:=(congrArg (fun y:BrN=>y.nm) (hnm p hp)).trans rfl;have e2:(zBj b i q.1).nm=q.2.1.nm:=(congrArg (fun y:BrN=>y.nm) (hnm q hq)).trans rfl;rw[e1,e2]at h;exact h
 ·rw[<- zFi k (i+1)]at hq;obtain⟨q,hqm,rfl⟩:=List.mem_map.1 hq;have hm:zBj b i q.1∈(zAo b i).ens:=by rw[zC0 hok hs];exact List.mem_map.2 ⟨q,hqm,rfl⟩
  obtain⟨j,hj,hge⟩:=List.getElem_of_mem hm;have he:zEl (zAo b i).opq (zCZ (zAo b i).ens j) (zBq (zAo b i).ens j)=0:=d5 j hj;rw[zAL _ _ hj,hge]at he;have ho:=(zJI he).2 (by
   show (zEo (zAm b q.1).toTrN).kd=5;rw[hnm q hqm];unfold zEo;rw[if_neg (show ¬(q.2.1.at (d+1)).toTrN.kd=1 from fun e=>by have e:q.2.1.kd=1:=e;omega)];exact h5)
  have:(zAo b i).opq=y.opq:=(congrArg BrN.opq hg).trans rfl;rw[this]at ho;exact ho
theorem zVd {b:List BrN}(hb:zB9 b=0)(hw:∀i,i<b.length->awE b i=0){i:Nat}{d:Int}{y:BrN}{k:For}(h1:1<=d)(hs:Sub b i d y k):zOD d y k:=by
 obtain⟨hi,hg⟩:=zAQ hs;obtain⟨h0,_,hm⟩:=zAp hb;obtain⟨_,_,hok,_,_⟩:=zAf h0;have hl:=zAk b;obtain⟨n,hn,hin,hkn,hi0⟩:=zPy hb h1 hs;obtain⟨hnil,hasc,hund,hlen,h24⟩:=zDP hb hs;obtain⟨n1,n2,n3,n4,_⟩:=zAd (hok i (by omega));have hT:zAa (plT b) i=(y.at d).toTrN:=by rw[zAx b i hi,hg]
 rw[hT]at n3 n4;have hab:abv (plT b) i=(n:Int):=of_decide_eq_true (List.mem_filter.1 hin).2;have hname:=(zFU hok (by omega) hab).1;rw[hT]at hname;have hdep:=(zA3 n1).2.1;rw[hT]at hdep;have hae:aeE (zBj b n i)=0:=(zEd (zJS (hw n hn) hkn).1).2.2.1 _ (List.mem_map.2 ⟨i,hin,rfl⟩);have hz:=zFz hae;have hnm:(zBj b n i).nm=y.nm:=(congrArg (fun y:BrN=>y.nm) hg).trans rfl;have hwh:(zBj b n i).wh=(y.kd==5):=(congrArg (fun y:BrN=>y.kd==5) hg).trans rfl;rw[hnm,hwh]at hz;have hmi:=hm i hi;have hno:y.kd≠1->y.opq=false/\y.red= []:=fun hk=>by
  unfold zBf at hmi;rw[hg]at hmi;by_cases e:(y.opq=true\/0<y.red.length)/\y.kd≠1
  ·rw[if_pos (.inl e)]at hmi;cases hmi
  ·constructor
   ·cases ho:y.opq with
    | false=>rfl
    | true=>exact absurd ⟨.inl ho,hk⟩ e
   ·refine List.length_eq_zero_iff.1 ?_;by_cases e2:0<y.red.length
    ·exact absurd ⟨.inr e2,hk⟩ e
    ·omega
 by_cases hk:y.kd=1
 ·obtain⟨w1,w2⟩:=zJS (hw i hi) (by rw[hg];exact hk);obtain⟨_,z2,_,z4,_⟩:=zEd w1;have hred:y.red= []:=by
   have:(zAo b i).red=y.red:=(congrArg BrN.red hg).trans rfl;rw[<- this];exact z2
  have hoq:(zAo b i).opq=y.opq:=(congrArg BrN.opq hg).trans rfl;refine⟨hdep,hname,n3,n4,hred,fun h5=>by omega,fun h=>hz.2 (nB h),fun h=>absurd hk h,?_,hasc,fun ho=>?_,hund⟩
  ·unfold acL at z4;rw[List.length_append,List.length_map,hlen,hoq]at z4;refine Nat.le_trans (Nat.add_le_add_left ?_ _) z4;split<;>exact Nat.le_refl _
  ·rw[hg]at w2;have:¬d=8:=fun e=>w2 ⟨ho,e⟩;have hdep:d<=8:=hdep;omega
 ·obtain⟨o1,o2⟩:=hno hk;exact⟨hdep,hname,n3,n4,o2,fun h=>hz.1 (beq_iff_eq.2 h),fun h=>hz.2 (nB h),fun _=>o1,by rw[o1];simpa using h24,hasc,fun ho=>(by rw[o1]at ho;cases ho),hund⟩
theorem zSH {d:Int}{y:BrN}{k:For}(h:zOD d y k)(hs:Shp y k):zGU y k:=by
 refine⟨hs.1,h.red,fun h5=>⟨?_,h.wh h5⟩,h.nw,fun hk=>⟨hs.2 hk,h.opq hk⟩,h.asc,fun h1=>?_,h.und⟩
 ·obtain⟨a1,a2,a3,a4,a5⟩:=zOo h.kind h5;have a2:=zDh a2;have ho:=h.opq (by omega);have hr:=h.red;have hd:=hs.1;obtain⟨⟨dep,nm,kd,ats,dat,ma,mi,cl⟩,opq,red⟩:=y;simp only at *;subst hd h5 a1 a2 a3 a4 a5 ho hr;rfl
 ·have hk:=h.kind;unfold zAc at hk;rw[if_neg (by omega),if_pos h1]at hk;split at hk
  ·rename_i hh;exact⟨zDh hh.1,hh.2.1,hh.2.2.1,hh.2.2.2⟩
  ·cases hk
theorem zB4 {b:List BrN}{x:BrN}{f:For}(hb:zB9 b=0)(hw:∀i,i<b.length->awE b i=0)(e:b=x :: flt 1 f)(hs:zCR Shp f):zB1 zOD 1 f/\zCR zGU f:=by
 have h:zB1 zOD 1 f:=by
  subst e;exact zHT fun i d y ky h1 hs=>zVd hb hw h1 hs
 exact⟨h,h.each (fun _ _ _ a b=>zSH a b) hs⟩
abbrev flc (d:Int)(q:BrN × For):List BrN:=q.1.at d :: flt (d+1) q.2
theorem zCH (d:Int)(x:BrN)(k:For):(flt d (zDk x k)).Perm ((zB5 k).flatMap (flc d)++(mkF x).flatMap (flc d)):=by
 unfold zDk;rw[zDf,<- List.flatMap_append];exact(zAr _).flatMap_right _
theorem zCP {x:BrN}{q:BrN × For}(h:q∈mkF x):q=(zF0 zDx,.nil)/\x.opq=true:=by
 unfold mkF at h;split at h
 ·rename_i ho;exact⟨List.mem_singleton.1 h,ho⟩
 ·cases h
def Alk (y z:TrN):Prop:=y.cl=z.cl/\y.kd=z.kd/\y.ats=z.ats/\y.dat=z.dat/\y.ma=z.ma/\y.mi=z.mi
theorem zLS:∀(k:For) (d:Int),∀y∈(zB5 k).flatMap (flc d),y.cl≠0->∃z∈flt d k,Alk y.toTrN z.toTrN
 | .nil,_,y,h,_=>by cases h
 | .node x kk r,d,y,h,hc=>by
  unfold zB5 at h;rw[List.flatMap_cons,List.mem_append]at h;rw[zBo];rcases h with h|h
  ·rcases List.mem_cons.1 h with rfl|h
   ·refine⟨x.at d,List.mem_cons_self ..,?_⟩;have hc:(aeB x).cl≠0:=hc;show Alk ((aeB x).at d).toTrN _;unfold aeB at hc ⊢;by_cases e:x.kd=5
    ·rw[if_pos e]at hc;exact absurd rfl hc
    ·rw[if_neg e];exact⟨rfl,rfl,rfl,rfl,rfl,rfl⟩
   ·rcases List.mem_append.1 ((zCH (d+1) x kk).mem_iff.1 h)with h|h
    ·obtain⟨z,hz,a⟩:=zLS kk (d+1) y h hc;exact⟨z,List.mem_cons_of_mem _ (List.mem_append.2 (.inl hz)),a⟩
    ·obtain⟨q,hq,hy⟩:=List.mem_flatMap.1 h;obtain⟨rfl,_⟩:=zCP hq;obtain rfl:=List.mem_singleton.1 hy;exact absurd rfl hc
  ·obtain⟨z,hz,a⟩:=zLS r d y h hc;exact⟨z,List.mem_cons_of_mem _ (List.mem_append.2 (.inr hz)),a⟩
theorem zHS {c:Int}(hc:c≠0):∀(k:For) (d:Int),zCR zGU k->((zB5 k).flatMap (flc d)).countP (fun y=>y.cl==c)=(flt d k).countP (fun y=>y.cl==c)
 | .nil,_,_=>rfl
 | .node x kk r,d,h=>by
  obtain⟨hx,hk,hr⟩:=h;unfold zB5;rw[List.flatMap_cons,List.countP_append,zHS hc r d hr,zBo];show List.countP _ ((aeB x).at d :: flt (d+1) (zDk x kk))+_=_;rw[List.countP_cons,List.countP_cons,List.countP_append,(zCH (d+1) x kk).countP_eq,List.countP_append,zHS hc kk (d+1) hk];have e1:((mkF x).flatMap (flc (d+1))).countP (fun y=>y.cl==c)=0:=by
   rw[List.countP_eq_zero];intro y hy;obtain⟨q,hq,hy⟩:=List.mem_flatMap.1 hy;obtain⟨rfl,_⟩:=zCP hq;obtain rfl:=List.mem_singleton.1 hy;show ¬((0:Int)==c)=true;rw[beq_iff_eq];exact fun e=>hc e.symm
  have e2:((aeB x).at d).cl=(x.at d).cl:=by
   show (aeB x).cl=x.cl;unfold aeB;by_cases e:x.kd=5
   ·rw[if_pos e,(hx.2.2.1 e).1];rfl
   ·rw[if_neg e]
  rw[e1,e2];omega
theorem zNo (t:List TrN)(c:Int):zAi t c t.length=t.countP (fun y=>y.cl==c):=by
 have:∀k,k<=t.length->zAi t c k=(t.take k).countP (fun y=>y.cl==c):=fun k=>by
  induction k with
  | zero=>intro _;rfl
  | succ k ih=>
   intro hk;show zAi t c k+_=_;rw[ih (by omega),List.take_succ_eq_append_getElem hk,List.countP_append,<- zAl t k hk,List.countP_cons,List.countP_nil];by_cases e:(zAa t k).cl=c
   ·rw[if_pos e,if_pos (beq_iff_eq.2 e)]
   ·rw[if_neg e,if_neg (fun x=>e (beq_iff_eq.1 x))]
 rw[this _ (Nat.le_refl _),List.take_length]
theorem zIR (b:List BrN)(c:Int):(plT b).countP (fun y=>y.cl==c)=b.countP (fun y=>y.cl==c):=by
 unfold plT;rw[List.countP_map];rfl
/-! The written forest is right. -/
abbrev zLi (d:Int)(x:BrN)(k:For):Prop:=d<=8/\zAn (L x.nm)=0/\zAc (clM (fun _=>0) x.toTrN)=0/\zBS x.ats=0/\(x.kd≠1->k= .nil)/\(zBU k).length<=24/\zGS zCm (zBU k)
theorem zM7 {d:Int}(h:d<=8):zLi d (zF0 zDx) .nil/\zB1 zLi (d+1) .nil:=
 ⟨⟨h,(by decide +kernel),(by decide +kernel),rfl,fun _=>rfl,Nat.zero_le _,List.Pairwise.nil⟩,trivial⟩
theorem zEJ (x:BrN)(k:For):zBU (zDk x k)=zCV zCm (zB5 k++mkF x):=zCE _
theorem zJJ (k:For):(zB5 k).length=(zBU k).length:=by rw[zF3,List.length_map]
theorem zLE (x:BrN):(mkF x).length=if x.opq=true then 1 else 0:=by unfold mkF;split<;>rfl
theorem zHH {y:TrN}(h:zAc y=0):zAc (clM (fun _=>0) y)=0:=by
 refine zP3 (z:=id) ?_ fun _=>rfl;exact h
theorem zLN:∀(k:For) (d:Int),zB1 zOD d k->zCR zGU k->∀q∈zB5 k,zLi d q.1 q.2/\zB1 zLi (d+1) q.2
 | .nil,_,_,_,q,h=>by cases h
 | .node x kk r,d,hg,hc,q,h=>by
  obtain⟨gx,gk,gr⟩:=hg;obtain⟨cx,ck,cr⟩:=hc;unfold zB5 at h;rcases List.mem_cons.1 h with rfl|h
  ·have hs:zB1 zLi (d+1) (zDk x kk):=zEK fun q hq=>by
    rcases List.mem_append.1 ((zAr _).mem_iff.1 hq)with hq|hq
    ·exact zLN kk (d+1) gk ck q hq
    ·obtain⟨rfl,ho⟩:=zCP hq;exact zM7 (by have:=gx.deep ho;omega)
   refine⟨⟨gx.dep,?_,?_,?_,fun hk=>?_,?_,?_⟩,hs⟩
   ·show zAn (L (aeB x).nm)=0;unfold aeB;by_cases e:x.kd=5
    ·rw[if_pos e];obtain⟨w1,w2,w3⟩:=zHo (gx.wh e);show zAn (L (wtS 3 x.nm))=0;rw[w2,zIf];exact zHF (zCo w1).2 w3
    ·rw[if_neg e];exact(zMf (gx.nw e)).1
   ·show zAc (clM (fun _=>0) (aeB x).toTrN)=0;unfold aeB;by_cases e:x.kd=5
    ·rw[if_pos e];rfl
    ·rw[if_neg e];exact zHH gx.kind
   ·show zBS (aeB x).ats=0;unfold aeB;by_cases e:x.kd=5
    ·rw[if_pos e];rfl
    ·rw[if_neg e];exact gx.chk
   ·have h1:x.kd≠1:=fun e=>by
     have hk:(aeB x).kd≠1:=hk;unfold aeB at hk;rw[if_neg (by omega)]at hk;exact hk e
    obtain⟨rfl,ho⟩:=cx.2.2.2.2.1 h1;show zDk x .nil= .nil;unfold zDk mkF;rw[ho];rfl
   ·show (zBU (zDk x kk)).length<=24;rw[zEJ,(zAr _).length_eq,List.length_append,zJJ,zLE];exact gx.len
   ·show zGS zCm (zBU (zDk x kk));rw[zEJ];exact zFG (zHR ck gx.asc)
  ·exact zLN r d gr cr q h
theorem zJD {x:BrN}{f:For}(hg:zB1 zOD 1 f)(hc:zCR zGU f):∀q∈zB5 f++mkF x,zLi 1 q.1 q.2/\zB1 zLi 2 q.2:=fun q hq=>by
 rcases List.mem_append.1 hq with hq|hq
 ·exact zLN f 1 hg hc q hq
 ·obtain⟨rfl,_⟩:=zCP hq;exact zM7 (by decide)
def zXi (y:TrN):BrN:={{y with dep:=0}with opq:=false,red:=[]}
def zKB (b:List BrN):BrN × For:=(zXi zOH,ofS ((zJx (plT b) (zB2 b).toNat).map fun y=>(zXi y,.nil)))
def rtB (x:BrN):BrN:={kdN 1 with ats:=x.ats,opq:=false,red:=[]}
def zRA (b:List BrN)(x:BrN)(f:For):List (BrN × For):=if 0<zB2 b then zDY zCm (zCV zCm (zB5 f++mkF x)) (zKB b)else zCV zCm (zB5 f++mkF x)
theorem zDw (l m:List BrN):plT (l++m)=plT l++plT m:=List.map_append
theorem zMW {d:Int}:∀l:List TrN,(∀y∈l,y.dep=d)->plT ((l.map fun y=>(zXi y,For.nil)).flatMap (flc d))=l
 | [],_=>rfl
 | y :: r,h=>by
  rw[List.map_cons,List.flatMap_cons,zDw,zMW r fun z hz=>h z (List.mem_cons_of_mem _ hz)];have hy:=h y (List.mem_cons_self ..);subst hy;rfl
theorem zMV (b:List BrN):plT (flc 1 (zKB b))=zLg b:=by
 have:=zMW (d:=2) (zJx (plT b) (zB2 b).toNat) fun y hy=>by
  obtain⟨j,_,rfl⟩:=List.mem_map.1 hy;rfl
 unfold zLg;rw[<- this];unfold zKB flc;rw[zDf];rfl
theorem zQd {q:BrN × For}(hq:q.1.nm=zA6):∀S:List (BrN × For),(∀p∈S,p.1.nm≠zA6)->zLM (plT (S.flatMap (flc 1))) (plT (flc 1 q))=plT ((zDY zCm S q).flatMap (flc 1))
 | [],_=>by
  show []++plT (flc 1 q)++ []=_;rw[List.nil_append,List.append_nil];show _=plT (([q]:List (BrN × For)).flatMap (flc 1));rw[List.flatMap_cons,List.flatMap_nil,List.append_nil]
 | p :: r,h=>by
  have hp:=h p (List.mem_cons_self ..);rw[List.flatMap_cons,zDw];unfold zDY;by_cases e:L (zCm p)<L (zCm q)
  ·rw[if_pos e,List.flatMap_cons,zDw,<- zQd hq r fun p hp=>h p (List.mem_cons_of_mem _ hp)];have hb:∀y∈plT (flc 1 p),zER y=true:=fun y hy=>by
    unfold zER;obtain⟨z,hz,rfl⟩:=List.mem_map.1 hy;rcases List.mem_cons.1 hz with rfl|hz
    ·have:¬L zA6<L (p.1.at 1).toTrN.nm:=fun e2=>by
      rw[show zCm q=zA6 from hq]at e;exact List.lt_irrefl _ (List.lt_trans e e2)
     rw[decide_eq_false this,Bool.and_false];rfl
    ·have:=zEH _ _ _ hz;rw[decide_eq_false (show ¬z.toTrN.dep=1 by omega),Bool.false_and];rfl
   unfold zLM;rw[List.takeWhile_append_of_pos hb,List.dropWhile_append_of_pos hb];simp[List.append_assoc]
  ·rw[if_neg e,List.flatMap_cons,zDw,List.flatMap_cons,zDw];have hlt:L zA6<L p.1.nm:=by
    have e:¬L p.1.nm<L zA6:=by rw[<- hq];exact e
    rcases Std.lt_trichotomy (L p.1.nm) (L zA6)with x|x|x
    ·exact absurd x e
    ·exact absurd (zBG x) hp
    ·exact x
   have hn:¬zER (p.1.at 1).toTrN=true:=by
    unfold zER;rw[decide_eq_true (show (p.1.at 1).toTrN.dep=1 from rfl),decide_eq_true (show L zA6<L (p.1.at 1).toTrN.nm from hlt)];exact Bool.false_ne_true
   unfold zLM;show List.takeWhile zER ((p.1.at 1).toTrN :: (plT (flt (1+1) p.2)++plT (r.flatMap (flc 1))))++_++List.dropWhile zER ((p.1.at 1).toTrN :: (plT (flt (1+1) p.2)++plT (r.flatMap (flc 1))))=_;rw[List.takeWhile_cons_of_neg hn,List.dropWhile_cons_of_neg hn,List.nil_append];rfl
theorem zF4 {x:BrN}{f:For}(hc:zCR zGU f):∀p∈zCV zCm (zB5 f++mkF x),p.1.nm≠zA6:=fun p hp e=>by
 have h4:bkW 3 p.1.nm=4:=by rw[e];exact zVB.1
 rcases List.mem_append.1 ((zAr _).mem_iff.1 hp)with hp|hp
 ·obtain⟨q,hq,rfl,hcq,_,_⟩:=zEI hc hp;obtain⟨_,b2,_⟩:=zDQ hcq;have h4:bkW 3 (aeB q.1).nm=4:=h4;rw[b2]at h4;split at h4<;>cases h4
 ·obtain⟨rfl,_⟩:=zCP hp;have h4:bkW 3 zDx=4:=h4;rw[zGR.1]at h4;cases h4
theorem zJf {b:List BrN}{x:BrN}{f:For}(hw:∀i,i<b.length->awE b i=0)(e:b=x :: flt 1 f)(h0:x.dep=0)(hk:x.kd=1):acE (zAo b 0)=0/\Sub b 0 0 x f:=by
 have hr:Sub b 0 0 x f:=by rw[e];exact zGW x f h0
 obtain⟨hi,hg⟩:=zAQ hr;exact⟨(zJS (hw 0 hi) (by rw[hg];exact hk)).1,hr⟩
theorem zSt {b:List BrN}(hb:zB9 b=0)(hn:zB2 b<=24):zLi 1 (zKB b).1 (zKB b).2/\zB1 zLi 2 (zKB b).2:=by
 obtain⟨h1,_,_⟩:=zAp hb;obtain⟨z1,_,hok,_,_⟩:=zAf h1;have hlen:(zJx (plT b) (zB2 b).toNat).length=(zB2 b).toNat:=by unfold zJx;rw[List.length_map,List.length_range]
 refine⟨⟨by decide,(show zAn (L zA6)=0 by decide +kernel),(show zAc (clM (fun _=>0) (zXi zOH).toTrN)=0 by decide +kernel),rfl,fun h=>absurd rfl h,?_,?_⟩,?_⟩
 ·unfold zKB;rw[zCE,List.length_map,hlen];omega
 ·unfold zKB zGS;rw[zCE,List.pairwise_map];unfold zJx;rw[List.pairwise_map];refine List.Pairwise.imp_of_mem (fun {i j} hi hj h=>?_) List.pairwise_lt_range;have hj:=List.mem_range.1 hj;have:∀j,j<24->∀i,i<j->L (zQE (i+1))<L (zQE (j+1)):=by decide +kernel
  exact this j (by omega) i h
 ·unfold zKB;refine zEK fun q hq=>?_;obtain⟨y,hy,rfl⟩:=List.mem_map.1 hq;unfold zJx at hy;obtain⟨j,hj,rfl⟩:=List.mem_map.1 hy;have hj:=List.mem_range.1 hj;obtain⟨i,hi,hc⟩:=zFR hok _ (Nat.le_refl _) ((j:Int)+1) (by omega) (by rw[zAk];show _<=zB2 b;omega);have hf:zCe (plT b) ((j+1:Nat):Int)<(plT b).length:=by
   have:=(zAU hi).1;rw[hc]at this;have e:((j+1:Nat):Int)=(j:Int)+1:=by omega
   rw[e];omega
  obtain⟨_,_,n3,n4,_⟩:=zAd (hok _ hf);have hd:∀j,j<24->zAn (L (zQE (j+1)))=0:=by decide +kernel
  exact⟨⟨by decide,hd j (by omega),zHH n3,n4,fun _=>rfl,Nat.zero_le _,List.Pairwise.nil⟩,trivial⟩
section
variable {b:List BrN} {x:BrN} {f:For} (hb:zB9 b=0) (hw:∀i,i<b.length->awE b i=0) (e:b=x :: flt 1 f) (hs:zCR Shp f) (h0:x.dep=0) (hk:x.kd=1)
include hb hw e hs h0 hk
theorem zC4:rwB b=rtB x :: flt 1 (zDk x f):=by
 obtain⟨ha,hr⟩:=zJf hw e h0 hk;obtain⟨z1,_,_,_,z5⟩:=zEd ha;obtain⟨h1,_,_⟩:=zAp hb;obtain⟨_,_,hok,_,_⟩:=zAf h1;obtain⟨hg,hc⟩:=zB4 hb hw e hs;have hl:b.length=siz f+1:=by rw[e,List.length_cons,zA9]
 have hbe:=zVx hok (fun i hi hki=>(zJS (hw i hi) hki).1) (siz f) 0 0 x f (Nat.le_refl _) hr hk hc;have hat:(zAo b 0).ats=x.ats:=(congrArg (fun y:BrN=>y.ats) (zAQ hr).2).trans rfl;show (({kdN 1 with ats:=(acD (zAo b 0)).ats,opq:=(acD (zAo b 0)).opq,red:=[]}:BrN) :: zIi b (fun i=>acD (zAo b i)) (bkS 3) b.length 0 1)=_;rw[hl,(zCd z5).1];show ({kdN 1 with ats:=(zAo b 0).ats,opq:=false,red:=[]}:BrN) :: _=_;rw[hat];exact congrArg _ hbe
theorem zGj:zBk b=plT (rtB x :: flt 1 (ofS (zRA b x f))):=by
 have hr:=zC4 hb hw e hs h0 hk;obtain⟨_,hc⟩:=zB4 hb hw e hs;unfold zBk zRA;rw[hr];by_cases h:0<zB2 b
 ·rw[if_pos h,if_pos h,zDf,<- zMV];have hi:=zQd (q:=zKB b) rfl _ (zF4 (x:=x) hc);have hrt:zER (rtB x).toTrN=true:=rfl;unfold zDk;rw[zDf];show zLM ((rtB x).toTrN :: plT _) _=(rtB x).toTrN :: plT _;rw[show plT ((zDY zCm (zCV zCm (zB5 f++mkF x)) (zKB b)).flatMap fun q=>q.1.at 1 :: flt (1+1) q.2)=plT ((zDY zCm (zCV zCm (zB5 f++mkF x)) (zKB b)).flatMap (flc 1))from rfl,<- hi];unfold zLM;rw[List.takeWhile_cons_of_pos hrt,List.dropWhile_cons_of_pos hrt];rfl
 ·rw[if_neg h,if_neg h];rfl
theorem zPq (hn:zB2 b<=24)(h24:0<zB2 b->(acD (zAo b 0)).ens.length≠24)(hl:(zBk b).length<=120):zAt (zC (zBk b))=0:=by
 obtain⟨ha,hr⟩:=zJf hw e h0 hk;obtain⟨z1,_,_,z4,z5⟩:=zEd ha;obtain⟨hg,hc⟩:=zB4 hb hw e hs;obtain⟨_,hasc,_,hlen,_⟩:=zDP hb hr;have hpf:=zGj hb hw e hs h0 hk;obtain⟨h1,_,_⟩:=zAp hb;obtain⟨_,_,hok,_,_⟩:=zAf h1;have hx:zBS x.ats=0:=by
  obtain⟨_,_,_,n4,_⟩:=zAd (hok 0 (by rw[zAk,e];simp));rw[zAx b 0 (by rw[e];simp),(zAQ hr).2]at n4;exact n4
 have hL:(zB5 f++mkF x).length=(acL (zAo b 0)).length:=by
  unfold acL;rw[List.length_append,List.length_append,List.length_map,hlen,zJJ,zLE];have:(zAo b 0).opq=x.opq:=(congrArg BrN.opq (zAQ hr).2).trans rfl;rw[this];split<;>rfl
 have hS:(acD (zAo b 0)).ens.length=(acL (zAo b 0)).length:=by rw[(zCd z5).1];exact(zAr _).length_eq
 have hd:=zHR (x:=x) hc hasc;have hmem:∀q∈zRA b x f,zLi 1 q.1 q.2/\zB1 zLi 2 q.2:=fun q hq=>by
  unfold zRA at hq;by_cases h:0<zB2 b
  ·rw[if_pos h]at hq;rcases List.mem_cons.1 ((zDI _ _).mem_iff.1 hq)with rfl|hq
   ·exact zSt hb hn
   ·exact zJD hg hc q ((zAr _).mem_iff.1 hq)
  ·rw[if_neg h]at hq;exact zJD hg hc q ((zAr _).mem_iff.1 hq)
 have hA:zGS zCm (zRA b x f):=by
  unfold zRA;by_cases h:0<zB2 b
  ·rw[if_pos h];have e2:zDY zCm (zCV zCm (zB5 f++mkF x)) (zKB b)=zCV zCm ((zB5 f++mkF x)++ [zKB b]):=(zFF _ _).symm;rw[e2];refine zFG ?_;unfold zDA;rw[List.pairwise_append];refine⟨hd,List.pairwise_singleton _ _,fun p hp q hq e3=>?_⟩;obtain rfl:=List.mem_singleton.1 hq;exact zF4 hc p ((zAr _).mem_iff.2 hp) (zBG e3)
  ·rw[if_neg h];exact zFG hd
 have hlq:(zRA b x f).length<=24:=by
  unfold zRA;by_cases h:0<zB2 b
  ·rw[if_pos h,(zDI _ _).length_eq,List.length_cons,(zAr _).length_eq,hL];have:=h24 h;omega
  ·rw[if_neg h,(zAr _).length_eq,hL];exact z4
 rw[hpf]at hl ⊢;refine zJC (x:=rtB x) (zEK hmem) ?_ (by rw[zCE];exact hA) (by rw[zCE];exact hlq) rfl (show (⟨#[]⟩:ByteArray).toList= [] by rw[tL];rfl) rfl (by kernel_rfl) hx;rw[zAk,List.length_cons,zA9]at hl;omega
end
theorem zI3 (k:Int)(w:World):zAs Tryz.prog 188 #[.int .i64 k] w (.bool (zPR k)):=by
 unfold zAs zPR;cases h2:k==2
 ·cases h3:k==3
  ·cases h4:k==4
   all_goals
    go_enter Tryz.func188,Tryz.ntmps188;go_wp2;go_ret;exact⟨by rfl,by first|exact bR _ _|exact eDn _ _⟩
  ·go_enter Tryz.func188,Tryz.ntmps188;go_wp2;go_ret;exact⟨by rfl,by first|exact bR _ _|exact eDn _ _⟩
 ·go_enter Tryz.func188,Tryz.ntmps188;go_wp2;go_ret;exact⟨by rfl,by first|exact bR _ _|exact eDn _ _⟩
def ccL {α:Type}(l1 l2:List α)(k:Nat):List α:=if k=0 then []else if k=1 then l1 else l1++l2
theorem zId (B:Nat)(w:World)(v:Value)(b:List BrN)(hb:zEi B w v b)(hlen:b.length<=1000):
  zAs Tryz.prog 80 #[v] w (.int .i64 (zB2 b)):=by
 unfold zAs zB2;obtain⟨aa,cap,rfl⟩:=hb.form;have HV:=hQq hb;clear hb;go_enter Tryz.func80,Tryz.ntmps80;go_wp2;go_loopw [3,8] (fun m i w'=>∃(wi:World) (k:Nat),wi=w'/\k<=b.length/\i= .int .i64 k/\m= .int .i64 (zAK (plT b) k)/\Ext w wi) (fun _ i _=>b.length-(intOf i).toNat)
 case atStart=>exact⟨_,0,rfl,Nat.zero_le _,rfl,rfl,bR _ _⟩
 case round=>
  obtain⟨wi,k,rfl,hk,rfl,rfl,hE⟩:=hrel;have HE:=hQq hE;clear hE;by_cases hlt:k<b.length
  case neg=>
   obtain rfl:k=b.length:=by omega
   go_wp2;go_ret;exact⟨rfl,HE.out⟩
  have k1:((k:Nat):Int)<(b.length:Int):=by omega
  have k0:(0:Int)<=(k:Int):=by omega
  obtain⟨bb,off,va,vr,hex,hbx,hva,hvr,c0,c1,c2,c3,c4,c5,c6,c7,c8,c9⟩:=(HV.out.ext okB HE.out).br k hlt;cases hex;have HGK:=hQq (zAx b k hlt);rw[<- zAN b k hlt]at hva hvr c0 c1 c2 c4 c5 c6 c7 c8;obtain⟨a3,cap3,rfl⟩:=hva.form;obtain⟨a4,cap4,rfl⟩:=hvr.form;clear hva hvr;generalize hx:zAm b k=x at c0 c1 c2 c3 c4 c5 c6 c7 c8 c9;have HXK:=hQq hx;clear hx;go_wp2;go_roundw
  case rel=>exact⟨_,k+1,rfl,by omega,by go_num,by show _=Value.int .i64 (max (zAK (plT b) k) (zAa (plT b) k).cl);rw[HGK.out,HXK.out],HE.out.trans (eA _ _)⟩
  case measure=>simp[intOf]<;>omega
theorem zWD (w:World)(g:Nat)(x y:Int)(hx:w.cell? ⟨g,0,none⟩=some (.int .i64 x))(hy:w.cell? ⟨g,1,none⟩=some (.int .i64 y)):
  zAs Tryz.prog 180 #[.slice (some ⟨g,0,none⟩) 2 2] w (.int .i64 (if x≠0 then x else y)):=by
 unfold zAs;obtain⟨r,hr⟩:∃r,(if x≠0 then x else y)=r:=⟨_,rfl⟩;rw[hr];have HRR:=hQq hr;clear hr;go_enter Tryz.func180,Tryz.ntmps180;go_wp2;go_loopw [8] (fun i w'=>∃(wi:World) (k:Nat),wi=w'/\k<=2/\i= .int .i64 k/\(1<=k->x=0)/\(2<=k->y=0)/\w=wi) (fun i _=>2-(intOf i).toNat)
 case atStart=>exact⟨_,0,rfl,by omega,rfl,fun h=>absurd h (by omega),fun h=>absurd h (by omega),rfl⟩
 case round=>
  obtain⟨wi,k,rfl,hk,rfl,h1,h2,rfl⟩:=hrel;have hk3:k=0\/k=1\/k=2:=by omega
  rcases hk3 with rfl|rfl|rfl
  ·by_cases e:x=0
   ·have q:(x != 0)=false:=bne_eq_false_iff_eq.2 e;have HE:=hQq e;clear h1 h2 e hk;go_wp2;go_roundw
    case rel=>exact⟨_,1,rfl,by omega,by first|rfl|go_num,fun _=>HE.out,fun h=>absurd h (by omega),rfl⟩
    case measure=>simp[intOf]<;>omega
   ·have q:(x != 0)=true:=bne_iff_ne.2 e;have HR:Hid ((if x≠0 then x else y)=x):=hQq (if_pos e);clear h1 h2 e hk;go_wp2;go_ret;exact⟨by rw[<- HRR.out,HR.out];rfl,bR _ _⟩
  ·have HX:=hQq (h1 (by omega));by_cases e:y=0
   ·have q:(y != 0)=false:=bne_eq_false_iff_eq.2 e;have HE:=hQq e;clear h1 h2 e hk;go_wp2;go_roundw
    case rel=>exact⟨_,2,rfl,by omega,by first|rfl|go_num,fun _=>HX.out,fun _=>HE.out,rfl⟩
    case measure=>simp[intOf]<;>omega
   ·have q:(y != 0)=true:=bne_iff_ne.2 e;have HR:Hid ((if x≠0 then x else y)=y):=hQq (if_neg (by simp[HX.out]));clear h1 h2 e hk;go_wp2;go_ret;exact⟨by rw[<- HRR.out,HR.out];rfl,bR _ _⟩
  ·have HX:=hQq (h1 (by omega));have HY:=hQq (h2 (by omega));have HR:Hid ((if x≠0 then x else y)=0):=hQq (by rw[HX.out,HY.out];simp);clear h1 h2 hk;go_wp2;go_ret;exact⟨by rw[<- HRR.out,HR.out];rfl,bR _ _⟩
theorem zWF (b:List BrN)(ab x y:Nat)(w:World)(h:zVT b ab w)(hlen:b.length<=1000)(hx:x<b.length)(hy:y<b.length):
  zAs Tryz.prog 179 #[.int .i64 x,.int .i64 y,.pointer (some ⟨ab,0,none⟩)] w (.int .i64 (cmA (plT b) x y)):=by
 unfold zAs;obtain⟨mb,n,f,h1,h2,h3,h4⟩:=h;have HM:=hQq h3;have HFX:=hQq (h4 x hx);have HFY:=hQq (h4 y hy);have bx:=zCT (plT b) x;have bY:=zCT (plT b) y;have jw1:IntKind.i64.wrap (abv (plT b) x-abv (plT b) y)=abv (plT b) x-abv (plT b) y:=IntWalk.i64_in _ (by omega);have jw2:IntKind.i64.wrap ((x:Int)-(y:Int))=(x:Int)-(y:Int):=IntWalk.i64_in _ (by omega);have hc:∀(W:World) (g:Nat),W.cell? ⟨g,0,none⟩=some (.int .i64 (abv (plT b) x-abv (plT b) y))->W.cell? ⟨g,1,none⟩=some (.int .i64 ((x:Int)-(y:Int)))->zAs Tryz.prog 180 #[.slice (some ⟨g,0,none⟩) 2 2] W (.int .i64 (cmA (plT b) x y)):=fun W g h1 h2=>zWD W g _ _ h1 h2;generalize cmA (plT b) x y=c at hc ⊢;have HC:=hQq hc;clear h3 h4 bx bY hc;go_enter Tryz.func179,Tryz.ntmps179;go_wp2_with (first
  | (at_lookup;refine zCf rfl (.tmp 6) (.tmp 7) 146 false rfl 3 3 zA4 zAz (.int .i64 0) zB3 rfl HM.out (x:Int) rfl ?_;rw[if_neg Bool.false_ne_true,HFX.out,Option.getD_some])
  | (at_lookup;refine zCf rfl (.tmp 9) (.tmp 10) 146 false rfl 3 3 zA4 zAz (.int .i64 0) zB3 rfl HM.out (y:Int) rfl ?_;rw[if_neg Bool.false_ne_true,HFY.out,Option.getD_some])
  | (go_at_call 180;refine(HC.out _ w.heap.size (bC (bN _ _) 0) (bC (bN _ _) 1)).mono ?_;rintro e w2 ⟨rfl,hb2⟩;have HB2:=hQq hb2;clear hb2)
  | fail)
 go_ret;exact⟨rfl,(eA _ _).trans HB2.out⟩
theorem zXH (b:List BrN)(ab:Nat)(B:Nat)(w:World)(v:Value)(l:List Nat)(hl:zAg cdN B w v l)(h0:0<l.length)(h:zVT b ab w)(hlen:b.length<=1000)(hlb:l.length<=1000)(hlt:∀x∈l,x<b.length):
  Calls Tryz.prog 178 #[v,.func (.func 179) #[] #[.pointer (some ⟨ab,0,none⟩)]] w fun e w'=>(∃m,m∈l/\e= .returned (.int .i64 (m:Nat))/\∀x∈l,¬abL (plT b) x m)/\Ext w w':=by
 obtain⟨a5,cap5,rfl⟩:=hl.form;obtain⟨g,rfl,hg1,hg2,-⟩:=hl.addr h0;have HL:=hQq (hl.in okN);have HM:=hQq h;have HLT:=hQq hlt;have he:∀args w,(callFunc 179 args).run Tryz.prog w= .ok (.enter 179 args) w:=enters_of Tryz.func179 (by kernel_rfl) rfl;have c0:=HL.out.num 0 h0;have j1:¬(l.length:Int)<1:=by omega
 have j2:(0:Int)<(l.length:Int):=by omega
 have H0:=hQq h0;clear hl h hlt;go_enter Tryz.func178,Tryz.ntmps178;go_wp2;go_loopw [5,6] (fun m i w'=>∃(wi:World) (k m0:Nat),wi=w'/\1<=k/\k<=l.length/\i= .int .i64 k/\m0∈l/\m= .int .i64 m0/\(∀j (hj:j<l.length),j<k->¬abL (plT b) (l[j]'hj) m0)/\Ext w wi) (fun _ i _=>l.length-(intOf i).toNat)
 case atStart=>exact⟨_,1,l[0]'H0.out,rfl,by omega,by omega,by first|rfl|go_num,List.getElem_mem _,rfl,fun j hj h1=>by
  obtain rfl:j=0:=by omega
  unfold abL;omega,bR _ _⟩
 case round=>
  clear c0;obtain⟨wi,k,m0,rfl,hk1,hk,rfl,hm,rfl,hA,hE⟩:=hrel;have HMM:=hQq hm;have HA:=hQq hA;have HE:=hQq hE;clear hm hA hE;by_cases hlt:k<l.length
  case neg=>
   obtain rfl:k=l.length:=by omega
   go_wp2;go_ret;exact⟨⟨m0,HMM.out,rfl,fun x hx=>by obtain⟨j,hj,rfl⟩:=List.getElem_of_mem hx;exact HA.out j hj hj⟩,HE.out⟩
  have k1:((k:Nat):Int)<(l.length:Int):=by omega
  have k0:(0:Int)<=(k:Int):=by omega
  have ck:=(HL.out.ext okN HE.out).num k hlt;have HKM:=hQq (List.getElem_mem hlt);have HST:Hid (∀j (hj:j<l.length),j<k+1->j=k\/j<k):=hQq (fun j _ h=>by omega);obtain⟨y,hy⟩:∃y,y=l[k]'hlt:=⟨_,rfl⟩;rw[<- hy]at ck HKM;have HY:=hQq hy;clear hy;have HC:=hQq (zWF b ab y m0 wi (HM.out.ext HE.out) hlen (HLT.out y HKM.out) (HLT.out m0 HMM.out));unfold zAs at HC;by_cases e:abL (plT b) y m0
  ·have q:cmA (plT b) y m0<0:=(zQL _ _ _).2 e;have HN:Hid (∀j (hj:j<l.length),j<k+1->¬abL (plT b) (l[j]'hj) y):=hQq (fun j hj h=>by
    rcases HST.out j hj h with rfl|h2
    ·rw[<- HY.out];unfold abL;omega
    ·exact fun h3=>HA.out j hj h2 (zRw h3 e))
   clear e;go_wp2_with (refine HC.out.mono ?_;rintro e w1 ⟨rfl,hb1⟩;have HB1:=hQq hb1;have ck1:=(HL.out.ext okN (HE.out.trans hb1)).num k hlt;rw[<- HY.out]at ck1;clear hb1)
   go_roundw
   case rel=>exact⟨_,k+1,y,rfl,by omega,by omega,by go_num,HKM.out,rfl,HN.out,HE.out.trans HB1.out⟩
   case measure=>simp[intOf]<;>omega
  ·have q:¬cmA (plT b) y m0<0:=fun h=>e ((zQL _ _ _).1 h);have HN:Hid (∀j (hj:j<l.length),j<k+1->¬abL (plT b) (l[j]'hj) m0):=hQq (fun j hj h=>by
    rcases HST.out j hj h with rfl|h2
    ·rw[<- HY.out];exact e
    ·exact HA.out j hj h2)
   clear e;go_wp2_with (refine HC.out.mono ?_;rintro e w1 ⟨rfl,hb1⟩;have HB1:=hQq hb1;clear hb1)
   go_roundw
   case rel=>exact⟨_,k+1,m0,rfl,by omega,by omega,by go_num,HMM.out,rfl,HN.out,HE.out.trans HB1.out⟩
   case measure=>simp[intOf]<;>omega
theorem zPA (w:World):zAg zNt w.heap.size (w.alloc (.cells #[.int .i64 1,.string zA6,.int .i64 1,.slice none 0 0,.string ⟨#[]⟩,.int .i64 0,.int .i64 0,.int .i64 0] 59)) (.slice (some ⟨w.heap.size,0,none⟩) 1 1) [zOH]:=
 ⟨[trC zOH (.slice none 0 0)],rfl,fun k h h'=>by
  obtain rfl:k=0:=by simp at h;omega
  exact⟨_,zBp _ _ _,rfl⟩,rfl,.inr ⟨w.heap.size,1,_,rfl,Nat.le_refl _,bN w _,Nat.le_refl _,by unfold maxLen;omega,rfl,rfl⟩⟩
theorem zEe {x:Int}(h0:0<=x)(h1:x<256):IntKind.u8.wrap x=x:=by
 show x % 256=x;omega
theorem zSZ (w:World)(g:Nat)(c d:Int)(hg:w.heap[g]? = some (.cells #[.int .u8 c,.int .u8 d] 5 (0,0))):(convert 170 9 (.slice (some ⟨g,0,none⟩) 2 2)).run Tryz.prog w= .ok (.string ⟨#[UInt8.ofNat c.toNat,UInt8.ofNat d.toNat]⟩) w:=by
 have h:=run_convert_bytes_arg (P:=Tryz.prog) w 170 5 Tryz.underlying170 Tryz.underlying5 g 0 2 2 [c,d] rfl (fun i hi=>by
  match i,hi with
  | 0,_=>exact bC hg 0
  | 1,_=>exact bC hg 1) 9 Tryz.underlying9
 exact h
def pkI (W0 W1:World)(g:Nat)(c0 c1 c2 c3 c4 c5 c6 c7:Value)(s:ByteArray)(x y:Int)(z:Nat->Bool)(vs:Tmp->Value)(V:World):Prop:=
 Ext W0 V/\zAy (some g) W1 V/\W1.heap.size<=V.heap.size/\V.heap[g]? = some (.cells #[if z 11=true then .int .i64 2 else c0,if z 13=true then .string s else c1,c2,c3,c4,c5,c6,c7] 59 (0,0)) /\
  (z 8=true->∃g2,vs 34= .slice (some ⟨g2,0,none⟩) 2 2/\g2≠g/\V.heap[g2]? = some (.cells #[.int .u8 x,.int .u8 y] 5 (0,0)))
section
variable {W0 W1 V V':World} {g:Nat} {c0 c1 c2 c3 c4 c5 c6 c7:Value} {s:ByteArray} {x y:Int} {z z':Nat->Bool} {vs vs':Tmp->Value}
theorem zCl (h1:z' 8=z 8)(h2:z' 11=z 11)(h3:z' 13=z 13)(h4:vs' 34=vs 34)(h:pkI W0 W1 g c0 c1 c2 c3 c4 c5 c6 c7 s x y z vs V):pkI W0 W1 g c0 c1 c2 c3 c4 c5 c6 c7 s x y z' vs' V:=by
 unfold pkI at h ⊢;rw[h1,h2,h3,h4];exact h
theorem zPx {j:Nat}{u:Value}(h:pkI W0 W1 g c0 c1 c2 c3 c4 c5 c6 c7 s x y z vs V)(hg:W0.heap.size<=g)(h1:z' 8=z 8)(h4:vs' 34=vs 34)(hV:V'=V.setCell ⟨g,j,none⟩ u)
  (hc:#[if z' 11=true then .int .i64 2 else c0,if z' 13=true then .string s else c1,c2,c3,c4,c5,c6,c7]= #[if z 11=true then .int .i64 2 else c0,if z 13=true then .string s else c1,c2,c3,c4,c5,c6,c7].setIfInBounds j u):pkI W0 W1 g c0 c1 c2 c3 c4 c5 c6 c7 s x y z' vs' V':=by
 obtain⟨k1,k2,k3,k4,k5⟩:=h;subst hV;unfold pkI;rw[hc,h1,h4];refine⟨Below.setCell (p:=⟨g,j,none⟩) k1 hg _,fun q o hq hne=>bSn (k2 q o hq hne) _ _ (fun e=>hne (by rw[e])),by simpa [World.setCell] using k3,bS k4 _,fun hz=>?_⟩;obtain⟨g2,e1,e2,e3⟩:=k5 hz;exact⟨g2,e1,e2,bSn e3 _ _ (fun e=>e2 (by first|exact e|exact e.symm))⟩
theorem zUS {o:Obj}(h:pkI W0 W1 g c0 c1 c2 c3 c4 c5 c6 c7 s x y z vs V)(hn:vs' 34= .slice (some ⟨V.heap.size,0,none⟩) 2 2)(h2:z' 11=z 11)(h3:z' 13=z 13)(ho:o= .cells #[.int .u8 x,.int .u8 y] 5 (0,0)):pkI W0 W1 g c0 c1 c2 c3 c4 c5 c6 c7 s x y z' vs' (V.alloc o):=by
 obtain⟨k1,k2,k3,k4,k5⟩:=h;subst ho;unfold pkI;rw[h2,h3];exact⟨Ext.trans k1 (eA _ _),fun q o hq hne=>bA (k2 q o hq hne),Nat.le_trans k3 (eA _ _).size,bA k4,fun _=>⟨_,hn,fun e=>by have:=bL k4;omega,bN _ _⟩⟩
end
def zTV (w:World):Value->Int
 | .pointer (some a)=>intOf ((w.cell? a).getD undef)
 | _=>0
theorem zKH {w:World}{g:Nat}{c:Int}{t:TypeId}{f:Nat × Nat}(h:w.heap[g]? = some (.cells #[.int .i64 c] t f)):zTV w (.pointer (some ⟨g,0,none⟩))=c:=by
 show intOf ((w.cell? ⟨g,0,none⟩).getD undef)=c;rw[bC h 0];rfl
def zXn (SV:Value)(c N:Nat):Nat->Value->World->Prop
 | 0,v,_=>v= .int .i64 c
 | 1,v,_=>v=SV
 | 2,v,_=>v= .int .i64 N
 | _,_,_=>True
theorem zKv {SV:Value}{c N:Nat}:∀(i:Nat) (v:Value) (w w':World),zXn SV c N i v w->Ext w w'->zXn SV c N i v w':=by
 intro i v w w' hh he
 match i,hh with
 | 0,h=>exact h
 | 1,h=>exact h
 | 2,h=>exact h
 | i+3,_=>trivial
end Go.Proofs.YtbeeoomadnmogaaGreat
