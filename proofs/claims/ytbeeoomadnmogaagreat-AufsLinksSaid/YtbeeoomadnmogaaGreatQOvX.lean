/- OvX OvS FuC FuI AfM4 AfM6 AfM8 AfW AwN AxH AxK AfZ3 -/
import Derived.Test.YtbeeoomadnmogaaGreatQI5
import Derived.Test.YtbeeoomadnmogaaGreatQAxG
import Derived.Test.YtbeeoomadnmogaaGreatQAwT
import Derived.Test.YtbeeoomadnmogaaGreatQAfH2
set_option maxRecDepth 100000
set_option maxHeartbeats 64000000
namespace Go.Proofs.YtbeeoomadnmogaaGreat
open Go.RowKit
def ndE (x:TrN)(rt:Bool)(n:Int):Int:=
 if zUl x=true then (if x.ats≠ []\/x.cl≠0 then 6 else 0)
 else if x.kd=5 then 6
 else if zWa 1 x.ats≠0 then zWa 1 x.ats
 else if zXD (zIl 1 x.ats)≠0\/((isM (zIl 1 x.ats) zLz||isM (zIl 1 x.ats) reW)=true/\x.kd≠1)\/(rt=true/\isM (zIl 1 x.ats) reW=true)then 6
 else zWG (zIl 1 x.ats) n
def ndX (x:TrN):BrN:=
 if zUl x=true then ⟨⟨x.dep,x.nm,5,[],⟨#[]⟩,0,0,0⟩,false,[]⟩
 else ⟨{x with ats:=zXJ 1 x.ats},zXC (zIl 1 x.ats),zXB (zIl 1 x.ats)⟩
structure zYT (w:World) (x:TrN) (rt:Bool) (n:Int) (e:Ending) (w':World):Prop where
 ex:∃(y:BrN) (va vr:Value),e= .returned (.tuple #[brV y va vr,.int .i64 (ndE x rt n)])/\(∃a k c,va= .slice a k c)/\(∃a k c,vr= .slice a k c)/\(ndE x rt n=0->y=ndX x/\zRE w' va y.ats/\zBV 0 w' vr y.red)
 ext:Ext w w'
structure zYM (x:BrN) (y:TrN):Prop where
 dep:y.dep=x.dep
 nm:y.nm=x.nm
 dat:y.dat=x.dat
 ma:y.ma=x.ma
 mi:y.mi=x.mi
 cl:y.cl=x.cl
 kd:(x.kd=5/\y.kd=4/\y.ma=0/\y.mi=0)\/(x.kd≠5/\y.kd=x.kd/\¬(y.kd=4/\y.ma=0/\y.mi=0))
structure zYY (x:BrN) (y:TrN):Prop where
 dep:y.dep=x.dep
 nm:y.nm=x.nm
 dat:y.dat=x.dat
 ma:y.ma=x.ma
 mi:y.mi=x.mi
 cl:y.cl=x.cl
 kd:(x.kd=5/\y.kd=2/\y.ats=whA)\/(x.kd≠5/\y.kd=x.kd/\y.ats≠whA)
def rfE (h:Bool)(x:DeN):Int:=
 if x.wh=true then 6 else if x.fi=false then 0 else if zWa 2 x.nd.ats≠0 then zWa 2 x.nd.ats
 else if zYA x.nd=true then (if zYF x.nd x.ns=true/\h=true then 0 else 6)
 else if (isM (zIl 2 x.nd.ats) zLz||isM (zIl 2 x.nd.ats) reW)=true then 6
 else zWG (zIl 2 x.nd.ats) x.ns
theorem zKV {t:List TrN}{c:Int}(hc:c≠0)(h:2<=t.countP fun y=>y.cl==c):zDS t c=true:=by
 unfold zDS;rw[zNo,decide_eq_true hc,decide_eq_true (show 1<t.countP fun y=>y.cl==c by omega)];rfl
theorem zJs {t:List TrN}{c:Int}(h:zDS t c=true):zBd t c≠0:=by
 unfold zBd;rw[if_pos h];omega
theorem zOT {t:List TrN}(h:zAt t=0):∀y∈t,y.cl≠0->2<=t.countP fun z=>z.cl==y.cl:=by
 intro y hy hc;obtain⟨_,_,hok,_,hl⟩:=zAf h;obtain⟨j,hj,rfl⟩:=List.getElem_of_mem hy;rw[<- zAl t j hj]at hc ⊢;obtain⟨_,_,_,_,c1⟩:=zAd (hok j hj);have:=(zEN c1).1;have h2:=hl j hj;unfold zDM at h2;rw[decide_eq_true (show 0<(zAa t j).cl by omega),Bool.true_and]at h2;have h3:zAi t (zAa t j).cl t.length≠1:=beq_eq_false_iff_ne.1 h2;have h4:=zGC (t:=t) (i:=j) rfl t.length hj;rw[<- zNo];omega
theorem zHu {b:List BrN}:∀y∈plT (rwB b),y∈zBk b:=by
 intro y hy;unfold zBk;by_cases h:0<zB2 b
 ·rw[if_pos h];unfold zLM;rw[<- List.takeWhile_append_dropWhile (p:=zER) (l:=plT (rwB b))]at hy;rcases List.mem_append.1 hy with hy|hy
  ·exact List.mem_append.2 (.inl (List.mem_append.2 (.inl hy)))
  ·exact List.mem_append.2 (.inr hy)
 ·rw[if_neg h];exact hy
theorem zPr {b:List BrN}(c:Int):(plT (rwB b)).countP (fun y=>y.cl==c)<=(zBk b).countP fun y=>y.cl==c:=by grind[zBk,zB2,zLM,zER,plT,rwB,List.takeWhile_append_dropWhile]
section
variable {b:List BrN} {x:BrN} {f:For} (hb:zB9 b=0) (hw:∀i,i<b.length->awE b i=0) (e:b=x :: flt 1 f) (hs:zCR Shp f) (h0:x.dep=0) (hk:x.kd=1)
include hb hw e hs h0 hk
theorem zJe {c:Int}(hc:c≠0):(plT (rwB b)).countP (fun y=>y.cl==c)=(plT b).countP fun y=>y.cl==c:=by
 obtain⟨_,hcw⟩:=zB4 hb hw e hs;obtain⟨h1,_,_⟩:=zAp hb;obtain⟨_,_,hok,_,_⟩:=zAf h1;have hx:x.cl=0:=by
  have hl:(0:Nat)<b.length:=by rw[e];simp
  obtain⟨_,_,k1,_,_⟩:=zAd (hok 0 (by rw[zAk];exact hl));have hg:zAa (plT b) 0=x.toTrN:=by rw[zAx b 0 hl,e];rfl
  rw[hg]at k1;exact(zGu k1).1 hk
 rw[zIR,zIR,zC4 hb hw e hs h0 hk];conv=>rhs;rw[e]
 rw[List.countP_cons,List.countP_cons,(zCH 1 x f).countP_eq,List.countP_append,zHS hc f 1 hcw];have e1:((mkF x).flatMap (flc 1)).countP (fun y=>y.cl==c)=0:=by
  rw[List.countP_eq_zero];intro y hy;obtain⟨q,hq,hy⟩:=List.mem_flatMap.1 hy;obtain⟨rfl,_⟩:=zCP hq;obtain rfl:=List.mem_singleton.1 hy;show ¬((0:Int)==c)=true;rw[beq_iff_eq];exact fun e=>hc e.symm
 rw[e1,hx];rfl
theorem zUQ:Ren (zBd (zBk b)) (zBk b):=by
 have hmul:∀y∈zBk b,y.cl≠0->zDS (zBk b) y.cl=true:=fun y hy hc=>by
  obtain⟨z,hz,a1,_⟩:=zJj hb hw e hs h0 hk y hy hc;have h2:=zOT (zAp hb).1 z hz (by rw[<- a1];exact hc);rw[<- a1]at h2;refine zKV hc (Nat.le_trans h2 ?_);rw[<- zJe hb hw e hs h0 hk hc];exact zPr _
 have hnz:∀y∈zBk b,zBd (zBk b) y.cl=0->y.cl=0:=fun y hy h=>by
  by_cases hc:y.cl=0
  ·exact hc
  ·exact absurd h (zJs (hmul y hy hc))
 refine⟨zDd _,hnz,fun y hy z hz h=>?_⟩;by_cases hc:y.cl=0
 ·rw[hc,zDd]at h;rw[hc,hnz z hz h.symm]
 ·obtain⟨i,hi,rfl⟩:=List.getElem_of_mem hy;obtain⟨j,hj,rfl⟩:=List.getElem_of_mem hz;rw[<- zAl _ i hi]at hc h ⊢;rw[<- zAl _ j hj]at h ⊢;exact zG3 hi hj (zJs (hmul _ (zC1 hi) hc)) h
theorem zV5:Ren (zBd (plT (rwB b))) (plT (rwB b)):=by
 have hmul:∀y∈plT (rwB b),y.cl≠0->zDS (plT (rwB b)) y.cl=true:=fun y hy hc=>by
  obtain⟨z,hz,a1,_⟩:=zJj hb hw e hs h0 hk y (zHu y hy) hc;have h2:=zOT (zAp hb).1 z hz (by rw[<- a1];exact hc);rw[<- a1]at h2;refine zKV hc ?_;rw[zJe hb hw e hs h0 hk hc];exact h2
 have hnz:∀y∈plT (rwB b),zBd (plT (rwB b)) y.cl=0->y.cl=0:=fun y hy h=>by
  by_cases hc:y.cl=0
  ·exact hc
  ·exact absurd h (zJs (hmul y hy hc))
 refine⟨zDd _,hnz,fun y hy z hz h=>?_⟩;by_cases hc:y.cl=0
 ·rw[hc,zDd]at h;rw[hc,hnz z hz h.symm]
 ·obtain⟨i,hi,rfl⟩:=List.getElem_of_mem hy;obtain⟨j,hj,rfl⟩:=List.getElem_of_mem hz;rw[<- zAl _ i hi]at hc h ⊢;rw[<- zAl _ j hj]at h ⊢;exact zG3 hi hj (zJs (hmul _ (zC1 hi) hc)) h
end
/-! The directory of links is found, and cut out. -/
theorem zKt {q:BrN × For}:∀S:List (BrN × For),∃A B,S=A++B/\zDY zCm S q=A++q :: B
 | []=>⟨[],[],rfl,rfl⟩
 | p :: r=>by
  unfold zDY;split
  ·obtain⟨A,B,h1,h2⟩:=zKt (q:=q) r;exact⟨p :: A,B,by rw[h1];rfl,by rw[h2];rfl⟩
  ·exact⟨[],p :: r,rfl,rfl⟩
theorem zPG:∀A:List (BrN × For),(∀p∈A,p.1.nm≠zA6)->∀y∈plT (A.flatMap (flc 1)),zEA y=true:=fun A h y hy=>by
 obtain⟨z,hz,rfl⟩:=List.mem_map.1 hy;obtain⟨p,hp,hz⟩:=List.mem_flatMap.1 hz;unfold zEA;rcases List.mem_cons.1 hz with rfl|hz
 ·rw[decide_eq_false (show ¬(p.1.at 1).toTrN.nm=zA6 from h p hp),Bool.and_false];rfl
 ·have:=zEH _ _ _ hz;rw[decide_eq_false (show ¬z.toTrN.dep=1 by omega),Bool.false_and];rfl
theorem zQA {l m:List TrN}(hl:∀y∈l,1<y.dep)(hm:∀y,m.head? = some y->¬1<y.dep):(l++m).dropWhile (fun y=>decide (1<y.dep))=m:=by
 rw[List.dropWhile_append_of_pos fun y hy=>decide_eq_true (hl y hy)]
 cases m with
 | nil=>rfl
 | cons y r=>rw[List.dropWhile_cons_of_neg (by rw[decide_eq_false (hm y rfl)];exact Bool.false_ne_true)]
theorem zKT {r:TrN}(hr:zEA r=true){q:BrN × For}(hq:q.1.nm=zA6){A B:List (BrN × For)}(hS:∀p∈A,p.1.nm≠zA6):
  zIh (r :: plT ((A++q :: B).flatMap (flc 1)))=r :: plT ((A++B).flatMap (flc 1))/\zDT (r :: plT ((A++q :: B).flatMap (flc 1)))=if q.1.kd=1 then (plT (A.flatMap (flc 1))).length+1 else 0:=by
 have hA:∀y∈r :: plT (A.flatMap (flc 1)),zEA y=true:=fun y hy=>by
  rcases List.mem_cons.1 hy with rfl|hy
  ·exact hr
  ·exact zPG A hS y hy
 have hn:¬zEA (q.1.at 1).toTrN=true:=by
  unfold zEA;rw[decide_eq_true (show (q.1.at 1).toTrN.dep=1 from rfl),decide_eq_true (show (q.1.at 1).toTrN.nm=zA6 from hq)];exact Bool.false_ne_true
 have hl:r :: plT ((A++q :: B).flatMap (flc 1))=(r :: plT (A.flatMap (flc 1)))++((q.1.at 1).toTrN :: (plT (flt 2 q.2)++plT (B.flatMap (flc 1)))):=by
  rw[List.flatMap_append,List.flatMap_cons,zDw,zDw];rfl
 have ht:(r :: plT ((A++q :: B).flatMap (flc 1))).takeWhile zEA=r :: plT (A.flatMap (flc 1)):=by
  rw[hl,List.takeWhile_append_of_pos hA,List.takeWhile_cons_of_neg hn,List.append_nil]
 have hd:(r :: plT ((A++q :: B).flatMap (flc 1))).dropWhile zEA=(q.1.at 1).toTrN :: (plT (flt 2 q.2)++plT (B.flatMap (flc 1))):=by
  rw[hl,List.dropWhile_append_of_pos hA,List.dropWhile_cons_of_neg hn]
 constructor
 ·unfold zIh;rw[ht,hd,List.flatMap_append,zDw];show _++(plT (flt 2 q.2)++plT (B.flatMap (flc 1))).dropWhile _=_;rw[zQA (fun y hy=>by
   obtain⟨z,hz,rfl⟩:=List.mem_map.1 hy;have:=zEH _ _ _ hz;show 1<z.dep;omega) fun y hy=>by
    cases B with
    | nil=>cases hy
    | cons p B=>
     rw[List.flatMap_cons]at hy;cases hy;show ¬(1:Int)<1;omega]
  rfl
 ·unfold zDT;rw[hd,ht];rfl
theorem zVp {r:TrN}(hr:zEA r=true){q:BrN × For}(hq:q.1.nm=zA6)(hk:q.1.kd=1){S:List (BrN × For)}(hS:∀p∈S,p.1.nm≠zA6):
  zIh (r :: plT ((zDY zCm S q).flatMap (flc 1)))=r :: plT (S.flatMap (flc 1))/\0<zDT (r :: plT ((zDY zCm S q).flatMap (flc 1))):=by
 obtain⟨A,B,h1,h2⟩:=zKt (q:=q) S;obtain⟨c1,c2⟩:=zKT hr hq (A:=A) (B:=B) fun p hp=>hS p (by rw[h1];exact List.mem_append.2 (.inl hp));rw[h2,h1];exact⟨c1,by rw[c2,if_pos hk];omega⟩
theorem zVq (s:Int->Int)(t:List TrN):zIh (t.map (clM s))=(zIh t).map (clM s)/\zDT (t.map (clM s))=zDT t:=by
 have ht:∀p:TrN->Bool,(∀y,p (clM s y)=p y)->∀l:List TrN,(l.map (clM s)).takeWhile p=(l.takeWhile p).map (clM s)/\(l.map (clM s)).dropWhile p=(l.dropWhile p).map (clM s):=fun p hp l=>by
  induction l with
  | nil=>exact⟨rfl,rfl⟩
  | cons a r ih=>
   rw[List.map_cons];by_cases e:p a=true
   ·rw[List.takeWhile_cons_of_pos (by rw[hp];exact e),List.takeWhile_cons_of_pos e,List.dropWhile_cons_of_pos (by rw[hp];exact e),List.dropWhile_cons_of_pos e,ih.1,ih.2];exact⟨rfl,rfl⟩
   ·rw[List.takeWhile_cons_of_neg (by rw[hp];exact e),List.takeWhile_cons_of_neg e,List.dropWhile_cons_of_neg (by rw[hp];exact e),List.dropWhile_cons_of_neg e];exact⟨rfl,rfl⟩
 have h1:=ht zEA (fun _=>rfl) t;constructor
 ·unfold zIh;rw[h1.1,h1.2,<- List.map_drop,(ht _ (fun _=>rfl) _).2,List.map_append]
 ·unfold zDT;rw[h1.1,h1.2]
  cases t.dropWhile zEA with
  | nil=>rfl
  | cons y r=>show (if y.kd=1 then _ else 0)=_;rw[List.length_map]
theorem zTG {r:TrN}(hr:zEA r=true){S:List (BrN × For)}(hS:∀p∈S,p.1.nm≠zA6):zDT (r :: plT (S.flatMap (flc 1)))=0:=by
 have hA:∀y∈r :: plT (S.flatMap (flc 1)),zEA y=true:=fun y hy=>by
  rcases List.mem_cons.1 hy with rfl|hy
  ·exact hr
  ·exact zPG S hS y hy
 have:(r :: plT (S.flatMap (flc 1))).dropWhile zEA= []:=by
  have:=List.dropWhile_append_of_pos (l₂:=[]) hA;rw[List.append_nil]at this;exact this
 unfold zDT;rw[this]
section
variable {b:List BrN} {x:BrN} {f:For} (hb:zB9 b=0) (hw:∀i,i<b.length->awE b i=0) (e:b=x :: flt 1 f) (hs:zCR Shp f) (h0:x.dep=0) (hk:x.kd=1)
include hb hw e hs h0 hk
theorem zTB (hl:(zBk b).length<=120):zA5 (plT (rwB b))=(zCr (plT (rwB b)),0):=by
 obtain⟨ha,hr⟩:=zJf hw e h0 hk;obtain⟨z1,_,_,z4,z5⟩:=zEd ha;obtain⟨hg,hc⟩:=zB4 hb hw e hs;obtain⟨_,hasc,_,hlen,_⟩:=zDP hb hr;obtain⟨h1,_,_⟩:=zAp hb;obtain⟨_,_,hok,_,_⟩:=zAf h1;have hx:zBS x.ats=0:=by
  obtain⟨_,_,_,n4,_⟩:=zAd (hok 0 (by rw[zAk,e];simp));rw[zAx b 0 (by rw[e];simp),(zAQ hr).2]at n4;exact n4
 have hL:(zB5 f++mkF x).length=(acL (zAo b 0)).length:=by
  unfold acL;rw[List.length_append,List.length_append,List.length_map,hlen,zJJ,zLE];have:(zAo b 0).opq=x.opq:=(congrArg BrN.opq (zAQ hr).2).trans rfl;rw[this];split<;>rfl
 have hle:(plT (rwB b)).length<=120:=by
  refine Nat.le_trans ?_ hl;unfold zBk;by_cases h:0<zB2 b
  ·rw[if_pos h];unfold zLM;conv=>lhs;rw[<- List.takeWhile_append_dropWhile (p:=zER) (l:=plT (rwB b))]
   rw[List.length_append,List.length_append,List.length_append];omega
  ·rw[if_neg h];exact Nat.le_refl _
 refine zNu hle ?_ (zQ7 hb fun y hy hc=>zJj hb hw e hs h0 hk y (zHu y hy) hc);have hrw:=zC4 hb hw e hs h0 hk;rw[hrw]at hle ⊢;refine zJC (x:=rtB x) (zEK fun q hq=>zJD hg hc q ((zAr _).mem_iff.1 hq)) ?_ (by rw[zEJ];exact zFG (zHR hc hasc)) (by rw[zEJ,(zAr _).length_eq,hL];exact z4) rfl (show (⟨#[]⟩:ByteArray).toList= [] by rw[tL];rfl) rfl (by kernel_rfl) hx;rw[zAk,List.length_cons,zA9]at hle;omega
theorem zR1 (hl:(zBk b).length<=120):zDH (zCr (zBk b))=zCr (plT (rwB b)):=by
 obtain⟨_,hc⟩:=zB4 hb hw e hs;have hcan:=zTB hb hw e hs h0 hk hl;have hren:=zUQ hb hw e hs h0 hk;have hrw:=zC4 hb hw e hs h0 hk;have hpf:=zGj hb hw e hs h0 hk;have hX:plT (rwB b)=(rtB x).toTrN :: plT ((zCV zCm (zB5 f++mkF x)).flatMap (flc 1)):=by
  rw[hrw];unfold zDk;rw[zDf];rfl
 have hnor:zEA (rtB x).toTrN=true:=rfl;obtain⟨c1,c2⟩:=zVq (zBd (zBk b)) (zBk b);unfold zDH;by_cases h:0<zB2 b
 ·have hP:zBk b=(rtB x).toTrN :: plT ((zDY zCm (zCV zCm (zB5 f++mkF x)) (zKB b)).flatMap (flc 1)):=by
   rw[hpf];unfold zRA;rw[if_pos h,zDf];rfl
  obtain⟨d1,d2⟩:=zVp hnor (q:=zKB b) rfl rfl (zF4 (x:=x) hc);rw[<- hP,<- hX]at d1;rw[<- hP]at d2;rw[if_neg (by show ¬zDT ((zBk b).map (clM (zBd (zBk b))))=0;rw[c2];omega)];show (zA5 (zIh ((zBk b).map (clM (zBd (zBk b)))))).1=_;rw[c1,d1,zQS (hren.sub fun y hy=>zHu y hy),hcan]
 ·have hP:zBk b=plT (rwB b):=by unfold zBk;rw[if_neg h]
  rw[hP]at c2 ⊢;rw[if_pos];show zDT ((plT (rwB b)).map (clM (zBd (plT (rwB b)))))=0;rw[c2,hX];exact zTG hnor (zF4 (x:=x) hc)
theorem zUW (hl:(zBk b).length<=120):zDB (zCr (zBk b))=rtB x :: flt 1 (zDk (clN (zBd (plT (rwB b))) x) (zGq (zBd (plT (rwB b))) f))/\zB9 (zDB (zCr (zBk b)))=0:=by
 have hcan:=zTB hb hw e hs h0 hk hl;have hz:=zDd (plT (rwB b));have hrw:=zC4 hb hw e hs h0 hk;unfold zDB;rw[zR1 hb hw e hs h0 hk hl];refine⟨?_,zC5 (zH1 hcan)⟩;unfold zCr;generalize zBd (plT (rwB b))=s at hz ⊢;rw[<- zLx,zSe]
 ·rw[zQw hz,zHc,hrw,List.map_cons];refine congrArg (· :: _) ?_;unfold rtB clN clM;show ({toTrN:={dep:=_,nm:=_,kd:=_,ats:=_,dat:=_,ma:=_,mi:=_,cl:=s 0},opq:=_,red:=_}:BrN)= {toTrN:=_,opq:=_,red:=_};rw[hz];rfl
 ·intro y hy;obtain⟨z,hz,rfl⟩:=List.mem_map.1 hy;rw[hrw]at hz;rcases List.mem_cons.1 hz with rfl|hz
  ·exact⟨rfl,rfl⟩
  ·rcases List.mem_append.1 ((zCH 1 x f).mem_iff.1 hz)with hz|hz
   ·exact zJK f 1 z hz
   ·obtain⟨q,hq,hz⟩:=List.mem_flatMap.1 hz;obtain⟨rfl,_⟩:=zCP hq;obtain rfl:=List.mem_singleton.1 hz;exact⟨rfl,rfl⟩
end
theorem zMI {b:List BrN}{s:Int->Int}(hb:zAt (plT b)=0)(hr:Ren s (plT b)):zMK (b.map (clN s))=b:=by
 have hc:zA5 (plT (b.map (clN s)))=(plT b,0):=by rw[zLx,zQS hr,zWE hb]
 unfold zMK;rw[hc,if_pos rfl,List.map_map];refine(List.map_congr_left (g:=id) fun y hy=>?_).trans (List.map_id _);obtain⟨i,hi,rfl⟩:=List.getElem_of_mem hy;have hil:i<(plT b).length:=by rw[zAk];exact hi
 have hn:=zO9 hr hil;rw[zIH hb hil,zAx b i hi,zAN b i hi]at hn;show ({toTrN:=clM (zBd (plT (b.map (clN s)))) (clM s b[i].toTrN),opq:=b[i].opq,red:=b[i].red}:BrN)=b[i];rw[zLx];unfold clM;show ({toTrN:={b[i].toTrN with cl:=zBd ((plT b).map (clM s)) (s b[i].cl)},opq:=b[i].opq,red:=b[i].red}:BrN)=b[i];rw[show zBd ((plT b).map (clM s)) (s b[i].cl)=b[i].cl from hn]
theorem zKx (t:List TrN)(i:Nat):(zAm (zD0 t) i).opq=false/\(zAm (zD0 t) i).red= []:=by
 by_cases hi:i<(zD0 t).length
 ·rw[zAN _ _ hi];obtain⟨y,_,hy⟩:=List.mem_map.1 (List.getElem_mem hi);rw[<- hy];exact⟨rfl,rfl⟩
 ·unfold zAm;rw[List.getD_eq_getElem?_getD,List.getElem?_eq_none (by omega)];exact⟨rfl,rfl⟩
section
variable {b:List BrN} {x:BrN} {f:For} (hb:zB9 b=0) (hw:∀i,i<b.length->awE b i=0) (e:b=x :: flt 1 f) (hs:zCR Shp f) (h0:x.dep=0) (hk:x.kd=1)
include hb hw e hs h0 hk
theorem zWM:Ren (zBd (plT (rwB b))) (plT b):=by
 have hr:=zV5 hb hw e hs h0 hk;have hex:∀y∈plT b,y.cl≠0->∃z∈plT (rwB b),z.cl=y.cl:=fun y hy hc=>by
  have h2:=zOT (zAp hb).1 y hy hc;rw[<- zJe hb hw e hs h0 hk hc]at h2;obtain⟨z,hz,hzc⟩:=List.countP_pos_iff.1 (show 0<(plT (rwB b)).countP fun z=>z.cl==y.cl by omega);exact⟨z,hz,beq_iff_eq.1 hzc⟩
 have hnz:∀y∈plT b,zBd (plT (rwB b)) y.cl=0->y.cl=0:=fun y hy h=>by
  by_cases hc:y.cl=0
  ·exact hc
  ·obtain⟨z,hz,hzc⟩:=hex y hy hc;rw[<- hzc]at h ⊢;exact hr.nz z hz h
 refine⟨hr.zero,hnz,fun y hy z hz h=>?_⟩;by_cases hc:y.cl=0
 ·rw[hc,hr.zero]at h;rw[hc,hnz z hz h.symm]
 ·by_cases hd:z.cl=0
  ·rw[hd,hr.zero]at h;exact absurd (hnz y hy h) hc
  ·obtain⟨y',hy',e1⟩:=hex y hy hc;obtain⟨z',hz',e2⟩:=hex z hz hd;rw[<- e1,<- e2]at h ⊢;exact hr.inj y' hy' z' hz' h
theorem zMF (hl:(zBk b).length<=120):(∀i,i<(zDB (zCr (zBk b))).length->zKc (zDB (zCr (zBk b))) i=0)/\zOA (zDB (zCr (zBk b))) (fun i=>arD (zAo (zDB (zCr (zBk b))) i)) (nmS 3)=b.map (clN (zBd (plT (rwB b)))):=by
 obtain⟨ho,hbo⟩:=zUW hb hw e hs h0 hk hl;obtain⟨ha,hr⟩:=zJf hw e h0 hk;obtain⟨z1,z2,_,z4,z5⟩:=zEd ha;obtain⟨hg,hc⟩:=zB4 hb hw e hs;obtain⟨_,hasc,hund,_,_⟩:=zDP hb hr;have hz:=zDd (plT (rwB b));have hbare:∀i,(zAm (zDB (zCr (zBk b))) i).opq=false/\(zAm (zDB (zCr (zBk b))) i).red= []:=zKx _;have hxk:zAc x.toTrN=0:=by
  obtain⟨h1,_,_⟩:=zAp hb;obtain⟨_,_,hok,_,_⟩:=zAf h1;obtain⟨_,_,n3,_,_⟩:=zAd (hok 0 (by rw[zAk,e];simp));rw[zAx b 0 (by rw[e];simp),(zAQ hr).2]at n3;exact n3
 have hnm:x.nm=⟨#[]⟩:=by
  obtain⟨h1,_,_⟩:=zAp hb;obtain⟨_,_,hok,_,_⟩:=zAf h1;obtain⟨n1,_⟩:=zAd (hok 0 (by rw[zAk,e];simp));unfold zAD at n1;rw[if_pos rfl,zAx b 0 (by rw[e];simp),(zAQ hr).2]at n1;split at n1
  ·rename_i hh;exact zDh hh.2.1
  ·cases n1
 have hred:x.red= []:=by
  have:(zAo b 0).red=x.red:=(congrArg BrN.red (zAQ hr).2).trans rfl;rw[<- this];exact z2
 generalize zBd (plT (rwB b))=s at *;generalize zDB (zCr (zBk b))=old at *;have hcf:zCR zGU (zGq s f):=zHU (fun _ _ h=>zQQ hz h) hc;have haf:zGS zCm (zBU (zGq s f)):=zNH hasc;have huf:∀q∈zBU (zGq s f),q.1.kd=5->(clN s x).opq=false:=fun q hq h5=>by
  rw[zFK]at hq;obtain⟨p,hp,rfl⟩:=List.mem_map.1 hq;exact hund p hp h5
 have hraw:=zR2 (clN s x) hcf;have hroot:Sub old 0 0 (rtB x) (zDk (clN s x) (zGq s f)):=by rw[ho];exact zGW _ _ rfl
 have hD:∀i,i<old.length->(zAm old i).kd=1->arE (zAo old i)=0:=fun i hi hk1=>by
  by_cases hi0:i=0
  ·rw[hi0];exact zMA hbo hbare hroot rfl hcf haf huf
  ·obtain⟨d',y,ky,hsub,hcr,hex⟩:=zO0 (b:=old) (P:=zXv) (zDk (clN s x) (zGq s f)) [rtB x] [] 1 hraw (by rw[ho];simp) (fun y hy=>by cases hy) i (by show 1<=i;omega) (by
    rw[ho,List.length_cons,zA9]at hi;show i<1+_;omega)
   have hy1:y.kd=1:=by rw[(zAQ hsub).2]at hk1;exact hk1
   obtain⟨z,kz,rfl,q1,q2,q3⟩:=hex hy1;exact zMA hbo hbare hsub hy1 q1 q2 q3
 refine⟨fun i hi=>?_,?_⟩
 ·unfold zKc;by_cases h1:(zAm old i).kd=1
  ·rw[if_neg (by simp[h1])];exact hD i hi h1
  ·rw[if_pos h1]
 ·obtain⟨g0,_,_⟩:=zAp hbo;obtain⟨_,_,hok,_,_⟩:=zAf g0;have hbd:=zQ4 hok hD (siz (zDk (clN s x) (zGq s f))) 0 0 (rtB x) _ (Nat.le_refl _) hroot rfl (hraw.imp fun _ _ h=>h.1);rw[zQF hcf haf]at hbd;have hlen:old.length=siz (zDk (clN s x) (zGq s f))+1:=by rw[ho,List.length_cons,zA9]
  obtain⟨_,_,_,_,r5⟩:=zD9 (hD 0 (by omega) (by rw[(zAQ hroot).2];rfl));have hat:(zAo old 0).ats=x.ats:=(congrArg (fun y:BrN=>y.ats) (zAQ hroot).2).trans rfl;have hop:adO (zAo old 0).ens=x.opq:=(zJn hok hroot).trans (zLy hcf);show (({kdN 1 with ats:=(arD (zAo old 0)).ats,opq:=(arD (zAo old 0)).opq,red:=[]}:BrN) :: zIi old (fun i=>arD (zAo old i)) (nmS 3) old.length 0 1)=_;rw[hlen,(zEa r5).1];show (({kdN 1 with ats:=(zAo old 0).ats,opq:=adO (zAo old 0).ens,red:=[]}:BrN) :: _)=_;rw[hat,hop];conv=>rhs;rw[e]
  rw[List.map_cons,<- zHc];refine congr (congrArg _ ?_) hbd;unfold zAc at hxk;rw[if_neg (by omega),if_pos hk]at hxk;split at hxk
  case isFalse=>cases hxk
  rename_i hh
  have hdat:=zDh hh.1;obtain⟨_,hma,hmi,hcl⟩:=hh;unfold clN clM;obtain⟨⟨dep,nm,kd,ats,dat,ma,mi,cl⟩,opq,red⟩:=x;simp only at h0 hk hnm hdat hma hmi hcl hred ⊢;subst h0 hk hnm hdat hma hmi hcl hred;rw[hz];rfl
end
theorem zQ9 {b:List BrN}(h:awF b=0):zIp (awL b)=(b,0,0)/\zAt (awL b)=0:=by
 obtain⟨hk,hL⟩:=zNF h;obtain⟨x,f,e,hs,h0,h1,_⟩:=zDe (zAp hk.br).1;have hcan:=zPs hk.br hk.dirs e hs h0 h1 hk.few hk.room hk.len;have ht:=zH1 hcan;obtain⟨o1,o2⟩:=zMF hk.br hk.dirs e hs h0 h1 hk.len;have hred:zIk (zCr (zBk b))=b:=by
  unfold zIk;rw[o2];exact zMI (zAp hk.br).1 (zWM hk.br hk.dirs e hs h0 h1)
 refine⟨?_,by rw[hL];exact ht⟩;rw[hL];unfold zIp;rw[if_neg (by rw[ht];decide),zBl _ 0 (fun j _ hj=>by rw[o1 j (by omega)];rfl)];show (if awF (zIk (zCr (zBk b)))≠0\/zCS (awL (zIk (zCr (zBk b)))) (zCr (zBk b))=false then _ else _)=_;rw[hred,if_neg];rintro(t|t)
 ·exact t h
 ·rw[zC3 hL]at t;cases t
def sW (l:List UInt8):ByteArray:=ofL l
def trX (d:Int)(nm:List UInt8)(k:Int)(dat:List UInt8)(c:Int):TrN:=⟨d,sW nm,k,[],sW dat,0,0,c⟩
def brX (d:Int)(nm:List UInt8)(k:Int)(dat:List UInt8)(c:Int)(o:Bool):BrN:={trX d nm k dat c with opq:=o,red:=[]}
def exA:List BrN:=[brX 0 [] 1 [] 0 false,brX 1 [97] 1 [] 0 true,brX 2 [46,119,104,46,102] 2 [49] 1 false,brX 1 [119] 5 [] 0 false,brX 1 [120] 2 [49] 1 false]
def zFd:List TrN:=[trX 0 [] 1 [] 0,{kdN 1 with dep:=1,nm:=zA6},trX 2 [48,49] 2 [49] 1,trX 1 [46,119,104,46,119] 2 [] 0,trX 1 [97] 1 [] 0,trX 2 [46,119,104,46,46,119,104,46,111,112,113] 2 [] 0,trX 2 [46,119,104,46,46,119,104,46,120,102] 2 [49] 1,trX 1 [120] 2 [49] 1]
def zHk:List TrN:=[trX 0 [] 1 [] 0,trX 1 [46,119,104,46,97] 2 [] 0,trX 1 [97] 2 [] 0]
theorem zVi:awT exA=(zFd,0,0):=by kernel_rfl
theorem zWv:zIp zFd=(exA,0,0):=by
 obtain⟨h1,_,h3⟩:=zTh zVi;have:=(zQ9 h3).1;rw[h1]at this;exact this
theorem zWu:zIp zHk=([],2,6):=by
 have h1:zAt zHk=0:=by kernel_rfl
 have h2:zBy (fun i=>zKc (zDB zHk) i != 0) 0 (zDB zHk).length=some 0:=by kernel_rfl
 have h3:zTI zHk (atN (zDB zHk) 0 (arN (zAo (zDB zHk) 0)))=2:=by kernel_rfl
 have h4:zKc (zDB zHk) 0=6:=by kernel_rfl
 unfold zIp;rw[if_neg (by rw[h1];decide),h2];show (_,zTI zHk (atN (zDB zHk) 0 (arN (zAo (zDB zHk) 0))),zKc (zDB zHk) 0)=_;rw[h3,h4]
theorem zVF (B:Nat)(w:World)(v:Value)(t:List TrN)(ht:zCa B w v t)(hB:B<=w.heap.size)(hlen:t.length<=1000):
  Calls Tryz.prog 65 #[v] w (zTu cdB w (zD0 t)):=by
 obtain⟨aa,cap,rfl⟩:=ht.form;have HV:=hQq ht;clear ht;go_enter Tryz.func65,Tryz.ntmps65;go_wp2;go_loopw [3,8] (fun o i w'=>∃(wi:World) (k:Nat),wi=w'/\k<=t.length/\i= .int .i64 k/\zAg cdB w.heap.size wi o ((t.take k).map zJp)/\Ext w wi) (fun _ i _=>t.length-(intOf i).toNat)
 case atStart=>exact⟨_,0,rfl,Nat.zero_le _,rfl,zAg.nil _ _ _,bR _ _⟩
 case round=>
  obtain⟨wi,k,rfl,hk,rfl,ho,hE⟩:=hrel;have HO:=hQq ho;have HE:=hQq hE;obtain⟨a5,cap5,rfl⟩:=ho.form;clear ho hE;by_cases hlt:k<t.length
  case neg=>
   obtain rfl:k=t.length:=by omega
   have HL:Hid ((t.take t.length).map zJp=zD0 t):=hQq (by rw[List.take_length];rfl);rw[HL.out]at HO ⊢;go_wp2;go_ret;exact⟨⟨_,_,rfl,HO.out⟩,HE.out⟩
  have k1:((k:Nat):Int)<(t.length:Int):=by omega
  have k0:(0:Int)<=(k:Int):=by omega
  obtain⟨bb,off,va,hex,hbx,hva,c0,c1,c2,c3,c4,c5,c6,c7⟩:=(HV.out.ext okT HE.out).tr k hlt;cases hex;have HS:Hid ((t.take (k+1)).map zJp=(t.take k).map zJp++ [zJp (t[k]'hlt)]):=hQq (by rw[List.take_succ_eq_append_getElem hlt,List.map_append];rfl);have HLN:Hid (((t.take k).map zJp).length<=k):=hQq (by rw[List.length_map,List.length_take];omega);obtain⟨a3,cap3,rfl⟩:=hva.form;have HVA:=hQq (hva.mono okA hB);generalize t[k]'hlt=x at c0 c1 c2 c3 c4 c5 c6 c7 HVA HS;generalize (t.take k).map zJp=es at HO HLN HS ⊢;clear hva;go_wp2_with (at_builtin;refine zIX okB rfl (.tmp 12) (.tmp 30) rfl _ _ es [zJp x] w _ rfl rfl (by exact HO.out.ext okB ((eA _ _).trans (eA _ _))) (by exact zAj okB _ (zJp x) [.int .i64 x.dep,.string x.nm,.int .i64 x.kd,.slice a3 x.ats.length cap3,.string x.dat,.int .i64 x.ma,.int .i64 x.mi,.int .i64 x.cl,.bool false,.slice none 0 0] _ (by simp) ⟨_,_,HVA.out.ext okA (eA _ _),zBm _ _ _,rfl⟩) (by exact HE.out.trans ((eA _ _).trans (eA _ _))) (by have:=HE.out.size;simp;omega) (by have:=HLN.out;simp;omega) ?_;intro v2 w2 ha;have HA:=hQq ha;clear ha)
  go_roundw
  case rel=>exact⟨_,k+1,rfl,by omega,by go_num,by rw[HS.out];exact HA.out.own,HA.out.below⟩
  case measure=>simp[intOf]<;>omega
theorem zXu (B:Nat)(w:World)(v:Value)(b:List BrN)(i:Nat)(e:Int)(hb:zEi B w v b)(hsm:zBN b)(h0:zB9 b=0)(hi:i<b.length)(hk:(zAm b i).kd=1)(he:e<(zAF b i).length):
  zAs Tryz.prog 67 #[v,.int .i64 i,.int .i64 e] w (.int .i64 (atN b i e)):=by
 unfold zAs atN;have HV:=hQq hb;have HSM:=hQq hsm;have H0:=hQq h0;have HI:=hQq hi;have HK:=hQq hk;clear hb hsm h0 hi hk;by_cases h1:e<0
 ·rw[if_pos h1];go_enter Tryz.func67,Tryz.ntmps67;go_wp2;go_ret;exact⟨rfl,bR _ _⟩
 rw[if_neg h1];obtain⟨m,rfl⟩:∃m:Nat,e=m:=⟨e.toNat,by omega⟩;rw[Int.toNat_natCast];have hm:m<(zAF b i).length:=by omega
 have HM:=hQq hm;clear hm;have j0:(0:Int)<=(m:Int):=by omega
 go_enter Tryz.func67,Tryz.ntmps67;go_wp2_with (go_at_call 133;refine(zQY B _ _ b i HV.out HSM.out H0.out HI.out HK.out).mono ?_;rintro e w1 ⟨⟨a5,cap5,rfl,ho⟩,hb1⟩;have HO:=hQq ho;have HB1:=hQq hb1;obtain⟨g,rfl,hg1,hg2,-⟩:=ho.addr (Nat.lt_of_le_of_lt (Nat.zero_le _) HM.out);have hc:w1.cell? ⟨g,m,none⟩=some (.int .i64 ((zAF b i).getD m 0:Nat)):=by {obtain⟨ax,capx,e,_,_,hc⟩:=ho.in okN;injection e with e1 _ _;subst e1;obtain⟨_,_,cs,e,_,hr,hrow⟩:=hc m HM.out;cases e;have hr:cs= [.int .i64 _]:=hr;subst hr;have h1:=hrow 0 _ rfl;rw[show (0:Nat)+m*cdN.n+0=m by rw[show cdN.n=1 from rfl];omega]at h1;rw[h1,List.getD_eq_getElem?_getD,List.getElem?_eq_getElem HM.out];rfl};clear ho hb1)
 go_ret;exact⟨rfl,HB1.out⟩
theorem zMg (Wc:World)(pb mb fb:Nat)(old v0:Value)(b:List BrN)(D:Nat->DiN)(back:ByteArray->ByteArray)(hW:BdW Wc pb mb old (.func (.func fb) #[] #[]) v0 b D)(hsm:zBN b)(h0:zB9 b=0)
  (he:∀args w,(callFunc fb args).run Tryz.prog w= .ok (.enter fb args) w) (hb:∀s w,s.size<=900000->zAs Tryz.prog fb #[.string s] w (.string (back s)))
  (hn:∀i,i<b.length->(zAm b i).kd=1->(D i).ens.length<=1000/\∀x∈(D i).ens,x.nm.size<=900000/\(x.nd.kd=1->∃k,(zAF b i).find? (fun k=>decide ((zAm b k).nm=back x.nm))=some k/\(zAm b k).kd=1))
  (hk:0<b.length) (hk1:(zAm b 0).kd=1) (hlen:(zOA b D back).length<=1000000) :
  Calls Tryz.prog 69 #[.pointer (some ⟨pb,0,none⟩)] Wc (fun e W'=>∃vo,e= .returned vo/\zAg cdB Wc.heap.size W' vo (zOA b D back)/\Bd Wc pb vo W'):=by
 obtain⟨n,hnl⟩:∃n,b.length=n+1:=⟨b.length-1,by omega⟩;have hB0:zOA b D back= [zKq (D 0)]++zIi b D back (n+1) 0 1:=by unfold zOA;rw[hnl];rfl
 have HBL:Hid (∀W vo,Bd Wc pb vo W->zAg cdB Wc.heap.size W vo [zKq (D 0)]->Calls Tryz.prog 134 #[.pointer (some ⟨pb,0,none⟩),.int .i64 0,.int .i64 1] W (fun e W'=>(∃v,e= .returned v)/\∃vo',Bd Wc pb vo' W'/\zAg cdB Wc.heap.size W' vo' (zOA b D back)/\BdS pb vo vo' W W')):=hQq (fun W vo h1 h2=>by
  have:=zVI Wc pb mb fb old v0 b D back hW hsm h0 he hb hn n 0 1 W vo [zKq (D 0)] (by omega) hk hk1 (by omega) (by have:=hsm.len;omega) (by rw[<- hB0];exact hlen) h1 h2;rw[<- hB0]at this;exact this)
 obtain⟨nm,f,hm,hf⟩:=hW.map;obtain⟨vd,hfv,hdv⟩:=hf 0 hk hk1;have HM:=hQq hm;have HFV:Hid (f 0=some vd):=hQq hfv;have HDV:=hQq hdv;have HW:=hQq hW;have HR:=hQq hW.box;obtain⟨va,vr,ve,rfl,g1,g2,g3⟩:=hdv;obtain⟨ae,ce,rfl⟩:=g3.form;obtain⟨aa,ca,rfl⟩:=g1.form;obtain⟨ar,cr,rfl⟩:=g2.form;clear hm hf hfv g1 g2 g3 hW hsm h0 hb hn hk hk1 hlen hnl hB0;go_enter Tryz.func69,Tryz.ntmps69;go_upto_region 1 with (fail)
 refine zDv (zX0 pb mb Wc.heap.size (D 0).ats.length (D 0).red.length (D 0).ens.length ca cr ce aa ar ae (D 0).opq) 15 17 rfl (by kernel_rfl) (by kernel_rfl) zQU ?_ ?_
 ·intro i1 o a wx hi ho hE hk hp;have n0:=zAe (show a.eval (.tmp 0)= .pointer (some ⟨pb,0,none⟩)from hk 0 (of_decide_eq_true (by kernel_rfl)));clear hk
  match i1,hi,ho,hp with
  | 0,_,ho,hp=>
   obtain rfl:=oI ho;clear ho hp;unfold Oper.wp;go_simp;exact⟨_,rfl,rfl,bR _ _⟩
  | 1,_,ho,hp=>
   obtain rfl:=oI ho;clear ho hp;unfold Oper.wp;go_simp;exact⟨_,rfl,rfl,bR _ _⟩
  | 2,_,ho,hp=>
   obtain rfl:=oI ho;have p4:=zAe (show a.eval (.tmp 4)= .pointer (some ⟨pb,0,none⟩)from hp 1 _ 4 (by kernel_rfl) rfl rfl);clear ho hp;unfold Oper.wp;go_simp;exact⟨_,rfl,rfl,bR _ _⟩
  | 3,_,ho,hp=>
   obtain rfl:=oI ho;have p5:=zAe (show a.eval (.tmp 5)= .pointer (some ⟨pb,0,none⟩)from hp 2 _ 5 (by kernel_rfl) rfl rfl);clear ho hp;unfold Oper.wp;go_simp;exact⟨_,rfl,rfl,bR _ _⟩
  | 4,_,ho,hp=>
   obtain rfl:=oI ho;have p6:=zAe (show a.eval (.tmp 6)= .pointer (some ⟨pb,1,none⟩)from hp 3 _ 6 (by kernel_rfl) rfl rfl);have r:=bX hE HR.out;have r0:=bL r;obtain⟨rc0,rc1,rc2,rc3⟩:=b4C r;clear ho hp;unfold Oper.wp;go_simp;exact⟨_,rfl,rfl,bR _ _⟩
  | 5,_,ho,hp=>
   obtain rfl:=oI ho;have p7:=zAe (show a.eval (.tmp 7)= .map (some mb)from hp 4 _ 7 (by kernel_rfl) rfl rfl);have hlk:=(HM.out.ext hE).look zA4 zBW (zEr wx) (0:Int) false;rw[if_neg Bool.false_ne_true,HFV.out,Option.getD_some]at hlk;unfold kI at hlk;clear ho hp;unfold Oper.wp;go_simp;exact⟨_,rfl,rfl,bR _ _⟩
  | 6,_,ho,hp=>
   obtain rfl:=oI ho;have p8:=zAe (show a.eval (.tmp 8)= .agg #[.slice aa (D 0).ats.length ca,.bool (D 0).opq,.slice ar (D 0).red.length cr,.slice ae (D 0).ens.length ce]from hp 5 _ 8 (by kernel_rfl) rfl rfl);have hfd:=zGP aa ar ae (D 0).ats.length (D 0).red.length (D 0).ens.length ca cr ce (D 0).opq wx;have hfd1:=hfd.2.1;have hfd2:=hfd.2.2;clear ho hp;unfold Oper.wp;go_simp;exact⟨_,rfl,rfl,bR _ _⟩
  | 7,_,ho,hp=>
   obtain rfl:=oI ho;clear ho hp;unfold Oper.wp;go_simp;exact⟨_,rfl,rfl,bR _ _⟩
  | 8,_,ho,hp=>
   obtain rfl:=oI ho;have p10:=zAe (show a.eval (.tmp 10)= .pointer (some ⟨pb,0,none⟩)from hp 7 _ 10 (by kernel_rfl) rfl rfl);clear ho hp;unfold Oper.wp;go_simp;exact⟨_,rfl,rfl,bR _ _⟩
  | 9,_,ho,hp=>
   obtain rfl:=oI ho;have p11:=zAe (show a.eval (.tmp 11)= .pointer (some ⟨pb,0,none⟩)from hp 8 _ 11 (by kernel_rfl) rfl rfl);clear ho hp;unfold Oper.wp;go_simp;exact⟨_,rfl,rfl,bR _ _⟩
  | 10,_,ho,hp=>
   obtain rfl:=oI ho;have p12:=zAe (show a.eval (.tmp 12)= .pointer (some ⟨pb,1,none⟩)from hp 9 _ 12 (by kernel_rfl) rfl rfl);have r:=bX hE HR.out;have r0:=bL r;obtain⟨rc0,rc1,rc2,rc3⟩:=b4C r;clear ho hp;unfold Oper.wp;go_simp;exact⟨_,rfl,rfl,bR _ _⟩
  | 11,_,ho,hp=>
   obtain rfl:=oI ho;have p13:=zAe (show a.eval (.tmp 13)= .map (some mb)from hp 10 _ 13 (by kernel_rfl) rfl rfl);have hlk:=(HM.out.ext hE).look zA4 zBW (zEr wx) (0:Int) false;rw[if_neg Bool.false_ne_true,HFV.out,Option.getD_some]at hlk;unfold kI at hlk;clear ho hp;unfold Oper.wp;go_simp;exact⟨_,rfl,rfl,bR _ _⟩
  | 12,_,ho,hp=>
   obtain rfl:=oI ho;have p14:=zAe (show a.eval (.tmp 14)= .agg #[.slice aa (D 0).ats.length ca,.bool (D 0).opq,.slice ar (D 0).red.length cr,.slice ae (D 0).ens.length ce]from hp 11 _ 14 (by kernel_rfl) rfl rfl);have hfd:=zGP aa ar ae (D 0).ats.length (D 0).red.length (D 0).ens.length ca cr ce (D 0).opq wx;have hfd1:=hfd.2.1;have hfd2:=hfd.2.2;clear ho hp;unfold Oper.wp;go_simp;exact⟨_,rfl,rfl,bR _ _⟩
  | 13,_,ho,hp=>
   obtain rfl:=oI ho;have p9:=zAe (show a.eval (.tmp 9)= .slice aa (D 0).ats.length ca from hp 6 _ 9 (by kernel_rfl) rfl rfl);have p15:=zAe (show a.eval (.tmp 15)= .bool (D 0).opq from hp 12 _ 15 (by kernel_rfl) rfl rfl);clear ho hp;unfold Oper.wp;go_simp;exact⟨_,rfl,rfl,bR _ _⟩
  | 14,_,ho,hp=>
   obtain rfl:=oI ho;have p16:=zAe (show a.eval (.tmp 16)= .agg #[.int .i64 0,.string ⟨#[]⟩,.int .i64 1,.slice aa (D 0).ats.length ca,.string ⟨#[]⟩,.int .i64 0,.int .i64 0,.int .i64 0,.bool (D 0).opq,.slice none 0 0]from hp 13 _ 16 (by kernel_rfl) rfl rfl);clear ho hp;unfold Oper.wp;go_simp;exact⟨_,rfl,⟨_,rfl,hE.size,bN _ _⟩,eA _ _⟩
  | i1+15,h,_,_=>exact absurd h (by omega)
 ·intro vs wx hE hf;generalize hA:zAC _ _ _=A1;obtain⟨g,p17,f17⟩:∃g,vs 17= .slice (some ⟨g,0,none⟩) 1 1/\Wc.heap.size<=g/\wx.heap[g]? = some (.cells #[.int .i64 0,.string ⟨#[]⟩,.int .i64 1,.slice aa (D 0).ats.length ca,.string ⟨#[]⟩,.int .i64 0,.int .i64 0,.int .i64 0,.bool (D 0).opq,.slice none 0 0] 46 (0,0)):=hf 14 _ 17 (by omega) rfl rfl;have p3:vs 3= .pointer (some ⟨pb,0,none⟩):=hf 0 _ 3 (by omega) rfl rfl;clear hf;have hA2:=hA.symm.trans (congrArg (fun D=>zAC _ D vs) (show zCu _ 15= [3,4,5,6,7,8,9,10,11,12,13,14,15,16,17] by kernel_rfl));rw[hA2];clear hA2 hA;simp only[zAC,List.foldl,Act.put,List.setIfInBounds_toArray,List.set_cons_succ,List.set_cons_zero];rw[p17,p3];obtain⟨hg,hq⟩:=f17;have r:=bX hE HR.out;have rc3:=bC r 3;have fz:=bT r 3;have r0:=bL r;refine zEt rfl ?_;unfold Oper.wp;go_simp;refine zEt rfl ?_;unfold Oper.wp;go_simp;refine zEt rfl ?_;unfold Oper.wp;go_simp;unfold zEu;generalize hW1:wx.setCell ⟨pb,3,none⟩ (.slice (some ⟨g,0,none⟩) 1 1)=W1;have HB1:Hid (Bd Wc pb (.slice (some ⟨g,0,none⟩) 1 1) W1):=hQq (by rw[<- hW1];exact zIT hE ⟨pb,3,none⟩ _);have hkb:∀o u,wx.cell? ⟨pb,o,none⟩=some u->plV u=false:=by
   intro o u e;rw[bC r]at e;obtain⟨a,cap,hold⟩:=zNC HW.out
   match o,e with
   | 0,e=>cases e;rw[hold];rfl
   | 1,e=>cases e;rfl
   | 2,e=>cases e;rfl
   | 3,e=>cases e;exact HW.out.low
   | k+4,e=>simp at e
  have HO1:Hid (zAg cdB Wc.heap.size W1 (.slice (some ⟨g,0,none⟩) 1 1) [zKq (D 0)]):=hQq (by
   have h1:zAH Wc.heap.size wx (.slice aa (D 0).ats.length ca) (D 0).ats:=by
    obtain⟨x1,x2,x3,e,y1,_⟩:=HDV.out.ext hE;cases e;exact y1
   have h:=zR8 okB wx g Wc.heap.size (zKq (D 0)) [.int .i64 0,.string ⟨#[]⟩,.int .i64 1,.slice aa (D 0).ats.length ca,.string ⟨#[]⟩,.int .i64 0,.int .i64 0,.int .i64 0,.bool (D 0).opq,.slice none 0 0] hg hq ⟨_,_,h1,zBm _ _ _,rfl⟩;rw[<- hW1];exact h.keepB (fun q o hq hne=>bSn hq _ _ (fun e=>hne (by rw[e]))) (by simp[World.setCell]) hkb (fun e=>by have e:some g=some pb:=e;injection e with e;have:=zWH HW.out;omega))
  clear hW1 hkb r rc3 fz r0 hq hg p17 p3;go_wp2_with (go_at_call 134;refine(HBL.out _ _ HB1.out HO1.out).mono ?_;rintro e w2 ⟨⟨_,rfl⟩,v13,hB2,hO2,-⟩;have HB2:=hQq hB2;have HO2:=hQq hO2;have q2:=zDr HW.out hB2;have q20:=bC q2 3;have q2l:=bL q2;clear hB2 hO2 q2)
  go_ret;exact⟨_,rfl,HO2.out,HB2.out⟩
/-! How many nodes. -/
def szS (l:List (BrN × For)):Nat:=(l.map fun q=>1+siz q.2).sum
theorem zHr:∀l,siz (ofS l)=szS l
 | []=>rfl
 | (x,k) :: r=>by
  show 1+siz k+siz (ofS r)=_;rw[zHr r];rfl
theorem zOZ (l m:List (BrN × For)):szS (l++m)=szS l+szS m:=by unfold szS;rw[List.map_append,List.sum_append]
theorem zI5 (l:List (BrN × For)):szS (zCV zCm l)=szS l:=by
 unfold szS;exact((zAr l).map _).sum_nat
theorem zTx (x:BrN):szS (mkF x)<=1:=by
 unfold mkF;split
 ·exact Nat.le_refl _
 ·exact Nat.zero_le _
theorem zI6:∀f:For,szS (zB5 f)<=2*siz f
 | .nil=>Nat.le_refl _
 | .node x k r=>by
  have h1:=zI6 k;have h2:=zI6 r;have h3:=zTx x;unfold zB5;show 1+siz (ofS (zCV zCm (zB5 k++mkF x)))+szS (zB5 r)<=2*(1+siz k+siz r);rw[zHr,zI5,zOZ];omega
theorem zMv {b:List BrN}(hb:zB9 b=0)(hw:∀i,i<b.length->awE b i=0):(rwB b).length<=300:=by
 obtain⟨x,f,e,hs,h0,hk,_⟩:=zDe (zAp hb).1;rw[zC4 hb hw e hs h0 hk,List.length_cons,zA9];have h1:=(zAf (zAp hb).1).2.1;rw[zAk,e,List.length_cons,zA9]at h1;have h2:=zI6 f;have h3:=zTx x;unfold zDk;rw[zHr,zI5,zOZ];omega
/-! The entries of a directory that is written. -/
theorem zJ1 (d:DiN):acD d=zIs\/(acD d=⟨d.ats,false,[],zIg (acL d)⟩/\(gnT aeE d.ens).2=0/\(acL d).length<=24):=by
 unfold acD acT;grind
theorem zW2 (d:DiN):(acD d).ens.length<=24:=by
 rcases zJ1 d with h|⟨h,_,h4⟩
 ·rw[h];exact Nat.zero_le _
 ·rw[h];show (zIg (acL d)).length<=24;rw[(zAr (key:=DeN.nm) (acL d)).length_eq];exact h4
theorem zRs {d:DiN}{x:DeN}(hx:x∈(acD d).ens):(∃y∈d.ens,x=aeX y/\aeE y=0)\/x=mkN zDx:=by
 rcases zJ1 d with h|⟨h,h3,_⟩
 ·rw[h]at hx;cases hx
 ·rw[h]at hx;have hx:x∈acL d:=(zAr (key:=DeN.nm) (acL d)).mem_iff.1 hx;unfold acL at hx;rcases List.mem_append.1 hx with hx|hx
  ·obtain⟨y,hy,rfl⟩:=List.mem_map.1 hx;obtain⟨j,hj,rfl⟩:=List.getElem_of_mem hy;refine .inl ⟨_,hy,rfl,?_⟩;have:=(zM5 h3).2 j hj;rw[zAL _ j hj]at this;exact this
  ·split at hx
   ·exact .inr (List.mem_singleton.1 hx)
   ·cases hx
theorem zTl {a:ByteArray}(h:wtE 3 a=0):(wtS 3 a).size<=24:=by
 obtain⟨h1,h2,h3⟩:=zHo h;rw[h2,zAG,zIf];exact h3
theorem zW1 {d:DiN}{x:DeN}(hx:x∈(acD d).ens):x.nm.size<=24:=by
 rcases zRs hx with ⟨y,_,rfl,h⟩|rfl
 ·obtain⟨h1,h2⟩:=zFz h;cases hw:y.wh
  ·rw[zBM hw];exact(zMf (h2 hw)).2
  ·rw[zBL hw];exact zTl (h1 hw)
 ·decide
theorem zM0 {b:List BrN}{i k:Nat}(hd:zCs (zAo b i)=0)(hk:k∈zAF b i):(zAF b i).find? (fun j=>decide ((zAm b j).nm=(zAm b k).nm))=some k:=by
 have h1:zDA (fun k=>(zAm b k).nm) (zAF b i):=by
  have:=zF6 hd;unfold zIq zDA zAo at this;rw[List.pairwise_map]at this;exact this
 cases hf:(zAF b i).find? fun j=>decide ((zAm b j).nm=(zAm b k).nm)with
 | none=>exact absurd (decide_eq_true rfl) (by have:=List.find?_eq_none.1 hf k hk;exact this)
 | some j=>
  have e:(zAm b j).nm=(zAm b k).nm:=by have:=List.find?_some hf;exact of_decide_eq_true this
  rw[zD4 h1 (List.mem_of_find?_eq_some hf) hk (congrArg L e)]
theorem zNd {b:List BrN}(hb:zB9 b=0)(i:Nat)(hi:i<b.length)(hki:(zAm b i).kd=1):(acD (zAo b i)).ens.length<=1000/\∀x∈(acD (zAo b i)).ens,x.nm.size<=900000/\(x.nd.kd=1->∃k,(zAF b i).find? (fun k=>decide ((zAm b k).nm=bkS 3 x.nm))=some k/\(zAm b k).kd=1):=by
 refine⟨Nat.le_trans (zW2 _) (by omega),fun x hx=>⟨Nat.le_trans (zW1 hx) (by omega),fun h1=>?_⟩⟩;rcases zRs hx with ⟨y,hy,rfl,h⟩|rfl
 ·obtain⟨k,hk,rfl⟩:=List.mem_map.1 hy;obtain⟨_,h2⟩:=zFz h;cases hw:(zBj b i k).wh
  ·rw[zBM hw]at h1 ⊢;have hn:=(zMe (h2 hw)).1;have hkk:(zAm b k).kd=1:=by
    have h1:(zEo (zAm b k).toTrN).kd=1:=h1;unfold zEo at h1;by_cases e:(zAm b k).toTrN.kd=1
    ·exact e
    ·rw[if_neg e]at h1;exact h1
   refine⟨k,?_,hkk⟩;show (zAF b i).find? (fun j=>decide ((zAm b j).nm=bkS 3 (nmS 3 (zBj b i k).nm)))=some k;rw[hn];exact zM0 (zGB hb hi hki) hk
  ·rw[zBL hw]at h1;exact absurd h1 (show ¬(2:Int)=1 by decide)
 ·exact absurd h1 (show ¬(2:Int)=1 by decide)
/-! The nodes: their names, their attributes. -/
def zLf (b:List BrN)(l:List zAq):Prop:=l= []\/∃z∈b,l=z.ats
theorem zJA (b:List BrN)(i:Nat):zLf b (zAm b i).ats:=by
 by_cases h:i<b.length
 ·exact .inr ⟨zAm b i,by rw[zAN b i h];exact List.getElem_mem h,rfl⟩
 ·refine .inl ?_;unfold zAm;rw[List.getD_eq_getElem?_getD,List.getElem?_eq_none (by omega)];rfl
theorem zM6 (b:List BrN)(i:Nat):zLf b (acD (zAo b i)).ats:=by
 rcases zJ1 (zAo b i)with h|⟨h,_⟩
 ·rw[h];exact .inl rfl
 ·rw[h];exact zJA b i
theorem zSL {b:List BrN}{i:Nat}{x:DeN}(hx:x∈(acD (zAo b i)).ens):zLf b x.nd.ats:=by
 rcases zRs hx with ⟨y,hy,rfl,h⟩|rfl
 ·obtain⟨k,hk,rfl⟩:=List.mem_map.1 hy;cases hw:(zBj b i k).wh
  ·rw[zBM hw];show zLf b (zEo (zAm b k).toTrN).ats;unfold zEo;split
   ·exact .inl rfl
   ·exact zJA b k
  ·rw[zBL hw];exact .inl rfl
 ·exact .inl rfl
theorem zNA (b:List BrN)(back:ByteArray->ByteArray):∀(n i:Nat) (d:Int),∀y∈zIi b (fun i=>acD (zAo b i)) back n i d,y.nm.size<=24/\zLf b y.ats
 | 0,_,_,_,h=>by cases h
 | n+1,i,d,y,h=>by
  unfold zIi at h;obtain⟨x,hx,hy⟩:=List.mem_flatMap.1 h;have h1:=zW1 hx;have h2:=zSL hx;split at hy
  ·rcases List.mem_cons.1 hy with rfl|hy
   ·exact⟨h1,zM6 b _⟩
   ·exact zNA b back n _ _ y hy
  ·obtain rfl:=List.mem_singleton.1 hy;exact⟨h1,h2⟩
theorem zO7 {b:List BrN}{y:BrN}(h:y∈rwB b):y.nm.size<=24/\zLf b y.ats:=by
 unfold rwB zOA at h;rcases List.mem_cons.1 h with rfl|h
 ·exact⟨by show (0:Nat)<=24;omega,zM6 b 0⟩
 ·exact zNA b _ _ _ _ y h
theorem zGw {b:List BrN}(hb:zB9 b=0){l:List zAq}(h:zLf b l):zMj l/\l.length<=1000:=by
 rcases h with rfl|⟨z,hz,rfl⟩
 ·exact⟨fun a ha=>(by cases ha),Nat.zero_le _⟩
 ·obtain⟨i,hi,rfl⟩:=List.getElem_of_mem hz;have:=zQV hb hi;rw[zAN b i hi]at this;exact zA2 this
theorem zTC {b:List BrN}(hb:zB9 b=0):∀x∈rwB b,x.ats.length<=1000:=fun _ hx=>(zGw hb (zO7 hx).2).2
theorem zJd {b:List BrN}(hb:zB9 b=0):zAI (plT (rwB b)):=fun y hy=>by
 obtain⟨x,hx,rfl⟩:=List.mem_map.1 hy;obtain⟨h1,h2⟩:=zO7 hx;obtain⟨h3,h4⟩:=zGw hb h2;exact⟨Nat.le_trans h1 (by omega),h3.million,Nat.le_trans h4 (by omega)⟩
theorem zPu {b:List BrN}(hb:zB9 b=0):zAI (zLg b):=fun y hy=>by
 unfold zLg at hy;rcases List.mem_cons.1 hy with rfl|hy
 ·exact⟨by decide,fun a ha=>(by cases ha),Nat.zero_le _⟩
 ·unfold zJx at hy;obtain⟨j,_,rfl⟩:=List.mem_map.1 hy;have h:zLf b (zAa (plT b) (zCe (plT b) ((j+1:Nat):Int))).ats:=by
   by_cases h:zCe (plT b) ((j+1:Nat):Int)<b.length
   ·rw[zAx b _ h];exact zJA b _
   ·refine .inl ?_;unfold zAa;rw[List.getD_eq_getElem?_getD,List.getElem?_eq_none (by rw[zAk];omega)];rfl
  obtain⟨h3,h4⟩:=zGw hb h;exact⟨by show (zQE (j+1)).size<=_;show (2:Nat)<=_;omega,h3.million,Nat.le_trans h4 (by omega)⟩
theorem zHy {b:List BrN}(hb:zB9 b=0):zAI (zBk b):=by
 unfold zBk zLM;split
 ·intro y hy;rcases List.mem_append.1 hy with hy|hy
  ·rcases List.mem_append.1 hy with hy|hy
   ·exact zJd hb y ((List.takeWhile_sublist _).subset hy)
   ·exact zPu hb y hy
  ·exact zJd hb y ((List.dropWhile_sublist _).subset hy)
 ·exact zJd hb
theorem zHP {p:Nat->Bool}:∀(n a i:Nat),zBy p a n=some i->∀j,a<=j->j<i->p j=false
 | 0,_,_,h,_,_,_=>by cases h
 | n+1,a,i,h,j,h1,h2=>by
  unfold zBy at h;by_cases e:p a=true
  ·rw[if_pos e]at h;cases h;omega
  ·rw[if_neg e]at h;by_cases e2:j=a
   ·subst e2;exact Bool.eq_false_iff.2 e
   ·exact zHP n (a+1) i h j (by omega) h2
/-! Where the links go. -/
theorem zVa (l ys:List TrN){p:Nat->Bool}(hp:∀k (hk:k<l.length),p k= !zER (l[k]'hk)):(zGv p l.length= -1/\zLM l ys=l++ys)\/∃i:Nat,i<l.length/\zGv p l.length=i/\zLM l ys=l.take i++ys++l.drop i:=by
 have ht:l.take (l.takeWhile zER).length=l.takeWhile zER:=by
  have h:=congrArg (List.take (l.takeWhile zER).length) (List.takeWhile_append_dropWhile (p:=zER) (l:=l));rw[List.take_left']at h
  ·exact h.symm
  ·rfl
 by_cases h:(l.takeWhile zER).length<l.length
 ·refine .inr ⟨(l.takeWhile zER).length,h,zBP h (fun j hj=>?_) ?_,?_⟩
  ·rw[hp j (by omega)];obtain⟨h',h2⟩:=zIu zER l j hj;rw[h2];rfl
  ·rw[hp _ h,zRH zER l h];rfl
  ·unfold zLM;rw[ht,zHV]
 ·have he:(l.takeWhile zER).length=l.length:=Nat.le_antisymm (zUs zER l) (by omega);have h1:l.takeWhile zER=l:=by rw[<- ht,he,List.take_length]
  have h2:l.dropWhile zER= []:=by rw[<- zHV,he,List.drop_length]
  refine .inl ⟨zBY fun j hj=>?_,by unfold zLM;rw[h1,h2,List.append_nil]⟩;rw[hp j hj];obtain⟨h',h2⟩:=zIu zER l j (by omega);rw[h2];rfl
theorem zPv {b:List BrN}(hb:zB9 b=0)(c:Nat)(h1:1<=c)(h2:(c:Int)<=zB2 b):zCe (plT b) c<b.length/\zGv (fun k=>(zAm b k).cl==(c:Int)) b.length=zCe (plT b) c:=by
 obtain⟨_,_,hok,_,_⟩:=zAf (zAp hb).1;obtain⟨j,hj,hc⟩:=zFR hok _ (Nat.le_refl _) (c:Int) (by omega) (by rw[zAk];exact h2);rw[zAk]at hj;have hcl:∀k,k<b.length->clB (plT b) c k=((zAm b k).cl==(c:Int)):=fun k hk=>by unfold clB;rw[zAx b k hk]
 cases hf:zBy (clB (plT b) c) 0 (plT b).length with
 | none=>
  have:=zAJ _ _ hf j (Nat.zero_le _) (by rw[zAk];omega);unfold clB at this;rw[hc]at this;simp at this
 | some k=>
  obtain⟨m1,m2,m3⟩:=zBD _ _ _ hf;rw[zAk]at m3;have hk:k<b.length:=by omega
  have e:zCe (plT b) c=k:=by unfold zCe;rw[hf];rfl
  rw[e];refine⟨hk,zBP hk (fun i hi=>?_) (by rw[<- hcl k hk];exact m1)⟩;rw[<- hcl i (by omega)];exact zHP _ _ _ hf i (Nat.zero_le _) hi
structure zYV (d:Int) (y:BrN) (k:For):Prop where
 fok:zLi d y k
 nm:bkW 3 y.nm≠3->zAn (L (bkS 3 y.nm))=0
 wh:bkW 3 y.nm=2->y.kd=2
 dist:zDA zCm (zNl k)
end Go.Proofs.YtbeeoomadnmogaaGreat
