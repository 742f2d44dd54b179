/- QeDirK QeBsdY QeAzD QeLwpO QeBrnX QeOpenN QeFarA -/
import Derived.Test.YtbeeoomadnmogaaGreatQI6
import Derived.Test.YtbeeoomadnmogaaGreatQAxN
import Derived.Test.YtbeeoomadnmogaaGreatQBrnB
import Derived.Test.YtbeeoomadnmogaaGreatQChkBx
import Derived.Test.YtbeeoomadnmogaaGreatQChkC
import Derived.Test.YtbeeoomadnmogaaGreatQChkE
import Derived.Test.YtbeeoomadnmogaaGreatQaAll
import Derived.Test.YtbeeoomadnmogaaGreatQbAll
set_option maxRecDepth 100000
set_option maxHeartbeats 64000000
namespace Go.Proofs.YtbeeoomadnmogaaGreat
open Go.RowKit
theorem zZJ (t:List TrN)(n:Nat):zBe t n (n+1)= []:=List.filter_eq_nil_iff.2 fun k hk=>by
 have hk:=List.mem_range.1 hk;have:=zCT t k;unfold zHb;rw[decide_eq_true_iff];omega
end Go.Proofs.YtbeeoomadnmogaaGreat
namespace Go.Proofs.YtbeeoomadnmogaaGreat
open Go.RowKit
/-! A tree stays sound if other sound attributes are put in, equal ones for equal ones. -/
def zY6 (x:TrN):TrN:={x with ats:=[]}
theorem zY8 (t:List TrN)(i:Nat):zAa (t.map zY6) i=zY6 (zAa t i):=by
 unfold zAa;by_cases h:i<t.length
 ·simp[List.getD,h]
 ·simp[List.getD,Nat.le_of_not_lt h,zY6,zVU]
theorem zZ6 (r:List TrN)(d:Int):zCq (r.map zY6) d=zCq r d:=by induction r<;>grind[TrN,zCq,zY6]
theorem yAk (t:List TrN)(i:Nat):zCL (t.map zY6) i=(zCL t i).map zY6:=by
 unfold zCL;rw[<- List.map_take,List.map_reverse]
theorem zZi (t:List TrN)(i:Nat):zAD (t.map zY6) i=zAD t i:=by
 unfold zAD zEk;simp only[zY8];rfl
theorem zZj (t:List TrN)(i:Nat):zA0 (t.map zY6) i=zA0 t i:=by
 unfold zA0;simp only[zY8,yAk,zZ6];rfl
theorem zZq (t:List TrN)(k:Nat):zAK (t.map zY6) k=zAK t k:=by
 induction k with
 | zero=>rfl
 | succ k ih=>unfold zAK;rw[ih,zY8];rfl
theorem zZk (t:List TrN)(c:Int)(k:Nat):zAi (t.map zY6) c k=zAi t c k:=by
 induction k with
 | zero=>rfl
 | succ k ih=>unfold zAi;rw[ih,zY8];rfl
theorem zZB {x y:TrN}:zAT x y=true↔x.kd=y.kd/\x.ats=y.ats/\x.dat.toList=y.dat.toList/\x.ma=y.ma/\x.mi=y.mi:=by
 unfold zAT;simp[and_assoc]
theorem zZe {x y:TrN}(h:zY6 x=zY6 y):x.dep=y.dep/\x.nm=y.nm/\x.kd=y.kd/\x.dat=y.dat/\x.ma=y.ma/\x.mi=y.mi/\x.cl=y.cl:=by
 cases x;cases y;simp[zY6]at h;simp[h]
theorem zZW {x y:TrN}(h:zY6 x=zY6 y)(h5:x.kd=5->y.ats= [])(hk:zAc x=0):zAc y=0:=by
 obtain⟨_,_,a,b,c,d,e⟩:=zZe h;grind[zAc]
theorem zZ8 {t u:List TrN}(hb:u.map zY6=t.map zY6)(hc:∀i,i<t.length->zBS (zAa u i).ats=0)(h5:∀i,i<t.length->(zAa t i).kd=5->(zAa u i).ats= [])
  (heq:∀i k,i<t.length->k<t.length->0<(zAa t i).cl->zAT (zAa t k) (zAa t i)=true->(zAa u k).ats=(zAa u i).ats) (h:zAt t=0):zAt u=0:=by
 obtain⟨z1,z2,z3,z4,z5⟩:=zAf h;have hl:u.length=t.length:=by have:=congrArg List.length hb;simpa using this
 have hg:∀i,zY6 (zAa u i)=zY6 (zAa t i):=fun i=>by rw[<- zY8,<- zY8,hb]
 have hok:zA1 u u.length:=by
  intro i hi;rw[hl]at hi;obtain⟨n1,n2,n3,n4,n5⟩:=zAd (z3 i hi);have m1:zAD u i=0:=by rw[<- zZi,hb,zZi];exact n1
  have m2:i≠0->zA0 u i=0:=fun h0=>by rw[<- zZj,hb,zZj];exact n2 h0
  have m3:=zZW (hg i).symm (h5 i hi) n3;rw[zBO rfl m1 m2 m3 (hc i hi)];obtain⟨c1,c2,c3⟩:=zEN n5;obtain⟨_,_,_,_,_,_,g1⟩:=zZe (hg i);unfold zGc;have hun:zBB u i i=false:=by
   refine(zFo i).2 fun j hj hp he=>?_;obtain⟨_,_,q1,q2,q3,q4,q5⟩:=zZe (hg j);obtain⟨_,_,r1,r2,r3,r4,r5⟩:=zZe (hg i);rw[r5]at hp;have hlk:=(zFo i).1 c3 j hj hp (by rw[<- q5,<- r5];exact he);have ha:=heq i j hi (by omega) hp hlk;obtain⟨k1,_,k3,k4,k5⟩:=zZB.1 hlk;exact zZB.2 ⟨by rw[q1,r1];exact k1,ha,by rw[q2,r2];exact k3,by rw[q3,r3];exact k4,by rw[q4,r4];exact k5⟩
  rw[if_neg (by simp[hun]),if_neg (by
   rw[g1,<- zZq,hb,zZq];omega)]
 refine(zBh (zES (by omega) (by omega) hok fun i hi=>?_)).2;rw[hl]at hi;have:=z5 i hi;unfold zDM at this ⊢;rw[hl,<- zZk,hb,zZk];rw[(zZe (hg i)).2.2.2.2.2.2];exact this
theorem zZ9 {b:List BrN}(hl:b.length<=1000)(h:∀x∈b,x.nm.size<=1000000/\x.ats.length<=1000/\(∀a∈x.ats,a.1.size<=1000000/\a.2.size<=1000000)/\x.red.length<=1000/\∀s∈x.red,s.size<=1000000):zBN b where
 tree:=fun y hy=>by
  unfold plT at hy;obtain⟨x,hx,rfl⟩:=List.mem_map.1 hy;obtain⟨h1,h2,h3,_⟩:=h x hx;exact⟨h1,h3,by show x.ats.length<=_;omega⟩
 ats:=fun x hx=>(h x hx).2.1;red:=fun x hx=>(h x hx).2.2.2;len:=hl
/-! What is done to the raw tree. -/
def zZd (t:List TrN)(i:Nat)(l:List zAq):List TrN:=t.set i {zAa t i with ats:=l}
theorem zY5 (t:List TrN)(i:Nat)(l:List zAq)(hi:i<t.length)(j:Nat):zAa (zZd t i l) j=if j=i then {zAa t i with ats:=l}else zAa t j:=by grind[zZd,zAa]
theorem zZs {t:List TrN}(h:zAt t=0){i:Nat}(hi:i<t.length)(hk:(zAa t i).kd=1){l:List zAq}(hl:zBS l=0):zAt (zZd t i l)=0:=by
 have hlen:(zZd t i l).length=t.length:=List.length_set ..;obtain⟨_,_,hok,_,_⟩:=zAf h;have hcl:(zAa t i).cl=0:=(zGu (zAd (hok i hi)).2.2.1).1 hk;refine zZ8 (t:=t) ?_ (fun j hj=>?_) (fun j hj h5=>?_) (fun j k hj hk' hc hlk=>?_) h
 ·refine List.ext_getElem (by rw[List.length_map,List.length_map,hlen]) fun j h1 h2=>?_;rw[List.length_map]at h1 h2;rw[List.getElem_map,List.getElem_map,<- zAl _ _ h1,<- zAl _ _ h2,zY5 t i l hi j];split
  ·rename_i e;rw[e];rfl
  ·rfl
 ·rw[zY5 t i l hi j];split
  ·exact hl
  ·exact(zAd (hok j hj)).2.2.2.1
 ·rw[zY5 t i l hi j,if_neg (fun e=>by rw[e,hk]at h5;cases h5)];exact(zGu (zAd (hok j hj)).2.2.1).2.1 h5 |>.2
 ·have hji:j≠i:=fun e=>by rw[e,hcl]at hc;exact absurd hc (by decide)
  obtain⟨q1,q2,_⟩:=zBX.1 hlk;have hki:k≠i:=fun e=>by
   rw[e,hk]at q1;exact absurd ((zGu (zAd (hok j hj)).2.2.1).1 q1.symm) (by omega)
  rw[zY5 t i l hi j,zY5 t i l hi k,if_neg hji,if_neg hki];exact q2
theorem zY9 {p:TrN->Bool}:∀(t:List TrN) (y:TrN),(∀z,t[(t.takeWhile p).length]? = some z->p y=p z)->(t.set (t.takeWhile p).length y).takeWhile p=t.takeWhile p/\(t.set (t.takeWhile p).length y).dropWhile p=(t.dropWhile p).set 0 y
 | [],_,_=>⟨rfl,rfl⟩
 | a :: r,y,h=>by
  by_cases e:p a=true
  ·rw[List.takeWhile_cons_of_pos e]at h ⊢;rw[List.dropWhile_cons_of_pos e];rw[List.length_cons,List.set_cons_succ,List.takeWhile_cons_of_pos e,List.dropWhile_cons_of_pos e];obtain⟨h1,h2⟩:=zY9 r y fun z hz=>h z (by rw[List.length_cons,List.getElem?_cons_succ];exact hz);exact⟨by rw[h1],h2⟩
  ·rw[List.takeWhile_cons_of_neg e]at h ⊢;rw[List.dropWhile_cons_of_neg e];have hy:¬p y=true:=by rw[h a rfl];exact e
   show ((y :: r).takeWhile p= []/\(y :: r).dropWhile p=y :: r);rw[List.takeWhile_cons_of_neg hy,List.dropWhile_cons_of_neg hy];exact⟨rfl,rfl⟩
theorem zZb {t:List TrN}(h:0<zDT t):zDT t=(t.takeWhile zEA).length/\zDT t<t.length/\(zAa t (zDT t)).kd=1/\zEA (zAa t (zDT t))=false:=by
 unfold zDT at h ⊢;have hsum:=congrArg List.length (List.takeWhile_append_dropWhile (p:=zEA) (l:=t));rw[List.length_append]at hsum
 cases hd:t.dropWhile zEA with
 | nil=>rw[hd]at h;exact absurd h (Nat.lt_irrefl 0)
 | cons y r=>
  rw[hd]at h;have h:0<if y.kd=1 then (t.takeWhile zEA).length else 0:=h
  by_cases hy:y.kd=1
  case neg=>rw[if_neg hy]at h;exact absurd h (by decide)
  show (if y.kd=1 then _ else 0)=_/\(if y.kd=1 then _ else 0)<_/\(zAa t (if y.kd=1 then _ else 0)).kd=1/\zEA (zAa t (if y.kd=1 then _ else 0))=false;rw[if_pos hy];rw[hd,List.length_cons]at hsum;have hg:zAa t (t.takeWhile zEA).length=y:=by
   have e1:t=t.takeWhile zEA++y :: r:=by rw[<- hd,List.takeWhile_append_dropWhile]
   unfold zAa;conv=>lhs;arg 1;rw[e1]
   simp[List.getD]
  have hn:zEA y=false:=by
   have:=List.head_dropWhile_not (p:=zEA) (l:=t) (by rw[hd];simp);simp only[hd,List.head_cons]at this;exact this
  exact⟨rfl,by omega,by rw[hg];exact hy,by rw[hg];exact hn⟩
theorem yAu {t:List TrN}(h:0<zDT t)(l:List zAq):zIh (zZd t (zDT t) l)=zIh t/\zDT (zZd t (zDT t) l)=zDT t:=by grind[zZd,zEA,zAa,zDT,zIh,zZb,zY9,zAl]
theorem zY4 {b:List BrN}(h:awF b=0)(hc:0<zB2 b):zIh (awL b)=(plT (rwB b)).map (clM (zBd (zBk b)))/\0<zDT (awL b)/\Ren (zBd (zBk b)) (plT (rwB b)):=by
 obtain⟨hk,hL⟩:=zNF h;obtain⟨x,f,e,hs,h0,h1,_⟩:=zDe (zAp hk.br).1;obtain⟨_,hcw⟩:=zB4 hk.br hk.dirs e hs;have hren:=zUQ hk.br hk.dirs e hs h0 h1;have hrw:=zC4 hk.br hk.dirs e hs h0 h1;have hpf:=zGj hk.br hk.dirs e hs h0 h1;have hX:plT (rwB b)=(rtB x).toTrN :: plT ((zCV zCm (zB5 f++mkF x)).flatMap (flc 1)):=by
  rw[hrw];unfold zDk;rw[zDf];rfl
 have hP:zBk b=(rtB x).toTrN :: plT ((zDY zCm (zCV zCm (zB5 f++mkF x)) (zKB b)).flatMap (flc 1)):=by
  rw[hpf];unfold zRA;rw[if_pos hc,zDf];rfl
 obtain⟨c1,c2⟩:=zVq (zBd (zBk b)) (zBk b);obtain⟨d1,d2⟩:=zVp (r:=(rtB x).toTrN) rfl (q:=zKB b) rfl rfl (zF4 (x:=x) hcw);rw[<- hP,<- hX]at d1;rw[<- hP]at d2;rw[hL];exact⟨c1.trans (by rw[d1]),by show 0<zDT ((zBk b).map _);rw[c2];exact d2,hren.sub fun y hy=>zHu y hy⟩
theorem yAt {b:List BrN}(h:awF b=0)(hc:0<zB2 b):∀y∈zIh (awL b),y.cl≠0->2<=(zIh (awL b)).countP fun z=>z.cl==y.cl:=by
 obtain⟨c1,_,hren⟩:=zY4 h hc;obtain⟨hk,_⟩:=zNF h;obtain⟨x,f,e,hs,h0,h1,_⟩:=zDe (zAp hk.br).1;intro y hy hcl;rw[c1]at hy ⊢;obtain⟨z,hz,rfl⟩:=List.mem_map.1 hy;have hzc:z.cl≠0:=fun e2=>hcl (by show zBd (zBk b) z.cl=0;rw[e2];exact hren.zero);obtain⟨w,hw,a1,_⟩:=zJj hk.br hk.dirs e hs h0 h1 z (zHu z hz) hzc;have h2:=zOT (zAp hk.br).1 w hw (by rw[<- a1];exact hzc);rw[<- a1,<- zJe hk.br hk.dirs e hs h0 h1 hzc]at h2;rw[List.countP_map];refine Nat.le_trans h2 (List.countP_mono_left fun v _ hv=>?_);have hv:v.cl=z.cl:=beq_iff_eq.1 hv;show (zBd (zBk b) v.cl==zBd (zBk b) z.cl)=true;rw[hv];exact beq_self_eq_true _
def zZ5 (t:List TrN):List TrN:=t.takeWhile zEA
def zZ7 (t:List TrN):List TrN:=((t.dropWhile zEA).drop 1).dropWhile fun y=>decide (1<y.dep)
def inL (t:List TrN):List TrN:=((t.dropWhile zEA).drop 1).takeWhile fun y=>decide (1<y.dep)
theorem zZc {t:List TrN}(h:0<zDT t):t=zZ5 t++zAa t (zDT t) :: (inL t++zZ7 t)/\zIh t=zZ5 t++zZ7 t/\zDT t=(zZ5 t).length:=by
 obtain⟨h1,h2,h3,h4⟩:=zZb h;have hd:t.dropWhile zEA=zAa t (zDT t) :: (t.dropWhile zEA).drop 1:=by
  have e1:t.dropWhile zEA=t.drop (zDT t):=by
   conv=>rhs;arg 2;rw[<- List.takeWhile_append_dropWhile (p:=zEA) (l:=t)]
   rw[h1,List.drop_left]
  rw[e1,List.drop_eq_getElem_cons h2,zAl t _ h2];rfl
 refine⟨?_,rfl,h1⟩;conv=>lhs;rw[<- List.takeWhile_append_dropWhile (p:=zEA) (l:=t),hd]
 unfold zZ5 inL zZ7;rw[List.takeWhile_append_dropWhile]
theorem yAi {P E R:List TrN}{l:TrN}(hP:∀y∈P,zEA y=true)(hl:zEA l=false)(hk:l.kd=1)(hE:∀y∈E,1<y.dep)(hR:∀y,R.head? = some y->¬1<y.dep):zIh (P++l :: (E++R))=P++R/\zDT (P++l :: (E++R))=P.length:=by
 have hn:¬zEA l=true:=by rw[hl];exact Bool.false_ne_true
 have ht:(P++l :: (E++R)).takeWhile zEA=P:=by rw[List.takeWhile_append_of_pos hP,List.takeWhile_cons_of_neg hn,List.append_nil]
 have hd:(P++l :: (E++R)).dropWhile zEA=l :: (E++R):=by rw[List.dropWhile_append_of_pos hP,List.dropWhile_cons_of_neg hn]
 constructor
 ·unfold zIh;rw[ht,hd];show P++(E++R).dropWhile _=_;rw[zQA hE hR]
 ·unfold zDT;rw[hd,ht];show (if l.kd=1 then _ else 0)=_;rw[if_pos hk]
theorem zZ3 {b:List BrN} (h:awF b=0) (hc:0 < zB2 b) {E:List TrN} (hE:∀ y ∈ E,1 < y.dep) (hlen:E.length ≠ (inL (awL b)).length) {u:List TrN} (hu:zA5 (zZ5 (awL b) ++ zAa (awL b) (zDT (awL b)) :: (E ++ zZ7 (awL b)))=(u,0)):zIp u=([],(zDT (awL b):Int),18)/\zAt u=0:=by
 obtain⟨c1,c2,c3⟩:=zY4 h hc
 obtain⟨p1,p2,p3⟩:=zZc c2
 obtain⟨l1,l2,l3,l4⟩:=zZb c2
 have htw:=yAt h hc
 have hP:∀ y ∈ zZ5 (awL b),zEA y=true:=fun y hy=>by
  have:=List.all_takeWhile (p:=zEA) (l:=awL b)
  rw [List.all_eq_true] at this
  exact this y hy
 have hR:∀ y,(zZ7 (awL b)).head? = some y->¬ 1 < y.dep:=fun y hy hd=>by
  unfold zZ7 at hy
  have hne:(((awL b).dropWhile zEA).drop 1).dropWhile (fun y=>decide (1 < y.dep)) ≠ []:=fun e=>by rw [e] at hy;cases hy
  have:=List.head_dropWhile_not (p:=fun y:TrN=>decide (1 < y.dep)) (l:=((awL b).dropWhile zEA).drop 1) hne
  rw [List.head?_eq_some_head hne] at hy
  cases hy
  rw [decide_eq_true hd] at this
  cases this
 generalize hT:zZ5 (awL b) ++ zAa (awL b) (zDT (awL b)) :: (E ++ zZ7 (awL b))=u0 at hu
 obtain⟨j1,j2⟩:=yAi hP l4 l3 hE hR
 rw [hT] at j1 j2
 rw [<- p2] at j1
 rw [<- p3] at j2
 obtain⟨_,_,_,hnum⟩:=zS6 hu
 have htr:=zH1 hu
 obtain⟨q1,q2⟩:=zVq (zBd u0) u0
 have hsub:∀ y ∈ zIh (awL b),y ∈ u0:=fun y hy=>by
  rw [p2] at hy
  rw [<- hT]
  rcases List.mem_append.1 hy with hy | hy
  ·exact List.mem_append.2 (.inl hy)
  ·exact List.mem_append.2 (.inr (List.mem_cons_of_mem _ (List.mem_append.2 (.inr hy))))
 have hcnt:∀ c,(zIh (awL b)).countP (fun z=>z.cl == c)<=u0.countP fun z=>z.cl == c:=fun c=>by
  rw [p2,<- hT,List.countP_append,List.countP_append,List.countP_cons,List.countP_append];omega
 have hmul:∀ y ∈ zIh (awL b),y.cl ≠ 0->zBd u0 y.cl ≠ 0:=fun y hy hcl=>zJs (zKV hcl (Nat.le_trans (htw y hy hcl) (hcnt _)))
 have hren:Ren (zBd u0) (zIh (awL b)):=by
  have hnz:∀ y ∈ zIh (awL b),zBd u0 y.cl=0->y.cl=0:=fun y hy h=>by
   by_cases hcl:y.cl=0
   ·exact hcl
   ·exact absurd h (hmul y hy hcl)
  refine⟨zDd _,hnz,fun y hy z hz h=>?_⟩
  by_cases hcl:y.cl=0
  ·rw [hcl,zDd] at h
   rw [hcl,hnz z hz h.symm]
  ·have hne:=hmul y hy hcl
   obtain⟨i,hi,rfl⟩:=List.getElem_of_mem (hsub y hy)
   obtain⟨j,hj,rfl⟩:=List.getElem_of_mem (hsub z hz)
   rw [<- zAl _ i hi] at hne h ⊢
   rw [<- zAl _ j hj] at h ⊢
   exact zG3 hi hj hne h
 have hlu:zDT u=zDT (awL b):=by
  rw [hnum]
  show zDT (u0.map (clM (zBd u0)))=_
  rw [q2,j2]
 have hrest:zDH u=zDH (awL b):=by
  unfold zDH
  rw [hlu,if_neg (by omega),if_neg (by omega),hnum]
  show (zA5 (zIh (u0.map (clM (zBd u0))))).1=_
  rw [q1,j1,zQS hren]
 refine⟨?_,htr⟩
 rw [<- hlu]
 refine zNI h htr hrest fun e=>hlen ?_
 have h1:=congrArg List.length e
 rw [hnum] at h1
 have h1:(u0.map (clM (zBd u0))).length=(awL b).length:=h1
 rw [List.length_map,<- hT] at h1
 conv at h1=>rhs;rw [p1]
 rw [List.length_append,List.length_append,List.length_cons,List.length_cons,List.length_append,List.length_append] at h1
 omega
theorem zZ4 {b:List BrN}(h:awF b=0)(hc:0<zB2 b){u:List TrN}(hu:zA5 (zIh (awL b))=(u,0)):zIp u=([],0,18):=by
 obtain⟨c1,c2,c3⟩:=zY4 h hc;obtain⟨hk,hL⟩:=zNF h;obtain⟨x,f,e,hs,h0,h1,_⟩:=zDe (zAp hk.br).1;obtain⟨_,hcw⟩:=zB4 hk.br hk.dirs e hs;have hrw:=zC4 hk.br hk.dirs e hs h0 h1;obtain⟨_,_,_,hnum⟩:=zS6 hu;have htr:=zH1 hu;have hX:plT (rwB b)=(rtB x).toTrN :: plT ((zCV zCm (zB5 f++mkF x)).flatMap (flc 1)):=by
  rw[hrw];unfold zDk;rw[zDf];rfl
 have hl0:zDT u=0:=by
  rw[hnum,c1];show zDT ((List.map (clM (zBd (zBk b))) (plT (rwB b))).map (clM _))=0;rw[(zVq _ _).2,(zVq _ _).2,hX];exact zTG (r:=(rtB x).toTrN) rfl (zF4 (x:=x) hcw)
 have hrest:zDH u=zDH (awL b):=by
  unfold zDH;rw[hl0,if_pos rfl,if_neg (by omega),hu]
 have:=zNI h htr hrest fun e=>by
  have h1:=congrArg List.length e;rw[hnum]at h1;have h1:(List.map (clM _) (zIh (awL b))).length=(awL b).length:=h1;obtain⟨p1,p2,_⟩:=zZc c2;rw[List.length_map,p2]at h1;conv at h1=>rhs;rw[p1]
  rw[List.length_append,List.length_append,List.length_cons,List.length_append]at h1;omega
 rw[hl0]at this;exact this
theorem yAj {b:List BrN}(h:awF b=0)(hc:0<zB2 b){l:List zAq}(hl:zBS l=0)(hn:l≠ []):zIp (zZd (awL b) (zDT (awL b)) l)=([],(zDT (awL b):Int),18)/\zAt (zZd (awL b) (zDT (awL b)) l)=0:=by
 obtain⟨c1,c2,c3⟩:=zY4 h hc;obtain⟨l1,l2,l3,l4⟩:=zZb c2;obtain⟨s1,s2⟩:=yAu c2 l;have ht:=(zQ9 h).2;have hu:=zZs ht l2 l3 hl;refine⟨?_,hu⟩;have:=zNI h hu (by unfold zDH;rw[s2,s1,if_neg (by omega),if_neg (by omega)]) fun e=>?_
 ·rw[s2]at this;exact this
 ·have hats:(zAa (awL b) (zDT (awL b))).ats= []:=by
   obtain⟨hk,hL⟩:=zNF h;obtain⟨x,f,e,hs,h0,h1,_⟩:=zDe (zAp hk.br).1;obtain⟨_,hcw⟩:=zB4 hk.br hk.dirs e hs;have hmem:=zC1 l2;rw[hL]at hmem l4 ⊢;obtain⟨y,hy,hyc⟩:=List.mem_map.1 hmem;rw[zGj hk.br hk.dirs e hs h0 h1]at hy;obtain⟨z,hz,rfl⟩:=List.mem_map.1 hy;have hzn:zEA z.toTrN=false:=by
    rw[<- hyc]at l4;exact l4
   rcases List.mem_cons.1 hz with rfl|hz
   ·cases hzn
   rw[zDf]at hz;obtain⟨q,hq,hz⟩:=List.mem_flatMap.1 hz;unfold zRA at hq;rw[if_pos hc]at hq;rcases List.mem_cons.1 ((zDI _ _).mem_iff.1 hq)with rfl|hq
   ·rcases List.mem_cons.1 hz with rfl|hz
    ·rw[<- hyc];rfl
    ·have:=zEH _ _ _ hz;unfold zEA at hzn;rw[decide_eq_false (show ¬z.toTrN.dep=1 by omega)]at hzn;cases hzn
   ·have:=zPG [q] (fun p hp=>by rw[List.mem_singleton.1 hp];exact zF4 (x:=x) hcw q hq) z.toTrN (List.mem_map.2 ⟨z,by rw[List.flatMap_cons,List.flatMap_nil,List.append_nil];exact hz,rfl⟩);rw[this]at hzn;cases hzn
  have h2:=zY5 (awL b) (zDT (awL b)) l l2 (zDT (awL b));rw[if_pos rfl,e]at h2;have h3:=congrArg TrN.ats h2;rw[hats]at h3;exact hn h3.symm
section
variable {t:List TrN}
theorem zZZ {p:List ByteArray}{k:Nat}(hk:k<t.length)(h:zAw t k=p):∃j,j<=k/\zKJ t p=((j:Int),0)/\zAw t j=p:=by
 cases hf:zBy (isP t p) 0 t.length with
 | none=>exact absurd h (of_decide_eq_false (zAJ _ _ hf k (Nat.zero_le _) (by omega)))
 | some j=>
  obtain⟨h1,_,h3⟩:=zBD _ _ _ hf;have hl:=zHP _ _ _ hf;refine⟨j,?_,?_,of_decide_eq_true h1⟩
  ·by_cases e:j<=k
   ·exact e
   ·exact absurd h (of_decide_eq_false (hl k (Nat.zero_le _) (by omega)))
  ·unfold zKJ zGv;rw[hf];exact if_neg (by show ¬((j:Int)<0);omega)
theorem yAm {p:List ByteArray}{i:Int}(h:zKJ t p=(i,0)):∃j:Nat,i=j/\j<t.length/\zAw t j=p:=by
 unfold zKJ zGv at h
 cases hf:zBy (isP t p) 0 t.length with
 | none=>rw[hf]at h;simp at h
 | some j=>
  rw[hf]at h;obtain⟨h1,_,h3⟩:=zBD _ _ _ hf;rw[if_neg (by show ¬((j:Int)<0);omega)]at h;cases h;exact⟨j,rfl,by omega,of_decide_eq_true h1⟩
theorem yAs (t:List TrN)(p:List ByteArray):zKJ t p=(0,4)\/∃j:Nat,zKJ t p=((j:Int),0)/\j<t.length/\zAw t j=p:=by
 by_cases h:zGv (isP t p) t.length<0
 ·exact .inl (if_pos h)
 ·have h2:zKJ t p=(zGv (isP t p) t.length,0):=if_neg h;obtain⟨j,h3,h4,h5⟩:=yAm h2;exact .inr ⟨j,by rw[h2,h3],h4,h5⟩
theorem zZO {i:Nat}(h:i≠0):(zAw t i).getLast? = some (zAa t i).nm:=by rw[zCw t i h];simp
theorem zZp (hok:zA1 t t.length){k:Nat}(hk:k<t.length){s:ByteArray}(h:zAw t k= [s]):(zAa t k).dep=1/\(zAa t k).nm=s/\k≠0:=by
 have h1:=(zKC hok k hk).2;have hk0:k≠0:=by rintro rfl;rw[zDJ]at h;cases h
 have h2:=zZO (t:=t) hk0;rw[h]at h1 h2;exact⟨h1.symm,(oI h2).symm,hk0⟩
theorem zZP (hok:zA1 t t.length):∀j,0<j->j<t.length->∃a r,0<a/\a<=j/\(zAa t a).dep=1/\zAw t j=(zAa t a).nm :: r:=by
 intro j
 induction j using Nat.strongRecOn with
 | ind j ih=>
  intro h0 hj;have hj0:j≠0:=by omega
  obtain⟨h1,h2⟩:=zJ4 hok hj hj0;have h3:=zCT t j;rw[zCw t j hj0];by_cases e:(abv t j).toNat=0
  ·rw[e]at h2 ⊢;rw[zF7 hok (by omega)]at h2;exact⟨j,[],h0,Nat.le_refl _,by omega,rfl⟩
  ·obtain⟨a,r,a1,a2,a3,a4⟩:=ih (abv t j).toNat (by omega) (by omega) (by omega);exact⟨a,r++ [(zAa t j).nm],a1,by omega,a3,by rw[a4];rfl⟩
theorem zZm (hok:zA1 t t.length){k:Nat}(hk:k<t.length)(hd:(zAa t k).dep=1):zAw t k= [(zAa t k).nm]:=by
 have h1:=(zKC hok k hk).2;have hk0:k≠0:=by rintro rfl;have:=zF7 hok hk;omega
 rw[zCw t k hk0]at h1 ⊢;rw[List.length_append,List.length_singleton]at h1;rw[List.eq_nil_of_length_eq_zero (l:=zAw t (abv t k).toNat) (by omega)];rfl
theorem zZS {y:TrN}(h:zEA y=false):y.dep=1/\y.nm=zA6:=by
 unfold zEA at h;simp only[Bool.not_eq_false',Bool.and_eq_true,decide_eq_true_eq]at h;exact h
theorem zZR {y:TrN}(h1:y.dep=1)(h2:y.nm=zA6):zEA y=false:=by unfold zEA;rw[decide_eq_true h1,decide_eq_true h2];rfl
/-! Paths in their order. -/
def zY3:List ByteArray->List ByteArray->Bool
 | [],q=>!q.isEmpty
 | _ :: _,[]=>false
 | a :: p,b :: q=>if a=b then zY3 p q else decide (L a<L b)
def zZh (p q:List ByteArray):Int:=if zY3 p q=true then -1 else if zY3 q p=true then 1 else 0
def zZD (t:List TrN)(p:List ByteArray):Nat:=match zBy (fun j=>decide (0<zZh (zAw t j) p)) 0 t.length with
 | some i=>i
 | none=>t.length
def zZo (t:List TrN)(p:List ByteArray)(n:TrN):List TrN:=t.take (zZD t p)++ {n with dep:=p.length,nm:=p.getLast?.getD ⟨#[]⟩} :: t.drop (zZD t p)
def yAc (t:List TrN)(p:List ByteArray):Int:=if 0<=zGv (isP t p) t.length then 8 else if zGv (isP t p.dropLast) t.length<0 then 4 else if (zAa t (zGv (isP t p.dropLast) t.length).toNat).kd≠1 then 14 else 0
theorem yAw {p:List ByteArray}{a c:Nat}(hlt:∀j,j<=a->zY3 (zAw t j) p=true)(ha:a<t.length)(hc:c<=t.length)(hgt:c<t.length->zY3 (zAw t c) p=false/\zY3 p (zAw t c)=true):a<zZD t p/\zZD t p<=c\/a<zZD t p/\c=t.length/\zZD t p<=t.length:=by
 have hn:∀j,j<=a->decide (0<zZh (zAw t j) p)=false:=fun j hj=>by unfold zZh;rw[if_pos (hlt j hj)];rfl
 unfold zZD
 cases hf:zBy (fun j=>decide (0<zZh (zAw t j) p)) 0 t.length with
 | none=>
  by_cases hct:c<t.length
  ·obtain⟨g1,g2⟩:=hgt hct;have:=zAJ _ _ hf c (Nat.zero_le _) (by omega);have h2:zZh (zAw t c) p=1:=by unfold zZh;rw[if_neg (by rw[g1];decide),if_pos g2]
   rw[h2]at this;exact absurd this (by decide)
  ·exact .inr ⟨ha,by omega,Nat.le_refl _⟩
 | some i=>
  obtain⟨h1,_,h3⟩:=zBD _ _ _ hf;have hl:=zHP _ _ _ hf;have hai:a<i:=by
   by_cases e:a<i
   ·exact e
   ·rw[hn i (by omega)]at h1;cases h1
  by_cases hct:c<t.length
  ·obtain⟨g1,g2⟩:=hgt hct;have h2:zZh (zAw t c) p=1:=by unfold zZh;rw[if_neg (by rw[g1];decide),if_pos g2]
   refine .inl ⟨hai,?_⟩;by_cases e:i<=c
   ·exact e
   ·have:=hl c (Nat.zero_le _) (by omega);rw[h2]at this;exact absurd this (by decide)
  ·exact .inr ⟨hai,by omega,by show i<=t.length;omega⟩
end
theorem yAy {b:List BrN}(h:awF b=0)(hc:0<zB2 b):(∀y∈zZ5 (awL b),zEA y=true/\zER y=true)/\(∀y∈inL (awL b),y.dep=2/\y.cl≠0)/\inL (awL b)≠ []/\∀y,(zZ7 (awL b)).head? = some y->zER y=false:=by
 obtain⟨hk,hL⟩:=zNF h;obtain⟨x,f,e,hs,h0,h1,_⟩:=zDe (zAp hk.br).1;obtain⟨_,hcw⟩:=zB4 hk.br hk.dirs e hs;have hrw:=zC4 hk.br hk.dirs e hs h0 h1;have hren:=zUQ hk.br hk.dirs e hs h0 h1;have hA:∀y∈plT (rwB b),zEA y=true:=fun y hy=>by
  rw[hrw]at hy;unfold zDk at hy;rw[zDf]at hy;rcases List.mem_cons.1 (show y∈(rtB x).toTrN :: plT ((zCV zCm (zB5 f++mkF x)).flatMap (flc 1))from hy)with rfl|hy
  ·rfl
  ·exact zPG _ (zF4 (x:=x) hcw) y hy
 have hP:zBk b=(plT (rwB b)).takeWhile zER++(zOH :: (zJx (plT b) (zB2 b).toNat++(plT (rwB b)).dropWhile zER)):=by
  unfold zBk zLM zLg;rw[if_pos hc,List.append_assoc];rfl
 generalize hX:plT (rwB b)=X at hA hP;have hlk:∀y∈zJx (plT b) (zB2 b).toNat,y.dep=2:=fun y hy=>by
  obtain⟨j,_,rfl⟩:=List.mem_map.1 hy;rfl
 have hcl:∀y∈zJx (plT b) (zB2 b).toNat,y.cl≠0:=fun y hy=>by
  obtain⟨j,hj,rfl⟩:=List.mem_map.1 hy;have hj:=List.mem_range.1 hj;obtain⟨_,_,hok,_,_⟩:=zAf (zAp hk.br).1;obtain⟨i,hi,hq⟩:=zFR hok (plT b).length (Nat.le_refl _) ((j+1:Nat):Int) (by omega) (by unfold zB2 at hj;rw[zAk];omega);obtain⟨_,h2,_⟩:=zAU hi;show (zAa (plT b) (zCe (plT b) ((j+1:Nat):Int))).cl≠0;rw[<- hq,h2,hq];omega
 have hrd:∀y,(X.dropWhile zER).head? = some y->zER y=false:=fun y hy=>by
  have hne:X.dropWhile zER≠ []:=fun e=>by rw[e]at hy;cases hy
  have:=List.head_dropWhile_not (p:=zER) (l:=X) hne;rw[List.head?_eq_some_head hne]at hy;cases hy;exact this
 have hbd:∀y,zER y=false->y.dep=1:=fun y hy=>by
  unfold zER at hy;simp only[Bool.not_eq_false',Bool.and_eq_true,decide_eq_true_eq]at hy;exact hy.1
 have hT:awL b=(X.takeWhile zER).map (clM (zBd (zBk b)))++(clM (zBd (zBk b)) zOH :: ((zJx (plT b) (zB2 b).toNat).map (clM (zBd (zBk b)))++(X.dropWhile zER).map (clM (zBd (zBk b))))):=by
  rw[hL];show (zBk b).map _=_;conv=>lhs;arg 2;rw[hP]
  rw[List.map_append,List.map_cons,List.map_append]
 have hP1:∀y∈(X.takeWhile zER).map (clM (zBd (zBk b))),zEA y=true/\zER y=true:=fun y hy=>by
  obtain⟨z,hz,rfl⟩:=List.mem_map.1 hy;have:=List.all_takeWhile (p:=zER) (l:=X);rw[List.all_eq_true]at this;exact⟨hA z ((List.takeWhile_sublist _).mem hz),this z hz⟩
 have hE1:∀y∈(zJx (plT b) (zB2 b).toNat).map (clM (zBd (zBk b))),y.dep=2/\y.cl≠0:=fun y hy=>by
  obtain⟨z,hz,rfl⟩:=List.mem_map.1 hy;refine⟨hlk z hz,fun h3=>hcl z hz (hren.nz z ?_ h3)⟩;rw[hP];exact List.mem_append.2 (.inr (List.mem_cons_of_mem _ (List.mem_append.2 (.inl hz))))
 have hR1:∀y,((X.dropWhile zER).map (clM (zBd (zBk b)))).head? = some y->zER y=false:=fun y hy=>by
  rw[List.head?_map]at hy;obtain⟨z,hz,rfl⟩:=Option.map_eq_some_iff.1 hy;exact hrd z hz
 have hne:(zJx (plT b) (zB2 b).toNat).map (clM (zBd (zBk b)))≠ []:=fun e=>by
  have:=congrArg List.length e;unfold zJx at this;simp at this;omega
 generalize (X.takeWhile zER).map (clM (zBd (zBk b)))=P1 at hT hP1;generalize (zJx (plT b) (zB2 b).toNat).map (clM (zBd (zBk b)))=E1 at hT hE1 hne;generalize (X.dropWhile zER).map (clM (zBd (zBk b)))=R1 at hT hR1;have hd:(awL b).dropWhile zEA=clM (zBd (zBk b)) zOH :: (E1++R1):=by
  rw[hT,List.dropWhile_append_of_pos fun y hy=>(hP1 y hy).1,List.dropWhile_cons_of_neg (by show ¬zEA zOH=true;decide)]
 have hb1:zZ5 (awL b)=P1:=by
  unfold zZ5;rw[hT,List.takeWhile_append_of_pos fun y hy=>(hP1 y hy).1,List.takeWhile_cons_of_neg (by show ¬zEA zOH=true;decide),List.append_nil]
 have hdeep:∀y∈E1,1<y.dep:=fun y hy=>by rw[(hE1 y hy).1];decide
 have hrr:∀y,R1.head? = some y->¬1<y.dep:=fun y hy=>by rw[hbd y (hR1 y hy)];decide
 have ha1:zZ7 (awL b)=R1:=by
  unfold zZ7;rw[hd];exact zQA hdeep hrr
 have hi1:inL (awL b)=E1:=by
  unfold inL;rw[hd];show (E1++R1).takeWhile _=_;rw[List.takeWhile_append_of_pos fun y hy=>decide_eq_true (hdeep y hy)]
  cases R1 with
  | nil=>simp
  | cons z r=>rw[List.takeWhile_cons_of_neg (by rw[decide_eq_true_iff];exact hrr z rfl),List.append_nil]
 rw[hb1,ha1,hi1];exact⟨hP1,hE1,hne,hR1⟩
theorem yAv {b:List BrN}(h:awF b=0)(hc:¬0<zB2 b):∀y∈awL b,zEA y=true:=by
 obtain⟨hk,hL⟩:=zNF h;obtain⟨x,f,e,hs,h0,h1,_⟩:=zDe (zAp hk.br).1;obtain⟨_,hcw⟩:=zB4 hk.br hk.dirs e hs;have hrw:=zC4 hk.br hk.dirs e hs h0 h1;intro y hy;rw[hL]at hy;obtain⟨z,hz,rfl⟩:=List.mem_map.1 hy;unfold zBk at hz;rw[if_neg hc,hrw]at hz;unfold zDk at hz;rw[zDf]at hz;rcases List.mem_cons.1 (show z∈(rtB x).toTrN :: plT ((zCV zCm (zB5 f++mkF x)).flatMap (flc 1))from hz)with rfl|hz
 ·rfl
 ·exact zPG _ (zF4 (x:=x) hcw) z hz
theorem yAf {b:List BrN} (h:awF b=0) {i:Nat} (hf:zKJ (awL b) [zA6]=((i:Int),0)):0 < zB2 b/\i=zDT (awL b):=by
 obtain⟨_,_,hok,_,_⟩:=zAf (zQ9 h).2
 obtain⟨j,e,hj,hp⟩:=yAm hf
 obtain rfl:i=j:=by omega
 obtain⟨d1,d2,_⟩:=zZp hok hj hp
 have hn:=zZR d1 d2
 by_cases hc:0 < zB2 b
 case neg=>rw [yAv h hc _ (zC1 hj)] at hn;cases hn
 refine⟨hc,?_⟩
 obtain⟨_,c2,_⟩:=zY4 h hc
 obtain⟨l1,l2,l3,l4⟩:=zZb c2
 obtain⟨m1,m2⟩:=zZS l4
 obtain⟨j2,k1,k2,_⟩:=zZZ l2 ((zZm hok l2 m1).trans (by rw [m2]))
 rw [hf] at k2
 have k2:=congrArg Prod.fst k2
 have k2:(i:Int)=(j2:Int):=k2
 by_cases hlt:i < zDT (awL b)
 ·rw [l1] at hlt
  obtain⟨g1,g2⟩:=zIu zEA (awL b) i hlt
  rw [<- zAl _ i g1,hn] at g2
  cases g2
 ·omega
def zZf:List ByteArray:=[zA6,ofL [57,57]]
section
variable {P E R:List TrN} {l:TrN}
theorem zZ1 {m:Nat}(hm:m<E.length):zAa (P++l :: (E++R)) (P.length+1+m)=E[m]:=by
 rw[zAl _ _ (by simp;omega),List.getElem_append_right (by omega)];simp only[show P.length+1+m-P.length=m+1 by omega,List.getElem_cons_succ];exact List.getElem_append_left hm
theorem zZ2 {y:TrN}(hy:R.head? = some y):zAa (P++l :: (E++R)) (P.length+1+E.length)=y:=by
 cases R with
 | nil=>cases hy
 | cons z r=>
  cases hy
  rw[zAl _ _ (by simp;omega),List.getElem_append_right (by omega)];simp only[show P.length+1+E.length-P.length=E.length+1 by omega,List.getElem_cons_succ];rw[List.getElem_append_right (Nat.le_refl _)];simp
theorem zZK {m:Nat}(hm:m<=E.length):(P++l :: (E++R)).take (P.length+1+m)=P++l :: E.take m:=by
 rw[show P.length+1+m=P.length+(m+1) by omega,List.take_length_add_append,List.take_succ_cons,List.take_append_of_le_length hm]
theorem zZx {m:Nat}(hm:m<=E.length):(P++l :: (E++R)).drop (P.length+1+m)=E.drop m++R:=by
 rw[show P.length+1+m=P.length+(m+1) by omega,List.drop_length_add_append,List.drop_succ_cons,List.drop_append_of_le_length hm]
theorem yAx {m:Nat}(hm:m<E.length)(hE:∀y∈E,y.dep=2)(hR:∀y,R.head? = some y->y.dep=1):zAM (P++l :: (E++R)) (P.length+1+m)=P++l :: ((E.take m++E.drop (m+1))++R):=by
 unfold zAM;rw[zZK (Nat.le_of_lt hm),Nat.add_assoc (P.length+1),zZx (show m+1<=E.length by omega),zZ1 hm,hE _ (List.getElem_mem hm)];have:(E.drop (m+1)++R).dropWhile (fun y=>decide ((2:Int)<y.dep))=E.drop (m+1)++R:=by
  cases hd:E.drop (m+1)++R with
  | nil=>rfl
  | cons z r=>
   refine List.dropWhile_cons_of_neg ?_;rw[decide_eq_true_iff]
   cases h2:E.drop (m+1)with
   | nil=>rw[h2]at hd;have:=hR z (by rw[show R=z :: r from hd];rfl);omega
   | cons z2 r2=>rw[h2]at hd;cases hd;have:=hE z (List.mem_of_mem_drop (by rw[h2];exact List.mem_cons_self));omega
 rw[this];simp[List.append_assoc]
end
theorem zZn {t:List TrN}(h:zAt t=0){n j:Nat}(hj:j<t.length):abv t j=(n:Int)↔n<j/\(zAa t j).dep=(zAa t n).dep+1/\∀i,n<i->i<=j->(zAa t n).dep<(zAa t i).dep:=by
 have z3:=(zAf h).2.2.1;constructor
 ·intro e;obtain⟨a,b,_,c⟩:=zGI (fun k hk=>z3 k (by omega)) e;exact⟨a,b,fun i x y=>by have:=c i x y;omega⟩
 ·rintro⟨a,b,c⟩;exact zMi a (by omega) fun k x y=>by have:=c k x (by omega);omega
theorem zZE {y:TrN}(h:zER y=false):y.dep=1/\L zA6<L y.nm:=by
 unfold zER at h;simp only[Bool.not_eq_false',Bool.and_eq_true,decide_eq_true_eq]at h;exact h
section
variable {b:List BrN} (h:awF b=0) (hc:0<zB2 b)
include h hc
theorem zZl:∃P E R l,awL b=P++l :: (E++R)/\zAa (awL b) (zDT (awL b))=l/\zZ5 (awL b)=P/\inL (awL b)=E/\zZ7 (awL b)=R/\zDT (awL b)=P.length/\(∀y∈P,zEA y=true/\zER y=true)/\(∀y∈E,y.dep=2/\y.cl≠0)/\E≠ []/\(∀y,R.head? = some y->zER y=false)/\(zAa (awL b) (zDT (awL b))).dep=1/\(zAa (awL b) (zDT (awL b))).nm=zA6/\(zAa (awL b) (zDT (awL b))).kd=1:=by
 obtain⟨_,c2,_⟩:=zY4 h hc;obtain⟨p1,_,p3⟩:=zZc c2;obtain⟨_,_,l3,l4⟩:=zZb c2;obtain⟨m1,m2⟩:=zZS l4;obtain⟨a1,a2,a3,a4⟩:=yAy h hc;exact⟨_,_,_,_,p1,rfl,rfl,rfl,rfl,p3,a1,a2,a3,a4,m1,m2,l3⟩
theorem zZY {k:Nat} (hk:k ∈ zBe (awL b) (zDT (awL b)) (awL b).length):∃ m,m < (inL (awL b)).length/\k=zDT (awL b)+1+m/\k < (awL b).length/\abv (awL b) k=(zDT (awL b):Int):=by
 obtain⟨P,E,R,l,hT,hll,-,hE,-,hp,h1,h2,h3,h4,m1,m2,-⟩:=zZl h hc
 obtain⟨k1,k2⟩:=List.mem_filter.1 hk
 have k1:=List.mem_range.1 k1
 have k2:abv (awL b) k=(zDT (awL b):Int):=of_decide_eq_true k2
 obtain⟨g1,g2,g3⟩:=(zZn (zQ9 h).2 k1).1 k2
 refine⟨k - zDT (awL b) - 1,?_,by omega,k1,k2⟩
 rw [hE]
 by_cases e:k - zDT (awL b) - 1 < E.length
 ·exact e
 have hl:=congrArg List.length hT
 rw [List.length_append,List.length_cons,List.length_append] at hl
 have hR:0 < R.length:=by omega
 have hh:R.head? = some R[0]:=by rw [List.head?_eq_getElem?,List.getElem?_eq_getElem hR]
 have:=g3 (P.length+1+E.length) (by omega) (by omega)
 rw [m1] at this
 rw [hT,zZ2 hh,(zZE (h4 _ hh)).1] at this
 exact absurd this (by decide)
theorem yAp:0<(zBe (awL b) (zDT (awL b)) (awL b).length).length:=by
 obtain⟨P,E,R,l,hT,hll,-,-,-,hp,h1,h2,h3,h4,m1,m2,-⟩:=zZl h hc;have hl:=congrArg List.length hT;rw[List.length_append,List.length_cons,List.length_append]at hl;have hE:0<E.length:=List.length_pos_iff.2 h3;have hg:(zAa (awL b) (zDT (awL b)+1)).dep=2:=by
  have:=zZ1 (P:=P) (l:=l) (R:=R) hE;rw[<- hT,<- hp]at this;rw[show zDT (awL b)+1=zDT (awL b)+1+0 by omega,this];exact(h2 _ (List.getElem_mem hE)).1
 refine List.length_pos_of_mem (a:=zDT (awL b)+1) (List.mem_filter.2 ⟨List.mem_range.2 (by omega),decide_eq_true ?_⟩);refine(zZn (zQ9 h).2 (by omega)).2 ⟨by omega,by rw[hg,m1];rfl,fun i x y=>?_⟩;obtain rfl:i=zDT (awL b)+1:=by omega
 rw[hg,m1];decide
theorem zZA:zAw (awL b) (zDT (awL b))= [zA6]:=by
 obtain⟨_,_,hok,_,_⟩:=zAf (zQ9 h).2;obtain⟨_,c2,_⟩:=zY4 h hc;obtain⟨_,l2,_,l4⟩:=zZb c2;obtain⟨m1,m2⟩:=zZS l4;rw[zZm hok l2 m1,m2]
theorem zZC {k:Nat} (hk:k ∈ zBe (awL b) (zDT (awL b)) (awL b).length):zAw (awL b) k= [zA6,(zAa (awL b) k).nm]:=by
 obtain⟨m,_,e,_,h4⟩:=zZY h hc hk
 rw [zCw _ k (by omega),h4,Int.toNat_natCast,zZA h hc];rfl
theorem yAq {k:Nat} (hk:k ∈ zBe (awL b) (zDT (awL b)) (awL b).length):∃ m,m < (inL (awL b)).length/\zKJ (awL b) (zAw (awL b) k)=(((zDT (awL b)+1+m:Nat):Int),0)/\zDT (awL b)+1+m < (awL b).length:=by
 obtain⟨_,_,hok,_,_⟩:=zAf (zQ9 h).2
 obtain⟨m,hm,e,hkl,h4⟩:=zZY h hc hk
 obtain⟨j,j1,j2,j3⟩:=zZZ hkl rfl
 have hkp:=zZC h hc hk
 rw [hkp] at j3
 have hj0:j ≠ 0:=by rintro rfl;cases j3
 rw [zCw _ j hj0] at j3
 obtain⟨q1,_⟩:=List.append_inj' (s₂:=[zA6]) j3 rfl
 have hab:=zCT (awL b) j
 have hlt:(abv (awL b) j).toNat < (awL b).length:=by omega
 obtain⟨d1,d2,_⟩:=zZp hok hlt q1
 have hn:=zZR d1 d2
 obtain⟨_,c2,_⟩:=zY4 h hc
 obtain⟨l1,_,_,_⟩:=zZb c2
 have hge:zDT (awL b)<=(abv (awL b) j).toNat:=by
  by_cases hx:(abv (awL b) j).toNat < zDT (awL b)
  ·rw [l1] at hx
   obtain⟨g1,g2⟩:=zIu zEA (awL b) _ hx
   rw [<- zAl _ _ g1,hn] at g2
   cases g2
  ·omega
 refine⟨j - zDT (awL b) - 1,by omega,?_,by omega⟩
 rw [j2,show zDT (awL b)+1+(j - zDT (awL b) - 1)=j by omega]
theorem zZU {m:Nat} (hm:m < (inL (awL b)).length) {u:List TrN} (hu:zA5 (zAM (awL b) (zDT (awL b)+1+m))=(u,0)):zIp u=([],(zDT (awL b):Int),18):=by
 obtain⟨P,E,R,l,hT,hll,hb,hE,ha,hp,h1,h2,h3,h4,m1,m2,-⟩:=zZl h hc
 rw [hE] at hm
 have hcut:zAM (awL b) (zDT (awL b)+1+m)=P ++ l :: ((E.take m ++ E.drop (m+1)) ++ R):=by
  rw [hp,hT]
  exact yAx hm (fun y hy=>(h2 y hy).1) fun y hy=>(zZE (h4 y hy)).1
 rw [hcut,<- hb,<- ha,<- hll] at hu
 refine(zZ3 h hc (E:=E.take m ++ E.drop (m+1)) (fun y hy=>?_) ?_ hu).1
 ·rcases List.mem_append.1 hy with hy | hy
  ·rw [(h2 y (List.mem_of_mem_take hy)).1];decide
  ·rw [(h2 y (List.mem_of_mem_drop hy)).1];decide
 ·rw [hE,List.length_append,List.length_take,List.length_drop];omega
theorem zZI {u:List TrN} (hu:zA5 (zAM (awL b) (zDT (awL b)))=(u,0)):zIp u=([],0,18):=by
 obtain⟨P,E,R,l,hT,hll,hb,hE,ha,hp,h1,h2,h3,h4,m1,m2,-⟩:=zZl h hc
 obtain⟨_,c2,_⟩:=zY4 h hc
 obtain⟨_,p2,_⟩:=zZc c2
 refine zZ4 h hc (hu ▸ ?_)
 congr 1
 rw [p2,hb,ha]
 unfold zAM
 rw [m1,hp,hT]
 rw [List.take_left,show P.length+1=P.length+1+0 by omega,zZx (Nat.zero_le _),List.drop_zero]
 congr 1
 exact(zQA (fun y hy=>by rw [(h2 y hy).1];decide) fun y hy=>by rw [(zZE (h4 y hy)).1];decide).symm
theorem zZT {n:TrN}{u:List TrN}(hu:zA5 (zZo (awL b) zZf n)=(u,0)):zIp u=([],(zDT (awL b):Int),18):=by
 obtain⟨_,_,hok,_,_⟩:=zAf (zQ9 h).2;obtain⟨P,E,R,l,hT,hll,hb,hE,ha,hp,h1,h2,h3,h4,m1,m2,-⟩:=zZl h hc;have hlp:=zZA h hc;have hl:=congrArg List.length hT;rw[List.length_append,List.length_cons,List.length_append]at hl;have hi:=yAw (t:=awL b) (p:=zZf) (a:=zDT (awL b)) (c:=zDT (awL b)+1+E.length) (fun j hj=>by
   by_cases e0:j=0
   ·subst e0;rfl
   by_cases e1:j=zDT (awL b)
   ·rw[e1,hlp];unfold zZf zY3;rw[if_pos rfl];rfl
   obtain⟨a,r,a1,a2,a3,a4⟩:=zZP hok j (by omega) (by omega);have haP:a<P.length:=by omega
   have hga:zAa (awL b) a=P[a]:=by
    rw[hT,zAl _ _ (by simp;omega),List.getElem_append_left haP]
   obtain⟨n1,n2⟩:=h1 _ (List.getElem_mem haP);rw[<- hga]at n1 n2;have hne:(zAa (awL b) a).nm≠zA6:=fun e=>by rw[zZR a3 e]at n1;cases n1
   have hnl:¬L zA6<L (zAa (awL b) a).nm:=fun e=>by
    unfold zER at n2;rw[decide_eq_true a3,decide_eq_true e]at n2;cases n2
   rw[a4];unfold zZf zY3;rw[if_neg hne];refine decide_eq_true ?_;rcases Std.lt_trichotomy (L (zAa (awL b) a).nm) (L zA6)with x|x|x
   ·exact x
   ·exact absurd (zBG x) hne
   ·exact absurd x hnl) (by omega) (by omega) (fun hlt=>by
   have hR:0<R.length:=by omega
   have hh:R.head? = some R[0]:=by rw[List.head?_eq_getElem?,List.getElem?_eq_getElem hR]
   have hg:zAa (awL b) (zDT (awL b)+1+E.length)=R[0]:=by
    rw[hp,hT];exact zZ2 hh
   obtain⟨b1,b2⟩:=zZE (h4 _ hh);rw[<- hg]at b1 b2;rw[zZm hok hlt b1];have hne:¬(zAa (awL b) (zDT (awL b)+1+E.length)).nm=zA6:=fun e=>by rw[e]at b2;exact List.lt_irrefl _ b2
   constructor
   ·unfold zZf zY3;rw[if_neg hne];exact decide_eq_false fun e=>List.lt_irrefl _ (List.lt_trans e b2)
   ·unfold zZf zY3;rw[if_neg fun e=>hne e.symm];exact decide_eq_true b2)
 obtain⟨m,hm,hmi⟩:∃m,m<=E.length/\zZD (awL b) zZf=P.length+1+m:=⟨zZD (awL b) zZf-P.length-1,by omega,by omega⟩;unfold zZo at hu;rw[hmi]at hu;have ht:=zZK (P:=P) (l:=l) (R:=R) hm;have hd:=zZx (P:=P) (l:=l) (R:=R) hm;rw[<- hT]at ht hd;rw[ht,hd]at hu;generalize hn2:({n with dep:=(zZf.length:Int),nm:=zZf.getLast?.getD ⟨#[]⟩}:TrN)=n2 at hu;have hd2:n2.dep=2:=by rw[<- hn2];rfl
 rw[show P++l :: E.take m++n2 :: (E.drop m++R)=P++l :: ((E.take m++n2 :: E.drop m)++R) by simp[List.append_assoc],<- hb,<- ha,<- hll]at hu;refine(zZ3 h hc (E:=E.take m++n2 :: E.drop m) (fun y hy=>?_) ?_ hu).1
 ·rcases List.mem_append.1 hy with hy|hy
  ·rw[(h2 y (List.mem_of_mem_take hy)).1];decide
  rcases List.mem_cons.1 hy with rfl|hy
  ·rw[hd2];decide
  ·rw[(h2 y (List.mem_of_mem_drop hy)).1];decide
 ·rw[hE,List.length_append,List.length_cons,List.length_take,List.length_drop];omega
end
end Go.Proofs.YtbeeoomadnmogaaGreat
namespace Go.Proofs.YtbeeoomadnmogaaGreat
open Go.RowKit
theorem zZV {a b:List ByteArray}{k:Nat}{x y:ByteArray}(hx:a[k]? = some x)(hy:b[k]? = some y):zY3 (a.drop k) (b.drop k)=if x=y then zY3 (a.drop (k+1)) (b.drop (k+1))else decide (L x<L y):=by
 obtain⟨h1,rfl⟩:=List.getElem?_eq_some_iff.1 hx;obtain⟨h2,rfl⟩:=List.getElem?_eq_some_iff.1 hy;rw[List.drop_eq_getElem_cons h1,List.drop_eq_getElem_cons h2];rfl
theorem yAg {a b:List ByteArray}{k:Nat}(ha:k<=a.length)(hb:k<=b.length)(h:¬(k<a.length/\k<b.length)):zY3 (a.drop k) (b.drop k)=decide (a.length<b.length):=by
 by_cases e:k<a.length
 ·rw[show b.drop k= []from List.drop_eq_nil_of_le (by omega),List.drop_eq_getElem_cons e,decide_eq_false (by omega)];rfl
 ·rw[show a.drop k= []from List.drop_eq_nil_of_le (by omega)];by_cases e3:k<b.length
  ·rw[List.drop_eq_getElem_cons e3,decide_eq_true (by omega)];rfl
  ·rw[List.drop_eq_nil_of_le (by omega),decide_eq_false (by omega)];rfl
theorem zZX {t:List TrN}{n k:Nat}:∀m,k+m=t.length->(∀j,k<=j->j<t.length->¬abv t j=(n:Int))->zBe t n t.length=zBe t n k:=by
 intro m
 induction m generalizing k with
 | zero=>intro h _;rw[<- h];rfl
 | succ m ih=>intro h h2;rw[ih (k:=k+1) (by omega) (fun j a b=>h2 j (by omega) b),zU7 (h2 k (Nat.le_refl _) (by omega))]
theorem zZN (u v:Value)(a b:List ByteArray)(w:World)(hu:zCp w u a)(hv:zCp w v b)(hl:a.length<=1000000):
  zAs Tryz.prog 192 #[u,v] w (.bool (zY3 a b)):=by
 unfold zAs;obtain⟨aa,cap,rfl,_,hc⟩:=hu;obtain⟨ba,cap2,rfl,_,hc2⟩:=hv;have HC:=hQq hc;clear hc;have HD:=hQq hc2;clear hc2;go_enter Tryz.func192,Tryz.ntmps192;go_wp2;go_loopw [5] (fun i w'=>∃(wi:World) (k:Nat),wi=w'/\k<=a.length/\k<=b.length/\i= .int .i64 k/\zY3 a b=zY3 (a.drop k) (b.drop k)/\Ext w w') (fun i _=>a.length-(intOf i).toNat)
 case atStart=>exact⟨_,0,rfl,Nat.zero_le _,Nat.zero_le _,rfl,rfl,bR _ _⟩
 case round=>
  obtain⟨wi,k,rfl,hk,hk2,rfl,hs,hb⟩:=hrel;have HS:=hQq hs;clear hs;by_cases hlt:k<a.length/\k<b.length
  ·obtain⟨hlt,hlt2⟩:=hlt;obtain⟨bb,off,rfl,hbs,c1⟩:=HC.out k hlt;obtain⟨bb2,off2,rfl,hbs2,d1⟩:=HD.out k hlt2;replace c1:=(eC hb hbs).trans c1;replace d1:=(eC hb hbs2).trans d1;have hx:a[k]? = some (a[k]'hlt):=List.getElem?_eq_getElem hlt;have hy:b[k]? = some (b[k]'hlt2):=List.getElem?_eq_getElem hlt2;generalize a[k]'hlt=x at c1 hx;generalize b[k]'hlt2=y at d1 hy;have HST:=hQq (zZV hx hy);clear hx hy;have HB:=hQq hb;clear hb;have j1:((k:Nat):Int)<(a.length:Int):=by omega
   have j2:((k:Nat):Int)<(b.length:Int):=by omega
   cases e1:x.toList==y.toList
   ·have he:¬x=y:=fun e=>by rw[e]at e1;simp at e1
    by_cases hxy:L x<L y
    ·have HN:=hQq (show zY3 a b=true by rw[HS.out,HST.out,if_neg he];exact decide_eq_true hxy);have g2:=zEP hxy;clear he hxy;go_wp2;go_quiet (fail)
     go_wp2;go_quiet (fail)
     go_wp2;go_ret;exact⟨by rw[HN.out];rfl,Ext.trans HB.out (Ext.trans (eDn _ _) (eDn _ _))⟩
    ·have HN:=hQq (show zY3 a b=false by rw[HS.out,HST.out,if_neg he];exact decide_eq_false hxy);have g2:=zD7 hxy;clear he hxy;go_wp2;go_quiet (fail)
     go_wp2;go_quiet (fail)
     go_wp2;go_ret;exact⟨by rw[HN.out];rfl,Ext.trans HB.out (Ext.trans (eDn _ _) (eDn _ _))⟩
   ·have he:x=y:=zBG (by rw[<- tL,<- tL];exact beq_iff_eq.1 e1);have HN:=hQq (show zY3 a b=zY3 (a.drop (k+1)) (b.drop (k+1)) by rw[HS.out,HST.out,if_pos he]);clear he;go_wp2;go_quiet (fail)
    go_wp2;go_roundw
    case rel=>exact⟨_,k+1,rfl,by omega,by omega,by go_num,HN.out,Ext.trans HB.out (eDn _ _)⟩
    case measure=>simp[intOf];omega
  ·have HN:=hQq (show zY3 a b=decide (a.length<b.length) by rw[HS.out,yAg hk hk2 hlt]);have HB:=hQq hb;clear hb;by_cases h2:k<a.length
   ·have j1:((k:Nat):Int)<(a.length:Int):=by omega
    have j2:¬((k:Nat):Int)<(b.length:Int):=by omega
    clear hlt;go_wp2;go_ret;exact⟨by rw[HN.out];rfl,HB.out⟩
   ·have j1:¬((k:Nat):Int)<(a.length:Int):=by omega
    clear hlt;go_wp2;go_ret;exact⟨by rw[HN.out];rfl,HB.out⟩
theorem yAo (u v:Value)(a b:List ByteArray)(w:World)(hu:zCp w u a)(hv:zCp w v b)(hsa:∀s∈a,s.size<=zD2)(hsb:∀s∈b,s.size<=zD2)(ha:zAR a=0)(hb:zAR b=0):
  Ret Tryz.prog 191 #[u,v] w (.int .i64 0):=by
 have HA:=zCY u a w hu hsa;have HB:=zCY v b w hv hsb;rw[ha]at HA;rw[hb]at HB;have HA:=hQq HA;have HB:=hQq HB;clear hu hv hsa hsb ha hb;unfold Ret;go_enter Tryz.func191,Tryz.ntmps191;go_wp2_with (first
  | (go_at_call 96;refine HA.out.mono ?_;clear HA;rintro e w1 ⟨rfl,rfl⟩)
  | (go_at_call 96;refine HB.out.mono ?_;rintro e w2 ⟨rfl,rfl⟩)
  | fail)
 go_ret;exact⟨rfl,rfl⟩
theorem zZG (u v:Value)(a b:List ByteArray)(w:World)(hu:zCp w u a)(hv:zCp w v b)(hE:∀W,Ext w W->zCp W u a/\zCp W v b)(hla:a.length<=1000000)(hlb:b.length<=1000000)(hsa:∀s∈a,s.size<=zD2)(hsb:∀s∈b,s.size<=zD2)(ha:zAR a=0)(hb:zAR b=0):
  zAs Tryz.prog 156 #[u,v] w (.tuple #[.int .i64 (zZh a b),.int .i64 0]):=by
 have HBT:=hQq (yAo u v a b w hu hv hsa hsb ha hb);have HL1:Hid (zAs Tryz.prog 192 #[u,v] w (.bool (zY3 a b))):=hQq (zZN u v a b w hu hv hla);have HL2:Hid (∀W,Ext w W->zAs Tryz.prog 192 #[v,u] W (.bool (zY3 b a))):=hQq (fun W h=>zZN v u b a W (hE W h).2 (hE W h).1 hlb);clear hu hv hE hsa hsb ha hb;unfold zAs;obtain⟨cv,hcv⟩:∃cv,zZh a b=cv:=⟨_,rfl⟩;rw[hcv];unfold zZh at hcv;go_enter Tryz.func156,Tryz.ntmps156;go_wp2_with (go_at_call 191;refine HBT.out.mono ?_;rintro e w1 ⟨rfl,rfl⟩)
 cases h1:zY3 a b
 all_goals rw[h1]at HL1 hcv
 case true=>
  subst hcv;go_wp2_with (go_at_call 192;refine HL1.out.mono ?_;rintro e w2 ⟨rfl,hb2⟩;have HB2:=hQq hb2;clear hb2)
  go_ret2;exact⟨rfl,HB2.out⟩
 case false=>
  cases h2:zY3 b a
  all_goals
   simp only[h2]at HL2;rw[h2]at hcv;subst hcv;clear h1 h2;go_wp2_with (first
    | (go_at_call 192;refine HL1.out.mono ?_;clear HL1;rintro e w2 ⟨rfl,hb2⟩;have HB2:=hQq hb2;clear hb2)
    | (go_at_call 192;refine(HL2.out _ HB2.out).mono ?_;rintro e w3 ⟨rfl,hb3⟩;have HB3:=hQq (Ext.trans HB2.out hb3);clear hb3)
    | fail)
   go_ret2;exact⟨rfl,HB3.out⟩
theorem zZL (B:Nat)(w:World)(v:Value)(t:List TrN)(n:Nat)(hb:zCa B w v t)(h0:zAt t=0)(hlen:t.length<=1000)(hn:n<t.length):
  Calls Tryz.prog 29 #[v,.int .i64 n] w (fun e w'=>(∃a cap,e= .returned (.slice a (zBe t n t.length).length cap)/\zAg cdN w.heap.size w' (.slice a (zBe t n t.length).length cap) (zBe t n t.length))/\Ext w w'):=by
 obtain⟨aa,cap,rfl⟩:=hb.form;have HV:=hQq hb;have H0:=hQq h0;have jw:IntKind.i64.wrap ((n:Int)+1)=(n:Int)+1:=IntWalk.i64_in _ (by omega);have hdd:=(zKC (zAf h0).2.2.1 n hn).2;have hdd2:=zDc t n;have HDW:Hid (IntKind.i64.wrap ((zAa t n).dep+1)=(zAa t n).dep+1):=hQq (IntWalk.i64_in _ (by omega));have k3:((n:Nat):Int)<(t.length:Int):=by omega
 have k4:(0:Int)<=(n:Int):=by omega
 clear hb h0 hdd hdd2;go_enter Tryz.func29,Tryz.ntmps29;go_wp2;go_loopw [5,6] (fun o i w'=>∃(wi:World) (k:Nat),wi=w'/\n<k/\k<=t.length/\i= .int .i64 k/\(∀j,n<j->j<k->(zAa t n).dep<(zAa t j).dep)/\zAg cdN w.heap.size wi o (zBe t n k)/\Ext w wi) (fun _ i _=>t.length-(intOf i).toNat)
 case atStart=>exact⟨_,n+1,rfl,by omega,by omega,by go_num,fun j h1 h2=>by omega,by rw[zZJ];exact zAg.nil _ _ _,bR _ _⟩
 case round=>
  obtain⟨wi,k,rfl,hnk,hk,rfl,hd,ho,hE⟩:=hrel;have HD:=hQq hd;have HO:=hQq ho;have HE:=hQq hE;obtain⟨a5,cap5,rfl⟩:=ho.form;clear ho hE hd;obtain⟨bb,off,va,hex,hbx,-,c0,-⟩:=(HV.out.ext okT HE.out).tr n hn;cases hex;rw[<- zAl t n hn]at c0;have HW:=HDW;have k0:(0:Int)<=(k:Int):=by omega
  have stop:(∀j,k<=j->j<t.length->¬abv t j=(n:Int))->zBe t n t.length=zBe t n k:=zZX (t.length-k) (by omega);have HST:=hQq stop;clear stop;have HL:=hQq (zE5 (zHb t n) k);by_cases hlt:k<t.length
  case neg=>
   obtain rfl:k=t.length:=by omega
   have q5:decide ((t.length:Int)<(t.length:Int))=false:=decide_eq_false (by omega);go_wp2;go_quiet (fail)
   go_wp2;go_ret;exact⟨⟨_,_,rfl,HO.out.ext okN (eDn _ _)⟩,Ext.trans HE.out (eDn _ _)⟩
  obtain⟨_,_,_,e2,_,-,d0,-⟩:=(HV.out.ext okT HE.out).tr k hlt;cases e2;rw[<- zAl t k hlt]at d0;have k1:((k:Nat):Int)<(t.length:Int):=by omega
  have HIF:=hQq (zZn H0.out hlt (n:=n));by_cases hdp:(zAa t n).dep<(zAa t k).dep
  case neg=>
   have HF:Hid (zBe t n t.length=zBe t n k):=hQq (HST.out fun j h1 h2 h3=>hdp (((zZn H0.out h2).1 h3).2.2 k (by omega) h1));generalize (zAa t k).dep=dk at d0 hdp;generalize (zAa t n).dep=dn at c0 hdp HW;have q5:decide (dn<dk)=false:=decide_eq_false hdp;clear hdp;go_wp2;go_quiet (fail)
   go_wp2;go_ret;rw[HF.out];exact⟨⟨_,_,rfl,HO.out.ext okN (eDn _ _)⟩,Ext.trans HE.out (eDn _ _)⟩
  have HD2:Hid (∀j,n<j->j<k+1->(zAa t n).dep<(zAa t j).dep):=hQq (fun j h1 h2=>by
   by_cases e:j=k
   ·rw[e];exact hdp
   ·exact HD.out j h1 (by omega))
  by_cases hq:(zAa t k).dep=(zAa t n).dep+1
  ·have HS:=hQq (zSw (HIF.out.2 ⟨hnk,hq,fun i h1 h2=>HD2.out i h1 (by omega)⟩));generalize (zAa t k).dep=dk at d0 hdp hq;generalize hdn:(zAa t n).dep=dn at c0 hdp hq HW;have hw:=HW.out;have q5:decide (dn<dk)=true:=decide_eq_true hdp;have q6:(dk==dn+1)=true:=beq_iff_eq.2 hq;clear hdp hq HIF HST;go_wp2;go_quiet (fail)
   go_wp2;go_quiet (fail)
   go_wp2_with (at_builtin;refine zIX okN rfl (.tmp 40) (.tmp 42) rfl _ _ (zBe t n k) [k] w _ rfl rfl (by exact(HO.out.ext okN (eDn _ _)).ext okN (eA _ _)) (by exact zAj okN _ k [.int .i64 k] _ rfl rfl) (by exact(Ext.trans HE.out (eDn _ _)).trans (eA _ _)) (by have:=HE.out.size;simp;omega) (by have:=HL.out;unfold zBe;simp;omega) ?_;intro v2 w2 ha;have HA:=hQq ha;clear ha)
   go_roundw
   case rel=>exact⟨_,k+1,rfl,by omega,by omega,by go_num,hdn ▸ HD2.out,by rw[HS.out];exact HA.out.own,HA.out.below⟩
   case measure=>simp[intOf]<;>omega
  ·have HS:=hQq (zU7 fun e=>hq (HIF.out.1 e).2.1);generalize (zAa t k).dep=dk at d0 hdp hq;generalize hdn:(zAa t n).dep=dn at c0 hdp hq HW;have hw:=HW.out;have q5:decide (dn<dk)=true:=decide_eq_true hdp;have q6:(dk==dn+1)=false:=nB hq;clear hdp hq HIF HST;go_wp2;go_quiet (fail)
   go_wp2;go_quiet (fail)
   go_wp2;go_roundw
   case rel=>exact⟨_,k+1,rfl,by omega,by omega,by go_num,hdn ▸ HD2.out,by rw[HS.out];exact HO.out.ext okN (eDn _ _),Ext.trans HE.out (eDn _ _)⟩
   case measure=>simp[intOf]<;>omega
theorem yAn (B Bp:Nat)(w:World)(v vp:Value)(t:List TrN)(p:List ByteArray)(hb:zCa B w v t)(hp:zBV Bp w vp p)(hok:zA1 t t.length)(hlen:t.length<=1000)(hp0:0<p.length)(hpl:p.length<=1000000):
  zAs Tryz.prog 98 #[v,vp] w (.int .i64 (yAc t p)):=by
 unfold zAs;obtain⟨aa,cap,rfl⟩:=hb.form;have hp':=hp;obtain⟨ap,capp,rfl⟩:=hp.form;have HA1:=hQq (zYD B Bp w _ _ t p hb hp hlen hok);have hcap:p.length<=capp:=by obtain⟨_,_,e,h,_⟩:=hp';cases e;exact h
 obtain⟨bq,oq,rfl⟩:∃bq oq,ap=some ⟨bq,oq,none⟩:=by
  obtain⟨_,_,e,_,_,hc⟩:=hp';cases e;obtain⟨b,off,_,h,_⟩:=hc 0 hp0;exact⟨b,off,h⟩
 have HA2:Hid (∀W,Ext w W->zAs Tryz.prog 97 #[.slice aa t.length cap,.slice (some ⟨bq,oq,none⟩) (p.length-1) capp] W (.int .i64 (zGv (isP t p.dropLast) t.length))):=hQq (fun W h=>by
  have:=zCx (hp'.ext okS h) 0 (p.length-1) (by omega) capp (by omega) oq (by simp);rw[List.drop_zero,<- List.dropLast_eq_take]at this;exact zYD B Bp W _ _ t _ (hb.ext okT h) this hlen hok)
 have HV:=hQq hb;have hw1:IntKind.i64.wrap ((p.length:Int)-1)=((p.length-1:Nat):Int):=by rw[IntKind.wrap_i64];omega
 have k1:((p.length-1:Nat):Int)<=(capp:Int):=by omega
 have k2:(0:Int)<=((p.length-1:Nat):Int):=by omega
 have HIX:Hid (∀i,zGv (isP t p.dropLast) t.length=i->¬i<0->∃j:Nat,i=j/\j<t.length):=hQq (fun i hi hn=>by
  unfold zGv at hi
  cases hf:zBy (isP t p.dropLast) 0 t.length with
  | none=>rw[hf]at hi;exact absurd hi.symm (by show i≠ -1;omega)
  | some j=>
   rw[hf]at hi;obtain⟨_,_,h3⟩:=zBD _ _ _ hf;exact⟨j,hi.symm,by omega⟩)
 clear hb hp hp' hok hcap;unfold yAc;go_enter Tryz.func98,Tryz.ntmps98;generalize hi1:zGv (isP t p) t.length=i1 at HA1 ⊢;generalize hi2:zGv (isP t p.dropLast) t.length=i2 at HA2 HIX ⊢;by_cases h1:0<=i1
 ·rw[if_pos h1];clear HIX HA2;go_wp2_with (go_at_call 97;refine HA1.out.mono ?_;rintro e w1 ⟨rfl,hb1⟩;have HB1:=hQq hb1;clear hb1)
  go_ret;exact⟨rfl,HB1.out⟩
 rw[if_neg h1];by_cases h2:i2<0
 ·rw[if_pos h2];clear HIX;go_wp2_with (first
   | (go_at_call 97;refine HA1.out.mono ?_;clear HA1;rintro e w1 ⟨rfl,hb1⟩;have HB1:=hQq hb1;clear hb1)
   | (go_at_call 97;refine(HA2.out _ HB1.out).mono ?_;rintro e w2 ⟨rfl,hb2⟩;have HB2:=hQq (Ext.trans HB1.out hb2);clear hb2)
   | fail)
  go_ret;exact⟨rfl,HB2.out⟩
 rw[if_neg h2];obtain⟨j,rfl,hj⟩:=HIX.out _ rfl h2;rw[Int.toNat_natCast];have HC:Hid (∀W,Ext w W->∃bb off,aa=some ⟨bb,off,none⟩/\W.cell? ⟨bb,off+j*8+2,none⟩=some (.int .i64 (zAa t j).kd)):=hQq (fun W hW=>by
  obtain⟨bb,off,va,hex,_,_,_,_,c2,_⟩:=(HV.out.ext okT hW).tr j hj;rw[<- zAl t j hj]at c2;exact⟨bb,off,hex,c2⟩)
 generalize (zAa t j).kd=kd at HC ⊢;have k5:((j:Nat):Int)<(t.length:Int):=by omega
 have k6:(0:Int)<=(j:Int):=by omega
 clear HIX hi1 hi2;by_cases h3:kd=1
 ·subst h3;go_wp2_with (first
   | (go_at_call 97;refine HA1.out.mono ?_;clear HA1;rintro e w1 ⟨rfl,hb1⟩;have HB1:=hQq hb1;clear hb1)
   | (go_at_call 97;refine(HA2.out _ HB1.out).mono ?_;rintro e w2 ⟨rfl,hb2⟩;have HB2:=hQq (Ext.trans HB1.out hb2);clear hb2;obtain⟨bb,off,rfl,y2⟩:=HC.out _ HB2.out)
   | fail)
  go_ret;exact⟨rfl,HB2.out⟩
 ·rw[if_pos h3];have q1:(kd != 1)=true:=bne_iff_ne.2 h3;go_wp2_with (first
   | (go_at_call 97;refine HA1.out.mono ?_;clear HA1;rintro e w1 ⟨rfl,hb1⟩;have HB1:=hQq hb1;clear hb1)
   | (go_at_call 97;refine(HA2.out _ HB1.out).mono ?_;rintro e w2 ⟨rfl,hb2⟩;have HB2:=hQq (Ext.trans HB1.out hb2);clear hb2;obtain⟨bb,off,rfl,y2⟩:=HC.out _ HB2.out)
   | fail)
  go_ret;exact⟨rfl,HB2.out⟩
def zZa (n:TrN)(p:List ByteArray):TrN:={n with dep:=p.length,nm:=p.getLast?.getD ⟨#[]⟩}
theorem yAh {t:List TrN}{p:List ByteArray}{k:Nat}(hk:k<t.length)(h:∀j,j<k->zZh (zAw t j) p<=0)(h2:0<zZh (zAw t k) p):zZD t p=k:=by
 unfold zZD;rw[zB7 _ 0 k (Nat.zero_le _) (by omega) (fun j _ hj=>decide_eq_false (Int.not_lt.2 (h j hj))) (decide_eq_true h2)]
theorem yAr {t:List TrN}{p:List ByteArray}(h:∀j,j<t.length->zZh (zAw t j) p<=0):zZD t p=t.length:=by
 unfold zZD;rw[zBl _ 0 fun j _ hj=>decide_eq_false (Int.not_lt.2 (h j (by omega)))]
def yAA (SV V2 VN:Value)(ix B0:Nat)(TL NL:List TrN):Nat->Value->World->Prop
 | 0,v,_=>v=SV
 | 1,v,_=>v= .int .i64 ix
 | 2,v,_=>v=V2
 | 3,v,w=>∃a c,v= .slice a TL.length c/\zAg cdT B0 w (.slice a TL.length c) TL
 | 4,v,_=>v=VN
 | 5,v,w=>∃g,v= .slice (some ⟨g,0,none⟩) 1 1/\zCa B0 w (.slice (some ⟨g,0,none⟩) 1 1) NL
 | 6,v,w=>∃a c,v= .slice a 1 c/\zAg cdT B0 w (.slice a 1 c) NL
 | _,_,_=>True
theorem zZ0 {SV V2 VN:Value}{ix B0:Nat}{TL NL:List TrN}:∀(i:Nat) (v:Value) (w w':World),yAA SV V2 VN ix B0 TL NL i v w->Ext w w'->yAA SV V2 VN ix B0 TL NL i v w':=by
 intro i v w w' hh he
 match i,hh with
 | 0,h=>exact h
 | 1,h=>exact h
 | 2,h=>exact h
 | 3,⟨a,c,h,h2⟩=>exact⟨a,c,h,h2.ext okT he⟩
 | 4,h=>exact h
 | 5,⟨g,h,h2⟩=>exact⟨g,h,h2.ext okT he⟩
 | 6,⟨a,c,h,h2⟩=>exact⟨a,c,h,h2.ext okT he⟩
 | i+7,_=>trivial
theorem zZF (B Bp:Nat)(w:World)(v vp vn:Value)(t:List TrN)(p:List ByteArray)(n:TrN)(hb:zCa B w v t)(hp:zBV Bp w vp p)(hB:B<=w.heap.size)(hn:zAH B w vn n.ats)(hok:zA1 t t.length)(hsm:zAI t)(hnl:n.ats.length<=1000000)(hlen:t.length<=1000)(ht0:0<t.length)(hp0:0<p.length)(hpl:p.length<=1000000)(hpe:zAR p=0)(hps:∀s∈p,s.size<=zD2)(hpt:∀k,k<t.length->zAR (zAw t k)=0/\∀s∈zAw t k,s.size<=zD2):
  Calls Tryz.prog 99 #[v,vp,.agg #[.int .i64 n.dep,.string n.nm,.int .i64 n.kd,vn,.string n.dat,.int .i64 n.ma,.int .i64 n.mi,.int .i64 n.cl]] w (fun e w'=>(∃a cap,e= .returned (.slice a (zZo t p n).length cap)/\zAg cdT w.heap.size w' (.slice a (zZo t p n).length cap) (zZo t p n))/\Ext w w'):=by
 obtain⟨aa,cap,rfl⟩:=hb.form;obtain⟨bt,ot,_,rfl,-⟩:=hb.tr 0 ht0;have HCA:Hid (t.length<=cap):=hQq (by obtain⟨_,_,e,h,_⟩:=hb;cases e;exact h);have hp':=hp;obtain⟨ap,capp,rfl⟩:=hp.form;obtain⟨a3,cap3,rfl⟩:=hn.form;obtain⟨bq,oq,cp,c1⟩:∃bq oq,ap=some ⟨bq,oq,none⟩/\bq<w.heap.size/\w.cell? ⟨bq,oq+(p.length-1),none⟩=some (.string (p.getLast?.getD ⟨#[]⟩)):=by
  obtain⟨_,_,e,_,_,hc⟩:=hp';cases e;obtain⟨b,off,cs,h,h3,h4,h5⟩:=hc (p.length-1) (by omega);have h4:cs=_:=h4;have:=h5 0 (.string p[p.length-1]) (by rw[h4];rfl);refine⟨b,off,h,h3,?_⟩;rw[List.getLast?_eq_getElem?,List.getElem?_eq_getElem (by omega)];simpa [cdS] using this
 subst cp;obtain⟨hbq,c1⟩:=c1;have HV:=hQq hb;have HP:=hQq hp;have HN:=hQq hn;have HOK:=hQq hok;have HSM:=hQq hsm;have HPP:=hQq hpt;have HPS:=hQq hps;obtain⟨sl,hsl⟩:∃sl,sl=p.getLast?.getD ⟨#[]⟩:=⟨_,rfl⟩;rw[<- hsl]at c1;have HSL:=hQq hsl;have HFC:Hid (zZa n p= {n with dep:=p.length,nm:=p.getLast?.getD ⟨#[]⟩}):=hQq rfl;have hw1:IntKind.i64.wrap ((p.length:Int)-1)=((p.length-1:Nat):Int):=by rw[IntKind.wrap_i64];omega
 have k1:((p.length-1:Nat):Int)<(p.length:Int):=by omega
 have k2:(0:Int)<=((p.length-1:Nat):Int):=by omega
 have QB:=hQq (bN w (.cells #[.int .i64 n.dep,.string n.nm,.int .i64 n.kd,.slice a3 n.ats.length cap3,.string n.dat,.int .i64 n.ma,.int .i64 n.mi,.int .i64 n.cl] 59 (0,0)));clear hb hp hp' hn hok hsm hpt hps hsl;go_enter Tryz.func99,Tryz.ntmps99;have q0:=bC QB.out 0;have q1:=bC QB.out 1;have f0:=bT QB.out 0;have f1:=bT QB.out 1;go_wp2;go_cut []from 11 to 20 (fun wx=>Ext w wx/\wx.heap[w.heap.size]? = some (.cells #[.int .i64 p.length,.string sl,.int .i64 n.kd,.slice a3 n.ats.length cap3,.string n.dat,.int .i64 n.ma,.int .i64 n.mi,.int .i64 n.cl] 59 (0,0)))
 case first=>
  go_region_law (fail)
  all_goals
   go_wp2;go_meet;exact⟨Ext.trans (eA _ _) (by first|exact bR _ _|exact eD _|exact eDn _ _),by first|exact bN _ _|exact bX (eD _) (bN _ _)|exact bX (eDn _ _) (bN _ _)⟩
 case rest=>
 obtain⟨hE0,hb0⟩:=hcut;have HE0:=hQq hE0;have HB0:=hQq hb0;clear hE0 hb0 q0 q1 f0 f1 QB c1 hbq k1 k2 hw1;go_wp2;go_loopw [7,8,9] (fun i _ _ w'=>∃(wi:World) (k:Nat),wi=w'/\k<=t.length/\i= .int .i64 k/\(∀j,j<k->zZh (zAw t j) p<=0)/\Ext wc wi) (fun i _ _ _=>t.length-(intOf i).toNat)
 case atStart=>exact⟨_,0,rfl,Nat.zero_le _,rfl,fun j hj=>absurd hj (by omega),bR _ _⟩
 case round=>
  obtain⟨wi,k,rfl,hk,rfl,hno,hE⟩:=hrel;have HE:=hQq hE;have HNO:=hQq hno;clear hE hno;have HWI:Hid (Ext w wi):=hQq (Ext.trans HE0.out HE.out);have HPT:Hid (∀W,Ext w W->k<t.length->Calls Tryz.prog 30 #[.slice (some ⟨bt,ot,none⟩) t.length cap,.int .i64 k] W (zXw cdS W (zAw t k))):=hQq (fun W h h2=>zUK t hlen HOK.out k B W _ (HV.out.ext okT h) h2);have HCM:Hid (∀W u B',Ext w W->k<t.length->zAh cdS B' W u (zAw t k)->zAs Tryz.prog 156 #[u,.slice (some ⟨bq,oq,none⟩) p.length capp] W (.tuple #[.int .i64 (zZh (zAw t k) p),.int .i64 0])):=hQq (fun W u _ h1 h0 h2=>zZG u _ _ p W h2.strs (HP.out.ext okS h1).strs (fun W' h'=>⟨(h2.ext okS h').strs,(HP.out.ext okS (Ext.trans h1 h')).strs⟩) (by have:=zDc t k;omega) hpl (HPP.out k h0).2 HPS.out (HPP.out k h0).1 hpe);by_cases hgo:k<t.length/\zZh (zAw t k) p<=0
  case pos=>
   obtain⟨hlt,hc⟩:=hgo;have k1:((k:Nat):Int)<(t.length:Int):=by omega
   have HN2:Hid (∀j,j<k+1->zZh (zAw t j) p<=0):=hQq (fun j hj=>by
    by_cases e:j=k
    ·rw[e];exact hc
    ·exact HNO.out j (by omega))
   generalize zZh (zAw t k) p=cv at HCM hc;have q9:decide (0<cv)=false:=decide_eq_false (Int.not_lt.2 hc);go_wp2_with (first
    | (go_at_call 30;refine(HPT.out _ HWI.out hlt).mono ?_;rintro e w2 ⟨⟨a2,n2,c2,rfl,ho2⟩,hb2⟩;have HO2:=hQq ho2;have HB2:=hQq hb2;clear ho2 hb2)
    | (go_at_call 156;refine(HCM.out _ _ _ (Ext.trans HWI.out HB2.out) hlt (HO2.out.in okS)).mono ?_;rintro e w3 ⟨rfl,hb3⟩;have HB3:=hQq (Ext.trans HB2.out hb3);clear hb3)
    | fail)
   go_roundw
   case rel=>exact⟨_,k+1,rfl,hlt,by go_num,HN2.out,Ext.trans HE.out HB3.out⟩
   case measure=>simp[intOf]<;>omega
  have HI:Hid (zZD t p=k):=hQq (by
   by_cases hlt:k<t.length
   ·exact yAh hlt HNO.out (Int.not_le.1 fun h=>hgo ⟨hlt,h⟩)
   ·obtain rfl:k=t.length:=by omega
    exact yAr HNO.out)
  by_cases hlt:k<t.length;case' pos=>
   have hc:0<zZh (zAw t k) p:=Int.not_le.1 fun h=>hgo ⟨hlt,h⟩;generalize zZh (zAw t k) p=cv at HCM hc;have q9:decide (0<cv)=true:=decide_eq_true hc;have k1:((k:Nat):Int)<(t.length:Int):=by omega
   clear hgo;go_upto_region 7 with (first
    | (go_at_call 30;refine(HPT.out _ HWI.out hlt).mono ?_;rintro e w2 ⟨⟨a2,n2,c2,rfl,ho2⟩,hb2⟩;have HO2:=hQq ho2;have HB2:=hQq hb2;clear ho2 hb2)
    | (go_at_call 156;refine(HCM.out _ _ _ (Ext.trans HWI.out HB2.out) hlt (HO2.out.in okS)).mono ?_;rintro e w3 ⟨rfl,hb3⟩;have HB3:=hQq (Ext.trans HB2.out hb3);clear hb3)
    | fail)
   refine nW (P:=fun W=>Code.wp _ _ _ _ W) _ ?_;intro W9 hW9;have HE9:Hid (Ext wi W9):=hQq (by rw[hW9];exact HB3.out);clear hW9 HO2 HB2 HB3 k1 q9 hc
  case' neg=>
   have k1:¬((k:Nat):Int)<(t.length:Int):=by omega
   clear hgo;go_upto_region 7 with fail
   refine nW (P:=fun W=>Code.wp _ _ _ _ W) _ ?_;intro W9 hW9;have HE9:Hid (Ext wi W9):=hQq (by rw[hW9];exact bR _ _);clear hW9 k1
  all_goals
   have HX9:Hid (Ext w W9):=hQq (Ext.trans HWI.out HE9.out);have Q9:=hQq (bX (Ext.trans HE.out HE9.out) HB0.out);clear HPT HCM hlt HE9 HNO;obtain⟨TL,hTL⟩:∃TL,TL=t.take k:=⟨_,rfl⟩;have HLL:Hid (TL.length=k):=hQq (by rw[hTL,List.length_take];omega);have HTL:=hQq hTL;have HCP:Hid (∀V,Ext w V->Calls Tryz.prog 33 #[.slice (some ⟨bt,ot,none⟩) k cap] V (fun e w'=>(∃a c,e= .returned (.slice a TL.length c)/\zAg cdT w.heap.size w' (.slice a TL.length c) TL)/\Ext V w')):=hQq (fun V hV=>by
    have h1:=zCx (HV.out.ext okT hV) 0 k (by omega) cap (by have:=HCA.out;omega) ot (by simp);rw[List.drop_zero,<- HTL.out]at h1;refine(zTA B V _ TL h1 (Nat.le_trans hB hV.size) (by have:=HLL.out;omega) (fun x hx=>(HSM.out x (by rw[HTL.out]at hx;exact List.mem_of_mem_take hx)).2.2)).mono ?_;rintro e5 w5 ⟨⟨a,n,c,rfl,ho⟩,hb⟩;obtain⟨a',c',e'⟩:=ho.form;cases e';exact⟨⟨_,_,rfl,ho.to hV.size⟩,hb⟩)
   have HCN:Hid (∀V u,Ext w V->zCa w.heap.size V u [zZa n p]->Calls Tryz.prog 33 #[u] V (fun e w'=>(∃a c,e= .returned (.slice a 1 c)/\zAg cdT w.heap.size w' (.slice a 1 c) [zZa n p])/\Ext V w')):=hQq (fun V u hV h1=>by
    refine(zTA w.heap.size V _ [zZa n p] h1 hV.size (by simp) (fun x hx=>by rw[List.mem_singleton.1 hx];exact hnl)).mono ?_;rintro e5 w5 ⟨⟨a,n,c,rfl,ho⟩,hb⟩;obtain⟨a',c',e'⟩:=ho.form;cases e';exact⟨⟨_,_,rfl,ho.to hV.size⟩,hb⟩)
   have HRW:Hid (∀V,Ext w V->zCa w.heap.size (V.alloc (.cells #[.int .i64 p.length,.string sl,.int .i64 n.kd,.slice a3 n.ats.length cap3,.string n.dat,.int .i64 n.ma,.int .i64 n.mi,.int .i64 n.cl] 59)) (.slice (some ⟨V.heap.size,0,none⟩) 1 1) [zZa n p]):=hQq (fun V hV=>zAj okT V (zZa n p) (trC (zZa n p) (.slice a3 n.ats.length cap3)) _ rfl ⟨_,(HN.out.mono okA hB).ext okA hV,rfl⟩ |> fun h=>by rw[HFC.out]at h ⊢;rw[<- HSL.out]at h ⊢;exact h);have k3:((k:Nat):Int)<=(cap:Int):=by have:=HCA.out;omega
   have k4:(0:Int)<=(k:Int):=by omega
   clear hTL;obtain⟨DL,hDL⟩:∃DL,DL=t.drop k:=⟨_,rfl⟩;obtain⟨a5,ha5⟩:∃a5:Option Addr,a5=(if cap=k then some ⟨bt,ot,none⟩else some ⟨bt,ot+k*8,none⟩):=⟨_,rfl⟩;have HDR:Hid (∀V,Ext w V->Calls Tryz.prog 33 #[.slice a5 (t.length-k) (cap-k)] V (fun e w'=>(∃a c,e= .returned (.slice a DL.length c)/\zAg cdT w.heap.size w' (.slice a DL.length c) DL)/\Ext V w')):=hQq (fun V hV=>by
    have h1:zCa B V (.slice a5 (t.length-k) (cap-k)) (t.drop k):=zHG (HV.out.ext okT hV) k (by omega) (by rw[ha5,Addr.add_lit];rfl);rw[<- hDL]at h1;refine(zTA B V _ DL h1 (Nat.le_trans hB hV.size) (by rw[hDL,List.length_drop];omega) (fun x hx=>(HSM.out x (by rw[hDL]at hx;exact List.mem_of_mem_drop hx)).2.2)).mono ?_;rintro e5 w5 ⟨⟨a,n,c,rfl,ho⟩,hb⟩;obtain⟨a',c',e'⟩:=ho.form;cases e';exact⟨⟨_,_,rfl,ho.to hV.size⟩,hb⟩)
   have hfa5:(if cap=k then some ({block:=bt,off:=ot,spot:=none}:Addr)else some {block:=bt,off:=ot+k*8,spot:=none})=a5:=ha5.symm;have HDL:Hid (DL.length<=1000/\zZo t p n=(TL++ [zZa n p])++DL):=hQq ⟨by rw[hDL,List.length_drop];omega,by unfold zZo;rw[HI.out,HTL.out,hDL,HFC.out,List.append_assoc];rfl⟩;clear ha5 hDL;refine zDv (yAA (.slice (some ⟨bt,ot,none⟩) t.length cap) (.slice (some ⟨bt,ot,none⟩) k cap) (.agg #[.int .i64 p.length,.string sl,.int .i64 n.kd,.slice a3 n.ats.length cap3,.string n.dat,.int .i64 n.ma,.int .i64 n.mi,.int .i64 n.cl]) k w.heap.size TL [zZa n p]) 7 8 rfl (by kernel_rfl) (by kernel_rfl) zZ0 ?_ ?_
   ·intro i1 o a wx hi ho hE hk hp;have n0:=zAe (show a.eval (.tmp 0)= .slice (some ⟨bt,ot,none⟩) t.length cap from hk 0 (of_decide_eq_true (by kernel_rfl)));have n5:=zAe (show a.eval (.tmp 5)= .pointer (some ⟨w.heap.size,0,none⟩)from hk 5 (of_decide_eq_true (by kernel_rfl)));have n7:=zAe (show a.eval (.tmp 7)= .int .i64 k from hk 7 (of_decide_eq_true (by kernel_rfl)));clear hk
    match i1,hi,ho,hp with
    | 0,_,ho,hp=>
     obtain rfl:=oI ho;clear ho hp;unfold Oper.wp;go_simp;exact⟨_,rfl,rfl,bR _ _⟩
    | 1,_,ho,hp=>
     obtain rfl:=oI ho;clear ho hp;unfold Oper.wp;go_simp;exact⟨_,rfl,rfl,bR _ _⟩
    | 2,_,ho,hp=>
     obtain rfl:=oI ho;have p37:=zAe (show a.eval (.tmp 37)= .slice (some ⟨bt,ot,none⟩) t.length cap from hp 0 _ 37 (by kernel_rfl) rfl rfl);have p38:=zAe (show a.eval (.tmp 38)= .int .i64 k from hp 1 _ 38 (by kernel_rfl) rfl rfl);clear ho hp;unfold Oper.wp;go_simp;exact⟨_,rfl,rfl,bR _ _⟩
    | 3,_,ho,hp=>
     obtain rfl:=oI ho;have p39:=zAe (show a.eval (.tmp 39)= .slice (some ⟨bt,ot,none⟩) k cap from hp 2 _ 39 (by kernel_rfl) rfl rfl);clear ho hp;unfold Oper.wp;go_simp;refine(HCP.out _ (Ext.trans HX9.out hE)).mono ?_;rintro e5 w5 ⟨⟨ar,cr,rfl,h5⟩,hb5⟩;exact⟨_,rfl,⟨_,_,rfl,h5⟩,hb5⟩
    | 4,_,ho,hp=>
     obtain rfl:=oI ho;have Q5:=bX hE Q9.out;obtain⟨q0,q1,q2,q3,q4,q5,q6,q7⟩:=b8C Q5;have zq:=bL Q5;clear ho hp;unfold Oper.wp;go_simp;exact⟨_,rfl,rfl,bR _ _⟩
    | 5,_,ho,hp=>
     obtain rfl:=oI ho;have p41:=zAe (show a.eval (.tmp 41)= .agg #[.int .i64 p.length,.string sl,.int .i64 n.kd,.slice a3 n.ats.length cap3,.string n.dat,.int .i64 n.ma,.int .i64 n.mi,.int .i64 n.cl]from hp 4 _ 41 (by kernel_rfl) rfl rfl);clear ho hp;unfold Oper.wp;go_simp;exact⟨_,rfl,⟨_,rfl,HRW.out _ (Ext.trans HX9.out hE)⟩,eA _ _⟩
    | 6,_,ho,hp=>
     obtain rfl:=oI ho;obtain⟨gr,e42,f42⟩:∃gr,a.eval (.tmp 42)= .slice (some ⟨gr,0,none⟩) 1 1/\zCa w.heap.size wx (.slice (some ⟨gr,0,none⟩) 1 1) [zZa n p]:=hp 5 _ 42 (by kernel_rfl) rfl rfl;have p42:=zAe e42;clear e42;clear ho hp;unfold Oper.wp;go_simp;refine(HCN.out _ _ (Ext.trans HX9.out hE) f42).mono ?_;rintro e5 w5 ⟨⟨ar,cr,rfl,h5⟩,hb5⟩;exact⟨_,rfl,⟨_,_,rfl,h5⟩,hb5⟩
    | i1+7,h,_,_=>exact absurd h (by omega)
   ·intro vs wx hE hf;generalize hA:zAC _ _ _=A1;obtain⟨ar,cr,p40,f40⟩:∃ar cr,vs 40= .slice ar TL.length cr/\zAg cdT w.heap.size wx (.slice ar TL.length cr) TL:=hf 3 _ 40 (by omega) rfl rfl;obtain⟨ar4,cr4,p43,f43⟩:∃ar4 cr4,vs 43= .slice ar4 1 cr4/\zAg cdT w.heap.size wx (.slice ar4 1 cr4) [zZa n p]:=hf 6 _ 43 (by omega) rfl rfl;clear hf;have hA2:=hA.symm.trans (congrArg (fun D=>zAC _ D vs) (show zCu _ 7= [37,38,39,40,41,42,43] by kernel_rfl));rw[hA2];clear hA2 hA;simp only[zAC,List.foldl,Act.put,List.setIfInBounds_toArray,List.set_cons_succ,List.set_cons_zero];rw[p40,p43];refine zEt rfl ?_;refine zCK okT (.tmp 40) (.tmp 43) (by rfl) (.slice ar TL.length cr) (.slice ar4 1 cr4) TL [zZa n p] w _ (by rfl) (by rfl) f40 (f43.in okT) (Ext.trans HX9.out hE) (Ext.trans HX9.out hE).size (by have:=HLL.out;simp;omega) ?_;intro v5 w5 ha;obtain⟨a8,c8,hv5⟩:=ha.own.form;subst hv5;have HA:=hQq ha;clear ha f40 f43 hE;obtain⟨NL,hNL⟩:∃NL,NL=TL++ [zZa n p]:=⟨_,rfl⟩;have HNL:=hQq hNL;rw[<- hNL]at HA HDL ⊢;clear hNL;refine zEt rfl ?_;unfold Oper.wp;go_simp;unfold zEu;go_wp2_with (first
     | (go_at_call 33;refine(HDR.out _ HA.out.below).mono ?_;rintro e6 w6 ⟨⟨a6,c6,rfl,ho6⟩,hb6⟩;have HO6:=hQq ho6;have HB6:=hQq hb6;clear ho6 hb6)
     | (at_builtin;refine zIX okT rfl (.tmp 45) (.tmp 49) rfl _ _ NL DL w _ rfl rfl (by exact HA.out.own.ext okT HB6.out) (by exact HO6.out.in okT) (by exact Ext.trans HA.out.below HB6.out) (by exact(Ext.trans HA.out.below HB6.out).size) (by have:=HLL.out;have:=HDL.out.1;rw[HNL.out];simp;omega) ?_;intro v7 w7 ha;obtain⟨a9,c9,hv7⟩:=ha.own.form;subst hv7;have HA7:=hQq ha;clear ha)
     | fail)
    go_ret;exact⟨⟨a9,c9,by rw[HDL.out.2,List.length_append];rfl,by rw[HDL.out.2];exact HA7.out.own⟩,HA7.out.below⟩
theorem yAd {t:List TrN}(hok:zA1 t t.length):∀k,k<t.length->zB6 (zAw t k)=0/\∀s∈zAw t k,s.size<=24:=by
 intro k
 induction k using Nat.strongRecOn with
 | ind k ih=>
  intro hk;by_cases e:k=0
  ·rw[e,zDJ];exact⟨rfl,fun s hs=>by cases hs⟩
  ·have hb:=zCT t k;obtain⟨i1,i2⟩:=ih (abv t k).toNat (by omega) (by omega);obtain⟨_,he,_⟩:=zAd (hok k hk);have hn:zAn (L (zAa t k).nm)=0:=by
    have h:=he e;unfold zA0 at h;by_cases h2:zAn (L (zAa t k).nm)=0
    ·exact h2
    ·rw[if_pos h2]at h;exact h
   rw[zCw t k e];refine⟨by rw[zFW _ _ i1];unfold zB6;rw[if_neg (by rw[hn];decide)];rfl,fun s hs=>?_⟩;rcases List.mem_append.1 hs with hs|hs
   ·exact i2 s hs
   ·rw[List.mem_singleton.1 hs];have h9:=(zBT hn).2.2.2.2;rwa [<- zAG]at h9
theorem zZz {t:List TrN}(hok:zA1 t t.length)(k:Nat)(hk:k<t.length):zAR (zAw t k)=0/\∀s∈zAw t k,s.size<=zD2:=by
 obtain⟨h1,h2⟩:=yAd hok k hk;have h3:=(zKC hok k hk).2;have h4:=(zA3 (zAd (hok k hk)).1).2.1;refine⟨?_,fun s hs=>Nat.le_trans (h2 s hs) (by decide)⟩;unfold zAR;rw[if_neg (by omega),h1]
theorem yAl (B Bo Bp:Nat)(w:World)(v vo vp:Value)(t:List TrN)(q p:List ByteArray)(i:Nat)(hb:zCa B w v t)(ho:zBV Bo w vo q)(hp:zBV Bp w vp p)(hB:B<=w.heap.size)(hsm:zAI t)(h0:zAt t=0)(hqe:zAR q=0)(hqs:∀s∈q,s.size<=zD2)(hpe:zAR p=0)(hps:∀s∈p,s.size<=1000000)(hlen:t.length<=1000)(hf:zKJ t q=((i:Int),0))(hi:i<t.length)(hk1:(zAa t i).kd≠1)(hk5:(zAa t i).kd≠5)(hcl:(zAa t i).cl≠0)(hp0:0<p.length)(hpl:p.length<=1000000):
  Calls Tryz.prog 32 #[v,vo,vp] w (zRD w (if yAc t p=0 then zA5 (zZo t p (zAa t i))else ([],yAc t p))):=by
 obtain⟨aa,cap,rfl⟩:=hb.form;obtain⟨ao,capo,rfl⟩:=ho.form;obtain⟨ap,capp,rfl⟩:=hp.form;have hok:=(zAf h0).2.2.1;have HV:=hQq hb;have HP:=hQq hp;have HSM:=hQq hsm;have HCK:Hid (∀W,Ext w W->zAs Tryz.prog 25 #[.slice aa t.length cap] W (.tuple #[.int .i64 (zFc t),.int .i64 0])):=hQq (fun W h=>by have:=zEz B _ t W (hb.ext okT h) hsm;rw[h0]at this;exact this);have HPQ:Hid (∀W,Ext w W->Ret Tryz.prog 96 #[.slice ao q.length capo] W (.int .i64 0)):=hQq (fun W h=>by have:=zCY _ q W (ho.ext okS h).strs hqs;rw[hqe]at this;exact this);have HPC:Hid (∀W,Ext w W->Ret Tryz.prog 96 #[.slice ap p.length capp] W (.int .i64 0)):=hQq (fun W h=>by have:=zCY _ p W (hp.ext okS h).strs (fun s hs=>Nat.le_trans (hps s hs) (by decide));rw[hpe]at this;exact this);have HFD:Hid (∀W,Ext w W->zAs Tryz.prog 28 #[.slice aa t.length cap,.slice ao q.length capo] W (.tuple #[.int .i64 (i:Nat),.int .i64 0])):=hQq (fun W h=>by have:=zV3 B Bo W _ _ t q (hb.ext okT h) (Nat.le_trans hB h.size) (ho.ext okS h) hsm h0 hqe hqs hlen;rw[hf]at this;exact this);have HPL:Hid (∀W,Ext w W->zAs Tryz.prog 98 #[.slice aa t.length cap,.slice ap p.length capp] W (.int .i64 (yAc t p))):=hQq (fun W h=>yAn B Bp W _ _ t p (hb.ext okT h) (hp.ext okS h) hok hlen hp0 hpl);have HCP:Hid (∀W,Ext w W->Calls Tryz.prog 33 #[.slice aa t.length cap] W (fun e w'=>(∃a c,e= .returned (.slice a t.length c)/\zAg cdT w.heap.size w' (.slice a t.length c) t)/\Ext W w')):=hQq (fun W h=>by
  refine(zTA B W _ t (hb.ext okT h) (Nat.le_trans hB h.size) hlen (fun x hx=>(hsm x hx).2.2)).mono ?_;rintro e5 w5 ⟨⟨a,n,c,rfl,ho⟩,hb⟩;obtain⟨a',c',e'⟩:=ho.form;cases e';exact⟨⟨_,_,rfl,ho.to h.size⟩,hb⟩)
 have HIN:Hid (∀W u vn,Ext w W->zCa w.heap.size W u t->zAH w.heap.size W vn (zAa t i).ats->Calls Tryz.prog 99 #[u,.slice ap p.length capp,.agg #[.int .i64 (zAa t i).dep,.string (zAa t i).nm,.int .i64 (zAa t i).kd,vn,.string (zAa t i).dat,.int .i64 (zAa t i).ma,.int .i64 (zAa t i).mi,.int .i64 (zAa t i).cl]] W (fun e w'=>(∃a cap,e= .returned (.slice a (zZo t p (zAa t i)).length cap)/\zAg cdT W.heap.size w' (.slice a (zZo t p (zAa t i)).length cap) (zZo t p (zAa t i)))/\Ext W w')):=hQq (fun W u vn h h1 h2=>zZF w.heap.size Bp W u _ vn t p (zAa t i) h1 (hp.ext okS h) h.size h2 hok hsm (hsm _ (zC1 hi)).2.2 hlen (by omega) hp0 hpl hpe (fun s hs=>Nat.le_trans (hps s hs) (by decide)) fun k hk=>zZz hok k hk);have HCN:Hid (∀W u B2,B2<=W.heap.size->zCa B2 W u (zZo t p (zAa t i))->Calls Tryz.prog 73 #[u] W (zRD W (zA5 (zZo t p (zAa t i))))):=hQq (fun W u B2 h1 h2=>zUH B2 W u _ h2 h1 (fun x hx=>by
  unfold zZo at hx;rcases List.mem_append.1 hx with hx|hx
  ·exact hsm x (List.mem_of_mem_take hx)
  rcases List.mem_cons.1 hx with rfl|hx
  ·exact⟨by
    show (p.getLast?.getD ⟨#[]⟩).size<=_;rw[List.getLast?_eq_some_getLast (List.length_pos_iff.1 hp0)];exact hps _ (List.getLast_mem _),(hsm _ (zC1 hi)).2.1,(hsm _ (zC1 hi)).2.2⟩
  ·exact hsm x (List.mem_of_mem_drop hx)))
 obtain⟨bb,off,va,hex,hbx,hva,c0,c1,c2,c3,c4,c5,c6,c7⟩:=hb.tr i hi;cases hex;rw[<- zAl t i hi]at c2;have HC2:=hQq c2;have HBX:=hQq hbx;have j1:((i:Nat):Int)<(t.length:Int):=by omega
 have j0:(0:Int)<=(i:Int):=by omega
 have q1:((zAa t i).kd==1)=false:=nB hk1;have q2:((zAa t i).kd==5)=false:=nB hk5;have q3:((p.length:Int)==0)=false:=nB (by omega);have HCL:Hid (((zAa t i).cl==0)=false):=hQq (nB hcl);clear hb ho hp hsm h0 hqe hqs hpe hps hf hk1 hk5 hcl hok c0 c1 c2 c3 c4 c5 c6 c7 hva hbx;generalize hkd:(zAa t i).kd=kd at HC2 q1 q2;have HKD:=hQq hkd;clear hkd;generalize yAc t p=pe at HPL ⊢;go_enter Tryz.func32,Tryz.ntmps32;by_cases h4:pe=0
 case neg=>
  have q5:(pe != 0)=true:=bne_iff_ne.2 h4;go_wp2_with (first
   | (go_at_call 25;refine(HCK.out _ (bR _ _)).mono ?_;rintro e w1 ⟨rfl,hb1⟩;have HB1:=hQq hb1;clear hb1)
   | (go_at_call 96;refine(HPQ.out _ HB1.out).mono ?_;clear HPQ;rintro e w2 ⟨rfl,rfl⟩)
   | (go_at_call 96;refine(HPC.out _ HB1.out).mono ?_;rintro e w3 ⟨rfl,rfl⟩)
   | (go_at_call 28;refine(HFD.out _ HB1.out).mono ?_;rintro e w4 ⟨rfl,hb4⟩;have HB4:=hQq (Ext.trans HB1.out hb4);have d2:=(eC (Ext.trans HB1.out hb4) HBX.out).trans HC2.out;clear hb4)
   | (go_at_call 98;refine(HPL.out _ HB4.out).mono ?_;rintro e w5 ⟨rfl,hb5⟩;have HB5:=hQq (Ext.trans HB4.out hb5);clear hb5 d2)
   | fail)
  go_ret2;exact⟨⟨none,0,w5.heap.size,rfl,HB5.out.size,Nat.le_refl _,zAg.nil _ _ _⟩,HB5.out⟩
 subst h4;go_wp2_with (first
  | (go_at_call 25;refine(HCK.out _ (bR _ _)).mono ?_;rintro e w1 ⟨rfl,hb1⟩;have HB1:=hQq hb1;clear hb1)
  | (go_at_call 96;refine(HPQ.out _ HB1.out).mono ?_;clear HPQ;rintro e w2 ⟨rfl,rfl⟩)
  | (go_at_call 96;refine(HPC.out _ HB1.out).mono ?_;rintro e w3 ⟨rfl,rfl⟩)
  | (go_at_call 28;refine(HFD.out _ HB1.out).mono ?_;rintro e w4 ⟨rfl,hb4⟩;have HB4:=hQq (Ext.trans HB1.out hb4);have d2:=(eC (Ext.trans HB1.out hb4) HBX.out).trans HC2.out;clear hb4)
  | (go_at_call 98;refine(HPL.out _ HB4.out).mono ?_;rintro e w5 ⟨rfl,hb5⟩;have HB5:=hQq (Ext.trans HB4.out hb5);clear hb5 d2)
  | (go_at_call 33;refine(HCP.out _ HB5.out).mono ?_;rintro e w6 ⟨⟨a6,cap6,rfl,ho6⟩,hb6⟩;have HO6:=hQq ho6;have HB6:=hQq (Ext.trans HB5.out hb6);obtain⟨b6,off6,va6,hex6,hbx6,hva6,x0,x1,x2,x3,x4,x5,x6,x7⟩:=(HO6.out.in okT).tr i hi;cases hex6;rw[<- zAl t i hi]at x0 x1 x2 x4 x5 x6 x7 hva6;have HVA6:=hQq hva6;have hcl0:=HCL.out;clear ho6 hb6 hva6)
  | (go_at_call 99;refine(HIN.out _ _ _ HB6.out (HO6.out.in okT) HVA6.out).mono ?_;rintro e w7 ⟨⟨a7,c7,rfl,ho7⟩,hb7⟩;have HO7:=hQq ho7;have HB7:=hQq (Ext.trans HB6.out hb7);have HS7:=hQq hb7.size;clear ho7 hb7 x0 x1 x2 x3 x4 x5 x6 x7)
  | (go_at_call 73;refine(HCN.out _ _ _ HS7.out (HO7.out.in okT)).mono ?_;rintro e w8 ⟨⟨a8,c8,B8,rfl,hB8,hB9,ho8⟩,hb8⟩;have HO8:=hQq ho8;have HB8:=hQq (Ext.trans HB7.out hb8);have HS8:Hid (w.heap.size<=B8/\B8<=w8.heap.size):=hQq ⟨Nat.le_trans HB7.out.size hB8,hB9⟩;clear ho8 hb8 hB8 hB9)
  | fail)
 go_ret2;refine⟨⟨a8,c8,B8,?_,HS8.out.1,HS8.out.2,?_⟩,HB8.out⟩
 ·first|rfl|(rw[if_pos rfl];rfl)
 ·first|exact HO8.out|(rw[if_pos rfl];exact HO8.out)
end Go.Proofs.YtbeeoomadnmogaaGreat
namespace Go.Proofs.YtbeeoomadnmogaaGreat
open Go.RowKit
theorem zZw {n:Nat}(hn:n<=500){b:List BrN}(h:zYZ n b):zBN b:=by
 have hl:=h.len;refine zZ9 (by omega) fun x hx=>?_;obtain⟨h1,h2,h3,h4,h5⟩:=h.ok x hx;exact⟨by omega,by have:=h1.1;omega,fun a ha=>by have:=h1.2 a ha;omega,by omega,fun s hs=>by have:=h5 s hs;omega⟩
end Go.Proofs.YtbeeoomadnmogaaGreat
namespace Go.Proofs.YtbeeoomadnmogaaGreat
open Go.RowKit
section
variable {P:Program} {α:Type} {C:Cd α} {B B':Nat} {w w':World} {v:Value} {l:List α}
theorem zZM (K:zEq P C)(ty:TypeId)(v x:Value)(l1 l2:List α)(w:World)(h1:zAg C B w v l1)(h2:zAh C B w x l2)(hB:B<=w.heap.size)(hl:l1.length+l2.length<=1000000000000000000)(hby:(l1.length+l2.length)*C.bytes<=140737488355328):
  ∃v' w',(Builtin.append_ #[C.t,C.t] ty #[v,x]).run P w= .ok v' w'/\zAg C B w' v' (l1++l2)/\w.grownBy w' v.ownBlock/\(v'.ownBlock=v.ownBlock\/v'.ownBlock=some w.heap.size)/\Chg B C.e v.ownBlock w w':=by
 obtain⟨i,hi,hz,h3,h4⟩:=K.sl.info;have hrow:=h1.row rfl;obtain⟨a,cap,rfl,hcap,hn,hc⟩:=h2;obtain⟨css,hcl,hR,ho⟩:=h1;have hlen:=zAg.lens K hcl hR
 cases a with
 | none=>
  obtain rfl:l2= []:=by
   cases l2 with
   | nil=>rfl
   | cons y r=>obtain⟨b,off,cs,h0,_⟩:=hc 0 (by simp);cases h0
  refine⟨v,w,?_,by rw[List.append_nil];exact⟨css,hcl,hR,ho⟩,⟨rfl,rfl,rfl,Nat.le_refl _,fun _ _ _=>rfl⟩,.inl rfl,⟨fun _ _ hb _=>hb,Nat.le_refl _,hrow⟩⟩;rcases ho.2 with ⟨rfl,h0⟩|⟨g,cap',cur,rfl,_,_,hnc,_⟩
  ·simp[Builtin.append_,run_underlying K.sl.und,sizeOf,typeInfo,hi,Builtin.lenOf,Builtin.firstCells]
  ·simp[Builtin.append_,run_underlying K.sl.und,sizeOf,typeInfo,hi,Builtin.lenOf,Builtin.firstCells,hnc,storeCells]
 | some ad=>
  have hex : ∃ dss : List (List Value), dss.length = l2.length /\ ∀ k (h : k < l2.length) (h' : k < dss.length), C.R B w (l2[k]'h) (dss[k]'h') /\ ∀ j c, (dss[k]'h')[j]? = some c -> w.cell? (ad.add (k * C.n + j)) = some c := by
   have : ∀ m, m <= l2.length -> ∃ dss : List (List Value), dss.length = m /\ ∀ k (h : k < l2.length) (h' : k < dss.length), C.R B w (l2[k]'h) (dss[k]'h') /\ ∀ j c, (dss[k]'h')[j]? = some c -> w.cell? (ad.add (k * C.n + j)) = some c := by
    intro m
    induction m with
    | zero=>intro _;exact⟨[],rfl,fun k _ h'=>absurd h' (by simp)⟩
    | succ m ih=>
     intro hm;obtain⟨dss,hd,hh⟩:=ih (by omega);obtain⟨b,off,cs,h0,hb,hr,hrw⟩:=hc m (by omega);refine⟨dss++ [cs],by simp[hd],fun k h h'=>?_⟩;rw[List.getElem_append];split
     ·exact hh k h _
     ·have hkm:k=m:=by simp at h';omega
      subst hkm;simp only[List.getElem_singleton];refine⟨hr,fun j c hj=>?_⟩;cases h0;rw[Addr.add_lit,<- Nat.add_assoc];exact hrw j c hj
   exact this _ (Nat.le_refl _)
  obtain⟨dss,hdl,hd⟩:=hex;have hdlen:∀cs∈dss,cs.length=C.n:=by
   intro cs hcs;obtain⟨k,hk,rfl⟩:=List.getElem_of_mem hcs;exact K.len (hd k (by omega) hk).1
  have hcell:∀j u,dss.flatten[j]? = some u->w.cell? (ad.add j)=some u:=by
   intro j u hj;have hp:=K.sl.pos;have hdm:j / C.n*C.n+j % C.n=j:=by rw[Nat.mul_comm];exact Nat.div_add_mod j C.n
   have hml:=Nat.mod_lt j hp;rw[<- hdm,zJE hdlen _ _ hml]at hj;rcases Nat.lt_or_ge (j / C.n) dss.length with hk|hk
   ·rw[List.getElem?_eq_getElem hk]at hj;have:=(hd (j / C.n) (by omega) hk).2 (j % C.n) u hj;rwa [hdm]at this
   ·rw[List.getElem?_eq_none hk]at hj;cases hj
  have hone:∀u∈dss.flatten,u.oneCell'=true:=by
   intro u hu;obtain⟨cs,hcs,hu⟩:=List.mem_flatten.1 hu;obtain⟨k,hk,rfl⟩:=List.getElem_of_mem hcs;exact K.one (hd k (by omega) hk).1 u hu
  obtain⟨v',w',hr,ho',hg,_,hlies⟩:=run_append_own_at (P:=P) (w:=w) B C.t ty C.e i _ C.n C.bytes K.sl.und hi hz h3 h4 K.sl.zs K.sl.pos v l1.length css.flatten ho ad l2.length cap dss.flatten (by rw[zCy hdlen,hdl]) hcell hone (by unfold maxLen;omega) hby hB;have hchg:Chg B C.e v.ownBlock w w':=⟨zD3 hg,hg.size,hrow⟩;refine⟨v',w',hr,⟨css++dss,by simp[hcl,hdl],fun k hk hk'=>K.chg ?_ hchg K.self,?_⟩,hg,hlies,hchg⟩
  ·rw[List.getElem_append,List.getElem_append];by_cases hkl:k<l1.length
   ·rw[dif_pos hkl,dif_pos (by omega)];exact hR k hkl (by omega)
   ·rw[dif_neg hkl,dif_neg (by omega)];have:=(hd (k-l1.length) (by simp at hk;omega) (by simp at hk;omega)).1;simp only[hcl];exact this
  ·rw[List.length_append,List.flatten_append];exact ho'
variable {o:Oper} {a:Act} {Kx:Act->World->Prop} {Q:Exit->Act->World->Prop}
theorem zZy (K:zEq P C)(s x:Operand)(ho:o.op= .call {callee:=.builtin .append,args:=#[s,x],argTypes:=#[C.t,C.t]})
  (v xv:Value) (l1 l2:List α) (W0 w:World) (hs:a.eval s=v) (hx:a.eval x=xv) (h1:zAg C B w v l1) (h2:zAh C B w xv l2) (hb:Below B W0 w) (hB:B<=w.heap.size) (hl:l1.length+l2.length<=1000000000000000000) (hby:(l1.length+l2.length)*C.bytes<=140737488355328)
  (h:∀v' w',zIr C B v v' (l1++l2) W0 w w'->Kx (a.put o.dst v') w'):o.wp P a w Kx Q:=by
 obtain⟨v',w',hr,h3,h4,h5,h6⟩:=zZM K o.type v xv l1 l2 w h1 h2 hB hl hby;unfold Oper.wp execOp;simp only[ho,resolve,invoke,builtin,Sem.run_bind,Sem.run_pure,Result.andThen_ok,List.map_toArray,List.map_cons,List.map_nil,hs,hx,hr];exact h v' w' ⟨h3,zK5 hb h4 h1 hB,h6,h5⟩
end
theorem yAb (B:Nat)(w:World)(x:BrN)(va vr:Value)(hx:zAH B w va x.ats)(hB:B<=w.heap.size)(hl:x.ats.length*32<=140737488355328)(hr:∃a n cap,vr= .slice a n cap):
  Calls Tryz.prog 139 #[brV x va vr] w (zUj w x):=by
 obtain⟨a4,n4,cap4,rfl⟩:=hr;obtain⟨a3,cap3,rfl⟩:=hx.form;have HX:=hQq hx;clear hx;unfold brV;go_enter Tryz.func139,Tryz.ntmps139;go_wp2;refine nW (P:=fun W=>Code.wp _ _ _ _ W) _ ?_;intro W hW;have HXB:Hid (W.heap[w.heap.size]? = some (.cells #[.int .i64 x.dep,.string x.nm,.int .i64 x.kd,.slice a3 x.ats.length cap3,.string x.dat,.int .i64 x.ma,.int .i64 x.mi,.int .i64 x.cl,.bool x.opq,.slice a4 n4 cap4] 46 (0,0))):=hQq (by rw[hW];exact bA (bN w _));have HZB:Hid (W.heap[w.heap.size+1]? = some (.cells #[.int .i64 0,.string ⟨#[]⟩,.int .i64 0,.slice none 0 0,.string ⟨#[]⟩,.int .i64 0,.int .i64 0,.int .i64 0] 59 (0,0))):=hQq (by rw[hW];exact zAu (by simp));have HE:Hid (Ext w W):=hQq (by rw[hW];exact(eA _ _).trans (eA _ _));clear hW;have c0:W.cell? ⟨w.heap.size,0,none⟩=some (.int .i64 x.dep):=bC HXB.out 0;have c1:W.cell? ⟨w.heap.size,1,none⟩=some (.string x.nm):=bC HXB.out 1;have c2:W.cell? ⟨w.heap.size,2,none⟩=some (.int .i64 x.kd):=bC HXB.out 2;have c3:W.cell? ⟨w.heap.size,3,none⟩=some (.slice a3 x.ats.length cap3):=bC HXB.out 3;have c4:W.cell? ⟨w.heap.size,4,none⟩=some (.string x.dat):=bC HXB.out 4;have c5:W.cell? ⟨w.heap.size,5,none⟩=some (.int .i64 x.ma):=bC HXB.out 5;have c6:W.cell? ⟨w.heap.size,6,none⟩=some (.int .i64 x.mi):=bC HXB.out 6;have c7:W.cell? ⟨w.heap.size,7,none⟩=some (.int .i64 x.cl):=bC HXB.out 7;have fz:∀j,W.frozen? ⟨w.heap.size+1,j,none⟩=false:=fun j=>bT HZB.out j;have HX1:Hid (∀o,zAH W.heap.size (W.alloc o).drew (.slice a3 x.ats.length cap3) x.ats):=hQq (fun o=>(HX.out.mono okA (Nat.le_trans hB HE.out.size)).ext okA ((HE.out.trans (eA _ _)).trans (eD _)));have HF1:Hid (zAg cdA W.heap.size (W.alloc (.cells #[] cdA.e)).drew (.slice (some ⟨W.heap.size,0,none⟩) 0 0) []):=hQq ((zAg.fresh cdA W).ext okA (eD _));have fzA:∀o j,(W.alloc o).drew.frozen? ⟨w.heap.size+1,j,none⟩=false:=fun o j=>bT (bX ((eA W o).trans (eD _)) HZB.out) j;go_region_held3 (fun w'=>w'.cell? ⟨w.heap.size,0,none⟩=some (.int .i64 x.dep)/\w'.cell? ⟨w.heap.size,1,none⟩=some (.string x.nm)/\w'.cell? ⟨w.heap.size,2,none⟩=some (.int .i64 x.kd)/\w'.cell? ⟨w.heap.size,3,none⟩=some (.slice a3 x.ats.length cap3)/\w'.cell? ⟨w.heap.size,4,none⟩=some (.string x.dat)/\w'.cell? ⟨w.heap.size,5,none⟩=some (.int .i64 x.ma)/\w'.cell? ⟨w.heap.size,6,none⟩=some (.int .i64 x.mi)/\w'.cell? ⟨w.heap.size,7,none⟩=some (.int .i64 x.cl)/\∀j,w'.frozen? ⟨w.heap.size+1,j,none⟩=false) (first|go_keep|skip)
  ((refine zZy okA (.tmp 9) (.tmp 11) (by rfl) (.slice (some ⟨W.heap.size,0,none⟩) 0 0) _ [] x.ats W _ (by rfl) (by rfl) (by exact HF1.out) (by exact HX1.out _) (by exact(eA _ _).trans (eD _)) (by simp) (by simp;omega) (by simp[cdA];omega) ?_;intro v5 w3 ha;have HAP:=hQq ha;clear ha;have HE3:Hid (Ext W w3):=HAP.out.below;have X3:=hQq (zK2 HXB.out HE3.out);have Z3:=hQq (zK2 HZB.out HE3.out);obtain⟨a5,cap5,rfl⟩:=HAP.out.own.form;have d0:w3.cell? ⟨w.heap.size,0,none⟩=some (.int .i64 x.dep):=bC X3.out 0;have d1:w3.cell? ⟨w.heap.size,1,none⟩=some (.string x.nm):=bC X3.out 1;have d2:w3.cell? ⟨w.heap.size,2,none⟩=some (.int .i64 x.kd):=bC X3.out 2;have d3:w3.cell? ⟨w.heap.size,3,none⟩=some (.slice a3 x.ats.length cap3):=bC X3.out 3;have d4:w3.cell? ⟨w.heap.size,4,none⟩=some (.string x.dat):=bC X3.out 4;have d5:w3.cell? ⟨w.heap.size,5,none⟩=some (.int .i64 x.ma):=bC X3.out 5;have d6:w3.cell? ⟨w.heap.size,6,none⟩=some (.int .i64 x.mi):=bC X3.out 6;have d7:w3.cell? ⟨w.heap.size,7,none⟩=some (.int .i64 x.cl):=bC X3.out 7;have fz3:∀j,w3.frozen? ⟨w.heap.size+1,j,none⟩=false:=fun j=>bT Z3.out j;have r0:w3.cell? ⟨w.heap.size+1,0,none⟩=some (.int .i64 0):=bC Z3.out 0;have r1:w3.cell? ⟨w.heap.size+1,1,none⟩=some (.string ⟨#[]⟩):=bC Z3.out 1;have r2:w3.cell? ⟨w.heap.size+1,2,none⟩=some (.int .i64 0):=bC Z3.out 2;have r3:w3.cell? ⟨w.heap.size+1,3,none⟩=some (.slice none 0 0):=bC Z3.out 3;have r4:w3.cell? ⟨w.heap.size+1,4,none⟩=some (.string ⟨#[]⟩):=bC Z3.out 4;have r5:w3.cell? ⟨w.heap.size+1,5,none⟩=some (.int .i64 0):=bC Z3.out 5;have r6:w3.cell? ⟨w.heap.size+1,6,none⟩=some (.int .i64 0):=bC Z3.out 6;have r7:w3.cell? ⟨w.heap.size+1,7,none⟩=some (.int .i64 0):=bC Z3.out 7;have hsz:w.heap.size+1<w3.heap.size:=bL Z3.out))
 refine nW (P:=fun W=>Exit.then _ _ _ _ W) _ ?_;intro W2 hW2;replace hW2:W2=zFp w3 (w.heap.size+1) 0 [.int .i64 x.dep,.string x.nm,.int .i64 x.kd,.slice a5 x.ats.length cap5,.string x.dat,.int .i64 x.ma,.int .i64 x.mi,.int .i64 x.cl]:=hW2;have HZ2:Hid (W2.heap[w.heap.size+1]? = some (.cells #[.int .i64 x.dep,.string x.nm,.int .i64 x.kd,.slice a5 x.ats.length cap5,.string x.dat,.int .i64 x.ma,.int .i64 x.mi,.int .i64 x.cl] 59 (0,0))):=hQq (by rw[hW2,zCF _ _ _ _ Z3.out];rfl);have HB2:Hid (Ext w W2):=hQq (by rw[hW2];exact zBw (by omega) _ _ _ (HE.out.trans HE3.out));have HO:Hid (zAH 0 w3 (.slice a5 x.ats.length cap5) x.ats):=hQq ((zAg.le (B':=0) HAP.out.own okA (fun _ _ _ h=>h) (Nat.zero_le _)).in okA);have HA2:Hid (zAH 0 W2 (.slice a5 x.ats.length cap5) x.ats):=hQq (by rw[hW2];exact HO.out.chg okA (zCX (by omega) Z3.out _) (by decide) (by decide));clear hW2 c0 c1 c2 c3 c4 c5 c6 c7 d0 d1 d2 d3 d4 d5 d6 d7 r0 r1 r2 r3 r4 r5 r6 r7;have t0:W2.cell? ⟨w.heap.size+1,0,none⟩=some (.int .i64 x.dep):=bC HZ2.out 0;have t1:W2.cell? ⟨w.heap.size+1,1,none⟩=some (.string x.nm):=bC HZ2.out 1;have t2:W2.cell? ⟨w.heap.size+1,2,none⟩=some (.int .i64 x.kd):=bC HZ2.out 2;have t3:W2.cell? ⟨w.heap.size+1,3,none⟩=some (.slice a5 x.ats.length cap5):=bC HZ2.out 3;have t4:W2.cell? ⟨w.heap.size+1,4,none⟩=some (.string x.dat):=bC HZ2.out 4;have t5:W2.cell? ⟨w.heap.size+1,5,none⟩=some (.int .i64 x.ma):=bC HZ2.out 5;have t6:W2.cell? ⟨w.heap.size+1,6,none⟩=some (.int .i64 x.mi):=bC HZ2.out 6;have t7:W2.cell? ⟨w.heap.size+1,7,none⟩=some (.int .i64 x.cl):=bC HZ2.out 7;go_wp2;refine bodyPost_ret (v:=trV x.toTrN (.slice a5 x.ats.length cap5)) (by simp[results,Tryz.f139,go_sem,t0,t1,t2,t3,t4,t5,t6,t7]) rfl ?_;exact⟨⟨_,rfl,HA2.out⟩,HB2.out⟩
end Go.Proofs.YtbeeoomadnmogaaGreat
namespace Go.Proofs.YtbeeoomadnmogaaGreat
open Go.ChangeShapes Go.WideShapes Go.Deep Go.RowKit
section
variable {H:Type} {enc:TypeId × Value->H} {w:World} {base:Nat} {spare:Nat->Bool} {held:Bool} {fuel:Nat} {u:Value} {x:DataW H × List MemPlace}
theorem zZH (h:DataW.trod enc Tryz.prog w base spare held fuel 23 [u]=some x):∃l,zCp w u l:=by
 rcases open_slice1 Tryz.underlying23 (by kernel_rfl) h with h0|⟨a,len,cap,m,n,V,D,Pl,hcs,_,hl,_,hm,_,hi⟩
 ·simp at h0;obtain⟨rfl,_⟩:=h0;exact⟨[],⟨none,0,rfl,Nat.le_refl _,fun k hk=>absurd hk (by simp)⟩⟩
 ·simp at hcs;subst hcs;have hlm:len<=m:=by rw[hm];split<;>omega
  obtain⟨l,h1,h2⟩:=zD5 (p:=fun i (y:ByteArray)=>w.cell? (a.add i)=some (.string y)) len (by
   intro i hil;obtain⟨hc,ht⟩:=hi i (by omega);obtain⟨s0,e0,_⟩:=DataW.trod_string Tryz.underlying9 ht;simp only[List.cons.injEq,and_true]at e0;exact⟨s0,by rw[hc,e0]⟩)
  subst h1;refine⟨l,some a,cap,rfl,hl,fun k hk=>?_⟩;have hsp:=zGG (h2 0 (by omega));obtain⟨b,off,sp⟩:=a;obtain rfl:sp=none:=hsp;have c1:=h2 k hk;rw[Addr.add_lit]at c1;exact⟨b,off,rfl,World.block_lt_of_cell? _ _ c1,c1⟩
end
end Go.Proofs.YtbeeoomadnmogaaGreat
namespace Go.Proofs.YtbeeoomadnmogaaGreat
open Go.ChangeShapes Go.WideShapes Go.Deep Go.RowKit
theorem zZr {H:Type}{P:Program}{e:TypeId}{l:List (DataW H)}{d:DataW H}(hd:d∈l){n:Nat}(hn:n∈d.weights P e):n∈DataW.weightsAll P e l:=by
 induction l with
 | nil=>cases hd
 | cons x r ih=>
  simp only[DataW.weightsAll,List.mem_append];grind
section
variable {H:Type} {enc:TypeId × Value->H} {P:Program} {w:World} {base:Nat} {spare:Nat->Bool} {held:Bool}
theorem zY7 {t e:TypeId} {fs:Array Field} {fuel:Nat} {cs:List Value} {x:DataW H × List MemPlace} {N:Nat} (ht:P.underlying t=some (.slice e)) (he:P.underlying e=some (.struct fs))
  (hone:oneCellFields P fs=true) (hC:P.cellsOf e=fs.size) (h:DataW.trod enc P w base spare held fuel t cs=some x) (hw:∀ n ∈ x.1.weights P t,n<=N) :
  cs= [.slice none 0 0] \/
  ∃ (a:Addr) (len cap _m:Nat),cs= [.slice (some a) len cap]/\len<=cap/\len * P.bytesOf e<=N /\
   ∀ i,i < len->∃ n:Nat,∀ (j:Nat) (f:Field),fs[j]? = some f->∃ (v:Value) (y:DataW H × List MemPlace),w.cell? (a.add (i * fs.size+j))=some v/\DataW.trod enc P w base spare held n f.type [v]=some y/\∀ n ∈ y.1.weights P f.type,n<=N:=by
 rcases open_slice ht h with h0 | ⟨a,len,cap,m,n,D,Pl,hcs,hb,hl,hm,hmm,hx,hi⟩
 ·grind
 ·have hwx:x.1.weights P t=(len+(m - len)) * P.bytesOf e :: (DataW.weightsAll P e ((List.range len).map D) ++ DataW.weightsAll P e ((List.range (m - len)).map fun j=>D (len+j))):=by
   rw [hx];simp [DataW.weights,ht]
  rw [hwx] at hw
  refine .inr ⟨a,len,cap,m,hcs,hl,?_,fun i him=>?_⟩
  ·have:=hw _ (List.mem_cons_self ..)
   grind
  obtain⟨cs',hc,ht'⟩:=hi i (by rw [hmm];split <;> omega)
  rw [hC] at hc
  obtain⟨ys,n',hn',hy,hlen,hyl,hf⟩:=DataW.trod_struct he ht'
  obtain⟨_,hcl,hat⟩:=World.cells?_some hc
  refine⟨n',fun j f hj=>?_⟩
  obtain⟨ho,hk⟩:=hone_of hone j f hj
  have hjl:j < fs.size:=(Array.getElem?_eq_some_iff.1 hj).1
  have hcell:=hat j hjl
  have hv:cs'[j]? = some (cs'[j]'(by omega)):=List.getElem?_eq_getElem (by omega)
  have h1:=hf j f hj
  rw [ho,hk] at h1
  have hone':(cs'.drop j).take 1= [cs'[j]'(by omega)]:=by
   grind [List.drop_eq_getElem_cons]
  rw [hone'] at h1
  have hys:ys[j]? = some (ys[j]'(by omega)):=List.getElem?_eq_getElem (by omega)
  refine⟨_,_,?_,h1.trans hys,fun q hq=>hw q (List.mem_cons_of_mem _ (List.mem_append_left _ (zZr (d:=D i) (List.mem_map.2 ⟨i,List.mem_range.2 him,rfl⟩) ?_)))⟩
  ·rw [<- Go.Deep.add_add,hcell,hv]
  ·have hD:D i= .agg (ys.map (·.1)):=congrArg Prod.fst hy
   rw [hD]
   simp only [DataW.weights,he]
   refine DataW.weights_mem_each (j:=j) (t:=f.type) (d:=(ys[j]'(by omega)).1) ?_ ?_ q hq
   ·grind
   grind
end
section
variable {H:Type} {enc:TypeId × Value->H} {w:World} {base:Nat} {spare:Nat->Bool} {held:Bool} {fuel:Nat} {u:Value} {x:DataW H × List MemPlace}
theorem zZv {N:Nat}(h:DataW.trod enc Tryz.prog w base spare held fuel 22 [u]=some x)(hw:∀n∈x.1.weights Tryz.prog 22,n<=N):∃l,aA w u l/\l.length*32<=N:=by
 rcases zY7 Tryz.underlying22 Tryz.underlying57 (by kernel_rfl) (by kernel_rfl) h hw with h0|⟨a,len,cap,m,hcs,hl,hm,hi⟩
 ·simp at h0;subst h0;exact⟨[],aA.nil _ _ _,by simp⟩
 ·simp at hcs;subst hcs;have hm:len*32<=N:=hm;obtain⟨l,h1,h2⟩:=zD5 (p:=fun i (y:zAq)=>w.cell? (a.add (i*2))=some (.string y.1)/\w.cell? (a.add (i*2+1))=some (.string y.2)) len (by
   intro i hil;obtain⟨n,hf⟩:=hi i (by omega);obtain⟨v0,y0,hc0,ht0,-⟩:=hf 0 _ rfl;obtain⟨v1,y1,hc1,ht1,-⟩:=hf 1 _ rfl;obtain⟨s0,e0,_⟩:=DataW.trod_string Tryz.underlying9 ht0;obtain⟨s1,e1,_⟩:=DataW.trod_string Tryz.underlying9 ht1;simp only[List.cons.injEq,and_true]at e0 e1;subst e0 e1;exact⟨(s0,s1),hc0,hc1⟩)
  subst h1;refine⟨l,⟨some a,cap,rfl,hl,fun k hk=>?_⟩,hm⟩;have hsp:=zGG (by simpa using (h2 0 (by omega)).1);obtain⟨b,off,sp⟩:=a;obtain rfl:sp=none:=hsp;obtain⟨c1,c2⟩:=h2 k hk;rw[Addr.add_lit]at c1 c2;exact⟨b,off,rfl,World.block_lt_of_cell? _ _ c1,c1,by rw[<- c2,Nat.add_assoc]⟩
theorem zZt {N:Nat}(h:DataW.trod enc Tryz.prog w base spare held fuel 35 [u]=some x)(hw:∀n∈x.1.weights Tryz.prog 35,n<=N):∃l,zEi w.heap.size w u l/\∀y∈l,y.ats.length*32<=N:=by
 rcases zY7 Tryz.underlying35 Tryz.underlying46 (by kernel_rfl) (by kernel_rfl) h hw with h0|⟨a,len,cap,m,hcs,hl,hm,hi⟩
 ·simp at h0;subst h0;exact⟨[],zAh.nil _ _ _ _,fun y hy=>by cases hy⟩
 ·simp at hcs;subst hcs;obtain⟨l,h1,h2⟩:=zD5 (p:=fun i (y:BrN × Value × Value)=>y.1.ats.length*32<=N/\zAH w.heap.size w y.2.1 y.1.ats/\zBV w.heap.size w y.2.2 y.1.red/\∀j c,(brC y.1 y.2.1 y.2.2)[j]? = some c->w.cell? (a.add (i*10+j))=some c) len (by
   intro i hil;obtain⟨n,hf⟩:=hi i (by omega);obtain⟨v0,y0,hc0,ht0,hz0⟩:=hf 0 _ rfl;obtain⟨v1,y1,hc1,ht1,hz1⟩:=hf 1 _ rfl;obtain⟨v2,y2,hc2,ht2,hz2⟩:=hf 2 _ rfl;obtain⟨v3,y3,hc3,ht3,hz3⟩:=hf 3 _ rfl;obtain⟨v4,y4,hc4,ht4,hz4⟩:=hf 4 _ rfl;obtain⟨v5,y5,hc5,ht5,hz5⟩:=hf 5 _ rfl;obtain⟨v6,y6,hc6,ht6,hz6⟩:=hf 6 _ rfl;obtain⟨v7,y7,hc7,ht7,hz7⟩:=hf 7 _ rfl;obtain⟨v8,y8,hc8,ht8,hz8⟩:=hf 8 _ rfl;obtain⟨v9,y9,hc9,ht9,hz9⟩:=hf 9 _ rfl;obtain⟨s0,e0,_⟩:=DataW.trod_int Tryz.underlying3 ht0;obtain⟨s1,e1,_⟩:=DataW.trod_string Tryz.underlying9 ht1;obtain⟨s2,e2,_⟩:=DataW.trod_int Tryz.underlying3 ht2;obtain⟨s3,e3,k3⟩:=zZv ht3 hz3;obtain⟨s4,e4,_⟩:=DataW.trod_string Tryz.underlying9 ht4;obtain⟨s5,e5,_⟩:=DataW.trod_int Tryz.underlying3 ht5;obtain⟨s6,e6,_⟩:=DataW.trod_int Tryz.underlying3 ht6;obtain⟨s7,e7,_⟩:=DataW.trod_int Tryz.underlying3 ht7;obtain⟨s8,e8,_⟩:=DataW.trod_bool Tryz.underlying4 ht8;obtain⟨s9,e9⟩:=zZH ht9;simp only[List.cons.injEq,and_true]at e0 e1 e2 e4 e5 e6 e7 e8;subst e0 e1 e2 e4 e5 e6 e7 e8;refine⟨(⟨⟨s0,s1,s2,s3,s4,s5,s6,s7⟩,s8,s9⟩,v3,v9),k3,zMN e3,zU3 e9,fun j c hj=>?_⟩
   match j,hj with
   | 0,hj=>cases hj;exact hc0
   | 1,hj=>cases hj;exact hc1
   | 2,hj=>cases hj;exact hc2
   | 3,hj=>cases hj;exact hc3
   | 4,hj=>cases hj;exact hc4
   | 5,hj=>cases hj;exact hc5
   | 6,hj=>cases hj;exact hc6
   | 7,hj=>cases hj;exact hc7
   | 8,hj=>cases hj;exact hc8
   | 9,hj=>cases hj;exact hc9
   | j+10,hj=>simp[brC]at hj)
  subst h1;have hsp:0<l.length->a.spot=none:=fun h0=>zGG (by simpa using (h2 0 h0).2.2.2 0 _ rfl);have hlm:l.length=(l.map Prod.fst).length:=by simp
  refine⟨l.map Prod.fst,⟨some a,cap,by rw[hlm],by rw[<- hlm];exact hl,fun h0 b hb=>.inl ?_,fun k hk=>?_⟩,fun y hy=>?_⟩
  ·have h0:0<l.length:=h0;have hc:=(h2 0 h0).2.2.2 0 _ rfl;have hs:=hsp h0;obtain⟨b',off,sp⟩:=a;obtain rfl:sp=none:=hs;cases hb;rw[Addr.add_lit]at hc;exact World.block_lt_of_cell? _ _ hc
  ·have hk':k<l.length:=by rw[hlm];exact hk
   have hs:=hsp (by omega);obtain⟨b,off,sp⟩:=a;obtain rfl:sp=none:=hs;obtain⟨-,h3,h3',h4⟩:=h2 k hk';have hc:=h4 0 _ rfl;rw[Addr.add_lit]at hc;refine⟨b,off,brC (l[k]'hk').1 (l[k]'hk').2.1 (l[k]'hk').2.2,rfl,World.block_lt_of_cell? _ _ hc,⟨_,_,by rw[List.getElem_map];exact h3,by rw[List.getElem_map];exact h3',by rw[List.getElem_map]⟩,fun j c hj=>?_⟩;have:=h4 j c hj;rw[Addr.add_lit]at this;rw[<- this,Nat.add_assoc];rfl
  ·obtain⟨z,hz,rfl⟩:=List.mem_map.1 hy;obtain⟨k,hk,rfl⟩:=List.getElem_of_mem hz;exact(h2 k hk).1
end
theorem zZu {H:Type}{enc:TypeId × Value->H}{w:World}{base:Nat}{spare:Nat->Bool}{held:Bool}{v:Value}{d:DataW H}{p:List MemPlace}{N:Nat}
  (hval:Value.okWide Tryz.prog w .any base 35 v) (h:DataW.Trod enc Tryz.prog w 0 spare held 35 v d p) (hw:∀n∈d.weights Tryz.prog 35,n<=N):∃l,zEi w.heap.size w v l/\∀y∈l,y.ats.length*32<=N:=by
 obtain⟨a0,len0,cap0,rfl⟩:=okWide_slice Tryz.underlying35 hval;obtain⟨fuel,hf⟩:=h;exact zZt (x:=(d,p)) (by simpa [Value.cells] using hf) hw
end Go.Proofs.YtbeeoomadnmogaaGreat
namespace Go.Proofs.YtbeeoomadnmogaaGreat
open Go.ChangeShapes Go.WideShapes Go.Deep Go.RowKit
section
variable {P:Program} {α:Type} {C:Cd α} {B:Nat} {w:World} {o:Oper} {a:Act} {Q:Exit->Act->World->Prop}
theorem yAB (K:zEq P C){ops:Array Oper}{rest:List Oper}(hgd:o.guard=none)(s x:Operand)(ho:o.op= .call {callee:=.builtin .append,args:=#[s,x],argTypes:=#[C.t,C.t]})
  (v xv:Value) (l1 l2:List α) (W0 w:World) (hs:a.eval s=v) (hx:a.eval x=xv) (h1:zAg C B w v l1) (h2:zAh C B w xv l2) (hb:Below B W0 w) (hB:B<=w.heap.size) (hl:l1.length+l2.length<=1000000000000000000) (hby:(l1.length+l2.length)*C.bytes<=140737488355328)
  (h:∀v' w',zIr C B v v' (l1++l2) W0 w w'->wpList P ops Q rest (a.put o.dst v') w'):wpList P ops Q (o :: rest) a w:=
 wpList_plain hgd fun _ hK=>zZy K s x ho v xv l1 l2 W0 w hs hx h1 h2 hb hB hl hby fun v' w' h3=>hK _ _ (h v' w' h3)
end
section
variable {H:Type} {enc:TypeId × Value->H} {w:World} {base:Nat} {spare:Nat->Bool} {held:Bool} {fuel:Nat} {u:Value} {x:DataW H × List MemPlace}
theorem yAe {N:Nat}{l:List BrN}(h:DataW.trod enc Tryz.prog w base spare held fuel 35 [u]=some x)(hw:∀n∈x.1.weights Tryz.prog 35,n<=N)(hl:zEi w.heap.size w u l):l.length*128<=N:=by
 obtain⟨a,cap,rfl⟩:=hl.form;rcases zY7 Tryz.underlying35 Tryz.underlying46 (by kernel_rfl) (by kernel_rfl) h hw with h0|⟨a',len,cap',m,hcs,hl',hm,hi⟩
 ·simp at h0;have hz:l.length=0:=by first|exact h0.2.1|(rw[h0.2.1];rfl)|(rw[h0.2.1])
  omega
 ·simp at hcs;obtain⟨_,h2,_⟩:=hcs;have hm:len*128<=N:=hm;rw[h2];exact hm
end
theorem zZQ {H:Type}{enc:TypeId × Value->H}{w:World}{base:Nat}{spare:Nat->Bool}{held:Bool}{v:Value}{d:DataW H}{p:List MemPlace}{N:Nat}{l:List BrN}
  (hval:Value.okWide Tryz.prog w .any base 35 v) (h:DataW.Trod enc Tryz.prog w 0 spare held 35 v d p) (hw:∀n∈d.weights Tryz.prog 35,n<=N) (hl:zEi w.heap.size w v l):l.length*128<=N:=by
 obtain⟨a0,len0,cap0,rfl⟩:=okWide_slice Tryz.underlying35 hval;obtain⟨fuel,hf⟩:=h;exact yAe (x:=(d,p)) (by simpa [Value.cells] using hf) hw hl
end Go.Proofs.YtbeeoomadnmogaaGreat
namespace Go.Proofs.YtbeeoomadnmogaaGreat
open Go.ChangeShapes Go.WideShapes Go.Deep Go.RowKit
theorem yAa (B:Nat)(w:World)(v:Value)(b:List BrN)(hb:zEi B w v b)(hB:B<=w.heap.size)(hl:b.length*128<=140737488355328)(hats:∀x∈b,x.ats.length*32<=140737488355328):
  Calls Tryz.prog 78 #[v] w (zW5 w b):=by
 obtain⟨aa,cap,rfl⟩:=hb.form;have HV:=hQq hb;clear hb;have HAT:=hQq hats;clear hats;go_enter Tryz.func78,Tryz.ntmps78;go_wp2;go_loopw [3,4] (fun o i w'=>∃(wi:World) (k:Nat),wi=w'/\k<=b.length/\i= .int .i64 k/\zAg cdT w.heap.size wi o (plT (b.take k))/\Ext w wi) (fun _ i _=>b.length-(intOf i).toNat)
 case atStart=>exact⟨_,0,rfl,Nat.zero_le _,rfl,zAg.nil _ _ _,bR _ _⟩
 case round=>
  obtain⟨wi,k,rfl,hk,rfl,ho,hE⟩:=hrel;have HO:=hQq ho;have HE:=hQq hE;obtain⟨a5,cap5,rfl⟩:=ho.form;clear ho hE;by_cases hlt:k<b.length
  case neg=>
   obtain rfl:k=b.length:=by omega
   have HR:Hid (zAg cdT w.heap.size wi (.slice a5 b.length cap5) (plT b)):=hQq (by have:=HO.out;rw[zJk,zAk]at this;exact this);have hq:(plT (b.take b.length)).length=b.length:=by rw[zJk,zAk]
   go_wp2;go_ret;exact⟨⟨a5,cap5,by rw[hq];rfl,HR.out⟩,HE.out⟩
  obtain⟨bb,off,va,vr,hex,hbx,hva,hvr,xx⟩:=HV.out.br k hlt;cases hex;obtain⟨c0,c1,c2,c3,c4,c5,c6,c7,c8,c9⟩:=zJQ HE.out hbx xx;have HVA:=hQq hva;obtain⟨a4,cap4,rfl⟩:=hvr.form;obtain⟨a3,cap3,rfl⟩:=hva.form;have HL:Hid ((b[k]'hlt).ats.length*32<=140737488355328):=HAT.out _ (List.getElem_mem hlt);have HS:=hQq (zMB b k hlt);generalize b[k]'hlt=x at c0 c1 c2 c3 c4 c5 c6 c7 c8 c9 HVA HL HS;have HW:Hid (w.heap.size<=wi.heap.size):=HE.out.size;have j1:((k:Nat):Int)<(b.length:Int):=by omega
  have j0:(0:Int)<=(k:Int):=by omega
  have hq:(plT (b.take k)).length=k:=by rw[zAk,List.length_take];omega
  have HQ:=hQq hq;clear hq;clear xx hva hvr;go_wp2_with (first|(go_at_call 139;refine(yAb B _ x _ _ (HVA.out.ext okA HE.out) (Nat.le_trans hB HW.out) HL.out ⟨_,_,_,rfl⟩).mono ?_;rintro e w1 ⟨⟨va1,rfl,hv1⟩,hb1⟩;have HV1:=hQq hv1;have HB1:=hQq hb1;clear hv1 hb1)|(at_builtin;refine yAB okT rfl (.tmp 11) (.tmp 17) rfl _ _ (plT (b.take k)) [x.toTrN] w _ rfl rfl (by exact(HO.out.ext okT HB1.out).ext okT (eA _ _)) (by exact zAj okT _ x.toTrN (trC x.toTrN va1) _ rfl ⟨va1,HV1.out.mono okA (Nat.zero_le _),rfl⟩) (by exact(HE.out.trans HB1.out).trans (eA _ _)) (by have:=HB1.out.size;have:=HW.out;simp;omega) (by have:=HQ.out;simp;omega) (by have:=HQ.out;simp[cdT];omega) ?_;intro v2 w2 ha;have HA:=hQq ha;clear ha))
  go_roundw
  case rel=>exact⟨_,k+1,rfl,by omega,by go_num,by rw[HS.out];exact HA.out.own,HA.out.below⟩
  case measure=>simp[intOf]<;>omega
end Go.Proofs.YtbeeoomadnmogaaGreat
namespace Go.Proofs.YtbeeoomadnmogaaGreat
open Go.RowKit
theorem zZg (B:Nat)(v:Value)(b:List BrN)(w:World)(hv:zEi B w v b)(hB:B<=w.heap.size)(hzl:b.length*128<=140737488355328)(hz:∀x∈b,x.ats.length*32<=140737488355328):Calls Tryz.prog 23 #[v] w (zYg (zYZ 500 b) w):=by
 obtain⟨aa,cap,rfl⟩:=hv.form;have HV:=hQq hv;have HZ:=hQq hz;clear hv hz;go_enter Tryz.func23,Tryz.ntmps23;go_wp2;go_loop [3] (fun i=>∃k:Nat,i= .int .i64 k/\k<=b.length/\∀j (_:j<k) (hj:j<b.length),(b[j]'hj).red.length<=12/\∀s∈(b[j]'hj).red,s.size<=100) (fun i=>b.length-(intOf i).toNat)
 case atStart=>exact⟨0,rfl,Nat.zero_le _,fun j hj=>absurd hj (by omega)⟩
 case round=>
  obtain⟨k,rfl,hk,hs⟩:=hrel;have HS:=hQq hs;clear hs;by_cases hlt:k<b.length
  case neg=>
   obtain rfl:k=b.length:=by omega
   go_wp2_with (first
    | (go_at_call 78;refine(yAa B _ _ b HV.out hB hzl HZ.out).mono ?_;rintro e w2 ⟨⟨a5,cap5,rfl,ho⟩,hb2⟩;have HO:=hQq ho;have HB2:=hQq hb2;clear ho hb2)
    | (go_at_call 18;refine(zMY w.heap.size _ (b.map BrN.toTrN) _ (HO.out.in okT)).mono ?_;rintro e w3 ⟨r,rfl,hr,rfl⟩;have HR:=hQq hr;clear hr)
    | fail)
   go_ret;refine⟨_,rfl,fun h=>?_,HB2.out⟩;have h3:=HR.out h;refine⟨by have:=h3.len;rw[List.length_map]at this;exact this,fun x hx=>?_⟩;obtain⟨q1,q2,q3⟩:=h3.ok x.toTrN (List.mem_map.2 ⟨x,hx,rfl⟩);obtain⟨j,hj,rfl⟩:=List.getElem_of_mem hx;exact⟨q1,q2,q3,(HS.out j hj hj).1,fun s hs=>Nat.le_trans ((HS.out j hj hj).2 s hs) (by decide)⟩
  obtain⟨bb,off,va,vr,hex,hb,hva,hvr,c0,c1,c2,c3,c4,c5,c6,c7,c8,c9⟩:=HV.out.br k hlt;cases hex;have HVR:=hQq hvr.strs;have HG:Hid (∀x,x=b[k]'hlt->x.red.length<=12/\(∀s∈x.red,s.size<=100)->∀j (_:j<k+1) (hj:j<b.length),(b[j]'hj).red.length<=12/\∀s∈(b[j]'hj).red,s.size<=100):=hQq (fun x hx hs j hj hjl=>by
   by_cases e:j=k
   ·subst e;rw[<- hx];exact hs
   ·exact HS.out j (by omega) hjl)
  obtain⟨x,hx⟩:∃x,x=b[k]'hlt:=⟨_,rfl⟩;rw[<- hx]at HVR;have HX:=hQq hx;have j1:((k:Nat):Int)<(b.length:Int):=by omega
  have j0:(0:Int)<=(k:Int):=by omega
  clear hx hva hvr c0 c1 c2 c3 c4 c5 c6 c7 c8;go_wp2_with (go_at_call 39;refine(zPV _ x.red w HVR.out).mono ?_;rintro e w1 ⟨r,rfl,hr,rfl⟩;have HR:=hQq hr;clear hr)
  ·go_ret;exact⟨_,rfl,(fun h=>by cases h),bR _ _⟩
  ·go_round
   case rel=>exact⟨k+1,by go_num,by omega,HG.out x HX.out (HR.out (by first|assumption|exact Bool.eq_false_iff.2 (by assumption)))⟩
   case measure=>simp[intOf]<;>omega
theorem yAz {b:List BrN}(h:awF b≠0):awL b= []:=by
 rcases zTi b with ⟨e,_⟩|⟨_,_,e⟩
 ·exact e
 ·exact absurd e h
end Go.Proofs.YtbeeoomadnmogaaGreat
