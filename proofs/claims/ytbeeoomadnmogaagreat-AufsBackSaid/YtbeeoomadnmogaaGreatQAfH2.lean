/- AfH2 AfM5 AwV AwY AwP AwZ AxC AxD -/
import Derived.Test.YtbeeoomadnmogaaGreatQI5
import Derived.Test.YtbeeoomadnmogaaGreatQAfG
set_option maxRecDepth 100000
set_option maxHeartbeats 64000000
namespace Go.Proofs.YtbeeoomadnmogaaGreat
open Go.RowKit
structure Ren (s:Int->Int) (t:List TrN):Prop where
 zero:s 0=0
 nz:∀ x ∈ t,s x.cl=0->x.cl=0
 inj:∀ x ∈ t,∀ y ∈ t,s x.cl=s y.cl->x.cl=y.cl
theorem zC2 {t:List TrN} {i:Nat} (h:i < t.length):zAa t i ∈ t:=by rw [zAm t i h];exact List.getElem_mem h
theorem Ren.sub {s:Int->Int} {t u:List TrN} (h:Ren s t) (hu:∀ x ∈ u,x ∈ t):Ren s u:=⟨h.zero,fun x hx=>h.nz x (hu x hx),fun x hx y hy=>h.inj x (hu x hx) y (hu y hy)⟩
theorem zTP (s:Int->Int) (t:List TrN):(t.map (clM s)).map (clM fun _=>0)=t.map (clM fun _=>0):=by rw [List.map_map];rfl
section
variable {s:Int->Int} {t:List TrN} (h:Ren s t)
include h
theorem zLh {i j:Nat} (hi:i < t.length) (hj:j < t.length):(zAa (t.map (clM s)) j).cl=(zAa (t.map (clM s)) i).cl ↔ (zAa t j).cl=(zAa t i).cl:=by
 rw [zKK h.zero,zKK h.zero]
 exact⟨fun e=>h.inj _ (zC2 hj) _ (zC2 hi) e,fun e=>by rw [e]⟩
theorem zKj {i:Nat} (hi:i < t.length):∀ k,k<=t.length->zAi (t.map (clM s)) (zAa (t.map (clM s)) i).cl k=zAi t (zAa t i).cl k
 | 0,_=>rfl
 | k+1,hk=>by
  show zAi _ _ k+_=zAi _ _ k+_
  rw [zKj hi k (by omega)]
  have:=zLh h hi (show k < t.length from hk)
  by_cases e:(zAa t k).cl=(zAa t i).cl
  ·rw [if_pos e,if_pos (this.2 e)]
  ·rw [if_neg e,if_neg fun x=>e (this.1 x)]
theorem zO4 {i:Nat} (hi:i < t.length):zEV (t.map (clM s)) (zAa (t.map (clM s)) i).cl=zEV t (zAa t i).cl:=by
 unfold zEV
 rw [List.length_map,zKj h hi _ (Nat.le_refl _),zKK h.zero]
 have:s (zAa t i).cl ≠ 0 ↔ (zAa t i).cl ≠ 0:=⟨fun e x=>e (by rw [x];exact h.zero),fun e x=>e (h.nz _ (zC2 hi) x)⟩
 rw [decide_eq_decide.2 this]
theorem zLi {i:Nat} (hi:i < t.length):zCs (t.map (clM s)) (zAa (t.map (clM s)) i).cl=zCs t (zAa t i).cl:=by
 obtain⟨a1,a2,a3⟩:=zAS hi
 have hi':i < (t.map (clM s)).length:=by rw [List.length_map];exact hi
 obtain⟨b1,b2,b3⟩:=zAS hi'
 rcases Nat.lt_trichotomy (zCs (t.map (clM s)) (zAa (t.map (clM s)) i).cl) (zCs t (zAa t i).cl) with e | e | e
 ·exact absurd ((zLh h hi (by omega)).1 b2) (a3 _ e)
 ·exact e
 ·exact absurd ((zLh h hi (by omega)).2 a2) (b3 _ e)
theorem zTe:∀ k,k<=t.length->nfC (t.map (clM s)) k=nfC t k
 | 0,_=>rfl
 | k+1,hk=>by
  show nfC _ k+_=nfC _ k+_
  rw [zTe k (by omega)]
  unfold zLx
  rw [zO4 h hk,zLi h hk]
theorem zO3 {i:Nat} (hi:i < t.length):zBH (t.map (clM s)) (s (zAa t i).cl)=zBH t (zAa t i).cl:=by
 have e:s (zAa t i).cl=(zAa (t.map (clM s)) i).cl:=(zKK h.zero t i).symm
 obtain⟨a1,_⟩:=zAS hi
 rw [e]
 unfold zBH
 rw [zO4 h hi,zLi h hi,zTe h _ (by omega)]
theorem zT8:zCV (t.map (clM s))=zCV t:=by
 unfold zCV
 rw [List.map_map]
 refine List.map_congr_left fun x hx=>?_
 obtain⟨i,hi,rfl⟩:=List.getElem_of_mem hx
 have:=zO3 h hi
 rw [zAm t i hi] at this
 show clM _ (clM s t[i])=_
 unfold clM
 show ({t[i] with cl:=zBH (t.map (clM s)) (s t[i].cl)}:TrN)=_
 rw [this]
theorem zO5 {i:Nat} (hi:i < t.length):zFm (t.map (clM s)) i=zFm t i:=by
 unfold zFm
 rw [zLi h hi,zDw h.zero,zDw h.zero]
 have:(s (zAa t i).cl != 0)=((zAa t i).cl != 0):=by
  rw [Bool.eq_iff_iff,bne_iff_ne,bne_iff_ne]
  exact⟨fun e x=>e (by rw [x];exact h.zero),fun e x=>e (h.nz _ (zC2 hi) x)⟩
 show ((s (zAa t i).cl != 0) && _)=_
 rw [this];rfl
theorem zQK:zBh (t.map (clM s))=zBh t:=by
 unfold zBh
 rw [List.length_map,zTP s t,zT8 h]
 have:(List.range t.length).any (zFm (t.map (clM s)))=(List.range t.length).any (zFm t):=by
  rw [Bool.eq_iff_iff,List.any_eq_true,List.any_eq_true]
  constructor
  ·rintro⟨i,hi,e⟩;exact⟨i,hi,by rw [<- zO5 h (List.mem_range.1 hi)];exact e⟩
  ·rintro⟨i,hi,e⟩;exact⟨i,hi,by rw [zO5 h (List.mem_range.1 hi)];exact e⟩
 rw [this]
end
theorem zIA {x y:TrN} (h:zA5 x y=true):x.kd=y.kd/\x.ats=y.ats/\x.dat=y.dat/\x.ma=y.ma/\x.mi=y.mi:=zBC.1 h
theorem zSQ {t u:List TrN} (h:zBh t=(u,0)):t.length<=120/\zAs (t.map (clM fun _=>0))=0/\(∀ i,i < t.length->zFm t i=false)/\u=zCV t:=by
 unfold zBh at h
 by_cases h1:120 < t.length
 ·rw [if_pos h1] at h;cases h
 rw [if_neg h1] at h
 by_cases h2:zAs (t.map (clM fun _=>0)) ≠ 0
 ·rw [if_pos h2] at h;exact absurd (congrArg Prod.snd h) h2
 rw [if_neg h2] at h
 by_cases h3:(List.range t.length).any (zFm t)=true
 ·rw [if_pos h3] at h;cases h
 rw [if_neg h3] at h
 refine⟨by omega,Decidable.not_not.1 h2,fun i hi=>?_,(congrArg Prod.fst h).symm⟩
 cases e:zFm t i with
 | false=>rfl
 | true=>exact absurd (List.any_eq_true.2 ⟨i,List.mem_range.2 hi,e⟩) h3
theorem zHX {t:List TrN} {i:Nat} (h:zFm t i=false) (hc:(zAa t i).cl ≠ 0):(zAa t i).kd ≠ 1/\(zAa t i).kd ≠ 5/\zA5 (zAa t (zCs t (zAa t i).cl)) (zAa t i)=true:=by
 unfold zFm at h
 rw [bne_iff_ne.2 hc] at h
 simp only [Bool.true_and,Bool.or_eq_false_iff,beq_eq_false_iff_ne,Bool.not_eq_false'] at h
 exact⟨h.1.1,h.1.2,h.2⟩
theorem zHU {t u:List TrN} (h:zBh t=(u,0)):zAs u=0:=by
 obtain⟨h1,h2,h3,rfl⟩:=zSQ h
 obtain⟨z1,z2,z3,_,_⟩:=zAf h2
 rw [List.length_map] at z1 z2 z3
 have hs:=zDe t
 have hlen:(zCV t).length=t.length:=List.length_map _
 have hu:∀ i,zAa (zCV t) i=clM (zBH t) (zAa t i):=zDw hs t
 have hm:∀ k,k<=t.length->zAJ (zCV t) k=nfC t k:=fun k=>by
  induction k with
  | zero=>intro _;rfl
  | succ k ih=>
   intro hk
   have ih:=ih (by omega)
   show max (zAJ (zCV t) k) (zAa (zCV t) k).cl=((nfC t k+(if zLx t k=true then 1 else 0):Nat):Int)
   rw [ih,hu]
   show max _ (zBH t (zAa t k).cl)=_
   obtain⟨a1,a2,a3⟩:=zAS (show k < t.length from hk)
   unfold zBH zLx
   cases em:zEV t (zAa t k).cl with
   | false=>rw [if_neg Bool.false_ne_true,Bool.false_and,if_neg Bool.false_ne_true];omega
   | true=>
    rw [if_pos rfl,Bool.true_and]
    by_cases e:zCs t (zAa t k).cl=k
    ·rw [if_pos (beq_iff_eq.2 e),e];omega
    ·rw [if_neg fun x=>e (beq_iff_eq.1 x)]
     have n1:=zLw (show k < t.length from hk) em
     have n2:nfC t (zCs t (zAa t k).cl+1)=nfC t (zCs t (zAa t k).cl)+1:=by show nfC t _+_=_;rw [if_pos n1]
     have n3:=zGU t (show zCs t (zAa t k).cl+1<=k by omega)
     omega
 refine(zBj (zEO (by rw [hlen];exact z1) (by rw [hlen];omega) ?_ ?_)).2
 ·intro i hi
  rw [hlen] at hi
  obtain⟨n1,n2,n3,n4,_⟩:=zAd (z3 i hi)
  rw [zHS rfl] at n1
  rw [zHT rfl] at n2
  rw [zDw rfl] at n3 n4
  have hc0:((zAa t i).kd=1\/(zAa t i).kd=5)->zBH t (zAa t i).cl=0:=fun hk=>by
   by_cases e:(zAa t i).cl=0
   ·rw [e];exact hs
   ·obtain⟨b1,b2,_⟩:=zHX (h3 i hi) e
    rcases hk with hk | hk
    ·exact absurd hk b1
    ·exact absurd hk b2
  rw [zBL (hu i) (by unfold zCV;rw [zHS hs];exact n1) (fun h=>by unfold zCV;rw [zHT hs];exact n2 h) (zPN n3 hc0) n4]
  unfold zF4
  have hge:0<=zBH t (zAa t i).cl:=by unfold zBH;split <;> omega
  have hle:zBH t (zAa t i).cl<=nfC t i+1:=by
   unfold zBH
   split
   ·have:=zGU t (zAS hi).1;omega
   ·omega
  have hun:zBS (zCV t) i i=false:=by
   refine(zDY i).2 fun j hj hp he=>?_
   rw [hu] at hp he
   rw [hu] at he
   have he:zBH t (zAa t j).cl=zBH t (zAa t i).cl:=he
   have hp:0 < zBH t (zAa t i).cl:=hp
   have hcl:=zGV hi (by omega) (by omega) he.symm
   have hcn:(zAa t i).cl ≠ 0:=fun e=>by rw [e,hs] at hp;exact absurd hp (by decide)
   obtain⟨_,_,l1⟩:=zHX (h3 i hi) hcn
   obtain⟨_,_,l2⟩:=zHX (h3 j (by omega)) (by rw [<- hcl];exact hcn)
   rw [<- hcl] at l2
   obtain⟨p1,p2,p3,p4,p5⟩:=zIA l1
   obtain⟨q1,q2,q3,q4,q5⟩:=zIA l2
   rw [hu,hu]
   exact zBC.2 ⟨q1.symm.trans p1,q2.symm.trans p2,q3.symm.trans p3,q4.symm.trans p4,q5.symm.trans p5⟩
  rw [if_neg (by rw [hun];exact Bool.false_ne_true),hm i (by omega),hu]
  exact if_neg (show ¬ (zBH t (zAa t i).cl < 0\/(nfC t i:Int)+1 < zBH t (zAa t i).cl) by omega)
 ·intro i hi
  rw [hlen] at hi
  unfold zDM
  by_cases e:0 < (zAa (zCV t) i).cl
  ·rw [hu] at e
   have hmul:=zJh (show zBH t (zAa t i).cl ≠ 0 from by have:0 < zBH t (zAa t i).cl:=e;omega)
   have hcnt:∀ k,k<=t.length->zAi (zCV t) (zAa (zCV t) i).cl k=zAi t (zAa t i).cl k:=fun k=>by
    induction k with
    | zero=>intro _;rfl
    | succ k ih=>
     intro hk
     show zAi _ _ k+_=zAi _ _ k+_
     rw [ih (by omega),hu,hu]
     show _+(if zBH t (zAa t k).cl=zBH t (zAa t i).cl then 1 else 0)=_
     by_cases e2:(zAa t k).cl=(zAa t i).cl
     ·rw [if_pos e2,if_pos (by rw [e2])]
     ·rw [if_neg e2,if_neg fun x=>e2 (zGV hi (by omega) (by have:0 < zBH t (zAa t i).cl:=e;omega) x.symm).symm]
   rw [hlen,hcnt _ (Nat.le_refl _)]
   unfold zEV at hmul
   rw [Bool.and_eq_true,decide_eq_true_iff,decide_eq_true_iff] at hmul
   rw [Bool.and_eq_false_iff]
   exact .inr (nB (by omega))
  ·rw [decide_eq_false e];rfl
/-! A branch with other names of its classes. -/
def clN (s:Int->Int) (x:BrN):BrN:={x with toTrN:=clM s x.toTrN}
def zGj (s:Int->Int):For->For
 | .nil=>.nil
 | .node x k r=>.node (clN s x) (zGj s k) (zGj s r)
abbrev zTk (s:Int->Int) (q:BrN × For):BrN × For:=(clN s q.1,zGj s q.2)
theorem zFw (s:Int->Int):∀ f:For,zBU (zGj s f)=(zBU f).map (zTk s)
 | .nil=>rfl
 | .node x k r=>by unfold zGj zBU;rw [zFw s r,List.map_cons]
theorem zJe (s:Int->Int):∀ l:List (BrN × For),ofS (l.map (zTk s))=zGj s (ofS l)
 | []=>rfl
 | (x,k) :: r=>by
  rw [List.map_cons]
  show For.node _ _ (ofS (r.map (zTk s)))=For.node _ _ (zGj s (ofS r))
  rw [zJe s r]
theorem zG2 (s:Int->Int):∀ (f:For) (d:Int),flt d (zGj s f)=(flt d f).map (clN s)
 | .nil,_=>rfl
 | .node x k r,d=>by
  show (clN s x).at d :: (flt (d+1) (zGj s k) ++ flt d (zGj s r))=_
  rw [zG2 s k,zG2 s r,zBe,List.map_cons,List.map_append];rfl
theorem zLm (s:Int->Int) (l:List BrN):plT (l.map (clN s))=(plT l).map (clM s):=by
 unfold plT;rw [List.map_map,List.map_map];rfl
theorem zHN {s:Int->Int} {P Q:BrN->For->Prop} (h:∀ x k,P x k->Q (clN s x) (zGj s k)):∀ {f:For},zCT P f->zCT Q (zGj s f)
 | .nil,_=>trivial
 | .node _ _ _,hp=>⟨h _ _ hp.1,zHN h hp.2.1,zHN h hp.2.2⟩
theorem zNx {s:Int->Int} {f:For} (h:zGK zCj (zBU f)):zGK zCj (zBU (zGj s f)):=by
 unfold zGK
 rw [zFw,List.pairwise_map]
 exact h
section
variable {s:Int->Int} (h0:s 0=0)
include h0
theorem zU5 (x:BrN):aeB (clN s x)=clN s (aeB x):=by
 unfold aeB
 by_cases e:x.kd=5
 ·rw [if_pos e,if_pos (show (clN s x).kd=5 from e)]
  show zFP _=clN s (zFP _)
  unfold zFP clN clM
  show ({toTrN:=_,opq:=_,red:=_}:BrN)= {toTrN:={dep:=_,nm:=_,kd:=_,ats:=_,dat:=_,ma:=_,mi:=_,cl:=s 0},opq:=_,red:=_}
  rw [h0];rfl
 ·rw [if_neg e,if_neg (show ¬ (clN s x).kd=5 from e)];rfl
theorem zPC (x:BrN):mkF (clN s x)=(mkF x).map (zTk s):=by
 unfold mkF
 show (if x.opq=true then _ else _)=_
 split
 ·rw [List.map_cons,List.map_nil]
  refine congrArg (· :: []) (Prod.ext ?_ rfl)
  show zFP zDy=clN s (zFP zDy)
  unfold zFP clN clM
  show ({toTrN:=_,opq:=_,red:=_}:BrN)= {toTrN:={dep:=_,nm:=_,kd:=_,ats:=_,dat:=_,ma:=_,mi:=_,cl:=s 0},opq:=_,red:=_}
  rw [h0];rfl
 ·rfl
theorem zHJ:∀ f:For,zB4 (zGj s f)=(zB4 f).map (zTk s)
 | .nil=>rfl
 | .node x k r=>by
  unfold zGj zB4
  rw [List.map_cons,zHJ r,zHJ k,zPC h0,<- List.map_append,zU5 h0]
  refine congrArg (· :: _) (Prod.ext rfl ?_)
  show ofS (zEg zCj ((zB4 k ++ mkF x).map (zTk s)))=zGj s (ofS (zEg zCj (zB4 k ++ mkF x)))
  rw [<- zGY (key:=zCj) (key':=zCj) (f:=zTk s) _ fun _ _=>rfl,zJe]
theorem zQn (x:BrN) (k:For):zDm (clN s x) (zGj s k)=zGj s (zDm x k):=by
 unfold zDm
 rw [zHJ h0,zPC h0,<- List.map_append,<- zGY (key:=zCj) (key':=zCj) (f:=zTk s) _ fun _ _=>rfl,zJe]
theorem zQI {x:BrN} {k:For} (h:zGJ x k):zGJ (clN s x) (zGj s k):=by
 obtain⟨h1,h2,h3,h4,h5,h6,h7,h8⟩:=h
 refine⟨h1,h2,fun e=>⟨?_,(h3 e).2⟩,h4,fun e=>?_,zNx h6,fun e=>?_,fun q hq e=>?_⟩
 ·have:=(h3 e).1
  show clN s x=zMg x.nm
  rw [this]
  unfold zMg clN clM
  show ({toTrN:={dep:=_,nm:=_,kd:=_,ats:=_,dat:=_,ma:=_,mi:=_,cl:=s 0},opq:=_,red:=_}:BrN)= {toTrN:=_,opq:=_,red:=_}
  rw [h0];rfl
 ·obtain⟨rfl,a⟩:=h5 e
  exact⟨rfl,a⟩
 ·obtain⟨a,b,c,d⟩:=h7 e
  exact⟨a,b,c,show s x.cl=0 by rw [d];exact h0⟩
 ·rw [zFw] at hq
  obtain⟨p,hp,rfl⟩:=List.mem_map.1 hq
  exact h8 p hp e
end
theorem zJD:∀ (k:For) (d:Int),∀ y ∈ (zB4 k).flatMap (flc d),y.opq=false/\y.red= []
 | .nil,_,y,h=>by cases h
 | .node x kk r,d,y,h=>by
  unfold zB4 at h
  rw [List.flatMap_cons,List.mem_append] at h
  rcases h with h | h
  ·rcases List.mem_cons.1 h with rfl | h
   ·show (aeB x).opq=false/\(aeB x).red= []
    unfold aeB
    split <;> exact⟨rfl,rfl⟩
   ·rcases List.mem_append.1 ((zCL (d+1) x kk).mem_iff.1 h) with h | h
    ·exact zJD kk (d+1) y h
    ·obtain⟨q,hq,hy⟩:=List.mem_flatMap.1 h
     obtain⟨rfl,_⟩:=zCR hq
     obtain rfl:=List.mem_singleton.1 hy
     exact⟨rfl,rfl⟩
  ·exact zJD r d y h
theorem zR7 {l:List BrN} (h:∀ y ∈ l,y.opq=false/\y.red= []):zD3 (plT l)=l:=by
 unfold zD3 plT
 rw [List.map_map]
 refine(List.map_congr_left (g:=id) fun y hy=>?_).trans (List.map_id _)
 obtain⟨a,c⟩:=h y hy
 obtain⟨t,opq,red⟩:=y
 simp only at a c
 subst a c
 rfl
theorem zGS (t:List TrN):plT (zD3 t)=t:=by
 unfold zD3 plT
 rw [List.map_map]
 exact(List.map_congr_left (g:=id) fun y _=>rfl).trans (List.map_id _)
theorem zC7 {t:List TrN} (h:zAs t=0):zB1 (zD3 t)=0:=by
 have hg:∀ i,(zAk (zD3 t) i).opq=false/\(zAk (zD3 t) i).red= []:=fun i=>by
  by_cases hi:i < (zD3 t).length
  ·rw [zAw _ _ hi]
   obtain⟨y,_,hy⟩:=List.mem_map.1 (List.getElem_mem hi)
   rw [<- hy]
   exact⟨rfl,rfl⟩
  ·unfold zAk
   rw [List.getD_eq_getElem?_getD,List.getElem?_eq_none (by omega)]
   exact⟨rfl,rfl⟩
 refine(zFY (zQP (by rw [zGS];exact h) fun j _=>?_)).2
 obtain⟨a,c⟩:=hg j
 rw [zD4 rfl (by rw [a];rintro⟨x,_⟩;cases x) (by rw [c];decide),if_neg]
 unfold zDo
 rw [(hg _).1,Bool.and_false]
 exact Bool.false_ne_true
attribute [local go_sem] Oper.semAt_some
theorem zMj (B:Nat) (w:World) (v vp:Value) (t:List TrN) (p:List ByteArray) (hb:zCt B w v t) (hp:zCu B w vp p) (hlen:t.length<=1000) (hok:zAW t t.length) :
  zAt Tryz.prog 174 #[v,vp] w (.int .i64 (zG1 (isP t p) t.length)):=by
 unfold zAt
 obtain⟨aa,cap,rfl⟩:=hb.form
 obtain⟨ap,capp,rfl⟩:=hp.form
 have HV:=hQq hb;have HP:=hQq hp;have HOK:=hQq hok
 clear hb hp hok
 refine(callsIn_wide (n:=8)).1 ?_
 refine callsIn_of_wp_marks Tryz.func174 rfl trivial ?_ rfl
 refine wpIn_wide.2 ?_
 simp only [Tryz.ntmps174,List.size_toArray,List.length_cons,List.length_nil,Nat.reduceAdd,Nat.reduceSub,Array.replicate_succ,Array.replicate_zero,List.push_toArray,List.append_toArray,List.nil_append,List.cons_append]
 go_wp2_with (go_at_call 206;refine(zVm _ _ _ _).mono ?_;rintro e w3 ⟨rfl,rfl⟩)
 refine nW (P:=fun W=>Code.wp _ _ _ _ W) _ ?_
 intro W0 hW0
 have HE0:Hid (Ext w W0):=hQq (by rw [hW0];exact((eA _ _).trans (eA _ _)).trans (eA _ _))
 have HS0:Hid (W0.heap.size=w.heap.size+3):=hQq (by rw [hW0];simp)
 have HPB:Hid (W0.heap[w.heap.size]? = some (.cells #[.slice ap p.length capp] 23 (0,0))):=hQq (by rw [hW0];exact bA (bA (bN _ _)))
 have HRB:Hid (W0.heap[w.heap.size+1]? = some (.cells #[.int .i64 0] 3 (0,0))):=hQq (by rw [hW0];exact bA (zAH (by simp)))
 have HM2:Hid (W0.cell? ⟨w.heap.size+1+1,0,none⟩=some (.slice aa t.length cap)):=hQq (by rw [hW0];exact bC (zAH (by simp)) 0)
 clear hW0
 have hsz:=HS0.out
 refine(wpIn_wide (n:=8)).1 ?_
 refine zFc (w:=W0) (w0:=W0) rfl (by omega) (gf:=220) (lb:=#[.pointer (some ⟨w.heap.size+1+1,0,none⟩)]) rfl trivial (enters_of Tryz.func220 (by kernel_rfl) rfl)
  (zNR 7 (by omega) B w W0 _ t (w.heap.size+1+1) HV.out (Kc.of_ext HE0.out) HM2.out (by omega) hlen HOK.out) Kc.trans (fun W l o o' hl ho hc=>Kc.put ho hc) (bR _ _) (fun _=>rfl) zGT
  (fun pre W=>FnI w W0 t p pre.length W) (fun c _ W=>c= .ret/\FnX w t p W)
  (fun s W W' h hx=>h.ab HE0.out.size hx) (fun c s W W' h hx=>⟨h.1,h.2.ab (by omega) hx⟩)
  ⟨fun j hj=>absurd hj (by simp),Kc.refl _ _ _,HE0.out⟩
  (zX6 w) (fun x a2 W l o o' _ _ h=>h) ?assign ?body ?done ?stop
 case assign=>
  intro l pre x W K hi hok hK
  unfold zSz
  gi_wp2
  exact hK _ _ (bR _ _) (Kc.refl _ _ _) ⟨[_,_,_,undef,undef,undef,undef,_,_,_,_,_,_,_,_],rfl⟩ hok
 case body=>
  rintro l pre x a2 W hI hlt hok ⟨M,rfl⟩
  obtain⟨xi,xa,xn,xc⟩:=x
  obtain⟨hxi,hxs⟩:=hok
  dsimp only at hxi hxs ⊢
  subst hxi
  have HPI:Hid (∀ y:PlI,(pre ++ [y]).length=pre.length+1):=hQq (fun y=>by simp)
  generalize pre.length=k at hI hlt hxs HPI ⊢
  have HI:=hQq hI;have HXS:=hQq hxs;have HLT:=hQq hlt
  have d1:=hQq (hI.kc.keep _ _ _ _ (.inr (Nat.zero_le _)) HPB.out)
  have d2:=hQq (hI.kc.keep _ _ _ _ (.inr (Nat.zero_le _)) HRB.out)
  have p1:W.cell? ⟨w.heap.size,0,none⟩=some (.slice ap p.length capp):=bC d1.out 0
  have z1:=bL d1.out
  have HPW:=hQq (zEQ HP.out ((Kc.of_ext HE0.out).trans hI.kc))
  obtain⟨ax,cx,ex⟩:=hxs.form
  clear hI hxs hlt
  have HEQ:=hQq (zGQ (.slice xa xn xc) (.slice ap p.length capp) (zAx t k) p W (HXS.out.strs) (HPW.out.strs) (by have:=zDK t k;have:=HLT.out;omega))
  unfold zAt at HEQ
  cases hq:isP t p k
  ·have hq2:decide (zAx t k=p)=false:=hq
   rw [hq2] at HEQ
   have HQ:=hQq hq
   clear hq hq2 ex
   gi_wp2_with (refine⟨trivial,?_⟩;gi_at_call 145;refine(CallsIn.inRound l (callsIn_wide.2 HEQ.out)).mono ?_;rintro e w1 ⟨rfl,hb1⟩;have HB1:=hQq hb1;clear hb1)
   exact⟨(zDO HB1.out).from _,Kc.of_ext HB1.out,by
    show FnI w W0 t p (pre ++ [_]).length _
    rw [HPI.out]
    exact⟨fun j hj=>by
     by_cases e:j=k
     ·subst e;exact HQ.out
     ·exact HI.out.no j (by omega),HI.out.kc.trans (Kc.of_ext HB1.out),HI.out.ext.trans HB1.out⟩⟩
  ·have hq2:decide (zAx t k=p)=true:=hq
   rw [hq2] at HEQ
   have HQ:=hQq hq
   clear hq hq2 ex
   gi_wp2_with (refine⟨trivial,?_⟩;gi_at_call 145;refine(CallsIn.inRound l (callsIn_wide.2 HEQ.out)).mono ?_;rintro e w1 ⟨rfl,hb1⟩;have HB1:=hQq hb1;have d3:=hQq (bX hb1 d2.out);have f2:w1.frozen? ⟨w.heap.size+1,0,none⟩=false:=by {simp [World.frozen?,d3.out]};have p2:=bC d3.out 0;have z2:=bL d3.out;clear hb1)
   have HIX:Hid (zG1 (isP t p) t.length=(k:Int)):=hQq (zBX HLT.out HI.out.no HQ.out)
   exact⟨((zDO HB1.out).trans (KeepsOthers.setCell _ _ _)).from _,rfl,by rw [HIX.out];exact one_setCell d3.out,Below.setCell (p:=⟨w.heap.size+1,0,none⟩) (HI.out.ext.trans HB1.out) (by show w.heap.size<=w.heap.size+1;omega) _⟩
 case done=>
  intro D xs W hD hS hI hdf
  rw [hS] at hI
  have d2:=hQq (hI.kc.keep _ _ _ _ (.inr (Nat.zero_le _)) HRB.out)
  have HI:=hQq hI;have HD:=hQq hdf;have HDL:=hQq hD
  have p2:=bC d2.out 0
  have z2:=bL d2.out
  have f2:W.frozen? ⟨w.heap.size+1,0,none⟩=false:=by simp [World.frozen?,d2.out]
  have HR:=hQq (zCk HI.out.no)
  clear hS hI hdf hD
  go_wp2
  have hW:=one_setCell (u:=.int .i64 (-1)) d2.out
  have hE:Ext w (W.setCell ⟨w.heap.size+1,0,none⟩ (.int .i64 (-1))):=Below.setCell (p:=⟨w.heap.size+1,0,none⟩) HI.out.ext (by show w.heap.size<=w.heap.size+1;omega) _
  have hD2:=(KeepsOthers.setCell W ⟨w.heap.size+1,0,none⟩ (.int .i64 (-1))).same D _ HD.out rfl
  refine⟨by simp,.inl ⟨_,_,rfl,run_takeDeferred hD2,?_⟩⟩
  have h9:=(World.putObj_heap_other (o:=.deferred none) (w:=W.setCell ⟨w.heap.size+1,0,none⟩ (.int .i64 (-1))) (show w.heap.size+1 ≠ D by have:=HDL.out;omega)).trans hW
  refine⟨.int .i64 (-1),?_,by rw [HR.out],Below.trans hE (zAF hD2 (Nat.le_trans HE0.out.size HDL.out))⟩
  simp [results,Tryz.f174,go_sem,bC h9 0]
 case stop=>
  rintro D c pre W hD _ ⟨rfl,hx⟩ hdf
  have HDL:=hQq hD;have HX:=hQq hx;have HD:=hQq hdf
  clear hD hx hdf
  refine wpIn_wide.2 ?_
  go_wp2
  refine⟨by simp,.inl ⟨_,_,rfl,run_takeDeferred HD.out,?_⟩⟩
  have h9:=(World.putObj_heap_other (o:=.deferred none) (w:=W) (show w.heap.size+1 ≠ D by have:=HDL.out;omega)).trans HX.out.res
  refine⟨.int .i64 (zG1 (isP t p) t.length),?_,rfl,Below.trans HX.out.ext (zAF HD.out (Nat.le_trans HE0.out.size HDL.out))⟩
  simp [results,Tryz.f174,go_sem,bC h9 0]
theorem zKb (B:Nat) (w:World) (v vp:Value) (t:List TrN) (p:List ByteArray) (hb:zCt B w v t) (hp:zCu B w vp p) (hsm:zAP t) (h0:zAs t=0) (hpe:zAY p=0) (hlen:t.length<=1000) :
  zAt Tryz.prog 129 #[v,vp] w (.tuple #[.int .i64 (zP9 t p).1,.int .i64 (zP9 t p).2]):=by
 unfold zAt
 obtain⟨aa,cap,rfl⟩:=hb.form
 obtain⟨ap,capp,rfl⟩:=hp.form
 have HV:=hQq hb;have HP:=hQq hp;have HX:Hid (zAP t/\zAs t=0):=hQq ⟨hsm,h0⟩
 have HPE:=hQq hpe
 have HOK:=hQq (zAf h0).2.2.1
 clear hb hp hsm h0 hpe
 obtain⟨r,hr⟩:∃ r,zG1 (isP t p) t.length=r:=⟨_,rfl⟩
 have HR:=hQq hr
 have ht:zP9 t p=(if r < 0 then (0,4) else (r,0)):=by unfold zP9;rw [hr]
 rw [ht]
 clear ht hr
 have A1:Hid (∀ W,Ext w W->zAt Tryz.prog 135 #[.slice (some ⟨w.heap.size,0,none⟩) 1 1] (w.alloc (.cells #[.slice aa t.length cap] 33 (0,0))) (.int .i64 0)):=hQq (fun _ _=>zIl B _ w.heap.size 1 [(.slice aa t.length cap,t)] rfl (by simp) (by simp) (fun k hk=>by
    match k,hk with
    | 0,_=>exact bC (bN w (.cells #[.slice aa t.length cap] 33 (0,0))) 0) (fun p hp=>by
    simp only [List.mem_cons,List.not_mem_nil,or_false] at hp
    subst hp
    exact⟨HV.out.ext okT (eA _ _),HX.out⟩))
 by_cases h4:r < 0
 ·rw [if_pos h4]
  go_enter Tryz.func129,Tryz.ntmps129
  go_wp2_with (first
   | (go_at_call 135;refine(A1.out w (bR _ _)).mono ?_;rintro e w2 ⟨rfl,hb2⟩;have HB2:=hQq ((eA _ _).trans hb2);clear hb2)
   | (go_at_call 105;refine(zCy _ p _ ((HP.out.ext okS HB2.out).strs)).mono ?_;rw [HPE.out];rintro e w3 ⟨rfl,hb3⟩;have HB3:=hQq (HB2.out.trans hb3);clear hb3)
   | (go_at_call 174;refine(zMj B _ _ _ t p (HV.out.ext okT HB3.out) (HP.out.ext okS HB3.out) hlen HOK.out).mono ?_;rw [HR.out];rintro e w4 ⟨rfl,hb4⟩;have HB4:=hQq (HB3.out.trans hb4);clear hb4)
   | fail)
  go_ret2
  exact⟨rfl,HB4.out⟩
 ·rw [if_neg h4]
  go_enter Tryz.func129,Tryz.ntmps129
  go_wp2_with (first
   | (go_at_call 135;refine(A1.out w (bR _ _)).mono ?_;rintro e w2 ⟨rfl,hb2⟩;have HB2:=hQq ((eA _ _).trans hb2);clear hb2)
   | (go_at_call 105;refine(zCy _ p _ ((HP.out.ext okS HB2.out).strs)).mono ?_;rw [HPE.out];rintro e w3 ⟨rfl,hb3⟩;have HB3:=hQq (HB2.out.trans hb3);clear hb3)
   | (go_at_call 174;refine(zMj B _ _ _ t p (HV.out.ext okT HB3.out) (HP.out.ext okS HB3.out) hlen HOK.out).mono ?_;rw [HR.out];rintro e w4 ⟨rfl,hb4⟩;have HB4:=hQq (HB3.out.trans hb4);clear hb4)
   | fail)
  go_ret2
  exact⟨rfl,HB4.out⟩
theorem zNQ (B:Nat) (w:World) (v:Value) (t:List TrN) (ht:zAg cdT B w v t) (hB:B<=w.heap.size) (hlen:t.length<=1000) (hkd:∀ x ∈ t,1<=x.kd/\x.kd<=5) (hal:∀ x ∈ t,x.ats.length<=1000000) :
  Calls Tryz.prog 153 #[v] w (zYj B w v t):=by
 obtain⟨aa,cap,rfl⟩:=ht.form
 have HV:=hQq ht;have HKD:=hQq hkd;have HAL:=hQq hal
 clear ht hkd hal
 have hmm:=@run_makeMap Tryz.prog
 go_enter Tryz.func153,Tryz.ntmps153
 go_wp2
 go_step3
 go_wp2
 go_step3
 go_wp2
 go_loopw [14] (fun i w'=>∃ (wi:World) (k:Nat),wi=w'/\k<=t.length/\i= .int .i64 k/\zWt w wi t k) (fun i _=>t.length - (intOf i).toNat)
 case atStart=>exact⟨_,0,rfl,Nat.zero_le _,rfl,(eA _ _).trans (eA _ _),⟨0,by rw [zR2];exact(zBI w kI).ext (eA _ _)⟩,⟨0,fun _=>none,by have:=zBI (w.alloc (.map #[] 0)) kI;rw [show (w.alloc (.map #[] 0)).heap.size=w.heap.size+1 by simp] at this;exact this,zCq.zero _ _ _⟩,fun i h=>absurd h (by omega)⟩
 case round=>
  obtain⟨wi,k,rfl,hk,rfl,hS⟩:=hrel
  have HS:=hQq hS
  clear hS
  by_cases hlt:k < t.length
  case neg=>
   obtain rfl:k=t.length:=by omega
   clear hk hlt
   have HE0:Hid (zKq t=0):=hQq (zUm HS.out.bad)
   obtain⟨n1,hM1⟩:=HS.out.many
   have HM1:=hQq hM1
   have HEX:=hQq HS.out.ext
   clear hM1 HS
   have hwz:=HM1.out.lt
   go_wp2
   go_loopw [52] (fun i w'=>∃ (wj:World) (k:Nat),wj=w'/\k<=t.length/\i= .int .i64 k/\Below B w wj/\zAg cdT B wj (.slice aa t.length cap) (zKt (zBH t) t k)/\zAD kI wj w.heap.size n1 (nzF t t.length)/\zAD kI wj wi.heap.size (nfC t k) (zN3 t k)) (fun i _=>t.length - (intOf i).toNat)
   case atStart=>exact⟨_,0,rfl,Nat.zero_le _,rfl,(Ext.trans HEX.out (eA _ _)).mono hB,HV.out.ext okT (Ext.trans HEX.out (eA _ _)),HM1.out.ext (eA _ _),by rw [zPw];exact zBI _ _⟩
   case round=>
    obtain⟨wj,k,rfl,hk,rfl,hbw,ho,hm1,hm3⟩:=hrel
    have HBW:=hQq hbw;have HO:=hQq ho;have HM1:=hQq hm1;have HM3:=hQq hm3
    clear hbw ho hm1 hm3
    by_cases hlt:k < t.length
    case neg=>
     obtain rfl:k=t.length:=by omega
     go_wp2
     try rw [Exit.noGoto_ret]
     go_ret
     exact⟨by rw [HE0.out];rfl,HBW.out,fun _=>by have h:=HO.out;rw [zMO] at h;exact h⟩
    have k1:((k:Nat):Int) < (t.length:Int):=by omega
    have k0:(0:Int)<=(k:Int):=by omega
    have hkm:k < (zKt (zBH t) t k).length:=by rw [zFG];exact hlt
    obtain⟨g,rfl,hg1,hg2,-⟩:=HO.out.addr (by omega)
    obtain⟨b,off,va,hex,hb,hva,c0,c1,c2,c3,c4,c5,c6,c7⟩:=(HO.out.in okT).tr k hkm
    cases hex
    obtain⟨a3,cap3,rfl⟩:=hva.form
    rw [zLA _ hlt,<- zAm t k hlt] at c0 c1 c2 c3 c4 c5 c6 c7
    rw [Nat.zero_add] at c0 c1 c2 c3 c4 c5 c6 c7
    have HLT:=hQq hlt
    generalize hx:zAa t k=x at c0 c1 c2 c3 c4 c5 c6 c7
    have HX:=hQq hx
    clear hva hx
    have p1:=bN wj (.cells #[.int .i64 x.dep,.string x.nm,.int .i64 x.kd,.slice a3 x.ats.length cap3,.string x.dat,.int .i64 x.ma,.int .i64 x.mi,.int .i64 x.cl] 59 (0,0))
    by_cases e0:x.cl=0
    ·have q0:(x.cl == 0)=true:=beq_iff_eq.2 e0
     have HM:Hid (zEV t (zAa t k).cl=false):=hQq (by rw [HX.out,e0];unfold zEV;simp)
     have HK:Hid (zBH t (zAa t k).cl=(zAa t k).cl):=hQq (by rw [zMH HM.out,HX.out,e0])
     clear e0
     go_wp2
     have he:=eA wj (.cells #[.int .i64 x.dep,.string x.nm,.int .i64 x.kd,.slice a3 x.ats.length cap3,.string x.dat,.int .i64 x.ma,.int .i64 x.mi,.int .i64 x.cl] 59 (0,0))
     refine⟨⟨_,k+1,rfl,by omega,by go_num,HBW.out.trans (he.mono (Nat.le_trans hB HBW.out.size)),by rw [zPD HLT.out HK.out];exact HO.out.ext okT he,HM1.out.ext he,by rw [zJg HLT.out (.inl HM.out),zHt (.inl HM.out)];exact HM3.out.ext he⟩,?_⟩
     first | (simp [intOf];done) | (simp [intOf];omega)
    have q0:(x.cl == 0)=false:=nB e0
    have HX0:=hQq e0
    clear e0
    go_upto_region 21 with (fail)
    refine nW (P:=fun W=>Code.wp _ _ _ _ W) _ ?_
    intro W0 hW0
    replace hW0:W0=wj.alloc (.cells #[.int .i64 x.dep,.string x.nm,.int .i64 x.kd,.slice a3 x.ats.length cap3,.string x.dat,.int .i64 x.ma,.int .i64 x.mi,.int .i64 x.cl] 59 (0,0)):=hW0
    have HE1:Hid (Ext wj W0):=hQq (by rw [hW0];exact eA _ _)
    rw [<- hW0] at p1
    have HP1:=hQq p1
    have y7:W0.cell? ⟨wj.heap.size,7,none⟩=some (.int .i64 x.cl):=bC p1 7
    have g3:g < W0.heap.size:=Nat.lt_of_lt_of_le hg2 HE1.out.size
    have fz:∀ j,W0.frozen? ⟨g,j,none⟩=false:=fun j=>(HO.out.ext okT HE1.out).frozen j
    have z7:=(eC HE1.out hg2).trans c7
    have hgm3:g ≠ wi.heap.size:=by rintro rfl;obtain⟨_,_,h2,_⟩:=HM3.out;obtain⟨_,_,_,h3⟩:=HO.out.row rfl _ rfl;rw [h2] at h3;cases h3
    have HGM:=hQq hgm3
    clear hW0 p1 c0 c1 c2 c3 c4 c5 c6 c7 hgm3
    obtain⟨z,hz⟩:∃ z,zAi t x.cl t.length=z:=⟨_,rfl⟩
    have HZ:=hQq hz
    have HZP:Hid (0 < z):=hQq (by have:=zQC HLT.out;rw [HX.out] at this;show 0 < z;omega)
    have HZL:Hid (z<=t.length):=hQq (by rw [<- hz];exact zEJ _ _ _)
    clear hz
    by_cases hz:z=1
    ·have qz:((z:Int) == 1)=true:=by rw [hz];rfl
     have HM:Hid (zEV t (zAa t k).cl=false):=hQq (by rw [HX.out];unfold zEV;rw [HZ.out,hz];simp)
     have HK:Hid (zBH t (zAa t k).cl=0):=hQq (zMH HM.out)
     clear hz
     go_wp2_with (first
      | (at_lookup;refine zCa rfl (.tmp 81) (.tmp 83) 146 false rfl 3 3 zAZ zAB (.int .i64 0) zB2 rfl (HM1.out.ext HE1.out) x.cl rfl ?_;rw [if_neg Bool.false_ne_true,zEU t _ HX0.out,HZ.out])
      | fail)
     obtain⟨u1,u2⟩:=zEX (HO.out.ext okT HE1.out) HLT.out
     rw [HK.out] at u1 u2
     refine⟨⟨_,k+1,rfl,by omega,by go_num,Below.grown (HBW.out.trans (HE1.out.mono (Nat.le_trans hB HBW.out.size))) u2 (Nat.le_trans hB (Nat.le_trans HBW.out.size HE1.out.size)) (fun q e=>by injection e with e;omega),u1,(HM1.out.ext HE1.out).setCell _ _,by rw [zJg HLT.out (.inl HM.out),zHt (.inl HM.out)];exact(HM3.out.ext HE1.out).setCell _ _⟩,?_⟩
     first | (simp [intOf];done) | (simp [intOf];omega)
    have qz:((z:Int) == 1)=false:=nB (by omega)
    have HM:Hid (zEV t (zAa t k).cl=true):=hQq (by
     rw [HX.out];unfold zEV;rw [HZ.out]
     have:=HZP.out
     simp only [Bool.and_eq_true,decide_eq_true_eq]
     exact⟨HX0.out,by omega⟩)
    clear hz
    have HMX:Hid (zEV t x.cl=true):=hQq (by rw [<- HX.out];exact HM.out)
    by_cases hn:zAi t x.cl k=0
    ·have HC:Hid (zAi t (zAa t k).cl k=0):=hQq (by rw [HX.out];exact hn)
     have HL:Hid (zN3 t k x.cl=none):=hQq (if_neg (by omega))
     obtain⟨hn1,hn2⟩:=zUn HLT.out HM.out HC.out
     have HN1:=hQq hn1;have HN2:Hid (zBH t x.cl=(nfC t k:Int)+1):=hQq (by rw [<- HX.out];exact hn2)
     have hle:=zTi t k
     have jw:IntKind.i64.wrap ((nfC t k:Int)+1)=(nfC t k:Int)+1:=IntWalk.i64_in _ (by omega)
     have HFN:Hid (zN3 t (k+1)=upd (zN3 t k) x.cl (.int .i64 ((nfC t k:Int)+1))):=hQq (by rw [zR6 HM.out,hn2,HX.out])
     clear hn hn1 hn2
     have hln:=fun ty=>(HM3.out.ext HE1.out).len zAB ty
     generalize hq:nfC t k=q at *
     have HQ:=hQq hq
     clear hq
     go_wp2_with (first
      | (at_lookup;refine zCa rfl (.tmp 81) (.tmp 83) 146 false rfl 3 3 zAZ zAB (.int .i64 0) zB2 rfl (HM1.out.ext HE1.out) x.cl rfl ?_;rw [if_neg Bool.false_ne_true,zEU t _ HX0.out,HZ.out])
      | (at_lookup;refine zCa rfl (.tmp 57) (.tmp 59) 146 false rfl 3 3 zAZ zAB (.int .i64 0) zB2 rfl (HM3.out.ext HE1.out) x.cl rfl ?_;rw [if_neg Bool.false_ne_true,HL.out,Option.getD_none])
      | (at_mapUpdate;refine zDX rfl (.tmp 62) (.tmp 64) (.tmp 67) 146 rfl _ _ zAZ zAB rfl (by exact HM3.out.ext HE1.out) x.cl (.int .i64 ((q:Int)+1)) rfl rfl ?_;intro W1 hm7 hg7;rw [HL.out] at hm7;have HM7:=hQq hm7;have HG7:=hQq hg7;have HKA7:=hQq (zLE (HM3.out.ext HE1.out) hg7);have HP7:=hQq (HKA7.out.keep _ _ _ _ (.inr (Nat.zero_le _)) HP1.out);have y7:=bC HP7.out 7;simp only [List.getElem?_toArray,List.getElem?_cons_succ,List.getElem?_cons_zero] at y7;have HO7:=hQq (zUj (HO.out.ext okT HE1.out) HKA7.out);have fz:∀ j,W1.frozen? ⟨g,j,none⟩=false:=fun j=>HO7.out.frozen j;have z7:=KcA.cell HKA7.out z7;have g3:=Nat.lt_of_lt_of_le g3 HKA7.out.size;clear hm7 hg7)
      | (at_lookup;refine zCa rfl (.tmp 70) (.tmp 72) 146 false rfl 3 3 zAZ zAB (.int .i64 0) zB2 rfl HM7.out x.cl rfl ?_;rw [if_neg Bool.false_ne_true,upd,if_pos rfl,Option.getD_some])
      | fail)
     obtain⟨u1,u2⟩:=zEX HO7.out HLT.out
     rw [HX.out,HN2.out] at u1 u2
     have hb1:Below B w W1:=Below.grown (HBW.out.trans (HE1.out.mono (Nat.le_trans hB HBW.out.size))) HG7.out (Nat.le_trans hB (Nat.le_trans HBW.out.size HE1.out.size)) (fun q e=>by injection e with e;omega)
     refine⟨⟨_,k+1,rfl,by omega,by go_num,Below.grown hb1 u2 (Nat.le_trans hB hb1.size) (fun q e=>by injection e with e;omega),u1,((HM1.out.ext HE1.out).grown HG7.out (fun e=>by injection e with e;omega)).setCell _ _,by rw [HN1.out,HFN.out];exact HM7.out.setCell _ _⟩,?_⟩
     first | (simp [intOf];done) | (simp [intOf];omega)
    ·have HC:Hid (0 < zAi t (zAa t k).cl k):=hQq (by rw [HX.out];omega)
     have HL:Hid (zN3 t k x.cl=some (.int .i64 (zBH t x.cl))):=hQq (if_pos ⟨HMX.out,by omega⟩)
     have hc:=zUp HMX.out
     clear hn
     obtain⟨c,hcc⟩:∃ c,zBH t x.cl=c:=⟨_,rfl⟩
     rw [hcc] at hc
     have HCC:=hQq hcc
     have qc:(c == 0)=false:=nB (by omega)
     clear hc hcc
     go_wp2_with (first
      | (at_lookup;refine zCa rfl (.tmp 81) (.tmp 83) 146 false rfl 3 3 zAZ zAB (.int .i64 0) zB2 rfl (HM1.out.ext HE1.out) x.cl rfl ?_;rw [if_neg Bool.false_ne_true,zEU t _ HX0.out,HZ.out])
      | (at_lookup;refine zCa rfl (.tmp 57) (.tmp 59) 146 false rfl 3 3 zAZ zAB (.int .i64 0) zB2 rfl (HM3.out.ext HE1.out) x.cl rfl ?_;rw [if_neg Bool.false_ne_true,HL.out,Option.getD_some,HCC.out])
      | (at_lookup;refine zCa rfl (.tmp 70) (.tmp 72) 146 false rfl 3 3 zAZ zAB (.int .i64 0) zB2 rfl (HM3.out.ext HE1.out) x.cl rfl ?_;rw [if_neg Bool.false_ne_true,HL.out,Option.getD_some,HCC.out])
      | fail)
     obtain⟨u1,u2⟩:=zEX (HO.out.ext okT HE1.out) HLT.out
     rw [HX.out,HCC.out] at u1 u2
     refine⟨⟨_,k+1,rfl,by omega,by go_num,Below.grown (HBW.out.trans (HE1.out.mono (Nat.le_trans hB HBW.out.size))) u2 (Nat.le_trans hB (Nat.le_trans HBW.out.size HE1.out.size)) (fun q e=>by injection e with e;omega),u1,(HM1.out.ext HE1.out).setCell _ _,by rw [zJg HLT.out (.inr HC.out),zHt (.inr HC.out)];exact(HM3.out.ext HE1.out).setCell _ _⟩,?_⟩
     first | (simp [intOf];done) | (simp [intOf];omega)
  have k1:((k:Nat):Int) < (t.length:Int):=by omega
  have k0:(0:Int)<=(k:Int):=by omega
  have hcl:=fun c=>zEJ t c k
  obtain⟨b,off,va,hex,hb,hva,c0,c1,c2,c3,c4,c5,c6,c7⟩:=((HV.out.ext okT HS.out.ext).in okT).tr k hlt
  cases hex
  obtain⟨a3,cap3,rfl⟩:=hva.form
  have HLT:=hQq hlt
  have HG:=hQq (zAm t k hlt)
  have HKX:Hid (1<=(zAa t k).kd/\(zAa t k).kd<=5):=hQq (by rw [HG.out];exact HKD.out _ (List.getElem_mem hlt))
  have HAX:Hid ((zAa t k).ats.length<=1000000):=hQq (by rw [HG.out];exact HAL.out _ (List.getElem_mem hlt))
  rw [<- HG.out] at hva c0 c1 c2 c3 c4 c5 c6 c7
  generalize hx:zAa t k=x at hva c0 c1 c2 c3 c4 c5 c6 c7 HKX HAX
  have HX:=hQq hx
  have HVA:=hQq hva.attrs
  clear hva hx HG
  have hc:=hcl x.cl
  clear hcl
  have p1:=bN wi (.cells #[.int .i64 x.dep,.string x.nm,.int .i64 x.kd,.slice a3 x.ats.length cap3,.string x.dat,.int .i64 x.ma,.int .i64 x.mi,.int .i64 x.cl] 59 (0,0))
  by_cases e0:x.cl=0
  ·have q0:(x.cl == 0)=true:=beq_iff_eq.2 e0
   have HE0:Hid ((zAa t k).cl=0):=hQq (by rw [HX.out];exact e0)
   clear e0
   go_wp2
   go_roundw
   case rel=>
    have h:=HS.out.grow (eA wi (.cells #[.int .i64 x.dep,.string x.nm,.int .i64 x.kd,.slice a3 x.ats.length cap3,.string x.dat,.int .i64 x.ma,.int .i64 x.mi,.int .i64 x.cl] 59 (0,0)))
    obtain⟨n',F,h3,h4⟩:=h.first
    exact⟨_,k+1,rfl,by omega,by go_num,h.ext,by rw [zR4 HE0.out];exact h.many,⟨n',F,h3,h4.old (.inl HE0.out)⟩,fun i hi=>by
     by_cases e:i < k
     ·exact h.bad i e
     ·obtain rfl:i=k:=by omega
      unfold zFm;rw [HE0.out];rfl⟩
   case measure=>simp [intOf] <;> omega
  have q0:(x.cl == 0)=false:=nB e0
  have HE0:=hQq e0
  clear e0
  go_upto_region 7 with (fail)
  refine nW (P:=fun W=>Code.wp _ _ _ _ W) _ ?_
  intro W0 hW0
  replace hW0:W0=wi.alloc (.cells #[.int .i64 x.dep,.string x.nm,.int .i64 x.kd,.slice a3 x.ats.length cap3,.string x.dat,.int .i64 x.ma,.int .i64 x.mi,.int .i64 x.cl] 59 (0,0)):=hW0
  have HS0:Hid (zWt w W0 t k):=hQq (by rw [hW0];exact HS.out.grow (eA _ _))
  have HVA0:Hid (aA W0 (.slice a3 x.ats.length cap3) x.ats):=hQq (by rw [hW0];exact HVA.out.ext (eA _ _))
  have HZ0:Hid (w.heap.size+1 < wi.heap.size):=hQq (by obtain⟨_,_,h,_⟩:=HS.out.first;exact h.lt)
  rw [<- hW0] at p1
  have HP0:=hQq p1
  have y7:W0.cell? ⟨wi.heap.size,7,none⟩=some (.int .i64 x.cl):=bC p1 7
  have y0:W0.cell? ⟨wi.heap.size,0,none⟩=some (.int .i64 x.dep):=bC p1 0
  have y1:W0.cell? ⟨wi.heap.size,1,none⟩=some (.string x.nm):=bC p1 1
  have y2:W0.cell? ⟨wi.heap.size,2,none⟩=some (.int .i64 x.kd):=bC p1 2
  have y3:W0.cell? ⟨wi.heap.size,3,none⟩=some (.slice a3 x.ats.length cap3):=bC p1 3
  have y4:W0.cell? ⟨wi.heap.size,4,none⟩=some (.string x.dat):=bC p1 4
  have y5:W0.cell? ⟨wi.heap.size,5,none⟩=some (.int .i64 x.ma):=bC p1 5
  have y6:W0.cell? ⟨wi.heap.size,6,none⟩=some (.int .i64 x.mi):=bC p1 6
  clear hW0 p1 c0 c1 c2 c3 c4 c5 c6 c7 hb
  obtain⟨n1,hM1⟩:=HS0.out.many
  obtain⟨n2,F2,hM2,hF2⟩:=HS0.out.first
  have HM1:=hQq hM1;have HM2:=hQq hM2;have HF2:=hQq hF2
  clear hM1 hM2 hF2
  obtain⟨z,hz⟩:∃ z,zAi t x.cl k=z:=⟨_,rfl⟩
  rw [hz] at hc
  have HZ:=hQq hz
  clear hz
  have w0:(0:Int)<=(z:Int):=by omega
  have w1:(z:Int)<=1000:=by omega
  by_cases hz:z=0
  case' pos=>
   have qz:((z:Int) == 0)=true:=by rw [hz];rfl
   have HZZ:Hid (zAi t (zAa t k).cl k=0):=hQq (by rw [HX.out,HZ.out,hz])
   clear hz
   go_upto_region 9 with (first
    | (at_lookup;refine zCa rfl (.tmp 21) (.tmp 23) 146 false rfl 3 3 zAZ zAB (.int .i64 0) zB2 rfl HM1.out x.cl rfl ?_;rw [if_neg Bool.false_ne_true,zEU t k HE0.out,HZ.out])
    | (at_mapUpdate;refine zDX rfl (.tmp 26) (.tmp 28) (.tmp 29) 145 rfl _ _ zAZ zEY rfl (by exact HM2.out) x.cl (.agg #[.int .i64 x.dep,.string x.nm,.int .i64 x.kd,.slice a3 x.ats.length cap3,.string x.dat,.int .i64 x.ma,.int .i64 x.mi,.int .i64 x.cl]) rfl rfl ?_;intro W1 hm4 hg4;have HM4:=hQq hm4;have HG4:=hQq hg4;clear hm4 hg4)
    | fail)
   have HEW:Hid (Ext w W1):=hQq (Below.grown HS0.out.ext HG4.out HS0.out.ext.size (fun g hg=>by cases hg;omega))
   have HB1:=hQq (zAU HG4.out HP0.out (fun e=>by injection e with e;have:=HZ0.out;omega))
   have HN1:Hid (zAD kI W1 w.heap.size n1 (nzF t k)):=hQq (HM1.out.grown HG4.out (fun e=>by injection e with e;omega))
   have HKA:=hQq (zLE HM2.out HG4.out)
   have HF4:Hid (zCq W1 t (k+1) (upd F2 x.cl (trV x (.slice a3 x.ats.length cap3)))):=hQq (by
    have h:=zCq.new (HF2.out.kc HKA.out) HLT.out HZZ.out (va:=.slice a3 x.ats.length cap3) (by rw [HX.out];exact zGv HVA0.out HKA.out)
    rw [HX.out] at h;exact h)
   have HVA1:Hid (aA W1 (.slice a3 x.ats.length cap3) x.ats):=hQq (zGv HVA0.out HKA.out)
   clear HKA HG4 HM1 HM2 HZZ HF2 qz y0 y1 y2 y3 y4 y5 y6 y7
   revert HM4
   generalize hF4:upd F2 x.cl (trV x (.slice a3 x.ats.length cap3))=F4 at HF4
   intro HM4
   have HM4:Hid (∃ n4,zAD kI W1 (w.heap.size+1) n4 F4):=hQq ⟨_,HM4.out⟩
   clear hF4
  case' neg=>
   have qz:((z:Int) == 0)=false:=nB (by omega)
   have HZZ:Hid (0 < zAi t (zAa t k).cl k):=hQq (by rw [HX.out,HZ.out];omega)
   clear hz
   go_upto_region 9 with (first
    | (at_lookup;refine zCa rfl (.tmp 21) (.tmp 23) 146 false rfl 3 3 zAZ zAB (.int .i64 0) zB2 rfl HM1.out x.cl rfl ?_;rw [if_neg Bool.false_ne_true,zEU t k HE0.out,HZ.out])
    | fail)
   have HEW:Hid (Ext w W0):=hQq HS0.out.ext
   have HB1:=HP0
   have HN1:=HM1
   have HF4:Hid (zCq W0 t (k+1) F2):=hQq (HF2.out.old (.inr HZZ.out))
   have HVA1:=HVA0
   clear HM1 HZZ HF2 qz y0 y1 y2 y3 y4 y5 y6 y7
   have HM4:Hid (∃ n4,zAD kI W0 (w.heap.size+1) n4 F2):=hQq ⟨_,HM2.out⟩
   clear HM2
   generalize W0=W1 at *
   generalize F2=F4 at *
  all_goals
   obtain⟨n4,hm4⟩:=HM4.out
   have HM5:=hQq hm4
   clear hm4 HM4
   obtain⟨vy,hy1,hy2⟩:=HF4.out x.cl HE0.out (by rw [zAi.eq_2,if_pos (by rw [HX.out]),HZ.out];omega)
   have HBN:Hid (zFm t k=((x.kd == 1 || x.kd == 5) || !zA5 (zAa t (zCs t x.cl)) x)):=hQq (by unfold zFm;rw [HX.out,show (x.cl != 0)=true from bne_iff_ne.2 HE0.out,Bool.true_and])
   generalize hy:zAa t (zCs t x.cl)=y at hy1 hy2 HBN
   obtain⟨a5,cap5,rfl,-⟩:=id hy2
   have HY1:=hQq hy1;have HY2:=hQq hy2;have HYE:=hQq hy
   clear hy1 hy2 hy
   have HYL:Hid (y.ats.length<=1000000):=hQq (by
    obtain⟨f1,-,-⟩:=zAS HLT.out
    rw [HX.out,] at f1
    have h2:=zAm t (zCs t x.cl) (by have:=HLT.out;omega)
    rw [HYE.out] at h2
    rw [h2];exact HAL.out _ (List.getElem_mem _))
   have y7:=bC HB1.out 7;have y0:=bC HB1.out 0;have y1:=bC HB1.out 1;have y2:=bC HB1.out 2;have y3:=bC HB1.out 3;have y4:=bC HB1.out 4;have y5:=bC HB1.out 5;have y6:=bC HB1.out 6
   simp only [List.getElem?_toArray,List.getElem?_cons_succ,List.getElem?_cons_zero] at y0 y1 y2 y3 y4 y5 y6 y7
   cases hlb:zPG x.kd
   ·have HR:Hid (zKq t=6):=hQq (zME HLT.out (by
     rw [HBN.out];rw [zPF HKX.out] at hlb
     rw [show (x.kd == 1 || x.kd == 5)=true by cases h:(x.kd == 1 || x.kd == 5) <;> simp_all];rfl))
    have HLB:=hQq hlb
    clear hlb
    go_wp2_with (go_at_call 188;refine(zIS x.kd _).mono ?_;rw [HLB.out];rintro e W5 ⟨rfl,hb5⟩;have HB5:=hQq hb5;clear hb5)
    try rw [Exit.noGoto_ret]
    go_ret
    exact⟨by rw [HR.out];rfl,(Ext.trans HEW.out HB5.out).mono hB,fun h=>absurd (HR.out.symm.trans h) (by decide)⟩
   have HLB:=hQq hlb
   clear hlb
   have HLK:Hid (∀ W,(KcA W1 W)->zAD kI W (w.heap.size+1) n4 F4->(Instr.lookup 145 (.map (some (w.heap.size+1))) (.int .i64 x.cl) false).run Tryz.prog W= .ok (trV y (.slice a5 y.ats.length cap5)) W):=hQq (fun W _ hm=>by
    have:=hm.look zAZ zEY zJ7 x.cl false
    rw [HY1.out] at this;exact this)
   cases hlk:zA5 y x
   ·have HR:Hid (zKq t=6):=hQq (zME HLT.out (by rw [HBN.out,hlk];simp))
    have HLI:=hQq hlk
    clear hlk
    go_wp2_with (first
     | (go_at_call 188;refine(zIS x.kd _).mono ?_;rw [HLB.out];rintro e W5 ⟨rfl,hb5⟩;have HB5:=hQq hb5;have HQ5:=hQq (bX hb5 HB1.out);have hlo:=HLK.out W5 (Kc.of_ext hb5) (HM5.out.ext hb5);unfold trV at hlo;have y0:=bC HQ5.out 0;have y1:=bC HQ5.out 1;have y2:=bC HQ5.out 2;have y3:=bC HQ5.out 3;have y4:=bC HQ5.out 4;have y5:=bC HQ5.out 5;have y6:=bC HQ5.out 6;have y7:=bC HQ5.out 7;simp only [List.getElem?_toArray,List.getElem?_cons_succ,List.getElem?_cons_zero] at y0 y1 y2 y3 y4 y5 y6 y7;clear hb5)
     | (go_at_call 184;refine(zGN y x _ _ _ (HY2.out.ext HB5.out) (HVA1.out.ext HB5.out) HYL.out).mono ?_;rw [HLI.out];rintro e W6 ⟨rfl,hb6⟩;have HB6:=hQq (Ext.trans HB5.out hb6);clear hb6)
     | fail)
    try rw [Exit.noGoto_ret]
    go_ret
    exact⟨by rw [HR.out];rfl,(Ext.trans HEW.out HB6.out).mono hB,fun h=>absurd (HR.out.symm.trans h) (by decide)⟩
   ·have HBF:Hid (zFm t k=false):=hQq (by
     rw [HBN.out,hlk]
     have h:=HLB.out
     rw [zPF HKX.out] at h
     cases h2:(x.kd == 1 || x.kd == 5)
     ·rfl
     ·rw [h2] at h;cases h)
    have HLI:=hQq hlk
    clear hlk
    have jw:IntKind.i64.wrap ((z:Int)+1)=(z:Int)+1:=IntWalk.i64_in _ (by omega)
    go_wp2_with (first
     | (go_at_call 188;refine(zIS x.kd _).mono ?_;rw [HLB.out];rintro e W5 ⟨rfl,hb5⟩;have HB5:=hQq hb5;have HQ5:=hQq (bX hb5 HB1.out);have hlo:=HLK.out W5 (Kc.of_ext hb5) (HM5.out.ext hb5);unfold trV at hlo;have y0:=bC HQ5.out 0;have y1:=bC HQ5.out 1;have y2:=bC HQ5.out 2;have y3:=bC HQ5.out 3;have y4:=bC HQ5.out 4;have y5:=bC HQ5.out 5;have y6:=bC HQ5.out 6;have y7:=bC HQ5.out 7;simp only [List.getElem?_toArray,List.getElem?_cons_succ,List.getElem?_cons_zero] at y0 y1 y2 y3 y4 y5 y6 y7;clear hb5)
     | (go_at_call 184;refine(zGN y x _ _ _ (HY2.out.ext HB5.out) (HVA1.out.ext HB5.out) HYL.out).mono ?_;rw [HLI.out];rintro e W6 ⟨rfl,hb6⟩;have HB6:=hQq (Ext.trans HB5.out hb6);have HQ6:=hQq (bX hb6 HQ5.out);have y7:=bC HQ6.out 7;simp only [List.getElem?_toArray,List.getElem?_cons_succ,List.getElem?_cons_zero] at y7;clear hb6)
     | (at_lookup;refine zCa rfl (.tmp 43) (.tmp 45) 146 false rfl 3 3 zAZ zAB (.int .i64 0) zB2 rfl (HN1.out.ext HB6.out) x.cl rfl ?_;rw [if_neg Bool.false_ne_true,zEU t k HE0.out,HZ.out])
     | (at_mapUpdate;refine zDX rfl (.tmp 43) (.tmp 45) (.tmp 47) 146 rfl _ _ zAZ zAB rfl (by exact HN1.out.ext HB6.out) x.cl (.int .i64 ((z:Int)+1)) rfl rfl ?_;intro W7 hm7 hg7;have HM7:=hQq hm7;have HG7:=hQq hg7;clear hm7 hg7)
     | fail)
    have HE7:Hid (Ext w W7):=hQq (Below.grown (Ext.trans HEW.out HB6.out) HG7.out (Ext.trans HEW.out HB6.out).size (fun g hg=>by cases hg;exact Nat.le_refl _))
    have HKA7:=hQq (zLE (HN1.out.ext HB6.out) HG7.out)
    go_roundw
    case rel=>exact⟨_,k+1,rfl,by omega,by go_num,HE7.out,⟨_,by rw [zR3 (by rw [HX.out];exact HE0.out),HX.out,HZ.out];exact HM7.out⟩,⟨n4,F4,(HM5.out.ext HB6.out).grown HG7.out (fun e=>by injection e with e;omega),(HF4.out.ext HB6.out).kc HKA7.out⟩,fun i hi=>by
     by_cases e:i < k
     ·exact HS.out.bad i e
     ·obtain rfl:i=k:=by omega
      exact HBF.out⟩
    case measure=>simp [intOf] <;> omega
theorem zDD (B:Nat) (w:World) (v:Value) (t:List TrN) (ht:zCt B w v t) (hB:B<=w.heap.size) (hsm:zAP t) :
  Calls Tryz.prog 87 #[v] w (zVc w (zBh t)):=by
 obtain⟨aa,cap,rfl⟩:=ht.form
 have HV:=hQq ht;have HSM:=hQq hsm
 clear ht hsm
 by_cases hl:120 < t.length
 ·have HR:=hQq (zFX hl)
  have q1:decide ((120:Int) < (t.length:Int))=true:=decide_eq_true (by omega)
  go_enter Tryz.func87,Tryz.ntmps87
  go_wp2
  go_ret2
  exact zJM HR.out (bR _ _)
 have HL:=hQq hl
 have hl2:t.length<=120:=by omega
 have q1:decide ((120:Int) < (t.length:Int))=false:=decide_eq_false (by omega)
 clear hl
 go_enter Tryz.func87,Tryz.ntmps87
 go_wp2_with (go_at_call 151;refine(zMn B _ t w HV.out hB (by omega)).mono ?_;rintro e w1 ⟨⟨a6,cap6,rfl,ho,hf⟩,hb1⟩;have HO:=hQq ho;have HF:=hQq hf;have HB1:=hQq hb1;clear ho hf hb1)
 go_loopw [17] (fun i w'=>∃ (wi:World) (k:Nat),wi=w'/\k<=t.length/\i= .int .i64 k/\zAg cdT B wi (.slice a6 t.length cap6) (zKt (fun _=>0) t k)/\Ext w wi) (fun i _=>t.length - (intOf i).toNat)
 case atStart=>exact⟨_,0,rfl,Nat.zero_le _,rfl,HO.out,HB1.out⟩
 case round=>
  clear HO HB1
  obtain⟨wi,k,rfl,hk,rfl,ho,hE⟩:=hrel
  have HO:=hQq ho;have HE:=hQq hE
  clear hE
  by_cases hlt:k < t.length
  case neg=>
   obtain rfl:k=t.length:=by omega
   clear ho
   have HP:Hid (zCt B wi (.slice a6 t.length cap6) (t.map (clM fun _=>0))):=hQq (by have h:=HO.out.in okT;rw [zMO] at h;exact h)
   clear HO
   have HSP:Hid (zAP (t.map (clM fun _=>0))):=hQq (zOY HSM.out)
   have HTL:Hid ((t.map (clM fun _=>0)).length=t.length):=hQq (List.length_map ..)
   have HC:Hid (∀ W,Ext wi W->zAt Tryz.prog 63 #[.slice a6 t.length cap6] W (.tuple #[.int .i64 (zFp (t.map (clM fun _=>0))),.int .i64 (zAs (t.map (clM fun _=>0)))])):=hQq (fun W he=>zDa B _ _ _ (HP.out.ext okT he) HSP.out)
   by_cases h2:zAs (t.map (clM fun _=>0))=0
   case neg=>
    have HR:=hQq (zG8 HL.out h2)
    have q2:(zAs (t.map (clM fun _=>0)) != 0)=true:=bne_iff_ne.2 h2
    clear h2
    generalize zAs (t.map (clM fun _=>0))=ee at *
    go_wp2_with (go_at_call 63;refine(HC.out wi (bR _ _)).mono ?_;rintro e w5 ⟨rfl,hb5⟩;have HB5:Hid (Ext w w5):=hQq (HE.out.trans hb5);clear hb5)
    go_ret2
    exact zJM HR.out HB5.out
   have q2:(zAs (t.map (clM fun _=>0)) != 0)=false:=bne_eq_false_iff_eq.2 h2
   have HZ:Hid (¬ zAs (t.map (clM fun _=>0)) ≠ 0):=hQq (by rw [h2];omega)
   have HKD:Hid (∀ x ∈ t,1<=x.kd/\x.kd<=5):=hQq (fun x hx=>by
    obtain⟨i,hi,rfl⟩:=List.getElem_of_mem hx
    have h3:=(zAf h2).2.2.1 i (by rw [List.length_map];exact hi)
    obtain⟨_,_,h5,_⟩:=zAd h3
    rw [zAm _ i (by rw [List.length_map];exact hi),List.getElem_map] at h5
    exact zPL (x:=t[i]) h5)
   have HAL:Hid (∀ x ∈ t,x.ats.length<=1000):=hQq (fun x hx=>by
    obtain⟨i,hi,rfl⟩:=List.getElem_of_mem hx
    have h3:=(zAf h2).2.2.1 i (by rw [List.length_map];exact hi)
    obtain⟨_,_,_,h5,_⟩:=zAd h3
    rw [zAm _ i (by rw [List.length_map];exact hi),List.getElem_map] at h5
    exact zSO (l:=t[i].ats) h5)
   clear h2
   have q3:((0:Int) != 0)=false:=rfl
   cases h3:(zKq t != 0)
   all_goals
    have H3:=hQq h3
    go_wp2_with (first
     | (go_at_call 63;refine(HC.out wi (bR _ _)).mono ?_;rintro e w5 ⟨rfl,hb5⟩;have HB5:Hid (Ext w w5):=hQq (HE.out.trans hb5);clear hb5)
     | (go_at_call 152;refine(zOP B _ _ t (HV.out.ext okT HB5.out) (Nat.le_trans hB HB5.out.size) (by omega) HAL.out).mono ?_;rintro e w6 ⟨⟨a7,cap7,rfl,ho6⟩,hb6⟩;have HO6:=hQq ho6;have HB6:Hid (Ext w w6):=hQq (HB5.out.trans hb6);have HS6:=hQq (HB5.out.size);have HS7:=hQq hb6.size;clear ho6 hb6)
     | (go_at_call 153;refine(zNQ w5.heap.size _ _ t HO6.out HS7.out (by omega) HKD.out (fun x hx=>Nat.le_trans (HAL.out x hx) (by omega))).mono ?_;rintro e w7 ⟨rfl,hb7,hok⟩;have HB75:Hid (w5.heap.size<=w7.heap.size):=hQq (Nat.le_trans HS7.out hb7.size);have HB7:Hid (Below w.heap.size w w7):=hQq (Below.trans HB6.out (hb7.mono HS6.out));have HOK:=hQq hok;clear hb7 hok)
     | fail)
    go_ret2
   ·have hz:zKq t=0:=by simpa using H3.out
    refine⟨⟨a7,cap7,w5.heap.size,?_,HS6.out,HB75.out,?_⟩,HB7.out⟩
    ·rw [zJK HL.out HZ.out hz];rw [show (zCV t).length=t.length from List.length_map ..];rfl
    ·rw [zJK HL.out HZ.out hz];rw [show (zCV t).length=t.length from List.length_map ..];exact HOK.out hz
   ·have hz:zKq t ≠ 0:=by simpa using H3.out
    obtain⟨r1,r2⟩:=zJL HL.out HZ.out hz
    rw [r2]
    exact zJM r1 HB7.out
  have k1:((k:Nat):Int) < (t.length:Int):=by omega
  have k0:(0:Int)<=(k:Int):=by omega
  obtain⟨g,rfl,hg1,hg2,-⟩:=ho.addr (by rw [zFG];omega)
  have f5:∀ j,wi.frozen? ⟨g,j,none⟩=false:=fun j=>ho.frozen j
  obtain⟨b,off,va,hex,hbx,hva,c0,c1,c2,c3,c4,c5,c6,c7⟩:=(ho.in okT).tr k (by rw [zFG];exact hlt)
  cases hex
  rw [Nat.zero_add] at c7
  have HLT:=hQq hlt
  clear c0 c1 c2 c3 c4 c5 c6 hva ho
  go_wp2
  obtain⟨u1,u2⟩:=zEX HO.out HLT.out
  go_roundw
  case rel=>exact⟨_,k+1,rfl,by omega,by go_num,u1,Below.grown HE.out u2 HE.out.size (fun q e=>by injection e with e;subst e;exact HF.out _ rfl)⟩
  case measure=>simp [intOf] <;> omega
theorem zT4 (w:World) (n:Nat) (hn:n<=1000000) :
  Calls Tryz.prog 207 #[.slice none 0 0,.int .i64 n] w (fun e w'=>∃ a cap,e= .returned (.slice a 0 cap)/\zAg cdT w.heap.size w' (.slice a 0 cap) []/\Ext w w'):=by
 have h1:¬ ((n:Int) < 0):=by omega
 have h2:IntKind.i64.wrap ((n:Int) - 0)=(n:Int):=by rw [IntKind.wrap_i64];omega
 have h2':IntKind.i64.wrap (n:Int)=(n:Int):=by rw [IntKind.wrap_i64];omega
 by_cases h0:n=0
 ·subst h0
  go_enter Tryz.func207,Tryz.ntmps207
  go_wp2
  go_ret
  exact⟨_,_,rfl,zAg.nil _ _ _,bR _ _⟩
 have h3:(0:Int) < (n:Int):=by omega
 obtain⟨i0,hi0,hz0,hzs',hzb'⟩:=okT.sl.info
 have hzs:i0.size=8:=hzs'
 have hzb:i0.bytes=96:=hzb'
 clear hzs' hzb'
 have hold:(Builtin.firstCells i0.size 0 (.slice none 0 0)).run Tryz.prog w.drew= .ok ([]:List Value).toArray w.drew:=run_firstCells_none w.drew i0.size 0 0 0
 have hrz:∀ ty,(Builtin.append_ #[33,3] ty #[.slice none 0 0,.int .i64 (n:Int)]).run Tryz.prog w =
   .ok (.slice (some ⟨w.heap.size,0,none⟩) n (grownCap w n 0 59)) (w.drew.alloc (.cells (([]:List Value).toArray ++ Builtin.zeroCells cdT.z.cells n ++ Builtin.zeroCells cdT.z.cells (grownCap w n 0 59 - n)) 59)):=fun ty=>by
  have h:=Lib.run_append_grow_zeros w 33 3 ty 59 i0 _ .i64 .i64 Tryz.underlying33 Tryz.underlying3 hi0 hz0 none 0 0 [] hold n (by omega) (by rw [hzs];omega) (by omega) (by omega) (by rw [hzb];omega) (by rw [hzb,Nat.zero_add];exact growslice_fits (by omega) (by omega))
  rw [Nat.zero_add] at h
  exact h
 obtain⟨G,hG⟩:∃ G,G=grownCap w n 0 59:=⟨_,rfl⟩
 obtain⟨ROW,hROW⟩:∃ ROW:Array Value,ROW=([]:List Value).toArray ++ Builtin.zeroCells cdT.z.cells n ++ Builtin.zeroCells cdT.z.cells (G - n):=⟨_,rfl⟩
 rw [<- hG] at hrz
 rw [<- hROW] at hrz
 have hGn:n<=G:=by rw [hG];exact grownCap_ge w _ _ _
 have hGm:G<=maxLen:=by rw [hG];exact grownCap_le_maxLen w n 0 59 (by unfold maxLen;omega)
 have hG63:G<=9223372036854775807:=by unfold maxLen at hGm;omega
 have hRl:ROW.size=G * 8:=by
  rw [hROW]
  simp [Builtin.zeroCells,Value.cells,cdT]
  omega
 have HOK:Hid (zAg cdT w.heap.size (w.drew.alloc (.cells ROW 59)) (.slice (some ⟨w.heap.size,0,none⟩) 0 G) []):=hQq (by
  refine⟨[],rfl,fun k hk=>absurd hk (by simp),?_,.inr ⟨w.heap.size,G,ROW,rfl,Nat.le_refl _,bN w.drew _,Nat.zero_le _,hGm,hRl,by simp⟩⟩
  simp)
 clear hROW hG hold hRl
 go_enter Tryz.func207,Tryz.ntmps207
 go_wp2_with (at_builtin;refine Lib.wpList_append_run _ rfl _ _ _ _ rfl _ _ rfl rfl _ _ (hrz _) ?_)
 go_ret
 exact⟨_,_,rfl,HOK.out,(bR _ _).drew.alloc (Nat.le_refl _) _⟩
theorem zKg (B:Nat) (w:World) (g:Nat) (v1 v2:Value) (l1 l2:List TrN) (hg:w.heap[g]? = some (.cells #[v1,v2] 33 (0,0))) (h1:zCt B w v1 l1) (h2:zCt B w v2 l2) (hB:B<=w.heap.size) (hl1:l1.length<=1000) (hl2:l2.length<=1000) :
  Calls Tryz.prog 175 #[.slice (some ⟨g,0,none⟩) 2 2] w (fun e w'=>∃ a cap,e= .returned (.slice a (l1 ++ l2).length cap)/\zAg cdT w.heap.size w' (.slice a (l1 ++ l2).length cap) (l1 ++ l2)/\Ext w w'):=by
 obtain⟨a1,c1,rfl⟩:=h1.form
 obtain⟨a2,c2,rfl⟩:=h2.form
 have HG:=hQq hg;have H1:=hQq h1;have H2:=hQq h2
 have p0:w.cell? ⟨g,0,none⟩=some (.slice a1 l1.length c1):=bC hg 0
 have p1:w.cell? ⟨g,1,none⟩=some (.slice a2 l2.length c2):=bC hg 1
 have z0:=bL hg
 clear hg h1 h2
 go_enter Tryz.func175,Tryz.ntmps175
 go_wp2
 go_loopw [3,11] (fun q i w'=>∃ (wi:World) (k:Nat),wi=w'/\k<=2/\i= .int .i64 k/\q= .int .i64 ((ccL l1 l2 k).length:Nat)/\Ext w wi) (fun _ i _=>2 - (intOf i).toNat)
 case atStart=>exact⟨_,0,rfl,by omega,rfl,rfl,bR _ _⟩
 case round=>
  clear p0 p1 z0
  obtain⟨wi,k,rfl,hk,rfl,rfl,hE⟩:=hrel
  have HE:=hQq hE
  have r:=bX hE HG.out
  have p0:=bC r 0;have p1:=bC r 1;have z0:=bL r
  clear hE r
  rcases(show k=0\/k=1\/k=2 by omega) with rfl | rfl | rfl
  ·have HC:Hid ((ccL l1 l2 1).length=l1.length):=hQq rfl
   have hC0:(ccL l1 l2 0).length=0:=rfl
   go_wp2
   go_roundw
   case rel=>exact⟨_,1,rfl,by omega,rfl,by first | (rw [HC.out];done) | (rw [HC.out];go_num) | (rw [HC.out];rfl),HE.out⟩
   case measure=>simp [intOf] <;> omega
  ·have HC:Hid ((ccL l1 l2 2).length=l1.length+l2.length):=hQq (List.length_append ..)
   have hC0:(ccL l1 l2 1).length=l1.length:=rfl
   go_wp2
   go_roundw
   case rel=>exact⟨_,2,rfl,by omega,rfl,by first | (rw [HC.out];done) | (rw [HC.out];go_num) | (rw [HC.out];rfl),HE.out⟩
   case measure=>simp [intOf] <;> omega
  ·have hC0:(ccL l1 l2 2).length=l1.length+l2.length:=List.length_append ..
   rw [hC0]
   clear hC0
   have HGR:=hQq (zT4 wi (l1.length+l2.length) (by omega))
   go_wp2_with (go_at_call 207;refine HGR.out.mono ?_;rintro e w2 ⟨ag,cg,rfl,ho,hb2⟩;have HO:=hQq ho;have HB2:=hQq (HE.out.trans hb2);have HBS:=hQq hb2.size;clear ho hb2 p0 p1 z0)
   have HO2:Hid (zAg cdT w.heap.size w2 (.slice ag 0 cg) (ccL l1 l2 0)):=hQq (zAg.le (l:=[]) (B':=w.heap.size) HO.out okT (fun i h=>absurd h (by simp)) HE.out.size)
   clear HO
   go_loopw [6,27] (fun q i w'=>∃ (wj:World) (k:Nat),wj=w'/\k<=2/\i= .int .i64 k/\zAg cdT w.heap.size wj q (ccL l1 l2 k)/\Ext w wj) (fun _ i _=>2 - (intOf i).toNat)
   case atStart=>exact⟨_,0,rfl,by omega,rfl,HO2.out,HB2.out⟩
   case round=>
    clear HO2 HB2 HBS HGR HE
    obtain⟨wj,k,rfl,hk,rfl,ho,hE⟩:=hrel
    have HE:=hQq hE;have HO:=hQq ho
    have r:=bX hE HG.out
    have p0:=bC r 0;have p1:=bC r 1;have z0:=bL r
    obtain⟨a9,c9,rfl⟩:=ho.form
    clear hE r ho
    rcases(show k=0\/k=1\/k=2 by omega) with rfl | rfl | rfl
    ·rw [show (ccL l1 l2 0).length=0 from rfl] at HO ⊢
     go_wp2_with (at_builtin;refine zJU okT rfl (.tmp 31) (.tmp 32) rfl _ _ [] l1 w _ rfl rfl HO.out ((H1.out.ext okT HE.out).mono okT hB) HE.out HE.out.size (by simp;omega) ?_;intro v3 w3 ha;have HA:=hQq ha;clear ha)
     go_roundw
     case rel=>exact⟨_,1,rfl,by omega,rfl,HA.out.own,HA.out.below⟩
     case measure=>simp [intOf] <;> omega
    ·rw [show (ccL l1 l2 1).length=l1.length from rfl] at HO ⊢
     go_wp2_with (at_builtin;refine zJU okT rfl (.tmp 31) (.tmp 32) rfl _ _ l1 l2 w _ rfl rfl HO.out ((H2.out.ext okT HE.out).mono okT hB) HE.out HE.out.size (by omega) ?_;intro v3 w3 ha;have HA:=hQq ha;clear ha)
     go_roundw
     case rel=>exact⟨_,2,rfl,by omega,rfl,HA.out.own,HA.out.below⟩
     case measure=>simp [intOf] <;> omega
    ·rw [show (ccL l1 l2 2).length=(l1 ++ l2).length from rfl] at HO ⊢
     go_wp2
     go_ret
     exact⟨_,_,rfl,HO.out,HE.out⟩
theorem zTV (B:Nat) (w:World) (v vp:Value) (t:List TrN) (p:List ByteArray) (i:Nat) (hb:zCt B w v t) (hp:zCu B w vp p) (hB:B<=w.heap.size) (hsm:zAP t) (h0:zAs t=0) (hpe:zAY p=0) (hlen:t.length<=1000) (hf:zP9 t p=((i:Int),0)) (hi0:0 < i) (hi:i < t.length) :
  Calls Tryz.prog 130 #[v,vp] w (zVc w (zBh (zAL t i))):=by
 obtain⟨aa,cap,rfl⟩:=hb.form
 obtain⟨ap,capp,rfl⟩:=hp.form
 have HV:=hQq hb;have HP:=hQq hp;have HSM:=hQq hsm;have H0:=hQq h0;have HPE:=hQq hpe;have HF:=hQq hf
 have HI:=hQq hi
 clear hb hp hsm h0 hpe hf
 have q1:((i:Int) == 0)=false:=nB (by omega)
 have hw1:IntKind.i64.wrap ((i:Int)+1)=((i+1:Nat):Int):=by rw [IntKind.wrap_i64];omega
 go_enter Tryz.func130,Tryz.ntmps130
 go_wp2_with (go_at_call 129;refine(zKb B _ _ _ t p HV.out HP.out HSM.out H0.out HPE.out hlen).mono ?_;rw [HF.out];rintro e w1 ⟨rfl,hb1⟩;have HB1:=hQq hb1;clear hb1)
 go_loopw [8] (fun q w'=>∃ (wi:World) (k:Nat),wi=w'/\k<=zJO t i/\q= .int .i64 ((i+1+k:Nat))/\Ext w wi) (fun q _=>t.length - (intOf q).toNat)
 case atStart=>exact⟨_,0,rfl,Nat.zero_le _,rfl,HB1.out⟩
 case round=>
  clear HB1
  obtain⟨wi,k,rfl,hk,rfl,hE⟩:=hrel
  have HB9:=hQq hE
  clear hE
  have hbe:=zJN t i hi
  obtain⟨bb,off,va,hex,hbx,-,c0,-⟩:=(HV.out.ext okT HB9.out).tr i hi
  cases hex
  rw [<- zAm t i hi] at c0
  have hcap:t.length<=cap:=by obtain⟨_,_,e,h,_⟩:=HV.out;cases e;exact h
  have k1:((i:Nat):Int) < (t.length:Int):=by omega
  have k0:(0:Int)<=(i:Int):=by omega
  by_cases hlt:k < zJO t i
  ·obtain⟨hb2,hd⟩:=zQV hlt
   obtain⟨_,_,_,e2,_,-,d0,-⟩:=(HV.out.ext okT HB9.out).tr (i+1+k) hb2
   cases e2
   generalize (t[i+1+k]'hb2).dep=dp at d0 hd
   obtain⟨e,he⟩:∃ e,e=i+1+k:=⟨_,rfl⟩
   have HEQ:=hQq he
   rw [<- he] at d0 hb2 ⊢
   clear he
   have k2:((e:Nat):Int) < (t.length:Int):=by omega
   have k3:(0:Int)<=(e:Int):=by omega
   have q5:decide ((zAa t i).dep < dp)=true:=decide_eq_true hd
   go_wp2
   go_quiet (fail)
   go_wp2
   go_roundw
   case rel=>exact⟨_,k+1,rfl,hlt,by have:=HEQ.out;subst this;go_num,by first | exact HB9.out | exact HB9.out.trans (eD _) | exact HB9.out.trans (eDn _ _)⟩
   case measure=>simp [intOf] <;> omega
  ·obtain rfl:k=zJO t i:=by omega
   obtain⟨e,he⟩:∃ e,e=i+1+zJO t i:=⟨_,rfl⟩
   have hce:=zTu t i
   have hno:=@zTA t i
   rw [<- he] at hce hbe ⊢
   have HCE:=hQq hce
   have hno2:∀ h:e < t.length,¬ (zAa t i).dep < (t[e]'h).dep:=by subst he;exact hno
   clear hce hno hlt hk he
   have k3:(0:Int)<=(e:Int):=by omega
   rcases Nat.lt_or_ge e t.length with hb2 | hb2
   ·obtain⟨_,_,_,e2,_,-,d0,-⟩:=(HV.out.ext okT HB9.out).tr e hb2
    cases e2
    have hd:=hno2 hb2
    generalize (t[e]'hb2).dep=dp at d0 hd
    have k2:((e:Nat):Int) < (t.length:Int):=by omega
    have q5:decide ((zAa t i).dep < dp)=false:=decide_eq_false hd
    clear hno2 hd
    go_wp2
    go_quiet (fail)
    go_wp2
    refine nW (P:=fun W=>Code.wp _ _ _ _ W) _ ?_
    intro W9 hW9
    have HB10:Hid (Ext wi W9):=hQq (by rw [hW9];first | exact bR _ _ | exact eD _ | exact eDn _ _)
    replace HB9:=hQq (Ext.trans HB9.out HB10.out)
    have hi2:(i:Int)<=(cap:Int):=by omega
    clear hW9 c0
    obtain⟨a5,ha5⟩:∃ a5:Option Addr,a5=(if cap=e then some ⟨bb,off,none⟩ else some ⟨bb,off+e * 8,none⟩):=⟨_,rfl⟩
    have HCC:Hid (∀ V,Ext W9 V->∀ gr,V.heap[gr]? = some (.cells #[.slice (some ⟨bb,off,none⟩) i cap,.slice a5 (t.length - e) (cap - e)] 33 (0,0))->Calls Tryz.prog 175 #[.slice (some ⟨gr,0,none⟩) 2 2] V (fun e w'=>∃ a cap,e= .returned (.slice a (zAL t i).length cap)/\zAg cdT V.heap.size w' (.slice a (zAL t i).length cap) (zAL t i)/\Ext V w')):=hQq (fun V hV gr hg=>by
     have hx:=HV.out.ext okT (Ext.trans HB9.out hV)
     have h1:=zDN hx 0 i (by omega) cap (by omega) off (by simp)
     have h2:=zDN hx e (t.length - e) (by omega) (cap - e) (by omega) (off+e * 8) rfl
     rw [List.drop_zero] at h1
     rw [List.take_of_length_le (by rw [List.length_drop];exact Nat.le_refl _)] at h2
     have h3:zCt B V (.slice a5 (t.length - e) (cap - e)) (t.drop e):=by
      rw [ha5]
      by_cases hc:cap=e
      ·rw [if_pos hc]
       have h0:t.length - e=0:=by omega
       have hd:t.drop e= []:=List.drop_eq_nil_of_le (by omega)
       rw [h0,hd]
       exact⟨_,_,rfl,Nat.zero_le _,fun h=>absurd h (Nat.lt_irrefl _),fun k hk=>absurd hk (by simp)⟩
      ·rw [if_neg hc];exact h2
     have h4:=zKg B V gr _ _ (t.take i) (t.drop e) hg h1 h3 (Nat.le_trans hB (Ext.trans HB9.out hV).size) (by rw [List.length_take];omega) (by rw [List.length_drop];omega)
     rw [<- HCE.out] at h4
     exact h4)
    have HCN:Hid (∀ V,Ext W9 V->∀ v B2,B2<=V.heap.size->zCt B2 V v (zAL t i)->Calls Tryz.prog 87 #[v] V (zVc V (zBh (zAL t i)))):=hQq (fun V hV v B2 h1 h2=>zDD B2 V v _ h2 h1 (fun x hx=>HSM.out x (by
     rw [HCE.out] at hx
     rcases List.mem_append.1 hx with h | h
     ·exact List.mem_of_mem_take h
     ·exact List.mem_of_mem_drop h)))
    have hfa5:(if cap=e then some ({block:=bb,off:=off,spot:=none}:Addr) else some {block:=bb,off:=off+e * 8,spot:=none})=a5:=ha5.symm
    clear ha5
    refine zFn Ext (fun _ _=>True) (zWO (.slice (some ⟨bb,off,none⟩) t.length cap) (.slice (some ⟨bb,off,none⟩) i cap) (.slice a5 (t.length - e) (cap - e)) i e w.heap.size (zAL t i) (zBh (zAL t i)).1 (zBh (zAL t i)).2) 0 rfl (by kernel_rfl) (by kernel_rfl) (by kernel_rfl) (eD _) trivial (fun _ _ _=>Ext.trans) zKI ?_ ?_
    ·intro i1 o a wx z ho hR hG hz hk hp
     have EX:=hR
     clear hG hz
     have n0:=zAe (show a.eval (.tmp 0)= .slice (some ⟨bb,off,none⟩) t.length cap from hk 0 (of_decide_eq_true (by kernel_rfl)))
     have n6:=zAe (show a.eval (.tmp 6)= .int .i64 i from hk 6 (of_decide_eq_true (by kernel_rfl)))
     have n8:=zAe (show a.eval (.tmp 8)= .int .i64 e from hk 8 (of_decide_eq_true (by kernel_rfl)))
     clear hk
     match i1,ho,hp with
     | 0,ho,hp=>
      obtain rfl:=oI ho
      clear ho hp
      unfold Oper.wp;go_simp
      exact⟨_,rfl,rfl,bR _ _⟩
     | 1,ho,hp=>
      obtain rfl:=oI ho
      clear ho hp
      unfold Oper.wp;go_simp
      exact⟨_,rfl,rfl,bR _ _⟩
     | 2,ho,hp=>
      obtain rfl:=oI ho
      have p43:=zAe (show a.eval (.tmp 43)= .slice (some ⟨bb,off,none⟩) t.length cap from hp 0 _ 43 (by kernel_rfl) rfl rfl)
      have p44:=zAe (show a.eval (.tmp 44)= .int .i64 i from hp 1 _ 44 (by kernel_rfl) rfl rfl)
      clear ho hp
      unfold Oper.wp;go_simp
      exact⟨_,rfl,rfl,bR _ _⟩
     | 3,ho,hp=>
      obtain rfl:=oI ho
      clear ho hp
      unfold Oper.wp;go_simp
      exact⟨_,rfl,rfl,bR _ _⟩
     | 4,ho,hp=>
      obtain rfl:=oI ho
      clear ho hp
      unfold Oper.wp;go_simp
      exact⟨_,rfl,rfl,bR _ _⟩
     | 5,ho,hp=>
      obtain rfl:=oI ho
      have p46:=zAe (show a.eval (.tmp 46)= .slice (some ⟨bb,off,none⟩) t.length cap from hp 3 _ 46 (by kernel_rfl) rfl rfl)
      have p47:=zAe (show a.eval (.tmp 47)= .int .i64 e from hp 4 _ 47 (by kernel_rfl) rfl rfl)
      clear ho hp
      unfold Oper.wp;go_simp
      exact⟨_,rfl,rfl,bR _ _⟩
     | 6,ho,hp=>
      obtain rfl:=oI ho
      have p45:=zAe (show a.eval (.tmp 45)= .slice (some ⟨bb,off,none⟩) i cap from hp 2 _ 45 (by kernel_rfl) rfl rfl)
      have p48:=zAe (show a.eval (.tmp 48)= .slice a5 (t.length - e) (cap - e) from hp 5 _ 48 (by kernel_rfl) rfl rfl)
      clear ho hp
      unfold Oper.wp;go_simp
      exact⟨_,rfl,⟨_,rfl,bN _ _⟩,eA _ _⟩
     | 7,ho,hp=>
      obtain rfl:=oI ho
      obtain⟨gr,e49,f49⟩:∃ gr,a.eval (.tmp 49)= .slice (some ⟨gr,0,none⟩) 2 2/\wx.heap[gr]? = some (.cells #[.slice (some ⟨bb,off,none⟩) i cap,.slice a5 (t.length - e) (cap - e)] 33 (0,0)):=hp 6 _ 49 (by kernel_rfl) rfl rfl
      have p49:=zAe e49
      clear e49
      have hcc:=HCC.out wx EX gr f49
      clear ho hp
      unfold Oper.wp;go_simp
      refine hcc.mono ?_
      rintro e w5 ⟨a9,c9,rfl,h9,hb5⟩
      exact⟨_,rfl,⟨a9,c9,_,rfl,hb5.size,h9.in okT⟩,hb5⟩
     | 8,ho,hp=>
      obtain rfl:=oI ho
      obtain⟨ar,cr,Br,e50,f50⟩:∃ ar cr Br,a.eval (.tmp 50)= .slice ar (zAL t i).length cr/\Br<=wx.heap.size/\zCt Br wx (.slice ar (zAL t i).length cr) (zAL t i):=hp 7 _ 50 (by kernel_rfl) rfl rfl
      have p50:=zAe e50
      clear e50
      have hcc:=HCN.out wx EX _ _ f50.1 f50.2
      clear ho hp
      unfold Oper.wp;go_simp
      refine hcc.mono ?_
      rintro e w5 ⟨⟨a9,c9,B9,rfl,h1,h2,h9⟩,hb5⟩
      exact⟨_,rfl,⟨a9,c9,B9,rfl,Nat.le_trans (Ext.trans HB9.out EX).size h1,h2,h9⟩,hb5⟩
     | 9,ho,hp=>
      obtain rfl:=oI ho
      obtain⟨ar,cr,Br,e51,f51⟩:∃ ar cr Br,a.eval (.tmp 51)= .tuple #[.slice ar (zBh (zAL t i)).1.length cr,.int .i64 (zBh (zAL t i)).2]/\w.heap.size<=Br/\Br<=wx.heap.size/\zAg cdT Br wx (.slice ar (zBh (zAL t i)).1.length cr) (zBh (zAL t i)).1:=hp 8 _ 51 (by kernel_rfl) rfl rfl
      have p51:=zAe e51
      clear e51
      clear ho hp
      unfold Oper.wp;go_simp
      exact⟨_,rfl,⟨_,_,_,rfl,f51⟩,bR _ _⟩
     | 10,ho,hp=>
      obtain rfl:=oI ho
      obtain⟨ar,cr,Br,e51,f51⟩:∃ ar cr Br,a.eval (.tmp 51)= .tuple #[.slice ar (zBh (zAL t i)).1.length cr,.int .i64 (zBh (zAL t i)).2]/\w.heap.size<=Br/\Br<=wx.heap.size/\zAg cdT Br wx (.slice ar (zBh (zAL t i)).1.length cr) (zBh (zAL t i)).1:=hp 8 _ 51 (by kernel_rfl) rfl rfl
      have p51:=zAe e51
      clear e51
      clear ho hp
      unfold Oper.wp;go_simp
      exact⟨_,rfl,rfl,bR _ _⟩
     | 11,ho,hp=>
      obtain rfl:=oI ho
      obtain⟨ar,cr,Br,e52,f52⟩:∃ ar cr Br,a.eval (.tmp 52)= .slice ar (zBh (zAL t i)).1.length cr/\w.heap.size<=Br/\Br<=wx.heap.size/\zAg cdT Br wx (.slice ar (zBh (zAL t i)).1.length cr) (zBh (zAL t i)).1:=hp 9 _ 52 (by kernel_rfl) rfl rfl
      have p52:=zAe e52
      clear e52
      clear ho hp
      unfold Oper.wp;go_simp
      exact⟨_,rfl,⟨_,_,_,rfl,f52⟩,bR _ _⟩
     | 12,ho,hp=>
      obtain rfl:=oI ho
      have p53:=zAe (show a.eval (.tmp 53)= .int .i64 (zBh (zAL t i)).2 from hp 10 _ 53 (by kernel_rfl) rfl rfl)
      clear ho hp
      unfold Oper.wp;go_simp
      exact⟨_,rfl,rfl,bR _ _⟩
     | i1+13,ho,_=>exact absurd (Array.getElem?_eq_some_iff.1 ho).1 (by simp)
    ·intro vs wx hR hG hf
     generalize hA:zAI _ _ _=A1
     obtain⟨ar,cr,Br,p4,f4⟩:∃ ar cr Br,vs 4= .slice ar (zBh (zAL t i)).1.length cr/\w.heap.size<=Br/\Br<=wx.heap.size/\zAg cdT Br wx (.slice ar (zBh (zAL t i)).1.length cr) (zBh (zAL t i)).1:=hf 11 _ 4 rfl rfl
     have p5:vs 5= .int .i64 (zBh (zAL t i)).2:=hf 12 _ 5 rfl rfl
     clear hf
     have hA2:=hA.symm.trans (congrArg (fun D=>zAI _ D vs) (show zCE _ 13= [43,44,45,46,47,48,49,50,51,52,53,4,5] by kernel_rfl))
     rw [hA2]
     clear hA2 hA
     simp only [zAI,List.foldl,Act.put,List.setIfInBounds_toArray,List.set_cons_succ,List.set_cons_zero]
     rw [p4,p5]
     clear HCC HCN
     obtain⟨f1,f2,f3⟩:=f4
     go_wp2
     go_ret2
     exact⟨⟨_,_,_,rfl,f1,f2,f3⟩,Ext.trans HB9.out hR⟩
   ·have k2:decide ((e:Int) < (t.length:Int))=false:=decide_eq_false (by omega)
    have k4:decide (e < t.length)=false:=decide_eq_false (by omega)
    have k5:¬ e < t.length:=by omega
    clear hno2
    go_wp2
    go_quiet (fail)
    go_wp2
    refine nW (P:=fun W=>Code.wp _ _ _ _ W) _ ?_
    intro W9 hW9
    have HB10:Hid (Ext wi W9):=hQq (by rw [hW9];first | exact bR _ _ | exact eD _ | exact eDn _ _)
    replace HB9:=hQq (Ext.trans HB9.out HB10.out)
    have hi2:(i:Int)<=(cap:Int):=by omega
    clear hW9 c0
    obtain⟨a5,ha5⟩:∃ a5:Option Addr,a5=(if cap=e then some ⟨bb,off,none⟩ else some ⟨bb,off+e * 8,none⟩):=⟨_,rfl⟩
    have HCC:Hid (∀ V,Ext W9 V->∀ gr,V.heap[gr]? = some (.cells #[.slice (some ⟨bb,off,none⟩) i cap,.slice a5 (t.length - e) (cap - e)] 33 (0,0))->Calls Tryz.prog 175 #[.slice (some ⟨gr,0,none⟩) 2 2] V (fun e w'=>∃ a cap,e= .returned (.slice a (zAL t i).length cap)/\zAg cdT V.heap.size w' (.slice a (zAL t i).length cap) (zAL t i)/\Ext V w')):=hQq (fun V hV gr hg=>by
     have hx:=HV.out.ext okT (Ext.trans HB9.out hV)
     have h1:=zDN hx 0 i (by omega) cap (by omega) off (by simp)
     have h2:=zDN hx e (t.length - e) (by omega) (cap - e) (by omega) (off+e * 8) rfl
     rw [List.drop_zero] at h1
     rw [List.take_of_length_le (by rw [List.length_drop];exact Nat.le_refl _)] at h2
     have h3:zCt B V (.slice a5 (t.length - e) (cap - e)) (t.drop e):=by
      rw [ha5]
      by_cases hc:cap=e
      ·rw [if_pos hc]
       have h0:t.length - e=0:=by omega
       have hd:t.drop e= []:=List.drop_eq_nil_of_le (by omega)
       rw [h0,hd]
       exact⟨_,_,rfl,Nat.zero_le _,fun h=>absurd h (Nat.lt_irrefl _),fun k hk=>absurd hk (by simp)⟩
      ·rw [if_neg hc];exact h2
     have h4:=zKg B V gr _ _ (t.take i) (t.drop e) hg h1 h3 (Nat.le_trans hB (Ext.trans HB9.out hV).size) (by rw [List.length_take];omega) (by rw [List.length_drop];omega)
     rw [<- HCE.out] at h4
     exact h4)
    have HCN:Hid (∀ V,Ext W9 V->∀ v B2,B2<=V.heap.size->zCt B2 V v (zAL t i)->Calls Tryz.prog 87 #[v] V (zVc V (zBh (zAL t i)))):=hQq (fun V hV v B2 h1 h2=>zDD B2 V v _ h2 h1 (fun x hx=>HSM.out x (by
     rw [HCE.out] at hx
     rcases List.mem_append.1 hx with h | h
     ·exact List.mem_of_mem_take h
     ·exact List.mem_of_mem_drop h)))
    have hfa5:(if cap=e then some ({block:=bb,off:=off,spot:=none}:Addr) else some {block:=bb,off:=off+e * 8,spot:=none})=a5:=ha5.symm
    clear ha5
    refine zFn Ext (fun _ _=>True) (zWO (.slice (some ⟨bb,off,none⟩) t.length cap) (.slice (some ⟨bb,off,none⟩) i cap) (.slice a5 (t.length - e) (cap - e)) i e w.heap.size (zAL t i) (zBh (zAL t i)).1 (zBh (zAL t i)).2) 0 rfl (by kernel_rfl) (by kernel_rfl) (by kernel_rfl) (eD _) trivial (fun _ _ _=>Ext.trans) zKI ?_ ?_
    ·intro i1 o a wx z ho hR hG hz hk hp
     have EX:=hR
     clear hG hz
     have n0:=zAe (show a.eval (.tmp 0)= .slice (some ⟨bb,off,none⟩) t.length cap from hk 0 (of_decide_eq_true (by kernel_rfl)))
     have n6:=zAe (show a.eval (.tmp 6)= .int .i64 i from hk 6 (of_decide_eq_true (by kernel_rfl)))
     have n8:=zAe (show a.eval (.tmp 8)= .int .i64 e from hk 8 (of_decide_eq_true (by kernel_rfl)))
     clear hk
     match i1,ho,hp with
     | 0,ho,hp=>
      obtain rfl:=oI ho
      clear ho hp
      unfold Oper.wp;go_simp
      exact⟨_,rfl,rfl,bR _ _⟩
     | 1,ho,hp=>
      obtain rfl:=oI ho
      clear ho hp
      unfold Oper.wp;go_simp
      exact⟨_,rfl,rfl,bR _ _⟩
     | 2,ho,hp=>
      obtain rfl:=oI ho
      have p43:=zAe (show a.eval (.tmp 43)= .slice (some ⟨bb,off,none⟩) t.length cap from hp 0 _ 43 (by kernel_rfl) rfl rfl)
      have p44:=zAe (show a.eval (.tmp 44)= .int .i64 i from hp 1 _ 44 (by kernel_rfl) rfl rfl)
      clear ho hp
      unfold Oper.wp;go_simp
      exact⟨_,rfl,rfl,bR _ _⟩
     | 3,ho,hp=>
      obtain rfl:=oI ho
      clear ho hp
      unfold Oper.wp;go_simp
      exact⟨_,rfl,rfl,bR _ _⟩
     | 4,ho,hp=>
      obtain rfl:=oI ho
      clear ho hp
      unfold Oper.wp;go_simp
      exact⟨_,rfl,rfl,bR _ _⟩
     | 5,ho,hp=>
      obtain rfl:=oI ho
      have p46:=zAe (show a.eval (.tmp 46)= .slice (some ⟨bb,off,none⟩) t.length cap from hp 3 _ 46 (by kernel_rfl) rfl rfl)
      have p47:=zAe (show a.eval (.tmp 47)= .int .i64 e from hp 4 _ 47 (by kernel_rfl) rfl rfl)
      clear ho hp
      unfold Oper.wp;go_simp
      exact⟨_,rfl,rfl,bR _ _⟩
     | 6,ho,hp=>
      obtain rfl:=oI ho
      have p45:=zAe (show a.eval (.tmp 45)= .slice (some ⟨bb,off,none⟩) i cap from hp 2 _ 45 (by kernel_rfl) rfl rfl)
      have p48:=zAe (show a.eval (.tmp 48)= .slice a5 (t.length - e) (cap - e) from hp 5 _ 48 (by kernel_rfl) rfl rfl)
      clear ho hp
      unfold Oper.wp;go_simp
      exact⟨_,rfl,⟨_,rfl,bN _ _⟩,eA _ _⟩
     | 7,ho,hp=>
      obtain rfl:=oI ho
      obtain⟨gr,e49,f49⟩:∃ gr,a.eval (.tmp 49)= .slice (some ⟨gr,0,none⟩) 2 2/\wx.heap[gr]? = some (.cells #[.slice (some ⟨bb,off,none⟩) i cap,.slice a5 (t.length - e) (cap - e)] 33 (0,0)):=hp 6 _ 49 (by kernel_rfl) rfl rfl
      have p49:=zAe e49
      clear e49
      have hcc:=HCC.out wx EX gr f49
      clear ho hp
      unfold Oper.wp;go_simp
      refine hcc.mono ?_
      rintro e w5 ⟨a9,c9,rfl,h9,hb5⟩
      exact⟨_,rfl,⟨a9,c9,_,rfl,hb5.size,h9.in okT⟩,hb5⟩
     | 8,ho,hp=>
      obtain rfl:=oI ho
      obtain⟨ar,cr,Br,e50,f50⟩:∃ ar cr Br,a.eval (.tmp 50)= .slice ar (zAL t i).length cr/\Br<=wx.heap.size/\zCt Br wx (.slice ar (zAL t i).length cr) (zAL t i):=hp 7 _ 50 (by kernel_rfl) rfl rfl
      have p50:=zAe e50
      clear e50
      have hcc:=HCN.out wx EX _ _ f50.1 f50.2
      clear ho hp
      unfold Oper.wp;go_simp
      refine hcc.mono ?_
      rintro e w5 ⟨⟨a9,c9,B9,rfl,h1,h2,h9⟩,hb5⟩
      exact⟨_,rfl,⟨a9,c9,B9,rfl,Nat.le_trans (Ext.trans HB9.out EX).size h1,h2,h9⟩,hb5⟩
     | 9,ho,hp=>
      obtain rfl:=oI ho
      obtain⟨ar,cr,Br,e51,f51⟩:∃ ar cr Br,a.eval (.tmp 51)= .tuple #[.slice ar (zBh (zAL t i)).1.length cr,.int .i64 (zBh (zAL t i)).2]/\w.heap.size<=Br/\Br<=wx.heap.size/\zAg cdT Br wx (.slice ar (zBh (zAL t i)).1.length cr) (zBh (zAL t i)).1:=hp 8 _ 51 (by kernel_rfl) rfl rfl
      have p51:=zAe e51
      clear e51
      clear ho hp
      unfold Oper.wp;go_simp
      exact⟨_,rfl,⟨_,_,_,rfl,f51⟩,bR _ _⟩
     | 10,ho,hp=>
      obtain rfl:=oI ho
      obtain⟨ar,cr,Br,e51,f51⟩:∃ ar cr Br,a.eval (.tmp 51)= .tuple #[.slice ar (zBh (zAL t i)).1.length cr,.int .i64 (zBh (zAL t i)).2]/\w.heap.size<=Br/\Br<=wx.heap.size/\zAg cdT Br wx (.slice ar (zBh (zAL t i)).1.length cr) (zBh (zAL t i)).1:=hp 8 _ 51 (by kernel_rfl) rfl rfl
      have p51:=zAe e51
      clear e51
      clear ho hp
      unfold Oper.wp;go_simp
      exact⟨_,rfl,rfl,bR _ _⟩
     | 11,ho,hp=>
      obtain rfl:=oI ho
      obtain⟨ar,cr,Br,e52,f52⟩:∃ ar cr Br,a.eval (.tmp 52)= .slice ar (zBh (zAL t i)).1.length cr/\w.heap.size<=Br/\Br<=wx.heap.size/\zAg cdT Br wx (.slice ar (zBh (zAL t i)).1.length cr) (zBh (zAL t i)).1:=hp 9 _ 52 (by kernel_rfl) rfl rfl
      have p52:=zAe e52
      clear e52
      clear ho hp
      unfold Oper.wp;go_simp
      exact⟨_,rfl,⟨_,_,_,rfl,f52⟩,bR _ _⟩
     | 12,ho,hp=>
      obtain rfl:=oI ho
      have p53:=zAe (show a.eval (.tmp 53)= .int .i64 (zBh (zAL t i)).2 from hp 10 _ 53 (by kernel_rfl) rfl rfl)
      clear ho hp
      unfold Oper.wp;go_simp
      exact⟨_,rfl,rfl,bR _ _⟩
     | i1+13,ho,_=>exact absurd (Array.getElem?_eq_some_iff.1 ho).1 (by simp)
    ·intro vs wx hR hG hf
     generalize hA:zAI _ _ _=A1
     obtain⟨ar,cr,Br,p4,f4⟩:∃ ar cr Br,vs 4= .slice ar (zBh (zAL t i)).1.length cr/\w.heap.size<=Br/\Br<=wx.heap.size/\zAg cdT Br wx (.slice ar (zBh (zAL t i)).1.length cr) (zBh (zAL t i)).1:=hf 11 _ 4 rfl rfl
     have p5:vs 5= .int .i64 (zBh (zAL t i)).2:=hf 12 _ 5 rfl rfl
     clear hf
     have hA2:=hA.symm.trans (congrArg (fun D=>zAI _ D vs) (show zCE _ 13= [43,44,45,46,47,48,49,50,51,52,53,4,5] by kernel_rfl))
     rw [hA2]
     clear hA2 hA
     simp only [zAI,List.foldl,Act.put,List.setIfInBounds_toArray,List.set_cons_succ,List.set_cons_zero]
     rw [p4,p5]
     clear HCC HCN
     obtain⟨f1,f2,f3⟩:=f4
     go_wp2
     go_ret2
     exact⟨⟨_,_,_,rfl,f1,f2,f3⟩,Ext.trans HB9.out hR⟩
end Go.Proofs.YtbeeoomadnmogaaGreat
