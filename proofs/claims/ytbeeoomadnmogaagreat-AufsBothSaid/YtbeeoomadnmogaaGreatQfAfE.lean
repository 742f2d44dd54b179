/- AfE OvPD AfB AfB2 AfR AxS -/
import Derived.Test.YtbeeoomadnmogaaGreatQI5
import Derived.Test.YtbeeoomadnmogaaGreatQAfM3
namespace Go.Proofs.YtbeeoomadnmogaaGreat
open Go.RowKit
theorem zM9 {nm:ByteArray} (hn:zAq (L nm)=0):EnY false (mkN nm):=
 ⟨hn,rfl,(show (⟨#[]⟩:ByteArray).toList= [] by rw [tL];rfl),(show zDE (kdN 2)=0 by decide +kernel),zEx (x:=mkN nm) (show ¬ ((0:Int) < 0\/((0:Int) < 0/\(1:Int)<=1)\/((0:Int)<=0/\(1:Int) < 1)) by omega) (show ¬ (1:Int) < 1 by omega) rfl⟩
theorem zNG {d:DiN} (h:acE d=0):zDA (acD d)=0:=by
 obtain⟨h1,h2,h3,h4,h5⟩:=zCp h
 obtain⟨_,d1,_,_,_,d5⟩:=zA0 h1
 rw [(zDT h5).1]
 have hd:=zJZ (zCJ h1) h3
 have hy:∀ x ∈ acL d,EnY false x:=by
  intro x hx
  rcases List.mem_append.1 hx with hx | hx
  ·obtain⟨y,hm,rfl⟩:=List.mem_map.1 hx
   obtain⟨j,hj,rfl⟩:=List.getElem_of_mem hm
   have he:zEh d.opq (zCZ d.ens j) (zA6 d.ens j)=0:=d5 j hj
   rw [zAy _ _ hj] at he
   have hz:=zEc (h3 _ hm)
   generalize d.ens[j]=y at he hz
   cases hw:y.wh
   ·rw [zBp hw];exact zNa he (zL6 (hz.2 hw)).1
   ·rw [zBv hw]
    obtain⟨w1,w2,w3⟩:=zHg (hz.1 hw)
    exact zM9 (by rw [w2,zMb];exact zHy (zCo w1).2 w3)
  ·split at hx
   case isFalse=>cases hx
   obtain rfl:=List.mem_singleton.1 hx
   exact zM9 (by decide +kernel)
 have hl:(zFl (acL d)).length=(acL d).length:=(zAl _).length_eq
 exact(zBi (zJG (d:=⟨d.ats,false,[],zFl (acL d)⟩) d1 (by rintro⟨e,_⟩;cases e) rfl (by show ¬ 24 < (zFl (acL d)).length;omega)
  (zQj (fun x hx=>hy x ((zAl _).mem_iff.1 hx)) (zI0 hd)))).2
theorem zQk {o:Bool} {z:ByteArray} {x:DeN} (h:zEh o z x=0):(x.nd.kd=1->x.nd.ats= []/\x.nd.cl<=0)/\(x.nd.kd=5->x.nd.cl<=0/\o=false):=by
 have hm:=(zCm h).2.2.2.2.2.2.2.2.2
 unfold zB8 at hm
 simp only [Bool.or_eq_false_iff] at hm
 obtain⟨⟨⟨h1,h2⟩,_⟩,_⟩:=hm
 refine⟨fun hk=>?_,fun hk=>?_⟩
 ·rw [hk] at h1
  have h1:decide (0 < x.nd.ats.length)=false/\decide (0 < x.nd.cl)=false:=by simpa using h1
  have a:=of_decide_eq_false h1.1;have b:=of_decide_eq_false h1.2
  exact⟨List.length_eq_zero_iff.1 (by omega),by omega⟩
 ·rw [hk] at h2
  have h2:decide (0 < x.nd.cl)=false/\o=false:=by simpa using h2
  have b:=of_decide_eq_false h2.1
  exact⟨by omega,h2.2⟩
theorem zVA {x:TrN} (h1:x.dep=0) (h2:x.nm.toList= []) (hk:x.kd=5) (h3:zAc (zCw x)=0) (h4:x.cl=0):x=kdN 5:=by
 obtain⟨w1,w2,w3,w4,_⟩:=zID (x:=zCw x) h3 hk
 have u1:x.ats= []:=w1
 have u2:x.dat=⟨#[]⟩:=zCn (s:=x.dat) w2
 have u3:x.ma=0:=w3
 have u4:x.mi=0:=w4
 have u5:=zCn h2
 clear w1 w2 w3 w4 h2 h3
 obtain⟨dep,nm,kd,ats,dat,ma,mi,cl⟩:=x
 simp only at h1 hk h4 u1 u2 u3 u4 u5
 subst h1 hk h4 u1 u2 u3 u4 u5
 rfl
theorem zRy {o:Bool} {z:ByteArray} {x:DeN} (h:zEh o z x=0) (hw:x.wh=true):x=⟨x.nm,kdN 5,true,true,1⟩:=by
 obtain⟨_,_,_,p4,p5,p6,p7,p8,p9,_⟩:=zCm h
 obtain⟨k1,k2⟩:=zFR h
 obtain⟨m1,m2⟩:=zQk h
 have hsk:=zKe p6
 have h5:x.nd.kd=5:=by rw [hw] at k1;exact beq_iff_eq.1 k1.symm
 have hc:x.nd.cl=0:=by have:=(m2 h5).1;omega
 have hns:x.ns=1:=by omega
 have hfi:=zKD h hns
 have hnd:=zVA p4 p5 h5 hsk hc
 obtain⟨nm,nd,wh,fi,ns⟩:=x
 simp only at *
 subst hw hnd hfi hns
 rfl
theorem zWl {o:Bool} {z:ByteArray} {x:DeN} (h:zEh o z x=0) (h2:aeE x=0):adX (aeX x)=x/\(bkW 3 (aeX x).nm=1\/bkW 3 (aeX x).nm=2)/\bkS 3 (aeX x).nm=x.nm/\bkE 3 (aeX x).nm=0/\(bkW 3 (aeX x).nm=2 ↔ x.wh=true):=by
 have hz:=zEc h2
 cases hw:x.wh with
 | true=>
  obtain⟨b1,b2,b3⟩:=zOr (hz.1 hw)
  rw [zBv hw]
  refine⟨?_,.inr b2,b1,b3,fun _=>rfl,fun _=>b2⟩
  unfold adX
  rw [if_pos (show bkW 3 (mkN (wtS 3 x.nm)).nm=2 from b2)]
  show (⟨bkS 3 (wtS 3 x.nm),kdN 5,true,true,1⟩:DeN)=x
  rw [b1];exact(zRy h hw).symm
 | false=>
  obtain⟨b1,b2,b3⟩:=zKW (hz.2 hw)
  rw [zBp hw]
  have n2:¬ bkW 3 (nmS 3 x.nm)=2:=by rw [b2];decide
  refine⟨?_,.inl b2,b1,b3,fun e=>absurd e n2,fun e=>by cases e⟩
  unfold adX
  rw [if_neg (show ¬ bkW 3 ({x with nm:=nmS 3 x.nm}:DeN).nm=2 from n2)]
  show ({x with nm:=bkS 3 (nmS 3 x.nm)}:DeN)=x
  rw [b1]
theorem zU6 {d:DiN} (h:acE d=0):zFl (adL (zFl (acL d)))=d.ens:=by
 obtain⟨h1,h2,h3,_,_⟩:=zCp h
 obtain⟨_,_,_,_,_,d5⟩:=zA0 h1
 have he:∀ x ∈ d.ens,adX (aeX x)=x/\(bkW 3 (aeX x).nm != 3)=true:=fun x hx=>by
  obtain⟨j,hj,rfl⟩:=List.getElem_of_mem hx
  have e:zEh d.opq (zCZ d.ens j) (zA6 d.ens j)=0:=d5 j hj
  rw [zAy _ _ hj] at e
  obtain⟨a,b,_⟩:=zWl e (h3 _ hx)
  exact⟨a,by rcases b with b | b <;> (rw [b];rfl)⟩
 have h4:adL (acL d)=d.ens:=by
  unfold adL acL
  rw [List.filter_append,List.map_append]
  have e1:(d.ens.map aeX).filter (fun x=>bkW 3 x.nm != 3)=d.ens.map aeX:=List.filter_eq_self.2 fun y hy=>by
   obtain⟨x,hx,rfl⟩:=List.mem_map.1 hy
   exact(he x hx).2
  have e2:((if d.opq=true then [mkN zDy] else []).filter fun x=>bkW 3 x.nm != 3)= []:=by
   split
   ·rw [List.filter_cons,if_neg (by show ¬ (bkW 3 zDy != 3)=true;rw [zEj.1];decide)];rfl
   ·rfl
  rw [e1,e2,List.map_nil,List.append_nil,List.map_map]
  exact(List.map_congr_left fun x hx=>(he x hx).1).trans (List.map_id _)
 have hp:(adL (zFl (acL d))).Perm d.ens:=by
  rw [<- h4];unfold adL
  exact((zAl (acL d)).filter _).map _
 have hs:d.ens.Pairwise leN:=List.pairwise_iff_getElem.2 fun i j hi hj hij=>by
  have:=zHQ h1 hij hj
  rw [zAy _ _ hi,zAy _ _ hj] at this
  exact zFJ this
 exact(zF8 (l:=adL (zFl (acL d))) (zDl.perm (zCJ h1) hp) hp.symm hs).symm
theorem zWk {d:DiN} (h:acE d=0):adO (zFl (acL d))=d.opq:=by
 obtain⟨h1,h2,h3,_,_⟩:=zCp h
 unfold adO
 rw [Bool.eq_iff_iff,List.any_eq_true]
 constructor
 ·rintro⟨x,hx,e⟩
  have e:=of_decide_eq_true e
  rcases List.mem_append.1 ((zAl _).mem_iff.1 hx) with hx | hx
  ·obtain⟨y,hy,rfl⟩:=List.mem_map.1 hx
   have hz:=zEc (h3 y hy)
   cases hw:y.wh
   ·rw [zBp hw] at e;exact absurd e (zKV (hz.2 hw))
   ·rw [zBv hw] at e;exact absurd e (zKU (hz.1 hw))
  ·split at hx
   case isTrue ho=>exact ho
   case isFalse=>cases hx
 ·intro ho
  exact⟨mkN zDy,(zAl _).mem_iff.2 (List.mem_append.2 (.inr (by rw [if_pos ho];exact List.mem_singleton.2 rfl))),decide_eq_true rfl⟩
theorem zJY {d:DiN} (h:acE d=0) {y:DeN} (hy:y ∈ acL d) :
  (∃ x ∈ d.ens,y=aeX x/\bkS 3 y.nm=x.nm/\bkE 3 y.nm=0/\((bkW 3 y.nm=1/\y.nd.kd ≠ 5)\/(bkW 3 y.nm=2/\zG5 y=true/\d.opq=false)))\/(bkE 3 y.nm=0/\bkW 3 y.nm=3/\zG5 y=true):=by
 obtain⟨h1,h2,h3,_,_⟩:=zCp h
 obtain⟨_,_,_,_,_,d5⟩:=zA0 h1
 rcases List.mem_append.1 hy with hx | hx
 ·obtain⟨x,hm,rfl⟩:=List.mem_map.1 hx
  obtain⟨j,hj,rfl⟩:=List.getElem_of_mem hm
  have e:zEh d.opq (zCZ d.ens j) (zA6 d.ens j)=0:=d5 j hj
  rw [zAy _ _ hj] at e
  have ha:=h3 _ hm
  refine .inl ⟨_,hm,rfl,?_⟩
  generalize d.ens[j]=x at e ha
  obtain⟨_,a2,a3,a4,a5⟩:=zWl e ha
  obtain⟨k1,k2⟩:=zFR e
  refine⟨a3,a4,?_⟩
  cases hw:x.wh
  ·refine .inl ⟨a2.resolve_right fun t=>?_,?_⟩
   ·rw [a5.1 t] at hw;cases hw
   ·rw [zBp hw]
    intro t
    have t:x.nd.kd=5:=t
    rw [hw,t] at k1;cases k1
  ·refine .inr ⟨a5.2 hw,?_,k2 ?_⟩
   ·rw [zBv hw];rfl
   ·rw [hw] at k1;exact beq_iff_eq.1 k1.symm
 ·split at hx
  case isFalse=>cases hx
  obtain rfl:=List.mem_singleton.1 hx
  exact .inr ⟨zEj.2,zEj.1,rfl⟩
theorem zU8 {d:DiN} (h:acE d=0):arT (acD d)=(d,0,0):=by
 obtain⟨h1,h2,h3,h4,h5⟩:=zCp h
 have hr:=zNG h
 have hl:=zU6 h
 have ho:=zWk h
 have hdist:=zJZ (zCJ h1) h3
 rw [(zDT h5).1] at hr ⊢
 obtain⟨l,hl'⟩:∃ l,zFl (acL d)=l:=⟨_,rfl⟩
 have hasc:=zI0 hdist
 have hmem:∀ y ∈ l,y ∈ acL d:=fun y hy=>(zAl (acL d)).mem_iff.1 (show y ∈ zFl (acL d) by rw [hl'];exact hy)
 rw [hl'] at hr hl ho hasc ⊢
 have hz:∀ j,j < l.length->adE (adO l) l j=0:=by
  intro j hj
  have hg:=zAy l j hj
  have hdup:bkW 3 (zA6 l j).nm ≠ 3->zRt l j=false:=fun hn=>by
   unfold zRt
   rw [List.any_eq_false]
   intro k hk t
   have hk:=List.mem_range.1 hk
   simp only [Bool.and_eq_true,Bool.or_eq_true,beq_iff_eq,decide_eq_true_eq] at t
   obtain⟨t1,t2⟩:=t
   have hkl:k < l.length:=by omega
   have gk:=zAy l k hkl
   have hlt:=List.pairwise_iff_getElem.1 hasc k j hkl hj hk
   rcases zJY h (hmem _ (List.getElem_mem hj)) with ⟨x,hx,ex,bx,_⟩ | ⟨_,b3,_⟩
   case inr=>rw [hg] at hn;exact hn b3
   rcases zJY h (hmem _ (List.getElem_mem hkl)) with ⟨z,hzm,ez,bz,_⟩ | ⟨_,b3,_⟩
   case inr=>rw [gk,b3] at t1;rcases t1 with t1 | t1 <;> cases t1
   rw [gk,hg,bx,bz] at t2
   have:z=x:=zDh (zCJ h1) hzm hx (congrArg L t2)
   rw [ex,ez,this] at hlt
   exact List.lt_irrefl _ hlt
  unfold adE
  rcases zJY h (hmem _ (List.getElem_mem hj)) with ⟨x,hx,ex,bx,be,hc⟩ | ⟨be,bw,em⟩
  ·rcases hc with ⟨bw,kd⟩ | ⟨bw,em,oq⟩
   ·rw [hg,if_neg (by rw [be];decide),if_neg (by rw [bw];decide),if_neg (by rintro(⟨t,_⟩ | ⟨_,t⟩);exact t bw;exact kd t),if_neg (by rintro⟨t,u⟩;rw [hdup (by rw [hg];exact t)] at u;cases u),if_neg (by rintro⟨t,_⟩;rw [bw] at t;cases t)]
   ·rw [hg,if_neg (by rw [be];decide),if_neg (by rw [bw];decide),if_neg (by rintro(⟨_,t⟩ | ⟨t,_⟩);rw [em] at t;cases t;rw [bw] at t;cases t),if_neg (by rintro⟨t,u⟩;rw [hdup (by rw [hg];exact t)] at u;cases u),if_neg (by rintro⟨_,t⟩;rw [ho,oq] at t;cases t)]
  ·rw [hg,if_neg (by rw [be];decide),if_neg (by rw [bw];decide),if_neg (by rintro(⟨_,t⟩ | ⟨t,_⟩);rw [em] at t;cases t;rw [bw] at t;cases t),if_neg (by rintro⟨t,_⟩;exact t bw),if_neg (by rintro⟨t,_⟩;rw [bw] at t;cases t)]
 have:=zNA (d:=⟨d.ats,false,[],l⟩) hr (by rintro(t | t);cases t;exact absurd t (show ¬ 0 < ([]:List ByteArray).length by decide)) (by show (gnI (adE (adO l) l) l.length).2=0;rw [zP7 hz])
 rw [this]
 show ((⟨d.ats,adO l,[],zFl (adL l)⟩:DiN),(0:Int),(0:Int))=(d,0,0)
 rw [hl,ho]
 obtain⟨ats,opq,red,ens⟩:=d
 simp only at h2
 rw [h2]
theorem zVx {d:DiN} (h:arE d=0) {x:DeN} (hx:x ∈ d.ens) (h3:bkW 3 x.nm=3):x=mkN zDy:=by
 obtain⟨h1,h2,_,h4,_⟩:=zDk h
 obtain⟨_,_,_,_,_,d5⟩:=zA0 h1
 obtain⟨j,hj,rfl⟩:=List.getElem_of_mem hx
 have e:zEh d.opq (zCZ d.ens j) (zA6 d.ens j)=0:=d5 j hj
 have p:=zEd (h4 j hj)
 rw [zAy _ _ hj] at e p
 have em:=zTr e (p.2.2.1 (by rw [h3];decide))
 rcases zE6 3 d.ens[j].nm with ⟨a1,_,_⟩ | ⟨_,a2,_⟩ | ⟨_,a2,_⟩ | ⟨_,_,_,_,a5⟩ | ⟨_,a2,_⟩
 ·rw [p.1] at a1;cases a1
 ·rw [h3] at a2;cases a2
 ·rw [h3] at a2;cases a2
 ·rw [em,a5];rfl
 ·rw [h3] at a2;cases a2
theorem zOj {l:List DeN} (hd:zH5 l) (h:∀ x ∈ l,bkW 3 x.nm=3->x=mkN zDy):l.filter (fun x=>!(bkW 3 x.nm != 3))=if adO l=true then [mkN zDy] else []:=by
 induction l with
 | nil=>rfl
 | cons a r ih=>
  obtain⟨hd1,hd2⟩:=List.pairwise_cons.1 hd
  have ih:=ih hd2 fun x hx=>h x (List.mem_cons_of_mem _ hx)
  rw [List.filter_cons,ih]
  by_cases e:bkW 3 a.nm=3
  ·have ea:=h a (List.mem_cons_self ..) e
   have hr:adO r=false:=by
    unfold adO;rw [List.any_eq_false]
    intro x hx t
    have t:=of_decide_eq_true t
    exact hd1 x hx (by rw [ea,t];rfl)
   have ho:adO (a :: r)=true:=by
    unfold adO;rw [List.any_eq_true]
    exact⟨a,List.mem_cons_self ..,decide_eq_true (by rw [ea];rfl)⟩
   rw [ho,hr,if_pos (show (!(bkW 3 a.nm != 3))=true by rw [e];rfl),if_pos rfl,if_neg Bool.false_ne_true,ea]
  ·have ho:adO (a :: r)=adO r:=by
    unfold adO;rw [List.any_cons]
    rw [show decide (a.nm=zDy)=false from decide_eq_false fun t=>e (by rw [t];exact zEj.1)]
    rfl
   rw [ho,if_neg (show ¬ (!(bkW 3 a.nm != 3))=true by simp [e])]
theorem zQ4 {d:DiN} (h:arE d=0):acT (arD d)=(d,0,0):=by
 have hr:=zHc h
 obtain⟨h1,h2,h3,h4,h5⟩:=zDk h
 obtain⟨_,_,_,_,d4,_⟩:=zA0 h1
 have hmem:∀ y ∈ zFl (adL d.ens),y ∈ adL d.ens:=fun y hy=>(zAl _).mem_iff.1 hy
 have hmap:(adL d.ens).map aeX=d.ens.filter fun x=>bkW 3 x.nm != 3:=by
  unfold adL
  rw [List.map_map]
  refine(List.map_congr_left (g:=id) fun x hx=>?_).trans (List.map_id _)
  have hy:adX x ∈ adL d.ens:=List.mem_map.2 ⟨x,hx,rfl⟩
  obtain⟨hm,hn⟩:=List.mem_filter.1 hx
  have hn:=bne_iff_ne.1 hn
  obtain⟨j,hj,rfl⟩:=List.getElem_of_mem hm
  obtain⟨_,_,_,_,_,d5⟩:=zA0 h1
  have e:zEh d.opq (zCZ d.ens j) (zA6 d.ens j)=0:=d5 j hj
  have p:=zEd (h4 j hj)
  rw [h2] at e
  rw [zAy _ _ hj] at e p
  exact(zS6 e p.1 p.2.1 hn p.2.2.1 p.2.2.2.1).2.1
 have hperm:(acL (arD d)).Perm d.ens:=by
  rw [(zDS h5).1]
  show (List.map aeX (zFl (adL d.ens)) ++ (if adO d.ens=true then [mkN zDy] else [])).Perm d.ens
  rw [<- zOj (zCJ h1) fun x hx=>zVx h hx]
  refine List.Perm.trans ?_ (List.filter_append_perm (fun x=>bkW 3 x.nm != 3) d.ens)
  refine List.Perm.append_right _ ?_
  rw [<- hmap]
  exact(zAl _).map _
 have hs:d.ens.Pairwise leN:=List.pairwise_iff_getElem.2 fun i j hi hj hij=>by
  have:=zHQ h1 hij hj
  rw [zAy _ _ hi,zAy _ _ hj] at this
  exact zFJ this
 have hsrt:zFl (acL (arD d))=d.ens:=(zF8 (zDl.perm (zCJ h1) hperm) hperm.symm hs).symm
 have hlen:(acL (arD d)).length=d.ens.length:=hperm.length_eq
 have hg:(gnT aeE (arD d).ens).2=0:=by
  rw [zTp]
  intro j hj
  rw [zAy _ _ hj]
  have hens:∀ y ∈ (arD d).ens,y ∈ adL d.ens:=by rw [(zDS h5).1];exact hmem
  have hm:=hens _ (List.getElem_mem hj)
  obtain⟨_,_,_,_,t,_⟩:=zPE h hm
  exact t
 have:=zNH hr (by rw [(zDS h5).1];exact show ¬ 0 < ([]:List ByteArray).length by decide) hg (by omega)
 rw [this,hsrt]
 have ha:(arD d).ats=d.ats:=by rw [(zDS h5).1]
 rw [ha]
 obtain⟨ats,opq,red,ens⟩:=d
 simp only at h2 h3
 rw [h2,h3]
theorem zKF {d:DiN} (h:zDA d=0) (hr:d.red= []):zGH d where
 ats:=(zA3 (zA0 h).2.1).1
 atl:=(zA3 (zA0 h).2.1).2
 red:=fun s hs=>by rw [hr] at hs;cases hs
 ens:=fun x hx=>by
  obtain⟨j,hj,rfl⟩:=List.getElem_of_mem hx
  have h1:=(zA0 h).2.2.2.2.2 j hj
  unfold zIc at h1
  rw [zAy d.ens j hj] at h1
  obtain⟨h2,_,_,_,_,h7,_⟩:=zCm h1
  have h3:=(zCA h2).2.2.2.2
  exact⟨by rw [zAN];omega,zA3 (zMm h7)⟩
 len:=by have:=(zA0 h).2.2.2.2.1;omega
theorem zWm (d:DiN):(acD d).red= []:=by
 rcases zJ0 d with h | ⟨h,_,_⟩ <;> rw [h] <;> rfl
theorem zS8 {d:DiN} (h:acE d=0):zGH (acD d):=zKF (zNG h) (zWm d)
theorem zNz {d:DiN} (h:arE d=0):zGH (arD d):=zKF (zHc h) (zTE d)
end Go.Proofs.YtbeeoomadnmogaaGreat
