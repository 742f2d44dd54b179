/- ChkB ChkC ChkD ChkE ChkF BrnC BrnD BrnE BrnF BrnG BrnH InsP BrnK WlkP RInv AwQ -/
import Derived.Test.YtbeeoomadnmogaaGreatQI3
import Derived.Test.YtbeeoomadnmogaaGreatQNodA
set_option maxRecDepth 100000
set_option maxHeartbeats 64000000
namespace Go.Proofs.YtbeeoomadnmogaaGreat
open Go.RowKit
theorem bT {w:World} {b:Nat} {c:Array Value} {t:TypeId} (hb:w.heap[b]? = some (.cells c t (0,0))) (o:Nat):w.frozen? ⟨b,o,none⟩=false:=by
 simp [World.frozen?,hb]
theorem zD6 {B c o:Nat} {w:World} {cs:Array Value} {E:TypeId} {f:Nat × Nat} (h:w.heap[c]? = some (.cells cs E f)) (hB:B<=c) (v:Value):Chg B E (some c) w (w.setCell ⟨c,o,none⟩ v):=
 ⟨fun _ _ hb hne=>bSn hb _ _ (fun e=>hne (by rw [e])),by simp [World.setCell],fun g hg=>by cases hg;exact⟨hB,_,_,h⟩⟩
def zKZ (B:Nat) (w:World) (c m1 m2:Nat) (vd:Value) (D:List Opn) (f:Bool) (cl:Int) (x:TrN) (e:Ending) (w':World):Prop:=
 e= .returned (.int .i64 (zCU D f x))/\Below B w w'/\(zCU D f x=0->∃ vd',w'.heap[c]? = some (.cells #[vd',.bool f,.map (some m1),.map (some m2),.int .i64 cl] 149 (0,0))/\zAg cdO B w' vd' (zE9 D x)/\∀ b o,w.heap[b]? = some o->b ≠ c->vd.ownBlock ≠ some b->w'.heap[b]? = some o)
theorem zBx {B:Nat} {w w':World} {c m1 m2:Nat} {vd:Value} {D:List Opn} {f:Bool} {cl:Int} {x:TrN} {v:Int} (h:zCU D f x=v) (hv:v ≠ 0) (hb:Below B w w'):zKZ B w c m1 m2 vd D f cl x (.returned (.int .i64 v)) w':=
 ⟨by rw [h],hb,fun h0=>absurd (h.symm.trans h0) hv⟩
theorem zJc {B c e:Nat} {w:World} {v:Value} {l:List Opn} {cs:Array Value} {f:Nat × Nat} (h:zAg cdO B w v l) (hb:w.heap[c]? = some (.cells cs e f)) (he:e ≠ 210):v.ownBlock ≠ some c:=by
 intro hv
 obtain⟨_,c',f',h2⟩:=h.row rfl c hv
 rw [hb] at h2;cases h2;exact he rfl
theorem zPm {D:List Opn} {f:Bool} {x:TrN} (h:D.length ≠ 0):zCU D f x=if x.dep < 1\/(if f then (D.length:Int) - 1 else D.length) < x.dep then 6 else if 8 < x.dep then 3 else if zAq (L x.nm) ≠ 0 then zAq (L x.nm)
 else if 0 < (D.getD (x.dep.toNat - 1) (0,⟨#[]⟩)).1/\(D.getD (x.dep.toNat - 1) (0,⟨#[]⟩)).2=x.nm then 8
 else if 0 < (D.getD (x.dep.toNat - 1) (0,⟨#[]⟩)).1/\L x.nm < L (D.getD (x.dep.toNat - 1) (0,⟨#[]⟩)).2 then 6
 else if (D.getD (x.dep.toNat - 1) (0,⟨#[]⟩)).1=24 then 3 else 0:=by unfold zCU;rw [if_neg h]
theorem eD (w:World):Ext w w.drew:=Below.drew (bR _ _)
theorem zKn {w w2 : World} {B c g m n cap : Nat} {D : List Opn} {d : Opn} {nm : ByteArray} {bx cs : Array Value} (hb : Ext (w.alloc (.cells bx 59)) w2) (hblk : w.heap[c]? = some (.cells cs 149 (0, 0)))
  (hD : zAg cdO B w (.slice (some ⟨g, 0, none⟩) D.length cap) D) (hmD : m < D.length) (hd : D[m]? = some d) (hcg : c ≠ g) (hBw : B <= w.heap.size) {P : World -> Prop}
  (h : ∀ W3, W3.heap[c]? = some (.cells cs 149 (0, 0)) -> W3.heap[w.heap.size]? = some (.cells bx 59 (0, 0)) -> zAg cdO B W3 (.slice (some ⟨g, 0, none⟩) D.length cap) (D.set m (d.1 + 1, nm)) -> Below B w W3 ->
   (∀ b o, w.heap[b]? = some o -> b ≠ g -> W3.heap[b]? = some o) -> P W3) : P (((w2.drewN n).setCell ⟨g, m * 2, none⟩ (.int .i64 ((d.1 : Int) + 1))).setCell ⟨g, m * 2 + 1, none⟩ (.string nm)) := by
 have hE : Ext w w2 := (eA _ _).trans hb
 have hdd : D[m]'hmD = d := by rw [List.getElem?_eq_getElem hmD] at hd; injection hd
 have h1 : zAg cdO B (w2.drewN n) (.slice (some ⟨g, 0, none⟩) D.length cap) D := (hD.ext okO hE).ext okO (eDn _ _)
 obtain ⟨_, he0, hBg, hgl, _⟩ := hD.addr (by omega)
 cases he0
 have hgw : g ≠ w.heap.size := by omega
 have hcl := bL hblk
 have h2 := h1.store okO m hmD 0 (by decide) (.int .i64 ((d.1 : Int) + 1)) ((d.1 + 1, d.2) : Opn) (fun cs' (hcs : cs' = zRr (D[m]'hmD)) => by rw [hcs, hdd]; show _ = [_, _]; simp [zRr])
 have e0 : m * cdO.n + 0 = m * 2 := rfl
 rw [e0] at h2
 have h3 := h2.1.store okO m (by simpa using hmD) 1 (by decide) (.string nm) ((d.1 + 1, nm) : Opn) (fun cs' hcs => by
  have hcs : cs' = zRr _ := hcs
  rw [List.getElem_set_self] at hcs; rw [hcs]; simp [zRr, cdO])
 have e1 : m * cdO.n + 1 = m * 2 + 1 := rfl
 rw [e1, List.set_set] at h3
 have hkeep : ∀ b o, w2.heap[b]? = some o -> b ≠ g -> (((w2.drewN n).setCell ⟨g, m * 2, none⟩ (.int .i64 ((d.1 : Int) + 1))).setCell ⟨g, m * 2 + 1, none⟩ (.string nm)).heap[b]? = some o := fun b o hbo hne =>
  bSn (bSn (bX (eDn _ _) hbo) _ _ hne) _ _ hne
 refine h _ (hkeep _ _ (bX hE hblk) hcg) (hkeep _ _ (bX hb (bN w _)) (fun e => hgw e.symm)) h3.1 ?_ (fun b o h4 h5 => hkeep _ _ (bX hE h4) h5)
 exact (((hE.trans (eDn _ _)).mono hBw).setCell (p := ⟨g, m * 2, none⟩) hBg _).setCell (p := ⟨g, m * 2 + 1, none⟩) hBg _
theorem zEY:Tryz.prog.underlying 145=some (.map 3 59):=Tryz.underlying145
theorem zAB:Tryz.prog.underlying 146=some (.map 3 3):=Tryz.underlying146
theorem zAZ:zRo Tryz.prog 3 kI:=zSl Tryz.underlying3
theorem zB2 (w:World):(zeroValue 3).run Tryz.prog w= .ok (.int .i64 0) w:=by kernel_rfl
theorem zJ7 {w:World}:(zeroValue 59).run Tryz.prog w= .ok cdT.z w:=by kernel_rfl
theorem nW {P:World->Prop} (W:World) (h:∀ W',W'=W->P W'):P W:=h W rfl
theorem zAD.keepB {K:Type} {κ:K->Value} {w w':World} {b n:Nat} {f:K->Option Value} (h:zAD κ w b n f) (hk:∀ o,w.heap[b]? = some o->w'.heap[b]? = some o):zAD κ w' b n f:=by
 obtain⟨es,c,hb,r⟩:=h;exact⟨es,c,hk _ hb,r⟩
def zDp (m:Int) (lk:Bool) (x:TrN):Int:=
 if x.cl=0 then 0 else if x.cl < 0\/m+1 < x.cl then 6 else if m < x.cl then 0 else if lk then 0 else 6
structure zVb (B:Nat) (w w':World) (c m1 m2:Nat) (vd:Value) (f:Bool) (m:Int) (F1 F2:Int->Option Value) (x:TrN) (v:Value) (n:Nat):Prop where
 ex:∃ n1 n2 F1' F2',w'.heap[c]? = some (.cells #[vd,.bool f,.map (some m1),.map (some m2),.int .i64 (max m x.cl)] 149 (0,0))/\zAD kI w' m1 n1 F1'/\zAD kI w' m2 n2 F2' /\
  F1'=(if m < x.cl then upd F1 x.cl v else F1)/\F2'=(if x.cl=0 then F2 else upd F2 x.cl (.int .i64 ((n:Int)+1)))
 keep:∀ b o,w.heap[b]? = some o->b ≠ c->b ≠ m1->b ≠ m2->w'.heap[b]? = some o
def zTN (B:Nat) (w:World) (c m1 m2:Nat) (vd:Value) (f:Bool) (m:Int) (F1 F2:Int->Option Value) (lk:Bool) (x:TrN) (v:Value) (n:Nat) (e:Ending) (w':World):Prop:=
 e= .returned (.int .i64 (zDp m lk x))/\Below B w w'/\(zDp m lk x=0->zVb B w w' c m1 m2 vd f m F1 F2 x v n)
theorem zGt {B:Nat} {w w':World} {c m1 m2:Nat} {vd:Value} {f:Bool} {m:Int} {F1 F2:Int->Option Value} {lk:Bool} {x:TrN} {v:Value} {n:Nat} {r:Int} (h:zDp m lk x=r) (hv:r ≠ 0) (hb:Below B w w') :
 zTN B w c m1 m2 vd f m F1 F2 lk x v n (.returned (.int .i64 r)) w':=⟨by rw [h],hb,fun h0=>absurd (h.symm.trans h0) hv⟩
def zMd (W0:World) (t:List TrN) (k:Nat) (F:Int->Option Value):Prop:=∀ q:Int,0 < q->q<=zAJ t k->∃ i vy,i < k/\(zAa t i).cl=q/\F q=some (trV (zAa t i) vy)/\aA W0 vy (zAa t i).ats
def zMe (t:List TrN) (k:Nat) (F:Int->Option Value):Prop:=∀ q:Int,0 < q->(F q).getD (.int .i64 0)= .int .i64 (zAi t q k)
structure zOt (W0 w:World) (c m1 m2:Nat) (t:List TrN) (k:Nat):Prop where
 ex:∃ vd n1 n2 F1 F2,w.heap[c]? = some (.cells #[vd,.bool (zB7 t k),.map (some m1),.map (some m2),.int .i64 (zAJ t k)] 149 (0,0))/\zAg cdO W0.heap.size w vd (zBa t k)/\zAD kI w m1 n1 F1/\zAD kI w m2 n2 F2/\zMd W0 t k F1/\zMe t k F2
 below:Ext W0 w
theorem zOt.ext {W0 w w':World} {c m1 m2 k:Nat} {t:List TrN} (h:zOt W0 w c m1 m2 t k) (he:Ext w w'):zOt W0 w' c m1 m2 t k:=by
 obtain⟨vd,n1,n2,F1,F2,h1,h2,h3,h4,h5,h6⟩:=h.ex
 exact⟨⟨vd,n1,n2,F1,F2,bX he h1,h2.ext okO he,h3.ext he,h4.ext he,h5,h6⟩,h.below.trans he⟩
theorem zLB {x y z:TrN} (h1:zA5 x y=true) (_h2:zA5 x z=zA5 x z):zA5 y z=zA5 x z:=by
 obtain⟨a,b,c,d,e⟩:=zBC.1 h1
 unfold zA5;rw [a,b,c,d,e]
theorem zIC (x:TrN):zA5 x x=true:=zBC.2 ⟨rfl,rfl,rfl,rfl,rfl⟩
theorem zCb {t:List TrN} {i:Nat}:∀ k,(zBS t i k=false ↔ ∀ j,j < k->¬ (0 < (zAa t i).cl/\(zAa t j).cl=(zAa t i).cl/\zA5 (zAa t j) (zAa t i)=false))
 | 0=>⟨fun _ j hj=>by omega,fun _=>rfl⟩
 | k+1=>by
  unfold zBS
  rw [Bool.or_eq_false_iff,zCb k]
  constructor
  ·rintro⟨h1,h2⟩ j hj ⟨a,b,c⟩
   by_cases e:j=k
   ·subst e;rw [b,c] at h2;simp [a] at h2
   ·exact h1 j (by omega) ⟨a,b,c⟩
  ·intro h
   refine⟨fun j hj=>h j (by omega),?_⟩
   have:=h k (by omega)
   cases hl:zA5 (zAa t k) (zAa t i)
   ·by_cases a:0 < (zAa t i).cl
    ·by_cases b:(zAa t k).cl=(zAa t i).cl
     ·exact absurd ⟨a,b,hl⟩ this
     ·simp [b]
    ·simp [a]
   ·simp
theorem zIt (t : List TrN) : ∀ k j, j <= k -> zAJ t j <= zAJ t k
  | 0, j, h => by obtain rfl : j = 0 := by omega
                  exact Int.le_refl _
  | k + 1, j, h => by
    by_cases e : j = k + 1
    · subst e; exact Int.le_refl _
    · have := zIt t k j (by omega)
      rw [zAJ.eq_2]; omega
theorem zJk (t:List TrN):∀ k i,i < k->(zAa t i).cl<=zAJ t k
 | 0,i,h=>by omega
 | k+1,i,h=>by
  by_cases e:i=k
  ·subst e;rw [zAJ.eq_2];omega
  ·have:=zJk t k i (by omega)
   rw [zAJ.eq_2];omega
theorem zSN {t:List TrN} {k:Nat} (h:zAW t k) {i:Nat} (hi:i < k) (hc:0 < (zAa t k).cl->(zAa t k).cl<=zAJ t k->(zAa t i).cl=(zAa t k).cl):zDp (zAJ t k) (zA5 (zAa t i) (zAa t k)) (zAa t k)=zF4 t k:=by
 have hmb:=zEW k h
 unfold zDp zF4
 by_cases e0:(zAa t k).cl=0
 ·rw [if_pos e0,if_neg,if_neg (by omega)]
  rw [Bool.not_eq_true,zCb];rintro j hj ⟨a,_⟩;omega
 rw [if_neg e0]
 by_cases e1:(zAa t k).cl < 0\/zAJ t k+1 < (zAa t k).cl
 ·rw [if_pos e1,if_pos e1];split <;> rfl
 rw [if_neg e1,if_neg e1]
 by_cases e2:zAJ t k < (zAa t k).cl
 ·rw [if_pos e2,if_neg]
  rw [Bool.not_eq_true,zCb];rintro j hj ⟨a,b,_⟩
  have:=zJk t k j hj;omega
 rw [if_neg e2]
 have hc':=hc (by omega) (by omega)
 cases hl:zA5 (zAa t i) (zAa t k)
 ·rw [if_neg (by simp),if_pos]
  cases hu:zBS t k k with
  | true=>rfl
  | false=>exact absurd ⟨by omega,hc',hl⟩ ((zCb k).1 hu i hi)
 ·rw [if_pos rfl,if_neg]
  rw [Bool.not_eq_true,zCb];rintro j hj ⟨a,b,c⟩
  -- both are like the first one of the class
  have hji:zA5 (zAa t i) (zAa t j)=true:=by
   by_cases e:i=j
   ·subst e;exact zIC _
   ·rcases Nat.lt_or_gt_of_ne e with e | e
    ·obtain⟨_,_,_,_,hcj⟩:=zAd (h j hj)
     have:=(zCb j).1 (zEK hcj).2.2 i e
     cases hh:zA5 (zAa t i) (zAa t j)
     ·exact absurd ⟨by omega,by rw [hc',b],hh⟩ this
     ·rfl
    ·obtain⟨_,_,_,_,hci⟩:=zAd (h i hi)
     have:=(zCb i).1 (zEK hci).2.2 j e
     cases hh:zA5 (zAa t j) (zAa t i)
     ·exact absurd ⟨by omega,by rw [hc',b],hh⟩ this
     ·obtain⟨a1,a2,a3,a4,a5⟩:=zBC.1 hh
      exact zBC.2 ⟨a1.symm,a2.symm,a3.symm,a4.symm,a5.symm⟩
  rw [zLB hji rfl,hl] at c;cases c
theorem zQF {t:List TrN} {k:Nat} (h:zAW t k) (lk:Bool) (hc:¬ (0 < (zAa t k).cl/\(zAa t k).cl<=zAJ t k)):zDp (zAJ t k) lk (zAa t k)=zF4 t k:=by
 have hmb:=zEW k h
 unfold zDp zF4
 by_cases e0:(zAa t k).cl=0
 ·rw [if_pos e0,if_neg,if_neg (by omega)]
  rw [Bool.not_eq_true,zCb];rintro j hj ⟨a,_⟩;omega
 rw [if_neg e0]
 by_cases e1:(zAa t k).cl < 0\/zAJ t k+1 < (zAa t k).cl
 ·rw [if_pos e1,if_pos e1];split <;> rfl
 rw [if_neg e1,if_neg e1]
 have e2:zAJ t k < (zAa t k).cl:=by omega
 rw [if_pos e2,if_neg]
 rw [Bool.not_eq_true,zCb];rintro j hj ⟨a,b,_⟩
 have:=zJk t k j hj;omega
theorem zAg.keepO {B:Nat} {w w':World} {v:Value} {l:List Opn} (h:zAg cdO B w v l) (hk:∀ g,v.ownBlock=some g->∀ o,w.heap[g]? = some o->w'.heap[g]? = some o):zAg cdO B w' v l:=by
 obtain⟨css,hl,hR,ho⟩:=h
 refine⟨css,hl,hR,ho.1,?_⟩
 rcases ho.2 with h1 | ⟨g,cap,cur,rfl,hb,hg,h3⟩
 ·exact .inl h1
 ·exact .inr ⟨g,cap,cur,rfl,hb,hk g rfl _ hg,h3⟩
theorem aA.setC {w:World} {v:Value} {l:List zAr} {c o:Nat} {u:Value} (h:aA w v l) (hc:∀ b,v.ownBlock=some b->0 < l.length->b ≠ c):aA (w.setCell ⟨c,o,none⟩ u) v l:=by
 obtain⟨a,cap,rfl,hcap,hcs⟩:=h
 refine⟨a,cap,rfl,hcap,fun k hk=>?_⟩
 obtain⟨b,off,rfl,hb,h1,h2⟩:=hcs k hk
 have hne:=hc b rfl (by omega)
 have hh:(w.setCell ⟨c,o,none⟩ u).heap[b]? = w.heap[b]?:=Below.heap_setCell _ _ _ _ hne
 refine⟨b,off,rfl,by simp [World.setCell];exact hb,?_,?_⟩
 ·simp only [World.cell?,hh];exact h1
 ·simp only [World.cell?,hh];exact h2
theorem zSv {t:List TrN} {k:Nat} (hk:k<=t.length) (h:zAW t k):(zBa t k).length<=9/\∀ d ∈ zBa t k,d.1<=24:=by
 by_cases hk0:k=0
 ·subst hk0;simp [zBa]
 obtain⟨h1,_⟩:=zAd (h (k - 1) (by omega))
 have hb:=zA4 h1
 refine⟨by rw [zGq hk0];omega,fun d hd=>?_⟩
 unfold zBa at hd
 rw [if_neg hk0] at hd
 obtain⟨j,_,rfl⟩:=List.mem_map.1 hd
 exact zLg k hk h _ (by omega)
def zXC (w w':World) (c:Nat):Prop:=∀ b cs E f,w.heap[b]? = some (.cells cs E f)->E ≠ 210->b ≠ c->w'.heap[b]? = some (.cells cs E f)
def zWu (W0 w:World) (c m1 m2:Nat) (t:List TrN) (k:Nat) (e:Ending) (w':World):Prop:=
 e= .returned (.int .i64 (zBf t k))/\Ext W0 w'/\(zBf t k=0->zOt W0 w' c m1 m2 t (k+1)/\zXC w w' c)
theorem zEA {W0 w w':World} {c m1 m2 k:Nat} {t:List TrN} {r:Int} (h:zBf t k=r) (hv:r ≠ 0) (hb:Ext W0 w'):zWu W0 w c m1 m2 t k (.returned (.int .i64 r)) w':=⟨by rw [h],hb,fun h0=>absurd (h.symm.trans h0) hv⟩
theorem zLI (t:List TrN) (k:Nat):zB7 t (k+1)= !((zAa t k).kd == 1):=by unfold zB7;rw [if_neg (by omega)];rfl
theorem zOh {W0:World} {t:List TrN} {k:Nat} {F:Int->Option Value} {va:Value} (h:zMd W0 t k F) (ha:aA W0 va (zAa t k).ats) (_hc0:0<=(zAa t k).cl) (hc1:(zAa t k).cl<=zAJ t k+1) :
  zMd W0 t (k+1) (if zAJ t k < (zAa t k).cl then upd F (zAa t k).cl (trV (zAa t k) va) else F):=by
 intro q hq hq2
 rw [zAJ.eq_2] at hq2
 by_cases e:zAJ t k < (zAa t k).cl
 ·rw [if_pos e]
  by_cases e2:q=(zAa t k).cl
  ·exact⟨k,va,by omega,e2.symm,by unfold upd;rw [if_pos e2],ha⟩
  ·obtain⟨i,vy,h1,h2,h3,h4⟩:=h q hq (by omega)
   exact⟨i,vy,by omega,h2,by unfold upd;rw [if_neg e2];exact h3,h4⟩
 ·rw [if_neg e]
  obtain⟨i,vy,h1,h2,h3,h4⟩:=h q hq (by omega)
  exact⟨i,vy,by omega,h2,h3,h4⟩
theorem zOm {t:List TrN} {k:Nat} {F:Int->Option Value} (h:zMe t k F):zMe t (k+1) (if (zAa t k).cl=0 then F else upd F (zAa t k).cl (.int .i64 ((zAi t (zAa t k).cl k:Int)+1))):=by
 intro q hq
 rw [zAi.eq_2]
 by_cases e:(zAa t k).cl=0
 ·rw [if_pos e,if_neg (by omega)];exact h q hq
 ·rw [if_neg e]
  unfold upd
  by_cases e2:q=(zAa t k).cl
  ·rw [if_pos e2,if_pos e2.symm,e2];rfl
  ·rw [if_neg e2,if_neg (fun x=>e2 x.symm)];exact h q hq
theorem zEJ (t:List TrN) (c:Int):∀ k,zAi t c k<=k
 | 0=>Nat.le_refl _
 | k+1=>by have:=zEJ t c k;rw [zAi.eq_2];split <;> omega
def zG1 (p:Nat->Bool) (n:Nat):Int:=match zBs p 0 n with | some i=>i | none=>-1
theorem zCk {p:Nat->Bool} {n:Nat} (h:∀ j,j < n->p j=false):zG1 p n= -1:=by unfold zG1;rw [zBm n 0 fun j _ hj=>h j (by omega)]
theorem zBX {p:Nat->Bool} {n i:Nat} (hi:i < n) (h:∀ j,j < i->p j=false) (hp:p i=true):zG1 p n=i:=by unfold zG1;rw [zBQ n 0 i (Nat.zero_le _) (by omega) (fun j _ hj=>h j hj) hp]
theorem zRB (w:World) (pb c m1 m2 n2:Nat) (vd v1 v4:Value) (F2:Int->Option Value) (x:TrN) (va:Value) (n:Nat)
  (hpb:w.cell? ⟨pb,0,none⟩=some (.pointer (some ⟨c,0,none⟩))) (hpl:pb < w.heap.size)
  (hblk:w.heap[c]? = some (.cells #[vd,v1,.map (some m1),.map (some m2),v4] 149 (0,0))) (hM2:zAD kI w m2 n2 F2)
  (ha:∃ a n cap,va= .slice a n cap) (hc:0 < x.cl->(F2 x.cl).getD (.int .i64 0)= .int .i64 n) :
  zAt Tryz.prog 128 #[trV x va,.pointer (some ⟨pb,0,none⟩)] w (.bool (decide (0 < x.cl) && n == 1)):=by
 obtain⟨a3,n3,cap3,rfl⟩:=ha
 unfold zAt
 have hcl:=bL hblk
 have k3:w.cell? ⟨c,3,none⟩=some (.map (some m2)):=bC hblk 3
 have HM2:=hQq hM2;have HC:=hQq hc;have HB:=hQq hblk
 clear hblk hM2 hc
 unfold trV
 by_cases e0:0 < x.cl
 case neg=>
  have e0':decide (0 < x.cl)=false:=decide_eq_false e0
  go_enter Tryz.func128,Tryz.ntmps128
  go_wp2
  go_quiet (fail)
  go_wp2
  go_ret
  rw [e0']
  exact⟨rfl,(eA _ _).trans (eDn _ _)⟩
 have hn:((n:Int) == 1)=(n == 1):=by
  cases h:n == 1
  ·rw [beq_eq_false_iff_ne] at h ⊢;omega
  ·rw [beq_iff_eq] at h ⊢;omega
 have hlk:∀ (o:Obj) k,(Instr.lookup 146 (.map (some m2)) (.int .i64 x.cl) false).run Tryz.prog ((w.alloc o).drewN k)= .ok (.int .i64 n) ((w.alloc o).drewN k):=by
  intro o k
  have:=(HM2.out.ext ((eA w o).trans (eDn _ k))).look zAZ zAB (zB2 _) x.cl false
  rw [HC.out e0] at this;exact this
 go_enter Tryz.func128,Tryz.ntmps128
 go_wp2
 go_quiet (fail)
 go_wp2
 go_ret
 rw [decide_eq_true e0,Bool.true_and]
 exact⟨rfl,(eA _ _).trans (eDn _ _)⟩
theorem zON (B:Nat) (w:World) (u:Value) (t:List TrN) (pb:Nat) (p:Nat->Bool) (hu:zCt B w u t) (hl:t.length<=1000000)
  (hf:∀ k w' a n cap,k < t.length->Ext w w'->zAt Tryz.prog 128 #[trV (zAa t k) (.slice a n cap),.pointer (some ⟨pb,0,none⟩)] w' (.bool (p k))) :
  zAt Tryz.prog 83 #[u,.func (.func 128) #[] #[.pointer (some ⟨pb,0,none⟩)]] w (.int .i64 (zG1 p t.length)):=by
 unfold zAt
 obtain⟨aa,cap,rfl⟩:=hu.form
 have HU:=hQq hu;have HF:=hQq hf;clear hu hf
 have he:∀ args w,(callFunc 128 args).run Tryz.prog w= .ok (.enter 128 args) w:=enters_of Tryz.func128 (by kernel_rfl) rfl
 go_enter Tryz.func83,Tryz.ntmps83
 go_wp2
 go_loopw [5,8] (fun _ i w'=>∃ (wi:World) (k:Nat),wi=w'/\k<=t.length/\i= .int .i64 k/\(∀ j,j < k->p j=false)/\Ext w w') (fun _ i _=>t.length - (intOf i).toNat)
 case atStart=>exact⟨_,0,rfl,Nat.zero_le _,rfl,fun j hj=>absurd hj (by omega),bR _ _⟩
 case round=>
  obtain⟨wi,k,rfl,hk,rfl,hp,hb⟩:=hrel
  have HP:=hQq hp;clear hp
  by_cases hlt:k < t.length
  case neg=>
   obtain rfl:k=t.length:=by omega
   have HR:=hQq (zCk HP.out)
   have HB:=hQq hb;clear hb
   go_wp2
   go_ret
   exact⟨by rw [HR.out];rfl,HB.out⟩
  obtain⟨b,off,va,hex,hbx,hva,xx⟩:=HU.out.tr k hlt
  cases hex
  have XX:=zAG hb hbx xx
  obtain⟨a3,cap3,rfl⟩:=hva.form
  have HGT:=hQq (zAm t k hlt)
  have HB:=hQq hb
  generalize t[k]'hlt=x at XX hva xx HGT
  have HFK:=hQq (fun w' a n cap h=>HF.out k w' a n cap hlt h)
  rw [HGT.out] at HFK
  have j1:((k:Nat):Int) < (t.length:Int):=by omega
  have j0:(0:Int)<=(k:Int):=by omega
  clear hva xx
  have HC:=hQq (HFK.out wi a3 x.ats.length cap3 HB.out)
  clear HFK
  unfold zAt trV at HC
  cases hpk:p k
  all_goals
   rw [hpk] at HC
   have HPK:=hQq hpk
   clear hb hpk
   go_wp2_with (refine HC.out.mono ?_;rintro e w1 ⟨rfl,hb1⟩;replace HB:=hQq (Ext.trans HB.out hb1);clear hb1)
  ·have HN:Hid (∀ j,j < k+1->p j=false):=by
    intro j hj
    by_cases e:j=k
    ·subst e;exact HPK.out
    ·exact HP.out j (by omega)
   go_roundw
   case rel=>exact⟨_,k+1,rfl,by omega,by go_num,HN.out,HB.out⟩
   case measure=>simp [intOf] <;> omega
  ·have HR:=hQq (zBX hlt HP.out HPK.out)
   go_ret
   exact⟨by rw [HR.out];rfl,HB.out⟩
theorem zM5 {p:Nat->Bool}:∀ n,(∀ j,j < n->p j=false)\/∃ i,i < n/\(∀ j,j < i->p j=false)/\p i=true
 | 0=>.inl fun j h=>by omega
 | n+1=>by
  rcases zM5 n with h | ⟨i,h1,h2,h3⟩
  ·cases hp:p n
   ·exact .inl fun j hj=>by
     by_cases e:j=n
     ·subst e;exact hp
     ·exact h j (by omega)
   ·exact .inr ⟨n,by omega,h,hp⟩
  ·exact .inr ⟨i,by omega,h2,h3⟩
theorem zAH {w:World} {o:Obj} {n:Nat} (h:n=w.heap.size):(w.alloc o).heap[n]? = some o:=by subst h;exact bN w o
theorem zSh {K:Type} {κ:K->Value} {w:World} {n:Nat} (h:n=w.heap.size):zAD κ (w.alloc (.map #[] 0)) n 0 (fun _=>none):=by subst h;exact zBI w κ
theorem zVz {a:Nat}:(decide ((0:Int)<=(a:Int)))=true:=decide_eq_true (by omega)
def plT (l:List BrN):List TrN:=l.map BrN.toTrN
theorem zAh (l:List BrN):(plT l).length=l.length:=by simp [plT]
theorem zJa (l:List BrN) (k:Nat) (h:k < l.length):plT (l.take (k+1))=plT (l.take k) ++ [(l[k]'h).toTrN]:=by
 unfold plT;rw [List.take_succ_eq_append_getElem h,List.map_append];rfl
theorem zGe (l:List BrN):plT (l.take l.length)=plT l:=by rw [List.take_length]
def zU9 (w:World) (b:List BrN) (e:Ending) (w':World):Prop:=(∃ a cap,e= .returned (.slice a b.length cap)/\zAg cdT w.heap.size w' (.slice a b.length cap) (plT b))/\Ext w w'
theorem zLV {w w':World} {b o:Nat} {v0 v1 v2 v3 v4 v5 v6 v7 v8 v9:Value} (he:Ext w w') (hb:b < w.heap.size)
  (h:w.cell? ⟨b,o,none⟩=some v0/\w.cell? ⟨b,o+1,none⟩=some v1/\w.cell? ⟨b,o+2,none⟩=some v2/\w.cell? ⟨b,o+3,none⟩=some v3/\w.cell? ⟨b,o+4,none⟩=some v4/\w.cell? ⟨b,o+5,none⟩=some v5/\w.cell? ⟨b,o+6,none⟩=some v6/\w.cell? ⟨b,o+7,none⟩=some v7/\w.cell? ⟨b,o+8,none⟩=some v8/\w.cell? ⟨b,o+9,none⟩=some v9) :
  w'.cell? ⟨b,o,none⟩=some v0/\w'.cell? ⟨b,o+1,none⟩=some v1/\w'.cell? ⟨b,o+2,none⟩=some v2/\w'.cell? ⟨b,o+3,none⟩=some v3/\w'.cell? ⟨b,o+4,none⟩=some v4/\w'.cell? ⟨b,o+5,none⟩=some v5/\w'.cell? ⟨b,o+6,none⟩=some v6/\w'.cell? ⟨b,o+7,none⟩=some v7/\w'.cell? ⟨b,o+8,none⟩=some v8/\w'.cell? ⟨b,o+9,none⟩=some v9:=by
 obtain⟨h0,h1,h2,h3,h4,h5,h6,h7,h8,h9⟩:=h
 exact⟨(eC he hb).trans h0,(eC he hb).trans h1,(eC he hb).trans h2,(eC he hb).trans h3,(eC he hb).trans h4,(eC he hb).trans h5,(eC he hb).trans h6,(eC he hb).trans h7,(eC he hb).trans h8,(eC he hb).trans h9⟩
theorem zW7 {P:Program} {α:Type} {C:Cd α} (K:zEN P C) (w:World) {ops:Array Oper} {rest:List Oper} {o:Oper} {a:Act} {Q:Exit->Act->World->Prop}
  (hg:o.guard=none) (l c:Operand) (hop:o.op=Op.makeSlice C.t l c) (n:Nat) (hl:a.eval l= .int .i64 0) (hc:a.eval c= .int .i64 n) (hn:n<=1000000)
  (hK:∀ w',zAg C w.heap.size w' (.slice (some ⟨w.heap.size,0,none⟩) 0 n) []->Ext w w'->wpList P ops Q rest (a.put o.dst (.slice (some ⟨w.heap.size,0,none⟩) 0 n)) w') :
  wpList P ops Q (o :: rest) a w:=by
 obtain⟨i,hi,hz,h3,h4⟩:=K.sl.info
 have hsm:=K.sl.small
 refine wpList_make_own w hg l c C.t hop w.heap.size C.e i _ C.n K.sl.und hi hz h3 .i64 .i64 n n hl hc rfl ?_ (by unfold maxLen;omega) (Nat.le_refl _) fun w' h1 h2=>hK w' ⟨[],rfl,fun k hk=>absurd hk (by simp),h1⟩ ?_
 ·have:i.bytes * n<=1000 * 1000000:=Nat.mul_le_mul (by omega) hn
  omega
 ·exact Below.grown (bR _ _) h2 (Nat.le_refl _) (fun k hk=>by cases hk)
def zOB:Cd TrN:={cdT with R:=fun _ w x cs=>∃ va,zAK 0 w va x.ats/\cs=trC x va}
theorem zK4:zEN Tryz.prog zOB where
 sl:=okT.sl
 len:=fun h=>by obtain⟨va,_,rfl⟩:=h;rfl
 one:=fun h=>okT.one (B:=0) h
 chg:=fun {B w w' x cs E row} h c hE=>okT.chg (B:=0) h ⟨c.keep,c.size,fun g hg=>⟨Nat.zero_le _,(c.isrow g hg).2⟩⟩ hE
 mono:=fun _ h=>h
 self:=okT.self
def zTL (w:World) (b:List BrN) (e:Ending) (w':World):Prop:=(∃ a cap,e= .returned (.slice a b.length cap)/\zAg zOB w.heap.size w' (.slice a b.length cap) (plT b))/\Ext w w'
theorem zAg.to {B B':Nat} {w:World} {v:Value} {l:List TrN} (h:zAg zOB B w v l) (hB:B'<=B):zAg cdT B' w v l:=by
 obtain⟨css,hl,hR,ho⟩:=h
 exact⟨css,hl,fun k h h'=>okT.mono (Nat.zero_le _) (hR k h h'),ho.1,ho.2.imp_right fun ⟨g,cap,cur,h1,h2,h3⟩=>⟨g,cap,cur,h1,Nat.le_trans hB h2,h3⟩⟩
def zXY:BrN:={zVj with opq:=false,red:=[]}
def zAk (b:List BrN) (i:Nat):BrN:=b.getD i zXY
theorem zAw (b:List BrN) (i:Nat) (h:i < b.length):zAk b i=b[i]'h:=by unfold zAk;simp [List.getD,h]
theorem zAv (b:List BrN) (i:Nat) (h:i < b.length):zAa (plT b) i=(zAk b i).toTrN:=by
 rw [zAm _ _ (by rw [zAh];exact h),zAw _ _ h];simp [plT]
def zDB (t:List TrN) (d:Int):Nat->Int
 | 0=>-1
 | n+1=>if (zAa t n).dep < d then n else zDB t d n
def abv (t:List TrN) (i:Nat):Int:=zDB t (zAa t i).dep i
theorem zRl (t:List TrN) (d:Int):∀ n,-1<=zDB t d n/\zDB t d n < n
 | 0=>⟨Int.le_refl _,by show (-1:Int) < 0;decide⟩
 | n+1=>by
  have:=zRl t d n
  unfold zDB;split <;> omega
def zLn (t:List TrN):Nat->Nat->List ByteArray
 | 0,_=>[]
 | f+1,i=>if i=0 then [] else zLn t f (abv t i).toNat ++ [(zAa t i).nm]
def zAx (t:List TrN) (i:Nat):List ByteArray:=zLn t (i+1) i
theorem zCN (t:List TrN) (i:Nat): -1<=abv t i/\abv t i < i:=zRl _ _ _
theorem zRX (t:List TrN):∀ (i f f':Nat),i < f->i < f'->zLn t f i=zLn t f' i:=by
 intro i
 induction i using Nat.strongRecOn with
 | ind i ih=>
  intro f f' h h'
  obtain⟨g,rfl⟩:∃ g,f=g+1:=⟨f - 1,by omega⟩
  obtain⟨g',rfl⟩:∃ g,f'=g+1:=⟨f' - 1,by omega⟩
  unfold zLn
  by_cases e:i=0
  ·rw [if_pos e,if_pos e]
  ·rw [if_neg e,if_neg e]
   have:=zCN t i
   rw [ih (abv t i).toNat (by omega) g g' (by omega) (by omega)]
theorem zDJ (t:List TrN):zAx t 0= []:=rfl
theorem zCz (t:List TrN) (i:Nat) (h:i ≠ 0):zAx t i=zAx t (abv t i).toNat ++ [(zAa t i).nm]:=by
 have:=zCN t i
 show zLn t (i+1) i=_
 rw [zLn.eq_2,if_neg h]
 unfold zAx
 rw [zRX t (abv t i).toNat i ((abv t i).toNat+1) (by omega) (by omega)]
theorem zDK (t:List TrN):∀ i,(zAx t i).length<=i:=by
 intro i
 induction i using Nat.strongRecOn with
 | ind i ih=>
  by_cases e:i=0
  ·subst e;rw [zDJ];simp
  ·have:=zCN t i
   rw [zCz t i e,List.length_append]
   have:=ih (abv t i).toNat (by omega)
   simp;omega
theorem zRk {t:List TrN} {d:Int}:∀ {n j:Nat},j < n->(zAa t j).dep < d->0<=zDB t d n
 | n+1,j,hj,hd=>by
  unfold zDB
  by_cases e:(zAa t n).dep < d
  ·rw [if_pos e];omega
  ·rw [if_neg e]
   exact zRk (j:=j) (by by_cases e2:j=n;subst e2;exact absurd hd e;omega) hd
theorem zTK {t:List TrN} {k i:Nat} (h:zAW t k) (hi:i < k) (h0:i ≠ 0):0<=abv t i:=by
 obtain⟨s0,_⟩:=zAd (h 0 (by omega))
 obtain⟨si,_⟩:=zAd (h i hi)
 have:=(zA4 s0).2.2.1 rfl
 have:=(zA4 si).2.2.2 h0
 exact zRk (j:=0) (by omega) (by omega)
def zXR {α:Type} (C:Cd α) (w:World) (l:List α) (e:Ending) (w':World):Prop:=(∃ a n cap,e= .returned (.slice a n cap)/\zAg C w.heap.size w' (.slice a n cap) l)/\Ext w w'
def zFd (b:List BrN) (r:List ByteArray):Nat->Bool
 | 0=>false
 | k+1=>zFd b r k || decide (r=(zAk b k).red)
def zDo (b:List BrN) (i:Nat):Bool:=(zAk b i).kd == 5 && decide (0<=abv (plT b) i) && (zAk b (abv (plT b) i).toNat).opq
def zAO (b:List BrN) (i:Nat):Int:=
 if (((zAk b i).opq=true\/0 < (zAk b i).red.length)/\(zAk b i).kd ≠ 1)\/(i=0/\0 < (zAk b i).red.length) then 14
 else if (zAk b i).opq=true/\0 < (zAk b i).red.length then 6
 else if 0 < (zAk b i).red.length/\zAY (zAk b i).red ≠ 0 then zAY (zAk b i).red
 else if 0 < (zAk b i).red.length/\(zAk b i).red=zAx (plT b) i then 6
 else if 0 < (zAk b i).red.length/\zFd b (zAk b i).red i=true then 8
 else if zDo b i=true then 6 else 0
section
variable {b:List BrN} {i:Nat} {x:BrN} (hg:zAk b i=x)
include hg
theorem zCB (h:((x.opq=true\/0 < x.red.length)/\x.kd ≠ 1)\/(i=0/\0 < x.red.length)):zAO b i=14:=by subst hg;exact if_pos h
theorem zIx (h1:x.kd=1) (h2:i ≠ 0) (h3:x.opq=true) (h4:0 < x.red.length):zAO b i=6:=by
 subst hg;unfold zAO;rw [if_neg (fun h=>h.elim (fun h=>h.2 h1) (fun h=>h2 h.1)),if_pos ⟨h3,h4⟩]
theorem zIw (h1:x.kd=1) (h2:i ≠ 0) (h3:x.opq=false) (h4:0 < x.red.length) (h:zAY x.red ≠ 0):zAO b i=zAY x.red:=by
 subst hg;unfold zAO;rw [if_neg (fun h=>h.elim (fun h=>h.2 h1) (fun h=>h2 h.1)),if_neg (by simp [h3]),if_pos ⟨h4,h⟩]
theorem zIu (h1:x.kd=1) (h2:i ≠ 0) (h3:x.opq=false) (h4:0 < x.red.length) (h5:zAY x.red=0) (h:x.red=zAx (plT b) i):zAO b i=6:=by
 subst hg;unfold zAO;rw [if_neg (fun h=>h.elim (fun h=>h.2 h1) (fun h=>h2 h.1)),if_neg (by simp [h3]),if_neg (fun h=>h.2 h5),if_pos ⟨h4,h⟩]
theorem zIv (h1:x.kd=1) (h2:i ≠ 0) (h3:x.opq=false) (h4:0 < x.red.length) (h5:zAY x.red=0) (h6:x.red ≠ zAx (plT b) i) (h:zFd b x.red i=true):zAO b i=8:=by
 subst hg;unfold zAO;rw [if_neg (fun h=>h.elim (fun h=>h.2 h1) (fun h=>h2 h.1)),if_neg (by simp [h3]),if_neg (fun h=>h.2 h5),if_neg (fun h=>h6 h.2),if_pos ⟨h4,h⟩]
theorem zKu (h1:x.kd=1) (h2:i ≠ 0) (h3:x.opq=false) (h4:0 < x.red.length) (h5:zAY x.red=0) (h6:x.red ≠ zAx (plT b) i) (h:zFd b x.red i=false):zAO b i=0:=by
 subst hg;unfold zAO;rw [if_neg (fun h=>h.elim (fun h=>h.2 h1) (fun h=>h2 h.1)),if_neg (by simp [h3]),if_neg (fun h=>h.2 h5),if_neg (fun h=>h6 h.2),if_neg (fun e=>by rw [h] at e;cases e.2),if_neg (by unfold zDo;rw [h1];simp)]
theorem zD4 (h1:¬ (x.opq=true/\x.kd ≠ 1)) (h4:¬ 0 < x.red.length):zAO b i=if zDo b i=true then 6 else 0:=by
 subst hg;unfold zAO
 rw [if_neg (fun h=>h.elim (fun h=>h.1.elim (fun e=>h1 ⟨e,h.2⟩) h4) (fun h=>h4 h.2)),if_neg (fun h=>h4 h.2),if_neg (fun h=>h4 h.1),if_neg (fun h=>h4 h.1),if_neg (fun h=>h4 h.1)]
end
structure zBr (b:List BrN):Prop where
 tree:zAP (plT b)
 ats:∀ x ∈ b,x.ats.length<=1000
 red:∀ x ∈ b,x.red.length<=1000/\∀ s ∈ x.red,s.size<=1000000
 len:b.length<=1000
theorem zBd {B:Nat} {w w':World} {v:Value} {l:List ByteArray} (h:zCu B w v l) (he:Ext w w'):zBY w' v l:=(h.ext okS he).strs
theorem zVF {n:Nat} (h:¬ 0 < n):decide ((0:Int) < (n:Int))=false:=decide_eq_false (by omega)
theorem zVG {n:Nat} (h:0 < n):decide ((0:Int) < (n:Int))=true:=decide_eq_true (by omega)
theorem zFA {P : Program} (w : World) (dT sT ty elem : TypeId) (sz g o dLen dCap : Nat) (a : Addr) (sLen sCap : Nat) (cur : Array Value) (t : TypeId) (cs : List Value)
  (hu : P.underlying dT = some (.slice elem)) (hs : (P.info? elem).map (·.size) = some sz)
  (hg : w.heap[g]? = some (.cells cur t (0, 0))) (hn : cs.length = Nat.min sLen dLen * sz)
  (hsrc : ∀ j v, cs[j]? = some v -> w.cell? (a.add j) = some v) (hfit : o + cs.length <= cur.size) (h1 : ∀ v ∈ cs, v.oneCell' = true) :
  (Builtin.copy_ #[dT, sT] ty #[.slice (some ⟨g, o, none⟩) dLen dCap, .slice (some a) sLen sCap]).run P w =
   .ok (goInt (Nat.min sLen dLen)) (w.setRow g (cur.toList.take o ++ cs ++ cur.toList.drop (o + cs.length)).toArray) := by
 have hl := run_loadCells_list (P := P) w a cs hsrc
 have hst := run_storeCells_at P g o t cs 0 cur w hg (by simpa using hfit) h1
 cases hq : P.info? elem with
 | none => simp [hq] at hs
 | some i =>
  have hi : i.size = sz := by simpa [hq] using hs
  simp [Builtin.copy_, run_underlying hu, Builtin.lenOf, Builtin.firstCells, sizeOf, typeInfo, hq, hi, <- hn, hl, hst]
theorem zPH (C0 m:List Value) (o:Nat) (h:o+m.length<=C0.length):(C0.take o ++ m ++ C0.drop (o+m.length)).length=C0.length:=by
 simp only [List.length_append,List.length_take,List.length_drop];omega
theorem zRL (C0 m:List Value) (o k:Nat) (hk:k<=o) (ho:o<=C0.length):(C0.take o ++ m ++ C0.drop (o+m.length)).take k=C0.take k:=by
 rw [List.append_assoc,List.take_append_of_le_length (by rw [List.length_take];omega),List.take_take,Nat.min_eq_left hk]
theorem zRM (C0 m:List Value) (o:Nat) (ho:o<=C0.length):(C0.take o ++ m ++ C0.drop (o+m.length)).drop o=m ++ C0.drop (o+m.length):=by
 rw [List.append_assoc,List.drop_append_of_le_length (by rw [List.length_take];omega),List.drop_of_length_le (by rw [List.length_take];omega),List.nil_append]
theorem zP2 (C0 xs vs:List Value) (N I:Nat) (hI:I<=N) (hN:N+vs.length<=C0.length) (hx:xs=C0.take N) :
  (((C0.take (I+vs.length) ++ xs.drop I ++ C0.drop (I+vs.length+(xs.drop I).length)).take I ++ vs ++ (C0.take (I+vs.length) ++ xs.drop I ++ C0.drop (I+vs.length+(xs.drop I).length)).drop (I+vs.length)).take (N+vs.length))=xs.take I ++ vs ++ xs.drop I:=by
 have hl:xs.length=N:=by rw [hx,List.length_take];omega
 rw [zRL C0 _ _ I (by omega) (by omega),zRM C0 _ _ (by omega),show C0.take I=xs.take I by rw [hx,List.take_take,Nat.min_eq_left hI],<- List.append_assoc]
 rw [List.take_append_of_le_length (by simp only [List.length_append,List.length_take,List.length_drop];omega)]
 exact List.take_of_length_le (by simp only [List.length_append,List.length_take,List.length_drop];omega)
theorem zSp (R xs vs:List Value) (N I:Nat) (hI:I<=N) (hN:N+vs.length<=R.length) (hl:xs.length=N) (hx:xs.take I=R.take I) :
  (((R.take I ++ vs ++ R.drop (I+vs.length)).take (I+vs.length) ++ xs.drop I ++ (R.take I ++ vs ++ R.drop (I+vs.length)).drop (I+vs.length+(xs.drop I).length)).take (N+vs.length))=xs.take I ++ vs ++ xs.drop I:=by
 have h1:(R.take I ++ vs ++ R.drop (I+vs.length)).take (I+vs.length)=xs.take I ++ vs:=by
  rw [List.take_append_of_le_length (by simp only [List.length_append,List.length_take];omega),List.take_of_length_le (by simp only [List.length_append,List.length_take];omega),hx]
 rw [h1,List.take_append_of_le_length (by simp only [List.length_append,List.length_take,List.length_drop];omega)]
 exact List.take_of_length_le (by simp only [List.length_append,List.length_take,List.length_drop];omega)
theorem zKC {n:Nat} {css:List (List Value)} (h:∀ cs ∈ css,cs.length=n) (k:Nat):(css.take k).flatten=css.flatten.take (k * n)/\(css.drop k).flatten=css.flatten.drop (k * n):=by
 induction css generalizing k with
 | nil=>simp
 | cons c r ih=>
  have hc:=h c (by simp)
  cases k with
  | zero=>simp
  | succ k=>
   obtain⟨e1,e2⟩:=ih (fun cs hcs=>h cs (by simp [hcs])) k
   rw [List.take_succ_cons,List.drop_succ_cons,List.flatten_cons,List.flatten_cons,e1,e2,Nat.succ_mul,Nat.add_comm (k * n) n,<- hc]
   exact⟨by rw [List.take_length_add_append],by rw [List.drop_length_add_append]⟩
theorem zOn {B E g:Nat} {w:World} {cur:Array Value} {f:Nat × Nat} (hg:w.heap[g]? = some (.cells cur E f)) (hB:B<=g) (cs:Array Value):Chg B E (some g) w (w.setRow g cs) where
 keep:=fun b o hb hne=>(setRow_other w g b cs (fun e=>hne (by rw [e]))).trans hb
 size:=by simp
 isrow:=fun g' e=>by cases e;exact⟨hB,_,_,hg⟩
theorem zHr {α β : Type} {R : α -> β -> Prop} {l m : List α} {c d : List β} (hl : l.length = c.length) (h1 : ∀ k (h : k < l.length) (h' : k < c.length), R (l[k]'h) (c[k]'h')) (h2 : ∀ k (h : k < m.length) (h' : k < d.length), R (m[k]'h) (d[k]'h')) :
  ∀ k (h : k < (l ++ m).length) (h' : k < (c ++ d).length), R ((l ++ m)[k]'h) ((c ++ d)[k]'h') := by
 intro k h h'
 by_cases hk:k < l.length
 ·have e1:(l ++ m)[k]'h=l[k]'hk:=List.getElem_append_left hk
  have e2 : (c ++ d)[k]'h' = c[k]'(by omega) := List.getElem_append_left (by omega)
  rw [e1,e2];exact h1 _ _ _
 ·have h3:=h;have h4:=h'
  rw [List.length_append] at h3 h4
  have e1:(l ++ m)[k]'h=m[k - l.length]'(by omega):=List.getElem_append_right (by omega)
  have e2 : (c ++ d)[k]'h' = d[k - c.length]'(by omega) := List.getElem_append_right (by omega)
  rw [e1,e2]
  have e3:k - c.length=k - l.length:=by omega
  simp only [e3]
  exact h2 _ _ _
theorem zMB {P:Program} {α:Type} {C:Cd α} {B g n cap:Nat} {w w':World} {l xs:List α} {css dss:List (List Value)} {cur:Array Value} (K:zEN P C) (i:Nat) (hi:i<=l.length) (hl:css.length=l.length) (hx:dss.length=xs.length)
  (hR : ∀ k (h : k < l.length) (h' : k < css.length), C.R B w (l[k]'h) (css[k]'h')) (hS : ∀ k (h : k < xs.length) (h' : k < dss.length), C.R B w (xs[k]'h) (dss[k]'h')) {row : Option Nat} (hc : Chg B C.e row w w')
  (hn:n=l.length+xs.length) (hB:B<=g) (hg:w'.heap[g]? = some (.cells cur C.e (0,0))) (hcap:n<=cap) (hm:cap<=maxLen) (hs:cur.size=cap * C.n)
  (ht:cur.toList.take (n * C.n)=css.flatten.take (i * C.n) ++ dss.flatten ++ css.flatten.drop (i * C.n)) :
  zAg C B w' (.slice (some ⟨g,0,none⟩) n cap) (l.take i ++ xs ++ l.drop i):=by
 have hlen:=zAg.lens K hl hR
 have hlen2:=zAg.lens K hx hS
 have e:css.flatten.take (i * C.n) ++ dss.flatten ++ css.flatten.drop (i * C.n)=(css.take i ++ dss ++ css.drop i).flatten:=by
  rw [List.flatten_append,List.flatten_append,(zKC hlen i).1,(zKC hlen i).2]
 have hln:(l.take i ++ xs ++ l.drop i).length=n:=by simp only [List.length_append,List.length_take,List.length_drop];omega
 refine⟨css.take i ++ dss ++ css.drop i,by simp only [List.length_append,List.length_take,List.length_drop];omega,fun k h h'=>K.chg ?_ hc K.self,?_,?_⟩
 ·refine zHr (by simp only [List.length_append,List.length_take];omega) (zHr (by simp only [List.length_take];omega) (fun k h h'=>?_) hS) (fun k h h'=>?_) k h h'
  ·have e1:(l.take i)[k]'h=l[k]'(by rw [List.length_take] at h;omega):=List.getElem_take
   have e2 : (css.take i)[k]'h' = css[k]'(by rw [List.length_take] at h'; omega) := List.getElem_take
   rw [e1,e2];exact hR k _ _
  ·have e1:(l.drop i)[k]'h=l[i+k]'(by rw [List.length_drop] at h;omega):=List.getElem_drop
   have e2 : (css.drop i)[k]'h' = css[i + k]'(by rw [List.length_drop] at h'; omega) := List.getElem_drop
   rw [e1,e2];exact hR (i+k) _ _
 ·rw [zB3 (n:=C.n) (fun cs hcs=>?_),hln]
  ·congr 1;simp only [List.length_append,List.length_take,List.length_drop];omega
  ·rcases List.mem_append.1 hcs with hcs | hcs
   ·rcases List.mem_append.1 hcs with hcs | hcs
    ·exact hlen cs (List.mem_of_mem_take hcs)
    ·exact hlen2 cs hcs
   ·exact hlen cs (List.mem_of_mem_drop hcs)
 ·rw [hln]
  exact .inr ⟨g,cap,cur,rfl,hB,hg,hcap,hm,hs,by rw [ht,e]⟩
theorem zAj.zero {α:Type} {C:Cd α} {B:Nat} {w:World} {v:Value} {l:List α} (h:zAj C B w v l) (hv:∃ n cap,v= .slice none n cap):l= []:=by
 obtain⟨a,cap,rfl,_,_,hc⟩:=h
 obtain⟨n',cap',he⟩:=hv
 cases he
 cases l with
 | nil=>rfl
 | cons y r=>obtain⟨b,off,cs,h0,_⟩:=hc 0 (by simp);cases h0
def zTZ (t:List TrN):Nat->Nat->List Nat
 | 0,_=>[]
 | f+1,i=>if i=0 then [0] else zTZ t f (abv t i).toNat ++ [i]
def zEq (t:List TrN) (i:Nat):List Nat:=zTZ t (i+1) i
theorem zTY (t:List TrN):∀ (i f f':Nat),i < f->i < f'->zTZ t f i=zTZ t f' i:=by
 intro i
 induction i using Nat.strongRecOn with
 | ind i ih=>
  intro f f' h h'
  obtain⟨g,rfl⟩:∃ g,f=g+1:=⟨f - 1,by omega⟩
  obtain⟨g',rfl⟩:∃ g,f'=g+1:=⟨f' - 1,by omega⟩
  unfold zTZ
  by_cases e:i=0
  ·rw [if_pos e,if_pos e]
  ·rw [if_neg e,if_neg e]
   have:=zCN t i
   rw [ih (abv t i).toNat (by omega) g g' (by omega) (by omega)]
theorem zOU (t:List TrN):zEq t 0= [0]:=rfl
theorem zFr (t:List TrN) (i:Nat) (h:i ≠ 0):zEq t i=zEq t (abv t i).toNat ++ [i]:=by
 have:=zCN t i
 show zTZ t (i+1) i=_
 rw [zTZ.eq_2,if_neg h]
 unfold zEq
 rw [zTY t (abv t i).toNat i ((abv t i).toNat+1) (by omega) (by omega)]
theorem zOV (t:List TrN) (i:Nat):(zEq t i).getLast? = some i:=by
 by_cases h:i=0
 ·subst h;rfl
 ·rw [zFr t i h];simp
theorem zKX {t:List TrN} {d d':Int} (hd:d<=d'):∀ n,zDB t d n=zDB t d ((zDB t d' n)+1).toNat
 | 0=>rfl
 | n+1=>by
  by_cases e:(zAa t n).dep < d'
  ·rw [zDB.eq_2 t d',if_pos e];rfl
  ·rw [zDB.eq_2 t d',if_neg e,zDB.eq_2 t d,if_neg (by omega)]
   exact zKX hd n
theorem zE3 {t:List TrN} {k i:Nat} (h:zAW t k) (hi:i < k) (h0:i ≠ 0):1<=(zAa t i).dep/\(zAa t i).dep<=(zAa t (i - 1)).dep+1:=by
 obtain⟨si,_⟩:=zAd (h i hi)
 have h2:=(zA4 si).2.2.2 h0
 refine⟨h2.1,Int.le_trans h2.2 ?_⟩
 unfold zEn;split <;> omega
theorem zFW {t:List TrN} {k:Nat} (h:zAW t k) (hk:0 < k):(zAa t 0).dep=0:=by
 obtain⟨s0,_⟩:=zAd (h 0 hk)
 exact((zA4 s0).2.2.1 rfl).1
theorem zNJ {t:List TrN} {k:Nat} (h:zAW t k) (d:Int) (hd:1<=d):∀ n,0 < n->n<=k->d<=(zAa t (n - 1)).dep+1->0<=zDB t d n/\(zAa t (zDB t d n).toNat).dep=d - 1
 | n+1,_,hn,hp=>by
  unfold zDB
  rw [Nat.add_sub_cancel] at hp
  by_cases e:(zAa t n).dep < d
  ·rw [if_pos e];exact⟨by omega,by rw [Int.toNat_natCast];omega⟩
  ·rw [if_neg e]
   have hn0:n ≠ 0:=by rintro rfl;have:=zFW h (by omega);omega
   have:=zE3 h (i:=n) (by omega) hn0
   exact zNJ h d hd n (by omega) (by omega) (by omega)
theorem zJ2 {t:List TrN} {k i:Nat} (h:zAW t k) (hi:i < k) (h0:i ≠ 0):0<=abv t i/\(zAa t (abv t i).toNat).dep=(zAa t i).dep - 1:=by
 have:=zE3 h hi h0
 exact zNJ h _ this.1 i (by omega) (by omega) this.2
theorem zKw {t:List TrN} {k:Nat} (h:zAW t k):∀ i,i < k->((zEq t i).length:Int)=(zAa t i).dep+1/\((zAx t i).length:Int)=(zAa t i).dep:=by
 intro i
 induction i using Nat.strongRecOn with
 | ind i ih=>
  intro hi
  by_cases h0:i=0
  ·subst h0;have:=zFW h hi;rw [zOU,zDJ,this];exact⟨rfl,rfl⟩
  ·have hb:=zCN t i
   obtain⟨h1,h2⟩:=zJ2 h hi h0
   obtain⟨h3,h4⟩:=ih (abv t i).toNat (by omega) (by omega)
   rw [zFr t i h0,zCz t i h0,List.length_append,List.length_append,List.length_singleton,List.length_singleton]
   omega
theorem zRD {t:List TrN} {k:Nat} (h:zAW t k) (d:Nat) (hd:1<=d):∀ j,j < k->(d:Int)<=(zAa t j).dep+1 ->
  (zEq t j).take d=zEq t (zDB t d (j+1)).toNat/\(zAx t j).take (d - 1)=zAx t (zDB t d (j+1)).toNat:=by
 intro j
 induction j using Nat.strongRecOn with
 | ind j ih=>
  intro hj hdj
  obtain⟨l1,l2⟩:=zKw h j hj
  by_cases e:(zAa t j).dep < (d:Int)
  ·have h1:zDB t d (j+1)=j:=by unfold zDB;rw [if_pos e]
   rw [h1,Int.toNat_natCast,List.take_of_length_le (by omega),List.take_of_length_le (by omega)]
   exact⟨rfl,rfl⟩
  ·have h0:j ≠ 0:=by rintro rfl;have:=zFW h hj;omega
   have hb:=zCN t j
   obtain⟨h1,h2⟩:=zJ2 h hj h0
   obtain⟨l3,l4⟩:=zKw h (abv t j).toNat (by omega)
   have h3:zDB t d (j+1)=zDB t d ((abv t j).toNat+1):=by
    rw [zDB.eq_2,if_neg e,zKX (d':=(zAa t j).dep) (by omega) j]
    show zDB t d (abv t j+1).toNat=_
    rw [show (abv t j+1).toNat=(abv t j).toNat+1 by omega]
   rw [h3,zFr t j h0,zCz t j h0,List.take_append_of_le_length (by omega),List.take_append_of_le_length (by omega)]
   exact ih (abv t j).toNat (by omega) (by omega) (by omega)
theorem zIY {t:List TrN} {k i:Nat} (h:zAW t k) (hi:i < k) (h0:i ≠ 0) :
  (zEq t (i - 1)).take (zAa t i).dep.toNat ++ [i]=zEq t i/\(zAx t (i - 1)).take ((zAa t i).dep.toNat - 1) ++ [(zAa t i).nm]=zAx t i /\
  (zAa t i).dep.toNat<=(zEq t (i - 1)).length/\(zAa t i).dep.toNat - 1<=(zAx t (i - 1)).length/\((zEq t (i - 1)).take (zAa t i).dep.toNat).getLast? = some (abv t i).toNat:=by
 have hs:=zE3 h hi h0
 obtain⟨l1,l2⟩:=zKw h (i - 1) (by omega)
 have hdt:(((zAa t i).dep.toNat:Nat):Int)=(zAa t i).dep:=by omega
 obtain⟨h1,h2⟩:=zRD h (zAa t i).dep.toNat (by omega) (i - 1) (by omega) (by omega)
 rw [hdt,Nat.sub_add_cancel (by omega)] at h1 h2
 rw [h1,h2,zFr t i h0,zCz t i h0]
 exact⟨rfl,rfl,by omega,by omega,zOV _ _⟩
theorem zBy {listed:Array Bool} {i:Nat} (h:i < listed.size) (b c:Bool):listed.getD i b=listed.getD i c:=by
 simp [Array.getD_eq_getD_getElem?,h]
theorem zLS:∀ (l:List Bool) (i:Nat),l[i]? = some false->((l.set i true).filter (! ·)).length+1=(l.filter (! ·)).length
 | [],i,h=>by simp at h
 | b :: r,0,h=>by
  have:b=false:=by simpa using h
  subst this
  simp
 | b :: r,i+1,h=>by
  have h:r[i]? = some false:=by simpa using h
  have ih:=zLS r i h
  rw [List.set_cons_succ,List.filter_cons,List.filter_cons]
  cases b
  ·simp [ih]
  ·simp [ih]
def zB9 (ops:Array Oper) (i j:Nat):Bool:=((ops[i]?).map fun o=>o.after.toList.any fun e=>Region.binds .any e && e.on == j).getD false
def zCE (ops:Array Oper) (n:Nat):List Tmp:=(ops.toList.take n).filterMap (·.dst)
def zWM (ops:Array Oper) (n:Nat):Bool:=
 ops.size == n+1 && ops.toList.all (fun o=>o.guard.isNone) && (List.range (n+1)).all (fun i=>((ops[i]?).map fun o=>o.after.toList.all fun e=>!Region.binds .any e || decide (e.on < i)).getD false) &&
 (List.range n).all (fun j=>zB9 ops n j && (List.range n).all fun i=>i == j || ((ops[i]?).bind (·.dst)).isNone || !((ops[i]?).bind (·.dst) == (ops[j]?).bind (·.dst)))
section
variable {P:Program} {ops:Array Oper} {Q:Exit->Act->World->Prop} {n:Nat}
structure RgI (ops:Array Oper) (n:Nat) (a0:Act) (w0:World) (F:Nat->Value->World->Prop) (listed:Array Bool) (a:Act) (w:World):Prop where
 size:listed.size=n+1
 tsz:a.tmps.size=a0.tmps.size
 defers:a.defers=a0.defers
 kept:∀ t,t ∉ zCE ops n->a.eval (.tmp t)=a0.eval (.tmp t)
 fact:∀ i o d,i < n->ops[i]? = some o->o.dst=some d->listed.getD i false=true->F i (a.eval (.tmp d)) w
 ext:Ext w0 w
theorem zBq {a:Act} {d t:Tmp} {v:Value} (h:d ≠ t):(a.put (some d) v).eval (.tmp t)=a.eval (.tmp t):=by
 simp [Act.put,Act.eval,Array.getD_eq_getD_getElem?,Array.getElem?_setIfInBounds_ne h]
theorem zCD {a:Act} {d:Tmp} {v:Value} (h:d < a.tmps.size):(a.put (some d) v).eval (.tmp d)=v:=by
 simp [Act.put,Act.eval,Array.getD_eq_getD_getElem?,h]
def zAI (a:Act) (D:List Tmp) (vs:Tmp->Value):Act:=D.foldl (fun a d=>a.put (some d) (vs d)) a
theorem zPf (D:List Tmp) (vs:Tmp->Value):∀ a:Act,(zAI a D vs).tmps.size=a.tmps.size/\(zAI a D vs).defers=a.defers:=by
 induction D with
 | nil=>intro a;exact⟨rfl,rfl⟩
 | cons d r ih=>intro a;obtain⟨h1,h2⟩:=ih (a.put (some d) (vs d));exact⟨h1.trans (by simp [Act.put]),h2⟩
theorem zPg (D:List Tmp) (vs:Tmp->Value):∀ (a:Act) (t:Tmp),t < a.tmps.size->(zAI a D vs).eval (.tmp t)=if t ∈ D then vs t else a.eval (.tmp t):=by
 induction D with
 | nil=>intro a t _;rw [if_neg (List.not_mem_nil)];rfl
 | cons d r ih=>
  intro a t ht
  have h1:=ih (a.put (some d) (vs d)) t (by simpa [Act.put] using ht)
  show (zAI (a.put (some d) (vs d)) r vs).eval (.tmp t)=_
  rw [h1]
  by_cases e:t ∈ r
  ·rw [if_pos e,if_pos (List.mem_cons_of_mem _ e)]
  ·rw [if_neg e]
   by_cases e2:t=d
   ·subst e2;rw [zCD ht,if_pos (by simp)]
   ·rw [zBq (fun x=>e2 x.symm),if_neg (by simp [e,e2])]
theorem zHf {a a0:Act} {D:List Tmp} (h1:a.tmps.size=a0.tmps.size) (h2:a.defers=a0.defers) (h3:∀ t,t ∉ D->a.eval (.tmp t)=a0.eval (.tmp t)):a=zAI a0 D (fun t=>a.eval (.tmp t)):=by
 obtain⟨s1,s2⟩:=zPf D (fun t=>a.eval (.tmp t)) a0
 have he:∀ t,t < a0.tmps.size->a.eval (.tmp t)=(zAI a0 D (fun t=>a.eval (.tmp t))).eval (.tmp t):=fun t ht=>by
  rw [zPg D _ a0 t ht]
  by_cases e:t ∈ D
  ·rw [if_pos e]
  ·rw [if_neg e,h3 t e]
 generalize zAI a0 D (fun t=>a.eval (.tmp t))=a' at s1 s2 he
 obtain⟨t1,d1⟩:=a
 obtain⟨t2,d2⟩:=a'
 simp only at h1 h2 s1 s2
 have:t1=t2:=by
  refine Array.ext (by omega) fun i hi1 hi2=>?_
  have:=he i (by omega)
  simpa [Act.eval,Array.getD_eq_getD_getElem?,hi1,hi2] using this
 rw [this,h2,s2]
theorem zKz (h:zWM ops n=true):ops.size=n+1/\(∀ (i:Nat) (o:Oper),ops[i]? = some o->o.guard=none)/\(∀ (i:Nat) (o:Oper) (e:Edge),ops[i]? = some o->e ∈ o.after->Region.binds .any e=true->e.on < i) /\
  (∀ j,j < n->zB9 ops n j=true)/\∀ (i j:Nat) (oi oj:Oper) (d:Tmp),i < n->j < n->ops[i]? = some oi->ops[j]? = some oj->oi.dst=some d->oj.dst=some d->i=j:=by
 unfold zWM at h
 simp only [Bool.and_eq_true,beq_iff_eq,List.all_eq_true,List.mem_range,Bool.or_eq_true,Bool.not_eq_true'] at h
 obtain⟨⟨⟨h1,h2⟩,h3⟩,h4⟩:=h
 refine⟨h1,fun i o ho=>?_,fun i o e ho he hb=>?_,fun j hj=>(h4 j hj).1,fun i j oi oj d hi hj hoi hoj hdi hdj=>?_⟩
 ·have:=h2 o (Array.mem_toList_iff.2 (Array.mem_of_getElem? ho))
  cases hg:o.guard with
  | none=>rfl
  | some x=>rw [hg] at this;cases this
 ·have hi:i < n+1:=by
   rw [<- h1];exact(Array.getElem?_eq_some_iff.1 ho).1
  have:=h3 i hi
  rw [ho] at this
  simp only [Option.map_some,Option.getD_some,List.all_eq_true,Bool.or_eq_true,Bool.not_eq_true',decide_eq_true_eq] at this
  rcases this e (Array.mem_toList_iff.2 he) with e1 | e1
  ·rw [hb] at e1;cases e1
  ·exact e1
 ·rcases(h4 j hj).2 i hi with (e | e) | e
  ·exact e
  ·rw [hoi] at e;simp [hdi] at e
  ·rw [hoi,hoj] at e;simp [hdi,hdj] at e
theorem zOH {a0 : Act} {w0 : World} {F : Nat -> Value -> World -> Prop} (hB : zWM ops n = true) (hD : ∀ d ∈ zCE ops n, d < a0.tmps.size)
  (hmono : ∀ i v w w', F i v w -> Ext w w' -> F i v w')
  (hstep : ∀ (i : Nat) (o : Oper) (a : Act) (w : World), i < n -> ops[i]? = some o -> Ext w0 w -> (∀ t, t ∉ zCE ops n -> a.eval (.tmp t) = a0.eval (.tmp t)) ->
   (∀ (j : Nat) (oj : Oper) (d : Tmp), zB9 ops i j = true -> ops[j]? = some oj -> oj.dst = some d -> F j (a.eval (.tmp d)) w) -> o.wp P a w (fun a' w' => ∃ v, a' = a.put o.dst v /\ F i v w' /\ Ext w w') Q)
  (hlast : ∀ (o : Oper) (vs : Tmp -> Value) (w : World), ops[n]? = some o -> Ext w0 w -> (∀ (j : Nat) (oj : Oper) (d : Tmp), j < n -> ops[j]? = some oj -> oj.dst = some d -> F j (vs d) w) -> o.wp P (zAI a0 (zCE ops n) vs) w (Q .normal) Q) :
  ∀ (fuel : Nat) (listed : Array Bool) (a : Act) (w : World), RgI ops n a0 w0 F listed a w -> listed.getD n true = false -> (listed.toList.filter (! ·)).length <= fuel -> wpAny P .any ops Q fuel listed a w := by
 obtain ⟨h1, h2, h3, h4, h5⟩ := zKz hB
 have cnt : ∀ (listed : Array Bool) (i : Nat), listed.getD i true = false -> ((listed.setIfInBounds i true).toList.filter (! ·)).length + 1 = (listed.toList.filter (! ·)).length := fun listed i hi => by
  rw [Array.toList_setIfInBounds]
  refine zLS _ i ?_
  rw [Array.getElem?_toList]
  rw [Array.getD_eq_getD_getElem?] at hi
  cases he : listed[i]? with
  | none => rw [he] at hi; cases hi
  | some b => rw [he] at hi; simp at hi; rw [hi]
 intro fuel
 induction fuel with
 | zero =>
  intro listed a w hI hn hc
  have := cnt listed n hn
  omega
 | succ fuel ih =>
  intro listed a w hI hn hc
  refine ⟨fun hr => ?_, fun i hi => ?_⟩
  ·exfalso
   have hall : ∀ k i, i < k -> i <= n -> listed.getD i true = true := by
    intro k
    induction k with
    | zero => intro i hi; omega
    | succ k ihk =>
     intro i hi hin
     by_cases e : i < k
     ·exact ihk i e hin
     cases hl : listed.getD i true with
     | true => rfl
     | false =>
      exfalso
      have ho : ∃ o, ops[i]? = some o := ⟨_, Array.getElem?_eq_getElem (by omega)⟩
      obtain ⟨o, ho⟩ := ho
      have hm : i ∈ Region.ready .any ops listed := mem_ready.2 ⟨hl, o, ho, fun e he hb => by
       have h6 := h3 i o e ho he hb
       have h7 := ihk e.on (by omega) (by omega)
       have h8 : e.on < listed.size := by rw [hI.size]; omega
       simp only [Array.getD_eq_getD_getElem?, Array.getElem?_eq_getElem h8, Option.getD_some] at h7 ⊢
       exact h7⟩
      rw [hr] at hm; cases hm
   have := hall (n + 1) n (by omega) (Nat.le_refl _)
   rw [hn] at this; cases this
  ·obtain ⟨hu, o, ho, hp⟩ := mem_ready.1 hi
   have hpr : ∀ (j : Nat), zB9 ops i j = true -> listed.getD j false = true := fun j hj => by
    unfold zB9 at hj
    rw [ho] at hj
    simp only [Option.map_some, Option.getD_some, List.any_eq_true, Bool.and_eq_true, beq_iff_eq] at hj
    obtain ⟨e, he, hb, rfl⟩ := hj
    exact hp e (Array.mem_toList_iff.1 he) hb
   have hil : i < n + 1 := by rw [<- h1]; exact (Array.getElem?_eq_some_iff.1 ho).1
   refine wpOp_step ho fun K' hK => ?_
   have hg := h2 i o ho
   rw [if_pos (by unfold Region.wanted; rw [hg])]
   by_cases hin : i < n
   ·refine Oper.wp_mono ?_ (hstep i o a w hin ho hI.ext hI.kept fun j oj d hj hoj hd => ?_)
    ·rintro a' w' ⟨v, rfl, hF, hE⟩
     refine hK _ _ (ih _ _ _ ?_ ?_ ?_)
     ·refine ⟨by rw [Array.size_setIfInBounds]; exact hI.size, ?_, ?_, ?_, ?_, hI.ext.trans hE⟩
      ·cases hd : o.dst with
       | none => exact hI.tsz
       | some d => simp only [Act.put, Array.size_setIfInBounds]; exact hI.tsz
      ·cases hd : o.dst with
       | none => exact hI.defers
       | some d => exact hI.defers
      ·intro t ht
       cases hd : o.dst with
       | none => exact hI.kept t ht
       | some d =>
        have hne : d ≠ t := fun e => ht (by
         unfold zCE
         refine List.mem_filterMap.2 ⟨o, ?_, by rw [hd, e]⟩
         refine List.mem_iff_getElem?.2 ⟨i, ?_⟩
         rw [List.getElem?_take, if_pos hin, Array.getElem?_toList]; exact ho)
        rw [zBq hne]; exact hI.kept t ht
      ·intro j oj d hj hoj hd hlj
       by_cases e : i = j
       ·subst e
        obtain rfl := oI (ho.symm.trans hoj)
        have hdl : d < a.tmps.size := by
         rw [hI.tsz]
         refine hD d ?_
         unfold zCE
         refine List.mem_filterMap.2 ⟨o, ?_, hd⟩
         refine List.mem_iff_getElem?.2 ⟨i, ?_⟩
         rw [List.getElem?_take, if_pos hin, Array.getElem?_toList]; exact ho
        rw [hd, zCD hdl]; exact hF
       ·rw [getD_set_ne false e] at hlj
        have hf := hmono _ _ _ _ (hI.fact j oj d hj hoj hd hlj) hE
        cases hdo : o.dst with
        | none => exact hf
        | some d' =>
         have hne : d' ≠ d := fun x => e (h5 i j o oj d hin hj ho hoj (by rw [hdo, x]) hd)
         rw [zBq hne]; exact hf
     ·rw [getD_set_ne true (by omega)]; exact hn
     ·have := cnt listed i hu; omega
    ·have hjl : j < i := by
      unfold zB9 at hj
      rw [ho] at hj
      simp only [Option.map_some, Option.getD_some, List.any_eq_true, Bool.and_eq_true, beq_iff_eq] at hj
      obtain ⟨e, he, hb, rfl⟩ := hj
      exact h3 i o e ho (Array.mem_toList_iff.1 he) hb
     exact hI.fact j oj d (by omega) hoj hd (hpr j hj)
   ·obtain rfl : i = n := by omega
    have hall : ∀ j, j < i -> listed.getD j false = true := fun j hj => hpr j (h4 j hj)
    rw [zHf hI.tsz hI.defers hI.kept]
    refine Oper.wp_mono ?_ (hlast o (fun t => a.eval (.tmp t)) w ho hI.ext fun j oj d hj hoj hd => hI.fact j oj d hj hoj hd (hall j hj))
    intro a' w' hq
    refine hK _ _ (wpAny_done ?_ hq fuel)
    cases hr : Region.ready .any ops (listed.setIfInBounds i true) with
    | nil => rfl
    | cons k r =>
     exfalso
     have hk : k ∈ Region.ready .any ops (listed.setIfInBounds i true) := by rw [hr]; simp
     obtain ⟨hu2, o2, ho2, _⟩ := mem_ready.1 hk
     have hkl : k < i + 1 := by rw [<- h1]; exact (Array.getElem?_eq_some_iff.1 ho2).1
     by_cases e : i = k
     ·subst e
      have : i < listed.size := by rw [hI.size]; omega
      simp [Array.getD_eq_getD_getElem?, this] at hu2
     ·rw [getD_set_ne true e] at hu2
      have h7 := hall k (by omega)
      have h8 : k < listed.size := by rw [hI.size]; omega
      simp only [Array.getD_eq_getD_getElem?, Array.getElem?_eq_getElem h8, Option.getD_some] at h7 hu2
      rw [h7] at hu2; cases hu2
theorem zFQ (w:World):Ext w {w with drawn:=w.drawn+1}:=eD w
theorem zDW {id : Nat} {a0 : Act} {w0 : World} (F : Nat -> Value -> World -> Prop) (n : Nat) (hm : P.follows .mixedOrders = true) (hB : zWM ops n = true) (hD : (zCE ops n).all (fun d => decide (d < a0.tmps.size)) = true)
  (hmono : ∀ i v w w', F i v w -> Ext w w' -> F i v w')
  (hstep : ∀ (i : Nat) (o : Oper) (a : Act) (w : World), i < n -> ops[i]? = some o -> Ext w0 w -> (∀ t, t ∉ zCE ops n -> a.eval (.tmp t) = a0.eval (.tmp t)) ->
   (∀ (j : Nat) (oj : Oper) (d : Tmp), zB9 ops i j = true -> ops[j]? = some oj -> oj.dst = some d -> F j (a.eval (.tmp d)) w) -> o.wp P a w (fun a' w' => ∃ v, a' = a.put o.dst v /\ F i v w' /\ Ext w w') Q)
  (hlast : ∀ (o : Oper) (vs : Tmp -> Value) (w : World), ops[n]? = some o -> Ext w0 w -> (∀ (j : Nat) (oj : Oper) (d : Tmp), j < n -> ops[j]? = some oj -> oj.dst = some d -> F j (vs d) w) -> o.wp P (zAI a0 (zCE ops n) vs) w (Q .normal) Q) :
  (Code.region id ops true).wp P Q a0 w0 := by
 have h1 := (zKz hB).1
 refine wp_region_any hm ?_
 have hrep : ∀ i, (Array.replicate ops.size false).getD i false = false := fun i => by
  by_cases e : i < ops.size
  ·simp [Array.getD_eq_getD_getElem?, e]
  ·simp [Array.getD_eq_getD_getElem?, e]
 refine zOH (n := n) (a0 := a0) (w0 := { w0 with drawn := w0.drawn + 1 }) (F := F) hB (fun d hd => of_decide_eq_true (List.all_eq_true.1 hD d hd)) hmono
  (fun i o a w hi ho he hk hp => hstep i o a w hi ho ((zFQ w0).trans he) hk hp) (fun o vs w ho he hf => hlast o vs w ho ((zFQ w0).trans he) hf) ops.size _ _ _ ?_ ?_ ?_
 ·exact ⟨by simp [h1], rfl, rfl, fun _ _ => rfl, fun i o d _ _ _ hl => (by rw [hrep] at hl; cases hl), bR _ _⟩
 ·have : n < ops.size := by omega
  simp [Array.getD_eq_getD_getElem?, this]
 ·refine Nat.le_trans (List.length_filter_le _ _) ?_
  simp
/-! .. whose last operations stand in one order: each waits for the one before it. -/
def zEu (P:Program) (Q:Exit->Act->World->Prop):List Oper->Act->World->Prop
 | [],a,w=>Q .normal a w
 | o :: r,a,w=>o.wp P a w (zEu P Q r) Q
theorem zEt {P:Program} {Q:Exit->Act->World->Prop} {l r:List Oper} {o:Oper} {a:Act} {w:World} (h:l=o :: r) (h2:o.wp P a w (zEu P Q r) Q):zEu P Q l a w:=by subst h;exact h2
def zP0 (ops:Array Oper) (n m:Nat):Bool:=
 decide (n<=m) && ops.size == m+1 && ops.toList.all (fun o=>o.guard.isNone) && (List.range (m+1)).all (fun i=>((ops[i]?).map fun o=>o.after.toList.all fun e=>!Region.binds .any e || decide (e.on < i)).getD false) &&
 (List.range (m - n)).all (fun k=>zB9 ops (n+k+1) (n+k)) && (List.range n).all (fun j=>((List.range (n+1)).any fun s=>decide (j < s) && zB9 ops s j) && (List.range n).all fun i=>i == j || ((ops[i]?).bind (·.dst)).isNone || !((ops[i]?).bind (·.dst) == (ops[j]?).bind (·.dst)))
theorem zEZ {m:Nat} (h:zP0 ops n m=true):n<=m/\ops.size=m+1/\(∀ (i:Nat) (o:Oper),ops[i]? = some o->o.guard=none)/\(∀ (i:Nat) (o:Oper) (e:Edge),ops[i]? = some o->e ∈ o.after->Region.binds .any e=true->e.on < i) /\
  (∀ k,n < k->k<=m->zB9 ops k (k - 1)=true)/\(∀ j,j < n->∃ s,j < s/\s<=n/\zB9 ops s j=true)/\∀ (i j:Nat) (oi oj:Oper) (d:Tmp),i < n->j < n->ops[i]? = some oi->ops[j]? = some oj->oi.dst=some d->oj.dst=some d->i=j:=by
 unfold zP0 at h
 simp only [Bool.and_eq_true,beq_iff_eq,List.all_eq_true,List.any_eq_true,List.mem_range,Bool.or_eq_true,Bool.not_eq_true',decide_eq_true_eq] at h
 obtain⟨⟨⟨⟨⟨h0,h1⟩,h2⟩,h3⟩,h6⟩,h4⟩:=h
 refine⟨h0,h1,fun i o ho=>?_,fun i o e ho he hb=>?_,fun k hk hkm=>?_,fun j hj=>?_,fun i j oi oj d hi hj hoi hoj hdi hdj=>?_⟩
 ·have:=h2 o (Array.mem_toList_iff.2 (Array.mem_of_getElem? ho))
  cases hg:o.guard with
  | none=>rfl
  | some x=>rw [hg] at this;cases this
 ·have hi:i < m+1:=by
   rw [<- h1];exact(Array.getElem?_eq_some_iff.1 ho).1
  have:=h3 i hi
  rw [ho] at this
  simp only [Option.map_some,Option.getD_some,List.all_eq_true,Bool.or_eq_true,Bool.not_eq_true',decide_eq_true_eq] at this
  rcases this e (Array.mem_toList_iff.2 he) with e1 | e1
  ·rw [hb] at e1;cases e1
  ·exact e1
 ·have:=h6 (k - n - 1) (by omega)
  rw [show n+(k - n - 1)+1=k by omega,show n+(k - n - 1)=k - 1 by omega] at this
  exact this
 ·obtain⟨s,hs,h5,h7⟩:=(h4 j hj).1
  exact⟨s,h5,by omega,h7⟩
 ·rcases(h4 j hj).2 i hi with (e | e) | e
  ·exact e
  ·rw [hoi] at e;simp [hdi] at e
  ·rw [hoi,hoj] at e;simp [hdi,hdj] at e
structure RgK (ops:Array Oper) (n m:Nat) (a0:Act) (w0:World) (F:Nat->Value->World->Prop) (listed:Array Bool) (a:Act) (w:World):Prop where
 size:listed.size=m+1
 tsz:a.tmps.size=a0.tmps.size
 defers:a.defers=a0.defers
 kept:∀ t,t ∉ zCE ops n->a.eval (.tmp t)=a0.eval (.tmp t)
 fact:∀ i o d,i < n->ops[i]? = some o->o.dst=some d->listed.getD i false=true->F i (a.eval (.tmp d)) w
 ext:Ext w0 w
 down:∀ i j,i<=n->listed.getD i false=true->zB9 ops i j=true->listed.getD j false=true
 rest:∀ i,n<=i->i<=m->listed.getD i true=false
theorem zFU {i:Nat} {o:Oper} (ho:ops[i]? = some o) {listed:Array Bool} (hp:∀ e ∈ o.after,Region.binds .any e=true->listed.getD e.on false=true) (j:Nat) (hj:zB9 ops i j=true):listed.getD j false=true:=by
 unfold zB9 at hj
 rw [ho] at hj
 simp only [Option.map_some,Option.getD_some,List.any_eq_true,Bool.and_eq_true,beq_iff_eq] at hj
 obtain⟨e,he,hb,rfl⟩:=hj
 exact hp e (Array.mem_toList_iff.1 he) hb
theorem zCF (listed:Array Bool) (i:Nat) (hi:listed.getD i true=false):((listed.setIfInBounds i true).toList.filter (! ·)).length+1=(listed.toList.filter (! ·)).length:=by
 rw [Array.toList_setIfInBounds]
 refine zLS _ i ?_
 rw [Array.getElem?_toList]
 rw [Array.getD_eq_getD_getElem?] at hi
 cases he:listed[i]? with
 | none=>rw [he] at hi;cases hi
 | some b=>rw [he] at hi;simp at hi;rw [hi]
theorem zNK {m:Nat} (hB:zP0 ops n m=true):∀ (r k fuel:Nat) (listed:Array Bool) (a:Act) (w:World),r=m+1 - k->n<=k->k<=m+1->listed.size=m+1->(∀ j,j < k->listed.getD j false=true)->(∀ j,k<=j->j<=m->listed.getD j true=false) ->
  (listed.toList.filter (! ·)).length<=fuel->zEu P Q (ops.toList.drop k) a w->wpAny P .any ops Q fuel listed a w:=by
 obtain⟨h0,h1,h2,h3,h6,h4,h5⟩:=zEZ hB
 intro r
 induction r with
 | zero=>
  intro k fuel listed a w hr hnk hkm hsz hdone hopen hc ht
  obtain rfl:k=m+1:=by omega
  rw [List.drop_of_length_le (by rw [Array.length_toList];omega)] at ht
  refine wpAny_done ?_ ht fuel
  cases hrd:Region.ready .any ops listed with
  | nil=>rfl
  | cons z q=>
   exfalso
   have hz:z ∈ Region.ready .any ops listed:=by rw [hrd];simp
   obtain⟨hu,o,ho,_⟩:=mem_ready.1 hz
   have hzl:z < m+1:=by rw [<- h1];exact(Array.getElem?_eq_some_iff.1 ho).1
   have:=hdone z hzl
   rw [zBy (by omega) false true,hu] at this;cases this
 | succ r ih=>
  intro k fuel listed a w hr hnk hkm hsz hdone hopen hc ht
  have hk:k<=m:=by omega
  have hkf:=hopen k (Nat.le_refl _) hk
  have hcnt:=zCF listed k hkf
  cases fuel with
  | zero=>omega
  | succ fuel=>
   have hko:k < ops.size:=by omega
   have ho:ops[k]? = some ops[k]:=Array.getElem?_eq_getElem hko
   rw [List.drop_eq_getElem_cons (by rw [Array.length_toList];exact hko)] at ht
   have ht:(ops[k]).wp P a w (zEu P Q (ops.toList.drop (k+1))) Q:=by simpa [zEu] using ht
   refine⟨fun hrd=>?_,fun i hi=>?_⟩
   ·exfalso
    have hm:k ∈ Region.ready .any ops listed:=mem_ready.2 ⟨hkf,_,ho,fun e he hb=>hdone _ (h3 k _ e ho he hb)⟩
    rw [hrd] at hm;cases hm
   ·obtain⟨hu,o,hoi,hp⟩:=mem_ready.1 hi
    have hil:i < m+1:=by rw [<- h1];exact(Array.getElem?_eq_some_iff.1 hoi).1
    have hik:i=k:=by
     by_cases e:i < k
     ·have:=hdone i e
      rw [zBy (by omega) false true,hu] at this;cases this
     ·refine Decidable.not_not.1 fun e2=>?_
      have h7:=zFU hoi hp (i - 1) (h6 i (by omega) (by omega))
      have h8:=hopen (i - 1) (by omega) (by omega)
      rw [zBy (by omega) false true,h8] at h7;cases h7
    subst hik
    obtain rfl:=oI (ho.symm.trans hoi)
    refine wpOp_step ho fun K' hK=>?_
    rw [if_pos (by unfold Region.wanted;rw [h2 i _ ho])]
    refine Oper.wp_mono (fun a' w' hq=>hK _ _ (ih (i+1) fuel _ a' w' (by omega) (by omega) (by omega) (by rw [Array.size_setIfInBounds];exact hsz) (fun j hj=>?_) (fun j hj hjm=>?_) (by omega) hq)) ht
    ·by_cases e:i=j
     ·subst e
      have:i < listed.size:=by omega
      simp [Array.getD_eq_getD_getElem?,this]
     ·exact getD_set_true (hdone j (by omega))
    ·rw [getD_set_ne true (by omega)];exact hopen j (by omega) hjm
theorem zNL {m : Nat} {a0 : Act} {w0 : World} {F : Nat -> Value -> World -> Prop} (hB : zP0 ops n m = true) (hD : ∀ d ∈ zCE ops n, d < a0.tmps.size)
  (hmono : ∀ i v w w', F i v w -> Ext w w' -> F i v w')
  (hstep : ∀ (i : Nat) (o : Oper) (a : Act) (w : World), i < n -> ops[i]? = some o -> Ext w0 w -> (∀ t, t ∉ zCE ops n -> a.eval (.tmp t) = a0.eval (.tmp t)) ->
   (∀ (j : Nat) (oj : Oper) (d : Tmp), zB9 ops i j = true -> ops[j]? = some oj -> oj.dst = some d -> F j (a.eval (.tmp d)) w) -> o.wp P a w (fun a' w' => ∃ v, a' = a.put o.dst v /\ F i v w' /\ Ext w w') Q)
  (hlast : ∀ (vs : Tmp -> Value) (w : World), Ext w0 w -> (∀ (j : Nat) (oj : Oper) (d : Tmp), j < n -> ops[j]? = some oj -> oj.dst = some d -> F j (vs d) w) -> zEu P Q (ops.toList.drop n) (zAI a0 (zCE ops n) vs) w) :
  ∀ (fuel : Nat) (listed : Array Bool) (a : Act) (w : World), RgK ops n m a0 w0 F listed a w -> (listed.toList.filter (! ·)).length <= fuel -> wpAny P .any ops Q fuel listed a w := by
 obtain ⟨h0, h1, h2, h3, h6, h4, h5⟩ := zEZ hB
 intro fuel
 induction fuel with
 | zero =>
  intro listed a w hI hc
  have := zCF listed n (hI.rest n (Nat.le_refl _) h0)
  omega
 | succ fuel ih =>
  intro listed a w hI hc
  have hsz := hI.size
  have hopn := hI.rest n (Nat.le_refl _) h0
  by_cases hdone : ∀ j, j < n -> listed.getD j false = true
  ·rw [zHf hI.tsz hI.defers hI.kept]
   exact zNK hB (m + 1 - n) n (fuel + 1) listed _ w rfl (Nat.le_refl _) (by omega) hsz hdone hI.rest hc (hlast (fun t => a.eval (.tmp t)) w hI.ext fun j oj d hj hoj hd => hI.fact j oj d hj hoj hd (hdone j hj))
  refine ⟨fun hr => ?_, fun i hi => ?_⟩
  ·exfalso
   have hall : ∀ k i, i < k -> i <= n -> listed.getD i true = true := by
    intro k
    induction k with
    | zero => intro i hi; omega
    | succ k ihk =>
     intro i hi hin
     by_cases e : i < k
     ·exact ihk i e hin
     cases hl : listed.getD i true with
     | true => rfl
     | false =>
      exfalso
      obtain ⟨o, ho⟩ : ∃ o, ops[i]? = some o := ⟨_, Array.getElem?_eq_getElem (by omega)⟩
      have hm : i ∈ Region.ready .any ops listed := mem_ready.2 ⟨hl, o, ho, fun e he hb => by
       have h6 := h3 i o e ho he hb
       have h7 := ihk e.on (by omega) (by omega)
       rw [zBy (by omega) false true]; exact h7⟩
      rw [hr] at hm; cases hm
   have := hall (n + 1) n (by omega) (Nat.le_refl _)
   rw [hopn] at this; cases this
  ·obtain ⟨hu, o, ho, hp⟩ := mem_ready.1 hi
   have hpr := zFU ho hp
   have hil : i < m + 1 := by rw [<- h1]; exact (Array.getElem?_eq_some_iff.1 ho).1
   have hin : i < n := by
    refine Nat.lt_of_not_le fun e => ?_
    apply hdone
    by_cases e2 : i = n
    ·subst e2
     have hcl : ∀ k j, i - j <= k -> j < i -> listed.getD j false = true := by
      intro k
      induction k with
      | zero => intro j hk hj; omega
      | succ k ihk =>
       intro j hk hj
       obtain ⟨s, hs1, hs2, hs3⟩ := h4 j hj
       by_cases e3 : s = i
       ·subst e3; exact hpr j hs3
       ·exact hI.down s j hs2 (ihk s (by omega) (by omega)) hs3
     exact fun j hj => hcl i j (by omega) hj
    ·have h7 := hpr (i - 1) (h6 i (by omega) (by omega))
     have h8 := hI.rest (i - 1) (by omega) (by omega)
     rw [zBy (by omega) false true, h8] at h7; cases h7
   refine wpOp_step ho fun K' hK => ?_
   have hg := h2 i o ho
   rw [if_pos (by unfold Region.wanted; rw [hg])]
   refine Oper.wp_mono ?_ (hstep i o a w hin ho hI.ext hI.kept fun j oj d hj hoj hd => ?_)
   ·rintro a' w' ⟨v, rfl, hF, hE⟩
    refine hK _ _ (ih _ _ _ ?_ ?_)
    ·refine ⟨by rw [Array.size_setIfInBounds]; exact hI.size, ?_, ?_, ?_, ?_, hI.ext.trans hE, ?_, ?_⟩
     ·cases hd : o.dst with
      | none => exact hI.tsz
      | some d => simp only [Act.put, Array.size_setIfInBounds]; exact hI.tsz
     ·cases hd : o.dst with
      | none => exact hI.defers
      | some d => exact hI.defers
     ·intro t ht
      cases hd : o.dst with
      | none => exact hI.kept t ht
      | some d =>
       have hne : d ≠ t := fun e => ht (by
        unfold zCE
        refine List.mem_filterMap.2 ⟨o, ?_, by rw [hd, e]⟩
        refine List.mem_iff_getElem?.2 ⟨i, ?_⟩
        rw [List.getElem?_take, if_pos hin, Array.getElem?_toList]; exact ho)
       rw [zBq hne]; exact hI.kept t ht
     ·intro j oj d hj hoj hd hlj
      by_cases e : i = j
      ·subst e
       obtain rfl := oI (ho.symm.trans hoj)
       have hdl : d < a.tmps.size := by
        rw [hI.tsz]
        refine hD d ?_
        unfold zCE
        refine List.mem_filterMap.2 ⟨o, ?_, hd⟩
        refine List.mem_iff_getElem?.2 ⟨i, ?_⟩
        rw [List.getElem?_take, if_pos hin, Array.getElem?_toList]; exact ho
       rw [hd, zCD hdl]; exact hF
      ·rw [getD_set_ne false e] at hlj
       have hf := hmono _ _ _ _ (hI.fact j oj d hj hoj hd hlj) hE
       cases hdo : o.dst with
       | none => exact hf
       | some d' =>
        have hne : d' ≠ d := fun x => e (h5 i j o oj d hin hj ho hoj (by rw [hdo, x]) hd)
        rw [zBq hne]; exact hf
     ·intro k j hk hlk hkj
      by_cases e : i = k
      ·subst e; exact getD_set_true (hpr j hkj)
      ·rw [getD_set_ne false e] at hlk
       exact getD_set_true (hI.down k j hk hlk hkj)
     ·intro k hk hkm
      rw [getD_set_ne true (by omega)]; exact hI.rest k hk hkm
    ·have := zCF listed i hu; omega
   ·have hjl : j < i := by
     unfold zB9 at hj
     rw [ho] at hj
     simp only [Option.map_some, Option.getD_some, List.any_eq_true, Bool.and_eq_true, beq_iff_eq] at hj
     obtain ⟨e, he, hb, rfl⟩ := hj
     exact h3 i o e ho (Array.mem_toList_iff.1 he) hb
    exact hI.fact j oj d (by omega) hoj hd (hpr j hj)
theorem zDu {id : Nat} {a0 : Act} {w0 : World} (F : Nat -> Value -> World -> Prop) (n m : Nat) (hm : P.follows .mixedOrders = true) (hB : zP0 ops n m = true) (hD : (zCE ops n).all (fun d => decide (d < a0.tmps.size)) = true)
  (hmono : ∀ i v w w', F i v w -> Ext w w' -> F i v w')
  (hstep : ∀ (i : Nat) (o : Oper) (a : Act) (w : World), i < n -> ops[i]? = some o -> Ext w0 w -> (∀ t, t ∉ zCE ops n -> a.eval (.tmp t) = a0.eval (.tmp t)) ->
   (∀ (j : Nat) (oj : Oper) (d : Tmp), zB9 ops i j = true -> ops[j]? = some oj -> oj.dst = some d -> F j (a.eval (.tmp d)) w) -> o.wp P a w (fun a' w' => ∃ v, a' = a.put o.dst v /\ F i v w' /\ Ext w w') Q)
  (hlast : ∀ (vs : Tmp -> Value) (w : World), Ext w0 w -> (∀ (j : Nat) (oj : Oper) (d : Tmp), j < n -> ops[j]? = some oj -> oj.dst = some d -> F j (vs d) w) -> zEu P Q (ops.toList.drop n) (zAI a0 (zCE ops n) vs) w) :
  (Code.region id ops true).wp P Q a0 w0 := by
 have h0 := (zEZ hB).1
 have h1 := (zEZ hB).2.1
 refine wp_region_any hm ?_
 have hrep : ∀ i, (Array.replicate ops.size false).getD i false = false := fun i => by
  by_cases e : i < ops.size
  ·simp [Array.getD_eq_getD_getElem?, e]
  ·simp [Array.getD_eq_getD_getElem?, e]
 refine zNL (n := n) (m := m) (a0 := a0) (w0 := { w0 with drawn := w0.drawn + 1 }) (F := F) hB (fun d hd => of_decide_eq_true (List.all_eq_true.1 hD d hd)) hmono
  (fun i o a w hi ho he hk hp => hstep i o a w hi ho ((zFQ w0).trans he) hk hp) (fun vs w he hf => hlast vs w ((zFQ w0).trans he) hf) ops.size _ _ _ ?_ ?_
 ·refine ⟨by simp [h1], rfl, rfl, fun _ _ => rfl, fun i o d _ _ _ hl => ?_, bR _ _, fun i j _ hl _ => ?_, fun i _ hi => ?_⟩
  ·rw [hrep] at hl; cases hl
  ·rw [hrep] at hl; cases hl
  ·have : i < ops.size := by omega
   simp [Array.getD_eq_getD_getElem?, this]
 ·refine Nat.le_trans (List.length_filter_le _ _) ?_
  simp
end
def eqB (x y:TrN):Bool:=(x.dep == y.dep) && ((x.nm.toList == y.nm.toList) && ((x.cl == y.cl) && zA5 x y))
theorem zQg (x y:TrN):eqB x y=true ↔ x=y:=by
 unfold eqB zA5
 simp only [Bool.and_eq_true,beq_iff_eq,decide_eq_true_eq,tL]
 constructor
 ·rintro⟨h1,h2,h3,⟨⟨⟨h4,h5⟩,h6⟩,h7⟩,h8⟩
  obtain⟨a1,a2,a3,a4,a5,a6,a7,a8⟩:=x
  obtain⟨b1,b2,b3,b4,b5,b6,b7,b8⟩:=y
  simp only at h1 h2 h3 h4 h5 h6 h7 h8
  have h2:=zBJ h2;have h6:=zBJ h6
  subst h1 h2 h3 h4 h5 h6 h7 h8;rfl
 ·rintro rfl;simp
end Go.Proofs.YtbeeoomadnmogaaGreat
