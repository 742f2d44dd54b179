/- ChkB ChkC ChkD ChkE ChkF BrnA BrnC BrnD BrnE BrnF BrnG BrnK AwQ -/
import Derived.Test.YtbeeoomadnmogaaGreatQI3
import Derived.Test.YtbeeoomadnmogaaGreatQNodC
set_option maxRecDepth 100000
set_option maxHeartbeats 64000000
namespace Go.Proofs.YtbeeoomadnmogaaGreat
open Go.RowKit
theorem bT {w:World}{b:Nat}{c:Array Value}{t:TypeId}(hb:w.heap[b]? = some (.cells c t (0,0)))(o:Nat):w.frozen? ⟨b,o,none⟩=false:=by
 simp[World.frozen?,hb]
theorem zD6 {B c o:Nat}{w:World}{cs:Array Value}{E:TypeId}{f:Nat × Nat}(h:w.heap[c]? = some (.cells cs E f))(hB:B<=c)(v:Value):Chg B E (some c) w (w.setCell ⟨c,o,none⟩ v):=
 ⟨fun _ _ hb hne=>bSn hb _ _ (fun e=>hne (by rw[e])),by simp[World.setCell],fun g hg=>by cases hg;exact⟨hB,_,_,h⟩⟩
def zLc (B:Nat)(w:World)(c m1 m2:Nat)(vd:Value)(D:List Opn)(f:Bool)(cl:Int)(x:TrN)(e:Ending)(w':World):Prop:=
 e= .returned (.int .i64 (zDb D f x))/\Below B w w'/\(zDb D f x=0->∃vd',w'.heap[c]? = some (.cells #[vd',.bool f,.map (some m1),.map (some m2),.int .i64 cl] 149 (0,0))/\zAg cdO B w' vd' (zFg D x)/\∀b o,w.heap[b]? = some o->b≠c->vd.ownBlock≠some b->w'.heap[b]? = some o)
theorem zBx {B:Nat}{w w':World}{c m1 m2:Nat}{vd:Value}{D:List Opn}{f:Bool}{cl:Int}{x:TrN}{v:Int}(h:zDb D f x=v)(hv:v≠0)(hb:Below B w w'):zLc B w c m1 m2 vd D f cl x (.returned (.int .i64 v)) w':=
 ⟨by rw[h],hb,fun h0=>absurd (h.symm.trans h0) hv⟩
theorem zJm {B c e:Nat}{w:World}{v:Value}{l:List Opn}{cs:Array Value}{f:Nat × Nat}(h:zAg cdO B w v l)(hb:w.heap[c]? = some (.cells cs e f))(he:e≠210):v.ownBlock≠some c:=by
 intro hv;obtain⟨_,c',f',h2⟩:=h.row rfl c hv;rw[hb]at h2;cases h2;exact he rfl
theorem zPw {D:List Opn}{f:Bool}{x:TrN}(h:D.length≠0):zDb D f x=if x.dep<1\/(if f then (D.length:Int)-1 else D.length)<x.dep then 6 else if 8<x.dep then 3 else if zAn (L x.nm)≠0 then zAn (L x.nm)
 else if 0<(D.getD (x.dep.toNat-1) (0,⟨#[]⟩)).1/\(D.getD (x.dep.toNat-1) (0,⟨#[]⟩)).2=x.nm then 8
 else if 0<(D.getD (x.dep.toNat-1) (0,⟨#[]⟩)).1/\L x.nm<L (D.getD (x.dep.toNat-1) (0,⟨#[]⟩)).2 then 6
 else if (D.getD (x.dep.toNat-1) (0,⟨#[]⟩)).1=24 then 3 else 0:=by unfold zDb;rw[if_neg h]
theorem eD (w:World):Ext w w.drew:=Below.drew (bR _ _)
theorem zKu {w w2 : World} {B c g m n cap : Nat} {D : List Opn} {d : Opn} {nm : ByteArray} {bx cs : Array Value} (hb : Ext (w.alloc (.cells bx 59)) w2) (hblk : w.heap[c]? = some (.cells cs 149 (0, 0)))
  (hD : zAg cdO B w (.slice (some ⟨g, 0, none⟩) D.length cap) D) (hmD : m < D.length) (hd : D[m]? = some d) (hcg : c ≠ g) (hBw : B <= w.heap.size) {P : World -> Prop}
  (h : ∀ W3, W3.heap[c]? = some (.cells cs 149 (0, 0)) -> W3.heap[w.heap.size]? = some (.cells bx 59 (0, 0)) -> zAg cdO B W3 (.slice (some ⟨g, 0, none⟩) D.length cap) (D.set m (d.1 + 1, nm)) -> Below B w W3 ->
   (∀ b o, w.heap[b]? = some o -> b ≠ g -> W3.heap[b]? = some o) -> P W3) : P (((w2.drewN n).setCell ⟨g, m * 2, none⟩ (.int .i64 ((d.1 : Int) + 1))).setCell ⟨g, m * 2 + 1, none⟩ (.string nm)) := by
 have hE : Ext w w2 := (eA _ _).trans hb;have hdd : D[m]'hmD = d := by rw [List.getElem?_eq_getElem hmD] at hd; injection hd
 have h1 : zAg cdO B (w2.drewN n) (.slice (some ⟨g, 0, none⟩) D.length cap) D := (hD.ext okO hE).ext okO (eDn _ _);obtain ⟨_, he0, hBg, hgl, _⟩ := hD.addr (by omega);cases he0;have hgw : g ≠ w.heap.size := by omega
 have hcl := bL hblk;have h2 := h1.store okO m hmD 0 (by decide) (.int .i64 ((d.1 : Int) + 1)) ((d.1 + 1, d.2) : Opn) (fun cs' (hcs : cs' = zRB (D[m]'hmD)) => by rw [hcs, hdd]; show _ = [_, _]; simp [zRB]);have e0 : m * cdO.n + 0 = m * 2 := rfl;rw [e0] at h2;have h3 := h2.1.store okO m (by simpa using hmD) 1 (by decide) (.string nm) ((d.1 + 1, nm) : Opn) (fun cs' hcs => by
  have hcs : cs' = zRB _ := hcs;rw [List.getElem_set_self] at hcs; rw [hcs]; simp [zRB, cdO])
 have e1 : m * cdO.n + 1 = m * 2 + 1 := rfl;rw [e1, List.set_set] at h3;have hkeep : ∀ b o, w2.heap[b]? = some o -> b ≠ g -> (((w2.drewN n).setCell ⟨g, m * 2, none⟩ (.int .i64 ((d.1 : Int) + 1))).setCell ⟨g, m * 2 + 1, none⟩ (.string nm)).heap[b]? = some o := fun b o hbo hne =>
  bSn (bSn (bX (eDn _ _) hbo) _ _ hne) _ _ hne
 refine h _ (hkeep _ _ (bX hE hblk) hcg) (hkeep _ _ (bX hb (bN w _)) (fun e => hgw e.symm)) h3.1 ?_ (fun b o h4 h5 => hkeep _ _ (bX hE h4) h5);exact (((hE.trans (eDn _ _)).mono hBw).setCell (p := ⟨g, m * 2, none⟩) hBg _).setCell (p := ⟨g, m * 2 + 1, none⟩) hBg _
theorem zE1:Tryz.prog.underlying 145=some (.map 3 59):=Tryz.underlying145
theorem zAz:Tryz.prog.underlying 146=some (.map 3 3):=Tryz.underlying146
theorem zA4:zRx Tryz.prog 3 kI:=zSy Tryz.underlying3
theorem zB3 (w:World):(zeroValue 3).run Tryz.prog w= .ok (.int .i64 0) w:=by kernel_rfl
theorem zKd {w:World}:(zeroValue 59).run Tryz.prog w= .ok cdT.z w:=by kernel_rfl
theorem nW {P:World->Prop}(W:World)(h:∀W',W'=W->P W'):P W:=h W rfl
theorem zAA.keepB {K:Type}{κ:K->Value}{w w':World}{b n:Nat}{f:K->Option Value}(h:zAA κ w b n f)(hk:∀o,w.heap[b]? = some o->w'.heap[b]? = some o):zAA κ w' b n f:=by
 obtain⟨es,c,hb,r⟩:=h;exact⟨es,c,hk _ hb,r⟩
def zDn (m:Int)(lk:Bool)(x:TrN):Int:=
 if x.cl=0 then 0 else if x.cl<0\/m+1<x.cl then 6 else if m<x.cl then 0 else if lk then 0 else 6
structure zVL (B:Nat) (w w':World) (c m1 m2:Nat) (vd:Value) (f:Bool) (m:Int) (F1 F2:Int->Option Value) (x:TrN) (v:Value) (n:Nat):Prop where
 ex:∃n1 n2 F1' F2',w'.heap[c]? = some (.cells #[vd,.bool f,.map (some m1),.map (some m2),.int .i64 (max m x.cl)] 149 (0,0))/\zAA kI w' m1 n1 F1'/\zAA kI w' m2 n2 F2' /\
  F1'=(if m<x.cl then upd F1 x.cl v else F1)/\F2'=(if x.cl=0 then F2 else upd F2 x.cl (.int .i64 ((n:Int)+1)))
 keep:∀b o,w.heap[b]? = some o->b≠c->b≠m1->b≠m2->w'.heap[b]? = some o
def zUk (B:Nat)(w:World)(c m1 m2:Nat)(vd:Value)(f:Bool)(m:Int)(F1 F2:Int->Option Value)(lk:Bool)(x:TrN)(v:Value)(n:Nat)(e:Ending)(w':World):Prop:=
 e= .returned (.int .i64 (zDn m lk x))/\Below B w w'/\(zDn m lk x=0->zVL B w w' c m1 m2 vd f m F1 F2 x v n)
theorem zGD {B:Nat}{w w':World}{c m1 m2:Nat}{vd:Value}{f:Bool}{m:Int}{F1 F2:Int->Option Value}{lk:Bool}{x:TrN}{v:Value}{n:Nat}{r:Int}(h:zDn m lk x=r)(hv:r≠0)(hb:Below B w w'):
 zUk B w c m1 m2 vd f m F1 F2 lk x v n (.returned (.int .i64 r)) w':=⟨by rw[h],hb,fun h0=>absurd (h.symm.trans h0) hv⟩
def zJ5 (W0:World)(t:List TrN)(k:Nat)(F:Int->Option Value):Prop:=∀q:Int,0<q->q<=zAK t k->∃i vy,i<k/\(zAa t i).cl=q/\F q=some (trV (zAa t i) vy)/\aA W0 vy (zAa t i).ats
def zJ6 (t:List TrN)(k:Nat)(F:Int->Option Value):Prop:=∀q:Int,0<q->(F q).getD (.int .i64 0)= .int .i64 (zAi t q k)
structure zOE (W0 w:World) (c m1 m2:Nat) (t:List TrN) (k:Nat):Prop where
 ex:∃vd n1 n2 F1 F2,w.heap[c]? = some (.cells #[vd,.bool (zB8 t k),.map (some m1),.map (some m2),.int .i64 (zAK t k)] 149 (0,0))/\zAg cdO W0.heap.size w vd (zBg t k)/\zAA kI w m1 n1 F1/\zAA kI w m2 n2 F2/\zJ5 W0 t k F1/\zJ6 t k F2
 below:Ext W0 w
theorem zOE.ext {W0 w w':World}{c m1 m2 k:Nat}{t:List TrN}(h:zOE W0 w c m1 m2 t k)(he:Ext w w'):zOE W0 w' c m1 m2 t k:=by
 obtain⟨vd,n1,n2,F1,F2,h1,h2,h3,h4,h5,h6⟩:=h.ex;exact⟨⟨vd,n1,n2,F1,F2,bX he h1,h2.ext okO he,h3.ext he,h4.ext he,h5,h6⟩,h.below.trans he⟩
theorem zLH {x y z:TrN}(h1:zAT x y=true)(_h2:zAT x z=zAT x z):zAT y z=zAT x z:=by
 obtain⟨a,b,c,d,e⟩:=zBX.1 h1;unfold zAT;rw[a,b,c,d,e]
theorem zOn (x:TrN):zAT x x=true:=zBX.2 ⟨rfl,rfl,rfl,rfl,rfl⟩
theorem zCG {t:List TrN}{i:Nat}:∀k,(zBB t i k=false↔ ∀j,j<k->¬(0<(zAa t i).cl/\(zAa t j).cl=(zAa t i).cl/\zAT (zAa t j) (zAa t i)=false))
 :=by intro l;induction l<;>grind[zBB,zAT,zAa,TrN,zBB,zAa,zAT]
theorem zOe (t:List TrN):∀k j,j<=k->zAK t j<=zAK t k
 :=by intro l;induction l<;>grind[TrN,zAK]
theorem zMS (t:List TrN):∀k i,i<k->(zAa t i).cl<=zAK t k
 :=by intro l;induction l<;>grind[TrN,zAa,zAK]
theorem zS1 {t:List TrN} {k:Nat} (h:zA1 t k) {i:Nat} (hi:i < k) (hc:0 < (zAa t k).cl->(zAa t k).cl<=zAK t k->(zAa t i).cl=(zAa t k).cl):zDn (zAK t k) (zAT (zAa t i) (zAa t k)) (zAa t k)=zGc t k:=by
 have hmb:=zEZ k h
 unfold zDn zGc
 by_cases e0:(zAa t k).cl=0
 ·grind [zCG]
 rw [if_neg e0]
 by_cases e1:(zAa t k).cl < 0\/zAK t k+1 < (zAa t k).cl
 ·omega
 rw [if_neg e1,if_neg e1]
 by_cases e2:zAK t k < (zAa t k).cl
 ·grind [zCG,zMS]
 rw [if_neg e2]
 have hc':=hc (by omega) (by omega)
 cases hl:zAT (zAa t i) (zAa t k)
 ·grind [zBB,zCG]
 ·rw [if_pos rfl,if_neg]
  rw [Bool.not_eq_true,zCG];rintro j hj ⟨a,b,c⟩
  -- both are like the first one of the class
  have hji:zAT (zAa t i) (zAa t j)=true:=by
   by_cases e:i=j
   ·grind
   ·rcases Nat.lt_or_gt_of_ne e with e | e
    ·obtain⟨_,_,_,_,hcj⟩:=zAd (h j hj)
     grind [zAT,zAa,zCG,zEN]
    ·obtain⟨_,_,_,_,hci⟩:=zAd (h i hi)
     grind [zAT,zAa,zCG,zEN]
  grind [zLH]
theorem zQM {t:List TrN}{k:Nat}(h:zA1 t k)(lk:Bool)(hc:¬(0<(zAa t k).cl/\(zAa t k).cl<=zAK t k)):zDn (zAK t k) lk (zAa t k)=zGc t k:=by
 have hmb:=zEZ k h;unfold zDn zGc;by_cases e0:(zAa t k).cl=0
 ·grind[zCG]
 rw[if_neg e0];by_cases e1:(zAa t k).cl<0\/zAK t k+1<(zAa t k).cl
 ·omega
 rw[if_neg e1,if_neg e1];have e2:zAK t k<(zAa t k).cl:=by omega
 rw[if_pos e2,if_neg];rw[Bool.not_eq_true,zCG];rintro j hj ⟨a,b,_⟩;have:=zMS t k j hj;omega
theorem zAg.keepO {B:Nat}{w w':World}{v:Value}{l:List Opn}(h:zAg cdO B w v l)(hk:∀g,v.ownBlock=some g->∀o,w.heap[g]? = some o->w'.heap[g]? = some o):zAg cdO B w' v l:=by
 obtain⟨css,hl,hR,ho⟩:=h;refine⟨css,hl,hR,ho.1,?_⟩;rcases ho.2 with h1|⟨g,cap,cur,rfl,hb,hg,h3⟩
 ·grind
 ·exact .inr ⟨g,cap,cur,rfl,hb,hk g rfl _ hg,h3⟩
theorem aA.setC {w:World}{v:Value}{l:List zAq}{c o:Nat}{u:Value}(h:aA w v l)(hc:∀b,v.ownBlock=some b->0<l.length->b≠c):aA (w.setCell ⟨c,o,none⟩ u) v l:=by
 obtain⟨a,cap,rfl,hcap,hcs⟩:=h;refine⟨a,cap,rfl,hcap,fun k hk=>?_⟩;obtain⟨b,off,rfl,hb,h1,h2⟩:=hcs k hk;have hne:=hc b rfl (by omega);have hh:(w.setCell ⟨c,o,none⟩ u).heap[b]? = w.heap[b]?:=Below.heap_setCell _ _ _ _ hne;refine⟨b,off,rfl,by simp[World.setCell];exact hb,?_,?_⟩
 ·simp only[World.cell?,hh];exact h1
 ·simp only[World.cell?,hh];exact h2
theorem zSK {t:List TrN}{k:Nat}(hk:k<=t.length)(h:zA1 t k):(zBg t k).length<=9/\∀d∈zBg t k,d.1<=24:=by
 by_cases hk0:k=0
 ·grind[zBg]
 obtain⟨h1,_⟩:=zAd (h (k-1) (by omega));have hb:=zA3 h1;grind[zBg,zGz,zLr]
def zYf (w w':World)(c:Nat):Prop:=∀b cs E f,w.heap[b]? = some (.cells cs E f)->E≠210->b≠c->w'.heap[b]? = some (.cells cs E f)
def zW9 (W0 w:World)(c m1 m2:Nat)(t:List TrN)(k:Nat)(e:Ending)(w':World):Prop:=
 e= .returned (.int .i64 (zBc t k))/\Ext W0 w'/\(zBc t k=0->zOE W0 w' c m1 m2 t (k+1)/\zYf w w' c)
theorem zEB {W0 w w':World}{c m1 m2 k:Nat}{t:List TrN}{r:Int}(h:zBc t k=r)(hv:r≠0)(hb:Ext W0 w'):zW9 W0 w c m1 m2 t k (.returned (.int .i64 r)) w':=⟨by rw[h],hb,fun h0=>absurd (h.symm.trans h0) hv⟩
theorem zLP (t:List TrN)(k:Nat):zB8 t (k+1)= !((zAa t k).kd==1):=by unfold zB8;rw[if_neg (by omega)];rfl
theorem zOs {W0:World}{t:List TrN}{k:Nat}{F:Int->Option Value}{va:Value}(h:zJ5 W0 t k F)(ha:aA W0 va (zAa t k).ats)(_hc0:0<=(zAa t k).cl)(hc1:(zAa t k).cl<=zAK t k+1):
 zJ5 W0 t (k+1) (if zAK t k<(zAa t k).cl then upd F (zAa t k).cl (trV (zAa t k) va)else F):=by grind[TrN,zJ5,aA,zAa,zAK,upd]
theorem zOx {t:List TrN}{k:Nat}{F:Int->Option Value}(h:zJ6 t k F):zJ6 t (k+1) (if (zAa t k).cl=0 then F else upd F (zAa t k).cl (.int .i64 ((zAi t (zAa t k).cl k:Int)+1))):=by grind[TrN,zJ6,zAa,upd,zAi]
theorem zEM (t:List TrN)(c:Int):∀k,zAi t c k<=k
 | 0=>Nat.le_refl _
 | k+1=>by have:=zEM t c k;rw[zAi.eq_2];split<;>omega
def zGv (p:Nat->Bool)(n:Nat):Int:=match zBy p 0 n with|some i=>i|none=>-1
theorem zBY {p:Nat->Bool}{n:Nat}(h:∀j,j<n->p j=false):zGv p n= -1:=by unfold zGv;rw[zBl n 0 fun j _ hj=>h j (by omega)]
theorem zBP {p:Nat->Bool}{n i:Nat}(hi:i<n)(h:∀j,j<i->p j=false)(hp:p i=true):zGv p n=i:=by unfold zGv;rw[zB7 n 0 i (Nat.zero_le _) (by omega) (fun j _ hj=>h j hj) hp]
theorem zSM {p:Nat->Bool}:∀n,(∀j,j<n->p j=false)\/∃i,i<n/\(∀j,j<i->p j=false)/\p i=true
 :=by intro l;induction l<;>grind[]
theorem zAu {w:World}{o:Obj}{n:Nat}(h:n=w.heap.size):(w.alloc o).heap[n]? = some o:=by subst h;exact bN w o
theorem zSr {K:Type}{κ:K->Value}{w:World}{n:Nat}(h:n=w.heap.size):zAA κ (w.alloc (.map #[] 0)) n 0 (fun _=>none):=by subst h;exact zBJ w κ
theorem zWd {a:Nat}:(decide ((0:Int)<=(a:Int)))=true:=decide_eq_true (by omega)
abbrev brV (x:BrN)(va vr:Value):Value:=.agg #[.int .i64 x.dep,.string x.nm,.int .i64 x.kd,va,.string x.dat,.int .i64 x.ma,.int .i64 x.mi,.int .i64 x.cl,.bool x.opq,vr]
def zFp (w:World)(g:Nat):Nat->List Value->World
 | _,[]=>w
 | j,v :: r=>zFp (w.setCell ⟨g,j,none⟩ v) g (j+1) r
def zVO (cs:Array Value):Nat->List Value->Array Value
 | _,[]=>cs
 | j,v :: r=>zVO (cs.setIfInBounds j v) (j+1) r
theorem zCF {g:Nat}{t:TypeId}{f:Nat × Nat}:∀(vs:List Value) (w:World) (j:Nat) (cs:Array Value),w.heap[g]? = some (.cells cs t f)->(zFp w g j vs).heap[g]? = some (.cells (zVO cs j vs) t f)
 | [],_,_,_,h=>h
 | v :: r,_w,j,_cs,h=>zCF r _ (j+1) _ (bS h v)
theorem zEy {g:Nat}:∀(vs:List Value) (w:World) (j:Nat),zAy (some g) w (zFp w g j vs)
 | [],_,_=>fun _ _ h _=>h
 | v :: r,w,j=>fun b o h hne=>zEy r _ (j+1) b o (bSn h _ _ (fun e=>hne (by rw[e]))) hne
theorem zFL {g:Nat}:∀(vs:List Value) (w:World) (j:Nat),(zFp w g j vs).heap.size=w.heap.size
 | [],_,_=>rfl
 | v :: r,w,j=>by unfold zFp;rw[zFL r];simp[World.setCell]
theorem zBw {B g:Nat}{W:World}(hB:B<=g):∀(vs:List Value) (w:World) (j:Nat),Below B W w->Below B W (zFp w g j vs)
 | [],_,_,h=>h
 | v :: r,_w,j,h=>zBw hB r _ (j+1) (h.setCell (p:=⟨g,j,none⟩) hB v)
theorem zCX {B g:Nat}{t:TypeId}{f:Nat × Nat}{cs:Array Value}{w:World}(hB:B<=g)(h:w.heap[g]? = some (.cells cs t f))(vs:List Value):Chg B t (some g) w (zFp w g 0 vs):=
 ⟨zEy vs w 0,Nat.le_of_eq (zFL vs w 0).symm,fun g' e=>by cases e;exact⟨hB,_,_,h⟩⟩
def zUj (w:World)(x:BrN)(e:Ending)(w':World):Prop:=(∃va,e= .returned (trV x.toTrN va)/\zAH 0 w' va x.ats)/\Ext w w'
def plT (l:List BrN):List TrN:=l.map BrN.toTrN
theorem zAk (l:List BrN):(plT l).length=l.length:=by simp[plT]
theorem zMB (l:List BrN)(k:Nat)(h:k<l.length):plT (l.take (k+1))=plT (l.take k)++ [(l[k]'h).toTrN]:=by
 unfold plT;rw[List.take_succ_eq_append_getElem h,List.map_append];rfl
theorem zJk (l:List BrN):plT (l.take l.length)=plT l:=by rw[List.take_length]
def zW5 (w:World)(b:List BrN)(e:Ending)(w':World):Prop:=(∃a cap,e= .returned (.slice a b.length cap)/\zAg cdT w.heap.size w' (.slice a b.length cap) (plT b))/\Ext w w'
theorem zJQ {w w':World}{b o:Nat}{v0 v1 v2 v3 v4 v5 v6 v7 v8 v9:Value}(he:Ext w w')(hb:b<w.heap.size)
 (h:w.cell? ⟨b,o,none⟩=some v0/\w.cell? ⟨b,o+1,none⟩=some v1/\w.cell? ⟨b,o+2,none⟩=some v2/\w.cell? ⟨b,o+3,none⟩=some v3/\w.cell? ⟨b,o+4,none⟩=some v4/\w.cell? ⟨b,o+5,none⟩=some v5/\w.cell? ⟨b,o+6,none⟩=some v6/\w.cell? ⟨b,o+7,none⟩=some v7/\w.cell? ⟨b,o+8,none⟩=some v8/\w.cell? ⟨b,o+9,none⟩=some v9) :
 w'.cell? ⟨b,o,none⟩=some v0/\w'.cell? ⟨b,o+1,none⟩=some v1/\w'.cell? ⟨b,o+2,none⟩=some v2/\w'.cell? ⟨b,o+3,none⟩=some v3/\w'.cell? ⟨b,o+4,none⟩=some v4/\w'.cell? ⟨b,o+5,none⟩=some v5/\w'.cell? ⟨b,o+6,none⟩=some v6/\w'.cell? ⟨b,o+7,none⟩=some v7/\w'.cell? ⟨b,o+8,none⟩=some v8/\w'.cell? ⟨b,o+9,none⟩=some v9:=by grind[eC]
theorem zXN {P:Program}{α:Type}{C:Cd α}(K:zEq P C)(w:World){ops:Array Oper}{rest:List Oper}{o:Oper}{a:Act}{Q:Exit->Act->World->Prop}
  (hg:o.guard=none) (l c:Operand) (hop:o.op=Op.makeSlice C.t l c) (n:Nat) (hl:a.eval l= .int .i64 0) (hc:a.eval c= .int .i64 n) (hn:n<=1000000)
  (hK:∀w',zAg C w.heap.size w' (.slice (some ⟨w.heap.size,0,none⟩) 0 n) []->Ext w w'->wpList P ops Q rest (a.put o.dst (.slice (some ⟨w.heap.size,0,none⟩) 0 n)) w') :
  wpList P ops Q (o :: rest) a w:=by
 obtain⟨i,hi,hz,h3,h4⟩:=K.sl.info;have hsm:=K.sl.small;refine wpList_make_own w hg l c C.t hop w.heap.size C.e i _ C.n K.sl.und hi hz h3 .i64 .i64 n n hl hc rfl ?_ (by unfold maxLen;omega) (Nat.le_refl _) fun w' h1 h2=>hK w' ⟨[],rfl,fun k hk=>absurd hk (by simp),h1⟩ ?_
 ·have:i.bytes*n<=1000*1000000:=Nat.mul_le_mul (by omega) hn;omega
 ·exact Below.grown (bR _ _) h2 (Nat.le_refl _) (fun k hk=>by cases hk)
def zNt:Cd TrN:={cdT with R:=fun _ w x cs=>∃va,zAH 0 w va x.ats/\cs=trC x va}
theorem zIF:zEq Tryz.prog zNt where
 sl:=okT.sl;len:=fun h=>by obtain⟨va,_,rfl⟩:=h;rfl
 one:=fun h=>okT.one (B:=0) h;chg:=fun {B w w' x cs E row} h c hE=>okT.chg (B:=0) h ⟨c.keep,c.size,fun g hg=>⟨Nat.zero_le _,(c.isrow g hg).2⟩⟩ hE;mono:=fun _ h=>h;self:=okT.self
def zUh (w:World)(b:List BrN)(e:Ending)(w':World):Prop:=(∃a cap,e= .returned (.slice a b.length cap)/\zAg zNt w.heap.size w' (.slice a b.length cap) (plT b))/\Ext w w'
theorem zAg.to {B B':Nat}{w:World}{v:Value}{l:List TrN}(h:zAg zNt B w v l)(hB:B'<=B):zAg cdT B' w v l:=by
 obtain⟨css,hl,hR,ho⟩:=h;exact⟨css,hl,fun k h h'=>okT.mono (Nat.zero_le _) (hR k h h'),ho.1,ho.2.imp_right fun ⟨g,cap,cur,h1,h2,h3⟩=>⟨g,cap,cur,h1,Nat.le_trans hB h2,h3⟩⟩
def zYz:BrN:={zVU with opq:=false,red:=[]}
def zAm (b:List BrN)(i:Nat):BrN:=b.getD i zYz
theorem zAN (b:List BrN)(i:Nat)(h:i<b.length):zAm b i=b[i]'h:=by unfold zAm;simp[List.getD,h]
theorem zAx (b:List BrN)(i:Nat)(h:i<b.length):zAa (plT b) i=(zAm b i).toTrN:=by
 rw[zAl _ _ (by rw[zAk];exact h),zAN _ _ h];simp[plT]
def zEp (t:List TrN)(d:Int):Nat->Int
 | 0=>-1
 | n+1=>if (zAa t n).dep<d then n else zEp t d n
def abv (t:List TrN)(i:Nat):Int:=zEp t (zAa t i).dep i
theorem zRv (t:List TrN)(d:Int):∀n,-1<=zEp t d n/\zEp t d n<n
 | 0=>⟨Int.le_refl _,by show (-1:Int)<0;decide⟩
 | n+1=>by
  have:=zRv t d n;unfold zEp;split<;>omega
def zN4 (t:List TrN):Nat->Nat->List ByteArray
 | 0,_=>[]
 | f+1,i=>if i=0 then []else zN4 t f (abv t i).toNat++ [(zAa t i).nm]
def zAw (t:List TrN)(i:Nat):List ByteArray:=zN4 t (i+1) i
theorem zCT (t:List TrN)(i:Nat): -1<=abv t i/\abv t i<i:=zRv _ _ _
theorem zR7 (t:List TrN):∀(i f f':Nat),i<f->i<f'->zN4 t f i=zN4 t f' i:=by
 intro i
 induction i using Nat.strongRecOn with
 | ind i ih=>
  intro f f' h h';obtain⟨g,rfl⟩:∃g,f=g+1:=⟨f-1,by omega⟩;obtain⟨g',rfl⟩:∃g,f'=g+1:=⟨f'-1,by omega⟩;unfold zN4;by_cases e:i=0
  ·grind
  ·rw[if_neg e,if_neg e];have:=zCT t i;grind
theorem zDJ (t:List TrN):zAw t 0= []:=rfl
theorem zCw (t:List TrN)(i:Nat)(h:i≠0):zAw t i=zAw t (abv t i).toNat++ [(zAa t i).nm]:=by
 have:=zCT t i;grind[zN4,zAw,abv,zR7]
theorem zDc (t:List TrN):∀i,(zAw t i).length<=i:=by
 intro i
 induction i using Nat.strongRecOn with
 | ind i ih=>
  by_cases e:i=0
  ·grind[zDJ]
  ·have:=zCT t i;grind[abv,zCw]
theorem zRu {t:List TrN}{d:Int}:∀{n j:Nat},j<n->(zAa t j).dep<d->0<=zEp t d n
 | n+1,j,hj,hd=>by
  unfold zEp;by_cases e:(zAa t n).dep<d
  ·rw[if_pos e];omega
  ·rw[if_neg e];exact zRu (j:=j) (by by_cases e2:j=n;subst e2;exact absurd hd e;omega) hd
theorem zUg {t:List TrN}{k i:Nat}(h:zA1 t k)(hi:i<k)(h0:i≠0):0<=abv t i:=by
 obtain⟨s0,_⟩:=zAd (h 0 (by omega));obtain⟨si,_⟩:=zAd (h i hi);have:=(zA3 s0).2.2.1 rfl;have:=(zA3 si).2.2.2 h0;exact zRu (j:=0) (by omega) (by omega)
def zXw {α:Type}(C:Cd α)(w:World)(l:List α)(e:Ending)(w':World):Prop:=(∃a n cap,e= .returned (.slice a n cap)/\zAg C w.heap.size w' (.slice a n cap) l)/\Ext w w'
theorem zAh.zero {α:Type}{C:Cd α}{B:Nat}{w:World}{v:Value}{l:List α}(h:zAh C B w v l)(hv:∃n cap,v= .slice none n cap):l= []:=by
 obtain⟨a,cap,rfl,_,_,hc⟩:=h;obtain⟨n',cap',he⟩:=hv;cases he
 cases l with
 | nil=>rfl
 | cons y r=>obtain⟨b,off,cs,h0,_⟩:=hc 0 (by simp);cases h0
theorem zFI (B:Nat)(v:Value)(l:List ByteArray)(w:World)(hv:zBV B w v l)(hB:B<=w.heap.size)(hl:l.length<=1000):
  Calls Tryz.prog 176 #[v] w (zXw cdS w l):=by
 obtain⟨a,cap,rfl⟩:=hv.form;have HV:=hQq hv;clear hv
 cases a with
 | none=>
  have:=HV.out.zero ⟨_,_,rfl⟩;subst this;have hnil:=fun wx=>Lib.run_eql_slice_nil (P:=Tryz.prog) wx 23 9 none 0 cap 0 0 okS.sl.und;go_enter Tryz.func176,Tryz.ntmps176;go_wp2;go_ret;exact⟨⟨_,_,_,rfl,zAg.nil _ _ _⟩,bR _ _⟩
 | some ad=>
  have hnil:=fun wx=>Lib.run_eql_slice_nil (P:=Tryz.prog) wx 23 9 (some ad) l.length cap 0 0 okS.sl.und;go_enter Tryz.func176,Tryz.ntmps176;go_wp2_with (at_builtin;refine zIX okS rfl (.tmp 5) (.tmp 6) rfl _ _ [] l w (w.alloc (.cells #[] 9)) rfl rfl (zAg.fresh cdS w) ((HV.out.mono okS hB).ext okS (eA _ _)) (eA _ _) (by simp) (by simp;omega) ?_;intro v1 w1 ha;have HA:=hQq ha;clear ha)
  obtain⟨a6,cap6,rfl⟩:=HA.out.own.form;go_ret;exact⟨⟨_,_,_,rfl,HA.out.own⟩,HA.out.below⟩
def eqB (x y:TrN):Bool:=(x.dep==y.dep)&&((x.nm.toList==y.nm.toList)&&((x.cl==y.cl)&&zAT x y))
theorem zQs (x y:TrN):eqB x y=true↔x=y:=by grind[TrN,eqB,zAT,tL,zBG]
end Go.Proofs.YtbeeoomadnmogaaGreat
