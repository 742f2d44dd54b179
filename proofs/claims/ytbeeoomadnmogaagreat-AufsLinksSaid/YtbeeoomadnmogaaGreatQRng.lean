/- Rng WlkA WlkB WlkC RngH DirK RngX WlkX -/
import Derived.Test.YtbeeoomadnmogaaGreatQI4
import Derived.Test.YtbeeoomadnmogaaGreatQBrnB
set_option maxRecDepth 100000
set_option maxHeartbeats 64000000
namespace Go.Proofs.YtbeeoomadnmogaaGreat
open Go.RowKit
def AbB {β:Type}(B:Nat)(J:β->World->Prop):Prop:=∀s W W',J s W->Below B W W'->J s W'
theorem zAO {B:Nat}{W:World}{l:Nat}{o o':Obj}(h:W.heap[l]? = some o)(hl:B<=l):Below B W (W.putObj l o'):=
 (bR B W).grown (grownBy_putObj' W l o') (by have:=(Array.getElem?_eq_some_iff.1 h).1;omega) (fun k e=>by cases e;exact hl)
def zX8 {α : Type} (F : Fence) (n : Nat) (P : Program) (g : Nat) (lb : Array Value) (zB5 : α -> Array Value) (Kp : World -> World -> Prop) (Ok : List α -> α -> World -> Prop) (S Sp : List α -> Prop) (N : Nat) (w : World) : Prop :=
 ∀ (l : Nat) (J Jx : List α -> World -> Prop) (W : World), Below w.heap.size w W -> AbB W.heap.size J -> AbB W.heap.size Jx ->
  (∀ pre x W1, J pre W1 -> pre.length < N -> Ok pre x W1 -> YieldAt F (n - 1) P l (zB5 x) W1 fun e W' =>
   (e = .returned (.bool true) /\ J (pre ++ [x]) W' /\ Kp W1 W') \/ (e = .returned (.bool false) /\ Jx (pre ++ [x]) W')) ->
  J [] W ->
  CallsIn F n P g (#[.func (.yield l) #[] #[]] ++ lb) W fun e W' => (∃ v, e = .returned v) /\ ((∃ xs, S xs /\ J xs W') \/ (∃ pre, Sp pre /\ Jx pre W'))
section
variable {F:Fence} {n:Nat} {P:Program}
structure zBZ (B:Nat) (r:Loop) (W:World):Prop where
 lp:W.heap[B+1]? = some (.loop r)
 df:W.heap[B]? = some (.deferred (some []))
theorem zBZ.below {B C:Nat}{r:Loop}{W W':World}(h:zBZ B r W)(hb:Below C W W')(hC:B+1<C):zBZ B r W':=by
 have h1:=h.lp;have h2:=h.df;exact⟨(hb.block _ (by omega)).trans h1,(hb.block _ (by omega)).trans h2⟩
theorem zBZ.keeps {B:Nat}{r:Loop}{W W':World}(h:zBZ B r W)(hk:KeepsFrom B W W'):zBZ B r W':=⟨hk.same _ _ (by omega) h.lp rfl,hk.same _ _ (Nat.le_refl _) h.df rfl⟩
theorem zBZ.put {B:Nat}{r r':Loop}{W:World}(h:zBZ B r W):zBZ B r' (W.putObj (B+1) (.loop r')):=
 ⟨World.putObj_heap_same (Array.getElem?_eq_some_iff.1 h.lp).1,(World.putObj_heap_other (by omega)).trans h.df⟩
theorem AbB.put {β:Type}{B l:Nat}{J:β->World->Prop}(hJ:AbB B J){s:β}{W:World}{o o':Obj}(h:J s W)(hl:B<=l)(ho:W.heap[l]? = some o):J s (W.putObj l o'):=hJ _ _ _ h (zAO ho hl)
end
def cdN:Cd Nat:={t:=49,e:=3,n:=1,bytes:=8,z:=.int .i64 0,inner:=[],R:=fun _ _ x cs=>cs= [.int .i64 x]}
theorem okN:zEq Tryz.prog cdN where
 sl:={und:=Tryz.underlying49,info:=info_parts (by kernel_rfl),zs:=rfl,pos:=by decide,small:=by decide};len:=fun h=>by subst h;rfl
 one:=fun h u hu=>by subst h;simp at hu;subst hu;rfl
 chg:=fun h _ _=>h;mono:=fun _ h=>h;self:=by simp[cdN]
structure Kc (B0 B1:Nat) (W W':World):Prop where
 size:W.heap.size<=W'.heap.size
 keep:∀k cs e f,(k<B0\/B1<=k)->W.heap[k]? = some (.cells cs e f)->W'.heap[k]? = some (.cells cs e f)
theorem Kc.refl (B0 B1:Nat)(W:World):Kc B0 B1 W W:=⟨Nat.le_refl _,fun _ _ _ _ _ h=>h⟩
theorem Kc.trans {B0 B1:Nat}{A B C:World}(h:Kc B0 B1 A B)(k:Kc B0 B1 B C):Kc B0 B1 A C:=⟨Nat.le_trans h.size k.size,fun i cs e f hi hA=>k.keep i cs e f hi (h.keep i cs e f hi hA)⟩
theorem Kc.of_ext {B0 B1:Nat}{W W':World}(h:Ext W W'):Kc B0 B1 W W':=⟨h.size,fun _ _ _ _ _ hk=>bX h hk⟩
theorem Kc.put {B0 B1:Nat}{W:World}{l:Nat}{o o':Obj}(h:W.heap[l]? = some o)(hc:o.isCells=false):Kc B0 B1 W (W.putObj l o'):=by
 refine⟨(zAO (B:=0) (o':=o') h (Nat.zero_le _)).size,fun k cs e f _ hk=>?_⟩;by_cases ek:k=l
 ·subst ek;rw[h]at hk;cases hk;cases hc
 ·exact(World.putObj_heap_other (by omega)).trans hk
abbrev KcA (W W':World):Prop:=Kc 0 0 W W'
theorem Kc.all {B0 B1:Nat}{W0 W W':World}(h0:KcA W0 W)(h:Kc B0 B1 W W')(hB:W0.heap.size<=B0):KcA W0 W':=
 ⟨Nat.le_trans h0.size h.size,fun k cs e f _ hk=>h.keep k cs e f (.inl (Nat.lt_of_lt_of_le (bL hk) hB)) (h0.keep k cs e f (.inr (Nat.zero_le _)) hk)⟩
theorem KcA.cell {W W':World}(h:KcA W W'){p:Addr}{v:Value}(hp:W.cell? p=some v):W'.cell? p=some v:=by
 unfold World.cell? at hp ⊢
 cases hb:W.heap[p.block]? with
 | none=>rw[hb]at hp;cases hp
 | some o=>
  rw[hb]at hp
  cases o with
  | cells cs e f=>rw[h.keep _ _ _ _ (.inr (Nat.zero_le _)) hb];exact hp
  | _=>cases hp
theorem zAh.kc {α:Type}{C:Cd α}{B:Nat}{W W':World}{v:Value}{l:List α}(h:zAh C B W v l)(hk:KcA W W')(hR:∀x cs,C.R B W x cs->C.R B W' x cs):zAh C B W' v l:=by
 obtain⟨a,cap,rfl,hcap,hn,hc⟩:=h;refine⟨a,cap,rfl,hcap,fun h0 b hb=>(hn h0 b hb).imp_right fun ⟨cs,f,h1⟩=>⟨cs,f,hk.keep _ _ _ _ (.inr (Nat.zero_le _)) h1⟩,fun i hi=>?_⟩;obtain⟨b,off,cs,rfl,hb,hr,hrow⟩:=hc i hi;exact⟨b,off,cs,rfl,Nat.lt_of_lt_of_le hb hk.size,hR _ _ hr,fun j u hj=>hk.cell (hrow j u hj)⟩
theorem zEU {B:Nat}{W W':World}{v:Value}{l:List ByteArray}(h:zBV B W v l)(hk:KcA W W'):zBV B W' v l:=h.kc hk fun _ _ h=>h
theorem zDs {B:Nat}{W W':World}{v:Value}{l:List zAq}(h:zAH B W v l)(hk:KcA W W'):zAH B W' v l:=h.kc hk fun _ _ h=>h
theorem zEO {B:Nat}{W W':World}{v:Value}{l:List BrN}(h:zEi B W v l)(hk:KcA W W'):zEi B W' v l:=
 h.kc hk fun _ _ ⟨va,vr,h1,h2,h3⟩=>⟨va,vr,zDs h1 hk,zEU h2 hk,h3⟩
theorem zAg.kc {α:Type}{C:Cd α}{B B0 B1:Nat}{W W':World}{v:Value}{l:List α}(h:zAg C B W v l)(hk:Kc B0 B1 W W')(hB:B1<=B)(hR:∀x cs,C.R B W x cs->C.R B W' x cs):zAg C B W' v l:=by
 obtain⟨css,hl,hR0,ho⟩:=h;refine⟨css,hl,fun i h1 h2=>hR _ _ (hR0 i h1 h2),ho.1,?_⟩;rcases ho.2 with h1|⟨g,cap,cur,rfl,hb,hg,h3⟩
 ·grind
 ·exact .inr ⟨g,cap,cur,rfl,hb,hk.keep _ _ _ _ (.inr (Nat.le_trans hB hb)) hg,h3⟩
open Go.RowKit Go.Shelf
attribute [local go_sem] Oper.semAt_some
structure PlI where
 i:Nat
 a:Option Addr
 n:Nat
 cap:Nat
def zJL (t:List TrN)(x:PlI):Array Value:=#[.int .i64 x.i,.agg #[.int .i64 (abv t x.i),.slice x.a x.n x.cap]]
def zW7 (t:List TrN)(pre:List PlI)(x:PlI)(W:World):Prop:=x.i=pre.length/\zBV 0 W (.slice x.a x.n x.cap) (zAw t x.i)
theorem zG1 {t:List TrN}(pre:List PlI)(x:PlI)(W:World)(l:Nat)(o o':Obj)(h:W.heap[l]? = some o)(hc:o.isCells=false)(hx:zW7 t pre x W):zW7 t pre x (W.putObj l o'):=⟨hx.1,zEU hx.2 (Kc.put h hc)⟩
theorem zMq {n:Nat}{P:Program}{ops:Array Oper}{d:Bool}{Q:Exit->Act->World->Prop}{a:Act}{w:World}(h:(Code.region 11 ops d).wpIn Fence.wide n P Q a w):(Code.region 11 ops d).wp P Q a w:=wpIn_wide.1 h
def zVZ (t:List TrN)(k:Nat):List Nat:=if k=0 then []else zEn t (k-1)
def zUP (t:List TrN)(k:Nat):List ByteArray:=if k=0 then []else zAw t (k-1)
theorem zGX {t:List TrN}{k:Nat}(h:k≠0):zVZ t k=zEn t (k-1):=if_neg h
theorem zEW {t:List TrN}{k:Nat}(h:k≠0):zUP t k=zAw t (k-1):=if_neg h
end Go.Proofs.YtbeeoomadnmogaaGreat
namespace Go.Proofs.YtbeeoomadnmogaaGreat
open Go.RowKit Go.Shelf
attribute [local go_sem] Oper.semAt_some
theorem zMm (n:Nat) (hn:2<=n) (B:Nat) (w0 w:World) (v:Value) (b:List BrN) (bx:Nat) (hb:zEi B w0 v b) (h0:KcA w0 w) (hbx:w.cell? ⟨bx,0,none⟩=some v) (hbl:bx < w.heap.size) (hlen:b.length<=1000) (hok:zA1 (plT b) (plT b).length) :
  zX8 Fence.wide n Tryz.prog 185 #[.pointer (some ⟨bx,0,none⟩)] (zJL (plT b)) (Kc w0.heap.size w.heap.size) (zW7 (plT b)) (fun xs=>xs.length=b.length) (fun _=>True) b.length w:=by
 intro l J Jx W hW hJ hJx hY hJ0
 obtain⟨aa,cap,rfl⟩:=hb.form
 have HV:=hQq hb;clear hb
 have HOK:=hQq hok;clear hok
 have HY:=hQq hY;clear hY
 have HJ:=hQq hJ;have HJX:=hQq hJx;clear hJ hJx
 have cb:W.cell? ⟨bx,0,none⟩=some (.slice aa b.length cap):=(hW.cell (p:=⟨bx,0,none⟩) hbl).trans hbx
 have HK0:Hid (KcA w0 W):=hQq (h0.trans (Kc.of_ext hW))
 have HWS:Hid (w.heap.size<=W.heap.size):=hW.size
 have h1:1<=n:=by omega
 refine callsIn_of_wp Tryz.func185 rfl trivial ?_ rfl
 refine wpIn_wide.2 ?_
 simp only [Tryz.ntmps185,List.size_toArray,List.length_cons,List.length_nil,Nat.reduceAdd,Nat.reduceSub,Array.replicate_succ,Array.replicate_zero,List.push_toArray,List.append_toArray,List.nil_append,List.cons_append]
 go_wp2
 go_loopw [3,4,5,6,7,10] (fun vd vp _ _ _ i w'=>∃ (wi:World) (k:Nat) (pre:List PlI),wi=w'/\k<=b.length/\i= .int .i64 k/\pre.length=k/\J pre wi/\KcA w0 wi/\W.heap.size<=wi.heap.size/\zAg cdN W.heap.size wi vd (zVZ (plT b) k)/\zAg cdS W.heap.size wi vp (zUP (plT b) k)) (fun _ _ _ _ _ i _=>b.length - (intOf i).toNat)
 case atStart=>exact⟨_,0,[],rfl,Nat.zero_le _,rfl,rfl,hJ0,HK0.out,Nat.le_refl _,zAg.nil _ _ _,zAg.nil _ _ _⟩
 case round=>
  clear hJ0 cb
  obtain⟨wi,k,pre,rfl,hk,rfl,hpl,hj,hkc,hsz,hd,hp⟩:=hrel
  have HJW:=hQq hj;have HKC:=hQq hkc;have HSZ:=hQq hsz;have HD:=hQq hd;have HP:=hQq hp;have HPL:=hQq hpl
  clear hj hkc hsz hpl
  by_cases hlt:k < b.length
  case neg=>
   obtain rfl:k=b.length:=by omega
   clear hd hp
   go_wp2
   go_end0
   exact⟨⟨_,rfl⟩,.inl ⟨pre,HPL.out,HJW.out⟩⟩
  obtain⟨ad,capd,rfl⟩:=hd.form
  obtain⟨ap,capp,rfl⟩:=hp.form
  clear hd hp
  have HVI:=hQq (zEO HV.out HKC.out)
  obtain⟨bb,off,va,vr,hex,hbb,hva,hvr,xx⟩:=HVI.out.br k hlt
  cases hex
  obtain⟨c0,c1,c2,c3,c4,c5,c6,c7,c8,c9⟩:=xx
  obtain⟨a4,cap4,rfl⟩:=hvr.form
  obtain⟨a3,cap3,rfl⟩:=hva.form
  have HGX:=hQq ((zAx b k hlt).trans (congrArg BrN.toTrN (zAN b k hlt)))
  generalize b[k]'hlt=x at c0 c1 c2 c3 c4 c5 c6 c7 c8 c9 HGX
  have j1:((k:Nat):Int) < (b.length:Int):=by omega
  have j0:(0:Int)<=(k:Int):=by omega
  clear hva hvr
  by_cases hk0:k=0
  ·have hd0:x.dep=0:=by have h:=zF7 HOK.out (by rw [zAk];omega);rw [<- hk0,HGX.out] at h;exact h
   rw [hd0] at c0
   have hsd:zVZ (plT b) k= []:=by rw [hk0];rfl
   have hsp:zUP (plT b) k= []:=by rw [hk0];rfl
   have HAB:Hid (abv (plT b) k= -1):=hQq (by rw [hk0];rfl)
   have HST:Hid (zEn (plT b) k= [k]/\zAw (plT b) k= []):=hQq (by rw [hk0];exact⟨rfl,rfl⟩)
   rw [hsd,List.length_nil] at HD ⊢
   rw [hsp,List.length_nil] at HP ⊢
   clear hsd hsp hk0
   go_wp2
   refine nW (P:=fun W=>Code.wp _ _ _ _ W) _ ?_
   intro W1 hW1
   have HX1:Hid (W1.heap[wi.heap.size]? = some (.cells #[.int .i64 0,.string x.nm,.int .i64 x.kd,.slice a3 x.ats.length cap3,.string x.dat,.int .i64 x.ma,.int .i64 x.mi,.int .i64 x.cl,.bool x.opq,.slice a4 x.red.length cap4] 46 (0,0))):=hQq (by rw [hW1];exact bN wi _)
   have HE1:Hid (Ext wi W1):=hQq (by rw [hW1];exact eA _ _)
   clear hW1 c0 c1 c2 c3 c4 c5 c6 c7 c8 c9
   have y0:W1.cell? ⟨wi.heap.size,0,none⟩=some (.int .i64 0):=bC HX1.out 0
   go_quiet (fail)
   go_wp2_with (first
    | (at_builtin;refine zIX okN rfl (.tmp 45) (.tmp 47) rfl _ _ [] [k] wi _ rfl rfl (by exact HD.out.ext okN ((HE1.out.trans (eDn _ _)).trans (eA _ _))) (by exact zAj okN _ k [.int .i64 k] _ rfl rfl) (by exact((HE1.out.trans (eDn _ _)).trans (eA _ _)).mono HSZ.out) (by have:=HE1.out.size;have:=HSZ.out;simp;omega) (by simp) ?_;intro v3 w3 ha;have HA3:=hQq ha;clear ha;repeat (first | (with_reducible refine zMq (n:=n) ?_) | go_values | go_step | go_upon | go_back))
    | fail)
   have HB3:Hid (Below W.heap.size wi w3):=hQq HA3.out.below
   have HP3:Hid (zAg cdS W.heap.size w3 (.slice ap 0 capp) (zAw (plT b) k)):=hQq (by rw [HST.out.2];exact(HP.out.ext okS ((HE1.out.trans (eDn _ _)).trans (eA _ _))).other okS HA3.out.chg (by decide) (by decide))
   have HD3:Hid (zAg cdN W.heap.size w3 v3 (zEn (plT b) k)):=hQq (by rw [HST.out.1];exact HA3.out.own)
   obtain⟨ad3,cd3,rfl⟩:=HD3.out.form
   have HLN:Hid (pre.length < b.length):=hQq (by have:=HPL.out;omega)
   gi_wp2_with (first
    | (refine⟨trivial,?_⟩;gi_at_call 176;refine(callsIn_wide.2 (zFI W.heap.size _ (zAw (plT b) k) _ (HP3.out.in okS) (by have:=HB3.out.size;have:=HSZ.out;omega) (by have:=zDc (plT b) k;omega))).mono ?_;rintro e w4 ⟨⟨a5,n5,cap5,rfl,ho⟩,hb4⟩;have HO4:=hQq ho;have HB4:Hid (Below W.heap.size wi w4):=hQq (HB3.out.trans (hb4.mono (Nat.le_trans HSZ.out HB3.out.size)));have HX4:=hQq hb4;clear ho hb4;obtain⟨fn,tmps,assign,body,hy,hR⟩:=HY.out pre ⟨k,a5,n5,cap5⟩ w4 (HJ.out _ _ _ HJW.out HB4.out) HLN.out ⟨HPL.out.symm,(zAg.le (B':=0) HO4.out okS (fun _ _ _ h=>h) (Nat.zero_le _)).in okS⟩;have HR:=hQq hR;clear hR;unfold zJL at hy;dsimp only at hy;rw [HAB.out] at hy)
    | fail)
   refine HR.out.mono ?_
   rintro e W5 (⟨rfl,hJ5,hk5⟩ | ⟨rfl,hJx5⟩)
   ·have HJ5:=hQq hJ5;have HK5:=hQq hk5
    clear hJ5 hk5
    have HKA:Hid (KcA w0 w4):=hQq ⟨Nat.le_trans HKC.out.size HB4.out.size,fun j cs e f hj hh=>(HB4.out.block j (Nat.lt_of_lt_of_le (bL hh) HK0.out.size)).trans (HKC.out.keep j cs e f hj hh)⟩
    gi_wp2
    go_wp2
    go_roundw
    case rel=>exact⟨_,k+1,pre ++ [⟨k,a5,n5,cap5⟩],rfl,by omega,by go_num,by rw [List.length_append,HPL.out];rfl,HJ5.out,HKA.out.all HK5.out (Nat.le_refl _),Nat.le_trans HSZ.out (Nat.le_trans HB4.out.size HK5.out.size),(HD3.out.ext okN HX4.out).kc HK5.out HWS.out (fun _ _ h=>h),(HP3.out.ext okS HX4.out).kc HK5.out HWS.out (fun _ _ h=>h)⟩
    case measure=>simp [intOf] <;> omega
   ·gi_wp2
    go_wp2
    refine bodyPost_ret (results_none rfl _ _ _) rfl ?_
    exact⟨⟨_,rfl⟩,.inr ⟨_,trivial,hJx5⟩⟩
  have hst:=zI9 HOK.out (i:=k) (by rw [zAk];exact hlt) hk0
  have hds:=zE7 HOK.out (i:=k) (by rw [zAk];exact hlt) hk0
  rw [HGX.out] at hst hds
  rw [zGX hk0] at HD
  rw [zEW hk0] at HP
  obtain⟨d,hd⟩:∃ d:Nat,x.dep=d:=⟨x.dep.toNat,by have:=hds.1;omega⟩
  rw [zGX hk0,zEW hk0]
  have HDE:=hQq hd
  have hd1:1<=d:=by have:=hds.1;omega
  have hd8:d<=8:=by
   have h1:=(zA3 (zAd (HOK.out k (by rw [zAk];exact hlt))).1).2.1
   rw [HGX.out,hd] at h1;omega
  have HAV:=hQq (zJ4 HOK.out (i:=k) (by rw [zAk];exact hlt) hk0).1
  rw [hd,Int.toNat_natCast] at hst
  have HST:=hQq hst
  have hl1:=hst.2.2.1
  have hl2:=hst.2.2.2.1
  have hc1:(zEn (plT b) (k - 1)).length<=capd:=by obtain⟨_,_,e,h,_⟩:=HD.out.in okN;cases e;exact h
  have hc2:(zAw (plT b) (k - 1)).length<=capp:=by obtain⟨_,_,e,h,_⟩:=HP.out.in okS;cases e;exact h
  rw [hd] at c0
  clear hst hds hd
  obtain⟨g,rfl,hg1,hg2,_⟩:=HD.out.addr (by omega)
  have HD1:Hid (zAg cdN W.heap.size wi (.slice (some ⟨g,0,none⟩) d capd) ((zEn (plT b) (k - 1)).take d)):=hQq (HD.out.trunc okN (by omega) hl1)
  have HP1:Hid (zAg cdS W.heap.size wi (.slice ap (d - 1) capp) ((zAw (plT b) (k - 1)).take (d - 1))):=hQq (by
   by_cases e:0 < (zAw (plT b) (k - 1)).length
   ·exact HP.out.trunc okS e hl2
   ·have e1:(zAw (plT b) (k - 1)).length=0:=by omega
    have e2:d - 1=0:=by omega
    have:=HP.out
    rw [List.length_eq_zero_iff.1 e1] at this
    rw [e2,List.take_zero];exact this)
  have HDC:Hid (wi.cell? ⟨g,d - 1,none⟩=some (.int .i64 (abv (plT b) k))):=hQq (by
   obtain⟨ax,capx,e,_,_,hc⟩:=HD1.out.in okN
   injection e with e1 _ _
   subst e1
   have hlen2:((zEn (plT b) (k - 1)).take d).length=d:=by rw [List.length_take];omega
   obtain⟨_,_,cs,e,_,hr,hrow⟩:=hc (d - 1) (by omega)
   cases e
   have hr:cs= [.int .i64 _]:=hr
   subst hr
   have h1:=hrow 0 _ rfl
   have h2:=HST.out.2.2.2.2
   rw [List.getLast?_eq_getElem?,hlen2,List.getElem?_eq_getElem (by omega)] at h2
   injection h2 with h2
   rw [h2,Int.toNat_of_nonneg HAV.out] at h1
   rw [show (0:Nat)+(d - 1) * cdN.n+0=d - 1 by rw [show cdN.n=1 from rfl];omega] at h1
   exact h1)
  generalize hsd:(zEn (plT b) (k - 1)).length=sd at hl1 hc1
  generalize hsp:(zAw (plT b) (k - 1)).length=sp at hl2 hc2
  have HSD:=hQq hsd;have HSP:=hQq hsp
  clear hsd hsp
  go_wp2
  refine nW (P:=fun W=>Code.wp _ _ _ _ W) _ ?_
  intro W1 hW1
  have HX1:Hid (W1.heap[wi.heap.size]? = some (.cells #[.int .i64 d,.string x.nm,.int .i64 x.kd,.slice a3 x.ats.length cap3,.string x.dat,.int .i64 x.ma,.int .i64 x.mi,.int .i64 x.cl,.bool x.opq,.slice a4 x.red.length cap4] 46 (0,0))):=hQq (by rw [hW1];exact bN wi _)
  have HE1:Hid (Ext wi W1):=hQq (by rw [hW1];exact eA _ _)
  clear hW1 c0 c1 c2 c3 c4 c5 c6 c7 c8 c9
  have y0:W1.cell? ⟨wi.heap.size,0,none⟩=some (.int .i64 d):=bC HX1.out 0
  have gc:W1.cell? ⟨g,d - 1,none⟩=some (.int .i64 (abv (plT b) k)):=(eC HE1.out hg2).trans HDC.out
  have f0:(d:Int) - 1 < (d:Int):=by omega
  have f5:(0:Int) < (d:Int):=by omega
  have f1:(d:Int)<=(sd:Int):=by omega
  have f2:(d:Int) - 1<=(sp:Int):=by omega
  have f3:(0:Int)<=(d:Int) - 1:=by omega
  have f4:IntKind.i64.wrap ((d:Int) - 1)=(d:Int) - 1:=IntWalk.i64_in _ (by omega)
  have y1:W1.cell? ⟨wi.heap.size,1,none⟩=some (.string x.nm):=bC HX1.out 1
  have HPK:Hid (zAw (plT b) k=(zAw (plT b) (k - 1)).take (d - 1) ++ [x.nm]):=hQq HST.out.2.1.symm
  have HSK:Hid (zEn (plT b) k=(zEn (plT b) (k - 1)).take d ++ [k]):=hQq HST.out.1.symm
  have hq1:((zEn (plT b) (k - 1)).take d).length=d:=by rw [List.length_take,HSD.out];omega
  have hq2:((zAw (plT b) (k - 1)).take (d - 1)).length=d - 1:=by rw [List.length_take,HSP.out];omega
  have HQ1:=hQq hq1;have HQ2:=hQq hq2
  clear hq1 hq2
  go_quiet (fail)
  go_wp2_with (first
   | (at_builtin;refine zIX okS rfl (.tmp 40) (.tmp 43) rfl _ _ ((zAw (plT b) (k - 1)).take (d - 1)) [x.nm] wi _ rfl rfl (by exact HP1.out.ext okS ((HE1.out.trans (eDn _ _)).trans (eA _ _))) (by exact zAj okS _ x.nm [.string x.nm] _ rfl rfl) (by exact((HE1.out.trans (eDn _ _)).trans (eA _ _)).mono HSZ.out) (by have:=HE1.out.size;have:=HSZ.out;simp;omega) (by have:=HQ2.out;simp;omega) ?_;intro v2 w2 ha;have HA2:=hQq ha;clear ha)
   | (at_builtin;refine zIX okN rfl (.tmp 45) (.tmp 47) rfl _ _ ((zEn (plT b) (k - 1)).take d) [k] wi _ rfl rfl (by exact((HD1.out.ext okN ((HE1.out.trans (eDn _ _)).trans (eA _ _))).other okN HA2.out.chg (by decide) (by decide)).ext okN (eA _ _)) (by exact zAj okN _ k [.int .i64 k] _ rfl rfl) (by exact HA2.out.below.trans ((eA _ _).mono (Nat.le_trans HSZ.out HA2.out.below.size))) (by have:=HA2.out.below.size;have:=HSZ.out;simp;omega) (by have:=HQ1.out;simp;omega) ?_;intro v3 w3 ha;have HA3:=hQq ha;clear ha;repeat (first | (with_reducible refine zMq (n:=n) ?_) | go_values | go_step | go_upon | go_back))
   | fail)
  have HB3:Hid (Below W.heap.size wi w3):=hQq HA3.out.below
  have HP3:Hid (zAg cdS W.heap.size w3 v2 (zAw (plT b) k)):=hQq (by have h:=(HA2.out.own.ext okS (eA _ _)).other okS HA3.out.chg (by decide) (by decide);rw [<- HPK.out] at h;exact h)
  have HD3:Hid (zAg cdN W.heap.size w3 v3 (zEn (plT b) k)):=hQq (by have h:=HA3.out.own;rw [<- HSK.out] at h;exact h)
  obtain⟨ap3,cp3,rfl⟩:=HP3.out.form
  obtain⟨ad3,cd3,rfl⟩:=HD3.out.form
  have HLN:Hid (pre.length < b.length):=hQq (by have:=HPL.out;omega)
  gi_wp2_with (first
   | (refine⟨trivial,?_⟩;gi_at_call 176;refine(callsIn_wide.2 (zFI W.heap.size _ (zAw (plT b) k) _ (HP3.out.in okS) (by have:=HB3.out.size;have:=HSZ.out;omega) (by have:=zDc (plT b) k;omega))).mono ?_;rintro e w4 ⟨⟨a5,n5,cap5,rfl,ho⟩,hb4⟩;have HO4:=hQq ho;have HB4:Hid (Below W.heap.size wi w4):=hQq (HB3.out.trans (hb4.mono (Nat.le_trans HSZ.out HB3.out.size)));have HX4:=hQq hb4;clear ho hb4;obtain⟨fn,tmps,assign,body,hy,hR⟩:=HY.out pre ⟨k,a5,n5,cap5⟩ w4 (HJ.out _ _ _ HJW.out HB4.out) HLN.out ⟨HPL.out.symm,(zAg.le (B':=0) HO4.out okS (fun _ _ _ h=>h) (Nat.zero_le _)).in okS⟩;have HR:=hQq hR;clear hR;unfold zJL at hy;dsimp only at hy)
   | fail)
  refine HR.out.mono ?_
  rintro e W5 (⟨rfl,hJ5,hk5⟩ | ⟨rfl,hJx5⟩)
  ·have HJ5:=hQq hJ5;have HK5:=hQq hk5
   clear hJ5 hk5
   have HKA:Hid (KcA w0 w4):=hQq ⟨Nat.le_trans HKC.out.size HB4.out.size,fun j cs e f hj hh=>(HB4.out.block j (Nat.lt_of_lt_of_le (bL hh) HK0.out.size)).trans (HKC.out.keep j cs e f hj hh)⟩
   gi_wp2
   go_wp2
   go_roundw
   case rel=>exact⟨_,k+1,pre ++ [⟨k,a5,n5,cap5⟩],rfl,by omega,by go_num,by rw [List.length_append,HPL.out];rfl,HJ5.out,HKA.out.all HK5.out (Nat.le_refl _),Nat.le_trans HSZ.out (Nat.le_trans HB4.out.size HK5.out.size),(HD3.out.ext okN HX4.out).kc HK5.out HWS.out (fun _ _ h=>h),(HP3.out.ext okS HX4.out).kc HK5.out HWS.out (fun _ _ h=>h)⟩
   case measure=>simp [intOf] <;> omega
  ·gi_wp2
   go_wp2
   refine bodyPost_ret (results_none rfl _ _ _) rfl ?_
   exact⟨⟨_,rfl⟩,.inr ⟨_,trivial,hJx5⟩⟩
end Go.Proofs.YtbeeoomadnmogaaGreat
namespace Go.Proofs.YtbeeoomadnmogaaGreat
open Go.RowKit
theorem zQW (w:World)(a:Option Addr)(n cap:Nat):
  Calls Tryz.prog 143 #[.slice a n cap] w (fun e w'=>e= .returned (.func (.func 185) #[] #[.pointer (some ⟨w.heap.size,0,none⟩)])/\w'=w.alloc (.cells #[.slice a n cap] 35 (0,0))):=by
 have hmf:∀(fn:Fn) (first cap:Array Value) (w:World),(Instr.makeFunc fn first cap).run Tryz.prog w= .ok (.func fn first cap) w:=fun _ _ _ _=>rfl;go_enter Tryz.func143,Tryz.ntmps143;go_wp2;go_ret;exact⟨rfl,rfl⟩
section
variable {F:Fence} {n:Nat} {P:Program}
theorem zFn {α : Type} {g : Operand} {ps : Array Tmp} {assign body : Code} {Q : Exit -> Act -> World -> Prop} {a : Act} {w : World}
  (hro : F.round = none) (h1 : 1 <= n) {gf : Nat} {lb : Array Value} (hg : a.eval g = .func (.func gf) #[] lb) (hFg : F.fn gf) (eg : ∀ args w, (callFunc gf args).run P w = .ok (.enter gf args) w)
  {zB5 : α -> Array Value} {Kp : World -> World -> Prop} {Ok : List α -> α -> World -> Prop} {S Sp : List α -> Prop} {N : Nat} {w0 : World} (hseq : zX8 F (n - 1) P gf lb zB5 Kp Ok S Sp N w0)
  (hKt : ∀ {A B C : World}, Kp A B -> Kp B C -> Kp A C) (hKb : ∀ (W : World) (l : Nat) (o o' : Obj), w.heap.size <= l -> W.heap[l]? = some o -> o.isCells = false -> Kp W (W.putObj l o')) (hb0 : Below w0.heap.size w0 w) (hps : ∀ x, (zB5 x).size = ps.size)
  (hOk : ∀ (pre : List α) (x : α) (W : World) (l : Nat) (o o' : Obj), W.heap[l]? = some o -> o.isCells = false -> Ok pre x W -> Ok pre x (W.putObj l o'))
  (I : List α -> World -> Prop) (Ix : Code -> List α -> World -> Prop) (hI : AbB w.heap.size I) (hIx : ∀ c, AbB w.heap.size (Ix c)) (h0 : I [] w) (Ax : α -> Act -> World -> Prop)
  (hAx : ∀ (x : α) (a2 : Act) (W : World) (l : Nat) (o o' : Obj), W.heap[l]? = some o -> o.isCells = false -> Ax x a2 W -> Ax x a2 (W.putObj l o'))
  (hassign : ∀ (l : Nat) (pre : List α) (x : α) (W : World) (K : Act -> World -> Prop), I pre W -> Ok pre x W -> (∀ a2 W2, Ext W W2 -> Kp W W2 -> Ax x a2 W2 -> Ok pre x W2 -> K a2 W2) ->
   assign.wpIn (F.inRound l) (n - 1 - 1) P (Exit.then K (fun _ _ _ => False)) { tmps := (ps.zip (zB5 x)).foldl (fun t (p, v) => t.setIfInBounds p v) a.tmps, defers := [] } W)
  (hbody : ∀ (l : Nat) (pre : List α) (x : α) (a2 : Act) (W : World), I pre W -> pre.length < N -> Ok pre x W -> Ax x a2 W -> body.wpIn (F.inRound l) (n - 1 - 1) P (ownPostG w.heap.size Kp I Ix (pre ++ [x]) W) a2 W)
  (hdone : ∀ (D : Nat) (xs : List α) (W : World), w.heap.size <= D -> S xs -> I xs W -> W.heap[D]? = some (.deferred (some [])) -> Q .normal { a with defers := { target := .collected D, args := #[] } :: a.defers } W)
  (hstop : ∀ (D : Nat) (c : Code) (pre : List α) (W : World), w.heap.size <= D -> Sp pre -> Ix c pre W -> W.heap[D]? = some (.deferred (some [])) -> c.wpIn F n P Q { a with defers := { target := .collected D, args := #[] } :: a.defers } W) :
  (Code.rangeFunc g ps assign body).wpIn F n P Q a w := by
 refine wpIn_rangeFunc fun fn hfn => ?_;rw [hro];obtain ⟨r, hr⟩ : ∃ r : LoopState -> Option Code -> Loop, r = fun st pe => { state := st, pending := pe, fn, tmps := a.tmps, params := ps, assign, body, defers := w.heap.size } := ⟨_, rfl⟩;obtain ⟨W1, hW1⟩ : ∃ W1, (w.alloc (.deferred (some []))).alloc (.loop (r .ready none)) = W1 := ⟨_, rfl⟩;have hsz : W1.heap.size = w.heap.size + 2 := by rw [<- hW1]; simp
 have hE1 : Ext w W1 := by rw [<- hW1]; exact (eA _ _).trans (eA _ _)
 have hL1 : zBZ w.heap.size (r .ready none) W1 := by
  rw [<- hW1];exact ⟨zAu (by simp), bA (bN w _)⟩
 refine ⟨w.heap.size + 1, [{ target := .collected w.heap.size, args := #[] }], W1, { target := .fn (.func gf) lb, args := #[.func (.yield (w.heap.size + 1)) #[] #[]] }, W1, gf, #[.func (.yield (w.heap.size + 1)) #[] #[]] ++ lb, W1, ?_, ?_, ?_, ?_, fun _ => h1, ?_⟩
 ·rw [<- hW1, hr]; exact run_enterLoop_outer _ _ _ _ _
 ·simp only [resolve, hg];simp [go_sem]
 ·intro f' hf'; simp [Target.leads] at hf'; subst hf'; exact hFg
 ·simp [invoke, go_sem, eg]
 refine (hseq (w.heap.size + 1) (fun pre W => I pre W /\ zBZ w.heap.size (r .ready none) W) (fun pre W => ∃ c, Ix c pre W /\ zBZ w.heap.size (r .done (some c)) W) W1 (hb0.trans (hE1.mono hb0.size))
  (fun s W W' hs hb => ⟨hI s W W' hs.1 (hb.mono (by omega)), hs.2.below hb (by omega)⟩)
  (fun s W W' hs hb => by obtain ⟨c, hc, hl⟩ := hs; exact ⟨c, hIx c s W W' hc (hb.mono (by omega)), hl.below hb (by omega)⟩)
  ?round ⟨hI _ _ _ h0 hE1, hL1⟩).mono ?behind
 case behind =>
  rintro e W2 ⟨⟨v, rfl⟩, (⟨xs, hS, hi, hl⟩ | ⟨pre, hSp, c, hi, hl⟩)⟩
  ·have hx := run_endLoop (P := P) hl.lp (by rw [hr]; simp);rw [hr] at hx;exact ⟨none, _, hx, hdone _ xs _ (Nat.le_refl _) hS (hI.put hi (by omega) hl.lp) ((World.putObj_heap_other (by omega)).trans hl.df)⟩
  ·have hx := run_endLoop (P := P) hl.lp (by rw [hr]; simp);rw [hr] at hx;exact ⟨some c, _, hx, hstop _ c pre _ (Nat.le_refl _) hSp ((hIx c).put hi (by omega) hl.lp) ((World.putObj_heap_other (by omega)).trans hl.df)⟩
 case round =>
  rintro pre x W ⟨hi, hl⟩ hlen hox;have hy := run_yield (P := P) (args := zB5 x) hl.lp (by rw [hr]; exact hps x);rw [hr] at hy;refine ⟨fn, _, assign, body, hy, roundIn_of_wpIn hfn (hassign _ pre x W _ hi hox fun a2 W2 hE2 hk2 hax hox2 => ?_)⟩;have hlW : w.heap.size + 1 < W.heap.size := by have := (Array.getElem?_eq_some_iff.1 hl.lp).1; omega
  have hl' : zBZ w.heap.size (r .ready none) W2 := hl.below hE2 hlW;have hi2 : I pre W2 := hI _ _ _ hi (hE2.mono (by omega));refine ⟨_, run_beginRound hl'.lp (by rw [hr]), ?_⟩;have hl2 := hl'.put (r' := { r .ready none with state := .busy });refine wpIn_mono (hbody _ pre x a2 _ (hI.put hi2 (by omega) hl'.lp) hlen (hOk _ _ _ _ _ _ hl'.lp rfl hox2) (hAx _ _ _ _ _ _ hl'.lp rfl hax)) ?_;have hend : ∀ (jump : Option Code) (W3 : World), zBZ w.heap.size { r .ready none with state := .busy } W3 -> (Instr.endRound (w.heap.size + 1) jump).run P W3 = .ok (.bool jump.isNone) (W3.putObj (w.heap.size + 1) (.loop (r (if jump.isNone then .ready else .done) jump))) := fun jump W3 h3 => by
   have := run_endRound (P := P) jump h3.lp;rw [hr] at this ⊢; exact this
  rintro e a3 W3 hp;have leaves : ∀ c : Code, KeepsFrom w.heap.size (W2.putObj (w.heap.size + 1) (.loop { r .ready none with state := .busy })) W3 -> Ix c (pre ++ [x]) W3 ->
    ∃ c', Ix c' (pre ++ [x]) (W3.putObj (w.heap.size + 1) (.loop (r .done (some c)))) /\ zBZ w.heap.size (r .done (some c')) (W3.putObj (w.heap.size + 1) (.loop (r .done (some c)))) := fun c hk hx => by
   have h3 := hl2.keeps hk;exact ⟨c, (hIx c).put hx (by omega) h3.lp, h3.put⟩
  cases e with
  | normal =>
   obtain ⟨hk, hkp, hi3⟩ := hp;have h3 := hl2.keeps hk;exact ⟨_, _, hend none W3 h3, .inl ⟨rfl, ⟨hI.put hi3 (by omega) h3.lp, h3.put⟩, hKt (hKt (hKt hk2 (hKb _ _ _ _ (by omega) hl'.lp rfl)) hkp) (hKb _ _ _ _ (by omega) h3.lp rfl)⟩⟩
  | ret => exact ⟨_, _, hend (some .ret) W3 (hl2.keeps hp.1), .inr ⟨rfl, leaves _ hp.1 hp.2⟩⟩
  | exit id => exact ⟨_, _, hend (some (.exit id)) W3 (hl2.keeps hp.1), .inr ⟨rfl, leaves _ hp.1 hp.2⟩⟩
  | goto t => exact ⟨_, _, hend (some (.goto t)) W3 (hl2.keeps hp.1), .inr ⟨rfl, leaves _ hp.1 hp.2⟩⟩
  | panic ch => exact hp.elim
  | outgrown => exact hp.elim
end
def zYU (w:World)(l:List Nat)(e:Ending)(w':World):Prop:=(∃a cap,e= .returned (.tuple #[.slice a l.length cap,.int .i64 0])/\zAg cdN w.heap.size w' (.slice a l.length cap) l)/\Ext w w'
theorem zSw {t:List TrN}{n k:Nat}(h:abv t k=(n:Int)):zBe t n (k+1)=zBe t n k++ [k]:=by
 unfold zBe;rw[zCn,if_pos (show zHb t n k=true from decide_eq_true h)]
theorem zU7 {t:List TrN}{n k:Nat}(h:¬abv t k=(n:Int)):zBe t n (k+1)=zBe t n k:=by
 unfold zBe;rw[zCn,if_neg (by unfold zHb;rw[decide_eq_false h];exact Bool.false_ne_true),List.append_nil]
theorem zE5 (p:Nat->Bool)(k:Nat):((List.range k).filter p).length<=k:=by
 have:=List.length_filter_le p (List.range k);rwa [List.length_range]at this
theorem zKy {t:List TrN}{n k:Nat}(h:zDg t n k=true):zCt t n (k+1)=zCt t n k++ [k]:=by
 unfold zCt;rw[zCn,if_pos h]
theorem zMO {t:List TrN}{n k:Nat}(h:zDg t n k=false):zCt t n (k+1)=zCt t n k:=by
 unfold zCt;rw[zCn,if_neg (by rw[h];exact Bool.false_ne_true),List.append_nil]
def zEL (b:List BrN)(k:Nat):List Nat:=(List.range k).filter fun i=>(zAm b i).kd==1
def zCQ (b:List BrN):List Nat:=zEL b b.length
theorem zJM {b:List BrN}{k:Nat}(h:(zAm b k).kd=1):zEL b (k+1)=zEL b k++ [k]:=by
 unfold zEL;rw[zCn,if_pos (beq_iff_eq.2 h)]
theorem zQD {b:List BrN}{k:Nat}(h:¬(zAm b k).kd=1):zEL b (k+1)=zEL b k:=by
 unfold zEL;rw[zCn,if_neg (by rw[nB h];exact Bool.false_ne_true),List.append_nil]
def AbX {β:Type}(B:Nat)(X:World->World->Prop)(J:β->World->Prop):Prop:=∀s W W',J s W->Below B W W'->X W W'->J s W'
def zX7 {α : Type} (F : Fence) (n : Nat) (P : Program) (g : Nat) (lb : Array Value) (zB5 : α -> Array Value) (X Kp : World -> World -> Prop) (Ok : List α -> α -> World -> Prop) (S Sp : List α -> Prop) (N : Nat) (w : World) : Prop :=
 ∀ (l : Nat) (J Jx : List α -> World -> Prop) (W : World), Below w.heap.size w W -> AbX W.heap.size X J -> AbX W.heap.size X Jx ->
  (∀ pre x W1, J pre W1 -> pre.length < N -> Ok pre x W1 -> YieldAt F (n - 1) P l (zB5 x) W1 fun e W' =>
   (e = .returned (.bool true) /\ J (pre ++ [x]) W' /\ Kp W1 W') \/ (e = .returned (.bool false) /\ Jx (pre ++ [x]) W')) ->
  J [] W ->
  CallsIn F n P g (#[.func (.yield l) #[] #[]] ++ lb) W fun e W' => (∃ v, e = .returned v) /\ ((∃ xs, S xs /\ J xs W') \/ (∃ pre, Sp pre /\ Jx pre W'))
theorem AbX.put {β:Type}{B l:Nat}{X:World->World->Prop}{J:β->World->Prop}(hJ:AbX B X J)(hX:∀(W:World)(l:Nat)(r:Loop)(o':Obj),W.heap[l]? = some (.loop r)->X W (W.putObj l o')){s:β}{W:World}{r:Loop}{o':Obj}(h:J s W)(hl:B<=l)(ho:W.heap[l]? = some (.loop r)):J s (W.putObj l o'):=hJ _ _ _ h (zAO ho hl) (hX _ _ _ _ ho)
section
variable {F:Fence} {n:Nat} {P:Program}
theorem zFm {α : Type} {g : Operand} {ps : Array Tmp} {assign body : Code} {Q : Exit -> Act -> World -> Prop} {a : Act} {w : World}
  (hro : F.round = none) (h1 : 1 <= n) {gf : Nat} {lb : Array Value} (hg : a.eval g = .func (.func gf) #[] lb) (hFg : F.fn gf) (eg : ∀ args w, (callFunc gf args).run P w = .ok (.enter gf args) w)
  {zB5 : α -> Array Value} {X Kp : World -> World -> Prop} (hXe : ∀ W W', Ext W W' -> X W W') (hXp : ∀ (W : World) (l : Nat) (r : Loop) (o' : Obj), W.heap[l]? = some (.loop r) -> X W (W.putObj l o')) {Ok : List α -> α -> World -> Prop} {S Sp : List α -> Prop} {N : Nat} {w0 : World} (hseq : zX7 F (n - 1) P gf lb zB5 X Kp Ok S Sp N w0)
  (hKt : ∀ {A B C : World}, Kp A B -> Kp B C -> Kp A C) (hKb : ∀ (W : World) (l : Nat) (o o' : Obj), w.heap.size <= l -> W.heap[l]? = some o -> o.isCells = false -> Kp W (W.putObj l o')) (hb0 : Below w0.heap.size w0 w) (hps : ∀ x, (zB5 x).size = ps.size)
  (hOk : ∀ (pre : List α) (x : α) (W : World) (l : Nat) (o o' : Obj), W.heap[l]? = some o -> o.isCells = false -> Ok pre x W -> Ok pre x (W.putObj l o'))
  (I : List α -> World -> Prop) (Ix : Code -> List α -> World -> Prop) (hI : AbX w.heap.size X I) (hIx : ∀ c, AbX w.heap.size X (Ix c)) (h0 : I [] w) (Ax : α -> Act -> World -> Prop)
  (hAx : ∀ (x : α) (a2 : Act) (W : World) (l : Nat) (o o' : Obj), W.heap[l]? = some o -> o.isCells = false -> Ax x a2 W -> Ax x a2 (W.putObj l o'))
  (hassign : ∀ (l : Nat) (pre : List α) (x : α) (W : World) (K : Act -> World -> Prop), I pre W -> Ok pre x W -> (∀ a2 W2, Ext W W2 -> Kp W W2 -> Ax x a2 W2 -> Ok pre x W2 -> K a2 W2) ->
   assign.wpIn (F.inRound l) (n - 1 - 1) P (Exit.then K (fun _ _ _ => False)) { tmps := (ps.zip (zB5 x)).foldl (fun t (p, v) => t.setIfInBounds p v) a.tmps, defers := [] } W)
  (hbody : ∀ (l : Nat) (pre : List α) (x : α) (a2 : Act) (W : World), I pre W -> pre.length < N -> Ok pre x W -> Ax x a2 W -> body.wpIn (F.inRound l) (n - 1 - 1) P (ownPostG w.heap.size Kp I Ix (pre ++ [x]) W) a2 W)
  (hdone : ∀ (D : Nat) (xs : List α) (W : World), w.heap.size <= D -> S xs -> I xs W -> W.heap[D]? = some (.deferred (some [])) -> Q .normal { a with defers := { target := .collected D, args := #[] } :: a.defers } W)
  (hstop : ∀ (D : Nat) (c : Code) (pre : List α) (W : World), w.heap.size <= D -> Sp pre -> Ix c pre W -> W.heap[D]? = some (.deferred (some [])) -> c.wpIn F n P Q { a with defers := { target := .collected D, args := #[] } :: a.defers } W) :
  (Code.rangeFunc g ps assign body).wpIn F n P Q a w := by
 refine wpIn_rangeFunc fun fn hfn => ?_;rw [hro];obtain ⟨r, hr⟩ : ∃ r : LoopState -> Option Code -> Loop, r = fun st pe => { state := st, pending := pe, fn, tmps := a.tmps, params := ps, assign, body, defers := w.heap.size } := ⟨_, rfl⟩;obtain ⟨W1, hW1⟩ : ∃ W1, (w.alloc (.deferred (some []))).alloc (.loop (r .ready none)) = W1 := ⟨_, rfl⟩;have hsz : W1.heap.size = w.heap.size + 2 := by rw [<- hW1]; simp
 have hE1 : Ext w W1 := by rw [<- hW1]; exact (eA _ _).trans (eA _ _)
 have hL1 : zBZ w.heap.size (r .ready none) W1 := by
  rw [<- hW1];exact ⟨zAu (by simp), bA (bN w _)⟩
 refine ⟨w.heap.size + 1, [{ target := .collected w.heap.size, args := #[] }], W1, { target := .fn (.func gf) lb, args := #[.func (.yield (w.heap.size + 1)) #[] #[]] }, W1, gf, #[.func (.yield (w.heap.size + 1)) #[] #[]] ++ lb, W1, ?_, ?_, ?_, ?_, fun _ => h1, ?_⟩
 ·rw [<- hW1, hr]; exact run_enterLoop_outer _ _ _ _ _
 ·simp only [resolve, hg];simp [go_sem]
 ·intro f' hf'; simp [Target.leads] at hf'; subst hf'; exact hFg
 ·simp [invoke, go_sem, eg]
 refine (hseq (w.heap.size + 1) (fun pre W => I pre W /\ zBZ w.heap.size (r .ready none) W) (fun pre W => ∃ c, Ix c pre W /\ zBZ w.heap.size (r .done (some c)) W) W1 (hb0.trans (hE1.mono hb0.size))
  (fun s W W' hs hb hx => ⟨hI s W W' hs.1 (hb.mono (by omega)) hx, hs.2.below hb (by omega)⟩)
  (fun s W W' hs hb hx => by obtain ⟨c, hc, hl⟩ := hs; exact ⟨c, hIx c s W W' hc (hb.mono (by omega)) hx, hl.below hb (by omega)⟩)
  ?round ⟨hI _ _ _ h0 hE1 (hXe _ _ hE1), hL1⟩).mono ?behind
 case behind =>
  rintro e W2 ⟨⟨v, rfl⟩, (⟨xs, hS, hi, hl⟩ | ⟨pre, hSp, c, hi, hl⟩)⟩
  ·have hx := run_endLoop (P := P) hl.lp (by rw [hr]; simp);rw [hr] at hx;exact ⟨none, _, hx, hdone _ xs _ (Nat.le_refl _) hS (hI.put hXp hi (by omega) hl.lp) ((World.putObj_heap_other (by omega)).trans hl.df)⟩
  ·have hx := run_endLoop (P := P) hl.lp (by rw [hr]; simp);rw [hr] at hx;exact ⟨some c, _, hx, hstop _ c pre _ (Nat.le_refl _) hSp ((hIx c).put hXp hi (by omega) hl.lp) ((World.putObj_heap_other (by omega)).trans hl.df)⟩
 case round =>
  rintro pre x W ⟨hi, hl⟩ hlen hox;have hy := run_yield (P := P) (args := zB5 x) hl.lp (by rw [hr]; exact hps x);rw [hr] at hy;refine ⟨fn, _, assign, body, hy, roundIn_of_wpIn hfn (hassign _ pre x W _ hi hox fun a2 W2 hE2 hk2 hax hox2 => ?_)⟩;have hlW : w.heap.size + 1 < W.heap.size := by have := (Array.getElem?_eq_some_iff.1 hl.lp).1; omega
  have hl' : zBZ w.heap.size (r .ready none) W2 := hl.below hE2 hlW;have hi2 : I pre W2 := hI _ _ _ hi (hE2.mono (by omega)) (hXe _ _ hE2);refine ⟨_, run_beginRound hl'.lp (by rw [hr]), ?_⟩;have hl2 := hl'.put (r' := { r .ready none with state := .busy });refine wpIn_mono (hbody _ pre x a2 _ (hI.put hXp hi2 (by omega) hl'.lp) hlen (hOk _ _ _ _ _ _ hl'.lp rfl hox2) (hAx _ _ _ _ _ _ hl'.lp rfl hax)) ?_;have hend : ∀ (jump : Option Code) (W3 : World), zBZ w.heap.size { r .ready none with state := .busy } W3 -> (Instr.endRound (w.heap.size + 1) jump).run P W3 = .ok (.bool jump.isNone) (W3.putObj (w.heap.size + 1) (.loop (r (if jump.isNone then .ready else .done) jump))) := fun jump W3 h3 => by
   have := run_endRound (P := P) jump h3.lp;rw [hr] at this ⊢; exact this
  rintro e a3 W3 hp;have leaves : ∀ c : Code, KeepsFrom w.heap.size (W2.putObj (w.heap.size + 1) (.loop { r .ready none with state := .busy })) W3 -> Ix c (pre ++ [x]) W3 ->
    ∃ c', Ix c' (pre ++ [x]) (W3.putObj (w.heap.size + 1) (.loop (r .done (some c)))) /\ zBZ w.heap.size (r .done (some c')) (W3.putObj (w.heap.size + 1) (.loop (r .done (some c)))) := fun c hk hx => by
   have h3 := hl2.keeps hk;exact ⟨c, (hIx c).put hXp hx (by omega) h3.lp, h3.put⟩
  cases e with
  | normal =>
   obtain ⟨hk, hkp, hi3⟩ := hp;have h3 := hl2.keeps hk;exact ⟨_, _, hend none W3 h3, .inl ⟨rfl, ⟨hI.put hXp hi3 (by omega) h3.lp, h3.put⟩, hKt (hKt (hKt hk2 (hKb _ _ _ _ (by omega) hl'.lp rfl)) hkp) (hKb _ _ _ _ (by omega) h3.lp rfl)⟩⟩
  | ret => exact ⟨_, _, hend (some .ret) W3 (hl2.keeps hp.1), .inr ⟨rfl, leaves _ hp.1 hp.2⟩⟩
  | exit id => exact ⟨_, _, hend (some (.exit id)) W3 (hl2.keeps hp.1), .inr ⟨rfl, leaves _ hp.1 hp.2⟩⟩
  | goto t => exact ⟨_, _, hend (some (.goto t)) W3 (hl2.keeps hp.1), .inr ⟨rfl, leaves _ hp.1 hp.2⟩⟩
  | panic ch => exact hp.elim
  | outgrown => exact hp.elim
end
def exK (ob:Nat)(W:World):Option Nat:=(W.cell? ⟨ob,0,none⟩).bind Value.ownBlock
def XeK (ob:Nat)(W W':World):Prop:=∀q cs e f,exK ob W=some q->W.heap[q]? = some (.cells cs e f)->W'.heap[q]? = some (.cells cs e f)
theorem zUo (ob:Nat)(W W':World)(h:Ext W W'):XeK ob W W':=fun _ _ _ _ _ hk=>bX h hk
theorem zUn (ob:Nat)(W:World)(l:Nat)(o o':Obj)(h:W.heap[l]? = some o)(hc:o.isCells=false):XeK ob W (W.putObj l o'):=fun q cs e f _ hk=>(World.putObj_heap_other (by rintro rfl;rw[h]at hk;cases hk;cases hc)).trans hk
theorem zBR {ob B:Nat}{W W':World}(h:Below B W W')(ho:ob<B):exK ob W'=exK ob W:=by unfold exK;rw[h.cell (p:=⟨ob,0,none⟩) ho]
structure KcX (ob B0 B1:Nat) (W W':World):Prop where
 size:W.heap.size<=W'.heap.size
 keep:∀k cs e f,(k<B0\/B1<=k)->exK ob W≠some k->W.heap[k]? = some (.cells cs e f)->W'.heap[k]? = some (.cells cs e f)
 row:exK ob W'=exK ob W\/∃q,exK ob W'=some q/\W.heap.size<=q/\q<W'.heap.size
theorem KcX.trans {ob B0 B1:Nat}{A B C:World}(h:KcX ob B0 B1 A B)(k:KcX ob B0 B1 B C):KcX ob B0 B1 A C:=by
 refine⟨Nat.le_trans h.size k.size,fun i cs e f hi hx hA=>?_,?_⟩
 ·refine k.keep i cs e f hi ?_ (h.keep i cs e f hi hx hA);rcases h.row with e1|⟨q,e1,h1,h2⟩
  ·rw[e1];exact hx
  ·rw[e1];intro e2;injection e2 with e2;have:=bL hA;omega
 ·have hs:=h.size;have ks:=k.size;rcases k.row with e1|⟨q,e1,h1,h2⟩
  ·rcases h.row with e2|⟨q,e2,h1,h2⟩
   ·exact .inl (e1.trans e2)
   ·exact .inr ⟨q,e1.trans e2,h1,by omega⟩
  ·exact .inr ⟨q,e1,by omega,h2⟩
theorem zP8 {ob B0 B1:Nat}{W W':World}(h:Ext W W')(ho:ob<W.heap.size):KcX ob B0 B1 W W':=⟨h.size,fun _ _ _ _ _ _ hk=>bX h hk,.inl (zBR h ho)⟩
theorem zU9 {ob B0 B1:Nat}{W:World}{l:Nat}{o o':Obj}(hl:ob<l)(h:W.heap[l]? = some o)(hc:o.isCells=false):KcX ob B0 B1 W (W.putObj l o'):=
 ⟨(zAO (B:=0) (o':=o') h (Nat.zero_le _)).size,fun k cs e f _ _ hk=>(World.putObj_heap_other (by rintro rfl;rw[h]at hk;cases hk;cases hc)).trans hk,.inl (zBR (zAO (o':=o') h (Nat.le_refl l)) hl)⟩
theorem KcX.all {ob B0 B1:Nat}{W0 W W':World}(h0:KcA W0 W)(h:KcX ob B0 B1 W W')(hB:W0.heap.size<=B0)(hx:∀q,exK ob W=some q->W0.heap.size<=q):KcA W0 W':=
 ⟨Nat.le_trans h0.size h.size,fun k cs e f _ hk=>h.keep k cs e f (.inl (Nat.lt_of_lt_of_le (bL hk) hB)) (fun e=>by have:=hx _ e;have:=bL hk;omega) (h0.keep k cs e f (.inr (Nat.zero_le _)) hk)⟩
theorem zAg.kcx {α:Type}{C:Cd α}{ob B B0 B1:Nat}{W W':World}{v:Value}{l:List α}(h:zAg C B W v l)(hk:KcX ob B0 B1 W W')(hB:B1<=B)(hne:∀q,exK ob W=some q->v.ownBlock≠some q)(hR:∀x cs,C.R B W x cs->C.R B W' x cs):zAg C B W' v l:=by
 obtain⟨css,hl,hR0,ho⟩:=h;refine⟨css,hl,fun i h1 h2=>hR _ _ (hR0 i h1 h2),ho.1,?_⟩;rcases ho.2 with h1|⟨g,cap,cur,rfl,hb,hg,h3⟩
 ·exact .inl h1
 ·exact .inr ⟨g,cap,cur,rfl,hb,hk.keep _ _ _ _ (.inr (Nat.le_trans hB hb)) (fun e=>hne g e rfl) hg,h3⟩
theorem zMH (a:Option Addr)(n n' c c':Nat):(Value.slice a n c).ownBlock=(Value.slice a n' c').ownBlock:=by cases a<;>rfl
theorem zLI {v v':Value}{m n:Nat}(h:v'.ownBlock=v.ownBlock\/v'.ownBlock=some n)(hm:m<=n)(q:Nat)(hq:q<m)(hn:v.ownBlock≠some q):v'.ownBlock≠some q:=by
 rcases h with e|e
 ·rw[e];exact hn
 ·rw[e];intro e2;injection e2 with e2;omega
def ExI (ob m:Nat)(vd vp:Value)(W:World):Prop:=∀q,exK ob W=some q->m<=q/\q<W.heap.size/\vd.ownBlock≠some q/\vp.ownBlock≠some q
theorem zQq {ob m B B0 B1:Nat}{vd vp vd' vp':Value}{ld:List Nat}{lp:List ByteArray}{wi w4 W5:World}(h:ExI ob m vd vp wi)(hs:exK ob w4=exK ob wi)(hne:∀q,q<wi.heap.size->vd.ownBlock≠some q->vp.ownBlock≠some q->vd'.ownBlock≠some q/\vp'.ownBlock≠some q)
  (hd:zAg cdN B w4 vd' ld) (hp:zAg cdS B w4 vp' lp) (hm:m<=w4.heap.size) (hw:wi.heap.size<=w4.heap.size) (hk:KcX ob B0 B1 w4 W5):ExI ob m vd' vp' W5:=by
 intro q hq;have hks:=hk.size;rcases hk.row with e|⟨q',e,h1,h2⟩
 ·rw[e]at hq;have hq2:=hq;rw[hs]at hq2;obtain⟨g1,g2,g3,g4⟩:=h q hq2;obtain⟨k1,k2⟩:=hne q g2 g3 g4;exact⟨g1,by omega,k1,k2⟩
 ·rw[e]at hq;injection hq with hq
  subst hq;refine⟨by omega,h2,fun e2=>?_,fun e2=>?_⟩
  ·obtain⟨_,c,f,h9⟩:=hd.row rfl _ e2;have:=bL h9;omega
  ·obtain⟨_,c,f,h9⟩:=hp.row rfl _ e2;have:=bL h9;omega
theorem zOS (ob:Nat) (n:Nat) (hn:2<=n) (B:Nat) (w0 w:World) (v:Value) (b:List BrN) (bx:Nat) (hb:zEi B w0 v b) (h0:KcA w0 w) (hbx:w.cell? ⟨bx,0,none⟩=some v) (hbl:bx < w.heap.size) (hlen:b.length<=1000) (hok:zA1 (plT b) (plT b).length) (hob:ob < w.heap.size) (hex:exK ob w=none) (hw0:w0.heap.size<=w.heap.size) :
  zX7 Fence.wide n Tryz.prog 185 #[.pointer (some ⟨bx,0,none⟩)] (zJL (plT b)) (XeK ob) (KcX ob w0.heap.size w.heap.size) (zW7 (plT b)) (fun xs=>xs.length=b.length) (fun _=>True) b.length w:=by
 intro l J Jx W hW hJ hJx hY hJ0
 obtain⟨aa,cap,rfl⟩:=hb.form
 have HV:=hQq hb;clear hb
 have HOK:=hQq hok;clear hok
 have HY:=hQq hY;clear hY
 have HJ:=hQq hJ;have HJX:=hQq hJx;clear hJ hJx
 have cb:W.cell? ⟨bx,0,none⟩=some (.slice aa b.length cap):=(hW.cell (p:=⟨bx,0,none⟩) hbl).trans hbx
 have HK0:Hid (KcA w0 W):=hQq (h0.trans (Kc.of_ext hW))
 have HWS:Hid (w.heap.size<=W.heap.size):=hW.size
 have h1:1<=n:=by omega
 refine callsIn_of_wp Tryz.func185 rfl trivial ?_ rfl
 refine wpIn_wide.2 ?_
 simp only [Tryz.ntmps185,List.size_toArray,List.length_cons,List.length_nil,Nat.reduceAdd,Nat.reduceSub,Array.replicate_succ,Array.replicate_zero,List.push_toArray,List.append_toArray,List.nil_append,List.cons_append]
 go_wp2
 go_loopw [3,4,5,6,7,10] (fun vd vp _ _ _ i w'=>∃ (wi:World) (k:Nat) (pre:List PlI),wi=w'/\k<=b.length/\i= .int .i64 k/\pre.length=k/\J pre wi/\KcA w0 wi/\W.heap.size<=wi.heap.size/\zAg cdN W.heap.size wi vd (zVZ (plT b) k)/\zAg cdS W.heap.size wi vp (zUP (plT b) k)/\ExI ob W.heap.size vd vp wi) (fun _ _ _ _ _ i _=>b.length - (intOf i).toNat)
 case atStart=>exact⟨_,0,[],rfl,Nat.zero_le _,rfl,rfl,hJ0,HK0.out,Nat.le_refl _,zAg.nil _ _ _,zAg.nil _ _ _,fun q hq=>by rw [zBR hW hob,hex] at hq;cases hq⟩
 case round=>
  clear hJ0 cb
  obtain⟨wi,k,pre,rfl,hk,rfl,hpl,hj,hkc,hsz,hd,hp,hxi⟩:=hrel
  have HXI:=hQq hxi;clear hxi
  have HJW:=hQq hj;have HKC:=hQq hkc;have HSZ:=hQq hsz;have HD:=hQq hd;have HP:=hQq hp;have HPL:=hQq hpl
  clear hj hkc hsz hpl
  by_cases hlt:k < b.length
  case neg=>
   obtain rfl:k=b.length:=by omega
   clear hd hp
   go_wp2
   go_end0
   exact⟨⟨_,rfl⟩,.inl ⟨pre,HPL.out,HJW.out⟩⟩
  obtain⟨ad,capd,rfl⟩:=hd.form
  obtain⟨ap,capp,rfl⟩:=hp.form
  clear hd hp
  have HXJ:Hid (ExI ob W.heap.size (.slice ad 0 capd) (.slice ap 0 capp) wi):=hQq (fun q hq=>by obtain⟨a1,a2,a3,a4⟩:=HXI.out q hq;exact⟨a1,a2,by rw [zMH ad 0 _ capd capd];exact a3,by rw [zMH ap 0 _ capp capp];exact a4⟩)
  clear HXI
  have HXI:=HXJ
  clear HXJ
  have HVI:=hQq (zEO HV.out HKC.out)
  obtain⟨bb,off,va,vr,hex,hbb,hva,hvr,xx⟩:=HVI.out.br k hlt
  cases hex
  obtain⟨c0,c1,c2,c3,c4,c5,c6,c7,c8,c9⟩:=xx
  obtain⟨a4,cap4,rfl⟩:=hvr.form
  obtain⟨a3,cap3,rfl⟩:=hva.form
  have HGX:=hQq ((zAx b k hlt).trans (congrArg BrN.toTrN (zAN b k hlt)))
  generalize b[k]'hlt=x at c0 c1 c2 c3 c4 c5 c6 c7 c8 c9 HGX
  have j1:((k:Nat):Int) < (b.length:Int):=by omega
  have j0:(0:Int)<=(k:Int):=by omega
  clear hva hvr
  by_cases hk0:k=0
  ·have hd0:x.dep=0:=by have h:=zF7 HOK.out (by rw [zAk];omega);rw [<- hk0,HGX.out] at h;exact h
   rw [hd0] at c0
   have hsd:zVZ (plT b) k= []:=by rw [hk0];rfl
   have hsp:zUP (plT b) k= []:=by rw [hk0];rfl
   have HAB:Hid (abv (plT b) k= -1):=hQq (by rw [hk0];rfl)
   have HST:Hid (zEn (plT b) k= [k]/\zAw (plT b) k= []):=hQq (by rw [hk0];exact⟨rfl,rfl⟩)
   rw [hsd,List.length_nil] at HD ⊢
   rw [hsp,List.length_nil] at HP ⊢
   clear hsd hsp hk0
   go_wp2
   refine nW (P:=fun W=>Code.wp _ _ _ _ W) _ ?_
   intro W1 hW1
   have HX1:Hid (W1.heap[wi.heap.size]? = some (.cells #[.int .i64 0,.string x.nm,.int .i64 x.kd,.slice a3 x.ats.length cap3,.string x.dat,.int .i64 x.ma,.int .i64 x.mi,.int .i64 x.cl,.bool x.opq,.slice a4 x.red.length cap4] 46 (0,0))):=hQq (by rw [hW1];exact bN wi _)
   have HE1:Hid (Ext wi W1):=hQq (by rw [hW1];exact eA _ _)
   clear hW1 c0 c1 c2 c3 c4 c5 c6 c7 c8 c9
   have y0:W1.cell? ⟨wi.heap.size,0,none⟩=some (.int .i64 0):=bC HX1.out 0
   go_quiet (fail)
   go_wp2_with (first
    | (at_builtin;refine zIX okN rfl (.tmp 45) (.tmp 47) rfl _ _ [] [k] wi _ rfl rfl (by exact HD.out.ext okN ((HE1.out.trans (eDn _ _)).trans (eA _ _))) (by exact zAj okN _ k [.int .i64 k] _ rfl rfl) (by exact((HE1.out.trans (eDn _ _)).trans (eA _ _)).mono HSZ.out) (by have:=HE1.out.size;have:=HSZ.out;simp;omega) (by simp) ?_;intro v3 w3 ha;have HA3:=hQq ha;have HKK:Hid (∀ q o,(Value.slice ad 0 capd).ownBlock ≠ some q->(Value.slice ap 0 capp).ownBlock ≠ some q->wi.heap[q]? = some o->w3.heap[q]? = some o):=hQq (fun q o h1 _ ho=>ha.chg.keep _ _ (bX ((HE1.out.trans (eDn _ _)).trans (eA _ _)) ho) h1);have HL3:Hid (∀ q,q < wi.heap.size->(Value.slice ad 0 capd).ownBlock ≠ some q->v3.ownBlock ≠ some q):=hQq (zLI ha.lies ((HE1.out.trans (eDn _ _)).trans (eA _ _)).size);clear ha;repeat (first | (with_reducible refine zMq (n:=n) ?_) | go_values | go_step | go_upon | go_back))
    | fail)
   have HB3:Hid (Below W.heap.size wi w3):=hQq HA3.out.below
   have HP3:Hid (zAg cdS W.heap.size w3 (.slice ap 0 capp) (zAw (plT b) k)):=hQq (by rw [HST.out.2];exact(HP.out.ext okS ((HE1.out.trans (eDn _ _)).trans (eA _ _))).other okS HA3.out.chg (by decide) (by decide))
   have HD3:Hid (zAg cdN W.heap.size w3 v3 (zEn (plT b) k)):=hQq (by rw [HST.out.1];exact HA3.out.own)
   obtain⟨ad3,cd3,rfl⟩:=HD3.out.form
   have HLN:Hid (pre.length < b.length):=hQq (by have:=HPL.out;omega)
   gi_wp2_with (first
    | (refine⟨trivial,?_⟩;gi_at_call 176;refine(callsIn_wide.2 (zFI W.heap.size _ (zAw (plT b) k) _ (HP3.out.in okS) (by have:=HB3.out.size;have:=HSZ.out;omega) (by have:=zDc (plT b) k;omega))).mono ?_;rintro e w4 ⟨⟨a5,n5,cap5,rfl,ho⟩,hb4⟩;have hb4':=hb4;have HO4:=hQq ho;have HB4:Hid (Below W.heap.size wi w4):=hQq (HB3.out.trans (hb4.mono (Nat.le_trans HSZ.out HB3.out.size)));have HX4:=hQq hb4;clear ho hb4;obtain⟨fn,tmps,assign,body,hy,hR⟩:=HY.out pre ⟨k,a5,n5,cap5⟩ w4 (HJ.out _ _ _ HJW.out HB4.out (fun q cs e f hq hk=>by obtain⟨_,_,g3,g4⟩:=HXI.out q hq;exact bX hb4' (HKK.out q _ g3 g4 hk))) HLN.out ⟨HPL.out.symm,(zAg.le (B':=0) HO4.out okS (fun _ _ _ h=>h) (Nat.zero_le _)).in okS⟩;have HR:=hQq hR;clear hR;unfold zJL at hy;dsimp only at hy;rw [HAB.out] at hy)
    | fail)
   refine HR.out.mono ?_
   rintro e W5 (⟨rfl,hJ5,hk5⟩ | ⟨rfl,hJx5⟩)
   ·have HJ5:=hQq hJ5;have HK5:=hQq hk5
    clear hJ5 hk5
    have HKA:Hid (KcA w0 w4):=hQq ⟨Nat.le_trans HKC.out.size HB4.out.size,fun j cs e f hj hh=>(HB4.out.block j (Nat.lt_of_lt_of_le (bL hh) HK0.out.size)).trans (HKC.out.keep j cs e f hj hh)⟩
    gi_wp2
    go_wp2
    go_roundw
    case rel=>exact⟨_,k+1,pre ++ [⟨k,a5,n5,cap5⟩],rfl,by omega,by go_num,by rw [List.length_append,HPL.out];rfl,HJ5.out,KcX.all HKA.out HK5.out (Nat.le_refl _) (fun q hq=>by rw [zBR HB4.out (Nat.lt_of_lt_of_le hob HWS.out)] at hq;have:=(HXI.out q hq).1;have:=HWS.out;omega),Nat.le_trans HSZ.out (Nat.le_trans HB4.out.size HK5.out.size),(HD3.out.ext okN HX4.out).kcx HK5.out HWS.out (fun q hq=>by rw [zBR HB4.out (Nat.lt_of_lt_of_le hob HWS.out)] at hq;obtain⟨_,g2,g3,g4⟩:=HXI.out q hq;exact HL3.out q g2 g3) (fun _ _ h=>h),(HP3.out.ext okS HX4.out).kcx HK5.out HWS.out (fun q hq=>by rw [zBR HB4.out (Nat.lt_of_lt_of_le hob HWS.out)] at hq;obtain⟨_,g2,g3,g4⟩:=HXI.out q hq;exact g4) (fun _ _ h=>h),zQq HXI.out (zBR HB4.out (Nat.lt_of_lt_of_le hob HWS.out)) (fun q g2 g3 g4=>⟨HL3.out q g2 g3,g4⟩) (HD3.out.ext okN HX4.out) (HP3.out.ext okS HX4.out) (Nat.le_trans HSZ.out HB4.out.size) HB4.out.size HK5.out⟩
    case measure=>simp [intOf] <;> omega
   ·gi_wp2
    go_wp2
    refine bodyPost_ret (results_none rfl _ _ _) rfl ?_
    exact⟨⟨_,rfl⟩,.inr ⟨_,trivial,hJx5⟩⟩
  have hst:=zI9 HOK.out (i:=k) (by rw [zAk];exact hlt) hk0
  have hds:=zE7 HOK.out (i:=k) (by rw [zAk];exact hlt) hk0
  rw [HGX.out] at hst hds
  rw [zGX hk0] at HD
  rw [zEW hk0] at HP
  obtain⟨d,hd⟩:∃ d:Nat,x.dep=d:=⟨x.dep.toNat,by have:=hds.1;omega⟩
  rw [zGX hk0,zEW hk0]
  have HDE:=hQq hd
  have hd1:1<=d:=by have:=hds.1;omega
  have hd8:d<=8:=by
   have h1:=(zA3 (zAd (HOK.out k (by rw [zAk];exact hlt))).1).2.1
   rw [HGX.out,hd] at h1;omega
  have HAV:=hQq (zJ4 HOK.out (i:=k) (by rw [zAk];exact hlt) hk0).1
  rw [hd,Int.toNat_natCast] at hst
  have HST:=hQq hst
  have hl1:=hst.2.2.1
  have hl2:=hst.2.2.2.1
  have hc1:(zEn (plT b) (k - 1)).length<=capd:=by obtain⟨_,_,e,h,_⟩:=HD.out.in okN;cases e;exact h
  have hc2:(zAw (plT b) (k - 1)).length<=capp:=by obtain⟨_,_,e,h,_⟩:=HP.out.in okS;cases e;exact h
  rw [hd] at c0
  clear hst hds hd
  obtain⟨g,rfl,hg1,hg2,_⟩:=HD.out.addr (by omega)
  have HD1:Hid (zAg cdN W.heap.size wi (.slice (some ⟨g,0,none⟩) d capd) ((zEn (plT b) (k - 1)).take d)):=hQq (HD.out.trunc okN (by omega) hl1)
  have HP1:Hid (zAg cdS W.heap.size wi (.slice ap (d - 1) capp) ((zAw (plT b) (k - 1)).take (d - 1))):=hQq (by
   by_cases e:0 < (zAw (plT b) (k - 1)).length
   ·exact HP.out.trunc okS e hl2
   ·have e1:(zAw (plT b) (k - 1)).length=0:=by omega
    have e2:d - 1=0:=by omega
    have:=HP.out
    rw [List.length_eq_zero_iff.1 e1] at this
    rw [e2,List.take_zero];exact this)
  have HDC:Hid (wi.cell? ⟨g,d - 1,none⟩=some (.int .i64 (abv (plT b) k))):=hQq (by
   obtain⟨ax,capx,e,_,_,hc⟩:=HD1.out.in okN
   injection e with e1 _ _
   subst e1
   have hlen2:((zEn (plT b) (k - 1)).take d).length=d:=by rw [List.length_take];omega
   obtain⟨_,_,cs,e,_,hr,hrow⟩:=hc (d - 1) (by omega)
   cases e
   have hr:cs= [.int .i64 _]:=hr
   subst hr
   have h1:=hrow 0 _ rfl
   have h2:=HST.out.2.2.2.2
   rw [List.getLast?_eq_getElem?,hlen2,List.getElem?_eq_getElem (by omega)] at h2
   injection h2 with h2
   rw [h2,Int.toNat_of_nonneg HAV.out] at h1
   rw [show (0:Nat)+(d - 1) * cdN.n+0=d - 1 by rw [show cdN.n=1 from rfl];omega] at h1
   exact h1)
  generalize hsd:(zEn (plT b) (k - 1)).length=sd at hl1 hc1
  generalize hsp:(zAw (plT b) (k - 1)).length=sp at hl2 hc2
  have HSD:=hQq hsd;have HSP:=hQq hsp
  clear hsd hsp
  go_wp2
  refine nW (P:=fun W=>Code.wp _ _ _ _ W) _ ?_
  intro W1 hW1
  have HX1:Hid (W1.heap[wi.heap.size]? = some (.cells #[.int .i64 d,.string x.nm,.int .i64 x.kd,.slice a3 x.ats.length cap3,.string x.dat,.int .i64 x.ma,.int .i64 x.mi,.int .i64 x.cl,.bool x.opq,.slice a4 x.red.length cap4] 46 (0,0))):=hQq (by rw [hW1];exact bN wi _)
  have HE1:Hid (Ext wi W1):=hQq (by rw [hW1];exact eA _ _)
  clear hW1 c0 c1 c2 c3 c4 c5 c6 c7 c8 c9
  have y0:W1.cell? ⟨wi.heap.size,0,none⟩=some (.int .i64 d):=bC HX1.out 0
  have gc:W1.cell? ⟨g,d - 1,none⟩=some (.int .i64 (abv (plT b) k)):=(eC HE1.out hg2).trans HDC.out
  have f0:(d:Int) - 1 < (d:Int):=by omega
  have f5:(0:Int) < (d:Int):=by omega
  have f1:(d:Int)<=(sd:Int):=by omega
  have f2:(d:Int) - 1<=(sp:Int):=by omega
  have f3:(0:Int)<=(d:Int) - 1:=by omega
  have f4:IntKind.i64.wrap ((d:Int) - 1)=(d:Int) - 1:=IntWalk.i64_in _ (by omega)
  have y1:W1.cell? ⟨wi.heap.size,1,none⟩=some (.string x.nm):=bC HX1.out 1
  have HPK:Hid (zAw (plT b) k=(zAw (plT b) (k - 1)).take (d - 1) ++ [x.nm]):=hQq HST.out.2.1.symm
  have HSK:Hid (zEn (plT b) k=(zEn (plT b) (k - 1)).take d ++ [k]):=hQq HST.out.1.symm
  have hq1:((zEn (plT b) (k - 1)).take d).length=d:=by rw [List.length_take,HSD.out];omega
  have hq2:((zAw (plT b) (k - 1)).take (d - 1)).length=d - 1:=by rw [List.length_take,HSP.out];omega
  have HQ1:=hQq hq1;have HQ2:=hQq hq2
  clear hq1 hq2
  go_quiet (fail)
  go_wp2_with (first
   | (at_builtin;refine zIX okS rfl (.tmp 40) (.tmp 43) rfl _ _ ((zAw (plT b) (k - 1)).take (d - 1)) [x.nm] wi _ rfl rfl (by exact HP1.out.ext okS ((HE1.out.trans (eDn _ _)).trans (eA _ _))) (by exact zAj okS _ x.nm [.string x.nm] _ rfl rfl) (by exact((HE1.out.trans (eDn _ _)).trans (eA _ _)).mono HSZ.out) (by have:=HE1.out.size;have:=HSZ.out;simp;omega) (by have:=HQ2.out;simp;omega) ?_;intro v2 w2 ha;have HA2:=hQq ha;have HK2:Hid (∀ q o,(Value.slice ap 0 capp).ownBlock ≠ some q->wi.heap[q]? = some o->w2.heap[q]? = some o):=hQq (fun q o h1 ho=>ha.chg.keep _ _ (bX ((HE1.out.trans (eDn _ _)).trans (eA _ _)) ho) (by show (Value.slice ap (d - 1) capp).ownBlock ≠ some q;rw [zMH ap (d - 1) 0 capp capp];exact h1));have HL2:Hid (∀ q,q < wi.heap.size->(Value.slice ap 0 capp).ownBlock ≠ some q->v2.ownBlock ≠ some q):=hQq (fun q q1 q2=>zLI ha.lies ((HE1.out.trans (eDn _ _)).trans (eA _ _)).size q q1 (by show (Value.slice ap (d - 1) capp).ownBlock ≠ some q;rw [zMH ap (d - 1) 0 capp capp];exact q2));clear ha)
   | (at_builtin;refine zIX okN rfl (.tmp 45) (.tmp 47) rfl _ _ ((zEn (plT b) (k - 1)).take d) [k] wi _ rfl rfl (by exact((HD1.out.ext okN ((HE1.out.trans (eDn _ _)).trans (eA _ _))).other okN HA2.out.chg (by decide) (by decide)).ext okN (eA _ _)) (by exact zAj okN _ k [.int .i64 k] _ rfl rfl) (by exact HA2.out.below.trans ((eA _ _).mono (Nat.le_trans HSZ.out HA2.out.below.size))) (by have:=HA2.out.below.size;have:=HSZ.out;simp;omega) (by have:=HQ1.out;simp;omega) ?_;intro v3 w3 ha;have HA3:=hQq ha;have HKK:Hid (∀ q o,(Value.slice (some ⟨g,0,none⟩) d capd).ownBlock ≠ some q->(Value.slice ap 0 capp).ownBlock ≠ some q->wi.heap[q]? = some o->w3.heap[q]? = some o):=hQq (fun q o h1 h2 ho=>ha.chg.keep _ _ (bX (eA _ _) (HK2.out q o h2 ho)) h1);have HL3:Hid (∀ q,q < wi.heap.size->(Value.slice (some ⟨g,0,none⟩) d capd).ownBlock ≠ some q->v3.ownBlock ≠ some q):=hQq (zLI ha.lies (Nat.le_trans HA2.out.below.size (eA _ _).size));clear ha;repeat (first | (with_reducible refine zMq (n:=n) ?_) | go_values | go_step | go_upon | go_back))
   | fail)
  have HB3:Hid (Below W.heap.size wi w3):=hQq HA3.out.below
  have HP3:Hid (zAg cdS W.heap.size w3 v2 (zAw (plT b) k)):=hQq (by have h:=(HA2.out.own.ext okS (eA _ _)).other okS HA3.out.chg (by decide) (by decide);rw [<- HPK.out] at h;exact h)
  have HD3:Hid (zAg cdN W.heap.size w3 v3 (zEn (plT b) k)):=hQq (by have h:=HA3.out.own;rw [<- HSK.out] at h;exact h)
  obtain⟨ap3,cp3,rfl⟩:=HP3.out.form
  obtain⟨ad3,cd3,rfl⟩:=HD3.out.form
  have HLN:Hid (pre.length < b.length):=hQq (by have:=HPL.out;omega)
  gi_wp2_with (first
   | (refine⟨trivial,?_⟩;gi_at_call 176;refine(callsIn_wide.2 (zFI W.heap.size _ (zAw (plT b) k) _ (HP3.out.in okS) (by have:=HB3.out.size;have:=HSZ.out;omega) (by have:=zDc (plT b) k;omega))).mono ?_;rintro e w4 ⟨⟨a5,n5,cap5,rfl,ho⟩,hb4⟩;have hb4':=hb4;have HO4:=hQq ho;have HB4:Hid (Below W.heap.size wi w4):=hQq (HB3.out.trans (hb4.mono (Nat.le_trans HSZ.out HB3.out.size)));have HX4:=hQq hb4;clear ho hb4;obtain⟨fn,tmps,assign,body,hy,hR⟩:=HY.out pre ⟨k,a5,n5,cap5⟩ w4 (HJ.out _ _ _ HJW.out HB4.out (fun q cs e f hq hk=>by obtain⟨_,_,g3,g4⟩:=HXI.out q hq;exact bX hb4' (HKK.out q _ g3 g4 hk))) HLN.out ⟨HPL.out.symm,(zAg.le (B':=0) HO4.out okS (fun _ _ _ h=>h) (Nat.zero_le _)).in okS⟩;have HR:=hQq hR;clear hR;unfold zJL at hy;dsimp only at hy)
   | fail)
  refine HR.out.mono ?_
  rintro e W5 (⟨rfl,hJ5,hk5⟩ | ⟨rfl,hJx5⟩)
  ·have HJ5:=hQq hJ5;have HK5:=hQq hk5
   clear hJ5 hk5
   have HKA:Hid (KcA w0 w4):=hQq ⟨Nat.le_trans HKC.out.size HB4.out.size,fun j cs e f hj hh=>(HB4.out.block j (Nat.lt_of_lt_of_le (bL hh) HK0.out.size)).trans (HKC.out.keep j cs e f hj hh)⟩
   gi_wp2
   go_wp2
   go_roundw
   case rel=>exact⟨_,k+1,pre ++ [⟨k,a5,n5,cap5⟩],rfl,by omega,by go_num,by rw [List.length_append,HPL.out];rfl,HJ5.out,KcX.all HKA.out HK5.out (Nat.le_refl _) (fun q hq=>by rw [zBR HB4.out (Nat.lt_of_lt_of_le hob HWS.out)] at hq;have:=(HXI.out q hq).1;have:=HWS.out;omega),Nat.le_trans HSZ.out (Nat.le_trans HB4.out.size HK5.out.size),(HD3.out.ext okN HX4.out).kcx HK5.out HWS.out (fun q hq=>by rw [zBR HB4.out (Nat.lt_of_lt_of_le hob HWS.out)] at hq;obtain⟨_,g2,g3,g4⟩:=HXI.out q hq;exact HL3.out q g2 g3) (fun _ _ h=>h),(HP3.out.ext okS HX4.out).kcx HK5.out HWS.out (fun q hq=>by rw [zBR HB4.out (Nat.lt_of_lt_of_le hob HWS.out)] at hq;obtain⟨_,g2,g3,g4⟩:=HXI.out q hq;exact HL2.out q g2 g4) (fun _ _ h=>h),zQq HXI.out (zBR HB4.out (Nat.lt_of_lt_of_le hob HWS.out)) (fun q g2 g3 g4=>⟨HL3.out q g2 g3,HL2.out q g2 g4⟩) (HD3.out.ext okN HX4.out) (HP3.out.ext okS HX4.out) (Nat.le_trans HSZ.out HB4.out.size) HB4.out.size HK5.out⟩
   case measure=>simp [intOf] <;> omega
  ·gi_wp2
   go_wp2
   refine bodyPost_ret (results_none rfl _ _ _) rfl ?_
   exact⟨⟨_,rfl⟩,.inr ⟨_,trivial,hJx5⟩⟩
end Go.Proofs.YtbeeoomadnmogaaGreat
