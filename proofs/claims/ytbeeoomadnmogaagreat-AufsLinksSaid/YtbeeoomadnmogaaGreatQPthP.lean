/- PthP MapI ParP OrP AwF -/
import Derived.Test.YtbeeoomadnmogaaGreatQI5
import Derived.Test.YtbeeoomadnmogaaGreatQRng
set_option maxRecDepth 100000
set_option maxHeartbeats 64000000
namespace Go.Proofs.YtbeeoomadnmogaaGreat
open Go.RowKit
def zFD (l:List ByteArray):ByteArray:=ofL (47 :: Lib.join (l.map L) [47])
theorem zFt {l:List UInt8}(h:zAn l=0):l≠ []/\(47:UInt8) ∉ l/\l.length<=24:=by
 unfold zAn at h;by_cases h1:l= []\/l= [46]\/l= [46,46]\/l.any (pB zHj)=true
 ·rw[if_pos h1]at h;cases h
 rw[if_neg h1]at h;by_cases h2:24<l.length
 ·rw[if_pos h2]at h;cases h
 refine⟨fun e=>h1 (.inl e),fun e=>h1 (.inr (.inr (.inr ?_))),by omega⟩;exact List.any_eq_true.2 ⟨47,e,by decide⟩
theorem zHM:∀{l:List ByteArray},zB6 l=0->∀s∈l,zAn (L s)=0
 | a :: r,h,s,hs=>by
  unfold zB6 at h;by_cases e:zAn (L a)≠0
  ·rw[if_pos e]at h;exact absurd h e
  ·rw[if_neg e]at h;rcases List.mem_cons.1 hs with rfl|hs
   ·exact Decidable.not_not.1 e
   ·exact zHM h s hs
theorem zGk {l:List ByteArray}(h:zAR l=0):l.length<=8/\∀s∈l,zAn (L s)=0:=by
 unfold zAR at h;by_cases e:8<l.length
 ·rw[if_pos e]at h;cases h
 ·rw[if_neg e]at h;exact⟨by omega,zHM h⟩
def Sl (t:List UInt8):Prop:=t= []\/∃u,t=47 :: u
theorem zJO:∀{x y t u:List UInt8},(47:UInt8) ∉ x->(47:UInt8) ∉ y->Sl t->Sl u->x++t=y++u->x=y/\t=u
 | [],[],_,_,_,_,_,_,h=>⟨rfl,h⟩
 | [],b :: y,t,u,_,hy,ht,_,h=>by
  rcases ht with rfl|⟨t',rfl⟩
  ·cases h
  ·injection h with h1 _;exact absurd (by rw[<- h1];simp) hy
 | a :: x,[],t,u,hx,_,_,hu,h=>by
  rcases hu with rfl|⟨u',rfl⟩
  ·cases h
  ·injection h with h1 _;exact absurd (by rw[<- h1];simp) hx
 | a :: x,b :: y,t,u,hx,hy,ht,hu,h=>by
  injection h with h1 h2;obtain⟨e1,e2⟩:=zJO (fun e=>hx (by simp[e])) (fun e=>hy (by simp[e])) ht hu h2;exact⟨by rw[h1,e1],e2⟩
theorem zI4:∀r:List (List UInt8),Sl (Lib.joinTail [47] r)
 | []=>.inl rfl
 | x :: r=>.inr ⟨x++Lib.joinTail [47] r,rfl⟩
theorem zMp:∀{r s:List (List UInt8)},(∀x∈r,(47:UInt8) ∉ x)->(∀x∈s,(47:UInt8) ∉ x)->Lib.joinTail [47] r=Lib.joinTail [47] s->r=s
 | [],[],_,_,_=>rfl
 | [],y :: s,_,_,h=>by cases h
 | x :: r,[],_,_,h=>by cases h
 | x :: r,y :: s,hr,hs,h=>by
  have h:(47:UInt8) :: (x++Lib.joinTail [47] r)=47 :: (y++Lib.joinTail [47] s):=h;injection h with _ h
  obtain⟨e1,e2⟩:=zJO (hr x (by simp)) (hs y (by simp)) (zI4 r) (zI4 s) h;rw[e1,zMp (fun z hz=>hr z (by simp[hz])) (fun z hz=>hs z (by simp[hz])) e2]
theorem zSB {r s:List (List UInt8)}(hr:∀x∈r,x≠ []/\(47:UInt8) ∉ x)(hs:∀x∈s,x≠ []/\(47:UInt8) ∉ x)(h:Lib.join r [47]=Lib.join s [47]):r=s:=by
 cases r with
 | nil=>
  cases s with
  | nil=>rfl
  | cons y s=>
   rw[Lib.join_cons,Lib.join_nil]at h;exact absurd (List.append_eq_nil_iff.1 h.symm).1 (hs y (by simp)).1
 | cons x r=>
  cases s with
  | nil=>
   rw[Lib.join_cons,Lib.join_nil]at h;exact absurd (List.append_eq_nil_iff.1 h).1 (hr x (by simp)).1
  | cons y s=>
   rw[Lib.join_cons,Lib.join_cons]at h;obtain⟨e1,e2⟩:=zJO (hr x (by simp)).2 (hs y (by simp)).2 (zI4 r) (zI4 s) h;rw[e1,zMp (fun z hz=>(hr z (by simp[hz])).2) (fun z hz=>(hs z (by simp[hz])).2) e2]
theorem zOY {a b:List ByteArray}(ha:zAR a=0)(hb:zAR b=0)(h:zFD a=zFD b):a=b:=by
 have h1:=congrArg L h;unfold zFD at h1;rw[zMk,zMk]at h1;injection h1 with _ h1
 have hn:∀{l:List ByteArray},zAR l=0->∀x∈l.map L,x≠ []/\(47:UInt8) ∉ x:=by
  intro l hl x hx;obtain⟨s,hs,rfl⟩:=List.mem_map.1 hx;have:=zFt ((zGk hl).2 s hs);grind
 have h2:=zSB (hn ha) (hn hb) h1;grind[zBG,List.map_inj_right]
theorem zM4 {l:List ByteArray}(h:zAR l=0):(Lib.join (l.map L) [47]).length<=1000:=by
 obtain⟨h1,h2⟩:=zGk h;have:∀m:List ByteArray,(∀s∈m,zAn (L s)=0)->(Lib.joinTail [47] (m.map L)).length<=25*m.length:=by
  intro m
  induction m with
  | nil=>intro _;exact Nat.le_refl _
  | cons s r ih=>
   intro hm;have:=ih fun x hx=>hm x (by simp[hx]);have:=(zFt (hm s (by simp))).2.2;show ((47:UInt8) :: (L s++Lib.joinTail [47] (r.map L))).length<=_;grind
 cases l with
 | nil=>simp[Lib.join_nil]
 | cons s r=>
  rw[List.map_cons,Lib.join_cons,List.length_append];have:=this r fun x hx=>h2 x (by simp[hx]);have:=(zFt (h2 s (by simp))).2.2;grind
open Go.RowKit Go.MapKept
section
variable {P:Program} {K:Type} {κ:K->Value} {w:World} {b n:Nat} {f:K->Option Value} {F:Fence} {nF:Nat}
variable {ops:Array Oper} {rest:List Oper} {o:Oper} {a:Act} {Q:Exit->Act->World->Prop}
theorem zKe (hg:o.guard=none)(m x:Operand)(t:TypeId)(ok:Bool)(hop:o.op=Op.lookup t m x ok)(k e:TypeId)(T:zRx P k κ)(ht:P.underlying t=some (.map k e))(z:Value)(hz:∀w,(zeroValue e).run P w= .ok z w)
  (hm:a.eval m= .map (some b)) (h:zAA κ w b n f) (y:K) (hx:a.eval x=κ y)
  (hK:wpListIn F nF P ops Q rest (a.put o.dst (if ok then .tuple #[(f y).getD z,.bool (f y).isSome]else (f y).getD z)) w):wpListIn F nF P ops Q (o :: rest) a w:=by
 refine wpListIn_plain hg fun K' hK'=>?_;unfold Oper.wpIn;refine⟨by simp[Oper.about,hop],?_⟩;rw[Oper.semAt_plain F _ _ (by rw[hop];intro c hc';cases hc')];simp only[execOp,hop,hm,hx];have:=h.look T ht (hz w) y ok;simp[this,Result.andThen];exact hK' _ _ hK
theorem zIt [DecidableEq K](hg:o.guard=none)(m x y:Operand)(t:TypeId)(hop:o.op=Op.mapUpdate t m x y)(k e:TypeId)(T:zRx P k κ)(ht:P.underlying t=some (.map k e))
  (hm:a.eval m= .map (some b)) (h:zAA κ w b n f) (q:K) (v:Value) (hx:a.eval x=κ q) (hy:a.eval y=v)
  (hK:∀w',zAA κ w' b (if (f q).isSome then n else n+1) (upd f q v)->w.grownBy w' (some b)->wpListIn F nF P ops Q rest (a.put o.dst undef) w'):wpListIn F nF P ops Q (o :: rest) a w:=by
 obtain⟨w',hr,h1,h2⟩:=h.update T ht q v;refine wpListIn_plain hg fun K' hK'=>?_;unfold Oper.wpIn;refine⟨by simp[Oper.about,hop],?_⟩;rw[Oper.semAt_plain F _ _ (by rw[hop];intro c hc';cases hc')];simp[execOp,hop,hm,hx,hy,hr,Result.andThen];exact hK' _ _ (hK w' h1 h2)
end
end Go.Proofs.YtbeeoomadnmogaaGreat
namespace Go.Proofs.YtbeeoomadnmogaaGreat
open Go.RowKit
def zSY:List UInt8->List (List UInt8)
 | []=>[[]]
 | c :: r=>if c=47 then [] :: zSY r else (c :: (zSY r).headD []) :: (zSY r).tail
def zOw (l:List UInt8):List ByteArray:=(zSY l).map ofL
def zYi (s:ByteArray):List ByteArray × Int:=
 if (L s).head? ≠ some 47 then ([],6)else if (L s).tail= []then ([],0)
 else if zAR (zOw (L s).tail)≠0 then ([],zAR (zOw (L s).tail))else (zOw (L s).tail,0)
def zXo (s:ByteArray):List ByteArray:=(zYi s).1
def zYj (s:ByteArray):Int:=(zYi s).2
structure zYP (s:ByteArray) (out:List ByteArray) (fr i:Nat):Prop where
 lo:1<=i
 hi:i<=s.size+1
 num:out.length+1<=i
 mid:i<=s.size->1<=fr/\fr<=i/\zOw ((L s).drop 1)=out++zOw ((L s).drop fr)/\(47:UInt8) ∉ ((L s).drop fr).take (i-fr)
 fin:i=s.size+1->zOw ((L s).drop 1)=out
attribute [local go_sem] Oper.semAt_some
def zSO (x:PlI):Array Value:=#[.int .i64 x.i,.slice x.a x.n x.cap]
theorem zVY {n:Nat}{P:Program}{ops:Array Oper}{d:Bool}{Q:Exit->Act->World->Prop}{a:Act}{w:World}(h:(Code.region 6 ops d).wpIn Fence.wide n P Q a w):(Code.region 6 ops d).wp P Q a w:=wpIn_wide.1 h
theorem zUv {B:Nat}{W W':World}{v:Value}{l:List TrN}(h:zCa B W v l)(hk:KcA W W'):zCa B W' v l:=
 zAh.kc h hk fun _ _ ⟨va,h1,h2⟩=>⟨va,zDs h1 hk,h2⟩
attribute [local go_sem] Oper.semAt_some
theorem zVW (w:World)(a:Option Addr)(n cap:Nat):
  Calls Tryz.prog 206 #[.slice a n cap] w (fun e w'=>e= .returned (.func (.func 220) #[] #[.pointer (some ⟨w.heap.size,0,none⟩)])/\w'=w.alloc (.cells #[.slice a n cap] 33 (0,0))):=by
 have hmf:∀(fn:Fn) (first cap:Array Value) (w:World),(Instr.makeFunc fn first cap).run Tryz.prog w= .ok (.func fn first cap) w:=fun _ _ _ _=>rfl;go_enter Tryz.func206,Tryz.ntmps206;go_wp2;go_ret;exact⟨rfl,rfl⟩
theorem zN0 (n : Nat) (hn : 2 <= n) (B : Nat) (w0 w : World) (v : Value) (t : List TrN) (bx : Nat) (hb : zCa B w0 v t) (h0 : KcA w0 w) (hbx : w.cell? ⟨bx, 0, none⟩ = some v) (hbl : bx < w.heap.size) (hlen : t.length <= 1000) (hok : zA1 t t.length) :
  zX8 Fence.wide n Tryz.prog 220 #[.pointer (some ⟨bx, 0, none⟩)] zSO (Kc w0.heap.size w.heap.size) (zW7 t) (fun xs => xs.length = t.length) (fun _ => True) t.length w := by
 intro l J Jx W hW hJ hJx hY hJ0;obtain ⟨aa, cap, rfl⟩ := hb.form;have HV := hQq hb; clear hb;have HOK := hQq hok; clear hok;have HY := hQq hY; clear hY;have HJ := hQq hJ; have HJX := hQq hJx; clear hJ hJx;have cb : W.cell? ⟨bx, 0, none⟩ = some (.slice aa t.length cap) := (hW.cell (p := ⟨bx, 0, none⟩) hbl).trans hbx;have HK0 : Hid (KcA w0 W) := hQq (h0.trans (Kc.of_ext hW));have HWS : Hid (w.heap.size <= W.heap.size) := hW.size;have h1 : 1 <= n := by omega
 refine callsIn_of_wp Tryz.func220 rfl trivial ?_ rfl;refine wpIn_wide.2 ?_;simp only [Tryz.ntmps220, List.size_toArray, List.length_cons, List.length_nil, Nat.reduceAdd, Nat.reduceSub, Array.replicate_succ, Array.replicate_zero, List.push_toArray, List.append_toArray, List.nil_append, List.cons_append];go_wp2;go_loopw [3, 4, 5, 8] (fun vp _ _ i w' => ∃ (wi : World) (k : Nat) (pre : List PlI), wi = w' /\ k <= t.length /\ i = .int .i64 k /\ pre.length = k /\ J pre wi /\ KcA w0 wi /\ W.heap.size <= wi.heap.size /\ zAg cdS W.heap.size wi vp (zUP t k)) (fun _ _ _ i _ => t.length - (intOf i).toNat)
 case atStart => exact ⟨_, 0, [], rfl, Nat.zero_le _, rfl, rfl, hJ0, HK0.out, Nat.le_refl _, zAg.nil _ _ _⟩
 case round =>
  clear hJ0 cb;obtain ⟨wi, k, pre, rfl, hk, rfl, hpl, hj, hkc, hsz, hp⟩ := hrel;have HJW := hQq hj; have HKC := hQq hkc; have HSZ := hQq hsz; have HP := hQq hp; have HPL := hQq hpl;clear hj hkc hsz hpl;by_cases hlt : k < t.length
  case neg =>
   obtain rfl : k = t.length := by omega
   clear hp;go_wp2;go_end0;exact ⟨⟨_, rfl⟩, .inl ⟨pre, HPL.out, HJW.out⟩⟩
  obtain ⟨ap, capp, rfl⟩ := hp.form;clear hp;have HVI := hQq (zUv HV.out HKC.out);obtain ⟨bb, off, va, hex, hbb, hva, c0, c1, c2, c3, c4, c5, c6, c7⟩ := HVI.out.tr k hlt;cases hex;obtain ⟨a3, cap3, rfl⟩ := hva.form;have HGX := hQq (zAl t k hlt);have HLN : Hid (pre.length < t.length) := hQq (by have := HPL.out; omega);generalize t[k]'hlt = x at c0 c1 c2 c3 c4 c5 c6 c7 HGX;have j1 : ((k : Nat) : Int) < (t.length : Int) := by omega
  have j0 : (0 : Int) <= (k : Int) := by omega
  clear hva;by_cases hk0 : k = 0
  ·have q0 : ¬ (0 : Int) < (k : Int) := by omega
   have hsp : zUP t k = [] := by rw [hk0]; rfl
   have HST : Hid (zAw t k = []) := hQq (by rw [hk0]; rfl);rw [hsp, List.length_nil] at HP ⊢;clear hsp hk0;go_upto_region 6 with fail
   refine nW (P := fun W => Code.wp _ _ _ _ W) _ ?_;intro W4 hW4;have HE4 : Hid (Ext wi W4) := hQq (by rw [hW4]; exact eA _ _);have HP4 : Hid (zAg cdS W.heap.size W4 (.slice ap 0 capp) (zAw t k)) := hQq (by rw [HST.out]; exact HP.out.ext okS HE4.out);clear hW4 c0 c1 c2 c3 c4 c5 c6 c7;refine zVY (n := n) ?_;obtain ⟨fn, tmps, assign, body, hy, hR⟩ := HY.out pre ⟨k, ap, 0, capp⟩ W4 (HJ.out _ _ _ HJW.out (HE4.out.mono HSZ.out)) HLN.out ⟨HPL.out.symm, (zAg.le (B' := 0) HP4.out okS (fun _ _ _ h => h) (Nat.zero_le _)).in okS⟩;have HR := hQq hR;clear hR;unfold zSO at hy;dsimp only at hy;gi_wp2;refine HR.out.mono ?_;rintro e W5 (⟨rfl, hJ5, hk5⟩ | ⟨rfl, hJx5⟩)
   ·have HJ5 := hQq hJ5; have HK5 := hQq hk5;clear hJ5 hk5;gi_wp2;go_wp2;go_roundw
    case rel => exact ⟨_, k + 1, pre ++ [⟨k, ap, 0, capp⟩], rfl, by omega, by go_num, by rw [List.length_append, HPL.out]; rfl, HJ5.out, (HKC.out.trans (Kc.of_ext HE4.out)).all HK5.out (Nat.le_refl _), Nat.le_trans HSZ.out (Nat.le_trans HE4.out.size HK5.out.size), HP4.out.kc HK5.out HWS.out (fun _ _ h => h)⟩
    case measure => simp [intOf] <;> omega
   ·gi_wp2;go_wp2;refine bodyPost_ret (results_none rfl _ _ _) rfl ?_;exact ⟨⟨_, rfl⟩, .inr ⟨_, trivial, hJx5⟩⟩
  have q0 : (0 : Int) < (k : Int) := by omega
  have hst := zI9 HOK.out (i := k) hlt hk0;have hds := zE7 HOK.out (i := k) hlt hk0;rw [HGX.out] at hst hds;rw [zEW hk0] at HP;obtain ⟨d, hd⟩ : ∃ d : Nat, x.dep = d := ⟨x.dep.toNat, by have := hds.1; omega⟩;rw [zEW hk0];have hd1 : 1 <= d := by have := hds.1; omega
  have hd8 : d <= 8 := by
   have h1 := (zA3 (zAd (HOK.out k hlt)).1).2.1;rw [HGX.out, hd] at h1; omega
  rw [hd, Int.toNat_natCast] at hst;have HST := hQq hst;have hl2 := hst.2.2.2.1;have hc2 : (zAw t (k - 1)).length <= capp := by obtain ⟨_, _, e, h, _⟩ := HP.out.in okS; cases e; exact h
  rw [hd] at c0;clear hst hds hd;have HP1 : Hid (zAg cdS W.heap.size wi (.slice ap (d - 1) capp) ((zAw t (k - 1)).take (d - 1))) := hQq (by
   by_cases e : 0 < (zAw t (k - 1)).length
   ·exact HP.out.trunc okS e hl2
   ·have e1 : (zAw t (k - 1)).length = 0 := by omega
    have e2 : d - 1 = 0 := by omega
    have := HP.out;rw [List.length_eq_zero_iff.1 e1] at this;rw [e2, List.take_zero]; exact this)
  have HPK : Hid (zAw t k = (zAw t (k - 1)).take (d - 1) ++ [x.nm]) := hQq HST.out.2.1.symm;generalize hsp : (zAw t (k - 1)).length = sp at hl2 hc2;have hq2 : ((zAw t (k - 1)).take (d - 1)).length = d - 1 := by rw [List.length_take, hsp]; omega
  have HQ2 := hQq hq2;have f2 : (d : Int) - 1 <= (sp : Int) := by omega
  have f2' : (d : Int) - 1 <= (capp : Int) := by omega
  have f3 : (0 : Int) <= (d : Int) - 1 := by omega
  have f7 : (1 : Int) <= (d : Int) := by omega
  have f4 : IntKind.i64.wrap ((d : Int) - 1) = (d : Int) - 1 := IntWalk.i64_in _ (by omega);have f6 : ((d : Int) - 1).toNat = d - 1 := by omega
  clear hsp hq2;go_upto_region 5 with fail
  refine nW (P := fun W => Code.wp _ _ _ _ W) _ ?_;intro W1 hW1;have HX1 : Hid (W1.heap[wi.heap.size]? = some (.cells #[.int .i64 d, .string x.nm, .int .i64 x.kd, .slice a3 x.ats.length cap3, .string x.dat, .int .i64 x.ma, .int .i64 x.mi, .int .i64 x.cl] 59 (0, 0))) := hQq (by rw [hW1]; exact bN wi _);have HE1 : Hid (Ext wi W1) := hQq (by rw [hW1]; exact eA _ _);clear hW1 c0 c1 c2 c3 c4 c5 c6 c7;have y0 : W1.cell? ⟨wi.heap.size, 0, none⟩ = some (.int .i64 d) := bC HX1.out 0;have y1 : W1.cell? ⟨wi.heap.size, 1, none⟩ = some (.string x.nm) := bC HX1.out 1;go_region_held3 (fun w' => w'.cell? ⟨wi.heap.size, 0, none⟩ = some (.int .i64 d) /\ w'.cell? ⟨wi.heap.size, 1, none⟩ = some (.string x.nm)) (first | go_keep | skip)
   (first
    | (refine zCK okS (.tmp 19) (.tmp 22) (by rfl) (.slice ap (d - 1) capp) _ ((zAw t (k - 1)).take (d - 1)) [x.nm] wi _ (by rfl) (by rfl) (HP1.out.ext okS (Ext.trans HE1.out (by repeat (first | exact bR _ _ | refine Ext.trans ?_ (eA _ _) | refine Ext.trans ?_ (eDn _ _) | refine Ext.trans ?_ (eD _))))) (by exact zAj okS _ x.nm [.string x.nm] _ (by first | rfl | simp) rfl) (Below.mono (Ext.trans HE1.out (by repeat (first | exact bR _ _ | refine Ext.trans ?_ (eA _ _) | refine Ext.trans ?_ (eDn _ _) | refine Ext.trans ?_ (eD _)))) HSZ.out) (Nat.le_trans HSZ.out (Below.size (Ext.trans HE1.out (by repeat (first | exact bR _ _ | refine Ext.trans ?_ (eA _ _) | refine Ext.trans ?_ (eDn _ _) | refine Ext.trans ?_ (eD _)))))) (by have := HQ2.out; simp; omega) ?_; intro v2 w2 ha; have HA2 := hQq ha; have hne := ha.chg.keep wi.heap.size _ (bX (by repeat (first | exact bR _ _ | refine Ext.trans ?_ (eA _ _) | refine Ext.trans ?_ (eDn _ _) | refine Ext.trans ?_ (eD _))) HX1.out) (fun e => by obtain ⟨_, c, f, h9⟩ := HP1.out.row e _ rfl; exact absurd (bL h9) (Nat.lt_irrefl _)); have z0 := bC hne 0; have z1 := bC hne 1; clear ha hne)
    | fail)
  all_goals
   obtain ⟨ap2, cp2, rfl⟩ := HA2.out.own.form;go_upto_region 6 with fail
   refine nW (P := fun W => Code.wp _ _ _ _ W) _ ?_;intro W4 hW4;have HB4 : Hid (Below W.heap.size wi W4) := hQq (by rw [hW4]; first | exact HA2.out.below | exact HA2.out.below.drew);have HP4 : Hid (zAg cdS W.heap.size W4 (.slice ap2 (zAw t k).length cp2) (zAw t k)) := hQq (by rw [hW4]; have h := HA2.out.own; rw [<- HPK.out] at h; exact h);have HKA : Hid (KcA w0 W4) := hQq ⟨Nat.le_trans HKC.out.size HB4.out.size, fun j cs e f hj hh => (HB4.out.block j (Nat.lt_of_lt_of_le (bL hh) HK0.out.size)).trans (HKC.out.keep j cs e f hj hh)⟩;rw [<- HPK.out];clear hW4;refine zVY (n := n) ?_;obtain ⟨fn, tmps, assign, body, hy, hR⟩ := HY.out pre ⟨k, ap2, (zAw t k).length, cp2⟩ W4 (HJ.out _ _ _ HJW.out HB4.out) HLN.out ⟨HPL.out.symm, (zAg.le (B' := 0) HP4.out okS (fun _ _ _ h => h) (Nat.zero_le _)).in okS⟩;have HR := hQq hR;clear hR;unfold zSO at hy;dsimp only at hy;gi_wp2;refine HR.out.mono ?_;rintro e W5 (⟨rfl, hJ5, hk5⟩ | ⟨rfl, hJx5⟩)
   ·have HJ5 := hQq hJ5; have HK5 := hQq hk5;clear hJ5 hk5;gi_wp2;go_wp2;go_roundw
    case rel => exact ⟨_, k + 1, pre ++ [⟨k, ap2, (zAw t k).length, cp2⟩], rfl, by omega, by go_num, by rw [List.length_append, HPL.out]; rfl, HJ5.out, HKA.out.all HK5.out (Nat.le_refl _), Nat.le_trans HSZ.out (Nat.le_trans HB4.out.size HK5.out.size), HP4.out.kc HK5.out HWS.out (fun _ _ h => h)⟩
    case measure => simp [intOf] <;> omega
   ·gi_wp2;go_wp2;refine bodyPost_ret (results_none rfl _ _ _) rfl ?_;exact ⟨⟨_, rfl⟩, .inr ⟨_, trivial, hJx5⟩⟩
end Go.Proofs.YtbeeoomadnmogaaGreat
