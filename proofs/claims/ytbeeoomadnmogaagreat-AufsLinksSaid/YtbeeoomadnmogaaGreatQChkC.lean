/- ChkC RInv RBox -/
import Derived.Test.YtbeeoomadnmogaaGreatQI3
import Derived.Test.YtbeeoomadnmogaaGreatQNodA
import Derived.Test.YtbeeoomadnmogaaGreatQChkB
set_option maxRecDepth 100000
set_option maxHeartbeats 64000000
namespace Go.Proofs.YtbeeoomadnmogaaGreat
open Go.RowKit
theorem zKh (B:Nat)(w:World)(c m1 m2 n1 n2:Nat)(vd:Value)(f:Bool)(m:Int)(F1 F2:Int->Option Value)(x y:TrN)(va vy:Value)(n:Nat)
  (hblk:w.heap[c]? = some (.cells #[vd,.bool f,.map (some m1),.map (some m2),.int .i64 m] 149 (0,0))) (hM1:zAA kI w m1 n1 F1) (hM2:zAA kI w m2 n2 F2)
  (hBc:B<=c) (hB1:B<=m1) (hB2:B<=m2) (hBw:B<=w.heap.size) (h12:m1≠m2) (hm0:0<=m) (hm1:m<=1000) (hn:n<=1000)
  (hx:aA w va x.ats) (_hxl:x.ats.length<=1000000) (hy:0<x.cl->x.cl<=m->F1 x.cl=some (trV y vy)/\aA w vy y.ats/\y.ats.length<=1000000)
  (hc:0<x.cl->(F2 x.cl).getD (.int .i64 0)= .int .i64 n) :
  Calls Tryz.prog 173 #[.pointer (some ⟨c,0,none⟩),trV x va] w (zUk B w c m1 m2 vd f m F1 F2 (zAT y x) x (trV x va) n):=by
 have hcm1:c≠m1:=by rintro rfl;obtain⟨es,ck,h,_⟩:=hM1;rw[hblk]at h;cases h
 have hcm2:c≠m2:=by rintro rfl;obtain⟨es,ck,h,_⟩:=hM2;rw[hblk]at h;cases h
 obtain⟨a3,cap3,rfl,hcap3,hxc⟩:=hx;have HX:Hid (aA w (.slice a3 x.ats.length cap3) x.ats):=⟨a3,cap3,rfl,hcap3,hxc⟩;clear hxc;have hcl:=bL hblk;have k2:w.cell? ⟨c,2,none⟩=some (.map (some m1)):=bC hblk 2;have k3:w.cell? ⟨c,3,none⟩=some (.map (some m2)):=bC hblk 3;have k4:w.cell? ⟨c,4,none⟩=some (.int .i64 m):=bC hblk 4;have fc:∀j,w.frozen? ⟨c,j,none⟩=false:=fun j=>bT hblk j;have HBK:=hQq hblk;have HM1:=hQq hM1;have HM2:=hQq hM2;have HY:=hQq hy;have HC:=hQq hc;clear hblk hM1 hM2 hy hc;unfold trV;by_cases e0:x.cl=0
 ·have HR:Hid (zDn m (zAT y x) x=0):=hQq (if_pos e0);have HE0:=hQq e0;go_enter Tryz.func173,Tryz.ntmps173;go_wp2;go_ret;refine⟨by rw[HR.out];rfl,(eA _ _).mono hBw,fun _=>⟨⟨n1,n2,F1,F2,?_,HM1.out.ext (eA _ _),HM2.out.ext (eA _ _),(if_neg (by rw[HE0.out];omega)).symm,(if_pos HE0.out).symm⟩,fun b o h _ _ _=>bA h⟩⟩;rw[HE0.out,show max m (0:Int)=m by omega];exact bA HBK.out
 have e0':(x.cl==0)=false:=nB e0;have hcz:c<w.heap.size+1:=by omega
 by_cases e1:x.cl<0
 ·have HR:Hid (zDn m (zAT y x) x=6):=hQq ((if_neg e0).trans (if_pos (.inl e1)));clear e0;go_enter Tryz.func173,Tryz.ntmps173;go_wp2;go_quiet (fail)
  go_wp2;go_ret;exact zGD HR.out (by decide) (((eA _ _).trans (eDn _ _)).mono hBw)
 have e1':decide (x.cl<0)=false:=decide_eq_false e1;by_cases e2:m+1<x.cl
 ·have HR:Hid (zDn m (zAT y x) x=6):=hQq ((if_neg e0).trans (if_pos (.inr e2)));clear e0;go_enter Tryz.func173,Tryz.ntmps173;go_wp2;go_quiet (fail)
  go_wp2;go_ret;exact zGD HR.out (by decide) (((eA _ _).trans (eDn _ _)).mono hBw)
 have HE0:=hQq e0;have HPOS:Hid (0<x.cl):=by show _<_;omega
 clear e0;by_cases e3:m<x.cl
 ·have HR:Hid (zDn m (zAT y x) x=0):=hQq ((if_neg HE0.out).trans ((if_neg (by omega)).trans (if_pos e3)));have HMX:Hid (max m x.cl=m+1):=by show _=_;omega
  have HE3:=hQq e3;go_enter Tryz.func173,Tryz.ntmps173;go_wp2;go_quiet (fail)
  go_wp2;go_quiet (fail)
  go_wp2;refine nW (P:=fun W=>Code.wp _ _ _ _ W) _ ?_;intro W0 hW0;have TC0:Hid (W0.heap[c]? = some (.cells #[vd,.bool f,.map (some m1),.map (some m2),.int .i64 (m+1)] 149 (0,0))):=hQq (by rw[hW0,bS (bX (by repeat (first|exact bR _ _|refine Ext.trans ?_ (eA _ _)|refine Ext.trans ?_ (eDn _ _)|refine Ext.trans ?_ (eD _))) HBK.out)];rfl);have TX0:Hid (W0.heap[w.heap.size]? = some (.cells #[.int .i64 x.dep,.string x.nm,.int .i64 x.kd,.slice a3 x.ats.length cap3,.string x.dat,.int .i64 x.ma,.int .i64 x.mi,.int .i64 x.cl] 59 (0,0))):=hQq (by rw[hW0];exact bSn (bX (by repeat (first|exact bR _ _|refine Ext.trans ?_ (eDn _ _)|refine Ext.trans ?_ (eD _))) (bN w _)) _ _ (fun e=>by have e':w.heap.size=c:=e;omega));have TE0:Hid (Below B w W0):=hQq (by rw[hW0];exact(Below.mono (by repeat (first|exact bR _ _|refine Ext.trans ?_ (eA _ _)|refine Ext.trans ?_ (eDn _ _)|refine Ext.trans ?_ (eD _))) hBw).setCell (p:=⟨c,4,none⟩) hBc _);have TK0:Hid (∀b o,w.heap[b]? = some o->b≠c->W0.heap[b]? = some o):=hQq (fun b o h1 h2=>by rw[hW0];exact bSn (bX (by repeat (first|exact bR _ _|refine Ext.trans ?_ (eA _ _)|refine Ext.trans ?_ (eDn _ _)|refine Ext.trans ?_ (eD _))) h1) _ _ h2);clear hW0;have M1:Hid (zAA kI W0 m1 n1 F1):=hQq (HM1.out.keepB (fun o h=>TK0.out _ o h hcm1.symm));have M2:Hid (zAA kI W0 m2 n2 F2):=hQq (HM2.out.keepB (fun o h=>TK0.out _ o h hcm2.symm));have t2:W0.cell? ⟨c,2,none⟩=some (.map (some m1)):=bC TC0.out 2;have t3:W0.cell? ⟨w.heap.size,0,none⟩=some (.int .i64 x.dep):=bC TX0.out 0;have t4:W0.cell? ⟨w.heap.size,1,none⟩=some (.string x.nm):=bC TX0.out 1;have t5:W0.cell? ⟨w.heap.size,2,none⟩=some (.int .i64 x.kd):=bC TX0.out 2;have t6:W0.cell? ⟨w.heap.size,3,none⟩=some (.slice a3 x.ats.length cap3):=bC TX0.out 3;have t7:W0.cell? ⟨w.heap.size,4,none⟩=some (.string x.dat):=bC TX0.out 4;have t8:W0.cell? ⟨w.heap.size,5,none⟩=some (.int .i64 x.ma):=bC TX0.out 5;have t9:W0.cell? ⟨w.heap.size,6,none⟩=some (.int .i64 x.mi):=bC TX0.out 6;have t10:W0.cell? ⟨w.heap.size,7,none⟩=some (.int .i64 x.cl):=bC TX0.out 7;go_still_tail 7,(by kernel_rfl);go_wp2_with (at_mapUpdate;refine zDU rfl (.tmp 41) (.tmp 43) (.tmp 44) 145 rfl _ _ zA4 zE1 rfl (by exact M1.out.ext (eD _)) x.cl (.agg #[.int .i64 x.dep,.string x.nm,.int .i64 x.kd,.slice a3 x.ats.length cap3,.string x.dat,.int .i64 x.ma,.int .i64 x.mi,.int .i64 x.cl]) rfl rfl ?_;intro W hm4 hg4;have T1:=hQq hm4;have HG3:=hQq hg4;clear hm4 hg4)
  have TC:Hid (W.heap[c]? = some (.cells #[vd,.bool f,.map (some m1),.map (some m2),.int .i64 (max m x.cl)] 149 (0,0))):=hQq (by rw[HMX.out];exact zAV HG3.out (bX (eD _) TC0.out) (fun e=>hcm1 (by injection e with e;exact e.symm)));have TX:=hQq (zAV HG3.out (bX (eD _) TX0.out) (fun e=>by injection e with e;exact absurd HM1.out.lt (by omega)));have T2:Hid (zAA kI W m2 n2 F2):=hQq ((M2.out.ext (eD _)).grown HG3.out (fun e=>h12 (by injection e)));have TBW:Hid (B<=W.heap.size):=hQq (Nat.le_trans hBw (Nat.le_trans TE0.out.size (Nat.le_trans (eD W0).size HG3.out.size)));have TB:Hid (Below B w W):=hQq (Below.grown (Below.trans TE0.out ((eD _).mono (Nat.le_trans hBw TE0.out.size))) HG3.out (Nat.le_trans hBw (Nat.le_trans TE0.out.size (eD _).size)) (fun k hk=>by cases hk;exact hB1));have TK:Hid (∀b o,w.heap[b]? = some o->b≠c->b≠m1->W.heap[b]? = some o):=hQq (fun b o h1 h2 h3=>zAV HG3.out (bX (eD _) (TK0.out b o h1 h2)) (fun e=>h3 (by injection e with e;exact e.symm)));have TF:Hid (upd F1 x.cl (.agg #[.int .i64 x.dep,.string x.nm,.int .i64 x.kd,.slice a3 x.ats.length cap3,.string x.dat,.int .i64 x.ma,.int .i64 x.mi,.int .i64 x.cl])=if m<x.cl then upd F1 x.cl (trV x (.slice a3 x.ats.length cap3))else F1):=hQq (by rw[if_pos HE3.out]);have hlk:(Instr.lookup 146 (.map (some m2)) (.int .i64 x.cl) false).run Tryz.prog W.drew= .ok (.int .i64 n) W.drew:=by
   have:=(T2.out.ext (eD W)).look zA4 zAz (zB3 _) x.cl false;rw[HC.out HPOS.out]at this;exact this
  have v3:W.cell? ⟨c,3,none⟩=some (.map (some m2)):=bC TC.out 3;have v7:W.cell? ⟨w.heap.size,7,none⟩=some (.int .i64 x.cl):=bC TX.out 7;have j9:IntKind.i64.wrap ((n:Int)+1)=(n:Int)+1:=IntWalk.i64_in _ (by omega);go_wp2;go_still_tail 8,(by kernel_rfl);go_wp2_with (at_mapUpdate;refine zDU rfl (.tmp 59) (.tmp 61) (.tmp 63) 146 rfl _ _ zA4 zAz rfl (by exact T2.out.ext (eD _)) x.cl (.int .i64 ((n:Int)+1)) rfl rfl ?_;intro w4 hm4 hg4;have HM4:=hQq hm4;have HG4:=hQq hg4;clear hm4 hg4)
  go_ret;refine⟨by rw[HR.out];rfl,Below.grown (Below.trans TB.out ((eD _).mono TBW.out)) HG4.out (Nat.le_trans TBW.out (eD _).size) (fun k hk=>by cases hk;exact hB2),fun _=>⟨⟨_,_,_,_,zAV HG4.out (bX (eD _) TC.out) (fun e=>hcm2 (by injection e with e;exact e.symm)),(T1.out.ext (eD _)).grown HG4.out (fun e=>h12 (by injection e with e;exact e.symm)),HM4.out,TF.out,(if_neg HE0.out).symm⟩,fun b o h1 h2 h3 h4=>zAV HG4.out (bX (eD _) (TK.out b o h1 h2 h3)) (fun e=>h4 (by injection e with e;exact e.symm))⟩⟩
 ·have hle:x.cl<=m:=by omega
  obtain⟨y1,y2,y3⟩:=HY.out HPOS.out hle;have HY1:=hQq y1;have HY2:=hQq y2;have HY3:=hQq y3;clear y1 y2 y3;have HE3:=hQq e3;have e3':decide (m<x.cl)=false:=decide_eq_false e3;obtain⟨a5,cap5,rfl,_⟩:=HY2.out;cases hlk1:zAT y x
  all_goals
   have HLK:=hQq hlk1;go_enter Tryz.func173,Tryz.ntmps173;go_wp2;go_quiet (fail)
   go_wp2;go_quiet (fail)
   go_wp2;refine nW (P:=fun W=>Code.wp _ _ _ _ W) _ ?_;intro W0 hW0;have TE0:Hid (Ext w W0):=hQq (by rw[hW0];exact(by repeat (first|exact bR _ _|refine Ext.trans ?_ (eA _ _)|refine Ext.trans ?_ (eDn _ _)|refine Ext.trans ?_ (eD _))));have TX0:Hid (W0.heap[w.heap.size]? = some (.cells #[.int .i64 x.dep,.string x.nm,.int .i64 x.kd,.slice a3 x.ats.length cap3,.string x.dat,.int .i64 x.ma,.int .i64 x.mi,.int .i64 x.cl] 59 (0,0))):=hQq (by rw[hW0];exact bX (by repeat (first|exact bR _ _|refine Ext.trans ?_ (eDn _ _)|refine Ext.trans ?_ (eD _))) (bN w _));clear hW0;have M1:Hid (zAA kI W0 m1 n1 F1):=hQq (HM1.out.ext TE0.out);have hlk:(Instr.lookup 145 (.map (some m1)) (.int .i64 x.cl) false).run Tryz.prog W0.drew= .ok (trV y (.slice a5 y.ats.length cap5)) W0.drew:=by
    have:=(M1.out.ext (eD W0)).look zA4 zE1 zKd x.cl false;rw[HY1.out]at this;exact this
   unfold trV at hlk;have t2:W0.cell? ⟨c,2,none⟩=some (.map (some m1)):=bC (bX TE0.out HBK.out) 2;have t3:W0.cell? ⟨w.heap.size,0,none⟩=some (.int .i64 x.dep):=bC TX0.out 0;have t4:W0.cell? ⟨w.heap.size,1,none⟩=some (.string x.nm):=bC TX0.out 1;have t5:W0.cell? ⟨w.heap.size,2,none⟩=some (.int .i64 x.kd):=bC TX0.out 2;have t6:W0.cell? ⟨w.heap.size,3,none⟩=some (.slice a3 x.ats.length cap3):=bC TX0.out 3;have t7:W0.cell? ⟨w.heap.size,4,none⟩=some (.string x.dat):=bC TX0.out 4;have t8:W0.cell? ⟨w.heap.size,5,none⟩=some (.int .i64 x.ma):=bC TX0.out 5;have t9:W0.cell? ⟨w.heap.size,6,none⟩=some (.int .i64 x.mi):=bC TX0.out 6;have t10:W0.cell? ⟨w.heap.size,7,none⟩=some (.int .i64 x.cl):=bC TX0.out 7;go_still_tail 8,(by kernel_rfl);go_wp2_with (go_at_call 184;refine(zGV y x _ _ _ (HY2.out.ext (TE0.out.trans (eD _))) (HX.out.ext (TE0.out.trans (eD _))) HY3.out).mono ?_;rintro e W ⟨rfl,hb⟩;rw[HLK.out];have H3:=hQq hb;clear hb)
  ·have HR:Hid (zDn m false x=6):=hQq ((if_neg HE0.out).trans ((if_neg (by omega)).trans ((if_neg (by have:=HE3.out;omega)).trans (if_neg (by simp)))));go_ret;exact zGD HR.out (by decide) ((TE0.out.trans ((eD _).trans H3.out)).mono hBw)
  ·have HR:Hid (zDn m true x=0):=hQq ((if_neg HE0.out).trans ((if_neg (by omega)).trans ((if_neg (by have:=HE3.out;omega)).trans (if_pos rfl))));have TE1:Hid (Ext W0 W):=hQq ((eD _).trans H3.out);have TC:Hid (W.heap[c]? = some (.cells #[vd,.bool f,.map (some m1),.map (some m2),.int .i64 (max m x.cl)] 149 (0,0))):=hQq (by rw[show max m x.cl=m by omega];exact bX (TE0.out.trans TE1.out) HBK.out);have TX:=hQq (bX TE1.out TX0.out);have T1:Hid (zAA kI W m1 n1 F1):=hQq (M1.out.ext TE1.out);have T2:Hid (zAA kI W m2 n2 F2):=hQq (HM2.out.ext (TE0.out.trans TE1.out));have TBW:Hid (B<=W.heap.size):=hQq (Nat.le_trans hBw (TE0.out.trans TE1.out).size);have TB:Hid (Below B w W):=hQq ((TE0.out.trans TE1.out).mono hBw);have TK:Hid (∀b o,w.heap[b]? = some o->b≠c->b≠m1->W.heap[b]? = some o):=hQq (fun b o h1 _ _=>bX (TE0.out.trans TE1.out) h1);have TF:Hid (F1=if m<x.cl then upd F1 x.cl (trV x (.slice a3 x.ats.length cap3))else F1):=hQq (by rw[if_neg (by have:=HE3.out;omega)]);clear hlk t2 t3 t4 t5 t6 t7 t8 t9 t10;have hlq:(Instr.lookup 146 (.map (some m2)) (.int .i64 x.cl) false).run Tryz.prog W.drew= .ok (.int .i64 n) W.drew:=by
    have:=(T2.out.ext (eD W)).look zA4 zAz (zB3 _) x.cl false;rw[HC.out HPOS.out]at this;exact this
   have v3:W.cell? ⟨c,3,none⟩=some (.map (some m2)):=bC TC.out 3;have v7:W.cell? ⟨w.heap.size,7,none⟩=some (.int .i64 x.cl):=bC TX.out 7;have j9:IntKind.i64.wrap ((n:Int)+1)=(n:Int)+1:=IntWalk.i64_in _ (by omega);go_wp2;go_still_tail 8,(by kernel_rfl);go_wp2_with (at_mapUpdate;refine zDU rfl (.tmp 59) (.tmp 61) (.tmp 63) 146 rfl _ _ zA4 zAz rfl (by exact T2.out.ext (eD _)) x.cl (.int .i64 ((n:Int)+1)) rfl rfl ?_;intro w4 hm4 hg4;have HM4:=hQq hm4;have HG4:=hQq hg4;clear hm4 hg4)
   go_ret;refine⟨by rw[HR.out];rfl,Below.grown (Below.trans TB.out ((eD _).mono TBW.out)) HG4.out (Nat.le_trans TBW.out (eD _).size) (fun k hk=>by cases hk;exact hB2),fun _=>⟨⟨_,_,_,_,zAV HG4.out (bX (eD _) TC.out) (fun e=>hcm2 (by injection e with e;exact e.symm)),(T1.out.ext (eD _)).grown HG4.out (fun e=>h12 (by injection e with e;exact e.symm)),HM4.out,TF.out,(if_neg HE0.out).symm⟩,fun b o h1 h2 h3 h4=>zAV HG4.out (bX (eD _) (TK.out b o h1 h2 h3)) (fun e=>h4 (by injection e with e;exact e.symm))⟩⟩
theorem zBC {listed:Array Bool}{i:Nat}(h:i<listed.size)(b c:Bool):listed.getD i b=listed.getD i c:=by
 simp[Array.getD_eq_getD_getElem?,h]
theorem zLY:∀(l:List Bool) (i:Nat),l[i]? = some false->((l.set i true).filter (! ·)).length+1=(l.filter (! ·)).length
 | [],i,h=>by simp at h
 | b :: r,0,h=>by
  have:b=false:=by simpa using h
  subst this;simp
 | b :: r,i+1,h=>by
  have h:r[i]? = some false:=by simpa using h
  have ih:=zLY r i h;rw[List.set_cons_succ,List.filter_cons,List.filter_cons];cases b
  ·simp[ih]
  ·simp[ih]
def zCc (ops:Array Oper)(i j:Nat):Bool:=((ops[i]?).map fun o=>o.after.toList.any fun e=>Region.binds .any e&&e.on==j).getD false
def zCu (ops:Array Oper)(n:Nat):List Tmp:=(ops.toList.take n).filterMap (·.dst)
def zXq (ops:Array Oper)(n:Nat):Bool:=
 ops.size==n+1&&ops.toList.all (fun o=>o.guard.isNone)&&(List.range (n+1)).all (fun i=>((ops[i]?).map fun o=>o.after.toList.all fun e=>!Region.binds .any e||decide (e.on<i)).getD false) &&
 (List.range n).all (fun j=>zCc ops n j&&(List.range n).all fun i=>i==j||((ops[i]?).bind (·.dst)).isNone||!((ops[i]?).bind (·.dst)==(ops[j]?).bind (·.dst)))
section
variable {P:Program} {ops:Array Oper} {Q:Exit->Act->World->Prop} {n:Nat}
structure RgI (ops:Array Oper) (n:Nat) (a0:Act) (w0:World) (F:Nat->Value->World->Prop) (listed:Array Bool) (a:Act) (w:World):Prop where
 size:listed.size=n+1
 tsz:a.tmps.size=a0.tmps.size
 defers:a.defers=a0.defers
 kept:∀t,t ∉ zCu ops n->a.eval (.tmp t)=a0.eval (.tmp t)
 fact:∀i o d,i<n->ops[i]? = some o->o.dst=some d->listed.getD i false=true->F i (a.eval (.tmp d)) w
 ext:Ext w0 w
theorem zBr {a:Act}{d t:Tmp}{v:Value}(h:d≠t):(a.put (some d) v).eval (.tmp t)=a.eval (.tmp t):=by
 simp[Act.put,Act.eval,Array.getD_eq_getD_getElem?,Array.getElem?_setIfInBounds_ne h]
theorem zCz {a:Act}{d:Tmp}{v:Value}(h:d<a.tmps.size):(a.put (some d) v).eval (.tmp d)=v:=by
 simp[Act.put,Act.eval,Array.getD_eq_getD_getElem?,h]
def zAC (a:Act)(D:List Tmp)(vs:Tmp->Value):Act:=D.foldl (fun a d=>a.put (some d) (vs d)) a
theorem zPn (D:List Tmp)(vs:Tmp->Value):∀a:Act,(zAC a D vs).tmps.size=a.tmps.size/\(zAC a D vs).defers=a.defers:=by
 induction D with
 | nil=>intro a;exact⟨rfl,rfl⟩
 | cons d r ih=>intro a;obtain⟨h1,h2⟩:=ih (a.put (some d) (vs d));exact⟨h1.trans (by simp[Act.put]),h2⟩
theorem zPo (D:List Tmp)(vs:Tmp->Value):∀(a:Act) (t:Tmp),t<a.tmps.size->(zAC a D vs).eval (.tmp t)=if t∈D then vs t else a.eval (.tmp t):=by
 induction D with
 | nil=>intro a t _;rw[if_neg (List.not_mem_nil)];rfl
 | cons d r ih=>
  intro a t ht;have h1:=ih (a.put (some d) (vs d)) t (by simpa [Act.put] using ht);grind[zAC,zCz,zBr]
theorem zHm {a a0:Act}{D:List Tmp}(h1:a.tmps.size=a0.tmps.size)(h2:a.defers=a0.defers)(h3:∀t,t ∉ D->a.eval (.tmp t)=a0.eval (.tmp t)):a=zAC a0 D (fun t=>a.eval (.tmp t)):=by
 obtain⟨s1,s2⟩:=zPn D (fun t=>a.eval (.tmp t)) a0;have he:∀t,t<a0.tmps.size->a.eval (.tmp t)=(zAC a0 D (fun t=>a.eval (.tmp t))).eval (.tmp t):=fun t ht=>by
  grind[zPo]
 generalize zAC a0 D (fun t=>a.eval (.tmp t))=a' at s1 s2 he;obtain⟨t1,d1⟩:=a;obtain⟨t2,d2⟩:=a';simp only at h1 h2 s1 s2;have:t1=t2:=by
  refine Array.ext (by omega) fun i hi1 hi2=>?_;have:=he i (by omega);simpa [Act.eval,Array.getD_eq_getD_getElem?,hi1,hi2] using this
 grind
theorem zKG (h:zXq ops n=true):ops.size=n+1/\(∀(i:Nat) (o:Oper),ops[i]? = some o->o.guard=none)/\(∀(i:Nat) (o:Oper) (e:Edge),ops[i]? = some o->e∈o.after->Region.binds .any e=true->e.on<i) /\
  (∀j,j<n->zCc ops n j=true)/\∀(i j:Nat) (oi oj:Oper) (d:Tmp),i<n->j<n->ops[i]? = some oi->ops[j]? = some oj->oi.dst=some d->oj.dst=some d->i=j:=by
 unfold zXq at h;simp only[Bool.and_eq_true,beq_iff_eq,List.all_eq_true,List.mem_range,Bool.or_eq_true,Bool.not_eq_true']at h;obtain⟨⟨⟨h1,h2⟩,h3⟩,h4⟩:=h;refine⟨h1,fun i o ho=>?_,fun i o e ho he hb=>?_,fun j hj=>(h4 j hj).1,fun i j oi oj d hi hj hoi hoj hdi hdj=>?_⟩
 ·have:=h2 o (Array.mem_toList_iff.2 (Array.mem_of_getElem? ho));simp_all
 ·grind
 grind
theorem zOP {a0 : Act} {w0 : World} {F : Nat -> Value -> World -> Prop} (hB : zXq ops n = true) (hD : ∀ d ∈ zCu ops n, d < a0.tmps.size)
  (hmono : ∀ i v w w', F i v w -> Ext w w' -> F i v w')
  (hstep : ∀ (i : Nat) (o : Oper) (a : Act) (w : World), i < n -> ops[i]? = some o -> Ext w0 w -> (∀ t, t ∉ zCu ops n -> a.eval (.tmp t) = a0.eval (.tmp t)) ->
   (∀ (j : Nat) (oj : Oper) (d : Tmp), zCc ops i j = true -> ops[j]? = some oj -> oj.dst = some d -> F j (a.eval (.tmp d)) w) -> o.wp P a w (fun a' w' => ∃ v, a' = a.put o.dst v /\ F i v w' /\ Ext w w') Q)
  (hlast : ∀ (o : Oper) (vs : Tmp -> Value) (w : World), ops[n]? = some o -> Ext w0 w -> (∀ (j : Nat) (oj : Oper) (d : Tmp), j < n -> ops[j]? = some oj -> oj.dst = some d -> F j (vs d) w) -> o.wp P (zAC a0 (zCu ops n) vs) w (Q .normal) Q) :
  ∀ (fuel : Nat) (listed : Array Bool) (a : Act) (w : World), RgI ops n a0 w0 F listed a w -> listed.getD n true = false -> (listed.toList.filter (! ·)).length <= fuel -> wpAny P .any ops Q fuel listed a w := by
 obtain ⟨h1, h2, h3, h4, h5⟩ := zKG hB;have cnt : ∀ (listed : Array Bool) (i : Nat), listed.getD i true = false -> ((listed.setIfInBounds i true).toList.filter (! ·)).length + 1 = (listed.toList.filter (! ·)).length := fun listed i hi => by
  rw [Array.toList_setIfInBounds];refine zLY _ i ?_;rw [Array.getElem?_toList];rw [Array.getD_eq_getD_getElem?] at hi;grind
 intro fuel
 induction fuel with
 | zero =>
  grind
 | succ fuel ih =>
  intro listed a w hI hn hc;refine ⟨fun hr => ?_, fun i hi => ?_⟩
  ·exfalso;have hall : ∀ k i, i < k -> i <= n -> listed.getD i true = true := by
    intro k
    induction k with
    | zero => intro i hi; omega
    | succ k ihk =>
     intro i hi hin;by_cases e : i < k
     ·grind
     cases hl : listed.getD i true with
     | true => rfl
     | false =>
      exfalso;have ho : ∃ o, ops[i]? = some o := ⟨_, Array.getElem?_eq_getElem (by omega)⟩;obtain ⟨o, ho⟩ := ho;have hm : i ∈ Region.ready .any ops listed := mem_ready.2 ⟨hl, o, ho, fun e he hb => by
       have h6 := h3 i o e ho he hb;have h7 := ihk e.on (by omega) (by omega);have h8 : e.on < listed.size := by rw [hI.size]; omega
       simp only [Array.getD_eq_getD_getElem?, Array.getElem?_eq_getElem h8, Option.getD_some] at h7 ⊢;exact h7⟩
      rw [hr] at hm; cases hm
   have := hall (n + 1) n (by omega) (Nat.le_refl _);rw [hn] at this; cases this
  ·obtain ⟨hu, o, ho, hp⟩ := mem_ready.1 hi;have hpr : ∀ (j : Nat), zCc ops i j = true -> listed.getD j false = true := fun j hj => by
    unfold zCc at hj;rw [ho] at hj;simp only [Option.map_some, Option.getD_some, List.any_eq_true, Bool.and_eq_true, beq_iff_eq] at hj;obtain ⟨e, he, hb, rfl⟩ := hj;exact hp e (Array.mem_toList_iff.1 he) hb
   have hil : i < n + 1 := by rw [<- h1]; exact (Array.getElem?_eq_some_iff.1 ho).1
   refine wpOp_step ho fun K' hK => ?_;have hg := h2 i o ho;rw [if_pos (by unfold Region.wanted; rw [hg])];by_cases hin : i < n
   ·refine Oper.wp_mono ?_ (hstep i o a w hin ho hI.ext hI.kept fun j oj d hj hoj hd => ?_)
    ·rintro a' w' ⟨v, rfl, hF, hE⟩;refine hK _ _ (ih _ _ _ ?_ ?_ ?_)
     ·refine ⟨by rw [Array.size_setIfInBounds]; exact hI.size, ?_, ?_, ?_, ?_, hI.ext.trans hE⟩
      ·cases hd : o.dst with
       | none => exact hI.tsz
       | some d => simp only [Act.put, Array.size_setIfInBounds]; exact hI.tsz
      ·cases hd : o.dst with
       | none => exact hI.defers
       | some d => exact hI.defers
      ·intro t ht
       cases hd : o.dst with
       | none => exact hI.kept t ht
       | some d =>
        have hne : d ≠ t := fun e => ht (by
         unfold zCu;refine List.mem_filterMap.2 ⟨o, ?_, by rw [hd, e]⟩;refine List.mem_iff_getElem?.2 ⟨i, ?_⟩;rw [List.getElem?_take, if_pos hin, Array.getElem?_toList]; exact ho)
        rw [zBr hne]; exact hI.kept t ht
      ·intro j oj d hj hoj hd hlj;by_cases e : i = j
       ·subst e;obtain rfl := oI (ho.symm.trans hoj);have hdl : d < a.tmps.size := by
         rw [hI.tsz];refine hD d ?_;unfold zCu;refine List.mem_filterMap.2 ⟨o, ?_, hd⟩;refine List.mem_iff_getElem?.2 ⟨i, ?_⟩;rw [List.getElem?_take, if_pos hin, Array.getElem?_toList]; exact ho
        rw [hd, zCz hdl]; exact hF
       ·rw [getD_set_ne false e] at hlj;have hf := hmono _ _ _ _ (hI.fact j oj d hj hoj hd hlj) hE
        cases hdo : o.dst with
        | none => exact hf
        | some d' =>
         have hne : d' ≠ d := fun x => e (h5 i j o oj d hin hj ho hoj (by rw [hdo, x]) hd);rw [zBr hne]; exact hf
     ·rw [getD_set_ne true (by omega)]; exact hn
     ·have := cnt listed i hu; omega
    ·have hjl : j < i := by
      unfold zCc at hj;rw [ho] at hj;simp only [Option.map_some, Option.getD_some, List.any_eq_true, Bool.and_eq_true, beq_iff_eq] at hj;obtain ⟨e, he, hb, rfl⟩ := hj;exact h3 i o e ho (Array.mem_toList_iff.1 he) hb
     exact hI.fact j oj d (by omega) hoj hd (hpr j hj)
   ·obtain rfl : i = n := by omega
    have hall : ∀ j, j < i -> listed.getD j false = true := fun j hj => hpr j (h4 j hj);rw [zHm hI.tsz hI.defers hI.kept];refine Oper.wp_mono ?_ (hlast o (fun t => a.eval (.tmp t)) w ho hI.ext fun j oj d hj hoj hd => hI.fact j oj d hj hoj hd (hall j hj));intro a' w' hq;refine hK _ _ (wpAny_done ?_ hq fuel)
    cases hr : Region.ready .any ops (listed.setIfInBounds i true) with
    | nil => rfl
    | cons k r =>
     exfalso;have hk : k ∈ Region.ready .any ops (listed.setIfInBounds i true) := by rw [hr]; simp
     obtain ⟨hu2, o2, ho2, _⟩ := mem_ready.1 hk;have hkl : k < i + 1 := by rw [<- h1]; exact (Array.getElem?_eq_some_iff.1 ho2).1
     by_cases e : i = k
     ·subst e;have : i < listed.size := by rw [hI.size]; omega
      simp [Array.getD_eq_getD_getElem?, this] at hu2
     ·rw [getD_set_ne true e] at hu2;have h7 := hall k (by omega);have h8 : k < listed.size := by rw [hI.size]; omega
      simp only [Array.getD_eq_getD_getElem?, Array.getElem?_eq_getElem h8, Option.getD_some] at h7 hu2;rw [h7] at hu2; cases hu2
theorem zF1 (w:World):Ext w {w with drawn:=w.drawn+1}:=eD w
theorem zCU {id : Nat} {a0 : Act} {w0 : World} (F : Nat -> Value -> World -> Prop) (n : Nat) (hm : P.follows .mixedOrders = true) (hB : zXq ops n = true) (hD : (zCu ops n).all (fun d => decide (d < a0.tmps.size)) = true)
  (hmono : ∀ i v w w', F i v w -> Ext w w' -> F i v w')
  (hstep : ∀ (i : Nat) (o : Oper) (a : Act) (w : World), i < n -> ops[i]? = some o -> Ext w0 w -> (∀ t, t ∉ zCu ops n -> a.eval (.tmp t) = a0.eval (.tmp t)) ->
   (∀ (j : Nat) (oj : Oper) (d : Tmp), zCc ops i j = true -> ops[j]? = some oj -> oj.dst = some d -> F j (a.eval (.tmp d)) w) -> o.wp P a w (fun a' w' => ∃ v, a' = a.put o.dst v /\ F i v w' /\ Ext w w') Q)
  (hlast : ∀ (o : Oper) (vs : Tmp -> Value) (w : World), ops[n]? = some o -> Ext w0 w -> (∀ (j : Nat) (oj : Oper) (d : Tmp), j < n -> ops[j]? = some oj -> oj.dst = some d -> F j (vs d) w) -> o.wp P (zAC a0 (zCu ops n) vs) w (Q .normal) Q) :
  (Code.region id ops true).wp P Q a0 w0 := by
 have h1 := (zKG hB).1;refine wp_region_any hm ?_;have hrep : ∀ i, (Array.replicate ops.size false).getD i false = false := fun i => by
  by_cases e : i < ops.size
  ·simp_all
  grind
 refine zOP (n := n) (a0 := a0) (w0 := { w0 with drawn := w0.drawn + 1 }) (F := F) hB (fun d hd => of_decide_eq_true (List.all_eq_true.1 hD d hd)) hmono
  (fun i o a w hi ho he hk hp => hstep i o a w hi ho ((zF1 w0).trans he) hk hp) (fun o vs w ho he hf => hlast o vs w ho ((zF1 w0).trans he) hf) ops.size _ _ _ ?_ ?_ ?_
 ·exact ⟨by simp [h1], rfl, rfl, fun _ _ => rfl, fun i o d _ _ _ hl => (by rw [hrep] at hl; cases hl), bR _ _⟩
 ·grind
 grind
/-! .. whose last operations stand in one order: each waits for the one before it. -/
def zEu (P:Program)(Q:Exit->Act->World->Prop):List Oper->Act->World->Prop
 | [],a,w=>Q .normal a w
 | o :: r,a,w=>o.wp P a w (zEu P Q r) Q
theorem zEt {P:Program}{Q:Exit->Act->World->Prop}{l r:List Oper}{o:Oper}{a:Act}{w:World}(h:l=o :: r)(h2:o.wp P a w (zEu P Q r) Q):zEu P Q l a w:=by subst h;exact h2
def zQa (ops:Array Oper)(n m:Nat):Bool:=
 decide (n<=m)&&ops.size==m+1&&ops.toList.all (fun o=>o.guard.isNone)&&(List.range (m+1)).all (fun i=>((ops[i]?).map fun o=>o.after.toList.all fun e=>!Region.binds .any e||decide (e.on<i)).getD false) &&
 (List.range (m-n)).all (fun k=>zCc ops (n+k+1) (n+k))&&(List.range n).all (fun j=>((List.range (n+1)).any fun s=>decide (j<s)&&zCc ops s j)&&(List.range n).all fun i=>i==j||((ops[i]?).bind (·.dst)).isNone||!((ops[i]?).bind (·.dst)==(ops[j]?).bind (·.dst)))
theorem zE2 {m:Nat}(h:zQa ops n m=true):n<=m/\ops.size=m+1/\(∀(i:Nat) (o:Oper),ops[i]? = some o->o.guard=none)/\(∀(i:Nat) (o:Oper) (e:Edge),ops[i]? = some o->e∈o.after->Region.binds .any e=true->e.on<i) /\
  (∀k,n<k->k<=m->zCc ops k (k-1)=true)/\(∀j,j<n->∃s,j<s/\s<=n/\zCc ops s j=true)/\∀(i j:Nat) (oi oj:Oper) (d:Tmp),i<n->j<n->ops[i]? = some oi->ops[j]? = some oj->oi.dst=some d->oj.dst=some d->i=j:=by
 unfold zQa at h;simp only[Bool.and_eq_true,beq_iff_eq,List.all_eq_true,List.any_eq_true,List.mem_range,Bool.or_eq_true,Bool.not_eq_true',decide_eq_true_eq]at h;obtain⟨⟨⟨⟨⟨h0,h1⟩,h2⟩,h3⟩,h6⟩,h4⟩:=h;refine⟨h0,h1,fun i o ho=>?_,fun i o e ho he hb=>?_,fun k hk hkm=>?_,fun j hj=>?_,fun i j oi oj d hi hj hoi hoj hdi hdj=>?_⟩
 ·have:=h2 o (Array.mem_toList_iff.2 (Array.mem_of_getElem? ho));simp_all
 ·grind
 ·have:=h6 (k-n-1) (by omega);grind
 ·grind
 grind
structure RgK (ops:Array Oper) (n m:Nat) (a0:Act) (w0:World) (F:Nat->Value->World->Prop) (listed:Array Bool) (a:Act) (w:World):Prop where
 size:listed.size=m+1
 tsz:a.tmps.size=a0.tmps.size
 defers:a.defers=a0.defers
 kept:∀t,t ∉ zCu ops n->a.eval (.tmp t)=a0.eval (.tmp t)
 fact:∀i o d,i<n->ops[i]? = some o->o.dst=some d->listed.getD i false=true->F i (a.eval (.tmp d)) w
 ext:Ext w0 w
 down:∀i j,i<=n->listed.getD i false=true->zCc ops i j=true->listed.getD j false=true
 rest:∀i,n<=i->i<=m->listed.getD i true=false
theorem zF5 {i:Nat}{o:Oper}(ho:ops[i]? = some o){listed:Array Bool}(hp:∀e∈o.after,Region.binds .any e=true->listed.getD e.on false=true)(j:Nat)(hj:zCc ops i j=true):listed.getD j false=true:=by grind[zCc]
theorem zCA (listed:Array Bool)(i:Nat)(hi:listed.getD i true=false):((listed.setIfInBounds i true).toList.filter (! ·)).length+1=(listed.toList.filter (! ·)).length:=by
 rw[Array.toList_setIfInBounds];refine zLY _ i ?_;rw[Array.getElem?_toList];rw[Array.getD_eq_getD_getElem?]at hi;grind
theorem zNR {m:Nat}(hB:zQa ops n m=true):∀(r k fuel:Nat) (listed:Array Bool) (a:Act) (w:World),r=m+1-k->n<=k->k<=m+1->listed.size=m+1->(∀j,j<k->listed.getD j false=true)->(∀j,k<=j->j<=m->listed.getD j true=false) ->
  (listed.toList.filter (! ·)).length<=fuel->zEu P Q (ops.toList.drop k) a w->wpAny P .any ops Q fuel listed a w:=by
 obtain⟨h0,h1,h2,h3,h6,h4,h5⟩:=zE2 hB;intro r
 induction r with
 | zero=>
  intro k fuel listed a w hr hnk hkm hsz hdone hopen hc ht;obtain rfl:k=m+1:=by omega
  rw[List.drop_of_length_le (by rw[Array.length_toList];omega)]at ht;refine wpAny_done ?_ ht fuel
  cases hrd:Region.ready .any ops listed with
  | nil=>rfl
  | cons z q=>
   exfalso;have hz:z∈Region.ready .any ops listed:=by rw[hrd];simp
   obtain⟨hu,o,ho,_⟩:=mem_ready.1 hz;grind
 | succ r ih=>
  intro k fuel listed a w hr hnk hkm hsz hdone hopen hc ht;have hk:k<=m:=by omega
  have hkf:=hopen k (Nat.le_refl _) hk;have hcnt:=zCA listed k hkf
  cases fuel with
  | zero=>omega
  | succ fuel=>
   have hko:k<ops.size:=by omega
   have ho:ops[k]? = some ops[k]:=Array.getElem?_eq_getElem hko;rw[List.drop_eq_getElem_cons (by rw[Array.length_toList];exact hko)]at ht;have ht:(ops[k]).wp P a w (zEu P Q (ops.toList.drop (k+1))) Q:=by simpa [zEu] using ht
   refine⟨fun hrd=>?_,fun i hi=>?_⟩
   ·exfalso;have hm:k∈Region.ready .any ops listed:=mem_ready.2 ⟨hkf,_,ho,fun e he hb=>hdone _ (h3 k _ e ho he hb)⟩;grind
   ·obtain⟨hu,o,hoi,hp⟩:=mem_ready.1 hi;have hil:i<m+1:=by rw[<- h1];exact(Array.getElem?_eq_some_iff.1 hoi).1
    have hik:i=k:=by
     by_cases e:i<k
     ·have:=hdone i e;rw[zBC (by omega) false true,hu]at this;cases this
     ·refine Decidable.not_not.1 fun e2=>?_;have h7:=zF5 hoi hp (i-1) (h6 i (by omega) (by omega));have h8:=hopen (i-1) (by omega) (by omega);rw[zBC (by omega) false true,h8]at h7;cases h7
    subst hik;obtain rfl:=oI (ho.symm.trans hoi);refine wpOp_step ho fun K' hK=>?_;rw[if_pos (by unfold Region.wanted;rw[h2 i _ ho])];refine Oper.wp_mono (fun a' w' hq=>hK _ _ (ih (i+1) fuel _ a' w' (by omega) (by omega) (by omega) (by rw[Array.size_setIfInBounds];exact hsz) (fun j hj=>?_) (fun j hj hjm=>?_) (by omega) hq)) ht
    ·by_cases e:i=j
     ·subst e;have:i<listed.size:=by omega
      simp[Array.getD_eq_getD_getElem?,this]
     ·exact getD_set_true (hdone j (by omega))
    ·rw[getD_set_ne true (by omega)];exact hopen j (by omega) hjm
theorem zNS {m : Nat} {a0 : Act} {w0 : World} {F : Nat -> Value -> World -> Prop} (hB : zQa ops n m = true) (hD : ∀ d ∈ zCu ops n, d < a0.tmps.size)
  (hmono : ∀ i v w w', F i v w -> Ext w w' -> F i v w')
  (hstep : ∀ (i : Nat) (o : Oper) (a : Act) (w : World), i < n -> ops[i]? = some o -> Ext w0 w -> (∀ t, t ∉ zCu ops n -> a.eval (.tmp t) = a0.eval (.tmp t)) ->
   (∀ (j : Nat) (oj : Oper) (d : Tmp), zCc ops i j = true -> ops[j]? = some oj -> oj.dst = some d -> F j (a.eval (.tmp d)) w) -> o.wp P a w (fun a' w' => ∃ v, a' = a.put o.dst v /\ F i v w' /\ Ext w w') Q)
  (hlast : ∀ (vs : Tmp -> Value) (w : World), Ext w0 w -> (∀ (j : Nat) (oj : Oper) (d : Tmp), j < n -> ops[j]? = some oj -> oj.dst = some d -> F j (vs d) w) -> zEu P Q (ops.toList.drop n) (zAC a0 (zCu ops n) vs) w) :
  ∀ (fuel : Nat) (listed : Array Bool) (a : Act) (w : World), RgK ops n m a0 w0 F listed a w -> (listed.toList.filter (! ·)).length <= fuel -> wpAny P .any ops Q fuel listed a w := by
 obtain ⟨h0, h1, h2, h3, h6, h4, h5⟩ := zE2 hB;intro fuel
 induction fuel with
 | zero =>
  intro listed a w hI hc;have := zCA listed n (hI.rest n (Nat.le_refl _) h0);omega
 | succ fuel ih =>
  intro listed a w hI hc;have hsz := hI.size;have hopn := hI.rest n (Nat.le_refl _) h0;by_cases hdone : ∀ j, j < n -> listed.getD j false = true
  ·rw [zHm hI.tsz hI.defers hI.kept];exact zNR hB (m + 1 - n) n (fuel + 1) listed _ w rfl (Nat.le_refl _) (by omega) hsz hdone hI.rest hc (hlast (fun t => a.eval (.tmp t)) w hI.ext fun j oj d hj hoj hd => hI.fact j oj d hj hoj hd (hdone j hj))
  refine ⟨fun hr => ?_, fun i hi => ?_⟩
  ·exfalso;have hall : ∀ k i, i < k -> i <= n -> listed.getD i true = true := by
    intro k
    induction k with
    | zero => intro i hi; omega
    | succ k ihk =>
     intro i hi hin;by_cases e : i < k
     ·exact ihk i e hin
     cases hl : listed.getD i true with
     | true => rfl
     | false =>
      exfalso;obtain ⟨o, ho⟩ : ∃ o, ops[i]? = some o := ⟨_, Array.getElem?_eq_getElem (by omega)⟩;have hm : i ∈ Region.ready .any ops listed := mem_ready.2 ⟨hl, o, ho, fun e he hb => by
       have h6 := h3 i o e ho he hb;have h7 := ihk e.on (by omega) (by omega);rw [zBC (by omega) false true]; exact h7⟩
      rw [hr] at hm; cases hm
   have := hall (n + 1) n (by omega) (Nat.le_refl _);rw [hopn] at this; cases this
  ·obtain ⟨hu, o, ho, hp⟩ := mem_ready.1 hi;have hpr := zF5 ho hp;have hil : i < m + 1 := by rw [<- h1]; exact (Array.getElem?_eq_some_iff.1 ho).1
   have hin : i < n := by
    refine Nat.lt_of_not_le fun e => ?_;apply hdone;by_cases e2 : i = n
    ·subst e2;have hcl : ∀ k j, i - j <= k -> j < i -> listed.getD j false = true := by
      intro k
      induction k with
      | zero => intro j hk hj; omega
      | succ k ihk =>
       intro j hk hj;obtain ⟨s, hs1, hs2, hs3⟩ := h4 j hj;by_cases e3 : s = i
       ·subst e3; exact hpr j hs3
       ·exact hI.down s j hs2 (ihk s (by omega) (by omega)) hs3
     exact fun j hj => hcl i j (by omega) hj
    ·have h7 := hpr (i - 1) (h6 i (by omega) (by omega));have h8 := hI.rest (i - 1) (by omega) (by omega);rw [zBC (by omega) false true, h8] at h7; cases h7
   refine wpOp_step ho fun K' hK => ?_;have hg := h2 i o ho;rw [if_pos (by unfold Region.wanted; rw [hg])];refine Oper.wp_mono ?_ (hstep i o a w hin ho hI.ext hI.kept fun j oj d hj hoj hd => ?_)
   ·rintro a' w' ⟨v, rfl, hF, hE⟩;refine hK _ _ (ih _ _ _ ?_ ?_)
    ·refine ⟨by rw [Array.size_setIfInBounds]; exact hI.size, ?_, ?_, ?_, ?_, hI.ext.trans hE, ?_, ?_⟩
     ·cases hd : o.dst with
      | none => exact hI.tsz
      | some d => simp only [Act.put, Array.size_setIfInBounds]; exact hI.tsz
     ·cases hd : o.dst with
      | none => exact hI.defers
      | some d => exact hI.defers
     ·intro t ht
      cases hd : o.dst with
      | none => exact hI.kept t ht
      | some d =>
       have hne : d ≠ t := fun e => ht (by
        unfold zCu;refine List.mem_filterMap.2 ⟨o, ?_, by rw [hd, e]⟩;refine List.mem_iff_getElem?.2 ⟨i, ?_⟩;rw [List.getElem?_take, if_pos hin, Array.getElem?_toList]; exact ho)
       rw [zBr hne]; exact hI.kept t ht
     ·intro j oj d hj hoj hd hlj;by_cases e : i = j
      ·subst e;obtain rfl := oI (ho.symm.trans hoj);have hdl : d < a.tmps.size := by
        rw [hI.tsz];refine hD d ?_;unfold zCu;refine List.mem_filterMap.2 ⟨o, ?_, hd⟩;refine List.mem_iff_getElem?.2 ⟨i, ?_⟩;rw [List.getElem?_take, if_pos hin, Array.getElem?_toList]; exact ho
       rw [hd, zCz hdl]; exact hF
      ·rw [getD_set_ne false e] at hlj;have hf := hmono _ _ _ _ (hI.fact j oj d hj hoj hd hlj) hE
       cases hdo : o.dst with
       | none => exact hf
       | some d' =>
        have hne : d' ≠ d := fun x => e (h5 i j o oj d hin hj ho hoj (by rw [hdo, x]) hd);rw [zBr hne]; exact hf
     ·intro k j hk hlk hkj;by_cases e : i = k
      ·subst e; exact getD_set_true (hpr j hkj)
      ·rw [getD_set_ne false e] at hlk;exact getD_set_true (hI.down k j hk hlk hkj)
     ·intro k hk hkm;rw [getD_set_ne true (by omega)]; exact hI.rest k hk hkm
    ·have := zCA listed i hu; omega
   ·have hjl : j < i := by
     unfold zCc at hj;rw [ho] at hj;simp only [Option.map_some, Option.getD_some, List.any_eq_true, Bool.and_eq_true, beq_iff_eq] at hj;obtain ⟨e, he, hb, rfl⟩ := hj;exact h3 i o e ho (Array.mem_toList_iff.1 he) hb
    exact hI.fact j oj d (by omega) hoj hd (hpr j hj)
theorem zDv {id : Nat} {a0 : Act} {w0 : World} (F : Nat -> Value -> World -> Prop) (n m : Nat) (hm : P.follows .mixedOrders = true) (hB : zQa ops n m = true) (hD : (zCu ops n).all (fun d => decide (d < a0.tmps.size)) = true)
  (hmono : ∀ i v w w', F i v w -> Ext w w' -> F i v w')
  (hstep : ∀ (i : Nat) (o : Oper) (a : Act) (w : World), i < n -> ops[i]? = some o -> Ext w0 w -> (∀ t, t ∉ zCu ops n -> a.eval (.tmp t) = a0.eval (.tmp t)) ->
   (∀ (j : Nat) (oj : Oper) (d : Tmp), zCc ops i j = true -> ops[j]? = some oj -> oj.dst = some d -> F j (a.eval (.tmp d)) w) -> o.wp P a w (fun a' w' => ∃ v, a' = a.put o.dst v /\ F i v w' /\ Ext w w') Q)
  (hlast : ∀ (vs : Tmp -> Value) (w : World), Ext w0 w -> (∀ (j : Nat) (oj : Oper) (d : Tmp), j < n -> ops[j]? = some oj -> oj.dst = some d -> F j (vs d) w) -> zEu P Q (ops.toList.drop n) (zAC a0 (zCu ops n) vs) w) :
  (Code.region id ops true).wp P Q a0 w0 := by
 have h0 := (zE2 hB).1;have h1 := (zE2 hB).2.1;refine wp_region_any hm ?_;have hrep : ∀ i, (Array.replicate ops.size false).getD i false = false := fun i => by
  by_cases e : i < ops.size
  ·simp_all
  grind
 refine zNS (n := n) (m := m) (a0 := a0) (w0 := { w0 with drawn := w0.drawn + 1 }) (F := F) hB (fun d hd => of_decide_eq_true (List.all_eq_true.1 hD d hd)) hmono
  (fun i o a w hi ho he hk hp => hstep i o a w hi ho ((zF1 w0).trans he) hk hp) (fun vs w he hf => hlast vs w ((zF1 w0).trans he) hf) ops.size _ _ _ ?_ ?_
 ·refine ⟨by simp [h1], rfl, rfl, fun _ _ => rfl, fun i o d _ _ _ hl => ?_, bR _ _, fun i j _ hl _ => ?_, fun i _ hi => ?_⟩
  ·grind
  ·grind
  grind
 grind
end
section
variable {P:Program} {Q:Exit->Act->World->Prop} {ops:Array Oper}
def zVQ (ops:Array Oper):Bool:=
 ops.toList.all (fun o=>o.guard.isNone)&&(List.range ops.size).all (fun i=>((ops[i]?).map fun o=>o.after.toList.all fun e=>!Region.binds .any e||decide (e.on<i)).getD false) &&
 (List.range ops.size).all (fun j=>(List.range ops.size).all fun i=>i==j||((ops[i]?).bind (·.dst)).isNone||!((ops[i]?).bind (·.dst)==(ops[j]?).bind (·.dst)))
theorem zK1 (h:zVQ ops=true):(∀(i:Nat) (o:Oper),ops[i]? = some o->o.guard=none)/\(∀(i:Nat) (o:Oper) (e:Edge),ops[i]? = some o->e∈o.after->Region.binds .any e=true->e.on<i) /\
  ∀(i j:Nat) (oi oj:Oper) (d:Tmp),ops[i]? = some oi->ops[j]? = some oj->oi.dst=some d->oj.dst=some d->i=j:=by
 unfold zVQ at h;simp only[Bool.and_eq_true,beq_iff_eq,List.all_eq_true,List.mem_range,Bool.or_eq_true,Bool.not_eq_true']at h;obtain⟨⟨h2,h3⟩,h4⟩:=h;refine⟨fun i o ho=>?_,fun i o e ho he hb=>?_,fun i j oi oj d hoi hoj hdi hdj=>?_⟩
 ·have:=h2 o (Array.mem_toList_iff.2 (Array.mem_of_getElem? ho));simp_all
 ·grind
 grind
structure RbK (ops:Array Oper) (s:Nat) (a0:Act) (w0:World) (R:World->World->Prop) (G:Bool->World->Prop) (F:Nat->Value->World->Prop) (listed:Array Bool) (a:Act) (w:World):Prop where
 size:listed.size=ops.size
 tsz:a.tmps.size=a0.tmps.size
 defers:a.defers=a0.defers
 kept:∀t,t ∉ zCu ops ops.size->a.eval (.tmp t)=a0.eval (.tmp t)
 fact:∀(j:Nat) (oj:Oper) (d:Tmp),ops[j]? = some oj->oj.dst=some d->listed.getD j false=true->F j (a.eval (.tmp d)) w
 rel:R w0 w
 box:G (listed.getD s false) w
 down:∀k j,listed.getD k false=true->zCc ops k j=true->listed.getD j false=true
theorem zOQ {s : Nat} {a0 : Act} {w0 : World} {R : World -> World -> Prop} {G : Bool -> World -> Prop} {F : Nat -> Value -> World -> Prop} (hB : zVQ ops = true) (hD : ∀ d ∈ zCu ops ops.size, d < a0.tmps.size)
  (htr : ∀ w w' w'', R w w' -> R w' w'' -> R w w'') (hmono : ∀ i v w w', F i v w -> R w w' -> F i v w')
  (hstep : ∀ (i : Nat) (o : Oper) (a : Act) (w : World) (z : Bool), ops[i]? = some o -> R w0 w -> G z w -> (z = true -> s ≠ i /\ zCc ops s i = false) -> (∀ t, t ∉ zCu ops ops.size -> a.eval (.tmp t) = a0.eval (.tmp t)) ->
   (∀ (j : Nat) (oj : Oper) (d : Tmp), zCc ops i j = true -> ops[j]? = some oj -> oj.dst = some d -> F j (a.eval (.tmp d)) w) -> o.wp P a w (fun a' w' => ∃ v, a' = a.put o.dst v /\ F i v w' /\ R w w' /\ G (z || decide (s = i)) w') Q)
  (hlast : ∀ (vs : Tmp -> Value) (w : World), R w0 w -> G true w -> (∀ (j : Nat) (oj : Oper) (d : Tmp), ops[j]? = some oj -> oj.dst = some d -> F j (vs d) w) -> Q .normal (zAC a0 (zCu ops ops.size) vs) w) (hs : s < ops.size) :
  ∀ (fuel : Nat) (listed : Array Bool) (a : Act) (w : World), RbK ops s a0 w0 R G F listed a w -> (listed.toList.filter (! ·)).length <= fuel -> wpAny P .any ops Q fuel listed a w := by
 obtain ⟨h2, h3, h5⟩ := zK1 hB;have hend : ∀ (listed : Array Bool) (a : Act) (w : World), RbK ops s a0 w0 R G F listed a w -> (∀ i, i < ops.size -> listed.getD i false = true) -> Q .normal a w := by
  intro listed a w hI hall;rw [zHm hI.tsz hI.defers hI.kept];have hb := hI.box;rw [hall s hs] at hb;exact hlast (fun t => a.eval (.tmp t)) w hI.rel hb fun j oj d hoj hd => hI.fact j oj d hoj hd (hall j (Array.getElem?_eq_some_iff.1 hoj).1)
 have hnone : ∀ (listed : Array Bool), listed.size = ops.size -> Region.ready .any ops listed = [] -> ∀ i, i < ops.size -> listed.getD i false = true := by
  intro listed hsz hr;have hall : ∀ k i, i < k -> i < ops.size -> listed.getD i false = true := by
   intro k
   induction k with
   | zero => intro i hi; omega
   | succ k ihk =>
    intro i hi hin;by_cases e : i < k
    ·exact ihk i e hin
    cases hl : listed.getD i false with
    | true => rfl
    | false =>
     exfalso;obtain ⟨o, ho⟩ : ∃ o, ops[i]? = some o := ⟨_, Array.getElem?_eq_getElem hin⟩;have hm : i ∈ Region.ready .any ops listed := mem_ready.2 ⟨by rw [zBC (by omega) true false]; exact hl, o, ho, fun e he hb => by
      have h6 := h3 i o e ho he hb;exact ihk e.on (by omega) (by omega)⟩
     rw [hr] at hm; cases hm
  exact fun i hi => hall (i + 1) i (by omega) hi
 intro fuel
 induction fuel with
 | zero =>
  intro listed a w hI hc;have hall : ∀ i, i < ops.size -> listed.getD i false = true := by
   intro i hi
   cases hl : listed.getD i false with
   | true => rfl
   | false =>
    exfalso;have := zCA listed i (by rw [zBC (by rw [hI.size]; exact hi) true false]; exact hl);omega
  refine ⟨?_, hend listed a w hI hall⟩
  cases hrd : Region.ready .any ops listed with
  | nil => rfl
  | cons z q =>
   exfalso;have hz : z ∈ Region.ready .any ops listed := by rw [hrd]; simp
   obtain ⟨hu, o, ho, _⟩ := mem_ready.1 hz;have hzl : z < ops.size := (Array.getElem?_eq_some_iff.1 ho).1;have := hall z hzl;rw [zBC (by rw [hI.size]; exact hzl) false true, hu] at this; cases this
 | succ fuel ih =>
  intro listed a w hI hc;refine ⟨fun hr => hend listed a w hI (hnone listed hI.size hr), fun i hi => ?_⟩;obtain ⟨hu, o, ho, hp⟩ := mem_ready.1 hi;have hpr := zF5 ho hp;have hin : i < ops.size := (Array.getElem?_eq_some_iff.1 ho).1;have hil : listed.getD i false = false := by rw [zBC (by rw [hI.size]; exact hin) false true]; exact hu
  refine wpOp_step ho fun K' hK => ?_;have hg := h2 i o ho;rw [if_pos (by unfold Region.wanted; rw [hg])];refine Oper.wp_mono ?_ (hstep i o a w (listed.getD s false) ho hI.rel hI.box ?_ hI.kept fun j oj d hj hoj hd => hI.fact j oj d hoj hd (hpr j hj))
  ·rintro a' w' ⟨v, rfl, hF, hE, hG⟩;refine hK _ _ (ih _ _ _ ?_ ?_)
   ·refine ⟨by rw [Array.size_setIfInBounds]; exact hI.size, ?_, ?_, ?_, ?_, htr _ _ _ hI.rel hE, ?_, ?_⟩
    ·cases hd : o.dst with
     | none => exact hI.tsz
     | some d => simp only [Act.put, Array.size_setIfInBounds]; exact hI.tsz
    ·cases hd : o.dst with
     | none => exact hI.defers
     | some d => exact hI.defers
    ·intro t ht
     cases hd : o.dst with
     | none => exact hI.kept t ht
     | some d =>
      have hne : d ≠ t := fun e => ht (by
       unfold zCu;refine List.mem_filterMap.2 ⟨o, ?_, by rw [hd, e]⟩;refine List.mem_iff_getElem?.2 ⟨i, ?_⟩;rw [List.getElem?_take, if_pos hin, Array.getElem?_toList]; exact ho)
      rw [zBr hne]; exact hI.kept t ht
    ·intro j oj d hoj hd hlj;by_cases e : i = j
     ·subst e;obtain rfl := oI (ho.symm.trans hoj);have hdl : d < a.tmps.size := by
       rw [hI.tsz];refine hD d ?_;unfold zCu;refine List.mem_filterMap.2 ⟨o, ?_, hd⟩;refine List.mem_iff_getElem?.2 ⟨i, ?_⟩;rw [List.getElem?_take, if_pos hin, Array.getElem?_toList]; exact ho
      rw [hd, zCz hdl]; exact hF
     ·rw [getD_set_ne false e] at hlj;have hf := hmono _ _ _ _ (hI.fact j oj d hoj hd hlj) hE
      cases hdo : o.dst with
      | none => exact hf
      | some d' =>
       have hne : d' ≠ d := fun x => e (h5 i j o oj d ho hoj (by rw [hdo, x]) hd);rw [zBr hne]; exact hf
    ·by_cases e : s = i
     ·subst e;rw [decide_eq_true rfl, Bool.or_true] at hG;have : (listed.setIfInBounds s true).getD s false = true := by
       have : s < listed.size := by rw [hI.size]; exact hin
       simp [Array.getD_eq_getD_getElem?, this]
      rw [this]; exact hG
     ·rw [getD_set_ne false (fun x => e x.symm)];rw [decide_eq_false e, Bool.or_false] at hG; exact hG
    ·intro k j hlk hkj;by_cases e : i = k
     ·subst e; exact getD_set_true (hpr j hkj)
     ·rw [getD_set_ne false e] at hlk;exact getD_set_true (hI.down k j hlk hkj)
   ·have := zCA listed i hu; omega
  ·intro hz;refine ⟨fun e => ?_, ?_⟩
   ·subst e; rw [hil] at hz; cases hz
   ·cases hx : zCc ops s i with
    | false => rfl
    | true => have := hI.down s i hz hx; rw [hil] at this; cases this
theorem zFB {id : Nat} {a0 : Act} {w0 : World} (R : World -> World -> Prop) (G : Bool -> World -> Prop) (F : Nat -> Value -> World -> Prop) (s : Nat) (hm : P.follows .mixedOrders = true) (hB : zVQ ops = true) (hs : decide (s < ops.size) = true) (hD : (zCu ops ops.size).all (fun d => decide (d < a0.tmps.size)) = true)
  (h0 : R w0 { w0 with drawn := w0.drawn + 1 }) (hG : G false { w0 with drawn := w0.drawn + 1 }) (htr : ∀ w w' w'', R w w' -> R w' w'' -> R w w'') (hmono : ∀ i v w w', F i v w -> R w w' -> F i v w')
  (hstep : ∀ (i : Nat) (o : Oper) (a : Act) (w : World) (z : Bool), ops[i]? = some o -> R w0 w -> G z w -> (z = true -> s ≠ i /\ zCc ops s i = false) -> (∀ t, t ∉ zCu ops ops.size -> a.eval (.tmp t) = a0.eval (.tmp t)) ->
   (∀ (j : Nat) (oj : Oper) (d : Tmp), zCc ops i j = true -> ops[j]? = some oj -> oj.dst = some d -> F j (a.eval (.tmp d)) w) -> o.wp P a w (fun a' w' => ∃ v, a' = a.put o.dst v /\ F i v w' /\ R w w' /\ G (z || decide (s = i)) w') Q)
  (hlast : ∀ (vs : Tmp -> Value) (w : World), R w0 w -> G true w -> (∀ (j : Nat) (oj : Oper) (d : Tmp), ops[j]? = some oj -> oj.dst = some d -> F j (vs d) w) -> Q .normal (zAC a0 (zCu ops ops.size) vs) w) :
  (Code.region id ops true).wp P Q a0 w0 := by
 refine wp_region_any hm ?_;have hrep : ∀ i, (Array.replicate ops.size false).getD i false = false := fun i => by
  by_cases e : i < ops.size
  ·simp_all
  grind
 refine zOQ (s := s) (a0 := a0) (w0 := w0) (R := R) (G := G) (F := F) hB (fun d hd => of_decide_eq_true (List.all_eq_true.1 hD d hd)) htr hmono hstep hlast (of_decide_eq_true hs) ops.size _ _ _ ?_ ?_
 ·refine ⟨by simp, rfl, rfl, fun _ _ => rfl, fun i o d _ _ hl => ?_, h0, by rw [hrep]; exact hG, fun i j hl _ => ?_⟩
  ·grind
  grind
 grind
end
end Go.Proofs.YtbeeoomadnmogaaGreat
