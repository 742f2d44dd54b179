/- ChkB ChkC ChkD ChkF BrnB BrnC SamB RBox DirA AwQ AwU RAny -/
import Derived.Test.YtbeeoomadnmogaaGreatQI3
import Derived.Test.YtbeeoomadnmogaaGreatQBrnA
set_option maxRecDepth 100000
set_option maxHeartbeats 64000000
namespace Go.Proofs.YtbeeoomadnmogaaGreat
open Go.RowKit
theorem zNP (B:Nat) (w:World) (c m1 m2:Nat) (vd:Value) (D:List Opn) (f:Bool) (cl:Int) (x:TrN) (va:Value)
  (hblk:w.heap[c]? = some (.cells #[vd,.bool f,.map (some m1),.map (some m2),.int .i64 cl] 149 (0,0))) (hBc:B<=c) (hBw:B<=w.heap.size) (hD:zAg cdO B w vd D) (h0:D.length=0) (hva:∃ a n m,va= .slice a n m) :
  Calls Tryz.prog 171 #[.pointer (some ⟨c,0,none⟩),trV x va] w (zKZ B w c m1 m2 vd D f cl x):=by
 unfold trV
 obtain⟨a3,n3,cap3,rfl⟩:=hva
 obtain rfl:D= []:=List.length_eq_zero_iff.1 h0
 obtain⟨ad,cap,rfl⟩:=hD.form
 replace hD:zAg cdO B w (.slice ad 0 cap) []:=hD
 replace hblk:w.heap[c]? = some (.cells #[.slice ad 0 cap,.bool f,.map (some m1),.map (some m2),.int .i64 cl] 149 (0,0)):=hblk
 have hcl:=bL hblk
 have k0:w.cell? ⟨c,0,none⟩=some (.slice ad 0 cap):=bC hblk 0
 have k1:w.cell? ⟨c,1,none⟩=some (.bool f):=bC hblk 1
 have fc:∀ j,w.frozen? ⟨c,j,none⟩=false:=fun j=>bT hblk j
 have HBK:=hQq hblk;clear hblk
 have HD:=hQq hD;clear hD
 have HP:Hid (zCU [] f x=if x.dep=0/\x.nm.toList= []/\x.kd=1 then 0 else 6):=hQq (by unfold zCU;rw [if_pos h0])
 clear h0
 by_cases e1:x.dep=0
 case neg=>
  have d1:(x.dep != 0)=true:=bne_iff_ne.2 e1
  have HR:=hQq (HP.out.trans (if_neg (fun h=>e1 h.1)));clear e1 HP
  go_enter Tryz.func171,Tryz.ntmps171
  go_wp2
  go_ret
  exact zBx HR.out (by decide) ((eA _ _).mono hBw)
 by_cases e2:x.nm.toList= []
 case neg=>
  have d2:x.nm.toList.isEmpty=false:=by simpa using e2
  have HR:=hQq (HP.out.trans (if_neg (fun h=>e2 h.2.1)));clear e2 HP
  go_enter Tryz.func171,Tryz.ntmps171
  go_wp2
  go_ret
  exact zBx HR.out (by decide) ((eA _ _).mono hBw)
 have d2:x.nm.toList.isEmpty=true:=by rw [e2];rfl
 by_cases e3:x.kd=1
 case neg=>
  have d3:(x.kd != 1)=true:=bne_iff_ne.2 e3
  have HR:=hQq (HP.out.trans (if_neg (fun h=>e3 h.2.2)));clear e3 e2 HP
  go_enter Tryz.func171,Tryz.ntmps171
  go_wp2
  go_ret
  exact zBx HR.out (by decide) ((eA _ _).mono hBw)
 have HR:=hQq (HP.out.trans (if_pos ⟨e1,e2,e3⟩))
 clear e2 HP
 go_enter Tryz.func171,Tryz.ntmps171
 go_wp2_with (at_builtin;refine zJU okO rfl (.tmp 31) (.tmp 33) rfl (.slice ad 0 cap) _ [] [(0,⟨#[]⟩)] w _ rfl rfl (by exact(HD.out.ext okO (eA _ _)).ext okO (eA _ _)) (by exact zAn okO _ (0,⟨#[]⟩) (zRr (0,⟨#[]⟩)) _ (by simp) rfl) (by exact(eA _ _).mono hBw |>.alloc (by simp;omega) _) (by simp;omega) (by simp) ?_;intro v1 w1 ha;have HB1:=hQq (ha.chg.keep _ _ (bA (bA HBK.out)) (zJc HD.out HBK.out (by decide)));obtain⟨a1,cap1,rfl⟩:=ha.own.form;have hc1:=bL HB1.out;have k0:w1.cell? ⟨c,0,none⟩=some (.slice ad 0 cap):=bC HB1.out 0;have fc:∀ j,w1.frozen? ⟨c,j,none⟩=false:=fun j=>bT HB1.out j;have HA:=hQq ha;clear ha)
 go_ret
 refine⟨by rw [HR.out];rfl,HA.out.below.setCell (p:=⟨c,0,none⟩) hBc _,fun _=>⟨.slice a1 1 cap1,by rw [bS HB1.out];rfl,?_,fun b o h1 h2 h3=>bSn (HA.out.chg.keep _ _ (bA (bA h1)) h3) _ _ h2⟩⟩
 have:zE9 [] x= [] ++ [(0,⟨#[]⟩)]:=by unfold zE9;simp
 rw [this]
 exact HA.out.own.other okO (zD6 HB1.out hBc _) (by decide) (by simp [cdO])
theorem zNN (B:Nat) (w:World) (c m1 m2 g cap:Nat) (D:List Opn) (f:Bool) (cl:Int) (x:TrN) (a3:Option Addr) (n3 cap3 m:Nat) (d:Opn)
  (hblk:w.heap[c]? = some (.cells #[.slice (some ⟨g,0,none⟩) D.length cap,.bool f,.map (some m1),.map (some m2),.int .i64 cl] 149 (0,0))) (hBc:B<=c) (hBw:B<=w.heap.size) (hD:zAg cdO B w (.slice (some ⟨g,0,none⟩) D.length cap) D) (hl:D.length<=9)
  (hmD:m < D.length) (hdm:D[m]? = some d) (hdep:x.dep=(m:Int)+1) (p1:¬ 8 < (m:Int)+1) (p2:zAq (L x.nm)=0) (hd23:d.1 < 24) (e2f:f=false->¬ (D.length:Int) < (m:Int)+1) (e2t:f=true->(m:Int)+1 < (D.length:Int))
  (hz:zCU D f x=0) (hpd:zE9 D x=(D.set m (d.1+1,x.nm)).take (m+1) ++ [(0,⟨#[]⟩)]) (hr:(0 < d.1/\(d.2.toList == x.nm.toList)=false/\Op.bytesLess d.2.toList x.nm.toList=true)\/d.1=0) :
  Calls Tryz.prog 171 #[.pointer (some ⟨c,0,none⟩),.agg #[.int .i64 x.dep,.string x.nm,.int .i64 x.kd,.slice a3 n3 cap3,.string x.dat,.int .i64 x.ma,.int .i64 x.mi,.int .i64 x.cl]] w (zKZ B w c m1 m2 (.slice (some ⟨g,0,none⟩) D.length cap) D f cl x):=by
 have HNE:=hQq (zJc hD hblk (by decide))
 obtain⟨_,he0,hBg,hgl,_⟩:=hD.addr (by omega)
 cases he0
 have hcl:=bL hblk
 have k0:w.cell? ⟨c,0,none⟩=some (.slice (some ⟨g,0,none⟩) D.length cap):=bC hblk 0
 have k1:w.cell? ⟨c,1,none⟩=some (.bool f):=bC hblk 1
 have fc:∀ j,w.frozen? ⟨c,j,none⟩=false:=fun j=>bT hblk j
 have fg:∀ j,w.frozen? ⟨g,j,none⟩=false:=fun j=>hD.frozen j
 have HBK:=hQq hblk;clear hblk
 obtain⟨b',off',he,_,d0,d1⟩:=(hD.in okO).opn m hmD
 cases he
 have hdd:D[m]'hmD=d:=by rw [List.getElem?_eq_getElem hmD] at hdm;injection hdm
 have HDM:Hid (D[m]? = some d):=hdm
 rw [hdd,Nat.zero_add] at d0 d1
 have HD:=hQq hD;clear hD
 have HZ:=hQq hz;have HPD:=hQq hpd;clear hz hpd hdd hdm
 have z0:(((D.length:Nat):Int) == 0)=false:=nB (by omega)
 have z1:0 < D.length:=by omega
 have hz2:c < w.heap.size+1:=by omega
 have hg2:g < w.heap.size+1:=by omega
 have hcg:c ≠ g:=fun e=>HNE.out (by rw [e];rfl)
 have hgc:g ≠ c:=fun e=>hcg e.symm
 have j1:((m:Nat):Int) < (D.length:Int):=by omega
 have j0:(0:Int)<=(m:Int):=by omega
 have j3:IntKind.i64.wrap ((d.1:Int)+1)=(d.1:Int)+1:=IntWalk.i64_in _ (by omega)
 have q0:¬ (m:Int)+1 < 1:=by omega
 have r4:(((d.1:Nat):Int) == 24)=false:=nB (by omega)
 rcases hr with ⟨r1,r2,r3⟩ | r1
 ·cases f
  case' false=>have q:=e2f rfl
  case' true=>have q:=e2t rfl
  all_goals
   clear e2f e2t
   go_enter Tryz.func171,Tryz.ntmps171
   go_wp2_with (go_at_call 106;refine(zAX x.nm _).mono ?_;rintro e w2 ⟨rfl,hb⟩;obtain⟨hc,hf⟩:=zE7 hb;have hsz2:=hb.size;have HB:=hQq hb;clear hb)
   go_quiet (fail)
   go_wp2
   go_quiet (fail)
   go_wp2
   go_quiet (fail)
   go_wp2
   go_region
   refine zKn (P:=fun W=>Exit.then _ _ _ _ W) HB.out HBK.out HD.out hmD HDM.out hcg hBw ?_
   intro W3 b1 b2 o3 hb3 hk3
   clear hc hf hsz2
   have HB3:=hQq hb3;have HK3:=hQq hk3;have HO3:=hQq o3;have B1:=hQq b1;have B2:=hQq b2
   have u0:W3.cell? ⟨c,0,none⟩=some (.slice (some ⟨g,0,none⟩) D.length cap):=bC b1 0
   have u1:W3.cell? ⟨w.heap.size,0,none⟩=some (.int .i64 ((m:Int)+1)):=bC b2 0
   have u2:∀ j,W3.frozen? ⟨c,j,none⟩=false:=fun j=>bT b1 j
   have hc3:=bL b1
   have hw3:=bL b2
   clear hb3 hk3 o3 b1 b2
   have HT3:=hQq (HO3.out.trunc okO (by simp;omega) (by simp;omega:m+1<=(D.set m ((d.1+1,x.nm):Opn)).length))
   have hBw3:B<=W3.heap.size:=Nat.le_trans hBw HB3.out.size
   have j4:((m:Nat):Int)+1<=(cap:Int):=by obtain⟨a',cap',he,hcap,_⟩:=HD.out.in okO;cases he;omega
   have j5:m+1<=cap:=by omega
   have j6:(0:Int)<=(m:Int)+1:=by omega
   go_wp2
   go_region_law ((refine zVr okO (by rfl) (.tmp 132) (.tmp 134) (by rfl) (.slice (some ⟨g,0,none⟩) (m+1) cap) _ ((D.set m (d.1+1,x.nm)).take (m+1)) [(0,⟨#[]⟩)] w _ (by rfl) (by rfl) (by exact HT3.out.ext okO (by repeat (first | exact bR _ _ | refine Ext.trans ?_ (eA _ _) | refine Ext.trans ?_ (eDn _ _) | refine Ext.trans ?_ (eD _)))) (by exact zAn okO _ (0,⟨#[]⟩) (zRr (0,⟨#[]⟩)) _ (by simp) rfl) (by exact Below.trans HB3.out (Below.mono (by repeat (first | exact bR _ _ | refine Ext.trans ?_ (eA _ _) | refine Ext.trans ?_ (eDn _ _) | refine Ext.trans ?_ (eD _))) (Nat.le_trans hBw HB3.out.size))) (by have:=hBw3;simp;omega) (by rw [List.length_take];simp;omega) ?_;intro v1 w1 ha;have HB4:=hQq (ha.chg.keep _ _ (by exact bX (by repeat (first | exact bR _ _ | refine Ext.trans ?_ (eA _ _) | refine Ext.trans ?_ (eDn _ _) | refine Ext.trans ?_ (eD _))) B1.out) (fun e=>hcg (by injection e with e;exact e.symm)));obtain⟨a1,cap1,rfl⟩:=ha.own.form;have hc4:=bL HB4.out;have u3:w1.cell? ⟨c,0,none⟩=some (.slice (some ⟨g,0,none⟩) D.length cap):=bC HB4.out 0;have u4:∀ j,w1.frozen? ⟨c,j,none⟩=false:=fun j=>bT HB4.out j;have HK4:Hid (∀ b o,W3.heap[b]? = some o->b ≠ g->w1.heap[b]? = some o):=fun b o h1 h2=>ha.chg.keep _ _ (by exact bX (by repeat (first | exact bR _ _ | refine Ext.trans ?_ (eA _ _) | refine Ext.trans ?_ (eDn _ _) | refine Ext.trans ?_ (eD _))) h1) (fun e=>h2 (by injection e with e;exact e.symm));have HA:=hQq ha;clear ha))
   all_goals
    go_wp2
    go_ret
    refine⟨by rw [HZ.out];rfl,HA.out.below.setCell (p:=⟨c,0,none⟩) hBc _,fun _=>⟨_,by rw [bS HB4.out];rfl,?_,fun b o h1 h2 h3=>bSn (HK4.out _ _ (HK3.out _ _ h1 (fun e=>h3 (by rw [e];rfl))) (fun e=>h3 (by rw [e];rfl))) _ _ h2⟩⟩
    rw [HPD.out]
    have hown:=HA.out.own.other okO (zD6 (o:=0) HB4.out hBc (.slice a1 (min (m+1) D.length+1) cap1)) (by decide) (by simp [cdO])
    have hlen:((D.set m ((d.1+1,x.nm):Opn)).take (m+1) ++ [((0,⟨#[]⟩):Opn)]).length=min (m+1) D.length+1:=by simp
    rw [hlen] at hown
    exact hown
 ·have r1a:¬ 0 < d.1:=by omega
  have r1b:decide (0 < d.1)=false:=decide_eq_false r1a
  clear r1
  cases f
  case' false=>have q:=e2f rfl
  case' true=>have q:=e2t rfl
  all_goals
   clear e2f e2t
   go_enter Tryz.func171,Tryz.ntmps171
   go_wp2_with (go_at_call 106;refine(zAX x.nm _).mono ?_;rintro e w2 ⟨rfl,hb⟩;obtain⟨hc,hf⟩:=zE7 hb;have hsz2:=hb.size;have HB:=hQq hb;clear hb)
   go_quiet (fail)
   go_wp2
   go_quiet (fail)
   go_wp2
   go_quiet (fail)
   go_wp2
   go_region
   refine zKn (P:=fun W=>Exit.then _ _ _ _ W) HB.out HBK.out HD.out hmD HDM.out hcg hBw ?_
   intro W3 b1 b2 o3 hb3 hk3
   clear hc hf hsz2
   have HB3:=hQq hb3;have HK3:=hQq hk3;have HO3:=hQq o3;have B1:=hQq b1;have B2:=hQq b2
   have u0:W3.cell? ⟨c,0,none⟩=some (.slice (some ⟨g,0,none⟩) D.length cap):=bC b1 0
   have u1:W3.cell? ⟨w.heap.size,0,none⟩=some (.int .i64 ((m:Int)+1)):=bC b2 0
   have u2:∀ j,W3.frozen? ⟨c,j,none⟩=false:=fun j=>bT b1 j
   have hc3:=bL b1
   have hw3:=bL b2
   clear hb3 hk3 o3 b1 b2
   have HT3:=hQq (HO3.out.trunc okO (by simp;omega) (by simp;omega:m+1<=(D.set m ((d.1+1,x.nm):Opn)).length))
   have hBw3:B<=W3.heap.size:=Nat.le_trans hBw HB3.out.size
   have j4:((m:Nat):Int)+1<=(cap:Int):=by obtain⟨a',cap',he,hcap,_⟩:=HD.out.in okO;cases he;omega
   have j5:m+1<=cap:=by omega
   have j6:(0:Int)<=(m:Int)+1:=by omega
   go_wp2
   go_region_law ((refine zVr okO (by rfl) (.tmp 132) (.tmp 134) (by rfl) (.slice (some ⟨g,0,none⟩) (m+1) cap) _ ((D.set m (d.1+1,x.nm)).take (m+1)) [(0,⟨#[]⟩)] w _ (by rfl) (by rfl) (by exact HT3.out.ext okO (by repeat (first | exact bR _ _ | refine Ext.trans ?_ (eA _ _) | refine Ext.trans ?_ (eDn _ _) | refine Ext.trans ?_ (eD _)))) (by exact zAn okO _ (0,⟨#[]⟩) (zRr (0,⟨#[]⟩)) _ (by simp) rfl) (by exact Below.trans HB3.out (Below.mono (by repeat (first | exact bR _ _ | refine Ext.trans ?_ (eA _ _) | refine Ext.trans ?_ (eDn _ _) | refine Ext.trans ?_ (eD _))) (Nat.le_trans hBw HB3.out.size))) (by have:=hBw3;simp;omega) (by rw [List.length_take];simp;omega) ?_;intro v1 w1 ha;have HB4:=hQq (ha.chg.keep _ _ (by exact bX (by repeat (first | exact bR _ _ | refine Ext.trans ?_ (eA _ _) | refine Ext.trans ?_ (eDn _ _) | refine Ext.trans ?_ (eD _))) B1.out) (fun e=>hcg (by injection e with e;exact e.symm)));obtain⟨a1,cap1,rfl⟩:=ha.own.form;have hc4:=bL HB4.out;have u3:w1.cell? ⟨c,0,none⟩=some (.slice (some ⟨g,0,none⟩) D.length cap):=bC HB4.out 0;have u4:∀ j,w1.frozen? ⟨c,j,none⟩=false:=fun j=>bT HB4.out j;have HK4:Hid (∀ b o,W3.heap[b]? = some o->b ≠ g->w1.heap[b]? = some o):=fun b o h1 h2=>ha.chg.keep _ _ (by exact bX (by repeat (first | exact bR _ _ | refine Ext.trans ?_ (eA _ _) | refine Ext.trans ?_ (eDn _ _) | refine Ext.trans ?_ (eD _))) h1) (fun e=>h2 (by injection e with e;exact e.symm));have HA:=hQq ha;clear ha))
   all_goals
    go_wp2
    go_ret
    refine⟨by rw [HZ.out];rfl,HA.out.below.setCell (p:=⟨c,0,none⟩) hBc _,fun _=>⟨_,by rw [bS HB4.out];rfl,?_,fun b o h1 h2 h3=>bSn (HK4.out _ _ (HK3.out _ _ h1 (fun e=>h3 (by rw [e];rfl))) (fun e=>h3 (by rw [e];rfl))) _ _ h2⟩⟩
    rw [HPD.out]
    have hown:=HA.out.own.other okO (zD6 (o:=0) HB4.out hBc (.slice a1 (min (m+1) D.length+1) cap1)) (by decide) (by simp [cdO])
    have hlen:((D.set m ((d.1+1,x.nm):Opn)).take (m+1) ++ [((0,⟨#[]⟩):Opn)]).length=min (m+1) D.length+1:=by simp
    rw [hlen] at hown
    exact hown
theorem zNO (B:Nat) (w:World) (c m1 m2:Nat) (vd:Value) (D:List Opn) (f:Bool) (cl:Int) (x:TrN) (va:Value)
  (hblk:w.heap[c]? = some (.cells #[vd,.bool f,.map (some m1),.map (some m2),.int .i64 cl] 149 (0,0))) (hBc:B<=c) (hBw:B<=w.heap.size) (hD:zAg cdO B w vd D) (h0:D.length ≠ 0) (hl:D.length<=9) (hm:∀ d ∈ D,d.1<=24) (hva:∃ a n m,va= .slice a n m) :
  Calls Tryz.prog 171 #[.pointer (some ⟨c,0,none⟩),trV x va] w (zKZ B w c m1 m2 vd D f cl x):=by
 unfold trV
 obtain⟨a3,n3,cap3,rfl⟩:=hva
 have HNE:=hQq (zJc hD hblk (by decide))
 obtain⟨ad,cap,rfl⟩:=hD.form
 obtain⟨g,rfl,hBg,hgl,_⟩:=hD.addr (by omega)
 have hcl:=bL hblk
 have k0:w.cell? ⟨c,0,none⟩=some (.slice (some ⟨g,0,none⟩) D.length cap):=bC hblk 0
 have k1:w.cell? ⟨c,1,none⟩=some (.bool f):=bC hblk 1
 have fc:∀ j,w.frozen? ⟨c,j,none⟩=false:=fun j=>bT hblk j
 have HBK:=hQq hblk;clear hblk
 have HD:=hQq hD;clear hD
 have HM:=hQq hm;clear hm
 have HP:=hQq (zPm (f:=f) (x:=x) h0)
 have z0:(((D.length:Nat):Int) == 0)=false:=nB (by omega)
 have z1:0 < D.length:=by omega
 by_cases e1:x.dep < 1
 ·have HR:=hQq (HP.out.trans (if_pos (.inl e1)));clear HP h0
  cases f
  all_goals
   go_enter Tryz.func171,Tryz.ntmps171
   go_wp2
   go_ret
   exact zBx HR.out (by decide) ((eA _ _).mono hBw)
 by_cases e2:(if f then (D.length:Int) - 1 else D.length) < x.dep
 ·have HR:=hQq (HP.out.trans (if_pos (.inr e2)));clear HP h0
  cases f
  ·replace e2:(D.length:Int) < x.dep:=e2
   go_enter Tryz.func171,Tryz.ntmps171
   go_wp2
   go_ret
   exact zBx HR.out (by decide) ((eA _ _).mono hBw)
  ·replace e2:(D.length:Int) - 1 < x.dep:=e2
   go_enter Tryz.func171,Tryz.ntmps171
   go_wp2
   go_ret
   exact zBx HR.out (by decide) ((eA _ _).mono hBw)
 have HP2:=hQq (HP.out.trans (if_neg (not_or.2 ⟨e1,e2⟩)));clear HP
 obtain⟨m,hdep⟩:∃ m:Nat,x.dep=(m:Int)+1:=⟨(x.dep - 1).toNat,by omega⟩
 have hmD:m < D.length:=by cases f <;> simp at e2 <;> omega
 have hmt:x.dep.toNat - 1=m:=by omega
 have hgd:D.getD (x.dep.toNat - 1) (0,⟨#[]⟩)=D[m]'hmD:=by rw [hmt,List.getD_eq_getElem?_getD,List.getElem?_eq_getElem hmD];rfl
 rw [hgd] at HP2
 have hf2:(if f then (D.length:Int) - 1 else D.length) < x.dep ↔ False:=iff_false_intro e2
 obtain⟨b',off',he,_,d0,d1⟩:=(HD.out.in okO).opn m hmD
 cases he
 rw [Nat.zero_add] at d0 d1
 have hd24:=HM.out _ (List.getElem_mem hmD)
 have HPD:Hid (zE9 D x=(D.set m ((D[m]'hmD).1+1,x.nm)).take (m+1) ++ [(0,⟨#[]⟩)]):=hQq (by unfold zE9;rw [if_neg h0,hgd,hmt,show x.dep.toNat=m+1 by omega])
 have HDM:Hid (D[m]? = some (D[m]'hmD)):=List.getElem?_eq_getElem hmD
 generalize D[m]'hmD=d at d0 d1 hd24 HP2 HPD HDM hgd
 have hz2:c < w.heap.size+1:=by omega
 have hg2:g < w.heap.size+1:=by omega
 have j1:((m:Nat):Int) < (D.length:Int):=by omega
 have j0:(0:Int)<=(m:Int):=by omega
 have j3:IntKind.i64.wrap ((d.1:Int)+1)=(d.1:Int)+1:=IntWalk.i64_in _ (by omega)
 have e2f:f=false->¬ (D.length:Int) < (m:Int)+1:=fun h=>by subst h;simp at e2;omega
 have e2t:f=true->(m:Int)+1 < (D.length:Int):=fun h=>by subst h;simp at e2;omega
 have q0:¬ (m:Int)+1 < 1:=by omega
 clear hgd hmt hf2 e1 e2 h0
 by_cases p1:8 < (m:Int)+1
 ·have HR:=hQq (HP2.out.trans (if_pos (by rw [hdep];exact p1)));clear HP2
  cases f
  ·have q:=e2f rfl
   clear e2f e2t
   go_enter Tryz.func171,Tryz.ntmps171
   go_wp2
   go_ret
   exact zBx HR.out (by decide) ((eA _ _).mono hBw)
  ·have q:=e2t rfl
   exfalso;omega
 have HP3:=hQq (HP2.out.trans (if_neg (by rw [hdep];exact p1)));clear HP2
 by_cases p2:zAq (L x.nm)=0
 case neg=>
  have HR:=hQq (HP3.out.trans (if_pos p2));clear HP3
  have n1:(zAq (L x.nm) != 0)=true:=bne_iff_ne.2 p2
  cases f
  case' false=>have q:=e2f rfl
  case' true=>have q:=e2t rfl
  all_goals
   clear e2f e2t
   go_enter Tryz.func171,Tryz.ntmps171
   go_wp2_with (go_at_call 106;refine(zAX x.nm _).mono ?_;rintro e w2 ⟨rfl,hb⟩;obtain⟨hc,hf⟩:=zE7 hb;have hsz2:=hb.size;have HB:=hQq hb;clear hb)
   go_ret
   exact zBx HR.out p2 (((eA _ _).trans HB.out).mono hBw)
 have HP4:=hQq (HP3.out.trans (if_neg (by simpa using p2)));clear HP3
 by_cases p3:0 < d.1/\d.2=x.nm
 ·have HR:=hQq (HP4.out.trans (if_pos p3));clear HP4
  have r1:0 < d.1:=p3.1
  have r2:(d.2.toList == x.nm.toList)=true:=by rw [p3.2];simp
  clear p3
  cases f
  case' false=>have q:=e2f rfl
  case' true=>have q:=e2t rfl
  all_goals
   clear e2f e2t
   go_enter Tryz.func171,Tryz.ntmps171
   go_wp2_with (go_at_call 106;refine(zAX x.nm _).mono ?_;rintro e w2 ⟨rfl,hb⟩;obtain⟨hc,hf⟩:=zE7 hb;have hsz2:=hb.size;have HB:=hQq hb;clear hb)
   go_quiet (fail)
   go_wp2
   go_quiet (fail)
   go_wp2
   go_ret
   exact zBx HR.out (by decide) ((((eA _ _).trans HB.out).trans (by first | exact eDn _ _ | exact Ext.trans (eDn _ _) (eDn _ _) | exact Ext.trans (eDn _ _) (Ext.trans (eDn _ _) (eDn _ _)))).mono hBw)
 have HP5:=hQq (HP4.out.trans (if_neg p3));clear HP4
 by_cases p4:0 < d.1/\L x.nm < L d.2
 ·have HR:=hQq (HP5.out.trans (if_pos p4));clear HP5
  have r1:0 < d.1:=p4.1
  have r2:(d.2.toList == x.nm.toList)=false:=by rw [beq_eq_false_iff_ne];intro h;exact p3 ⟨p4.1,zBJ (by rw [<- tL,<- tL];exact h)⟩
  have r3:=zF0 (fun h=>List.lt_irrefl _ (List.lt_trans p4.2 h))
  clear p3 p4
  cases f
  case' false=>have q:=e2f rfl
  case' true=>have q:=e2t rfl
  all_goals
   clear e2f e2t
   go_enter Tryz.func171,Tryz.ntmps171
   go_wp2_with (go_at_call 106;refine(zAX x.nm _).mono ?_;rintro e w2 ⟨rfl,hb⟩;obtain⟨hc,hf⟩:=zE7 hb;have hsz2:=hb.size;have HB:=hQq hb;clear hb)
   go_quiet (fail)
   go_wp2
   go_quiet (fail)
   go_wp2
   go_quiet (fail)
   go_wp2
   go_ret
   exact zBx HR.out (by decide) ((((eA _ _).trans HB.out).trans (by first | exact eDn _ _ | exact Ext.trans (eDn _ _) (eDn _ _) | exact Ext.trans (eDn _ _) (Ext.trans (eDn _ _) (eDn _ _)))).mono hBw)
 have HP6:=hQq (HP5.out.trans (if_neg p4));clear HP5
 by_cases p5:d.1=24
 ·have HR:=hQq (HP6.out.trans (if_pos p5));clear HP6
  have r1:0 < d.1:=by omega
  have r2:(d.2.toList == x.nm.toList)=false:=by rw [beq_eq_false_iff_ne];intro h;exact p3 ⟨r1,zBJ (by rw [<- tL,<- tL];exact h)⟩
  have r3:=zGu (zJm (a:=d.2) (b:=x.nm) (fun h=>p3 ⟨r1,h⟩) (fun h=>p4 ⟨r1,h⟩))
  have r4:(((d.1:Nat):Int) == 24)=true:=beq_iff_eq.2 (by omega)
  clear p3 p4 p5
  cases f
  case' false=>have q:=e2f rfl
  case' true=>have q:=e2t rfl
  all_goals
   clear e2f e2t
   go_enter Tryz.func171,Tryz.ntmps171
   go_wp2_with (go_at_call 106;refine(zAX x.nm _).mono ?_;rintro e w2 ⟨rfl,hb⟩;obtain⟨hc,hf⟩:=zE7 hb;have hsz2:=hb.size;have HB:=hQq hb;clear hb)
   go_quiet (fail)
   go_wp2
   go_quiet (fail)
   go_wp2
   go_quiet (fail)
   go_wp2
   go_ret
   exact zBx HR.out (by decide) ((((eA _ _).trans HB.out).trans (by first | exact eDn _ _ | exact Ext.trans (eDn _ _) (eDn _ _) | exact Ext.trans (eDn _ _) (Ext.trans (eDn _ _) (eDn _ _)))).mono hBw)
 have HP7:=HP6
 have hd23:d.1 < 24:=by omega
 have hz:zCU D f x=0:=HP7.out.trans (if_neg p5)
 refine zNN B w c m1 m2 g cap D f cl x a3 n3 cap3 m d HBK.out hBc hBw HD.out hl hmD HDM.out hdep p1 p2 hd23 e2f e2t hz HPD.out ?_
 by_cases r1:0 < d.1
 ·refine .inl ⟨r1,?_,zGu (zJm (a:=d.2) (b:=x.nm) (fun h=>p3 ⟨r1,h⟩) (fun h=>p4 ⟨r1,h⟩))⟩
  rw [beq_eq_false_iff_ne];intro h;exact p3 ⟨r1,zBJ (by rw [<- tL,<- tL];exact h)⟩
 ·exact .inr (by omega)
theorem zDC (B:Nat) (w:World) (c m1 m2:Nat) (vd:Value) (D:List Opn) (f:Bool) (cl:Int) (x:TrN) (va:Value)
  (hblk:w.heap[c]? = some (.cells #[vd,.bool f,.map (some m1),.map (some m2),.int .i64 cl] 149 (0,0))) (hBc:B<=c) (hBw:B<=w.heap.size) (hD:zAg cdO B w vd D) (hl:D.length<=9) (hm:∀ d ∈ D,d.1<=24) (hva:∃ a n m,va= .slice a n m) :
  Calls Tryz.prog 171 #[.pointer (some ⟨c,0,none⟩),trV x va] w (zKZ B w c m1 m2 vd D f cl x):=by
 by_cases h0:D.length=0
 ·exact zNP B w c m1 m2 vd D f cl x va hblk hBc hBw hD h0 hva
 ·exact zNO B w c m1 m2 vd D f cl x va hblk hBc hBw hD h0 hl hm hva
theorem zKc (B:Nat) (w:World) (c m1 m2 n1 n2:Nat) (vd:Value) (f:Bool) (m:Int) (F1 F2:Int->Option Value) (x y:TrN) (va vy:Value) (n:Nat)
  (hblk:w.heap[c]? = some (.cells #[vd,.bool f,.map (some m1),.map (some m2),.int .i64 m] 149 (0,0))) (hM1:zAD kI w m1 n1 F1) (hM2:zAD kI w m2 n2 F2)
  (hBc:B<=c) (hB1:B<=m1) (hB2:B<=m2) (hBw:B<=w.heap.size) (h12:m1 ≠ m2) (hm0:0<=m) (hm1:m<=1000) (hn:n<=1000)
  (hx:aA w va x.ats) (_hxl:x.ats.length<=1000000) (hy:0 < x.cl->x.cl<=m->F1 x.cl=some (trV y vy)/\aA w vy y.ats/\y.ats.length<=1000000)
  (hc:0 < x.cl->(F2 x.cl).getD (.int .i64 0)= .int .i64 n) :
  Calls Tryz.prog 173 #[.pointer (some ⟨c,0,none⟩),trV x va] w (zTN B w c m1 m2 vd f m F1 F2 (zA5 y x) x (trV x va) n):=by
 have hcm1:c ≠ m1:=by rintro rfl;obtain⟨es,ck,h,_⟩:=hM1;rw [hblk] at h;cases h
 have hcm2:c ≠ m2:=by rintro rfl;obtain⟨es,ck,h,_⟩:=hM2;rw [hblk] at h;cases h
 obtain⟨a3,cap3,rfl,hcap3,hxc⟩:=hx
 have HX:Hid (aA w (.slice a3 x.ats.length cap3) x.ats):=⟨a3,cap3,rfl,hcap3,hxc⟩
 clear hxc
 have hcl:=bL hblk
 have k2:w.cell? ⟨c,2,none⟩=some (.map (some m1)):=bC hblk 2
 have k3:w.cell? ⟨c,3,none⟩=some (.map (some m2)):=bC hblk 3
 have k4:w.cell? ⟨c,4,none⟩=some (.int .i64 m):=bC hblk 4
 have fc:∀ j,w.frozen? ⟨c,j,none⟩=false:=fun j=>bT hblk j
 have HBK:=hQq hblk;have HM1:=hQq hM1;have HM2:=hQq hM2;have HY:=hQq hy;have HC:=hQq hc
 clear hblk hM1 hM2 hy hc
 unfold trV
 by_cases e0:x.cl=0
 ·have HR:Hid (zDp m (zA5 y x) x=0):=hQq (if_pos e0)
  have HE0:=hQq e0
  go_enter Tryz.func173,Tryz.ntmps173
  go_wp2
  go_ret
  refine⟨by rw [HR.out];rfl,(eA _ _).mono hBw,fun _=>⟨⟨n1,n2,F1,F2,?_,HM1.out.ext (eA _ _),HM2.out.ext (eA _ _),(if_neg (by rw [HE0.out];omega)).symm,(if_pos HE0.out).symm⟩,fun b o h _ _ _=>bA h⟩⟩
  rw [HE0.out,show max m (0:Int)=m by omega];exact bA HBK.out
 have e0':(x.cl == 0)=false:=nB e0
 have hcz:c < w.heap.size+1:=by omega
 by_cases e1:x.cl < 0
 ·have HR:Hid (zDp m (zA5 y x) x=6):=hQq ((if_neg e0).trans (if_pos (.inl e1)))
  clear e0
  go_enter Tryz.func173,Tryz.ntmps173
  go_wp2
  go_quiet (fail)
  go_wp2
  go_ret
  exact zGt HR.out (by decide) (((eA _ _).trans (eDn _ _)).mono hBw)
 have e1':decide (x.cl < 0)=false:=decide_eq_false e1
 by_cases e2:m+1 < x.cl
 ·have HR:Hid (zDp m (zA5 y x) x=6):=hQq ((if_neg e0).trans (if_pos (.inr e2)))
  clear e0
  go_enter Tryz.func173,Tryz.ntmps173
  go_wp2
  go_quiet (fail)
  go_wp2
  go_ret
  exact zGt HR.out (by decide) (((eA _ _).trans (eDn _ _)).mono hBw)
 have HE0:=hQq e0
 have HPOS:Hid (0 < x.cl):=by show _ < _;omega
 clear e0
 by_cases e3:m < x.cl
 ·have HR:Hid (zDp m (zA5 y x) x=0):=hQq ((if_neg HE0.out).trans ((if_neg (by omega)).trans (if_pos e3)))
  have HMX:Hid (max m x.cl=m+1):=by show _=_;omega
  have HE3:=hQq e3
  go_enter Tryz.func173,Tryz.ntmps173
  go_wp2
  go_quiet (fail)
  go_wp2
  go_quiet (fail)
  go_wp2
  refine nW (P:=fun W=>Code.wp _ _ _ _ W) _ ?_
  intro W0 hW0
  have TC0:Hid (W0.heap[c]? = some (.cells #[vd,.bool f,.map (some m1),.map (some m2),.int .i64 (m+1)] 149 (0,0))):=hQq (by rw [hW0,bS (bX (by repeat (first | exact bR _ _ | refine Ext.trans ?_ (eA _ _) | refine Ext.trans ?_ (eDn _ _) | refine Ext.trans ?_ (eD _))) HBK.out)];rfl)
  have TX0:Hid (W0.heap[w.heap.size]? = some (.cells #[.int .i64 x.dep,.string x.nm,.int .i64 x.kd,.slice a3 x.ats.length cap3,.string x.dat,.int .i64 x.ma,.int .i64 x.mi,.int .i64 x.cl] 59 (0,0))):=hQq (by rw [hW0];exact bSn (bX (by repeat (first | exact bR _ _ | refine Ext.trans ?_ (eDn _ _) | refine Ext.trans ?_ (eD _))) (bN w _)) _ _ (fun e=>by have e':w.heap.size=c:=e;omega))
  have TE0:Hid (Below B w W0):=hQq (by rw [hW0];exact(Below.mono (by repeat (first | exact bR _ _ | refine Ext.trans ?_ (eA _ _) | refine Ext.trans ?_ (eDn _ _) | refine Ext.trans ?_ (eD _))) hBw).setCell (p:=⟨c,4,none⟩) hBc _)
  have TK0:Hid (∀ b o,w.heap[b]? = some o->b ≠ c->W0.heap[b]? = some o):=hQq (fun b o h1 h2=>by rw [hW0];exact bSn (bX (by repeat (first | exact bR _ _ | refine Ext.trans ?_ (eA _ _) | refine Ext.trans ?_ (eDn _ _) | refine Ext.trans ?_ (eD _))) h1) _ _ h2)
  clear hW0
  have M1:Hid (zAD kI W0 m1 n1 F1):=hQq (HM1.out.keepB (fun o h=>TK0.out _ o h hcm1.symm))
  have M2:Hid (zAD kI W0 m2 n2 F2):=hQq (HM2.out.keepB (fun o h=>TK0.out _ o h hcm2.symm))
  have t2:W0.cell? ⟨c,2,none⟩=some (.map (some m1)):=bC TC0.out 2
  have t3:W0.cell? ⟨w.heap.size,0,none⟩=some (.int .i64 x.dep):=bC TX0.out 0
  have t4:W0.cell? ⟨w.heap.size,1,none⟩=some (.string x.nm):=bC TX0.out 1
  have t5:W0.cell? ⟨w.heap.size,2,none⟩=some (.int .i64 x.kd):=bC TX0.out 2
  have t6:W0.cell? ⟨w.heap.size,3,none⟩=some (.slice a3 x.ats.length cap3):=bC TX0.out 3
  have t7:W0.cell? ⟨w.heap.size,4,none⟩=some (.string x.dat):=bC TX0.out 4
  have t8:W0.cell? ⟨w.heap.size,5,none⟩=some (.int .i64 x.ma):=bC TX0.out 5
  have t9:W0.cell? ⟨w.heap.size,6,none⟩=some (.int .i64 x.mi):=bC TX0.out 6
  have t10:W0.cell? ⟨w.heap.size,7,none⟩=some (.int .i64 x.cl):=bC TX0.out 7
  go_still_tail 7,(by kernel_rfl)
  go_wp2_with (at_mapUpdate;refine zDX rfl (.tmp 41) (.tmp 43) (.tmp 44) 145 rfl _ _ zAZ zEY rfl (by exact M1.out.ext (eD _)) x.cl (.agg #[.int .i64 x.dep,.string x.nm,.int .i64 x.kd,.slice a3 x.ats.length cap3,.string x.dat,.int .i64 x.ma,.int .i64 x.mi,.int .i64 x.cl]) rfl rfl ?_;intro W hm4 hg4;have T1:=hQq hm4;have HG3:=hQq hg4;clear hm4 hg4)
  have TC:Hid (W.heap[c]? = some (.cells #[vd,.bool f,.map (some m1),.map (some m2),.int .i64 (max m x.cl)] 149 (0,0))):=hQq (by rw [HMX.out];exact zAU HG3.out (bX (eD _) TC0.out) (fun e=>hcm1 (by injection e with e;exact e.symm)))
  have TX:=hQq (zAU HG3.out (bX (eD _) TX0.out) (fun e=>by injection e with e;exact absurd HM1.out.lt (by omega)))
  have T2:Hid (zAD kI W m2 n2 F2):=hQq ((M2.out.ext (eD _)).grown HG3.out (fun e=>h12 (by injection e)))
  have TBW:Hid (B<=W.heap.size):=hQq (Nat.le_trans hBw (Nat.le_trans TE0.out.size (Nat.le_trans (eD W0).size HG3.out.size)))
  have TB:Hid (Below B w W):=hQq (Below.grown (Below.trans TE0.out ((eD _).mono (Nat.le_trans hBw TE0.out.size))) HG3.out (Nat.le_trans hBw (Nat.le_trans TE0.out.size (eD _).size)) (fun k hk=>by cases hk;exact hB1))
  have TK:Hid (∀ b o,w.heap[b]? = some o->b ≠ c->b ≠ m1->W.heap[b]? = some o):=hQq (fun b o h1 h2 h3=>zAU HG3.out (bX (eD _) (TK0.out b o h1 h2)) (fun e=>h3 (by injection e with e;exact e.symm)))
  have TF:Hid (upd F1 x.cl (.agg #[.int .i64 x.dep,.string x.nm,.int .i64 x.kd,.slice a3 x.ats.length cap3,.string x.dat,.int .i64 x.ma,.int .i64 x.mi,.int .i64 x.cl])=if m < x.cl then upd F1 x.cl (trV x (.slice a3 x.ats.length cap3)) else F1):=hQq (by rw [if_pos HE3.out])
  have hlk:(Instr.lookup 146 (.map (some m2)) (.int .i64 x.cl) false).run Tryz.prog W.drew= .ok (.int .i64 n) W.drew:=by
   have:=(T2.out.ext (eD W)).look zAZ zAB (zB2 _) x.cl false
   rw [HC.out HPOS.out] at this;exact this
  have v3:W.cell? ⟨c,3,none⟩=some (.map (some m2)):=bC TC.out 3
  have v7:W.cell? ⟨w.heap.size,7,none⟩=some (.int .i64 x.cl):=bC TX.out 7
  have j9:IntKind.i64.wrap ((n:Int)+1)=(n:Int)+1:=IntWalk.i64_in _ (by omega)
  go_wp2
  go_still_tail 8,(by kernel_rfl)
  go_wp2_with (at_mapUpdate;refine zDX rfl (.tmp 59) (.tmp 61) (.tmp 63) 146 rfl _ _ zAZ zAB rfl (by exact T2.out.ext (eD _)) x.cl (.int .i64 ((n:Int)+1)) rfl rfl ?_;intro w4 hm4 hg4;have HM4:=hQq hm4;have HG4:=hQq hg4;clear hm4 hg4)
  go_ret
  refine⟨by rw [HR.out];rfl,Below.grown (Below.trans TB.out ((eD _).mono TBW.out)) HG4.out (Nat.le_trans TBW.out (eD _).size) (fun k hk=>by cases hk;exact hB2),fun _=>⟨⟨_,_,_,_,zAU HG4.out (bX (eD _) TC.out) (fun e=>hcm2 (by injection e with e;exact e.symm)),(T1.out.ext (eD _)).grown HG4.out (fun e=>h12 (by injection e with e;exact e.symm)),HM4.out,TF.out,(if_neg HE0.out).symm⟩,fun b o h1 h2 h3 h4=>zAU HG4.out (bX (eD _) (TK.out b o h1 h2 h3)) (fun e=>h4 (by injection e with e;exact e.symm))⟩⟩
 ·have hle:x.cl<=m:=by omega
  obtain⟨y1,y2,y3⟩:=HY.out HPOS.out hle
  have HY1:=hQq y1;have HY2:=hQq y2;have HY3:=hQq y3;clear y1 y2 y3
  have HE3:=hQq e3
  have e3':decide (m < x.cl)=false:=decide_eq_false e3
  obtain⟨a5,cap5,rfl,_⟩:=HY2.out
  cases hlk1:zA5 y x
  all_goals
   have HLK:=hQq hlk1
   go_enter Tryz.func173,Tryz.ntmps173
   go_wp2
   go_quiet (fail)
   go_wp2
   go_quiet (fail)
   go_wp2
   refine nW (P:=fun W=>Code.wp _ _ _ _ W) _ ?_
   intro W0 hW0
   have TE0:Hid (Ext w W0):=hQq (by rw [hW0];exact(by repeat (first | exact bR _ _ | refine Ext.trans ?_ (eA _ _) | refine Ext.trans ?_ (eDn _ _) | refine Ext.trans ?_ (eD _))))
   have TX0:Hid (W0.heap[w.heap.size]? = some (.cells #[.int .i64 x.dep,.string x.nm,.int .i64 x.kd,.slice a3 x.ats.length cap3,.string x.dat,.int .i64 x.ma,.int .i64 x.mi,.int .i64 x.cl] 59 (0,0))):=hQq (by rw [hW0];exact bX (by repeat (first | exact bR _ _ | refine Ext.trans ?_ (eDn _ _) | refine Ext.trans ?_ (eD _))) (bN w _))
   clear hW0
   have M1:Hid (zAD kI W0 m1 n1 F1):=hQq (HM1.out.ext TE0.out)
   have hlk:(Instr.lookup 145 (.map (some m1)) (.int .i64 x.cl) false).run Tryz.prog W0.drew= .ok (trV y (.slice a5 y.ats.length cap5)) W0.drew:=by
    have:=(M1.out.ext (eD W0)).look zAZ zEY zJ7 x.cl false
    rw [HY1.out] at this;exact this
   unfold trV at hlk
   have t2:W0.cell? ⟨c,2,none⟩=some (.map (some m1)):=bC (bX TE0.out HBK.out) 2
   have t3:W0.cell? ⟨w.heap.size,0,none⟩=some (.int .i64 x.dep):=bC TX0.out 0
   have t4:W0.cell? ⟨w.heap.size,1,none⟩=some (.string x.nm):=bC TX0.out 1
   have t5:W0.cell? ⟨w.heap.size,2,none⟩=some (.int .i64 x.kd):=bC TX0.out 2
   have t6:W0.cell? ⟨w.heap.size,3,none⟩=some (.slice a3 x.ats.length cap3):=bC TX0.out 3
   have t7:W0.cell? ⟨w.heap.size,4,none⟩=some (.string x.dat):=bC TX0.out 4
   have t8:W0.cell? ⟨w.heap.size,5,none⟩=some (.int .i64 x.ma):=bC TX0.out 5
   have t9:W0.cell? ⟨w.heap.size,6,none⟩=some (.int .i64 x.mi):=bC TX0.out 6
   have t10:W0.cell? ⟨w.heap.size,7,none⟩=some (.int .i64 x.cl):=bC TX0.out 7
   go_still_tail 8,(by kernel_rfl)
   go_wp2_with (go_at_call 184;refine(zGN y x _ _ _ (HY2.out.ext (TE0.out.trans (eD _))) (HX.out.ext (TE0.out.trans (eD _))) HY3.out).mono ?_;rintro e W ⟨rfl,hb⟩;rw [HLK.out];have H3:=hQq hb;clear hb)
  ·have HR:Hid (zDp m false x=6):=hQq ((if_neg HE0.out).trans ((if_neg (by omega)).trans ((if_neg (by have:=HE3.out;omega)).trans (if_neg (by simp)))))
   go_ret
   exact zGt HR.out (by decide) ((TE0.out.trans ((eD _).trans H3.out)).mono hBw)
  ·have HR:Hid (zDp m true x=0):=hQq ((if_neg HE0.out).trans ((if_neg (by omega)).trans ((if_neg (by have:=HE3.out;omega)).trans (if_pos rfl))))
   have TE1:Hid (Ext W0 W):=hQq ((eD _).trans H3.out)
   have TC:Hid (W.heap[c]? = some (.cells #[vd,.bool f,.map (some m1),.map (some m2),.int .i64 (max m x.cl)] 149 (0,0))):=hQq (by rw [show max m x.cl=m by omega];exact bX (TE0.out.trans TE1.out) HBK.out)
   have TX:=hQq (bX TE1.out TX0.out)
   have T1:Hid (zAD kI W m1 n1 F1):=hQq (M1.out.ext TE1.out)
   have T2:Hid (zAD kI W m2 n2 F2):=hQq (HM2.out.ext (TE0.out.trans TE1.out))
   have TBW:Hid (B<=W.heap.size):=hQq (Nat.le_trans hBw (TE0.out.trans TE1.out).size)
   have TB:Hid (Below B w W):=hQq ((TE0.out.trans TE1.out).mono hBw)
   have TK:Hid (∀ b o,w.heap[b]? = some o->b ≠ c->b ≠ m1->W.heap[b]? = some o):=hQq (fun b o h1 _ _=>bX (TE0.out.trans TE1.out) h1)
   have TF:Hid (F1=if m < x.cl then upd F1 x.cl (trV x (.slice a3 x.ats.length cap3)) else F1):=hQq (by rw [if_neg (by have:=HE3.out;omega)])
   clear hlk t2 t3 t4 t5 t6 t7 t8 t9 t10
   have hlq:(Instr.lookup 146 (.map (some m2)) (.int .i64 x.cl) false).run Tryz.prog W.drew= .ok (.int .i64 n) W.drew:=by
    have:=(T2.out.ext (eD W)).look zAZ zAB (zB2 _) x.cl false
    rw [HC.out HPOS.out] at this;exact this
   have v3:W.cell? ⟨c,3,none⟩=some (.map (some m2)):=bC TC.out 3
   have v7:W.cell? ⟨w.heap.size,7,none⟩=some (.int .i64 x.cl):=bC TX.out 7
   have j9:IntKind.i64.wrap ((n:Int)+1)=(n:Int)+1:=IntWalk.i64_in _ (by omega)
   go_wp2
   go_still_tail 8,(by kernel_rfl)
   go_wp2_with (at_mapUpdate;refine zDX rfl (.tmp 59) (.tmp 61) (.tmp 63) 146 rfl _ _ zAZ zAB rfl (by exact T2.out.ext (eD _)) x.cl (.int .i64 ((n:Int)+1)) rfl rfl ?_;intro w4 hm4 hg4;have HM4:=hQq hm4;have HG4:=hQq hg4;clear hm4 hg4)
   go_ret
   refine⟨by rw [HR.out];rfl,Below.grown (Below.trans TB.out ((eD _).mono TBW.out)) HG4.out (Nat.le_trans TBW.out (eD _).size) (fun k hk=>by cases hk;exact hB2),fun _=>⟨⟨_,_,_,_,zAU HG4.out (bX (eD _) TC.out) (fun e=>hcm2 (by injection e with e;exact e.symm)),(T1.out.ext (eD _)).grown HG4.out (fun e=>h12 (by injection e with e;exact e.symm)),HM4.out,TF.out,(if_neg HE0.out).symm⟩,fun b o h1 h2 h3 h4=>zAU HG4.out (bX (eD _) (TK.out b o h1 h2 h3)) (fun e=>h4 (by injection e with e;exact e.symm))⟩⟩
theorem zMi (W0 w:World) (c m1 m2:Nat) (t:List TrN) (k:Nat) (va:Value) (hst:zOt W0 w c m1 m2 t k) (hBc:W0.heap.size<=c) (hB1:W0.heap.size<=m1) (hB2:W0.heap.size<=m2) (h12:m1 ≠ m2)
  (hk:k < t.length) (hl:t.length<=120) (hok:zAW t k) (hva:aA W0 va (zAa t k).ats) (hsm:zAP t) :
  Calls Tryz.prog 127 #[.pointer (some ⟨c,0,none⟩),trV (zAa t k) va] w (zWu W0 w c m1 m2 t k):=by
 obtain⟨vd,n1,n2,F1,F2,hc0,hdr,hm1,hm2,hf1,hf2⟩:=hst.ex
 have HEX:=hQq hst.below
 obtain⟨hdl,hdm⟩:=zSv (by omega) hok
 have hpv:=zRV hk hok
 have hxs:(zAa t k).ats.length<=1000000/\∀ a ∈ (zAa t k).ats,a.1.size<=1000000/\a.2.size<=1000000:=by
  rw [zAm t k hk];have:=hsm _ (List.getElem_mem hk);exact⟨this.2.2,this.2.1⟩
 have HOB:Hid (∀ b,vd.ownBlock=some b->b < w.heap.size):=fun b hb=>by obtain⟨_,_,_,h⟩:=hdr.row rfl b hb;exact bL h
 have HO1:Hid (vd.ownBlock ≠ some m1):=fun hb=>by obtain⟨_,_,_,h⟩:=hdr.row rfl m1 hb;obtain⟨_,_,h2,_⟩:=hm1;rw [h] at h2;cases h2
 have HO2:Hid (vd.ownBlock ≠ some m2):=fun hb=>by obtain⟨_,_,_,h⟩:=hdr.row rfl m2 hb;obtain⟨_,_,h2,_⟩:=hm2;rw [h] at h2;cases h2
 have HN1:Hid (m1 ≠ c):=by rintro rfl;obtain⟨_,_,h2,_⟩:=hm1;rw [hc0] at h2;cases h2
 have HN2:Hid (m2 ≠ c):=by rintro rfl;obtain⟨_,_,h2,_⟩:=hm2;rw [hc0] at h2;cases h2
 have HSZ:Hid (W0.heap.size<=w.heap.size):=hst.below.size
 have HDS:Hid (zAz t k=0->zE9 (zBa t k) (zAa t k)=zBa t (k+1)):=zQs hk hok
 have HFS:Hid (zB7 t (k+1)= !((zAa t k).kd == 1)):=zLI t k
 have hcl:=bL hc0
 obtain⟨a3,cap3,rfl,hcap3,hvc⟩:=hva
 have HVA:Hid (aA W0 (.slice a3 (zAa t k).ats.length cap3) (zAa t k).ats):=⟨a3,cap3,rfl,hcap3,hvc⟩
 have HC0:=hQq hc0;have HDR:=hQq hdr;have HM1:=hQq hm1;have HM2:=hQq hm2;have HF1:=hQq hf1;have HF2:=hQq hf2
 have HDL:=hQq hdl;have HDM:=hQq hdm;have HPV0:=hQq hpv;have HXS:=hQq hxs;have HOK:=hQq hok
 have HMB:=hQq (zEW k hok)
 have HG:∃ x,zAa t k=x:=⟨_,rfl⟩
 have HX0:Hid (∀ b,(Value.slice a3 (zAa t k).ats.length cap3).ownBlock=some b->0 < (zAa t k).ats.length->b ≠ c):=fun b hb h0 e=>by have:=aA.block HVA.out h0 b hb;omega
 have va0:Value:=.slice a3 (zAa t k).ats.length cap3
 clear hst hc0 hdr hm1 hm2 hf1 hf2 hdl hdm hpv hxs hok hvc
 obtain⟨x,hx⟩:=HG
 rw [hx] at HVA HPV0 HXS HFS HDS HX0 ⊢
 have HGX:=hQq hx;clear hx
 unfold trV
 by_cases s1:zAz t k=0
 case neg=>
  have HPV:Hid (zCU (zBa t k) (zB7 t k) x=zAz t k):=hQq (by rw [HPV0.out,if_pos s1])
  have HR:=hQq (zFg s1)
  have S1:=hQq s1
  have q2:(zAz t k != 0)=true:=bne_iff_ne.2 s1
  clear s1
  go_enter Tryz.func127,Tryz.ntmps127
  go_wp2_with (go_at_call 171;refine(zDC W0.heap.size _ c m1 m2 vd (zBa t k) (zB7 t k) (zAJ t k) x (.slice a3 x.ats.length cap3) (by exact bA HC0.out) hBc (by have:=HSZ.out;simp;omega) (by exact HDR.out.ext okO (eA _ _)) HDL.out HDM.out ⟨_,_,_,rfl⟩).mono ?_;rintro e w2 ⟨rfl,hb2,hok⟩;rw [HPV.out];have HB2:=hQq hb2;clear hok hb2)
  go_ret
  exact zEA HR.out S1.out (Below.trans HEX.out (Below.trans ((eA _ _).mono HSZ.out) HB2.out))
 by_cases s2:k ≠ 0/\zAT t k ≠ 0
 ·have HPV:Hid (zCU (zBa t k) (zB7 t k) x=zAT t k):=hQq (by rw [HPV0.out,if_neg (by omega),if_neg s2.1])
  have HR:=hQq (zHu s1 s2.1 s2.2)
  have S2:=hQq s2.2
  have q2:(zAT t k != 0)=true:=bne_iff_ne.2 s2.2
  clear s1 s2
  go_enter Tryz.func127,Tryz.ntmps127
  go_wp2_with (go_at_call 171;refine(zDC W0.heap.size _ c m1 m2 vd (zBa t k) (zB7 t k) (zAJ t k) x (.slice a3 x.ats.length cap3) (by exact bA HC0.out) hBc (by have:=HSZ.out;simp;omega) (by exact HDR.out.ext okO (eA _ _)) HDL.out HDM.out ⟨_,_,_,rfl⟩).mono ?_;rintro e w2 ⟨rfl,hb2,hok⟩;rw [HPV.out];have HB2:=hQq hb2;clear hok hb2)
  go_ret
  exact zEA HR.out S2.out (Below.trans HEX.out (Below.trans ((eA _ _).mono HSZ.out) HB2.out))
 have S1:=hQq s1
 have S2:Hid (k ≠ 0->zAT t k=0):=hQq (fun h=>by by_cases e:zAT t k=0;exact e;exact absurd ⟨h,e⟩ s2)
 have HPZ:Hid (zCU (zBa t k) (zB7 t k) x=0):=hQq (by
  rw [HPV0.out,if_neg (by omega)]
  by_cases e:k=0
  ·rw [if_pos e]
  ·rw [if_neg e];exact S2.out e)
 have HPV:=HPZ
 clear s1 s2
 by_cases s3:zAc x=0
 case neg=>
  have HR:=hQq (zGg HGX.out S1.out S2.out s3)
  have S3:=hQq s3
  have q2:(zAc x != 0)=true:=bne_iff_ne.2 s3
  clear s3
  go_enter Tryz.func127,Tryz.ntmps127
  go_wp2_with (first | (go_at_call 171;refine(zDC W0.heap.size _ c m1 m2 vd (zBa t k) (zB7 t k) (zAJ t k) x (.slice a3 x.ats.length cap3) (by exact bA HC0.out) hBc (by have:=HSZ.out;simp;omega) (by exact HDR.out.ext okO (eA _ _)) HDL.out HDM.out ⟨_,_,_,rfl⟩).mono ?_;rintro e w2 ⟨rfl,hb2,hok⟩;rw [HPV.out];obtain⟨vd2,hc2,hD2,hk2⟩:=hok HPZ.out;have HC2:=hQq hc2;have HD2:=hQq hD2;have HB2:Hid (Ext W0 w2):=Below.trans HEX.out (Below.trans ((eA _ _).mono HSZ.out) hb2);have HX2:=hQq (hk2 _ _ (bN w _) (fun e=>absurd (bL HC0.out) (by omega)) (fun e=>absurd (HOB.out _ e) (by omega)));have HM12:=hQq ((HM1.out.ext (eA _ _)).keepB (fun o h=>hk2 _ _ h HN1.out (fun e=>HO1.out e)));have HM22:=hQq ((HM2.out.ext (eA _ _)).keepB (fun o h=>hk2 _ _ h HN2.out (fun e=>HO2.out e)));have HK2:=hQq hk2;clear hok hc2 hD2 hk2 hb2;have y0:w2.cell? ⟨w.heap.size,0,none⟩=some (.int .i64 x.dep):=bC HX2.out 0;have y1:w2.cell? ⟨w.heap.size,1,none⟩=some (.string x.nm):=bC HX2.out 1;have y2:w2.cell? ⟨w.heap.size,2,none⟩=some (.int .i64 x.kd):=bC HX2.out 2;have y3:w2.cell? ⟨w.heap.size,3,none⟩=some (.slice a3 x.ats.length cap3):=bC HX2.out 3;have y4:w2.cell? ⟨w.heap.size,4,none⟩=some (.string x.dat):=bC HX2.out 4;have y5:w2.cell? ⟨w.heap.size,5,none⟩=some (.int .i64 x.ma):=bC HX2.out 5;have y6:w2.cell? ⟨w.heap.size,6,none⟩=some (.int .i64 x.mi):=bC HX2.out 6;have y7:w2.cell? ⟨w.heap.size,7,none⟩=some (.int .i64 x.cl):=bC HX2.out 7) | (go_at_call 172;refine(zEP x _ _ ⟨_,_,rfl⟩).mono ?_;rintro e w3 ⟨rfl,hb3⟩;have HE3:=hQq hb3;have HB3:Hid (Ext W0 w3):=Ext.trans HB2.out hb3;have HX3:=hQq (bX hb3 HX2.out);clear hb3 y0 y1 y2 y3 y4 y5 y6 y7;have y0:w3.cell? ⟨w.heap.size,0,none⟩=some (.int .i64 x.dep):=bC HX3.out 0;have y1:w3.cell? ⟨w.heap.size,1,none⟩=some (.string x.nm):=bC HX3.out 1;have y2:w3.cell? ⟨w.heap.size,2,none⟩=some (.int .i64 x.kd):=bC HX3.out 2;have y3:w3.cell? ⟨w.heap.size,3,none⟩=some (.slice a3 x.ats.length cap3):=bC HX3.out 3;have y4:w3.cell? ⟨w.heap.size,4,none⟩=some (.string x.dat):=bC HX3.out 4;have y5:w3.cell? ⟨w.heap.size,5,none⟩=some (.int .i64 x.ma):=bC HX3.out 5;have y6:w3.cell? ⟨w.heap.size,6,none⟩=some (.int .i64 x.mi):=bC HX3.out 6;have y7:w3.cell? ⟨w.heap.size,7,none⟩=some (.int .i64 x.cl):=bC HX3.out 7))
  go_ret
  exact zEA HR.out S3.out HB3.out
 by_cases s4:zBR x.ats=0
 case neg=>
  have HR:=hQq (zFh HGX.out S1.out S2.out s3 s4)
  have S4:=hQq s4
  have q2:(zBR x.ats != 0)=true:=bne_iff_ne.2 s4
  clear s4
  go_enter Tryz.func127,Tryz.ntmps127
  go_wp2_with (first | (go_at_call 171;refine(zDC W0.heap.size _ c m1 m2 vd (zBa t k) (zB7 t k) (zAJ t k) x (.slice a3 x.ats.length cap3) (by exact bA HC0.out) hBc (by have:=HSZ.out;simp;omega) (by exact HDR.out.ext okO (eA _ _)) HDL.out HDM.out ⟨_,_,_,rfl⟩).mono ?_;rintro e w2 ⟨rfl,hb2,hok⟩;rw [HPV.out];obtain⟨vd2,hc2,hD2,hk2⟩:=hok HPZ.out;have HC2:=hQq hc2;have HD2:=hQq hD2;have HB2:Hid (Ext W0 w2):=Below.trans HEX.out (Below.trans ((eA _ _).mono HSZ.out) hb2);have HX2:=hQq (hk2 _ _ (bN w _) (fun e=>absurd (bL HC0.out) (by omega)) (fun e=>absurd (HOB.out _ e) (by omega)));have HM12:=hQq ((HM1.out.ext (eA _ _)).keepB (fun o h=>hk2 _ _ h HN1.out (fun e=>HO1.out e)));have HM22:=hQq ((HM2.out.ext (eA _ _)).keepB (fun o h=>hk2 _ _ h HN2.out (fun e=>HO2.out e)));have HK2:=hQq hk2;clear hok hc2 hD2 hk2 hb2;have y0:w2.cell? ⟨w.heap.size,0,none⟩=some (.int .i64 x.dep):=bC HX2.out 0;have y1:w2.cell? ⟨w.heap.size,1,none⟩=some (.string x.nm):=bC HX2.out 1;have y2:w2.cell? ⟨w.heap.size,2,none⟩=some (.int .i64 x.kd):=bC HX2.out 2;have y3:w2.cell? ⟨w.heap.size,3,none⟩=some (.slice a3 x.ats.length cap3):=bC HX2.out 3;have y4:w2.cell? ⟨w.heap.size,4,none⟩=some (.string x.dat):=bC HX2.out 4;have y5:w2.cell? ⟨w.heap.size,5,none⟩=some (.int .i64 x.ma):=bC HX2.out 5;have y6:w2.cell? ⟨w.heap.size,6,none⟩=some (.int .i64 x.mi):=bC HX2.out 6;have y7:w2.cell? ⟨w.heap.size,7,none⟩=some (.int .i64 x.cl):=bC HX2.out 7) | (go_at_call 172;refine(zEP x _ _ ⟨_,_,rfl⟩).mono ?_;rintro e w3 ⟨rfl,hb3⟩;have HE3:=hQq hb3;have HB3:Hid (Ext W0 w3):=Ext.trans HB2.out hb3;have HX3:=hQq (bX hb3 HX2.out);clear hb3 y0 y1 y2 y3 y4 y5 y6 y7;have y0:w3.cell? ⟨w.heap.size,0,none⟩=some (.int .i64 x.dep):=bC HX3.out 0;have y1:w3.cell? ⟨w.heap.size,1,none⟩=some (.string x.nm):=bC HX3.out 1;have y2:w3.cell? ⟨w.heap.size,2,none⟩=some (.int .i64 x.kd):=bC HX3.out 2;have y3:w3.cell? ⟨w.heap.size,3,none⟩=some (.slice a3 x.ats.length cap3):=bC HX3.out 3;have y4:w3.cell? ⟨w.heap.size,4,none⟩=some (.string x.dat):=bC HX3.out 4;have y5:w3.cell? ⟨w.heap.size,5,none⟩=some (.int .i64 x.ma):=bC HX3.out 5;have y6:w3.cell? ⟨w.heap.size,6,none⟩=some (.int .i64 x.mi):=bC HX3.out 6;have y7:w3.cell? ⟨w.heap.size,7,none⟩=some (.int .i64 x.cl):=bC HX3.out 7) | (go_at_call 104;refine(zC8 _ x.ats _ (HVA.out.ext HB3.out) HXS.out.2).mono ?_;rintro e w4 ⟨rfl,hb4⟩;have HE4:=hQq hb4;have HB4:Hid (Ext W0 w4):=Ext.trans HB3.out hb4;have HX4:=hQq (bX hb4 HX3.out);clear hb4 y0 y1 y2 y3 y4 y5 y6 y7;have y0:w4.cell? ⟨w.heap.size,0,none⟩=some (.int .i64 x.dep):=bC HX4.out 0;have y1:w4.cell? ⟨w.heap.size,1,none⟩=some (.string x.nm):=bC HX4.out 1;have y2:w4.cell? ⟨w.heap.size,2,none⟩=some (.int .i64 x.kd):=bC HX4.out 2;have y3:w4.cell? ⟨w.heap.size,3,none⟩=some (.slice a3 x.ats.length cap3):=bC HX4.out 3;have y4:w4.cell? ⟨w.heap.size,4,none⟩=some (.string x.dat):=bC HX4.out 4;have y5:w4.cell? ⟨w.heap.size,5,none⟩=some (.int .i64 x.ma):=bC HX4.out 5;have y6:w4.cell? ⟨w.heap.size,6,none⟩=some (.int .i64 x.mi):=bC HX4.out 6;have y7:w4.cell? ⟨w.heap.size,7,none⟩=some (.int .i64 x.cl):=bC HX4.out 7;have HC4:=hQq (bX HE4.out (bX HE3.out HC2.out));have z1:w4.cell? ⟨c,1,none⟩=some (.bool (zB7 t k)):=bC HC4.out 1;have z2:∀ j,w4.frozen? ⟨c,j,none⟩=false:=fun j=>bT HC4.out j))
  go_ret
  exact zEA HR.out S4.out HB4.out
 have HCL:=hQq (zBL HGX.out S1.out S2.out s3 s4)
 have hex:∃ y vy,(0 < x.cl->x.cl<=zAJ t k->F1 x.cl=some (trV y vy)/\aA W0 vy y.ats/\y.ats.length<=1000000)/\zDp (zAJ t k) (zA5 y x) x=zF4 t k:=by
  by_cases hcc:0 < x.cl/\x.cl<=zAJ t k
  ·obtain⟨i,vy,hi,hic,hF,hav⟩:=HF1.out x.cl hcc.1 hcc.2
   refine⟨zAa t i,vy,fun _ _=>⟨hF,hav,?_⟩,?_⟩
   ·rw [zAm t i (by omega)];exact(hsm _ (List.getElem_mem _)).2.2
   ·have:=zSN (t:=t) (k:=k) HOK.out hi (fun _ _=>by rw [HGX.out];exact hic)
    rw [HGX.out] at this;exact this
  ·refine⟨x,va0,fun h1 h2=>absurd ⟨h1,h2⟩ hcc,?_⟩
   have:=zQF (t:=t) (k:=k) HOK.out (zA5 x x) (by rw [HGX.out];exact hcc)
   rw [HGX.out] at this;exact this
 obtain⟨y,vy,hyp,hce⟩:=hex
 have HYP:=hQq hyp;have HCE:=hQq hce;clear hyp hce
 have HSM:=hQq hsm;clear hsm
 by_cases s5:zF4 t k=0
 case neg=>
  have S5:=hQq s5
  clear s5
  go_enter Tryz.func127,Tryz.ntmps127
  go_wp2_with (first | (go_at_call 171;refine(zDC W0.heap.size _ c m1 m2 vd (zBa t k) (zB7 t k) (zAJ t k) x (.slice a3 x.ats.length cap3) (by exact bA HC0.out) hBc (by have:=HSZ.out;simp;omega) (by exact HDR.out.ext okO (eA _ _)) HDL.out HDM.out ⟨_,_,_,rfl⟩).mono ?_;rintro e w2 ⟨rfl,hb2,hok⟩;rw [HPV.out];obtain⟨vd2,hc2,hD2,hk2⟩:=hok HPZ.out;have HC2:=hQq hc2;have HD2:=hQq hD2;have HB2:Hid (Ext W0 w2):=Below.trans HEX.out (Below.trans ((eA _ _).mono HSZ.out) hb2);have HX2:=hQq (hk2 _ _ (bN w _) (fun e=>absurd (bL HC0.out) (by omega)) (fun e=>absurd (HOB.out _ e) (by omega)));have HM12:=hQq ((HM1.out.ext (eA _ _)).keepB (fun o h=>hk2 _ _ h HN1.out (fun e=>HO1.out e)));have HM22:=hQq ((HM2.out.ext (eA _ _)).keepB (fun o h=>hk2 _ _ h HN2.out (fun e=>HO2.out e)));have HK2:=hQq hk2;clear hok hc2 hD2 hk2 hb2;have y0:w2.cell? ⟨w.heap.size,0,none⟩=some (.int .i64 x.dep):=bC HX2.out 0;have y1:w2.cell? ⟨w.heap.size,1,none⟩=some (.string x.nm):=bC HX2.out 1;have y2:w2.cell? ⟨w.heap.size,2,none⟩=some (.int .i64 x.kd):=bC HX2.out 2;have y3:w2.cell? ⟨w.heap.size,3,none⟩=some (.slice a3 x.ats.length cap3):=bC HX2.out 3;have y4:w2.cell? ⟨w.heap.size,4,none⟩=some (.string x.dat):=bC HX2.out 4;have y5:w2.cell? ⟨w.heap.size,5,none⟩=some (.int .i64 x.ma):=bC HX2.out 5;have y6:w2.cell? ⟨w.heap.size,6,none⟩=some (.int .i64 x.mi):=bC HX2.out 6;have y7:w2.cell? ⟨w.heap.size,7,none⟩=some (.int .i64 x.cl):=bC HX2.out 7) | (go_at_call 172;refine(zEP x _ _ ⟨_,_,rfl⟩).mono ?_;rintro e w3 ⟨rfl,hb3⟩;have HE3:=hQq hb3;have HB3:Hid (Ext W0 w3):=Ext.trans HB2.out hb3;have HX3:=hQq (bX hb3 HX2.out);clear hb3 y0 y1 y2 y3 y4 y5 y6 y7;have y0:w3.cell? ⟨w.heap.size,0,none⟩=some (.int .i64 x.dep):=bC HX3.out 0;have y1:w3.cell? ⟨w.heap.size,1,none⟩=some (.string x.nm):=bC HX3.out 1;have y2:w3.cell? ⟨w.heap.size,2,none⟩=some (.int .i64 x.kd):=bC HX3.out 2;have y3:w3.cell? ⟨w.heap.size,3,none⟩=some (.slice a3 x.ats.length cap3):=bC HX3.out 3;have y4:w3.cell? ⟨w.heap.size,4,none⟩=some (.string x.dat):=bC HX3.out 4;have y5:w3.cell? ⟨w.heap.size,5,none⟩=some (.int .i64 x.ma):=bC HX3.out 5;have y6:w3.cell? ⟨w.heap.size,6,none⟩=some (.int .i64 x.mi):=bC HX3.out 6;have y7:w3.cell? ⟨w.heap.size,7,none⟩=some (.int .i64 x.cl):=bC HX3.out 7) | (go_at_call 104;refine(zC8 _ x.ats _ (HVA.out.ext HB3.out) HXS.out.2).mono ?_;rintro e w4 ⟨rfl,hb4⟩;have HE4:=hQq hb4;have HB4:Hid (Ext W0 w4):=Ext.trans HB3.out hb4;have HX4:=hQq (bX hb4 HX3.out);clear hb4 y0 y1 y2 y3 y4 y5 y6 y7;have y0:w4.cell? ⟨w.heap.size,0,none⟩=some (.int .i64 x.dep):=bC HX4.out 0;have y1:w4.cell? ⟨w.heap.size,1,none⟩=some (.string x.nm):=bC HX4.out 1;have y2:w4.cell? ⟨w.heap.size,2,none⟩=some (.int .i64 x.kd):=bC HX4.out 2;have y3:w4.cell? ⟨w.heap.size,3,none⟩=some (.slice a3 x.ats.length cap3):=bC HX4.out 3;have y4:w4.cell? ⟨w.heap.size,4,none⟩=some (.string x.dat):=bC HX4.out 4;have y5:w4.cell? ⟨w.heap.size,5,none⟩=some (.int .i64 x.ma):=bC HX4.out 5;have y6:w4.cell? ⟨w.heap.size,6,none⟩=some (.int .i64 x.mi):=bC HX4.out 6;have y7:w4.cell? ⟨w.heap.size,7,none⟩=some (.int .i64 x.cl):=bC HX4.out 7;have HC4:=hQq (bX HE4.out (bX HE3.out HC2.out));have z1:w4.cell? ⟨c,1,none⟩=some (.bool (zB7 t k)):=bC HC4.out 1;have z2:∀ j,w4.frozen? ⟨c,j,none⟩=false:=fun j=>bT HC4.out j) | (go_at_call 173;refine(zKc W0.heap.size _ c m1 m2 n1 n2 vd2 (x.kd != 1) (zAJ t k) F1 F2 x y (.slice a3 x.ats.length cap3) vy (zAi t x.cl k) (by rw [bS HC4.out];rfl) (by exact((HM12.out.ext HE3.out).ext HE4.out).setCell _ _) (by exact((HM22.out.ext HE3.out).ext HE4.out).setCell _ _) hBc hB1 hB2 (by exact Nat.le_trans HB4.out.size (by simp)) h12 HMB.out.1 (by have:=HMB.out.2;omega) (by have:=zEJ t x.cl k;omega) (by exact(HVA.out.ext HB4.out).setC HX0.out) HXS.out.1 (fun h1 h2=>by obtain⟨a,b,d⟩:=HYP.out h1 h2;exact⟨a,(b.ext HB4.out).setC (fun b' hb' h0 e=>by have:=aA.block b h0 b' hb';omega),d⟩) (fun h=>HF2.out x.cl h)).mono ?_;rintro e w6 ⟨rfl,hb6,hok6⟩;rw [HCE.out];have HB6:Hid (Below W0.heap.size W0 w6):=hQq (Below.trans (HB4.out.setCell (p:=⟨c,1,none⟩) hBc _) hb6);have HOK6:=hQq hok6;clear hok6 hb6))
  go_ret
  exact zEA HCL.out S5.out HB6.out
 have S5:=hQq s5
 clear s5
 go_enter Tryz.func127,Tryz.ntmps127
 go_wp2_with (first | (go_at_call 171;refine(zDC W0.heap.size _ c m1 m2 vd (zBa t k) (zB7 t k) (zAJ t k) x (.slice a3 x.ats.length cap3) (by exact bA HC0.out) hBc (by have:=HSZ.out;simp;omega) (by exact HDR.out.ext okO (eA _ _)) HDL.out HDM.out ⟨_,_,_,rfl⟩).mono ?_;rintro e w2 ⟨rfl,hb2,hok⟩;rw [HPV.out];obtain⟨vd2,hc2,hD2,hk2⟩:=hok HPZ.out;have HC2:=hQq hc2;have HD2:=hQq hD2;have HB2:Hid (Ext W0 w2):=Below.trans HEX.out (Below.trans ((eA _ _).mono HSZ.out) hb2);have HX2:=hQq (hk2 _ _ (bN w _) (fun e=>absurd (bL HC0.out) (by omega)) (fun e=>absurd (HOB.out _ e) (by omega)));have HM12:=hQq ((HM1.out.ext (eA _ _)).keepB (fun o h=>hk2 _ _ h HN1.out (fun e=>HO1.out e)));have HM22:=hQq ((HM2.out.ext (eA _ _)).keepB (fun o h=>hk2 _ _ h HN2.out (fun e=>HO2.out e)));have HK2:=hQq hk2;clear hok hc2 hD2 hk2 hb2;have y0:w2.cell? ⟨w.heap.size,0,none⟩=some (.int .i64 x.dep):=bC HX2.out 0;have y1:w2.cell? ⟨w.heap.size,1,none⟩=some (.string x.nm):=bC HX2.out 1;have y2:w2.cell? ⟨w.heap.size,2,none⟩=some (.int .i64 x.kd):=bC HX2.out 2;have y3:w2.cell? ⟨w.heap.size,3,none⟩=some (.slice a3 x.ats.length cap3):=bC HX2.out 3;have y4:w2.cell? ⟨w.heap.size,4,none⟩=some (.string x.dat):=bC HX2.out 4;have y5:w2.cell? ⟨w.heap.size,5,none⟩=some (.int .i64 x.ma):=bC HX2.out 5;have y6:w2.cell? ⟨w.heap.size,6,none⟩=some (.int .i64 x.mi):=bC HX2.out 6;have y7:w2.cell? ⟨w.heap.size,7,none⟩=some (.int .i64 x.cl):=bC HX2.out 7) | (go_at_call 172;refine(zEP x _ _ ⟨_,_,rfl⟩).mono ?_;rintro e w3 ⟨rfl,hb3⟩;have HE3:=hQq hb3;have HB3:Hid (Ext W0 w3):=Ext.trans HB2.out hb3;have HX3:=hQq (bX hb3 HX2.out);clear hb3 y0 y1 y2 y3 y4 y5 y6 y7;have y0:w3.cell? ⟨w.heap.size,0,none⟩=some (.int .i64 x.dep):=bC HX3.out 0;have y1:w3.cell? ⟨w.heap.size,1,none⟩=some (.string x.nm):=bC HX3.out 1;have y2:w3.cell? ⟨w.heap.size,2,none⟩=some (.int .i64 x.kd):=bC HX3.out 2;have y3:w3.cell? ⟨w.heap.size,3,none⟩=some (.slice a3 x.ats.length cap3):=bC HX3.out 3;have y4:w3.cell? ⟨w.heap.size,4,none⟩=some (.string x.dat):=bC HX3.out 4;have y5:w3.cell? ⟨w.heap.size,5,none⟩=some (.int .i64 x.ma):=bC HX3.out 5;have y6:w3.cell? ⟨w.heap.size,6,none⟩=some (.int .i64 x.mi):=bC HX3.out 6;have y7:w3.cell? ⟨w.heap.size,7,none⟩=some (.int .i64 x.cl):=bC HX3.out 7) | (go_at_call 104;refine(zC8 _ x.ats _ (HVA.out.ext HB3.out) HXS.out.2).mono ?_;rintro e w4 ⟨rfl,hb4⟩;have HE4:=hQq hb4;have HB4:Hid (Ext W0 w4):=Ext.trans HB3.out hb4;have HX4:=hQq (bX hb4 HX3.out);clear hb4 y0 y1 y2 y3 y4 y5 y6 y7;have y0:w4.cell? ⟨w.heap.size,0,none⟩=some (.int .i64 x.dep):=bC HX4.out 0;have y1:w4.cell? ⟨w.heap.size,1,none⟩=some (.string x.nm):=bC HX4.out 1;have y2:w4.cell? ⟨w.heap.size,2,none⟩=some (.int .i64 x.kd):=bC HX4.out 2;have y3:w4.cell? ⟨w.heap.size,3,none⟩=some (.slice a3 x.ats.length cap3):=bC HX4.out 3;have y4:w4.cell? ⟨w.heap.size,4,none⟩=some (.string x.dat):=bC HX4.out 4;have y5:w4.cell? ⟨w.heap.size,5,none⟩=some (.int .i64 x.ma):=bC HX4.out 5;have y6:w4.cell? ⟨w.heap.size,6,none⟩=some (.int .i64 x.mi):=bC HX4.out 6;have y7:w4.cell? ⟨w.heap.size,7,none⟩=some (.int .i64 x.cl):=bC HX4.out 7;have HC4:=hQq (bX HE4.out (bX HE3.out HC2.out));have z1:w4.cell? ⟨c,1,none⟩=some (.bool (zB7 t k)):=bC HC4.out 1;have z2:∀ j,w4.frozen? ⟨c,j,none⟩=false:=fun j=>bT HC4.out j) | (go_at_call 173;refine(zKc W0.heap.size _ c m1 m2 n1 n2 vd2 (x.kd != 1) (zAJ t k) F1 F2 x y (.slice a3 x.ats.length cap3) vy (zAi t x.cl k) (by rw [bS HC4.out];rfl) (by exact((HM12.out.ext HE3.out).ext HE4.out).setCell _ _) (by exact((HM22.out.ext HE3.out).ext HE4.out).setCell _ _) hBc hB1 hB2 (by exact Nat.le_trans HB4.out.size (by simp)) h12 HMB.out.1 (by have:=HMB.out.2;omega) (by have:=zEJ t x.cl k;omega) (by exact(HVA.out.ext HB4.out).setC HX0.out) HXS.out.1 (fun h1 h2=>by obtain⟨a,b,d⟩:=HYP.out h1 h2;exact⟨a,(b.ext HB4.out).setC (fun b' hb' h0 e=>by have:=aA.block b h0 b' hb';omega),d⟩) (fun h=>HF2.out x.cl h)).mono ?_;rintro e w6 ⟨rfl,hb6,hok6⟩;rw [HCE.out];have HB6:Hid (Below W0.heap.size W0 w6):=hQq (Below.trans (HB4.out.setCell (p:=⟨c,1,none⟩) hBc _) hb6);have HOK6:=hQq hok6;clear hok6 hb6))
 go_ret
 refine⟨by rw [HCL.out];rfl,HB6.out,fun _=>⟨⟨?_,HB6.out⟩,?_⟩⟩
 case refine_2=>
  intro b cs E f hb hE hbc
  have hkeep:=(HOK6.out (HCE.out.trans S5.out)).keep
  have hw2:=HK2.out b _ (bA hb) hbc (fun e=>by obtain⟨_,_,_,h⟩:=HDR.out.row rfl b e;rw [hb] at h;cases h;exact hE rfl)
  have hw5:=bSn (bX HE4.out (bX HE3.out hw2)) ⟨c,1,none⟩ (.bool (x.kd != 1)) hbc
  refine hkeep b _ hw5 hbc ?_ ?_
  ·rintro rfl;obtain⟨_,_,h2,_⟩:=HM1.out;rw [hb] at h2;cases h2
  ·rintro rfl;obtain⟨_,_,h2,_⟩:=HM2.out;rw [hb] at h2;cases h2
 obtain⟨q1,q2,F1',F2',r1,r2,r3,r4,r5⟩:=(HOK6.out (HCE.out.trans S5.out)).ex
 have hkeep:=(HOK6.out (HCE.out.trans S5.out)).keep
 have hcb:=zEK S5.out
 rw [HGX.out] at hcb
 refine⟨vd2,q1,q2,F1',F2',?_,?_,r2,r3,?_,?_⟩
 ·rw [r1,HFS.out,zAJ.eq_2,HGX.out];rfl
 ·rw [<- HDS.out S1.out]
  have h5:=((HD2.out.ext okO HE3.out).ext okO HE4.out).other okO (zD6 (o:=1) HC4.out hBc (.bool (x.kd != 1))) (by decide) (by simp [cdO])
  refine h5.keepO fun g hg o ho=>hkeep g o ho ?_ ?_ ?_
  ·rintro rfl;obtain⟨_,_,_,h⟩:=h5.row rfl g hg;rw [bS HC4.out] at h;cases h
  ·rintro rfl;obtain⟨_,_,_,h⟩:=h5.row rfl g hg;obtain⟨_,_,h2,_⟩:=((HM12.out.ext HE3.out).ext HE4.out).setCell ⟨c,1,none⟩ (.bool (x.kd != 1));rw [h] at h2;cases h2
  ·rintro rfl;obtain⟨_,_,_,h⟩:=h5.row rfl g hg;obtain⟨_,_,h2,_⟩:=((HM22.out.ext HE3.out).ext HE4.out).setCell ⟨c,1,none⟩ (.bool (x.kd != 1));rw [h] at h2;cases h2
 ·rw [r4]
  have:=zOh (t:=t) (k:=k) HF1.out (va:=.slice a3 x.ats.length cap3) (by rw [HGX.out];exact HVA.out) (by rw [HGX.out];exact hcb.1) (by rw [HGX.out];exact hcb.2.1)
  rw [HGX.out] at this;exact this
 ·rw [r5]
  have:=zOm (t:=t) (k:=k) HF2.out
  rw [HGX.out] at this;exact this
theorem zDa (B:Nat) (v:Value) (t:List TrN) (w:World) (hv:zCt B w v t) (hsm:zAP t) :
  zAt Tryz.prog 63 #[v] w (.tuple #[.int .i64 (zFp t),.int .i64 (zAs t)]):=by
 unfold zAt
 obtain⟨aa,cap,rfl⟩:=hv.form
 have HV:=hQq hv;clear hv
 have HSM:=hQq hsm;clear hsm
 by_cases h0:t.length=0
 ·obtain⟨e1,e2⟩:=zBj (zKa h0)
  rw [e1,e2];clear e1 e2
  go_enter Tryz.func63,Tryz.ntmps63
  go_wp2
  go_ret2
  exact⟨rfl,bR _ _⟩
 have g0:(((t.length:Nat):Int) == 0)=false:=nB (by omega)
 have g1:0 < t.length:=by omega
 by_cases h1:120 < t.length
 ·obtain⟨e1,e2⟩:=zBj (zIj h1)
  rw [e1,e2];clear e1 e2
  go_enter Tryz.func63,Tryz.ntmps63
  go_wp2
  go_ret2
  exact⟨rfl,bR _ _⟩
 have H0:=hQq h0;clear h0
 have hmm:=@run_makeMap Tryz.prog
 go_enter Tryz.func63,Tryz.ntmps63
 go_wp2
 clear g0
 go_loopw [5,6,7,23] (fun _ _ _ i w'=>∃ (wi:World) (k:Nat),wi=w'/\k<=t.length/\i= .int .i64 k/\zAW t k/\zOt w wi (w.heap.size+1+1) w.heap.size (w.heap.size+1) t k/\wi.heap[w.heap.size+1+1+1]? = some (.cells #[.pointer (some ⟨w.heap.size+1+1,0,none⟩)] 144 (0,0))) (fun _ _ _ i _=>t.length - (intOf i).toNat)
 case atStart=>
  refine⟨_,0,rfl,Nat.zero_le _,rfl,fun j hj=>absurd hj (by omega),⟨⟨.slice none 0 0,0,0,fun _=>none,fun _=>none,?_,zAg.nil _ _ _,?_,?_,?_,?_⟩,?_⟩,?_⟩
  ·exact bA (zAH (by simp))
  ·exact(((zBI w kI).ext (eA _ _)).ext (eA _ _)).ext (eA _ _)
  ·exact((zSh (w:=w.alloc (Obj.map #[] 0)) (by simp)).ext (eA _ _)).ext (eA _ _)
  ·intro q h1 h2;simp [zAJ] at h2;omega
  ·intro q h1;rfl
  ·exact(((eA w _).trans (eA _ _)).trans (eA _ _)).trans (eA _ _)
  ·exact zAH (by simp)
 case round=>
  obtain⟨wi,k,rfl,hk,rfl,hok,hst,hpb⟩:=hrel
  have HOK:=hQq hok;have HST:=hQq hst;have HPB:=hQq hpb
  clear hok
  have q4:wi.cell? ⟨w.heap.size+1+1+1,0,none⟩=some (.pointer (some ⟨w.heap.size+1+1,0,none⟩)):=bC hpb 0
  have HB:Hid (Ext w wi):=hst.below
  clear hst
  by_cases hlt:k < t.length
  case neg=>
   obtain rfl:k=t.length:=by omega
   have hpl:=bL hpb
   clear hpb
   have hmf:∀ (fn:Fn) (first cap:Array Value) (w:World),(Instr.makeFunc fn first cap).run Tryz.prog w= .ok (.func fn first cap) w:=fun _ _ _ _=>rfl
   have HX:Hid (zAt Tryz.prog 83 #[.slice aa t.length cap,.func (.func 128) #[] #[.pointer (some ⟨w.heap.size+1+1+1,0,none⟩)]] wi (.int .i64 (zG1 (zDM t) t.length))):=by
    obtain⟨vd,n1,n2,F1,F2,hc0,hdr,hm1,hm2,hf1,hf2⟩:=HST.out.ex
    exact zON B wi _ t _ _ (HV.out.ext okT HB.out) (by omega) fun k w' a n cap hk he=>
     zRB w' _ _ _ _ n2 _ _ _ F2 (zAa t k) _ (zAi t (zAa t k).cl t.length) ((eC he hpl).trans q4) (Nat.lt_of_lt_of_le hpl he.size) (bX he hc0) (hm2.ext he) ⟨_,_,_,rfl⟩ (fun h=>hf2 _ h)
   have HX:=HX
   unfold zAt at HX
   clear HST HPB
   rcases zM5 (p:=zDM t) t.length with hn | ⟨i,hi,hl,hp⟩
   ·have HR:=hQq (zBj (zEO H0.out h1 HOK.out hn))
    rw [zCk hn] at HX
    clear hn
    go_wp2_with (refine HX.out.mono ?_;rintro e w1 ⟨rfl,hb1⟩;replace HB:=hQq (Ext.trans HB.out hb1);clear hb1)
    go_ret2
    exact⟨by rw [HR.out.1,HR.out.2];rfl,HB.out⟩
   ·have HR:=hQq (zBj (zIk h1 HOK.out hi hl hp))
    rw [zBX hi hl hp] at HX
    clear hl hp
    have jj:(decide ((0:Int)<=(i:Int)))=true:=zVz
    go_wp2_with (refine HX.out.mono ?_;rintro e w1 ⟨rfl,hb1⟩;replace HB:=hQq (Ext.trans HB.out hb1);clear hb1)
    go_ret2
    exact⟨by rw [HR.out.1,HR.out.2];rfl,HB.out⟩
  obtain⟨b,off,va,hex,hbx,hva,xx⟩:=HV.out.tr k hlt
  cases hex
  have XX:=zAG HB.out hbx xx
  have HGT:=hQq (zAm t k hlt)
  have hvx:=zAj.attrs hva
  obtain⟨a3,cap3,rfl⟩:=hva.form
  rw [<- HGT.out] at XX hvx
  have HVX:Hid (aA w (.slice a3 (zAa t k).ats.length cap3) (zAa t k).ats):=hQq (by rw [HGT.out] at hvx ⊢;exact hvx)
  have XX:Hid _:=hQq XX
  clear xx hva hvx
  have j1:((k:Nat):Int) < (t.length:Int):=by omega
  have j0:(0:Int)<=(k:Int):=by omega
  obtain⟨c0,c1,c2,c3,c4,c5,c6,c7⟩:=XX.out
  have hpl:=bL hpb
  clear hpb
  by_cases hx:zBf t k=0
  case neg=>
   have HR:=hQq (zBj (zBF h1 hlt HOK.out hx))
   have q2:(zBf t k != 0)=true:=bne_iff_ne.2 hx
   clear hx
   go_wp2_with (go_at_call 127;refine(zMi w _ (w.heap.size+1+1) w.heap.size (w.heap.size+1) t k (.slice a3 (zAa t k).ats.length cap3) (by exact HST.out.ext (eA _ _)) (by omega) (by omega) (by omega) (by omega) hlt (by omega) HOK.out HVX.out HSM.out).mono ?_;rintro e w2 ⟨rfl,hb2,hok2⟩;have HB2:=hQq hb2;clear hb2 hok2)
   go_ret2
   exact⟨by rw [HR.out.1,HR.out.2];rfl,HB2.out⟩
  have q2:(zBf t k != 0)=false:=bne_eq_false_iff_eq.2 hx
  have HNX:=hQq hx
  clear hx
  go_wp2_with (go_at_call 127;refine(zMi w _ (w.heap.size+1+1) w.heap.size (w.heap.size+1) t k (.slice a3 (zAa t k).ats.length cap3) (by exact HST.out.ext (eA _ _)) (by omega) (by omega) (by omega) (by omega) hlt (by omega) HOK.out HVX.out HSM.out).mono ?_;rintro e w2 ⟨rfl,hb2,hok2⟩;have HB2:=hQq hb2;have HK2:=hQq hok2;clear hb2 hok2)
  go_roundw
  case rel=>exact⟨_,k+1,rfl,by omega,by go_num,HOK.out.step HNX.out,(HK2.out HNX.out).1,(HK2.out HNX.out).2 _ _ _ _ (bA HPB.out) (by decide) (by omega)⟩
  case measure=>simp [intOf] <;> omega
theorem zT9 (B:Nat) (w:World) (x:BrN) (va vr:Value) (hx:zAK B w va x.ats) (hB:B<=w.heap.size) (hl:x.ats.length<=1000) (hr:∃ a n cap,vr= .slice a n cap) :
  Calls Tryz.prog 139 #[brV x va vr] w (zRn w x):=by
 obtain⟨a4,n4,cap4,rfl⟩:=hr
 obtain⟨a3,cap3,rfl⟩:=hx.form
 have HX:=hQq hx
 clear hx
 unfold brV
 go_enter Tryz.func139,Tryz.ntmps139
 go_wp2
 refine nW (P:=fun W=>Code.wp _ _ _ _ W) _ ?_
 intro W hW
 have HXB:Hid (W.heap[w.heap.size]? = some (.cells #[.int .i64 x.dep,.string x.nm,.int .i64 x.kd,.slice a3 x.ats.length cap3,.string x.dat,.int .i64 x.ma,.int .i64 x.mi,.int .i64 x.cl,.bool x.opq,.slice a4 n4 cap4] 46 (0,0))):=hQq (by rw [hW];exact bA (bN w _))
 have HZB:Hid (W.heap[w.heap.size+1]? = some (.cells #[.int .i64 0,.string ⟨#[]⟩,.int .i64 0,.slice none 0 0,.string ⟨#[]⟩,.int .i64 0,.int .i64 0,.int .i64 0] 59 (0,0))):=hQq (by rw [hW];exact zAH (by simp))
 have HE:Hid (Ext w W):=hQq (by rw [hW];exact(eA _ _).trans (eA _ _))
 clear hW
 have c0:W.cell? ⟨w.heap.size,0,none⟩=some (.int .i64 x.dep):=bC HXB.out 0
 have c1:W.cell? ⟨w.heap.size,1,none⟩=some (.string x.nm):=bC HXB.out 1
 have c2:W.cell? ⟨w.heap.size,2,none⟩=some (.int .i64 x.kd):=bC HXB.out 2
 have c3:W.cell? ⟨w.heap.size,3,none⟩=some (.slice a3 x.ats.length cap3):=bC HXB.out 3
 have c4:W.cell? ⟨w.heap.size,4,none⟩=some (.string x.dat):=bC HXB.out 4
 have c5:W.cell? ⟨w.heap.size,5,none⟩=some (.int .i64 x.ma):=bC HXB.out 5
 have c6:W.cell? ⟨w.heap.size,6,none⟩=some (.int .i64 x.mi):=bC HXB.out 6
 have c7:W.cell? ⟨w.heap.size,7,none⟩=some (.int .i64 x.cl):=bC HXB.out 7
 have fz:∀ j,W.frozen? ⟨w.heap.size+1,j,none⟩=false:=fun j=>bT HZB.out j
 have HX1:Hid (∀ o,zAK W.heap.size (W.alloc o).drew (.slice a3 x.ats.length cap3) x.ats):=hQq (fun o=>(HX.out.mono okA (Nat.le_trans hB HE.out.size)).ext okA ((HE.out.trans (eA _ _)).trans (eD _)))
 have HF1:Hid (zAg cdA W.heap.size (W.alloc (.cells #[] cdA.e)).drew (.slice (some ⟨W.heap.size,0,none⟩) 0 0) []):=hQq ((zAg.fresh cdA W).ext okA (eD _))
 have fzA:∀ o j,(W.alloc o).drew.frozen? ⟨w.heap.size+1,j,none⟩=false:=fun o j=>bT (bX ((eA W o).trans (eD _)) HZB.out) j
 go_region_held3 (fun w'=>w'.cell? ⟨w.heap.size,0,none⟩=some (.int .i64 x.dep)/\w'.cell? ⟨w.heap.size,1,none⟩=some (.string x.nm)/\w'.cell? ⟨w.heap.size,2,none⟩=some (.int .i64 x.kd)/\w'.cell? ⟨w.heap.size,3,none⟩=some (.slice a3 x.ats.length cap3)/\w'.cell? ⟨w.heap.size,4,none⟩=some (.string x.dat)/\w'.cell? ⟨w.heap.size,5,none⟩=some (.int .i64 x.ma)/\w'.cell? ⟨w.heap.size,6,none⟩=some (.int .i64 x.mi)/\w'.cell? ⟨w.heap.size,7,none⟩=some (.int .i64 x.cl)/\∀ j,w'.frozen? ⟨w.heap.size+1,j,none⟩=false) (first | go_keep | skip)
  ((refine zCO okA (.tmp 9) (.tmp 11) (by rfl) (.slice (some ⟨W.heap.size,0,none⟩) 0 0) _ [] x.ats W _ (by rfl) (by rfl) (by exact HF1.out) (by exact HX1.out _) (by exact(eA _ _).trans (eD _)) (by simp) (by simp;omega) ?_;intro v5 w3 ha;have HAP:=hQq ha;clear ha;have HE3:Hid (Ext W w3):=HAP.out.below;have X3:=hQq (zFZ HXB.out HE3.out);have Z3:=hQq (zFZ HZB.out HE3.out);obtain⟨a5,cap5,rfl⟩:=HAP.out.own.form;have d0:w3.cell? ⟨w.heap.size,0,none⟩=some (.int .i64 x.dep):=bC X3.out 0;have d1:w3.cell? ⟨w.heap.size,1,none⟩=some (.string x.nm):=bC X3.out 1;have d2:w3.cell? ⟨w.heap.size,2,none⟩=some (.int .i64 x.kd):=bC X3.out 2;have d3:w3.cell? ⟨w.heap.size,3,none⟩=some (.slice a3 x.ats.length cap3):=bC X3.out 3;have d4:w3.cell? ⟨w.heap.size,4,none⟩=some (.string x.dat):=bC X3.out 4;have d5:w3.cell? ⟨w.heap.size,5,none⟩=some (.int .i64 x.ma):=bC X3.out 5;have d6:w3.cell? ⟨w.heap.size,6,none⟩=some (.int .i64 x.mi):=bC X3.out 6;have d7:w3.cell? ⟨w.heap.size,7,none⟩=some (.int .i64 x.cl):=bC X3.out 7;have fz3:∀ j,w3.frozen? ⟨w.heap.size+1,j,none⟩=false:=fun j=>bT Z3.out j;have r0:w3.cell? ⟨w.heap.size+1,0,none⟩=some (.int .i64 0):=bC Z3.out 0;have r1:w3.cell? ⟨w.heap.size+1,1,none⟩=some (.string ⟨#[]⟩):=bC Z3.out 1;have r2:w3.cell? ⟨w.heap.size+1,2,none⟩=some (.int .i64 0):=bC Z3.out 2;have r3:w3.cell? ⟨w.heap.size+1,3,none⟩=some (.slice none 0 0):=bC Z3.out 3;have r4:w3.cell? ⟨w.heap.size+1,4,none⟩=some (.string ⟨#[]⟩):=bC Z3.out 4;have r5:w3.cell? ⟨w.heap.size+1,5,none⟩=some (.int .i64 0):=bC Z3.out 5;have r6:w3.cell? ⟨w.heap.size+1,6,none⟩=some (.int .i64 0):=bC Z3.out 6;have r7:w3.cell? ⟨w.heap.size+1,7,none⟩=some (.int .i64 0):=bC Z3.out 7;have hsz:w.heap.size+1 < w3.heap.size:=bL Z3.out))
 refine nW (P:=fun W=>Exit.then _ _ _ _ W) _ ?_
 intro W2 hW2
 replace hW2:W2=zGa w3 (w.heap.size+1) 0 [.int .i64 x.dep,.string x.nm,.int .i64 x.kd,.slice a5 x.ats.length cap5,.string x.dat,.int .i64 x.ma,.int .i64 x.mi,.int .i64 x.cl]:=hW2
 have HZ2:Hid (W2.heap[w.heap.size+1]? = some (.cells #[.int .i64 x.dep,.string x.nm,.int .i64 x.kd,.slice a5 x.ats.length cap5,.string x.dat,.int .i64 x.ma,.int .i64 x.mi,.int .i64 x.cl] 59 (0,0))):=hQq (by rw [hW2,zCY _ _ _ _ Z3.out];rfl)
 have HB2:Hid (Ext w W2):=hQq (by rw [hW2];exact zBG (by omega) _ _ _ (HE.out.trans HE3.out))
 have HO:Hid (zAK 0 w3 (.slice a5 x.ats.length cap5) x.ats):=hQq ((zAg.le (B':=0) HAP.out.own okA (fun _ _ _ h=>h) (Nat.zero_le _)).in okA)
 have HA2:Hid (zAK 0 W2 (.slice a5 x.ats.length cap5) x.ats):=hQq (by rw [hW2];exact HO.out.chg okA (zCX (by omega) Z3.out _) (by decide) (by decide))
 clear hW2 c0 c1 c2 c3 c4 c5 c6 c7 d0 d1 d2 d3 d4 d5 d6 d7 r0 r1 r2 r3 r4 r5 r6 r7
 have t0:W2.cell? ⟨w.heap.size+1,0,none⟩=some (.int .i64 x.dep):=bC HZ2.out 0
 have t1:W2.cell? ⟨w.heap.size+1,1,none⟩=some (.string x.nm):=bC HZ2.out 1
 have t2:W2.cell? ⟨w.heap.size+1,2,none⟩=some (.int .i64 x.kd):=bC HZ2.out 2
 have t3:W2.cell? ⟨w.heap.size+1,3,none⟩=some (.slice a5 x.ats.length cap5):=bC HZ2.out 3
 have t4:W2.cell? ⟨w.heap.size+1,4,none⟩=some (.string x.dat):=bC HZ2.out 4
 have t5:W2.cell? ⟨w.heap.size+1,5,none⟩=some (.int .i64 x.ma):=bC HZ2.out 5
 have t6:W2.cell? ⟨w.heap.size+1,6,none⟩=some (.int .i64 x.mi):=bC HZ2.out 6
 have t7:W2.cell? ⟨w.heap.size+1,7,none⟩=some (.int .i64 x.cl):=bC HZ2.out 7
 go_wp2
 refine bodyPost_ret (v:=trV x.toTrN (.slice a5 x.ats.length cap5)) (by simp [results,Tryz.f139,go_sem,t0,t1,t2,t3,t4,t5,t6,t7]) rfl ?_
 exact⟨⟨_,rfl,HA2.out⟩,HB2.out⟩
theorem zGb (B:Nat) (w:World) (v:Value) (b:List BrN) (hb:zC4 B w v b) (hB:B<=w.heap.size) (hl:b.length<=1000) (hats:∀ x ∈ b,x.ats.length<=1000) :
  Calls Tryz.prog 78 #[v] w (zU9 w b):=by
 obtain⟨aa,cap,rfl⟩:=hb.form
 have HV:=hQq hb;clear hb
 have HAT:=hQq hats;clear hats
 go_enter Tryz.func78,Tryz.ntmps78
 go_wp2
 go_loopw [3,4] (fun o i w'=>∃ (wi:World) (k:Nat),wi=w'/\k<=b.length/\i= .int .i64 k/\zAg cdT w.heap.size wi o (plT (b.take k))/\Ext w wi) (fun _ i _=>b.length - (intOf i).toNat)
 case atStart=>exact⟨_,0,rfl,Nat.zero_le _,rfl,zAg.nil _ _ _,bR _ _⟩
 case round=>
  obtain⟨wi,k,rfl,hk,rfl,ho,hE⟩:=hrel
  have HO:=hQq ho;have HE:=hQq hE
  obtain⟨a5,cap5,rfl⟩:=ho.form
  clear ho hE
  by_cases hlt:k < b.length
  case neg=>
   obtain rfl:k=b.length:=by omega
   have HR:Hid (zAg cdT w.heap.size wi (.slice a5 b.length cap5) (plT b)):=hQq (by have:=HO.out;rw [zGe,zAh] at this;exact this)
   have hq:(plT (b.take b.length)).length=b.length:=by rw [zGe,zAh]
   go_wp2
   go_ret
   exact⟨⟨a5,cap5,by rw [hq];rfl,HR.out⟩,HE.out⟩
  obtain⟨bb,off,va,vr,hex,hbx,hva,hvr,xx⟩:=HV.out.br k hlt
  cases hex
  obtain⟨c0,c1,c2,c3,c4,c5,c6,c7,c8,c9⟩:=zLV HE.out hbx xx
  have HVA:=hQq hva
  obtain⟨a4,cap4,rfl⟩:=hvr.form
  obtain⟨a3,cap3,rfl⟩:=hva.form
  have HL:Hid ((b[k]'hlt).ats.length<=1000):=HAT.out _ (List.getElem_mem hlt)
  have HS:=hQq (zJa b k hlt)
  generalize b[k]'hlt=x at c0 c1 c2 c3 c4 c5 c6 c7 c8 c9 HVA HL HS
  have HW:Hid (w.heap.size<=wi.heap.size):=HE.out.size
  have j1:((k:Nat):Int) < (b.length:Int):=by omega
  have j0:(0:Int)<=(k:Int):=by omega
  have hq:(plT (b.take k)).length=k:=by rw [zAh,List.length_take];omega
  have HQ:=hQq hq;clear hq
  clear xx hva hvr
  go_wp2_with (first | (go_at_call 139;refine(zT9 B _ x _ _ (HVA.out.ext okA HE.out) (Nat.le_trans hB HW.out) HL.out ⟨_,_,_,rfl⟩).mono ?_;rintro e w1 ⟨⟨va1,rfl,hv1⟩,hb1⟩;have HV1:=hQq hv1;have HB1:=hQq hb1;clear hv1 hb1) | (at_builtin;refine zJU okT rfl (.tmp 11) (.tmp 17) rfl _ _ (plT (b.take k)) [x.toTrN] w _ rfl rfl (by exact(HO.out.ext okT HB1.out).ext okT (eA _ _)) (by exact zAn okT _ x.toTrN (trC x.toTrN va1) _ rfl ⟨va1,HV1.out.mono okA (Nat.zero_le _),rfl⟩) (by exact(HE.out.trans HB1.out).trans (eA _ _)) (by have:=HB1.out.size;have:=HW.out;simp;omega) (by have:=HQ.out;simp;omega) ?_;intro v2 w2 ha;have HA:=hQq ha;clear ha))
  go_roundw
  case rel=>exact⟨_,k+1,rfl,by omega,by go_num,by rw [HS.out];exact HA.out.own,HA.out.below⟩
  case measure=>simp [intOf] <;> omega
theorem zKl (B B' : Nat) (u v : Value) (b : List BrN) (w : World) (hu : zC4 B w u b) (hv : zC4 B' w v b) (hB : B <= w.heap.size) (hB' : B' <= w.heap.size) (hl : b.length <= 1000) (hats : ∀ x ∈ b, x.ats.length <= 1000) (hred : ∀ x ∈ b, x.red.length <= 1000) :
  zAt Tryz.prog 22 #[u, v] w (.bool true) := by
 unfold zAt
 obtain ⟨aa, cap, rfl⟩ := hu.form
 obtain ⟨ba, cap2, rfl⟩ := hv.form
 have HU := hQq hu; have HV := hQq hv; have HA := hQq hats; have HRD := hQq hred
 have HTA : Hid (∀ x ∈ plT b, x.ats.length <= 1000000) := hQq (fun x hx => by
  obtain ⟨y, hy, rfl⟩ := List.mem_map.1 hx
  have := hats y hy
  show y.ats.length <= _; omega)
 have HTL : Hid ((plT b).length <= 1000000) := hQq (by rw [zAh]; omega)
 have HY := hQq (zCx (a := plT b) rfl)
 clear hu hv hats hred
 go_enter Tryz.func22, Tryz.ntmps22
 go_wp2_with fail
 refine (zGb B _ _ b HU.out hB hl HA.out).mono ?_
 rintro e w1 ⟨⟨a5, cap5, rfl, ho⟩, hb1⟩
 have HO1 := hQq ho; have HB1 := hQq hb1; clear ho hb1
 go_wp2_with fail
 refine (zGb B' _ _ b (HV.out.ext okB HB1.out) (Nat.le_trans hB' HB1.out.size) hl HA.out).mono ?_
 rintro e w2 ⟨⟨a6, cap6, rfl, ho⟩, hb2⟩
 have HO2 := hQq ho; have HO3 := hQq (HO1.out.ext okT hb2); have HB2 := hQq (Ext.trans HB1.out hb2); clear ho hb2
 go_wp2_with fail
 have hq : b.length = (plT b).length := (zAh b).symm
 rw [hq]
 refine (zD0 _ _ _ _ (plT b) (plT b) _ (by have := HO3.out.in okT; rw [hq] at this; exact this) (by have := HO2.out.in okT; rw [hq] at this; exact this) HTL.out HTA.out).mono ?_
 rintro e w3 ⟨rfl, hb3⟩
 rw [HY.out]; have HB3 := hQq (Ext.trans HB2.out hb3); clear hb3
 rw [<- hq]
 clear hq
 go_wp2
 go_loopw [5] (fun i w' => ∃ (wi : World) (k : Nat), wi = w' /\ k <= b.length /\ i = .int .i64 k /\ Ext w wi) (fun i _ => b.length - (intOf i).toNat)
 case atStart => exact ⟨_, 0, rfl, Nat.zero_le _, rfl, HB3.out⟩
 case round =>
  clear HB3 HB2 HB1 HO1 HO2 HO3
  obtain ⟨wi, k, rfl, hk, rfl, hE⟩ := hrel
  have HE := hQq hE
  by_cases hlt : k < b.length
  case neg =>
   obtain rfl : k = b.length := by omega
   clear hE
   go_wp2
   go_ret
   exact ⟨rfl, HE.out⟩
  obtain ⟨b1, o1, va1, vr1, hex1, hb1, _, hvr1, _, _, _, _, _, _, _, _, c8, c9⟩ := (HU.out.ext okB HE.out).br k hlt
  obtain ⟨b2, o2, va2, vr2, hex2, hb2, _, hvr2, _, _, _, _, _, _, _, _, d8, d9⟩ := (HV.out.ext okB HE.out).br k hlt
  cases hex1
  cases hex2
  have HR1 := hQq hvr1.strs; have HR2 := hQq hvr2.strs
  obtain ⟨a4, cap4, rfl⟩ := hvr1.form
  obtain ⟨a7, cap7, rfl⟩ := hvr2.form
  have HRL := hQq (HRD.out _ (List.getElem_mem hlt))
  generalize b[k]'hlt = x at c8 c9 d8 d9 HR1 HR2 HRL
  have j1 : ((k : Nat) : Int) < (b.length : Int) := by omega
  have j0 : (0 : Int) <= (k : Int) := by omega
  have HC1 := hQq c8; have HC2 := hQq c9; have HC3 := hQq d8; have HC4 := hQq d9
  clear hvr1 hvr2 hE
  have qb : (x.opq != x.opq) = false := by cases x.opq <;> rfl
  go_wp2
  go_region_held3 (fun w' => w'.cell? ⟨b1, o1 + k * 10 + 8, none⟩ = some (.bool x.opq) /\ w'.cell? ⟨b1, o1 + k * 10 + 9, none⟩ = some (.slice a4 x.red.length cap4) /\ w'.cell? ⟨b2, o2 + k * 10 + 8, none⟩ = some (.bool x.opq) /\ w'.cell? ⟨b2, o2 + k * 10 + 9, none⟩ = some (.slice a7 x.red.length cap7)) (first | go_keep | exact ⟨by assumption, by assumption, by assumption, by assumption⟩)
   (first
    | (go_at_call 62; refine (zMt _ _ x.red _ (by first | exact HR1.out.ext (eD _) | exact HR1.out) (by first | exact HR2.out.ext (eD _) | exact HR2.out) (by have := HRL.out; omega)).mono ?_; rintro e w4 ⟨rfl, hb4⟩; have HB4 : Hid (Ext wi w4) := hQq (by first | exact (eD _).trans hb4 | exact hb4); have y0 := (eC HB4.out hb1).trans HC1.out; have y1 := (eC HB4.out hb1).trans HC2.out; have y2 := (eC HB4.out hb2).trans HC3.out; have y3 := (eC HB4.out hb2).trans HC4.out; clear hb4)
    | fail)
  go_wp2
  go_roundw
  case rel => exact ⟨_, k + 1, rfl, by omega, by go_num, HE.out.trans HB4.out⟩
  case measure => simp [intOf] <;> omega
section
variable {P:Program} {Q:Exit->Act->World->Prop} {ops:Array Oper}
def zVe (ops:Array Oper):Bool:=
 ops.toList.all (fun o=>o.guard.isNone) && (List.range ops.size).all (fun i=>((ops[i]?).map fun o=>o.after.toList.all fun e=>!Region.binds .any e || decide (e.on < i)).getD false) &&
 (List.range ops.size).all (fun j=>(List.range ops.size).all fun i=>i == j || ((ops[i]?).bind (·.dst)).isNone || !((ops[i]?).bind (·.dst) == (ops[j]?).bind (·.dst)))
theorem zKO (h:zVe ops=true):(∀ (i:Nat) (o:Oper),ops[i]? = some o->o.guard=none)/\(∀ (i:Nat) (o:Oper) (e:Edge),ops[i]? = some o->e ∈ o.after->Region.binds .any e=true->e.on < i) /\
  ∀ (i j:Nat) (oi oj:Oper) (d:Tmp),ops[i]? = some oi->ops[j]? = some oj->oi.dst=some d->oj.dst=some d->i=j:=by
 unfold zVe at h
 simp only [Bool.and_eq_true,beq_iff_eq,List.all_eq_true,List.mem_range,Bool.or_eq_true,Bool.not_eq_true'] at h
 obtain⟨⟨h2,h3⟩,h4⟩:=h
 refine⟨fun i o ho=>?_,fun i o e ho he hb=>?_,fun i j oi oj d hoi hoj hdi hdj=>?_⟩
 ·have:=h2 o (Array.mem_toList_iff.2 (Array.mem_of_getElem? ho))
  cases hg:o.guard with
  | none=>rfl
  | some g=>rw [hg] at this;cases this
 ·have hi:i < ops.size:=(Array.getElem?_eq_some_iff.1 ho).1
  have:=h3 i hi
  rw [ho] at this
  simp only [Option.map_some,Option.getD_some,List.all_eq_true,Bool.or_eq_true,Bool.not_eq_true',decide_eq_true_eq] at this
  rcases this e (Array.mem_toList_iff.2 he) with h | h
  ·rw [hb] at h;cases h
  ·exact h
 ·have hi:i < ops.size:=(Array.getElem?_eq_some_iff.1 hoi).1
  have hj:j < ops.size:=(Array.getElem?_eq_some_iff.1 hoj).1
  rcases h4 j hj i hi with (h | h) | h
  ·exact h
  ·rw [hoi] at h;simp [hdi] at h
  ·rw [hoi,hoj] at h;simp [hdi,hdj] at h
structure RbK (ops:Array Oper) (s:Nat) (a0:Act) (w0:World) (R:World->World->Prop) (G:Bool->World->Prop) (F:Nat->Value->World->Prop) (listed:Array Bool) (a:Act) (w:World):Prop where
 size:listed.size=ops.size
 tsz:a.tmps.size=a0.tmps.size
 defers:a.defers=a0.defers
 kept:∀ t,t ∉ zCE ops ops.size->a.eval (.tmp t)=a0.eval (.tmp t)
 fact:∀ (j:Nat) (oj:Oper) (d:Tmp),ops[j]? = some oj->oj.dst=some d->listed.getD j false=true->F j (a.eval (.tmp d)) w
 rel:R w0 w
 box:G (listed.getD s false) w
 down:∀ k j,listed.getD k false=true->zB9 ops k j=true->listed.getD j false=true
theorem zOI {s : Nat} {a0 : Act} {w0 : World} {R : World -> World -> Prop} {G : Bool -> World -> Prop} {F : Nat -> Value -> World -> Prop} (hB : zVe ops = true) (hD : ∀ d ∈ zCE ops ops.size, d < a0.tmps.size)
  (htr : ∀ w w' w'', R w w' -> R w' w'' -> R w w'') (hmono : ∀ i v w w', F i v w -> R w w' -> F i v w')
  (hstep : ∀ (i : Nat) (o : Oper) (a : Act) (w : World) (z : Bool), ops[i]? = some o -> R w0 w -> G z w -> (z = true -> s ≠ i /\ zB9 ops s i = false) -> (∀ t, t ∉ zCE ops ops.size -> a.eval (.tmp t) = a0.eval (.tmp t)) ->
   (∀ (j : Nat) (oj : Oper) (d : Tmp), zB9 ops i j = true -> ops[j]? = some oj -> oj.dst = some d -> F j (a.eval (.tmp d)) w) -> o.wp P a w (fun a' w' => ∃ v, a' = a.put o.dst v /\ F i v w' /\ R w w' /\ G (z || decide (s = i)) w') Q)
  (hlast : ∀ (vs : Tmp -> Value) (w : World), R w0 w -> G true w -> (∀ (j : Nat) (oj : Oper) (d : Tmp), ops[j]? = some oj -> oj.dst = some d -> F j (vs d) w) -> Q .normal (zAI a0 (zCE ops ops.size) vs) w) (hs : s < ops.size) :
  ∀ (fuel : Nat) (listed : Array Bool) (a : Act) (w : World), RbK ops s a0 w0 R G F listed a w -> (listed.toList.filter (! ·)).length <= fuel -> wpAny P .any ops Q fuel listed a w := by
 obtain ⟨h2, h3, h5⟩ := zKO hB
 have hend : ∀ (listed : Array Bool) (a : Act) (w : World), RbK ops s a0 w0 R G F listed a w -> (∀ i, i < ops.size -> listed.getD i false = true) -> Q .normal a w := by
  intro listed a w hI hall
  rw [zHf hI.tsz hI.defers hI.kept]
  have hb := hI.box
  rw [hall s hs] at hb
  exact hlast (fun t => a.eval (.tmp t)) w hI.rel hb fun j oj d hoj hd => hI.fact j oj d hoj hd (hall j (Array.getElem?_eq_some_iff.1 hoj).1)
 have hnone : ∀ (listed : Array Bool), listed.size = ops.size -> Region.ready .any ops listed = [] -> ∀ i, i < ops.size -> listed.getD i false = true := by
  intro listed hsz hr
  have hall : ∀ k i, i < k -> i < ops.size -> listed.getD i false = true := by
   intro k
   induction k with
   | zero => intro i hi; omega
   | succ k ihk =>
    intro i hi hin
    by_cases e : i < k
    ·exact ihk i e hin
    cases hl : listed.getD i false with
    | true => rfl
    | false =>
     exfalso
     obtain ⟨o, ho⟩ : ∃ o, ops[i]? = some o := ⟨_, Array.getElem?_eq_getElem hin⟩
     have hm : i ∈ Region.ready .any ops listed := mem_ready.2 ⟨by rw [zBy (by omega) true false]; exact hl, o, ho, fun e he hb => by
      have h6 := h3 i o e ho he hb
      exact ihk e.on (by omega) (by omega)⟩
     rw [hr] at hm; cases hm
  exact fun i hi => hall (i + 1) i (by omega) hi
 intro fuel
 induction fuel with
 | zero =>
  intro listed a w hI hc
  have hall : ∀ i, i < ops.size -> listed.getD i false = true := by
   intro i hi
   cases hl : listed.getD i false with
   | true => rfl
   | false =>
    exfalso
    have := zCF listed i (by rw [zBy (by rw [hI.size]; exact hi) true false]; exact hl)
    omega
  refine ⟨?_, hend listed a w hI hall⟩
  cases hrd : Region.ready .any ops listed with
  | nil => rfl
  | cons z q =>
   exfalso
   have hz : z ∈ Region.ready .any ops listed := by rw [hrd]; simp
   obtain ⟨hu, o, ho, _⟩ := mem_ready.1 hz
   have hzl : z < ops.size := (Array.getElem?_eq_some_iff.1 ho).1
   have := hall z hzl
   rw [zBy (by rw [hI.size]; exact hzl) false true, hu] at this; cases this
 | succ fuel ih =>
  intro listed a w hI hc
  refine ⟨fun hr => hend listed a w hI (hnone listed hI.size hr), fun i hi => ?_⟩
  obtain ⟨hu, o, ho, hp⟩ := mem_ready.1 hi
  have hpr := zFU ho hp
  have hin : i < ops.size := (Array.getElem?_eq_some_iff.1 ho).1
  have hil : listed.getD i false = false := by rw [zBy (by rw [hI.size]; exact hin) false true]; exact hu
  refine wpOp_step ho fun K' hK => ?_
  have hg := h2 i o ho
  rw [if_pos (by unfold Region.wanted; rw [hg])]
  refine Oper.wp_mono ?_ (hstep i o a w (listed.getD s false) ho hI.rel hI.box ?_ hI.kept fun j oj d hj hoj hd => hI.fact j oj d hoj hd (hpr j hj))
  ·rintro a' w' ⟨v, rfl, hF, hE, hG⟩
   refine hK _ _ (ih _ _ _ ?_ ?_)
   ·refine ⟨by rw [Array.size_setIfInBounds]; exact hI.size, ?_, ?_, ?_, ?_, htr _ _ _ hI.rel hE, ?_, ?_⟩
    ·cases hd : o.dst with
     | none => exact hI.tsz
     | some d => simp only [Act.put, Array.size_setIfInBounds]; exact hI.tsz
    ·cases hd : o.dst with
     | none => exact hI.defers
     | some d => exact hI.defers
    ·intro t ht
     cases hd : o.dst with
     | none => exact hI.kept t ht
     | some d =>
      have hne : d ≠ t := fun e => ht (by
       unfold zCE
       refine List.mem_filterMap.2 ⟨o, ?_, by rw [hd, e]⟩
       refine List.mem_iff_getElem?.2 ⟨i, ?_⟩
       rw [List.getElem?_take, if_pos hin, Array.getElem?_toList]; exact ho)
      rw [zBq hne]; exact hI.kept t ht
    ·intro j oj d hoj hd hlj
     by_cases e : i = j
     ·subst e
      obtain rfl := oI (ho.symm.trans hoj)
      have hdl : d < a.tmps.size := by
       rw [hI.tsz]
       refine hD d ?_
       unfold zCE
       refine List.mem_filterMap.2 ⟨o, ?_, hd⟩
       refine List.mem_iff_getElem?.2 ⟨i, ?_⟩
       rw [List.getElem?_take, if_pos hin, Array.getElem?_toList]; exact ho
      rw [hd, zCD hdl]; exact hF
     ·rw [getD_set_ne false e] at hlj
      have hf := hmono _ _ _ _ (hI.fact j oj d hoj hd hlj) hE
      cases hdo : o.dst with
      | none => exact hf
      | some d' =>
       have hne : d' ≠ d := fun x => e (h5 i j o oj d ho hoj (by rw [hdo, x]) hd)
       rw [zBq hne]; exact hf
    ·by_cases e : s = i
     ·subst e
      rw [decide_eq_true rfl, Bool.or_true] at hG
      have : (listed.setIfInBounds s true).getD s false = true := by
       have : s < listed.size := by rw [hI.size]; exact hin
       simp [Array.getD_eq_getD_getElem?, this]
      rw [this]; exact hG
     ·rw [getD_set_ne false (fun x => e x.symm)]
      rw [decide_eq_false e, Bool.or_false] at hG; exact hG
    ·intro k j hlk hkj
     by_cases e : i = k
     ·subst e; exact getD_set_true (hpr j hkj)
     ·rw [getD_set_ne false e] at hlk
      exact getD_set_true (hI.down k j hlk hkj)
   ·have := zCF listed i hu; omega
  ·intro hz
   refine ⟨fun e => ?_, ?_⟩
   ·subst e; rw [hil] at hz; cases hz
   ·cases hx : zB9 ops s i with
    | false => rfl
    | true => have := hI.down s i hz hx; rw [hil] at this; cases this
theorem zFn {id : Nat} {a0 : Act} {w0 : World} (R : World -> World -> Prop) (G : Bool -> World -> Prop) (F : Nat -> Value -> World -> Prop) (s : Nat) (hm : P.follows .mixedOrders = true) (hB : zVe ops = true) (hs : decide (s < ops.size) = true) (hD : (zCE ops ops.size).all (fun d => decide (d < a0.tmps.size)) = true)
  (h0 : R w0 { w0 with drawn := w0.drawn + 1 }) (hG : G false { w0 with drawn := w0.drawn + 1 }) (htr : ∀ w w' w'', R w w' -> R w' w'' -> R w w'') (hmono : ∀ i v w w', F i v w -> R w w' -> F i v w')
  (hstep : ∀ (i : Nat) (o : Oper) (a : Act) (w : World) (z : Bool), ops[i]? = some o -> R w0 w -> G z w -> (z = true -> s ≠ i /\ zB9 ops s i = false) -> (∀ t, t ∉ zCE ops ops.size -> a.eval (.tmp t) = a0.eval (.tmp t)) ->
   (∀ (j : Nat) (oj : Oper) (d : Tmp), zB9 ops i j = true -> ops[j]? = some oj -> oj.dst = some d -> F j (a.eval (.tmp d)) w) -> o.wp P a w (fun a' w' => ∃ v, a' = a.put o.dst v /\ F i v w' /\ R w w' /\ G (z || decide (s = i)) w') Q)
  (hlast : ∀ (vs : Tmp -> Value) (w : World), R w0 w -> G true w -> (∀ (j : Nat) (oj : Oper) (d : Tmp), ops[j]? = some oj -> oj.dst = some d -> F j (vs d) w) -> Q .normal (zAI a0 (zCE ops ops.size) vs) w) :
  (Code.region id ops true).wp P Q a0 w0 := by
 refine wp_region_any hm ?_
 have hrep : ∀ i, (Array.replicate ops.size false).getD i false = false := fun i => by
  by_cases e : i < ops.size
  ·simp [Array.getD_eq_getD_getElem?, e]
  ·simp [Array.getD_eq_getD_getElem?, e]
 refine zOI (s := s) (a0 := a0) (w0 := w0) (R := R) (G := G) (F := F) hB (fun d hd => of_decide_eq_true (List.all_eq_true.1 hD d hd)) htr hmono hstep hlast (of_decide_eq_true hs) ops.size _ _ _ ?_ ?_
 ·refine ⟨by simp, rfl, rfl, fun _ _ => rfl, fun i o d _ _ hl => ?_, h0, by rw [hrep]; exact hG, fun i j hl _ => ?_⟩
  ·rw [hrep] at hl; cases hl
  ·rw [hrep] at hl; cases hl
 ·refine Nat.le_trans (List.length_filter_le _ _) ?_
  simp
end
theorem zF1 {w:World} {v:Value} {l:List zAr} (h:aA w v l):zAK w.heap.size w v l:=by
 refine zJQ h fun h0 b hb=>.inl (h.block ?_ b hb)
 obtain⟨a,cap,rfl,_⟩:=h;exact h0
theorem zOb {P:Program} {α:Type} {C:Cd α} {B:Nat} (K:zEN P C) (w:World) (x y:α) (cx cy:List Value) (n:Nat) (hn:n=w.heap.size) (hx:C.R B w x cx) (hy:C.R B w y cy) :
  zAj C B (w.alloc (.cells (cx ++ cy).toArray C.e)) (.slice (some ⟨n,0,none⟩) 2 2) [x,y]:=by
 subst hn
 have l1:=K.len hx;have l2:=K.len hy
 refine⟨_,_,rfl,by simp,fun _ b hb=>.inr ⟨_,_,by cases hb;exact bN w _⟩,fun k hk=>?_⟩
 have hk:k < 2:=hk
 match k,hk with
 | 0,_=>
  refine⟨w.heap.size,0,cx,rfl,by simp,K.chg hx (Chg.of_ext (eA _ _) B C.e) K.self,fun j u hj=>?_⟩
  rw [Nat.zero_add,Nat.zero_mul,Nat.zero_add,bC (bN w _)]
  have:=(List.getElem?_eq_some_iff.1 hj).1
  simp [List.getElem?_append_left this,hj]
 | 1,_=>
  refine⟨w.heap.size,0,cy,rfl,by simp,K.chg hy (Chg.of_ext (eA _ _) B C.e) K.self,fun j u hj=>?_⟩
  rw [Nat.zero_add,Nat.one_mul,bC (bN w _)]
  simp [List.getElem?_append_right (show cx.length<=C.n+j by omega),l1,hj]
theorem zNS {x:TrN} (hm:∀ a ∈ x.ats,a.1.size<=1000000/\a.2.size<=1000000) (hl:x.ats.length<=1000000):zAP [zCK,zCw x]:=by
 intro y hy
 rcases List.mem_cons.1 hy with rfl | hy
 ·exact⟨by decide,fun a ha=>(by cases ha),by decide⟩
 ·rcases List.mem_cons.1 hy with rfl | hy
  ·exact⟨by show zT1.size<=_;decide,hm,hl⟩
  ·cases hy
theorem zUQ (w:World) (x:TrN) (va:Value) (hv:aA w va x.ats) (hm:∀ a ∈ x.ats,a.1.size<=1000000/\a.2.size<=1000000) (hl:x.ats.length<=1000000) :
  zAt Tryz.prog 107 #[trV x va] w (.int .i64 (zDE x)):=by
 unfold zAt
 have HV:=hQq hv
 have HS:=hQq (zNS hm hl)
 have HI:=hQq (zF1 hv)
 obtain⟨a3,cap3,rfl,-,-⟩:=hv
 clear hm
 go_enter Tryz.func107,Tryz.ntmps107
 go_wp2_with fail
 refine(zDa w.heap.size _ [zCK,zCw x] _ (zOb okT (w.alloc _) zCK (zCw x) (trC zCK (.slice none 0 0)) (trC (zCw x) (.slice a3 x.ats.length cap3)) (w.heap.size+1) (by simp) ⟨_,zCM _ _ _,rfl⟩ ⟨_,HI.out.ext okA (eA _ _),rfl⟩) HS.out).mono ?_
 rintro e w1 ⟨rfl,hb1⟩
 have HB1:Hid (Ext w w1):=hQq (((eA _ _).trans (eA _ _)).trans hb1)
 clear hb1
 go_wp2
 go_ret
 exact⟨rfl,HB1.out⟩
theorem zOO (x y:TrN) (va vb:Value) (w:World) (ha:aA w va x.ats) (hb:aA w vb y.ats) (hl:x.ats.length<=1000000) :
  zAt Tryz.prog 137 #[trV x va,trV y vb] w (.bool (eqB x y)):=by
 unfold zAt eqB
 obtain⟨a3,cap3,rfl,hc3,hx3⟩:=ha
 obtain⟨a4,cap4,rfl,hc4,hx4⟩:=hb
 have HA:Hid (aA w (.slice a3 x.ats.length cap3) x.ats):=⟨a3,cap3,rfl,hc3,hx3⟩
 have HB:Hid (aA w (.slice a4 y.ats.length cap4) y.ats):=⟨a4,cap4,rfl,hc4,hx4⟩
 have HE:Hid (Ext w ((w.alloc (.cells #[.int .i64 x.dep,.string x.nm,.int .i64 x.kd,.slice a3 x.ats.length cap3,.string x.dat,.int .i64 x.ma,.int .i64 x.mi,.int .i64 x.cl] 59)).alloc (.cells #[.int .i64 y.dep,.string y.nm,.int .i64 y.kd,.slice a4 y.ats.length cap4,.string y.dat,.int .i64 y.ma,.int .i64 y.mi,.int .i64 y.cl] 59))):=hQq ((eA _ _).trans (eA _ _))
 have HL:Hid (∀ W,Ext w W->zAt Tryz.prog 184 #[trV x (.slice a3 x.ats.length cap3),trV y (.slice a4 y.ats.length cap4)] W (.bool (zA5 x y))):=hQq (fun W he=>zGN x y _ _ W (HA.out.ext he) (HB.out.ext he) hl)
 generalize zA5 x y=lk at HL ⊢
 clear hx3 hx4
 unfold trV
 cases h1:x.dep == y.dep
 ·go_enter Tryz.func137,Tryz.ntmps137
  go_wp2;go_ret;exact⟨rfl,HE.out⟩
 cases h2:x.nm.toList == y.nm.toList
 ·go_enter Tryz.func137,Tryz.ntmps137
  go_wp2;go_ret;exact⟨rfl,HE.out⟩
 cases h3:x.cl == y.cl
 ·go_enter Tryz.func137,Tryz.ntmps137
  go_wp2;go_ret;exact⟨rfl,HE.out⟩
 go_enter Tryz.func137,Tryz.ntmps137
 go_wp2_with (go_at_call 184;refine(HL.out _ HE.out).mono ?_;rintro e w3 ⟨rfl,hb3⟩;have HB3:=hQq hb3;clear hb3)
 go_ret
 exact⟨rfl,HE.out.trans HB3.out⟩
theorem zRH (B:Nat) (w:World) (v u:Value) (s t:List TrN) (hv:zCt B w v s) (hu:zCt B w u t) (hl:s.length<=1000) (hal:∀ x ∈ s,x.ats.length<=1000000) :
  zAt Tryz.prog 136 #[v,u,.func (.func 137) #[] #[]] w (.bool (zBW s t)):=by
 unfold zAt
 obtain⟨aa,cap,rfl⟩:=hv.form
 obtain⟨ab,capb,rfl⟩:=hu.form
 have HV:=hQq hv;have HU:=hQq hu;have HAL:=hQq hal
 clear hv hu hal
 have he:∀ args w,(callFunc 137 args).run Tryz.prog w= .ok (.enter 137 args) w:=enters_of Tryz.func137 (by kernel_rfl) rfl
 by_cases hn:s.length=t.length
 case neg=>
  have HS:Hid (zBW s t=false):=hQq (zFz fun e=>hn (by rw [e]))
  have q1:((s.length:Int) != (t.length:Int))=true:=bne_iff_ne.2 (by omega)
  clear hn
  go_enter Tryz.func136,Tryz.ntmps136
  go_wp2
  go_ret
  exact⟨by rw [HS.out];rfl,bR _ _⟩
 have q1:((s.length:Int) != (t.length:Int))=false:=bne_eq_false_iff_eq.2 (by omega)
 have HN:=hQq hn
 clear hn
 go_enter Tryz.func136,Tryz.ntmps136
 go_wp2
 go_loopw [17] (fun i w'=>∃ (wi:World) (k:Nat),wi=w'/\k<=s.length/\i= .int .i64 k/\zGA s t k/\Ext w wi) (fun i _=>s.length - (intOf i).toNat)
 case atStart=>exact⟨_,0,rfl,Nat.zero_le _,rfl,fun j hj=>absurd hj (by omega),bR _ _⟩
 case round=>
  obtain⟨wi,k,rfl,hk,rfl,hs,hE⟩:=hrel
  have HS:=hQq hs;have HE:=hQq hE
  clear hs hE
  by_cases hlt:k < s.length
  case neg=>
   obtain rfl:k=s.length:=by omega
   have HR:=hQq (zCx (zDG HN.out HS.out))
   go_wp2
   go_ret
   exact⟨by rw [HR.out];rfl,HE.out⟩
  have hlt2:k < t.length:=by have:=HN.out;omega
  have k1:((k:Nat):Int) < (s.length:Int):=by omega
  have k2:((k:Nat):Int) < (t.length:Int):=by omega
  have k0:(0:Int)<=(k:Int):=by omega
  obtain⟨b,off,va,hex,hbx,hva,c0,c1,c2,c3,c4,c5,c6,c7⟩:=(HV.out.ext okT HE.out).tr k hlt
  cases hex
  obtain⟨b',off',vb,hex,hbx',hvb,d0,d1,d2,d3,d4,d5,d6,d7⟩:=(HU.out.ext okT HE.out).tr k hlt2
  cases hex
  obtain⟨a3,cap3,rfl⟩:=hva.form
  obtain⟨a4,cap4,rfl⟩:=hvb.form
  have HXA:=hQq hva;have HYA:=hQq hvb
  have HAK:=hQq (HAL.out _ (List.getElem_mem hlt))
  have HSX:Hid (s[k]? = some (s[k]'hlt)/\t[k]? = some (t[k]'hlt2)):=hQq ⟨List.getElem?_eq_getElem hlt,List.getElem?_eq_getElem hlt2⟩
  generalize s[k]'hlt=x at c0 c1 c2 c3 c4 c5 c6 c7 HXA HAK HSX
  generalize t[k]'hlt2=y at d0 d1 d2 d3 d4 d5 d6 d7 HYA HSX
  clear hva hvb
  have E1:Hid (Ext wi ((wi.alloc (.cells #[.int .i64 x.dep,.string x.nm,.int .i64 x.kd,.slice a3 x.ats.length cap3,.string x.dat,.int .i64 x.ma,.int .i64 x.mi,.int .i64 x.cl] 59)).alloc (.cells #[.int .i64 y.dep,.string y.nm,.int .i64 y.kd,.slice a4 y.ats.length cap4,.string y.dat,.int .i64 y.ma,.int .i64 y.mi,.int .i64 y.cl] 59))):=hQq ((eA _ _).trans (eA _ _))
  have d0':=(eC (eA wi (.cells #[.int .i64 x.dep,.string x.nm,.int .i64 x.kd,.slice a3 x.ats.length cap3,.string x.dat,.int .i64 x.ma,.int .i64 x.mi,.int .i64 x.cl] 59)) hbx').trans d0
  have HG:=hQq (zOO x y _ _ _ ((HXA.out.ext okA E1.out).attrs) ((HYA.out.ext okA E1.out).attrs) HAK.out)
  unfold zAt trV at HG
  cases hq:eqB x y
  ·rw [hq] at HG
   have HR:Hid (zBW s t=false):=hQq (zFz fun e=>by
    have h:=HSX.out
    rw [e,h.2] at h
    have h9:=oI h.1
    rw [(zQg x y).2 h9.symm] at hq;cases hq)
   clear hq
   go_wp2_with (refine HG.out.mono ?_;rintro e w1 ⟨rfl,hb1⟩;have HB1:=hQq (E1.out.trans hb1);clear hb1)
   go_ret
   exact⟨by rw [HR.out];rfl,HE.out.trans HB1.out⟩
  ·rw [hq] at HG
   have HS2:Hid (zGA s t (k+1)):=hQq (fun j hj=>by
    by_cases e:j=k
    ·subst e;rw [HSX.out.1,HSX.out.2,(zQg x y).1 hq]
    ·exact HS.out j (by omega))
   clear hq
   go_wp2_with (refine HG.out.mono ?_;rintro e w1 ⟨rfl,hb1⟩;have HB1:=hQq (E1.out.trans hb1);clear hb1)
   go_roundw
   case rel=>exact⟨_,k+1,rfl,by omega,by go_num,HS2.out,HE.out.trans HB1.out⟩
   case measure=>simp [intOf] <;> omega
theorem zIl (B:Nat) (w:World) (g n:Nat) (L:List (Value × List TrN)) (hn:n=L.length) (hg:g < w.heap.size) (hL:L.length<=1000) (hc:∀ k (hk:k < L.length),w.cell? ⟨g,k,none⟩=some ((L[k]'hk).1)) (h:∀ p ∈ L,zCt B w p.1 p.2/\zAP p.2/\zAs p.2=0) :
  zAt Tryz.prog 135 #[.slice (some ⟨g,0,none⟩) n n] w (.int .i64 0):=by
 unfold zAt
 have HC:=hQq hc;have HL:=hQq h;have HN:=hQq hn
 clear hc h hn
 go_enter Tryz.func135,Tryz.ntmps135
 go_wp2
 go_loopw [9] (fun i w'=>∃ (wi:World) (k:Nat),wi=w'/\k<=n/\i= .int .i64 k/\Ext w wi) (fun i _=>n - (intOf i).toNat)
 case atStart=>exact⟨_,0,rfl,Nat.zero_le _,rfl,bR _ _⟩
 case round=>
  obtain⟨wi,k,rfl,hk,rfl,hE⟩:=hrel
  have HE:=hQq hE
  clear hE
  by_cases hlt:k < n
  case neg=>
   obtain rfl:k=n:=by omega
   go_wp2
   go_ret
   exact⟨rfl,HE.out⟩
  have k1:((k:Nat):Int) < (n:Int):=by omega
  have k0:(0:Int)<=(k:Int):=by omega
  have hk2:k < L.length:=by rw [<- HN.out];exact hlt
  have c:=(eC HE.out hg).trans (HC.out k hk2)
  obtain⟨h1,h2,h3⟩:=HL.out _ (List.getElem_mem hk2)
  generalize L[k]'hk2=p at c h1 h2 h3
  obtain⟨pv,pt⟩:=p
  simp only at c h1 h2 h3
  obtain⟨a3,cap3,rfl⟩:=h1.form
  have H1:=hQq h1;have H2:=hQq h2;have H3:=hQq h3
  clear h1 h2 h3
  go_wp2_with (go_at_call 63;refine(zDa B _ pt _ (H1.out.ext okT HE.out) H2.out).mono ?_;rw [H3.out];rintro e w2 ⟨rfl,hb2⟩;have HB2:=hQq (HE.out.trans hb2);clear hb2)
  go_roundw
  case rel=>exact⟨_,k+1,rfl,by omega,by go_num,HB2.out⟩
  case measure=>simp [intOf] <;> omega
theorem zRA (B:Nat) (w:World) (v u:Value) (s t:List TrN) (hv:zCt B w v s) (hu:zCt B w u t) (hs:zAP s) (ht:zAP t) (h1:zAs s=0) (h2:zAs t=0) (hl:s.length<=1000) (hal:∀ x ∈ s,x.ats.length<=1000000) :
  zAt Tryz.prog 71 #[v,u] w (.tuple #[.bool (zBW s t),.int .i64 0]):=by
 unfold zAt
 obtain⟨aa,cap,rfl⟩:=hv.form
 obtain⟨ab,capb,rfl⟩:=hu.form
 have HV:=hQq hv;have HU:=hQq hu;have HAL:=hQq hal
 have HX:Hid ((zAP s/\zAs s=0)/\zAP t/\zAs t=0):=hQq ⟨⟨hs,h1⟩,ht,h2⟩
 clear hv hu hal hs ht h1 h2
 go_enter Tryz.func71,Tryz.ntmps71
 go_wp2_with (first
  | (go_at_call 135;refine(zIl B _ w.heap.size 2 [(.slice aa s.length cap,s),(.slice ab t.length capb,t)] rfl (by simp) (by simp) (fun k hk=>by
   have hq:=bN w (.cells #[.slice aa s.length cap,.slice ab t.length capb] 33 (0,0))
   match k,hk with
   | 0,_=>exact bC hq 0
   | 1,_=>exact bC hq 1) (fun p hp=>by
   simp only [List.mem_cons,List.not_mem_nil,or_false] at hp
   rcases hp with rfl | rfl
   ·exact⟨HV.out.ext okT (eA _ _),HX.out.1⟩
   ·exact⟨HU.out.ext okT (eA _ _),HX.out.2⟩)).mono ?_;rintro e w2 ⟨rfl,hb2⟩;have HB2:=hQq ((eA _ _).trans hb2);clear hb2)
  | (go_at_call 136;refine(zRH B _ _ _ s t (HV.out.ext okT HB2.out) (HU.out.ext okT HB2.out) hl HAL.out).mono ?_;rintro e w3 ⟨rfl,hb3⟩;have HB3:=hQq (HB2.out.trans hb3);clear hb3)
  | fail)
 go_ret2
 exact⟨rfl,HB3.out⟩
section
variable {P:Program} {Q:Exit->Act->World->Prop} {ops:Array Oper}
def zOu (z:Nat->Bool) (i:Nat):Nat->Bool:=fun j=>if i=j then true else z j
def zK9 (vs:Tmp->Value) (d:Option Tmp) (v:Value):Tmp->Value:=fun t=>match d with | none=>vs t | some d=>if d=t then v else vs t
structure RaK (ops:Array Oper) (a0:Act) (F:Nat->Value->Prop) (I:(Nat->Bool)->(Tmp->Value)->World->Prop) (listed:Array Bool) (a:Act) (w:World):Prop where
 size:listed.size=ops.size
 tsz:a.tmps.size=a0.tmps.size
 defers:a.defers=a0.defers
 kept:∀ t,t ∉ zCE ops ops.size->a.eval (.tmp t)=a0.eval (.tmp t)
 fact:∀ (j:Nat) (oj:Oper) (d:Tmp),ops[j]? = some oj->oj.dst=some d->listed.getD j false=true->F j (a.eval (.tmp d))
 inv:∃ (z:Nat->Bool) (vs:Tmp->Value),(∀ j,j < ops.size->z j=listed.getD j false)/\(∀ t,t < a.tmps.size->vs t=a.eval (.tmp t))/\I z vs w
 down:∀ k j,listed.getD k false=true->zB9 ops k j=true->listed.getD j false=true
theorem zNM {a0 : Act} {F : Nat -> Value -> Prop} {I : (Nat -> Bool) -> (Tmp -> Value) -> World -> Prop} (hB : zVe ops = true) (hD : ∀ d ∈ zCE ops ops.size, d < a0.tmps.size)
  (hstep : ∀ (i : Nat) (o : Oper) (a : Act) (w : World) (z : Nat -> Bool) (vs : Tmp -> Value), ops[i]? = some o -> z i = false -> (∀ k j, k < ops.size -> j < ops.size -> zB9 ops k j = true -> z j = false -> z k = false) -> (∀ j, j < ops.size -> zB9 ops i j = true -> z j = true) -> I z vs w ->
   (∀ t, t < a0.tmps.size -> vs t = a.eval (.tmp t)) -> (∀ t, t ∉ zCE ops ops.size -> a.eval (.tmp t) = a0.eval (.tmp t)) ->
   (∀ (j : Nat) (oj : Oper) (d : Tmp), zB9 ops i j = true -> ops[j]? = some oj -> oj.dst = some d -> F j (a.eval (.tmp d))) -> o.wp P a w (fun a' w' => ∃ v, a' = a.put o.dst v /\ F i v /\ I (zOu z i) (zK9 vs o.dst v) w') Q)
  (hlast : ∀ (z : Nat -> Bool) (vs : Tmp -> Value) (w : World), (∀ i, i < ops.size -> z i = true) -> I z vs w -> (∀ (j : Nat) (oj : Oper) (d : Tmp), ops[j]? = some oj -> oj.dst = some d -> F j (vs d)) -> Q .normal (zAI a0 (zCE ops ops.size) vs) w) :
  ∀ (fuel : Nat) (listed : Array Bool) (a : Act) (w : World), RaK ops a0 F I listed a w -> (listed.toList.filter (! ·)).length <= fuel -> wpAny P .any ops Q fuel listed a w := by
 obtain ⟨h2, h3, h5⟩ := zKO hB
 have hdl : ∀ (i : Nat) (o : Oper) (d : Tmp), ops[i]? = some o -> o.dst = some d -> d ∈ zCE ops ops.size := by
  intro i o d ho hd
  unfold zCE
  refine List.mem_filterMap.2 ⟨o, ?_, hd⟩
  refine List.mem_iff_getElem?.2 ⟨i, ?_⟩
  rw [List.getElem?_take, if_pos (Array.getElem?_eq_some_iff.1 ho).1, Array.getElem?_toList]; exact ho
 have hend : ∀ (listed : Array Bool) (a : Act) (w : World), RaK ops a0 F I listed a w -> (∀ i, i < ops.size -> listed.getD i false = true) -> Q .normal a w := by
  intro listed a w hI hall
  obtain ⟨z, vs, hz, hv, hi⟩ := hI.inv
  have e : zAI a0 (zCE ops ops.size) (fun t => a.eval (.tmp t)) = zAI a0 (zCE ops ops.size) vs := by
   have hgen : ∀ (D : List Tmp) (b : Act), (∀ d ∈ D, d < a.tmps.size) -> zAI b D (fun t => a.eval (.tmp t)) = zAI b D vs := by
    intro D
    induction D with
    | nil => intro b _; rfl
    | cons d r ih =>
     intro b hd
     show zAI (b.put (some d) (a.eval (.tmp d))) r _ = zAI (b.put (some d) (vs d)) r _
     rw [hv d (hd d (by simp))]
     exact ih _ fun x hx => hd x (by simp [hx])
   exact hgen _ _ fun d hd => by rw [hI.tsz]; exact hD d hd
  rw [zHf hI.tsz hI.defers hI.kept, e]
  refine hlast z vs w (fun i h => by rw [hz i h]; exact hall i h) hi fun j oj d hoj hd => ?_
  rw [hv d (by rw [hI.tsz]; exact hD d (hdl j oj d hoj hd))]
  exact hI.fact j oj d hoj hd (hall j (Array.getElem?_eq_some_iff.1 hoj).1)
 have hnone : ∀ (listed : Array Bool), listed.size = ops.size -> Region.ready .any ops listed = [] -> ∀ i, i < ops.size -> listed.getD i false = true := by
  intro listed hsz hr
  have hall : ∀ k i, i < k -> i < ops.size -> listed.getD i false = true := by
   intro k
   induction k with
   | zero => intro i hi; omega
   | succ k ihk =>
    intro i hi hin
    by_cases e : i < k
    ·exact ihk i e hin
    cases hl : listed.getD i false with
    | true => rfl
    | false =>
     exfalso
     obtain ⟨o, ho⟩ : ∃ o, ops[i]? = some o := ⟨_, Array.getElem?_eq_getElem hin⟩
     have hm : i ∈ Region.ready .any ops listed := mem_ready.2 ⟨by rw [zBy (by omega) true false]; exact hl, o, ho, fun e he hb => by
      have h6 := h3 i o e ho he hb
      exact ihk e.on (by omega) (by omega)⟩
     rw [hr] at hm; cases hm
  exact fun i hi => hall (i + 1) i (by omega) hi
 intro fuel
 induction fuel with
 | zero =>
  intro listed a w hI hc
  have hall : ∀ i, i < ops.size -> listed.getD i false = true := by
   intro i hi
   cases hl : listed.getD i false with
   | true => rfl
   | false =>
    exfalso
    have := zCF listed i (by rw [zBy (by rw [hI.size]; exact hi) true false]; exact hl)
    omega
  refine ⟨?_, hend listed a w hI hall⟩
  cases hrd : Region.ready .any ops listed with
  | nil => rfl
  | cons z q =>
   exfalso
   have hz : z ∈ Region.ready .any ops listed := by rw [hrd]; simp
   obtain ⟨hu, o, ho, _⟩ := mem_ready.1 hz
   have hzl : z < ops.size := (Array.getElem?_eq_some_iff.1 ho).1
   have := hall z hzl
   rw [zBy (by rw [hI.size]; exact hzl) false true, hu] at this; cases this
 | succ fuel ih =>
  intro listed a w hI hc
  refine ⟨fun hr => hend listed a w hI (hnone listed hI.size hr), fun i hi => ?_⟩
  obtain ⟨hu, o, ho, hp⟩ := mem_ready.1 hi
  have hpr := zFU ho hp
  have hin : i < ops.size := (Array.getElem?_eq_some_iff.1 ho).1
  have hil : listed.getD i false = false := by rw [zBy (by rw [hI.size]; exact hin) false true]; exact hu
  obtain ⟨z, vs, hz, hv, hinv⟩ := hI.inv
  refine wpOp_step ho fun K' hK => ?_
  have hg := h2 i o ho
  rw [if_pos (by unfold Region.wanted; rw [hg])]
  refine Oper.wp_mono ?_ (hstep i o a w z vs ho ((hz i hin).trans hil) (fun k j hk hj hkj hzj => ?_) (fun j hj hij => (hz j hj).trans (hpr j hij)) hinv (fun t ht => hv t (by rw [hI.tsz]; exact ht)) hI.kept fun j oj d hj hoj hd => hI.fact j oj d hoj hd (hpr j hj))
  ·rintro a' w' ⟨v, rfl, hF, hG⟩
   refine hK _ _ (ih _ _ _ ?_ ?_)
   ·refine ⟨by rw [Array.size_setIfInBounds]; exact hI.size, ?_, ?_, ?_, ?_, ⟨zOu z i, zK9 vs o.dst v, ?_, ?_, hG⟩, ?_⟩
    ·cases hd : o.dst with
     | none => exact hI.tsz
     | some d => simp only [Act.put, Array.size_setIfInBounds]; exact hI.tsz
    ·cases hd : o.dst with
     | none => exact hI.defers
     | some d => exact hI.defers
    ·intro t ht
     cases hd : o.dst with
     | none => exact hI.kept t ht
     | some d =>
      have hne : d ≠ t := fun e => ht (by rw [<- e]; exact hdl i o d ho hd)
      rw [zBq hne]; exact hI.kept t ht
    ·intro j oj d hoj hd hlj
     by_cases e : i = j
     ·subst e
      obtain rfl := oI (ho.symm.trans hoj)
      have hdl : d < a.tmps.size := by
       rw [hI.tsz]
       exact hD d (hdl i o d ho hd)
      rw [hd, zCD hdl]; exact hF
     ·rw [getD_set_ne false e] at hlj
      have hf := hI.fact j oj d hoj hd hlj
      cases hdo : o.dst with
      | none => exact hf
      | some d' =>
       have hne : d' ≠ d := fun x => e (h5 i j o oj d ho hoj (by rw [hdo, x]) hd)
       rw [zBq hne]; exact hf
    ·intro j hj
     unfold zOu
     by_cases e : i = j
     ·subst e
      have : i < listed.size := by rw [hI.size]; exact hin
      simp [Array.getD_eq_getD_getElem?, this]
     ·rw [if_neg e, getD_set_ne false e]; exact hz j hj
    ·intro t ht
     unfold zK9
     cases hdo : o.dst with
     | none =>
      rw [hdo] at ht
      exact hv t ht
     | some d' =>
      have ht : t < a.tmps.size := by
       rw [hdo] at ht
       simpa [Act.put] using ht
      by_cases e : d' = t
      ·subst e
       rw [zCD ht]; simp
      ·rw [zBq e]
       simp only [if_neg e]
       exact hv t ht
    ·intro k j hlk hkj
     by_cases e : i = k
     ·subst e; exact getD_set_true (hpr j hkj)
     ·rw [getD_set_ne false e] at hlk
      exact getD_set_true (hI.down k j hlk hkj)
   ·have := zCF listed i hu; omega
  ·rw [hz j hj] at hzj
   rw [hz k hk]
   cases hl : listed.getD k false with
   | false => rfl
   | true => have := hI.down k j hl hkj; rw [hzj] at this; cases this
theorem zAV {id : Nat} {a0 : Act} {w0 : World} (F : Nat -> Value -> Prop) (I : (Nat -> Bool) -> (Tmp -> Value) -> World -> Prop) (hm : P.follows .mixedOrders = true) (hB : zVe ops = true) (hD : (zCE ops ops.size).all (fun d => decide (d < a0.tmps.size)) = true)
  (h0 : ∀ vs, I (fun _ => false) vs { w0 with drawn := w0.drawn + 1 })
  (hstep : ∀ (i : Nat) (o : Oper) (a : Act) (w : World) (z : Nat -> Bool) (vs : Tmp -> Value), ops[i]? = some o -> z i = false -> (∀ k j, k < ops.size -> j < ops.size -> zB9 ops k j = true -> z j = false -> z k = false) -> (∀ j, j < ops.size -> zB9 ops i j = true -> z j = true) -> I z vs w ->
   (∀ t, t < a0.tmps.size -> vs t = a.eval (.tmp t)) -> (∀ t, t ∉ zCE ops ops.size -> a.eval (.tmp t) = a0.eval (.tmp t)) ->
   (∀ (j : Nat) (oj : Oper) (d : Tmp), zB9 ops i j = true -> ops[j]? = some oj -> oj.dst = some d -> F j (a.eval (.tmp d))) -> o.wp P a w (fun a' w' => ∃ v, a' = a.put o.dst v /\ F i v /\ I (zOu z i) (zK9 vs o.dst v) w') Q)
  (hlast : ∀ (z : Nat -> Bool) (vs : Tmp -> Value) (w : World), (∀ i, i < ops.size -> z i = true) -> I z vs w -> (∀ (j : Nat) (oj : Oper) (d : Tmp), ops[j]? = some oj -> oj.dst = some d -> F j (vs d)) -> Q .normal (zAI a0 (zCE ops ops.size) vs) w) :
  (Code.region id ops true).wp P Q a0 w0 := by
 refine wp_region_any hm ?_
 have hrep : ∀ i, (Array.replicate ops.size false).getD i false = false := fun i => by
  by_cases e : i < ops.size
  ·simp [Array.getD_eq_getD_getElem?, e]
  ·simp [Array.getD_eq_getD_getElem?, e]
 refine zNM (a0 := a0) (F := F) (I := I) hB (fun d hd => of_decide_eq_true (List.all_eq_true.1 hD d hd)) hstep hlast ops.size _ _ _ ?_ ?_
 ·refine ⟨by simp, rfl, rfl, fun _ _ => rfl, fun i o d _ _ hl => ?_, ⟨fun _ => false, fun t => a0.eval (.tmp t), fun j _ => (hrep j).symm, fun _ _ => rfl, h0 _⟩, fun i j hl _ => ?_⟩
  ·rw [hrep] at hl; cases hl
  ·rw [hrep] at hl; cases hl
 ·refine Nat.le_trans (List.length_filter_le _ _) ?_
  simp
end
end Go.Proofs.YtbeeoomadnmogaaGreat
