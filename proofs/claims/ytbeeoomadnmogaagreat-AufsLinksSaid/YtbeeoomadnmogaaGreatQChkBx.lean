/- ChkB ChkD ChkF -/
import Derived.Test.YtbeeoomadnmogaaGreatQI3
import Derived.Test.YtbeeoomadnmogaaGreatQAttrA
import Derived.Test.YtbeeoomadnmogaaGreatQChkC
import Derived.Test.YtbeeoomadnmogaaGreatQChkE
set_option maxRecDepth 100000
set_option maxHeartbeats 64000000
namespace Go.Proofs.YtbeeoomadnmogaaGreat
open Go.RowKit
theorem zNY (B:Nat)(w:World)(c m1 m2:Nat)(vd:Value)(D:List Opn)(f:Bool)(cl:Int)(x:TrN)(va:Value)
  (hblk:w.heap[c]? = some (.cells #[vd,.bool f,.map (some m1),.map (some m2),.int .i64 cl] 149 (0,0))) (hBc:B<=c) (hBw:B<=w.heap.size) (hD:zAg cdO B w vd D) (h0:D.length=0) (hva:∃a n m,va= .slice a n m) :
  Calls Tryz.prog 171 #[.pointer (some ⟨c,0,none⟩),trV x va] w (zLc B w c m1 m2 vd D f cl x):=by
 unfold trV;obtain⟨a3,n3,cap3,rfl⟩:=hva;obtain rfl:D= []:=List.length_eq_zero_iff.1 h0;obtain⟨ad,cap,rfl⟩:=hD.form;replace hD:zAg cdO B w (.slice ad 0 cap) []:=hD;replace hblk:w.heap[c]? = some (.cells #[.slice ad 0 cap,.bool f,.map (some m1),.map (some m2),.int .i64 cl] 149 (0,0)):=hblk;have hcl:=bL hblk;have k0:w.cell? ⟨c,0,none⟩=some (.slice ad 0 cap):=bC hblk 0;have k1:w.cell? ⟨c,1,none⟩=some (.bool f):=bC hblk 1;have fc:∀j,w.frozen? ⟨c,j,none⟩=false:=fun j=>bT hblk j;have HBK:=hQq hblk;clear hblk;have HD:=hQq hD;clear hD;have HP:Hid (zDb [] f x=if x.dep=0/\x.nm.toList= []/\x.kd=1 then 0 else 6):=hQq (by unfold zDb;rw[if_pos h0]);clear h0;by_cases e1:x.dep=0
 case neg=>
  have d1:(x.dep != 0)=true:=bne_iff_ne.2 e1;have HR:=hQq (HP.out.trans (if_neg (fun h=>e1 h.1)));clear e1 HP;go_enter Tryz.func171,Tryz.ntmps171;go_wp2;go_ret;exact zBx HR.out (by decide) ((eA _ _).mono hBw)
 by_cases e2:x.nm.toList= []
 case neg=>
  have d2:x.nm.toList.isEmpty=false:=by simpa using e2
  have HR:=hQq (HP.out.trans (if_neg (fun h=>e2 h.2.1)));clear e2 HP;go_enter Tryz.func171,Tryz.ntmps171;go_wp2;go_ret;exact zBx HR.out (by decide) ((eA _ _).mono hBw)
 have d2:x.nm.toList.isEmpty=true:=by rw[e2];rfl
 by_cases e3:x.kd=1
 case neg=>
  have d3:(x.kd != 1)=true:=bne_iff_ne.2 e3;have HR:=hQq (HP.out.trans (if_neg (fun h=>e3 h.2.2)));clear e3 e2 HP;go_enter Tryz.func171,Tryz.ntmps171;go_wp2;go_ret;exact zBx HR.out (by decide) ((eA _ _).mono hBw)
 have HR:=hQq (HP.out.trans (if_pos ⟨e1,e2,e3⟩));clear e2 HP;go_enter Tryz.func171,Tryz.ntmps171;go_wp2_with (at_builtin;refine zIX okO rfl (.tmp 31) (.tmp 33) rfl (.slice ad 0 cap) _ [] [(0,⟨#[]⟩)] w _ rfl rfl (by exact(HD.out.ext okO (eA _ _)).ext okO (eA _ _)) (by exact zAj okO _ (0,⟨#[]⟩) (zRB (0,⟨#[]⟩)) _ (by simp) rfl) (by exact(eA _ _).mono hBw |>.alloc (by simp;omega) _) (by simp;omega) (by simp) ?_;intro v1 w1 ha;have HB1:=hQq (ha.chg.keep _ _ (bA (bA HBK.out)) (zJm HD.out HBK.out (by decide)));obtain⟨a1,cap1,rfl⟩:=ha.own.form;have hc1:=bL HB1.out;have k0:w1.cell? ⟨c,0,none⟩=some (.slice ad 0 cap):=bC HB1.out 0;have fc:∀j,w1.frozen? ⟨c,j,none⟩=false:=fun j=>bT HB1.out j;have HA:=hQq ha;clear ha)
 go_ret;refine⟨by rw[HR.out];rfl,HA.out.below.setCell (p:=⟨c,0,none⟩) hBc _,fun _=>⟨.slice a1 1 cap1,by rw[bS HB1.out];rfl,?_,fun b o h1 h2 h3=>bSn (HA.out.chg.keep _ _ (bA (bA h1)) h3) _ _ h2⟩⟩;have:zFg [] x= []++ [(0,⟨#[]⟩)]:=by unfold zFg;simp
 rw[this];exact HA.out.own.other okO (zD6 HB1.out hBc _) (by decide) (by simp[cdO])
theorem zNW (B:Nat)(w:World)(c m1 m2 g cap:Nat)(D:List Opn)(f:Bool)(cl:Int)(x:TrN)(a3:Option Addr)(n3 cap3 m:Nat)(d:Opn)
  (hblk:w.heap[c]? = some (.cells #[.slice (some ⟨g,0,none⟩) D.length cap,.bool f,.map (some m1),.map (some m2),.int .i64 cl] 149 (0,0))) (hBc:B<=c) (hBw:B<=w.heap.size) (hD:zAg cdO B w (.slice (some ⟨g,0,none⟩) D.length cap) D) (hl:D.length<=9)
  (hmD:m<D.length) (hdm:D[m]? = some d) (hdep:x.dep=(m:Int)+1) (p1:¬8<(m:Int)+1) (p2:zAn (L x.nm)=0) (hd23:d.1<24) (e2f:f=false->¬(D.length:Int)<(m:Int)+1) (e2t:f=true->(m:Int)+1<(D.length:Int))
  (hz:zDb D f x=0) (hpd:zFg D x=(D.set m (d.1+1,x.nm)).take (m+1)++ [(0,⟨#[]⟩)]) (hr:(0<d.1/\(d.2.toList==x.nm.toList)=false/\Op.bytesLess d.2.toList x.nm.toList=true)\/d.1=0) :
  Calls Tryz.prog 171 #[.pointer (some ⟨c,0,none⟩),.agg #[.int .i64 x.dep,.string x.nm,.int .i64 x.kd,.slice a3 n3 cap3,.string x.dat,.int .i64 x.ma,.int .i64 x.mi,.int .i64 x.cl]] w (zLc B w c m1 m2 (.slice (some ⟨g,0,none⟩) D.length cap) D f cl x):=by
 have HNE:=hQq (zJm hD hblk (by decide));obtain⟨_,he0,hBg,hgl,_⟩:=hD.addr (by omega);cases he0;have hcl:=bL hblk;have k0:w.cell? ⟨c,0,none⟩=some (.slice (some ⟨g,0,none⟩) D.length cap):=bC hblk 0;have k1:w.cell? ⟨c,1,none⟩=some (.bool f):=bC hblk 1;have fc:∀j,w.frozen? ⟨c,j,none⟩=false:=fun j=>bT hblk j;have fg:∀j,w.frozen? ⟨g,j,none⟩=false:=fun j=>hD.frozen j;have HBK:=hQq hblk;clear hblk;obtain⟨b',off',he,_,d0,d1⟩:=(hD.in okO).opn m hmD;cases he;have hdd:D[m]'hmD=d:=by rw[List.getElem?_eq_getElem hmD]at hdm;injection hdm
 have HDM:Hid (D[m]? = some d):=hdm;rw[hdd,Nat.zero_add]at d0 d1;have HD:=hQq hD;clear hD;have HZ:=hQq hz;have HPD:=hQq hpd;clear hz hpd hdd hdm;have z0:(((D.length:Nat):Int)==0)=false:=nB (by omega);have z1:0<D.length:=by omega
 have hz2:c<w.heap.size+1:=by omega
 have hg2:g<w.heap.size+1:=by omega
 have hcg:c≠g:=fun e=>HNE.out (by rw[e];rfl);have hgc:g≠c:=fun e=>hcg e.symm;have j1:((m:Nat):Int)<(D.length:Int):=by omega
 have j0:(0:Int)<=(m:Int):=by omega
 have j3:IntKind.i64.wrap ((d.1:Int)+1)=(d.1:Int)+1:=IntWalk.i64_in _ (by omega);have q0:¬(m:Int)+1<1:=by omega
 have r4:(((d.1:Nat):Int)==24)=false:=nB (by omega);rcases hr with ⟨r1,r2,r3⟩|r1
 ·cases f
  case' false=>have q:=e2f rfl
  case' true=>have q:=e2t rfl
  all_goals
   clear e2f e2t;go_enter Tryz.func171,Tryz.ntmps171;go_wp2_with (go_at_call 106;refine(zAZ x.nm _).mono ?_;rintro e w2 ⟨rfl,hb⟩;obtain⟨hc,hf⟩:=zFe hb;have hsz2:=hb.size;have HB:=hQq hb;clear hb)
   go_quiet (fail)
   go_wp2;go_quiet (fail)
   go_wp2;go_quiet (fail)
   go_wp2;go_region
   refine zKu (P:=fun W=>Exit.then _ _ _ _ W) HB.out HBK.out HD.out hmD HDM.out hcg hBw ?_;intro W3 b1 b2 o3 hb3 hk3;clear hc hf hsz2;have HB3:=hQq hb3;have HK3:=hQq hk3;have HO3:=hQq o3;have B1:=hQq b1;have B2:=hQq b2;have u0:W3.cell? ⟨c,0,none⟩=some (.slice (some ⟨g,0,none⟩) D.length cap):=bC b1 0;have u1:W3.cell? ⟨w.heap.size,0,none⟩=some (.int .i64 ((m:Int)+1)):=bC b2 0;have u2:∀j,W3.frozen? ⟨c,j,none⟩=false:=fun j=>bT b1 j;have hc3:=bL b1;have hw3:=bL b2;clear hb3 hk3 o3 b1 b2;have HT3:=hQq (HO3.out.trunc okO (by simp;omega) (by simp;omega:m+1<=(D.set m ((d.1+1,x.nm):Opn)).length));have hBw3:B<=W3.heap.size:=Nat.le_trans hBw HB3.out.size;have j4:((m:Nat):Int)+1<=(cap:Int):=by obtain⟨a',cap',he,hcap,_⟩:=HD.out.in okO;cases he;omega
   have j5:m+1<=cap:=by omega
   have j6:(0:Int)<=(m:Int)+1:=by omega
   go_wp2;go_region_law ((refine zUy okO (by rfl) (.tmp 132) (.tmp 134) (by rfl) (.slice (some ⟨g,0,none⟩) (m+1) cap) _ ((D.set m (d.1+1,x.nm)).take (m+1)) [(0,⟨#[]⟩)] w _ (by rfl) (by rfl) (by exact HT3.out.ext okO (by repeat (first|exact bR _ _|refine Ext.trans ?_ (eA _ _)|refine Ext.trans ?_ (eDn _ _)|refine Ext.trans ?_ (eD _)))) (by exact zAj okO _ (0,⟨#[]⟩) (zRB (0,⟨#[]⟩)) _ (by simp) rfl) (by exact Below.trans HB3.out (Below.mono (by repeat (first|exact bR _ _|refine Ext.trans ?_ (eA _ _)|refine Ext.trans ?_ (eDn _ _)|refine Ext.trans ?_ (eD _))) (Nat.le_trans hBw HB3.out.size))) (by have:=hBw3;simp;omega) (by rw[List.length_take];simp;omega) ?_;intro v1 w1 ha;have HB4:=hQq (ha.chg.keep _ _ (by exact bX (by repeat (first|exact bR _ _|refine Ext.trans ?_ (eA _ _)|refine Ext.trans ?_ (eDn _ _)|refine Ext.trans ?_ (eD _))) B1.out) (fun e=>hcg (by injection e with e;exact e.symm)));obtain⟨a1,cap1,rfl⟩:=ha.own.form;have hc4:=bL HB4.out;have u3:w1.cell? ⟨c,0,none⟩=some (.slice (some ⟨g,0,none⟩) D.length cap):=bC HB4.out 0;have u4:∀j,w1.frozen? ⟨c,j,none⟩=false:=fun j=>bT HB4.out j;have HK4:Hid (∀b o,W3.heap[b]? = some o->b≠g->w1.heap[b]? = some o):=fun b o h1 h2=>ha.chg.keep _ _ (by exact bX (by repeat (first|exact bR _ _|refine Ext.trans ?_ (eA _ _)|refine Ext.trans ?_ (eDn _ _)|refine Ext.trans ?_ (eD _))) h1) (fun e=>h2 (by injection e with e;exact e.symm));have HA:=hQq ha;clear ha))
   all_goals
    go_wp2;go_ret;refine⟨by rw[HZ.out];rfl,HA.out.below.setCell (p:=⟨c,0,none⟩) hBc _,fun _=>⟨_,by rw[bS HB4.out];rfl,?_,fun b o h1 h2 h3=>bSn (HK4.out _ _ (HK3.out _ _ h1 (fun e=>h3 (by rw[e];rfl))) (fun e=>h3 (by rw[e];rfl))) _ _ h2⟩⟩;rw[HPD.out];have hown:=HA.out.own.other okO (zD6 (o:=0) HB4.out hBc (.slice a1 (min (m+1) D.length+1) cap1)) (by decide) (by simp[cdO]);have hlen:((D.set m ((d.1+1,x.nm):Opn)).take (m+1)++ [((0,⟨#[]⟩):Opn)]).length=min (m+1) D.length+1:=by simp
    rw[hlen]at hown;exact hown
 ·have r1a:¬0<d.1:=by omega
  have r1b:decide (0<d.1)=false:=decide_eq_false r1a;clear r1;cases f;case' false=>have q:=e2f rfl
  case' true=>have q:=e2t rfl
  all_goals
   clear e2f e2t;go_enter Tryz.func171,Tryz.ntmps171;go_wp2_with (go_at_call 106;refine(zAZ x.nm _).mono ?_;rintro e w2 ⟨rfl,hb⟩;obtain⟨hc,hf⟩:=zFe hb;have hsz2:=hb.size;have HB:=hQq hb;clear hb)
   go_quiet (fail)
   go_wp2;go_quiet (fail)
   go_wp2;go_quiet (fail)
   go_wp2;go_region
   refine zKu (P:=fun W=>Exit.then _ _ _ _ W) HB.out HBK.out HD.out hmD HDM.out hcg hBw ?_;intro W3 b1 b2 o3 hb3 hk3;clear hc hf hsz2;have HB3:=hQq hb3;have HK3:=hQq hk3;have HO3:=hQq o3;have B1:=hQq b1;have B2:=hQq b2;have u0:W3.cell? ⟨c,0,none⟩=some (.slice (some ⟨g,0,none⟩) D.length cap):=bC b1 0;have u1:W3.cell? ⟨w.heap.size,0,none⟩=some (.int .i64 ((m:Int)+1)):=bC b2 0;have u2:∀j,W3.frozen? ⟨c,j,none⟩=false:=fun j=>bT b1 j;have hc3:=bL b1;have hw3:=bL b2;clear hb3 hk3 o3 b1 b2;have HT3:=hQq (HO3.out.trunc okO (by simp;omega) (by simp;omega:m+1<=(D.set m ((d.1+1,x.nm):Opn)).length));have hBw3:B<=W3.heap.size:=Nat.le_trans hBw HB3.out.size;have j4:((m:Nat):Int)+1<=(cap:Int):=by obtain⟨a',cap',he,hcap,_⟩:=HD.out.in okO;cases he;omega
   have j5:m+1<=cap:=by omega
   have j6:(0:Int)<=(m:Int)+1:=by omega
   go_wp2;go_region_law ((refine zUy okO (by rfl) (.tmp 132) (.tmp 134) (by rfl) (.slice (some ⟨g,0,none⟩) (m+1) cap) _ ((D.set m (d.1+1,x.nm)).take (m+1)) [(0,⟨#[]⟩)] w _ (by rfl) (by rfl) (by exact HT3.out.ext okO (by repeat (first|exact bR _ _|refine Ext.trans ?_ (eA _ _)|refine Ext.trans ?_ (eDn _ _)|refine Ext.trans ?_ (eD _)))) (by exact zAj okO _ (0,⟨#[]⟩) (zRB (0,⟨#[]⟩)) _ (by simp) rfl) (by exact Below.trans HB3.out (Below.mono (by repeat (first|exact bR _ _|refine Ext.trans ?_ (eA _ _)|refine Ext.trans ?_ (eDn _ _)|refine Ext.trans ?_ (eD _))) (Nat.le_trans hBw HB3.out.size))) (by have:=hBw3;simp;omega) (by rw[List.length_take];simp;omega) ?_;intro v1 w1 ha;have HB4:=hQq (ha.chg.keep _ _ (by exact bX (by repeat (first|exact bR _ _|refine Ext.trans ?_ (eA _ _)|refine Ext.trans ?_ (eDn _ _)|refine Ext.trans ?_ (eD _))) B1.out) (fun e=>hcg (by injection e with e;exact e.symm)));obtain⟨a1,cap1,rfl⟩:=ha.own.form;have hc4:=bL HB4.out;have u3:w1.cell? ⟨c,0,none⟩=some (.slice (some ⟨g,0,none⟩) D.length cap):=bC HB4.out 0;have u4:∀j,w1.frozen? ⟨c,j,none⟩=false:=fun j=>bT HB4.out j;have HK4:Hid (∀b o,W3.heap[b]? = some o->b≠g->w1.heap[b]? = some o):=fun b o h1 h2=>ha.chg.keep _ _ (by exact bX (by repeat (first|exact bR _ _|refine Ext.trans ?_ (eA _ _)|refine Ext.trans ?_ (eDn _ _)|refine Ext.trans ?_ (eD _))) h1) (fun e=>h2 (by injection e with e;exact e.symm));have HA:=hQq ha;clear ha))
   all_goals
    go_wp2;go_ret;refine⟨by rw[HZ.out];rfl,HA.out.below.setCell (p:=⟨c,0,none⟩) hBc _,fun _=>⟨_,by rw[bS HB4.out];rfl,?_,fun b o h1 h2 h3=>bSn (HK4.out _ _ (HK3.out _ _ h1 (fun e=>h3 (by rw[e];rfl))) (fun e=>h3 (by rw[e];rfl))) _ _ h2⟩⟩;rw[HPD.out];have hown:=HA.out.own.other okO (zD6 (o:=0) HB4.out hBc (.slice a1 (min (m+1) D.length+1) cap1)) (by decide) (by simp[cdO]);have hlen:((D.set m ((d.1+1,x.nm):Opn)).take (m+1)++ [((0,⟨#[]⟩):Opn)]).length=min (m+1) D.length+1:=by simp
    rw[hlen]at hown;exact hown
theorem zNX (B:Nat)(w:World)(c m1 m2:Nat)(vd:Value)(D:List Opn)(f:Bool)(cl:Int)(x:TrN)(va:Value)
  (hblk:w.heap[c]? = some (.cells #[vd,.bool f,.map (some m1),.map (some m2),.int .i64 cl] 149 (0,0))) (hBc:B<=c) (hBw:B<=w.heap.size) (hD:zAg cdO B w vd D) (h0:D.length≠0) (hl:D.length<=9) (hm:∀d∈D,d.1<=24) (hva:∃a n m,va= .slice a n m) :
  Calls Tryz.prog 171 #[.pointer (some ⟨c,0,none⟩),trV x va] w (zLc B w c m1 m2 vd D f cl x):=by
 unfold trV;obtain⟨a3,n3,cap3,rfl⟩:=hva;have HNE:=hQq (zJm hD hblk (by decide));obtain⟨ad,cap,rfl⟩:=hD.form;obtain⟨g,rfl,hBg,hgl,_⟩:=hD.addr (by omega);have hcl:=bL hblk;have k0:w.cell? ⟨c,0,none⟩=some (.slice (some ⟨g,0,none⟩) D.length cap):=bC hblk 0;have k1:w.cell? ⟨c,1,none⟩=some (.bool f):=bC hblk 1;have fc:∀j,w.frozen? ⟨c,j,none⟩=false:=fun j=>bT hblk j;have HBK:=hQq hblk;clear hblk;have HD:=hQq hD;clear hD;have HM:=hQq hm;clear hm;have HP:=hQq (zPw (f:=f) (x:=x) h0);have z0:(((D.length:Nat):Int)==0)=false:=nB (by omega);have z1:0<D.length:=by omega
 by_cases e1:x.dep<1
 ·have HR:=hQq (HP.out.trans (if_pos (.inl e1)));clear HP h0;cases f
  all_goals
   go_enter Tryz.func171,Tryz.ntmps171;go_wp2;go_ret;exact zBx HR.out (by decide) ((eA _ _).mono hBw)
 by_cases e2:(if f then (D.length:Int)-1 else D.length)<x.dep
 ·have HR:=hQq (HP.out.trans (if_pos (.inr e2)));clear HP h0;cases f
  ·replace e2:(D.length:Int)<x.dep:=e2;go_enter Tryz.func171,Tryz.ntmps171;go_wp2;go_ret;exact zBx HR.out (by decide) ((eA _ _).mono hBw)
  ·replace e2:(D.length:Int)-1<x.dep:=e2;go_enter Tryz.func171,Tryz.ntmps171;go_wp2;go_ret;exact zBx HR.out (by decide) ((eA _ _).mono hBw)
 have HP2:=hQq (HP.out.trans (if_neg (not_or.2 ⟨e1,e2⟩)));clear HP;obtain⟨m,hdep⟩:∃m:Nat,x.dep=(m:Int)+1:=⟨(x.dep-1).toNat,by omega⟩;have hmD:m<D.length:=by cases f<;>simp at e2<;>omega
 have hmt:x.dep.toNat-1=m:=by omega
 have hgd:D.getD (x.dep.toNat-1) (0,⟨#[]⟩)=D[m]'hmD:=by rw[hmt,List.getD_eq_getElem?_getD,List.getElem?_eq_getElem hmD];rfl
 rw[hgd]at HP2;have hf2:(if f then (D.length:Int)-1 else D.length)<x.dep↔False:=iff_false_intro e2;obtain⟨b',off',he,_,d0,d1⟩:=(HD.out.in okO).opn m hmD;cases he;rw[Nat.zero_add]at d0 d1;have hd24:=HM.out _ (List.getElem_mem hmD);have HPD:Hid (zFg D x=(D.set m ((D[m]'hmD).1+1,x.nm)).take (m+1)++ [(0,⟨#[]⟩)]):=hQq (by unfold zFg;rw[if_neg h0,hgd,hmt,show x.dep.toNat=m+1 by omega]);have HDM:Hid (D[m]? = some (D[m]'hmD)):=List.getElem?_eq_getElem hmD;generalize D[m]'hmD=d at d0 d1 hd24 HP2 HPD HDM hgd;have hz2:c<w.heap.size+1:=by omega
 have hg2:g<w.heap.size+1:=by omega
 have j1:((m:Nat):Int)<(D.length:Int):=by omega
 have j0:(0:Int)<=(m:Int):=by omega
 have j3:IntKind.i64.wrap ((d.1:Int)+1)=(d.1:Int)+1:=IntWalk.i64_in _ (by omega);have e2f:f=false->¬(D.length:Int)<(m:Int)+1:=fun h=>by subst h;simp at e2;omega
 have e2t:f=true->(m:Int)+1<(D.length:Int):=fun h=>by subst h;simp at e2;omega
 have q0:¬(m:Int)+1<1:=by omega
 clear hgd hmt hf2 e1 e2 h0;by_cases p1:8<(m:Int)+1
 ·have HR:=hQq (HP2.out.trans (if_pos (by rw[hdep];exact p1)));clear HP2;cases f
  ·have q:=e2f rfl;clear e2f e2t;go_enter Tryz.func171,Tryz.ntmps171;go_wp2;go_ret;exact zBx HR.out (by decide) ((eA _ _).mono hBw)
  ·have q:=e2t rfl;exfalso;omega
 have HP3:=hQq (HP2.out.trans (if_neg (by rw[hdep];exact p1)));clear HP2;by_cases p2:zAn (L x.nm)=0
 case neg=>
  have HR:=hQq (HP3.out.trans (if_pos p2));clear HP3;have n1:(zAn (L x.nm) != 0)=true:=bne_iff_ne.2 p2;cases f;case' false=>have q:=e2f rfl
  case' true=>have q:=e2t rfl
  all_goals
   clear e2f e2t;go_enter Tryz.func171,Tryz.ntmps171;go_wp2_with (go_at_call 106;refine(zAZ x.nm _).mono ?_;rintro e w2 ⟨rfl,hb⟩;obtain⟨hc,hf⟩:=zFe hb;have hsz2:=hb.size;have HB:=hQq hb;clear hb)
   go_ret;exact zBx HR.out p2 (((eA _ _).trans HB.out).mono hBw)
 have HP4:=hQq (HP3.out.trans (if_neg (by simpa using p2)));clear HP3;by_cases p3:0<d.1/\d.2=x.nm
 ·have HR:=hQq (HP4.out.trans (if_pos p3));clear HP4;have r1:0<d.1:=p3.1;have r2:(d.2.toList==x.nm.toList)=true:=by rw[p3.2];simp
  clear p3;cases f;case' false=>have q:=e2f rfl
  case' true=>have q:=e2t rfl
  all_goals
   clear e2f e2t;go_enter Tryz.func171,Tryz.ntmps171;go_wp2_with (go_at_call 106;refine(zAZ x.nm _).mono ?_;rintro e w2 ⟨rfl,hb⟩;obtain⟨hc,hf⟩:=zFe hb;have hsz2:=hb.size;have HB:=hQq hb;clear hb)
   go_quiet (fail)
   go_wp2;go_quiet (fail)
   go_wp2;go_ret;exact zBx HR.out (by decide) ((((eA _ _).trans HB.out).trans (by first|exact eDn _ _|exact Ext.trans (eDn _ _) (eDn _ _)|exact Ext.trans (eDn _ _) (Ext.trans (eDn _ _) (eDn _ _)))).mono hBw)
 have HP5:=hQq (HP4.out.trans (if_neg p3));clear HP4;by_cases p4:0<d.1/\L x.nm<L d.2
 ·have HR:=hQq (HP5.out.trans (if_pos p4));clear HP5;have r1:0<d.1:=p4.1;have r2:(d.2.toList==x.nm.toList)=false:=by rw[beq_eq_false_iff_ne];intro h;exact p3 ⟨p4.1,zBG (by rw[<- tL,<- tL];exact h)⟩
  have r3:=zD7 (fun h=>List.lt_irrefl _ (List.lt_trans p4.2 h));clear p3 p4;cases f;case' false=>have q:=e2f rfl
  case' true=>have q:=e2t rfl
  all_goals
   clear e2f e2t;go_enter Tryz.func171,Tryz.ntmps171;go_wp2_with (go_at_call 106;refine(zAZ x.nm _).mono ?_;rintro e w2 ⟨rfl,hb⟩;obtain⟨hc,hf⟩:=zFe hb;have hsz2:=hb.size;have HB:=hQq hb;clear hb)
   go_quiet (fail)
   go_wp2;go_quiet (fail)
   go_wp2;go_quiet (fail)
   go_wp2;go_ret;exact zBx HR.out (by decide) ((((eA _ _).trans HB.out).trans (by first|exact eDn _ _|exact Ext.trans (eDn _ _) (eDn _ _)|exact Ext.trans (eDn _ _) (Ext.trans (eDn _ _) (eDn _ _)))).mono hBw)
 have HP6:=hQq (HP5.out.trans (if_neg p4));clear HP5;by_cases p5:d.1=24
 ·have HR:=hQq (HP6.out.trans (if_pos p5));clear HP6;have r1:0<d.1:=by omega
  have r2:(d.2.toList==x.nm.toList)=false:=by rw[beq_eq_false_iff_ne];intro h;exact p3 ⟨r1,zBG (by rw[<- tL,<- tL];exact h)⟩
  have r3:=zEP (zG8 (a:=d.2) (b:=x.nm) (fun h=>p3 ⟨r1,h⟩) (fun h=>p4 ⟨r1,h⟩));have r4:(((d.1:Nat):Int)==24)=true:=beq_iff_eq.2 (by omega);clear p3 p4 p5;cases f;case' false=>have q:=e2f rfl
  case' true=>have q:=e2t rfl
  all_goals
   clear e2f e2t;go_enter Tryz.func171,Tryz.ntmps171;go_wp2_with (go_at_call 106;refine(zAZ x.nm _).mono ?_;rintro e w2 ⟨rfl,hb⟩;obtain⟨hc,hf⟩:=zFe hb;have hsz2:=hb.size;have HB:=hQq hb;clear hb)
   go_quiet (fail)
   go_wp2;go_quiet (fail)
   go_wp2;go_quiet (fail)
   go_wp2;go_ret;exact zBx HR.out (by decide) ((((eA _ _).trans HB.out).trans (by first|exact eDn _ _|exact Ext.trans (eDn _ _) (eDn _ _)|exact Ext.trans (eDn _ _) (Ext.trans (eDn _ _) (eDn _ _)))).mono hBw)
 have HP7:=HP6;have hd23:d.1<24:=by omega
 have hz:zDb D f x=0:=HP7.out.trans (if_neg p5);refine zNW B w c m1 m2 g cap D f cl x a3 n3 cap3 m d HBK.out hBc hBw HD.out hl hmD HDM.out hdep p1 p2 hd23 e2f e2t hz HPD.out ?_;by_cases r1:0<d.1
 ·refine .inl ⟨r1,?_,zEP (zG8 (a:=d.2) (b:=x.nm) (fun h=>p3 ⟨r1,h⟩) (fun h=>p4 ⟨r1,h⟩))⟩;rw[beq_eq_false_iff_ne];intro h;exact p3 ⟨r1,zBG (by rw[<- tL,<- tL];exact h)⟩
 ·exact .inr (by omega)
theorem zDD (B:Nat)(w:World)(c m1 m2:Nat)(vd:Value)(D:List Opn)(f:Bool)(cl:Int)(x:TrN)(va:Value)
 (hblk:w.heap[c]? = some (.cells #[vd,.bool f,.map (some m1),.map (some m2),.int .i64 cl] 149 (0,0))) (hBc:B<=c) (hBw:B<=w.heap.size) (hD:zAg cdO B w vd D) (hl:D.length<=9) (hm:∀d∈D,d.1<=24) (hva:∃a n m,va= .slice a n m) :
 Calls Tryz.prog 171 #[.pointer (some ⟨c,0,none⟩),trV x va] w (zLc B w c m1 m2 vd D f cl x):=by grind[zNY,zNX]
theorem zMn (W0 w:World)(c m1 m2:Nat)(t:List TrN)(k:Nat)(va:Value)(hst:zOE W0 w c m1 m2 t k)(hBc:W0.heap.size<=c)(hB1:W0.heap.size<=m1)(hB2:W0.heap.size<=m2)(h12:m1≠m2)
  (hk:k<t.length) (hl:t.length<=120) (hok:zA1 t k) (hva:aA W0 va (zAa t k).ats) (hsm:zAI t) :
  Calls Tryz.prog 127 #[.pointer (some ⟨c,0,none⟩),trV (zAa t k) va] w (zW9 W0 w c m1 m2 t k):=by
 obtain⟨vd,n1,n2,F1,F2,hc0,hdr,hm1,hm2,hf1,hf2⟩:=hst.ex;have HEX:=hQq hst.below;obtain⟨hdl,hdm⟩:=zSK (by omega) hok;have hpv:=zR5 hk hok;have hxs:(zAa t k).ats.length<=1000000/\∀a∈(zAa t k).ats,a.1.size<=1000000/\a.2.size<=1000000:=by
  rw[zAl t k hk];have:=hsm _ (List.getElem_mem hk);exact⟨this.2.2,this.2.1⟩
 have HOB:Hid (∀b,vd.ownBlock=some b->b<w.heap.size):=fun b hb=>by obtain⟨_,_,_,h⟩:=hdr.row rfl b hb;exact bL h
 have HO1:Hid (vd.ownBlock≠some m1):=fun hb=>by obtain⟨_,_,_,h⟩:=hdr.row rfl m1 hb;obtain⟨_,_,h2,_⟩:=hm1;rw[h]at h2;cases h2
 have HO2:Hid (vd.ownBlock≠some m2):=fun hb=>by obtain⟨_,_,_,h⟩:=hdr.row rfl m2 hb;obtain⟨_,_,h2,_⟩:=hm2;rw[h]at h2;cases h2
 have HN1:Hid (m1≠c):=by rintro rfl;obtain⟨_,_,h2,_⟩:=hm1;rw[hc0]at h2;cases h2
 have HN2:Hid (m2≠c):=by rintro rfl;obtain⟨_,_,h2,_⟩:=hm2;rw[hc0]at h2;cases h2
 have HSZ:Hid (W0.heap.size<=w.heap.size):=hst.below.size;have HDS:Hid (zAD t k=0->zFg (zBg t k) (zAa t k)=zBg t (k+1)):=zQC hk hok;have HFS:Hid (zB8 t (k+1)= !((zAa t k).kd==1)):=zLP t k;have hcl:=bL hc0;obtain⟨a3,cap3,rfl,hcap3,hvc⟩:=hva;have HVA:Hid (aA W0 (.slice a3 (zAa t k).ats.length cap3) (zAa t k).ats):=⟨a3,cap3,rfl,hcap3,hvc⟩;have HC0:=hQq hc0;have HDR:=hQq hdr;have HM1:=hQq hm1;have HM2:=hQq hm2;have HF1:=hQq hf1;have HF2:=hQq hf2;have HDL:=hQq hdl;have HDM:=hQq hdm;have HPV0:=hQq hpv;have HXS:=hQq hxs;have HOK:=hQq hok;have HMB:=hQq (zEZ k hok);have HG:∃x,zAa t k=x:=⟨_,rfl⟩;have HX0:Hid (∀b,(Value.slice a3 (zAa t k).ats.length cap3).ownBlock=some b->0<(zAa t k).ats.length->b≠c):=fun b hb h0 e=>by have:=aA.block HVA.out h0 b hb;omega
 have va0:Value:=.slice a3 (zAa t k).ats.length cap3;clear hst hc0 hdr hm1 hm2 hf1 hf2 hdl hdm hpv hxs hok hvc;obtain⟨x,hx⟩:=HG;rw[hx]at HVA HPV0 HXS HFS HDS HX0 ⊢;have HGX:=hQq hx;clear hx;unfold trV;by_cases s1:zAD t k=0
 case neg=>
  have HPV:Hid (zDb (zBg t k) (zB8 t k) x=zAD t k):=hQq (by rw[HPV0.out,if_pos s1]);have HR:=hQq (zFr s1);have S1:=hQq s1;have q2:(zAD t k != 0)=true:=bne_iff_ne.2 s1;clear s1;go_enter Tryz.func127,Tryz.ntmps127;go_wp2_with (go_at_call 171;refine(zDD W0.heap.size _ c m1 m2 vd (zBg t k) (zB8 t k) (zAK t k) x (.slice a3 x.ats.length cap3) (by exact bA HC0.out) hBc (by have:=HSZ.out;simp;omega) (by exact HDR.out.ext okO (eA _ _)) HDL.out HDM.out ⟨_,_,_,rfl⟩).mono ?_;rintro e w2 ⟨rfl,hb2,hok⟩;rw[HPV.out];have HB2:=hQq hb2;clear hok hb2)
  go_ret;exact zEB HR.out S1.out (Below.trans HEX.out (Below.trans ((eA _ _).mono HSZ.out) HB2.out))
 by_cases s2:k≠0/\zA0 t k≠0
 ·have HPV:Hid (zDb (zBg t k) (zB8 t k) x=zA0 t k):=hQq (by rw[HPV0.out,if_neg (by omega),if_neg s2.1]);have HR:=hQq (zHB s1 s2.1 s2.2);have S2:=hQq s2.2;have q2:(zA0 t k != 0)=true:=bne_iff_ne.2 s2.2;clear s1 s2;go_enter Tryz.func127,Tryz.ntmps127;go_wp2_with (go_at_call 171;refine(zDD W0.heap.size _ c m1 m2 vd (zBg t k) (zB8 t k) (zAK t k) x (.slice a3 x.ats.length cap3) (by exact bA HC0.out) hBc (by have:=HSZ.out;simp;omega) (by exact HDR.out.ext okO (eA _ _)) HDL.out HDM.out ⟨_,_,_,rfl⟩).mono ?_;rintro e w2 ⟨rfl,hb2,hok⟩;rw[HPV.out];have HB2:=hQq hb2;clear hok hb2)
  go_ret;exact zEB HR.out S2.out (Below.trans HEX.out (Below.trans ((eA _ _).mono HSZ.out) HB2.out))
 have S1:=hQq s1;have S2:Hid (k≠0->zA0 t k=0):=hQq (fun h=>by by_cases e:zA0 t k=0;exact e;exact absurd ⟨h,e⟩ s2);have HPZ:Hid (zDb (zBg t k) (zB8 t k) x=0):=hQq (by
  rw[HPV0.out,if_neg (by omega)];by_cases e:k=0
  ·rw[if_pos e]
  ·rw[if_neg e];exact S2.out e)
 have HPV:=HPZ;clear s1 s2;by_cases s3:zAc x=0
 case neg=>
  have HR:=hQq (zGm HGX.out S1.out S2.out s3);have S3:=hQq s3;have q2:(zAc x != 0)=true:=bne_iff_ne.2 s3;clear s3;go_enter Tryz.func127,Tryz.ntmps127;go_wp2_with (first|(go_at_call 171;refine(zDD W0.heap.size _ c m1 m2 vd (zBg t k) (zB8 t k) (zAK t k) x (.slice a3 x.ats.length cap3) (by exact bA HC0.out) hBc (by have:=HSZ.out;simp;omega) (by exact HDR.out.ext okO (eA _ _)) HDL.out HDM.out ⟨_,_,_,rfl⟩).mono ?_;rintro e w2 ⟨rfl,hb2,hok⟩;rw[HPV.out];obtain⟨vd2,hc2,hD2,hk2⟩:=hok HPZ.out;have HC2:=hQq hc2;have HD2:=hQq hD2;have HB2:Hid (Ext W0 w2):=Below.trans HEX.out (Below.trans ((eA _ _).mono HSZ.out) hb2);have HX2:=hQq (hk2 _ _ (bN w _) (fun e=>absurd (bL HC0.out) (by omega)) (fun e=>absurd (HOB.out _ e) (by omega)));have HM12:=hQq ((HM1.out.ext (eA _ _)).keepB (fun o h=>hk2 _ _ h HN1.out (fun e=>HO1.out e)));have HM22:=hQq ((HM2.out.ext (eA _ _)).keepB (fun o h=>hk2 _ _ h HN2.out (fun e=>HO2.out e)));have HK2:=hQq hk2;clear hok hc2 hD2 hk2 hb2;have y0:w2.cell? ⟨w.heap.size,0,none⟩=some (.int .i64 x.dep):=bC HX2.out 0;have y1:w2.cell? ⟨w.heap.size,1,none⟩=some (.string x.nm):=bC HX2.out 1;have y2:w2.cell? ⟨w.heap.size,2,none⟩=some (.int .i64 x.kd):=bC HX2.out 2;have y3:w2.cell? ⟨w.heap.size,3,none⟩=some (.slice a3 x.ats.length cap3):=bC HX2.out 3;have y4:w2.cell? ⟨w.heap.size,4,none⟩=some (.string x.dat):=bC HX2.out 4;have y5:w2.cell? ⟨w.heap.size,5,none⟩=some (.int .i64 x.ma):=bC HX2.out 5;have y6:w2.cell? ⟨w.heap.size,6,none⟩=some (.int .i64 x.mi):=bC HX2.out 6;have y7:w2.cell? ⟨w.heap.size,7,none⟩=some (.int .i64 x.cl):=bC HX2.out 7)|(go_at_call 172;refine(zET x _ _ ⟨_,_,rfl⟩).mono ?_;rintro e w3 ⟨rfl,hb3⟩;have HE3:=hQq hb3;have HB3:Hid (Ext W0 w3):=Ext.trans HB2.out hb3;have HX3:=hQq (bX hb3 HX2.out);clear hb3 y0 y1 y2 y3 y4 y5 y6 y7;have y0:w3.cell? ⟨w.heap.size,0,none⟩=some (.int .i64 x.dep):=bC HX3.out 0;have y1:w3.cell? ⟨w.heap.size,1,none⟩=some (.string x.nm):=bC HX3.out 1;have y2:w3.cell? ⟨w.heap.size,2,none⟩=some (.int .i64 x.kd):=bC HX3.out 2;have y3:w3.cell? ⟨w.heap.size,3,none⟩=some (.slice a3 x.ats.length cap3):=bC HX3.out 3;have y4:w3.cell? ⟨w.heap.size,4,none⟩=some (.string x.dat):=bC HX3.out 4;have y5:w3.cell? ⟨w.heap.size,5,none⟩=some (.int .i64 x.ma):=bC HX3.out 5;have y6:w3.cell? ⟨w.heap.size,6,none⟩=some (.int .i64 x.mi):=bC HX3.out 6;have y7:w3.cell? ⟨w.heap.size,7,none⟩=some (.int .i64 x.cl):=bC HX3.out 7))
  go_ret;exact zEB HR.out S3.out HB3.out
 by_cases s4:zBS x.ats=0
 case neg=>
  have HR:=hQq (zFs HGX.out S1.out S2.out s3 s4);have S4:=hQq s4;have q2:(zBS x.ats != 0)=true:=bne_iff_ne.2 s4;clear s4;go_enter Tryz.func127,Tryz.ntmps127;go_wp2_with (first|(go_at_call 171;refine(zDD W0.heap.size _ c m1 m2 vd (zBg t k) (zB8 t k) (zAK t k) x (.slice a3 x.ats.length cap3) (by exact bA HC0.out) hBc (by have:=HSZ.out;simp;omega) (by exact HDR.out.ext okO (eA _ _)) HDL.out HDM.out ⟨_,_,_,rfl⟩).mono ?_;rintro e w2 ⟨rfl,hb2,hok⟩;rw[HPV.out];obtain⟨vd2,hc2,hD2,hk2⟩:=hok HPZ.out;have HC2:=hQq hc2;have HD2:=hQq hD2;have HB2:Hid (Ext W0 w2):=Below.trans HEX.out (Below.trans ((eA _ _).mono HSZ.out) hb2);have HX2:=hQq (hk2 _ _ (bN w _) (fun e=>absurd (bL HC0.out) (by omega)) (fun e=>absurd (HOB.out _ e) (by omega)));have HM12:=hQq ((HM1.out.ext (eA _ _)).keepB (fun o h=>hk2 _ _ h HN1.out (fun e=>HO1.out e)));have HM22:=hQq ((HM2.out.ext (eA _ _)).keepB (fun o h=>hk2 _ _ h HN2.out (fun e=>HO2.out e)));have HK2:=hQq hk2;clear hok hc2 hD2 hk2 hb2;have y0:w2.cell? ⟨w.heap.size,0,none⟩=some (.int .i64 x.dep):=bC HX2.out 0;have y1:w2.cell? ⟨w.heap.size,1,none⟩=some (.string x.nm):=bC HX2.out 1;have y2:w2.cell? ⟨w.heap.size,2,none⟩=some (.int .i64 x.kd):=bC HX2.out 2;have y3:w2.cell? ⟨w.heap.size,3,none⟩=some (.slice a3 x.ats.length cap3):=bC HX2.out 3;have y4:w2.cell? ⟨w.heap.size,4,none⟩=some (.string x.dat):=bC HX2.out 4;have y5:w2.cell? ⟨w.heap.size,5,none⟩=some (.int .i64 x.ma):=bC HX2.out 5;have y6:w2.cell? ⟨w.heap.size,6,none⟩=some (.int .i64 x.mi):=bC HX2.out 6;have y7:w2.cell? ⟨w.heap.size,7,none⟩=some (.int .i64 x.cl):=bC HX2.out 7)|(go_at_call 172;refine(zET x _ _ ⟨_,_,rfl⟩).mono ?_;rintro e w3 ⟨rfl,hb3⟩;have HE3:=hQq hb3;have HB3:Hid (Ext W0 w3):=Ext.trans HB2.out hb3;have HX3:=hQq (bX hb3 HX2.out);clear hb3 y0 y1 y2 y3 y4 y5 y6 y7;have y0:w3.cell? ⟨w.heap.size,0,none⟩=some (.int .i64 x.dep):=bC HX3.out 0;have y1:w3.cell? ⟨w.heap.size,1,none⟩=some (.string x.nm):=bC HX3.out 1;have y2:w3.cell? ⟨w.heap.size,2,none⟩=some (.int .i64 x.kd):=bC HX3.out 2;have y3:w3.cell? ⟨w.heap.size,3,none⟩=some (.slice a3 x.ats.length cap3):=bC HX3.out 3;have y4:w3.cell? ⟨w.heap.size,4,none⟩=some (.string x.dat):=bC HX3.out 4;have y5:w3.cell? ⟨w.heap.size,5,none⟩=some (.int .i64 x.ma):=bC HX3.out 5;have y6:w3.cell? ⟨w.heap.size,6,none⟩=some (.int .i64 x.mi):=bC HX3.out 6;have y7:w3.cell? ⟨w.heap.size,7,none⟩=some (.int .i64 x.cl):=bC HX3.out 7)|(go_at_call 104;refine(zC6 _ x.ats _ (HVA.out.ext HB3.out) HXS.out.2).mono ?_;rintro e w4 ⟨rfl,hb4⟩;have HE4:=hQq hb4;have HB4:Hid (Ext W0 w4):=Ext.trans HB3.out hb4;have HX4:=hQq (bX hb4 HX3.out);clear hb4 y0 y1 y2 y3 y4 y5 y6 y7;have y0:w4.cell? ⟨w.heap.size,0,none⟩=some (.int .i64 x.dep):=bC HX4.out 0;have y1:w4.cell? ⟨w.heap.size,1,none⟩=some (.string x.nm):=bC HX4.out 1;have y2:w4.cell? ⟨w.heap.size,2,none⟩=some (.int .i64 x.kd):=bC HX4.out 2;have y3:w4.cell? ⟨w.heap.size,3,none⟩=some (.slice a3 x.ats.length cap3):=bC HX4.out 3;have y4:w4.cell? ⟨w.heap.size,4,none⟩=some (.string x.dat):=bC HX4.out 4;have y5:w4.cell? ⟨w.heap.size,5,none⟩=some (.int .i64 x.ma):=bC HX4.out 5;have y6:w4.cell? ⟨w.heap.size,6,none⟩=some (.int .i64 x.mi):=bC HX4.out 6;have y7:w4.cell? ⟨w.heap.size,7,none⟩=some (.int .i64 x.cl):=bC HX4.out 7;have HC4:=hQq (bX HE4.out (bX HE3.out HC2.out));have z1:w4.cell? ⟨c,1,none⟩=some (.bool (zB8 t k)):=bC HC4.out 1;have z2:∀j,w4.frozen? ⟨c,j,none⟩=false:=fun j=>bT HC4.out j))
  go_ret;exact zEB HR.out S4.out HB4.out
 have HCL:=hQq (zBO HGX.out S1.out S2.out s3 s4);have hex:∃y vy,(0<x.cl->x.cl<=zAK t k->F1 x.cl=some (trV y vy)/\aA W0 vy y.ats/\y.ats.length<=1000000)/\zDn (zAK t k) (zAT y x) x=zGc t k:=by
  by_cases hcc:0<x.cl/\x.cl<=zAK t k
  ·obtain⟨i,vy,hi,hic,hF,hav⟩:=HF1.out x.cl hcc.1 hcc.2;refine⟨zAa t i,vy,fun _ _=>⟨hF,hav,?_⟩,?_⟩
   ·rw[zAl t i (by omega)];exact(hsm _ (List.getElem_mem _)).2.2
   ·have:=zS1 (t:=t) (k:=k) HOK.out hi (fun _ _=>by rw[HGX.out];exact hic);rw[HGX.out]at this;exact this
  ·refine⟨x,va0,fun h1 h2=>absurd ⟨h1,h2⟩ hcc,?_⟩;have:=zQM (t:=t) (k:=k) HOK.out (zAT x x) (by rw[HGX.out];exact hcc);rw[HGX.out]at this;exact this
 obtain⟨y,vy,hyp,hce⟩:=hex;have HYP:=hQq hyp;have HCE:=hQq hce;clear hyp hce;have HSM:=hQq hsm;clear hsm;by_cases s5:zGc t k=0
 case neg=>
  have S5:=hQq s5;clear s5;go_enter Tryz.func127,Tryz.ntmps127;go_wp2_with (first|(go_at_call 171;refine(zDD W0.heap.size _ c m1 m2 vd (zBg t k) (zB8 t k) (zAK t k) x (.slice a3 x.ats.length cap3) (by exact bA HC0.out) hBc (by have:=HSZ.out;simp;omega) (by exact HDR.out.ext okO (eA _ _)) HDL.out HDM.out ⟨_,_,_,rfl⟩).mono ?_;rintro e w2 ⟨rfl,hb2,hok⟩;rw[HPV.out];obtain⟨vd2,hc2,hD2,hk2⟩:=hok HPZ.out;have HC2:=hQq hc2;have HD2:=hQq hD2;have HB2:Hid (Ext W0 w2):=Below.trans HEX.out (Below.trans ((eA _ _).mono HSZ.out) hb2);have HX2:=hQq (hk2 _ _ (bN w _) (fun e=>absurd (bL HC0.out) (by omega)) (fun e=>absurd (HOB.out _ e) (by omega)));have HM12:=hQq ((HM1.out.ext (eA _ _)).keepB (fun o h=>hk2 _ _ h HN1.out (fun e=>HO1.out e)));have HM22:=hQq ((HM2.out.ext (eA _ _)).keepB (fun o h=>hk2 _ _ h HN2.out (fun e=>HO2.out e)));have HK2:=hQq hk2;clear hok hc2 hD2 hk2 hb2;have y0:w2.cell? ⟨w.heap.size,0,none⟩=some (.int .i64 x.dep):=bC HX2.out 0;have y1:w2.cell? ⟨w.heap.size,1,none⟩=some (.string x.nm):=bC HX2.out 1;have y2:w2.cell? ⟨w.heap.size,2,none⟩=some (.int .i64 x.kd):=bC HX2.out 2;have y3:w2.cell? ⟨w.heap.size,3,none⟩=some (.slice a3 x.ats.length cap3):=bC HX2.out 3;have y4:w2.cell? ⟨w.heap.size,4,none⟩=some (.string x.dat):=bC HX2.out 4;have y5:w2.cell? ⟨w.heap.size,5,none⟩=some (.int .i64 x.ma):=bC HX2.out 5;have y6:w2.cell? ⟨w.heap.size,6,none⟩=some (.int .i64 x.mi):=bC HX2.out 6;have y7:w2.cell? ⟨w.heap.size,7,none⟩=some (.int .i64 x.cl):=bC HX2.out 7)|(go_at_call 172;refine(zET x _ _ ⟨_,_,rfl⟩).mono ?_;rintro e w3 ⟨rfl,hb3⟩;have HE3:=hQq hb3;have HB3:Hid (Ext W0 w3):=Ext.trans HB2.out hb3;have HX3:=hQq (bX hb3 HX2.out);clear hb3 y0 y1 y2 y3 y4 y5 y6 y7;have y0:w3.cell? ⟨w.heap.size,0,none⟩=some (.int .i64 x.dep):=bC HX3.out 0;have y1:w3.cell? ⟨w.heap.size,1,none⟩=some (.string x.nm):=bC HX3.out 1;have y2:w3.cell? ⟨w.heap.size,2,none⟩=some (.int .i64 x.kd):=bC HX3.out 2;have y3:w3.cell? ⟨w.heap.size,3,none⟩=some (.slice a3 x.ats.length cap3):=bC HX3.out 3;have y4:w3.cell? ⟨w.heap.size,4,none⟩=some (.string x.dat):=bC HX3.out 4;have y5:w3.cell? ⟨w.heap.size,5,none⟩=some (.int .i64 x.ma):=bC HX3.out 5;have y6:w3.cell? ⟨w.heap.size,6,none⟩=some (.int .i64 x.mi):=bC HX3.out 6;have y7:w3.cell? ⟨w.heap.size,7,none⟩=some (.int .i64 x.cl):=bC HX3.out 7)|(go_at_call 104;refine(zC6 _ x.ats _ (HVA.out.ext HB3.out) HXS.out.2).mono ?_;rintro e w4 ⟨rfl,hb4⟩;have HE4:=hQq hb4;have HB4:Hid (Ext W0 w4):=Ext.trans HB3.out hb4;have HX4:=hQq (bX hb4 HX3.out);clear hb4 y0 y1 y2 y3 y4 y5 y6 y7;have y0:w4.cell? ⟨w.heap.size,0,none⟩=some (.int .i64 x.dep):=bC HX4.out 0;have y1:w4.cell? ⟨w.heap.size,1,none⟩=some (.string x.nm):=bC HX4.out 1;have y2:w4.cell? ⟨w.heap.size,2,none⟩=some (.int .i64 x.kd):=bC HX4.out 2;have y3:w4.cell? ⟨w.heap.size,3,none⟩=some (.slice a3 x.ats.length cap3):=bC HX4.out 3;have y4:w4.cell? ⟨w.heap.size,4,none⟩=some (.string x.dat):=bC HX4.out 4;have y5:w4.cell? ⟨w.heap.size,5,none⟩=some (.int .i64 x.ma):=bC HX4.out 5;have y6:w4.cell? ⟨w.heap.size,6,none⟩=some (.int .i64 x.mi):=bC HX4.out 6;have y7:w4.cell? ⟨w.heap.size,7,none⟩=some (.int .i64 x.cl):=bC HX4.out 7;have HC4:=hQq (bX HE4.out (bX HE3.out HC2.out));have z1:w4.cell? ⟨c,1,none⟩=some (.bool (zB8 t k)):=bC HC4.out 1;have z2:∀j,w4.frozen? ⟨c,j,none⟩=false:=fun j=>bT HC4.out j)|(go_at_call 173;refine(zKh W0.heap.size _ c m1 m2 n1 n2 vd2 (x.kd != 1) (zAK t k) F1 F2 x y (.slice a3 x.ats.length cap3) vy (zAi t x.cl k) (by rw[bS HC4.out];rfl) (by exact((HM12.out.ext HE3.out).ext HE4.out).setCell _ _) (by exact((HM22.out.ext HE3.out).ext HE4.out).setCell _ _) hBc hB1 hB2 (by exact Nat.le_trans HB4.out.size (by simp)) h12 HMB.out.1 (by have:=HMB.out.2;omega) (by have:=zEM t x.cl k;omega) (by exact(HVA.out.ext HB4.out).setC HX0.out) HXS.out.1 (fun h1 h2=>by obtain⟨a,b,d⟩:=HYP.out h1 h2;exact⟨a,(b.ext HB4.out).setC (fun b' hb' h0 e=>by have:=aA.block b h0 b' hb';omega),d⟩) (fun h=>HF2.out x.cl h)).mono ?_;rintro e w6 ⟨rfl,hb6,hok6⟩;rw[HCE.out];have HB6:Hid (Below W0.heap.size W0 w6):=hQq (Below.trans (HB4.out.setCell (p:=⟨c,1,none⟩) hBc _) hb6);have HOK6:=hQq hok6;clear hok6 hb6))
  go_ret;exact zEB HCL.out S5.out HB6.out
 have S5:=hQq s5;clear s5;go_enter Tryz.func127,Tryz.ntmps127;go_wp2_with (first|(go_at_call 171;refine(zDD W0.heap.size _ c m1 m2 vd (zBg t k) (zB8 t k) (zAK t k) x (.slice a3 x.ats.length cap3) (by exact bA HC0.out) hBc (by have:=HSZ.out;simp;omega) (by exact HDR.out.ext okO (eA _ _)) HDL.out HDM.out ⟨_,_,_,rfl⟩).mono ?_;rintro e w2 ⟨rfl,hb2,hok⟩;rw[HPV.out];obtain⟨vd2,hc2,hD2,hk2⟩:=hok HPZ.out;have HC2:=hQq hc2;have HD2:=hQq hD2;have HB2:Hid (Ext W0 w2):=Below.trans HEX.out (Below.trans ((eA _ _).mono HSZ.out) hb2);have HX2:=hQq (hk2 _ _ (bN w _) (fun e=>absurd (bL HC0.out) (by omega)) (fun e=>absurd (HOB.out _ e) (by omega)));have HM12:=hQq ((HM1.out.ext (eA _ _)).keepB (fun o h=>hk2 _ _ h HN1.out (fun e=>HO1.out e)));have HM22:=hQq ((HM2.out.ext (eA _ _)).keepB (fun o h=>hk2 _ _ h HN2.out (fun e=>HO2.out e)));have HK2:=hQq hk2;clear hok hc2 hD2 hk2 hb2;have y0:w2.cell? ⟨w.heap.size,0,none⟩=some (.int .i64 x.dep):=bC HX2.out 0;have y1:w2.cell? ⟨w.heap.size,1,none⟩=some (.string x.nm):=bC HX2.out 1;have y2:w2.cell? ⟨w.heap.size,2,none⟩=some (.int .i64 x.kd):=bC HX2.out 2;have y3:w2.cell? ⟨w.heap.size,3,none⟩=some (.slice a3 x.ats.length cap3):=bC HX2.out 3;have y4:w2.cell? ⟨w.heap.size,4,none⟩=some (.string x.dat):=bC HX2.out 4;have y5:w2.cell? ⟨w.heap.size,5,none⟩=some (.int .i64 x.ma):=bC HX2.out 5;have y6:w2.cell? ⟨w.heap.size,6,none⟩=some (.int .i64 x.mi):=bC HX2.out 6;have y7:w2.cell? ⟨w.heap.size,7,none⟩=some (.int .i64 x.cl):=bC HX2.out 7)|(go_at_call 172;refine(zET x _ _ ⟨_,_,rfl⟩).mono ?_;rintro e w3 ⟨rfl,hb3⟩;have HE3:=hQq hb3;have HB3:Hid (Ext W0 w3):=Ext.trans HB2.out hb3;have HX3:=hQq (bX hb3 HX2.out);clear hb3 y0 y1 y2 y3 y4 y5 y6 y7;have y0:w3.cell? ⟨w.heap.size,0,none⟩=some (.int .i64 x.dep):=bC HX3.out 0;have y1:w3.cell? ⟨w.heap.size,1,none⟩=some (.string x.nm):=bC HX3.out 1;have y2:w3.cell? ⟨w.heap.size,2,none⟩=some (.int .i64 x.kd):=bC HX3.out 2;have y3:w3.cell? ⟨w.heap.size,3,none⟩=some (.slice a3 x.ats.length cap3):=bC HX3.out 3;have y4:w3.cell? ⟨w.heap.size,4,none⟩=some (.string x.dat):=bC HX3.out 4;have y5:w3.cell? ⟨w.heap.size,5,none⟩=some (.int .i64 x.ma):=bC HX3.out 5;have y6:w3.cell? ⟨w.heap.size,6,none⟩=some (.int .i64 x.mi):=bC HX3.out 6;have y7:w3.cell? ⟨w.heap.size,7,none⟩=some (.int .i64 x.cl):=bC HX3.out 7)|(go_at_call 104;refine(zC6 _ x.ats _ (HVA.out.ext HB3.out) HXS.out.2).mono ?_;rintro e w4 ⟨rfl,hb4⟩;have HE4:=hQq hb4;have HB4:Hid (Ext W0 w4):=Ext.trans HB3.out hb4;have HX4:=hQq (bX hb4 HX3.out);clear hb4 y0 y1 y2 y3 y4 y5 y6 y7;have y0:w4.cell? ⟨w.heap.size,0,none⟩=some (.int .i64 x.dep):=bC HX4.out 0;have y1:w4.cell? ⟨w.heap.size,1,none⟩=some (.string x.nm):=bC HX4.out 1;have y2:w4.cell? ⟨w.heap.size,2,none⟩=some (.int .i64 x.kd):=bC HX4.out 2;have y3:w4.cell? ⟨w.heap.size,3,none⟩=some (.slice a3 x.ats.length cap3):=bC HX4.out 3;have y4:w4.cell? ⟨w.heap.size,4,none⟩=some (.string x.dat):=bC HX4.out 4;have y5:w4.cell? ⟨w.heap.size,5,none⟩=some (.int .i64 x.ma):=bC HX4.out 5;have y6:w4.cell? ⟨w.heap.size,6,none⟩=some (.int .i64 x.mi):=bC HX4.out 6;have y7:w4.cell? ⟨w.heap.size,7,none⟩=some (.int .i64 x.cl):=bC HX4.out 7;have HC4:=hQq (bX HE4.out (bX HE3.out HC2.out));have z1:w4.cell? ⟨c,1,none⟩=some (.bool (zB8 t k)):=bC HC4.out 1;have z2:∀j,w4.frozen? ⟨c,j,none⟩=false:=fun j=>bT HC4.out j)|(go_at_call 173;refine(zKh W0.heap.size _ c m1 m2 n1 n2 vd2 (x.kd != 1) (zAK t k) F1 F2 x y (.slice a3 x.ats.length cap3) vy (zAi t x.cl k) (by rw[bS HC4.out];rfl) (by exact((HM12.out.ext HE3.out).ext HE4.out).setCell _ _) (by exact((HM22.out.ext HE3.out).ext HE4.out).setCell _ _) hBc hB1 hB2 (by exact Nat.le_trans HB4.out.size (by simp)) h12 HMB.out.1 (by have:=HMB.out.2;omega) (by have:=zEM t x.cl k;omega) (by exact(HVA.out.ext HB4.out).setC HX0.out) HXS.out.1 (fun h1 h2=>by obtain⟨a,b,d⟩:=HYP.out h1 h2;exact⟨a,(b.ext HB4.out).setC (fun b' hb' h0 e=>by have:=aA.block b h0 b' hb';omega),d⟩) (fun h=>HF2.out x.cl h)).mono ?_;rintro e w6 ⟨rfl,hb6,hok6⟩;rw[HCE.out];have HB6:Hid (Below W0.heap.size W0 w6):=hQq (Below.trans (HB4.out.setCell (p:=⟨c,1,none⟩) hBc _) hb6);have HOK6:=hQq hok6;clear hok6 hb6))
 go_ret;refine⟨by rw[HCL.out];rfl,HB6.out,fun _=>⟨⟨?_,HB6.out⟩,?_⟩⟩
 case refine_2=>
  intro b cs E f hb hE hbc;have hkeep:=(HOK6.out (HCE.out.trans S5.out)).keep;have hw2:=HK2.out b _ (bA hb) hbc (fun e=>by obtain⟨_,_,_,h⟩:=HDR.out.row rfl b e;rw[hb]at h;cases h;exact hE rfl);have hw5:=bSn (bX HE4.out (bX HE3.out hw2)) ⟨c,1,none⟩ (.bool (x.kd != 1)) hbc;refine hkeep b _ hw5 hbc ?_ ?_
  ·rintro rfl;obtain⟨_,_,h2,_⟩:=HM1.out;rw[hb]at h2;cases h2
  ·rintro rfl;obtain⟨_,_,h2,_⟩:=HM2.out;rw[hb]at h2;cases h2
 obtain⟨q1,q2,F1',F2',r1,r2,r3,r4,r5⟩:=(HOK6.out (HCE.out.trans S5.out)).ex;have hkeep:=(HOK6.out (HCE.out.trans S5.out)).keep;have hcb:=zEN S5.out;rw[HGX.out]at hcb;refine⟨vd2,q1,q2,F1',F2',?_,?_,r2,r3,?_,?_⟩
 ·rw[r1,HFS.out,zAK.eq_2,HGX.out];rfl
 ·rw[<- HDS.out S1.out];have h5:=((HD2.out.ext okO HE3.out).ext okO HE4.out).other okO (zD6 (o:=1) HC4.out hBc (.bool (x.kd != 1))) (by decide) (by simp[cdO]);refine h5.keepO fun g hg o ho=>hkeep g o ho ?_ ?_ ?_
  ·rintro rfl;obtain⟨_,_,_,h⟩:=h5.row rfl g hg;rw[bS HC4.out]at h;cases h
  ·rintro rfl;obtain⟨_,_,_,h⟩:=h5.row rfl g hg;obtain⟨_,_,h2,_⟩:=((HM12.out.ext HE3.out).ext HE4.out).setCell ⟨c,1,none⟩ (.bool (x.kd != 1));rw[h]at h2;cases h2
  ·rintro rfl;obtain⟨_,_,_,h⟩:=h5.row rfl g hg;obtain⟨_,_,h2,_⟩:=((HM22.out.ext HE3.out).ext HE4.out).setCell ⟨c,1,none⟩ (.bool (x.kd != 1));rw[h]at h2;cases h2
 ·rw[r4];have:=zOs (t:=t) (k:=k) HF1.out (va:=.slice a3 x.ats.length cap3) (by rw[HGX.out];exact HVA.out) (by rw[HGX.out];exact hcb.1) (by rw[HGX.out];exact hcb.2.1);rw[HGX.out]at this;exact this
 ·rw[r5];have:=zOx (t:=t) (k:=k) HF2.out;rw[HGX.out]at this;exact this
theorem zC7 (B:Nat)(v:Value)(t:List TrN)(w:World)(hv:zCa B w v t)(hsm:zAI t):
  zAs Tryz.prog 63 #[v] w (.tuple #[.int .i64 (zFc t),.int .i64 (zAt t)]):=by
 unfold zAs;obtain⟨aa,cap,rfl⟩:=hv.form;have HV:=hQq hv;clear hv;have HSM:=hQq hsm;clear hsm;by_cases h0:t.length=0
 ·obtain⟨e1,e2⟩:=zBh (zKf h0);rw[e1,e2];clear e1 e2;go_enter Tryz.func63,Tryz.ntmps63;go_wp2;go_ret2;exact⟨rfl,bR _ _⟩
 have g0:(((t.length:Nat):Int)==0)=false:=nB (by omega);have g1:0<t.length:=by omega
 by_cases h1:120<t.length
 ·obtain⟨e1,e2⟩:=zBh (zIv h1);rw[e1,e2];clear e1 e2;go_enter Tryz.func63,Tryz.ntmps63;go_wp2;go_ret2;exact⟨rfl,bR _ _⟩
 have H0:=hQq h0;clear h0;have hmm:=@run_makeMap Tryz.prog;go_enter Tryz.func63,Tryz.ntmps63;go_wp2;clear g0;go_loopw [5,6,7,23] (fun _ _ _ i w'=>∃(wi:World) (k:Nat),wi=w'/\k<=t.length/\i= .int .i64 k/\zA1 t k/\zOE w wi (w.heap.size+1+1) w.heap.size (w.heap.size+1) t k/\wi.heap[w.heap.size+1+1+1]? = some (.cells #[.pointer (some ⟨w.heap.size+1+1,0,none⟩)] 144 (0,0))) (fun _ _ _ i _=>t.length-(intOf i).toNat)
 case atStart=>
  refine⟨_,0,rfl,Nat.zero_le _,rfl,fun j hj=>absurd hj (by omega),⟨⟨.slice none 0 0,0,0,fun _=>none,fun _=>none,?_,zAg.nil _ _ _,?_,?_,?_,?_⟩,?_⟩,?_⟩
  ·exact bA (zAu (by simp))
  ·exact(((zBJ w kI).ext (eA _ _)).ext (eA _ _)).ext (eA _ _)
  ·exact((zSr (w:=w.alloc (Obj.map #[] 0)) (by simp)).ext (eA _ _)).ext (eA _ _)
  ·intro q h1 h2;simp[zAK]at h2;omega
  ·intro q h1;rfl
  ·exact(((eA w _).trans (eA _ _)).trans (eA _ _)).trans (eA _ _)
  ·exact zAu (by simp)
 case round=>
  obtain⟨wi,k,rfl,hk,rfl,hok,hst,hpb⟩:=hrel;have HOK:=hQq hok;have HST:=hQq hst;have HPB:=hQq hpb;clear hok;have q4:wi.cell? ⟨w.heap.size+1+1+1,0,none⟩=some (.pointer (some ⟨w.heap.size+1+1,0,none⟩)):=bC hpb 0;have HB:Hid (Ext w wi):=hst.below;clear hst;by_cases hlt:k<t.length
  case neg=>
   obtain rfl:k=t.length:=by omega
   have hpl:=bL hpb;clear hpb;have hmf:∀(fn:Fn) (first cap:Array Value) (w:World),(Instr.makeFunc fn first cap).run Tryz.prog w= .ok (.func fn first cap) w:=fun _ _ _ _=>rfl;have HX:Hid (zAs Tryz.prog 83 #[.slice aa t.length cap,.func (.func 128) #[] #[.pointer (some ⟨w.heap.size+1+1+1,0,none⟩)]] wi (.int .i64 (zGv (zDM t) t.length))):=by
    obtain⟨vd,n1,n2,F1,F2,hc0,hdr,hm1,hm2,hf1,hf2⟩:=HST.out.ex;exact zOV B wi _ t _ _ (HV.out.ext okT HB.out) (by omega) fun k w' a n cap hk he=>
     zRJ w' _ _ _ _ n2 _ _ _ F2 (zAa t k) _ (zAi t (zAa t k).cl t.length) ((eC he hpl).trans q4) (Nat.lt_of_lt_of_le hpl he.size) (bX he hc0) (hm2.ext he) ⟨_,_,_,rfl⟩ (fun h=>hf2 _ h)
   have HX:=HX;unfold zAs at HX;clear HST HPB;rcases zSM (p:=zDM t) t.length with hn|⟨i,hi,hl,hp⟩
   ·have HR:=hQq (zBh (zES H0.out h1 HOK.out hn));rw[zBY hn]at HX;clear hn;go_wp2_with (refine HX.out.mono ?_;rintro e w1 ⟨rfl,hb1⟩;replace HB:=hQq (Ext.trans HB.out hb1);clear hb1)
    go_ret2;exact⟨by rw[HR.out.1,HR.out.2];rfl,HB.out⟩
   ·have HR:=hQq (zBh (zIw h1 HOK.out hi hl hp));rw[zBP hi hl hp]at HX;clear hl hp;have jj:(decide ((0:Int)<=(i:Int)))=true:=zWd;go_wp2_with (refine HX.out.mono ?_;rintro e w1 ⟨rfl,hb1⟩;replace HB:=hQq (Ext.trans HB.out hb1);clear hb1)
    go_ret2;exact⟨by rw[HR.out.1,HR.out.2];rfl,HB.out⟩
  obtain⟨b,off,va,hex,hbx,hva,xx⟩:=HV.out.tr k hlt;cases hex;have XX:=zAB HB.out hbx xx;have HGT:=hQq (zAl t k hlt);have hvx:=zAh.attrs hva;obtain⟨a3,cap3,rfl⟩:=hva.form;rw[<- HGT.out]at XX hvx;have HVX:Hid (aA w (.slice a3 (zAa t k).ats.length cap3) (zAa t k).ats):=hQq (by rw[HGT.out]at hvx ⊢;exact hvx);have XX:Hid _:=hQq XX;clear xx hva hvx;have j1:((k:Nat):Int)<(t.length:Int):=by omega
  have j0:(0:Int)<=(k:Int):=by omega
  obtain⟨c0,c1,c2,c3,c4,c5,c6,c7⟩:=XX.out;have hpl:=bL hpb;clear hpb;by_cases hx:zBc t k=0
  case neg=>
   have HR:=hQq (zBh (zBH h1 hlt HOK.out hx));have q2:(zBc t k != 0)=true:=bne_iff_ne.2 hx;clear hx;go_wp2_with (go_at_call 127;refine(zMn w _ (w.heap.size+1+1) w.heap.size (w.heap.size+1) t k (.slice a3 (zAa t k).ats.length cap3) (by exact HST.out.ext (eA _ _)) (by omega) (by omega) (by omega) (by omega) hlt (by omega) HOK.out HVX.out HSM.out).mono ?_;rintro e w2 ⟨rfl,hb2,hok2⟩;have HB2:=hQq hb2;clear hb2 hok2)
   go_ret2;exact⟨by rw[HR.out.1,HR.out.2];rfl,HB2.out⟩
  have q2:(zBc t k != 0)=false:=bne_eq_false_iff_eq.2 hx;have HNX:=hQq hx;clear hx;go_wp2_with (go_at_call 127;refine(zMn w _ (w.heap.size+1+1) w.heap.size (w.heap.size+1) t k (.slice a3 (zAa t k).ats.length cap3) (by exact HST.out.ext (eA _ _)) (by omega) (by omega) (by omega) (by omega) hlt (by omega) HOK.out HVX.out HSM.out).mono ?_;rintro e w2 ⟨rfl,hb2,hok2⟩;have HB2:=hQq hb2;have HK2:=hQq hok2;clear hb2 hok2)
  go_roundw
  case rel=>exact⟨_,k+1,rfl,by omega,by go_num,HOK.out.step HNX.out,(HK2.out HNX.out).1,(HK2.out HNX.out).2 _ _ _ _ (bA HPB.out) (by decide) (by omega)⟩
  case measure=>simp[intOf]<;>omega
end Go.Proofs.YtbeeoomadnmogaaGreat
