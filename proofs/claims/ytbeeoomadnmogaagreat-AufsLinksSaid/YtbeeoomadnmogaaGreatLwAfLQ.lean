/- AufsLinks is proved: for every branch and numbers the law returns true; a branch that is larger than what is looked at is answered by the fixed calls alone. -/
import Derived.Test.YtbeeoomadnmogaaGreatQI6
import Derived.Test.YtbeeoomadnmogaaGreatQAxJ
import Derived.Test.YtbeeoomadnmogaaGreatQAxM
import Derived.Test.YtbeeoomadnmogaaGreatQAxN
import Derived.Test.YtbeeoomadnmogaaGreatQFrameA
import Derived.Test.YtbeeoomadnmogaaGreatQeAll
set_option maxRecDepth 100000
set_option maxHeartbeats 64000000
namespace Go.Proofs.YtbeeoomadnmogaaGreat.lwAufsLinks
open Go.ChangeShapes Go.WideShapes Go.ChangeAt Go.RowKit
open Go.ChangeMaps (open_string shut_string)
theorem path2 (a b:ByteArray)(w:World):zBV w.heap.size (w.alloc (.cells #[.string a,.string b] 9)) (.slice (some ⟨w.heap.size,0,none⟩) 2 2) [a,b]:=by
 refine zAh.mono (B:=w.heap.size) (zAg.in (C:=cdS) ⟨[[.string a],[.string b]],rfl,fun k h h'=>?_,?_⟩ okS) okS (Nat.le_refl _)
 ·match k,h with
  | 0,_=>rfl
  | 1,_=>rfl
 ·exact World.ownsRow_lit (base:=w.heap.size) (e:=9) (size:=1) w ([[.string a],[.string b]].flatten.toArray) 2 (Nat.le_refl _) (by unfold maxLen;omega) rfl
theorem path1 (a:ByteArray)(w:World):zBV w.heap.size (w.alloc (.cells #[.string a] 9)) (.slice (some ⟨w.heap.size,0,none⟩) 1 1) [a]:=zAj okS w a [.string a] _ rfl rfl
theorem num_at {B n cap:Nat}{w:World}{a:Option Addr}{l:List Nat}(h:zAh cdN B w (.slice a n cap) l)(k:Nat)(hk:k<l.length):∃b off,a=some ⟨b,off,none⟩/\b<w.heap.size/\w.cell? ⟨b,off+k,none⟩=some (.int .i64 (l[k]'hk)):=by
 obtain⟨_,_,he,_,_,hc⟩:=h;cases he;obtain⟨b,off,cs,rfl,hb,hr,hrow⟩:=hc k hk;have hr:cs= [.int .i64 (l[k]'hk)]:=hr;subst hr;have:=hrow 0 _ rfl;exact⟨b,off,rfl,hb,by simpa [cdN] using this⟩
theorem can_sm {t u:List TrN}(ht:zAI t)(h:zA5 t=(u,0)):zAI u:=by
 rw[(zS6 h).2.2.2];intro x hx;obtain⟨y,hy,rfl⟩:=List.mem_map.1 hx;exact ht y hy
theorem cut_sm {t:List TrN}(ht:zAI t)(i:Nat):zAI (zAM t i):=by
 intro x hx;rw[zQG]at hx;rcases List.mem_append.1 hx with h|h
 ·exact ht x (List.mem_of_mem_take h)
 ·exact ht x (List.mem_of_mem_drop h)
theorem put_sm {t:List TrN}{n:TrN}(ht:zAI t)(hn:zAI [n]):zAI (zZo t zZf n):=by
 intro x hx;unfold zZo at hx;rcases List.mem_append.1 hx with hx|hx
 ·exact ht x (List.mem_of_mem_take hx)
 rcases List.mem_cons.1 hx with rfl|hx
 ·exact⟨by show (zZf.getLast?.getD ⟨#[]⟩).size<=_;decide,(hn n (List.mem_singleton_self _)).2⟩
 ·exact ht x (List.mem_of_mem_drop hx)
theorem set_sm {t:List TrN}{i:Nat}(ht:zAI t)(hi:i<t.length):zAI (zZd t i [(ofL [97],⟨#[]⟩)]):=by
 intro x hx;rcases List.mem_or_eq_of_mem_set hx with h|rfl
 ·exact ht x h
 ·exact⟨(ht _ (zC1 hi)).1,fun a ha=>by rw[List.mem_singleton.1 ha];decide,by show 1<=_;decide⟩
theorem kd_of {t:List TrN}(h:zAt t=0){i:Nat}(hi:i<t.length)(hc:(zAa t i).cl≠0):(zAa t i).kd≠1/\(zAa t i).kd≠5:=by
 obtain⟨_,_,hk,_⟩:=zAd ((zAf h).2.2.1 i hi);unfold zAc at hk;constructor
 ·intro e;rw[e]at hk;simp[hc]at hk
 ·intro e;rw[e]at hk;simp[hc]at hk
theorem nxt_ok:zAR zZf=0/\(∀s∈zZf,s.size<=1000000)/\zZf.length=2/\zAR [zA6]=0/\zBS [(ofL [97],(⟨#[]⟩:ByteArray))]=0:=⟨by kernel_rfl,by decide +kernel,rfl,by kernel_rfl,by kernel_rfl⟩
theorem attr_put {B:Nat}{w:World}{g c i:Nat}{t:List TrN}(hi:i<t.length)(h:zAg cdT B w (.slice (some ⟨g,0,none⟩) t.length c) t)(hB:B<=w.heap.size):zAg cdT B ((w.setCell ⟨g,i*8+3,none⟩ (.slice (some ⟨w.heap.size,0,none⟩) 1 1)).alloc (.cells #[.string ⟨#[97]⟩,.string ⟨#[]⟩] 57)) (.slice (some ⟨g,0,none⟩) t.length c) (zZd t i [(ofL [97],⟨#[]⟩)])/\Below B w ((w.setCell ⟨g,i*8+3,none⟩ (.slice (some ⟨w.heap.size,0,none⟩) 1 1)).alloc (.cells #[.string ⟨#[97]⟩,.string ⟨#[]⟩] 57)):=by
 obtain⟨_,h2,h3,h4,_⟩:=h.addr (by omega);cases h2;rw[<- World.setCell_alloc_past _ _ _ _ h4];have h1:=h.ext okT (eA w (.cells #[.string ⟨#[97]⟩,.string ⟨#[]⟩] 57));have hp:zAH B (w.alloc (.cells #[.string ⟨#[97]⟩,.string ⟨#[]⟩] 57)) (.slice (some ⟨w.heap.size,0,none⟩) 1 1) [(ofL [97],⟨#[]⟩)]:=zAj okA w (ofL [97],⟨#[]⟩) [.string (ofL [97]),.string ⟨#[]⟩] _ rfl rfl;obtain⟨u1,u2,-⟩:=h1.store okT i hi 3 (by decide) (.slice (some ⟨w.heap.size,0,none⟩) 1 1) {zAa t i with ats:=[(ofL [97],⟨#[]⟩)]} (fun cs hc=>by
  obtain⟨va,a,rfl⟩:=hc;rw[<- zAl t i hi];exact⟨_,hp,rfl⟩)
 exact⟨u1,Below.grown ((eA _ _).mono hB) u2 (Nat.le_trans hB (eA _ _).size) (fun k e=>by cases e;exact h3)⟩
theorem walk (v:Value)(b:List BrN)(how wch:Int)(w:World)(hv:zEi w.heap.size w v b)(hz:∀x∈b,x.ats.length*32<=140737488355328)(hzl:b.length*128<=140737488355328)(hhow:0<=how/\how<=255)(hwch:0<=wch/\wch<=255):zAs Tryz.prog 8 #[v,.int .u8 how,.int .u8 wch] w (.bool true):=by
 unfold zAs;obtain⟨aa,cap,rfl⟩:=hv.form;have HV:=hQq hv;clear hv;go_enter Tryz.func8,Tryz.ntmps8;go_wp2_with fail
 refine(zZg w.heap.size _ b _ HV.out (Nat.le_refl _) hzl hz).mono ?_;rintro e w0 ⟨r,rfl,hr,hb0⟩;have HB0:=hQq hb0;clear hb0 hz hzl;cases r
 case true=>
  clear hr;go_wp2_with (go_at_call 12;refine(zGr _).mono ?_;rintro e w1 ⟨rfl,hb⟩)
  go_ret;exact⟨rfl,Ext.trans HB0.out hb⟩
 have HFB:=hQq (hr rfl);clear hr;have HSM:=hQq (zZw (Nat.le_refl _) HFB.out);obtain⟨rl,rn,re,hre⟩:∃rl rn re,awT b=(rl,rn,re):=⟨_,_,_,rfl⟩;have HRE:=hQq (zTh hre);have HENC:=hQq (zJ0 w.heap.size w0 _ b (HV.out.ext okB HB0.out) HB0.out.size HSM.out);rw[hre]at HENC;clear hre;by_cases he:re=0
 case neg=>
  have HNIL:Hid (rl= []):=hQq (by rw[<- HRE.out.1];exact yAz (by rw[HRE.out.2.2];exact he));have q4:(re != 0)=true:=bne_iff_ne.2 he;clear he;go_wp2_with fail
  refine HENC.out.mono ?_;rintro e w1 ⟨⟨a1,c1,B1,he1,-,-,-⟩,hb1⟩;have he1:e=Ending.returned (.tuple #[.slice a1 rl.length c1,.int .i64 rn,.int .i64 re]):=he1;subst he1;rw[HNIL.out];have HB1:=hQq (Ext.trans HB0.out hb1);clear hb1;go_wp2_with (go_at_call 12;refine(zGr _).mono ?_;rintro e w2 ⟨rfl,hb⟩)
  go_ret;exact⟨rfl,Ext.trans HB1.out hb⟩
 subst he;have HEB:=hQq (zQ9 HRE.out.2.2);have HSE:=hQq (zTg b);have HAW:=hQq HRE.out.2.2;obtain⟨T,hT⟩:∃T,T=rl:=⟨_,rfl⟩;have HTQ:Hid (awL b=T):=hQq (by rw[hT];exact HRE.out.1);have HTR:Hid (zAt T=0):=hQq (by have:=HEB.out.2;rwa [HTQ.out]at this);rw[HTQ.out]at HSE;go_wp2_with fail
 refine HENC.out.mono ?_;rintro e w1 ⟨⟨a1,c1,B1,he1,hB1,hB1',ho1⟩,hb1⟩;have he1:e=Ending.returned (.tuple #[.slice a1 rl.length c1,.int .i64 rn,.int .i64 0]):=he1;subst he1;rw[<- hT];have ho1:zAg cdT B1 w1 (.slice a1 rl.length c1) rl:=ho1;rw[<- hT]at ho1;have HO1:=hQq ho1;have HB1:=hQq (Ext.trans HB0.out hb1);have HS1:=hQq hB1';have HLT:Hid (T.length<=1000):=hQq (by have:=(zAf HTR.out).2.1;omega);clear ho1 hb1 hB1 hB1' hT HENC HRE HEB;have HFD:Hid (∀W vp Bp,Ext w1 W->zBV Bp W vp [zA6]->zAs Tryz.prog 28 #[.slice a1 T.length c1,vp] W (.tuple #[.int .i64 (zKJ T [zA6]).1,.int .i64 (zKJ T [zA6]).2])):=hQq (fun W vp Bp h h2=>zV3 B1 Bp W _ vp T [zA6] ((HO1.out.in okT).ext okT h) (Nat.le_trans HS1.out h.size) h2 HSE.out HTR.out nxt_ok.2.2.2.1 (by decide +kernel) HLT.out);rcases yAs T [zA6]with hf|⟨at0,hf,hat,hpa⟩
 case inl=>
  rw[hf]at HFD;go_wp2_with (go_at_call 28;refine(HFD.out _ _ _ (eA _ _) (path1 zA6 _)).mono ?_;rintro e w2 ⟨rfl,hb2⟩;have HB2:=hQq (Ext.trans (Ext.trans HB1.out (eA _ _)) hb2);clear hb2)
  go_wp2_with (go_at_call 12;refine(zGr _).mono ?_;rintro e wz ⟨rfl,hbz⟩)
  go_ret;exact⟨rfl,Ext.trans HB2.out hbz⟩
 have HLF:Hid (0<zB2 b/\at0=zDT (awL b)):=hQq (yAf HAW.out (by rw[HTQ.out];exact hf));have HFA:=hQq hf;rw[hf]at HFD;have HAT:=hQq hat;clear hf hpa;have HKN:Hid (0<(zBe T at0 T.length).length):=hQq (by have:=yAp HAW.out HLF.out.1;rwa [HTQ.out,<- HTQ.out,<- HLF.out.2,HTQ.out]at this);go_wp2_with (go_at_call 28;refine(HFD.out _ _ _ (eA _ _) (path1 zA6 _)).mono ?_;rintro e w2 ⟨rfl,hb2⟩;have HB2:=hQq (Ext.trans (Ext.trans HB1.out (eA _ _)) hb2);have HO2:=hQq (HO1.out.ext okT (Ext.trans (eA _ _) hb2));have HS2:=hQq (Nat.le_trans HS1.out (Ext.trans (eA _ _) hb2).size);clear hb2 HFD)
 refine(zZL B1 w2 _ T at0 (HO2.out.in okT) HTR.out HLT.out HAT.out).mono ?_;rintro e w3 ⟨⟨a3,c3,rfl,ho3⟩,hb3⟩;obtain⟨y,hy⟩:∃y:Nat,wch=y:=⟨wch.toNat,by omega⟩;subst hy;have hmk:y % (zBe T at0 T.length).length<(zBe T at0 T.length).length:=Nat.mod_lt _ HKN.out;obtain⟨m,hm⟩:∃m,m=y % (zBe T at0 T.length).length:=⟨_,rfl⟩;rw[<- hm]at hmk;obtain⟨bk,ok,rfl,hbk,d0⟩:=num_at (ho3.in okN) m hmk;have HKI:Hid ((zBe T at0 T.length)[m]'hmk∈zBe T at0 T.length):=hQq (List.getElem_mem hmk);generalize (zBe T at0 T.length)[m]'hmk=kk at d0 HKI;have r1:((y:Nat):Int) % ((zBe T at0 T.length).length:Int)=(m:Nat):=by rw[hm];exact(Int.natCast_emod _ _).symm
 have HKM:Hid (kk∈zBe (awL b) (zDT (awL b)) (awL b).length):=hQq (by rw[<- HLF.out.2,HTQ.out];exact HKI.out);have HKD:=hQq (zZY HAW.out HLF.out.1 HKM.out);have HKP:=hQq (zZC HAW.out HLF.out.1 HKM.out);have HKF:=hQq (yAq HAW.out HLF.out.1 HKM.out);rw[HTQ.out]at HKD HKP HKF;have HKL:Hid (kk<T.length):=hQq (by obtain⟨_,_,_,h,_⟩:=HKD.out;exact h);have hkn:=HKN.out;generalize (zBe T at0 T.length).length=nk at ho3 r1 hmk hkn;have q0:((nk:Int)==0)=false:=nB (by omega);have j1:((m:Nat):Int)<(nk:Int):=by omega
 have j0:(0:Int)<=(m:Int):=by omega
 have HB3:=hQq (Ext.trans HB2.out hb3);have HO3:=hQq (HO2.out.ext okT hb3);have HS3:=hQq (Nat.le_trans HS2.out hb3.size);clear ho3 hb3 HKI hm hkn;go_wp2_with fail
 refine(zUK T HLT.out (zAf HTR.out).2.2.1 kk B1 w3 _ (HO3.out.in okT) HKL.out).mono ?_;rintro e w4 ⟨⟨a4,n4,c4,rfl,ho4⟩,hb4⟩;have hn4:n4=2:=by
  obtain⟨_,_,e4⟩:=ho4.form;rw[HKP.out]at e4;injection e4 with _ e5 _
 subst hn4;obtain⟨g4,rfl,-,-,-⟩:=ho4.addr (by rw[HKP.out];exact Nat.succ_pos _);have HO4:Hid (zBV w3.heap.size w4 (.slice (some ⟨g4,0,none⟩) 2 c4) (zAw T kk)):=hQq (ho4.in okS);have HC4:Hid (2<=c4):=hQq (by obtain⟨_,_,e,h,_⟩:=HO4.out;injection e with _ _ e6;rw[HKP.out]at h;rw[e6];exact h);have HB4:=hQq (Ext.trans HB3.out hb4);have HOT:=hQq (HO3.out.ext okT hb4);have HS4:=hQq (Nat.le_trans HS3.out hb4.size);have HPO:Hid (zAR (zAw T kk)=0/\∀s∈zAw T kk,s.size<=zD2):=hQq (zZz (zAf HTR.out).2.2.1 kk HKL.out);clear ho4 hb4 d0 hbk j1 j0 q0 r1 hmk HO1 HO2 HO3 HS1 HS2 HS3 HB1 HB2 HB3;obtain⟨h4,hh4⟩:∃h4,how % 4=h4:=⟨_,rfl⟩;have hcase:h4=0\/h4=1\/h4=2\/h4=3:=by omega
 have HLK:Hid ((zDT (awL b):Int)=(at0:Int)):=hQq (by rw[<- HLF.out.2]);rcases hcase with rfl|rfl|rfl|rfl
 ·obtain⟨m2,k1,k2,k3⟩:=HKF.out;have HLC:=hQq (fun u hu=>zZU HAW.out HLF.out.1 (m:=m2) (by rw[HTQ.out];exact k1) (u:=u) hu);rw[HTQ.out]at HLC;rw[<- HTQ.out,<- HLF.out.2,HTQ.out]at k2 k3;rw[<- HTQ.out,<- HLF.out.2,HTQ.out]at HLC;have HK2:=hQq (And.intro k2 k3);clear k1 k2 k3;obtain⟨ul,ue,hcx⟩:∃ul ue,zA5 (zAM T (at0+1+m2))=(ul,ue):=⟨_,_,rfl⟩;have HCX:=hQq hcx;clear hcx;by_cases hue:ue=0
  case neg=>
   have q7:(ue != 0)=true:=bne_iff_ne.2 hue;clear hue;go_wp2_with fail
   refine(zV4 B1 w3.heap.size w4 _ _ T (zAw T kk) (at0+1+m2) (HOT.out.in okT) HO4.out HS4.out HSE.out HTR.out HPO.out.1 HPO.out.2 HLT.out HK2.out.1 (by omega) HK2.out.2).mono ?_;rw[HCX.out];rintro e wc ⟨⟨ac,cc,Bc,he3,-,-,-⟩,hbc⟩;have he3:e=Ending.returned (.tuple #[.slice ac ul.length cc,.int .i64 ue]):=he3;subst he3;have HBC:=hQq (Ext.trans HB4.out hbc);clear hbc;go_wp2_with (go_at_call 12;refine(zGr _).mono ?_;rintro e wz ⟨rfl,hbz⟩)
   go_ret;exact⟨rfl,Ext.trans HBC.out hbz⟩
  subst hue;go_wp2_with fail
  refine(zV4 B1 w3.heap.size w4 _ _ T (zAw T kk) (at0+1+m2) (HOT.out.in okT) HO4.out HS4.out HSE.out HTR.out HPO.out.1 HPO.out.2 HLT.out HK2.out.1 (by omega) HK2.out.2).mono ?_;rw[HCX.out];rintro e wc ⟨⟨ac,cc,Bc,he3,hBc,hBc2,hoc⟩,hbc⟩;have he3:e=Ending.returned (.tuple #[.slice ac ul.length cc,.int .i64 0]):=he3;subst he3;have HOC:Hid (zAg cdT Bc wc (.slice ac ul.length cc) ul):=hQq hoc;have HBC:=hQq (Ext.trans HB4.out hbc);have HSC:=hQq hBc2;clear hoc hbc hBc hBc2;have HAR:=hQq (HLC.out ul HCX.out);go_wp2_with fail
  refine(zRl Bc wc _ _ (HOC.out.in okT) HSC.out (can_sm (cut_sm HSE.out _) HCX.out)).mono ?_;rw[HAR.out];rintro e wg ⟨rfl,hbg⟩;have HBG:=hQq (Ext.trans HBC.out hbg);clear hbg;go_wp2_with (go_at_call 12;refine(zGr _).mono ?_;rintro e wz ⟨rfl,hbz⟩)
  go_ret;exact⟨rfl,Ext.trans HBG.out hbz⟩
 ·have HLN:=hQq (fun u hu=>zZI HAW.out HLF.out.1 (u:=u) hu);rw[<- HLF.out.2,HTQ.out]at HLN;have HO5:Hid (zBV w3.heap.size w4 (.slice (some ⟨g4,0,none⟩) 1 c4) [zA6]):=hQq (by
   have h5:=zCx HO4.out 0 1 (by rw[HKP.out];exact Nat.succ_le_succ (Nat.zero_le _)) c4 (by have:=HC4.out;omega) 0 (by simp);rw[List.drop_zero,HKP.out]at h5;exact h5)
  have k5:(1:Int)<=(c4:Int):=by have:=HC4.out;omega
  have HA0:Hid (0<at0):=hQq (by have:=(zY4 HAW.out HLF.out.1).2.1;rw[HLF.out.2];exact this);obtain⟨ul,ue,hcx⟩:∃ul ue,zA5 (zAM T at0)=(ul,ue):=⟨_,_,rfl⟩;have HCX:=hQq hcx;clear hcx;by_cases hue:ue=0
  case neg=>
   have q7:(ue != 0)=true:=bne_iff_ne.2 hue;clear hue;go_wp2_with fail
   refine(zV4 B1 w3.heap.size w4 _ _ T [zA6] at0 (HOT.out.in okT) HO5.out HS4.out HSE.out HTR.out nxt_ok.2.2.2.1 (by decide +kernel) HLT.out HFA.out HA0.out HAT.out).mono ?_;rw[HCX.out];rintro e wc ⟨⟨ac,cc,Bc,he3,-,-,-⟩,hbc⟩;have he3:e=Ending.returned (.tuple #[.slice ac ul.length cc,.int .i64 ue]):=he3;subst he3;have HBC:=hQq (Ext.trans HB4.out hbc);clear hbc;go_wp2_with (go_at_call 12;refine(zGr _).mono ?_;rintro e wz ⟨rfl,hbz⟩)
   go_ret;exact⟨rfl,Ext.trans HBC.out hbz⟩
  subst hue;go_wp2_with fail
  refine(zV4 B1 w3.heap.size w4 _ _ T [zA6] at0 (HOT.out.in okT) HO5.out HS4.out HSE.out HTR.out nxt_ok.2.2.2.1 (by decide +kernel) HLT.out HFA.out HA0.out HAT.out).mono ?_;rw[HCX.out];rintro e wc ⟨⟨ac,cc,Bc,he3,hBc,hBc2,hoc⟩,hbc⟩;have he3:e=Ending.returned (.tuple #[.slice ac ul.length cc,.int .i64 0]):=he3;subst he3;have HOC:Hid (zAg cdT Bc wc (.slice ac ul.length cc) ul):=hQq hoc;have HBC:=hQq (Ext.trans HB4.out hbc);have HSC:=hQq hBc2;clear hoc hbc hBc hBc2;have HAR:=hQq (HLN.out ul HCX.out);go_wp2_with fail
  refine(zRl Bc wc _ _ (HOC.out.in okT) HSC.out (can_sm (cut_sm HSE.out _) HCX.out)).mono ?_;rw[HAR.out];rintro e wg ⟨rfl,hbg⟩;have HBG:=hQq (Ext.trans HBC.out hbg);clear hbg;go_wp2_with (go_at_call 12;refine(zGr _).mono ?_;rintro e wz ⟨rfl,hbz⟩)
  go_ret;exact⟨rfl,Ext.trans HBG.out hbz⟩
 ·obtain⟨m2,k1,k2,k3⟩:=HKF.out;rw[<- HTQ.out,<- HLF.out.2,HTQ.out]at k2 k3;have HLP:=hQq (fun n u hu=>zZT HAW.out HLF.out.1 (n:=n) (u:=u) hu);rw[<- HLF.out.2,HTQ.out]at HLP;have HCL:Hid ((zAa T (at0+1+m2)).cl≠0):=hQq (by
   obtain⟨P,E,R,l,e1,-,-,e2,-,e3,-,e4,-⟩:=zZl HAW.out HLF.out.1;rw[<- HTQ.out,e2]at k1;rw[<- HTQ.out,HLF.out.2,e3,e1,zZ1 k1];exact(e4 _ (List.getElem_mem k1)).2)
  have HK2:=hQq (And.intro k2 k3);clear k1 k2 k3;have HKK:=hQq (kd_of HTR.out HK2.out.2 HCL.out);have HNX:=hQq (path2 zA6 (ofL [57,57]) w4);obtain⟨ul,ue,hcx⟩:∃ul ue,(if yAc T zZf=0 then zA5 (zZo T zZf (zAa T (at0+1+m2)))else ([],yAc T zZf))=(ul,ue):=⟨_,_,rfl⟩;have HCX:=hQq hcx;clear hcx;by_cases hue:ue=0
  case neg=>
   have q7:(ue != 0)=true:=bne_iff_ne.2 hue;clear hue;go_wp2_with fail
   refine(yAl B1 w3.heap.size w4.heap.size _ _ _ _ T (zAw T kk) zZf (at0+1+m2) ((HOT.out.in okT).ext okT (eA _ _)) (HO4.out.ext okS (eA _ _)) HNX.out (Nat.le_trans HS4.out (eA _ _).size) HSE.out HTR.out HPO.out.1 HPO.out.2 nxt_ok.1 nxt_ok.2.1 HLT.out HK2.out.1 HK2.out.2 HKK.out.1 HKK.out.2 HCL.out (by decide) (by decide)).mono ?_;rw[HCX.out];rintro e wc ⟨⟨ac,cc,Bc,he3,-,-,-⟩,hbc⟩;have he3:e=Ending.returned (.tuple #[.slice ac ul.length cc,.int .i64 ue]):=he3;subst he3;have HBC:=hQq (Ext.trans (Ext.trans HB4.out (eA _ _)) hbc);clear hbc;go_wp2_with (go_at_call 12;refine(zGr _).mono ?_;rintro e wz ⟨rfl,hbz⟩)
   go_ret;exact⟨rfl,Ext.trans HBC.out hbz⟩
  subst hue;go_wp2_with fail
  refine(yAl B1 w3.heap.size w4.heap.size _ _ _ _ T (zAw T kk) zZf (at0+1+m2) ((HOT.out.in okT).ext okT (eA _ _)) (HO4.out.ext okS (eA _ _)) HNX.out (Nat.le_trans HS4.out (eA _ _).size) HSE.out HTR.out HPO.out.1 HPO.out.2 nxt_ok.1 nxt_ok.2.1 HLT.out HK2.out.1 HK2.out.2 HKK.out.1 HKK.out.2 HCL.out (by decide) (by decide)).mono ?_;rw[HCX.out];rintro e wc ⟨⟨ac,cc,Bc,he3,hBc,hBc2,hoc⟩,hbc⟩;have he3:e=Ending.returned (.tuple #[.slice ac ul.length cc,.int .i64 0]):=he3;subst he3;have HOC:Hid (zAg cdT Bc wc (.slice ac ul.length cc) ul):=hQq hoc;have HBC:=hQq (Ext.trans (Ext.trans HB4.out (eA _ _)) hbc);have HSC:=hQq hBc2;clear hoc hbc hBc hBc2;have HCY:Hid (zA5 (zZo T zZf (zAa T (at0+1+m2)))=(ul,0)):=hQq (by
   have h:=HCX.out;by_cases hp:yAc T zZf=0
   ·rwa [if_pos hp]at h
   ·rw[if_neg hp]at h;exact absurd (congrArg Prod.snd h) hp)
  have HAR:=hQq (HLP.out _ ul HCY.out);go_wp2_with fail
  refine(zRl Bc wc _ _ (HOC.out.in okT) HSC.out (can_sm (put_sm HSE.out fun x hx=>by rw[List.mem_singleton.1 hx];exact HSE.out _ (zC1 HK2.out.2)) HCY.out)).mono ?_;rw[HAR.out];rintro e wg ⟨rfl,hbg⟩;have HBG:=hQq (Ext.trans HBC.out hbg);clear hbg;go_wp2_with (go_at_call 12;refine(zGr _).mono ?_;rintro e wz ⟨rfl,hbz⟩)
  go_ret;exact⟨rfl,Ext.trans HBG.out hbz⟩
 ·have HAR:=hQq (yAj HAW.out HLF.out.1 nxt_ok.2.2.2.2 (by decide)).1;rw[HLK.out,<- HLF.out.2,HTQ.out]at HAR;go_upto_region 17 with (go_at_call 33;refine(zTA B1 w4 _ T (HOT.out.in okT) HS4.out HLT.out (fun x hx=>(HSE.out x hx).2.2)).mono ?_;rintro e w5 ⟨⟨a5,n5,c5,rfl,ho5⟩,hb5⟩;obtain⟨x5,y5,e5⟩:=ho5.form;injection e5 with e51 e52 e53;subst e51 e52 e53;have HO5:Hid (zAg cdT w4.heap.size w5 (.slice a5 T.length c5) T):=hQq (ho5.to (Nat.le_refl _));have HB5:=hQq (Ext.trans HB4.out hb5);have HS5:=hQq hb5.size;clear ho5 hb5)
  obtain⟨g5,rfl,-,hg5,-⟩:=HO5.out.addr (by have:=HAT.out;omega);have f5:∀j,w5.frozen? ⟨g5,j,none⟩=false:=fun j=>HO5.out.frozen j;obtain⟨b6,off6,va6,hex6,hbx6,hva6,x0,x1,x2,x3,x4,x5,x6,x7⟩:=(HO5.out.in okT).tr at0 HAT.out;cases hex6;rw[Nat.zero_add]at x3;have HPT:=hQq (attr_put HAT.out HO5.out HS5.out);have j1:((at0:Nat):Int)<(T.length:Int):=by have:=HAT.out;omega
  have j0:(0:Int)<=(at0:Int):=by omega
  clear x0 x1 x2 x4 x5 x6 x7 hva6 hg5;go_wp2_with fail
  refine(zRl w4.heap.size _ _ _ (HPT.out.1.in okT) (Nat.le_trans HS5.out HPT.out.2.size) (set_sm HSE.out HAT.out)).mono ?_;rw[HAR.out];rintro e wg ⟨rfl,hbg⟩;have HBG:=hQq (Below.trans HB5.out (Below.trans (HPT.out.2.mono HB4.out.size) (hbg.mono (Nat.le_trans HB4.out.size (Nat.le_trans HS5.out HPT.out.2.size)))));clear hbg x3 f5 hbx6 j1 j0;go_wp2_with (go_at_call 12;refine(zGr _).mono ?_;rintro e wz ⟨rfl,hbz⟩)
  go_ret;exact⟨rfl,Ext.trans HBG.out hbz⟩
theorem contract (H:Type)(enc:TypeId × Value->H)(W:World)(base:Nat)(args:Array Value)(ds gs:List (DataW H))(before:List MemPlace)
  (hval:∀(j:Nat) t v,Tryz.f8.params[j]? = some t->args[j]? = some v->Value.okWide Tryz.prog W .any base t v)
  (hW:DataW.Whole enc Tryz.prog Tryz.f8.params.toList Rows.aufsLinksSpec.vars false W args.toList ds gs before) (hz:(DataW.weightsEach Tryz.prog (Tryz.f8.params.toList++(OpenSpec.ofChange Rows.aufsLinksSpec).bare.plain.varTypes Tryz.prog) (ds++gs)).all (· <=reachBytes)=true) (_hL:laidMetH Tryz.prog Rows.aufsLinksRow.laid W) (_hS:W.ShapedOpen Tryz.prog) :
  Calls Tryz.prog 8 args W fun e W'=>∃v,e= .returned v/\Rows.aufsLinksSpec.post enc Tryz.prog Tryz.f8 false true false false W args v W':=by
 have hW':=hW;obtain⟨p,q,hA0,hV,rfl,hfz,hnd⟩:=hW;have hA:DataW.TrodAll enc Tryz.prog W 0 (fun _=>true) true Tryz.f8.params.toList args.toList ds p:=hA0;rw[Tryz.params8]at hA hval;obtain⟨v0,vs0,d0,ds0,p0,q0,hargs,rfl,rfl,h0,r0⟩:=trodAll_cons hA;obtain⟨v1,vs1,d1,ds1,p1,q1,rfl,rfl,rfl,h1,r1⟩:=trodAll_cons r0;obtain⟨v2,vs2,d2,ds2,p2,q2,rfl,rfl,rfl,h2,r2⟩:=trodAll_cons r1;obtain⟨rfl,rfl,rfl⟩:=trodAll_nil r2;obtain rfl:args= #[v0,v1,v2]:=by cases args;simp_all
 obtain⟨x0,w0,z0⟩:=zZu (hval 0 35 v0 rfl rfl) h0 (fun n hn=>by have:=List.all_eq_true.1 hz n (DataW.weights_mem_each (j:=0) (t:=35) (d:=d0) (by rw[Tryz.params8];rfl) rfl n hn);simpa using this);obtain⟨x1,rfl,rfl,rfl,w1⟩:=open_int Tryz.underlying5 (hval 1 5 v1 rfl rfl) h1;obtain⟨x2,rfl,rfl,rfl,w2⟩:=open_int Tryz.underlying5 (hval 2 5 v2 rfl rfl) h2;refine(walk v0 x0 x1 x2 W w0 (fun y hy=>Nat.le_trans (z0 y hy) (by decide)) (Nat.le_trans (zZQ (hval 0 35 v0 rfl rfl) h0 (fun n hn=>by have:=List.all_eq_true.1 hz n (DataW.weights_mem_each (j:=0) (t:=35) (d:=d0) (by rw[Tryz.params8];rfl) rfl n hn);simpa using this) w0) (by decide)) (Go.bounds_u8 w1) (Go.bounds_u8 w2)).mono fun e W' ⟨he,hb⟩=>?_;subst he;exact⟨_,rfl,zMX hW' rfl rfl rfl (by intro t ht;rw[Tryz.params8]at ht;simp at ht;rcases ht with rfl|rfl<;>exact⟨by kernel_rfl,of_decide_eq_true (by kernel_rfl)⟩) hb⟩
theorem reads (os:Os){H:Type}(enc:TypeId × Value->H):∃places,DataW.whole enc Tryz.prog ((zDN os).forCall (fun _ _=>0) ⟨#[],(#[.slice none 0 0,.int .u8 0,.int .u8 0]:Array Value),[]⟩).memory Tryz.f8.params.toList Rows.aufsLinksSpec.vars false (#[.slice none 0 0,.int .u8 0,.int .u8 0]:Array Value).toList 8=some ([.nil,.lit (.int .u8 0),.lit (.int .u8 0)],[],places):=
 ⟨[],by kernel_rfl⟩
theorem lifted (os : Os) (started : os.Started) (H : Type) (enc : TypeId × Value -> H) (F : Stop.Interp) :
  ReturnsInHanded {} Tryz.checked os 8 .any ((OpenSpec.ofChange Rows.aufsLinksSpec).preRow enc Tryz.prog Tryz.f8 Rows.aufsLinksRow.domain false Rows.aufsLinksRow.laid) (((OpenSpec.ofChange Rows.aufsLinksSpec).at F).post enc Tryz.prog Tryz.f8 false true false false) := by
 obtain ⟨places, hx⟩ := reads os enc;refine returnsInHanded_of_row (C := Tryz.checked) (s := OpenSpec.ofChange Rows.aufsLinksSpec) own started (by kernel_rfl) Tryz.func8
  (witness_row_atRef (enc := enc) (C := Tryz.checked) false (zDN os) (#[.slice none 0 0, .int .u8 0, .int .u8 0] : Array Value) rfl (by kernel_rfl) (by kernel_rfl) (by kernel_rfl)
   (OpenSpec.preRow_of_cond 8 hx (by kernel_rfl) (fun k hk => by cases hk) (by kernel_rfl) (zKE os _))) ?_
 intro W base args ds gs before hval hW _ _ hz hL hS _;exact contract H enc W base args ds gs before hval hW hz hL hS
theorem j0:(Rows.aufsLinksRow.wf (OpenSpec.ofChange Rows.aufsLinksSpec))=true:=by kernel_rfl
theorem j1:(laidOutB Tryz.prog)=true:=zLK
theorem j2:(mapsRowed Tryz.prog)=true:=zWm
theorem j3:(Tryz.f8.params.all (Tryz.prog.readableRec ·))=true:=by kernel_rfl
theorem j4:(namedTie Tryz.prog Rows.aufsLinksRow.named Rows.aufsLinksSpec.vars)=true:=by kernel_rfl
theorem j5:((Rows.aufsLinksRow.stops== []))=true:=by kernel_rfl
theorem j6:((Tryz.prog.stops== []))=true:=zTP
theorem j7:((Rows.aufsLinksRow.knobs== []))=true:=by kernel_rfl
theorem j8:((Tryz.prog.stopKnobs== []))=true:=zTS
theorem j9:((Rows.aufsLinksRow.inPlace==Tryz.prog.inPlace 8))=true:=by kernel_rfl
theorem j10:((Rows.aufsLinksRow.unfollowed==Tryz.prog.unfollowed 8))=true:=by kernel_rfl
theorem j11:((Rows.aufsLinksRow.recurses==Tryz.prog.recurses 8))=true:=by kernel_rfl
theorem j12:((Rows.aufsLinksRow.named==Tryz.prog.varsNamed 8))=true:=by kernel_rfl
theorem j13:((Rows.aufsLinksRow.maps==(Tryz.f8.params.toList++Rows.aufsLinksSpec.plain.varTypes Tryz.prog).any (Tryz.prog.mapsRec ·)))=true:=by kernel_rfl
theorem j14:((Rows.aufsLinksRow.ifaces==(Tryz.f8.params.toList++Rows.aufsLinksSpec.plain.varTypes Tryz.prog).any (Tryz.prog.ifacesRec ·)))=true:=by kernel_rfl
theorem j15:((Rows.aufsLinksRow.mapsOut==Tryz.prog.mapsAmong Tryz.f8.resultTypes.toList))=true:=by kernel_rfl
theorem j16:((Rows.aufsLinksRow.loops==(Tryz.f8.params.toList++Rows.aufsLinksSpec.plain.varTypes Tryz.prog).any (Tryz.prog.loopsFrom ·)))=true:=by kernel_rfl
theorem j17:((Rows.aufsLinksRow.wideKeys==(Tryz.f8.params.toList++Rows.aufsLinksSpec.plain.varTypes Tryz.prog++Tryz.f8.resultTypes.toList).any (Tryz.prog.wideKeysFrom ·)))=true:=by kernel_rfl
theorem j18:(Rows.aufsLinksSpec.vars.all (Tryz.prog.varReadable ·))=true:=by kernel_rfl
theorem j19:(Tryz.f8.resultTypes.all (fun t=>Tryz.prog.readableRec t&&decide (t<Tryz.prog.types.size)))=true:=by kernel_rfl
theorem j20:((Rows.aufsLinksRow.ifacesOut==Tryz.f8.resultTypes.toList.any (Tryz.prog.ifacesRec ·)))=true:=by kernel_rfl
theorem j21:((Rows.aufsLinksRow.loopsOut==Tryz.f8.resultTypes.toList.any (Tryz.prog.loopsFrom ·)))=true:=by kernel_rfl
theorem j22:((Rows.aufsLinksRow.plainKeys==Tryz.prog.plainKeys))=true:=zTQ
theorem j23:(Rows.aufsLinksRow.shortTexts.isNone)=true:=by kernel_rfl
theorem j24:(Tryz.prog.stopsHeard)=true:=zTT
theorem j25:(Tryz.prog.mayEnter)=true:=zTU
theorem j26:((Rows.aufsLinksRow.lifted==Tryz.prog.liftsFinal))=true:=zTR
theorem j27:((Tryz.prog.make==some Rows.aufsLinksRow.make))=true:=zWn
theorem j28:((Rows.aufsLinksRow.kinds==(if Rows.aufsLinksRow.domain.isEmpty then []else Tryz.f8.params.toList.map fun t=>match Tryz.prog.underlying t with|some (.int k)=>some k|_=>none)))=true:=by kernel_rfl
theorem j29:((Rows.aufsLinksRow.pinned==Rows.aufsLinksRow.pinnedBy))=true:=by kernel_rfl
theorem j30:((Rows.aufsLinksRow.veiled==(Tryz.f8.params.toList++Rows.aufsLinksSpec.plain.varTypes Tryz.prog++Tryz.f8.resultTypes.toList).any (Tryz.prog.veiledRec ·)))=true:=by kernel_rfl
theorem j31:(Rows.aufsLinksRow.veiledFits Tryz.prog Tryz.f8.params.toList (Tryz.f8.params.toList++Rows.aufsLinksSpec.plain.varTypes Tryz.prog++Tryz.f8.resultTypes.toList))=true:=by kernel_rfl
theorem facts:joinedFacts Tryz.prog 8 Tryz.f8 Rows.aufsLinksSpec Rows.aufsLinksRow=true:=by
 unfold joinedFacts;simp only[Bool.and_eq_true];exact⟨⟨⟨⟨⟨⟨⟨⟨⟨⟨⟨⟨⟨⟨⟨⟨⟨⟨⟨⟨⟨⟨⟨⟨⟨⟨⟨⟨⟨⟨⟨j0,j1⟩,j2⟩,j3⟩,j4⟩,j5⟩,j6⟩,j7⟩,j8⟩,j9⟩,j10⟩,j11⟩,j12⟩,j13⟩,j14⟩,j15⟩,j16⟩,j17⟩,j18⟩,j19⟩,j20⟩,j21⟩,j22⟩,j23⟩,j24⟩,j25⟩,j26⟩,j27⟩,j28⟩,j29⟩,j30⟩,j31⟩
theorem said:Rows.AufsLinksSaid:=
 OpenClaim.holds_of_cond 8 Tryz.f8 rfl rfl rfl rfl rfl rfl rfl ⟨rfl,rfl,rfl,rfl,rfl⟩ rfl rfl rfl rfl rfl (by kernel_rfl) Tryz.func8 facts
  (of_decide_eq_true (by kernel_rfl)) (by unfold Func.isWrapper;rw[if_neg (of_decide_eq_false (by kernel_rfl))];exact⟨rfl,rfl⟩)
  (fun os started H enc _ F=>by rw[OpenClaim.pre_eq_preRow];exact lifted os started H enc F)
#print axioms said
end Go.Proofs.YtbeeoomadnmogaaGreat.lwAufsLinks
