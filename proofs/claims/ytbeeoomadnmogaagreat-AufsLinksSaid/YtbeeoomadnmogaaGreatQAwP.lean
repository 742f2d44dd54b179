/- AwP AwZ AxC -/
import Derived.Test.YtbeeoomadnmogaaGreatQI5
import Derived.Test.YtbeeoomadnmogaaGreatQChkBx
import Derived.Test.YtbeeoomadnmogaaGreatQFarO
import Derived.Test.YtbeeoomadnmogaaGreatQAwT
set_option maxRecDepth 100000
set_option maxHeartbeats 64000000
namespace Go.Proofs.YtbeeoomadnmogaaGreat
open Go.RowKit
theorem zNZ (B:Nat)(w:World)(v:Value)(t:List TrN)(ht:zAg cdT B w v t)(hB:B<=w.heap.size)(hlen:t.length<=1000)(hkd:∀x∈t,1<=x.kd/\x.kd<=5)(hal:∀x∈t,x.ats.length<=1000000):
  Calls Tryz.prog 153 #[v] w (zYS B w v t):=by
 obtain⟨aa,cap,rfl⟩:=ht.form;have HV:=hQq ht;have HKD:=hQq hkd;have HAL:=hQq hal;clear ht hkd hal;have hmm:=@run_makeMap Tryz.prog;go_enter Tryz.func153,Tryz.ntmps153;go_wp2;go_step3;go_wp2;go_step3;go_wp2;go_loopw [14] (fun i w'=>∃(wi:World) (k:Nat),wi=w'/\k<=t.length/\i= .int .i64 k/\zW8 w wi t k) (fun i _=>t.length-(intOf i).toNat)
 case atStart=>exact⟨_,0,rfl,Nat.zero_le _,rfl,(eA _ _).trans (eA _ _),⟨0,by rw[zSa];exact(zBJ w kI).ext (eA _ _)⟩,⟨0,fun _=>none,by have:=zBJ (w.alloc (.map #[] 0)) kI;rw[show (w.alloc (.map #[] 0)).heap.size=w.heap.size+1 by simp]at this;exact this,zB0.zero _ _ _⟩,fun i h=>absurd h (by omega)⟩
 case round=>
  obtain⟨wi,k,rfl,hk,rfl,hS⟩:=hrel;have HS:=hQq hS;clear hS;by_cases hlt:k<t.length
  case neg=>
   obtain rfl:k=t.length:=by omega
   clear hk hlt;have HE0:Hid (zLh t=0):=hQq (zUY HS.out.bad);obtain⟨n1,hM1⟩:=HS.out.many;have HM1:=hQq hM1;have HEX:=hQq HS.out.ext;clear hM1 HS;have hwz:=HM1.out.lt;go_wp2;go_loopw [52] (fun i w'=>∃(wj:World) (k:Nat),wj=w'/\k<=t.length/\i= .int .i64 k/\Below B w wj/\zAg cdT B wj (.slice aa t.length cap) (zJ8 (zBd t) t k)/\zAA kI wj w.heap.size n1 (nzF t t.length)/\zAA kI wj wi.heap.size (nfC t k) (zN9 t k)) (fun i _=>t.length-(intOf i).toNat)
   case atStart=>exact⟨_,0,rfl,Nat.zero_le _,rfl,(Ext.trans HEX.out (eA _ _)).mono hB,HV.out.ext okT (Ext.trans HEX.out (eA _ _)),HM1.out.ext (eA _ _),by rw[zPF];exact zBJ _ _⟩
   case round=>
    obtain⟨wj,k,rfl,hk,rfl,hbw,ho,hm1,hm3⟩:=hrel;have HBW:=hQq hbw;have HO:=hQq ho;have HM1:=hQq hm1;have HM3:=hQq hm3;clear hbw ho hm1 hm3;by_cases hlt:k<t.length
    case neg=>
     obtain rfl:k=t.length:=by omega
     go_wp2;try rw[Exit.noGoto_ret]
     go_ret;exact⟨by rw[HE0.out];rfl,HBW.out,fun _=>by have h:=HO.out;rw[zJu]at h;exact h⟩
    have k1:((k:Nat):Int)<(t.length:Int):=by omega
    have k0:(0:Int)<=(k:Int):=by omega
    have hkm:k<(zJ8 (zBd t) t k).length:=by rw[zD1];exact hlt
    obtain⟨g,rfl,hg1,hg2,-⟩:=HO.out.addr (by omega);obtain⟨b,off,va,hex,hb,hva,c0,c1,c2,c3,c4,c5,c6,c7⟩:=(HO.out.in okT).tr k hkm;cases hex;obtain⟨a3,cap3,rfl⟩:=hva.form;rw[zLF _ hlt,<- zAl t k hlt]at c0 c1 c2 c3 c4 c5 c6 c7;rw[Nat.zero_add]at c0 c1 c2 c3 c4 c5 c6 c7;have HLT:=hQq hlt;generalize hx:zAa t k=x at c0 c1 c2 c3 c4 c5 c6 c7;have HX:=hQq hx;clear hva hx;have p1:=bN wj (.cells #[.int .i64 x.dep,.string x.nm,.int .i64 x.kd,.slice a3 x.ats.length cap3,.string x.dat,.int .i64 x.ma,.int .i64 x.mi,.int .i64 x.cl] 59 (0,0));by_cases e0:x.cl=0
    ·have q0:(x.cl==0)=true:=beq_iff_eq.2 e0;have HM:Hid (zDS t (zAa t k).cl=false):=hQq (by rw[HX.out,e0];unfold zDS;simp);have HK:Hid (zBd t (zAa t k).cl=(zAa t k).cl):=hQq (by rw[zMM HM.out,HX.out,e0]);clear e0;go_wp2;have he:=eA wj (.cells #[.int .i64 x.dep,.string x.nm,.int .i64 x.kd,.slice a3 x.ats.length cap3,.string x.dat,.int .i64 x.ma,.int .i64 x.mi,.int .i64 x.cl] 59 (0,0));refine⟨⟨_,k+1,rfl,by omega,by go_num,HBW.out.trans (he.mono (Nat.le_trans hB HBW.out.size)),by rw[zPO HLT.out HK.out];exact HO.out.ext okT he,HM1.out.ext he,by rw[zJq HLT.out (.inl HM.out),zHA (.inl HM.out)];exact HM3.out.ext he⟩,?_⟩;first|(simp[intOf];done)|(simp[intOf];omega)
    have q0:(x.cl==0)=false:=nB e0;have HX0:=hQq e0;clear e0;go_upto_region 21 with (fail)
    refine nW (P:=fun W=>Code.wp _ _ _ _ W) _ ?_;intro W0 hW0;replace hW0:W0=wj.alloc (.cells #[.int .i64 x.dep,.string x.nm,.int .i64 x.kd,.slice a3 x.ats.length cap3,.string x.dat,.int .i64 x.ma,.int .i64 x.mi,.int .i64 x.cl] 59 (0,0)):=hW0;have HE1:Hid (Ext wj W0):=hQq (by rw[hW0];exact eA _ _);rw[<- hW0]at p1;have HP1:=hQq p1;have y7:W0.cell? ⟨wj.heap.size,7,none⟩=some (.int .i64 x.cl):=bC p1 7;have g3:g<W0.heap.size:=Nat.lt_of_lt_of_le hg2 HE1.out.size;have fz:∀j,W0.frozen? ⟨g,j,none⟩=false:=fun j=>(HO.out.ext okT HE1.out).frozen j;have z7:=(eC HE1.out hg2).trans c7;have hgm3:g≠wi.heap.size:=by rintro rfl;obtain⟨_,_,h2,_⟩:=HM3.out;obtain⟨_,_,_,h3⟩:=HO.out.row rfl _ rfl;rw[h2]at h3;cases h3
    have HGM:=hQq hgm3;clear hW0 p1 c0 c1 c2 c3 c4 c5 c6 c7 hgm3;obtain⟨z,hz⟩:∃z,zAi t x.cl t.length=z:=⟨_,rfl⟩;have HZ:=hQq hz;have HZP:Hid (0<z):=hQq (by have:=zQJ HLT.out;rw[HX.out]at this;show 0<z;omega);have HZL:Hid (z<=t.length):=hQq (by rw[<- hz];exact zEM _ _ _);clear hz;by_cases hz:z=1
    ·have qz:((z:Int)==1)=true:=by rw[hz];rfl
     have HM:Hid (zDS t (zAa t k).cl=false):=hQq (by rw[HX.out];unfold zDS;rw[HZ.out,hz];simp);have HK:Hid (zBd t (zAa t k).cl=0):=hQq (zMM HM.out);clear hz;go_wp2_with (first
      | (at_lookup;refine zCf rfl (.tmp 81) (.tmp 83) 146 false rfl 3 3 zA4 zAz (.int .i64 0) zB3 rfl (HM1.out.ext HE1.out) x.cl rfl ?_;rw[if_neg Bool.false_ne_true,zEY t _ HX0.out,HZ.out])
      | fail)
     obtain⟨u1,u2⟩:=zDL (HO.out.ext okT HE1.out) HLT.out;rw[HK.out]at u1 u2;refine⟨⟨_,k+1,rfl,by omega,by go_num,Below.grown (HBW.out.trans (HE1.out.mono (Nat.le_trans hB HBW.out.size))) u2 (Nat.le_trans hB (Nat.le_trans HBW.out.size HE1.out.size)) (fun q e=>by injection e with e;omega),u1,(HM1.out.ext HE1.out).setCell _ _,by rw[zJq HLT.out (.inl HM.out),zHA (.inl HM.out)];exact(HM3.out.ext HE1.out).setCell _ _⟩,?_⟩;first|(simp[intOf];done)|(simp[intOf];omega)
    have qz:((z:Int)==1)=false:=nB (by omega);have HM:Hid (zDS t (zAa t k).cl=true):=hQq (by
     rw[HX.out];unfold zDS;rw[HZ.out];have:=HZP.out;simp only[Bool.and_eq_true,decide_eq_true_eq];exact⟨HX0.out,by omega⟩)
    clear hz;have HMX:Hid (zDS t x.cl=true):=hQq (by rw[<- HX.out];exact HM.out);by_cases hn:zAi t x.cl k=0
    ·have HC:Hid (zAi t (zAa t k).cl k=0):=hQq (by rw[HX.out];exact hn);have HL:Hid (zN9 t k x.cl=none):=hQq (if_neg (by omega));obtain⟨hn1,hn2⟩:=zUZ HLT.out HM.out HC.out;have HN1:=hQq hn1;have HN2:Hid (zBd t x.cl=(nfC t k:Int)+1):=hQq (by rw[<- HX.out];exact hn2);have hle:=zPJ t k;have jw:IntKind.i64.wrap ((nfC t k:Int)+1)=(nfC t k:Int)+1:=IntWalk.i64_in _ (by omega);have HFN:Hid (zN9 t (k+1)=upd (zN9 t k) x.cl (.int .i64 ((nfC t k:Int)+1))):=hQq (by rw[zSd HM.out,hn2,HX.out]);clear hn hn1 hn2;have hln:=fun ty=>(HM3.out.ext HE1.out).len zAz ty;generalize hq:nfC t k=q at *;have HQ:=hQq hq;clear hq;go_wp2_with (first
      | (at_lookup;refine zCf rfl (.tmp 81) (.tmp 83) 146 false rfl 3 3 zA4 zAz (.int .i64 0) zB3 rfl (HM1.out.ext HE1.out) x.cl rfl ?_;rw[if_neg Bool.false_ne_true,zEY t _ HX0.out,HZ.out])
      | (at_lookup;refine zCf rfl (.tmp 57) (.tmp 59) 146 false rfl 3 3 zA4 zAz (.int .i64 0) zB3 rfl (HM3.out.ext HE1.out) x.cl rfl ?_;rw[if_neg Bool.false_ne_true,HL.out,Option.getD_none])
      | (at_mapUpdate;refine zDU rfl (.tmp 62) (.tmp 64) (.tmp 67) 146 rfl _ _ zA4 zAz rfl (by exact HM3.out.ext HE1.out) x.cl (.int .i64 ((q:Int)+1)) rfl rfl ?_;intro W1 hm7 hg7;rw[HL.out]at hm7;have HM7:=hQq hm7;have HG7:=hQq hg7;have HKA7:=hQq (zLL (HM3.out.ext HE1.out) hg7);have HP7:=hQq (HKA7.out.keep _ _ _ _ (.inr (Nat.zero_le _)) HP1.out);have y7:=bC HP7.out 7;simp only[List.getElem?_toArray,List.getElem?_cons_succ,List.getElem?_cons_zero]at y7;have HO7:=hQq (zUV (HO.out.ext okT HE1.out) HKA7.out);have fz:∀j,W1.frozen? ⟨g,j,none⟩=false:=fun j=>HO7.out.frozen j;have z7:=KcA.cell HKA7.out z7;have g3:=Nat.lt_of_lt_of_le g3 HKA7.out.size;clear hm7 hg7)
      | (at_lookup;refine zCf rfl (.tmp 70) (.tmp 72) 146 false rfl 3 3 zA4 zAz (.int .i64 0) zB3 rfl HM7.out x.cl rfl ?_;rw[if_neg Bool.false_ne_true,upd,if_pos rfl,Option.getD_some])
      | fail)
     obtain⟨u1,u2⟩:=zDL HO7.out HLT.out;rw[HX.out,HN2.out]at u1 u2;have hb1:Below B w W1:=Below.grown (HBW.out.trans (HE1.out.mono (Nat.le_trans hB HBW.out.size))) HG7.out (Nat.le_trans hB (Nat.le_trans HBW.out.size HE1.out.size)) (fun q e=>by injection e with e;omega);refine⟨⟨_,k+1,rfl,by omega,by go_num,Below.grown hb1 u2 (Nat.le_trans hB hb1.size) (fun q e=>by injection e with e;omega),u1,((HM1.out.ext HE1.out).grown HG7.out (fun e=>by injection e with e;omega)).setCell _ _,by rw[HN1.out,HFN.out];exact HM7.out.setCell _ _⟩,?_⟩;first|(simp[intOf];done)|(simp[intOf];omega)
    ·have HC:Hid (0<zAi t (zAa t k).cl k):=hQq (by rw[HX.out];omega);have HL:Hid (zN9 t k x.cl=some (.int .i64 (zBd t x.cl))):=hQq (if_pos ⟨HMX.out,by omega⟩);have hc:=zU2 HMX.out;clear hn;obtain⟨c,hcc⟩:∃c,zBd t x.cl=c:=⟨_,rfl⟩;rw[hcc]at hc;have HCC:=hQq hcc;have qc:(c==0)=false:=nB (by omega);clear hc hcc;go_wp2_with (first
      | (at_lookup;refine zCf rfl (.tmp 81) (.tmp 83) 146 false rfl 3 3 zA4 zAz (.int .i64 0) zB3 rfl (HM1.out.ext HE1.out) x.cl rfl ?_;rw[if_neg Bool.false_ne_true,zEY t _ HX0.out,HZ.out])
      | (at_lookup;refine zCf rfl (.tmp 57) (.tmp 59) 146 false rfl 3 3 zA4 zAz (.int .i64 0) zB3 rfl (HM3.out.ext HE1.out) x.cl rfl ?_;rw[if_neg Bool.false_ne_true,HL.out,Option.getD_some,HCC.out])
      | (at_lookup;refine zCf rfl (.tmp 70) (.tmp 72) 146 false rfl 3 3 zA4 zAz (.int .i64 0) zB3 rfl (HM3.out.ext HE1.out) x.cl rfl ?_;rw[if_neg Bool.false_ne_true,HL.out,Option.getD_some,HCC.out])
      | fail)
     obtain⟨u1,u2⟩:=zDL (HO.out.ext okT HE1.out) HLT.out;rw[HX.out,HCC.out]at u1 u2;refine⟨⟨_,k+1,rfl,by omega,by go_num,Below.grown (HBW.out.trans (HE1.out.mono (Nat.le_trans hB HBW.out.size))) u2 (Nat.le_trans hB (Nat.le_trans HBW.out.size HE1.out.size)) (fun q e=>by injection e with e;omega),u1,(HM1.out.ext HE1.out).setCell _ _,by rw[zJq HLT.out (.inr HC.out),zHA (.inr HC.out)];exact(HM3.out.ext HE1.out).setCell _ _⟩,?_⟩;first|(simp[intOf];done)|(simp[intOf];omega)
  have k1:((k:Nat):Int)<(t.length:Int):=by omega
  have k0:(0:Int)<=(k:Int):=by omega
  have hcl:=fun c=>zEM t c k;obtain⟨b,off,va,hex,hb,hva,c0,c1,c2,c3,c4,c5,c6,c7⟩:=((HV.out.ext okT HS.out.ext).in okT).tr k hlt;cases hex;obtain⟨a3,cap3,rfl⟩:=hva.form;have HLT:=hQq hlt;have HG:=hQq (zAl t k hlt);have HKX:Hid (1<=(zAa t k).kd/\(zAa t k).kd<=5):=hQq (by rw[HG.out];exact HKD.out _ (List.getElem_mem hlt));have HAX:Hid ((zAa t k).ats.length<=1000000):=hQq (by rw[HG.out];exact HAL.out _ (List.getElem_mem hlt));rw[<- HG.out]at hva c0 c1 c2 c3 c4 c5 c6 c7;generalize hx:zAa t k=x at hva c0 c1 c2 c3 c4 c5 c6 c7 HKX HAX;have HX:=hQq hx;have HVA:=hQq hva.attrs;clear hva hx HG;have hc:=hcl x.cl;clear hcl;have p1:=bN wi (.cells #[.int .i64 x.dep,.string x.nm,.int .i64 x.kd,.slice a3 x.ats.length cap3,.string x.dat,.int .i64 x.ma,.int .i64 x.mi,.int .i64 x.cl] 59 (0,0));by_cases e0:x.cl=0
  ·have q0:(x.cl==0)=true:=beq_iff_eq.2 e0;have HE0:Hid ((zAa t k).cl=0):=hQq (by rw[HX.out];exact e0);clear e0;go_wp2;go_roundw
   case rel=>
    have h:=HS.out.grow (eA wi (.cells #[.int .i64 x.dep,.string x.nm,.int .i64 x.kd,.slice a3 x.ats.length cap3,.string x.dat,.int .i64 x.ma,.int .i64 x.mi,.int .i64 x.cl] 59 (0,0)));obtain⟨n',F,h3,h4⟩:=h.first;exact⟨_,k+1,rfl,by omega,by go_num,h.ext,by rw[zSc HE0.out];exact h.many,⟨n',F,h3,h4.old (.inl HE0.out)⟩,fun i hi=>by
     by_cases e:i<k
     ·exact h.bad i e
     ·obtain rfl:i=k:=by omega
      unfold zEm;rw[HE0.out];rfl⟩
   case measure=>simp[intOf]<;>omega
  have q0:(x.cl==0)=false:=nB e0;have HE0:=hQq e0;clear e0;go_upto_region 7 with (fail)
  refine nW (P:=fun W=>Code.wp _ _ _ _ W) _ ?_;intro W0 hW0;replace hW0:W0=wi.alloc (.cells #[.int .i64 x.dep,.string x.nm,.int .i64 x.kd,.slice a3 x.ats.length cap3,.string x.dat,.int .i64 x.ma,.int .i64 x.mi,.int .i64 x.cl] 59 (0,0)):=hW0;have HS0:Hid (zW8 w W0 t k):=hQq (by rw[hW0];exact HS.out.grow (eA _ _));have HVA0:Hid (aA W0 (.slice a3 x.ats.length cap3) x.ats):=hQq (by rw[hW0];exact HVA.out.ext (eA _ _));have HZ0:Hid (w.heap.size+1<wi.heap.size):=hQq (by obtain⟨_,_,h,_⟩:=HS.out.first;exact h.lt);rw[<- hW0]at p1;have HP0:=hQq p1;have y7:W0.cell? ⟨wi.heap.size,7,none⟩=some (.int .i64 x.cl):=bC p1 7;have y0:W0.cell? ⟨wi.heap.size,0,none⟩=some (.int .i64 x.dep):=bC p1 0;have y1:W0.cell? ⟨wi.heap.size,1,none⟩=some (.string x.nm):=bC p1 1;have y2:W0.cell? ⟨wi.heap.size,2,none⟩=some (.int .i64 x.kd):=bC p1 2;have y3:W0.cell? ⟨wi.heap.size,3,none⟩=some (.slice a3 x.ats.length cap3):=bC p1 3;have y4:W0.cell? ⟨wi.heap.size,4,none⟩=some (.string x.dat):=bC p1 4;have y5:W0.cell? ⟨wi.heap.size,5,none⟩=some (.int .i64 x.ma):=bC p1 5;have y6:W0.cell? ⟨wi.heap.size,6,none⟩=some (.int .i64 x.mi):=bC p1 6;clear hW0 p1 c0 c1 c2 c3 c4 c5 c6 c7 hb;obtain⟨n1,hM1⟩:=HS0.out.many;obtain⟨n2,F2,hM2,hF2⟩:=HS0.out.first;have HM1:=hQq hM1;have HM2:=hQq hM2;have HF2:=hQq hF2;clear hM1 hM2 hF2;obtain⟨z,hz⟩:∃z,zAi t x.cl k=z:=⟨_,rfl⟩;rw[hz]at hc;have HZ:=hQq hz;clear hz;have w0:(0:Int)<=(z:Int):=by omega
  have w1:(z:Int)<=1000:=by omega
  by_cases hz:z=0;case' pos=>
   have qz:((z:Int)==0)=true:=by rw[hz];rfl
   have HZZ:Hid (zAi t (zAa t k).cl k=0):=hQq (by rw[HX.out,HZ.out,hz]);clear hz;go_upto_region 9 with (first
    | (at_lookup;refine zCf rfl (.tmp 21) (.tmp 23) 146 false rfl 3 3 zA4 zAz (.int .i64 0) zB3 rfl HM1.out x.cl rfl ?_;rw[if_neg Bool.false_ne_true,zEY t k HE0.out,HZ.out])
    | (at_mapUpdate;refine zDU rfl (.tmp 26) (.tmp 28) (.tmp 29) 145 rfl _ _ zA4 zE1 rfl (by exact HM2.out) x.cl (.agg #[.int .i64 x.dep,.string x.nm,.int .i64 x.kd,.slice a3 x.ats.length cap3,.string x.dat,.int .i64 x.ma,.int .i64 x.mi,.int .i64 x.cl]) rfl rfl ?_;intro W1 hm4 hg4;have HM4:=hQq hm4;have HG4:=hQq hg4;clear hm4 hg4)
    | fail)
   have HEW:Hid (Ext w W1):=hQq (Below.grown HS0.out.ext HG4.out HS0.out.ext.size (fun g hg=>by cases hg;omega));have HB1:=hQq (zAV HG4.out HP0.out (fun e=>by injection e with e;have:=HZ0.out;omega));have HN1:Hid (zAA kI W1 w.heap.size n1 (nzF t k)):=hQq (HM1.out.grown HG4.out (fun e=>by injection e with e;omega));have HKA:=hQq (zLL HM2.out HG4.out);have HF4:Hid (zB0 W1 t (k+1) (upd F2 x.cl (trV x (.slice a3 x.ats.length cap3)))):=hQq (by
    have h:=zB0.new (HF2.out.kc HKA.out) HLT.out HZZ.out (va:=.slice a3 x.ats.length cap3) (by rw[HX.out];exact zGE HVA0.out HKA.out);rw[HX.out]at h;exact h)
   have HVA1:Hid (aA W1 (.slice a3 x.ats.length cap3) x.ats):=hQq (zGE HVA0.out HKA.out);clear HKA HG4 HM1 HM2 HZZ HF2 qz y0 y1 y2 y3 y4 y5 y6 y7;revert HM4;generalize hF4:upd F2 x.cl (trV x (.slice a3 x.ats.length cap3))=F4 at HF4;intro HM4;have HM4:Hid (∃n4,zAA kI W1 (w.heap.size+1) n4 F4):=hQq ⟨_,HM4.out⟩;clear hF4
  case' neg=>
   have qz:((z:Int)==0)=false:=nB (by omega);have HZZ:Hid (0<zAi t (zAa t k).cl k):=hQq (by rw[HX.out,HZ.out];omega);clear hz;go_upto_region 9 with (first
    | (at_lookup;refine zCf rfl (.tmp 21) (.tmp 23) 146 false rfl 3 3 zA4 zAz (.int .i64 0) zB3 rfl HM1.out x.cl rfl ?_;rw[if_neg Bool.false_ne_true,zEY t k HE0.out,HZ.out])
    | fail)
   have HEW:Hid (Ext w W0):=hQq HS0.out.ext;have HB1:=HP0;have HN1:=HM1;have HF4:Hid (zB0 W0 t (k+1) F2):=hQq (HF2.out.old (.inr HZZ.out));have HVA1:=HVA0;clear HM1 HZZ HF2 qz y0 y1 y2 y3 y4 y5 y6 y7;have HM4:Hid (∃n4,zAA kI W0 (w.heap.size+1) n4 F2):=hQq ⟨_,HM2.out⟩;clear HM2;generalize W0=W1 at *;generalize F2=F4 at *
  all_goals
   obtain⟨n4,hm4⟩:=HM4.out;have HM5:=hQq hm4;clear hm4 HM4;obtain⟨vy,hy1,hy2⟩:=HF4.out x.cl HE0.out (by rw[zAi.eq_2,if_pos (by rw[HX.out]),HZ.out];omega);have HBN:Hid (zEm t k=((x.kd==1||x.kd==5)||!zAT (zAa t (zCe t x.cl)) x)):=hQq (by unfold zEm;rw[HX.out,show (x.cl != 0)=true from bne_iff_ne.2 HE0.out,Bool.true_and]);generalize hy:zAa t (zCe t x.cl)=y at hy1 hy2 HBN;obtain⟨a5,cap5,rfl,-⟩:=id hy2;have HY1:=hQq hy1;have HY2:=hQq hy2;have HYE:=hQq hy;clear hy1 hy2 hy;have HYL:Hid (y.ats.length<=1000000):=hQq (by
    obtain⟨f1,-,-⟩:=zAU HLT.out;rw[HX.out,]at f1;have h2:=zAl t (zCe t x.cl) (by have:=HLT.out;omega);rw[HYE.out]at h2;rw[h2];exact HAL.out _ (List.getElem_mem _))
   have y7:=bC HB1.out 7;have y0:=bC HB1.out 0;have y1:=bC HB1.out 1;have y2:=bC HB1.out 2;have y3:=bC HB1.out 3;have y4:=bC HB1.out 4;have y5:=bC HB1.out 5;have y6:=bC HB1.out 6;simp only[List.getElem?_toArray,List.getElem?_cons_succ,List.getElem?_cons_zero]at y0 y1 y2 y3 y4 y5 y6 y7;cases hlb:zPR x.kd
   ·have HR:Hid (zLh t=6):=hQq (zMJ HLT.out (by
     rw[HBN.out];rw[zPQ HKX.out]at hlb;rw[show (x.kd==1||x.kd==5)=true by cases h:(x.kd==1||x.kd==5)<;>simp_all];rfl))
    have HLB:=hQq hlb;clear hlb;go_wp2_with (go_at_call 188;refine(zI3 x.kd _).mono ?_;rw[HLB.out];rintro e W5 ⟨rfl,hb5⟩;have HB5:=hQq hb5;clear hb5)
    try rw[Exit.noGoto_ret]
    go_ret;exact⟨by rw[HR.out];rfl,(Ext.trans HEW.out HB5.out).mono hB,fun h=>absurd (HR.out.symm.trans h) (by decide)⟩
   have HLB:=hQq hlb;clear hlb;have HLK:Hid (∀W,(KcA W1 W)->zAA kI W (w.heap.size+1) n4 F4->(Instr.lookup 145 (.map (some (w.heap.size+1))) (.int .i64 x.cl) false).run Tryz.prog W= .ok (trV y (.slice a5 y.ats.length cap5)) W):=hQq (fun W _ hm=>by
    have:=hm.look zA4 zE1 zKd x.cl false;rw[HY1.out]at this;exact this)
   cases hlk:zAT y x
   ·have HR:Hid (zLh t=6):=hQq (zMJ HLT.out (by rw[HBN.out,hlk];simp));have HLI:=hQq hlk;clear hlk;go_wp2_with (first
     | (go_at_call 188;refine(zI3 x.kd _).mono ?_;rw[HLB.out];rintro e W5 ⟨rfl,hb5⟩;have HB5:=hQq hb5;have HQ5:=hQq (bX hb5 HB1.out);have hlo:=HLK.out W5 (Kc.of_ext hb5) (HM5.out.ext hb5);unfold trV at hlo;have y0:=bC HQ5.out 0;have y1:=bC HQ5.out 1;have y2:=bC HQ5.out 2;have y3:=bC HQ5.out 3;have y4:=bC HQ5.out 4;have y5:=bC HQ5.out 5;have y6:=bC HQ5.out 6;have y7:=bC HQ5.out 7;simp only[List.getElem?_toArray,List.getElem?_cons_succ,List.getElem?_cons_zero]at y0 y1 y2 y3 y4 y5 y6 y7;clear hb5)
     | (go_at_call 184;refine(zGV y x _ _ _ (HY2.out.ext HB5.out) (HVA1.out.ext HB5.out) HYL.out).mono ?_;rw[HLI.out];rintro e W6 ⟨rfl,hb6⟩;have HB6:=hQq (Ext.trans HB5.out hb6);clear hb6)
     | fail)
    try rw[Exit.noGoto_ret]
    go_ret;exact⟨by rw[HR.out];rfl,(Ext.trans HEW.out HB6.out).mono hB,fun h=>absurd (HR.out.symm.trans h) (by decide)⟩
   ·have HBF:Hid (zEm t k=false):=hQq (by
     rw[HBN.out,hlk];have h:=HLB.out;rw[zPQ HKX.out]at h;cases h2:(x.kd==1||x.kd==5)
     ·rfl
     ·rw[h2]at h;cases h)
    have HLI:=hQq hlk;clear hlk;have jw:IntKind.i64.wrap ((z:Int)+1)=(z:Int)+1:=IntWalk.i64_in _ (by omega);go_wp2_with (first
     | (go_at_call 188;refine(zI3 x.kd _).mono ?_;rw[HLB.out];rintro e W5 ⟨rfl,hb5⟩;have HB5:=hQq hb5;have HQ5:=hQq (bX hb5 HB1.out);have hlo:=HLK.out W5 (Kc.of_ext hb5) (HM5.out.ext hb5);unfold trV at hlo;have y0:=bC HQ5.out 0;have y1:=bC HQ5.out 1;have y2:=bC HQ5.out 2;have y3:=bC HQ5.out 3;have y4:=bC HQ5.out 4;have y5:=bC HQ5.out 5;have y6:=bC HQ5.out 6;have y7:=bC HQ5.out 7;simp only[List.getElem?_toArray,List.getElem?_cons_succ,List.getElem?_cons_zero]at y0 y1 y2 y3 y4 y5 y6 y7;clear hb5)
     | (go_at_call 184;refine(zGV y x _ _ _ (HY2.out.ext HB5.out) (HVA1.out.ext HB5.out) HYL.out).mono ?_;rw[HLI.out];rintro e W6 ⟨rfl,hb6⟩;have HB6:=hQq (Ext.trans HB5.out hb6);have HQ6:=hQq (bX hb6 HQ5.out);have y7:=bC HQ6.out 7;simp only[List.getElem?_toArray,List.getElem?_cons_succ,List.getElem?_cons_zero]at y7;clear hb6)
     | (at_lookup;refine zCf rfl (.tmp 43) (.tmp 45) 146 false rfl 3 3 zA4 zAz (.int .i64 0) zB3 rfl (HN1.out.ext HB6.out) x.cl rfl ?_;rw[if_neg Bool.false_ne_true,zEY t k HE0.out,HZ.out])
     | (at_mapUpdate;refine zDU rfl (.tmp 43) (.tmp 45) (.tmp 47) 146 rfl _ _ zA4 zAz rfl (by exact HN1.out.ext HB6.out) x.cl (.int .i64 ((z:Int)+1)) rfl rfl ?_;intro W7 hm7 hg7;have HM7:=hQq hm7;have HG7:=hQq hg7;clear hm7 hg7)
     | fail)
    have HE7:Hid (Ext w W7):=hQq (Below.grown (Ext.trans HEW.out HB6.out) HG7.out (Ext.trans HEW.out HB6.out).size (fun g hg=>by cases hg;exact Nat.le_refl _));have HKA7:=hQq (zLL (HN1.out.ext HB6.out) HG7.out);go_roundw
    case rel=>exact⟨_,k+1,rfl,by omega,by go_num,HE7.out,⟨_,by rw[zSb (by rw[HX.out];exact HE0.out),HX.out,HZ.out];exact HM7.out⟩,⟨n4,F4,(HM5.out.ext HB6.out).grown HG7.out (fun e=>by injection e with e;omega),(HF4.out.ext HB6.out).kc HKA7.out⟩,fun i hi=>by
     by_cases e:i<k
     ·exact HS.out.bad i e
     ·obtain rfl:i=k:=by omega
      exact HBF.out⟩
    case measure=>simp[intOf]<;>omega
theorem zEs (B:Nat)(w:World)(v:Value)(t:List TrN)(ht:zCa B w v t)(hB:B<=w.heap.size)(hsm:zAI t):
  Calls Tryz.prog 87 #[v] w (zRD w (zA5 t)):=by
 obtain⟨aa,cap,rfl⟩:=ht.form;have HV:=hQq ht;have HSM:=hQq hsm;clear ht hsm;by_cases hl:120<t.length
 ·have HR:=hQq (zF9 hl);have q1:decide ((120:Int)<(t.length:Int))=true:=decide_eq_true (by omega);go_enter Tryz.func87,Tryz.ntmps87;go_wp2;go_ret2;exact zDo HR.out (bR _ _)
 have HL:=hQq hl;have hl2:t.length<=120:=by omega
 have q1:decide ((120:Int)<(t.length:Int))=false:=decide_eq_false (by omega);clear hl;go_enter Tryz.func87,Tryz.ntmps87;go_wp2_with (go_at_call 151;refine(zMt B _ t w HV.out hB (by omega)).mono ?_;rintro e w1 ⟨⟨a6,cap6,rfl,ho,hf⟩,hb1⟩;have HO:=hQq ho;have HF:=hQq hf;have HB1:=hQq hb1;clear ho hf hb1)
 go_loopw [17] (fun i w'=>∃(wi:World) (k:Nat),wi=w'/\k<=t.length/\i= .int .i64 k/\zAg cdT B wi (.slice a6 t.length cap6) (zJ8 (fun _=>0) t k)/\Ext w wi) (fun i _=>t.length-(intOf i).toNat)
 case atStart=>exact⟨_,0,rfl,Nat.zero_le _,rfl,HO.out,HB1.out⟩
 case round=>
  clear HO HB1;obtain⟨wi,k,rfl,hk,rfl,ho,hE⟩:=hrel;have HO:=hQq ho;have HE:=hQq hE;clear hE;by_cases hlt:k<t.length
  case neg=>
   obtain rfl:k=t.length:=by omega
   clear ho;have HP:Hid (zCa B wi (.slice a6 t.length cap6) (t.map (clM fun _=>0))):=hQq (by have h:=HO.out.in okT;rw[zJu]at h;exact h);clear HO;have HSP:Hid (zAI (t.map (clM fun _=>0))):=hQq (zKl HSM.out);have HTL:Hid ((t.map (clM fun _=>0)).length=t.length):=hQq (List.length_map ..);have HC:Hid (∀W,Ext wi W->zAs Tryz.prog 63 #[.slice a6 t.length cap6] W (.tuple #[.int .i64 (zFc (t.map (clM fun _=>0))),.int .i64 (zAt (t.map (clM fun _=>0)))])):=hQq (fun W he=>zC7 B _ _ _ (HP.out.ext okT he) HSP.out);by_cases h2:zAt (t.map (clM fun _=>0))=0
   case neg=>
    have HR:=hQq (zHh HL.out h2);have q2:(zAt (t.map (clM fun _=>0)) != 0)=true:=bne_iff_ne.2 h2;clear h2;generalize zAt (t.map (clM fun _=>0))=ee at *;go_wp2_with (go_at_call 63;refine(HC.out wi (bR _ _)).mono ?_;rintro e w5 ⟨rfl,hb5⟩;have HB5:Hid (Ext w w5):=hQq (HE.out.trans hb5);clear hb5)
    go_ret2;exact zDo HR.out HB5.out
   have q2:(zAt (t.map (clM fun _=>0)) != 0)=false:=bne_eq_false_iff_eq.2 h2;have HZ:Hid (¬zAt (t.map (clM fun _=>0))≠0):=hQq (by rw[h2];omega);have HKD:Hid (∀x∈t,1<=x.kd/\x.kd<=5):=hQq (fun x hx=>by
    obtain⟨i,hi,rfl⟩:=List.getElem_of_mem hx;have h3:=(zAf h2).2.2.1 i (by rw[List.length_map];exact hi);obtain⟨_,_,h5,_⟩:=zAd h3;rw[zAl _ i (by rw[List.length_map];exact hi),List.getElem_map]at h5;exact zP1 (x:=t[i]) h5)
   have HAL:Hid (∀x∈t,x.ats.length<=1000):=hQq (fun x hx=>by
    obtain⟨i,hi,rfl⟩:=List.getElem_of_mem hx;have h3:=(zAf h2).2.2.1 i (by rw[List.length_map];exact hi);obtain⟨_,_,_,h5,_⟩:=zAd h3;rw[zAl _ i (by rw[List.length_map];exact hi),List.getElem_map]at h5;exact zS2 (l:=t[i].ats) h5)
   clear h2;have q3:((0:Int) != 0)=false:=rfl;cases h3:(zLh t != 0)
   all_goals
    have H3:=hQq h3;go_wp2_with (first
     | (go_at_call 63;refine(HC.out wi (bR _ _)).mono ?_;rintro e w5 ⟨rfl,hb5⟩;have HB5:Hid (Ext w w5):=hQq (HE.out.trans hb5);clear hb5)
     | (go_at_call 152;refine(zOX B _ _ t (HV.out.ext okT HB5.out) (Nat.le_trans hB HB5.out.size) (by omega) HAL.out).mono ?_;rintro e w6 ⟨⟨a7,cap7,rfl,ho6⟩,hb6⟩;have HO6:=hQq ho6;have HB6:Hid (Ext w w6):=hQq (HB5.out.trans hb6);have HS6:=hQq (HB5.out.size);have HS7:=hQq hb6.size;clear ho6 hb6)
     | (go_at_call 153;refine(zNZ w5.heap.size _ _ t HO6.out HS7.out (by omega) HKD.out (fun x hx=>Nat.le_trans (HAL.out x hx) (by omega))).mono ?_;rintro e w7 ⟨rfl,hb7,hok⟩;have HB75:Hid (w5.heap.size<=w7.heap.size):=hQq (Nat.le_trans HS7.out hb7.size);have HB7:Hid (Below w.heap.size w w7):=hQq (Below.trans HB6.out (hb7.mono HS6.out));have HOK:=hQq hok;clear hb7 hok)
     | fail)
    go_ret2
   ·have hz:zLh t=0:=by simpa using H3.out
    refine⟨⟨a7,cap7,w5.heap.size,?_,HS6.out,HB75.out,?_⟩,HB7.out⟩
    ·rw[zL1 HL.out HZ.out hz];rw[show (zCr t).length=t.length from List.length_map ..];rfl
    ·rw[zL1 HL.out HZ.out hz];rw[show (zCr t).length=t.length from List.length_map ..];exact HOK.out hz
   ·have hz:zLh t≠0:=by simpa using H3.out
    obtain⟨r1,r2⟩:=zNv HL.out HZ.out hz;rw[r2];exact zDo r1 HB7.out
  have k1:((k:Nat):Int)<(t.length:Int):=by omega
  have k0:(0:Int)<=(k:Int):=by omega
  obtain⟨g,rfl,hg1,hg2,-⟩:=ho.addr (by rw[zD1];omega);have f5:∀j,wi.frozen? ⟨g,j,none⟩=false:=fun j=>ho.frozen j;obtain⟨b,off,va,hex,hbx,hva,c0,c1,c2,c3,c4,c5,c6,c7⟩:=(ho.in okT).tr k (by rw[zD1];exact hlt);cases hex;rw[Nat.zero_add]at c7;have HLT:=hQq hlt;clear c0 c1 c2 c3 c4 c5 c6 hva ho;go_wp2;obtain⟨u1,u2⟩:=zDL HO.out HLT.out;go_roundw
  case rel=>exact⟨_,k+1,rfl,by omega,by go_num,u1,Below.grown HE.out u2 HE.out.size (fun q e=>by injection e with e;subst e;exact HF.out _ rfl)⟩
  case measure=>simp[intOf]<;>omega
theorem zUD (w:World)(n:Nat)(hn:n<=1000000):
  Calls Tryz.prog 207 #[.slice none 0 0,.int .i64 n] w (fun e w'=>∃a cap,e= .returned (.slice a 0 cap)/\zAg cdT w.heap.size w' (.slice a 0 cap) []/\Ext w w'):=by
 have h1:¬((n:Int)<0):=by omega
 have h2:IntKind.i64.wrap ((n:Int)-0)=(n:Int):=by rw[IntKind.wrap_i64];omega
 have h2':IntKind.i64.wrap (n:Int)=(n:Int):=by rw[IntKind.wrap_i64];omega
 by_cases h0:n=0
 ·subst h0;go_enter Tryz.func207,Tryz.ntmps207;go_wp2;go_ret;exact⟨_,_,rfl,zAg.nil _ _ _,bR _ _⟩
 have h3:(0:Int)<(n:Int):=by omega
 obtain⟨i0,hi0,hz0,hzs',hzb'⟩:=okT.sl.info;have hzs:i0.size=8:=hzs';have hzb:i0.bytes=96:=hzb';clear hzs' hzb';have hold:(Builtin.firstCells i0.size 0 (.slice none 0 0)).run Tryz.prog w.drew= .ok ([]:List Value).toArray w.drew:=run_firstCells_none w.drew i0.size 0 0 0;have hrz:∀ty,(Builtin.append_ #[33,3] ty #[.slice none 0 0,.int .i64 (n:Int)]).run Tryz.prog w =
   .ok (.slice (some ⟨w.heap.size,0,none⟩) n (grownCap w n 0 59)) (w.drew.alloc (.cells (([]:List Value).toArray++Builtin.zeroCells cdT.z.cells n++Builtin.zeroCells cdT.z.cells (grownCap w n 0 59-n)) 59)):=fun ty=>by
  have h:=Lib.run_append_grow_zeros w 33 3 ty 59 i0 _ .i64 .i64 Tryz.underlying33 Tryz.underlying3 hi0 hz0 none 0 0 [] hold n (by omega) (by rw[hzs];omega) (by omega) (by omega) (by rw[hzb];omega) (by rw[hzb,Nat.zero_add];exact growslice_fits (by omega) (by omega));rw[Nat.zero_add]at h;exact h
 obtain⟨G,hG⟩:∃G,G=grownCap w n 0 59:=⟨_,rfl⟩;obtain⟨ROW,hROW⟩:∃ROW:Array Value,ROW=([]:List Value).toArray++Builtin.zeroCells cdT.z.cells n++Builtin.zeroCells cdT.z.cells (G-n):=⟨_,rfl⟩;rw[<- hG]at hrz;rw[<- hROW]at hrz;have hGn:n<=G:=by rw[hG];exact grownCap_ge w _ _ _
 have hGm:G<=maxLen:=by rw[hG];exact grownCap_le_maxLen w n 0 59 (by unfold maxLen;omega)
 have hG63:G<=9223372036854775807:=by unfold maxLen at hGm;omega
 have hRl:ROW.size=G*8:=by
  rw[hROW];simp[Builtin.zeroCells,Value.cells,cdT];omega
 have HOK:Hid (zAg cdT w.heap.size (w.drew.alloc (.cells ROW 59)) (.slice (some ⟨w.heap.size,0,none⟩) 0 G) []):=hQq (by
  refine⟨[],rfl,fun k hk=>absurd hk (by simp),?_,.inr ⟨w.heap.size,G,ROW,rfl,Nat.le_refl _,bN w.drew _,Nat.zero_le _,hGm,hRl,by simp⟩⟩;simp)
 clear hROW hG hold hRl;go_enter Tryz.func207,Tryz.ntmps207;go_wp2_with (at_builtin;refine Lib.wpList_append_run _ rfl _ _ _ _ rfl _ _ rfl rfl _ _ (hrz _) ?_)
 go_ret;exact⟨_,_,rfl,HOK.out,(bR _ _).drew.alloc (Nat.le_refl _) _⟩
theorem zKn (B:Nat)(w:World)(g:Nat)(v1 v2:Value)(l1 l2:List TrN)(hg:w.heap[g]? = some (.cells #[v1,v2] 33 (0,0)))(h1:zCa B w v1 l1)(h2:zCa B w v2 l2)(hB:B<=w.heap.size)(hl1:l1.length<=1000)(hl2:l2.length<=1000):
  Calls Tryz.prog 175 #[.slice (some ⟨g,0,none⟩) 2 2] w (fun e w'=>∃a cap,e= .returned (.slice a (l1++l2).length cap)/\zAg cdT w.heap.size w' (.slice a (l1++l2).length cap) (l1++l2)/\Ext w w'):=by
 obtain⟨a1,c1,rfl⟩:=h1.form;obtain⟨a2,c2,rfl⟩:=h2.form;have HG:=hQq hg;have H1:=hQq h1;have H2:=hQq h2;have p0:w.cell? ⟨g,0,none⟩=some (.slice a1 l1.length c1):=bC hg 0;have p1:w.cell? ⟨g,1,none⟩=some (.slice a2 l2.length c2):=bC hg 1;have z0:=bL hg;clear hg h1 h2;go_enter Tryz.func175,Tryz.ntmps175;go_wp2;go_loopw [3,11] (fun q i w'=>∃(wi:World) (k:Nat),wi=w'/\k<=2/\i= .int .i64 k/\q= .int .i64 ((ccL l1 l2 k).length:Nat)/\Ext w wi) (fun _ i _=>2-(intOf i).toNat)
 case atStart=>exact⟨_,0,rfl,by omega,rfl,rfl,bR _ _⟩
 case round=>
  clear p0 p1 z0;obtain⟨wi,k,rfl,hk,rfl,rfl,hE⟩:=hrel;have HE:=hQq hE;have r:=bX hE HG.out;have p0:=bC r 0;have p1:=bC r 1;have z0:=bL r;clear hE r;rcases(show k=0\/k=1\/k=2 by omega)with rfl|rfl|rfl
  ·have HC:Hid ((ccL l1 l2 1).length=l1.length):=hQq rfl;have hC0:(ccL l1 l2 0).length=0:=rfl;go_wp2;go_roundw
   case rel=>exact⟨_,1,rfl,by omega,rfl,by first|(rw[HC.out];done)|(rw[HC.out];go_num)|(rw[HC.out];rfl),HE.out⟩
   case measure=>simp[intOf]<;>omega
  ·have HC:Hid ((ccL l1 l2 2).length=l1.length+l2.length):=hQq (List.length_append ..);have hC0:(ccL l1 l2 1).length=l1.length:=rfl;go_wp2;go_roundw
   case rel=>exact⟨_,2,rfl,by omega,rfl,by first|(rw[HC.out];done)|(rw[HC.out];go_num)|(rw[HC.out];rfl),HE.out⟩
   case measure=>simp[intOf]<;>omega
  ·have hC0:(ccL l1 l2 2).length=l1.length+l2.length:=List.length_append ..;rw[hC0];clear hC0;have HGR:=hQq (zUD wi (l1.length+l2.length) (by omega));go_wp2_with (go_at_call 207;refine HGR.out.mono ?_;rintro e w2 ⟨ag,cg,rfl,ho,hb2⟩;have HO:=hQq ho;have HB2:=hQq (HE.out.trans hb2);have HBS:=hQq hb2.size;clear ho hb2 p0 p1 z0)
   have HO2:Hid (zAg cdT w.heap.size w2 (.slice ag 0 cg) (ccL l1 l2 0)):=hQq (zAg.le (l:=[]) (B':=w.heap.size) HO.out okT (fun i h=>absurd h (by simp)) HE.out.size);clear HO;go_loopw [6,27] (fun q i w'=>∃(wj:World) (k:Nat),wj=w'/\k<=2/\i= .int .i64 k/\zAg cdT w.heap.size wj q (ccL l1 l2 k)/\Ext w wj) (fun _ i _=>2-(intOf i).toNat)
   case atStart=>exact⟨_,0,rfl,by omega,rfl,HO2.out,HB2.out⟩
   case round=>
    clear HO2 HB2 HBS HGR HE;obtain⟨wj,k,rfl,hk,rfl,ho,hE⟩:=hrel;have HE:=hQq hE;have HO:=hQq ho;have r:=bX hE HG.out;have p0:=bC r 0;have p1:=bC r 1;have z0:=bL r;obtain⟨a9,c9,rfl⟩:=ho.form;clear hE r ho;rcases(show k=0\/k=1\/k=2 by omega)with rfl|rfl|rfl
    ·rw[show (ccL l1 l2 0).length=0 from rfl]at HO ⊢;go_wp2_with (at_builtin;refine zIX okT rfl (.tmp 31) (.tmp 32) rfl _ _ [] l1 w _ rfl rfl HO.out ((H1.out.ext okT HE.out).mono okT hB) HE.out HE.out.size (by simp;omega) ?_;intro v3 w3 ha;have HA:=hQq ha;clear ha)
     go_roundw
     case rel=>exact⟨_,1,rfl,by omega,rfl,HA.out.own,HA.out.below⟩
     case measure=>simp[intOf]<;>omega
    ·rw[show (ccL l1 l2 1).length=l1.length from rfl]at HO ⊢;go_wp2_with (at_builtin;refine zIX okT rfl (.tmp 31) (.tmp 32) rfl _ _ l1 l2 w _ rfl rfl HO.out ((H2.out.ext okT HE.out).mono okT hB) HE.out HE.out.size (by omega) ?_;intro v3 w3 ha;have HA:=hQq ha;clear ha)
     go_roundw
     case rel=>exact⟨_,2,rfl,by omega,rfl,HA.out.own,HA.out.below⟩
     case measure=>simp[intOf]<;>omega
    ·rw[show (ccL l1 l2 2).length=(l1++l2).length from rfl]at HO ⊢;go_wp2;go_ret;exact⟨_,_,rfl,HO.out,HE.out⟩
end Go.Proofs.YtbeeoomadnmogaaGreat
