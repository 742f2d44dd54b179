/- AttrA AttrC AttrR EscQ AfN AfK -/
import Derived.Test.YtbeeoomadnmogaaGreatQI0
import Derived.Test.YtbeeoomadnmogaaGreatQBase
set_option maxRecDepth 100000
set_option maxHeartbeats 64000000
namespace Go.Proofs.YtbeeoomadnmogaaGreat
open Go.RowKit
theorem zK9 (c:Int)(w:World):Ret Tryz.prog 213 #[.int .i32 c] w (.bool (zL6 c)):=by
 unfold Ret;by_cases h1:c<33
 ·go_enter Tryz.func213,Tryz.ntmps213;go_wp2;go_ret;exact⟨by simp[zL6,h1],rfl⟩
 ·have h3:decide (126<c)=zL6 c:=by rw[Bool.eq_iff_iff];simp[zL6];omega
  have h4:decide (c<33)=false:=decide_eq_false h1;rw[<- h3];clear h3;by_cases h2:126<c
  ·go_enter Tryz.func213,Tryz.ntmps213;go_wp2;go_ret;exact⟨by simp,rfl⟩
  ·go_enter Tryz.func213,Tryz.ntmps213;go_wp2;go_ret;exact⟨by simp[h2],rfl⟩
theorem zQ8:zLb 213 zL6 where
 enter:=by intro a w;kernel_rfl
 ret:=zK9;high:=by intro c h;simp[zL6];omega
theorem zH6 (s:ByteArray)(w:World)(hs:s.size<=1000000):zAs Tryz.prog 193 #[.string s] w (.int .i64 (zHI (L s))):=by
 unfold zAs;by_cases h0:L s= []
 ·rw[zM1 h0];have h1:s.toList.isEmpty=true:=by rw[tL,h0];rfl
  clear h0;go_enter Tryz.func193,Tryz.ntmps193;go_wp2;go_ret;exact⟨rfl,bR _ _⟩
 have h1:s.toList.isEmpty=false:=by rw[tL];simpa using h0
 cases hb:(L s).any (pB zL6)
 ·by_cases hl:40<s.size
  ·rw[zKF h0 hb (by rw[<- zAG];exact hl)];clear h0;go_enter Tryz.func193,Tryz.ntmps193;go_wp2_with (go_at_call 161;refine(zCg _ _ zQ8 s w).mono ?_;rintro e w' ⟨rfl,hx⟩)
   go_ret;exact⟨rfl,hx⟩
  ·rw[zP5 h0 hb (by rw[<- zAG];exact hl)];clear h0;go_enter Tryz.func193,Tryz.ntmps193;go_wp2_with (go_at_call 161;refine(zCg _ _ zQ8 s w).mono ?_;rintro e w' ⟨rfl,hx⟩)
   go_ret;exact⟨rfl,hx⟩
 ·rw[zM2 hb];clear h0;go_enter Tryz.func193,Tryz.ntmps193;go_wp2_with (go_at_call 161;refine(zCg _ _ zQ8 s w).mono ?_;rintro e w' ⟨rfl,hx⟩)
  go_ret;exact⟨rfl,hx⟩
theorem zPh (s:ByteArray)(w:World)(hs:s.size<=1000000):Ret Tryz.prog 189 #[.string s] w (.int .i64 (zHI (L s))):=by
 unfold Ret;go_enter Tryz.func189,Tryz.ntmps189;go_wp2;go_loop [3] (fun i=>∃k:Nat,k<=s.size/\i= .int .i64 k/\((L s).take k).any (pB zL6)=false) (fun i=>s.size-(intOf i).toNat)
 case atStart=>exact⟨0,Nat.zero_le _,rfl,by simp⟩
 case round=>
  obtain⟨k,hk,rfl,hb⟩:=hrel;have HB:=hQq hb;clear hb;by_cases hlt:k<s.size
  ·cases hb:pB zL6 (s[k]'hlt)
   ·have HN2:=hQq (zC2 zL6 s k hlt HB.out hb);clear HB;rw[zNE]at hb;simp only[Bool.or_eq_false_iff,decide_eq_false_iff_not]at hb;obtain⟨ha,hb⟩:=hb;go_wp2;go_round
    case rel=>exact⟨k+1,by omega,by go_num,HN2.out⟩
    case measure=>simp[intOf];omega
   ·have HN2:=hQq (zM2 (List.any_eq_true.2 ⟨s[k]'hlt,by rw[zEG];exact List.getElem_mem _,hb⟩));clear HB;rw[zNE]at hb;simp only[Bool.or_eq_true,decide_eq_true_eq]at hb;by_cases ha:(s[k].toNat:Int)<33
    ·clear hb;go_wp2;go_ret;exact⟨by rw[HN2.out];rfl,rfl⟩
    ·have hd:126<(s[k].toNat:Int):=by simpa [ha] using hb
     clear hb;go_wp2;go_ret;exact⟨by rw[HN2.out];rfl,rfl⟩
  ·have hb:=HB.out;rw[List.take_of_length_le (by rw[<- zAG];omega)]at hb;by_cases h0:L s= []
   ·have HN2:=hQq (zM1 h0);have h1:s.toList.isEmpty=true:=by rw[tL,h0];rfl
    clear hb HB h0;go_wp2;go_ret;exact⟨by rw[HN2.out];rfl,rfl⟩
   have h1:s.toList.isEmpty=false:=by rw[tL];simpa using h0
   by_cases hl:40<s.size
   ·have HN2:=hQq (zKF h0 hb (by rw[<- zAG];exact hl));clear hb HB h0;go_wp2;go_ret;exact⟨by rw[HN2.out];rfl,rfl⟩
   ·have HN2:=hQq (zP5 h0 hb (by rw[<- zAG];exact hl));clear hb HB h0;go_wp2;go_ret;exact⟨by rw[HN2.out];rfl,rfl⟩
theorem zIW (a:zAq)(w:World)(hs:a.1.size<=1000000):zAs Tryz.prog 159 #[.agg #[.string a.1,.string a.2]] w (.int .i64 (zA7 a)):=by
 unfold zAs;by_cases h:zHI (L a.1)=0
 ·by_cases hl:200<a.2.size
  ·rw[show zA7 a=3 by unfold zA7;rw[if_neg (by simpa using h),if_pos hl]];go_enter Tryz.func159,Tryz.ntmps159;go_wp2_with (go_at_call 193;refine(zH6 _ _ hs).mono ?_;rintro e w' ⟨rfl,hb⟩;obtain⟨hc,hf⟩:=zFe hb)
   go_ret;exact⟨rfl,(eA _ _).trans hb⟩
  ·rw[show zA7 a=0 by unfold zA7;rw[if_neg (by simpa using h),if_neg hl]];go_enter Tryz.func159,Tryz.ntmps159;go_wp2_with (go_at_call 193;refine(zH6 _ _ hs).mono ?_;rintro e w' ⟨rfl,hb⟩;obtain⟨hc,hf⟩:=zFe hb)
   go_ret;exact⟨rfl,(eA _ _).trans hb⟩
 ·rw[show zA7 a=zHI (L a.1) by unfold zA7;rw[if_pos h]];have h1:(zHI (L a.1) != 0)=true:=bne_iff_ne.2 h;clear h;go_enter Tryz.func159,Tryz.ntmps159;go_wp2_with (go_at_call 193;refine(zH6 _ _ hs).mono ?_;rintro e w' ⟨rfl,hb⟩;obtain⟨hc,hf⟩:=zFe hb)
  go_ret;exact⟨rfl,(eA _ _).trans hb⟩
theorem zMz (a:zAq)(w:World)(hs:a.1.size<=1000000):zAs Tryz.prog 154 #[.agg #[.string a.1,.string a.2]] w (.int .i64 (zA7 a)):=by
 unfold zAs;by_cases h:zHI (L a.1)=0
 ·by_cases hl:200<a.2.size
  ·rw[show zA7 a=3 by unfold zA7;rw[if_neg (by simpa using h),if_pos hl]];go_enter Tryz.func154,Tryz.ntmps154;go_wp2_with (go_at_call 189;refine(zPh _ _ hs).mono ?_;rintro e w' ⟨rfl,rfl⟩)
   go_ret;exact⟨rfl,eA _ _⟩
  ·rw[show zA7 a=0 by unfold zA7;rw[if_neg (by simpa using h),if_neg hl]];go_enter Tryz.func154,Tryz.ntmps154;go_wp2_with (go_at_call 189;refine(zPh _ _ hs).mono ?_;rintro e w' ⟨rfl,rfl⟩)
   go_ret;exact⟨rfl,eA _ _⟩
 ·rw[show zA7 a=zHI (L a.1) by unfold zA7;rw[if_pos h]];have h1:(zHI (L a.1)==0)=false:=nB h;clear h;go_enter Tryz.func154,Tryz.ntmps154;go_wp2_with (go_at_call 189;refine(zPh _ _ hs).mono ?_;rintro e w' ⟨rfl,rfl⟩)
  go_ret;exact⟨rfl,eA _ _⟩
theorem zQK (s:ByteArray)(w:World):Ret Tryz.prog 165 #[.string s] w (.bool false):=by
 unfold Ret;go_enter Tryz.func165,Tryz.ntmps165;go_wp2;go_ret;exact⟨by simp,rfl⟩
theorem zE8 (a b:ByteArray)(w:World):Ret Tryz.prog 113 #[.string a,.string b] w (.int .i64 (zKb (L a) (L b))):=by
 unfold Ret;by_cases h:L a<L b
 ·rw[show zKb (L a) (L b)= -1 from if_pos h];have e1:=zEP h;clear h;go_enter Tryz.func113,Tryz.ntmps113;go_wp2_with (go_at_call 165;refine(zQK _ _).mono ?_;rintro e w' ⟨rfl,rfl⟩)
  go_ret;exact⟨rfl,rfl⟩
 ·have e1:=zD7 h;by_cases h2:L b<L a
  ·rw[show zKb (L a) (L b)=1 from(if_neg h).trans (if_pos h2)];have e2:(a.toList==b.toList)=false:=by
    rw[tL,tL];rw[beq_eq_false_iff_ne];intro e;rw[e]at h2;exact absurd h2 (List.lt_irrefl _)
   clear h h2;go_enter Tryz.func113,Tryz.ntmps113;go_wp2_with (go_at_call 165;refine(zQK _ _).mono ?_;rintro e w' ⟨rfl,rfl⟩)
   go_ret;exact⟨rfl,rfl⟩
  ·rw[show zKb (L a) (L b)=0 from(if_neg h).trans (if_neg h2)];have e2:(a.toList==b.toList)=true:=by
    rw[tL,tL];rw[beq_iff_eq];rcases Std.lt_trichotomy (L a) (L b)with x|x|x
    ·exact absurd x h
    ·exact x
    ·exact absurd x h2
   clear h h2;go_enter Tryz.func113,Tryz.ntmps113;go_wp2_with (go_at_call 165;refine(zQK _ _).mono ?_;rintro e w' ⟨rfl,rfl⟩)
   go_ret;exact⟨rfl,rfl⟩
theorem zNG (v:Value)(l:List zAq)(w:World)(hv:aA w v l)(hl:l.length<=6)(hm:∀a∈l,a.1.size<=1000000/\a.2.size<=1000000):
  zAs Tryz.prog 160 #[v] w (.tuple (if 288<zBv l then #[.slice none 0 0,.int .i64 5]else #[v,.int .i64 0])):=by
 unfold zAs;have HV:=hQq hv;have HM:=hQq hm;clear hm;obtain⟨a,cap,rfl,hcap,hc⟩:=hv;clear hc;by_cases h:288<zBv l
 ·rw[if_pos h];go_enter Tryz.func160,Tryz.ntmps160;go_wp2_with (go_at_call 194;refine(zIV _ l _ HV.out (by omega) HM.out).mono ?_;rintro e w' ⟨⟨a2,cap2,rfl⟩,hb⟩)
  go_ret2;exact⟨rfl,hb⟩
 ·rw[if_neg h];go_enter Tryz.func160,Tryz.ntmps160;go_wp2_with (go_at_call 194;refine(zIV _ l _ HV.out (by omega) HM.out).mono ?_;rintro e w' ⟨⟨a2,cap2,rfl⟩,hb⟩)
  go_ret2;exact⟨rfl,hb⟩
theorem zC6 (v:Value)(l:List zAq)(w:World)(hv:aA w v l)(hm:∀a∈l,a.1.size<=1000000/\a.2.size<=1000000):
  zAs Tryz.prog 104 #[v] w (.int .i64 (zBS l)):=by
 unfold zAs;have HV:=hQq hv;have HM:=hQq hm;clear hm;obtain⟨a,cap,rfl,hcap,hc⟩:=hv;have HC:=hQq hc;clear hc;by_cases hl:6<l.length
 ·rw[zNr hl];go_enter Tryz.func104,Tryz.ntmps104;go_wp2;go_ret;exact⟨rfl,bR _ _⟩
 go_enter Tryz.func104,Tryz.ntmps104;go_wp2;go_loopw [16] (fun i w'=>∃k:Nat,k<=l.length/\i= .int .i64 k/\zBQ (l.take k)=0/\Below w.heap.size w w') (fun i _=>l.length-(intOf i).toNat)
 case atStart=>exact⟨0,Nat.zero_le _,rfl,rfl,bR _ _⟩
 case round=>
  rename_i wr
  obtain⟨k,hk,rfl,hf,hb⟩:=hrel;have HF:=hQq hf;clear hf;by_cases hlt:k<l.length
  ·obtain⟨bb,off,rfl,hbs,c1,c2⟩:=HC.out k hlt;obtain⟨m1,m2⟩:=HM.out _ (List.getElem_mem hlt);replace c1:=(eC hb hbs).trans c1;replace c2:=(eC hb hbs).trans c2;have HB:=hQq hb;clear hb;by_cases ha:zA7 (l[k]'hlt)=0
   ·have HN:=hQq (zHO l k hlt HF.out ha);generalize l[k]'hlt=x at c1 c2 m1 m2 ha;go_wp2_with (go_at_call 159;refine(zIW x _ m1).mono ?_;rintro e w' ⟨rfl,hb2⟩;have HB2:=hQq hb2;clear hb2)
    go_roundw
    case rel=>exact⟨k+1,by omega,by go_num,HN.out,Ext.trans HB.out (Ext.trans (eA _ _) HB2.out)⟩
    case measure=>simp[intOf];omega
   ·have HN:=hQq ((zKY hl (by rw[zE4 l k hlt HF.out ha];exact ha)).trans (zE4 l k hlt HF.out ha));have ha1:(zA7 (l[k]'hlt) != 0)=true:=bne_iff_ne.2 ha;clear ha;generalize l[k]'hlt=x at c1 c2 m1 m2 ha1 HN;go_wp2_with (go_at_call 159;refine(zIW x _ m1).mono ?_;rintro e w' ⟨rfl,hb2⟩;have HB2:=hQq hb2;clear hb2)
    go_ret;exact⟨by rw[HN.out];rfl,Ext.trans HB.out (Ext.trans (eA _ _) HB2.out)⟩
  ·have hf:=HF.out;rw[List.take_of_length_le (by omega)]at hf;have HF1:=hQq hf;clear hf HF;have HB:=hQq hb;clear hb;go_wp2;go_loopw [6,28] (fun s i w'=>∃(wq:World) (k:Nat) (o:Int),wq=w'/\k<=l.length/\s= .int .i64 o/\i= .int .i64 k/\zFf l k 0 o/\Below w.heap.size w w') (fun _ i _=>l.length-(intOf i).toNat)
   case atStart=>exact⟨_,0,0,rfl,Nat.zero_le _,rfl,rfl,zFf.start l,HB.out⟩
   case round=>
    obtain⟨wq,k,o,rfl,hk,rfl,rfl,hord,hb⟩:=hrel;have HO:=hQq hord;clear hord;by_cases hlt:k<l.length
    ·obtain⟨bb,off,rfl,hbs,c1,c2⟩:=HC.out k hlt;replace c1:=(eC hb hbs).trans c1;replace c2:=(eC hb hbs).trans c2;have HB1:=hQq hb;clear hb;have hnm:=zIG l k hlt;generalize l[k]'hlt=x at c1 c2 hnm;have HX:=hQq hnm;clear hnm;go_wp2;go_loopw [6,37] (fun s i w'=>∃(wi:World) (m:Nat) (o:Int),wi=w'/\m<=k/\s= .int .i64 o/\i= .int .i64 m/\zFf l k m o/\Ext (wq.alloc (.cells #[.string x.1,.string x.2] 57)) w') (fun _ i _=>k-(intOf i).toNat)
     case atStart=>exact⟨_,0,o,rfl,Nat.zero_le _,rfl,rfl,HO.out,bR _ _⟩
     case round=>
      clear c1 c2;obtain⟨wi,m,o2,rfl,hm,rfl,rfl,hord,hb⟩:=hrel;have HO2:=hQq hord;clear hord;have hbw:Below w.heap.size w wi:=Ext.trans HB1.out (Ext.trans (eA _ _) hb);have x1:wi.cell? ⟨wq.heap.size,0,none⟩=some (.string x.1):=bC (bX hb (bN wq _)) 0;have x2:wi.cell? ⟨wq.heap.size,1,none⟩=some (.string x.2):=bC (bX hb (bN wq _)) 1;have hxl:wq.heap.size<wi.heap.size:=bL (bX hb (bN wq _));have HB2:=hQq hb;clear hb;by_cases hmk:m<k
      ·obtain⟨b3,off3,he3,hbs3,c1,c2⟩:=HC.out m (by omega);obtain⟨rfl,rfl⟩:bb=b3/\off=off3:=by simpa using he3
       clear he3;replace c1:=(eC hbw hbs3).trans c1;replace c2:=(eC hbw hbs3).trans c2;have hnm:=zIG l m (by omega);generalize l[m]'(by omega)=y at c1 c2 hnm;have HY:=hQq hnm;clear hnm;have HW:=hQq hbw;clear hbw;by_cases hc0:zKb (L y.1) (L x.1)=0
       ·have HN:=hQq (zQO hl HF1.out hmk hlt (by rw[HX.out,HY.out];exact zHY.1 hc0));go_wp2_with (go_at_call 113;refine(zE8 _ _ _).mono ?_;rintro e w' ⟨rfl,rfl⟩)
        go_ret;exact⟨by rw[HN.out];rfl,Ext.trans HW.out (eA _ _)⟩
       by_cases hc1:zKb (L y.1) (L x.1)=1
       ·have HN:=hQq (HO2.out.gt hmk (by rw[HX.out,HY.out];exact hc1));clear hc0;go_wp2_with (go_at_call 113;refine(zE8 _ _ _).mono ?_;rintro e w' ⟨rfl,rfl⟩)
        go_roundw
        case rel=>exact⟨_,m+1,6,rfl,by omega,rfl,by go_num,HN.out,Ext.trans HB2.out (eA _ _)⟩
        case measure=>simp[intOf];omega
       ·have HN:=hQq (HO2.out.lt hmk (by rw[HX.out,HY.out];exact hc0) (by rw[HX.out,HY.out];exact hc1));have e0:(zKb (L y.1) (L x.1)==0)=false:=nB hc0;have e1:(zKb (L y.1) (L x.1)==1)=false:=nB hc1;clear hc0 hc1;go_wp2_with (go_at_call 113;refine(zE8 _ _ _).mono ?_;rintro e w' ⟨rfl,rfl⟩)
        go_roundw
        case rel=>exact⟨_,m+1,o2,rfl,by omega,rfl,by go_num,HN.out,Ext.trans HB2.out (eA _ _)⟩
        case measure=>simp[intOf];omega
      ·obtain rfl:m=k:=by omega
       have HW:=hQq hbw;clear hbw;go_wp2;go_roundw
       case rel=>exact⟨_,m+1,o2,rfl,by omega,rfl,by go_num,HO2.out.up,HW.out⟩
       case measure=>simp[intOf];omega
    ·obtain rfl:k=l.length:=by omega
     have HN:=hQq (zLZ hl HF1.out HO.out);have HB1:=hQq hb;by_cases ho:o=0
     ·subst ho;by_cases hz:288<zBv l
      ·have HN2:=hQq (HN.out.trans ((if_pos rfl).trans (if_pos hz)));have HFit:=hQq (zNG (.slice a l.length cap) l wq (HV.out.ext HB1.out) (by omega) HM.out);clear hb HN;go_wp2_with (go_at_call 160;have hfit:=HFit.out;rw[if_pos hz]at hfit;refine hfit.mono ?_;clear hfit;rintro e w' ⟨rfl,hb2⟩)
       go_ret;exact⟨by rw[HN2.out];rfl,Ext.trans HB1.out hb2⟩
      ·have HN2:=hQq (HN.out.trans ((if_pos rfl).trans (if_neg hz)));have HFit:=hQq (zNG (.slice a l.length cap) l wq (HV.out.ext HB1.out) (by omega) HM.out);clear hb HN;go_wp2_with (go_at_call 160;have hfit:=HFit.out;rw[if_neg hz]at hfit;refine hfit.mono ?_;clear hfit;rintro e w' ⟨rfl,hb2⟩)
       go_ret;exact⟨by rw[HN2.out];rfl,Ext.trans HB1.out hb2⟩
     ·have ho6:o=6:=by rcases HO.out.2 with ⟨x,_⟩|⟨x,_⟩;exact absurd x ho;exact x
      subst ho6;have HN2:=hQq (HN.out.trans (if_neg ho));clear hb HN;go_wp2;go_ret;exact⟨by rw[HN2.out];rfl,HB1.out⟩
theorem zPe (v:Value)(l:List zAq)(w:World)(hv:aA w v l)(hl:l.length<=10)(hm:∀a∈l,a.1.size<=1000000/\a.2.size<=1000000):
  zAs Tryz.prog 190 #[v] w (.int .i64 (zBv l)):=by
 unfold zAs;have hmax:=zMu l 1000000 hm;have hmax:zBv l<=30000000:=Nat.le_trans hmax (Nat.le_trans (Nat.mul_le_mul hl (Nat.le_refl _)) (by decide));have HM:=hQq hm;clear hm;obtain⟨a,cap,rfl,hcap,hc⟩:=hv;have HC:=hQq hc;clear hc;go_enter Tryz.func190,Tryz.ntmps190;go_wp2;go_loopw [3,4] (fun n i w'=>∃(wr:World) (k:Nat),wr=w'/\k<=l.length/\i= .int .i64 k/\n= .int .i64 (zBv (l.take k))/\Below w.heap.size w w') (fun _ i _=>l.length-(intOf i).toNat)
 case atStart=>exact⟨_,0,rfl,Nat.zero_le _,rfl,rfl,bR _ _⟩
 case round=>
  obtain⟨wr,k,rfl,hk,rfl,rfl,hb⟩:=hrel;by_cases hlt:k<l.length
  ·obtain⟨bb,off,rfl,hbs,c1,c2⟩:=HC.out k hlt;obtain⟨m1,m2⟩:=HM.out _ (List.getElem_mem hlt);have HS:=hQq (zIz l k hlt);replace c1:=(eC hb hbs).trans c1;replace c2:=(eC hb hbs).trans c2;generalize l[k]'hlt=x at c1 c2 m1 m2 HS;have hle:zBv (l.take k)<=30000000:=by
    have:=zEx (l.take k) (l.drop k);rw[List.take_append_drop]at this;omega
   clear HC HM hmax;have HB:=hQq hb;clear hb;generalize zBv (l.take k)=n at HS hle;have e1:IntKind.i64.wrap ((n:Int)+2)=(n:Int)+2:=IntWalk.i64_in _ (by omega);have e2:IntKind.i64.wrap ((n:Int)+2+(x.1.size:Int))=(n:Int)+2+(x.1.size:Int):=IntWalk.i64_in _ (by omega);have e3:IntKind.i64.wrap ((n:Int)+2+(x.1.size:Int)+(x.2.size:Int))=(n:Int)+2+(x.1.size:Int)+(x.2.size:Int):=IntWalk.i64_in _ (by omega);go_wp2;go_quiet (fail)
   go_wp2;go_roundw
   case rel=>exact⟨_,k+1,rfl,by omega,by go_num,by rw[HS.out];exact congrArg _ (by omega),Ext.trans HB.out (eDn _ _)⟩
   case measure=>simp[intOf];omega
  ·have HN:Hid (zBv (l.take k)=zBv l):=by rw[List.take_of_length_le (by omega)];exact rfl
   have HB:=hQq hb;clear hb;go_wp2;go_ret;exact⟨by rw[<- HN.out];rfl,HB.out⟩
theorem zPi (v:Value)(l:List zAq)(w:World)(hv:aA w v l)(hm:∀a∈l,a.1.size<=1000000/\a.2.size<=1000000):
  zAs Tryz.prog 155 #[v] w (.bool (decide (6<l.length)||decide (288<zBv l))):=by
 unfold zAs;have HV:=hQq hv;have HM:=hQq hm;clear hm;obtain⟨a,cap,rfl,hcap,hc⟩:=hv;clear hc;by_cases hl:6<l.length
 ·go_enter Tryz.func155,Tryz.ntmps155;go_wp2;go_ret;exact⟨by simp,bR _ _⟩
 by_cases h:288<zBv l
 ·go_enter Tryz.func155,Tryz.ntmps155;go_wp2_with (go_at_call 190;refine(zPe _ l _ HV.out (by omega) HM.out).mono ?_;rintro e w' ⟨rfl,hb⟩)
  go_ret;exact⟨by simp;rw[Bool.eq_iff_iff];simp only[Bool.or_eq_true,decide_eq_true_eq];omega,hb⟩
 ·go_enter Tryz.func155,Tryz.ntmps155;go_wp2_with (go_at_call 190;refine(zPe _ l _ HV.out (by omega) HM.out).mono ?_;rintro e w' ⟨rfl,hb⟩)
  go_ret;exact⟨by simp;rw[Bool.eq_iff_iff];simp only[Bool.or_eq_true,decide_eq_true_eq];omega,hb⟩
theorem zBK (v:Value)(l:List zAq)(w:World)(hv:aA w v l)(hm:∀a∈l,a.1.size<=1000000/\a.2.size<=1000000):
  zAs Tryz.prog 91 #[v] w (.int .i64 (zBS l)):=by
 unfold zAs;have HV:=hQq hv;have HM:=hQq hm;clear hm;obtain⟨a,cap,rfl,hcap,hc⟩:=hv;have HC:=hQq hc;clear hc;by_cases hl:6<l.length
 ·rw[zNr hl];go_enter Tryz.func91,Tryz.ntmps91;go_wp2;go_ret;exact⟨rfl,bR _ _⟩
 go_enter Tryz.func91,Tryz.ntmps91;go_wp2;go_loopw [3] (fun i w'=>∃(wr:World) (k:Nat),wr=w'/\k<=l.length/\i= .int .i64 k/\zBQ (l.take k)=0/\Below w.heap.size w w') (fun i _=>l.length-(intOf i).toNat)
 case atStart=>exact⟨_,0,rfl,Nat.zero_le _,rfl,rfl,bR _ _⟩
 case round=>
  obtain⟨wr,k,rfl,hk,rfl,hf,hb⟩:=hrel;have HF:=hQq hf;clear hf;by_cases hlt:k<l.length
  ·obtain⟨bb,off,rfl,hbs,c1,c2⟩:=HC.out k hlt;obtain⟨m1,m2⟩:=HM.out _ (List.getElem_mem hlt);replace c1:=(eC hb hbs).trans c1;replace c2:=(eC hb hbs).trans c2;have HB:=hQq hb;clear hb;by_cases ha:zA7 (l[k]'hlt)=0
   ·have HN:=hQq (zHO l k hlt HF.out ha);generalize l[k]'hlt=x at c1 c2 m1 m2 ha;go_wp2_with (go_at_call 154;refine(zMz x _ m1).mono ?_;rintro e w' ⟨rfl,hb2⟩;have HB2:=hQq hb2;clear hb2)
    go_roundw
    case rel=>exact⟨_,k+1,rfl,by omega,by go_num,HN.out,Ext.trans HB.out HB2.out⟩
    case measure=>simp[intOf];omega
   ·have HN:=hQq ((zKY hl (by rw[zE4 l k hlt HF.out ha];exact ha)).trans (zE4 l k hlt HF.out ha));have ha1:(zA7 (l[k]'hlt) != 0)=true:=bne_iff_ne.2 ha;clear ha;generalize l[k]'hlt=x at c1 c2 m1 m2 ha1 HN;go_wp2_with (go_at_call 154;refine(zMz x _ m1).mono ?_;rintro e w' ⟨rfl,hb2⟩;have HB2:=hQq hb2;clear hb2)
    go_ret;exact⟨by rw[HN.out];rfl,Ext.trans HB.out HB2.out⟩
  ·have hf:=HF.out;rw[List.take_of_length_le (by omega)]at hf;have HF1:=hQq hf;clear hf HF;have HB:=hQq hb;clear hb;go_wp2;go_loopw [5] (fun i w'=>∃(wq:World) (k:Nat),wq=w'/\k<=l.length/\i= .int .i64 k/\zEh l k 0/\Below w.heap.size w w') (fun i _=>l.length-(intOf i).toNat)
   case atStart=>exact⟨_,0,rfl,Nat.zero_le _,rfl,zEh.start l,HB.out⟩
   case round=>
    obtain⟨wq,k,rfl,hk,rfl,hord,hb⟩:=hrel;have HO:=hQq hord;clear hord;by_cases hlt:k<l.length
    ·obtain⟨bb,off,rfl,hbs,c1,c2⟩:=HC.out k hlt;have hnm:=zIG l k hlt;have HX:=hQq hnm;clear hnm;have HB1:=hQq hb;clear hb;go_wp2;go_loopw [6] (fun i w'=>∃(wi:World) (m:Nat),wi=w'/\m<=k/\i= .int .i64 m/\zEh l k m/\Below w.heap.size w w') (fun i _=>k-(intOf i).toNat)
     case atStart=>exact⟨_,0,rfl,Nat.zero_le _,rfl,HO.out,HB1.out⟩
     case round=>
      obtain⟨wi,m,rfl,hm,rfl,hord,hb⟩:=hrel;have HO2:=hQq hord;clear hord;by_cases hmk:m<k
      ·obtain⟨b3,off3,he3,hbs3,d1,d2⟩:=HC.out m (by omega);obtain⟨rfl,rfl⟩:bb=b3/\off=off3:=by simpa using he3
       clear he3;replace c1:=(eC hb hbs).trans c1;replace d1:=(eC hb hbs3).trans d1;clear c2 d2;have hnm:=zIG l m (by omega);have HY:=hQq hnm;clear hnm;generalize l[m]'(by omega)=y at d1 HY;generalize l[k]'hlt=x at c1 HX;have HB2:=hQq hb;clear hb;have j1:((m:Nat):Int)<(l.length:Int):=by omega
       have j2:((k:Nat):Int)<(l.length:Int):=by omega
       cases he:y.1.toList==x.1.toList
       ·have HN:=hQq (HO2.out.step hmk (by rw[HX.out,HY.out];rw[tL,tL]at he;exact beq_eq_false_iff_ne.1 he));go_wp2;go_quiet (fail)
        go_wp2;go_roundw
        case rel=>exact⟨_,m+1,rfl,by omega,by go_num,HN.out,Ext.trans HB2.out (eDn _ _)⟩
        case measure=>simp[intOf];omega
       ·have HN:=hQq (zQO hl HF1.out hmk hlt (by rw[HX.out,HY.out];rw[tL,tL]at he;exact beq_iff_eq.1 he));go_wp2;go_quiet (fail)
        go_wp2;go_ret;exact⟨by rw[HN.out];rfl,Ext.trans HB2.out (eDn _ _)⟩
      ·obtain rfl:m=k:=by omega
       have HB2:=hQq hb;clear hb;go_wp2;go_roundw
       case rel=>exact⟨_,m+1,rfl,by omega,by go_num,HO2.out.up,HB2.out⟩
       case measure=>simp[intOf];omega
    ·obtain rfl:k=l.length:=by omega
     have HB1:=hQq hb;clear hb;go_wp2;go_loopw [7] (fun i w'=>∃(wi:World) (m:Nat),wi=w'/\1<=m/\(m<=l.length\/m=1)/\i= .int .i64 m/\zVS l m/\Below w.heap.size w w') (fun i _=>l.length-(intOf i).toNat)
     case atStart=>exact⟨_,1,rfl,Nat.le_refl _,.inr rfl,rfl,fun i hi=>by omega,HB1.out⟩
     case round=>
      obtain⟨wi,m,rfl,hm1,hm2,rfl,hasc,hb⟩:=hrel;have HA:=hQq hasc;clear hasc;by_cases hmk:m<l.length
      ·obtain⟨m,rfl⟩:∃q,m=q+1:=⟨m-1,by omega⟩;obtain⟨bb,off,rfl,hbs,c1,c2⟩:=HC.out (m+1) hmk;obtain⟨b3,off3,he3,hbs3,d1,d2⟩:=HC.out m (by omega);obtain⟨rfl,rfl⟩:bb=b3/\off=off3:=by simpa using he3
       clear he3;replace c1:=(eC hb hbs).trans c1;replace d1:=(eC hb hbs3).trans d1;clear c2 d2;have hnm:=zIG l m (by omega);have HY:=hQq hnm;clear hnm;have hnm:=zIG l (m+1) hmk;have HX:=hQq hnm;clear hnm;generalize l[m]'(by omega)=y at d1 HY;generalize l[m+1]'hmk=x at c1 HX;have HB2:=hQq hb;clear hb;have e1:IntKind.i64.wrap ((m:Int)+1-1)=(m:Int):=by rw[show (m:Int)+1-1=m by omega];exact IntWalk.i64_in _ (by omega)
       have e2:IntKind.i64.wrap (m:Int)=(m:Int):=IntWalk.i64_in _ (by omega);have j1:((m:Nat):Int)+1<(l.length:Int):=by omega
       have j2:((m:Nat):Int)<(l.length:Int):=by omega
       by_cases he:L x.1<L y.1
       ·have hbl:=zEP he;have HN:=hQq (zQN hl HF1.out HO.out false (fun h=>by cases h) (fun _=>⟨m,hmk,by rw[HX.out,HY.out];exact he⟩));clear he;go_wp2;go_quiet (fail)
        go_wp2;go_ret;exact⟨by rw[HN.out];rfl,Ext.trans HB2.out (eDn _ _)⟩
       ·have hbl:=zD7 he;have HN:Hid (zVS l (m+1+1)):=by
         intro i hi;by_cases e:i=m
         ·subst e;rw[HX.out,HY.out];exact he
         ·exact HA.out i (by omega)
        clear he;go_wp2;go_quiet (fail)
        go_wp2;go_roundw
        case rel=>exact⟨_,m+1+1,rfl,by omega,.inl (by omega),by go_num,HN.out,Ext.trans HB2.out (eDn _ _)⟩
        case measure=>simp[intOf];omega
      ·have hA:zVS l l.length:=fun i hi=>by
        rcases hm2 with h|h
        ·exact HA.out i (by omega)
        ·omega
       have HN:=hQq (zQN hl HF1.out HO.out true (fun _=>hA) (fun h=>by cases h));clear hA;have HB2:=hQq hb;by_cases hz:288<zBv l
       ·have HN2:=hQq (HN.out.trans ((if_pos rfl).trans (if_pos hz)));have HFull:=hQq (zPi (.slice a l.length cap) l wi (HV.out.ext hb) HM.out);have hd:(decide (6<l.length)||decide (288<zBv l))=true:=by simp[hz]
        rw[hd]at HFull;clear hb HN hd;go_wp2_with (go_at_call 155;refine HFull.out.mono ?_;rintro e w' ⟨rfl,hb2⟩)
        go_ret;exact⟨by rw[HN2.out];rfl,Ext.trans HB2.out hb2⟩
       ·have HN2:=hQq (HN.out.trans ((if_pos rfl).trans (if_neg hz)));have HFull:=hQq (zPi (.slice a l.length cap) l wi (HV.out.ext hb) HM.out);have hd:(decide (6<l.length)||decide (288<zBv l))=false:=by simp[hz,hl]
        rw[hd]at HFull;clear hb HN hd;go_wp2_with (go_at_call 155;refine HFull.out.mono ?_;rintro e w' ⟨rfl,hb2⟩)
        go_ret;exact⟨by rw[HN2.out];rfl,Ext.trans HB2.out hb2⟩
theorem e2 (l:List UInt8):wrL 3 l=if whL.isPrefixOf l=true then wxL++l.drop 4 else l:=by unfold wrL;simp
theorem zRG {d:Int}(hd:d≠3)(l:List UInt8):wrL d l=l:=by unfold wrL;simp[hd]
theorem zOR {d:Int}(hd:d≠3)(l:List UInt8):zGb d l=l:=by unfold zGb;simp[hd]
theorem zXh (l:List UInt8):zGb 3 l=whL++wrL 3 l:=rfl
theorem zON {a b:List UInt8}:wrL 3 b≠zGb 3 a:=by simp_all[wrL,whL,wxL,zXh]<;>grind
theorem zOO (a:List UInt8):wrL 3 a≠zIm/\wrL 3 a≠zEj:=by
 rw[e2];by_cases ha:whL.isPrefixOf a=true
 ·rw[if_pos ha];constructor<;>(intro h;simp[wxL,zIm,zEj]at h)
 ·rw[if_neg ha];constructor<;>(intro h;apply ha;rw[h];decide)
theorem zNU (a:List UInt8):zGb 3 a≠zIm/\zGb 3 a≠zEj:=by
 rw[zXh,e2];by_cases ha:whL.isPrefixOf a=true
 ·rw[if_pos ha];constructor<;>(intro h;simp[wxL,whL,zIm,zEj]at h)
 ·rw[if_neg ha];constructor
  ·intro h;have:a= [46,119,104,46,111,112,113]:=List.append_cancel_left (show whL++a=whL++ [46,119,104,46,111,112,113]from h);apply ha;rw[this];decide
  ·intro h;have:a= [46,119,104,46,112,108,110,107]:=List.append_cancel_left (show whL++a=whL++ [46,119,104,46,112,108,110,107]from h);apply ha;rw[this];decide
theorem zEf {p:UInt8->Bool}{l m:List UInt8}(h:l.any p=false)(k:m.any p=false):(l++m).any p=false:=by rw[List.any_append,h,k];rfl
theorem zTv {d:Int}{l:List UInt8}(h:l.any (pB zHj)=false):(wrL d l).any (pB zHj)=false:=by
 unfold wrL;split
 ·exact zEf (by decide) (zNL h 4)
 ·exact h
theorem zMQ {l:List UInt8}(h:l.any (pB zHj)=false)(hl:l.length<=24)(h0:¬(l= []\/l= [46]\/l= [46,46])):zAn l=0:=zG5 h0 h (by omega)
theorem zMP {d:Int}{l:List UInt8}(h:zAn l=0)(hl:(wrL d l).length<=24):zAn (wrL d l)=0:=by
 obtain⟨a,b,c,e,f⟩:=zBT h;refine zMQ (zTv e) hl ?_;unfold wrL;split
 ·simp[wxL]
 ·simp only[not_or];exact⟨a,b,c⟩
theorem zHF {d:Int}{l:List UInt8}(h:zAn l=0)(hl:(zGb d l).length<=24):zAn (zGb d l)=0:=by
 obtain⟨a,b,c,e,f⟩:=zBT h;by_cases hd:d=3
 ·subst hd;refine zMQ (zEf (by decide) (zTv e)) hl ?_;rw[zXh];simp[whL]
 ·rw[zOR hd];exact h
theorem zCo {d:Int}{l:List UInt8}(h:zCD d l=0):(1<=d/\d<=4)/\zAn l=0:=by
 unfold zCD at h;split at h
 ·exact⟨by assumption,h⟩
 ·cases h
theorem zH9 {d:Int}{l:List UInt8}(h1:1<=d/\d<=4)(h:zAn l=0):zCD d l=0:=by unfold zCD;rw[if_pos h1];exact h
theorem zVz {d:Int}{a:List UInt8}(h:zCD d a=0)(hl:(wrL d a).length<=24):zCC d (wrL d a)=(a,1,0):=by
 obtain⟨hd,hn⟩:=zCo h;have hh:hit d (wrL d a) a=1:=by unfold hit;rw[if_neg (by simpa using hn),if_pos rfl]
 grind[wrL,zJz,zH9,zMP,zOO]
theorem zTf {a:List UInt8}(h:zCD 3 a=0)(hl:(zGb 3 a).length<=24):zCC 3 (zGb 3 a)=(a,2,0):=by
 obtain⟨hd,hn⟩:=zCo h;have hh:hit 3 (zGb 3 a) a=2:=by unfold hit;rw[if_neg (by simpa using hn),if_neg zON,if_pos rfl]
 grind[zGb,zJz,zH9,zHF,zNU]
def zYd (d:Int)(raw n:List UInt8)(w:Int):Prop:=
 w=1/\zCD d n=0/\wrL d n=raw\/w=2/\d=3/\zCD d n=0/\zGb d n=raw\/w=3/\d=3/\n= []/\raw=zIm\/w=4/\d=3/\n= []/\raw=zEj
theorem zOC {d:Int}{raw:List UInt8}:((zCC d raw).2.2≠0/\(zCC d raw).1= []/\(zCC d raw).2.1=0)\/((zCC d raw).2.2=0/\zCD d raw=0/\zYd d raw (zCC d raw).1 (zCC d raw).2.1):=by
 unfold zCC;by_cases h0:zCD d raw≠0
 ·rw[if_pos h0];exact .inl ⟨h0,rfl,rfl⟩
 rw[if_neg h0];have h0':zCD d raw=0:=by simpa using h0
 obtain⟨hd,hn⟩:=zCo h0';by_cases h1:d≠3\/whL.isPrefixOf raw=false
 ·rw[if_pos h1];refine .inr ⟨rfl,h0',.inl ⟨rfl,h0',?_⟩⟩;rcases h1 with h1|h1
  ·exact zRG h1 _
  ·unfold wrL;rw[if_neg (by simp[h1])]
 rw[if_neg h1];simp only[not_or,ne_eq,Classical.not_not]at h1;obtain⟨rfl,hp⟩:=h1;have hp:whL.isPrefixOf raw=true:=by simpa using hp
 by_cases h2:raw=zIm
 ·rw[if_pos h2];exact .inr ⟨rfl,h0',.inr (.inr (.inl ⟨rfl,rfl,rfl,h2⟩))⟩
 rw[if_neg h2];by_cases h3:raw=zEj
 ·rw[if_pos h3];exact .inr ⟨rfl,h0',.inr (.inr (.inr ⟨rfl,rfl,rfl,h3⟩))⟩
 rw[if_neg h3];obtain⟨r,rfl⟩:=zCN.1 hp;have hr:(whL++r).drop 4=r:=rfl;have hlr:(whL++r).length=4+r.length:=by rw[List.length_append];rfl
 rw[hr];by_cases h4:wxL.isPrefixOf r=true
 ·rw[if_pos h4];obtain⟨t,rfl⟩:=zCN.1 h4;have hlt:(wxL++t).length=9+t.length:=by rw[List.length_append];rfl
  have hd13:(whL++(wxL++t)).drop 13=t:=rfl;rw[hd13];exact .inr ⟨rfl,h0',.inr (.inl ⟨rfl,rfl,zH9 hd (zG4 13 hn (by omega) rfl (by omega)),rfl⟩)⟩
 rw[if_neg h4];by_cases h5:wxL.isPrefixOf (whL++r)=true
 ·rw[if_pos h5];obtain⟨t,ht⟩:=zCN.1 h5;have hlt:(wxL++t).length=9+t.length:=by rw[List.length_append];rfl
  rw[ht]at hn hlr h0' ⊢;have hd9:(wxL++t).drop 9=t:=rfl;rw[hd9];exact .inr ⟨rfl,h0',.inl ⟨rfl,zH9 hd (zG4 9 hn (by omega) rfl (by omega)),rfl⟩⟩
 rw[if_neg h5];by_cases h6:whL.isPrefixOf r=true\/zAn r≠0
 ·rw[if_pos h6];exact .inl ⟨by decide,rfl,rfl⟩
 ·rw[if_neg h6];simp only[not_or,ne_eq,Classical.not_not]at h6;refine .inr ⟨rfl,h0',.inr (.inl ⟨rfl,rfl,zH9 hd h6.2,?_⟩)⟩;rw[zXh,e2,if_neg h6.1]
theorem zM9 {s:ByteArray}{n:Nat}(h:zKa s n=0):s.size<=n/\zJ9 s n=s:=by
 unfold zKa at h;unfold zJ9;by_cases c:n<s.size
 ·rw[if_pos c]at h;cases h
 ·rw[if_neg c];exact⟨by omega,rfl⟩
theorem zTZ {s:ByteArray}{n:Nat}(h:s.size<=n):zKa s n=0/\zJ9 s n=s:=by
 unfold zKa zJ9;rw[if_neg (by omega),if_neg (by omega)];exact⟨rfl,rfl⟩
theorem zLB {d:Int}{s:ByteArray}(h:nmE d s=0):zCD d (L s)=0/\nmS d s=wrS d s/\(wrL d (L s)).length<=24:=by
 unfold nmE at h;unfold nmS;by_cases c:zCD d (L s)=0
 ·rw[if_pos c]at h ⊢;obtain⟨h1,h2⟩:=zM9 h;exact⟨c,h2,by rw[<- zGT,<- zAG];exact h1⟩
 ·rw[if_neg c]at h;exact absurd h c
theorem zHo {d:Int}{s:ByteArray}(h:wtE d s=0):zCD d (L s)=0/\wtS d s=whS d s/\(zGb d (L s)).length<=24:=by
 unfold wtE at h;unfold wtS;by_cases c:zCD d (L s)=0
 ·rw[if_pos c]at h ⊢;obtain⟨h1,h2⟩:=zM9 h;exact⟨c,h2,by rw[<- zIf,<- zAG];exact h1⟩
 ·rw[if_neg c]at h;exact absurd h c
theorem zXM {d:Int}{s:ByteArray}(h:zCD d (L s)=0)(hl:(wrL d (L s)).length<=24):nmE d s=0/\nmS d s=wrS d s:=by
 unfold nmE nmS;rw[if_pos h,if_pos h];exact zTZ (by rw[zAG,zGT];exact hl)
theorem zXA {d:Int}{s:ByteArray}(h:zCD d (L s)=0)(hl:(zGb d (L s)).length<=24):wtE d s=0/\wtS d s=whS d s:=by
 unfold wtE wtS;rw[if_pos h,if_pos h];exact zTZ (by rw[zAG,zIf];exact hl)
theorem zMe {d:Int}{a:ByteArray}(h:nmE d a=0):bkS d (nmS d a)=a/\bkW d (nmS d a)=1/\bkE d (nmS d a)=0:=by
 obtain⟨h1,h2,h3⟩:=zLB h;rw[h2];obtain⟨e1,e2,e3⟩:=zEQ (d:=d) (s:=wrS d a) (x:=L a) (y:=1) (z:=0) (by rw[zGT];exact zVz h1 h3);exact⟨e1,e2,e3⟩
theorem zMf {d:Int}{a:ByteArray}(h:nmE d a=0):zAn (L (nmS d a))=0/\(nmS d a).size<=24:=by
 obtain⟨h1,h2,h3⟩:=zLB h;rw[h2,zGT,zAG,zGT];exact⟨zMP (zCo h1).2 h3,h3⟩
theorem zRh {a:ByteArray}(h:wtE 3 a=0):bkS 3 (wtS 3 a)=a/\bkW 3 (wtS 3 a)=2/\bkE 3 (wtS 3 a)=0:=by
 obtain⟨h1,h2,h3⟩:=zHo h;rw[h2];obtain⟨e1,e2,e3⟩:=zEQ (d:=3) (s:=whS 3 a) (x:=L a) (y:=2) (z:=0) (by rw[zIf];exact zTf h1 h3);exact⟨e1,e2,e3⟩
def zDx:ByteArray:=ofL zIm
def zA6:ByteArray:=ofL zEj
theorem zGR:bkW 3 zDx=3/\bkE 3 zDx=0:=by decide +kernel
theorem zVB:bkW 3 zA6=4/\bkE 3 zA6=0:=by decide +kernel
theorem zRj {a b:ByteArray}(h:nmE 3 a=0)(k:nmE 3 b=0)(e:nmS 3 a=nmS 3 b):a=b:=by
 rw[<- (zMe h).1,<- (zMe k).1,e]
theorem zRg {a b:ByteArray}(h:wtE 3 a=0)(k:wtE 3 b=0)(e:wtS 3 a=wtS 3 b):a=b:=by
 rw[<- (zRh h).1,<- (zRh k).1,e]
theorem zNM {a b:ByteArray}(h:nmE 3 a=0)(k:wtE 3 b=0):nmS 3 a≠wtS 3 b:=fun e=>by
 have h1:=(zMe h).2.1;rw[e,(zRh k).2.1]at h1;cases h1
theorem zRi {a:ByteArray}(h:nmE 3 a=0):nmS 3 a≠zDx:=fun e=>by
 have h1:=(zMe h).2.1;rw[e,zGR.1]at h1;cases h1
theorem zRf {a:ByteArray}(h:wtE 3 a=0):wtS 3 a≠zDx:=fun e=>by
 have h1:=(zRh h).2.1;rw[e,zGR.1]at h1;cases h1
section
variable {α:Type}
def zDY (key:α->ByteArray):List α->α->List α
 | [],x=>[x]
 | a :: r,x=>if L (key a)<L (key x)then a :: zDY key r x else x :: a :: r
def zCV (key:α->ByteArray)(l:List α):List α:=l.foldl (zDY key) []
def leK (key:α->ByteArray)(a b:α):Prop:=¬L (key b)<L (key a)
def zDA (key:α->ByteArray)(l:List α):Prop:=l.Pairwise fun a b=>L (key a)≠L (key b)
def zGS (key:α->ByteArray)(l:List α):Prop:=l.Pairwise fun a b=>L (key a)<L (key b)
variable {key:α->ByteArray}
theorem zDI (l:List α)(x:α):(zDY key l x).Perm (x :: l):=by
 induction l with
 | nil=>exact List.Perm.refl _
 | cons a r ih=>
  unfold zDY;split
  ·exact(ih.cons a).trans (List.Perm.swap x a r)
  simp_all
theorem zHK (l acc:List α):(l.foldl (zDY key) acc).Perm (acc++l):=by
 induction l generalizing acc with
 | nil=>simp
 | cons x r ih=>
  rw[List.foldl_cons];refine(ih _).trans (((zDI acc x).append_right r).trans ?_);rw[List.cons_append];exact List.perm_middle.symm
theorem zAr (l:List α):(zCV key l).Perm l:=by
 have:=zHK (key:=key) l [];simpa [zCV] using this
theorem zFF (l:List α)(x:α):zCV key (l++ [x])=zDY key (zCV key l) x:=by unfold zCV;rw[List.foldl_append];rfl
theorem zPU {a b c:α}(h1:leK key a b)(h2:leK key b c):leK key a c:=zDZ h1 h2
theorem zKD {a b:α}(h:L (key a)<L (key b)):leK key a b:=fun k=>List.lt_irrefl _ (List.lt_trans h k)
theorem zGS.le {l:List α}(h:zGS key l):l.Pairwise (leK key):=List.Pairwise.imp (fun h=>zKD h) h
theorem zGS.dist {l:List α}(h:zGS key l):zDA key l:=List.Pairwise.imp (fun {a b} (h:L (key a)<L (key b)) (e:L (key a)=L (key b))=>by rw[e]at h;exact List.lt_irrefl _ h) h
theorem zLw {l:List α}(h:l.Pairwise (leK key))(x:α):(zDY key l x).Pairwise (leK key):=by
 induction l with
 | nil=>simp[zDY]
 | cons a r ih=>
  obtain⟨h1,h2⟩:=List.pairwise_cons.1 h;unfold zDY;split
  ·grind[zDI,zKD,List.pairwise_cons.2,List.mem_cons.1]
  ·rename_i hlt
   refine List.pairwise_cons.2 ⟨fun b hb=>?_,h⟩;rcases List.mem_cons.1 hb with rfl|hm
   ·exact hlt
   ·exact zPU (b:=a) hlt (h1 b hm)
theorem zGx (l acc:List α)(h:acc.Pairwise (leK key)):(l.foldl (zDY key) acc).Pairwise (leK key):=by
 induction l generalizing acc with
 | nil=>exact h
 | cons x r ih=>exact ih _ (zLw h x)
theorem zHq (l:List α):(zCV key l).Pairwise (leK key):=zGx l [] List.Pairwise.nil
theorem zD4 {l:List α}(h:zDA key l){a b:α}(ha:a∈l)(hb:b∈l)(e:L (key a)=L (key b)):a=b:=by
 induction l with
 | nil=>cases ha
 | cons x r ih=>
  obtain⟨h1,h2⟩:=List.pairwise_cons.1 h;rcases List.mem_cons.1 ha with ea|ha<;>rcases List.mem_cons.1 hb with eb|hb
  ·rw[ea,eb]
  ·grind
  ·grind
  ·exact ih h2 ha hb
theorem zJa {l m:List α}(hd:zDA key l)(hp:m.Perm l)(hs:m.Pairwise (leK key)):m=zCV key l:=by
 refine List.Perm.eq_of_pairwise (le:=leK key) (fun a b ha hb h1 h2=>?_) hs (zHq l) (hp.trans (zAr l).symm);refine zD4 hd (hp.mem_iff.1 ha) ((zAr l).mem_iff.1 hb) ?_;rcases Std.lt_trichotomy (L (key a)) (L (key b))with x|x|x
 ·exact absurd x h2
 ·exact x
 ·exact absurd x h1
theorem zDA.perm {l m:List α}(h:zDA key l)(hp:m.Perm l):zDA key m:=(hp.pairwise_iff (fun h=>Ne.symm h)).2 h
theorem zFG {l:List α}(h:zDA key l):zGS key (zCV key l):=by
 refine List.Pairwise.imp_of_mem (fun {a b} _ _ hab=>?_) ((zHq (key:=key) l).and (zDA.perm h (zAr l)));rcases Std.lt_trichotomy (L (key a)) (L (key b))with x|x|x
 ·exact x
 ·grind
 ·exact absurd x hab.1
end
theorem zSq {α β:Type}{key:α->ByteArray}{key':β->ByteArray}{f:α->β}(x:α):∀l:List α,(∀a∈x :: l,key' (f a)=key a)->(zDY key l x).map f=zDY key' (l.map f) (f x)
 :=by intro l;induction l<;>grind[zDY,zDY]
theorem zG7 {α β:Type}{key:α->ByteArray}{key':β->ByteArray}{f:α->β}(l:List α)(h:∀a∈l,key' (f a)=key a):(zCV key l).map f=zCV key' (l.map f):=by
 unfold zCV;have:∀(l acc:List α),(∀a∈acc++l,key' (f a)=key a)->(l.foldl (zDY key) acc).map f=(l.map f).foldl (zDY key') (acc.map f):=fun l=>by
  induction l with
  | nil=>intro acc _;rfl
  | cons x r ih=>
   intro acc h;rw[List.foldl_cons,List.map_cons,List.foldl_cons,ih _ fun a ha=>h a ?_,zSq x acc fun a ha=>h a ?_]
   ·grind
   grind[zDI]
 grind
end Go.Proofs.YtbeeoomadnmogaaGreat
