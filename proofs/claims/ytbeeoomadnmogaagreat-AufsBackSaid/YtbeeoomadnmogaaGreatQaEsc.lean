/- Esc AttrA AttrR -/
import Derived.Test.YtbeeoomadnmogaaGreatQI0
import Derived.Test.YtbeeoomadnmogaaGreatQBase
set_option maxRecDepth 100000
set_option maxHeartbeats 64000000
namespace Go.Proofs.YtbeeoomadnmogaaGreat
open Go.RowKit
theorem zPB {l:List UInt8} (h:l.any (pB zIe)=true):zAq l=6:=by
 unfold zAq;rw [if_pos (Or.inr (Or.inr (Or.inr h)))]
theorem zN7 {l:List UInt8} (h0:¬ (l= []\/l= [46]\/l= [46,46])) (h:l.any (pB zIe)=false) (hl:24 < l.length):zAq l=3:=by
 simp only [not_or] at h0
 unfold zAq;rw [if_neg (by simp [h0,h]),if_pos hl]
theorem zQ1 (b:UInt8):pB zIe b=(decide ((b.toNat:Int) < 33) || decide (126 < (b.toNat:Int)) || ((b.toNat:Int) == 47)):=by
 unfold pB zIe;rw [Bool.eq_iff_iff];simp
theorem zKk (s:ByteArray) (w:World) (h:L s= []\/L s= [46]\/L s= [46,46]) :
  Ret Tryz.prog 38 #[.string s] w (.int .i64 (zAq (L s))):=by
 unfold Ret
 have hn:zAq (L s)=6:=by unfold zAq;rw [if_pos];rcases h with h | h | h <;> simp [h]
 rw [hn];clear hn
 rw [<- tL] at h
 rcases h with h | h | h
 all_goals
  go_enter Tryz.func38,Tryz.ntmps38
  go_wp2
  go_ret
  exact⟨rfl,rfl⟩
theorem zI6 (s:ByteArray) (w:World) (hs:s.size<=1000000) :
  Ret Tryz.prog 38 #[.string s] w (.int .i64 (zAq (L s))):=by
 by_cases h0:L s= []\/L s= [46]\/L s= [46,46]
 ·exact zKk s w h0
 have HN:=hQq h0
 unfold Ret
 simp only [not_or,<- tL] at h0
 obtain⟨h1,h2,h3⟩:=h0
 have h1:s.toList.isEmpty=false:=by simpa using h1
 have h2:(s.toList == [46])=false:=by simpa using h2
 have h3:(s.toList == [46,46])=false:=by simpa using h3
 go_enter Tryz.func38,Tryz.ntmps38
 go_wp2
 clear h1 h2 h3
 go_loop [3] (fun i=>∃ k:Nat,k<=s.size/\i= .int .i64 k/\((L s).take k).any (pB zIe)=false) (fun i=>s.size - (intOf i).toNat)
 case atStart=>exact⟨0,Nat.zero_le _,rfl,by simp⟩
 case round=>
  obtain⟨k,hk,rfl,hb⟩:=hrel
  have HB:=hQq hb;clear hb
  by_cases hlt:k < s.size
  ·cases hb:pB zIe (s[k]'hlt)
   ·have HN2:=hQq (zEb zIe s k hlt HB.out hb);clear HB
    rw [zQ1] at hb
    simp only [Bool.or_eq_false_iff,decide_eq_false_iff_not] at hb
    obtain⟨⟨ha,hb⟩,hc⟩:=hb
    go_wp2
    go_round
    case rel=>exact⟨k+1,by omega,by go_num,HN2.out⟩
    case measure=>simp [intOf];omega
   ·have HN2:=hQq (zPB (List.any_eq_true.2 ⟨s[k]'hlt,by rw [zFL];exact List.getElem_mem _,hb⟩))
    clear HB HN
    rw [zQ1] at hb
    simp only [Bool.or_eq_true,decide_eq_true_eq] at hb
    by_cases ha:(s[k].toNat:Int) < 33
    ·clear hb
     go_wp2
     go_ret
     exact⟨by rw [HN2.out];rfl,rfl⟩
    by_cases hc:126 < (s[k].toNat:Int)
    ·clear hb
     go_wp2
     go_ret
     exact⟨by rw [HN2.out];rfl,rfl⟩
    ·have hd:((s[k].toNat:Int) == 47)=true:=by simpa [ha,hc] using hb
     clear hb
     go_wp2
     go_ret
     exact⟨by rw [HN2.out];rfl,rfl⟩
  ·have hb:=HB.out
   rw [List.take_of_length_le (by rw [<- zAN];omega)] at hb
   by_cases hl:24 < s.size
   ·have HN2:=hQq (zN7 HN.out hb (by rw [<- zAN];exact hl))
    clear hb HB
    go_wp2
    go_ret
    exact⟨by rw [HN2.out];rfl,rfl⟩
   ·have HN2:=hQq (zJj HN.out hb (by rw [<- zAN];exact hl))
    clear hb HB
    go_wp2
    go_ret
    exact⟨by rw [HN2.out];rfl,rfl⟩
theorem zNs (b:UInt8):pB zL0 b=(decide ((b.toNat:Int) < 33) || decide (126 < (b.toNat:Int))):=rfl
theorem zPc (s:ByteArray) (w:World) (hs:s.size<=1000000):Ret Tryz.prog 189 #[.string s] w (.int .i64 (zHB (L s))):=by
 unfold Ret
 go_enter Tryz.func189,Tryz.ntmps189
 go_wp2
 go_loop [3] (fun i=>∃ k:Nat,k<=s.size/\i= .int .i64 k/\((L s).take k).any (pB zL0)=false) (fun i=>s.size - (intOf i).toNat)
 case atStart=>exact⟨0,Nat.zero_le _,rfl,by simp⟩
 case round=>
  obtain⟨k,hk,rfl,hb⟩:=hrel
  have HB:=hQq hb;clear hb
  by_cases hlt:k < s.size
  ·cases hb:pB zL0 (s[k]'hlt)
   ·have HN2:=hQq (zEb zL0 s k hlt HB.out hb);clear HB
    rw [zNs] at hb
    simp only [Bool.or_eq_false_iff,decide_eq_false_iff_not] at hb
    obtain⟨ha,hb⟩:=hb
    go_wp2
    go_round
    case rel=>exact⟨k+1,by omega,by go_num,HN2.out⟩
    case measure=>simp [intOf];omega
   ·have HN2:=hQq (zMW (List.any_eq_true.2 ⟨s[k]'hlt,by rw [zFL];exact List.getElem_mem _,hb⟩))
    clear HB
    rw [zNs] at hb
    simp only [Bool.or_eq_true,decide_eq_true_eq] at hb
    by_cases ha:(s[k].toNat:Int) < 33
    ·clear hb
     go_wp2
     go_ret
     exact⟨by rw [HN2.out];rfl,rfl⟩
    ·have hd:126 < (s[k].toNat:Int):=by simpa [ha] using hb
     clear hb
     go_wp2
     go_ret
     exact⟨by rw [HN2.out];rfl,rfl⟩
  ·have hb:=HB.out
   rw [List.take_of_length_le (by rw [<- zAN];omega)] at hb
   by_cases h0:L s= []
   ·have HN2:=hQq (zMV h0)
    have h1:s.toList.isEmpty=true:=by rw [tL,h0];rfl
    clear hb HB h0
    go_wp2
    go_ret
    exact⟨by rw [HN2.out];rfl,rfl⟩
   have h1:s.toList.isEmpty=false:=by rw [tL];simpa using h0
   by_cases hl:40 < s.size
   ·have HN2:=hQq (zKy h0 hb (by rw [<- zAN];exact hl))
    clear hb HB h0
    go_wp2
    go_ret
    exact⟨by rw [HN2.out];rfl,rfl⟩
   ·have HN2:=hQq (zPP h0 hb (by rw [<- zAN];exact hl))
    clear hb HB h0
    go_wp2
    go_ret
    exact⟨by rw [HN2.out];rfl,rfl⟩
theorem zMv (a:zAr) (w:World) (hs:a.1.size<=1000000):zAt Tryz.prog 154 #[.agg #[.string a.1,.string a.2]] w (.int .i64 (zA2 a)):=by
 unfold zAt
 by_cases h:zHB (L a.1)=0
 ·by_cases hl:200 < a.2.size
  ·rw [show zA2 a=3 by unfold zA2;rw [if_neg (by simpa using h),if_pos hl]]
   go_enter Tryz.func154,Tryz.ntmps154
   go_wp2_with (go_at_call 189;refine(zPc _ _ hs).mono ?_;rintro e w' ⟨rfl,rfl⟩)
   go_ret
   exact⟨rfl,eA _ _⟩
  ·rw [show zA2 a=0 by unfold zA2;rw [if_neg (by simpa using h),if_neg hl]]
   go_enter Tryz.func154,Tryz.ntmps154
   go_wp2_with (go_at_call 189;refine(zPc _ _ hs).mono ?_;rintro e w' ⟨rfl,rfl⟩)
   go_ret
   exact⟨rfl,eA _ _⟩
 ·rw [show zA2 a=zHB (L a.1) by unfold zA2;rw [if_pos h]]
  have h1:(zHB (L a.1) == 0)=false:=nB h
  clear h
  go_enter Tryz.func154,Tryz.ntmps154
  go_wp2_with (go_at_call 189;refine(zPc _ _ hs).mono ?_;rintro e w' ⟨rfl,rfl⟩)
  go_ret
  exact⟨rfl,eA _ _⟩
theorem zQG {l:List zAr} (h:¬ 6 < l.length) (h1:zBD l=0) (hd:zEk l l.length 0):∀ (s:Bool),(s=true->zVh l l.length)->(s=false->∃ i,i+1 < l.length/\nmA l (i+1) < nmA l i) ->
  zBR l=if s=true then (if 288 < zBw l then 5 else 0) else 6:=by
 intro s hs hn
 cases s
 ·obtain⟨i,hi,hlt⟩:=hn rfl
  refine(zLT (o:=6) h h1 ⟨hd,.inr ⟨rfl,i+1,i,⟨by omega,.inl hi⟩,hlt⟩⟩).trans ?_
  rw [if_neg (by decide),if_neg (by decide)]
 ·refine(zLT (o:=0) h h1 ⟨hd,.inl ⟨rfl,fun i j hsn=>(hs rfl).all i j hsn.1 (by unfold zOC at hsn;omega)⟩⟩).trans ?_
  rw [if_pos rfl,if_pos rfl]
theorem zO6 (v:Value) (l:List zAr) (w:World) (hv:aA w v l) (hl:l.length<=10) (hm:∀ a ∈ l,a.1.size<=1000000/\a.2.size<=1000000) :
  zAt Tryz.prog 190 #[v] w (.int .i64 (zBw l)):=by
 unfold zAt
 have hmax:=zMo l 1000000 hm
 have hmax:zBw l<=30000000:=Nat.le_trans hmax (Nat.le_trans (Nat.mul_le_mul hl (Nat.le_refl _)) (by decide))
 have HM:=hQq hm;clear hm
 obtain⟨a,cap,rfl,hcap,hc⟩:=hv
 have HC:=hQq hc;clear hc
 go_enter Tryz.func190,Tryz.ntmps190
 go_wp2
 go_loopw [3,4] (fun n i w'=>∃ (wr:World) (k:Nat),wr=w'/\k<=l.length/\i= .int .i64 k/\n= .int .i64 (zBw (l.take k))/\Below w.heap.size w w') (fun _ i _=>l.length - (intOf i).toNat)
 case atStart=>exact⟨_,0,rfl,Nat.zero_le _,rfl,rfl,bR _ _⟩
 case round=>
  obtain⟨wr,k,rfl,hk,rfl,rfl,hb⟩:=hrel
  by_cases hlt:k < l.length
  ·obtain⟨bb,off,rfl,hbs,c1,c2⟩:=HC.out k hlt
   obtain⟨m1,m2⟩:=HM.out _ (List.getElem_mem hlt)
   have HS:=hQq (zIm l k hlt)
   replace c1:=(eC hb hbs).trans c1
   replace c2:=(eC hb hbs).trans c2
   generalize l[k]'hlt=x at c1 c2 m1 m2 HS
   have hle:zBw (l.take k)<=30000000:=by
    have:=zEw (l.take k) (l.drop k);rw [List.take_append_drop] at this;omega
   clear HC HM hmax
   have HB:=hQq hb;clear hb
   generalize zBw (l.take k)=n at HS hle
   have e1:IntKind.i64.wrap ((n:Int)+2)=(n:Int)+2:=IntWalk.i64_in _ (by omega)
   have e2:IntKind.i64.wrap ((n:Int)+2+(x.1.size:Int))=(n:Int)+2+(x.1.size:Int):=IntWalk.i64_in _ (by omega)
   have e3:IntKind.i64.wrap ((n:Int)+2+(x.1.size:Int)+(x.2.size:Int))=(n:Int)+2+(x.1.size:Int)+(x.2.size:Int):=IntWalk.i64_in _ (by omega)
   go_wp2
   go_quiet (fail)
   go_wp2
   go_roundw
   case rel=>exact⟨_,k+1,rfl,by omega,by go_num,by rw [HS.out];exact congrArg _ (by omega),Ext.trans HB.out (eDn _ _)⟩
   case measure=>simp [intOf];omega
  ·have HN:Hid (zBw (l.take k)=zBw l):=by rw [List.take_of_length_le (by omega)];exact rfl
   have HB:=hQq hb;clear hb
   go_wp2
   go_ret
   exact⟨by rw [<- HN.out];rfl,HB.out⟩
theorem zPd (v:Value) (l:List zAr) (w:World) (hv:aA w v l) (hm:∀ a ∈ l,a.1.size<=1000000/\a.2.size<=1000000) :
  zAt Tryz.prog 155 #[v] w (.bool (decide (6 < l.length) || decide (288 < zBw l))):=by
 unfold zAt
 have HV:=hQq hv
 have HM:=hQq hm;clear hm
 obtain⟨a,cap,rfl,hcap,hc⟩:=hv
 clear hc
 by_cases hl:6 < l.length
 ·go_enter Tryz.func155,Tryz.ntmps155
  go_wp2
  go_ret
  exact⟨by simp,bR _ _⟩
 by_cases h:288 < zBw l
 ·go_enter Tryz.func155,Tryz.ntmps155
  go_wp2_with (go_at_call 190;refine(zO6 _ l _ HV.out (by omega) HM.out).mono ?_;rintro e w' ⟨rfl,hb⟩)
  go_ret
  exact⟨by simp;rw [Bool.eq_iff_iff];simp only [Bool.or_eq_true,decide_eq_true_eq];omega,hb⟩
 ·go_enter Tryz.func155,Tryz.ntmps155
  go_wp2_with (go_at_call 190;refine(zO6 _ l _ HV.out (by omega) HM.out).mono ?_;rintro e w' ⟨rfl,hb⟩)
  go_ret
  exact⟨by simp;rw [Bool.eq_iff_iff];simp only [Bool.or_eq_true,decide_eq_true_eq];omega,hb⟩
theorem zCh (v:Value) (l:List zAr) (w:World) (hv:aA w v l) (hm:∀ a ∈ l,a.1.size<=1000000/\a.2.size<=1000000) :
  zAt Tryz.prog 91 #[v] w (.int .i64 (zBR l)):=by
 unfold zAt
 have HV:=hQq hv
 have HM:=hQq hm;clear hm
 obtain⟨a,cap,rfl,hcap,hc⟩:=hv
 have HC:=hQq hc;clear hc
 by_cases hl:6 < l.length
 ·rw [zNj hl]
  go_enter Tryz.func91,Tryz.ntmps91
  go_wp2
  go_ret
  exact⟨rfl,bR _ _⟩
 go_enter Tryz.func91,Tryz.ntmps91
 go_wp2
 go_loopw [3] (fun i w'=>∃ (wr:World) (k:Nat),wr=w'/\k<=l.length/\i= .int .i64 k/\zBD (l.take k)=0/\Below w.heap.size w w') (fun i _=>l.length - (intOf i).toNat)
 case atStart=>exact⟨_,0,rfl,Nat.zero_le _,rfl,rfl,bR _ _⟩
 case round=>
  obtain⟨wr,k,rfl,hk,rfl,hf,hb⟩:=hrel
  have HF:=hQq hf;clear hf
  by_cases hlt:k < l.length
  ·obtain⟨bb,off,rfl,hbs,c1,c2⟩:=HC.out k hlt
   obtain⟨m1,m2⟩:=HM.out _ (List.getElem_mem hlt)
   replace c1:=(eC hb hbs).trans c1
   replace c2:=(eC hb hbs).trans c2
   have HB:=hQq hb;clear hb
   by_cases ha:zA2 (l[k]'hlt)=0
   ·have HN:=hQq (zHG l k hlt HF.out ha)
    generalize l[k]'hlt=x at c1 c2 m1 m2 ha
    go_wp2_with (go_at_call 154;refine(zMv x _ m1).mono ?_;rintro e w' ⟨rfl,hb2⟩;have HB2:=hQq hb2;clear hb2)
    go_roundw
    case rel=>exact⟨_,k+1,rfl,by omega,by go_num,HN.out,Ext.trans HB.out HB2.out⟩
    case measure=>simp [intOf];omega
   ·have HN:=hQq ((zKM hl (by rw [zE0 l k hlt HF.out ha];exact ha)).trans (zE0 l k hlt HF.out ha))
    have ha1:(zA2 (l[k]'hlt) != 0)=true:=bne_iff_ne.2 ha
    clear ha
    generalize l[k]'hlt=x at c1 c2 m1 m2 ha1 HN
    go_wp2_with (go_at_call 154;refine(zMv x _ m1).mono ?_;rintro e w' ⟨rfl,hb2⟩;have HB2:=hQq hb2;clear hb2)
    go_ret
    exact⟨by rw [HN.out];rfl,Ext.trans HB.out HB2.out⟩
  ·have hf:=HF.out
   rw [List.take_of_length_le (by omega)] at hf
   have HF1:=hQq hf;clear hf HF
   have HB:=hQq hb;clear hb
   go_wp2
   go_loopw [5] (fun i w'=>∃ (wq:World) (k:Nat),wq=w'/\k<=l.length/\i= .int .i64 k/\zEk l k 0/\Below w.heap.size w w') (fun i _=>l.length - (intOf i).toNat)
   case atStart=>exact⟨_,0,rfl,Nat.zero_le _,rfl,zEk.start l,HB.out⟩
   case round=>
    obtain⟨wq,k,rfl,hk,rfl,hord,hb⟩:=hrel
    have HO:=hQq hord;clear hord
    by_cases hlt:k < l.length
    ·obtain⟨bb,off,rfl,hbs,c1,c2⟩:=HC.out k hlt
     have hnm:=zIr l k hlt
     have HX:=hQq hnm;clear hnm
     have HB1:=hQq hb;clear hb
     go_wp2
     go_loopw [6] (fun i w'=>∃ (wi:World) (m:Nat),wi=w'/\m<=k/\i= .int .i64 m/\zEk l k m/\Below w.heap.size w w') (fun i _=>k - (intOf i).toNat)
     case atStart=>exact⟨_,0,rfl,Nat.zero_le _,rfl,HO.out,HB1.out⟩
     case round=>
      obtain⟨wi,m,rfl,hm,rfl,hord,hb⟩:=hrel
      have HO2:=hQq hord;clear hord
      by_cases hmk:m < k
      ·obtain⟨b3,off3,he3,hbs3,d1,d2⟩:=HC.out m (by omega)
       obtain⟨rfl,rfl⟩:bb=b3/\off=off3:=by simpa using he3
       clear he3
       replace c1:=(eC hb hbs).trans c1
       replace d1:=(eC hb hbs3).trans d1
       clear c2 d2
       have hnm:=zIr l m (by omega)
       have HY:=hQq hnm;clear hnm
       generalize l[m]'(by omega)=y at d1 HY
       generalize l[k]'hlt=x at c1 HX
       have HB2:=hQq hb;clear hb
       have j1:((m:Nat):Int) < (l.length:Int):=by omega
       have j2:((k:Nat):Int) < (l.length:Int):=by omega
       cases he:y.1.toList == x.1.toList
       ·have HN:=hQq (HO2.out.step hmk (by rw [HX.out,HY.out];rw [tL,tL] at he;exact beq_eq_false_iff_ne.1 he))
        go_wp2
        go_quiet (fail)
        go_wp2
        go_roundw
        case rel=>exact⟨_,m+1,rfl,by omega,by go_num,HN.out,Ext.trans HB2.out (eDn _ _)⟩
        case measure=>simp [intOf];omega
       ·have HN:=hQq (zQH hl HF1.out hmk hlt (by rw [HX.out,HY.out];rw [tL,tL] at he;exact beq_iff_eq.1 he))
        go_wp2
        go_quiet (fail)
        go_wp2
        go_ret
        exact⟨by rw [HN.out];rfl,Ext.trans HB2.out (eDn _ _)⟩
      ·obtain rfl:m=k:=by omega
       have HB2:=hQq hb;clear hb
       go_wp2
       go_roundw
       case rel=>exact⟨_,m+1,rfl,by omega,by go_num,HO2.out.up,HB2.out⟩
       case measure=>simp [intOf];omega
    ·obtain rfl:k=l.length:=by omega
     have HB1:=hQq hb;clear hb
     go_wp2
     go_loopw [7] (fun i w'=>∃ (wi:World) (m:Nat),wi=w'/\1<=m/\(m<=l.length\/m=1)/\i= .int .i64 m/\zVh l m/\Below w.heap.size w w') (fun i _=>l.length - (intOf i).toNat)
     case atStart=>exact⟨_,1,rfl,Nat.le_refl _,.inr rfl,rfl,fun i hi=>by omega,HB1.out⟩
     case round=>
      obtain⟨wi,m,rfl,hm1,hm2,rfl,hasc,hb⟩:=hrel
      have HA:=hQq hasc;clear hasc
      by_cases hmk:m < l.length
      ·obtain⟨m,rfl⟩:∃ q,m=q+1:=⟨m - 1,by omega⟩
       obtain⟨bb,off,rfl,hbs,c1,c2⟩:=HC.out (m+1) hmk
       obtain⟨b3,off3,he3,hbs3,d1,d2⟩:=HC.out m (by omega)
       obtain⟨rfl,rfl⟩:bb=b3/\off=off3:=by simpa using he3
       clear he3
       replace c1:=(eC hb hbs).trans c1
       replace d1:=(eC hb hbs3).trans d1
       clear c2 d2
       have hnm:=zIr l m (by omega)
       have HY:=hQq hnm;clear hnm
       have hnm:=zIr l (m+1) hmk
       have HX:=hQq hnm;clear hnm
       generalize l[m]'(by omega)=y at d1 HY
       generalize l[m+1]'hmk=x at c1 HX
       have HB2:=hQq hb;clear hb
       have e1:IntKind.i64.wrap ((m:Int)+1 - 1)=(m:Int):=by rw [show (m:Int)+1 - 1=m by omega];exact IntWalk.i64_in _ (by omega)
       have e2:IntKind.i64.wrap (m:Int)=(m:Int):=IntWalk.i64_in _ (by omega)
       have j1:((m:Nat):Int)+1 < (l.length:Int):=by omega
       have j2:((m:Nat):Int) < (l.length:Int):=by omega
       by_cases he:L x.1 < L y.1
       ·have hbl:=zGu he
        have HN:=hQq (zQG hl HF1.out HO.out false (fun h=>by cases h) (fun _=>⟨m,hmk,by rw [HX.out,HY.out];exact he⟩))
        clear he
        go_wp2
        go_quiet (fail)
        go_wp2
        go_ret
        exact⟨by rw [HN.out];rfl,Ext.trans HB2.out (eDn _ _)⟩
       ·have hbl:=zF0 he
        have HN:Hid (zVh l (m+1+1)):=by
         intro i hi
         by_cases e:i=m
         ·subst e;rw [HX.out,HY.out];exact he
         ·exact HA.out i (by omega)
        clear he
        go_wp2
        go_quiet (fail)
        go_wp2
        go_roundw
        case rel=>exact⟨_,m+1+1,rfl,by omega,.inl (by omega),by go_num,HN.out,Ext.trans HB2.out (eDn _ _)⟩
        case measure=>simp [intOf];omega
      ·have hA:zVh l l.length:=fun i hi=>by
        rcases hm2 with h | h
        ·exact HA.out i (by omega)
        ·omega
       have HN:=hQq (zQG hl HF1.out HO.out true (fun _=>hA) (fun h=>by cases h))
       clear hA
       have HB2:=hQq hb
       by_cases hz:288 < zBw l
       ·have HN2:=hQq (HN.out.trans ((if_pos rfl).trans (if_pos hz)))
        have HFull:=hQq (zPd (.slice a l.length cap) l wi (HV.out.ext hb) HM.out)
        have hd:(decide (6 < l.length) || decide (288 < zBw l))=true:=by simp [hz]
        rw [hd] at HFull
        clear hb HN hd
        go_wp2_with (go_at_call 155;refine HFull.out.mono ?_;rintro e w' ⟨rfl,hb2⟩)
        go_ret
        exact⟨by rw [HN2.out];rfl,Ext.trans HB2.out hb2⟩
       ·have HN2:=hQq (HN.out.trans ((if_pos rfl).trans (if_neg hz)))
        have HFull:=hQq (zPd (.slice a l.length cap) l wi (HV.out.ext hb) HM.out)
        have hd:(decide (6 < l.length) || decide (288 < zBw l))=false:=by simp [hz,hl]
        rw [hd] at HFull
        clear hb HN hd
        go_wp2_with (go_at_call 155;refine HFull.out.mono ?_;rintro e w' ⟨rfl,hb2⟩)
        go_ret
        exact⟨by rw [HN2.out];rfl,Ext.trans HB2.out hb2⟩
end Go.Proofs.YtbeeoomadnmogaaGreat
