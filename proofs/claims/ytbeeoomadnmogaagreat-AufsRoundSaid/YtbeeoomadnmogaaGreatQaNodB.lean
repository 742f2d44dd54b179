/- NodB NodD -/
import Derived.Test.YtbeeoomadnmogaaGreatQI2
import Derived.Test.YtbeeoomadnmogaaGreatQNodA
set_option maxRecDepth 100000
set_option maxHeartbeats 64000000
namespace Go.Proofs.YtbeeoomadnmogaaGreat
open Go.RowKit
theorem zDd (x:TrN) (va:Value) (w:World) (hv:∃ a cap,va= .slice a x.ats.length cap):zAt Tryz.prog 90 #[trV x va] w (.int .i64 (zAc x)):=by
 unfold zAt trV
 obtain⟨aa,cap,rfl⟩:=hv
 by_cases k0:x.kd < 1
 case pos=>
  have hr:zAc x=14:=by unfold zAc;simp [k0]
  rw [hr];clear hr
  go_enter Tryz.func90,Tryz.ntmps90
  go_wp2
  go_ret
  exact⟨rfl,eA _ _⟩
 by_cases k6:5 < x.kd
 case pos=>
  have hr:zAc x=14:=by unfold zAc;simp [k6]
  rw [hr];clear hr
  go_enter Tryz.func90,Tryz.ntmps90
  go_wp2
  go_ret
  exact⟨rfl,eA _ _⟩
 by_cases k:x.kd=1
 case pos=>
  clear k0 k6
  by_cases hdat:x.dat.toList= []
  case pos=>
   have dat1:x.dat.toList.isEmpty=true:=by rw [hdat];rfl
   have dat2:x.dat.size=0:=zA7 hdat
   by_cases hma:x.ma=0
   case pos=>
    by_cases hmi:x.mi=0
    case pos=>
     by_cases hcl:x.cl=0
     case pos=>
      have hr:zAc x=0:=by unfold zAc;simp [k,hdat,hma,hmi,hcl]
      rw [hr];clear hr
      go_enter Tryz.func90,Tryz.ntmps90
      go_wp2
      go_ret
      exact⟨rfl,eA _ _⟩
     case neg=>
      have cl1:(x.cl == 0)=false:=nB hcl
      have cl2:(x.cl != 0)=true:=bne_iff_ne.2 hcl
      have hr:zAc x=6:=by unfold zAc;simp [k,hdat,hma,hmi,hcl]
      rw [hr];clear hr
      go_enter Tryz.func90,Tryz.ntmps90
      go_wp2
      go_ret
      exact⟨rfl,eA _ _⟩
    case neg=>
     have mi1:(x.mi == 0)=false:=nB hmi
     have mi2:(x.mi != 0)=true:=bne_iff_ne.2 hmi
     have hr:zAc x=6:=by unfold zAc;simp [k,hdat,hma,hmi]
     rw [hr];clear hr
     go_enter Tryz.func90,Tryz.ntmps90
     go_wp2
     go_ret
     exact⟨rfl,eA _ _⟩
   case neg=>
    have ma1:(x.ma == 0)=false:=nB hma
    have ma2:(x.ma != 0)=true:=bne_iff_ne.2 hma
    have hr:zAc x=6:=by unfold zAc;simp [k,hdat,hma]
    rw [hr];clear hr
    go_enter Tryz.func90,Tryz.ntmps90
    go_wp2
    go_ret
    exact⟨rfl,eA _ _⟩
  case neg=>
   have dat1:x.dat.toList.isEmpty=false:=by simpa using hdat
   have hr:zAc x=6:=by unfold zAc;simp [k,hdat]
   rw [hr];clear hr
   go_enter Tryz.func90,Tryz.ntmps90
   go_wp2
   go_ret
   exact⟨rfl,eA _ _⟩
 case neg=>
 have n1:=k
 clear k
 by_cases k:x.kd=2
 case pos=>
  clear k0 k6
  by_cases hma:x.ma=0
  case pos=>
   by_cases hmi:x.mi=0
   case pos=>
    by_cases z:384 < x.dat.size
    case pos=>
     have hr:zAc x=3:=by unfold zAc;simp [k,hma,hmi,z]
     rw [hr];clear hr
     go_enter Tryz.func90,Tryz.ntmps90
     go_wp2
     go_ret
     exact⟨rfl,eA _ _⟩
    case neg=>
     have hr:zAc x=0:=by unfold zAc;simp [k,hma,hmi,z]
     rw [hr];clear hr
     go_enter Tryz.func90,Tryz.ntmps90
     go_wp2
     go_ret
     exact⟨rfl,eA _ _⟩
   case neg=>
    have mi1:(x.mi == 0)=false:=nB hmi
    have mi2:(x.mi != 0)=true:=bne_iff_ne.2 hmi
    have hr:zAc x=6:=by unfold zAc;simp [k,hma,hmi]
    rw [hr];clear hr
    go_enter Tryz.func90,Tryz.ntmps90
    go_wp2
    go_ret
    exact⟨rfl,eA _ _⟩
  case neg=>
   have ma1:(x.ma == 0)=false:=nB hma
   have ma2:(x.ma != 0)=true:=bne_iff_ne.2 hma
   have hr:zAc x=6:=by unfold zAc;simp [k,hma]
   rw [hr];clear hr
   go_enter Tryz.func90,Tryz.ntmps90
   go_wp2
   go_ret
   exact⟨rfl,eA _ _⟩
 case neg=>
 have n2:=k
 clear k
 by_cases k:x.kd=3
 case pos=>
  clear k0 k6
  by_cases hma:x.ma=0
  case pos=>
   by_cases hmi:x.mi=0
   case pos=>
    by_cases hdat:x.dat.toList= []
    case pos=>
     have dat1:x.dat.toList.isEmpty=true:=by rw [hdat];rfl
     have dat2:x.dat.size=0:=zA7 hdat
     have hr:zAc x=6:=by unfold zAc;simp [k,hma,hmi,hdat]
     rw [hr];clear hr
     go_enter Tryz.func90,Tryz.ntmps90
     go_wp2
     go_ret
     exact⟨rfl,eA _ _⟩
    case neg=>
     have dat1:x.dat.toList.isEmpty=false:=by simpa using hdat
     by_cases z:200 < x.dat.size
     case pos=>
      have hr:zAc x=3:=by unfold zAc;simp [k,hma,hmi,hdat,z]
      rw [hr];clear hr
      go_enter Tryz.func90,Tryz.ntmps90
      go_wp2
      go_ret
      exact⟨rfl,eA _ _⟩
     case neg=>
      have hr:zAc x=0:=by unfold zAc;simp [k,hma,hmi,hdat,z]
      rw [hr];clear hr
      go_enter Tryz.func90,Tryz.ntmps90
      go_wp2
      go_ret
      exact⟨rfl,eA _ _⟩
   case neg=>
    have mi1:(x.mi == 0)=false:=nB hmi
    have mi2:(x.mi != 0)=true:=bne_iff_ne.2 hmi
    have hr:zAc x=6:=by unfold zAc;simp [k,hma,hmi]
    rw [hr];clear hr
    go_enter Tryz.func90,Tryz.ntmps90
    go_wp2
    go_ret
    exact⟨rfl,eA _ _⟩
  case neg=>
   have ma1:(x.ma == 0)=false:=nB hma
   have ma2:(x.ma != 0)=true:=bne_iff_ne.2 hma
   have hr:zAc x=6:=by unfold zAc;simp [k,hma]
   rw [hr];clear hr
   go_enter Tryz.func90,Tryz.ntmps90
   go_wp2
   go_ret
   exact⟨rfl,eA _ _⟩
 case neg=>
 have n3:=k
 clear k
 by_cases k:x.kd=4
 case pos=>
  clear k0 k6
  by_cases hdat:x.dat.toList= []
  case pos=>
   have dat1:x.dat.toList.isEmpty=true:=by rw [hdat];rfl
   have dat2:x.dat.size=0:=zA7 hdat
   by_cases r1:x.ma < 0
   case pos=>
    have hr:zAc x=7:=by unfold zAc;simp [k,hdat,r1]
    rw [hr];clear hr
    go_enter Tryz.func90,Tryz.ntmps90
    go_wp2
    go_ret
    exact⟨rfl,eA _ _⟩
   case neg=>
    by_cases r2:255 < x.ma
    case pos=>
     have hr:zAc x=7:=by unfold zAc;simp [k,hdat,r1,r2]
     rw [hr];clear hr
     go_enter Tryz.func90,Tryz.ntmps90
     go_wp2
     go_ret
     exact⟨rfl,eA _ _⟩
    case neg=>
     by_cases r3:x.mi < 0
     case pos=>
      have hr:zAc x=7:=by unfold zAc;simp [k,hdat,r1,r2,r3]
      rw [hr];clear hr
      go_enter Tryz.func90,Tryz.ntmps90
      go_wp2
      go_ret
      exact⟨rfl,eA _ _⟩
     case neg=>
      by_cases r4:255 < x.mi
      case pos=>
       have hr:zAc x=7:=by unfold zAc;simp [k,hdat,r1,r2,r3,r4]
       rw [hr];clear hr
       go_enter Tryz.func90,Tryz.ntmps90
       go_wp2
       go_ret
       exact⟨rfl,eA _ _⟩
      case neg=>
       have hr:zAc x=0:=by unfold zAc;simp [k,hdat,r1,r2,r3,r4]
       rw [hr];clear hr
       go_enter Tryz.func90,Tryz.ntmps90
       go_wp2
       go_ret
       exact⟨rfl,eA _ _⟩
  case neg=>
   have dat1:x.dat.toList.isEmpty=false:=by simpa using hdat
   have hr:zAc x=6:=by unfold zAc;simp [k,hdat]
   rw [hr];clear hr
   go_enter Tryz.func90,Tryz.ntmps90
   go_wp2
   go_ret
   exact⟨rfl,eA _ _⟩
 case neg=>
 have n4:=k
 clear k
 have k:x.kd=5:=by omega
 clear k0 k6 n1 n2 n3 n4
 by_cases hdat:x.dat.toList= []
 case pos=>
  have dat1:x.dat.toList.isEmpty=true:=by rw [hdat];rfl
  have dat2:x.dat.size=0:=zA7 hdat
  by_cases hma:x.ma=0
  case pos=>
   by_cases hmi:x.mi=0
   case pos=>
    by_cases hats:x.ats.length=0
    case pos=>
     by_cases hcl:x.cl=0
     case pos=>
      have hr:zAc x=0:=by unfold zAc;simp [k,hdat,hma,hmi,hats,hcl]
      rw [hr];clear hr
      go_enter Tryz.func90,Tryz.ntmps90
      go_wp2
      go_ret
      exact⟨rfl,eA _ _⟩
     case neg=>
      have cl1:(x.cl == 0)=false:=nB hcl
      have cl2:(x.cl != 0)=true:=bne_iff_ne.2 hcl
      have hr:zAc x=6:=by unfold zAc;simp [k,hdat,hma,hmi,hats,hcl]
      rw [hr];clear hr
      go_enter Tryz.func90,Tryz.ntmps90
      go_wp2
      go_ret
      exact⟨rfl,eA _ _⟩
    case neg=>
     have ats1:0 < x.ats.length:=by omega
     have hr:zAc x=6:=by unfold zAc;simp [k,hdat,hma,hmi,hats]
     rw [hr];clear hr
     go_enter Tryz.func90,Tryz.ntmps90
     go_wp2
     go_ret
     exact⟨rfl,eA _ _⟩
   case neg=>
    have mi1:(x.mi == 0)=false:=nB hmi
    have mi2:(x.mi != 0)=true:=bne_iff_ne.2 hmi
    have hr:zAc x=6:=by unfold zAc;simp [k,hdat,hma,hmi]
    rw [hr];clear hr
    go_enter Tryz.func90,Tryz.ntmps90
    go_wp2
    go_ret
    exact⟨rfl,eA _ _⟩
  case neg=>
   have ma1:(x.ma == 0)=false:=nB hma
   have ma2:(x.ma != 0)=true:=bne_iff_ne.2 hma
   have hr:zAc x=6:=by unfold zAc;simp [k,hdat,hma]
   rw [hr];clear hr
   go_enter Tryz.func90,Tryz.ntmps90
   go_wp2
   go_ret
   exact⟨rfl,eA _ _⟩
 case neg=>
  have dat1:x.dat.toList.isEmpty=false:=by simpa using hdat
  have hr:zAc x=6:=by unfold zAc;simp [k,hdat]
  rw [hr];clear hr
  go_enter Tryz.func90,Tryz.ntmps90
  go_wp2
  go_ret
  exact⟨rfl,eA _ _⟩
theorem zP1 {a b:Int} (h:a=b):Value.int .i64 a= .int .i64 b:=by rw [h]
theorem zLa {t:List TrN} {i k:Nat} (h:zBS t i k=false) (hx:(decide (0 < (zAa t i).cl) && ((zAa t k).cl == (zAa t i).cl) && !zA5 (zAa t k) (zAa t i))=false):zBS t i (k+1)=false:=by
 unfold zBS;rw [h,hx];rfl
theorem zIh {t:List TrN} {i k:Nat} (hx:(decide (0 < (zAa t i).cl) && ((zAa t k).cl == (zAa t i).cl) && !zA5 (zAa t k) (zAa t i))=true):∀ m,k < m->zBS t i m=true
 | 0,h=>by omega
 | m+1,h=>by
  unfold zBS
  by_cases e:k=m
  ·subst e;rw [hx,Bool.or_true]
  ·rw [zIh hx m (by omega),Bool.true_or]
theorem zMu (B:Nat) (v:Value) (t:List TrN) (c:Int) (w:World) (hv:zCt B w v t) (hm:t.length<=1000):zAt Tryz.prog 93 #[v,.int .i64 c] w (.int .i64 (zAi t c t.length)):=by
 unfold zAt
 obtain⟨aa,cap,rfl⟩:=hv.form
 have HV:=hQq hv;clear hv
 go_enter Tryz.func93,Tryz.ntmps93
 go_wp2
 go_loopw [5,6] (fun n i w'=>∃ (wi:World) (k:Nat),wi=w'/\k<=t.length/\i= .int .i64 k/\n= .int .i64 (zAi t c k)/\zAi t c k<=k/\Ext w w') (fun _ i _=>t.length - (intOf i).toNat)
 case atStart=>exact⟨_,0,rfl,Nat.zero_le _,rfl,rfl,Nat.le_refl _,bR _ _⟩
 case round=>
  obtain⟨wi,k,rfl,hk,rfl,rfl,hck,hb⟩:=hrel
  by_cases hlt:k < t.length
  ·obtain⟨b,off,va,he,hbs,_,_,_,_,_,_,_,_,c7⟩:=HV.out.tr k hlt
   cases he
   replace c7:=(eC hb hbs).trans c7
   have HB:=hQq hb;clear hb
   by_cases e:(t[k]'hlt).cl=c
   ·have HN:Hid (zAi t c (k+1)=zAi t c k+1):=hQq (by rw [zAi.eq_2,zAm t k hlt,if_pos e])
    generalize t[k]'hlt=x at c7 e
    have q1:(x.cl == c)=true:=beq_iff_eq.2 e
    clear e
    go_wp2
    go_roundw
    case rel=>exact⟨_,k+1,rfl,by omega,by go_num,by rw [HN.out];go_num,by rw [HN.out];omega,HB.out⟩
    case measure=>simp [intOf] <;> omega
   ·have HN:Hid (zAi t c (k+1)=zAi t c k):=hQq (by rw [zAi.eq_2,zAm t k hlt,if_neg e];rfl)
    generalize t[k]'hlt=x at c7 e
    have q1:(x.cl == c)=false:=nB e
    clear e
    go_wp2
    go_roundw
    case rel=>exact⟨_,k+1,rfl,by omega,by go_num,by rw [HN.out],by rw [HN.out];omega,HB.out⟩
    case measure=>simp [intOf] <;> omega
  ·obtain rfl:k=t.length:=by omega
   have HB:=hQq hb;clear hb
   go_wp2
   go_ret
   exact⟨rfl,HB.out⟩
theorem zCg (B:Nat) (v:Value) (t:List TrN) (i:Nat) (w:World) (hv:zCt B w v t) (hi:i < t.length) (hm:t.length<=1000) (hmost:∀ k,k<=i->0<=zAJ t k/\zAJ t k<=1000) (hats:∀ x ∈ t,x.ats.length<=1000000):zAt Tryz.prog 92 #[v,.int .i64 i] w (.int .i64 (zF4 t i)):=by
 unfold zAt
 obtain⟨aa,cap,rfl⟩:=hv.form
 obtain⟨b,off,va,rfl,hb,hva,cc⟩:=hv.tr i hi
 have HV:=hQq hv;clear hv
 have HM:=hQq hmost;clear hmost
 have HG:=hQq (zAm t i hi)
 have ji:((i:Nat):Int) < (t.length:Int):=by omega
 have HAT:=hQq hats;clear hats
 have hva':=zAj.attrs hva
 obtain⟨a3,cap3,rfl⟩:=hva.form
 generalize t[i]'hi=x at cc HG hva' hva
 have HVA:=hQq hva'
 have HC:=hQq cc
 clear hva hva' cc
 go_enter Tryz.func92,Tryz.ntmps92
 go_wp2
 go_loopw [5,6] (fun m kk w'=>∃ (wi:World) (k:Nat),wi=w'/\k<=i/\kk= .int .i64 k/\m= .int .i64 (zAJ t k)/\zBS t i k=false/\Ext w w') (fun _ kk _=>i - (intOf kk).toNat)
 case atStart=>exact⟨_,0,rfl,Nat.zero_le _,rfl,rfl,rfl,bR _ _⟩
 case round=>
  obtain⟨wi,k,rfl,hk,rfl,rfl,hun,hbw⟩:=hrel
  have HU:=hQq hun;clear hun
  have CC:=zAG hbw hb HC.out
  by_cases hlt:k < i
  ·have hkt:k < t.length:=by omega
   obtain⟨b',off',vb,he,hb',hvb,dd⟩:=HV.out.tr k hkt
   cases he
   have DD:=zAG hbw hb dd
   have HGK:=hQq (zAm t k hkt)
   have hvb':=(zAj.attrs hvb).ext hbw
   have hl1:=HAT.out _ (List.getElem_mem hkt)
   obtain⟨a4,cap4,rfl⟩:=hvb.form
   have jk:((k:Nat):Int) < (t.length:Int):=by omega
   have HMS:Hid (zAJ t (k+1)=max (zAJ t k) (t[k]'hkt).cl):=hQq (by rw [zAJ.eq_2,zAm t k hkt])
   generalize t[k]'hkt=y at DD HGK hvb' hvb hl1 HMS dd
   have HVB:=hQq hvb'
   have hx':=HVA.out.ext hbw
   have HVX:=hQq hx'
   have HB:=hQq hbw
   have hbb:=Nat.lt_of_lt_of_le hb hbw.size
   have hst:∀ hh:(decide (0 < x.cl) && (y.cl == x.cl) && !zA5 y x)=false,zBS t i (k+1)=false:=fun hh=>zLa HU.out (by rw [HG.out,HGK.out];exact hh)
   have HST:=hQq hst
   clear hst hvb hvb' hx' hbw dd
   by_cases p1:0 < x.cl
   case neg=>
    have HN:=hQq (HST.out (by simp [p1]))
    obtain⟨c0,c1,c2,c3,c4,c5,c6,c7⟩:=CC
    obtain⟨d0,d1,d2,d3,d4,d5,d6,d7⟩:=DD
    have p1':decide (0 < x.cl)=false:=decide_eq_false p1
    go_wp2
    all_goals
     go_quiet (fail)
     go_wp2
     go_roundw
     case rel=>exact⟨_,k+1,rfl,by omega,by go_num,by rw [HMS.out];first | done | exact zP1 (by omega),HN.out,Ext.trans HB.out (eDn _ _)⟩
     case measure=>simp [intOf] <;> omega
   by_cases p2:y.cl=x.cl
   case neg=>
    have HN:=hQq (HST.out (by simp [nB p2]))
    obtain⟨c0,c1,c2,c3,c4,c5,c6,c7⟩:=CC
    obtain⟨d0,d1,d2,d3,d4,d5,d6,d7⟩:=DD
    have p2':(y.cl == x.cl)=false:=nB p2
    clear p2
    go_wp2
    all_goals
     go_quiet (fail)
     go_wp2
     go_roundw
     case rel=>exact⟨_,k+1,rfl,by omega,by go_num,by rw [HMS.out];first | done | exact zP1 (by omega),HN.out,Ext.trans HB.out (eDn _ _)⟩
     case measure=>simp [intOf] <;> omega
   have p2':(y.cl == x.cl)=true:=beq_iff_eq.2 p2
   clear p2
   have DD:=hQq DD
   have CC:=hQq CC
   obtain⟨c0,c1,c2,c3,c4,c5,c6,c7⟩:=CC.out
   obtain⟨d0,d1,d2,d3,d4,d5,d6,d7⟩:=DD.out
   have ji0:(0:Int)<=(i:Int):=by omega
   have jk0:(0:Int)<=(k:Int):=by omega
   cases hl:zA5 y x
   ·have HN:=hQq (zIh (t:=t) (i:=i) (k:=k) (by rw [HG.out,HGK.out,hl];simp [p1,p2']) i hlt)
    go_wp2
    all_goals
     go_region_held3 (fun w'=>w'.cell? ⟨b,off+k * 8,none⟩=some (.int .i64 y.dep)/\w'.cell? ⟨b,off+k * 8+1,none⟩=some (.string y.nm)/\w'.cell? ⟨b,off+k * 8+2,none⟩=some (.int .i64 y.kd)/\w'.cell? ⟨b,off+k * 8+3,none⟩=some (.slice a4 y.ats.length cap4)/\w'.cell? ⟨b,off+k * 8+4,none⟩=some (.string y.dat)/\w'.cell? ⟨b,off+k * 8+5,none⟩=some (.int .i64 y.ma)/\w'.cell? ⟨b,off+k * 8+6,none⟩=some (.int .i64 y.mi)/\w'.cell? ⟨b,off+k * 8+7,none⟩=some (.int .i64 y.cl)/\w'.cell? ⟨b,off+i * 8,none⟩=some (.int .i64 x.dep)/\w'.cell? ⟨b,off+i * 8+1,none⟩=some (.string x.nm)/\w'.cell? ⟨b,off+i * 8+2,none⟩=some (.int .i64 x.kd)/\w'.cell? ⟨b,off+i * 8+3,none⟩=some (.slice a3 x.ats.length cap3)/\w'.cell? ⟨b,off+i * 8+4,none⟩=some (.string x.dat)/\w'.cell? ⟨b,off+i * 8+5,none⟩=some (.int .i64 x.ma)/\w'.cell? ⟨b,off+i * 8+6,none⟩=some (.int .i64 x.mi)/\w'.cell? ⟨b,off+i * 8+7,none⟩=some (.int .i64 x.cl)) (first | go_keep | (refine⟨?_,?_,?_,?_,?_,?_,?_,?_,?_,?_,?_,?_,?_,?_,?_,?_⟩ <;> assumption))
      ((go_at_call 95;refine(zI7 y x _ _ _ (HVB.out.ext (by first | exact eDn _ _ | exact bR _ _ | exact Ext.trans (eDn _ _) (eDn _ _))) (HVX.out.ext (by first | exact eDn _ _ | exact bR _ _ | exact Ext.trans (eDn _ _) (eDn _ _))) hl1).mono ?_;rintro e w3 ⟨rfl,hb3⟩;obtain⟨g0,g1,g2,g3,g4,g5,g6,g7⟩:=zAG hb3 hbb DD.out;obtain⟨f0,f1,f2,f3,f4,f5,f6,f7⟩:=zAG hb3 hbb CC.out;have H3:=hQq hb3;clear hb3))
     go_wp2
     go_ret
     exact⟨by unfold zF4;rw [if_pos HN.out];rfl,Ext.trans HB.out (by first | exact H3.out | exact Ext.trans (eDn _ _) H3.out | exact Ext.trans (eDn _ _) (Ext.trans H3.out (eDn _ _)))⟩
   ·have HN:=hQq (HST.out (by simp [hl]))
    go_wp2
    all_goals
     go_region_held3 (fun w'=>w'.cell? ⟨b,off+k * 8,none⟩=some (.int .i64 y.dep)/\w'.cell? ⟨b,off+k * 8+1,none⟩=some (.string y.nm)/\w'.cell? ⟨b,off+k * 8+2,none⟩=some (.int .i64 y.kd)/\w'.cell? ⟨b,off+k * 8+3,none⟩=some (.slice a4 y.ats.length cap4)/\w'.cell? ⟨b,off+k * 8+4,none⟩=some (.string y.dat)/\w'.cell? ⟨b,off+k * 8+5,none⟩=some (.int .i64 y.ma)/\w'.cell? ⟨b,off+k * 8+6,none⟩=some (.int .i64 y.mi)/\w'.cell? ⟨b,off+k * 8+7,none⟩=some (.int .i64 y.cl)/\w'.cell? ⟨b,off+i * 8,none⟩=some (.int .i64 x.dep)/\w'.cell? ⟨b,off+i * 8+1,none⟩=some (.string x.nm)/\w'.cell? ⟨b,off+i * 8+2,none⟩=some (.int .i64 x.kd)/\w'.cell? ⟨b,off+i * 8+3,none⟩=some (.slice a3 x.ats.length cap3)/\w'.cell? ⟨b,off+i * 8+4,none⟩=some (.string x.dat)/\w'.cell? ⟨b,off+i * 8+5,none⟩=some (.int .i64 x.ma)/\w'.cell? ⟨b,off+i * 8+6,none⟩=some (.int .i64 x.mi)/\w'.cell? ⟨b,off+i * 8+7,none⟩=some (.int .i64 x.cl)) (first | go_keep | (refine⟨?_,?_,?_,?_,?_,?_,?_,?_,?_,?_,?_,?_,?_,?_,?_,?_⟩ <;> assumption))
      ((go_at_call 95;refine(zI7 y x _ _ _ (HVB.out.ext (by first | exact eDn _ _ | exact bR _ _ | exact Ext.trans (eDn _ _) (eDn _ _))) (HVX.out.ext (by first | exact eDn _ _ | exact bR _ _ | exact Ext.trans (eDn _ _) (eDn _ _))) hl1).mono ?_;rintro e w3 ⟨rfl,hb3⟩;obtain⟨g0,g1,g2,g3,g4,g5,g6,g7⟩:=zAG hb3 hbb DD.out;obtain⟨f0,f1,f2,f3,f4,f5,f6,f7⟩:=zAG hb3 hbb CC.out;have H3:=hQq hb3;clear hb3))
     go_wp2
     go_roundw
     case rel=>exact⟨_,k+1,rfl,by omega,by go_num,by rw [HMS.out];first | done | exact zP1 (by omega),HN.out,Ext.trans HB.out (by first | exact H3.out | exact Ext.trans (eDn _ _) H3.out | exact Ext.trans (eDn _ _) (Ext.trans H3.out (eDn _ _)))⟩
     case measure=>simp [intOf] <;> omega
  ·obtain rfl:k=i:=by omega
   have HB:=hQq hbw
   obtain⟨m0,m1⟩:=HM.out k (Nat.le_refl _)
   obtain⟨c0,c1,c2,c3,c4,c5,c6,c7⟩:=CC
   have HR:Hid (zF4 t k=if x.cl < 0\/zAJ t k+1 < x.cl then 6 else 0):=hQq (by unfold zF4;rw [if_neg (by rw [HU.out];exact Bool.false_ne_true),HG.out])
   clear hbw
   by_cases r1:x.cl < 0
   ·go_wp2
    go_ret
    exact⟨by rw [HR.out,if_pos (.inl r1)];rfl,HB.out⟩
   by_cases r2:zAJ t k+1 < x.cl
   ·go_wp2
    go_ret
    exact⟨by rw [HR.out,if_pos (.inr r2)];rfl,HB.out⟩
   ·go_wp2
    go_ret
    exact⟨by rw [HR.out,if_neg (by omega)];rfl,HB.out⟩
end Go.Proofs.YtbeeoomadnmogaaGreat
