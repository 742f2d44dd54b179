/- NodD NodE -/
import Derived.Test.YtbeeoomadnmogaaGreatQI2
import Derived.Test.YtbeeoomadnmogaaGreatQAttrA
import Derived.Test.YtbeeoomadnmogaaGreatQNodA
import Derived.Test.YtbeeoomadnmogaaGreatQNodC
set_option maxRecDepth 100000
set_option maxHeartbeats 64000000
namespace Go.Proofs.YtbeeoomadnmogaaGreat
open Go.RowKit
theorem zJi (B:Nat)(v:Value)(t:List TrN)(c:Int)(w:World)(hv:zCa B w v t)(hm:t.length<=1000):zAs Tryz.prog 93 #[v,.int .i64 c] w (.int .i64 (zAi t c t.length)):=by
 unfold zAs;obtain⟨aa,cap,rfl⟩:=hv.form;have HV:=hQq hv;clear hv;go_enter Tryz.func93,Tryz.ntmps93;go_wp2;go_loopw [5,6] (fun n i w'=>∃(wi:World) (k:Nat),wi=w'/\k<=t.length/\i= .int .i64 k/\n= .int .i64 (zAi t c k)/\zAi t c k<=k/\Ext w w') (fun _ i _=>t.length-(intOf i).toNat)
 case atStart=>exact⟨_,0,rfl,Nat.zero_le _,rfl,rfl,Nat.le_refl _,bR _ _⟩
 case round=>
  obtain⟨wi,k,rfl,hk,rfl,rfl,hck,hb⟩:=hrel;by_cases hlt:k<t.length
  ·obtain⟨b,off,va,he,hbs,_,_,_,_,_,_,_,_,c7⟩:=HV.out.tr k hlt;cases he;replace c7:=(eC hb hbs).trans c7;have HB:=hQq hb;clear hb;by_cases e:(t[k]'hlt).cl=c
   ·have HN:Hid (zAi t c (k+1)=zAi t c k+1):=hQq (by rw[zAi.eq_2,zAl t k hlt,if_pos e]);generalize t[k]'hlt=x at c7 e;have q1:(x.cl==c)=true:=beq_iff_eq.2 e;clear e;go_wp2;go_roundw
    case rel=>exact⟨_,k+1,rfl,by omega,by go_num,by rw[HN.out];go_num,by rw[HN.out];omega,HB.out⟩
    case measure=>simp[intOf]<;>omega
   ·have HN:Hid (zAi t c (k+1)=zAi t c k):=hQq (by rw[zAi.eq_2,zAl t k hlt,if_neg e];rfl);generalize t[k]'hlt=x at c7 e;have q1:(x.cl==c)=false:=nB e;clear e;go_wp2;go_roundw
    case rel=>exact⟨_,k+1,rfl,by omega,by go_num,by rw[HN.out],by rw[HN.out];omega,HB.out⟩
    case measure=>simp[intOf]<;>omega
  ·obtain rfl:k=t.length:=by omega
   have HB:=hQq hb;clear hb;go_wp2;go_ret;exact⟨rfl,HB.out⟩
theorem zCk (B:Nat)(v:Value)(t:List TrN)(i:Nat)(w:World)(hv:zCa B w v t)(hi:i<t.length)(hm:t.length<=1000)(hmost:∀k,k<=i->0<=zAK t k/\zAK t k<=1000)(hats:∀x∈t,x.ats.length<=1000000):zAs Tryz.prog 92 #[v,.int .i64 i] w (.int .i64 (zGc t i)):=by
 unfold zAs;obtain⟨aa,cap,rfl⟩:=hv.form;obtain⟨b,off,va,rfl,hb,hva,cc⟩:=hv.tr i hi;have HV:=hQq hv;clear hv;have HM:=hQq hmost;clear hmost;have HG:=hQq (zAl t i hi);have ji:((i:Nat):Int)<(t.length:Int):=by omega
 have HAT:=hQq hats;clear hats;have hva':=zAh.attrs hva;obtain⟨a3,cap3,rfl⟩:=hva.form;generalize t[i]'hi=x at cc HG hva' hva;have HVA:=hQq hva';have HC:=hQq cc;clear hva hva' cc;go_enter Tryz.func92,Tryz.ntmps92;go_wp2;go_loopw [5,6] (fun m kk w'=>∃(wi:World) (k:Nat),wi=w'/\k<=i/\kk= .int .i64 k/\m= .int .i64 (zAK t k)/\zBB t i k=false/\Ext w w') (fun _ kk _=>i-(intOf kk).toNat)
 case atStart=>exact⟨_,0,rfl,Nat.zero_le _,rfl,rfl,rfl,bR _ _⟩
 case round=>
  obtain⟨wi,k,rfl,hk,rfl,rfl,hun,hbw⟩:=hrel;have HU:=hQq hun;clear hun;have CC:=zAB hbw hb HC.out;by_cases hlt:k<i
  ·have hkt:k<t.length:=by omega
   obtain⟨b',off',vb,he,hb',hvb,dd⟩:=HV.out.tr k hkt;cases he;have DD:=zAB hbw hb dd;have HGK:=hQq (zAl t k hkt);have hvb':=(zAh.attrs hvb).ext hbw;have hl1:=HAT.out _ (List.getElem_mem hkt);obtain⟨a4,cap4,rfl⟩:=hvb.form;have jk:((k:Nat):Int)<(t.length:Int):=by omega
   have HMS:Hid (zAK t (k+1)=max (zAK t k) (t[k]'hkt).cl):=hQq (by rw[zAK.eq_2,zAl t k hkt]);generalize t[k]'hkt=y at DD HGK hvb' hvb hl1 HMS dd;have HVB:=hQq hvb';have hx':=HVA.out.ext hbw;have HVX:=hQq hx';have HB:=hQq hbw;have hbb:=Nat.lt_of_lt_of_le hb hbw.size;have hst:∀hh:(decide (0<x.cl)&&(y.cl==x.cl)&& !zAT y x)=false,zBB t i (k+1)=false:=fun hh=>zLl HU.out (by rw[HG.out,HGK.out];exact hh);have HST:=hQq hst;clear hst hvb hvb' hx' hbw dd;by_cases p1:0<x.cl
   case neg=>
    have HN:=hQq (HST.out (by simp[p1]));obtain⟨c0,c1,c2,c3,c4,c5,c6,c7⟩:=CC;obtain⟨d0,d1,d2,d3,d4,d5,d6,d7⟩:=DD;have p1':decide (0<x.cl)=false:=decide_eq_false p1;go_wp2
    all_goals
     go_quiet (fail)
     go_wp2;go_roundw
     case rel=>exact⟨_,k+1,rfl,by omega,by go_num,by rw[HMS.out];first|done|exact zQb (by omega),HN.out,Ext.trans HB.out (eDn _ _)⟩
     case measure=>simp[intOf]<;>omega
   by_cases p2:y.cl=x.cl
   case neg=>
    have HN:=hQq (HST.out (by simp[nB p2]));obtain⟨c0,c1,c2,c3,c4,c5,c6,c7⟩:=CC;obtain⟨d0,d1,d2,d3,d4,d5,d6,d7⟩:=DD;have p2':(y.cl==x.cl)=false:=nB p2;clear p2;go_wp2
    all_goals
     go_quiet (fail)
     go_wp2;go_roundw
     case rel=>exact⟨_,k+1,rfl,by omega,by go_num,by rw[HMS.out];first|done|exact zQb (by omega),HN.out,Ext.trans HB.out (eDn _ _)⟩
     case measure=>simp[intOf]<;>omega
   have p2':(y.cl==x.cl)=true:=beq_iff_eq.2 p2;clear p2;have DD:=hQq DD;have CC:=hQq CC;obtain⟨c0,c1,c2,c3,c4,c5,c6,c7⟩:=CC.out;obtain⟨d0,d1,d2,d3,d4,d5,d6,d7⟩:=DD.out;have ji0:(0:Int)<=(i:Int):=by omega
   have jk0:(0:Int)<=(k:Int):=by omega
   cases hl:zAT y x
   ·have HN:=hQq (zNV (t:=t) (i:=i) (k:=k) (by rw[HG.out,HGK.out,hl];simp[p1,p2']) i hlt);go_wp2
    all_goals
     go_region_held3 (fun w'=>w'.cell? ⟨b,off+k*8,none⟩=some (.int .i64 y.dep)/\w'.cell? ⟨b,off+k*8+1,none⟩=some (.string y.nm)/\w'.cell? ⟨b,off+k*8+2,none⟩=some (.int .i64 y.kd)/\w'.cell? ⟨b,off+k*8+3,none⟩=some (.slice a4 y.ats.length cap4)/\w'.cell? ⟨b,off+k*8+4,none⟩=some (.string y.dat)/\w'.cell? ⟨b,off+k*8+5,none⟩=some (.int .i64 y.ma)/\w'.cell? ⟨b,off+k*8+6,none⟩=some (.int .i64 y.mi)/\w'.cell? ⟨b,off+k*8+7,none⟩=some (.int .i64 y.cl)/\w'.cell? ⟨b,off+i*8,none⟩=some (.int .i64 x.dep)/\w'.cell? ⟨b,off+i*8+1,none⟩=some (.string x.nm)/\w'.cell? ⟨b,off+i*8+2,none⟩=some (.int .i64 x.kd)/\w'.cell? ⟨b,off+i*8+3,none⟩=some (.slice a3 x.ats.length cap3)/\w'.cell? ⟨b,off+i*8+4,none⟩=some (.string x.dat)/\w'.cell? ⟨b,off+i*8+5,none⟩=some (.int .i64 x.ma)/\w'.cell? ⟨b,off+i*8+6,none⟩=some (.int .i64 x.mi)/\w'.cell? ⟨b,off+i*8+7,none⟩=some (.int .i64 x.cl)) (first|go_keep|(refine⟨?_,?_,?_,?_,?_,?_,?_,?_,?_,?_,?_,?_,?_,?_,?_,?_⟩<;>assumption))
      ((go_at_call 95;refine(zHv y x _ _ _ (HVB.out.ext (by first|exact eDn _ _|exact bR _ _|exact Ext.trans (eDn _ _) (eDn _ _))) (HVX.out.ext (by first|exact eDn _ _|exact bR _ _|exact Ext.trans (eDn _ _) (eDn _ _))) hl1).mono ?_;rintro e w3 ⟨rfl,hb3⟩;obtain⟨g0,g1,g2,g3,g4,g5,g6,g7⟩:=zAB hb3 hbb DD.out;obtain⟨f0,f1,f2,f3,f4,f5,f6,f7⟩:=zAB hb3 hbb CC.out;have H3:=hQq hb3;clear hb3))
     go_wp2;go_ret;exact⟨by unfold zGc;rw[if_pos HN.out];rfl,Ext.trans HB.out (by first|exact H3.out|exact Ext.trans (eDn _ _) H3.out|exact Ext.trans (eDn _ _) (Ext.trans H3.out (eDn _ _)))⟩
   ·have HN:=hQq (HST.out (by simp[hl]));go_wp2
    all_goals
     go_region_held3 (fun w'=>w'.cell? ⟨b,off+k*8,none⟩=some (.int .i64 y.dep)/\w'.cell? ⟨b,off+k*8+1,none⟩=some (.string y.nm)/\w'.cell? ⟨b,off+k*8+2,none⟩=some (.int .i64 y.kd)/\w'.cell? ⟨b,off+k*8+3,none⟩=some (.slice a4 y.ats.length cap4)/\w'.cell? ⟨b,off+k*8+4,none⟩=some (.string y.dat)/\w'.cell? ⟨b,off+k*8+5,none⟩=some (.int .i64 y.ma)/\w'.cell? ⟨b,off+k*8+6,none⟩=some (.int .i64 y.mi)/\w'.cell? ⟨b,off+k*8+7,none⟩=some (.int .i64 y.cl)/\w'.cell? ⟨b,off+i*8,none⟩=some (.int .i64 x.dep)/\w'.cell? ⟨b,off+i*8+1,none⟩=some (.string x.nm)/\w'.cell? ⟨b,off+i*8+2,none⟩=some (.int .i64 x.kd)/\w'.cell? ⟨b,off+i*8+3,none⟩=some (.slice a3 x.ats.length cap3)/\w'.cell? ⟨b,off+i*8+4,none⟩=some (.string x.dat)/\w'.cell? ⟨b,off+i*8+5,none⟩=some (.int .i64 x.ma)/\w'.cell? ⟨b,off+i*8+6,none⟩=some (.int .i64 x.mi)/\w'.cell? ⟨b,off+i*8+7,none⟩=some (.int .i64 x.cl)) (first|go_keep|(refine⟨?_,?_,?_,?_,?_,?_,?_,?_,?_,?_,?_,?_,?_,?_,?_,?_⟩<;>assumption))
      ((go_at_call 95;refine(zHv y x _ _ _ (HVB.out.ext (by first|exact eDn _ _|exact bR _ _|exact Ext.trans (eDn _ _) (eDn _ _))) (HVX.out.ext (by first|exact eDn _ _|exact bR _ _|exact Ext.trans (eDn _ _) (eDn _ _))) hl1).mono ?_;rintro e w3 ⟨rfl,hb3⟩;obtain⟨g0,g1,g2,g3,g4,g5,g6,g7⟩:=zAB hb3 hbb DD.out;obtain⟨f0,f1,f2,f3,f4,f5,f6,f7⟩:=zAB hb3 hbb CC.out;have H3:=hQq hb3;clear hb3))
     go_wp2;go_roundw
     case rel=>exact⟨_,k+1,rfl,by omega,by go_num,by rw[HMS.out];first|done|exact zQb (by omega),HN.out,Ext.trans HB.out (by first|exact H3.out|exact Ext.trans (eDn _ _) H3.out|exact Ext.trans (eDn _ _) (Ext.trans H3.out (eDn _ _)))⟩
     case measure=>simp[intOf]<;>omega
  ·obtain rfl:k=i:=by omega
   have HB:=hQq hbw;obtain⟨m0,m1⟩:=HM.out k (Nat.le_refl _);obtain⟨c0,c1,c2,c3,c4,c5,c6,c7⟩:=CC;have HR:Hid (zGc t k=if x.cl<0\/zAK t k+1<x.cl then 6 else 0):=hQq (by unfold zGc;rw[if_neg (by rw[HU.out];exact Bool.false_ne_true),HG.out]);clear hbw;by_cases r1:x.cl<0
   ·go_wp2;go_ret;exact⟨by rw[HR.out,if_pos (.inl r1)];rfl,HB.out⟩
   by_cases r2:zAK t k+1<x.cl
   ·go_wp2;go_ret;exact⟨by rw[HR.out,if_pos (.inr r2)];rfl,HB.out⟩
   ·go_wp2;go_ret;exact⟨by rw[HR.out,if_neg (by omega)];rfl,HB.out⟩
theorem zFq (B B':Nat)(u v:Value)(s t:List TrN)(w:World)(hu:zCa B w u s)(hv:zCa B' w v t)(hl:s.length<=1000000)(hats:∀x∈s,x.ats.length<=1000000):
  zAs Tryz.prog 27 #[u,v] w (.bool (zCS s t)):=by
 unfold zAs;obtain⟨aa,cap,rfl⟩:=hu.form;obtain⟨ba,cap2,rfl⟩:=hv.form;have HU:=hQq hu;clear hu;have HV:=hQq hv;clear hv;have HAT:=hQq hats;clear hats;by_cases hab:s.length=t.length
 case neg=>
  have e0:(((s.length:Nat):Int) != ((t.length:Nat):Int))=true:=by rw[bne_iff_ne];omega
  rw[zFM fun e=>hab (by rw[e])];go_enter Tryz.func27,Tryz.ntmps27;go_wp2;go_ret;exact⟨rfl,bR _ _⟩
 have e0:(((s.length:Nat):Int) != ((t.length:Nat):Int))=false:=by rw[bne_eq_false_iff_eq];omega
 have HAB:=hQq hab;clear hab;go_enter Tryz.func27,Tryz.ntmps27;go_wp2;go_loopw [5] (fun i w'=>∃(wi:World) (k:Nat),wi=w'/\k<=s.length/\i= .int .i64 k/\zGJ s t k/\Ext w w') (fun i _=>s.length-(intOf i).toNat)
 case atStart=>exact⟨_,0,rfl,Nat.zero_le _,rfl,fun j hj=>absurd hj (by omega),bR _ _⟩
 case round=>
  obtain⟨wi,k,rfl,hk,rfl,hs,hb⟩:=hrel;have HS:=hQq hs;clear hs;by_cases hlt:k<s.length
  case neg=>
   obtain rfl:k=s.length:=by omega
   have HN:=hQq (zC3 (zDF HAB.out HS.out));have HB:=hQq hb;clear hb;go_wp2;go_ret;exact⟨by rw[HN.out];rfl,HB.out⟩
  have hlt2:k<t.length:=by have:=HAB.out;omega
  obtain⟨bx,offx,vx,hex,hbx,hvx,xx⟩:=HU.out.tr k hlt;obtain⟨by1,offy,vy,hey,hby,hvy,yy⟩:=HV.out.tr k hlt2;cases hex;cases hey;have XX:=zAB hb hbx xx;have YY:=zAB hb hby yy;have hvx':=(zAh.attrs hvx).ext hb;have hvy':=(zAh.attrs hvy).ext hb;have hl1:=HAT.out _ (List.getElem_mem hlt);obtain⟨ax,capx,rfl⟩:=hvx.form;obtain⟨ay,capy,rfl⟩:=hvy.form;have hgx:s[k]? = some (s[k]'hlt):=List.getElem?_eq_getElem hlt;have hgy:t[k]? = some (t[k]'hlt2):=List.getElem?_eq_getElem hlt2;generalize s[k]'hlt=x at XX hvx' hvx xx hgx hl1;generalize t[k]'hlt2=y at YY hvy' hvy yy hgy;have HGX:=hQq hgx;have HGY:=hQq hgy;have HVX:=hQq hvx';have HVY:=hQq hvy';have CX:=hQq XX;have CY:=hQq YY;have HB:=hQq hb;have hne:¬x=y->zCS s t=false:=fun he=>zFM fun e=>he (by have h1:=HGX.out;rw[e,HGY.out]at h1;injection h1 with h1;exact h1.symm);have HNE:=hQq hne;replace hbx:=Nat.lt_of_lt_of_le hbx hb.size;replace hby:=Nat.lt_of_lt_of_le hby hb.size;have j1:((k:Nat):Int)<(s.length:Int):=by omega
  have j2:((k:Nat):Int)<(t.length:Int):=by omega
  have j0:(0:Int)<=(k:Int):=by omega
  clear hgx hgy hvx' hvy' hvx hvy xx yy XX YY hb hne e0;obtain⟨c0,c1,c2,c3,c4,c5,c6,c7⟩:=CX.out;obtain⟨d0,d1,d2,d3,d4,d5,d6,d7⟩:=CY.out;by_cases p1:x.dep=y.dep
  case neg=>
   have HN:=hQq (HNE.out fun e=>p1 (by rw[e]));have q1:(x.dep==y.dep)=false:=nB p1;have q2:(x.dep != y.dep)=true:=bne_iff_ne.2 p1;clear p1;go_wp2;go_quiet (fail)
   go_wp2;go_ret;exact⟨by rw[HN.out];rfl,Ext.trans HB.out (eDn _ _)⟩
  have q2:(x.dep != y.dep)=false:=by rw[bne_eq_false_iff_eq];exact p1
  have P1:=hQq p1;clear p1;cases p2:x.nm.toList==y.nm.toList
  ·have HN:=hQq (HNE.out fun e=>by rw[e]at p2;simp at p2);go_wp2;go_quiet (fail)
   go_wp2;go_ret;exact⟨by rw[HN.out];rfl,Ext.trans HB.out (eDn _ _)⟩
  by_cases p3:x.cl=y.cl
  case neg=>
   have HN:=hQq (HNE.out fun e=>p3 (by rw[e]));have q3:(x.cl != y.cl)=true:=bne_iff_ne.2 p3;clear p3;go_wp2;go_quiet (fail)
   go_wp2;go_ret;exact⟨by rw[HN.out];rfl,Ext.trans HB.out (eDn _ _)⟩
  have q3:(x.cl != y.cl)=false:=by rw[bne_eq_false_iff_eq];exact p3
  have P3:=hQq p3;clear p3;cases hlk:zAT x y
  ·have HN:=hQq (HNE.out fun e=>by rw[zBX.2 (by rw[e];simp)]at hlk;cases hlk);go_wp2;go_region_held3 (fun w'=>w'.cell? ⟨bx,offx+k*8,none⟩=some (.int .i64 x.dep)/\w'.cell? ⟨bx,offx+k*8+1,none⟩=some (.string x.nm)/\w'.cell? ⟨bx,offx+k*8+2,none⟩=some (.int .i64 x.kd)/\w'.cell? ⟨bx,offx+k*8+3,none⟩=some (.slice ax x.ats.length capx)/\w'.cell? ⟨bx,offx+k*8+4,none⟩=some (.string x.dat)/\w'.cell? ⟨bx,offx+k*8+5,none⟩=some (.int .i64 x.ma)/\w'.cell? ⟨bx,offx+k*8+6,none⟩=some (.int .i64 x.mi)/\w'.cell? ⟨bx,offx+k*8+7,none⟩=some (.int .i64 x.cl)/\w'.cell? ⟨by1,offy+k*8,none⟩=some (.int .i64 y.dep)/\w'.cell? ⟨by1,offy+k*8+1,none⟩=some (.string y.nm)/\w'.cell? ⟨by1,offy+k*8+2,none⟩=some (.int .i64 y.kd)/\w'.cell? ⟨by1,offy+k*8+3,none⟩=some (.slice ay y.ats.length capy)/\w'.cell? ⟨by1,offy+k*8+4,none⟩=some (.string y.dat)/\w'.cell? ⟨by1,offy+k*8+5,none⟩=some (.int .i64 y.ma)/\w'.cell? ⟨by1,offy+k*8+6,none⟩=some (.int .i64 y.mi)/\w'.cell? ⟨by1,offy+k*8+7,none⟩=some (.int .i64 y.cl)) (first|go_keep|(refine⟨?_,?_,?_,?_,?_,?_,?_,?_,?_,?_,?_,?_,?_,?_,?_,?_⟩<;>assumption))
    ((go_at_call 95;refine(zHv x y _ _ _ (HVX.out.ext (by first|exact eDn _ _|exact bR _ _|exact Ext.trans (eDn _ _) (eDn _ _))) (HVY.out.ext (by first|exact eDn _ _|exact bR _ _|exact Ext.trans (eDn _ _) (eDn _ _))) hl1).mono ?_;rintro e w3 ⟨rfl,hb3⟩;obtain⟨g0,g1,g2,g3,g4,g5,g6,g7⟩:=zAB hb3 hbx CX.out;obtain⟨f0,f1,f2,f3,f4,f5,f6,f7⟩:=zAB hb3 hby CY.out;have H3:=hQq hb3;clear hb3))
   go_wp2;go_ret;exact⟨by rw[HN.out];rfl,Ext.trans HB.out (by first|exact H3.out|exact Ext.trans (eDn _ _) H3.out|exact Ext.trans (eDn _ _) (Ext.trans H3.out (eDn _ _)))⟩
  ·have HEQ:=hQq (zVX P1.out (zBG (by rw[<- tL,<- tL];exact beq_iff_eq.1 p2)) P3.out hlk);have HN:Hid (zGJ s t (k+1)):=by
    intro j hj;by_cases e:j=k
    ·subst e;rw[HGX.out,HGY.out,HEQ.out]
    ·exact HS.out j (by omega)
   go_wp2;go_region_held3 (fun w'=>w'.cell? ⟨bx,offx+k*8,none⟩=some (.int .i64 x.dep)/\w'.cell? ⟨bx,offx+k*8+1,none⟩=some (.string x.nm)/\w'.cell? ⟨bx,offx+k*8+2,none⟩=some (.int .i64 x.kd)/\w'.cell? ⟨bx,offx+k*8+3,none⟩=some (.slice ax x.ats.length capx)/\w'.cell? ⟨bx,offx+k*8+4,none⟩=some (.string x.dat)/\w'.cell? ⟨bx,offx+k*8+5,none⟩=some (.int .i64 x.ma)/\w'.cell? ⟨bx,offx+k*8+6,none⟩=some (.int .i64 x.mi)/\w'.cell? ⟨bx,offx+k*8+7,none⟩=some (.int .i64 x.cl)/\w'.cell? ⟨by1,offy+k*8,none⟩=some (.int .i64 y.dep)/\w'.cell? ⟨by1,offy+k*8+1,none⟩=some (.string y.nm)/\w'.cell? ⟨by1,offy+k*8+2,none⟩=some (.int .i64 y.kd)/\w'.cell? ⟨by1,offy+k*8+3,none⟩=some (.slice ay y.ats.length capy)/\w'.cell? ⟨by1,offy+k*8+4,none⟩=some (.string y.dat)/\w'.cell? ⟨by1,offy+k*8+5,none⟩=some (.int .i64 y.ma)/\w'.cell? ⟨by1,offy+k*8+6,none⟩=some (.int .i64 y.mi)/\w'.cell? ⟨by1,offy+k*8+7,none⟩=some (.int .i64 y.cl)) (first|go_keep|(refine⟨?_,?_,?_,?_,?_,?_,?_,?_,?_,?_,?_,?_,?_,?_,?_,?_⟩<;>assumption))
    ((go_at_call 95;refine(zHv x y _ _ _ (HVX.out.ext (by first|exact eDn _ _|exact bR _ _|exact Ext.trans (eDn _ _) (eDn _ _))) (HVY.out.ext (by first|exact eDn _ _|exact bR _ _|exact Ext.trans (eDn _ _) (eDn _ _))) hl1).mono ?_;rintro e w3 ⟨rfl,hb3⟩;obtain⟨g0,g1,g2,g3,g4,g5,g6,g7⟩:=zAB hb3 hbx CX.out;obtain⟨f0,f1,f2,f3,f4,f5,f6,f7⟩:=zAB hb3 hby CY.out;have H3:=hQq hb3;clear hb3))
   go_wp2;go_roundw
   case rel=>exact⟨_,k+1,rfl,by omega,by go_num,HN.out,Ext.trans HB.out (by first|exact H3.out|exact Ext.trans (eDn _ _) H3.out|exact Ext.trans (eDn _ _) (Ext.trans H3.out (eDn _ _)))⟩
   case measure=>simp[intOf]<;>omega
theorem zEz (B:Nat)(v:Value)(t:List TrN)(w:World)(hv:zCa B w v t)(hsm:zAI t):
  zAs Tryz.prog 25 #[v] w (.tuple #[.int .i64 (zFc t),.int .i64 (zAt t)]):=by
 unfold zAs;obtain⟨aa,cap,rfl⟩:=hv.form;have HV:=hQq hv;clear hv;have HSM:=hQq hsm;clear hsm;have HAT:Hid (∀x∈t,x.ats.length<=1000000):=fun x hx=>(HSM.out x hx).2.2;by_cases h0:t.length=0
 ·obtain⟨e1,e2⟩:=zBh (zKf h0);rw[e1,e2];clear e1 e2;go_enter Tryz.func25,Tryz.ntmps25;go_wp2;go_ret2;exact⟨rfl,bR _ _⟩
 have g0:(((t.length:Nat):Int)==0)=false:=nB (by omega);have g1:0<t.length:=by omega
 by_cases h1:120<t.length
 ·obtain⟨e1,e2⟩:=zBh (zIv h1);rw[e1,e2];clear e1 e2;go_enter Tryz.func25,Tryz.ntmps25;go_wp2;go_ret2;exact⟨rfl,bR _ _⟩
 have H0:=hQq h0;clear h0;go_enter Tryz.func25,Tryz.ntmps25;go_wp2;clear g0;go_loopw [4] (fun i w'=>∃(wi:World) (k:Nat),wi=w'/\k<=t.length/\i= .int .i64 k/\zA1 t k/\Ext w w') (fun i _=>t.length-(intOf i).toNat)
 case atStart=>exact⟨_,0,rfl,Nat.zero_le _,rfl,fun j hj=>absurd hj (by omega),bR _ _⟩
 case round=>
  obtain⟨wi,k,rfl,hk,rfl,hok,hb⟩:=hrel;have HOK:=hQq hok;clear hok;by_cases hlt:k<t.length
  case neg=>
   obtain rfl:k=t.length:=by omega
   have HB:=hQq hb;clear hb;go_wp2;go_loopw [6] (fun i w'=>∃(wi:World) (k:Nat),wi=w'/\k<=t.length/\i= .int .i64 k/\(∀j,j<k->zDM t j=false)/\Ext w w') (fun i _=>t.length-(intOf i).toNat)
   case atStart=>exact⟨_,0,rfl,Nat.zero_le _,rfl,fun j hj=>absurd hj (by omega),HB.out⟩
   case round=>
    clear HB hk hlt;obtain⟨wi,k,rfl,hk,rfl,hlo,hb⟩:=hrel;have HLO:=hQq hlo;clear hlo;by_cases hlt:k<t.length
    case neg=>
     obtain rfl:k=t.length:=by omega
     have HR:=hQq (zBh (zES H0.out h1 HOK.out HLO.out));have HB:=hQq hb;clear hb;go_wp2;go_ret2;exact⟨by rw[HR.out.1,HR.out.2];rfl,HB.out⟩
    obtain⟨b,off,va,he,hbx,_,_,_,_,_,_,_,_,c7⟩:=HV.out.tr k hlt;cases he;have HGT:=hQq (zAl t k hlt);have d7:=(eC hb hbx).trans c7;have HB:=hQq hb;generalize t[k]'hlt=x at c7 d7 HGT;have j1:((k:Nat):Int)<(t.length:Int):=by omega
    have j0:(0:Int)<=(k:Int):=by omega
    by_cases p1:0<x.cl
    case neg=>
     have HN:Hid (∀j,j<k+1->zDM t j=false):=by
      intro j hj;by_cases e:j=k
      ·subst e;unfold zDM;rw[HGT.out];simp[p1]
      ·exact HLO.out j (by omega)
     have p1':decide (0<x.cl)=false:=decide_eq_false p1;clear hb c7;go_wp2;go_roundw
     case rel=>exact⟨_,k+1,rfl,by omega,by go_num,HN.out,HB.out⟩
     case measure=>simp[intOf]<;>omega
    by_cases p2:zAi t x.cl t.length=1
    case neg=>
     have HN:Hid (∀j,j<k+1->zDM t j=false):=by
      intro j hj;by_cases e:j=k
      ·subst e;unfold zDM;rw[HGT.out];simp[p2]
      ·exact HLO.out j (by omega)
     have p2':(((zAi t x.cl t.length:Nat):Int)==1)=false:=nB (by omega);clear hb c7 p2;go_wp2_with (go_at_call 93;refine(zJi B _ t x.cl _ (HV.out.ext okT HB.out) (by omega)).mono ?_;rintro e w1 ⟨rfl,hb1⟩;replace HB:=hQq (Ext.trans HB.out hb1);clear hb1)
     go_roundw
     case rel=>exact⟨_,k+1,rfl,by omega,by go_num,HN.out,HB.out⟩
     case measure=>simp[intOf]<;>omega
    ·have HR:=hQq (zBh (zIw h1 HOK.out hlt HLO.out (by unfold zDM;rw[HGT.out];simp[p1,p2])));have p2':(((zAi t x.cl t.length:Nat):Int)==1)=true:=beq_iff_eq.2 (by omega);clear hb c7 p2;go_wp2_with (go_at_call 93;refine(zJi B _ t x.cl _ (HV.out.ext okT HB.out) (by omega)).mono ?_;rintro e w1 ⟨rfl,hb1⟩;replace HB:=hQq (Ext.trans HB.out hb1);clear hb1)
     go_ret2;exact⟨by rw[HR.out.1,HR.out.2];rfl,HB.out⟩
  obtain⟨b,off,va,he,hbx,hva,xx⟩:=HV.out.tr k hlt;cases he;have HGT:=hQq (zAl t k hlt);have hvx:=zAh.attrs hva;obtain⟨ax,capx,rfl⟩:=hva.form;have HNS:Hid ((zAa t k).nm.size<=1000000):=hQq (by rw[HGT.out];exact(HSM.out _ (List.getElem_mem hlt)).1);have HAM:Hid (∀a∈(t[k]'hlt).ats,a.1.size<=1000000/\a.2.size<=1000000):=(HSM.out _ (List.getElem_mem hlt)).2.1;generalize t[k]'hlt=x at xx HGT hvx HAM hva;have XX:=hQq xx;have HVX:=hQq hvx;obtain⟨c0,c1,c2,c3,c4,c5,c6,c7⟩:=zAB hb hbx xx;have HB:=hQq hb;have HP:Hid (k≠0->0<=(zAa t (k-1)).dep/\(zAa t (k-1)).dep<=1000):=fun hk0=>by
   obtain⟨a,_⟩:=zAd (HOK.out (k-1) (by omega));have:=zA3 a;omega
  have HMC:Hid (∀j,j<=k->0<=zAK t j/\zAK t j<=1000):=fun j hj=>by
   have:=zEZ j (fun i hi=>HOK.out i (by omega));omega
  have j1:((k:Nat):Int)<(t.length:Int):=by omega
  have j0:(0:Int)<=(k:Int):=by omega
  clear xx hvx hva hb;by_cases hk0:k=0
  ·have HK0:=hQq hk0;have z0:decide ((0:Int)<(k:Int))=false:=decide_eq_false (by omega);have z1:decide (0<k)=false:=decide_eq_false (by omega);clear hk0;by_cases hx:zAD t k=0
   case neg=>
    have hn:zBc t k=zAD t k:=zFr hx;have HR:=hQq (zBh (zBH (by omega) hlt HOK.out (show zBc t k≠0 by rw[hn];exact hx)));have HR2:=hQq hn;have q1:(zAD t k==0)=false:=nB hx;have q2:(zAD t k != 0)=true:=bne_iff_ne.2 hx;clear hx hn;go_wp2_with (first|(go_at_call 88;refine(zCi B _ t k _ (HV.out.ext okT HB.out) hlt (by omega) HP.out).mono ?_;rintro e w1 ⟨rfl,hb1⟩;replace HB:=hQq (Ext.trans HB.out hb1);clear hb1;obtain⟨c0,c1,c2,c3,c4,c5,c6,c7⟩:=zAB HB.out hbx XX.out)|(go_at_call 89;refine(zCj B _ t k _ (HV.out.ext okT HB.out) hlt (by omega) HNS.out).mono ?_;rintro e w1 ⟨rfl,hb1⟩;replace HB:=hQq (Ext.trans HB.out hb1);clear hb1;obtain⟨c0,c1,c2,c3,c4,c5,c6,c7⟩:=zAB HB.out hbx XX.out)|(go_at_call 90;refine(zDa x _ _ ⟨_,_,rfl⟩).mono ?_;rintro e w1 ⟨rfl,hb1⟩;replace HB:=hQq (Ext.trans HB.out hb1);clear hb1;obtain⟨c0,c1,c2,c3,c4,c5,c6,c7⟩:=zAB HB.out hbx XX.out)|(go_at_call 91;refine(zBK _ x.ats _ (HVX.out.ext HB.out) HAM.out).mono ?_;rintro e w1 ⟨rfl,hb1⟩;replace HB:=hQq (Ext.trans HB.out hb1);clear hb1)|(go_at_call 92;refine(zCk B _ t k _ (HV.out.ext okT HB.out) hlt (by omega) HMC.out HAT.out).mono ?_;rintro e w1 ⟨rfl,hb1⟩;replace HB:=hQq (Ext.trans HB.out hb1);clear hb1))
    go_ret2;exact⟨by rw[HR.out.1,HR.out.2,HR2.out];rfl,HB.out⟩
   have s1:=hx;clear hx;have HE2:Hid (k≠0->zA0 t k=0):=hQq (fun h=>absurd HK0.out h);by_cases hx:zAc x=0
   case neg=>
    have hn:zBc t k=zAc x:=zGm HGT.out s1 HE2.out hx;have HR:=hQq (zBh (zBH (by omega) hlt HOK.out (show zBc t k≠0 by rw[hn];exact hx)));have HR2:=hQq hn;have q1:(zAc x==0)=false:=nB hx;have q2:(zAc x != 0)=true:=bne_iff_ne.2 hx;clear hx hn;go_wp2_with (first|(go_at_call 88;refine(zCi B _ t k _ (HV.out.ext okT HB.out) hlt (by omega) HP.out).mono ?_;rintro e w1 ⟨rfl,hb1⟩;replace HB:=hQq (Ext.trans HB.out hb1);clear hb1;obtain⟨c0,c1,c2,c3,c4,c5,c6,c7⟩:=zAB HB.out hbx XX.out)|(go_at_call 89;refine(zCj B _ t k _ (HV.out.ext okT HB.out) hlt (by omega) HNS.out).mono ?_;rintro e w1 ⟨rfl,hb1⟩;replace HB:=hQq (Ext.trans HB.out hb1);clear hb1;obtain⟨c0,c1,c2,c3,c4,c5,c6,c7⟩:=zAB HB.out hbx XX.out)|(go_at_call 90;refine(zDa x _ _ ⟨_,_,rfl⟩).mono ?_;rintro e w1 ⟨rfl,hb1⟩;replace HB:=hQq (Ext.trans HB.out hb1);clear hb1;obtain⟨c0,c1,c2,c3,c4,c5,c6,c7⟩:=zAB HB.out hbx XX.out)|(go_at_call 91;refine(zBK _ x.ats _ (HVX.out.ext HB.out) HAM.out).mono ?_;rintro e w1 ⟨rfl,hb1⟩;replace HB:=hQq (Ext.trans HB.out hb1);clear hb1)|(go_at_call 92;refine(zCk B _ t k _ (HV.out.ext okT HB.out) hlt (by omega) HMC.out HAT.out).mono ?_;rintro e w1 ⟨rfl,hb1⟩;replace HB:=hQq (Ext.trans HB.out hb1);clear hb1))
    go_ret2;exact⟨by rw[HR.out.1,HR.out.2,HR2.out];rfl,HB.out⟩
   have s3:=hx;clear hx;by_cases hx:zBS x.ats=0
   case neg=>
    have hn:zBc t k=zBS x.ats:=zFs HGT.out s1 HE2.out s3 hx;have HR:=hQq (zBh (zBH (by omega) hlt HOK.out (show zBc t k≠0 by rw[hn];exact hx)));have HR2:=hQq hn;have q1:(zBS x.ats==0)=false:=nB hx;have q2:(zBS x.ats != 0)=true:=bne_iff_ne.2 hx;clear hx hn;go_wp2_with (first|(go_at_call 88;refine(zCi B _ t k _ (HV.out.ext okT HB.out) hlt (by omega) HP.out).mono ?_;rintro e w1 ⟨rfl,hb1⟩;replace HB:=hQq (Ext.trans HB.out hb1);clear hb1;obtain⟨c0,c1,c2,c3,c4,c5,c6,c7⟩:=zAB HB.out hbx XX.out)|(go_at_call 89;refine(zCj B _ t k _ (HV.out.ext okT HB.out) hlt (by omega) HNS.out).mono ?_;rintro e w1 ⟨rfl,hb1⟩;replace HB:=hQq (Ext.trans HB.out hb1);clear hb1;obtain⟨c0,c1,c2,c3,c4,c5,c6,c7⟩:=zAB HB.out hbx XX.out)|(go_at_call 90;refine(zDa x _ _ ⟨_,_,rfl⟩).mono ?_;rintro e w1 ⟨rfl,hb1⟩;replace HB:=hQq (Ext.trans HB.out hb1);clear hb1;obtain⟨c0,c1,c2,c3,c4,c5,c6,c7⟩:=zAB HB.out hbx XX.out)|(go_at_call 91;refine(zBK _ x.ats _ (HVX.out.ext HB.out) HAM.out).mono ?_;rintro e w1 ⟨rfl,hb1⟩;replace HB:=hQq (Ext.trans HB.out hb1);clear hb1)|(go_at_call 92;refine(zCk B _ t k _ (HV.out.ext okT HB.out) hlt (by omega) HMC.out HAT.out).mono ?_;rintro e w1 ⟨rfl,hb1⟩;replace HB:=hQq (Ext.trans HB.out hb1);clear hb1))
    go_ret2;exact⟨by rw[HR.out.1,HR.out.2,HR2.out];rfl,HB.out⟩
   have s4:=hx;clear hx;by_cases hx:zGc t k=0
   case neg=>
    have hn:zBc t k=zGc t k:=zBO HGT.out s1 HE2.out s3 s4;have HR:=hQq (zBh (zBH (by omega) hlt HOK.out (show zBc t k≠0 by rw[hn];exact hx)));have HR2:=hQq hn;have q1:(zGc t k==0)=false:=nB hx;have q2:(zGc t k != 0)=true:=bne_iff_ne.2 hx;clear hx hn;go_wp2_with (first|(go_at_call 88;refine(zCi B _ t k _ (HV.out.ext okT HB.out) hlt (by omega) HP.out).mono ?_;rintro e w1 ⟨rfl,hb1⟩;replace HB:=hQq (Ext.trans HB.out hb1);clear hb1;obtain⟨c0,c1,c2,c3,c4,c5,c6,c7⟩:=zAB HB.out hbx XX.out)|(go_at_call 89;refine(zCj B _ t k _ (HV.out.ext okT HB.out) hlt (by omega) HNS.out).mono ?_;rintro e w1 ⟨rfl,hb1⟩;replace HB:=hQq (Ext.trans HB.out hb1);clear hb1;obtain⟨c0,c1,c2,c3,c4,c5,c6,c7⟩:=zAB HB.out hbx XX.out)|(go_at_call 90;refine(zDa x _ _ ⟨_,_,rfl⟩).mono ?_;rintro e w1 ⟨rfl,hb1⟩;replace HB:=hQq (Ext.trans HB.out hb1);clear hb1;obtain⟨c0,c1,c2,c3,c4,c5,c6,c7⟩:=zAB HB.out hbx XX.out)|(go_at_call 91;refine(zBK _ x.ats _ (HVX.out.ext HB.out) HAM.out).mono ?_;rintro e w1 ⟨rfl,hb1⟩;replace HB:=hQq (Ext.trans HB.out hb1);clear hb1)|(go_at_call 92;refine(zCk B _ t k _ (HV.out.ext okT HB.out) hlt (by omega) HMC.out HAT.out).mono ?_;rintro e w1 ⟨rfl,hb1⟩;replace HB:=hQq (Ext.trans HB.out hb1);clear hb1))
    go_ret2;exact⟨by rw[HR.out.1,HR.out.2,HR2.out];rfl,HB.out⟩
   have s5:=hx;clear hx;have HN:=hQq (HOK.out.step ((zBO HGT.out s1 HE2.out s3 s4).trans s5));go_wp2_with (first|(go_at_call 88;refine(zCi B _ t k _ (HV.out.ext okT HB.out) hlt (by omega) HP.out).mono ?_;rintro e w1 ⟨rfl,hb1⟩;replace HB:=hQq (Ext.trans HB.out hb1);clear hb1;obtain⟨c0,c1,c2,c3,c4,c5,c6,c7⟩:=zAB HB.out hbx XX.out)|(go_at_call 89;refine(zCj B _ t k _ (HV.out.ext okT HB.out) hlt (by omega) HNS.out).mono ?_;rintro e w1 ⟨rfl,hb1⟩;replace HB:=hQq (Ext.trans HB.out hb1);clear hb1;obtain⟨c0,c1,c2,c3,c4,c5,c6,c7⟩:=zAB HB.out hbx XX.out)|(go_at_call 90;refine(zDa x _ _ ⟨_,_,rfl⟩).mono ?_;rintro e w1 ⟨rfl,hb1⟩;replace HB:=hQq (Ext.trans HB.out hb1);clear hb1;obtain⟨c0,c1,c2,c3,c4,c5,c6,c7⟩:=zAB HB.out hbx XX.out)|(go_at_call 91;refine(zBK _ x.ats _ (HVX.out.ext HB.out) HAM.out).mono ?_;rintro e w1 ⟨rfl,hb1⟩;replace HB:=hQq (Ext.trans HB.out hb1);clear hb1)|(go_at_call 92;refine(zCk B _ t k _ (HV.out.ext okT HB.out) hlt (by omega) HMC.out HAT.out).mono ?_;rintro e w1 ⟨rfl,hb1⟩;replace HB:=hQq (Ext.trans HB.out hb1);clear hb1))
   go_roundw
   case rel=>exact⟨_,k+1,rfl,by omega,by go_num,HN.out,HB.out⟩
   case measure=>simp[intOf]<;>omega
  ·have HK0:=hQq hk0;have z0:decide ((0:Int)<(k:Int))=true:=decide_eq_true (by omega);have z1:0<k:=by omega
   clear hk0;by_cases hx:zAD t k=0
   case neg=>
    have hn:zBc t k=zAD t k:=zFr hx;have HR:=hQq (zBh (zBH (by omega) hlt HOK.out (show zBc t k≠0 by rw[hn];exact hx)));have HR2:=hQq hn;have q1:(zAD t k==0)=false:=nB hx;have q2:(zAD t k != 0)=true:=bne_iff_ne.2 hx;clear hx hn;go_wp2_with (first|(go_at_call 88;refine(zCi B _ t k _ (HV.out.ext okT HB.out) hlt (by omega) HP.out).mono ?_;rintro e w1 ⟨rfl,hb1⟩;replace HB:=hQq (Ext.trans HB.out hb1);clear hb1;obtain⟨c0,c1,c2,c3,c4,c5,c6,c7⟩:=zAB HB.out hbx XX.out)|(go_at_call 89;refine(zCj B _ t k _ (HV.out.ext okT HB.out) hlt (by omega) HNS.out).mono ?_;rintro e w1 ⟨rfl,hb1⟩;replace HB:=hQq (Ext.trans HB.out hb1);clear hb1;obtain⟨c0,c1,c2,c3,c4,c5,c6,c7⟩:=zAB HB.out hbx XX.out)|(go_at_call 90;refine(zDa x _ _ ⟨_,_,rfl⟩).mono ?_;rintro e w1 ⟨rfl,hb1⟩;replace HB:=hQq (Ext.trans HB.out hb1);clear hb1;obtain⟨c0,c1,c2,c3,c4,c5,c6,c7⟩:=zAB HB.out hbx XX.out)|(go_at_call 91;refine(zBK _ x.ats _ (HVX.out.ext HB.out) HAM.out).mono ?_;rintro e w1 ⟨rfl,hb1⟩;replace HB:=hQq (Ext.trans HB.out hb1);clear hb1)|(go_at_call 92;refine(zCk B _ t k _ (HV.out.ext okT HB.out) hlt (by omega) HMC.out HAT.out).mono ?_;rintro e w1 ⟨rfl,hb1⟩;replace HB:=hQq (Ext.trans HB.out hb1);clear hb1))
    go_ret2;exact⟨by rw[HR.out.1,HR.out.2,HR2.out];rfl,HB.out⟩
   have s1:=hx;clear hx;by_cases hx:zA0 t k=0
   case neg=>
    have hn:zBc t k=zA0 t k:=zHB s1 HK0.out hx;have HR:=hQq (zBh (zBH (by omega) hlt HOK.out (show zBc t k≠0 by rw[hn];exact hx)));have HR2:=hQq hn;have q1:(zA0 t k==0)=false:=nB hx;have q2:(zA0 t k != 0)=true:=bne_iff_ne.2 hx;clear hx hn;go_wp2_with (first|(go_at_call 88;refine(zCi B _ t k _ (HV.out.ext okT HB.out) hlt (by omega) HP.out).mono ?_;rintro e w1 ⟨rfl,hb1⟩;replace HB:=hQq (Ext.trans HB.out hb1);clear hb1;obtain⟨c0,c1,c2,c3,c4,c5,c6,c7⟩:=zAB HB.out hbx XX.out)|(go_at_call 89;refine(zCj B _ t k _ (HV.out.ext okT HB.out) hlt (by omega) HNS.out).mono ?_;rintro e w1 ⟨rfl,hb1⟩;replace HB:=hQq (Ext.trans HB.out hb1);clear hb1;obtain⟨c0,c1,c2,c3,c4,c5,c6,c7⟩:=zAB HB.out hbx XX.out)|(go_at_call 90;refine(zDa x _ _ ⟨_,_,rfl⟩).mono ?_;rintro e w1 ⟨rfl,hb1⟩;replace HB:=hQq (Ext.trans HB.out hb1);clear hb1;obtain⟨c0,c1,c2,c3,c4,c5,c6,c7⟩:=zAB HB.out hbx XX.out)|(go_at_call 91;refine(zBK _ x.ats _ (HVX.out.ext HB.out) HAM.out).mono ?_;rintro e w1 ⟨rfl,hb1⟩;replace HB:=hQq (Ext.trans HB.out hb1);clear hb1)|(go_at_call 92;refine(zCk B _ t k _ (HV.out.ext okT HB.out) hlt (by omega) HMC.out HAT.out).mono ?_;rintro e w1 ⟨rfl,hb1⟩;replace HB:=hQq (Ext.trans HB.out hb1);clear hb1))
    go_ret2;exact⟨by rw[HR.out.1,HR.out.2,HR2.out];rfl,HB.out⟩
   have s2:=hx;clear hx;have HE2:Hid (k≠0->zA0 t k=0):=hQq (fun _=>s2);by_cases hx:zAc x=0
   case neg=>
    have hn:zBc t k=zAc x:=zGm HGT.out s1 HE2.out hx;have HR:=hQq (zBh (zBH (by omega) hlt HOK.out (show zBc t k≠0 by rw[hn];exact hx)));have HR2:=hQq hn;have q1:(zAc x==0)=false:=nB hx;have q2:(zAc x != 0)=true:=bne_iff_ne.2 hx;clear hx hn;go_wp2_with (first|(go_at_call 88;refine(zCi B _ t k _ (HV.out.ext okT HB.out) hlt (by omega) HP.out).mono ?_;rintro e w1 ⟨rfl,hb1⟩;replace HB:=hQq (Ext.trans HB.out hb1);clear hb1;obtain⟨c0,c1,c2,c3,c4,c5,c6,c7⟩:=zAB HB.out hbx XX.out)|(go_at_call 89;refine(zCj B _ t k _ (HV.out.ext okT HB.out) hlt (by omega) HNS.out).mono ?_;rintro e w1 ⟨rfl,hb1⟩;replace HB:=hQq (Ext.trans HB.out hb1);clear hb1;obtain⟨c0,c1,c2,c3,c4,c5,c6,c7⟩:=zAB HB.out hbx XX.out)|(go_at_call 90;refine(zDa x _ _ ⟨_,_,rfl⟩).mono ?_;rintro e w1 ⟨rfl,hb1⟩;replace HB:=hQq (Ext.trans HB.out hb1);clear hb1;obtain⟨c0,c1,c2,c3,c4,c5,c6,c7⟩:=zAB HB.out hbx XX.out)|(go_at_call 91;refine(zBK _ x.ats _ (HVX.out.ext HB.out) HAM.out).mono ?_;rintro e w1 ⟨rfl,hb1⟩;replace HB:=hQq (Ext.trans HB.out hb1);clear hb1)|(go_at_call 92;refine(zCk B _ t k _ (HV.out.ext okT HB.out) hlt (by omega) HMC.out HAT.out).mono ?_;rintro e w1 ⟨rfl,hb1⟩;replace HB:=hQq (Ext.trans HB.out hb1);clear hb1))
    go_ret2;exact⟨by rw[HR.out.1,HR.out.2,HR2.out];rfl,HB.out⟩
   have s3:=hx;clear hx;by_cases hx:zBS x.ats=0
   case neg=>
    have hn:zBc t k=zBS x.ats:=zFs HGT.out s1 HE2.out s3 hx;have HR:=hQq (zBh (zBH (by omega) hlt HOK.out (show zBc t k≠0 by rw[hn];exact hx)));have HR2:=hQq hn;have q1:(zBS x.ats==0)=false:=nB hx;have q2:(zBS x.ats != 0)=true:=bne_iff_ne.2 hx;clear hx hn;go_wp2_with (first|(go_at_call 88;refine(zCi B _ t k _ (HV.out.ext okT HB.out) hlt (by omega) HP.out).mono ?_;rintro e w1 ⟨rfl,hb1⟩;replace HB:=hQq (Ext.trans HB.out hb1);clear hb1;obtain⟨c0,c1,c2,c3,c4,c5,c6,c7⟩:=zAB HB.out hbx XX.out)|(go_at_call 89;refine(zCj B _ t k _ (HV.out.ext okT HB.out) hlt (by omega) HNS.out).mono ?_;rintro e w1 ⟨rfl,hb1⟩;replace HB:=hQq (Ext.trans HB.out hb1);clear hb1;obtain⟨c0,c1,c2,c3,c4,c5,c6,c7⟩:=zAB HB.out hbx XX.out)|(go_at_call 90;refine(zDa x _ _ ⟨_,_,rfl⟩).mono ?_;rintro e w1 ⟨rfl,hb1⟩;replace HB:=hQq (Ext.trans HB.out hb1);clear hb1;obtain⟨c0,c1,c2,c3,c4,c5,c6,c7⟩:=zAB HB.out hbx XX.out)|(go_at_call 91;refine(zBK _ x.ats _ (HVX.out.ext HB.out) HAM.out).mono ?_;rintro e w1 ⟨rfl,hb1⟩;replace HB:=hQq (Ext.trans HB.out hb1);clear hb1)|(go_at_call 92;refine(zCk B _ t k _ (HV.out.ext okT HB.out) hlt (by omega) HMC.out HAT.out).mono ?_;rintro e w1 ⟨rfl,hb1⟩;replace HB:=hQq (Ext.trans HB.out hb1);clear hb1))
    go_ret2;exact⟨by rw[HR.out.1,HR.out.2,HR2.out];rfl,HB.out⟩
   have s4:=hx;clear hx;by_cases hx:zGc t k=0
   case neg=>
    have hn:zBc t k=zGc t k:=zBO HGT.out s1 HE2.out s3 s4;have HR:=hQq (zBh (zBH (by omega) hlt HOK.out (show zBc t k≠0 by rw[hn];exact hx)));have HR2:=hQq hn;have q1:(zGc t k==0)=false:=nB hx;have q2:(zGc t k != 0)=true:=bne_iff_ne.2 hx;clear hx hn;go_wp2_with (first|(go_at_call 88;refine(zCi B _ t k _ (HV.out.ext okT HB.out) hlt (by omega) HP.out).mono ?_;rintro e w1 ⟨rfl,hb1⟩;replace HB:=hQq (Ext.trans HB.out hb1);clear hb1;obtain⟨c0,c1,c2,c3,c4,c5,c6,c7⟩:=zAB HB.out hbx XX.out)|(go_at_call 89;refine(zCj B _ t k _ (HV.out.ext okT HB.out) hlt (by omega) HNS.out).mono ?_;rintro e w1 ⟨rfl,hb1⟩;replace HB:=hQq (Ext.trans HB.out hb1);clear hb1;obtain⟨c0,c1,c2,c3,c4,c5,c6,c7⟩:=zAB HB.out hbx XX.out)|(go_at_call 90;refine(zDa x _ _ ⟨_,_,rfl⟩).mono ?_;rintro e w1 ⟨rfl,hb1⟩;replace HB:=hQq (Ext.trans HB.out hb1);clear hb1;obtain⟨c0,c1,c2,c3,c4,c5,c6,c7⟩:=zAB HB.out hbx XX.out)|(go_at_call 91;refine(zBK _ x.ats _ (HVX.out.ext HB.out) HAM.out).mono ?_;rintro e w1 ⟨rfl,hb1⟩;replace HB:=hQq (Ext.trans HB.out hb1);clear hb1)|(go_at_call 92;refine(zCk B _ t k _ (HV.out.ext okT HB.out) hlt (by omega) HMC.out HAT.out).mono ?_;rintro e w1 ⟨rfl,hb1⟩;replace HB:=hQq (Ext.trans HB.out hb1);clear hb1))
    go_ret2;exact⟨by rw[HR.out.1,HR.out.2,HR2.out];rfl,HB.out⟩
   have s5:=hx;clear hx;have HN:=hQq (HOK.out.step ((zBO HGT.out s1 HE2.out s3 s4).trans s5));go_wp2_with (first|(go_at_call 88;refine(zCi B _ t k _ (HV.out.ext okT HB.out) hlt (by omega) HP.out).mono ?_;rintro e w1 ⟨rfl,hb1⟩;replace HB:=hQq (Ext.trans HB.out hb1);clear hb1;obtain⟨c0,c1,c2,c3,c4,c5,c6,c7⟩:=zAB HB.out hbx XX.out)|(go_at_call 89;refine(zCj B _ t k _ (HV.out.ext okT HB.out) hlt (by omega) HNS.out).mono ?_;rintro e w1 ⟨rfl,hb1⟩;replace HB:=hQq (Ext.trans HB.out hb1);clear hb1;obtain⟨c0,c1,c2,c3,c4,c5,c6,c7⟩:=zAB HB.out hbx XX.out)|(go_at_call 90;refine(zDa x _ _ ⟨_,_,rfl⟩).mono ?_;rintro e w1 ⟨rfl,hb1⟩;replace HB:=hQq (Ext.trans HB.out hb1);clear hb1;obtain⟨c0,c1,c2,c3,c4,c5,c6,c7⟩:=zAB HB.out hbx XX.out)|(go_at_call 91;refine(zBK _ x.ats _ (HVX.out.ext HB.out) HAM.out).mono ?_;rintro e w1 ⟨rfl,hb1⟩;replace HB:=hQq (Ext.trans HB.out hb1);clear hb1)|(go_at_call 92;refine(zCk B _ t k _ (HV.out.ext okT HB.out) hlt (by omega) HMC.out HAT.out).mono ?_;rintro e w1 ⟨rfl,hb1⟩;replace HB:=hQq (Ext.trans HB.out hb1);clear hb1))
   go_roundw
   case rel=>exact⟨_,k+1,rfl,by omega,by go_num,HN.out,HB.out⟩
   case measure=>simp[intOf]<;>omega
end Go.Proofs.YtbeeoomadnmogaaGreat
