/- NodA NodB TreP NodC NodD NodE ChkA RefA RefP PthR DirT DirN -/
import Derived.Test.YtbeeoomadnmogaaGreatQI2
import Derived.Test.YtbeeoomadnmogaaGreatQOwnA
set_option maxRecDepth 100000
set_option maxHeartbeats 64000000
namespace Go.Proofs.YtbeeoomadnmogaaGreat
open Go.RowKit
theorem zCy (v:Value) (l:List ByteArray) (w:World) (hv:zBY w v l):zAt Tryz.prog 105 #[v] w (.int .i64 (zAY l)):=by
 unfold zAt
 obtain⟨a,cap,rfl,hcap,hc⟩:=hv
 have HC:=hQq hc;clear hc
 by_cases hl:8 < l.length
 ·rw [zIp hl]
  go_enter Tryz.func105,Tryz.ntmps105
  go_wp2
  go_ret
  exact⟨rfl,bR _ _⟩
 rw [zMz hl]
 go_enter Tryz.func105,Tryz.ntmps105
 go_wp2
 go_loopw [11] (fun i w'=>∃ (wi:World) (k:Nat),wi=w'/\k<=l.length/\i= .int .i64 k/\zBT (l.take k)=0/\Ext w w') (fun i _=>l.length - (intOf i).toNat)
 case atStart=>exact⟨_,0,rfl,Nat.zero_le _,rfl,rfl,bR _ _⟩
 case round=>
  obtain⟨wi,k,rfl,hk,rfl,hf,hb⟩:=hrel
  have HF:=hQq hf;clear hf
  by_cases hlt:k < l.length
  ·obtain⟨b,off,rfl,hbs,h1⟩:=HC.out k hlt
   replace h1:=(eC hb hbs).trans h1
   have HB:=hQq hb;clear hb
   by_cases he:zAq (L (l[k]'hlt))=0
   ·have HN:=hQq (zHF l k hlt HF.out he)
    generalize l[k]'hlt=x at h1 he
    go_wp2_with (go_at_call 106;refine(zAX _ _).mono ?_;rintro e w' ⟨rfl,hb2⟩;have H2:=hQq hb2;clear hb2)
    go_roundw
    case rel=>exact⟨_,k+1,rfl,by omega,by go_num,HN.out,Ext.trans HB.out H2.out⟩
    case measure=>simp [intOf];omega
   ·have HN:=hQq (zIE l k hlt HF.out he)
    have he1:(zAq (L (l[k]'hlt)) != 0)=true:=bne_iff_ne.2 he
    clear he
    generalize l[k]'hlt=x at h1 he1 HN
    go_wp2_with (go_at_call 106;refine(zAX _ _).mono ?_;rintro e w' ⟨rfl,hb2⟩;have H2:=hQq hb2;clear hb2)
    go_ret
    exact⟨by rw [HN.out];rfl,Ext.trans HB.out H2.out⟩
  ·have HN:Hid (zBT l=0):=by have:=HF.out;rw [List.take_of_length_le (by omega)] at this;exact this
   have HB:=hQq hb;clear hb
   go_wp2
   go_ret
   exact⟨by rw [HN.out];rfl,HB.out⟩
theorem zFC (u v:Value) (a b:List ByteArray) (w:World) (hu:zBY w u a) (hv:zBY w v b) (hl:a.length<=1000000) :
  zAt Tryz.prog 62 #[u,v] w (.bool (decide (a=b))):=by
 unfold zAt
 obtain⟨aa,cap,rfl,_,hc⟩:=hu
 obtain⟨ba,cap2,rfl,_,hc2⟩:=hv
 have HC:=hQq hc;clear hc
 have HD:=hQq hc2;clear hc2
 by_cases hab:a.length=b.length
 ·have e0:(((a.length:Nat):Int) != ((b.length:Nat):Int))=false:=by rw [bne_eq_false_iff_eq];omega
  go_enter Tryz.func62,Tryz.ntmps62
  go_wp2
  go_loopw [5] (fun i w'=>∃ (wi:World) (k:Nat),wi=w'/\k<=a.length/\i= .int .i64 k/\zGA a b k/\Ext w w') (fun i _=>a.length - (intOf i).toNat)
  case atStart=>exact⟨_,0,rfl,Nat.zero_le _,rfl,fun j hj=>absurd hj (by omega),bR _ _⟩
  case round=>
   obtain⟨wi,k,rfl,hk,rfl,hs,hb⟩:=hrel
   have HS:=hQq hs;clear hs
   by_cases hlt:k < a.length
   ·obtain⟨bb,off,rfl,hbs,c1⟩:=HC.out k hlt
    obtain⟨bb2,off2,rfl,hbs2,d1⟩:=HD.out k (by omega)
    replace c1:=(eC hb hbs).trans c1
    replace d1:=(eC hb hbs2).trans d1
    have hx:a[k]? = some (a[k]'hlt):=List.getElem?_eq_getElem hlt
    have hy:b[k]? = some (b[k]'(by omega)):=List.getElem?_eq_getElem (by omega)
    generalize a[k]'hlt=x at c1 hx
    generalize b[k]'(by omega)=y at d1 hy
    have HX:=hQq hx;clear hx
    have HY:=hQq hy;clear hy
    have HB:=hQq hb;clear hb
    have j1:((k:Nat):Int) < (a.length:Int):=by omega
    have j2:((k:Nat):Int) < (b.length:Int):=by omega
    clear e0
    cases e1:x.toList == y.toList
    ·have he:¬ x=y:=fun e=>by rw [e] at e1;simp at e1
     have HN:=hQq (show decide (a=b)=false from decide_eq_false fun e=>he (by have h1:=HX.out;rw [e,HY.out] at h1;injection h1 with h1;exact h1.symm))
     clear he
     go_wp2
     go_quiet (fail)
     go_wp2
     go_ret
     exact⟨by rw [HN.out];rfl,Ext.trans HB.out (eDn _ _)⟩
    ·have he:x=y:=zBJ (by rw [<- tL,<- tL];exact beq_iff_eq.1 e1)
     have hN:zGA a b (k+1):=by
      intro j hj
      by_cases e:j=k
      ·subst e;rw [HX.out,HY.out,he]
      ·exact HS.out j (by omega)
     have HN:=hQq hN;clear hN he
     go_wp2
     go_quiet (fail)
     go_wp2
     go_roundw
     case rel=>exact⟨_,k+1,rfl,by omega,by go_num,HN.out,Ext.trans HB.out (eDn _ _)⟩
     case measure=>simp [intOf];omega
   ·obtain rfl:k=a.length:=by omega
    have HN:=hQq (show decide (a=b)=true from decide_eq_true (zDG hab HS.out))
    have HB:=hQq hb;clear hb
    go_wp2
    go_ret
    exact⟨by rw [HN.out];rfl,HB.out⟩
 ·have e0:(((a.length:Nat):Int) != ((b.length:Nat):Int))=true:=by rw [bne_iff_ne];omega
  rw [show decide (a=b)=false from decide_eq_false fun e=>hab (by rw [e])]
  go_enter Tryz.func62,Tryz.ntmps62
  go_wp2
  go_ret
  exact⟨rfl,bR _ _⟩
theorem zGQ (u v:Value) (a b:List ByteArray) (w:World) (hu:zBY w u a) (hv:zBY w v b) (hl:a.length<=1000000) :
  zAt Tryz.prog 145 #[u,v] w (.bool (decide (a=b))):=by
 unfold zAt
 obtain⟨aa,cap,rfl,_,hc⟩:=hu
 obtain⟨ba,cap2,rfl,_,hc2⟩:=hv
 have HC:=hQq hc;clear hc
 have HD:=hQq hc2;clear hc2
 by_cases hab:a.length=b.length
 ·have e0:(((a.length:Nat):Int) != ((b.length:Nat):Int))=false:=by rw [bne_eq_false_iff_eq];omega
  go_enter Tryz.func145,Tryz.ntmps145
  go_wp2
  go_loopw [13] (fun i w'=>∃ (wi:World) (k:Nat),wi=w'/\k<=a.length/\i= .int .i64 k/\zGA a b k/\Ext w w') (fun i _=>a.length - (intOf i).toNat)
  case atStart=>exact⟨_,0,rfl,Nat.zero_le _,rfl,fun j hj=>absurd hj (by omega),bR _ _⟩
  case round=>
   obtain⟨wi,k,rfl,hk,rfl,hs,hb⟩:=hrel
   have HS:=hQq hs;clear hs
   by_cases hlt:k < a.length
   ·obtain⟨bb,off,rfl,hbs,c1⟩:=HC.out k hlt
    obtain⟨bb2,off2,rfl,hbs2,d1⟩:=HD.out k (by omega)
    replace c1:=(eC hb hbs).trans c1
    replace d1:=(eC hb hbs2).trans d1
    have hx:a[k]? = some (a[k]'hlt):=List.getElem?_eq_getElem hlt
    have hy:b[k]? = some (b[k]'(by omega)):=List.getElem?_eq_getElem (by omega)
    generalize a[k]'hlt=x at c1 hx
    generalize b[k]'(by omega)=y at d1 hy
    have HX:=hQq hx;clear hx
    have HY:=hQq hy;clear hy
    have HB:=hQq hb;clear hb
    have j1:((k:Nat):Int) < (a.length:Int):=by omega
    have j2:((k:Nat):Int) < (b.length:Int):=by omega
    clear e0
    cases e1:x.toList == y.toList
    ·have he:¬ x=y:=fun e=>by rw [e] at e1;simp at e1
     have HN:=hQq (show decide (a=b)=false from decide_eq_false fun e=>he (by have h1:=HX.out;rw [e,HY.out] at h1;injection h1 with h1;exact h1.symm))
     clear he
     go_wp2
     go_quiet (fail)
     go_wp2
     go_ret
     exact⟨by rw [HN.out];rfl,Ext.trans HB.out (eDn _ _)⟩
    ·have he:x=y:=zBJ (by rw [<- tL,<- tL];exact beq_iff_eq.1 e1)
     have hN:zGA a b (k+1):=by
      intro j hj
      by_cases e:j=k
      ·subst e;rw [HX.out,HY.out,he]
      ·exact HS.out j (by omega)
     have HN:=hQq hN;clear hN he
     go_wp2
     go_quiet (fail)
     go_wp2
     go_roundw
     case rel=>exact⟨_,k+1,rfl,by omega,by go_num,HN.out,Ext.trans HB.out (eDn _ _)⟩
     case measure=>simp [intOf];omega
   ·obtain rfl:k=a.length:=by omega
    have HN:=hQq (show decide (a=b)=true from decide_eq_true (zDG hab HS.out))
    have HB:=hQq hb;clear hb
    go_wp2
    go_ret
    exact⟨by rw [HN.out];rfl,HB.out⟩
 ·have e0:(((a.length:Nat):Int) != ((b.length:Nat):Int))=true:=by rw [bne_iff_ne];omega
  rw [show decide (a=b)=false from decide_eq_false fun e=>hab (by rw [e])]
  go_enter Tryz.func145,Tryz.ntmps145
  go_wp2
  go_ret
  exact⟨rfl,bR _ _⟩
theorem zI5 (u v:Value) (a b:List zAr) (w:World) (hu:aA w u a) (hv:aA w v b) (hl:a.length<=1000000) :
  zAt Tryz.prog 61 #[u,v] w (.bool (decide (a=b))):=by
 unfold zAt
 obtain⟨aa,cap,rfl,_,hc⟩:=hu
 obtain⟨ba,cap2,rfl,_,hc2⟩:=hv
 have HC:=hQq hc;clear hc
 have HD:=hQq hc2;clear hc2
 by_cases hab:a.length=b.length
 ·have e0:(((a.length:Nat):Int) != ((b.length:Nat):Int))=false:=by rw [bne_eq_false_iff_eq];omega
  go_enter Tryz.func61,Tryz.ntmps61
  go_wp2
  go_loopw [5] (fun i w'=>∃ (wi:World) (k:Nat),wi=w'/\k<=a.length/\i= .int .i64 k/\zGA a b k/\Ext w w') (fun i _=>a.length - (intOf i).toNat)
  case atStart=>exact⟨_,0,rfl,Nat.zero_le _,rfl,fun j hj=>absurd hj (by omega),bR _ _⟩
  case round=>
   obtain⟨wi,k,rfl,hk,rfl,hs,hb⟩:=hrel
   have HS:=hQq hs;clear hs
   by_cases hlt:k < a.length
   ·obtain⟨bb,off,rfl,hbs,c1,c2⟩:=HC.out k hlt
    obtain⟨bb2,off2,rfl,hbs2,d1,d2⟩:=HD.out k (by omega)
    replace c1:=(eC hb hbs).trans c1
    replace c2:=(eC hb hbs).trans c2
    replace d1:=(eC hb hbs2).trans d1
    replace d2:=(eC hb hbs2).trans d2
    have hx:a[k]? = some (a[k]'hlt):=List.getElem?_eq_getElem hlt
    have hy:b[k]? = some (b[k]'(by omega)):=List.getElem?_eq_getElem (by omega)
    generalize a[k]'hlt=x at c1 c2 hx
    generalize b[k]'(by omega)=y at d1 d2 hy
    have HX:=hQq hx;clear hx
    have HY:=hQq hy;clear hy
    have HB:=hQq hb;clear hb
    have j1:((k:Nat):Int) < (a.length:Int):=by omega
    have j2:((k:Nat):Int) < (b.length:Int):=by omega
    clear e0
    cases e1:x.1.toList == y.1.toList
    ·have he:¬ x=y:=fun e=>by rw [e] at e1;simp at e1
     have HN:=hQq (show decide (a=b)=false from decide_eq_false fun e=>he (by have h1:=HX.out;rw [e,HY.out] at h1;injection h1 with h1;exact h1.symm))
     clear he
     go_wp2
     go_quiet (fail)
     go_wp2
     go_ret
     exact⟨by rw [HN.out];rfl,Ext.trans HB.out (eDn _ _)⟩
    cases e2:x.2.toList == y.2.toList
    ·have he:¬ x=y:=fun e=>by rw [e] at e2;simp at e2
     have HN:=hQq (show decide (a=b)=false from decide_eq_false fun e=>he (by have h1:=HX.out;rw [e,HY.out] at h1;injection h1 with h1;exact h1.symm))
     clear he
     go_wp2
     go_quiet (fail)
     go_wp2
     go_ret
     exact⟨by rw [HN.out];rfl,Ext.trans HB.out (eDn _ _)⟩
    ·have he:x=y:=Prod.ext (zBJ (by rw [<- tL,<- tL];exact beq_iff_eq.1 e1)) (zBJ (by rw [<- tL,<- tL];exact beq_iff_eq.1 e2))
     have hN:zGA a b (k+1):=by
      intro j hj
      by_cases e:j=k
      ·subst e;rw [HX.out,HY.out,he]
      ·exact HS.out j (by omega)
     have HN:=hQq hN;clear hN he
     go_wp2
     go_quiet (fail)
     go_wp2
     go_roundw
     case rel=>exact⟨_,k+1,rfl,by omega,by go_num,HN.out,Ext.trans HB.out (eDn _ _)⟩
     case measure=>simp [intOf];omega
   ·obtain rfl:k=a.length:=by omega
    have HN:=hQq (show decide (a=b)=true from decide_eq_true (zDG hab HS.out))
    have HB:=hQq hb;clear hb
    go_wp2
    go_ret
    exact⟨by rw [HN.out];rfl,HB.out⟩
 ·have e0:(((a.length:Nat):Int) != ((b.length:Nat):Int))=true:=by rw [bne_iff_ne];omega
  rw [show decide (a=b)=false from decide_eq_false fun e=>hab (by rw [e])]
  go_enter Tryz.func61,Tryz.ntmps61
  go_wp2
  go_ret
  exact⟨rfl,bR _ _⟩
theorem zRI (u v:Value) (a b:List zAr) (w:World) (hu:aA w u a) (hv:aA w v b) (hl:a.length<=1000000) :
  zAt Tryz.prog 208 #[u,v] w (.bool (decide (a=b))):=by
 unfold zAt
 obtain⟨aa,cap,rfl,_,hc⟩:=hu
 obtain⟨ba,cap2,rfl,_,hc2⟩:=hv
 have HC:=hQq hc;clear hc
 have HD:=hQq hc2;clear hc2
 by_cases hab:a.length=b.length
 ·have e0:(((a.length:Nat):Int) != ((b.length:Nat):Int))=false:=by rw [bne_eq_false_iff_eq];omega
  go_enter Tryz.func208,Tryz.ntmps208
  go_wp2
  go_loopw [13] (fun i w'=>∃ (wi:World) (k:Nat),wi=w'/\k<=a.length/\i= .int .i64 k/\zGA a b k/\Ext w w') (fun i _=>a.length - (intOf i).toNat)
  case atStart=>exact⟨_,0,rfl,Nat.zero_le _,rfl,fun j hj=>absurd hj (by omega),bR _ _⟩
  case round=>
   obtain⟨wi,k,rfl,hk,rfl,hs,hb⟩:=hrel
   have HS:=hQq hs;clear hs
   by_cases hlt:k < a.length
   ·obtain⟨bb,off,rfl,hbs,c1,c2⟩:=HC.out k hlt
    obtain⟨bb2,off2,rfl,hbs2,d1,d2⟩:=HD.out k (by omega)
    replace c1:=(eC hb hbs).trans c1
    replace c2:=(eC hb hbs).trans c2
    replace d1:=(eC hb hbs2).trans d1
    replace d2:=(eC hb hbs2).trans d2
    have hx:a[k]? = some (a[k]'hlt):=List.getElem?_eq_getElem hlt
    have hy:b[k]? = some (b[k]'(by omega)):=List.getElem?_eq_getElem (by omega)
    generalize a[k]'hlt=x at c1 c2 hx
    generalize b[k]'(by omega)=y at d1 d2 hy
    have HX:=hQq hx;clear hx
    have HY:=hQq hy;clear hy
    have HB:=hQq hb;clear hb
    have j1:((k:Nat):Int) < (a.length:Int):=by omega
    have j2:((k:Nat):Int) < (b.length:Int):=by omega
    clear e0
    cases e1:x.1.toList == y.1.toList
    ·have he:¬ x=y:=fun e=>by rw [e] at e1;simp at e1
     have HN:=hQq (show decide (a=b)=false from decide_eq_false fun e=>he (by have h1:=HX.out;rw [e,HY.out] at h1;injection h1 with h1;exact h1.symm))
     clear he
     go_wp2
     go_quiet (fail)
     go_wp2
     go_ret
     exact⟨by rw [HN.out];rfl,Ext.trans HB.out (eDn _ _)⟩
    cases e2:x.2.toList == y.2.toList
    ·have he:¬ x=y:=fun e=>by rw [e] at e2;simp at e2
     have HN:=hQq (show decide (a=b)=false from decide_eq_false fun e=>he (by have h1:=HX.out;rw [e,HY.out] at h1;injection h1 with h1;exact h1.symm))
     clear he
     go_wp2
     go_quiet (fail)
     go_wp2
     go_ret
     exact⟨by rw [HN.out];rfl,Ext.trans HB.out (eDn _ _)⟩
    ·have he:x=y:=Prod.ext (zBJ (by rw [<- tL,<- tL];exact beq_iff_eq.1 e1)) (zBJ (by rw [<- tL,<- tL];exact beq_iff_eq.1 e2))
     have hN:zGA a b (k+1):=by
      intro j hj
      by_cases e:j=k
      ·subst e;rw [HX.out,HY.out,he]
      ·exact HS.out j (by omega)
     have HN:=hQq hN;clear hN he
     go_wp2
     go_quiet (fail)
     go_wp2
     go_roundw
     case rel=>exact⟨_,k+1,rfl,by omega,by go_num,HN.out,Ext.trans HB.out (eDn _ _)⟩
     case measure=>simp [intOf];omega
   ·obtain rfl:k=a.length:=by omega
    have HN:=hQq (show decide (a=b)=true from decide_eq_true (zDG hab HS.out))
    have HB:=hQq hb;clear hb
    go_wp2
    go_ret
    exact⟨by rw [HN.out];rfl,HB.out⟩
 ·have e0:(((a.length:Nat):Int) != ((b.length:Nat):Int))=true:=by rw [bne_iff_ne];omega
  rw [show decide (a=b)=false from decide_eq_false fun e=>hab (by rw [e])]
  go_enter Tryz.func208,Tryz.ntmps208
  go_wp2
  go_ret
  exact⟨rfl,bR _ _⟩
theorem zI7 (x y:TrN) (va vb:Value) (w:World) (ha:aA w va x.ats) (hb:aA w vb y.ats) (hl:x.ats.length<=1000000) :
  zAt Tryz.prog 95 #[trV x va,trV y vb] w (.bool (zA5 x y)):=by
 unfold zAt trV
 have hA:∀ W,Ext w W->zAt Tryz.prog 61 #[va,vb] W (.bool (decide (x.ats=y.ats))):=fun W he=>zI5 va vb _ _ W (ha.ext he) (hb.ext he) hl
 have HW:Hid (Ext w ((w.alloc (.cells #[.int .i64 x.dep,.string x.nm,.int .i64 x.kd,va,.string x.dat,.int .i64 x.ma,.int .i64 x.mi,.int .i64 x.cl] 59)).alloc (.cells #[.int .i64 y.dep,.string y.nm,.int .i64 y.kd,vb,.string y.dat,.int .i64 y.ma,.int .i64 y.mi,.int .i64 y.cl] 59))):=(eA _ _).trans (eA _ _)
 clear ha hb
 unfold zA5
 have HH:=hQq hA;clear hA
 cases e0:x.kd == y.kd
 ·simp only [Bool.false_and]
  go_enter Tryz.func95,Tryz.ntmps95
  go_wp2
  go_ret
  exact⟨by simp,HW.out⟩
 cases e1:decide (x.ats=y.ats)
 ·simp only [Bool.and_false,Bool.false_and]
  go_enter Tryz.func95,Tryz.ntmps95
  go_wp2_with (go_at_call 61;refine(HH.out _ HW.out).mono ?_;rintro e w' ⟨rfl,hb⟩;obtain⟨hc,hf⟩:=zE7 hb;have HB:=hQq hb;clear hb)
  go_ret
  exact⟨by simp,Ext.trans HW.out HB.out⟩
 cases e2:x.dat.toList == y.dat.toList
 ·simp only [Bool.and_false,Bool.false_and]
  go_enter Tryz.func95,Tryz.ntmps95
  go_wp2_with (go_at_call 61;refine(HH.out _ HW.out).mono ?_;rintro e w' ⟨rfl,hb⟩;obtain⟨hc,hf⟩:=zE7 hb;have HB:=hQq hb;clear hb)
  go_ret
  exact⟨by simp,Ext.trans HW.out HB.out⟩
 cases e3:x.ma == y.ma
 ·simp only [Bool.and_false,Bool.false_and]
  go_enter Tryz.func95,Tryz.ntmps95
  go_wp2_with (go_at_call 61;refine(HH.out _ HW.out).mono ?_;rintro e w' ⟨rfl,hb⟩;obtain⟨hc,hf⟩:=zE7 hb;have HB:=hQq hb;clear hb)
  go_ret
  exact⟨by simp,Ext.trans HW.out HB.out⟩
 cases e4:x.mi == y.mi
 ·simp only [Bool.and_false]
  go_enter Tryz.func95,Tryz.ntmps95
  go_wp2_with (go_at_call 61;refine(HH.out _ HW.out).mono ?_;rintro e w' ⟨rfl,hb⟩;obtain⟨hc,hf⟩:=zE7 hb;have HB:=hQq hb;clear hb)
  go_ret
  exact⟨by simp,Ext.trans HW.out HB.out⟩
 ·simp only [Bool.and_true]
  go_enter Tryz.func95,Tryz.ntmps95
  go_wp2_with (go_at_call 61;refine(HH.out _ HW.out).mono ?_;rintro e w' ⟨rfl,hb⟩;obtain⟨hc,hf⟩:=zE7 hb;have HB:=hQq hb;clear hb)
  go_ret
  exact⟨by simp,Ext.trans HW.out HB.out⟩
theorem zGN (x y:TrN) (va vb:Value) (w:World) (ha:aA w va x.ats) (hb:aA w vb y.ats) (hl:x.ats.length<=1000000) :
  zAt Tryz.prog 184 #[trV x va,trV y vb] w (.bool (zA5 x y)):=by
 unfold zAt trV
 have hA:∀ W,Ext w W->zAt Tryz.prog 208 #[va,vb] W (.bool (decide (x.ats=y.ats))):=fun W he=>zRI va vb _ _ W (ha.ext he) (hb.ext he) hl
 have HW:Hid (Ext w ((w.alloc (.cells #[.int .i64 x.dep,.string x.nm,.int .i64 x.kd,va,.string x.dat,.int .i64 x.ma,.int .i64 x.mi,.int .i64 x.cl] 59)).alloc (.cells #[.int .i64 y.dep,.string y.nm,.int .i64 y.kd,vb,.string y.dat,.int .i64 y.ma,.int .i64 y.mi,.int .i64 y.cl] 59))):=(eA _ _).trans (eA _ _)
 clear ha hb
 unfold zA5
 have HH:=hQq hA;clear hA
 cases e0:x.kd == y.kd
 ·simp only [Bool.false_and]
  go_enter Tryz.func184,Tryz.ntmps184
  go_wp2
  go_ret
  exact⟨by simp,HW.out⟩
 cases e1:x.dat.toList == y.dat.toList
 ·simp only [Bool.and_false,Bool.false_and]
  go_enter Tryz.func184,Tryz.ntmps184
  go_wp2
  go_ret
  exact⟨by simp,HW.out⟩
 cases e2:x.ma == y.ma
 ·simp only [Bool.and_false,Bool.false_and]
  go_enter Tryz.func184,Tryz.ntmps184
  go_wp2
  go_ret
  exact⟨by simp,HW.out⟩
 cases e3:x.mi == y.mi
 ·simp only [Bool.and_false]
  go_enter Tryz.func184,Tryz.ntmps184
  go_wp2
  go_ret
  exact⟨by simp,HW.out⟩
 cases e4:decide (x.ats=y.ats)
 ·simp only [Bool.and_false,Bool.false_and]
  go_enter Tryz.func184,Tryz.ntmps184
  go_wp2_with (go_at_call 208;refine(HH.out _ HW.out).mono ?_;rintro e w' ⟨rfl,hb⟩;obtain⟨hc,hf⟩:=zE7 hb;have HB:=hQq hb;clear hb)
  go_ret
  exact⟨by simp,Ext.trans HW.out HB.out⟩
 ·simp only [Bool.and_true]
  go_enter Tryz.func184,Tryz.ntmps184
  go_wp2_with (go_at_call 208;refine(HH.out _ HW.out).mono ?_;rintro e w' ⟨rfl,hb⟩;obtain⟨hc,hf⟩:=zE7 hb;have HB:=hQq hb;clear hb)
  go_ret
  exact⟨by simp,Ext.trans HW.out HB.out⟩
theorem zEP (x:TrN) (va:Value) (w:World) (hv:∃ a cap,va= .slice a x.ats.length cap):zAt Tryz.prog 172 #[trV x va] w (.int .i64 (zAc x)):=by
 unfold zAt trV
 obtain⟨aa,cap,rfl⟩:=hv
 by_cases k0:x.kd < 1
 case pos=>
  have n1:(x.kd == 1)=false:=nB (by omega)
  have n2:(x.kd == 2)=false:=nB (by omega)
  have n3:(x.kd == 3)=false:=nB (by omega)
  have n4:(x.kd == 4)=false:=nB (by omega)
  have n5:(x.kd == 5)=false:=nB (by omega)
  by_cases hma:x.ma=0
  case pos=>
   by_cases hmi:x.mi=0
   case pos=>
    have hr:zAc x=14:=by unfold zAc;simp [k0]
    rw [hr];clear hr
    go_enter Tryz.func172,Tryz.ntmps172
    go_wp2
    go_ret
    exact⟨rfl,eA _ _⟩
   case neg=>
    have mi1:(x.mi == 0)=false:=nB hmi
    have mi2:(x.mi != 0)=true:=bne_iff_ne.2 hmi
    have hr:zAc x=14:=by unfold zAc;simp [k0]
    rw [hr];clear hr
    go_enter Tryz.func172,Tryz.ntmps172
    go_wp2
    go_ret
    exact⟨rfl,eA _ _⟩
  case neg=>
   have ma1:(x.ma == 0)=false:=nB hma
   have ma2:(x.ma != 0)=true:=bne_iff_ne.2 hma
   have hr:zAc x=14:=by unfold zAc;simp [k0]
   rw [hr];clear hr
   go_enter Tryz.func172,Tryz.ntmps172
   go_wp2
   go_ret
   exact⟨rfl,eA _ _⟩
 by_cases k6:5 < x.kd
 case pos=>
  have n1:(x.kd == 1)=false:=nB (by omega)
  have n2:(x.kd == 2)=false:=nB (by omega)
  have n3:(x.kd == 3)=false:=nB (by omega)
  have n4:(x.kd == 4)=false:=nB (by omega)
  have n5:(x.kd == 5)=false:=nB (by omega)
  by_cases hma:x.ma=0
  case pos=>
   by_cases hmi:x.mi=0
   case pos=>
    have hr:zAc x=14:=by unfold zAc;simp [k6]
    rw [hr];clear hr
    go_enter Tryz.func172,Tryz.ntmps172
    go_wp2
    go_ret
    exact⟨rfl,eA _ _⟩
   case neg=>
    have mi1:(x.mi == 0)=false:=nB hmi
    have mi2:(x.mi != 0)=true:=bne_iff_ne.2 hmi
    have hr:zAc x=14:=by unfold zAc;simp [k6]
    rw [hr];clear hr
    go_enter Tryz.func172,Tryz.ntmps172
    go_wp2
    go_ret
    exact⟨rfl,eA _ _⟩
  case neg=>
   have ma1:(x.ma == 0)=false:=nB hma
   have ma2:(x.ma != 0)=true:=bne_iff_ne.2 hma
   have hr:zAc x=14:=by unfold zAc;simp [k6]
   rw [hr];clear hr
   go_enter Tryz.func172,Tryz.ntmps172
   go_wp2
   go_ret
   exact⟨rfl,eA _ _⟩
 by_cases k:x.kd=1
 case pos=>
  clear k0 k6
  by_cases hma:x.ma=0
  case pos=>
   by_cases hmi:x.mi=0
   case pos=>
    by_cases hdat:x.dat.toList= []
    case pos=>
     have dat1:x.dat.toList.isEmpty=true:=by rw [hdat];rfl
     have dat2:x.dat.size=0:=zA7 hdat
     by_cases hcl:x.cl=0
     case pos=>
      have hr:zAc x=0:=by unfold zAc;simp [k,hma,hmi,hdat,hcl]
      rw [hr];clear hr
      go_enter Tryz.func172,Tryz.ntmps172
      go_wp2
      go_ret
      exact⟨rfl,eA _ _⟩
     case neg=>
      have cl1:(x.cl == 0)=false:=nB hcl
      have cl2:(x.cl != 0)=true:=bne_iff_ne.2 hcl
      have hr:zAc x=6:=by unfold zAc;simp [k,hma,hmi,hdat,hcl]
      rw [hr];clear hr
      go_enter Tryz.func172,Tryz.ntmps172
      go_wp2
      go_ret
      exact⟨rfl,eA _ _⟩
    case neg=>
     have dat1:x.dat.toList.isEmpty=false:=by simpa using hdat
     have hr:zAc x=6:=by unfold zAc;simp [k,hma,hmi,hdat]
     rw [hr];clear hr
     go_enter Tryz.func172,Tryz.ntmps172
     go_wp2
     go_ret
     exact⟨rfl,eA _ _⟩
   case neg=>
    have mi1:(x.mi == 0)=false:=nB hmi
    have mi2:(x.mi != 0)=true:=bne_iff_ne.2 hmi
    by_cases hdat:x.dat.toList= []
    case pos=>
     have dat1:x.dat.toList.isEmpty=true:=by rw [hdat];rfl
     have dat2:x.dat.size=0:=zA7 hdat
     have hr:zAc x=6:=by unfold zAc;simp [k,hma,hmi,hdat]
     rw [hr];clear hr
     go_enter Tryz.func172,Tryz.ntmps172
     go_wp2
     go_ret
     exact⟨rfl,eA _ _⟩
    case neg=>
     have dat1:x.dat.toList.isEmpty=false:=by simpa using hdat
     have hr:zAc x=6:=by unfold zAc;simp [k,hma,hmi,hdat]
     rw [hr];clear hr
     go_enter Tryz.func172,Tryz.ntmps172
     go_wp2
     go_ret
     exact⟨rfl,eA _ _⟩
  case neg=>
   have ma1:(x.ma == 0)=false:=nB hma
   have ma2:(x.ma != 0)=true:=bne_iff_ne.2 hma
   by_cases hdat:x.dat.toList= []
   case pos=>
    have dat1:x.dat.toList.isEmpty=true:=by rw [hdat];rfl
    have dat2:x.dat.size=0:=zA7 hdat
    have hr:zAc x=6:=by unfold zAc;simp [k,hma,hdat]
    rw [hr];clear hr
    go_enter Tryz.func172,Tryz.ntmps172
    go_wp2
    go_ret
    exact⟨rfl,eA _ _⟩
   case neg=>
    have dat1:x.dat.toList.isEmpty=false:=by simpa using hdat
    have hr:zAc x=6:=by unfold zAc;simp [k,hma,hdat]
    rw [hr];clear hr
    go_enter Tryz.func172,Tryz.ntmps172
    go_wp2
    go_ret
    exact⟨rfl,eA _ _⟩
 case neg=>
 have n1:=k
 clear k
 by_cases k:x.kd=2
 case pos=>
  clear k0 k6
  by_cases hma:x.ma=0
  case pos=>
   by_cases hmi:x.mi=0
   case pos=>
    by_cases z:384 < x.dat.size
    case pos=>
     have hr:zAc x=3:=by unfold zAc;simp [k,hma,hmi,z]
     rw [hr];clear hr
     go_enter Tryz.func172,Tryz.ntmps172
     go_wp2
     go_ret
     exact⟨rfl,eA _ _⟩
    case neg=>
     have hr:zAc x=0:=by unfold zAc;simp [k,hma,hmi,z]
     rw [hr];clear hr
     go_enter Tryz.func172,Tryz.ntmps172
     go_wp2
     go_ret
     exact⟨rfl,eA _ _⟩
   case neg=>
    have mi1:(x.mi == 0)=false:=nB hmi
    have mi2:(x.mi != 0)=true:=bne_iff_ne.2 hmi
    have hr:zAc x=6:=by unfold zAc;simp [k,hma,hmi]
    rw [hr];clear hr
    go_enter Tryz.func172,Tryz.ntmps172
    go_wp2
    go_ret
    exact⟨rfl,eA _ _⟩
  case neg=>
   have ma1:(x.ma == 0)=false:=nB hma
   have ma2:(x.ma != 0)=true:=bne_iff_ne.2 hma
   have hr:zAc x=6:=by unfold zAc;simp [k,hma]
   rw [hr];clear hr
   go_enter Tryz.func172,Tryz.ntmps172
   go_wp2
   go_ret
   exact⟨rfl,eA _ _⟩
 case neg=>
 have n2:=k
 clear k
 by_cases k:x.kd=3
 case pos=>
  clear k0 k6
  by_cases hma:x.ma=0
  case pos=>
   by_cases hmi:x.mi=0
   case pos=>
    by_cases hdat:x.dat.toList= []
    case pos=>
     have dat1:x.dat.toList.isEmpty=true:=by rw [hdat];rfl
     have dat2:x.dat.size=0:=zA7 hdat
     have hr:zAc x=6:=by unfold zAc;simp [k,hma,hmi,hdat]
     rw [hr];clear hr
     go_enter Tryz.func172,Tryz.ntmps172
     go_wp2
     go_ret
     exact⟨rfl,eA _ _⟩
    case neg=>
     have dat1:x.dat.toList.isEmpty=false:=by simpa using hdat
     by_cases z:200 < x.dat.size
     case pos=>
      have hr:zAc x=3:=by unfold zAc;simp [k,hma,hmi,hdat,z]
      rw [hr];clear hr
      go_enter Tryz.func172,Tryz.ntmps172
      go_wp2
      go_ret
      exact⟨rfl,eA _ _⟩
     case neg=>
      have hr:zAc x=0:=by unfold zAc;simp [k,hma,hmi,hdat,z]
      rw [hr];clear hr
      go_enter Tryz.func172,Tryz.ntmps172
      go_wp2
      go_ret
      exact⟨rfl,eA _ _⟩
   case neg=>
    have mi1:(x.mi == 0)=false:=nB hmi
    have mi2:(x.mi != 0)=true:=bne_iff_ne.2 hmi
    have hr:zAc x=6:=by unfold zAc;simp [k,hma,hmi]
    rw [hr];clear hr
    go_enter Tryz.func172,Tryz.ntmps172
    go_wp2
    go_ret
    exact⟨rfl,eA _ _⟩
  case neg=>
   have ma1:(x.ma == 0)=false:=nB hma
   have ma2:(x.ma != 0)=true:=bne_iff_ne.2 hma
   have hr:zAc x=6:=by unfold zAc;simp [k,hma]
   rw [hr];clear hr
   go_enter Tryz.func172,Tryz.ntmps172
   go_wp2
   go_ret
   exact⟨rfl,eA _ _⟩
 case neg=>
 have n3:=k
 clear k
 by_cases k:x.kd=4
 case pos=>
  clear k0 k6
  by_cases hdat:x.dat.toList= []
  case pos=>
   have dat1:x.dat.toList.isEmpty=true:=by rw [hdat];rfl
   have dat2:x.dat.size=0:=zA7 hdat
   by_cases hma:x.ma=0
   case pos=>
    by_cases hmi:x.mi=0
    case pos=>
     have hr:zAc x=0:=by unfold zAc;simp [k,hdat,hma,hmi]
     rw [hr];clear hr
     go_enter Tryz.func172,Tryz.ntmps172
     go_wp2
     go_ret
     exact⟨rfl,eA _ _⟩
    case neg=>
     have mi1:(x.mi == 0)=false:=nB hmi
     have mi2:(x.mi != 0)=true:=bne_iff_ne.2 hmi
     by_cases r3:x.mi < 0
     case pos=>
      have hr:zAc x=7:=by unfold zAc;simp [k,hdat,hma,r3]
      rw [hr];clear hr
      go_enter Tryz.func172,Tryz.ntmps172
      go_wp2
      go_ret
      exact⟨rfl,eA _ _⟩
     case neg=>
      by_cases r4:255 < x.mi
      case pos=>
       have hr:zAc x=7:=by unfold zAc;simp [k,hdat,hma,r3,r4]
       rw [hr];clear hr
       go_enter Tryz.func172,Tryz.ntmps172
       go_wp2
       go_ret
       exact⟨rfl,eA _ _⟩
      case neg=>
       have hr:zAc x=0:=by unfold zAc;simp [k,hdat,hma,r3,r4]
       rw [hr];clear hr
       go_enter Tryz.func172,Tryz.ntmps172
       go_wp2
       go_ret
       exact⟨rfl,eA _ _⟩
   case neg=>
    have ma1:(x.ma == 0)=false:=nB hma
    have ma2:(x.ma != 0)=true:=bne_iff_ne.2 hma
    by_cases r1:x.ma < 0
    case pos=>
     have hr:zAc x=7:=by unfold zAc;simp [k,hdat,r1]
     rw [hr];clear hr
     go_enter Tryz.func172,Tryz.ntmps172
     go_wp2
     go_ret
     exact⟨rfl,eA _ _⟩
    case neg=>
     by_cases r2:255 < x.ma
     case pos=>
      have hr:zAc x=7:=by unfold zAc;simp [k,hdat,r1,r2]
      rw [hr];clear hr
      go_enter Tryz.func172,Tryz.ntmps172
      go_wp2
      go_ret
      exact⟨rfl,eA _ _⟩
     case neg=>
      by_cases r3:x.mi < 0
      case pos=>
       have hr:zAc x=7:=by unfold zAc;simp [k,hdat,r1,r2,r3]
       rw [hr];clear hr
       go_enter Tryz.func172,Tryz.ntmps172
       go_wp2
       go_ret
       exact⟨rfl,eA _ _⟩
      case neg=>
       by_cases r4:255 < x.mi
       case pos=>
        have hr:zAc x=7:=by unfold zAc;simp [k,hdat,r1,r2,r3,r4]
        rw [hr];clear hr
        go_enter Tryz.func172,Tryz.ntmps172
        go_wp2
        go_ret
        exact⟨rfl,eA _ _⟩
       case neg=>
        have hr:zAc x=0:=by unfold zAc;simp [k,hdat,r1,r2,r3,r4]
        rw [hr];clear hr
        go_enter Tryz.func172,Tryz.ntmps172
        go_wp2
        go_ret
        exact⟨rfl,eA _ _⟩
  case neg=>
   have dat1:x.dat.toList.isEmpty=false:=by simpa using hdat
   by_cases hma:x.ma=0
   case pos=>
    by_cases hmi:x.mi=0
    case pos=>
     have hr:zAc x=6:=by unfold zAc;simp [k,hdat]
     rw [hr];clear hr
     go_enter Tryz.func172,Tryz.ntmps172
     go_wp2
     go_ret
     exact⟨rfl,eA _ _⟩
    case neg=>
     have mi1:(x.mi == 0)=false:=nB hmi
     have mi2:(x.mi != 0)=true:=bne_iff_ne.2 hmi
     have hr:zAc x=6:=by unfold zAc;simp [k,hdat]
     rw [hr];clear hr
     go_enter Tryz.func172,Tryz.ntmps172
     go_wp2
     go_ret
     exact⟨rfl,eA _ _⟩
   case neg=>
    have ma1:(x.ma == 0)=false:=nB hma
    have ma2:(x.ma != 0)=true:=bne_iff_ne.2 hma
    have hr:zAc x=6:=by unfold zAc;simp [k,hdat]
    rw [hr];clear hr
    go_enter Tryz.func172,Tryz.ntmps172
    go_wp2
    go_ret
    exact⟨rfl,eA _ _⟩
 case neg=>
 have n4:=k
 clear k
 have k:x.kd=5:=by omega
 clear k0 k6 n1 n2 n3 n4
 by_cases hma:x.ma=0
 case pos=>
  by_cases hmi:x.mi=0
  case pos=>
   by_cases hdat:x.dat.toList= []
   case pos=>
    have dat1:x.dat.toList.isEmpty=true:=by rw [hdat];rfl
    have dat2:x.dat.size=0:=zA7 hdat
    by_cases hcl:x.cl=0
    case pos=>
     by_cases hats:x.ats.length=0
     case pos=>
      have hr:zAc x=0:=by unfold zAc;simp [k,hma,hmi,hdat,hcl,hats]
      rw [hr];clear hr
      go_enter Tryz.func172,Tryz.ntmps172
      go_wp2
      go_ret
      exact⟨rfl,eA _ _⟩
     case neg=>
      have ats1:0 < x.ats.length:=by omega
      have hr:zAc x=6:=by unfold zAc;simp [k,hma,hmi,hdat,hcl,hats]
      rw [hr];clear hr
      go_enter Tryz.func172,Tryz.ntmps172
      go_wp2
      go_ret
      exact⟨rfl,eA _ _⟩
    case neg=>
     have cl1:(x.cl == 0)=false:=nB hcl
     have cl2:(x.cl != 0)=true:=bne_iff_ne.2 hcl
     have hr:zAc x=6:=by unfold zAc;simp [k,hma,hmi,hdat,hcl]
     rw [hr];clear hr
     go_enter Tryz.func172,Tryz.ntmps172
     go_wp2
     go_ret
     exact⟨rfl,eA _ _⟩
   case neg=>
    have dat1:x.dat.toList.isEmpty=false:=by simpa using hdat
    have hr:zAc x=6:=by unfold zAc;simp [k,hma,hmi,hdat]
    rw [hr];clear hr
    go_enter Tryz.func172,Tryz.ntmps172
    go_wp2
    go_ret
    exact⟨rfl,eA _ _⟩
  case neg=>
   have mi1:(x.mi == 0)=false:=nB hmi
   have mi2:(x.mi != 0)=true:=bne_iff_ne.2 hmi
   by_cases hdat:x.dat.toList= []
   case pos=>
    have dat1:x.dat.toList.isEmpty=true:=by rw [hdat];rfl
    have dat2:x.dat.size=0:=zA7 hdat
    have hr:zAc x=6:=by unfold zAc;simp [k,hma,hmi,hdat]
    rw [hr];clear hr
    go_enter Tryz.func172,Tryz.ntmps172
    go_wp2
    go_ret
    exact⟨rfl,eA _ _⟩
   case neg=>
    have dat1:x.dat.toList.isEmpty=false:=by simpa using hdat
    have hr:zAc x=6:=by unfold zAc;simp [k,hma,hmi,hdat]
    rw [hr];clear hr
    go_enter Tryz.func172,Tryz.ntmps172
    go_wp2
    go_ret
    exact⟨rfl,eA _ _⟩
 case neg=>
  have ma1:(x.ma == 0)=false:=nB hma
  have ma2:(x.ma != 0)=true:=bne_iff_ne.2 hma
  by_cases hdat:x.dat.toList= []
  case pos=>
   have dat1:x.dat.toList.isEmpty=true:=by rw [hdat];rfl
   have dat2:x.dat.size=0:=zA7 hdat
   have hr:zAc x=6:=by unfold zAc;simp [k,hma,hdat]
   rw [hr];clear hr
   go_enter Tryz.func172,Tryz.ntmps172
   go_wp2
   go_ret
   exact⟨rfl,eA _ _⟩
  case neg=>
   have dat1:x.dat.toList.isEmpty=false:=by simpa using hdat
   have hr:zAc x=6:=by unfold zAc;simp [k,hma,hdat]
   rw [hr];clear hr
   go_enter Tryz.func172,Tryz.ntmps172
   go_wp2
   go_ret
   exact⟨rfl,eA _ _⟩
def zAa (t:List TrN) (i:Nat):TrN:=t.getD i zVj
theorem zAm (t:List TrN) (i:Nat) (h:i < t.length):zAa t i=t[i]'h:=by unfold zAa;simp [List.getD,h]
def zEn (p:TrN):Int:=if p.kd=1 then p.dep+1 else p.dep
def zAz (t:List TrN) (i:Nat):Int:=
 if i=0 then (if (zAa t i).dep=0/\(zAa t i).nm.toList= []/\(zAa t i).kd=1 then 0 else 6)
 else if (zAa t i).dep < 1\/zEn (zAa t (i - 1)) < (zAa t i).dep then 6 else if 8 < (zAa t i).dep then 3 else 0
def zCr:List TrN->Int->Nat × Option ByteArray
 | [],_=>(0,none)
 | x :: r,d=>if x.dep < d then (0,none) else if x.dep=d then ((zCr r d).1+1,some x.nm) else zCr r d
theorem zFe {x:TrN} {r:List TrN} {d:Int} (h:x.dep < d):zCr (x :: r) d=(0,none):=by unfold zCr;rw [if_pos h]
theorem zHn {x:TrN} {r:List TrN} {d:Int} (h:x.dep=d):zCr (x :: r) d=((zCr r d).1+1,some x.nm):=by
 rw [zCr.eq_2,if_neg (by omega),if_pos h]
theorem zHm {x:TrN} {r:List TrN} {d:Int} (h:d < x.dep):zCr (x :: r) d=zCr r d:=by
 rw [zCr.eq_2,if_neg (by omega),if_neg (by omega)]
theorem zKh {r:List TrN} {d:Int}:(zCr r d).2=none ↔ (zCr r d).1=0:=by
 induction r with
 | nil=>simp [zCr]
 | cons x r ih=>
  rcases Int.lt_trichotomy x.dep d with h | h | h
  ·rw [zFe h];simp
  ·rw [zHn h];simp
  ·rw [zHm h];exact ih
def zCP (t:List TrN) (i:Nat):List TrN:=(t.take i).reverse
theorem zDH (t:List TrN) (i:Nat) (h:i < t.length):zCP t (i+1)=(t[i]'h) :: zCP t i:=by
 unfold zCP;rw [List.take_succ_eq_append_getElem h,List.reverse_append];rfl
def zDL (many:Nat) (last:Option ByteArray) (nm:ByteArray):Int:=
 match last with
 | some z=>if z=nm then 8 else if L nm < L z then 6 else if 24<=many then 3 else 0
 | none=>if 24<=many then 3 else 0
def zAT (t:List TrN) (i:Nat):Int:=
 if zAq (L (zAa t i).nm) ≠ 0 then zAq (L (zAa t i).nm) else zDL (zCr (zCP t i) (zAa t i).dep).1 (zCr (zCP t i) (zAa t i).dep).2 (zAa t i).nm
def zAJ (t:List TrN):Nat->Int
 | 0=>0
 | k+1=>max (zAJ t k) (zAa t k).cl
def zBS (t:List TrN) (i:Nat):Nat->Bool
 | 0=>false
 | k+1=>zBS t i k || (decide (0 < (zAa t i).cl) && ((zAa t k).cl == (zAa t i).cl) && !zA5 (zAa t k) (zAa t i))
def zF4 (t:List TrN) (i:Nat):Int:=if zBS t i i=true then 6 else if (zAa t i).cl < 0\/zAJ t i+1 < (zAa t i).cl then 6 else 0
def zBf (t:List TrN) (i:Nat):Int:=
 if zAz t i ≠ 0 then zAz t i else if i ≠ 0/\zAT t i ≠ 0 then zAT t i else if zAc (zAa t i) ≠ 0 then zAc (zAa t i) else if zBR (zAa t i).ats ≠ 0 then zBR (zAa t i).ats else zF4 t i
theorem zFg {t:List TrN} {i:Nat} (h:zAz t i ≠ 0):zBf t i=zAz t i:=by unfold zBf;rw [if_pos h]
theorem zHu {t:List TrN} {i:Nat} (h1:zAz t i=0) (h0:i ≠ 0) (h:zAT t i ≠ 0):zBf t i=zAT t i:=by unfold zBf;rw [if_neg (by omega),if_pos ⟨h0,h⟩]
theorem zGg {t:List TrN} {i:Nat} {x:TrN} (hg:zAa t i=x) (h1:zAz t i=0) (h2:i ≠ 0->zAT t i=0) (h:zAc x ≠ 0):zBf t i=zAc x:=by
 subst hg;unfold zBf;rw [if_neg (by omega),if_neg (fun h=>h.2 (h2 h.1)),if_pos h]
theorem zFh {t:List TrN} {i:Nat} {x:TrN} (hg:zAa t i=x) (h1:zAz t i=0) (h2:i ≠ 0->zAT t i=0) (h3:zAc x=0) (h:zBR x.ats ≠ 0):zBf t i=zBR x.ats:=by
 subst hg;unfold zBf;rw [if_neg (by omega),if_neg (fun h=>h.2 (h2 h.1)),if_neg (by omega),if_pos h]
theorem zBL {t:List TrN} {i:Nat} {x:TrN} (hg:zAa t i=x) (h1:zAz t i=0) (h2:i ≠ 0->zAT t i=0) (h3:zAc x=0) (h4:zBR x.ats=0):zBf t i=zF4 t i:=by
 subst hg;unfold zBf;rw [if_neg (by omega),if_neg (fun h=>h.2 (h2 h.1)),if_neg (by omega),if_neg (by omega)]
def zAi (t:List TrN) (c:Int):Nat->Nat
 | 0=>0
 | k+1=>zAi t c k+(if (zAa t k).cl=c then 1 else 0)
def zDM (t:List TrN) (i:Nat):Bool:=decide (0 < (zAa t i).cl) && (zAi t (zAa t i).cl t.length == 1)
def zBs (p:Nat->Bool):Nat->Nat->Option Nat
 | _,0=>none
 | a,n+1=>if p a then some a else zBs p (a+1) n
theorem zBm {p:Nat->Bool}:∀ (n a:Nat),(∀ j,a<=j->j < a+n->p j=false)->zBs p a n=none
 | 0,_,_=>rfl
 | n+1,a,h=>by
  unfold zBs;rw [if_neg (by rw [h a (Nat.le_refl _) (by omega)];exact Bool.false_ne_true)]
  exact zBm n (a+1) fun j h1 h2=>h j (by omega) (by omega)
theorem zBQ {p:Nat->Bool}:∀ (n a i:Nat),a<=i->i < a+n->(∀ j,a<=j->j < i->p j=false)->p i=true->zBs p a n=some i
 | 0,_,_,h1,h2,_,_=>by omega
 | n+1,a,i,h1,h2,h,hi=>by
  unfold zBs
  by_cases e:a=i
  ·subst e;rw [if_pos hi]
  ·rw [if_neg (by rw [h a (Nat.le_refl _) (by omega)];exact Bool.false_ne_true)]
   exact zBQ n (a+1) i (by omega) (by omega) (fun j h3 h4=>h j (by omega) h4) hi
def zV5 (t:List TrN) (i:Nat):Bool:=zBf t i != 0
theorem zL1 {t:List TrN} {i:Nat} (h:zBf t i=0):zV5 t i=false:=by unfold zV5;rw [h];rfl
theorem zSW {t:List TrN} {i:Nat} (h:zBf t i ≠ 0):zV5 t i=true:=bne_iff_ne.2 h
def zF6 (t:List TrN):Int × Int:=
 if t.length=0 then (-1,6) else if 120 < t.length then (-1,3)
 else match zBs (zV5 t) 0 t.length with
  | some i=>(i,zBf t i)
  | none=>match zBs (zDM t) 0 t.length with
   | some i=>(i,6)
   | none=>(0,0)
theorem zKa {t:List TrN} (h:t.length=0):zF6 t=(-1,6):=if_pos h
theorem zIj {t:List TrN} (h:120 < t.length):zF6 t=(-1,3):=by unfold zF6;rw [if_neg (by omega),if_pos h]
def zAW (t:List TrN) (k:Nat):Prop:=∀ j,j < k->zBf t j=0
theorem zBF {t:List TrN} (h1:¬ 120 < t.length) {i:Nat} (hi:i < t.length) (h:zAW t i) (he:zBf t i ≠ 0):zF6 t=((i:Int),zBf t i):=by
 unfold zF6;rw [if_neg (by omega),if_neg h1,zBQ t.length 0 i (Nat.zero_le _) (by omega) (fun j _ hj=>zL1 (h j hj)) (zSW he)]
theorem zIk {t:List TrN} (h1:¬ 120 < t.length) (h:zAW t t.length) {i:Nat} (hi:i < t.length) (hl:∀ j,j < i->zDM t j=false) (he:zDM t i=true):zF6 t=((i:Int),6):=by
 unfold zF6;rw [if_neg (by omega),if_neg h1,zBm t.length 0 (fun j _ hj=>zL1 (h j (by omega))),zBQ t.length 0 i (Nat.zero_le _) (by omega) (fun j _ hj=>hl j hj) he]
theorem zEO {t:List TrN} (h0:t.length ≠ 0) (h1:¬ 120 < t.length) (h:zAW t t.length) (hl:∀ j,j < t.length->zDM t j=false):zF6 t=(0,0):=by
 unfold zF6;rw [if_neg h0,if_neg h1,zBm t.length 0 (fun j _ hj=>zL1 (h j (by omega))),zBm t.length 0 (fun j _ hj=>hl j (by omega))]
def zFp (t:List TrN):Int:=(zF6 t).1
def zAs (t:List TrN):Int:=(zF6 t).2
theorem zBj {t:List TrN} {a b:Int} (h:zF6 t=(a,b)):zFp t=a/\zAs t=b:=by unfold zFp zAs;rw [h];exact⟨rfl,rfl⟩
/-! What is known of nodes without an error. -/
theorem zAd {t:List TrN} {i:Nat} (h:zBf t i=0):zAz t i=0/\(i ≠ 0->zAT t i=0)/\zAc (zAa t i)=0/\zBR (zAa t i).ats=0/\zF4 t i=0:=by
 unfold zBf at h
 by_cases h1:zAz t i ≠ 0
 ·rw [if_pos h1] at h;exact absurd h h1
 rw [if_neg h1] at h
 by_cases h2:i ≠ 0/\zAT t i ≠ 0
 ·rw [if_pos h2] at h;exact absurd h h2.2
 rw [if_neg h2] at h
 by_cases h3:zAc (zAa t i) ≠ 0
 ·rw [if_pos h3] at h;exact absurd h h3
 rw [if_neg h3] at h
 by_cases h4:zBR (zAa t i).ats ≠ 0
 ·rw [if_pos h4] at h;exact absurd h h4
 rw [if_neg h4] at h
 exact⟨by omega,fun hi=>by by_cases e:zAT t i=0;exact e;exact absurd ⟨hi,e⟩ h2,by omega,by omega,h⟩
theorem zA4 {t:List TrN} {i:Nat} (h:zAz t i=0):0<=(zAa t i).dep/\(zAa t i).dep<=8/\(i=0->(zAa t i).dep=0/\(zAa t i).kd=1)/\(i ≠ 0->1<=(zAa t i).dep/\(zAa t i).dep<=zEn (zAa t (i - 1))):=by
 unfold zAz at h
 by_cases h0:i=0
 ·rw [if_pos h0] at h
  split at h
  ·rename_i h1;exact⟨by omega,by omega,fun _=>⟨h1.1,h1.2.2⟩,fun x=>absurd h0 x⟩
  ·cases h
 ·rw [if_neg h0] at h
  split at h
  ·cases h
  ·split at h
   ·cases h
   ·rename_i h1 h2;exact⟨by omega,by omega,fun x=>absurd x h0,fun _=>by omega⟩
theorem zEK {t:List TrN} {i:Nat} (h:zF4 t i=0):0<=(zAa t i).cl/\(zAa t i).cl<=zAJ t i+1/\zBS t i i=false:=by
 unfold zF4 at h
 split at h
 ·cases h
 ·split at h
  ·cases h
  ·rename_i h1 h2;exact⟨by omega,by omega,Bool.eq_false_iff.2 h1⟩
theorem zEW {t:List TrN}:∀ (k:Nat),zAW t k->0<=zAJ t k/\zAJ t k<=k
 | 0,_=>⟨Int.le_refl _,Int.le_refl _⟩
 | k+1,h=>by
  obtain⟨a,b⟩:=zEW k fun j hj=>h j (by omega)
  obtain⟨_,_,_,_,hc⟩:=zAd (h k (by omega))
  obtain⟨c,d,_⟩:=zEK hc
  unfold zAJ
  omega
theorem zAW.step {t:List TrN} {k:Nat} (h:zAW t k) (hk:zBf t k=0):zAW t (k+1):=by
 intro j hj
 by_cases e:j=k
 ·subst e;exact hk
 ·exact h j (by omega)
theorem zJm {a b:ByteArray} (h1:¬ a=b) (h2:¬ L b < L a):L a < L b:=by
 rcases Std.lt_trichotomy (L a) (L b) with x | x | x
 ·exact x
 ·exact absurd (zBJ x) h1
 ·exact absurd x h2
structure zCW (t:List TrN) (i:Nat) (d:Int) (j m:Nat) (z:Int):Prop where
 many:(zCr (zCP t i) d).1=m+(zCr (zCP t j) d).1
 last:(z= -1/\m=0/\(zCr (zCP t i) d).2=(zCr (zCP t j) d).2)\/∃ q:Nat,z=q/\q < i/\(zCr (zCP t i) d).2=some (zAa t q).nm
theorem zCW.start (t:List TrN) (i:Nat) (d:Int):zCW t i d i 0 (-1):=⟨by omega,.inl ⟨rfl,rfl,rfl⟩⟩
theorem zCW.skip {t:List TrN} {i p m:Nat} {d z:Int} (h:zCW t i d (p+1) m z) (hp:p < t.length) (hd:d < (t[p]'hp).dep):zCW t i d p m z:=by
 have e:=zHm (r:=zCP t p) hd
 rw [<- zDH t p hp] at e
 exact⟨by rw [h.many,e],h.last.imp_left fun ⟨a,b,c⟩=>⟨a,b,by rw [c,e]⟩⟩
theorem zCW.hit {t:List TrN} {i p m:Nat} {d z:Int} (h:zCW t i d (p+1) m z) (hpi:p < i) (hp:p < t.length) (hd:(t[p]'hp).dep=d):zCW t i d p (m+1) (if z < 0 then (p:Int) else z):=by
 have e:=zHn (r:=zCP t p) hd
 rw [<- zDH t p hp] at e
 refine⟨by rw [h.many,e];show m+((zCr (zCP t p) d).1+1)=_;omega,.inr ?_⟩
 rcases h.last with ⟨a,b,c⟩ | ⟨q,a,b,c⟩
 ·rw [if_pos (by omega)];exact⟨p,rfl,hpi,by rw [c,e,zAm t p hp]⟩
 ·rw [if_neg (by omega)];exact⟨q,a,b,c⟩
theorem zCW.low {t:List TrN} {i p m:Nat} {d z:Int} (h:zCW t i d (p+1) m z) (hp:p < t.length) (hd:(t[p]'hp).dep < d):zCW t i d 0 m z:=by
 have e:=zFe (r:=zCP t p) hd
 rw [<- zDH t p hp] at e
 exact⟨by rw [h.many,e];rfl,h.last.imp_left fun ⟨a,b,c⟩=>⟨a,b,by rw [c,e];rfl⟩⟩
theorem zCW.end {t:List TrN} {i m:Nat} {d z:Int} (h:zCW t i d 0 m z):(zCr (zCP t i) d).1=m/\((z= -1/\m=0/\(zCr (zCP t i) d).2=none)\/∃ q:Nat,z=q/\q < i/\(zCr (zCP t i) d).2=some (zAa t q).nm):=
 ⟨by rw [h.many];rfl,h.last⟩
theorem zAG {w w':World} {b o:Nat} {v0 v1 v2 v3 v4 v5 v6 v7:Value} (he:Ext w w') (hb:b < w.heap.size)
  (h:w.cell? ⟨b,o,none⟩=some v0/\w.cell? ⟨b,o+1,none⟩=some v1/\w.cell? ⟨b,o+2,none⟩=some v2/\w.cell? ⟨b,o+3,none⟩=some v3/\w.cell? ⟨b,o+4,none⟩=some v4/\w.cell? ⟨b,o+5,none⟩=some v5/\w.cell? ⟨b,o+6,none⟩=some v6/\w.cell? ⟨b,o+7,none⟩=some v7) :
  w'.cell? ⟨b,o,none⟩=some v0/\w'.cell? ⟨b,o+1,none⟩=some v1/\w'.cell? ⟨b,o+2,none⟩=some v2/\w'.cell? ⟨b,o+3,none⟩=some v3/\w'.cell? ⟨b,o+4,none⟩=some v4/\w'.cell? ⟨b,o+5,none⟩=some v5/\w'.cell? ⟨b,o+6,none⟩=some v6/\w'.cell? ⟨b,o+7,none⟩=some v7:=by
 obtain⟨h0,h1,h2,h3,h4,h5,h6,h7⟩:=h
 exact⟨(eC he hb).trans h0,(eC he hb).trans h1,(eC he hb).trans h2,(eC he hb).trans h3,(eC he hb).trans h4,(eC he hb).trans h5,(eC he hb).trans h6,(eC he hb).trans h7⟩
theorem zBC {x y:TrN}:zA5 x y=true ↔ x.kd=y.kd/\x.ats=y.ats/\x.dat=y.dat/\x.ma=y.ma/\x.mi=y.mi:=by
 unfold zA5
 simp only [Bool.and_eq_true,beq_iff_eq,decide_eq_true_eq,and_assoc,tL]
 exact⟨fun ⟨a,b,c,d,e⟩=>⟨a,b,zBJ c,d,e⟩,fun ⟨a,b,c,d,e⟩=>⟨a,b,by rw [c],d,e⟩⟩
theorem zVn {x y:TrN} (h1:x.dep=y.dep) (h2:x.nm=y.nm) (h3:x.cl=y.cl) (h:zA5 x y=true):x=y:=by
 obtain⟨a,b,c,d,e⟩:=zBC.1 h
 cases x;cases y;simp_all
open Classical in
noncomputable def zBW (a b:List TrN):Bool:=decide (a=b)
open Classical in
theorem zCx {a b:List TrN} (h:a=b):zBW a b=true:=by unfold zBW;exact decide_eq_true h
open Classical in
theorem zFz {a b:List TrN} (h:¬ a=b):zBW a b=false:=by unfold zBW;exact decide_eq_false h
def zAP (t:List TrN):Prop:=∀ x ∈ t,x.nm.size<=1000000/\(∀ a ∈ x.ats,a.1.size<=1000000/\a.2.size<=1000000)/\x.ats.length<=1000000
end Go.Proofs.YtbeeoomadnmogaaGreat
namespace Go.Proofs.YtbeeoomadnmogaaGreat
open Go.RowKit
theorem zD0 (B B':Nat) (u v:Value) (s t:List TrN) (w:World) (hu:zCt B w u s) (hv:zCt B' w v t) (hl:s.length<=1000000) (hats:∀ x ∈ s,x.ats.length<=1000000) :
  zAt Tryz.prog 27 #[u,v] w (.bool (zBW s t)):=by
 unfold zAt
 obtain⟨aa,cap,rfl⟩:=hu.form
 obtain⟨ba,cap2,rfl⟩:=hv.form
 have HU:=hQq hu;clear hu
 have HV:=hQq hv;clear hv
 have HAT:=hQq hats;clear hats
 by_cases hab:s.length=t.length
 case neg=>
  have e0:(((s.length:Nat):Int) != ((t.length:Nat):Int))=true:=by rw [bne_iff_ne];omega
  rw [zFz fun e=>hab (by rw [e])]
  go_enter Tryz.func27,Tryz.ntmps27
  go_wp2
  go_ret
  exact⟨rfl,bR _ _⟩
 have e0:(((s.length:Nat):Int) != ((t.length:Nat):Int))=false:=by rw [bne_eq_false_iff_eq];omega
 have HAB:=hQq hab;clear hab
 go_enter Tryz.func27,Tryz.ntmps27
 go_wp2
 go_loopw [5] (fun i w'=>∃ (wi:World) (k:Nat),wi=w'/\k<=s.length/\i= .int .i64 k/\zGA s t k/\Ext w w') (fun i _=>s.length - (intOf i).toNat)
 case atStart=>exact⟨_,0,rfl,Nat.zero_le _,rfl,fun j hj=>absurd hj (by omega),bR _ _⟩
 case round=>
  obtain⟨wi,k,rfl,hk,rfl,hs,hb⟩:=hrel
  have HS:=hQq hs;clear hs
  by_cases hlt:k < s.length
  case neg=>
   obtain rfl:k=s.length:=by omega
   have HN:=hQq (zCx (zDG HAB.out HS.out))
   have HB:=hQq hb;clear hb
   go_wp2
   go_ret
   exact⟨by rw [HN.out];rfl,HB.out⟩
  have hlt2:k < t.length:=by have:=HAB.out;omega
  obtain⟨bx,offx,vx,hex,hbx,hvx,xx⟩:=HU.out.tr k hlt
  obtain⟨by1,offy,vy,hey,hby,hvy,yy⟩:=HV.out.tr k hlt2
  cases hex
  cases hey
  have XX:=zAG hb hbx xx
  have YY:=zAG hb hby yy
  have hvx':=(zAj.attrs hvx).ext hb
  have hvy':=(zAj.attrs hvy).ext hb
  have hl1:=HAT.out _ (List.getElem_mem hlt)
  obtain⟨ax,capx,rfl⟩:=hvx.form
  obtain⟨ay,capy,rfl⟩:=hvy.form
  have hgx:s[k]? = some (s[k]'hlt):=List.getElem?_eq_getElem hlt
  have hgy:t[k]? = some (t[k]'hlt2):=List.getElem?_eq_getElem hlt2
  generalize s[k]'hlt=x at XX hvx' hvx xx hgx hl1
  generalize t[k]'hlt2=y at YY hvy' hvy yy hgy
  have HGX:=hQq hgx;have HGY:=hQq hgy
  have HVX:=hQq hvx';have HVY:=hQq hvy'
  have CX:=hQq XX;have CY:=hQq YY
  have HB:=hQq hb
  have hne:¬ x=y->zBW s t=false:=fun he=>zFz fun e=>he (by have h1:=HGX.out;rw [e,HGY.out] at h1;injection h1 with h1;exact h1.symm)
  have HNE:=hQq hne
  replace hbx:=Nat.lt_of_lt_of_le hbx hb.size
  replace hby:=Nat.lt_of_lt_of_le hby hb.size
  have j1:((k:Nat):Int) < (s.length:Int):=by omega
  have j2:((k:Nat):Int) < (t.length:Int):=by omega
  have j0:(0:Int)<=(k:Int):=by omega
  clear hgx hgy hvx' hvy' hvx hvy xx yy XX YY hb hne e0
  obtain⟨c0,c1,c2,c3,c4,c5,c6,c7⟩:=CX.out
  obtain⟨d0,d1,d2,d3,d4,d5,d6,d7⟩:=CY.out
  by_cases p1:x.dep=y.dep
  case neg=>
   have HN:=hQq (HNE.out fun e=>p1 (by rw [e]))
   have q1:(x.dep == y.dep)=false:=nB p1
   have q2:(x.dep != y.dep)=true:=bne_iff_ne.2 p1
   clear p1
   go_wp2
   go_quiet (fail)
   go_wp2
   go_ret
   exact⟨by rw [HN.out];rfl,Ext.trans HB.out (eDn _ _)⟩
  have q2:(x.dep != y.dep)=false:=by rw [bne_eq_false_iff_eq];exact p1
  have P1:=hQq p1;clear p1
  cases p2:x.nm.toList == y.nm.toList
  ·have HN:=hQq (HNE.out fun e=>by rw [e] at p2;simp at p2)
   go_wp2
   go_quiet (fail)
   go_wp2
   go_ret
   exact⟨by rw [HN.out];rfl,Ext.trans HB.out (eDn _ _)⟩
  by_cases p3:x.cl=y.cl
  case neg=>
   have HN:=hQq (HNE.out fun e=>p3 (by rw [e]))
   have q3:(x.cl != y.cl)=true:=bne_iff_ne.2 p3
   clear p3
   go_wp2
   go_quiet (fail)
   go_wp2
   go_ret
   exact⟨by rw [HN.out];rfl,Ext.trans HB.out (eDn _ _)⟩
  have q3:(x.cl != y.cl)=false:=by rw [bne_eq_false_iff_eq];exact p3
  have P3:=hQq p3;clear p3
  cases hlk:zA5 x y
  ·have HN:=hQq (HNE.out fun e=>by rw [zBC.2 (by rw [e];simp)] at hlk;cases hlk)
   go_wp2
   go_region_held3 (fun w'=>w'.cell? ⟨bx,offx+k * 8,none⟩=some (.int .i64 x.dep)/\w'.cell? ⟨bx,offx+k * 8+1,none⟩=some (.string x.nm)/\w'.cell? ⟨bx,offx+k * 8+2,none⟩=some (.int .i64 x.kd)/\w'.cell? ⟨bx,offx+k * 8+3,none⟩=some (.slice ax x.ats.length capx)/\w'.cell? ⟨bx,offx+k * 8+4,none⟩=some (.string x.dat)/\w'.cell? ⟨bx,offx+k * 8+5,none⟩=some (.int .i64 x.ma)/\w'.cell? ⟨bx,offx+k * 8+6,none⟩=some (.int .i64 x.mi)/\w'.cell? ⟨bx,offx+k * 8+7,none⟩=some (.int .i64 x.cl)/\w'.cell? ⟨by1,offy+k * 8,none⟩=some (.int .i64 y.dep)/\w'.cell? ⟨by1,offy+k * 8+1,none⟩=some (.string y.nm)/\w'.cell? ⟨by1,offy+k * 8+2,none⟩=some (.int .i64 y.kd)/\w'.cell? ⟨by1,offy+k * 8+3,none⟩=some (.slice ay y.ats.length capy)/\w'.cell? ⟨by1,offy+k * 8+4,none⟩=some (.string y.dat)/\w'.cell? ⟨by1,offy+k * 8+5,none⟩=some (.int .i64 y.ma)/\w'.cell? ⟨by1,offy+k * 8+6,none⟩=some (.int .i64 y.mi)/\w'.cell? ⟨by1,offy+k * 8+7,none⟩=some (.int .i64 y.cl)) (first | go_keep | (refine⟨?_,?_,?_,?_,?_,?_,?_,?_,?_,?_,?_,?_,?_,?_,?_,?_⟩ <;> assumption))
    ((go_at_call 95;refine(zI7 x y _ _ _ (HVX.out.ext (by first | exact eDn _ _ | exact bR _ _ | exact Ext.trans (eDn _ _) (eDn _ _))) (HVY.out.ext (by first | exact eDn _ _ | exact bR _ _ | exact Ext.trans (eDn _ _) (eDn _ _))) hl1).mono ?_;rintro e w3 ⟨rfl,hb3⟩;obtain⟨g0,g1,g2,g3,g4,g5,g6,g7⟩:=zAG hb3 hbx CX.out;obtain⟨f0,f1,f2,f3,f4,f5,f6,f7⟩:=zAG hb3 hby CY.out;have H3:=hQq hb3;clear hb3))
   go_wp2
   go_ret
   exact⟨by rw [HN.out];rfl,Ext.trans HB.out (by first | exact H3.out | exact Ext.trans (eDn _ _) H3.out | exact Ext.trans (eDn _ _) (Ext.trans H3.out (eDn _ _)))⟩
  ·have HEQ:=hQq (zVn P1.out (zBJ (by rw [<- tL,<- tL];exact beq_iff_eq.1 p2)) P3.out hlk)
   have HN:Hid (zGA s t (k+1)):=by
    intro j hj
    by_cases e:j=k
    ·subst e;rw [HGX.out,HGY.out,HEQ.out]
    ·exact HS.out j (by omega)
   go_wp2
   go_region_held3 (fun w'=>w'.cell? ⟨bx,offx+k * 8,none⟩=some (.int .i64 x.dep)/\w'.cell? ⟨bx,offx+k * 8+1,none⟩=some (.string x.nm)/\w'.cell? ⟨bx,offx+k * 8+2,none⟩=some (.int .i64 x.kd)/\w'.cell? ⟨bx,offx+k * 8+3,none⟩=some (.slice ax x.ats.length capx)/\w'.cell? ⟨bx,offx+k * 8+4,none⟩=some (.string x.dat)/\w'.cell? ⟨bx,offx+k * 8+5,none⟩=some (.int .i64 x.ma)/\w'.cell? ⟨bx,offx+k * 8+6,none⟩=some (.int .i64 x.mi)/\w'.cell? ⟨bx,offx+k * 8+7,none⟩=some (.int .i64 x.cl)/\w'.cell? ⟨by1,offy+k * 8,none⟩=some (.int .i64 y.dep)/\w'.cell? ⟨by1,offy+k * 8+1,none⟩=some (.string y.nm)/\w'.cell? ⟨by1,offy+k * 8+2,none⟩=some (.int .i64 y.kd)/\w'.cell? ⟨by1,offy+k * 8+3,none⟩=some (.slice ay y.ats.length capy)/\w'.cell? ⟨by1,offy+k * 8+4,none⟩=some (.string y.dat)/\w'.cell? ⟨by1,offy+k * 8+5,none⟩=some (.int .i64 y.ma)/\w'.cell? ⟨by1,offy+k * 8+6,none⟩=some (.int .i64 y.mi)/\w'.cell? ⟨by1,offy+k * 8+7,none⟩=some (.int .i64 y.cl)) (first | go_keep | (refine⟨?_,?_,?_,?_,?_,?_,?_,?_,?_,?_,?_,?_,?_,?_,?_,?_⟩ <;> assumption))
    ((go_at_call 95;refine(zI7 x y _ _ _ (HVX.out.ext (by first | exact eDn _ _ | exact bR _ _ | exact Ext.trans (eDn _ _) (eDn _ _))) (HVY.out.ext (by first | exact eDn _ _ | exact bR _ _ | exact Ext.trans (eDn _ _) (eDn _ _))) hl1).mono ?_;rintro e w3 ⟨rfl,hb3⟩;obtain⟨g0,g1,g2,g3,g4,g5,g6,g7⟩:=zAG hb3 hbx CX.out;obtain⟨f0,f1,f2,f3,f4,f5,f6,f7⟩:=zAG hb3 hby CY.out;have H3:=hQq hb3;clear hb3))
   go_wp2
   go_roundw
   case rel=>exact⟨_,k+1,rfl,by omega,by go_num,HN.out,Ext.trans HB.out (by first | exact H3.out | exact Ext.trans (eDn _ _) H3.out | exact Ext.trans (eDn _ _) (Ext.trans H3.out (eDn _ _)))⟩
   case measure=>simp [intOf] <;> omega
abbrev Opn:=Nat × ByteArray
def zRr (x:Opn):List Value:=[.int .i64 x.1,.string x.2]
def cdO:Cd Opn:={t:=147,e:=210,n:=2,bytes:=24,z:=.agg #[.int .i64 0,.string ⟨#[]⟩],inner:=[],R:=fun _ _ x cs=>cs=zRr x}
theorem okO:zEN Tryz.prog cdO where
 sl:={und:=Tryz.underlying147,info:=info_parts (by kernel_rfl),zs:=rfl,pos:=by decide,small:=by decide}
 len:=fun h=>by subst h;rfl
 one:=fun h u hu=>by subst h;simp [zRr] at hu;rcases hu with rfl | rfl <;> rfl
 chg:=fun h _ _=>h
 mono:=fun _ h=>h
 self:=by simp [cdO]
theorem zAj.opn {B:Nat} {w:World} {a:Option Addr} {n cap:Nat} {l:List Opn} (h:zAj cdO B w (.slice a n cap) l) (k:Nat) (hk:k < l.length):∃ b off,a=some ⟨b,off,none⟩/\b < w.heap.size /\
  w.cell? ⟨b,off+k * 2,none⟩=some (.int .i64 (l[k]'hk).1)/\w.cell? ⟨b,off+k * 2+1,none⟩=some (.string (l[k]'hk).2):=by
 obtain⟨a',cap',he,_,_,hc⟩:=h
 cases he
 obtain⟨b,off,cs,h1,h2,h3,h4⟩:=hc k hk
 have h3:cs=zRr (l[k]'hk):=h3
 subst h3
 exact⟨b,off,h1,h2,h4 0 _ rfl,h4 1 _ rfl⟩
theorem zAg.trunc {α:Type} {C:Cd α} {B n cap i:Nat} {a:Option Addr} {w:World} {l:List α} (h:zAg C B w (.slice a n cap) l) (k:zEN Tryz.prog C) (hl:0 < l.length) (hi:i<=l.length):zAg C B w (.slice a i cap) (l.take i):=by
 obtain⟨css,hcl,hR,ho⟩:=h
 have hlen:=zAg.lens k hcl hR
 rcases ho.2 with ⟨h1,h0⟩ | ⟨g,cap',cur,h1,hb,hg,hnc,hcm,hcs,htake⟩
 ·omega
 ·injection h1 with e1 e2 e3
  subst e1 e3
  refine⟨css.take i,by rw [List.length_take,List.length_take,hcl],fun j hj hj'=>?_,?_,.inr ⟨g,_,cur,?_,hb,hg,?_,hcm,hcs,?_⟩⟩
  ·rw [List.getElem_take,List.getElem_take]
   exact hR j (by rw [List.length_take] at hj;omega) (by rw [List.length_take] at hj';omega)
  ·rw [zB3 (fun cs hc=>hlen cs (List.mem_of_mem_take hc)),List.length_take,List.length_take,hcl]
  ·rw [List.length_take,Nat.min_eq_left hi]
  ·rw [List.length_take];omega
  ·have e:css.flatten=(css.take i).flatten ++ (css.drop i).flatten:=by rw [<- List.flatten_append,List.take_append_drop]
   have hf:(css.take i).flatten.length=i * C.n:=by
    rw [zB3 (fun cs hc=>hlen cs (List.mem_of_mem_take hc)),List.length_take,Nat.min_eq_left (by omega)]
   rw [List.length_take,Nat.min_eq_left hi]
   have h2:(cur.toList.take (l.length * C.n)).take (i * C.n)=cur.toList.take (i * C.n):=by
    rw [List.take_take,Nat.min_eq_left (Nat.mul_le_mul_right _ hi)]
   rw [<- h2,htake,e,<- hf,List.take_left]
theorem bS {w:World} {b o:Nat} {c:Array Value} {t:TypeId} {f:Nat × Nat} (h:w.heap[b]? = some (.cells c t f)) (v:Value):(w.setCell ⟨b,o,none⟩ v).heap[b]? = some (.cells (c.setIfInBounds o v) t f):=by
 simp [World.setCell,Array.getElem?_modify,h]
theorem bSn {w:World} {b:Nat} {ob:Obj} (h:w.heap[b]? = some ob) (p:Addr) (v:Value) (hne:b ≠ p.block):(w.setCell p v).heap[b]? = some ob:=by
 rw [Below.heap_setCell _ _ _ _ hne];exact h
def zCU (D:List Opn) (f:Bool) (x:TrN):Int:=
 if D.length=0 then (if x.dep=0/\x.nm.toList= []/\x.kd=1 then 0 else 6)
 else if x.dep < 1\/(if f then (D.length:Int) - 1 else D.length) < x.dep then 6
 else if 8 < x.dep then 3
 else if zAq (L x.nm) ≠ 0 then zAq (L x.nm)
 else if 0 < (D.getD (x.dep.toNat - 1) (0,⟨#[]⟩)).1/\(D.getD (x.dep.toNat - 1) (0,⟨#[]⟩)).2=x.nm then 8
 else if 0 < (D.getD (x.dep.toNat - 1) (0,⟨#[]⟩)).1/\L x.nm < L (D.getD (x.dep.toNat - 1) (0,⟨#[]⟩)).2 then 6
 else if (D.getD (x.dep.toNat - 1) (0,⟨#[]⟩)).1=24 then 3 else 0
def zE9 (D:List Opn) (x:TrN):List Opn:=
 if D.length=0 then [(0,⟨#[]⟩)]
 else (D.set (x.dep.toNat - 1) ((D.getD (x.dep.toNat - 1) (0,⟨#[]⟩)).1+1,x.nm)).take x.dep.toNat ++ [(0,⟨#[]⟩)]
def zBa (t:List TrN) (k:Nat):List Opn:=
 if k=0 then [] else (List.range ((zAa t (k - 1)).dep.toNat+1)).map fun (j:Nat)=>((zCr (zCP t k) ((j:Int)+1)).1,(zCr (zCP t k) ((j:Int)+1)).2.getD ⟨#[]⟩)
def zB7 (t:List TrN) (k:Nat):Bool:=if k=0 then false else !((zAa t (k - 1)).kd == 1)
theorem zGq {t:List TrN} {k:Nat} (hk:k ≠ 0):(zBa t k).length=(zAa t (k - 1)).dep.toNat+1:=by unfold zBa;rw [if_neg hk];simp
theorem zGr {t:List TrN} {k j:Nat} (hk:k ≠ 0) (hj:j<=(zAa t (k - 1)).dep.toNat):(zBa t k).getD j (0,⟨#[]⟩)=((zCr (zCP t k) ((j:Int)+1)).1,(zCr (zCP t k) ((j:Int)+1)).2.getD ⟨#[]⟩):=by
 unfold zBa;rw [if_neg hk,List.getD_eq_getElem?_getD,List.getElem?_map,List.getElem?_range (by omega)];rfl
theorem zLg {t:List TrN}:∀ (k:Nat),k<=t.length->zAW t k->∀ d:Int,1<=d->(zCr (zCP t k) d).1<=24
 | 0,_,_,_,_=>by simp [zCP,zCr]
 | k+1,hk,h,d,hd=>by
  have ih:=zLg k (by omega) (fun j hj=>h j (by omega))
  rw [zDH t k (by omega)]
  rcases Int.lt_trichotomy (t[k]'(by omega)).dep d with c | c | c
  ·rw [zFe c];simp
  ·rw [zHn c]
   obtain⟨h1,h2,_⟩:=zAd (h k (by omega))
   have hg:=zAm t k (by omega)
   have hb:=zA4 h1
   by_cases hk0:k=0
   ·subst hk0
    have:=(hb.2.2.1 rfl).1
    rw [hg,c] at this;omega
   ·have he:=h2 hk0
    unfold zAT at he
    by_cases hn:zAq (L (zAa t k).nm) ≠ 0
    ·rw [if_pos hn] at he;exact absurd he hn
    rw [if_neg hn,hg,c] at he
    have:=ih d hd
    unfold zDL at he
    split at he
    ·split at he
     ·cases he
     ·split at he
      ·cases he
      ·split at he
       ·cases he
       ·show (zCr (zCP t k) d).1+1<=24;omega
    ·split at he
     ·cases he
     ·show (zCr (zCP t k) d).1+1<=24;omega
  ·rw [zHm c];exact ih d hd
theorem zRV {t:List TrN} {k:Nat} (hk:k < t.length) (h:zAW t k):zCU (zBa t k) (zB7 t k) (zAa t k)=if zAz t k ≠ 0 then zAz t k else if k=0 then 0 else zAT t k:=by
 by_cases hk0:k=0
 ·subst hk0
  have e:zAz t 0=if (zAa t 0).dep=0/\(zAa t 0).nm.toList= []/\(zAa t 0).kd=1 then 0 else 6:=by unfold zAz;rw [if_pos rfl]
  have e2:zCU (zBa t 0) (zB7 t 0) (zAa t 0)=if (zAa t 0).dep=0/\(zAa t 0).nm.toList= []/\(zAa t 0).kd=1 then 0 else 6:=by unfold zCU;rw [if_pos (by simp [zBa])]
  rw [e,e2]
  split <;> simp
 obtain⟨h1,_⟩:=zAd (h (k - 1) (by omega))
 have hb:=zA4 h1
 have hl:=zGq (t:=t) hk0
 have hmost:(if zB7 t k=true then ((zBa t k).length:Int) - 1 else (zBa t k).length)=zEn (zAa t (k - 1)):=by
  unfold zB7 zEn
  rw [if_neg hk0,hl]
  by_cases hd:(zAa t (k - 1)).kd=1
  ·rw [if_pos hd,if_neg (by simp [hd])];omega
  ·rw [if_neg hd,if_pos (by simp [hd])];omega
 have hsh:zAz t k=if (zAa t k).dep < 1\/zEn (zAa t (k - 1)) < (zAa t k).dep then 6 else if 8 < (zAa t k).dep then 3 else 0:=by unfold zAz;rw [if_neg hk0]
 unfold zCU
 rw [if_neg (by omega),hmost,hsh]
 by_cases c1:(zAa t k).dep < 1\/zEn (zAa t (k - 1)) < (zAa t k).dep
 ·rw [if_pos c1,if_pos c1];rfl
 rw [if_neg c1,if_neg c1]
 by_cases c2:8 < (zAa t k).dep
 ·rw [if_pos c2,if_pos c2];rfl
 rw [if_neg c2,if_neg c2,if_neg (show ¬ (0:Int) ≠ 0 by simp),if_neg hk0]
 have hmd:zEn (zAa t (k - 1))<=(zAa t (k - 1)).dep+1:=by unfold zEn;split <;> omega
 have hj:(zAa t k).dep.toNat - 1<=(zAa t (k - 1)).dep.toNat:=by omega
 have hz:(((zAa t k).dep.toNat - 1:Nat):Int)+1=(zAa t k).dep:=by omega
 rw [zGr hk0 hj,hz]
 unfold zAT
 have hle:=zLg k (by omega) h (zAa t k).dep (by omega)
 by_cases c3:zAq (L (zAa t k).nm) ≠ 0
 ·rw [if_pos c3,if_pos c3]
 rw [if_neg c3,if_neg c3]
 cases hs:(zCr (zCP t k) (zAa t k).dep).2 with
 | none=>
  have h0:=zKh.1 hs
  rw [h0];simp [zDL]
 | some z=>
  have h0:0 < (zCr (zCP t k) (zAa t k).dep).1:=by
   rcases Nat.eq_zero_or_pos (zCr (zCP t k) (zAa t k).dep).1 with e | e
   ·rw [zKh.2 e] at hs;cases hs
   ·exact e
  simp only [Option.getD_some,zDL,h0,true_and]
  by_cases k1:z=(zAa t k).nm
  ·rw [if_pos k1,if_pos k1]
  rw [if_neg k1,if_neg k1]
  by_cases k2:L (zAa t k).nm < L z
  ·rw [if_pos k2,if_pos k2]
  rw [if_neg k2,if_neg k2]
  by_cases k3:24<=(zCr (zCP t k) (zAa t k).dep).1
  ·rw [if_pos k3,if_pos (by omega)]
  ·rw [if_neg k3,if_neg (by omega)]
theorem zQs {t:List TrN} {k:Nat} (hk:k < t.length) (h:zAW t k) (hs:zAz t k=0):zE9 (zBa t k) (zAa t k)=zBa t (k+1):=by
 have hg:=zAm t k hk
 have hb:=zA4 hs
 have hd:zBa t (k+1)=(List.range ((zAa t k).dep.toNat+1)).map fun (j:Nat)=>((zCr (zAa t k :: zCP t k) ((j:Int)+1)).1,(zCr (zAa t k :: zCP t k) ((j:Int)+1)).2.getD ⟨#[]⟩):=by
  unfold zBa;rw [if_neg (by omega),Nat.add_sub_cancel,zDH t k hk,hg]
 rw [hd]
 by_cases hk0:k=0
 ·subst hk0
  obtain⟨e,_⟩:=hb.2.2.1 rfl
  unfold zE9;rw [if_pos (by simp [zBa]),e]
  have:(zAa t 0).dep < (0:Int)+1:=by omega
  simp [List.range_succ]
  rw [show (1:Int)=0+1 from rfl,zFe this];simp
 obtain⟨h1,_⟩:=zAd (h (k - 1) (by omega))
 have hb1:=zA4 h1
 have hl:=zGq (t:=t) hk0
 obtain⟨b1,b2⟩:=hb.2.2.2 hk0
 have hmd:zEn (zAa t (k - 1))<=(zAa t (k - 1)).dep+1:=by unfold zEn;split <;> omega
 unfold zE9;rw [if_neg (by omega),zGr hk0 (by omega)]
 generalize hx:zAa t k=x at *
 obtain⟨m,hm⟩:∃ m:Nat,x.dep.toNat=m+1:=⟨x.dep.toNat - 1,by omega⟩
 have hmi:x.dep=(m:Int)+1:=by omega
 rw [hm,Nat.add_sub_cancel,List.range_succ,List.map_append]
 congr 1
 ·apply List.ext_getElem?
  intro j
  rw [List.getElem?_take,List.getElem?_map]
  by_cases hj:j < m+1
  ·rw [if_pos hj,List.getElem?_range hj,List.getElem?_set]
   by_cases e:m=j
   ·subst e
    rw [if_pos rfl,if_pos (by omega)]
    simp only [Option.map_some]
    rw [zHn hmi];rfl
   ·rw [if_neg e]
    have hlt:(j:Int)+1 < x.dep:=by omega
    simp only [Option.map_some]
    rw [zHm hlt]
    have:=zGr (t:=t) (k:=k) (j:=j) hk0 (by omega)
    rw [List.getD_eq_getElem?_getD] at this
    have hjl:j < (zBa t k).length:=by omega
    rw [List.getElem?_eq_getElem hjl] at this ⊢
    exact congrArg some this
  ·rw [if_neg hj,List.getElem?_eq_none (by simpa using hj)];rfl
 ·have:x.dep < (m:Int)+1+1:=by omega
  simp [zFe this]
structure zXt (w:World) (u v:Value):Prop where
 out:∃ a,aA w u a/\aA w v a/\a.length<=1000
theorem zXt.ext {w w':World} {u v:Value} (h:zXt w u v) (he:Ext w w'):zXt w' u v:=by
 obtain⟨a,h1,h2,h3⟩:=h.out
 exact⟨a,h1.ext he,h2.ext he,h3⟩
def zXx (l:List zAr) (x:zAr) (k:Nat):Prop:=∀ j (_:j < k) (h:j < l.length),L (l[j]'h).1 < L x.1
theorem zUb (l : List zAr) (x : zAr) (k : Nat) (hk : k <= l.length) (h : zXx l x k) (hx : ∀ hk : k < l.length, ¬ L (l[k]'hk).1 < L x.1) : zRU l x = l.take k ++ [x] ++ l.drop k := by
  induction l generalizing k with
  | nil => obtain rfl : k = 0 := by simpa using hk
           rfl
  | cons a r ih =>
    cases k with
    | zero =>
      have := hx (by simp)
      simp only [List.getElem_cons_zero] at this
      simp [zRU, this]
    | succ k =>
      have h0 : L a.1 < L x.1 := h 0 (by omega) (by simp)
      have := ih k (by simpa using hk) (fun j hj hl => by have := h (j + 1) (by omega) (by simpa using hl); simpa using this) (fun hk => by have := hx (by simpa using hk); simpa using this)
      simp [zRU, h0, this]
theorem aA.drop {w:World} {b off cap:Nat} {l:List zAr} (h:aA w (.slice (some ⟨b,off,none⟩) l.length cap) l) (i:Nat) (hi:i < l.length):aA w (.slice (some ⟨b,off+i * 2,none⟩) (l.length - i) (cap - i)) (l.drop i):=by
 obtain⟨a',cap',he,hcap,hc⟩:=h
 cases he
 refine⟨_,cap - i,by rw [List.length_drop],by rw [List.length_drop];omega,fun k hk=>?_⟩
 have hk':i+k < l.length:=by rw [List.length_drop] at hk;omega
 obtain⟨b',off',he,h1,h2,h3⟩:=hc (i+k) hk'
 cases he
 refine⟨b,off+i * 2,rfl,h1,?_,?_⟩
 ·rw [List.getElem_drop,<- h2,show off+i * 2+k * 2=off+(i+k) * 2 by omega]
 ·rw [List.getElem_drop,<- h3,show off+i * 2+k * 2+1=off+(i+k) * 2+1 by omega]
abbrev zJo:Nat:=9223372036854775807
structure DeN where
 nm:ByteArray
 nd:TrN
 wh:Bool
 fi:Bool
 ns:Int
def deC (x:DeN) (va:Value):List Value:=[.string x.nm,.int .i64 x.nd.dep,.string x.nd.nm,.int .i64 x.nd.kd,va,.string x.nd.dat,.int .i64 x.nd.ma,.int .i64 x.nd.mi,.int .i64 x.nd.cl,.bool x.wh,.bool x.fi,.int .i64 x.ns]
def zWA:DeN:=⟨⟨#[]⟩,zVj,false,false,0⟩
def cdE:Cd DeN:={t:=24,e:=66,n:=12,bytes:=128,z:=.agg #[.string ⟨#[]⟩,.int .i64 0,.string ⟨#[]⟩,.int .i64 0,.slice none 0 0,.string ⟨#[]⟩,.int .i64 0,.int .i64 0,.int .i64 0,.bool false,.bool false,.int .i64 0],inner:=[57],R:=fun B w x cs=>∃ va,zAK B w va x.nd.ats/\cs=deC x va}
theorem okE:zEN Tryz.prog cdE where
 sl:={und:=Tryz.underlying24,info:=info_parts (by kernel_rfl),zs:=rfl,pos:=by decide,small:=by decide}
 len:=fun h=>by obtain⟨va,_,rfl⟩:=h;rfl
 one:=fun h u hu=>by
  obtain⟨va,h1,rfl⟩:=h
  have:=zFt h1
  simp [deC] at hu
  rcases hu with rfl | rfl | rfl | rfl | rfl | rfl | rfl | rfl | rfl | rfl | rfl | rfl <;> first | rfl | exact this
 chg:=fun h c hE=>by
  obtain⟨va,h1,rfl⟩:=h
  exact⟨va,h1.chg okA c (fun e=>hE (by rw [e];simp [cdE,cdA])) (by simp [cdA]),rfl⟩
 mono:=fun hB h=>by obtain⟨va,h1,rfl⟩:=h;exact⟨va,h1.mono okA hB,rfl⟩
 self:=by decide
abbrev zVa (B:Nat) (w:World) (v:Value) (l:List DeN):Prop:=zAj cdE B w v l
structure DiN where
 ats:List zAr
 opq:Bool
 red:List ByteArray
 ens:List DeN
def zBK (B:Nat) (w:World) (v:Value) (d:DiN):Prop:=∃ va vr ve,v= .agg #[va,.bool d.opq,vr,ve]/\zAK B w va d.ats/\zCu B w vr d.red/\zVa B w ve d.ens
theorem zBK.ext {B:Nat} {w w':World} {v:Value} {d:DiN} (h:zBK B w v d) (he:Ext w w'):zBK B w' v d:=by
 obtain⟨va,vr,ve,rfl,h1,h2,h3⟩:=h
 exact⟨va,vr,ve,rfl,h1.ext okA he,h2.ext okS he,h3.ext okE he⟩
theorem zBK.mono {B B':Nat} {w:World} {v:Value} {d:DiN} (h:zBK B w v d) (hB:B<=B'):zBK B' w v d:=by
 obtain⟨va,vr,ve,rfl,h1,h2,h3⟩:=h
 exact⟨va,vr,ve,rfl,h1.mono okA hB,h2.mono okS hB,h3.mono okE hB⟩
theorem zBK.chg {B:Nat} {E:TypeId} {row:Option Nat} {w w':World} {v:Value} {d:DiN} (h:zBK B w v d) (c:Chg B E row w w') (hE:E ≠ 57/\E ≠ 9/\E ≠ 66):zBK B w' v d:=by
 obtain⟨va,vr,ve,rfl,h1,h2,h3⟩:=h
 exact⟨va,vr,ve,rfl,h1.chg okA c hE.1 (by simp [cdA]),h2.chg okS c hE.2.1 (by simp [cdS]),h3.chg okE c hE.2.2 (by simp [cdE,hE.1])⟩
def zWU {α:Type} (C:Cd α):Prop:=∀ {B w x cs},C.R B w x cs->∃ s,cs[0]? = some (.string s)
theorem zVd:zWU cdA:=fun h=>by subst h;exact⟨_,rfl⟩
theorem zXc:zWU cdS:=fun h=>by subst h;exact⟨_,rfl⟩
theorem zX5:zWU cdE:=fun h=>by obtain⟨_,_,rfl⟩:=h;exact⟨_,rfl⟩
theorem zAj.keepX {α:Type} {C:Cd α} {B b:Nat} {w W:World} {v:Value} {l:List α} (h:zAj C B w v l) (hf:zWU C) (hk:zAA (some b) w W) (hs:w.heap.size<=W.heap.size)
  (hb:∀ o s,w.cell? ⟨b,o,none⟩ ≠ some (.string s)) (hR:∀ x cs,C.R B w x cs->C.R B W x cs):zAj C B W v l:=by
 obtain⟨a,cap,rfl,hcap,hn,hc⟩:=h
 have hne:∀ k (h:k < l.length) b' off,a=some ⟨b',off,none⟩->b' ≠ b:=by
  rintro k hk' b' off rfl rfl
  obtain⟨b2,off2,cs,he,_,hr,hrow⟩:=hc k hk'
  cases he
  obtain⟨s,h0⟩:=hf hr
  exact hb _ s (hrow 0 _ h0)
 refine⟨a,cap,rfl,hcap,fun h0 b' hb'=>?_,fun i hi=>?_⟩
 ·obtain⟨b2,off2,cs2,rfl,_⟩:=hc 0 h0
  cases hb'
  refine(hn h0 b2 rfl).imp_right fun ⟨cs,f,h1⟩=>⟨cs,f,hk _ _ h1 (fun e=>hne 0 h0 b2 off2 rfl (by injection e with e;exact e.symm))⟩
 ·obtain⟨b2,off2,cs,rfl,hb2,hr,hrow⟩:=hc i hi
  refine⟨b2,off2,cs,rfl,Nat.lt_of_lt_of_le hb2 hs,hR _ _ hr,fun j u hj=>?_⟩
  rw [zEL hk hb2 (fun e=>hne i hi b2 off2 rfl (by injection e with e;exact e.symm))]
  exact hrow j u hj
theorem zBK.keepX {B b:Nat} {w W:World} {v:Value} {d:DiN} (h:zBK B w v d) (hk:zAA (some b) w W) (hs:w.heap.size<=W.heap.size) (hb:∀ o s,w.cell? ⟨b,o,none⟩ ≠ some (.string s)):zBK B W v d:=by
 obtain⟨va,vr,ve,rfl,h1,h2,h3⟩:=h
 exact⟨va,vr,ve,rfl,h1.keepX zVd hk hs hb fun _ _ h=>h,h2.keepX zXc hk hs hb fun _ _ h=>h,
  h3.keepX zX5 hk hs hb fun x cs ⟨va,g1,g2⟩=>⟨va,g1.keepX zVd hk hs hb fun _ _ h=>h,g2⟩⟩
end Go.Proofs.YtbeeoomadnmogaaGreat
