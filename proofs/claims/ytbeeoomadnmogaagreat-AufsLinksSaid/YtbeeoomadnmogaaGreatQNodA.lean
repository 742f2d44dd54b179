/- NodA NodB -/
import Derived.Test.YtbeeoomadnmogaaGreatQI2
import Derived.Test.YtbeeoomadnmogaaGreatQOwnAx
set_option maxRecDepth 100000
set_option maxHeartbeats 64000000
namespace Go.Proofs.YtbeeoomadnmogaaGreat
open Go.RowKit
theorem zCv (v:Value)(l:List ByteArray)(w:World)(hv:zCp w v l):zAs Tryz.prog 105 #[v] w (.int .i64 (zAR l)):=by
 unfold zAs;obtain⟨a,cap,rfl,hcap,hc⟩:=hv;have HC:=hQq hc;clear hc;by_cases hl:8<l.length
 ·rw[zID hl];go_enter Tryz.func105,Tryz.ntmps105;go_wp2;go_ret;exact⟨rfl,bR _ _⟩
 rw[zMC hl];go_enter Tryz.func105,Tryz.ntmps105;go_wp2;go_loopw [11] (fun i w'=>∃(wi:World) (k:Nat),wi=w'/\k<=l.length/\i= .int .i64 k/\zB6 (l.take k)=0/\Ext w w') (fun i _=>l.length-(intOf i).toNat)
 case atStart=>exact⟨_,0,rfl,Nat.zero_le _,rfl,rfl,bR _ _⟩
 case round=>
  obtain⟨wi,k,rfl,hk,rfl,hf,hb⟩:=hrel;have HF:=hQq hf;clear hf;by_cases hlt:k<l.length
  ·obtain⟨b,off,rfl,hbs,h1⟩:=HC.out k hlt;replace h1:=(eC hb hbs).trans h1;have HB:=hQq hb;clear hb;by_cases he:zAn (L (l[k]'hlt))=0
   ·have HN:=hQq (zHN l k hlt HF.out he);generalize l[k]'hlt=x at h1 he;go_wp2_with (go_at_call 106;refine(zAZ _ _).mono ?_;rintro e w' ⟨rfl,hb2⟩;have H2:=hQq hb2;clear hb2)
    go_roundw
    case rel=>exact⟨_,k+1,rfl,by omega,by go_num,HN.out,Ext.trans HB.out H2.out⟩
    case measure=>simp[intOf];omega
   ·have HN:=hQq (zIP l k hlt HF.out he);have he1:(zAn (L (l[k]'hlt)) != 0)=true:=bne_iff_ne.2 he;clear he;generalize l[k]'hlt=x at h1 he1 HN;go_wp2_with (go_at_call 106;refine(zAZ _ _).mono ?_;rintro e w' ⟨rfl,hb2⟩;have H2:=hQq hb2;clear hb2)
    go_ret;exact⟨by rw[HN.out];rfl,Ext.trans HB.out H2.out⟩
  ·have HN:Hid (zB6 l=0):=by have:=HF.out;rw[List.take_of_length_le (by omega)]at this;exact this
   have HB:=hQq hb;clear hb;go_wp2;go_ret;exact⟨by rw[HN.out];rfl,HB.out⟩
theorem zMy (u v:Value)(a b:List ByteArray)(w:World)(hu:zCp w u a)(hv:zCp w v b)(hl:a.length<=1000000):
  zAs Tryz.prog 62 #[u,v] w (.bool (decide (a=b))):=by
 unfold zAs;obtain⟨aa,cap,rfl,_,hc⟩:=hu;obtain⟨ba,cap2,rfl,_,hc2⟩:=hv;have HC:=hQq hc;clear hc;have HD:=hQq hc2;clear hc2;by_cases hab:a.length=b.length
 ·have e0:(((a.length:Nat):Int) != ((b.length:Nat):Int))=false:=by rw[bne_eq_false_iff_eq];omega
  go_enter Tryz.func62,Tryz.ntmps62;go_wp2;go_loopw [5] (fun i w'=>∃(wi:World) (k:Nat),wi=w'/\k<=a.length/\i= .int .i64 k/\zGJ a b k/\Ext w w') (fun i _=>a.length-(intOf i).toNat)
  case atStart=>exact⟨_,0,rfl,Nat.zero_le _,rfl,fun j hj=>absurd hj (by omega),bR _ _⟩
  case round=>
   obtain⟨wi,k,rfl,hk,rfl,hs,hb⟩:=hrel;have HS:=hQq hs;clear hs;by_cases hlt:k<a.length
   ·obtain⟨bb,off,rfl,hbs,c1⟩:=HC.out k hlt;obtain⟨bb2,off2,rfl,hbs2,d1⟩:=HD.out k (by omega);replace c1:=(eC hb hbs).trans c1;replace d1:=(eC hb hbs2).trans d1;have hx:a[k]? = some (a[k]'hlt):=List.getElem?_eq_getElem hlt;have hy:b[k]? = some (b[k]'(by omega)):=List.getElem?_eq_getElem (by omega);generalize a[k]'hlt=x at c1 hx;generalize b[k]'(by omega)=y at d1 hy;have HX:=hQq hx;clear hx;have HY:=hQq hy;clear hy;have HB:=hQq hb;clear hb;have j1:((k:Nat):Int)<(a.length:Int):=by omega
    have j2:((k:Nat):Int)<(b.length:Int):=by omega
    clear e0;cases e1:x.toList==y.toList
    ·have he:¬x=y:=fun e=>by rw[e]at e1;simp at e1
     have HN:=hQq (show decide (a=b)=false from decide_eq_false fun e=>he (by have h1:=HX.out;rw[e,HY.out]at h1;injection h1 with h1;exact h1.symm));clear he;go_wp2;go_quiet (fail)
     go_wp2;go_ret;exact⟨by rw[HN.out];rfl,Ext.trans HB.out (eDn _ _)⟩
    ·have he:x=y:=zBG (by rw[<- tL,<- tL];exact beq_iff_eq.1 e1);have hN:zGJ a b (k+1):=by
      intro j hj;by_cases e:j=k
      ·subst e;rw[HX.out,HY.out,he]
      ·exact HS.out j (by omega)
     have HN:=hQq hN;clear hN he;go_wp2;go_quiet (fail)
     go_wp2;go_roundw
     case rel=>exact⟨_,k+1,rfl,by omega,by go_num,HN.out,Ext.trans HB.out (eDn _ _)⟩
     case measure=>simp[intOf];omega
   ·obtain rfl:k=a.length:=by omega
    have HN:=hQq (show decide (a=b)=true from decide_eq_true (zDF hab HS.out));have HB:=hQq hb;clear hb;go_wp2;go_ret;exact⟨by rw[HN.out];rfl,HB.out⟩
 ·have e0:(((a.length:Nat):Int) != ((b.length:Nat):Int))=true:=by rw[bne_iff_ne];omega
  rw[show decide (a=b)=false from decide_eq_false fun e=>hab (by rw[e])];go_enter Tryz.func62,Tryz.ntmps62;go_wp2;go_ret;exact⟨rfl,bR _ _⟩
theorem zGZ (u v:Value)(a b:List ByteArray)(w:World)(hu:zCp w u a)(hv:zCp w v b)(hl:a.length<=1000000):
  zAs Tryz.prog 145 #[u,v] w (.bool (decide (a=b))):=by
 unfold zAs;obtain⟨aa,cap,rfl,_,hc⟩:=hu;obtain⟨ba,cap2,rfl,_,hc2⟩:=hv;have HC:=hQq hc;clear hc;have HD:=hQq hc2;clear hc2;by_cases hab:a.length=b.length
 ·have e0:(((a.length:Nat):Int) != ((b.length:Nat):Int))=false:=by rw[bne_eq_false_iff_eq];omega
  go_enter Tryz.func145,Tryz.ntmps145;go_wp2;go_loopw [13] (fun i w'=>∃(wi:World) (k:Nat),wi=w'/\k<=a.length/\i= .int .i64 k/\zGJ a b k/\Ext w w') (fun i _=>a.length-(intOf i).toNat)
  case atStart=>exact⟨_,0,rfl,Nat.zero_le _,rfl,fun j hj=>absurd hj (by omega),bR _ _⟩
  case round=>
   obtain⟨wi,k,rfl,hk,rfl,hs,hb⟩:=hrel;have HS:=hQq hs;clear hs;by_cases hlt:k<a.length
   ·obtain⟨bb,off,rfl,hbs,c1⟩:=HC.out k hlt;obtain⟨bb2,off2,rfl,hbs2,d1⟩:=HD.out k (by omega);replace c1:=(eC hb hbs).trans c1;replace d1:=(eC hb hbs2).trans d1;have hx:a[k]? = some (a[k]'hlt):=List.getElem?_eq_getElem hlt;have hy:b[k]? = some (b[k]'(by omega)):=List.getElem?_eq_getElem (by omega);generalize a[k]'hlt=x at c1 hx;generalize b[k]'(by omega)=y at d1 hy;have HX:=hQq hx;clear hx;have HY:=hQq hy;clear hy;have HB:=hQq hb;clear hb;have j1:((k:Nat):Int)<(a.length:Int):=by omega
    have j2:((k:Nat):Int)<(b.length:Int):=by omega
    clear e0;cases e1:x.toList==y.toList
    ·have he:¬x=y:=fun e=>by rw[e]at e1;simp at e1
     have HN:=hQq (show decide (a=b)=false from decide_eq_false fun e=>he (by have h1:=HX.out;rw[e,HY.out]at h1;injection h1 with h1;exact h1.symm));clear he;go_wp2;go_quiet (fail)
     go_wp2;go_ret;exact⟨by rw[HN.out];rfl,Ext.trans HB.out (eDn _ _)⟩
    ·have he:x=y:=zBG (by rw[<- tL,<- tL];exact beq_iff_eq.1 e1);have hN:zGJ a b (k+1):=by
      intro j hj;by_cases e:j=k
      ·subst e;rw[HX.out,HY.out,he]
      ·exact HS.out j (by omega)
     have HN:=hQq hN;clear hN he;go_wp2;go_quiet (fail)
     go_wp2;go_roundw
     case rel=>exact⟨_,k+1,rfl,by omega,by go_num,HN.out,Ext.trans HB.out (eDn _ _)⟩
     case measure=>simp[intOf];omega
   ·obtain rfl:k=a.length:=by omega
    have HN:=hQq (show decide (a=b)=true from decide_eq_true (zDF hab HS.out));have HB:=hQq hb;clear hb;go_wp2;go_ret;exact⟨by rw[HN.out];rfl,HB.out⟩
 ·have e0:(((a.length:Nat):Int) != ((b.length:Nat):Int))=true:=by rw[bne_iff_ne];omega
  rw[show decide (a=b)=false from decide_eq_false fun e=>hab (by rw[e])];go_enter Tryz.func145,Tryz.ntmps145;go_wp2;go_ret;exact⟨rfl,bR _ _⟩
theorem zJg (u v:Value)(a b:List zAq)(w:World)(hu:aA w u a)(hv:aA w v b)(hl:a.length<=1000000):
  zAs Tryz.prog 61 #[u,v] w (.bool (decide (a=b))):=by
 unfold zAs;obtain⟨aa,cap,rfl,_,hc⟩:=hu;obtain⟨ba,cap2,rfl,_,hc2⟩:=hv;have HC:=hQq hc;clear hc;have HD:=hQq hc2;clear hc2;by_cases hab:a.length=b.length
 ·have e0:(((a.length:Nat):Int) != ((b.length:Nat):Int))=false:=by rw[bne_eq_false_iff_eq];omega
  go_enter Tryz.func61,Tryz.ntmps61;go_wp2;go_loopw [5] (fun i w'=>∃(wi:World) (k:Nat),wi=w'/\k<=a.length/\i= .int .i64 k/\zGJ a b k/\Ext w w') (fun i _=>a.length-(intOf i).toNat)
  case atStart=>exact⟨_,0,rfl,Nat.zero_le _,rfl,fun j hj=>absurd hj (by omega),bR _ _⟩
  case round=>
   obtain⟨wi,k,rfl,hk,rfl,hs,hb⟩:=hrel;have HS:=hQq hs;clear hs;by_cases hlt:k<a.length
   ·obtain⟨bb,off,rfl,hbs,c1,c2⟩:=HC.out k hlt;obtain⟨bb2,off2,rfl,hbs2,d1,d2⟩:=HD.out k (by omega);replace c1:=(eC hb hbs).trans c1;replace c2:=(eC hb hbs).trans c2;replace d1:=(eC hb hbs2).trans d1;replace d2:=(eC hb hbs2).trans d2;have hx:a[k]? = some (a[k]'hlt):=List.getElem?_eq_getElem hlt;have hy:b[k]? = some (b[k]'(by omega)):=List.getElem?_eq_getElem (by omega);generalize a[k]'hlt=x at c1 c2 hx;generalize b[k]'(by omega)=y at d1 d2 hy;have HX:=hQq hx;clear hx;have HY:=hQq hy;clear hy;have HB:=hQq hb;clear hb;have j1:((k:Nat):Int)<(a.length:Int):=by omega
    have j2:((k:Nat):Int)<(b.length:Int):=by omega
    clear e0;cases e1:x.1.toList==y.1.toList
    ·have he:¬x=y:=fun e=>by rw[e]at e1;simp at e1
     have HN:=hQq (show decide (a=b)=false from decide_eq_false fun e=>he (by have h1:=HX.out;rw[e,HY.out]at h1;injection h1 with h1;exact h1.symm));clear he;go_wp2;go_quiet (fail)
     go_wp2;go_ret;exact⟨by rw[HN.out];rfl,Ext.trans HB.out (eDn _ _)⟩
    cases e2:x.2.toList==y.2.toList
    ·have he:¬x=y:=fun e=>by rw[e]at e2;simp at e2
     have HN:=hQq (show decide (a=b)=false from decide_eq_false fun e=>he (by have h1:=HX.out;rw[e,HY.out]at h1;injection h1 with h1;exact h1.symm));clear he;go_wp2;go_quiet (fail)
     go_wp2;go_ret;exact⟨by rw[HN.out];rfl,Ext.trans HB.out (eDn _ _)⟩
    ·have he:x=y:=Prod.ext (zBG (by rw[<- tL,<- tL];exact beq_iff_eq.1 e1)) (zBG (by rw[<- tL,<- tL];exact beq_iff_eq.1 e2));have hN:zGJ a b (k+1):=by
      intro j hj;by_cases e:j=k
      ·subst e;rw[HX.out,HY.out,he]
      ·exact HS.out j (by omega)
     have HN:=hQq hN;clear hN he;go_wp2;go_quiet (fail)
     go_wp2;go_roundw
     case rel=>exact⟨_,k+1,rfl,by omega,by go_num,HN.out,Ext.trans HB.out (eDn _ _)⟩
     case measure=>simp[intOf];omega
   ·obtain rfl:k=a.length:=by omega
    have HN:=hQq (show decide (a=b)=true from decide_eq_true (zDF hab HS.out));have HB:=hQq hb;clear hb;go_wp2;go_ret;exact⟨by rw[HN.out];rfl,HB.out⟩
 ·have e0:(((a.length:Nat):Int) != ((b.length:Nat):Int))=true:=by rw[bne_iff_ne];omega
  rw[show decide (a=b)=false from decide_eq_false fun e=>hab (by rw[e])];go_enter Tryz.func61,Tryz.ntmps61;go_wp2;go_ret;exact⟨rfl,bR _ _⟩
theorem zRQ (u v:Value)(a b:List zAq)(w:World)(hu:aA w u a)(hv:aA w v b)(hl:a.length<=1000000):
  zAs Tryz.prog 208 #[u,v] w (.bool (decide (a=b))):=by
 unfold zAs;obtain⟨aa,cap,rfl,_,hc⟩:=hu;obtain⟨ba,cap2,rfl,_,hc2⟩:=hv;have HC:=hQq hc;clear hc;have HD:=hQq hc2;clear hc2;by_cases hab:a.length=b.length
 ·have e0:(((a.length:Nat):Int) != ((b.length:Nat):Int))=false:=by rw[bne_eq_false_iff_eq];omega
  go_enter Tryz.func208,Tryz.ntmps208;go_wp2;go_loopw [13] (fun i w'=>∃(wi:World) (k:Nat),wi=w'/\k<=a.length/\i= .int .i64 k/\zGJ a b k/\Ext w w') (fun i _=>a.length-(intOf i).toNat)
  case atStart=>exact⟨_,0,rfl,Nat.zero_le _,rfl,fun j hj=>absurd hj (by omega),bR _ _⟩
  case round=>
   obtain⟨wi,k,rfl,hk,rfl,hs,hb⟩:=hrel;have HS:=hQq hs;clear hs;by_cases hlt:k<a.length
   ·obtain⟨bb,off,rfl,hbs,c1,c2⟩:=HC.out k hlt;obtain⟨bb2,off2,rfl,hbs2,d1,d2⟩:=HD.out k (by omega);replace c1:=(eC hb hbs).trans c1;replace c2:=(eC hb hbs).trans c2;replace d1:=(eC hb hbs2).trans d1;replace d2:=(eC hb hbs2).trans d2;have hx:a[k]? = some (a[k]'hlt):=List.getElem?_eq_getElem hlt;have hy:b[k]? = some (b[k]'(by omega)):=List.getElem?_eq_getElem (by omega);generalize a[k]'hlt=x at c1 c2 hx;generalize b[k]'(by omega)=y at d1 d2 hy;have HX:=hQq hx;clear hx;have HY:=hQq hy;clear hy;have HB:=hQq hb;clear hb;have j1:((k:Nat):Int)<(a.length:Int):=by omega
    have j2:((k:Nat):Int)<(b.length:Int):=by omega
    clear e0;cases e1:x.1.toList==y.1.toList
    ·have he:¬x=y:=fun e=>by rw[e]at e1;simp at e1
     have HN:=hQq (show decide (a=b)=false from decide_eq_false fun e=>he (by have h1:=HX.out;rw[e,HY.out]at h1;injection h1 with h1;exact h1.symm));clear he;go_wp2;go_quiet (fail)
     go_wp2;go_ret;exact⟨by rw[HN.out];rfl,Ext.trans HB.out (eDn _ _)⟩
    cases e2:x.2.toList==y.2.toList
    ·have he:¬x=y:=fun e=>by rw[e]at e2;simp at e2
     have HN:=hQq (show decide (a=b)=false from decide_eq_false fun e=>he (by have h1:=HX.out;rw[e,HY.out]at h1;injection h1 with h1;exact h1.symm));clear he;go_wp2;go_quiet (fail)
     go_wp2;go_ret;exact⟨by rw[HN.out];rfl,Ext.trans HB.out (eDn _ _)⟩
    ·have he:x=y:=Prod.ext (zBG (by rw[<- tL,<- tL];exact beq_iff_eq.1 e1)) (zBG (by rw[<- tL,<- tL];exact beq_iff_eq.1 e2));have hN:zGJ a b (k+1):=by
      intro j hj;by_cases e:j=k
      ·subst e;rw[HX.out,HY.out,he]
      ·exact HS.out j (by omega)
     have HN:=hQq hN;clear hN he;go_wp2;go_quiet (fail)
     go_wp2;go_roundw
     case rel=>exact⟨_,k+1,rfl,by omega,by go_num,HN.out,Ext.trans HB.out (eDn _ _)⟩
     case measure=>simp[intOf];omega
   ·obtain rfl:k=a.length:=by omega
    have HN:=hQq (show decide (a=b)=true from decide_eq_true (zDF hab HS.out));have HB:=hQq hb;clear hb;go_wp2;go_ret;exact⟨by rw[HN.out];rfl,HB.out⟩
 ·have e0:(((a.length:Nat):Int) != ((b.length:Nat):Int))=true:=by rw[bne_iff_ne];omega
  rw[show decide (a=b)=false from decide_eq_false fun e=>hab (by rw[e])];go_enter Tryz.func208,Tryz.ntmps208;go_wp2;go_ret;exact⟨rfl,bR _ _⟩
theorem zHv (x y:TrN)(va vb:Value)(w:World)(ha:aA w va x.ats)(hb:aA w vb y.ats)(hl:x.ats.length<=1000000):
  zAs Tryz.prog 95 #[trV x va,trV y vb] w (.bool (zAT x y)):=by
 unfold zAs trV;have hA:∀W,Ext w W->zAs Tryz.prog 61 #[va,vb] W (.bool (decide (x.ats=y.ats))):=fun W he=>zJg va vb _ _ W (ha.ext he) (hb.ext he) hl;have HW:Hid (Ext w ((w.alloc (.cells #[.int .i64 x.dep,.string x.nm,.int .i64 x.kd,va,.string x.dat,.int .i64 x.ma,.int .i64 x.mi,.int .i64 x.cl] 59)).alloc (.cells #[.int .i64 y.dep,.string y.nm,.int .i64 y.kd,vb,.string y.dat,.int .i64 y.ma,.int .i64 y.mi,.int .i64 y.cl] 59))):=(eA _ _).trans (eA _ _);clear ha hb;unfold zAT;have HH:=hQq hA;clear hA;cases e0:x.kd==y.kd
 ·simp only[Bool.false_and];go_enter Tryz.func95,Tryz.ntmps95;go_wp2;go_ret;exact⟨by simp,HW.out⟩
 cases e1:decide (x.ats=y.ats)
 ·simp only[Bool.and_false,Bool.false_and];go_enter Tryz.func95,Tryz.ntmps95;go_wp2_with (go_at_call 61;refine(HH.out _ HW.out).mono ?_;rintro e w' ⟨rfl,hb⟩;obtain⟨hc,hf⟩:=zFe hb;have HB:=hQq hb;clear hb)
  go_ret;exact⟨by simp,Ext.trans HW.out HB.out⟩
 cases e2:x.dat.toList==y.dat.toList
 ·simp only[Bool.and_false,Bool.false_and];go_enter Tryz.func95,Tryz.ntmps95;go_wp2_with (go_at_call 61;refine(HH.out _ HW.out).mono ?_;rintro e w' ⟨rfl,hb⟩;obtain⟨hc,hf⟩:=zFe hb;have HB:=hQq hb;clear hb)
  go_ret;exact⟨by simp,Ext.trans HW.out HB.out⟩
 cases e3:x.ma==y.ma
 ·simp only[Bool.and_false,Bool.false_and];go_enter Tryz.func95,Tryz.ntmps95;go_wp2_with (go_at_call 61;refine(HH.out _ HW.out).mono ?_;rintro e w' ⟨rfl,hb⟩;obtain⟨hc,hf⟩:=zFe hb;have HB:=hQq hb;clear hb)
  go_ret;exact⟨by simp,Ext.trans HW.out HB.out⟩
 cases e4:x.mi==y.mi
 ·simp only[Bool.and_false];go_enter Tryz.func95,Tryz.ntmps95;go_wp2_with (go_at_call 61;refine(HH.out _ HW.out).mono ?_;rintro e w' ⟨rfl,hb⟩;obtain⟨hc,hf⟩:=zFe hb;have HB:=hQq hb;clear hb)
  go_ret;exact⟨by simp,Ext.trans HW.out HB.out⟩
 ·simp only[Bool.and_true];go_enter Tryz.func95,Tryz.ntmps95;go_wp2_with (go_at_call 61;refine(HH.out _ HW.out).mono ?_;rintro e w' ⟨rfl,hb⟩;obtain⟨hc,hf⟩:=zFe hb;have HB:=hQq hb;clear hb)
  go_ret;exact⟨by simp,Ext.trans HW.out HB.out⟩
theorem zGV (x y:TrN)(va vb:Value)(w:World)(ha:aA w va x.ats)(hb:aA w vb y.ats)(hl:x.ats.length<=1000000):
  zAs Tryz.prog 184 #[trV x va,trV y vb] w (.bool (zAT x y)):=by
 unfold zAs trV;have hA:∀W,Ext w W->zAs Tryz.prog 208 #[va,vb] W (.bool (decide (x.ats=y.ats))):=fun W he=>zRQ va vb _ _ W (ha.ext he) (hb.ext he) hl;have HW:Hid (Ext w ((w.alloc (.cells #[.int .i64 x.dep,.string x.nm,.int .i64 x.kd,va,.string x.dat,.int .i64 x.ma,.int .i64 x.mi,.int .i64 x.cl] 59)).alloc (.cells #[.int .i64 y.dep,.string y.nm,.int .i64 y.kd,vb,.string y.dat,.int .i64 y.ma,.int .i64 y.mi,.int .i64 y.cl] 59))):=(eA _ _).trans (eA _ _);clear ha hb;unfold zAT;have HH:=hQq hA;clear hA;cases e0:x.kd==y.kd
 ·simp only[Bool.false_and];go_enter Tryz.func184,Tryz.ntmps184;go_wp2;go_ret;exact⟨by simp,HW.out⟩
 cases e1:x.dat.toList==y.dat.toList
 ·simp only[Bool.and_false,Bool.false_and];go_enter Tryz.func184,Tryz.ntmps184;go_wp2;go_ret;exact⟨by simp,HW.out⟩
 cases e2:x.ma==y.ma
 ·simp only[Bool.and_false,Bool.false_and];go_enter Tryz.func184,Tryz.ntmps184;go_wp2;go_ret;exact⟨by simp,HW.out⟩
 cases e3:x.mi==y.mi
 ·simp only[Bool.and_false];go_enter Tryz.func184,Tryz.ntmps184;go_wp2;go_ret;exact⟨by simp,HW.out⟩
 cases e4:decide (x.ats=y.ats)
 ·simp only[Bool.and_false,Bool.false_and];go_enter Tryz.func184,Tryz.ntmps184;go_wp2_with (go_at_call 208;refine(HH.out _ HW.out).mono ?_;rintro e w' ⟨rfl,hb⟩;obtain⟨hc,hf⟩:=zFe hb;have HB:=hQq hb;clear hb)
  go_ret;exact⟨by simp,Ext.trans HW.out HB.out⟩
 ·simp only[Bool.and_true];go_enter Tryz.func184,Tryz.ntmps184;go_wp2_with (go_at_call 208;refine(HH.out _ HW.out).mono ?_;rintro e w' ⟨rfl,hb⟩;obtain⟨hc,hf⟩:=zFe hb;have HB:=hQq hb;clear hb)
  go_ret;exact⟨by simp,Ext.trans HW.out HB.out⟩
theorem zDa (x:TrN)(va:Value)(w:World)(hv:∃a cap,va= .slice a x.ats.length cap):zAs Tryz.prog 90 #[trV x va] w (.int .i64 (zAc x)):=by
 unfold zAs trV;obtain⟨aa,cap,rfl⟩:=hv;by_cases k0:x.kd<1
 case pos=>
  have hr:zAc x=14:=by unfold zAc;simp[k0]
  rw[hr];clear hr;go_enter Tryz.func90,Tryz.ntmps90;go_wp2;go_ret;exact⟨rfl,eA _ _⟩
 by_cases k6:5<x.kd
 case pos=>
  have hr:zAc x=14:=by unfold zAc;simp[k6]
  rw[hr];clear hr;go_enter Tryz.func90,Tryz.ntmps90;go_wp2;go_ret;exact⟨rfl,eA _ _⟩
 by_cases k:x.kd=1
 case pos=>
  clear k0 k6;by_cases hdat:x.dat.toList= []
  case pos=>
   have dat1:x.dat.toList.isEmpty=true:=by rw[hdat];rfl
   have dat2:x.dat.size=0:=zA8 hdat;by_cases hma:x.ma=0
   case pos=>
    by_cases hmi:x.mi=0
    case pos=>
     by_cases hcl:x.cl=0
     case pos=>
      have hr:zAc x=0:=by unfold zAc;simp[k,hdat,hma,hmi,hcl]
      rw[hr];clear hr;go_enter Tryz.func90,Tryz.ntmps90;go_wp2;go_ret;exact⟨rfl,eA _ _⟩
     case neg=>
      have cl1:(x.cl==0)=false:=nB hcl;have cl2:(x.cl != 0)=true:=bne_iff_ne.2 hcl;have hr:zAc x=6:=by unfold zAc;simp[k,hdat,hma,hmi,hcl]
      rw[hr];clear hr;go_enter Tryz.func90,Tryz.ntmps90;go_wp2;go_ret;exact⟨rfl,eA _ _⟩
    case neg=>
     have mi1:(x.mi==0)=false:=nB hmi;have mi2:(x.mi != 0)=true:=bne_iff_ne.2 hmi;have hr:zAc x=6:=by unfold zAc;simp[k,hdat,hma,hmi]
     rw[hr];clear hr;go_enter Tryz.func90,Tryz.ntmps90;go_wp2;go_ret;exact⟨rfl,eA _ _⟩
   case neg=>
    have ma1:(x.ma==0)=false:=nB hma;have ma2:(x.ma != 0)=true:=bne_iff_ne.2 hma;have hr:zAc x=6:=by unfold zAc;simp[k,hdat,hma]
    rw[hr];clear hr;go_enter Tryz.func90,Tryz.ntmps90;go_wp2;go_ret;exact⟨rfl,eA _ _⟩
  case neg=>
   have dat1:x.dat.toList.isEmpty=false:=by simpa using hdat
   have hr:zAc x=6:=by unfold zAc;simp[k,hdat]
   rw[hr];clear hr;go_enter Tryz.func90,Tryz.ntmps90;go_wp2;go_ret;exact⟨rfl,eA _ _⟩
 case neg=>
 have n1:=k;clear k;by_cases k:x.kd=2
 case pos=>
  clear k0 k6;by_cases hma:x.ma=0
  case pos=>
   by_cases hmi:x.mi=0
   case pos=>
    by_cases z:384<x.dat.size
    case pos=>
     have hr:zAc x=3:=by unfold zAc;simp[k,hma,hmi,z]
     rw[hr];clear hr;go_enter Tryz.func90,Tryz.ntmps90;go_wp2;go_ret;exact⟨rfl,eA _ _⟩
    case neg=>
     have hr:zAc x=0:=by unfold zAc;simp[k,hma,hmi,z]
     rw[hr];clear hr;go_enter Tryz.func90,Tryz.ntmps90;go_wp2;go_ret;exact⟨rfl,eA _ _⟩
   case neg=>
    have mi1:(x.mi==0)=false:=nB hmi;have mi2:(x.mi != 0)=true:=bne_iff_ne.2 hmi;have hr:zAc x=6:=by unfold zAc;simp[k,hma,hmi]
    rw[hr];clear hr;go_enter Tryz.func90,Tryz.ntmps90;go_wp2;go_ret;exact⟨rfl,eA _ _⟩
  case neg=>
   have ma1:(x.ma==0)=false:=nB hma;have ma2:(x.ma != 0)=true:=bne_iff_ne.2 hma;have hr:zAc x=6:=by unfold zAc;simp[k,hma]
   rw[hr];clear hr;go_enter Tryz.func90,Tryz.ntmps90;go_wp2;go_ret;exact⟨rfl,eA _ _⟩
 case neg=>
 have n2:=k;clear k;by_cases k:x.kd=3
 case pos=>
  clear k0 k6;by_cases hma:x.ma=0
  case pos=>
   by_cases hmi:x.mi=0
   case pos=>
    by_cases hdat:x.dat.toList= []
    case pos=>
     have dat1:x.dat.toList.isEmpty=true:=by rw[hdat];rfl
     have dat2:x.dat.size=0:=zA8 hdat;have hr:zAc x=6:=by unfold zAc;simp[k,hma,hmi,hdat]
     rw[hr];clear hr;go_enter Tryz.func90,Tryz.ntmps90;go_wp2;go_ret;exact⟨rfl,eA _ _⟩
    case neg=>
     have dat1:x.dat.toList.isEmpty=false:=by simpa using hdat
     by_cases z:200<x.dat.size
     case pos=>
      have hr:zAc x=3:=by unfold zAc;simp[k,hma,hmi,hdat,z]
      rw[hr];clear hr;go_enter Tryz.func90,Tryz.ntmps90;go_wp2;go_ret;exact⟨rfl,eA _ _⟩
     case neg=>
      have hr:zAc x=0:=by unfold zAc;simp[k,hma,hmi,hdat,z]
      rw[hr];clear hr;go_enter Tryz.func90,Tryz.ntmps90;go_wp2;go_ret;exact⟨rfl,eA _ _⟩
   case neg=>
    have mi1:(x.mi==0)=false:=nB hmi;have mi2:(x.mi != 0)=true:=bne_iff_ne.2 hmi;have hr:zAc x=6:=by unfold zAc;simp[k,hma,hmi]
    rw[hr];clear hr;go_enter Tryz.func90,Tryz.ntmps90;go_wp2;go_ret;exact⟨rfl,eA _ _⟩
  case neg=>
   have ma1:(x.ma==0)=false:=nB hma;have ma2:(x.ma != 0)=true:=bne_iff_ne.2 hma;have hr:zAc x=6:=by unfold zAc;simp[k,hma]
   rw[hr];clear hr;go_enter Tryz.func90,Tryz.ntmps90;go_wp2;go_ret;exact⟨rfl,eA _ _⟩
 case neg=>
 have n3:=k;clear k;by_cases k:x.kd=4
 case pos=>
  clear k0 k6;by_cases hdat:x.dat.toList= []
  case pos=>
   have dat1:x.dat.toList.isEmpty=true:=by rw[hdat];rfl
   have dat2:x.dat.size=0:=zA8 hdat;by_cases r1:x.ma<0
   case pos=>
    have hr:zAc x=7:=by unfold zAc;simp[k,hdat,r1]
    rw[hr];clear hr;go_enter Tryz.func90,Tryz.ntmps90;go_wp2;go_ret;exact⟨rfl,eA _ _⟩
   case neg=>
    by_cases r2:255<x.ma
    case pos=>
     have hr:zAc x=7:=by unfold zAc;simp[k,hdat,r1,r2]
     rw[hr];clear hr;go_enter Tryz.func90,Tryz.ntmps90;go_wp2;go_ret;exact⟨rfl,eA _ _⟩
    case neg=>
     by_cases r3:x.mi<0
     case pos=>
      have hr:zAc x=7:=by unfold zAc;simp[k,hdat,r1,r2,r3]
      rw[hr];clear hr;go_enter Tryz.func90,Tryz.ntmps90;go_wp2;go_ret;exact⟨rfl,eA _ _⟩
     case neg=>
      by_cases r4:255<x.mi
      case pos=>
       have hr:zAc x=7:=by unfold zAc;simp[k,hdat,r1,r2,r3,r4]
       rw[hr];clear hr;go_enter Tryz.func90,Tryz.ntmps90;go_wp2;go_ret;exact⟨rfl,eA _ _⟩
      case neg=>
       have hr:zAc x=0:=by unfold zAc;simp[k,hdat,r1,r2,r3,r4]
       rw[hr];clear hr;go_enter Tryz.func90,Tryz.ntmps90;go_wp2;go_ret;exact⟨rfl,eA _ _⟩
  case neg=>
   have dat1:x.dat.toList.isEmpty=false:=by simpa using hdat
   have hr:zAc x=6:=by unfold zAc;simp[k,hdat]
   rw[hr];clear hr;go_enter Tryz.func90,Tryz.ntmps90;go_wp2;go_ret;exact⟨rfl,eA _ _⟩
 case neg=>
 have n4:=k;clear k;have k:x.kd=5:=by omega
 clear k0 k6 n1 n2 n3 n4;by_cases hdat:x.dat.toList= []
 case pos=>
  have dat1:x.dat.toList.isEmpty=true:=by rw[hdat];rfl
  have dat2:x.dat.size=0:=zA8 hdat;by_cases hma:x.ma=0
  case pos=>
   by_cases hmi:x.mi=0
   case pos=>
    by_cases hats:x.ats.length=0
    case pos=>
     by_cases hcl:x.cl=0
     case pos=>
      have hr:zAc x=0:=by unfold zAc;simp[k,hdat,hma,hmi,hats,hcl]
      rw[hr];clear hr;go_enter Tryz.func90,Tryz.ntmps90;go_wp2;go_ret;exact⟨rfl,eA _ _⟩
     case neg=>
      have cl1:(x.cl==0)=false:=nB hcl;have cl2:(x.cl != 0)=true:=bne_iff_ne.2 hcl;have hr:zAc x=6:=by unfold zAc;simp[k,hdat,hma,hmi,hats,hcl]
      rw[hr];clear hr;go_enter Tryz.func90,Tryz.ntmps90;go_wp2;go_ret;exact⟨rfl,eA _ _⟩
    case neg=>
     have ats1:0<x.ats.length:=by omega
     have hr:zAc x=6:=by unfold zAc;simp[k,hdat,hma,hmi,hats]
     rw[hr];clear hr;go_enter Tryz.func90,Tryz.ntmps90;go_wp2;go_ret;exact⟨rfl,eA _ _⟩
   case neg=>
    have mi1:(x.mi==0)=false:=nB hmi;have mi2:(x.mi != 0)=true:=bne_iff_ne.2 hmi;have hr:zAc x=6:=by unfold zAc;simp[k,hdat,hma,hmi]
    rw[hr];clear hr;go_enter Tryz.func90,Tryz.ntmps90;go_wp2;go_ret;exact⟨rfl,eA _ _⟩
  case neg=>
   have ma1:(x.ma==0)=false:=nB hma;have ma2:(x.ma != 0)=true:=bne_iff_ne.2 hma;have hr:zAc x=6:=by unfold zAc;simp[k,hdat,hma]
   rw[hr];clear hr;go_enter Tryz.func90,Tryz.ntmps90;go_wp2;go_ret;exact⟨rfl,eA _ _⟩
 case neg=>
  have dat1:x.dat.toList.isEmpty=false:=by simpa using hdat
  have hr:zAc x=6:=by unfold zAc;simp[k,hdat]
  rw[hr];clear hr;go_enter Tryz.func90,Tryz.ntmps90;go_wp2;go_ret;exact⟨rfl,eA _ _⟩
theorem zET (x:TrN)(va:Value)(w:World)(hv:∃a cap,va= .slice a x.ats.length cap):zAs Tryz.prog 172 #[trV x va] w (.int .i64 (zAc x)):=by
 unfold zAs trV;obtain⟨aa,cap,rfl⟩:=hv;by_cases k0:x.kd<1
 case pos=>
  have n1:(x.kd==1)=false:=nB (by omega);have n2:(x.kd==2)=false:=nB (by omega);have n3:(x.kd==3)=false:=nB (by omega);have n4:(x.kd==4)=false:=nB (by omega);have n5:(x.kd==5)=false:=nB (by omega);by_cases hma:x.ma=0
  case pos=>
   by_cases hmi:x.mi=0
   case pos=>
    have hr:zAc x=14:=by unfold zAc;simp[k0]
    rw[hr];clear hr;go_enter Tryz.func172,Tryz.ntmps172;go_wp2;go_ret;exact⟨rfl,eA _ _⟩
   case neg=>
    have mi1:(x.mi==0)=false:=nB hmi;have mi2:(x.mi != 0)=true:=bne_iff_ne.2 hmi;have hr:zAc x=14:=by unfold zAc;simp[k0]
    rw[hr];clear hr;go_enter Tryz.func172,Tryz.ntmps172;go_wp2;go_ret;exact⟨rfl,eA _ _⟩
  case neg=>
   have ma1:(x.ma==0)=false:=nB hma;have ma2:(x.ma != 0)=true:=bne_iff_ne.2 hma;have hr:zAc x=14:=by unfold zAc;simp[k0]
   rw[hr];clear hr;go_enter Tryz.func172,Tryz.ntmps172;go_wp2;go_ret;exact⟨rfl,eA _ _⟩
 by_cases k6:5<x.kd
 case pos=>
  have n1:(x.kd==1)=false:=nB (by omega);have n2:(x.kd==2)=false:=nB (by omega);have n3:(x.kd==3)=false:=nB (by omega);have n4:(x.kd==4)=false:=nB (by omega);have n5:(x.kd==5)=false:=nB (by omega);by_cases hma:x.ma=0
  case pos=>
   by_cases hmi:x.mi=0
   case pos=>
    have hr:zAc x=14:=by unfold zAc;simp[k6]
    rw[hr];clear hr;go_enter Tryz.func172,Tryz.ntmps172;go_wp2;go_ret;exact⟨rfl,eA _ _⟩
   case neg=>
    have mi1:(x.mi==0)=false:=nB hmi;have mi2:(x.mi != 0)=true:=bne_iff_ne.2 hmi;have hr:zAc x=14:=by unfold zAc;simp[k6]
    rw[hr];clear hr;go_enter Tryz.func172,Tryz.ntmps172;go_wp2;go_ret;exact⟨rfl,eA _ _⟩
  case neg=>
   have ma1:(x.ma==0)=false:=nB hma;have ma2:(x.ma != 0)=true:=bne_iff_ne.2 hma;have hr:zAc x=14:=by unfold zAc;simp[k6]
   rw[hr];clear hr;go_enter Tryz.func172,Tryz.ntmps172;go_wp2;go_ret;exact⟨rfl,eA _ _⟩
 by_cases k:x.kd=1
 case pos=>
  clear k0 k6;by_cases hma:x.ma=0
  case pos=>
   by_cases hmi:x.mi=0
   case pos=>
    by_cases hdat:x.dat.toList= []
    case pos=>
     have dat1:x.dat.toList.isEmpty=true:=by rw[hdat];rfl
     have dat2:x.dat.size=0:=zA8 hdat;by_cases hcl:x.cl=0
     case pos=>
      have hr:zAc x=0:=by unfold zAc;simp[k,hma,hmi,hdat,hcl]
      rw[hr];clear hr;go_enter Tryz.func172,Tryz.ntmps172;go_wp2;go_ret;exact⟨rfl,eA _ _⟩
     case neg=>
      have cl1:(x.cl==0)=false:=nB hcl;have cl2:(x.cl != 0)=true:=bne_iff_ne.2 hcl;have hr:zAc x=6:=by unfold zAc;simp[k,hma,hmi,hdat,hcl]
      rw[hr];clear hr;go_enter Tryz.func172,Tryz.ntmps172;go_wp2;go_ret;exact⟨rfl,eA _ _⟩
    case neg=>
     have dat1:x.dat.toList.isEmpty=false:=by simpa using hdat
     have hr:zAc x=6:=by unfold zAc;simp[k,hma,hmi,hdat]
     rw[hr];clear hr;go_enter Tryz.func172,Tryz.ntmps172;go_wp2;go_ret;exact⟨rfl,eA _ _⟩
   case neg=>
    have mi1:(x.mi==0)=false:=nB hmi;have mi2:(x.mi != 0)=true:=bne_iff_ne.2 hmi;by_cases hdat:x.dat.toList= []
    case pos=>
     have dat1:x.dat.toList.isEmpty=true:=by rw[hdat];rfl
     have dat2:x.dat.size=0:=zA8 hdat;have hr:zAc x=6:=by unfold zAc;simp[k,hma,hmi,hdat]
     rw[hr];clear hr;go_enter Tryz.func172,Tryz.ntmps172;go_wp2;go_ret;exact⟨rfl,eA _ _⟩
    case neg=>
     have dat1:x.dat.toList.isEmpty=false:=by simpa using hdat
     have hr:zAc x=6:=by unfold zAc;simp[k,hma,hmi,hdat]
     rw[hr];clear hr;go_enter Tryz.func172,Tryz.ntmps172;go_wp2;go_ret;exact⟨rfl,eA _ _⟩
  case neg=>
   have ma1:(x.ma==0)=false:=nB hma;have ma2:(x.ma != 0)=true:=bne_iff_ne.2 hma;by_cases hdat:x.dat.toList= []
   case pos=>
    have dat1:x.dat.toList.isEmpty=true:=by rw[hdat];rfl
    have dat2:x.dat.size=0:=zA8 hdat;have hr:zAc x=6:=by unfold zAc;simp[k,hma,hdat]
    rw[hr];clear hr;go_enter Tryz.func172,Tryz.ntmps172;go_wp2;go_ret;exact⟨rfl,eA _ _⟩
   case neg=>
    have dat1:x.dat.toList.isEmpty=false:=by simpa using hdat
    have hr:zAc x=6:=by unfold zAc;simp[k,hma,hdat]
    rw[hr];clear hr;go_enter Tryz.func172,Tryz.ntmps172;go_wp2;go_ret;exact⟨rfl,eA _ _⟩
 case neg=>
 have n1:=k;clear k;by_cases k:x.kd=2
 case pos=>
  clear k0 k6;by_cases hma:x.ma=0
  case pos=>
   by_cases hmi:x.mi=0
   case pos=>
    by_cases z:384<x.dat.size
    case pos=>
     have hr:zAc x=3:=by unfold zAc;simp[k,hma,hmi,z]
     rw[hr];clear hr;go_enter Tryz.func172,Tryz.ntmps172;go_wp2;go_ret;exact⟨rfl,eA _ _⟩
    case neg=>
     have hr:zAc x=0:=by unfold zAc;simp[k,hma,hmi,z]
     rw[hr];clear hr;go_enter Tryz.func172,Tryz.ntmps172;go_wp2;go_ret;exact⟨rfl,eA _ _⟩
   case neg=>
    have mi1:(x.mi==0)=false:=nB hmi;have mi2:(x.mi != 0)=true:=bne_iff_ne.2 hmi;have hr:zAc x=6:=by unfold zAc;simp[k,hma,hmi]
    rw[hr];clear hr;go_enter Tryz.func172,Tryz.ntmps172;go_wp2;go_ret;exact⟨rfl,eA _ _⟩
  case neg=>
   have ma1:(x.ma==0)=false:=nB hma;have ma2:(x.ma != 0)=true:=bne_iff_ne.2 hma;have hr:zAc x=6:=by unfold zAc;simp[k,hma]
   rw[hr];clear hr;go_enter Tryz.func172,Tryz.ntmps172;go_wp2;go_ret;exact⟨rfl,eA _ _⟩
 case neg=>
 have n2:=k;clear k;by_cases k:x.kd=3
 case pos=>
  clear k0 k6;by_cases hma:x.ma=0
  case pos=>
   by_cases hmi:x.mi=0
   case pos=>
    by_cases hdat:x.dat.toList= []
    case pos=>
     have dat1:x.dat.toList.isEmpty=true:=by rw[hdat];rfl
     have dat2:x.dat.size=0:=zA8 hdat;have hr:zAc x=6:=by unfold zAc;simp[k,hma,hmi,hdat]
     rw[hr];clear hr;go_enter Tryz.func172,Tryz.ntmps172;go_wp2;go_ret;exact⟨rfl,eA _ _⟩
    case neg=>
     have dat1:x.dat.toList.isEmpty=false:=by simpa using hdat
     by_cases z:200<x.dat.size
     case pos=>
      have hr:zAc x=3:=by unfold zAc;simp[k,hma,hmi,hdat,z]
      rw[hr];clear hr;go_enter Tryz.func172,Tryz.ntmps172;go_wp2;go_ret;exact⟨rfl,eA _ _⟩
     case neg=>
      have hr:zAc x=0:=by unfold zAc;simp[k,hma,hmi,hdat,z]
      rw[hr];clear hr;go_enter Tryz.func172,Tryz.ntmps172;go_wp2;go_ret;exact⟨rfl,eA _ _⟩
   case neg=>
    have mi1:(x.mi==0)=false:=nB hmi;have mi2:(x.mi != 0)=true:=bne_iff_ne.2 hmi;have hr:zAc x=6:=by unfold zAc;simp[k,hma,hmi]
    rw[hr];clear hr;go_enter Tryz.func172,Tryz.ntmps172;go_wp2;go_ret;exact⟨rfl,eA _ _⟩
  case neg=>
   have ma1:(x.ma==0)=false:=nB hma;have ma2:(x.ma != 0)=true:=bne_iff_ne.2 hma;have hr:zAc x=6:=by unfold zAc;simp[k,hma]
   rw[hr];clear hr;go_enter Tryz.func172,Tryz.ntmps172;go_wp2;go_ret;exact⟨rfl,eA _ _⟩
 case neg=>
 have n3:=k;clear k;by_cases k:x.kd=4
 case pos=>
  clear k0 k6;by_cases hdat:x.dat.toList= []
  case pos=>
   have dat1:x.dat.toList.isEmpty=true:=by rw[hdat];rfl
   have dat2:x.dat.size=0:=zA8 hdat;by_cases hma:x.ma=0
   case pos=>
    by_cases hmi:x.mi=0
    case pos=>
     have hr:zAc x=0:=by unfold zAc;simp[k,hdat,hma,hmi]
     rw[hr];clear hr;go_enter Tryz.func172,Tryz.ntmps172;go_wp2;go_ret;exact⟨rfl,eA _ _⟩
    case neg=>
     have mi1:(x.mi==0)=false:=nB hmi;have mi2:(x.mi != 0)=true:=bne_iff_ne.2 hmi;by_cases r3:x.mi<0
     case pos=>
      have hr:zAc x=7:=by unfold zAc;simp[k,hdat,hma,r3]
      rw[hr];clear hr;go_enter Tryz.func172,Tryz.ntmps172;go_wp2;go_ret;exact⟨rfl,eA _ _⟩
     case neg=>
      by_cases r4:255<x.mi
      case pos=>
       have hr:zAc x=7:=by unfold zAc;simp[k,hdat,hma,r3,r4]
       rw[hr];clear hr;go_enter Tryz.func172,Tryz.ntmps172;go_wp2;go_ret;exact⟨rfl,eA _ _⟩
      case neg=>
       have hr:zAc x=0:=by unfold zAc;simp[k,hdat,hma,r3,r4]
       rw[hr];clear hr;go_enter Tryz.func172,Tryz.ntmps172;go_wp2;go_ret;exact⟨rfl,eA _ _⟩
   case neg=>
    have ma1:(x.ma==0)=false:=nB hma;have ma2:(x.ma != 0)=true:=bne_iff_ne.2 hma;by_cases r1:x.ma<0
    case pos=>
     have hr:zAc x=7:=by unfold zAc;simp[k,hdat,r1]
     rw[hr];clear hr;go_enter Tryz.func172,Tryz.ntmps172;go_wp2;go_ret;exact⟨rfl,eA _ _⟩
    case neg=>
     by_cases r2:255<x.ma
     case pos=>
      have hr:zAc x=7:=by unfold zAc;simp[k,hdat,r1,r2]
      rw[hr];clear hr;go_enter Tryz.func172,Tryz.ntmps172;go_wp2;go_ret;exact⟨rfl,eA _ _⟩
     case neg=>
      by_cases r3:x.mi<0
      case pos=>
       have hr:zAc x=7:=by unfold zAc;simp[k,hdat,r1,r2,r3]
       rw[hr];clear hr;go_enter Tryz.func172,Tryz.ntmps172;go_wp2;go_ret;exact⟨rfl,eA _ _⟩
      case neg=>
       by_cases r4:255<x.mi
       case pos=>
        have hr:zAc x=7:=by unfold zAc;simp[k,hdat,r1,r2,r3,r4]
        rw[hr];clear hr;go_enter Tryz.func172,Tryz.ntmps172;go_wp2;go_ret;exact⟨rfl,eA _ _⟩
       case neg=>
        have hr:zAc x=0:=by unfold zAc;simp[k,hdat,r1,r2,r3,r4]
        rw[hr];clear hr;go_enter Tryz.func172,Tryz.ntmps172;go_wp2;go_ret;exact⟨rfl,eA _ _⟩
  case neg=>
   have dat1:x.dat.toList.isEmpty=false:=by simpa using hdat
   by_cases hma:x.ma=0
   case pos=>
    by_cases hmi:x.mi=0
    case pos=>
     have hr:zAc x=6:=by unfold zAc;simp[k,hdat]
     rw[hr];clear hr;go_enter Tryz.func172,Tryz.ntmps172;go_wp2;go_ret;exact⟨rfl,eA _ _⟩
    case neg=>
     have mi1:(x.mi==0)=false:=nB hmi;have mi2:(x.mi != 0)=true:=bne_iff_ne.2 hmi;have hr:zAc x=6:=by unfold zAc;simp[k,hdat]
     rw[hr];clear hr;go_enter Tryz.func172,Tryz.ntmps172;go_wp2;go_ret;exact⟨rfl,eA _ _⟩
   case neg=>
    have ma1:(x.ma==0)=false:=nB hma;have ma2:(x.ma != 0)=true:=bne_iff_ne.2 hma;have hr:zAc x=6:=by unfold zAc;simp[k,hdat]
    rw[hr];clear hr;go_enter Tryz.func172,Tryz.ntmps172;go_wp2;go_ret;exact⟨rfl,eA _ _⟩
 case neg=>
 have n4:=k;clear k;have k:x.kd=5:=by omega
 clear k0 k6 n1 n2 n3 n4;by_cases hma:x.ma=0
 case pos=>
  by_cases hmi:x.mi=0
  case pos=>
   by_cases hdat:x.dat.toList= []
   case pos=>
    have dat1:x.dat.toList.isEmpty=true:=by rw[hdat];rfl
    have dat2:x.dat.size=0:=zA8 hdat;by_cases hcl:x.cl=0
    case pos=>
     by_cases hats:x.ats.length=0
     case pos=>
      have hr:zAc x=0:=by unfold zAc;simp[k,hma,hmi,hdat,hcl,hats]
      rw[hr];clear hr;go_enter Tryz.func172,Tryz.ntmps172;go_wp2;go_ret;exact⟨rfl,eA _ _⟩
     case neg=>
      have ats1:0<x.ats.length:=by omega
      have hr:zAc x=6:=by unfold zAc;simp[k,hma,hmi,hdat,hcl,hats]
      rw[hr];clear hr;go_enter Tryz.func172,Tryz.ntmps172;go_wp2;go_ret;exact⟨rfl,eA _ _⟩
    case neg=>
     have cl1:(x.cl==0)=false:=nB hcl;have cl2:(x.cl != 0)=true:=bne_iff_ne.2 hcl;have hr:zAc x=6:=by unfold zAc;simp[k,hma,hmi,hdat,hcl]
     rw[hr];clear hr;go_enter Tryz.func172,Tryz.ntmps172;go_wp2;go_ret;exact⟨rfl,eA _ _⟩
   case neg=>
    have dat1:x.dat.toList.isEmpty=false:=by simpa using hdat
    have hr:zAc x=6:=by unfold zAc;simp[k,hma,hmi,hdat]
    rw[hr];clear hr;go_enter Tryz.func172,Tryz.ntmps172;go_wp2;go_ret;exact⟨rfl,eA _ _⟩
  case neg=>
   have mi1:(x.mi==0)=false:=nB hmi;have mi2:(x.mi != 0)=true:=bne_iff_ne.2 hmi;by_cases hdat:x.dat.toList= []
   case pos=>
    have dat1:x.dat.toList.isEmpty=true:=by rw[hdat];rfl
    have dat2:x.dat.size=0:=zA8 hdat;have hr:zAc x=6:=by unfold zAc;simp[k,hma,hmi,hdat]
    rw[hr];clear hr;go_enter Tryz.func172,Tryz.ntmps172;go_wp2;go_ret;exact⟨rfl,eA _ _⟩
   case neg=>
    have dat1:x.dat.toList.isEmpty=false:=by simpa using hdat
    have hr:zAc x=6:=by unfold zAc;simp[k,hma,hmi,hdat]
    rw[hr];clear hr;go_enter Tryz.func172,Tryz.ntmps172;go_wp2;go_ret;exact⟨rfl,eA _ _⟩
 case neg=>
  have ma1:(x.ma==0)=false:=nB hma;have ma2:(x.ma != 0)=true:=bne_iff_ne.2 hma;by_cases hdat:x.dat.toList= []
  case pos=>
   have dat1:x.dat.toList.isEmpty=true:=by rw[hdat];rfl
   have dat2:x.dat.size=0:=zA8 hdat;have hr:zAc x=6:=by unfold zAc;simp[k,hma,hdat]
   rw[hr];clear hr;go_enter Tryz.func172,Tryz.ntmps172;go_wp2;go_ret;exact⟨rfl,eA _ _⟩
  case neg=>
   have dat1:x.dat.toList.isEmpty=false:=by simpa using hdat
   have hr:zAc x=6:=by unfold zAc;simp[k,hma,hdat]
   rw[hr];clear hr;go_enter Tryz.func172,Tryz.ntmps172;go_wp2;go_ret;exact⟨rfl,eA _ _⟩
end Go.Proofs.YtbeeoomadnmogaaGreat
