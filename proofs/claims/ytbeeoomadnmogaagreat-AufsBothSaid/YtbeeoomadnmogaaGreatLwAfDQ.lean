/- AufsBoth is proved: for every directory the law returns true; a directory that is larger than what is looked at is answered by the fixed calls alone. (walk printed by gen/lwafd.py) -/
import Derived.Test.YtbeeoomadnmogaaGreatQI6
import Derived.Test.YtbeeoomadnmogaaGreatQfOpenD
import Derived.Test.YtbeeoomadnmogaaGreatQfSamD
import Derived.Test.YtbeeoomadnmogaaGreatQfFarA
import Derived.Test.YtbeeoomadnmogaaGreatQfAfE
import Derived.Test.YtbeeoomadnmogaaGreatQAxM
set_option maxRecDepth 100000
set_option maxHeartbeats 64000000
namespace Go.Proofs.YtbeeoomadnmogaaGreat.lwAufsBoth
open Go.ChangeShapes Go.WideShapes Go.ChangeAt Go.RowKit
open Go.ChangeMaps (open_string shut_string)
theorem walk (v:Value) (d:DiN) (w:World) (hv:zBK w.heap.size w v d):zAt Tryz.prog 7 #[v] w (.bool true):=by
 unfold zAt
 have HD:=hQq hv
 obtain⟨va,vr,ve,rfl,ha,hr,he⟩:=hv
 obtain⟨a3,cap3,rfl⟩:=ha.form
 obtain⟨a4,cap4,rfl⟩:=hr.form
 obtain⟨a5,cap5,rfl⟩:=he.form
 clear ha hr he
 go_enter Tryz.func7,Tryz.ntmps7
 go_wp2_with fail
 refine(zLD w.heap.size _ d _ (HD.out.ext (eA _ _)) (eA w _).size).mono ?_
 rintro e wi ⟨r,rfl,hwide,hb0⟩
 have HI:Hid (Ext w wi):=hQq ((eA _ _).trans hb0)
 cases r
 case true=>
  clear hwide hb0
  go_wp2_with (go_at_call 12;refine(zBz _).mono ?_;rintro e w9 ⟨rfl,hb9⟩;have HB9:=hQq hb9;clear hb9)
  go_ret
  exact⟨rfl,HI.out.trans HB9.out⟩
 have SMD:=hQq (zK7 (hwide rfl))
 have BDD:Hid (d.ats.length<=1000000/\d.red.length<=1000000/\d.ens.length<=1000/\∀ x ∈ d.ens,x.nd.ats.length<=1000000):=hQq (by
  have h:=hwide rfl
  refine⟨by have:=h.ats.1;omega,by have:=h.red.1;omega,by have:=h.len;omega,fun x hx=>?_⟩
  obtain⟨j,hj,rfl⟩:=List.getElem_of_mem hx
  have:=(h.ens j hj).2.1;omega)
 have QI:Hid (wi.heap[w.heap.size]? = some (.cells #[.slice a3 d.ats.length cap3,.bool d.opq,.slice a4 d.red.length cap4,.slice a5 d.ens.length cap5] 26 (0,0))):=hQq (bX hb0 (bN _ _))
 clear hwide hb0
 obtain⟨k0,k1,k2,k3⟩:=b4C QI.out;have kl:=bL QI.out
 obtain⟨zc,hzc⟩:∃ zc,zc=acE d:=⟨_,rfl⟩
 obtain⟨zr,hzr⟩:∃ zr,zr=arE d:=⟨_,rfl⟩
 by_cases he0:zc=0
 case pos=>
  subst he0
  have HZe:Hid (acE d=0):=hQq hzc.symm
  have HBKe:=hQq (zDS (zU8 hzc.symm))
  have HSXe:=hQq (zS8 hzc.symm)
  clear hzc
  go_wp2_with fail
  refine(zB5 w.heap.size _ _ d (HD.out.ext HI.out) HI.out.size SMD.out).mono ?_
  rw [HZe.out]
  rintro e we1 ⟨⟨v1,rfl,hd1⟩,hb1⟩
  have HDe1:=hQq hd1
  obtain⟨x1,y1,z1,rfl,i1,j1,l1⟩:=hd1
  obtain⟨pe,qe,rfl⟩:=i1.form;obtain⟨re,se,rfl⟩:=j1.form;obtain⟨te,ue,rfl⟩:=l1.form
  clear i1 j1 l1
  have QBe1:=hQq (bX hb1 QI.out);have He1:=hQq (Ext.trans HI.out hb1);have HLe1:=hQq hb1.size
  clear k0 k1 k2 k3 kl hb1
  obtain⟨k0,k1,k2,k3⟩:=b4C QBe1.out;have kl:=bL QBe1.out
  go_wp2_with fail
  refine nW (P:=fun W=>Calls _ _ _ W _) _ ?_
  intro Ve1 hV1
  have QAe1:Hid (Ve1.heap[we1.heap.size]? = some (.cells #[.slice pe (acD d).ats.length qe,.bool (acD d).opq,.slice re (acD d).red.length se,.slice te (acD d).ens.length ue] 26 (0,0))):=hQq (by rw [hV1];exact bN _ _)
  have QVe1:Hid (Ve1.heap[w.heap.size]? = some (.cells #[.slice a3 d.ats.length cap3,.bool d.opq,.slice a4 d.red.length cap4,.slice a5 d.ens.length cap5] 26 (0,0))):=hQq (by rw [hV1];exact bA QBe1.out)
  have HVe1:Hid (Ext w Ve1):=hQq (by rw [hV1];exact He1.out.trans (eA _ _))
  have HXe1:Hid (Ext we1 Ve1):=hQq (by rw [hV1];exact eA _ _)
  clear hV1 k0 k1 k2 k3 kl
  refine(zBA _ Ve1 _ (acD d) (HDe1.out.ext HXe1.out) (Nat.le_trans HLe1.out HXe1.out.size) HSXe.out).mono ?_
  rw [HBKe.out.1,HBKe.out.2.1,HBKe.out.2.2]
  rintro e we2 ⟨⟨v2,rfl,hd2⟩,hb2⟩
  have HDe2:=hQq hd2
  obtain⟨x2,y2,z2,rfl,i2,j2,l2⟩:=hd2
  obtain⟨p2e,q2e,rfl⟩:=i2.form;obtain⟨r2e,s2e,rfl⟩:=j2.form;obtain⟨t2e,u2e,rfl⟩:=l2.form
  clear i2 j2 l2
  have QBe2:=hQq (bX hb2 QVe1.out);have He2:=hQq (Ext.trans HVe1.out hb2)
  clear hb2
  obtain⟨k0,k1,k2,k3⟩:=b4C QBe2.out;have kl:=bL QBe2.out
  go_wp2_with fail
  refine nW (P:=fun W=>Calls _ _ _ W _) _ ?_
  intro Ve2 hV2
  have QVe2:Hid (Ve2.heap[w.heap.size]? = some (.cells #[.slice a3 d.ats.length cap3,.bool d.opq,.slice a4 d.red.length cap4,.slice a5 d.ens.length cap5] 26 (0,0))):=hQq (by rw [hV2];exact bA QBe2.out)
  have HVe2:Hid (Ext w Ve2):=hQq (by rw [hV2];exact He2.out.trans (eA _ _))
  have HXe2:Hid (Ext we2 Ve2):=hQq (by rw [hV2];exact eA _ _)
  clear hV2 k0 k1 k2 k3 kl
  refine(zGc _ _ _ _ d Ve2 (HDe2.out.ext HXe2.out) (HD.out.ext HVe2.out) BDD.out.1 BDD.out.2.1 BDD.out.2.2.1 BDD.out.2.2.2).mono ?_
  rintro e we3 ⟨rfl,hb3⟩
  have QVe3:=hQq (bX hb3 QVe2.out);have He3:=hQq (Ext.trans HVe2.out hb3)
  clear hb3
  obtain⟨k0,k1,k2,k3⟩:=b4C QVe3.out;have kl:=bL QVe3.out
  by_cases hd0:zr=0
  case pos=>
   subst hd0
   have HZd:Hid (arE d=0):=hQq hzr.symm
   have HBKd:=hQq (zDT (zQ4 hzr.symm))
   have HSXd:=hQq (zNz hzr.symm)
   clear hzr
   go_wp2_with fail
   refine(zBA w.heap.size _ _ d (HD.out.ext He3.out) He3.out.size SMD.out).mono ?_
   rw [HZd.out]
   rintro e wd1 ⟨⟨v1,rfl,hd1⟩,hb1⟩
   have HDd1:=hQq hd1
   obtain⟨x1,y1,z1,rfl,i1,j1,l1⟩:=hd1
   obtain⟨pd,qd,rfl⟩:=i1.form;obtain⟨rd,sd,rfl⟩:=j1.form;obtain⟨td,ud,rfl⟩:=l1.form
   clear i1 j1 l1
   have QBd1:=hQq (bX hb1 QVe3.out);have Hd1:=hQq (Ext.trans He3.out hb1);have HLd1:=hQq hb1.size
   clear k0 k1 k2 k3 kl hb1
   obtain⟨k0,k1,k2,k3⟩:=b4C QBd1.out;have kl:=bL QBd1.out
   go_wp2_with fail
   refine nW (P:=fun W=>Calls _ _ _ W _) _ ?_
   intro Vd1 hV1
   have QAd1:Hid (Vd1.heap[wd1.heap.size]? = some (.cells #[.slice pd (arD d).ats.length qd,.bool (arD d).opq,.slice rd (arD d).red.length sd,.slice td (arD d).ens.length ud] 26 (0,0))):=hQq (by rw [hV1];exact bN _ _)
   have QVd1:Hid (Vd1.heap[w.heap.size]? = some (.cells #[.slice a3 d.ats.length cap3,.bool d.opq,.slice a4 d.red.length cap4,.slice a5 d.ens.length cap5] 26 (0,0))):=hQq (by rw [hV1];exact bA QBd1.out)
   have HVd1:Hid (Ext w Vd1):=hQq (by rw [hV1];exact Hd1.out.trans (eA _ _))
   have HXd1:Hid (Ext wd1 Vd1):=hQq (by rw [hV1];exact eA _ _)
   clear hV1 k0 k1 k2 k3 kl
   refine(zB5 _ Vd1 _ (arD d) (HDd1.out.ext HXd1.out) (Nat.le_trans HLd1.out HXd1.out.size) HSXd.out).mono ?_
   rw [HBKd.out.1,HBKd.out.2.1,HBKd.out.2.2]
   rintro e wd2 ⟨⟨v2,rfl,hd2⟩,hb2⟩
   have HDd2:=hQq hd2
   obtain⟨x2,y2,z2,rfl,i2,j2,l2⟩:=hd2
   obtain⟨p2d,q2d,rfl⟩:=i2.form;obtain⟨r2d,s2d,rfl⟩:=j2.form;obtain⟨t2d,u2d,rfl⟩:=l2.form
   clear i2 j2 l2
   have QBd2:=hQq (bX hb2 QVd1.out);have Hd2:=hQq (Ext.trans HVd1.out hb2)
   clear hb2
   obtain⟨k0,k1,k2,k3⟩:=b4C QBd2.out;have kl:=bL QBd2.out
   go_wp2_with fail
   refine nW (P:=fun W=>Calls _ _ _ W _) _ ?_
   intro Vd2 hV2
   have QVd2:Hid (Vd2.heap[w.heap.size]? = some (.cells #[.slice a3 d.ats.length cap3,.bool d.opq,.slice a4 d.red.length cap4,.slice a5 d.ens.length cap5] 26 (0,0))):=hQq (by rw [hV2];exact bA QBd2.out)
   have HVd2:Hid (Ext w Vd2):=hQq (by rw [hV2];exact Hd2.out.trans (eA _ _))
   have HXd2:Hid (Ext wd2 Vd2):=hQq (by rw [hV2];exact eA _ _)
   clear hV2 k0 k1 k2 k3 kl
   refine(zGc _ _ _ _ d Vd2 (HDd2.out.ext HXd2.out) (HD.out.ext HVd2.out) BDD.out.1 BDD.out.2.1 BDD.out.2.2.1 BDD.out.2.2.2).mono ?_
   rintro e wd3 ⟨rfl,hb3⟩
   have QVd3:=hQq (bX hb3 QVd2.out);have Hd3:=hQq (Ext.trans HVd2.out hb3)
   clear hb3
   obtain⟨k0,k1,k2,k3⟩:=b4C QVd3.out;have kl:=bL QVd3.out
   go_wp2_with (go_at_call 12;refine(zBz _).mono ?_;rintro e w9 ⟨rfl,hb9⟩;have HB9:=hQq hb9;clear hb9)
   go_ret
   exact⟨rfl,Ext.trans Hd3.out (by first | exact HB9.out | exact(eA _ _).trans HB9.out)⟩
  have qnd:((arE d) == 0)=false:=nB (fun h=>hd0 (hzr.trans h))
  clear hzr hd0
  go_wp2_with fail
  refine(zBA w.heap.size _ _ d (HD.out.ext He3.out) He3.out.size SMD.out).mono ?_
  rintro e wd1 ⟨⟨v1,rfl,hd1⟩,hb1⟩
  obtain⟨x1,y1,z1,rfl,i1,j1,l1⟩:=hd1
  obtain⟨pd,qd,rfl⟩:=i1.form;obtain⟨rd,sd,rfl⟩:=j1.form;obtain⟨td,ud,rfl⟩:=l1.form
  clear i1 j1 l1
  have QBd1:=hQq (bX hb1 QVe3.out);have Hd1:=hQq (Ext.trans He3.out hb1)
  clear k0 k1 k2 k3 kl hb1
  obtain⟨k0,k1,k2,k3⟩:=b4C QBd1.out;have kl:=bL QBd1.out
  go_wp2_with (go_at_call 12;refine(zBz _).mono ?_;rintro e w9 ⟨rfl,hb9⟩;have HB9:=hQq hb9;clear hb9)
  go_ret
  exact⟨rfl,Ext.trans Hd1.out (by first | exact HB9.out | exact(eA _ _).trans HB9.out)⟩
 have qne:((acE d) == 0)=false:=nB (fun h=>he0 (hzc.trans h))
 clear hzc he0
 go_wp2_with fail
 refine(zB5 w.heap.size _ _ d (HD.out.ext HI.out) HI.out.size SMD.out).mono ?_
 rintro e we1 ⟨⟨v1,rfl,hd1⟩,hb1⟩
 obtain⟨x1,y1,z1,rfl,i1,j1,l1⟩:=hd1
 obtain⟨pe,qe,rfl⟩:=i1.form;obtain⟨re,se,rfl⟩:=j1.form;obtain⟨te,ue,rfl⟩:=l1.form
 clear i1 j1 l1
 have QBe1:=hQq (bX hb1 QI.out);have He1:=hQq (Ext.trans HI.out hb1)
 clear k0 k1 k2 k3 kl hb1
 obtain⟨k0,k1,k2,k3⟩:=b4C QBe1.out;have kl:=bL QBe1.out
 go_upto_region 8 with fail
 refine nW (P:=fun W=>Code.wp _ _ _ _ W) _ ?_
 intro V9 hV9
 have HQ9:Hid (V9.heap[w.heap.size]? = some (.cells #[.slice a3 d.ats.length cap3,.bool d.opq,.slice a4 d.red.length cap4,.slice a5 d.ens.length cap5] 26 (0,0))):=hQq (by rw [hV9];exact bA QBe1.out)
 have HH9:Hid (Ext w V9):=hQq (by rw [hV9];exact He1.out.trans (eA _ _))
 clear hV9 k0 k1 k2 k3 kl
 obtain⟨k0,k1,k2,k3⟩:=b4C HQ9.out;have kl:=bL HQ9.out
 by_cases hd0:zr=0
 case pos=>
  subst hd0
  have HZd:Hid (arE d=0):=hQq hzr.symm
  have HBKd:=hQq (zDT (zQ4 hzr.symm))
  have HSXd:=hQq (zNz hzr.symm)
  clear hzr
  go_wp2_with fail
  refine(zBA w.heap.size _ _ d (HD.out.ext HH9.out) HH9.out.size SMD.out).mono ?_
  rw [HZd.out]
  rintro e wd1 ⟨⟨v1,rfl,hd1⟩,hb1⟩
  have HDd1:=hQq hd1
  obtain⟨x1,y1,z1,rfl,i1,j1,l1⟩:=hd1
  obtain⟨pd,qd,rfl⟩:=i1.form;obtain⟨rd,sd,rfl⟩:=j1.form;obtain⟨td,ud,rfl⟩:=l1.form
  clear i1 j1 l1
  have QBd1:=hQq (bX hb1 HQ9.out);have Hd1:=hQq (Ext.trans HH9.out hb1);have HLd1:=hQq hb1.size
  clear k0 k1 k2 k3 kl hb1
  obtain⟨k0,k1,k2,k3⟩:=b4C QBd1.out;have kl:=bL QBd1.out
  go_wp2_with fail
  refine nW (P:=fun W=>Calls _ _ _ W _) _ ?_
  intro Vd1 hV1
  have QAd1:Hid (Vd1.heap[wd1.heap.size]? = some (.cells #[.slice pd (arD d).ats.length qd,.bool (arD d).opq,.slice rd (arD d).red.length sd,.slice td (arD d).ens.length ud] 26 (0,0))):=hQq (by rw [hV1];exact bN _ _)
  have QVd1:Hid (Vd1.heap[w.heap.size]? = some (.cells #[.slice a3 d.ats.length cap3,.bool d.opq,.slice a4 d.red.length cap4,.slice a5 d.ens.length cap5] 26 (0,0))):=hQq (by rw [hV1];exact bA QBd1.out)
  have HVd1:Hid (Ext w Vd1):=hQq (by rw [hV1];exact Hd1.out.trans (eA _ _))
  have HXd1:Hid (Ext wd1 Vd1):=hQq (by rw [hV1];exact eA _ _)
  clear hV1 k0 k1 k2 k3 kl
  refine(zB5 _ Vd1 _ (arD d) (HDd1.out.ext HXd1.out) (Nat.le_trans HLd1.out HXd1.out.size) HSXd.out).mono ?_
  rw [HBKd.out.1,HBKd.out.2.1,HBKd.out.2.2]
  rintro e wd2 ⟨⟨v2,rfl,hd2⟩,hb2⟩
  have HDd2:=hQq hd2
  obtain⟨x2,y2,z2,rfl,i2,j2,l2⟩:=hd2
  obtain⟨p2d,q2d,rfl⟩:=i2.form;obtain⟨r2d,s2d,rfl⟩:=j2.form;obtain⟨t2d,u2d,rfl⟩:=l2.form
  clear i2 j2 l2
  have QBd2:=hQq (bX hb2 QVd1.out);have Hd2:=hQq (Ext.trans HVd1.out hb2)
  clear hb2
  obtain⟨k0,k1,k2,k3⟩:=b4C QBd2.out;have kl:=bL QBd2.out
  go_wp2_with fail
  refine nW (P:=fun W=>Calls _ _ _ W _) _ ?_
  intro Vd2 hV2
  have QVd2:Hid (Vd2.heap[w.heap.size]? = some (.cells #[.slice a3 d.ats.length cap3,.bool d.opq,.slice a4 d.red.length cap4,.slice a5 d.ens.length cap5] 26 (0,0))):=hQq (by rw [hV2];exact bA QBd2.out)
  have HVd2:Hid (Ext w Vd2):=hQq (by rw [hV2];exact Hd2.out.trans (eA _ _))
  have HXd2:Hid (Ext wd2 Vd2):=hQq (by rw [hV2];exact eA _ _)
  clear hV2 k0 k1 k2 k3 kl
  refine(zGc _ _ _ _ d Vd2 (HDd2.out.ext HXd2.out) (HD.out.ext HVd2.out) BDD.out.1 BDD.out.2.1 BDD.out.2.2.1 BDD.out.2.2.2).mono ?_
  rintro e wd3 ⟨rfl,hb3⟩
  have QVd3:=hQq (bX hb3 QVd2.out);have Hd3:=hQq (Ext.trans HVd2.out hb3)
  clear hb3
  obtain⟨k0,k1,k2,k3⟩:=b4C QVd3.out;have kl:=bL QVd3.out
  go_wp2_with (go_at_call 12;refine(zBz _).mono ?_;rintro e w9 ⟨rfl,hb9⟩;have HB9:=hQq hb9;clear hb9)
  go_ret
  exact⟨rfl,Ext.trans Hd3.out (by first | exact HB9.out | exact(eA _ _).trans HB9.out)⟩
 have qnd:((arE d) == 0)=false:=nB (fun h=>hd0 (hzr.trans h))
 clear hzr hd0
 go_wp2_with fail
 refine(zBA w.heap.size _ _ d (HD.out.ext HH9.out) HH9.out.size SMD.out).mono ?_
 rintro e wd1 ⟨⟨v1,rfl,hd1⟩,hb1⟩
 obtain⟨x1,y1,z1,rfl,i1,j1,l1⟩:=hd1
 obtain⟨pd,qd,rfl⟩:=i1.form;obtain⟨rd,sd,rfl⟩:=j1.form;obtain⟨td,ud,rfl⟩:=l1.form
 clear i1 j1 l1
 have QBd1:=hQq (bX hb1 HQ9.out);have Hd1:=hQq (Ext.trans HH9.out hb1)
 clear k0 k1 k2 k3 kl hb1
 obtain⟨k0,k1,k2,k3⟩:=b4C QBd1.out;have kl:=bL QBd1.out
 go_wp2_with (go_at_call 12;refine(zBz _).mono ?_;rintro e w9 ⟨rfl,hb9⟩;have HB9:=hQq hb9;clear hb9)
 go_ret
 exact⟨rfl,Ext.trans Hd1.out (by first | exact HB9.out | exact(eA _ _).trans HB9.out)⟩
theorem contract (H:Type) (enc:TypeId × Value->H) (W:World) (base:Nat) (args:Array Value) (ds gs:List (DataW H)) (before:List MemPlace)
  (hval:∀ (j:Nat) t v,Tryz.f7.params[j]? = some t->args[j]? = some v->Value.okWide Tryz.prog W .any base t v)
  (hW:DataW.Whole enc Tryz.prog Tryz.f7.params.toList Rows.aufsBothSpec.vars false W args.toList ds gs before) (_hz:(DataW.weightsEach Tryz.prog (Tryz.f7.params.toList ++ (OpenSpec.ofChange Rows.aufsBothSpec).bare.plain.varTypes Tryz.prog) (ds ++ gs)).all (· <=reachBytes)=true) (_hL:laidMetH Tryz.prog Rows.aufsBothRow.laid W) (_hS:W.ShapedOpen Tryz.prog) :
  Calls Tryz.prog 7 args W fun e W'=>∃ v,e= .returned v/\Rows.aufsBothSpec.post enc Tryz.prog Tryz.f7 false true false false W args v W':=by
 have hW':=hW
 obtain⟨p,q,hA0,hV,rfl,hfz,hnd⟩:=hW
 have hA:DataW.TrodAll enc Tryz.prog W 0 (fun _=>true) true Tryz.f7.params.toList args.toList ds p:=hA0
 rw [Tryz.params7] at hA hval
 obtain⟨v0,vs0,d0,ds0,p0,q0,hargs,rfl,rfl,h0,r0⟩:=trodAll_cons hA
 obtain⟨rfl,rfl,rfl⟩:=trodAll_nil r0
 obtain rfl:args= #[v0]:=by cases args;simp_all
 obtain⟨x0,w0,-⟩:=zR0 (hval 0 26 v0 rfl rfl) h0
 refine(walk v0 x0 W w0).mono fun e W' ⟨he,hb⟩=>?_
 subst he
 exact⟨_,rfl,zJq hW' rfl rfl rfl (by intro t ht;rw [Tryz.params7] at ht;simp at ht;subst ht;exact⟨by kernel_rfl,of_decide_eq_true (by kernel_rfl)⟩) hb⟩
theorem reads (os:Os) {H:Type} (enc:TypeId × Value->H):∃ places,DataW.whole enc Tryz.prog ((zCC os).forCall (fun _ _=>0) ⟨#[],(#[.agg #[.slice none 0 0,.bool false,.slice none 0 0,.slice none 0 0]]:Array Value),[]⟩).memory Tryz.f7.params.toList Rows.aufsBothSpec.vars false (#[.agg #[.slice none 0 0,.bool false,.slice none 0 0,.slice none 0 0]]:Array Value).toList 8=some ([.agg [.nil,.lit (.bool false),.nil,.nil]],[],places):=
 ⟨[],by kernel_rfl⟩
theorem lifted (os : Os) (started : os.Started) (H : Type) (enc : TypeId × Value -> H) (F : Stop.Interp) :
  ReturnsInHanded {} Tryz.checked os 7 .any ((OpenSpec.ofChange Rows.aufsBothSpec).preRow enc Tryz.prog Tryz.f7 Rows.aufsBothRow.domain false Rows.aufsBothRow.laid) (((OpenSpec.ofChange Rows.aufsBothSpec).at F).post enc Tryz.prog Tryz.f7 false true false false) := by
 obtain ⟨places, hx⟩ := reads os enc
 refine returnsInHanded_of_row (C := Tryz.checked) (s := OpenSpec.ofChange Rows.aufsBothSpec) own started (by kernel_rfl) Tryz.func7
  (witness_row_atRef (enc := enc) (C := Tryz.checked) false (zCC os) (#[.agg #[.slice none 0 0, .bool false, .slice none 0 0, .slice none 0 0]] : Array Value) rfl (by kernel_rfl) (by kernel_rfl) (by kernel_rfl)
   (OpenSpec.preRow_of_cond 8 hx (by kernel_rfl) (fun k hk => by cases hk) (by kernel_rfl) (zHz os _))) ?_
 intro W base args ds gs before hval hW _ _ hz hL hS _
 exact contract H enc W base args ds gs before hval hW hz hL hS
theorem j0:(Rows.aufsBothRow.wf (OpenSpec.ofChange Rows.aufsBothSpec))=true:=by kernel_rfl
theorem j1:(laidOutB Tryz.prog)=true:=zJr
theorem j2:(mapsRowed Tryz.prog)=true:=zUv
theorem j3:(Tryz.f7.params.all (Tryz.prog.readableRec ·))=true:=by kernel_rfl
theorem j4:(namedTie Tryz.prog Rows.aufsBothRow.named Rows.aufsBothSpec.vars)=true:=by kernel_rfl
theorem j5:((Rows.aufsBothRow.stops == []))=true:=by kernel_rfl
theorem j6:((Tryz.prog.stops == []))=true:=zPU
theorem j7:((Rows.aufsBothRow.knobs == []))=true:=by kernel_rfl
theorem j8:((Tryz.prog.stopKnobs == []))=true:=zPX
theorem j9:((Rows.aufsBothRow.inPlace == Tryz.prog.inPlace 7))=true:=by kernel_rfl
theorem j10:((Rows.aufsBothRow.unfollowed == Tryz.prog.unfollowed 7))=true:=by kernel_rfl
theorem j11:((Rows.aufsBothRow.recurses == Tryz.prog.recurses 7))=true:=by kernel_rfl
theorem j12:((Rows.aufsBothRow.named == Tryz.prog.varsNamed 7))=true:=by kernel_rfl
theorem j13:((Rows.aufsBothRow.maps == (Tryz.f7.params.toList ++ Rows.aufsBothSpec.plain.varTypes Tryz.prog).any (Tryz.prog.mapsRec ·)))=true:=by kernel_rfl
theorem j14:((Rows.aufsBothRow.ifaces == (Tryz.f7.params.toList ++ Rows.aufsBothSpec.plain.varTypes Tryz.prog).any (Tryz.prog.ifacesRec ·)))=true:=by kernel_rfl
theorem j15:((Rows.aufsBothRow.mapsOut == Tryz.prog.mapsAmong Tryz.f7.resultTypes.toList))=true:=by kernel_rfl
theorem j16:((Rows.aufsBothRow.loops == (Tryz.f7.params.toList ++ Rows.aufsBothSpec.plain.varTypes Tryz.prog).any (Tryz.prog.loopsFrom ·)))=true:=by kernel_rfl
theorem j17:((Rows.aufsBothRow.wideKeys == (Tryz.f7.params.toList ++ Rows.aufsBothSpec.plain.varTypes Tryz.prog ++ Tryz.f7.resultTypes.toList).any (Tryz.prog.wideKeysFrom ·)))=true:=by kernel_rfl
theorem j18:(Rows.aufsBothSpec.vars.all (Tryz.prog.varReadable ·))=true:=by kernel_rfl
theorem j19:(Tryz.f7.resultTypes.all (fun t=>Tryz.prog.readableRec t && decide (t < Tryz.prog.types.size)))=true:=by kernel_rfl
theorem j20:((Rows.aufsBothRow.ifacesOut == Tryz.f7.resultTypes.toList.any (Tryz.prog.ifacesRec ·)))=true:=by kernel_rfl
theorem j21:((Rows.aufsBothRow.loopsOut == Tryz.f7.resultTypes.toList.any (Tryz.prog.loopsFrom ·)))=true:=by kernel_rfl
theorem j22:((Rows.aufsBothRow.plainKeys == Tryz.prog.plainKeys))=true:=zPV
theorem j23:(Rows.aufsBothRow.shortTexts.isNone)=true:=by kernel_rfl
theorem j24:(Tryz.prog.stopsHeard)=true:=zPY
theorem j25:(Tryz.prog.mayEnter)=true:=zPZ
theorem j26:((Rows.aufsBothRow.lifted == Tryz.prog.liftsFinal))=true:=zPW
theorem j27:((Tryz.prog.make == some Rows.aufsBothRow.make))=true:=zUw
theorem j28:((Rows.aufsBothRow.kinds == (if Rows.aufsBothRow.domain.isEmpty then [] else Tryz.f7.params.toList.map fun t=>match Tryz.prog.underlying t with | some (.int k)=>some k | _=>none)))=true:=by kernel_rfl
theorem j29:((Rows.aufsBothRow.pinned == Rows.aufsBothRow.pinnedBy))=true:=by kernel_rfl
theorem j30:((Rows.aufsBothRow.veiled == (Tryz.f7.params.toList ++ Rows.aufsBothSpec.plain.varTypes Tryz.prog ++ Tryz.f7.resultTypes.toList).any (Tryz.prog.veiledRec ·)))=true:=by kernel_rfl
theorem j31:(Rows.aufsBothRow.veiledFits Tryz.prog Tryz.f7.params.toList (Tryz.f7.params.toList ++ Rows.aufsBothSpec.plain.varTypes Tryz.prog ++ Tryz.f7.resultTypes.toList))=true:=by kernel_rfl
theorem facts:joinedFacts Tryz.prog 7 Tryz.f7 Rows.aufsBothSpec Rows.aufsBothRow=true:=by
 unfold joinedFacts
 simp only [Bool.and_eq_true]
 exact⟨⟨⟨⟨⟨⟨⟨⟨⟨⟨⟨⟨⟨⟨⟨⟨⟨⟨⟨⟨⟨⟨⟨⟨⟨⟨⟨⟨⟨⟨⟨j0,j1⟩,j2⟩,j3⟩,j4⟩,j5⟩,j6⟩,j7⟩,j8⟩,j9⟩,j10⟩,j11⟩,j12⟩,j13⟩,j14⟩,j15⟩,j16⟩,j17⟩,j18⟩,j19⟩,j20⟩,j21⟩,j22⟩,j23⟩,j24⟩,j25⟩,j26⟩,j27⟩,j28⟩,j29⟩,j30⟩,j31⟩
theorem said:Rows.AufsBothSaid:=
 OpenClaim.holds_of_cond 7 Tryz.f7 rfl rfl rfl rfl rfl rfl rfl ⟨rfl,rfl,rfl,rfl,rfl⟩ rfl rfl rfl rfl rfl (by kernel_rfl) Tryz.func7 facts
  (of_decide_eq_true (by kernel_rfl)) (by unfold Func.isWrapper;rw [if_neg (of_decide_eq_false (by kernel_rfl))];exact⟨rfl,rfl⟩)
  (fun os started H enc _ F=>by rw [OpenClaim.pre_eq_preRow];exact lifted os started H enc F)
#print axioms said
end Go.Proofs.YtbeeoomadnmogaaGreat.lwAufsBoth
