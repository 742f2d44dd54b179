/- BsdJ DirC BsdK BsdL AyA -/
import Derived.Test.YtbeeoomadnmogaaGreatQI5
import Derived.Handy
import Derived.Test.YtbeeoomadnmogaaGreatQBrnC
import Derived.Test.YtbeeoomadnmogaaGreatQAwA
set_option maxRecDepth 100000
set_option maxHeartbeats 64000000
namespace Go.Proofs.YtbeeoomadnmogaaGreat
open Go.RowKit
theorem zAy.ext {row:Option Nat}{w w' w2:World}(h:zAy row w w')(he:Ext w' w2):zAy row w w2:=fun _ _ hb hne=>bX he (h _ _ hb hne)
theorem zAy.set {row:Option Nat}{w w':World}(h:zAy row w w')(p:Addr)(v:Value)(hp:row=some p.block\/w.heap.size<=p.block):zAy row w (w'.setCell p v):=by grind[zAy,bSn,bL]
structure zY0 (w0 w:World) (B bd:Nat) (va vr:Value) (o0 o:Bool) (F:List zAq->List zAq × Int) (l:List DeN) (w':World):Prop where
 dir:∃ve',w'.heap[bd]? = some (.cells #[va,.bool o0,vr,ve'] 26 (0,0))/\((chT o F l).2=0->zRy B w' ve' (l.map (chX F)))
 keep:zAy (some bd) w w'
 ext:Ext w0 w'
 size:w.heap.size<=w'.heap.size
theorem zCB (B:Nat)(w:World)(v:Value)(d:DiN)(hd:zBA B w v d)(hsm:zDR d):
  zAs Tryz.prog 40 #[v] w (.tuple #[.int .i64 (zNk d),.int .i64 (zCs d)]):=by
 unfold zAs;obtain⟨va,vr,ve,rfl,ha,hr,he⟩:=hd;have HA:=hQq ha.attrs;have HRS:=hQq hr.strs;have HE:=hQq he;have HSM:=hQq hsm;obtain⟨a3,cap3,rfl⟩:=ha.form;obtain⟨a4,cap4,rfl⟩:=hr.form;obtain⟨a5,cap5,rfl⟩:=he.form;have hlen:=hsm.len;clear ha hr he hsm;have HM1:Hid (∀a∈d.ats,a.1.size<=1000000/\a.2.size<=1000000):=hQq (fun a h=>by have:=HSM.out.ats a h;omega);by_cases e1:zBS d.ats=0
 case neg=>
  have HX:=hQq (zAW (zNj e1));have q1:(zBS d.ats != 0)=true:=bne_iff_ne.2 e1;clear e1;go_enter Tryz.func40,Tryz.ntmps40;go_wp2_with (go_at_call 104;refine(zC6 _ d.ats _ (HA.out.ext (eA _ _)) HM1.out).mono ?_;rintro e w1 ⟨rfl,hb1⟩;have HB1:=hQq hb1;clear hb1)
  go_ret2;exact⟨by rw[HX.out.1,HX.out.2];rfl,(eA _ _).trans HB1.out⟩
 have q1:(zBS d.ats != 0)=false:=bne_eq_false_iff_eq.2 e1;have E1:=hQq e1;clear e1;by_cases e2:d.opq=true/\0<d.red.length
 case pos=>
  have HX:=hQq (zAW (zKR E1.out e2.1 e2.2));obtain⟨f1,f2⟩:=e2;have f3:=zSv f2;go_enter Tryz.func40,Tryz.ntmps40;go_wp2_with (go_at_call 104;refine(zC6 _ d.ats _ (HA.out.ext (eA _ _)) HM1.out).mono ?_;rintro e w1 ⟨rfl,hb1⟩;have k1:=bC (zNy hb1) 1;have k2:=bC (zNy hb1) 2;have HB1:=hQq hb1;clear hb1)
  go_ret2;exact⟨by rw[HX.out.1,HX.out.2];rfl,(eA _ _).trans HB1.out⟩
 have E2:=hQq e2;clear e2;go_enter Tryz.func40,Tryz.ntmps40;go_upto_region 4 with (go_at_call 104;refine(zC6 _ d.ats _ (HA.out.ext (eA _ _)) HM1.out).mono ?_;rintro e w1 ⟨rfl,hb1⟩;have k1:=bC (zNy hb1) 1;have k2:=bC (zNy hb1) 2;have k3:=bC (zNy hb1) 3;have HB1:=hQq hb1;clear hb1)
 go_cut [26] (fun s wx=>s= .bool false/\wx=w1)
 case first=>
  by_cases f1:d.opq=true
  case neg=>
   rw[Bool.eq_false_iff.2 f1]at k1;go_wp2_with fail;go_meet;exact⟨rfl,rfl⟩
  case pos=>
   rw[f1]at k1;have f2:¬0<d.red.length:=fun h=>E2.out ⟨f1,h⟩;have f3:=zSu f2;go_wp2_with fail;go_meet;exact⟨rfl,rfl⟩
 case rest=>
 obtain⟨rfl,rfl⟩:=hcut;have HRX:=hQq (fun W h=>HRS.out.ext (Ext.trans ((eA _ _).trans HB1.out) h) (w':=W));have HE1:=hQq ((eA _ _).trans HB1.out);have HBX:=hQq (zNy HB1.out);by_cases e3:zAR d.red=0
 case neg=>
  have HX:=hQq (zAW (zKP E1.out E2.out e3));have q2:(zAR d.red != 0)=true:=bne_iff_ne.2 e3;clear e3;go_wp2_with (go_at_call 105;refine(zCv _ d.red _ (HRX.out _ (bR _ _))).mono ?_;rintro e w2 ⟨rfl,hb2⟩;have HB2:=hQq hb2;clear hb2)
  go_ret2;exact⟨by rw[HX.out.1,HX.out.2];rfl,HE1.out.trans HB2.out⟩
 have q2:(zAR d.red != 0)=false:=bne_eq_false_iff_eq.2 e3;have E3:=hQq e3;clear e3;by_cases hl24:24<d.ens.length
 case pos=>
  have HX:=hQq (zAW (zKQ E1.out E2.out E3.out hl24));go_wp2_with (go_at_call 105;refine(zCv _ d.red _ (HRX.out _ (bR _ _))).mono ?_;rintro e w2 ⟨rfl,hb2⟩;have y3:=bC (bX hb2 HBX.out) 3;have HB2:=hQq hb2;clear hb2)
  go_ret2;exact⟨by rw[HX.out.1,HX.out.2];rfl,HE1.out.trans HB2.out⟩
 go_wp2_with (go_at_call 105;refine(zCv _ d.red _ (HRX.out _ (bR _ _))).mono ?_;rintro e w2 ⟨rfl,hb2⟩;have y3:=bC (bX hb2 HBX.out) 3;have HB2:=hQq hb2;clear hb2)
 clear k1 k2 k3 y3;go_loopw [6,40] (fun l i w'=>∃(wi:World) (k:Nat),wi=w'/\k<=d.ens.length/\i= .int .i64 k/\l= .string (zCZ d.ens k)/\(∀j,j<k->zFA d.opq d.ens j=0)/\Ext wc wi) (fun _ i _=>d.ens.length-(intOf i).toNat)
 case atStart=>exact⟨_,0,rfl,Nat.zero_le _,rfl,rfl,fun j hj=>absurd hj (by omega),HB2.out⟩
 case round=>
  clear HB2;obtain⟨wi,k,rfl,hk,rfl,rfl,hok,hE⟩:=hrel;have HOK:=hQq hok;have HEI:=hQq hE;clear hok;by_cases hlt:k<d.ens.length
  case neg=>
   obtain rfl:k=d.ens.length:=by omega
   have HX:=hQq (zAW (zHX E1.out E2.out E3.out hl24 HOK.out));clear hE;go_wp2;go_ret2;exact⟨by rw[HX.out.1,HX.out.2];rfl,HE1.out.trans HEI.out⟩
  have HB3:Hid (Ext w wi):=hQq (HE1.out.trans hE);obtain⟨b,off,va,hex,hbx,hva,c0,c1,c2,c3,c4,c5,c6,c7,c8,c9,c10,c11⟩:=(HE.out.ext okE HB3.out).en k hlt;cases hex;have HVA:=hQq hva.attrs;have p1:=hQq (bX hE HBX.out);obtain⟨a6,cap6,rfl⟩:=hva.form;have HG:=hQq (zAL d.ens k hlt);have HSX:=hQq (HSM.out.ens _ (List.getElem_mem hlt));have HENT:Hid (zFA d.opq d.ens k=zEl d.opq (zCZ d.ens k) (d.ens[k]'hlt)):=hQq (by unfold zFA;rw[HG.out]);have HLS:Hid (zCZ d.ens (k+1)=(d.ens[k]'hlt).nm):=hQq (by rw[zGt,HG.out]);generalize d.ens[k]'hlt=x at c0 c1 c2 c3 c4 c5 c6 c7 c8 c9 c10 c11 HVA HG HSX HENT HLS;generalize zCZ d.ens k=z at HENT;have j1:((k:Nat):Int)<(d.ens.length:Int):=by omega
  have j0:(0:Int)<=(k:Int):=by omega
  clear hva hE;by_cases n1:zAn (L x.nm)=0
  case neg=>
   have HX:Hid (zEl d.opq z x=zAn (L x.nm)):=hQq (zKM n1);have HR:=hQq (zAW (zAP E1.out E2.out E3.out hl24 hlt HOK.out (by rw[HENT.out,HX.out];exact n1)));have q3:(zAn (L x.nm) != 0)=true:=bne_iff_ne.2 n1;clear n1;go_wp2_with (go_at_call 106;refine(zAZ x.nm _).mono ?_;rintro e w3 ⟨rfl,hb3⟩;replace HB3:=hQq (HB3.out.trans ((eA _ _).trans hb3));clear hb3)
   go_ret2;exact⟨by rw[HR.out.1,HR.out.2,HENT.out,HX.out];rfl,HB3.out⟩
  have q3:(zAn (L x.nm) != 0)=false:=bne_eq_false_iff_eq.2 n1;have N1:=hQq n1;clear n1;by_cases n2:x.nm=z
  case pos=>
   have HX:Hid (zEl d.opq z x=8):=hQq (zNc N1.out n2);have HR:=hQq (zAW (zAP E1.out E2.out E3.out hl24 hlt HOK.out (by rw[HENT.out,HX.out];decide)));have q4:(x.nm.toList==z.toList)=true:=by rw[n2];exact beq_self_eq_true _
   clear n2;go_wp2_with (go_at_call 106;refine(zAZ x.nm _).mono ?_;rintro e w3 ⟨rfl,hb3⟩;have q12:=bX hb3 (bN wi _);have z0:=bC q12 0;replace HB3:=hQq (HB3.out.trans ((eA _ _).trans hb3));clear hb3 q12)
   go_ret2;exact⟨by rw[HR.out.1,HR.out.2,HENT.out,HX.out];rfl,HB3.out⟩
  have q4:(x.nm.toList==z.toList)=false:=zTy n2;have N2:=hQq n2;clear n2;by_cases n3:L x.nm<L z
  case pos=>
   have HX:Hid (zEl d.opq z x=6):=hQq (zHd N1.out N2.out (.inl n3));have HR:=hQq (zAW (zAP E1.out E2.out E3.out hl24 hlt HOK.out (by rw[HENT.out,HX.out];decide)));have q5:=zEP n3;clear n3;go_wp2_with (go_at_call 106;refine(zAZ x.nm _).mono ?_;rintro e w3 ⟨rfl,hb3⟩;have q12:=bX hb3 (bN wi _);have z0:=bC q12 0;have z1:=bC q12 1;have z2:=bC q12 2;have z3:=bC q12 3;have z4:=bC q12 4;have z5:=bC q12 5;have z6:=bC q12 6;have z7:=bC q12 7;have z8:=bC q12 8;have hsz:=bL q12;have Q12:=hQq q12;have HE3:Hid (Ext wi w3):=hQq ((eA _ _).trans hb3);replace HB3:=hQq (HB3.out.trans HE3.out);clear hb3 q12)
   go_ret2;exact⟨by rw[HR.out.1,HR.out.2,HENT.out,HX.out];rfl,HB3.out.trans (eA _ _)⟩
  have q5:=zD7 n3;have N3:=hQq n3;clear n3;by_cases n4:x.nd.dep=0
  case neg=>
   have HX:Hid (zEl d.opq z x=6):=hQq (zHd N1.out N2.out (.inr (.inl n4)));have HR:=hQq (zAW (zAP E1.out E2.out E3.out hl24 hlt HOK.out (by rw[HENT.out,HX.out];decide)));have q6:(x.nd.dep != 0)=true:=bne_iff_ne.2 n4;clear n4;go_wp2_with (go_at_call 106;refine(zAZ x.nm _).mono ?_;rintro e w3 ⟨rfl,hb3⟩;have q12:=bX hb3 (bN wi _);have z0:=bC q12 0;have z1:=bC q12 1;have z2:=bC q12 2;have z3:=bC q12 3;have z4:=bC q12 4;have z5:=bC q12 5;have z6:=bC q12 6;have z7:=bC q12 7;have z8:=bC q12 8;have hsz:=bL q12;have Q12:=hQq q12;have HE3:Hid (Ext wi w3):=hQq ((eA _ _).trans hb3);replace HB3:=hQq (HB3.out.trans HE3.out);clear hb3 q12)
   go_ret2;exact⟨by rw[HR.out.1,HR.out.2,HENT.out,HX.out];rfl,HB3.out.trans (eA _ _)⟩
  have q6:(x.nd.dep != 0)=false:=bne_eq_false_iff_eq.2 n4;have N4:=hQq n4;clear n4;by_cases n5:x.nd.nm.toList= []
  case neg=>
   have HX:Hid (zEl d.opq z x=6):=hQq (zHd N1.out N2.out (.inr (.inr n5)));have HR:=hQq (zAW (zAP E1.out E2.out E3.out hl24 hlt HOK.out (by rw[HENT.out,HX.out];decide)));have q7:x.nd.nm.toList.isEmpty=false:=by simpa using n5
   clear n5;go_wp2_with (go_at_call 106;refine(zAZ x.nm _).mono ?_;rintro e w3 ⟨rfl,hb3⟩;have q12:=bX hb3 (bN wi _);have z0:=bC q12 0;have z1:=bC q12 1;have z2:=bC q12 2;have z3:=bC q12 3;have z4:=bC q12 4;have z5:=bC q12 5;have z6:=bC q12 6;have z7:=bC q12 7;have z8:=bC q12 8;have hsz:=bL q12;have Q12:=hQq q12;have HE3:Hid (Ext wi w3):=hQq ((eA _ _).trans hb3);replace HB3:=hQq (HB3.out.trans HE3.out);clear hb3 q12)
   go_ret2;exact⟨by rw[HR.out.1,HR.out.2,HENT.out,HX.out];rfl,HB3.out.trans (eA _ _)⟩
  have q7:x.nd.nm.toList.isEmpty=true:=by rw[n5];rfl
  have N5:=hQq n5;clear n5;have HAL:=hQq (fun W hW=>(zVv W x.nd _ (HVA.out.ext hW) (fun a h=>by have:=HSX.out.2.1 a h;omega) (by have:=HSX.out.2.2;omega)));unfold zAs at HAL;go_wp2_with (first|(go_at_call 106;refine(zAZ x.nm _).mono ?_;rintro e w3 ⟨rfl,hb3⟩;have q12:=bX hb3 (bN wi _);have z0:=bC q12 0;have z1:=bC q12 1;have z2:=bC q12 2;have z3:=bC q12 3;have z4:=bC q12 4;have z5:=bC q12 5;have z6:=bC q12 6;have z7:=bC q12 7;have z8:=bC q12 8;have hsz:=bL q12;have Q12:=hQq q12;have HE3:Hid (Ext wi w3):=hQq ((eA _ _).trans hb3);replace HB3:=hQq (HB3.out.trans HE3.out);clear hb3 q12)|fail)
  refine(HAL.out _ (HE3.out.trans (eA _ _))).mono ?_;rintro e w4 ⟨rfl,hb4⟩;have q8:=bX hb4 (bN w3 _);have y2:=bC q8 2;have y3:=bC q8 3;have y7:=bC q8 7;have HE4:Hid (Ext wi w4):=hQq (HE3.out.trans ((eA _ _).trans hb4));have q12:=bX ((eA _ _).trans hb4) Q12.out;have x9:=bC q12 9;have x10:=bC q12 10;have x11:=bC q12 11;have p2:=bC (bX HE4.out p1.out) 1;replace HB3:=hQq (HB3.out.trans ((eA _ _).trans hb4));clear z0 z1 z2 z3 z4 z5 z6 z7 z8 hb4 q8 q12 c0 c1 c2 c3 c4 c5 c6 c7 c8 c9 c10 c11 q3 q4 q5 q6 q7;by_cases n6:zCW x.nd=0
  case neg=>
   have HX:Hid (zEl d.opq z x=zCW x.nd):=hQq (zKL N1.out N2.out N3.out N4.out N5.out n6);have HR:=hQq (zAW (zAP E1.out E2.out E3.out hl24 hlt HOK.out (by rw[HENT.out,HX.out];exact n6)));have q9:(zCW x.nd != 0)=true:=bne_iff_ne.2 n6;clear n6;go_wp2;go_ret2;exact⟨by rw[HR.out.1,HR.out.2,HENT.out,HX.out];rfl,HB3.out⟩
  have q9:(zCW x.nd != 0)=false:=bne_eq_false_iff_eq.2 n6;replace HENT:Hid (zFA d.opq d.ens k=zAY d.opq x):=hQq (HENT.out.trans (zF2 N1.out N2.out N3.out N4.out N5.out n6));clear n6;clear HVA HAL HSX Q12 p1 HA HRS HM1 HRX HBX;by_cases t1:x.nd.cl<0
  case pos=>
   have HX:Hid (zAY d.opq x=6):=hQq (zEV (by omega));have HR:=hQq (zAW (zAP E1.out E2.out E3.out hl24 hlt HOK.out (by rw[HENT.out,HX.out];decide)));go_wp2;go_ret2;exact⟨by rw[HR.out.1,HR.out.2,HENT.out,HX.out];rfl,HB3.out⟩
  by_cases t2:0<x.nd.cl
  case pos=>
   have u2:decide (0<x.nd.cl)=true:=decide_eq_true t2;by_cases t3:1<x.ns
   case neg=>
    have u3:decide (1<x.ns)=false:=decide_eq_false t3;have HX:Hid (zAY d.opq x=6):=hQq (zEV (by omega));have HR:=hQq (zAW (zAP E1.out E2.out E3.out hl24 hlt HOK.out (by rw[HENT.out,HX.out];decide)));go_wp2;go_ret2;exact⟨by rw[HR.out.1,HR.out.2,HENT.out,HX.out];rfl,HB3.out⟩
   have u3:decide (1<x.ns)=true:=decide_eq_true t3;have u4:¬x.ns<1:=by omega
   by_cases t5:x.nd.kd=1
   case pos=>
    have u5:(x.nd.kd==1)=true:=beq_iff_eq.2 t5;have u6:(x.nd.kd==5)=false:=nB (by omega);by_cases t7:0<x.nd.ats.length
    case pos=>
     have u7:=zSv t7;have HX:Hid (zAY d.opq x=6):=hQq (zAE (by omega) (by omega) (by simp[zBn,t5,t7]));have HR:=hQq (zAW (zAP E1.out E2.out E3.out hl24 hlt HOK.out (by rw[HENT.out,HX.out];decide)));go_wp2;go_ret2;exact⟨by rw[HR.out.1,HR.out.2,HENT.out,HX.out];rfl,HB3.out⟩
    have u7:=zSu t7;have HX:Hid (zAY d.opq x=6):=hQq (zAE (by omega) (by omega) (by simp[zBn,t5,t2]));have HR:=hQq (zAW (zAP E1.out E2.out E3.out hl24 hlt HOK.out (by rw[HENT.out,HX.out];decide)));go_wp2;go_ret2;exact⟨by rw[HR.out.1,HR.out.2,HENT.out,HX.out];rfl,HB3.out⟩
   have u5:(x.nd.kd==1)=false:=nB t5;by_cases t6:x.nd.kd=5
   case pos=>
    have u6:(x.nd.kd==5)=true:=beq_iff_eq.2 t6;have HX:Hid (zAY d.opq x=6):=hQq (zAE (by omega) (by omega) (by simp[zBn,t6,t2]));have HR:=hQq (zAW (zAP E1.out E2.out E3.out hl24 hlt HOK.out (by rw[HENT.out,HX.out];decide)));go_wp2;go_ret2;exact⟨by rw[HR.out.1,HR.out.2,HENT.out,HX.out];rfl,HB3.out⟩
   have u6:(x.nd.kd==5)=false:=nB t6;cases t8:x.wh
   case true=>
    have HX:Hid (zAY d.opq x=6):=hQq (zAE (by omega) (by omega) (by simp[zBn,t6,t8]));have HR:=hQq (zAW (zAP E1.out E2.out E3.out hl24 hlt HOK.out (by rw[HENT.out,HX.out];decide)));go_wp2;go_ret2;exact⟨by rw[HR.out.1,HR.out.2,HENT.out,HX.out];rfl,HB3.out⟩
   have t9:(x.ns==1)=false:=nB (by omega);cases t10:x.fi
   all_goals
    have HX:Hid (zAY d.opq x=0):=hQq (zCM (by omega) (by omega) (by simp[zBn,t5,t6,t8,t10,t9]));have HN:Hid (∀j,j<k+1->zFA d.opq d.ens j=0):=hQq (zHp HOK.out (by rw[HENT.out,HX.out]));go_wp2;go_roundw
    case rel=>exact⟨_,k+1,rfl,by omega,by go_num,by rw[HLS.out],HN.out,HEI.out.trans HE4.out⟩
    case measure=>simp[intOf]<;>omega
  have u2:decide (0<x.nd.cl)=false:=decide_eq_false t2;by_cases t3:1<x.ns
  case pos=>
   have u3:decide (1<x.ns)=true:=decide_eq_true t3;have HX:Hid (zAY d.opq x=6):=hQq (zEV (by omega));have HR:=hQq (zAW (zAP E1.out E2.out E3.out hl24 hlt HOK.out (by rw[HENT.out,HX.out];decide)));go_wp2;go_ret2;exact⟨by rw[HR.out.1,HR.out.2,HENT.out,HX.out];rfl,HB3.out⟩
  have u3:decide (1<x.ns)=false:=decide_eq_false t3;by_cases t4:x.ns<1
  case pos=>
   have HX:Hid (zAY d.opq x=7):=hQq (zO8 (by omega) t4);have HR:=hQq (zAW (zAP E1.out E2.out E3.out hl24 hlt HOK.out (by rw[HENT.out,HX.out];decide)));go_wp2;go_ret2;exact⟨by rw[HR.out.1,HR.out.2,HENT.out,HX.out];rfl,HB3.out⟩
  have t9:x.ns=1:=by omega
  have u9:(x.ns==1)=true:=beq_iff_eq.2 t9;by_cases t5:x.nd.kd=1
  case pos=>
   have u5:(x.nd.kd==1)=true:=beq_iff_eq.2 t5;have u6:(x.nd.kd==5)=false:=nB (by omega);by_cases t7:0<x.nd.ats.length
   case pos=>
    have u7:=zSv t7;have HX:Hid (zAY d.opq x=6):=hQq (zAE (by omega) (by omega) (by simp[zBn,t5,t7]));have HR:=hQq (zAW (zAP E1.out E2.out E3.out hl24 hlt HOK.out (by rw[HENT.out,HX.out];decide)));go_wp2;go_ret2;exact⟨by rw[HR.out.1,HR.out.2,HENT.out,HX.out];rfl,HB3.out⟩
   have u7:=zSu t7;cases t8:x.wh
   case true=>
    have HX:Hid (zAY d.opq x=6):=hQq (zAE (by omega) (by omega) (by simp[zBn,t5,t8]));have HR:=hQq (zAW (zAP E1.out E2.out E3.out hl24 hlt HOK.out (by rw[HENT.out,HX.out];decide)));go_wp2;go_ret2;exact⟨by rw[HR.out.1,HR.out.2,HENT.out,HX.out];rfl,HB3.out⟩
   cases t10:x.fi
   case false=>
    have HX:Hid (zAY d.opq x=6):=hQq (zAE (by omega) (by omega) (by simp[zBn,t5,t8,t9,t10]));have HR:=hQq (zAW (zAP E1.out E2.out E3.out hl24 hlt HOK.out (by rw[HENT.out,HX.out];decide)));go_wp2;go_ret2;exact⟨by rw[HR.out.1,HR.out.2,HENT.out,HX.out];rfl,HB3.out⟩
   have HX:Hid (zAY d.opq x=0):=hQq (zCM (by omega) (by omega) (by simp[zBn,t5,t2,t7,t8,t10]));have HN:Hid (∀j,j<k+1->zFA d.opq d.ens j=0):=hQq (zHp HOK.out (by rw[HENT.out,HX.out]));go_wp2;go_roundw
   case rel=>exact⟨_,k+1,rfl,by omega,by go_num,by rw[HLS.out],HN.out,HEI.out.trans HE4.out⟩
   case measure=>simp[intOf]<;>omega
  have u5:(x.nd.kd==1)=false:=nB t5;by_cases t6:x.nd.kd=5
  case pos=>
   have u6:(x.nd.kd==5)=true:=beq_iff_eq.2 t6;by_cases t7:d.opq=true
   case pos=>
    rw[t7]at p2;have HX:Hid (zAY d.opq x=6):=hQq (zAE (by omega) (by omega) (by simp[zBn,t6,t7]));have HR:=hQq (zAW (zAP E1.out E2.out E3.out hl24 hlt HOK.out (by rw[HENT.out,HX.out];decide)));go_wp2;go_ret2;exact⟨by rw[HR.out.1,HR.out.2,HENT.out,HX.out];rfl,HB3.out⟩
   replace t7:=Bool.eq_false_iff.2 t7;rw[t7]at p2;have T7:=hQq t7;clear t7;cases t8:x.wh
   case false=>
    have HX:Hid (zAY d.opq x=6):=hQq (zAE (by omega) (by omega) (by simp[zBn,t6,t8]));have HR:=hQq (zAW (zAP E1.out E2.out E3.out hl24 hlt HOK.out (by rw[HENT.out,HX.out];decide)));go_wp2;go_ret2;exact⟨by rw[HR.out.1,HR.out.2,HENT.out,HX.out];rfl,HB3.out⟩
   cases t10:x.fi
   case false=>
    have HX:Hid (zAY d.opq x=6):=hQq (zAE (by omega) (by omega) (by simp[zBn,t6,t8,t9,t10]));have HR:=hQq (zAW (zAP E1.out E2.out E3.out hl24 hlt HOK.out (by rw[HENT.out,HX.out];decide)));go_wp2;go_ret2;exact⟨by rw[HR.out.1,HR.out.2,HENT.out,HX.out];rfl,HB3.out⟩
   have HX:Hid (zAY d.opq x=0):=hQq (zCM (by omega) (by omega) (by simp[zBn,t6,t2,T7.out,t8,t10]));have HN:Hid (∀j,j<k+1->zFA d.opq d.ens j=0):=hQq (zHp HOK.out (by rw[HENT.out,HX.out]));go_wp2;go_roundw
   case rel=>exact⟨_,k+1,rfl,by omega,by go_num,by rw[HLS.out],HN.out,HEI.out.trans HE4.out⟩
   case measure=>simp[intOf]<;>omega
  have u6:(x.nd.kd==5)=false:=nB t6;cases t8:x.wh
  case true=>
   have HX:Hid (zAY d.opq x=6):=hQq (zAE (by omega) (by omega) (by simp[zBn,t6,t8]));have HR:=hQq (zAW (zAP E1.out E2.out E3.out hl24 hlt HOK.out (by rw[HENT.out,HX.out];decide)));go_wp2;go_ret2;exact⟨by rw[HR.out.1,HR.out.2,HENT.out,HX.out];rfl,HB3.out⟩
  cases t10:x.fi
  case false=>
   have HX:Hid (zAY d.opq x=6):=hQq (zAE (by omega) (by omega) (by simp[zBn,t9,t10]));have HR:=hQq (zAW (zAP E1.out E2.out E3.out hl24 hlt HOK.out (by rw[HENT.out,HX.out];decide)));go_wp2;go_ret2;exact⟨by rw[HR.out.1,HR.out.2,HENT.out,HX.out];rfl,HB3.out⟩
  have HX:Hid (zAY d.opq x=0):=hQq (zCM (by omega) (by omega) (by simp[zBn,t5,t6,t8,t10]));have HN:Hid (∀j,j<k+1->zFA d.opq d.ens j=0):=hQq (zHp HOK.out (by rw[HENT.out,HX.out]));go_wp2;go_roundw
  case rel=>exact⟨_,k+1,rfl,by omega,by go_num,by rw[HLS.out],HN.out,HEI.out.trans HE4.out⟩
  case measure=>simp[intOf]<;>omega
def zXe (B:Nat)(w:World)(d:DiN)(n er:Int)(e:Ending)(w':World):Prop:=(∃v',e= .returned (.tuple #[v',.int .i64 n,.int .i64 er])/\zBA B w' v' d)/\Ext w w'
theorem zBu (B:Nat)(w:World):zBA B w (.agg #[.slice none 0 0,.bool false,.slice none 0 0,.slice none 0 0]) zIs:=⟨_,_,_,rfl,zBp _ _ _,zBm _ _ _,zAh.nil _ _ _ _⟩
theorem zGN {w w1 W2:World}{b:Nat}{t:TypeId}{x0 x1 x2 x3 y0 y1 y2 y3:Value}(hq:w1.heap[b]? = some (.cells #[x0,x1,x2,x3] t (0,0)))(hb:w.heap.size<=b)(he:Ext w w1)(hW:W2=zFp w1 b 0 [y0,y1,y2,y3]):
  W2.heap[b]? = some (.cells #[y0,y1,y2,y3] t (0,0))/\Ext w W2/\Chg 0 t (some b) w1 W2:=by
 subst hW;exact⟨by rw[zCF _ _ _ _ hq];rfl,zBw hb _ _ _ he,zCX (Nat.zero_le _) hq _⟩
theorem hcB {B b:Nat}{w w':World}{t:TypeId}{c:Array Value}(hB:B<=b)(h:Chg 0 t (some (b+1)) w w')(hq:w.heap[b+1]? = some (.cells c t (0,0))):Chg B t (some (b+1)) w w':=⟨h.keep,h.size,fun g hg=>by cases hg;exact⟨by omega,_,_,hq⟩⟩
structure zUi (w:World) (bo:Nat) (bx:Array Value) (lv:Value) (ls:List zAq) (o:Bool) (ve:Value) (es:List DeN) (W:World):Prop where
 box:W.heap[w.heap.size]? = some (.cells bx 26 (0,0))
 res:W.heap[w.heap.size+1]? = some (.cells #[.slice none 0 0,.bool false,.slice none 0 0,.slice none 0 0] 26 (0,0))
 out:W.heap[bo]? = some (.cells #[lv,.bool o,.slice none 0 0,ve] 26 (0,0))
 own:zAg cdE w.heap.size W ve es
 ats:zAH w.heap.size W lv ls
 ext:Ext w W
theorem zUi.up {w W V:World}{bo:Nat}{bx:Array Value}{lv ve:Value}{ls:List zAq}{o:Bool}{es:List DeN}(h:zUi w bo bx lv ls o ve es W)(he:Ext W V):zUi w bo bx lv ls o ve es V:=
 ⟨bX he h.box,bX he h.res,bX he h.out,h.own.ext okE he,h.ats.ext okA he,h.ext.trans he⟩
theorem zCO {B:Nat}{W:World}{ve:Value}{es:List DeN}(h:zAg cdE B W ve es){b:Nat}{c:Array Value}{f:Nat × Nat}(hb:W.heap[b]? = some (.cells c 26 f)):ve.ownBlock≠some b:=by
 intro e;obtain⟨_,c',f',h2⟩:=h.row rfl b e;rw[hb]at h2;injection h2 with h2
 injection h2 with _ h3 _;revert h3;decide
theorem zUi.app {w W W':World}{bo:Nat}{bx:Array Value}{lv ve ve':Value}{ls:List zAq}{o:Bool}{es es':List DeN}(h:zUi w bo bx lv ls o ve es W)(ha:zIr cdE w.heap.size ve ve' es' w W W'):
 W'.heap[bo]? = some (.cells #[lv,.bool o,.slice none 0 0,ve] 26 (0,0)):=ha.chg.keep _ _ h.out (zCO h.own h.out)
theorem zUi.step {w W W':World}{bo:Nat}{bx:Array Value}{lv ve ve':Value}{ls:List zAq}{o:Bool}{es es':List DeN}(h:zUi w bo bx lv ls o ve es W)(ha:zIr cdE w.heap.size ve ve' es' w W W')(hb:w.heap.size+1<bo):
  zUi w bo bx lv ls o ve' es' (W'.setCell ⟨bo,3,none⟩ ve'):=by
 have hout:=h.app ha;have hc:Chg w.heap.size 26 (some bo) W' (W'.setCell ⟨bo,3,none⟩ ve'):=⟨fun b o hb hne=>bSn hb _ _ (fun e=>hne (by rw[e])),by simp[World.setCell],fun g hg=>by cases hg;exact⟨by omega,_,_,hout⟩⟩;refine⟨?_,?_,bS hout _,ha.own.other okE hc (by decide) (by decide),(h.ats.chg okA ha.chg (by decide) (by decide)).chg okA hc (by decide) (by decide),Below.setCell (p:=⟨bo,3,none⟩) ha.below (by show w.heap.size<=bo;omega) _⟩
 ·exact bSn (ha.chg.keep _ _ h.box (zCO h.own h.box)) _ _ (by show w.heap.size≠bo;omega)
 ·exact bSn (ha.chg.keep _ _ h.res (zCO h.own h.res)) _ _ (by show w.heap.size+1≠bo;omega)
theorem zQP {B b o:Nat}{w:World}{c:Array Value}{t:TypeId}{f:Nat × Nat}{v:Value}(hb:w.heap[b]? = some (.cells c t f))(hB:B<=b):Chg B t (some b) w (w.setCell ⟨b,o,none⟩ v):=
 ⟨fun _ _ h hne=>bSn h _ _ (fun e=>hne (by rw[e])),by simp[World.setCell],fun g hg=>by cases hg;exact⟨hB,_,_,hb⟩⟩
theorem zFT {α:Type}(l:List α)(x:α):(l++ [x]).length=l.length+1:=by simp
structure zYw {α:Type} (C:Cd α) (B N:Nat) (W0:World) (l:List α) (v':Value) (w':World):Prop where
 own:zAg C B w' v' l
 far:∀g,v'.ownBlock=some g->N<=g
 below:Below N W0 w'
section
variable {P:Program} {α:Type} {C:Cd α} {B:Nat} {w:World} {ad:Addr} {cap:Nat} {l:List α}
theorem zHG (h:zAh C B w (.slice (some ad) l.length cap) l)(k:Nat)(hk:k<=l.length){a5:Option Addr}(ha:a5=if cap=k then some ad else some (ad.add (k*C.n))):zAh C B w (.slice a5 (l.length-k) (cap-k)) (l.drop k):=by
 by_cases e:l.length=k
 ·rw[List.drop_eq_nil_of_le (by omega),e,Nat.sub_self];exact⟨_,_,rfl,Nat.zero_le _,fun h=>absurd h (Nat.lt_irrefl _),fun j hj=>absurd hj (by simp)⟩
 obtain⟨a,cap',he,hcap,hn,hc⟩:=id h;cases he;obtain⟨b,off,cs,h1,_⟩:=hc 0 (by omega);cases h1;rw[if_neg (by omega),Addr.add_lit]at ha;subst ha;have h2:=zCx h k (l.length-k) (by omega) (cap-k) (by omega) _ rfl;rw[List.take_of_length_le (by rw[List.length_drop];exact Nat.le_refl _)]at h2;exact h2
end
end Go.Proofs.YtbeeoomadnmogaaGreat
