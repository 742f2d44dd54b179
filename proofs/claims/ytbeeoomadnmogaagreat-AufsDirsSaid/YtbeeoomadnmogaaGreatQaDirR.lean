/- DirR AyA AyC SamD -/
import Derived.Test.YtbeeoomadnmogaaGreatQI5
import Derived.Test.YtbeeoomadnmogaaGreatQAfS
import Derived.Test.YtbeeoomadnmogaaGreatQBsdJ
set_option maxRecDepth 100000
set_option maxHeartbeats 64000000
namespace Go.Proofs.YtbeeoomadnmogaaGreat
open Go.RowKit
theorem zPW {l:List DeN}{i j:Nat}(h:i=j+1):zCZ l i=(zBq l j).nm:=by subst h;rfl
theorem zIA (B:Nat)(w:World)(v:Value)(d:DiN)(i:Nat)(hd:zBA B w v d)(hsm:zDR d)(hi:i<d.ens.length):
  zAs Tryz.prog 114 #[v,.int .i64 i] w (.int .i64 (zFA d.opq d.ens i)):=by
 unfold zAs;obtain⟨va,vr,ve,rfl,ha,hr,he⟩:=hd;have HE:=hQq he;have HSM:=hQq hsm;obtain⟨a3,cap3,rfl⟩:=ha.form;obtain⟨a4,cap4,rfl⟩:=hr.form;obtain⟨a5,cap5,rfl⟩:=he.form;have hlen:=hsm.len;obtain⟨b,off,vx,hex,hbx,hva,c0,c1,c2,c3,c4,c5,c6,c7,c8,c9,c10,c11⟩:=he.en i hi;cases hex;clear ha hr he hsm;have HVA:=hQq hva.attrs;obtain⟨a6,cap6,rfl⟩:=hva.form;have HPV:Hid (∀j,i=j+1->∀W,Ext w W->W.cell? ⟨b,off+j*12,none⟩=some (.string (zCZ d.ens i))):=hQq (fun j hj W hW=>by
  obtain⟨b',off',_,hex',_,_,e0,_⟩:=(HE.out.ext okE hW).en j (by omega);cases hex';rw[zPW hj,zAL d.ens j (by omega)];exact e0)
 have HZ0:Hid (i=0->zCZ d.ens i=⟨#[]⟩):=hQq (fun h=>by rw[h];rfl);have HG:=hQq (zAL d.ens i hi);have HSX:=hQq (HSM.out.ens _ (List.getElem_mem hi));have HENT:Hid (zFA d.opq d.ens i=zEl d.opq (zCZ d.ens i) (d.ens[i]'hi)):=hQq (by unfold zFA;rw[HG.out]);generalize d.ens[i]'hi=x at c0 c1 c2 c3 c4 c5 c6 c7 c8 c9 c10 c11 HVA HG HSX HENT;generalize zCZ d.ens i=z at HENT HPV HZ0;have j1:((i:Nat):Int)<(d.ens.length:Int):=by omega
 have j0:(0:Int)<=(i:Int):=by omega
 have hs1:x.nm.size<=1000000:=by have:=HSX.out.1;omega
 clear hva;by_cases n1:zAn (L x.nm)=0
 case neg=>
  have HX:Hid (zEl d.opq z x=zAn (L x.nm)):=hQq (zKM n1);have q3:(zAn (L x.nm) != 0)=true:=bne_iff_ne.2 n1;clear n1;go_enter Tryz.func114,Tryz.ntmps114;go_wp2_with (go_at_call 38;refine(zC9 x.nm _ hs1).mono ?_;rintro e w3 ⟨rfl,rfl⟩)
  go_ret;exact⟨by rw[HENT.out,HX.out];rfl,((eA _ _).trans (eA _ _)).trans (eA _ _)⟩
 have q3:(zAn (L x.nm) != 0)=false:=bne_eq_false_iff_eq.2 n1;have N1:=hQq n1;have HEM:Hid (i=0->¬x.nm=z/\¬L x.nm<L z):=hQq (fun h0=>by
  rw[HZ0.out h0];exact⟨fun e=>(by rw[e]at n1;cases n1),fun e=>absurd e (List.not_lt_nil _)⟩)
 clear n1;by_cases n2:x.nm=z
 case pos=>
  obtain⟨j,hj⟩:∃j,i=j+1:=⟨i-1,by
   have:i≠0:=fun h=>(HEM.out h).1 n2;omega⟩
  have HX:Hid (zEl d.opq z x=8):=hQq (zNc N1.out n2);have q4:(z.toList==x.nm.toList)=true:=by rw[n2];exact beq_self_eq_true _
  have jw:IntKind.i64.wrap ((i:Int)-1)=(j:Int):=(IntWalk.i64_in _ (by omega)).trans (by omega);have j2:((j:Nat):Int)<(d.ens.length:Int):=by omega
  have j3:(0:Int)<=(j:Int):=by omega
  have j4:0<i:=by omega
  have j5:decide (0<i)=true:=decide_eq_true j4;have K0:=hQq (HPV.out j hj);clear n2 hj;go_enter Tryz.func114,Tryz.ntmps114;go_upto_region 6 with (go_at_call 38;refine(zC9 x.nm _ hs1).mono ?_;rintro e w3 ⟨rfl,rfl⟩)
  refine nW (P:=fun W=>Code.wp _ _ _ _ W) _ ?_;intro W hW;have B4:Hid (W.heap[w.heap.size]? = some (.cells #[.slice a3 d.ats.length cap3,.bool d.opq,.slice a4 d.red.length cap4,.slice (some ⟨b,off,none⟩) d.ens.length cap5] 26 (0,0))):=hQq (by rw[hW];exact bA (bA (bN w _)));have B12:Hid (W.heap[w.heap.size+1]? = some (.cells #[.string x.nm,.int .i64 x.nd.dep,.string x.nd.nm,.int .i64 x.nd.kd,.slice a6 x.nd.ats.length cap6,.string x.nd.dat,.int .i64 x.nd.ma,.int .i64 x.nd.mi,.int .i64 x.nd.cl,.bool x.wh,.bool x.fi,.int .i64 x.ns] 66 (0,0))):=hQq (by rw[hW];exact bA (zAu (by simp)));have B8:Hid (W.heap[w.heap.size+1+1]? = some (.cells #[.int .i64 x.nd.dep,.string x.nd.nm,.int .i64 x.nd.kd,.slice a6 x.nd.ats.length cap6,.string x.nd.dat,.int .i64 x.nd.ma,.int .i64 x.nd.mi,.int .i64 x.nd.cl] 59 (0,0))):=hQq (by rw[hW];exact zAu (by simp));have HW:Hid (Ext w W):=hQq (by rw[hW];exact((eA _ _).trans (eA _ _)).trans (eA _ _));clear hW c0 c1 c2 c3 c4 c5 c6 c7 c8 c9 c10 c11;have f3:=bC B4.out 3;have x0:=bC B12.out 0;have k0:=K0.out W HW.out;go_wp2;go_quiet (fail)
  go_wp2;go_ret;exact⟨by rw[HENT.out,HX.out];rfl,HW.out.trans (eDn _ _)⟩
 have q4:(z.toList==x.nm.toList)=false:=zTy fun e=>n2 e.symm;have N2:=hQq n2;clear n2;go_enter Tryz.func114,Tryz.ntmps114;go_upto_region 6 with (go_at_call 38;refine(zC9 x.nm _ hs1).mono ?_;rintro e w3 ⟨rfl,rfl⟩)
 refine nW (P:=fun W=>Code.wp _ _ _ _ W) _ ?_;intro W hW;have B4:Hid (W.heap[w.heap.size]? = some (.cells #[.slice a3 d.ats.length cap3,.bool d.opq,.slice a4 d.red.length cap4,.slice (some ⟨b,off,none⟩) d.ens.length cap5] 26 (0,0))):=hQq (by rw[hW];exact bA (bA (bN w _)));have B12:Hid (W.heap[w.heap.size+1]? = some (.cells #[.string x.nm,.int .i64 x.nd.dep,.string x.nd.nm,.int .i64 x.nd.kd,.slice a6 x.nd.ats.length cap6,.string x.nd.dat,.int .i64 x.nd.ma,.int .i64 x.nd.mi,.int .i64 x.nd.cl,.bool x.wh,.bool x.fi,.int .i64 x.ns] 66 (0,0))):=hQq (by rw[hW];exact bA (zAu (by simp)));have B8:Hid (W.heap[w.heap.size+1+1]? = some (.cells #[.int .i64 x.nd.dep,.string x.nd.nm,.int .i64 x.nd.kd,.slice a6 x.nd.ats.length cap6,.string x.nd.dat,.int .i64 x.nd.ma,.int .i64 x.nd.mi,.int .i64 x.nd.cl] 59 (0,0))):=hQq (by rw[hW];exact zAu (by simp));have HW:Hid (Ext w W):=hQq (by rw[hW];exact((eA _ _).trans (eA _ _)).trans (eA _ _));clear hW c0 c1 c2 c3 c4 c5 c6 c7 c8 c9 c10 c11;have f3:=bC B4.out 3;have x0:=bC B12.out 0;go_cut [36] (fun s wx=>s= .bool false/\Ext W wx)
 case first=>
  by_cases hi0:i=0
  case pos=>
   have j5:decide (0<i)=false:=decide_eq_false (by omega);have j6:¬0<i:=by omega
   clear hi0;go_wp2_with fail
   go_quiet (fail)
   go_wp2_with fail;go_meet;exact⟨rfl,eDn _ _⟩
  case neg=>
   obtain⟨j,hj⟩:∃j,i=j+1:=⟨i-1,by omega⟩;have jw:IntKind.i64.wrap ((i:Int)-1)=(j:Int):=(IntWalk.i64_in _ (by omega)).trans (by omega);have j2:((j:Nat):Int)<(d.ens.length:Int):=by omega
   have j3:(0:Int)<=(j:Int):=by omega
   have j4:0<i:=by omega
   have j5:decide (0<i)=true:=decide_eq_true j4;have k0:=HPV.out j hj W HW.out;clear hj hi0;go_wp2_with fail
   go_quiet (fail)
   go_wp2_with fail;go_meet;exact⟨rfl,eDn _ _⟩
 case rest=>
 obtain⟨rfl,hE⟩:=hcut;clear f3 x0;replace B4:=hQq (bX hE B4.out);replace B12:=hQq (bX hE B12.out);replace B8:=hQq (bX hE B8.out);have HC:Hid (Ext w wc):=hQq (HW.out.trans hE);clear hE HW;have f3:=bC B4.out 3;have x0:=bC B12.out 0;have y0:=bC B8.out 0;have y1:=bC B8.out 1;go_upto_region 8 with fail
 go_cut [60] (fun s wx=>s= .bool (decide (L x.nm<L z\/x.nd.dep≠0\/¬x.nd.nm.toList= []))/\Ext wc wx)
 case first=>
  have HD1:=hQq (fun (h:L x.nm<L z)=>congrArg Value.bool (decide_eq_true (p:=L x.nm<L z\/x.nd.dep≠0\/¬x.nd.nm.toList= []) (.inl h)).symm);have HD2:=hQq (fun (h:x.nd.dep≠0)=>congrArg Value.bool (decide_eq_true (p:=L x.nm<L z\/x.nd.dep≠0\/¬x.nd.nm.toList= []) (.inr (.inl h))).symm);have HD3:=hQq (fun (h:¬x.nd.nm.toList= [])=>congrArg Value.bool (decide_eq_true (p:=L x.nm<L z\/x.nd.dep≠0\/¬x.nd.nm.toList= []) (.inr (.inr h))).symm);have HD4:=hQq (fun (h1:¬L x.nm<L z) (h2:x.nd.dep=0) (h3:x.nd.nm.toList= [])=>congrArg Value.bool (decide_eq_false (p:=L x.nm<L z\/x.nd.dep≠0\/¬x.nd.nm.toList= []) (fun h=>h.elim h1 (fun h=>h.elim (fun e=>e h2) (fun e=>e h3)))).symm);by_cases hi0:i=0
  case pos=>
   have j5:decide (0<i)=false:=decide_eq_false (by omega);have j6:¬0<i:=by omega
   have n3:=hQq (HEM.out hi0).2;clear hi0;by_cases n4:x.nd.dep=0
   case neg=>
    have q6:(x.nd.dep != 0)=true:=bne_iff_ne.2 n4;have N:=hQq n4;clear n4;go_wp2_with fail
    go_quiet (fail)
    go_wp2_with fail;go_meet;exact⟨HD2.out N.out,eDn _ _⟩
   have q6:(x.nd.dep != 0)=false:=bne_eq_false_iff_eq.2 n4;have N4:=hQq n4;by_cases n5:x.nd.nm.toList= []
   case neg=>
    have q7:x.nd.nm.toList.isEmpty=false:=by simpa using n5
    have N:=hQq n5;clear n5;go_wp2_with fail
    go_quiet (fail)
    go_wp2_with fail;go_meet;exact⟨HD3.out N.out,eDn _ _⟩
   have q7:x.nd.nm.toList.isEmpty=true:=by rw[n5];rfl
   have N:=hQq n5;clear n5;go_wp2_with fail
   go_quiet (fail)
   go_wp2_with fail;go_meet;exact⟨HD4.out n3.out N4.out N.out,eDn _ _⟩
  case neg=>
   obtain⟨j,hj⟩:∃j,i=j+1:=⟨i-1,by omega⟩;have jw:IntKind.i64.wrap ((i:Int)-1)=(j:Int):=(IntWalk.i64_in _ (by omega)).trans (by omega);have j2:((j:Nat):Int)<(d.ens.length:Int):=by omega
   have j3:(0:Int)<=(j:Int):=by omega
   have j4:0<i:=by omega
   have j5:decide (0<i)=true:=decide_eq_true j4;have k0:=HPV.out j hj wc HC.out;clear hj hi0;by_cases n3:L x.nm<L z
   case pos=>
    have q5:Op.bytesLess z.toList x.nm.toList=false:=zD7 (fun h=>absurd (List.lt_trans n3 h) (List.lt_irrefl _));have N:=hQq n3;clear n3;go_wp2_with fail
    go_quiet (fail)
    go_wp2_with fail;go_meet;exact⟨HD1.out N.out,eDn _ _⟩
   have q5:Op.bytesLess z.toList x.nm.toList=true:=zEP (zG8 (fun e=>N2.out e.symm) n3);have N3:=hQq n3;clear n3;by_cases n4:x.nd.dep=0
   case neg=>
    have q6:(x.nd.dep != 0)=true:=bne_iff_ne.2 n4;have N:=hQq n4;clear n4;go_wp2_with fail
    go_quiet (fail)
    go_wp2_with fail;go_meet;exact⟨HD2.out N.out,eDn _ _⟩
   have q6:(x.nd.dep != 0)=false:=bne_eq_false_iff_eq.2 n4;have N4:=hQq n4;by_cases n5:x.nd.nm.toList= []
   case neg=>
    have q7:x.nd.nm.toList.isEmpty=false:=by simpa using n5
    have N:=hQq n5;clear n5;go_wp2_with fail
    go_quiet (fail)
    go_wp2_with fail;go_meet;exact⟨HD3.out N.out,eDn _ _⟩
   have q7:x.nd.nm.toList.isEmpty=true:=by rw[n5];rfl
   have N:=hQq n5;clear n5;go_wp2_with fail
   go_quiet (fail)
   go_wp2_with fail;go_meet;exact⟨HD4.out N3.out N4.out N.out,eDn _ _⟩
 case rest=>
 obtain⟨rfl,hE⟩:=hcut;clear f3 x0 y0 y1;replace B4:=hQq (bX hE B4.out);replace B12:=hQq (bX hE B12.out);replace B8:=hQq (bX hE B8.out);replace HC:=hQq (HC.out.trans hE);clear hE;have HBD:=hQq (fun (e:zEl d.opq z x=6)=>HENT.out.trans e);by_cases hbad:L x.nm<L z\/x.nd.dep≠0\/¬x.nd.nm.toList= []
 case pos=>
  have HX:=hQq (HBD.out (zHd N1.out N2.out hbad));rw[decide_eq_true hbad];clear hbad;go_wp2;go_ret;exact⟨by rw[HX.out];rfl,HC.out⟩
 rw[decide_eq_false hbad];have N3:Hid (¬L x.nm<L z):=hQq (fun h=>hbad (.inl h));have N4:Hid (x.nd.dep=0):=hQq (Decidable.not_not.1 fun h=>hbad (.inr (.inl h)));have N5:Hid (x.nd.nm.toList= []):=hQq (Decidable.not_not.1 fun h=>hbad (.inr (.inr h)));clear hbad HBD q3 q4;obtain⟨y0,y1,y2,y3,y4,y5,y6,y7⟩:=b8C B8.out;have HI:=hQq (zE9 (HVA.out.ext HC.out));have HS:=hQq (zIy (x:=x.nd) (fun a h=>by have:=HSX.out.2.1 a h;omega) (by have:=HSX.out.2.2;omega));go_wp2_with fail
 refine(zEz wc.heap.size _ [zCb,zCh x.nd] _ (zIK okT (wc.alloc _) zCb (zCh x.nd) (trC zCb (.slice none 0 0)) (trC (zCh x.nd) (.slice a6 x.nd.ats.length cap6)) (wc.heap.size+1) (by simp) ⟨_,zBp _ _ _,rfl⟩ ⟨_,HI.out.ext okA (eA _ _),rfl⟩) HS.out).mono ?_;rintro e w4 ⟨rfl,hb4⟩;have HE4:Hid (Ext wc w4):=hQq (((eA _ _).trans (eA _ _)).trans hb4);have HB3:Hid (Ext w w4):=hQq (HC.out.trans HE4.out);have x9:=bC (bX HE4.out B12.out) 9;have x10:=bC (bX HE4.out B12.out) 10;have x11:=bC (bX HE4.out B12.out) 11;have p2:=bC (bX HE4.out B4.out) 1;clear y0 y1 y2 y3 y4 y5 y6 y7 hb4;have y2:=bC (bX HE4.out B8.out) 2;have y3:=bC (bX HE4.out B8.out) 3;have y7:=bC (bX HE4.out B8.out) 7;rw[show zAt [zCb,zCh x.nd]=zCW x.nd from rfl];by_cases n6:zCW x.nd=0
 case neg=>
  have HX:Hid (zEl d.opq z x=zCW x.nd):=hQq (zKL N1.out N2.out N3.out N4.out N5.out n6);have q9:(zCW x.nd != 0)=true:=bne_iff_ne.2 n6;clear n6;go_wp2;go_ret;exact⟨by rw[HENT.out,HX.out];rfl,HB3.out⟩
 have q9:(zCW x.nd != 0)=false:=bne_eq_false_iff_eq.2 n6;replace HENT:Hid (zFA d.opq d.ens i=zAY d.opq x):=hQq (HENT.out.trans (zF2 N1.out N2.out N3.out N4.out N5.out n6));clear n6 HVA HSX HI HS B4 B8 B12 HE HSM HPV HZ0 HEM HG;by_cases t1:x.nd.cl<0
 case pos=>
  have HX:Hid (zAY d.opq x=6):=hQq (zEV (by omega));go_wp2
  all_goals
   go_ret;exact⟨by rw[HENT.out,HX.out];rfl,HB3.out⟩
 by_cases t2:0<x.nd.cl
 case pos=>
  have s2:decide (0<x.nd.cl)=true:=decide_eq_true t2;have s2':(x.nd.cl==0)=false:=nB (by omega);by_cases t3:x.ns<=1
  case pos=>
   have s3:decide (x.ns<=1)=true:=decide_eq_true t3;have HX:Hid (zAY d.opq x=6):=hQq (zEV (by omega));go_wp2
   all_goals
    go_ret;exact⟨by rw[HENT.out,HX.out];rfl,HB3.out⟩
  have s3:decide (x.ns<=1)=false:=decide_eq_false t3;have s4:¬x.ns<1:=by omega
  by_cases t5:x.nd.kd=1
  case pos=>
   have s5:(x.nd.kd==1)=true:=beq_iff_eq.2 t5;have s6:(x.nd.kd==5)=false:=nB (by omega);by_cases t7:0<x.nd.ats.length
   case pos=>
    have s7:=zSv t7;have HX:Hid (zAY d.opq x=6):=hQq (zAE (by omega) (by omega) (by simp[zBn,t5,t7]));go_wp2
    all_goals
     go_ret;exact⟨by rw[HENT.out,HX.out];rfl,HB3.out⟩
   have s7:=zSu t7;have HX:Hid (zAY d.opq x=6):=hQq (zAE (by omega) (by omega) (by simp[zBn,t5,t2]));go_wp2
   all_goals
    go_ret;exact⟨by rw[HENT.out,HX.out];rfl,HB3.out⟩
  have s5:(x.nd.kd==1)=false:=nB t5;by_cases t6:x.nd.kd=5
  case pos=>
   have s6:(x.nd.kd==5)=true:=beq_iff_eq.2 t6;have HX:Hid (zAY d.opq x=6):=hQq (zAE (by omega) (by omega) (by simp[zBn,t6,t2]));go_wp2
   all_goals
    go_ret;exact⟨by rw[HENT.out,HX.out];rfl,HB3.out⟩
  have s6:(x.nd.kd==5)=false:=nB t6;cases t8:x.wh
  case true=>
   have HX:Hid (zAY d.opq x=6):=hQq (zAE (by omega) (by omega) (by simp[zBn,t6,t8]));go_wp2
   all_goals
    go_ret;exact⟨by rw[HENT.out,HX.out];rfl,HB3.out⟩
  have t9:(x.ns==1)=false:=nB (by omega);cases t10:x.fi
  all_goals
   have HX:Hid (zAY d.opq x=0):=hQq (zCM (by omega) (by omega) (by simp[zBn,t5,t6,t8,t10,t9]));go_wp2
   all_goals
    go_ret;exact⟨by rw[HENT.out,HX.out];rfl,HB3.out⟩
 have s2:decide (0<x.nd.cl)=false:=decide_eq_false t2;have t2':x.nd.cl=0:=by omega
 have s2':(x.nd.cl==0)=true:=beq_iff_eq.2 t2';by_cases t3:1<x.ns
 case pos=>
  have s3:decide (1<x.ns)=true:=decide_eq_true t3;have HX:Hid (zAY d.opq x=6):=hQq (zEV (by omega));go_wp2
  all_goals
   go_ret;exact⟨by rw[HENT.out,HX.out];rfl,HB3.out⟩
 have s3:decide (1<x.ns)=false:=decide_eq_false t3;by_cases t4:x.ns<1
 case pos=>
  have HX:Hid (zAY d.opq x=7):=hQq (zO8 (by omega) t4);go_wp2
  all_goals
   go_ret;exact⟨by rw[HENT.out,HX.out];rfl,HB3.out⟩
 have t9:x.ns=1:=by omega
 have s9:(x.ns==1)=true:=beq_iff_eq.2 t9;by_cases t5:x.nd.kd=1
 case pos=>
  have s5:(x.nd.kd==1)=true:=beq_iff_eq.2 t5;have s6:(x.nd.kd==5)=false:=nB (by omega);by_cases t7:0<x.nd.ats.length
  case pos=>
   have s7:=zSv t7;have HX:Hid (zAY d.opq x=6):=hQq (zAE (by omega) (by omega) (by simp[zBn,t5,t7]));go_wp2
   all_goals
    go_ret;exact⟨by rw[HENT.out,HX.out];rfl,HB3.out⟩
  have s7:=zSu t7;cases t8:x.wh
  case true=>
   have HX:Hid (zAY d.opq x=6):=hQq (zAE (by omega) (by omega) (by simp[zBn,t5,t8]));go_wp2
   all_goals
    go_ret;exact⟨by rw[HENT.out,HX.out];rfl,HB3.out⟩
  cases t10:x.fi
  case false=>
   have HX:Hid (zAY d.opq x=6):=hQq (zAE (by omega) (by omega) (by simp[zBn,t5,t8,t9,t10]));go_wp2
   all_goals
    go_ret;exact⟨by rw[HENT.out,HX.out];rfl,HB3.out⟩
  have HX:Hid (zAY d.opq x=0):=hQq (zCM (by omega) (by omega) (by simp[zBn,t5,t2,t7,t8,t10]));go_wp2
  all_goals
   go_ret;exact⟨by rw[HENT.out,HX.out];rfl,HB3.out⟩
 have s5:(x.nd.kd==1)=false:=nB t5;by_cases t6:x.nd.kd=5
 case pos=>
  have s6:(x.nd.kd==5)=true:=beq_iff_eq.2 t6;cases t7:d.opq
  case true=>
   rw[t7]at p2;have HX:Hid (zAY d.opq x=6):=hQq (zAE (by omega) (by omega) (by simp[zBn,t6,t7]));go_wp2
   all_goals
    go_ret;exact⟨by rw[HENT.out,HX.out];rfl,HB3.out⟩
  rw[t7]at p2;cases t8:x.wh
  case false=>
   have HX:Hid (zAY d.opq x=6):=hQq (zAE (by omega) (by omega) (by simp[zBn,t6,t8]));go_wp2
   all_goals
    go_ret;exact⟨by rw[HENT.out,HX.out];rfl,HB3.out⟩
  cases t10:x.fi
  case false=>
   have HX:Hid (zAY d.opq x=6):=hQq (zAE (by omega) (by omega) (by simp[zBn,t6,t8,t9,t10]));go_wp2
   all_goals
    go_ret;exact⟨by rw[HENT.out,HX.out];rfl,HB3.out⟩
  have HX:Hid (zAY d.opq x=0):=hQq (zCM (by omega) (by omega) (by simp[zBn,t6,t2,t7,t8,t10]));go_wp2
  all_goals
   go_ret;exact⟨by rw[HENT.out,HX.out];rfl,HB3.out⟩
 have s6:(x.nd.kd==5)=false:=nB t6;cases t8:x.wh
 case true=>
  have HX:Hid (zAY d.opq x=6):=hQq (zAE (by omega) (by omega) (by simp[zBn,t6,t8]));go_wp2
  all_goals
   go_ret;exact⟨by rw[HENT.out,HX.out];rfl,HB3.out⟩
 cases t10:x.fi
 case false=>
  have HX:Hid (zAY d.opq x=6):=hQq (zAE (by omega) (by omega) (by simp[zBn,t9,t10]));go_wp2
  all_goals
   go_ret;exact⟨by rw[HENT.out,HX.out];rfl,HB3.out⟩
 have HX:Hid (zAY d.opq x=0):=hQq (zCM (by omega) (by omega) (by simp[zBn,t5,t6,t8,t10]));go_wp2
 all_goals
  go_ret;exact⟨by rw[HENT.out,HX.out];rfl,HB3.out⟩
theorem zDX (B:Nat)(w:World)(v:Value)(d:DiN)(hd:zBA B w v d)(hsm:zDR d):
  zAs Tryz.prog 47 #[v] w (.tuple #[.int .i64 (zNk d),.int .i64 (zCs d)]):=by
 unfold zAs;have HD:=hQq hd;obtain⟨va,vr,ve,rfl,ha,hr,he⟩:=hd;have HA:=hQq ha.attrs;have HRS:=hQq hr.strs;have HSM:=hQq hsm;obtain⟨a3,cap3,rfl⟩:=ha.form;obtain⟨a4,cap4,rfl⟩:=hr.form;obtain⟨a5,cap5,rfl⟩:=he.form;have hlen:=hsm.len;clear ha hr he hsm;have HM1:Hid (∀a∈d.ats,a.1.size<=1000000/\a.2.size<=1000000):=hQq (fun a h=>by have:=HSM.out.ats a h;omega);have HM2:=hQq HSM.out.red;by_cases e1:zBS d.ats=0
 case neg=>
  have HX:=hQq (zAW (zNj e1));have q1:(zBS d.ats==0)=false:=nB e1;have q2:(zBS d.ats != 0)=true:=bne_iff_ne.2 e1;clear e1;go_enter Tryz.func47,Tryz.ntmps47;go_wp2_with (go_at_call 91;refine(zBK _ d.ats _ (HA.out.ext (eA _ _)) HM1.out).mono ?_;rintro e w1 ⟨rfl,hb1⟩;have k1:=bC (zNy hb1) 1;have k2:=bC (zNy hb1) 2;have HB1:=hQq hb1;clear hb1)
  go_ret2;exact⟨by rw[HX.out.1,HX.out.2];rfl,(eA _ _).trans HB1.out⟩
 have E1:=hQq e1;by_cases e2:d.opq=true/\0<d.red.length
 case pos=>
  have HX:=hQq (zAW (zKR E1.out e2.1 e2.2));obtain⟨f1,f2⟩:=e2;have f3:=zSv f2;have f4:decide (0<d.red.length)=true:=decide_eq_true f2;go_enter Tryz.func47,Tryz.ntmps47;go_wp2_with (go_at_call 91;refine(zBK _ d.ats _ (HA.out.ext (eA _ _)) HM1.out).mono ?_;rintro e w1 ⟨rfl,hb1⟩;have k1:=bC (zNy hb1) 1;have k2:=bC (zNy hb1) 2;have HB1:=hQq hb1;clear hb1)
  go_ret2;exact⟨by rw[HX.out.1,HX.out.2];rfl,(eA _ _).trans HB1.out⟩
 have E2:=hQq e2;clear e2;go_enter Tryz.func47,Tryz.ntmps47;go_upto_region 2 with (go_at_call 91;refine(zBK _ d.ats _ (HA.out.ext (eA _ _)) HM1.out).mono ?_;rintro e w1 ⟨rfl,hb1⟩;rw[E1.out];have k1:=bC (zNy hb1) 1;have k2:=bC (zNy hb1) 2;have k3:=bC (zNy hb1) 3;have HB1:=hQq hb1;clear hb1)
 clear e1;go_cut [20] (fun s wx=>s= .bool false/\wx=w1)
 case first=>
  by_cases f1:d.opq=true
  case neg=>
   rw[Bool.eq_false_iff.2 f1]at k1;go_wp2_with fail;go_meet;exact⟨rfl,rfl⟩
  case pos=>
   rw[f1]at k1;have f2:¬0<d.red.length:=fun h=>E2.out ⟨f1,h⟩;have f3:=zSu f2;go_wp2_with fail;go_meet;exact⟨rfl,rfl⟩
 case rest=>
 obtain⟨rfl,rfl⟩:=hcut;have HRX:=hQq (HRS.out.ext ((eA _ _).trans HB1.out));have HE1:=hQq ((eA _ _).trans HB1.out);have HBX:=hQq (zNy HB1.out);by_cases e3:zAR d.red=0
 case neg=>
  have HX:=hQq (zAW (zKP E1.out E2.out e3));have q2:(zAR d.red != 0)=true:=bne_iff_ne.2 e3;have q3:(zAR d.red==0)=false:=nB e3;clear e3;go_wp2_with (go_at_call 96;refine(zCY _ d.red _ HRX.out HM2.out).mono ?_;rintro e w2 ⟨rfl,rfl⟩)
  go_ret2;exact⟨by rw[HX.out.1,HX.out.2];rfl,HE1.out⟩
 have E3:=hQq e3;by_cases hl24:24<d.ens.length
 case pos=>
  have HX:=hQq (zAW (zKQ E1.out E2.out E3.out hl24));have q4:decide ((24:Int)<(d.ens.length:Int))=true:=decide_eq_true (by omega);go_wp2_with (go_at_call 96;refine(zCY _ d.red _ HRX.out HM2.out).mono ?_;rintro e w2 ⟨rfl,rfl⟩;rw[E3.out])
  go_ret2;exact⟨by rw[HX.out.1,HX.out.2];rfl,HE1.out⟩
 have q4:decide ((24:Int)<(d.ens.length:Int))=false:=decide_eq_false (by omega);go_wp2_with (go_at_call 96;refine(zCY _ d.red _ HRX.out HM2.out).mono ?_;rintro e w2 ⟨rfl,rfl⟩;rw[E3.out])
 clear e3;go_loopw [4,5] (fun _ i w'=>∃(wi:World) (k:Nat),wi=w'/\k<=d.ens.length/\i= .int .i64 k/\(∀j,j<k->zFA d.opq d.ens j=0)/\Ext wc wi) (fun _ i _=>d.ens.length-(intOf i).toNat)
 case atStart=>exact⟨_,0,rfl,Nat.zero_le _,rfl,fun j hj=>absurd hj (by omega),bR _ _⟩
 case round=>
  clear k1 k2 k3;obtain⟨wi,k,rfl,hk,rfl,hok,hE⟩:=hrel;have HOK:=hQq hok;have HEI:=hQq hE;obtain⟨k0,k1,k2,k3⟩:=b4C (bX hE HBX.out);clear hok hE;by_cases hlt:k<d.ens.length
  case neg=>
   obtain rfl:k=d.ens.length:=by omega
   have HX:=hQq (zAW (zHX E1.out E2.out E3.out hl24 HOK.out));go_wp2;go_ret2;exact⟨by rw[HX.out.1,HX.out.2];rfl,HE1.out.trans HEI.out⟩
  have j1:((k:Nat):Int)<(d.ens.length:Int):=by omega
  by_cases n1:zFA d.opq d.ens k=0
  case neg=>
   have HR:=hQq (zAW (zAP E1.out E2.out E3.out hl24 hlt HOK.out n1));have q5:(zFA d.opq d.ens k != 0)=true:=bne_iff_ne.2 n1;clear n1;go_wp2_with (go_at_call 114;refine(zIA B _ _ d k (HD.out.ext (HE1.out.trans HEI.out)) HSM.out hlt).mono ?_;rintro e w3 ⟨rfl,hb3⟩;have HB3:=hQq hb3;clear hb3)
   go_ret2;exact⟨by rw[HR.out.1,HR.out.2];rfl,(HE1.out.trans HEI.out).trans HB3.out⟩
  have HN:=hQq (zHp HOK.out n1);have q5:(zFA d.opq d.ens k != 0)=false:=bne_eq_false_iff_eq.2 n1;clear n1;go_wp2_with (go_at_call 114;refine(zIA B _ _ d k (HD.out.ext (HE1.out.trans HEI.out)) HSM.out hlt).mono ?_;rintro e w3 ⟨rfl,hb3⟩;have HB3:=hQq hb3;clear hb3)
  go_roundw
  case rel=>exact⟨_,k+1,rfl,by omega,by go_num,HN.out,HEI.out.trans HB3.out⟩
  case measure=>simp[intOf]<;>omega
theorem zPp {α:Type}{key:α->ByteArray}:∀(l:List α) (x:α) (k:Nat),k<=l.length->(∀j (h:j<l.length),j<k->L (key (l[j]'h))<L (key x))->(∀h:k<l.length,¬L (key (l[k]'h))<L (key x))->zDY key l x=l.take k++ [x]++l.drop k
 | [],x,k,hk,_,_=>by
  cases k with
  | zero=>rfl
  | succ k=>exact absurd hk (by simp)
 | a :: r,x,0,_,_,h=>by
  have h0:¬L (key a)<L (key x):=h (by simp);unfold zDY;rw[if_neg h0];rfl
 | a :: r,x,k+1,hk,h1,h2=>by
  have h0:L (key a)<L (key x):=h1 0 (by simp) (by omega);unfold zDY;rw[if_pos h0,zPp r x k (by simpa using hk) (fun j hj hjk=>h1 (j+1) (by simpa using hj) (by omega)) (fun h=>h2 (by simpa using h))];rfl
theorem zUq {P:Program}{α:Type}{C:Cd α}{B N:Nat}{o:Oper}{a:Act}{Kx:Act->World->Prop}{Q:Exit->Act->World->Prop}(K:zEq P C)(s x:Operand)(ho:o.op= .call {callee:=.builtin .append,args:=#[s,x],argTypes:=#[C.t,C.t]})
  (v xv:Value) (l1 l2:List α) (W0 w:World) (hs:a.eval s=v) (hx:a.eval x=xv) (h1:zAg C B w v l1) (hf:∀g,v.ownBlock=some g->N<=g) (h2:zAh C B w xv l2) (hb:Below N W0 w) (hB:B<=w.heap.size) (hN:N<=w.heap.size) (hl:l1.length+l2.length<=1000000)
  (h:∀v' w',zYw C B N W0 (l1++l2) v' w'->Kx (a.put o.dst v') w'):o.wp P a w Kx Q:=by
 obtain⟨v',w',hr,h3,h4,h5,_⟩:=zFO K o.type v xv l1 l2 w h1 h2 hB hl;unfold Oper.wp execOp;simp only[ho,resolve,invoke,builtin,Sem.run_bind,Sem.run_pure,Result.andThen_ok,List.map_toArray,List.map_cons,List.map_nil,hs,hx,hr];refine h v' w' ⟨h3,fun g hg=>?_,hb.grown h4 hN hf⟩;rcases h5 with h5|h5
 ·exact hf g (by rw[<- h5];exact hg)
 ·rw[hg]at h5;cases h5;exact hN
theorem zRM {P:Program}{α:Type}{C:Cd α}{B N:Nat}{o:Oper}{a:Act}{Kx:Act->World->Prop}{Q:Exit->Act->World->Prop}(K:zEq P C){ops:Array Oper}{E:Prop}(hgd:o.guard=none)(s x:Operand)(ho:o.op= .call {callee:=.builtin .append,args:=#[s,x],argTypes:=#[C.t,C.t]})
  (v xv:Value) (l1 l2:List α) (W0 w:World) (hs:a.eval s=v) (hx:a.eval x=xv) (h1:zAg C B w v l1) (hf:∀g,v.ownBlock=some g->N<=g) (h2:zAh C B w xv l2) (hb:Below N W0 w) (hB:B<=w.heap.size) (hN:N<=w.heap.size) (hl:l1.length+l2.length<=1000000)
  (h:∀v' w',zYw C B N W0 (l1++l2) v' w'->Kx (a.put o.dst v') w'):if Region.wanted o (yielded ops a.tmps)=true then Oper.wp P o a w Kx Q else E:=by
 have hw:Region.wanted o (yielded ops a.tmps)=true:=by simp[Region.wanted,hgd]
 rw[if_pos hw];exact zUq K s x ho v xv l1 l2 W0 w hs hx h1 hf h2 hb hB hN hl h
section
variable {P:Program} {α:Type} {C:Cd α} {B:Nat} {w:World} {ad:Addr} {cap:Nat} {l:List α}
theorem zLG (h:zAh C B w (.slice (some ad) l.length cap) l)(k:Nat)(hk:k<=l.length):zAh C B w (.slice (some ad) k cap) (l.take k):=by
 obtain⟨a,cap',he,hcap,hn,hc⟩:=h;cases he;have hl:(l.take k).length=k:=by rw[List.length_take];omega
 refine⟨some ad,cap,by rw[hl],by omega,fun h0 b hb=>hn (Nat.lt_of_lt_of_le (show 0<k from h0) hk) b hb,fun i hi=>?_⟩;obtain⟨b,off,cs,h1,h2,h3,h4⟩:=hc i (by omega);exact⟨b,off,cs,h1,h2,by rw[List.getElem_take];exact h3,h4⟩
end
theorem zTz (nm:ByteArray)(w:World):zAs Tryz.prog 49 #[.string nm] w (deV (mkN nm) (.slice none 0 0)):=by
 unfold zAs;go_enter Tryz.func49,Tryz.ntmps49;go_wp2;refine bodyPost_ret (v:=deV (mkN nm) (.slice none 0 0)) (by simp[results,Tryz.f49,go_sem];exact⟨rfl,rfl,rfl,rfl,rfl,rfl,rfl,rfl,rfl,rfl,rfl⟩) rfl ?_;exact⟨rfl,eA _ _⟩
theorem zRX (B:Nat)(w:World)(v va:Value)(l:List DeN)(x:DeN)(hv:zRy B w v l)(hx:zAH B w va x.nd.ats)(hB:B<=w.heap.size)(hl:l.length<=1000):
  Calls Tryz.prog 51 #[v,deV x va] w (fun e w'=>(∃a cap,e= .returned (.slice a (zDY DeN.nm l x).length cap)/\zAg cdE B w' (.slice a (zDY DeN.nm l x).length cap) (zDY DeN.nm l x))/\Ext w w'):=by
 obtain⟨a,cap,rfl⟩:=hv.form;obtain⟨a3,cap3,rfl⟩:=hx.form;have HV:=hQq hv;have HX:=hQq hx;clear hv hx
 cases a with
 | none=>
  have h0:=HV.out.zero ⟨_,_,rfl⟩;subst h0;go_enter Tryz.func51,Tryz.ntmps51;go_upto_region 1 with (fail)
  refine nW (P:=fun W=>Code.wp _ _ _ _ W) _ ?_;intro W1 hW1;have QB:Hid (W1.heap[w.heap.size]? = some (.cells #[.string x.nm,.int .i64 x.nd.dep,.string x.nd.nm,.int .i64 x.nd.kd,.slice a3 x.nd.ats.length cap3,.string x.nd.dat,.int .i64 x.nd.ma,.int .i64 x.nd.mi,.int .i64 x.nd.cl,.bool x.wh,.bool x.fi,.int .i64 x.ns] 66 (0,0))):=hQq (by rw[hW1];exact bN _ _);have HW:=hQq (show Ext w W1 by rw[hW1];exact eA _ _);clear hW1;go_wp2;go_loopw [5] (fun i w'=>∃wi:World,wi=w'/\i= .int .i64 0/\Ext W1 wi) (fun _ _=>0)
  case atStart=>exact⟨_,rfl,rfl,bR _ _⟩
  case round=>
   obtain⟨wi,rfl,rfl,hE⟩:=hrel;have HEI:=hQq hE;have QI:=hQq (bX hE QB.out);have k0:=bC QI.out 0;have k0l:=bL QI.out;clear hE;go_wp2;go_quiet (fail)
   refine nW (P:=fun W=>Exit.then _ _ _ _ W) _ ?_;intro W2 hW2;have HE2:Hid (Ext W1 W2):=hQq (by rw[hW2];first|exact HEI.out.trans (eDn _ _)|exact HEI.out.trans (eD _)|exact HEI.out);clear hW2;have HTK:=hQq (show ∀V c,zRy B V (.slice none 0 c) []from fun V c=>⟨_,_,rfl,Nat.zero_le _,fun h=>absurd h (Nat.lt_irrefl _),fun j hj=>absurd hj (by simp)⟩);go_upto_region 5 with (first
    | (at_builtin;refine zWS okE rfl (.tmp 23) (.tmp 26) rfl B _ [] W2 _ rfl rfl rfl (by exact HTK.out _ _) (Nat.le_trans hB (HW.out.trans HE2.out).size) (by simp) ?_;intro v1 w1 ha;have HA:=hQq ha;clear ha)
    | fail)
   have HX1:Hid (Ext W1 w1):=hQq (HE2.out.trans HA.out.ext);have Q1:=hQq (bX HX1.out QB.out);obtain⟨b0,b1,b2,b3,b4,b5,b6,b7,b8,b9,b10,b11⟩:=zDC Q1.out;have bl:=bL Q1.out;clear k0 k0l;obtain⟨a8,c8,hv1⟩:=HA.out.own.form;subst hv1;go_region_law (first
    | (refine zRM (N:=w.heap.size) okE (by rfl) (.tmp 28) (.tmp 30) (by rfl) (.slice a8 0 c8) _ [] [x] w _ (by rfl) (by rfl) (by exact HA.out.own.ext okE (by repeat (first|exact bR _ _|refine Ext.trans ?_ (eA _ _)|refine Ext.trans ?_ (eDn _ _)|refine Ext.trans ?_ (eD _)))) (fun g hg=>Nat.le_trans (HW.out.trans HE2.out).size (HA.out.far g hg)) (by exact zAj okE _ x (deC x (.slice a3 x.nd.ats.length cap3)) _ (by simp) ⟨_,HX.out.ext okA (Ext.trans (HW.out.trans HX1.out) (by repeat (first|exact bR _ _|refine Ext.trans ?_ (eA _ _)|refine Ext.trans ?_ (eDn _ _)|refine Ext.trans ?_ (eD _)))),rfl⟩) (by exact Ext.trans (HW.out.trans HX1.out) (by repeat (first|exact bR _ _|refine Ext.trans ?_ (eA _ _)|refine Ext.trans ?_ (eDn _ _)|refine Ext.trans ?_ (eD _)))) (by have:=hB;have h2:=(HW.out.trans HX1.out).size;simp;omega) (by have h2:=(HW.out.trans HX1.out).size;simp;omega) (by simp) ?_;intro v3 w3 ha;obtain⟨a9,c9,hv3⟩:=ha.own.form;subst hv3;have HA3:=hQq ha;have HS3:=hQq ha.below.size;clear ha)
    | (refine zRM (N:=w.heap.size) okE (by rfl) (.tmp 31) (.tmp 34) (by rfl) (.slice a9 1 c9) (.slice none 0 cap) [x] [] w _ (by rfl) (by rfl) (by exact HA3.out.own.ext okE (by repeat (first|exact bR _ _|refine Ext.trans ?_ (eA _ _)|refine Ext.trans ?_ (eDn _ _)|refine Ext.trans ?_ (eD _)))) HA3.out.far (by exact HTK.out _ _) (by exact Ext.trans HA3.out.below (by repeat (first|exact bR _ _|refine Ext.trans ?_ (eA _ _)|refine Ext.trans ?_ (eDn _ _)|refine Ext.trans ?_ (eD _)))) (by have:=hB;have h2:=HS3.out;simp;omega) (by have h2:=HS3.out;simp;omega) (by simp) ?_;intro v4 w4 ha;have HA4:=hQq ha;clear ha)
    | fail)
   obtain⟨a10,c10,hv4⟩:=HA4.out.own.form;subst hv4;go_wp2;go_ret;exact⟨⟨_,_,rfl,HA4.out.own⟩,HA4.out.below⟩
 | some ad=>
 obtain⟨ab,ao,asp⟩:=ad;have HCAP:Hid (l.length<=cap):=hQq (by obtain⟨_,_,e,h,_⟩:=HV.out;cases e;exact h);go_enter Tryz.func51,Tryz.ntmps51;go_upto_region 1 with (fail)
 refine nW (P:=fun W=>Code.wp _ _ _ _ W) _ ?_;intro W1 hW1;have QB:Hid (W1.heap[w.heap.size]? = some (.cells #[.string x.nm,.int .i64 x.nd.dep,.string x.nd.nm,.int .i64 x.nd.kd,.slice a3 x.nd.ats.length cap3,.string x.nd.dat,.int .i64 x.nd.ma,.int .i64 x.nd.mi,.int .i64 x.nd.cl,.bool x.wh,.bool x.fi,.int .i64 x.ns] 66 (0,0))):=hQq (by rw[hW1];exact bN _ _);have HW:=hQq (show Ext w W1 by rw[hW1];exact eA _ _);clear hW1;go_wp2;go_loopw [5] (fun i w'=>∃(wi:World) (k:Nat),wi=w'/\k<=l.length/\i= .int .i64 k/\(∀j (h:j<l.length),j<k->L (l[j]'h).nm<L x.nm)/\Ext W1 wi) (fun i _=>l.length-(intOf i).toNat)
 case atStart=>exact⟨_,0,rfl,Nat.zero_le _,rfl,fun j _ hj=>absurd hj (by omega),bR _ _⟩
 case round=>
  obtain⟨wi,k,rfl,hk,rfl,hok,hE⟩:=hrel;have HOK:=hQq hok;have HI:=hQq (HW.out.trans hE);have HEI:=hQq hE;have QI:=hQq (bX hE QB.out);have k0:=bC QI.out 0;have k0l:=bL QI.out;clear hok hE;by_cases hgo:∃h:k<l.length,L (l[k]'h).nm<L x.nm
  case pos=>
   obtain⟨hlt,hls⟩:=hgo;obtain⟨b,off,vx,hex,hbx,hva,c0,c1,c2,c3,c4,c5,c6,c7,c8,c9,c10,c11⟩:=(HV.out.ext okE HI.out).en k hlt;cases hex;have HG:Hid (∀j (h:j<l.length),j<k+1->L (l[j]'h).nm<L x.nm):=hQq (fun j h hj=>by
    by_cases e:j=k
    ·subst e;exact hls
    ·exact HOK.out j h (by omega))
   have hbl:=zEP hls;generalize l[k]'hlt=y at c0 hbl;have j1:((k:Nat):Int)<(l.length:Int):=by omega
   have j0:(0:Int)<=(k:Int):=by omega
   clear hva c1 c2 c3 c4 c5 c6 c7 c8 c9 c10 c11 hls;go_wp2;go_quiet (fail)
   go_wp2;go_roundw
   case rel=>exact⟨_,k+1,rfl,by omega,by go_num,HG.out,HEI.out.trans (by first|exact bR _ _|exact eD _|exact eDn _ _)⟩
   case measure=>simp[intOf]<;>omega
  have HPUT:Hid (zDY DeN.nm l x=l.take k++ [x]++l.drop k):=hQq (zPp l x k hk HOK.out (fun h h2=>hgo ⟨h,h2⟩));have HPL:Hid ((zDY DeN.nm l x).length=k+1+(l.length-k)):=hQq (by rw[HPUT.out];simp;omega);obtain⟨a5,ha5⟩:∃a5:Option Addr,a5=(if cap=k then some (⟨ab,ao,asp⟩:Addr)else some ((⟨ab,ao,asp⟩:Addr).add (k*12))):=⟨_,rfl⟩;have hfa5:(if cap=k then some ({block:=ab,off:=ao,spot:=asp}:Addr)else some (({block:=ab,off:=ao,spot:=asp}:Addr).add (k*12)))=a5:=ha5.symm;have HDR:=hQq (fun V (h:Ext w V)=>zHG (HV.out.ext okE h) k hk (a5:=a5) ha5);clear ha5;by_cases hlt:k<l.length;case' pos=>
   obtain⟨b,off,vx,hex,hbx,hva,c0,c1,c2,c3,c4,c5,c6,c7,c8,c9,c10,c11⟩:=(HV.out.ext okE HI.out).en k hlt;cases hex;have hbl:=zD7 (fun h2=>hgo ⟨hlt,h2⟩);have hfa6:(if cap=k then some ({block:=ab,off:=ao,spot:=none}:Addr)else some {block:=ab,off:=ao+k*12,spot:=none})=a5:=by rw[Addr.add_lit]at hfa5;exact hfa5
   generalize l[k]'hlt=y at c0 hbl;have j1:((k:Nat):Int)<(l.length:Int):=by omega
   have j0:(0:Int)<=(k:Int):=by omega
   clear hva c1 c2 c3 c4 c5 c6 c7 c8 c9 c10 c11
  case' neg=>
   have j1:¬((k:Nat):Int)<(l.length:Int):=by omega
   have j2:decide (((k:Nat):Int)<(l.length:Int))=false:=decide_eq_false j1
  all_goals
   have hi2:(k:Int)<=(cap:Int):=by have:=HCAP.out;omega
   have hi3:(k:Int)<=(l.length:Int):=by omega
   have hi4:(0:Int)<=(k:Int):=by omega
   have hi5:(l.length:Int)<=(cap:Int):=by have:=HCAP.out;omega
   clear hgo;go_wp2;go_quiet (fail)
   refine nW (P:=fun W=>Exit.then _ _ _ _ W) _ ?_;intro W2 hW2;have HE2:Hid (Ext W1 W2):=hQq (by rw[hW2];first|exact HEI.out.trans (eDn _ _)|exact HEI.out.trans (eD _)|exact HEI.out);clear hW2;have HTK:=hQq (zLG (HV.out.ext okE (HW.out.trans HE2.out)) k hk);go_upto_region 5 with (first
    | (at_builtin;refine zWS okE rfl (.tmp 23) (.tmp 26) rfl B _ (l.take k) W2 _ rfl rfl rfl (by exact HTK.out) (Nat.le_trans hB (HW.out.trans HE2.out).size) (by rw[List.length_take];omega) ?_;intro v1 w1 ha;have HA:=hQq ha;clear ha)
    | fail)
   have HX1:Hid (Ext W1 w1):=hQq (HE2.out.trans HA.out.ext);have Q1:=hQq (bX HX1.out QB.out);obtain⟨b0,b1,b2,b3,b4,b5,b6,b7,b8,b9,b10,b11⟩:=zDC Q1.out;have bl:=bL Q1.out;clear k0 k0l;have HTL:Hid ((l.take k).length=k):=hQq (by rw[List.length_take];omega);obtain⟨a8,c8,hv1⟩:=HA.out.own.form;rw[HTL.out]at hv1;subst hv1;have HTL3:Hid ((l.take k++ [x]).length=k+1):=hQq (by rw[List.length_append,HTL.out];rfl);go_region_law (first
    | (refine zRM (N:=w.heap.size) okE (by rfl) (.tmp 28) (.tmp 30) (by rfl) (.slice a8 k c8) _ (l.take k) [x] w _ (by rfl) (by rfl) (by exact HA.out.own.ext okE (by repeat (first|exact bR _ _|refine Ext.trans ?_ (eA _ _)|refine Ext.trans ?_ (eDn _ _)|refine Ext.trans ?_ (eD _)))) (fun g hg=>Nat.le_trans (HW.out.trans HE2.out).size (HA.out.far g hg)) (by exact zAj okE _ x (deC x (.slice a3 x.nd.ats.length cap3)) _ (by simp) ⟨_,HX.out.ext okA (Ext.trans (HW.out.trans HX1.out) (by repeat (first|exact bR _ _|refine Ext.trans ?_ (eA _ _)|refine Ext.trans ?_ (eDn _ _)|refine Ext.trans ?_ (eD _)))),rfl⟩) (by exact Ext.trans (HW.out.trans HX1.out) (by repeat (first|exact bR _ _|refine Ext.trans ?_ (eA _ _)|refine Ext.trans ?_ (eDn _ _)|refine Ext.trans ?_ (eD _)))) (by have:=hB;have h2:=(HW.out.trans HX1.out).size;simp;omega) (by have h2:=(HW.out.trans HX1.out).size;simp;omega) (by have:=HTL.out;simp;omega) ?_;intro v3 w3 ha;obtain⟨a9,c9,hv3⟩:=ha.own.form;rw[HTL3.out]at hv3;subst hv3;have HA3:=hQq ha;have HS3:=hQq ha.below.size;clear ha)
    | (refine zRM (N:=w.heap.size) okE (by rfl) (.tmp 31) (.tmp 34) (by rfl) (.slice a9 (k+1) c9) (.slice a5 (l.length-k) (cap-k)) (l.take k++ [x]) (l.drop k) w _ (by rfl) (by rfl) (by exact HA3.out.own.ext okE (by repeat (first|exact bR _ _|refine Ext.trans ?_ (eA _ _)|refine Ext.trans ?_ (eDn _ _)|refine Ext.trans ?_ (eD _)))) HA3.out.far (by exact HDR.out _ (Ext.trans HA3.out.below (by repeat (first|exact bR _ _|refine Ext.trans ?_ (eA _ _)|refine Ext.trans ?_ (eDn _ _)|refine Ext.trans ?_ (eD _))))) (by exact Ext.trans HA3.out.below (by repeat (first|exact bR _ _|refine Ext.trans ?_ (eA _ _)|refine Ext.trans ?_ (eDn _ _)|refine Ext.trans ?_ (eD _)))) (by have:=hB;have h2:=HS3.out;simp;omega) (by have h2:=HS3.out;simp;omega) (by have:=HTL3.out;simp;omega) ?_;intro v4 w4 ha;have HA4:=hQq ha;clear ha)
    | fail)
   obtain⟨a10,c10,hv4⟩:=HA4.out.own.form;rw[<- HPUT.out]at hv4;subst hv4;go_wp2;go_ret;refine⟨⟨_,_,rfl,?_⟩,HA4.out.below⟩;rw[HPUT.out]at *;exact HA4.out.own
theorem zWb (s:ByteArray):(s.toList== [46,119,104,46,46,119,104,46,111,112,113])=decide (s=zDx):=by
 rw[Bool.eq_iff_iff,beq_iff_eq,decide_eq_true_iff,tL];exact⟨fun h=>zBG (h.trans (show [46,119,104,46,46,119,104,46,111,112,113]=L zDx by decide)),fun h=>by rw[h];decide⟩
theorem zUG (x:DeN)(a:Option Addr)(cap:Nat)(w:World)(hcl:x.ns=1->x.nd.cl=0):zAs Tryz.prog 126 #[deV x (.slice a x.nd.ats.length cap)] w (.bool (zFk x)):=by
 unfold zAs zFk;have e1:(x.nd.dat.toList== [])=(x.nd.dat.size==0):=by
  rw[Bool.eq_iff_iff,beq_iff_eq,beq_iff_eq,tL,zAG,List.length_eq_zero_iff]
 have e2:((x.nd.ats.length:Int)==0)=(x.nd.ats.length==0):=by rw[Bool.eq_iff_iff];simp
 go_enter Tryz.func126,Tryz.ntmps126;cases h2:x.nd.kd==2
 ·go_wp2;go_ret;exact⟨by cases (x.ns==1)<;>rfl,(eA _ _).trans (eA _ _)⟩
 cases h3:x.nd.dat.size==0
 ·rw[h3]at e1;go_wp2;go_ret;exact⟨by cases (x.ns==1)<;>rfl,(eA _ _).trans (eA _ _)⟩
 rw[h3]at e1;cases h4:x.nd.ats.length==0
 ·rw[h4]at e2;go_wp2;go_ret;exact⟨by cases (x.ns==1)<;>rfl,(eA _ _).trans (eA _ _)⟩
 rw[h4]at e2;cases h1:x.ns==1
 ·cases h5:x.nd.cl==0
  all_goals
   go_wp2;go_ret;exact⟨rfl,(eA _ _).trans (eA _ _)⟩
 have h5:(x.nd.cl==0)=true:=beq_iff_eq.2 (hcl (beq_iff_eq.1 h1));go_wp2;go_ret;exact⟨rfl,(eA _ _).trans (eA _ _)⟩
theorem zO6 (B:Nat)(w:World)(v:Value)(l:List DeN)(hv:zRy B w v l)(hl:l.length<=1000):Ret Tryz.prog 59 #[v] w (.bool (adO l)):=by
 obtain⟨aa,cap,rfl⟩:=hv.form;have HV:=hQq hv;clear hv;unfold Ret;go_enter Tryz.func59,Tryz.ntmps59;go_wp2;go_loop [3] (fun i=>∃k:Nat,i= .int .i64 k/\k<=l.length/\∀j (h:j<l.length),j<k->(l[j]'h).nm≠zDx) (fun i=>l.length-(intOf i).toNat)
 case atStart=>exact⟨0,rfl,Nat.zero_le _,fun j _ hj=>absurd hj (by omega)⟩
 case round=>
  obtain⟨k,rfl,hk,hs⟩:=hrel;have HS:=hQq hs;clear hs;by_cases hlt:k<l.length
  case neg=>
   obtain rfl:k=l.length:=by omega
   have HR:Hid (adO l=false):=hQq (by
    unfold adO;rw[List.any_eq_false];intro x hx;obtain⟨j,hj,rfl⟩:=List.getElem_of_mem hx;simpa using HS.out j hj hj)
   go_wp2;go_ret;exact⟨by rw[HR.out];rfl,rfl⟩
  obtain⟨b,off,va,hex,hbx,hva,c0,c1,c2,c3,c4,c5,c6,c7,c8,c9,c10,c11⟩:=HV.out.en k hlt;cases hex;have HG:Hid ((l[k]'hlt).nm≠zDx->∀j (h:j<l.length),j<k+1->(l[j]'h).nm≠zDx):=hQq (fun hx j h hj=>by
   by_cases e:j=k
   ·subst e;exact hx
   ·exact HS.out j h (by omega))
  have HM:=hQq (List.getElem_mem hlt);generalize l[k]'hlt=x at c0 HG HM;have j1:((k:Nat):Int)<(l.length:Int):=by omega
  have j0:(0:Int)<=(k:Int):=by omega
  have q:=zWb x.nm;clear hva c1 c2 c3 c4 c5 c6 c7 c8 c9 c10 c11;by_cases e:x.nm=zDx
  case pos=>
   have HR:Hid (adO l=true):=hQq (by unfold adO;rw[List.any_eq_true];exact⟨x,HM.out,decide_eq_true e⟩);rw[decide_eq_true e]at q;clear e;go_wp2;go_ret;exact⟨by rw[HR.out];rfl,rfl⟩
  have HN:=hQq (HG.out e);rw[decide_eq_false e]at q;clear e;go_wp2;go_round
  case rel=>exact⟨k+1,by go_num,by omega,HN.out⟩
  case measure=>simp[intOf]<;>omega
theorem zRW (u v:Value)(l:List zAq)(w:World){B:Nat}(hu:zAH B w u l)(hv:zAH B w v l)(hl:l.length<=1000000):
  zAs Tryz.prog 61 #[u,v] w (.bool true):=by
 have:=zJg u v l l w hu.attrs hv.attrs hl;rw[show decide (l=l)=true from decide_eq_true rfl]at this;exact this
theorem zIB (B B':Nat) (u v:Value) (d:DiN) (w:World) (hu:zBA B w u d) (hv:zBA B' w v d) (ha:d.ats.length<=1000000) (hr:d.red.length<=1000000) (hl:d.ens.length<=1000) (he:∀ x ∈ d.ens,x.nd.ats.length<=1000000) :
  zAs Tryz.prog 17 #[u,v] w (.bool true):=by
 unfold zAs
 obtain⟨va,vr,ve,rfl,h1,h2,h3⟩:=hu
 obtain⟨va',vr',ve',rfl,h1',h2',h3'⟩:=hv
 obtain⟨a3,cap3,rfl⟩:=h1.form
 obtain⟨a4,cap4,rfl⟩:=h2.form
 obtain⟨a5,cap5,rfl⟩:=h3.form
 obtain⟨b3,dap3,rfl⟩:=h1'.form
 obtain⟨b4,dap4,rfl⟩:=h2'.form
 obtain⟨b5,dap5,rfl⟩:=h3'.form
 have HA:=hQq h1.attrs;have HA':=hQq h1'.attrs;have HR:=hQq h2.strs;have HR':=hQq h2'.strs
 have HE:=hQq h3;have HE':=hQq h3';have HX:=hQq he
 clear h1 h2 h3 h1' h2' h3' he
 have HS1:=hQq (fun W (hW:Ext w W)=>zJg _ _ d.ats d.ats W (HA.out.ext hW) (HA'.out.ext hW) ha)
 have HS2:=hQq (fun W (hW:Ext w W)=>zMx _ _ d.red W (HR.out.ext hW) (HR'.out.ext hW) hr)
 unfold zAs at HS2
 have qb:(d.opq != d.opq)=false:=by cases d.opq <;> rfl
 go_enter Tryz.func17,Tryz.ntmps17
 go_upto_region 1 with fail
 refine nW (P:=fun W=>Code.wp _ _ _ _ W) _ ?_
 intro W hW
 have Q1:Hid (W.heap[w.heap.size]? = some (.cells #[.slice a3 d.ats.length cap3,.bool d.opq,.slice a4 d.red.length cap4,.slice a5 d.ens.length cap5] 26 (0,0))):=hQq (by rw [hW];exact bA (bN w _))
 have Q2:Hid (W.heap[w.heap.size+1]? = some (.cells #[.slice b3 d.ats.length dap3,.bool d.opq,.slice b4 d.red.length dap4,.slice b5 d.ens.length dap5] 26 (0,0))):=hQq (by rw [hW];exact zAu (by simp))
 have HW:Hid (Ext w W):=hQq (by rw [hW];exact(eA _ _).trans (eA _ _))
 clear hW
 obtain⟨k0,k1,k2,k3⟩:=b4C Q1.out
 obtain⟨m0,m1,m2,m3⟩:=b4C Q2.out
 go_wp2_with (first
  | (go_at_call 61;go_loud (refine(zRW _ _ d.ats _ (B:=W.heap.size) (zE9 (HA.out.ext HW.out)) (zE9 (HA'.out.ext HW.out)) ha).mono ?_;rintro e w1 ⟨rfl,hb1⟩;have n1:=bC (bX hb1 Q1.out) 1;have n2:=bC (bX hb1 Q1.out) 2;have n3:=bC (bX hb1 Q1.out) 3;have o1:=bC (bX hb1 Q2.out) 1;have o2:=bC (bX hb1 Q2.out) 2;have o3:=bC (bX hb1 Q2.out) 3;have HB1:=hQq hb1;clear hb1))
  | (go_at_call 62;go_loud (refine(HS2.out _ (HW.out.trans HB1.out)).mono ?_;rintro e w2 ⟨rfl,hb2⟩;have t3:=bC (bX (Ext.trans HB1.out hb2) Q1.out) 3;have s3:=bC (bX (Ext.trans HB1.out hb2) Q2.out) 3;have HB2:=hQq (Ext.trans HB1.out hb2);clear hb2))
  | fail)
 clear k0 k1 k2 k3 m0 m1 m2 m3 n1 n2 n3 o1 o2 o3 t3 s3
 go_loopw [5] (fun i w'=>∃ (wi:World) (k:Nat),wi=w'/\k<=d.ens.length/\i= .int .i64 k/\Ext W wi) (fun i _=>d.ens.length - (intOf i).toNat)
 case atStart=>exact⟨_,0,rfl,Nat.zero_le _,rfl,HB2.out⟩
 case round=>
  clear HB1 HB2
  obtain⟨wi,k,rfl,hk,rfl,hE⟩:=hrel
  have HI:=hQq hE
  have k3:=bC (bX hE Q1.out) 3
  have m3:=bC (bX hE Q2.out) 3
  have hz1:=bL (bX hE Q1.out)
  have hz2:=bL (bX hE Q2.out)
  clear hE
  by_cases hlt:k < d.ens.length
  case neg=>
   obtain rfl:k=d.ens.length:=by omega
   go_wp2
   go_ret
   exact⟨rfl,HW.out.trans HI.out⟩
  obtain⟨b,off,vx,hex,hbx,hva,c0,c1,c2,c3,c4,c5,c6,c7,c8,c9,c10,c11⟩:=(HE.out.ext okE (HW.out.trans HI.out)).en k hlt
  obtain⟨b',off',vy,hey,hby,hvb,d0,d1,d2,d3,d4,d5,d6,d7,d8,d9,d10,d11⟩:=(HE'.out.ext okE (HW.out.trans HI.out)).en k hlt
  cases hex
  cases hey
  have HXL:=hQq (HX.out _ (List.getElem_mem hlt))
  have HVA:=hQq (zE9 hva.attrs);have HVB:=hQq (zE9 hvb.attrs)
  obtain⟨a6,cap6,rfl⟩:=hva.form
  obtain⟨b6,dap6,rfl⟩:=hvb.form
  generalize d.ens[k]'hlt=x at c0 c1 c2 c3 c4 c5 c6 c7 c8 c9 c10 c11 d0 d1 d2 d3 d4 d5 d6 d7 d8 d9 d10 d11 HVA HVB HXL
  have j1:((k:Nat):Int) < (d.ens.length:Int):=by omega
  have j0:(0:Int)<=(k:Int):=by omega
  clear hva hvb
  go_upto_region 6 with fail
  go_cut [6,7] (fun p q wx=>∃ g1 g2,p= .pointer (some ⟨g1,0,none⟩)/\q= .pointer (some ⟨g2,0,none⟩)/\Ext wi wx /\
   wx.heap[g1]? = some (.cells #[.string x.nm,.int .i64 x.nd.dep,.string x.nd.nm,.int .i64 x.nd.kd,.slice a6 x.nd.ats.length cap6,.string x.nd.dat,.int .i64 x.nd.ma,.int .i64 x.nd.mi,.int .i64 x.nd.cl,.bool x.wh,.bool x.fi,.int .i64 x.ns] 66 (0,0)) /\
   wx.heap[g2]? = some (.cells #[.string x.nm,.int .i64 x.nd.dep,.string x.nd.nm,.int .i64 x.nd.kd,.slice b6 x.nd.ats.length dap6,.string x.nd.dat,.int .i64 x.nd.ma,.int .i64 x.nd.mi,.int .i64 x.nd.cl,.bool x.wh,.bool x.fi,.int .i64 x.ns] 66 (0,0)))
  case first=>
   go_region
   all_goals
    go_wp2_with fail
    go_meet
    refine⟨_,_,rfl,rfl,?_,?_,?_⟩
    ·first | exact((eA _ _).trans (eA _ _)).trans (eD _) | exact((eA _ _).trans (eA _ _)).trans (eDn _ _) | exact(eA _ _).trans (eA _ _)
    ·first | exact bX (eD _) (bA (bN _ _)) | exact bX (eD _) (zAu (by simp)) | exact bX (eDn _ _) (bA (bN _ _)) | exact bX (eDn _ _) (zAu (by simp)) | exact bA (bN _ _) | exact zAu (by simp)
    ·first | exact bX (eD _) (bA (bN _ _)) | exact bX (eD _) (zAu (by simp)) | exact bX (eDn _ _) (bA (bN _ _)) | exact bX (eDn _ _) (zAu (by simp)) | exact bA (bN _ _) | exact zAu (by simp)
  case rest=>
  obtain⟨g1,g2,rfl,rfl,hE2,hg1,hg2⟩:=hcut
  have HI2:=hQq (HI.out.trans hE2);have HE2:=hQq hE2
  obtain⟨e0,e1,e2,e3,e4,e5,e6,e7,e8,e9,e10,e11⟩:=zDC hg1
  obtain⟨f0,f1,f2,f3,f4,f5,f6,f7,f8,f9,f10,f11⟩:=zDC hg2
  have hz3:=bL hg1;have hz4:=bL hg2
  clear hE2 hg1 hg2 c0 c1 c2 c3 c4 c5 c6 c7 c8 c9 c10 c11 d0 d1 d2 d3 d4 d5 d6 d7 d8 d9 d10 d11 k3 m3
  have q1:(x.wh != x.wh)=false:=by cases x.wh <;> rfl
  have q2:(x.fi != x.fi)=false:=by cases x.fi <;> rfl
  have HY:=hQq (zC3 (a:=[x.nd]) rfl)
  go_wp2_with fail
  have HT1:=hQq (fun (o2:Obj)=>((zAj (B:=wi.heap.size) okT wc x.nd (trC x.nd (.slice a6 x.nd.ats.length cap6)) _ rfl ⟨_,HVA.out.ext okA HE2.out,rfl⟩).ext okT (eA _ o2)))
  have HT2:=hQq (fun (o1:Obj)=>zAj (B:=wi.heap.size) okT (wc.alloc o1) x.nd (trC x.nd (.slice b6 x.nd.ats.length dap6)) (wc.heap.size+1) (by simp) ⟨_,HVB.out.ext okA (HE2.out.trans (eA _ o1)),rfl⟩)
  refine(zFq _ _ _ _ [x.nd] [x.nd] _ (HT1.out _) (HT2.out _) (by simp) (fun y hy=>by rw [List.mem_singleton.1 hy];exact HXL.out)).mono ?_
  rintro e w5 ⟨rfl,hb5⟩
  rw [HY.out]
  have HB5:=hQq (((eA _ _).trans (eA _ _)).trans hb5)
  clear hb5
  go_wp2
  go_roundw
  case rel=>exact⟨_,k+1,rfl,by omega,by go_num,HI2.out.trans HB5.out⟩
  case measure=>simp [intOf] <;> omega
end Go.Proofs.YtbeeoomadnmogaaGreat
