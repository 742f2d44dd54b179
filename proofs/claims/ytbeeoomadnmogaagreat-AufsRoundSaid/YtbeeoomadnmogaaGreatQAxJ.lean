/- AxJ -/
import Derived.Test.YtbeeoomadnmogaaGreatQI6
import Derived.Test.YtbeeoomadnmogaaGreatQAfH2
import Derived.Test.YtbeeoomadnmogaaGreatQAwkB
import Derived.Test.YtbeeoomadnmogaaGreatQAxG
import Derived.Test.YtbeeoomadnmogaaGreatQAwI
import Derived.Test.YtbeeoomadnmogaaGreatQFarA
set_option maxRecDepth 100000
set_option maxHeartbeats 64000000
namespace Go.Proofs.YtbeeoomadnmogaaGreat
open Go.RowKit
attribute [local go_sem] Oper.semAt_some
theorem zRd (B:Nat) (w:World) (v:Value) (b:List BrN) (hb:zC4 B w v b) (hsm:zBr b) (h0:zB1 b ≠ 0) :
  Calls Tryz.prog 24 #[v] w (AwP w (awT b)):=by
 obtain⟨aa,cap,rfl⟩:=hb.form
 have HV:=hQq (hb.ext okB (zG4 w (.slice aa b.length cap)))
 have HSM:=hQq hsm
 have HW:=hQq (zG4 w (.slice aa b.length cap))
 have HK:=hQq (zNb w (.slice aa b.length cap))
 unfold zSA at HV HW HK
 have HR:Hid (awT b=([],zLW b,zB1 b)):=hQq (if_pos h0)
 have q1:(zB1 b != 0)=true:=bne_iff_ne.2 h0
 clear hb hsm h0
 go_enter Tryz.func24,Tryz.ntmps24
 go_wp2_with (go_at_call 79;refine(zLX B _ _ b HV.out HSM.out).mono ?_;rintro e w2 ⟨rfl,hb2⟩;have HB2:=hQq hb2;have e0:w2.heap[w.heap.size]? = _:=bX hb2 HK.out.1;have E0:=hQq e0;have c0:=bC e0 0;have z0:=bL e0;have f0:=bT e0 0;have za0:=Nat.lt_succ_of_lt z0;have zb0:=Nat.lt_succ_of_lt za0;have zc0:=Nat.lt_succ_of_lt zb0;clear e0;have e1:w2.heap[w.heap.size+1]? = _:=bX hb2 HK.out.2.1;have E1:=hQq e1;have c1:=bC e1 0;have z1:=bL e1;have f1:=bT e1 0;have za1:=Nat.lt_succ_of_lt z1;have zb1:=Nat.lt_succ_of_lt za1;have zc1:=Nat.lt_succ_of_lt zb1;clear e1;have e2:w2.heap[w.heap.size+1+1]? = _:=bX hb2 HK.out.2.2.1;have E2:=hQq e2;have c2:=bC e2 0;have z2:=bL e2;have f2:=bT e2 0;have za2:=Nat.lt_succ_of_lt z2;have zb2:=Nat.lt_succ_of_lt za2;have zc2:=Nat.lt_succ_of_lt zb2;clear e2;have e3:w2.heap[w.heap.size+1+1+1]? = _:=bX hb2 HK.out.2.2.2.1;have E3:=hQq e3;have c3:=bC e3 0;have z3:=bL e3;have f3:=bT e3 0;have za3:=Nat.lt_succ_of_lt z3;have zb3:=Nat.lt_succ_of_lt za3;have zc3:=Nat.lt_succ_of_lt zb3;clear e3;clear hb2)
 refine nW (P:=fun W=>bodyPost _ _ _ _ _ W) _ ?_
 intro W2 hW2
 obtain⟨g1,g2,g3,g4,-⟩:=zDb (Ext.trans HW.out HB2.out) E1.out E2.out E3.out _ _ _ hW2
 refine bodyPost_ret (v:=.tuple #[.slice none 0 0,.int .i64 (zLW b),.int .i64 (zB1 b)]) (by simp [results,Tryz.f24,go_sem,bC g1 0,bC g2 0,bC g3 0]) rfl ?_
 rw [HR.out]
 exact⟨⟨none,0,_,rfl,Nat.le_refl _,g4.size,zAg.nil _ _ _⟩,g4⟩
theorem zRc (B:Nat) (w:World) (v:Value) (b:List BrN) (hb:zC4 B w v b) (hB:B<=w.heap.size) (hsm:zBr b) (h0:zB1 b=0) :
  Calls Tryz.prog 24 #[v] w (AwP w (awT b)):=by
 obtain⟨aa,cap,rfl⟩:=hb.form
 have HVw:=hQq hb
 have HV:=hQq (hb.ext okB (zG4 w (.slice aa b.length cap)))
 have HSM:=hQq hsm;have H0:=hQq h0
 have hlen:=hsm.len
 have HW:=hQq (zG4 w (.slice aa b.length cap))
 have HK:=hQq (zNb w (.slice aa b.length cap))
 unfold zSA at HV HW HK
 have q1:(zB1 b != 0)=false:=bne_eq_false_iff_eq.2 h0
 clear hb hsm h0
 have hmm:=@run_makeMap Tryz.prog
 refine(callsIn_wide (n:=8)).1 ?_
 refine callsIn_of_wp_marks Tryz.func24 rfl trivial ?_ rfl
 refine wpIn_wide.2 ?_
 simp only [Tryz.ntmps24,List.size_toArray,List.length_cons,List.length_nil,Nat.reduceAdd,Nat.reduceSub,Array.replicate_succ,Array.replicate_zero,List.push_toArray,List.append_toArray,List.nil_append,List.cons_append]
 go_wp2_with (first
  | (go_at_call 79;refine(zLX B _ _ b HV.out HSM.out).mono ?_;rintro e w2 ⟨rfl,hb2⟩;have HB2:=hQq hb2;have e0:w2.heap[w.heap.size]? = _:=bX hb2 HK.out.1;have E0:=hQq e0;have c0:=bC e0 0;have z0:=bL e0;have f0:=bT e0 0;have za0:=Nat.lt_succ_of_lt z0;have zb0:=Nat.lt_succ_of_lt za0;have zc0:=Nat.lt_succ_of_lt zb0;clear e0;have e1:w2.heap[w.heap.size+1]? = _:=bX hb2 HK.out.2.1;have E1:=hQq e1;have c1:=bC e1 0;have z1:=bL e1;have f1:=bT e1 0;have za1:=Nat.lt_succ_of_lt z1;have zb1:=Nat.lt_succ_of_lt za1;have zc1:=Nat.lt_succ_of_lt zb1;clear e1;have e2:w2.heap[w.heap.size+1+1]? = _:=bX hb2 HK.out.2.2.1;have E2:=hQq e2;have c2:=bC e2 0;have z2:=bL e2;have f2:=bT e2 0;have za2:=Nat.lt_succ_of_lt z2;have zb2:=Nat.lt_succ_of_lt za2;have zc2:=Nat.lt_succ_of_lt zb2;clear e2;have e3:w2.heap[w.heap.size+1+1+1]? = _:=bX hb2 HK.out.2.2.2.1;have E3:=hQq e3;have c3:=bC e3 0;have z3:=bL e3;have f3:=bT e3 0;have za3:=Nat.lt_succ_of_lt z3;have zb3:=Nat.lt_succ_of_lt za3;have zc3:=Nat.lt_succ_of_lt zb3;clear e3;clear hb2)
  | (go_at_call 66;refine(zTG _ _ _ _).mono ?_;rintro e w3 ⟨rfl,rfl⟩)
  | fail)
 refine nW (P:=fun W=>Code.wp _ _ _ _ W) _ ?_
 intro W0 hW0
 obtain⟨mb,hmb⟩:∃ mb,mb=w2.heap.size:=⟨_,rfl⟩
 have HS0:Hid (W0.heap.size=mb+4):=hQq (by rw [hW0,hmb];simp)
 have HE2:Hid (Ext w2 W0):=hQq (by rw [hW0];exact(((eA _ _).trans (eA _ _)).trans (eA _ _)).trans (eA _ _))
 have HE0:Hid (Ext w W0):=hQq (Ext.trans (Ext.trans HW.out HB2.out) HE2.out)
 have HM0:Hid (zAD kI W0 mb 0 (fun _=>none)):=hQq (by rw [hW0,hmb];exact(((zBI w2 kI).ext (eA _ _)).ext (eA _ _)).ext (eA _ _))
 have HP0:Hid (W0.heap[mb+1]? = some (.cells #[.slice aa b.length cap,.map (some mb),.nilFunc,.slice none 0 0] 98 (0,0))):=hQq (by rw [hW0,hmb];exact bA (bA (zAH (by simp))))
 have HB0:Hid (W0.heap[mb+1+1]? = some (.cells #[.pointer (some ⟨mb+1,0,none⟩)] 93 (0,0))):=hQq (by rw [hW0,hmb];exact bA (zAH (by simp)))
 have HX0:Hid (W0.heap[mb+1+1+1]? = some (.cells #[.slice aa b.length cap] 35 (0,0))):=hQq (by rw [hW0,hmb];exact zAH (by simp))
 have HWM:Hid (w.heap.size+4<=mb):=hQq (by have h:=HK.out.2.2.2.2;have h2:=HB2.out.size;rw [hmb];omega)
 have G0:=hQq (bX HE2.out E0.out);have G1:=hQq (bX HE2.out E1.out);have G2:=hQq (bX HE2.out E2.out);have G3:=hQq (bX HE2.out E3.out)
 rw [<- hmb]
 clear hW0 hmm c0 z0 za0 zb0 zc0 f0 c1 z1 za1 zb1 zc1 f1 c2 z2 za2 zb2 zc2 f2 c3 z3 za3 zb3 zc3 f3 HB2 E0 E1 E2 E3 hmb HE2
 have hsz:=HS0.out;have hwm:=HWM.out
 refine(wpIn_wide (n:=8)).1 ?_
 refine zFb (w:=W0) (w0:=W0) rfl (by omega) (gf:=131) (lb:=#[.pointer (some ⟨mb+1+1+1,0,none⟩)]) rfl trivial (enters_of Tryz.func131 (by kernel_rfl) rfl) zIR zOF
  (zIO 7 (by omega) B w W0 _ b (mb+1+1+1) HVw.out hB (Kc.of_ext HE0.out) HX0.out (by omega) HSM.out H0.out) Kc.trans (fun W l o o' hl ho hc=>Kc.put ho hc) (bR _ _) (fun _=>rfl) zMC
  (fun pre W=>EnI w W0 mb (fun i=>acD (zAo b i)) (awE b) (zCS b) pre.length W) (fun c _ W=>c= .ret/\∃ no er,awT b=([],no,er)/\EnX w 33 no er W)
  (fun s W W' h hx hX=>EnI.ab (by omega) HE0.out.size h hx hX) (fun c s W W' h hx _=>⟨h.1,by obtain⟨no,er,h1,h2⟩:=h.2;exact⟨no,er,h1,EnX.ab (by omega) h2 hx⟩⟩)
  ⟨⟨_,_,HM0.out,fun j hj=>absurd hj (by simp)⟩,fun j hj=>absurd hj (by simp),Kc.refl _ _ _,HE0.out⟩
  (zXd w (mb+1+1)) (zSB w (mb+1+1)) ?assign ?body ?done ?stop
 case assign=>
  intro l pre x W K hi hok hK
  obtain⟨xi,xd⟩:=x
  obtain⟨hx1,hx⟩:=hok
  have HX1:=hQq hx1
  have HOK:=hQq hx
  obtain⟨va,vr,ve,hx2,h1,h2,h3⟩:=hx
  dsimp only at hx2 h1 h2 h3
  subst hx2
  obtain⟨a1,c1,rfl⟩:=h1.form
  obtain⟨a2,c2,rfl⟩:=h2.form
  obtain⟨a3,c3,rfl⟩:=h3.form
  unfold zSy
  clear h1 h2 h3 hx1
  gi_wp2
  exact hK _ _ (eA _ _) (Kc.of_ext (eA _ _)) ⟨W.heap.size,[_,undef,undef,undef,undef,_,_,undef,undef,undef,_,_,_,_,_,_,_,_,_,_,_,_,_,_,_,_,_,_,_,_,_,_,_,_,_,_,_,_,_,_,_,_,_,_,_,_,_,_,_,_,_,_,_,_,_,_,_,_,_,_,_,_,_,_,_,_,_,_,_,_,_,_,_,_,_,_,_,_,_,_,_,_,_,_,_,_,_,_,_,_,_,_,_,_,_,_,_,_,_,_,_,_,_,_,_,_,_,_,_,_,_,_,_],a1,a2,a3,_,_,_,c1,c2,c3,_,rfl,bN W _,rfl⟩ ⟨HX1.out,(HOK.out.ext (eA _ _)).mono (eA _ _).size⟩
 case body=>
  rintro l pre x a2 W hI hlt hok ⟨Bx,M,a1,a2',a3,n1,n2,n3,c1,c2,c3,o,hxv,hBx,rfl⟩
  obtain⟨xi,xd⟩:=x
  obtain⟨hxi,hxd⟩:=hok
  dsimp only at hxi hxd hxv hBx ⊢
  subst hxv
  have hda:=zTs hlt
  rw [<- hxi] at hda
  have HPI:Hid (∀ y:Nat × Value,(pre ++ [y]).length=pre.length+1):=hQq (fun y=>by simp)
  generalize pre.length=k at hI hlt hxi HPI ⊢
  have HI:=hQq hI;have HXI:=hQq hxi;have HXD:=hQq hxd;have HLT:=hQq hlt;have HDA:=hQq hda
  have HSD:=hQq (zIG H0.out hda.1 HSM.out)
  have hq:∀ (q:Nat) cs e f,W0.heap[q]? = some (Obj.cells cs e f)->W.heap[q]? = some (Obj.cells cs e f):=fun q cs e f hh=>hI.kc.keep _ _ _ _ (.inr (Nat.zero_le _)) hh
  have D0:=hQq (hq _ _ _ _ G0.out);have D1:=hQq (hq _ _ _ _ G1.out);have D2:=hQq (hq _ _ _ _ G2.out);have D3:=hQq (hq _ _ _ _ G3.out)
  have DP:=hQq (hq _ _ _ _ HP0.out);have DB:=hQq (hq _ _ _ _ HB0.out)
  have HVI:=hQq (zEM HVw.out ((Kc.of_ext HE0.out).trans hI.kc))
  have HXT:=HI.out.ext
  have HXTH:=hQq HXT
  have hln:1<=8 - 1 - 1:=by omega
  obtain⟨b0,b1,b2,b3⟩:=b4C hBx;have bl:=bL hBx
  clear hI hlt hxi hxd hq hda HXT
  by_cases hE:acE (zAo b xi)=0
  case neg=>
   have q2:(acE (zAo b xi) != 0)=true:=bne_iff_ne.2 hE
   have HAW:Hid (awT b=([],awN b xi,acE (zAo b xi))):=hQq (by
    have hE2:awE b xi=acE (zAo b xi):=by unfold awE;rw [if_neg (by simp [HDA.out.2]),if_pos hE]
    have hf:=zJy (E:=awE b) (fun i h=>if_pos h) HLT.out (by rw [<- HXI.out];exact HDA.out.1) HI.out.ok (by rw [<- HXI.out,hE2];exact hE)
    rw [<- HXI.out] at hf
    unfold awT
    rw [if_neg (by simp [H0.out]),hf]
    show ([],awN b xi,awE b xi)=_
    rw [hE2])
   have HAN:Hid (awN b xi=atN b xi (acN (zAo b xi))):=hQq (if_pos hE)
   have HAL:=hQq (zWp H0.out HDA.out.1 HDA.out.2 hE)
   clear hE
   gi_wp2_with (first
    | (refine⟨trivial,?_⟩;gi_at_call 13;refine(CallsIn.inRound l (callsIn_wide.2 (zB5 W.heap.size W _ (zAo b xi) HXD.out (Nat.le_refl _) HSD.out))).mono ?_;rintro e V ⟨⟨v',rfl,hd'⟩,hbV⟩;obtain⟨va',vr',ve',rfl,k1,k2,k3⟩:=hd';obtain⟨b1',d1',rfl⟩:=k1.form;obtain⟨b2',d2',rfl⟩:=k2.form;obtain⟨b3',d3',rfl⟩:=k3.form;have HEV:=hQq hbV;have y0:=bC (bX hbV D0.out) 0;have y0l:=bL (bX hbV D0.out);clear k1 k2 k3 hbV)
    | (refine⟨trivial,?_⟩;gi_at_call 67;refine(CallsIn.inRound l (callsIn_wide.2 (zWS B _ _ b xi (acN (zAo b xi)) (HVI.out.ext okB (Ext.trans HEV.out (eA _ _))) HSM.out H0.out HDA.out.1 HDA.out.2 HAL.out))).mono ?_;rintro e U ⟨rfl,hbU⟩;have HEU:=hQq (Ext.trans HEV.out (Ext.trans (eA _ _) hbU));have u1:=bX HEU.out D1.out;have u2:=bX HEU.out D2.out;have u3:=bX HEU.out D3.out;have v1:=bC u1 0;have v2:=bC u2 0;have v3:=bC u3 0;have w1:=bL u1;have w2':=bL u2;have w3:=bL u3;have x1:=bT u1 0;have x2:=bT u2 0;have x3:=bT u3 0;have U1:=hQq u1;have U2:=hQq u2;have U3:=hQq u3;clear u1 u2 u3 hbU)
    | fail)
   refine nW (P:=fun V=>ownPostG _ _ _ _ _ _ _ _ V) _ ?_
   intro V3 hV3
   obtain⟨s1,s2,s3,s4,s5,-⟩:=zDb (Ext.trans HXTH.out HEU.out) U1.out U2.out U3.out _ _ _ hV3
   exact⟨((zDO HEU.out).trans s5).from _,rfl,_,_,by rw [HAW.out,HAN.out],⟨s1,s2,s3,s4⟩⟩
  have HE0':=hQq hE
  have q2:((0:Int) != 0)=false:=rfl
  have j1:((xi:Nat):Int) < (b.length:Int):=by have:=HDA.out.1;omega
  have j0:(0:Int)<=(xi:Int):=by omega
  clear hE
  by_cases hm:(zAk b xi).opq=true/\(zAk b xi).dep=8
  ·have HAW:Hid (awT b=([],(xi:Int),3)):=hQq (by
    have hE2:awE b xi=3:=by unfold awE;rw [if_neg (by simp [HDA.out.2]),if_neg (by simp [HE0'.out]),if_pos hm]
    have hf:=zJy (E:=awE b) (fun i h=>if_pos h) HLT.out (by rw [<- HXI.out];exact HDA.out.1) HI.out.ok (by rw [<- HXI.out,hE2];decide)
    rw [<- HXI.out] at hf
    unfold awT
    rw [if_neg (by simp [H0.out]),hf]
    show ([],awN b xi,awE b xi)=_
    rw [hE2]
    unfold awN
    rw [if_neg (by simp [HE0'.out])])
   have hm1:=hm.1;have hm2:=hm.2
   have q3:((8:Int) == 8)=true:=rfl
   clear hm
   gi_wp2_with (first
    | (refine⟨trivial,?_⟩;gi_at_call 13;refine(CallsIn.inRound l (callsIn_wide.2 (zB5 W.heap.size W _ (zAo b xi) HXD.out (Nat.le_refl _) HSD.out))).mono ?_;rw [HE0'.out];rintro e V ⟨⟨v',rfl,hd'⟩,hbV⟩;have HDV:=hQq hd';obtain⟨va',vr',ve',rfl,k1,k2,k3⟩:=hd';obtain⟨b1',d1',rfl⟩:=k1.form;obtain⟨b2',d2',rfl⟩:=k2.form;obtain⟨b3',d3',rfl⟩:=k3.form;have HEV:=hQq hbV;have y0:=bC (bX hbV D0.out) 0;have y0l:=bL (bX hbV D0.out);obtain⟨gb,go,gva,gvr,hex,gl,gva',gvr',g0,-,-,-,-,-,-,-,g8,-⟩:=(HVI.out.ext okB hbV).br xi HDA.out.1;cases hex;rw [<- zAw b xi HDA.out.1] at g0 g8;rw [hm2] at g0;rw [hm1] at g8;have u1:=bX hbV D1.out;have u2:=bX hbV D2.out;have u3:=bX hbV D3.out;have v1:=bC u1 0;have v2:=bC u2 0;have v3:=bC u3 0;have w1:=bL u1;have w2':=bL u2;have w3:=bL u3;have x1:=bT u1 0;have x2:=bT u2 0;have x3:=bT u3 0;have U1:=hQq u1;have U2:=hQq u2;have U3:=hQq u3;clear u1 u2 u3 k1 k2 k3 hbV gva' gvr')
    | fail)
   refine nW (P:=fun V=>ownPostG _ _ _ _ _ _ _ _ V) _ ?_
   intro V3 hV3
   obtain⟨V4,hV4⟩:∃ V4,V4=((V.setCell ⟨w.heap.size+1,0,none⟩ (.slice none 0 0)).setCell ⟨w.heap.size+1+1,0,none⟩ (.int .i64 xi)).setCell ⟨w.heap.size+1+1+1,0,none⟩ (.int .i64 3):=⟨_,rfl⟩
   rw [<- hV4] at hV3
   obtain⟨s1,s2,s3,s4,s5,-⟩:=zDb (Ext.trans HXTH.out HEV.out) U1.out U2.out U3.out _ _ _ hV4
   subst hV3
   exact⟨((zDO HEV.out).trans (s5.trans (KeepsOthers.alloc _ _))).from _,rfl,_,_,HAW.out,⟨bA s1,bA s2,bA s3,Ext.trans s4 (eA _ _)⟩⟩
  have HE3:Hid (awE b xi=0):=hQq (by unfold awE;rw [if_neg (by simp [HDA.out.2]),if_neg (by simp [HE0'.out]),if_neg hm])
  obtain⟨op,hop⟩:∃ op,op=(zAk b xi).opq:=⟨_,rfl⟩
  obtain⟨dp,hdp⟩:∃ dp,dp=(zAk b xi).dep:=⟨_,rfl⟩
  rw [<- hop,<- hdp] at hm
  have HOP:=hQq hop;have HDP:=hQq hdp
  have q3:op=true->(dp == 8)=false:=fun h=>nB fun e=>hm ⟨h,e⟩
  clear hm hop hdp
  cases op
  case' true=>have q4:=q3 rfl
  all_goals
   clear q3
   gi_wp2_with (first
    | (refine⟨trivial,?_⟩;gi_at_call 13;refine(CallsIn.inRound l (callsIn_wide.2 (zB5 W.heap.size W _ (zAo b xi) HXD.out (Nat.le_refl _) HSD.out))).mono ?_;rw [HE0'.out];rintro e V ⟨⟨v',rfl,hd'⟩,hbV⟩;have HDV:=hQq hd';obtain⟨va',vr',ve',rfl,k1,k2,k3⟩:=hd';obtain⟨b1',d1',rfl⟩:=k1.form;obtain⟨b2',d2',rfl⟩:=k2.form;obtain⟨b3',d3',rfl⟩:=k3.form;have HEV:=hQq hbV;have y0:=bC (bX hbV D0.out) 0;have y0l:=bL (bX hbV D0.out);obtain⟨gb,go,gva,gvr,hex,gl,gva',gvr',g0,-,-,-,-,-,-,-,g8,-⟩:=(HVI.out.ext okB hbV).br xi HDA.out.1;cases hex;rw [<- zAw b xi HDA.out.1] at g0 g8;rw [<- HDP.out] at g0;rw [<- HOP.out] at g8;have u1:=bX hbV D1.out;have u2:=bX hbV D2.out;have u3:=bX hbV D3.out;have v1:=bC u1 0;have v2:=bC u2 0;have v3:=bC u3 0;have w1:=bL u1;have w2':=bL u2;have w3:=bL u3;have x1:=bT u1 0;have x2:=bT u2 0;have x3:=bT u3 0;have U1:=hQq u1;have U2:=hQq u2;have U3:=hQq u3;clear u1 u2 u3 k1 k2 k3 hbV gva' gvr')
    | fail)
   refine nW (P:=fun V=>Code.wpIn _ _ _ _ _ _ V) _ ?_
   intro V3 hV3
   have hX3:Ext V V3:=by rw [hV3];exact eA _ _
   have hT3:V3.heap[V.heap.size]? = some (.cells #[.slice b1' (acD (zAo b xi)).ats.length d1',.bool (acD (zAo b xi)).opq,.slice b2' (acD (zAo b xi)).red.length d2',.slice b3' (acD (zAo b xi)).ens.length d3'] 26 (0,0)):=by rw [hV3];exact bN _ _
   have HE4:=hQq (Ext.trans HEV.out hX3)
   have HI4:=hQq (HI.out.up HE4.out)
   have HDV4:=hQq (((HDV.out.ext hX3).mono (Nat.le_trans HEV.out.size hX3.size)))
   have r:=bX HE4.out DB.out;have s:=bX HE4.out DP.out
   have rc:=bC r 0;have rl:=bL r;have sc:=bC s 1;have sl:=bL s
   obtain⟨tc0,tc1,tc2,tc3⟩:=b4C hT3;have tl:=bL hT3
   obtain⟨nn,f,hm,hf⟩:=HI4.out.map
   obtain⟨U,hup,hmU,hgU⟩:=(hm.ext (eD V3)).update zAZ zBM (xi:Int) (.agg #[.slice b1' (acD (zAo b xi)).ats.length d1',.bool (acD (zAo b xi)).opq,.slice b2' (acD (zAo b xi)).red.length d2',.slice b3' (acD (zAo b xi)).ens.length d3'])
   unfold kI at hup
   have HM:=hQq hm;have HF:=hQq hf;have HMU:=hQq hmU;have HGU:=hQq hgU
   clear hm hf hmU hgU hV3 r s hT3 hX3 g0 g8 gl v1 v2 v3 w1 w2' w3 x1 x2 x3 y0 y0l b0 b1 b2 b3 bl
   have HZ:=hQq (zQp (HI4.out.up (eD V3)) (by omega) (by omega) HXI.out (HM.out.ext (eD V3)) (fun j hj=>by obtain⟨v9,h8,h9⟩:=HF.out j hj;exact⟨v9,h8,h9.ext (eD V3)⟩) (HDV4.out.ext (eD V3)) HE3.out HMU.out HGU.out)
   have HKF:=hQq (KeepsFrom.trans ((zDO (Ext.trans HE4.out (eD V3))).from W0.heap.size) HZ.out.1)
   have HKC:Hid (Kc w.heap.size (mb+1+1+1) W U):=hQq ((Kc.of_ext (Ext.trans HE4.out (eD V3))).trans (KcA.any HZ.out.2.1))
   gi_region
   all_goals exact⟨HKF.out,HKC.out,by show EnI w W0 mb _ _ _ (pre ++ [_]).length _;rw [HPI.out];exact HZ.out.2.2⟩
 case stop=>
  rintro D c pre W hD _ ⟨rfl,no,er,haw,hx⟩ hdf
  have HDL:=hQq hD;have HX:=hQq hx;have HD:=hQq hdf;have HAW:=hQq haw
  clear hD hx hdf haw
  refine wpIn_wide.2 ?_
  go_wp2
  have g1:=bC HX.out.li 0;have g2:=bC HX.out.no 0;have g3:=bC HX.out.er 0
  refine⟨by simp,.inl ⟨_,_,rfl,run_takeDeferred HD.out,?_⟩⟩
  have g4:=cell_kept g1 (grownBy_putObj' _ D (.deferred none)) (fun r e=>by cases e;exact⟨_,HD.out,rfl⟩)
  have g5:=cell_kept g2 (grownBy_putObj' _ D (.deferred none)) (fun r e=>by cases e;exact⟨_,HD.out,rfl⟩)
  have g6:=cell_kept g3 (grownBy_putObj' _ D (.deferred none)) (fun r e=>by cases e;exact⟨_,HD.out,rfl⟩)
  refine⟨.tuple #[.slice none 0 0,.int .i64 no,.int .i64 er],?_,?_⟩
  ·simp [results,Tryz.f24,go_sem,g4,g5,g6]
  ·have hx:=Below.trans HX.out.ext (zAF (o':=.deferred none) HD.out (Nat.le_trans HE0.out.size HDL.out))
   rw [HAW.out]
   exact⟨⟨none,0,_,rfl,Nat.le_refl _,hx.size,zAg.nil _ _ _⟩,hx⟩
 case done=>
  intro D xs W hD hS hI hdf
  rw [hS] at hI
  have hq:∀ (q:Nat) cs e f,W0.heap[q]? = some (Obj.cells cs e f)->W.heap[q]? = some (Obj.cells cs e f):=fun q cs e f hh=>hI.kc.keep _ _ _ _ (.inr (Nat.zero_le _)) hh
  have D0:=hQq (hq _ _ _ _ G0.out);have D1:=hQq (hq _ _ _ _ G1.out);have D2:=hQq (hq _ _ _ _ G2.out);have D3:=hQq (hq _ _ _ _ G3.out)
  have DP:=hQq (hq _ _ _ _ HP0.out);have DB:=hQq (hq _ _ _ _ HB0.out);have DD:=hQq hdf
  have HVI:=hQq (zEM HVw.out ((Kc.of_ext HE0.out).trans hI.kc))
  have HXT:=hQq hI.ext;have HDL:=hQq hD
  have HFN:=hQq (zQc (E:=awE b) (fun i h=>if_pos h) hI.ok)
  have HWE:Hid (∀ i,i < b.length->awE b i=0):=hQq (fun i hi=>by have:=zAC _ _ HFN.out i (Nat.zero_le _) (by omega);simpa using this)
  obtain⟨nn,f,hm,hf⟩:=hI.map
  have HM:=hQq hm
  have HF:Hid (∀ i:Nat,i < b.length->(zAk b i).kd=1->∃ v,f (i:Int)=some v/\zBK W.heap.size W v (acD (zAo b i))):=hQq (fun i hi hk=>by
   obtain⟨e1,e2⟩:=zHP hi hk
   have:=hf _ e2
   rw [e1] at this
   exact this)
  have HBZ:Hid (0 < b.length/\(zAk b 0).kd=1):=hQq (by
   obtain⟨x,f',e,_,_,hk,_⟩:=zDf (zAp H0.out).1
   subst e
   exact⟨by simp,hk⟩)
  obtain⟨v0,hf0,hd0⟩:=HF.out 0 HBZ.out.1 HBZ.out.2
  have HD0:=hQq hd0
  obtain⟨va,vr,ve,rfl,k1,k2,k3⟩:=hd0
  obtain⟨a1,ca,rfl⟩:=k1.form;obtain⟨a2,cr,rfl⟩:=k2.form;obtain⟨a3,ce,rfl⟩:=k3.form
  have HF0:Hid (f 0=some _):=hQq hf0
  have HAF:Hid (((0 < zB0 b/\(acD (zAo b 0)).ens.length=24)\/24 < zB0 b)->awT b=([],0,5)):=hQq (fun h=>by
   unfold awT
   rw [if_neg (by simp [H0.out]),HFN.out]
   exact if_pos h)
  have HAO:Hid (¬ ((0 < zB0 b/\(acD (zAo b 0)).ens.length=24)\/24 < zB0 b)->awT b=if 120 < (zA8 b).length then ([],0,3) else ((zBh (zA8 b)).1,0,(zBh (zA8 b)).2)):=hQq (fun h=>by
   unfold awT
   rw [if_neg (by simp [H0.out]),HFN.out]
   exact if_neg h)
  clear hS hI hdf hD hm hf hf0 k1 k2 k3 hq
  by_cases hfull:(0 < zB0 b/\(acD (zAo b 0)).ens.length=24)\/24 < zB0 b
  case pos=>
   have q4:decide ((0:Int) < zB0 b)=true:=decide_eq_true (by omega)
   rcases(show ((acD (zAo b 0)).ens.length=24/\24 < zB0 b)\/((acD (zAo b 0)).ens.length=24/\¬ 24 < zB0 b)\/((acD (zAo b 0)).ens.length ≠ 24/\24 < zB0 b) by omega) with ⟨t2,t3⟩ | ⟨t2,t3⟩ | ⟨t2,t3⟩
   all_goals
    first | have q3:decide ((24:Int) < zB0 b)=true:=decide_eq_true t3 | have q3:decide ((24:Int) < zB0 b)=false:=decide_eq_false t3
    first | have q5:(((acD (zAo b 0)).ens.length:Int) == 24)=true:=beq_iff_eq.2 (by omega) | have q5:(((acD (zAo b 0)).ens.length:Int) == 24)=false:=nB (by omega)
    have x0:=bC D0.out 0;have x0l:=bL D0.out
    clear t2 t3
    go_wp2_with (go_at_call 80;refine(zGy B _ _ b HVI.out hlen).mono ?_;rintro e w5 ⟨rfl,hb5⟩;have HB5:=hQq hb5;have S0:=hQq (bX hb5 D0.out);have S1:=hQq (bX hb5 D1.out);have S2:=hQq (bX hb5 D2.out);have S3:=hQq (bX hb5 D3.out);have SD:=hQq (bX hb5 DD.out);have sa0:=bC S0.out 0;have sla0:=bL S0.out;have sfa0:=bT S0.out 0;have sa1:=bC S1.out 0;have sla1:=bL S1.out;have sfa1:=bT S1.out 0;have sa2:=bC S2.out 0;have sla2:=bL S2.out;have sfa2:=bT S2.out 0;have sa3:=bC S3.out 0;have sla3:=bL S3.out;have sfa3:=bT S3.out 0;have P5:=hQq (bX hb5 DP.out);have B5:=hQq (bX hb5 DB.out);have pa:=bC P5.out 1;have pal:=bL P5.out;have paf:=bT P5.out 2;have pan:=bC P5.out 2;have ba:=bC B5.out 0;have bal:=bL B5.out;have hlk:=(HM.out.ext hb5).look zAZ zBM (zDV w5) (0:Int) false;rw [if_neg Bool.false_ne_true,HF0.out,Option.getD_some] at hlk;unfold kI at hlk;have hfl:=(zFV a1 a2 a3 (acD (zAo b 0)).ats.length (acD (zAo b 0)).red.length (acD (zAo b 0)).ens.length ca cr ce (acD (zAo b 0)).opq w5).1;clear hb5)
    refine nW (P:=fun V=>bodyPostM _ _ _ _ _ _ _ V) _ ?_
    intro V3 hV3
    obtain⟨z1,z2,z3,z4,z5,z6,z7⟩:=zDb (Ext.trans HXT.out HB5.out) S1.out S2.out S3.out _ _ _ hV3
    have zD:=z7 _ _ SD.out (fun e=>by have:=HDL.out;have:=HE0.out.size;have:=HS0.out;omega) (fun e=>by have:=HDL.out;have:=HS0.out;omega) (fun e=>by have:=HDL.out;have:=HS0.out;omega)
    refine⟨by simp,.inl ⟨_,_,rfl,run_takeDeferred zD,?_⟩⟩
    have g4:=cell_kept (bC z1 0) (grownBy_putObj' _ D (.deferred none)) (fun r e=>by cases e;exact⟨_,zD,rfl⟩)
    have g5:=cell_kept (bC z2 0) (grownBy_putObj' _ D (.deferred none)) (fun r e=>by cases e;exact⟨_,zD,rfl⟩)
    have g6:=cell_kept (bC z3 0) (grownBy_putObj' _ D (.deferred none)) (fun r e=>by cases e;exact⟨_,zD,rfl⟩)
    refine⟨.tuple #[.slice none 0 0,.int .i64 0,.int .i64 5],?_,?_⟩
    ·simp [results,Tryz.f24,go_sem,g4,g5,g6]
    ·have hx:=Below.trans z4 (zAF (o':=.deferred none) zD (Nat.le_trans HE0.out.size HDL.out))
     rw [HAF.out hfull]
     exact⟨⟨none,0,_,rfl,Nat.le_refl _,hx.size,zAg.nil _ _ _⟩,hx⟩
  have q3:decide ((24:Int) < zB0 b)=false:=decide_eq_false (by omega)
  by_cases t1:0 < zB0 b
  ·have q4:decide ((0:Int) < zB0 b)=true:=decide_eq_true t1
   have q5:(((acD (zAo b 0)).ens.length:Int) == 24)=false:=nB (by omega)
   have HAK:=hQq (HAO.out (fun h=>by omega))
   have HP:Hid (zA8 b=zLF (plT (rwB b)) (zK3 b)):=hQq (if_pos t1)
   have HC24:Hid (zB0 b<=24):=hQq (by omega)
   have x0:=bC D0.out 0;have x0l:=bL D0.out
   clear t1 hfull
   go_upto_region 18 with (go_at_call 80;refine(zGy B _ _ b HVI.out hlen).mono ?_;rintro e w5 ⟨rfl,hb5⟩;have HB5:=hQq hb5;have S0:=hQq (bX hb5 D0.out);have S1:=hQq (bX hb5 D1.out);have S2:=hQq (bX hb5 D2.out);have S3:=hQq (bX hb5 D3.out);have SD:=hQq (bX hb5 DD.out);have sa0:=bC S0.out 0;have sla0:=bL S0.out;have sfa0:=bT S0.out 0;have sa1:=bC S1.out 0;have sla1:=bL S1.out;have sfa1:=bT S1.out 0;have sa2:=bC S2.out 0;have sla2:=bL S2.out;have sfa2:=bT S2.out 0;have sa3:=bC S3.out 0;have sla3:=bL S3.out;have sfa3:=bT S3.out 0;have P5:=hQq (bX hb5 DP.out);have B5:=hQq (bX hb5 DB.out);have pa:=bC P5.out 1;have pal:=bL P5.out;have paf:=bT P5.out 2;have pan:=bC P5.out 2;have ba:=bC B5.out 0;have bal:=bL B5.out;have hlk:=(HM.out.ext hb5).look zAZ zBM (zDV w5) (0:Int) false;rw [if_neg Bool.false_ne_true,HF0.out,Option.getD_some] at hlk;unfold kI at hlk;have hfl:=(zFV a1 a2 a3 (acD (zAo b 0)).ats.length (acD (zAo b 0)).red.length (acD (zAo b 0)).ens.length ca cr ce (acD (zAo b 0)).opq w5).1;clear hb5)
   refine nW (P:=fun W=>Code.wp _ _ _ _ W) _ ?_
   intro Wc hWc
   replace hWc:Wc=w5.setCell ⟨mb+1,2,none⟩ (.func (.func 81) #[] #[]):=hWc
   have HPL:Hid (∀ o u,w5.cell? ⟨mb+1,o,none⟩=some u->plV u=false):=hQq (fun o u e=>by
    rw [bC P5.out] at e
    match o,e with
    | 0,e=>cases e;rfl
    | 1,e=>cases e;rfl
    | 2,e=>cases e;rfl
    | 3,e=>cases e;rfl
    | k+4,e=>simp at e)
   have HKP:Hid (zAA (some (mb+1)) w5 Wc/\w5.heap.size=Wc.heap.size):=hQq (by rw [hWc];exact⟨fun q o hq hne=>bSn hq _ _ (fun e=>hne (by rw [e])),by simp [World.setCell]⟩)
   have HEC:Hid (Ext w Wc):=hQq (by rw [hWc];exact Below.setCell (p:=⟨mb+1,2,none⟩) (Ext.trans HXT.out HB5.out) (by show w.heap.size<=mb+1;omega) _)
   have HBW:Hid (BdW Wc (mb+1) mb (.slice aa b.length cap) (.func (.func 81) #[] #[]) (.slice none 0 0) b (fun i=>acD (zAo b i))):=hQq (by
    refine⟨by rw [hWc];exact bS P5.out _,⟨nn,f,by rw [hWc];exact(HM.out.ext HB5.out).setCell _ _,fun i hi hk=>?_⟩,?_,rfl,rfl⟩
    ·obtain⟨v9,h8,h9⟩:=HF.out i hi hk
     exact⟨v9,h8,(((h9.ext HB5.out).mono (Nat.le_trans HB5.out.size (Nat.le_of_eq HKP.out.2))).keepX HKP.out.1 (Nat.le_of_eq HKP.out.2) (zGh HPL.out))⟩
    ·exact(zC4.keepY HKP.out.1 (Nat.le_of_eq HKP.out.2) HPL.out (HVI.out.ext okB HB5.out)).mono okB (Nat.le_trans hB HEC.out.size))
   have C0:=hQq (HKP.out.1 _ _ S0.out (fun e=>by injection e with e;omega));have C1:=hQq (HKP.out.1 _ _ S1.out (fun e=>by injection e with e;omega));have C2:=hQq (HKP.out.1 _ _ S2.out (fun e=>by injection e with e;omega));have C3:=hQq (HKP.out.1 _ _ S3.out (fun e=>by injection e with e;omega));have CD:=hQq (HKP.out.1 _ _ SD.out (fun e=>by injection e with e;have:=HDL.out;omega));have CB:=hQq (HKP.out.1 _ _ B5.out (fun e=>by injection e with e;omega))
   have cb0:=bC CB.out 0;have cbl:=bL CB.out
   clear sa0 sla0 sfa0 sa1 sla1 sfa1 sa2 sla2 sfa2 sa3 sla3 sfa3 hWc pa pal paf pan ba bal hlk hfl x0 x0l
   have HBU:=hQq (zL7 Wc (mb+1) mb 81 _ _ b (fun i=>acD (zAo b i)) (bkS 3) HBW.out HSM.out H0.out (enters_of Tryz.func81 (by kernel_rfl) rfl) (fun s V hs=>zTJ s V (by omega)) (fun i hi hk=>zM8 H0.out i hi hk) HBZ.out.1 HBZ.out.2 (by show (rwB b).length<=_;have:=zMr H0.out HWE.out;omega))
   have HOL:=hQq (zMr H0.out HWE.out);have HOA:=hQq (zTd H0.out)
   have HIN:Hid (∀ i,i<=(plT (rwB b)).length->∀ (V9 V10:World) (v vy:Value) (B6:Nat),zAg cdT B6 V10 v (plT (rwB b))->zAg zOB V9.heap.size V10 vy (zK3 b)->B6<=V10.heap.size->(∀ q,v.ownBlock=some q->vy.ownBlock ≠ some q)->Calls Tryz.prog 85 #[v,.int .i64 (i:Nat),vy] V10 (zWx cdT B6 V10 ((plT (rwB b)).take i ++ zK3 b ++ (plT (rwB b)).drop i))):=hQq (fun i hi V9 V10 v vy B6 h1 h2 h3 h4=>zVs B6 V9.heap.size V10 v vy _ _ i h1 h2 h3 h4 (by unfold zK3;simp) hi (by rw [zAh];have:=HOL.out;omega) (by unfold zK3 zJp;simp;have:=HC24.out;omega))
   rcases zUx (plT (rwB b)) (zK3 b) (p:=fun k=>!zEo (zAa (plT (rwB b)) k)) (fun k hk=>by rw [zAm _ k hk]) with ⟨e1,e2⟩ | ⟨i,hi,e1,e2⟩
   case' inl=>
    have HIX:Hid (zG1 (fun k=>!zEo (zAa (plT (rwB b)) k)) (plT (rwB b)).length= -1):=hQq e1
    have HPE:Hid (zA8 b=(plT (rwB b)).take (plT (rwB b)).length ++ zK3 b ++ (plT (rwB b)).drop (plT (rwB b)).length):=hQq (by rw [HP.out,e2,List.take_length,List.drop_length,List.append_nil])
    have HINS:=hQq (HIN.out (plT (rwB b)).length (Nat.le_refl _))
    rw [<- HPE.out] at HINS
    rw [zAh] at HINS
    clear e1 e2
   case' inr=>
    have HIX:Hid (zG1 (fun k=>!zEo (zAa (plT (rwB b)) k)) (plT (rwB b)).length=(i:Int)):=hQq e1
    have HPE:Hid (zA8 b=(plT (rwB b)).take i ++ zK3 b ++ (plT (rwB b)).drop i):=hQq (by rw [HP.out,e2])
    have HINS:=hQq (HIN.out i (Nat.le_of_lt hi))
    rw [<- HPE.out] at HINS
    have q7:decide ((i:Int) < 0)=false:=decide_eq_false (by omega)
    clear e1 e2 hi
   all_goals
    by_cases hl9:120 < (zA8 b).length
    ·have q6:decide ((120:Int) < ((zA8 b).length:Int))=true:=decide_eq_true (by omega)
     have HL9:=hQq hl9
     clear hl9
     go_wp2_with (first
      | (go_at_call 69;refine HBU.out.mono ?_;rintro e w6 ⟨vo,rfl,ho,hbd⟩;obtain⟨a6,c6,rfl⟩:=ho.form;have HO6:=hQq ho;have HX6:=hQq (zHW HEC.out (by omega) hbd);have X0:=hQq (zA1 C0.out (by omega) hbd);have X1:=hQq (zA1 C1.out (by omega) hbd);have X2:=hQq (zA1 C2.out (by omega) hbd);have X3:=hQq (zA1 C3.out (by omega) hbd);have XD:=hQq (zA1 CD.out (by have:=HDL.out;omega) hbd);have HS6:Hid (W0.heap.size<=w6.heap.size/\Wc.heap.size<=w6.heap.size):=hQq ⟨Nat.le_of_lt (Nat.lt_of_le_of_lt HDL.out (bL XD.out)),zD9 hbd⟩;clear ho hbd)
      | (go_at_call 82;refine(zD7 Wc.heap.size _ _ (rwB b) (HO6.out.in okB) (by have:=HOL.out;omega) HOA.out).mono ?_;rintro e w7 ⟨⟨a7,c7,rfl,ho7⟩,hb7⟩;have HO7:=hQq (zAg.to ho7 (Nat.le_refl _));have HX7:=hQq (Ext.trans HX6.out hb7);have HZ7:=hQq hb7;have Y0:=hQq (bX hb7 X0.out);have y0:=bC Y0.out 0;have y0l:=bL Y0.out;clear ho7 hb7)
      | (go_at_call 83;refine(Calls.mono (by have h:=zNF w6.heap.size w7 _ (plT (rwB b)) (fun k=>!zEo (zAa (plT (rwB b)) k)) (HO7.out.in okT) (by rw [zAh];have:=HOL.out;omega) (fun k hk=>by rw [zAm _ k hk]);rw [HIX.out] at h;exact h) ?_);rintro e w8 ⟨rfl,hb8⟩;have HX8:=hQq (Ext.trans HX7.out hb8);have HZ8:=hQq (Ext.trans HZ7.out hb8);have HO8:=hQq (HO7.out.ext okT hb8);have V0:=hQq (bX hb8 Y0.out);have v0':=bC V0.out 0;have v0l:=bL V0.out;clear hb8)
      | (go_at_call 86;refine(zHd B _ _ b (HVw.out.ext okB HX8.out) (Nat.le_trans hB HX8.out.size) HSM.out HC24.out (fun c h1 h2=>zI9 H0.out c h1 h2)).mono ?_;rintro e w9 ⟨⟨a9,c9,rfl,ho9⟩,hb9⟩;have HP9:=hQq ho9;have HX9:=hQq (Ext.trans HX8.out hb9);have HZ9:=hQq (Ext.trans HZ8.out hb9);have HO9:=hQq (HO8.out.ext okT hb9);clear ho9 hb9)
      | (go_at_call 85;refine(Calls.mono (HINS.out w8 w9 _ _ w6.heap.size HO9.out HP9.out HZ9.out.size (fun q e1 e2=>by obtain⟨_,c',f',h'⟩:=HO8.out.row e1 q rfl;have:=bL h';have:=(HP9.out.row e2 q rfl).1;omega)) ?_);rintro e w10 ⟨a10,n10,c10,rfl,ho10,hb10⟩;obtain⟨_,_,en⟩:=ho10.form;injection en with ea en ec;subst ea;subst en;subst ec;have HOT:=hQq ho10;have HXT':=hQq (Below.trans HX9.out (hb10.mono HX6.out.size));have HZT:=hQq (Below.trans (HZ9.out) hb10);have HBT:=hQq (Nat.le_trans HZ9.out.size hb10.size);clear ho10 hb10;have T1:=hQq ((HZT.out.block _ (bL X1.out)).trans X1.out);have T2:=hQq ((HZT.out.block _ (bL X2.out)).trans X2.out);have T3:=hQq ((HZT.out.block _ (bL X3.out)).trans X3.out);have TD:=hQq ((HZT.out.block _ (bL XD.out)).trans XD.out);have t1:=bC T1.out 0;have tl1:=bL T1.out;have tf1:=bT T1.out 0;have t2:=bC T2.out 0;have tl2:=bL T2.out;have tf2:=bT T2.out 0;have t3:=bC T3.out 0;have tl3:=bL T3.out;have tf3:=bT T3.out 0)
      | fail)
     refine nW (P:=fun V=>bodyPostM _ _ _ _ _ _ _ V) _ ?_
     intro V3 hV3
     obtain⟨z1,z2,z3,z4,z5,z6,z7⟩:=zDb HXT'.out T1.out T2.out T3.out _ _ _ hV3
     have zD:=z7 _ _ TD.out (fun e=>by have:=HDL.out;have:=HE0.out.size;have:=HS0.out;omega) (fun e=>by have:=HDL.out;have:=HS0.out;omega) (fun e=>by have:=HDL.out;have:=HS0.out;omega)
     refine⟨by simp,.inl ⟨_,_,rfl,run_takeDeferred zD,?_⟩⟩
     have g4:=cell_kept (bC z1 0) (grownBy_putObj' _ D (.deferred none)) (fun r e=>by cases e;exact⟨_,zD,rfl⟩)
     have g5:=cell_kept (bC z2 0) (grownBy_putObj' _ D (.deferred none)) (fun r e=>by cases e;exact⟨_,zD,rfl⟩)
     have g6:=cell_kept (bC z3 0) (grownBy_putObj' _ D (.deferred none)) (fun r e=>by cases e;exact⟨_,zD,rfl⟩)
     refine⟨.tuple #[.slice none 0 0,.int .i64 0,.int .i64 3],?_,?_⟩
     ·simp [results,Tryz.f24,go_sem,g4,g5,g6]
     ·have hx:=Below.trans z4 (zAF (o':=.deferred none) zD (Nat.le_trans HE0.out.size HDL.out))
      rw [HAK.out,if_pos HL9.out]
      exact⟨⟨none,0,_,rfl,Nat.le_refl _,hx.size,zAg.nil _ _ _⟩,hx⟩
    ·have q6:decide ((120:Int) < ((zA8 b).length:Int))=false:=decide_eq_false (by omega)
     have HL9:=hQq hl9
     clear hl9
     go_upto_region 26 with (first
      | (go_at_call 69;refine HBU.out.mono ?_;rintro e w6 ⟨vo,rfl,ho,hbd⟩;obtain⟨a6,c6,rfl⟩:=ho.form;have HO6:=hQq ho;have HX6:=hQq (zHW HEC.out (by omega) hbd);have X0:=hQq (zA1 C0.out (by omega) hbd);have X1:=hQq (zA1 C1.out (by omega) hbd);have X2:=hQq (zA1 C2.out (by omega) hbd);have X3:=hQq (zA1 C3.out (by omega) hbd);have XD:=hQq (zA1 CD.out (by have:=HDL.out;omega) hbd);have HS6:Hid (W0.heap.size<=w6.heap.size/\Wc.heap.size<=w6.heap.size):=hQq ⟨Nat.le_of_lt (Nat.lt_of_le_of_lt HDL.out (bL XD.out)),zD9 hbd⟩;clear ho hbd)
      | (go_at_call 82;refine(zD7 Wc.heap.size _ _ (rwB b) (HO6.out.in okB) (by have:=HOL.out;omega) HOA.out).mono ?_;rintro e w7 ⟨⟨a7,c7,rfl,ho7⟩,hb7⟩;have HO7:=hQq (zAg.to ho7 (Nat.le_refl _));have HX7:=hQq (Ext.trans HX6.out hb7);have HZ7:=hQq hb7;have Y0:=hQq (bX hb7 X0.out);have y0:=bC Y0.out 0;have y0l:=bL Y0.out;clear ho7 hb7)
      | (go_at_call 83;refine(Calls.mono (by have h:=zNF w6.heap.size w7 _ (plT (rwB b)) (fun k=>!zEo (zAa (plT (rwB b)) k)) (HO7.out.in okT) (by rw [zAh];have:=HOL.out;omega) (fun k hk=>by rw [zAm _ k hk]);rw [HIX.out] at h;exact h) ?_);rintro e w8 ⟨rfl,hb8⟩;have HX8:=hQq (Ext.trans HX7.out hb8);have HZ8:=hQq (Ext.trans HZ7.out hb8);have HO8:=hQq (HO7.out.ext okT hb8);have V0:=hQq (bX hb8 Y0.out);have v0':=bC V0.out 0;have v0l:=bL V0.out;clear hb8)
      | (go_at_call 86;refine(zHd B _ _ b (HVw.out.ext okB HX8.out) (Nat.le_trans hB HX8.out.size) HSM.out HC24.out (fun c h1 h2=>zI9 H0.out c h1 h2)).mono ?_;rintro e w9 ⟨⟨a9,c9,rfl,ho9⟩,hb9⟩;have HP9:=hQq ho9;have HX9:=hQq (Ext.trans HX8.out hb9);have HZ9:=hQq (Ext.trans HZ8.out hb9);have HO9:=hQq (HO8.out.ext okT hb9);clear ho9 hb9)
      | (go_at_call 85;refine(Calls.mono (HINS.out w8 w9 _ _ w6.heap.size HO9.out HP9.out HZ9.out.size (fun q e1 e2=>by obtain⟨_,c',f',h'⟩:=HO8.out.row e1 q rfl;have:=bL h';have:=(HP9.out.row e2 q rfl).1;omega)) ?_);rintro e w10 ⟨a10,n10,c10,rfl,ho10,hb10⟩;obtain⟨_,_,en⟩:=ho10.form;injection en with ea en ec;subst ea;subst en;subst ec;have HOT:=hQq ho10;have HXT':=hQq (Below.trans HX9.out (hb10.mono HX6.out.size));have HZT:=hQq (Below.trans (HZ9.out) hb10);have HBT:=hQq (Nat.le_trans HZ9.out.size hb10.size);clear ho10 hb10;have T1:=hQq ((HZT.out.block _ (bL X1.out)).trans X1.out);have T2:=hQq ((HZT.out.block _ (bL X2.out)).trans X2.out);have T3:=hQq ((HZT.out.block _ (bL X3.out)).trans X3.out);have TD:=hQq ((HZT.out.block _ (bL XD.out)).trans XD.out);have t1:=bC T1.out 0;have tl1:=bL T1.out;have tf1:=bT T1.out 0;have t2:=bC T2.out 0;have tl2:=bL T2.out;have tf2:=bT T2.out 0;have t3:=bC T3.out 0;have tl3:=bL T3.out;have tf3:=bT T3.out 0)
      | fail)
     obtain⟨r,hr⟩:∃ r,r=zBh (zA8 b):=⟨_,rfl⟩
     have HCA:=hQq (zDD w6.heap.size w10 _ (zA8 b) (HOT.out.in okT) HBT.out (zFD H0.out))
     have HAR:Hid (awT b=((zBh (zA8 b)).1,0,(zBh (zA8 b)).2)):=hQq (by have h:=HAK.out;rw [if_neg HL9.out] at h;exact h)
     rw [<- hr] at HCA HAR
     clear hr
     obtain⟨rl,re⟩:=r
     go_upto_region 27 with (go_at_call 87;refine HCA.out.mono ?_;rintro e w11 ⟨⟨a11,c11,B11,he11,hB1,hB2,ho11⟩,hb11⟩;have he11:e=Ending.returned (.tuple #[.slice a11 rl.length c11,.int .i64 re]):=he11;subst he11;have ho11:zAg cdT B11 w11 (.slice a11 rl.length c11) rl:=ho11;clear t1 tl1 tf1 t2 tl2 tf2 t3 tl3 tf3;have HOC:=hQq ho11;have HB11:=hQq (And.intro hB1 hB2);have HXC:=hQq (Ext.trans HXT'.out hb11);have U1:=hQq (bX hb11 T1.out);have u1:=bC U1.out 0;have ul1:=bL U1.out;have uf1:=bT U1.out 0;have U2:=hQq (bX hb11 T2.out);have u2:=bC U2.out 0;have ul2:=bL U2.out;have uf2:=bT U2.out 0;have U3:=hQq (bX hb11 T3.out);have u3:=bC U3.out 0;have ul3:=bL U3.out;have uf3:=bT U3.out 0;have UD:=hQq (bX hb11 TD.out);clear ho11 hb11 hB1 hB2)
     generalize hW12:w11.setCell ⟨w.heap.size+1+1+1,0,none⟩ (.int .i64 re)=W12
     have HXQ:Hid (Ext w W12):=hQq (by rw [<- hW12];exact Below.setCell (p:=⟨w.heap.size+1+1+1,0,none⟩) HXC.out (by simp;omega) _)
     have Q1:Hid (W12.heap[w.heap.size+1]? = some (.cells #[.slice none 0 0] 33 (0,0))):=hQq (by rw [<- hW12];exact bSn U1.out _ _ (by dsimp only;omega))
     have Q2:Hid (W12.heap[w.heap.size+1+1]? = some (.cells #[.int .i64 0] 3 (0,0))):=hQq (by rw [<- hW12];exact bSn U2.out _ _ (by dsimp only;omega))
     have Q3:Hid (W12.heap[w.heap.size+1+1+1]? = some (.cells #[.int .i64 re] 29 (0,0))):=hQq (by rw [<- hW12];exact bS U3.out _)
     have QD:Hid (W12.heap[D]? = some (.deferred (some []))):=hQq (by rw [<- hW12];exact bSn UD.out _ _ (by dsimp only;have:=HDL.out;omega))
     have HKQ:Hid (∀ q o,w11.heap[q]? = some o->q ≠ w.heap.size+1+1+1->W12.heap[q]? = some o):=hQq (by rw [<- hW12];exact fun q o hq hne=>bSn hq _ _ (fun e=>hne (by first | exact e | exact e.symm)))
     have HSQ:Hid (w11.heap.size=W12.heap.size):=hQq (by rw [<- hW12];simp [World.setCell])
     clear hW12 u1 ul1 uf1 u2 ul2 uf2 u3 ul3 uf3
     have u1:=bC Q1.out 0;have ul1:=bL Q1.out;have uf1:=bT Q1.out 0;have u2:=bC Q2.out 0;have ul2:=bL Q2.out;have uf2:=bT Q2.out 0;have u3:=bC Q3.out 0;have ul3:=bL Q3.out;have uf3:=bT Q3.out 0
     go_region
     go_wp2
     refine nW (P:=fun V=>bodyPostM _ _ _ _ _ _ _ V) _ ?_
     intro V3 hV3
     obtain⟨V4,hV4⟩:∃ V4,V4=((W12.setCell ⟨w.heap.size+1,0,none⟩ (.slice a11 rl.length c11)).setCell ⟨w.heap.size+1+1,0,none⟩ (.int .i64 0)).setCell ⟨w.heap.size+1+1+1,0,none⟩ (.int .i64 re):=⟨_,rfl⟩
     rw [<- hV4] at hV3
     obtain⟨z1,z2,z3,z4,z5,z6,z7⟩:=zDb HXQ.out Q1.out Q2.out Q3.out _ _ _ hV4
     have zD:V3.heap[D]? = some (.deferred (some [])):=by
      rw [hV3]
      exact z7 _ _ QD.out (fun e=>by have:=HDL.out;have:=HS0.out;omega) (fun e=>by have:=HDL.out;have:=HS0.out;omega) (fun e=>by have:=HDL.out;have:=HS0.out;omega)
     have zX:Ext w V3:=by rw [hV3];exact Ext.trans z4 (eD _)
     have y1:V3.heap[w.heap.size+1]? = some (.cells #[.slice a11 rl.length c11] 33 (0,0)):=by rw [hV3];exact z1
     have y2:V3.heap[w.heap.size+1+1]? = some (.cells #[.int .i64 0] 3 (0,0)):=by rw [hV3];exact z2
     have y3:V3.heap[w.heap.size+1+1+1]? = some (.cells #[.int .i64 re] 29 (0,0)):=by rw [hV3];exact z3
     refine⟨by simp,.inl ⟨_,_,rfl,run_takeDeferred zD,?_⟩⟩
     have g4:=cell_kept (bC y1 0) (grownBy_putObj' _ D (.deferred none)) (fun r e=>by cases e;exact⟨_,zD,rfl⟩)
     have g5:=cell_kept (bC y2 0) (grownBy_putObj' _ D (.deferred none)) (fun r e=>by cases e;exact⟨_,zD,rfl⟩)
     have g6:=cell_kept (bC y3 0) (grownBy_putObj' _ D (.deferred none)) (fun r e=>by cases e;exact⟨_,zD,rfl⟩)
     refine⟨.tuple #[.slice a11 rl.length c11,.int .i64 0,.int .i64 re],?_,?_⟩
     ·simp [results,Tryz.f24,go_sem,g4,g5,g6]
     ·have hx:=Below.trans zX (zAF (o':=.deferred none) zD (Nat.le_trans HE0.out.size HDL.out))
      have hps:(V3.putObj D (.deferred none)).heap.size=w11.heap.size:=by rw [HSQ.out,<- z6,hV3];simp [World.putObj]
      rw [HAR.out]
      refine⟨⟨a11,c11,B11,rfl,Nat.le_trans HXT'.out.size HB11.out.1,by rw [hps];exact HB11.out.2,?_⟩,hx⟩
      refine zET (bad:=zXo w.heap.size D) HOC.out (fun q o hq hb=>?_) (Nat.le_of_eq hps.symm) (fun q off s hb e=>?_) (fun gq hgq hb=>?_)
      ·have h1:q ≠ w.heap.size+1:=fun e=>hb (.inl e)
       have h2:q ≠ w.heap.size+1+1:=fun e=>hb (.inr (.inl e))
       have h3:q ≠ w.heap.size+1+1+1:=fun e=>hb (.inr (.inr (.inl e)))
       have h4:q ≠ D:=fun e=>hb (.inr (.inr (.inr e)))
       refine(World.putObj_heap_other (by first | exact h4 | exact h4.symm)).trans ?_
       rw [hV3]
       exact z7 _ _ (HKQ.out _ _ hq h3) h1 h2 h3
      ·rcases hb with rfl | rfl | rfl | rfl
       ·rw [bC U1.out] at e;cases off <;> simp at e
       ·rw [bC U2.out] at e;cases off <;> simp at e
       ·rw [bC U3.out] at e;cases off <;> simp at e
       ·unfold World.cell? at e;rw [show w11.heap[(⟨q,off,none⟩:Addr).block]? = _ from UD.out] at e;cases e
      ·obtain⟨hgB,c9,f9,h9⟩:=HOC.out.row hgq gq rfl
       have hw:=HB11.out.1
       rcases hb with e | e | e | e
       ·have:=bL T1.out;omega
       ·have:=bL T2.out;omega
       ·have:=bL T3.out;omega
       ·rw [e,UD.out] at h9;cases h9
  have q4:decide ((0:Int) < zB0 b)=false:=decide_eq_false t1
  have HAK:=hQq (HAO.out (fun h=>by omega))
  have HP:Hid (zA8 b=plT (rwB b)):=hQq (if_neg t1)
  have x0:=bC D0.out 0;have x0l:=bL D0.out
  clear t1 hfull
  go_upto_region 18 with (go_at_call 80;refine(zGy B _ _ b HVI.out hlen).mono ?_;rintro e w5 ⟨rfl,hb5⟩;have HB5:=hQq hb5;have S0:=hQq (bX hb5 D0.out);have S1:=hQq (bX hb5 D1.out);have S2:=hQq (bX hb5 D2.out);have S3:=hQq (bX hb5 D3.out);have SD:=hQq (bX hb5 DD.out);have sa0:=bC S0.out 0;have sla0:=bL S0.out;have sfa0:=bT S0.out 0;have sa1:=bC S1.out 0;have sla1:=bL S1.out;have sfa1:=bT S1.out 0;have sa2:=bC S2.out 0;have sla2:=bL S2.out;have sfa2:=bT S2.out 0;have sa3:=bC S3.out 0;have sla3:=bL S3.out;have sfa3:=bT S3.out 0;have P5:=hQq (bX hb5 DP.out);have B5:=hQq (bX hb5 DB.out);have pa:=bC P5.out 1;have pal:=bL P5.out;have paf:=bT P5.out 2;have pan:=bC P5.out 2;have ba:=bC B5.out 0;have bal:=bL B5.out;have hlk:=(HM.out.ext hb5).look zAZ zBM (zDV w5) (0:Int) false;rw [if_neg Bool.false_ne_true,HF0.out,Option.getD_some] at hlk;unfold kI at hlk;have hfl:=(zFV a1 a2 a3 (acD (zAo b 0)).ats.length (acD (zAo b 0)).red.length (acD (zAo b 0)).ens.length ca cr ce (acD (zAo b 0)).opq w5).1;clear hb5)
  refine nW (P:=fun W=>Code.wp _ _ _ _ W) _ ?_
  intro Wc hWc
  replace hWc:Wc=w5.setCell ⟨mb+1,2,none⟩ (.func (.func 81) #[] #[]):=hWc
  have HPL:Hid (∀ o u,w5.cell? ⟨mb+1,o,none⟩=some u->plV u=false):=hQq (fun o u e=>by
   rw [bC P5.out] at e
   match o,e with
   | 0,e=>cases e;rfl
   | 1,e=>cases e;rfl
   | 2,e=>cases e;rfl
   | 3,e=>cases e;rfl
   | k+4,e=>simp at e)
  have HKP:Hid (zAA (some (mb+1)) w5 Wc/\w5.heap.size=Wc.heap.size):=hQq (by rw [hWc];exact⟨fun q o hq hne=>bSn hq _ _ (fun e=>hne (by rw [e])),by simp [World.setCell]⟩)
  have HEC:Hid (Ext w Wc):=hQq (by rw [hWc];exact Below.setCell (p:=⟨mb+1,2,none⟩) (Ext.trans HXT.out HB5.out) (by show w.heap.size<=mb+1;omega) _)
  have HBW:Hid (BdW Wc (mb+1) mb (.slice aa b.length cap) (.func (.func 81) #[] #[]) (.slice none 0 0) b (fun i=>acD (zAo b i))):=hQq (by
   refine⟨by rw [hWc];exact bS P5.out _,⟨nn,f,by rw [hWc];exact(HM.out.ext HB5.out).setCell _ _,fun i hi hk=>?_⟩,?_,rfl,rfl⟩
   ·obtain⟨v9,h8,h9⟩:=HF.out i hi hk
    exact⟨v9,h8,(((h9.ext HB5.out).mono (Nat.le_trans HB5.out.size (Nat.le_of_eq HKP.out.2))).keepX HKP.out.1 (Nat.le_of_eq HKP.out.2) (zGh HPL.out))⟩
   ·exact(zC4.keepY HKP.out.1 (Nat.le_of_eq HKP.out.2) HPL.out (HVI.out.ext okB HB5.out)).mono okB (Nat.le_trans hB HEC.out.size))
  have C0:=hQq (HKP.out.1 _ _ S0.out (fun e=>by injection e with e;omega));have C1:=hQq (HKP.out.1 _ _ S1.out (fun e=>by injection e with e;omega));have C2:=hQq (HKP.out.1 _ _ S2.out (fun e=>by injection e with e;omega));have C3:=hQq (HKP.out.1 _ _ S3.out (fun e=>by injection e with e;omega));have CD:=hQq (HKP.out.1 _ _ SD.out (fun e=>by injection e with e;have:=HDL.out;omega));have CB:=hQq (HKP.out.1 _ _ B5.out (fun e=>by injection e with e;omega))
  have cb0:=bC CB.out 0;have cbl:=bL CB.out
  clear sa0 sla0 sfa0 sa1 sla1 sfa1 sa2 sla2 sfa2 sa3 sla3 sfa3 hWc pa pal paf pan ba bal hlk hfl x0 x0l
  have HBU:=hQq (zL7 Wc (mb+1) mb 81 _ _ b (fun i=>acD (zAo b i)) (bkS 3) HBW.out HSM.out H0.out (enters_of Tryz.func81 (by kernel_rfl) rfl) (fun s V hs=>zTJ s V (by omega)) (fun i hi hk=>zM8 H0.out i hi hk) HBZ.out.1 HBZ.out.2 (by show (rwB b).length<=_;have:=zMr H0.out HWE.out;omega))
  have HOL:=hQq (zMr H0.out HWE.out);have HOA:=hQq (zTd H0.out)
  have HPN:Hid ((zA8 b).length=(rwB b).length):=hQq (by rw [HP.out,zAh])
  by_cases hl9:120 < (zA8 b).length
  ·have q6:decide ((120:Int) < ((rwB b).length:Int))=true:=decide_eq_true (by have:=HPN.out;omega)
   have HL9:=hQq hl9
   clear hl9
   go_wp2_with (first
    | (go_at_call 69;refine HBU.out.mono ?_;rintro e w6 ⟨vo,rfl,ho,hbd⟩;obtain⟨a6,c6,rfl⟩:=ho.form;have HO6:=hQq ho;have HX6:=hQq (zHW HEC.out (by omega) hbd);have X0:=hQq (zA1 C0.out (by omega) hbd);have X1:=hQq (zA1 C1.out (by omega) hbd);have X2:=hQq (zA1 C2.out (by omega) hbd);have X3:=hQq (zA1 C3.out (by omega) hbd);have XD:=hQq (zA1 CD.out (by have:=HDL.out;omega) hbd);have HS6:Hid (W0.heap.size<=w6.heap.size/\Wc.heap.size<=w6.heap.size):=hQq ⟨Nat.le_of_lt (Nat.lt_of_le_of_lt HDL.out (bL XD.out)),zD9 hbd⟩;clear ho hbd)
    | (go_at_call 82;refine(zD7 Wc.heap.size _ _ (rwB b) (HO6.out.in okB) (by have:=HOL.out;omega) HOA.out).mono ?_;rintro e w7 ⟨⟨a7,c7,rfl,ho7⟩,hb7⟩;have HO7:=hQq (zAg.to ho7 (Nat.le_refl _));have HX7:=hQq (Ext.trans HX6.out hb7);have HZ7:=hQq hb7;have Y0:=hQq (bX hb7 X0.out);have y0:=bC Y0.out 0;have y0l:=bL Y0.out;have T1:=hQq (bX hb7 X1.out);have T2:=hQq (bX hb7 X2.out);have T3:=hQq (bX hb7 X3.out);have TD:=hQq (bX hb7 XD.out);have t1:=bC T1.out 0;have tl1:=bL T1.out;have tf1:=bT T1.out 0;have t2:=bC T2.out 0;have tl2:=bL T2.out;have tf2:=bT T2.out 0;have t3:=bC T3.out 0;have tl3:=bL T3.out;have tf3:=bT T3.out 0;have HOT:Hid (zAg cdT w6.heap.size w7 _ (zA8 b)):=hQq (by rw [HP.out];exact HO7.out);have HXT':=HX7;have HBT:=hQq hb7.size;clear ho7 hb7)
    | fail)
   refine nW (P:=fun V=>bodyPostM _ _ _ _ _ _ _ V) _ ?_
   intro V3 hV3
   obtain⟨z1,z2,z3,z4,z5,z6,z7⟩:=zDb HXT'.out T1.out T2.out T3.out _ _ _ hV3
   have zD:=z7 _ _ TD.out (fun e=>by have:=HDL.out;have:=HE0.out.size;have:=HS0.out;omega) (fun e=>by have:=HDL.out;have:=HS0.out;omega) (fun e=>by have:=HDL.out;have:=HS0.out;omega)
   refine⟨by simp,.inl ⟨_,_,rfl,run_takeDeferred zD,?_⟩⟩
   have g4:=cell_kept (bC z1 0) (grownBy_putObj' _ D (.deferred none)) (fun r e=>by cases e;exact⟨_,zD,rfl⟩)
   have g5:=cell_kept (bC z2 0) (grownBy_putObj' _ D (.deferred none)) (fun r e=>by cases e;exact⟨_,zD,rfl⟩)
   have g6:=cell_kept (bC z3 0) (grownBy_putObj' _ D (.deferred none)) (fun r e=>by cases e;exact⟨_,zD,rfl⟩)
   refine⟨.tuple #[.slice none 0 0,.int .i64 0,.int .i64 3],?_,?_⟩
   ·simp [results,Tryz.f24,go_sem,g4,g5,g6]
   ·have hx:=Below.trans z4 (zAF (o':=.deferred none) zD (Nat.le_trans HE0.out.size HDL.out))
    rw [HAK.out,if_pos HL9.out]
    exact⟨⟨none,0,_,rfl,Nat.le_refl _,hx.size,zAg.nil _ _ _⟩,hx⟩
  ·have q6:decide ((120:Int) < ((rwB b).length:Int))=false:=decide_eq_false (by have:=HPN.out;omega)
   have HL9:=hQq hl9
   clear hl9
   go_upto_region 26 with (first
    | (go_at_call 69;refine HBU.out.mono ?_;rintro e w6 ⟨vo,rfl,ho,hbd⟩;obtain⟨a6,c6,rfl⟩:=ho.form;have HO6:=hQq ho;have HX6:=hQq (zHW HEC.out (by omega) hbd);have X0:=hQq (zA1 C0.out (by omega) hbd);have X1:=hQq (zA1 C1.out (by omega) hbd);have X2:=hQq (zA1 C2.out (by omega) hbd);have X3:=hQq (zA1 C3.out (by omega) hbd);have XD:=hQq (zA1 CD.out (by have:=HDL.out;omega) hbd);have HS6:Hid (W0.heap.size<=w6.heap.size/\Wc.heap.size<=w6.heap.size):=hQq ⟨Nat.le_of_lt (Nat.lt_of_le_of_lt HDL.out (bL XD.out)),zD9 hbd⟩;clear ho hbd)
    | (go_at_call 82;refine(zD7 Wc.heap.size _ _ (rwB b) (HO6.out.in okB) (by have:=HOL.out;omega) HOA.out).mono ?_;rintro e w7 ⟨⟨a7,c7,rfl,ho7⟩,hb7⟩;have HO7:=hQq (zAg.to ho7 (Nat.le_refl _));have HX7:=hQq (Ext.trans HX6.out hb7);have HZ7:=hQq hb7;have Y0:=hQq (bX hb7 X0.out);have y0:=bC Y0.out 0;have y0l:=bL Y0.out;have T1:=hQq (bX hb7 X1.out);have T2:=hQq (bX hb7 X2.out);have T3:=hQq (bX hb7 X3.out);have TD:=hQq (bX hb7 XD.out);have t1:=bC T1.out 0;have tl1:=bL T1.out;have tf1:=bT T1.out 0;have t2:=bC T2.out 0;have tl2:=bL T2.out;have tf2:=bT T2.out 0;have t3:=bC T3.out 0;have tl3:=bL T3.out;have tf3:=bT T3.out 0;have HOT:Hid (zAg cdT w6.heap.size w7 _ (zA8 b)):=hQq (by rw [HP.out];exact HO7.out);have HXT':=HX7;have HBT:=hQq hb7.size;clear ho7 hb7)
    | fail)
   obtain⟨r,hr⟩:∃ r,r=zBh (zA8 b):=⟨_,rfl⟩
   have HCA:=hQq (zDD w6.heap.size w7 _ (zA8 b) (HOT.out.in okT) HBT.out (zFD H0.out))
   have HAR:Hid (awT b=((zBh (zA8 b)).1,0,(zBh (zA8 b)).2)):=hQq (by have h:=HAK.out;rw [if_neg HL9.out] at h;exact h)
   rw [<- hr] at HCA HAR
   clear hr
   obtain⟨rl,re⟩:=r
   go_upto_region 27 with (go_at_call 87;refine HCA.out.mono ?_;rintro e w11 ⟨⟨a11,c11,B11,he11,hB1,hB2,ho11⟩,hb11⟩;have he11:e=Ending.returned (.tuple #[.slice a11 rl.length c11,.int .i64 re]):=he11;subst he11;have ho11:zAg cdT B11 w11 (.slice a11 rl.length c11) rl:=ho11;clear t1 tl1 tf1 t2 tl2 tf2 t3 tl3 tf3;have HOC:=hQq ho11;have HB11:=hQq (And.intro hB1 hB2);have HXC:=hQq (Ext.trans HXT'.out hb11);have U1:=hQq (bX hb11 T1.out);have u1:=bC U1.out 0;have ul1:=bL U1.out;have uf1:=bT U1.out 0;have U2:=hQq (bX hb11 T2.out);have u2:=bC U2.out 0;have ul2:=bL U2.out;have uf2:=bT U2.out 0;have U3:=hQq (bX hb11 T3.out);have u3:=bC U3.out 0;have ul3:=bL U3.out;have uf3:=bT U3.out 0;have UD:=hQq (bX hb11 TD.out);clear ho11 hb11 hB1 hB2)
   generalize hW12:w11.setCell ⟨w.heap.size+1+1+1,0,none⟩ (.int .i64 re)=W12
   have HXQ:Hid (Ext w W12):=hQq (by rw [<- hW12];exact Below.setCell (p:=⟨w.heap.size+1+1+1,0,none⟩) HXC.out (by simp;omega) _)
   have Q1:Hid (W12.heap[w.heap.size+1]? = some (.cells #[.slice none 0 0] 33 (0,0))):=hQq (by rw [<- hW12];exact bSn U1.out _ _ (by dsimp only;omega))
   have Q2:Hid (W12.heap[w.heap.size+1+1]? = some (.cells #[.int .i64 0] 3 (0,0))):=hQq (by rw [<- hW12];exact bSn U2.out _ _ (by dsimp only;omega))
   have Q3:Hid (W12.heap[w.heap.size+1+1+1]? = some (.cells #[.int .i64 re] 29 (0,0))):=hQq (by rw [<- hW12];exact bS U3.out _)
   have QD:Hid (W12.heap[D]? = some (.deferred (some []))):=hQq (by rw [<- hW12];exact bSn UD.out _ _ (by dsimp only;have:=HDL.out;omega))
   have HKQ:Hid (∀ q o,w11.heap[q]? = some o->q ≠ w.heap.size+1+1+1->W12.heap[q]? = some o):=hQq (by rw [<- hW12];exact fun q o hq hne=>bSn hq _ _ (fun e=>hne (by first | exact e | exact e.symm)))
   have HSQ:Hid (w11.heap.size=W12.heap.size):=hQq (by rw [<- hW12];simp [World.setCell])
   clear hW12 u1 ul1 uf1 u2 ul2 uf2 u3 ul3 uf3
   have u1:=bC Q1.out 0;have ul1:=bL Q1.out;have uf1:=bT Q1.out 0;have u2:=bC Q2.out 0;have ul2:=bL Q2.out;have uf2:=bT Q2.out 0;have u3:=bC Q3.out 0;have ul3:=bL Q3.out;have uf3:=bT Q3.out 0
   go_region
   go_wp2
   refine nW (P:=fun V=>bodyPostM _ _ _ _ _ _ _ V) _ ?_
   intro V3 hV3
   obtain⟨V4,hV4⟩:∃ V4,V4=((W12.setCell ⟨w.heap.size+1,0,none⟩ (.slice a11 rl.length c11)).setCell ⟨w.heap.size+1+1,0,none⟩ (.int .i64 0)).setCell ⟨w.heap.size+1+1+1,0,none⟩ (.int .i64 re):=⟨_,rfl⟩
   rw [<- hV4] at hV3
   obtain⟨z1,z2,z3,z4,z5,z6,z7⟩:=zDb HXQ.out Q1.out Q2.out Q3.out _ _ _ hV4
   have zD:V3.heap[D]? = some (.deferred (some [])):=by
    rw [hV3]
    exact z7 _ _ QD.out (fun e=>by have:=HDL.out;have:=HS0.out;omega) (fun e=>by have:=HDL.out;have:=HS0.out;omega) (fun e=>by have:=HDL.out;have:=HS0.out;omega)
   have zX:Ext w V3:=by rw [hV3];exact Ext.trans z4 (eD _)
   have y1:V3.heap[w.heap.size+1]? = some (.cells #[.slice a11 rl.length c11] 33 (0,0)):=by rw [hV3];exact z1
   have y2:V3.heap[w.heap.size+1+1]? = some (.cells #[.int .i64 0] 3 (0,0)):=by rw [hV3];exact z2
   have y3:V3.heap[w.heap.size+1+1+1]? = some (.cells #[.int .i64 re] 29 (0,0)):=by rw [hV3];exact z3
   refine⟨by simp,.inl ⟨_,_,rfl,run_takeDeferred zD,?_⟩⟩
   have g4:=cell_kept (bC y1 0) (grownBy_putObj' _ D (.deferred none)) (fun r e=>by cases e;exact⟨_,zD,rfl⟩)
   have g5:=cell_kept (bC y2 0) (grownBy_putObj' _ D (.deferred none)) (fun r e=>by cases e;exact⟨_,zD,rfl⟩)
   have g6:=cell_kept (bC y3 0) (grownBy_putObj' _ D (.deferred none)) (fun r e=>by cases e;exact⟨_,zD,rfl⟩)
   refine⟨.tuple #[.slice a11 rl.length c11,.int .i64 0,.int .i64 re],?_,?_⟩
   ·simp [results,Tryz.f24,go_sem,g4,g5,g6]
   ·have hx:=Below.trans zX (zAF (o':=.deferred none) zD (Nat.le_trans HE0.out.size HDL.out))
    have hps:(V3.putObj D (.deferred none)).heap.size=w11.heap.size:=by rw [HSQ.out,<- z6,hV3];simp [World.putObj]
    rw [HAR.out]
    refine⟨⟨a11,c11,B11,rfl,Nat.le_trans HXT'.out.size HB11.out.1,by rw [hps];exact HB11.out.2,?_⟩,hx⟩
    refine zET (bad:=zXo w.heap.size D) HOC.out (fun q o hq hb=>?_) (Nat.le_of_eq hps.symm) (fun q off s hb e=>?_) (fun gq hgq hb=>?_)
    ·have h1:q ≠ w.heap.size+1:=fun e=>hb (.inl e)
     have h2:q ≠ w.heap.size+1+1:=fun e=>hb (.inr (.inl e))
     have h3:q ≠ w.heap.size+1+1+1:=fun e=>hb (.inr (.inr (.inl e)))
     have h4:q ≠ D:=fun e=>hb (.inr (.inr (.inr e)))
     refine(World.putObj_heap_other (by first | exact h4 | exact h4.symm)).trans ?_
     rw [hV3]
     exact z7 _ _ (HKQ.out _ _ hq h3) h1 h2 h3
    ·rcases hb with rfl | rfl | rfl | rfl
     ·rw [bC U1.out] at e;cases off <;> simp at e
     ·rw [bC U2.out] at e;cases off <;> simp at e
     ·rw [bC U3.out] at e;cases off <;> simp at e
     ·unfold World.cell? at e;rw [show w11.heap[(⟨q,off,none⟩:Addr).block]? = _ from UD.out] at e;cases e
    ·obtain⟨hgB,c9,f9,h9⟩:=HOC.out.row hgq gq rfl
     have hw:=HB11.out.1
     rcases hb with e | e | e | e
     ·have:=bL T1.out;omega
     ·have:=bL T2.out;omega
     ·have:=bL T3.out;omega
     ·rw [e,UD.out] at h9;cases h9
end Go.Proofs.YtbeeoomadnmogaaGreat
