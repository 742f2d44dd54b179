/- WlkR FarO BsdV AwkO AfS AfD AfR AfF AfI AwK AwN AwT AwO AwZ AxB AxC AwG AwL AwE AwR AxD DirQ -/
import Derived.Test.YtbeeoomadnmogaaGreatQI5
import Derived.Test.YtbeeoomadnmogaaGreatQChkBx
import Derived.Test.YtbeeoomadnmogaaGreatQPthW
set_option maxRecDepth 100000
set_option maxHeartbeats 64000000
namespace Go.Proofs.YtbeeoomadnmogaaGreat
open Go.RowKit Go.Shelf
attribute [local go_sem] Oper.semAt_some
theorem zSS (B:Nat) (w:World) (v:Value) (b:List BrN) (hb:zC4 B w v b) (hsm:zBr b) (ht:zAs (plT b) ≠ 0) :
  zAt Tryz.prog 79 #[v] w (.tuple #[.int .i64 (zLW b),.int .i64 (zB1 b)]):=by
 unfold zAt
 obtain⟨aa,cap,rfl⟩:=hb.form
 have HV:=hQq (hb.ext okB (zG9 w (.slice aa b.length cap)));clear hb
 have HSM:=hQq hsm
 have hlen:=hsm.len
 clear hsm
 have HW:=hQq (zG9 w (.slice aa b.length cap))
 have HK:=hQq (zNm w (.slice aa b.length cap))
 unfold zTx at HV HW HK
 have HR:=hQq (zFY (zNn ht))
 have q1:(zAs (plT b) != 0)=true:=bne_iff_ne.2 ht
 clear ht
 go_enter Tryz.func79,Tryz.ntmps79
 go_wp2_with (first
  | (go_at_call 82;refine(zTy B _ _ b HV.out hlen HSM.out.ats).mono ?_;rintro e w1 ⟨⟨a5,cap5,rfl,ho⟩,hb1⟩;have HO1:=hQq ho;have HB1:=hQq hb1;clear ho hb1)
  | (go_at_call 63;refine(zDa _ _ (plT b) _ (HO1.out.in okT) HSM.out.tree).mono ?_;rintro e w2 ⟨rfl,hb2⟩;have HB2:=hQq (Ext.trans HB1.out hb2);have e1:=hQq (bX HB2.out HK.out.2.1);have e2:=hQq (bX HB2.out HK.out.2.2.1);have c1:w2.cell? ⟨w.heap.size+1,0,none⟩=some (.int .i64 0):=bC e1.out 0;have c2:w2.cell? ⟨w.heap.size+1+1,0,none⟩=some (.int .i64 0):=bC e2.out 0;have f1:w2.frozen? ⟨w.heap.size+1,0,none⟩=false:=(by simp [World.frozen?,e1.out]);have f2:w2.frozen? ⟨w.heap.size+1+1,0,none⟩=false:=(by simp [World.frozen?,e2.out]);clear hb2))
 obtain⟨d1,d2,d3⟩:=zLd (HW.out.trans HB2.out) c1 c2 (.int .i64 (zFp (plT b))) (.int .i64 (zAs (plT b)))
 refine bodyPost_ret (v:=.tuple #[.int .i64 (zFp (plT b)),.int .i64 (zAs (plT b))]) (by simp [results,Tryz.f79,go_sem,d1,d2]) rfl ?_
 exact⟨by rw [HR.out.1,HR.out.2],d3⟩
theorem zSR (B:Nat) (w:World) (v:Value) (b:List BrN) (hb:zC4 B w v b) (hsm:zBr b) (ht:zAs (plT b)=0) :
  zAt Tryz.prog 79 #[v] w (.tuple #[.int .i64 (zLW b),.int .i64 (zB1 b)]):=by
 unfold zAt
 obtain⟨aa,cap,rfl⟩:=hb.form
 have HVw:=hQq hb
 have HV:=hQq (hb.ext okB (zG9 w (.slice aa b.length cap)));clear hb
 have HSM:=hQq hsm
 have hlen:=hsm.len
 clear hsm
 have HW:=hQq (zG9 w (.slice aa b.length cap))
 have HK:=hQq (zNm w (.slice aa b.length cap))
 unfold zTx at HV HW HK
 have HT:=hQq ht
 have HZ:=hQq (zAf ht)
 have q1:(zAs (plT b) != 0)=false:=bne_eq_false_iff_eq.2 ht
 clear ht
 have hmm:=@run_makeMap Tryz.prog
 refine(callsIn_wide (n:=8)).1 ?_
 refine callsIn_of_wp_marks Tryz.func79 rfl trivial ?_ rfl
 refine wpIn_wide.2 ?_
 simp only [Tryz.ntmps79,List.size_toArray,List.length_cons,List.length_nil,Nat.reduceAdd,Nat.reduceSub,Array.replicate_succ,Array.replicate_zero,List.push_toArray,List.append_toArray,List.nil_append,List.cons_append]
 go_wp2_with (first
  | (go_at_call 82;refine(zTy B _ _ b HV.out hlen HSM.out.ats).mono ?_;rintro e w1 ⟨⟨a5,cap5,rfl,ho⟩,hb1⟩;have HO1:=hQq ho;have HB1:=hQq hb1;clear ho hb1)
  | (go_at_call 63;refine(zDa _ _ (plT b) _ (HO1.out.in okT) HSM.out.tree).mono ?_;rintro e w2 ⟨rfl,hb2⟩;have HB2:=hQq (Ext.trans HB1.out hb2);have e0:=hQq (bX HB2.out HK.out.1);have e1:=hQq (bX HB2.out HK.out.2.1);have e2:=hQq (bX HB2.out HK.out.2.2.1);have HS2:=hQq (Nat.le_trans (Nat.le_of_eq HK.out.2.2.2.symm) HB2.out.size);have c0:w2.cell? ⟨w.heap.size,0,none⟩=some (.slice aa b.length cap):=bC e0.out 0;have hbl:w.heap.size < w2.heap.size:=bL e0.out;clear hb2)
  | (go_at_call 143;refine(zQO _ _ _ _).mono ?_;rintro e w3 ⟨rfl,rfl⟩))
 refine nW (P:=fun W=>Code.wp _ _ _ _ W) _ ?_
 intro W0 hW0
 have HS0:Hid (W0.heap.size=w2.heap.size+3):=hQq (by rw [hW0];simp)
 have HE0:Hid (Ext w W0):=hQq (by rw [hW0];exact HW.out.trans (HB2.out.trans (((eA _ _).trans (eA _ _)).trans (eA _ _))))
 have HE2:Hid (Ext w2 W0):=hQq (by rw [hW0];exact((eA _ _).trans (eA _ _)).trans (eA _ _))
 have HM0:Hid (zAD kS W0 w2.heap.size 0 (fun _=>none)):=hQq (by rw [hW0];exact((zBI w2 kS).ext (eA _ _)).ext (eA _ _))
 have HM1:Hid (W0.heap[w2.heap.size+1]? = some (.cells #[.map (some w2.heap.size)] 76 (0,0))):=hQq (by rw [hW0];exact bA (zAH (by simp)))
 have HM2:Hid (W0.cell? ⟨w2.heap.size+1+1,0,none⟩=some (.slice aa b.length cap)):=hQq (by rw [hW0];exact bC (zAH (by simp)) 0)
 clear hW0 c0 hmm
 have hsz:=HS0.out
 have HWS:Hid (w.heap.size+3<=w2.heap.size):=HS2
 refine(wpIn_wide (n:=8)).1 ?_
 refine zFc (w:=W0) (w0:=W0) rfl (by omega) (gf:=185) (lb:=#[.pointer (some ⟨w2.heap.size+1+1,0,none⟩)]) rfl trivial (enters_of Tryz.func185 (by kernel_rfl) rfl)
  (zMh 7 (by omega) B w W0 _ b (w2.heap.size+1+1) HVw.out (Kc.of_ext HE0.out) HM2.out (by omega) hlen HZ.out.2.2.1) Kc.trans (fun W l o o' hl ho hc=>Kc.put ho hc) (bR _ _) (fun _=>rfl) zGT
  (fun pre W=>BrI w W0 w2.heap.size b pre.length W) (fun c _ W=>c= .ret/\BrX w b W)
  (fun s W W' h hx=>h.ab (by omega) HE0.out.size hx) (fun c s W W' h hx=>⟨h.1,h.2.ab (by have:=HWS.out;omega) hx⟩)
  ⟨fun j hj=>absurd hj (by simp),⟨_,_,HM0.out,zSd b⟩,Kc.refl _ _ _,HE0.out⟩
  (zXl w w2.heap.size b) (zST w w2.heap.size b) ?assign ?body ?done ?stop
 case assign=>
  intro l pre x W K hi hok hK
  unfold zJE
  gi_wp2
  exact hK _ _ (eA _ _) (Kc.of_ext (eA _ _)) ⟨W.heap.size,[_,undef,undef,undef,_,_,undef,undef,undef,_,_,_,_,_,_,_,_,_,_,_,_,_,_,_,_,_,_,_,_,_,_,_,_,_,_,_,_,_,_,_,_,_,_,_,_,_,_,_,_,_,_,_,_,_,_,_,_,_,_,_,_,_,_,_,_,_,_,_,_,_,_,_,_,_,_,_,_,_,_,_,_,_,_,_,_,_,_,_,_,_,_,_,_,_,_,_,_],bN W _,rfl⟩ ⟨hok.1,hok.2.ext okS (eA _ _)⟩
 case body=>
  rintro l pre x a2 W hI hlt hok ⟨Bx,M,hBx,rfl⟩
  obtain⟨xi,xa,xn,xc⟩:=x
  obtain⟨hxi,hxs⟩:=hok
  dsimp only at hxi hxs hBx ⊢
  subst hxi
  have HPI:Hid (∀ y:PlI,(pre ++ [y]).length=pre.length+1):=hQq (fun y=>by simp)
  generalize pre.length=k at hI hlt hBx hxs HPI ⊢
  have HI:=hQq hI;have HXS:=hQq hxs;have HBX:=hQq hBx
  have d0:=hQq (hI.kc.keep _ _ _ _ (.inr (Nat.zero_le _)) (bX HE2.out e0.out))
  have d1:=hQq (hI.kc.keep _ _ _ _ (.inr (Nat.zero_le _)) (bX HE2.out e1.out))
  have d2:=hQq (hI.kc.keep _ _ _ _ (.inr (Nat.zero_le _)) (bX HE2.out e2.out))
  have d3:=hQq (hI.kc.keep _ _ _ _ (.inr (Nat.zero_le _)) HM1.out)
  have HVI:=hQq (zEM HVw.out ((Kc.of_ext HE0.out).trans hI.kc))
  have p0:W.cell? ⟨w.heap.size,0,none⟩=some (.slice aa b.length cap):=bC d0.out 0
  have p1:W.cell? ⟨w.heap.size+1,0,none⟩=some (.int .i64 0):=bC d1.out 0
  have p2:W.cell? ⟨w.heap.size+1+1,0,none⟩=some (.int .i64 0):=bC d2.out 0
  have p3:W.cell? ⟨w2.heap.size+1,0,none⟩=some (.map (some w2.heap.size)):=bC d3.out 0
  have p4:W.cell? ⟨Bx,0,none⟩=some (.int .i64 (abv (plT b) k)):=bC hBx 0
  have p5:W.cell? ⟨Bx,1,none⟩=some (.slice xa xn xc):=bC hBx 1
  have f1:W.frozen? ⟨w.heap.size+1,0,none⟩=false:=by simp [World.frozen?,d1.out]
  have f2:W.frozen? ⟨w.heap.size+1+1,0,none⟩=false:=by simp [World.frozen?,d2.out]
  have z0:=bL d0.out;have z1:=bL d1.out;have z2:=bL d2.out;have z3:=bL d3.out;have z4:=bL hBx
  obtain⟨bb,off,va,vr,hex,hbb,hva,hvr,xx⟩:=HVI.out.br k hlt
  cases hex
  obtain⟨c0,c1,c2,c3,c4,c5,c6,c7,c8,c9⟩:=xx
  obtain⟨a4,cap4,rfl⟩:=hvr.form
  obtain⟨a3,cap3,rfl⟩:=hva.form
  have HG:=hQq (zAw b k hlt)
  have HVR:=hQq hvr
  have HRL:=hQq (HSM.out.red _ (List.getElem_mem hlt))
  generalize b[k]'hlt=x at c0 c1 c2 c3 c4 c5 c6 c7 c8 c9 HG HVR HRL
  have j1:((k:Nat):Int) < (b.length:Int):=by omega
  have j0:(0:Int)<=(k:Int):=by omega
  clear hva hvr hI hBx hxs
  by_cases hled:0 < x.red.length
  case neg=>
   have hled':=zVF hled
   have HLE:=hQq hled
   by_cases hw:x.opq=true/\x.kd ≠ 1
   ·have HR:=hQq (zFY (zC3 HT.out hlt HI.out.ok (by rw [zCB HG.out (.inl ⟨.inl hw.1,hw.2⟩)];decide)))
    have HM:=hQq (zCB HG.out (.inl ⟨.inl hw.1,hw.2⟩))
    have q1:(x.kd != 1)=true:=bne_iff_ne.2 hw.2
    rw [hw.1] at c8
    clear hw hled
    gi_wp2
    have HX:=zGG HI.out.ext d1.out d2.out (by rw [HM.out] at HR;exact HR.out)
    exact⟨((HX.2).trans (KeepsOthers.alloc _ _)).from _,rfl,HX.1.alloc _⟩
   have HW':=hQq hw
   have q1:x.opq=true->(x.kd != 1)=false:=fun h=>bne_eq_false_iff_eq.2 (Decidable.not_not.1 (fun e=>hw ⟨h,e⟩))
   have HMU:=hQq (zD4 HG.out hw hled)
   have HGL:Hid (¬ 0 < (zAk b k).red.length):=hQq (by rw [HG.out];exact hled)
   by_cases hk5:x.kd=5
   case neg=>
    have q5:(x.kd == 5)=false:=nB hk5
    have HM:Hid (zAO b k=0):=hQq (by rw [HMU.out,if_neg];unfold zDo;rw [HG.out,q5];simp)
    clear hk5 hw hled
    cases ho:x.opq
    ·rw [ho] at c8
     clear q1
     by_cases hz:k=0
     ·have q0:((k:Int) == 0)=true:=beq_iff_eq.2 (by omega)
      clear hz
      gi_wp2
      exact⟨(KeepsOthers.alloc _ _).from _,Kc.of_ext (eA _ _),by show BrI w W0 _ b (pre ++ [_]).length _;rw [HPI.out];exact HI.out.skip HM.out HGL.out (eA _ _)⟩
     ·have q0:((k:Int) == 0)=false:=nB (by omega)
      clear hz
      gi_wp2
      exact⟨(KeepsOthers.alloc _ _).from _,Kc.of_ext (eA _ _),by show BrI w W0 _ b (pre ++ [_]).length _;rw [HPI.out];exact HI.out.skip HM.out HGL.out (eA _ _)⟩
    ·rw [ho] at c8
     have q2:=q1 ho
     clear q1
     by_cases hz:k=0
     ·have q0:((k:Int) == 0)=true:=beq_iff_eq.2 (by omega)
      clear hz
      gi_wp2
      exact⟨(KeepsOthers.alloc _ _).from _,Kc.of_ext (eA _ _),by show BrI w W0 _ b (pre ++ [_]).length _;rw [HPI.out];exact HI.out.skip HM.out HGL.out (eA _ _)⟩
     ·have q0:((k:Int) == 0)=false:=nB (by omega)
      clear hz
      gi_wp2
      exact⟨(KeepsOthers.alloc _ _).from _,Kc.of_ext (eA _ _),by show BrI w W0 _ b (pre ++ [_]).length _;rw [HPI.out];exact HI.out.skip HM.out HGL.out (eA _ _)⟩
   have q5:(x.kd == 5)=true:=beq_iff_eq.2 hk5
   have ho:x.opq=false:=by
    cases ho:x.opq with
    | false=>rfl
    | true=>exact absurd ⟨ho,by rw [hk5];decide⟩ hw
   have hkn:k ≠ 0:=by
    rintro rfl
    obtain⟨s0,_⟩:=zAd (HZ.out.2.2.1 0 (by rw [zAh];exact hlt))
    have h1:=((zA4 s0).2.2.1 rfl).2
    rw [zAv b 0 hlt,HG.out] at h1
    have h1:x.kd=1:=h1
    rw [hk5] at h1;cases h1
   have hav:=zCN (plT b) k
   have hag:=zTK HZ.out.2.2.1 (i:=k) (by rw [zAh];exact hlt) hkn
   have q0:((k:Int) == 0)=false:=nB (by omega)
   rw [ho] at c8
   obtain⟨m,hm⟩:∃ m:Nat,abv (plT b) k=m:=⟨(abv (plT b) k).toNat,by omega⟩
   have HUN:=hQq (show zDo b k=(zAk b m).opq from by unfold zDo;rw [HG.out,q5,hm,Int.toNat_natCast,decide_eq_true (by omega)];rfl)
   rw [hm] at p4
   have hmb:m < b.length:=by omega
   obtain⟨bm',off',vam,vrm,hexm,hbbm,_,_,_,_,_,_,_,_,_,_,m8,_⟩:=HVI.out.br m hmb
   cases hexm
   rw [<- zAw b m hmb] at m8
   have j2:((m:Nat):Int) < (b.length:Int):=by omega
   have j3:(0:Int)<=(m:Int):=by omega
   clear hk5 hkn hav hag hm hw hled q1 ho
   cases hjo:(zAk b m).opq
   ·rw [hjo] at m8
    have HM:Hid (zAO b k=0):=hQq (by rw [HMU.out,HUN.out,hjo];rfl)
    clear hjo
    gi_wp2
    exact⟨(KeepsOthers.alloc _ _).from _,Kc.of_ext (eA _ _),by show BrI w W0 _ b (pre ++ [_]).length _;rw [HPI.out];exact HI.out.skip HM.out HGL.out (eA _ _)⟩
   ·rw [hjo] at m8
    have HM:Hid (zAO b k=6):=hQq (by rw [HMU.out,HUN.out,hjo];rfl)
    have HR:=hQq (zFY (zC3 HT.out hlt HI.out.ok (by rw [HM.out];decide)))
    clear hjo
    gi_wp2
    have HX:=zGG HI.out.ext d1.out d2.out (by rw [HM.out] at HR;exact HR.out)
    exact⟨((HX.2).trans (KeepsOthers.alloc _ _)).from _,rfl,HX.1.alloc _⟩
  have hled':=zVG hled
  by_cases hk1:x.kd=1
  case neg=>
   have HM:=hQq (zCB HG.out (.inl ⟨.inr hled,hk1⟩))
   have HR:=hQq (zFY (zC3 HT.out hlt HI.out.ok (by rw [HM.out];decide)))
   have q1:(x.kd != 1)=true:=bne_iff_ne.2 hk1
   clear hk1
   cases ho:x.opq
   all_goals
    rw [ho] at c8
    clear ho
    gi_wp2
    have HX:=zGG HI.out.ext d1.out d2.out (by rw [HM.out] at HR;exact HR.out)
    exact⟨((HX.2).trans (KeepsOthers.alloc _ _)).from _,rfl,HX.1.alloc _⟩
  have q1:(x.kd != 1)=false:=bne_eq_false_iff_eq.2 hk1
  have q5:(x.kd == 5)=false:=by rw [hk1];rfl
  by_cases hz:k=0
  ·have HM:=hQq (zCB HG.out (.inr ⟨hz,hled⟩))
   have HR:=hQq (zFY (zC3 HT.out hlt HI.out.ok (by rw [HM.out];decide)))
   have q0:((k:Int) == 0)=true:=beq_iff_eq.2 (by omega)
   clear hk1 hz
   cases ho:x.opq
   all_goals
    rw [ho] at c8
    clear ho
    gi_wp2
    have HX:=zGG HI.out.ext d1.out d2.out (by rw [HM.out] at HR;exact HR.out)
    exact⟨((HX.2).trans (KeepsOthers.alloc _ _)).from _,rfl,HX.1.alloc _⟩
  have q0:((k:Int) == 0)=false:=nB (by omega)
  cases ho:x.opq
  case true=>
   have HM:=hQq (zIx HG.out hk1 hz ho hled)
   have HR:=hQq (zFY (zC3 HT.out hlt HI.out.ok (by rw [HM.out];decide)))
   rw [ho] at c8
   clear hk1 hz ho
   gi_wp2
   have HX:=zGG HI.out.ext d1.out d2.out (by rw [HM.out] at HR;exact HR.out)
   exact⟨((HX.2).trans (KeepsOthers.alloc _ _)).from _,rfl,HX.1.alloc _⟩
  have HC:=hQq (And.intro hk1 (And.intro hz (And.intro ho hled)))
  rw [ho] at c8
  clear hk1 hz ho
  have hln:1<=8 - 1 - 1:=by omega
  by_cases hpe:zAY x.red=0
  case neg=>
   have HM:=hQq (zIw HG.out HC.out.1 HC.out.2.1 HC.out.2.2.1 HC.out.2.2.2 hpe)
   have HR:=hQq (zFY (zC3 HT.out hlt HI.out.ok (by rw [HM.out];exact hpe)))
   have q2:(zAY x.red != 0)=true:=bne_iff_ne.2 hpe
   clear hpe
   gi_wp2_with (refine⟨trivial,?_⟩;gi_at_call 144;refine(CallsIn.inRound l (callsIn_wide.2 (zES _ _ x.red (zBd HVR.out (eA _ _))))).mono ?_;rintro e V ⟨rfl,hb1⟩;have HE:=hQq ((eA W _).trans hb1);have v1:V.cell? ⟨w.heap.size+1,0,none⟩=some (.int .i64 0):=bC (bX HE.out d1.out) 0;have v2:V.cell? ⟨w.heap.size+1+1,0,none⟩=some (.int .i64 0):=bC (bX HE.out d2.out) 0;have g1:V.frozen? ⟨w.heap.size+1,0,none⟩=false:=(by simp [World.frozen?,bX HE.out d1.out]);have g2:V.frozen? ⟨w.heap.size+1+1,0,none⟩=false:=(by simp [World.frozen?,bX HE.out d2.out]);clear hb1)
   have HX:=zGG (HI.out.ext.trans HE.out) (bX HE.out d1.out) (bX HE.out d2.out) (by rw [HM.out] at HR;exact HR.out)
   exact⟨((zDO HE.out).trans HX.2).from _,rfl,HX.1⟩
  have q2:(zAY x.red != 0)=false:=bne_eq_false_iff_eq.2 hpe
  have HPE:=hQq hpe
  have HPS:Hid (prS x.red=zFq x.red):=hQq (if_pos hpe)
  have HXS:=hQq HXS.out.strs
  clear hpe
  by_cases heq:x.red=zAx (plT b) k
  ·have HM:=hQq (zIu HG.out HC.out.1 HC.out.2.1 HC.out.2.2.1 HC.out.2.2.2 HPE.out heq)
   have HR:=hQq (zFY (zC3 HT.out hlt HI.out.ok (by rw [HM.out];decide)))
   have HQ:=hQq (decide_eq_true heq)
   clear heq
   gi_wp2_with (first
    | (refine⟨trivial,?_⟩;gi_at_call 144;refine(CallsIn.inRound l (callsIn_wide.2 (zES _ _ x.red (zBd HVR.out (eA _ _))))).mono ?_;rintro e V ⟨rfl,hb1⟩;have HE:=hQq ((eA W _).trans hb1);have HXB:Hid (V.heap[W.heap.size]? = some (.cells #[.int .i64 x.dep,.string x.nm,.int .i64 x.kd,.slice a3 x.ats.length cap3,.string x.dat,.int .i64 x.ma,.int .i64 x.mi,.int .i64 x.cl,.bool false,.slice a4 x.red.length cap4] 46 (0,0))):=hQq (bX hb1 (bN W _));rw [HPS.out];have y9:V.cell? ⟨W.heap.size,9,none⟩=some (.slice a4 x.red.length cap4):=bC HXB.out 9;have y1:V.cell? ⟨Bx,1,none⟩=some (.slice xa xn xc):=bC (bX HE.out HBX.out) 1;clear hb1)
    | (refine⟨trivial,?_⟩;gi_at_call 145;refine(CallsIn.inRound l (callsIn_wide.2 (zGQ _ _ x.red (zAx (plT b) k) V (zBd HVR.out HE.out) (HXS.out.ext HE.out) (by have:=HRL.out.1;omega)))).mono ?_;rintro e U ⟨rfl,hb2⟩;have HE3:=hQq (HE.out.trans hb2);rw [HQ.out];have v1:U.cell? ⟨w.heap.size+1,0,none⟩=some (.int .i64 0):=bC (bX HE3.out d1.out) 0;have v2:U.cell? ⟨w.heap.size+1+1,0,none⟩=some (.int .i64 0):=bC (bX HE3.out d2.out) 0;have g1:U.frozen? ⟨w.heap.size+1,0,none⟩=false:=(by simp [World.frozen?,bX HE3.out d1.out]);have g2:U.frozen? ⟨w.heap.size+1+1,0,none⟩=false:=(by simp [World.frozen?,bX HE3.out d2.out]);clear hb2))
   have HX:=zGG (HI.out.ext.trans HE3.out) (bX HE3.out d1.out) (bX HE3.out d2.out) (by rw [HM.out] at HR;exact HR.out)
   exact⟨((zDO HE3.out).trans HX.2).from _,rfl,HX.1⟩
  have HNE:=hQq heq
  have HQ:=hQq (decide_eq_false heq)
  clear heq
  obtain⟨nm,Fm,hma,hmo⟩:=HI.out.met
  have HMO:=hQq hmo
  have HBM:Hid (w2.heap.size < W.heap.size):=hQq (by have:=HI.out.kc.size;omega)
  have HLK0:=zSg hmo HPE.out HC.out.2.2.2
  cases hsn:zFd b x.red k
  case true=>
   have HM:=hQq (zIv HG.out HC.out.1 HC.out.2.1 HC.out.2.2.1 HC.out.2.2.2 HPE.out HNE.out hsn)
   have HR:=hQq (zFY (zC3 HT.out hlt HI.out.ok (by rw [HM.out];decide)))
   have HLK:Hid ((Fm (zFq x.red)).getD (.bool false)= .bool true):=hQq (by rw [HLK0,hsn])
   have HMA:=hQq hma
   clear hsn HLK0 hmo hma
   gi_wp2_with (first
    | (refine⟨trivial,?_⟩;gi_at_call 144;refine(CallsIn.inRound l (callsIn_wide.2 (zES _ _ x.red (zBd HVR.out (eA _ _))))).mono ?_;rintro e V ⟨rfl,hb1⟩;have HE:=hQq ((eA W _).trans hb1);have HXB:Hid (V.heap[W.heap.size]? = some (.cells #[.int .i64 x.dep,.string x.nm,.int .i64 x.kd,.slice a3 x.ats.length cap3,.string x.dat,.int .i64 x.ma,.int .i64 x.mi,.int .i64 x.cl,.bool false,.slice a4 x.red.length cap4] 46 (0,0))):=hQq (bX hb1 (bN W _));rw [HPS.out];have y9:V.cell? ⟨W.heap.size,9,none⟩=some (.slice a4 x.red.length cap4):=bC HXB.out 9;have y1:V.cell? ⟨Bx,1,none⟩=some (.slice xa xn xc):=bC (bX HE.out HBX.out) 1;clear hb1)
    | (refine⟨trivial,?_⟩;gi_at_call 145;refine(CallsIn.inRound l (callsIn_wide.2 (zGQ _ _ x.red (zAx (plT b) k) V (zBd HVR.out HE.out) (HXS.out.ext HE.out) (by have:=HRL.out.1;omega)))).mono ?_;rintro e U ⟨rfl,hb2⟩;have HE3:=hQq (HE.out.trans hb2);rw [HQ.out];have v1:U.cell? ⟨w.heap.size+1,0,none⟩=some (.int .i64 0):=bC (bX HE3.out d1.out) 0;have v2:U.cell? ⟨w.heap.size+1+1,0,none⟩=some (.int .i64 0):=bC (bX HE3.out d2.out) 0;have g1:U.frozen? ⟨w.heap.size+1,0,none⟩=false:=(by simp [World.frozen?,bX HE3.out d1.out]);have g2:U.frozen? ⟨w.heap.size+1+1,0,none⟩=false:=(by simp [World.frozen?,bX HE3.out d2.out]);have v3:U.cell? ⟨w2.heap.size+1,0,none⟩=some (.map (some w2.heap.size)):=bC (bX HE3.out d3.out) 0;have HX2:Hid (U.heap[W.heap.size]? = some (.cells #[.int .i64 x.dep,.string x.nm,.int .i64 x.kd,.slice a3 x.ats.length cap3,.string x.dat,.int .i64 x.ma,.int .i64 x.mi,.int .i64 x.cl,.bool false,.slice a4 x.red.length cap4] 46 (0,0))):=hQq (bX hb2 HXB.out);have HMU:=hQq (HMA.out.ext HE3.out);clear hb2)
    | (gi_at_lookup;refine zJ9 rfl (.tmp 79) (.tmp 80) 76 false rfl 9 4 zEC zFH (.bool false) zIQ rfl HMU.out (zFq x.red) rfl ?_;rw [if_neg Bool.false_ne_true,HLK.out]))
   have HX:=zGG (HI.out.ext.trans HE3.out) (bX HE3.out d1.out) (bX HE3.out d2.out) (by rw [HM.out] at HR;exact HR.out)
   exact⟨((zDO HE3.out).trans HX.2).from _,rfl,HX.1⟩
  have HM:=hQq (zKu HG.out HC.out.1 HC.out.2.1 HC.out.2.2.1 HC.out.2.2.2 HPE.out HNE.out hsn)
  have HLK:Hid ((Fm (zFq x.red)).getD (.bool false)= .bool false):=hQq (by rw [HLK0,hsn])
  have HMA:=hQq hma
  clear hsn HLK0 hmo hma
  gi_wp2_with (first
   | (refine⟨trivial,?_⟩;gi_at_call 144;refine(CallsIn.inRound l (callsIn_wide.2 (zES _ _ x.red (zBd HVR.out (eA _ _))))).mono ?_;rintro e V ⟨rfl,hb1⟩;have HE:=hQq ((eA W _).trans hb1);have HXB:Hid (V.heap[W.heap.size]? = some (.cells #[.int .i64 x.dep,.string x.nm,.int .i64 x.kd,.slice a3 x.ats.length cap3,.string x.dat,.int .i64 x.ma,.int .i64 x.mi,.int .i64 x.cl,.bool false,.slice a4 x.red.length cap4] 46 (0,0))):=hQq (bX hb1 (bN W _));rw [HPS.out];have y9:V.cell? ⟨W.heap.size,9,none⟩=some (.slice a4 x.red.length cap4):=bC HXB.out 9;have y1:V.cell? ⟨Bx,1,none⟩=some (.slice xa xn xc):=bC (bX HE.out HBX.out) 1;clear hb1)
   | (refine⟨trivial,?_⟩;gi_at_call 145;refine(CallsIn.inRound l (callsIn_wide.2 (zGQ _ _ x.red (zAx (plT b) k) V (zBd HVR.out HE.out) (HXS.out.ext HE.out) (by have:=HRL.out.1;omega)))).mono ?_;rintro e U ⟨rfl,hb2⟩;have HE3:=hQq (HE.out.trans hb2);rw [HQ.out];have v3:U.cell? ⟨w2.heap.size+1,0,none⟩=some (.map (some w2.heap.size)):=bC (bX HE3.out d3.out) 0;have HX2:Hid (U.heap[W.heap.size]? = some (.cells #[.int .i64 x.dep,.string x.nm,.int .i64 x.kd,.slice a3 x.ats.length cap3,.string x.dat,.int .i64 x.ma,.int .i64 x.mi,.int .i64 x.cl,.bool false,.slice a4 x.red.length cap4] 46 (0,0))):=hQq (bX hb2 HXB.out);have HMU:=hQq (HMA.out.ext HE3.out);clear hb2)
   | (gi_at_lookup;refine zJ9 rfl (.tmp 79) (.tmp 80) 76 false rfl 9 4 zEC zFH (.bool false) zIQ rfl HMU.out (zFq x.red) rfl ?_;rw [if_neg Bool.false_ne_true,HLK.out])
   | (gi_at_mapUpdate;refine zIf rfl (.tmp 83) (.tmp 84) (.const (.bool true)) 76 rfl 9 4 zEC zFH rfl HMU.out (zFq x.red) (.bool true) rfl rfl ?_;intro U3 hm3 hg3;have HM3:=hQq hm3;have HG3:=hQq hg3;have y2:U3.cell? ⟨W.heap.size,2,none⟩=some (.int .i64 x.kd):=bC (zAU hg3 HX2.out (fun e=>by injection e with e;have:=HBM.out;omega)) 2;clear hm3 hg3))
  have HGP:Hid (zAY (zAk b k).red=0):=hQq (by rw [HG.out];exact HPE.out)
  obtain⟨es3,cl3,hb3,_⟩:=HMU.out
  refine⟨((zDO HE3.out).from _).trans (KeepsFrom.of_grownBy HG3.out (fun j e=>by cases e;omega)),(Kc.of_ext HE3.out).trans ?_,?_⟩
  ·have h:=zMX hb3 HG3.out
   exact⟨h.size,fun j cs e f _=>h.keep j cs e f (.inr (Nat.zero_le _))⟩
  ·show BrI w W0 _ b (pre ++ [_]).length _
   rw [HPI.out]
   exact HI.out.led HM.out HGP.out (by have:=HWS.out;omega) HE3.out HMU.out HMO.out HG3.out (by rw [HG.out];exact HM3.out)
 case done=>
  intro D xs W hD hS hI hdf
  have d1:=hQq (hI.kc.keep _ _ _ _ (.inr (Nat.zero_le _)) (bX HE2.out e1.out))
  have d2:=hQq (hI.kc.keep _ _ _ _ (.inr (Nat.zero_le _)) (bX HE2.out e2.out))
  have HI:=hQq hI
  have HS:=hQq hS
  have HD:=hQq hdf;have HDL:=hQq hD
  have c1:W.cell? ⟨w.heap.size+1,0,none⟩=some (.int .i64 0):=bC d1.out 0
  have c2:W.cell? ⟨w.heap.size+1+1,0,none⟩=some (.int .i64 0):=bC d2.out 0
  have f1:W.frozen? ⟨w.heap.size+1,0,none⟩=false:=by simp [World.frozen?,d1.out]
  have f2:W.frozen? ⟨w.heap.size+1+1,0,none⟩=false:=by simp [World.frozen?,d2.out]
  clear hI hS hdf hD
  go_wp2
  obtain⟨g1,g2,g3⟩:=zLd HI.out.ext c1 c2 (.int .i64 0) (.int .i64 0)
  have hK':=(KeepsOthers.setCell (W.setCell ⟨w.heap.size+1,0,none⟩ (.int .i64 0)) ⟨w.heap.size+1+1,0,none⟩ (.int .i64 0)).same D _ ((KeepsOthers.setCell W ⟨w.heap.size+1,0,none⟩ (.int .i64 0)).same D _ HD.out rfl) rfl
  refine⟨by simp,.inl ⟨_,_,rfl,run_takeDeferred hK',?_⟩⟩
  have g4:=cell_kept g1 (grownBy_putObj' _ D (.deferred none)) (fun r e=>by cases e;exact⟨_,hK',rfl⟩)
  have g5:=cell_kept g2 (grownBy_putObj' _ D (.deferred none)) (fun r e=>by cases e;exact⟨_,hK',rfl⟩)
  have HR:=zFY (zQP HT.out (by have h:=HI.out.ok;rw [HS.out] at h;exact h))
  refine⟨.tuple #[.int .i64 0,.int .i64 0],?_,by rw [HR.1,HR.2],Below.trans g3 (zAF hK' (Nat.le_trans HE0.out.size HDL.out))⟩
  simp [results,Tryz.f79,go_sem,g4,g5]
 case stop=>
  rintro D c pre W hD _ ⟨rfl,hx⟩ hdf
  have HDL:=hQq hD;have HX:=hQq hx;have HD:=hQq hdf
  clear hD hx hdf
  refine wpIn_wide.2 ?_
  go_wp2
  have g1:W.cell? ⟨w.heap.size+1,0,none⟩=some (.int .i64 (zLW b)):=bC HX.out.no 0
  have g2:W.cell? ⟨w.heap.size+1+1,0,none⟩=some (.int .i64 (zB1 b)):=bC HX.out.er 0
  refine⟨by simp,.inl ⟨_,_,rfl,run_takeDeferred HD.out,?_⟩⟩
  have g4:=cell_kept g1 (grownBy_putObj' _ D (.deferred none)) (fun r e=>by cases e;exact⟨_,HD.out,rfl⟩)
  have g5:=cell_kept g2 (grownBy_putObj' _ D (.deferred none)) (fun r e=>by cases e;exact⟨_,HD.out,rfl⟩)
  refine⟨.tuple #[.int .i64 (zLW b),.int .i64 (zB1 b)],?_,rfl,Below.trans HX.out.ext (zAF HD.out (Nat.le_trans HE0.out.size HDL.out))⟩
  simp [results,Tryz.f79,go_sem,g4,g5]
theorem zLX (B:Nat) (w:World) (v:Value) (b:List BrN) (hb:zC4 B w v b) (hsm:zBr b) :
  zAt Tryz.prog 79 #[v] w (.tuple #[.int .i64 (zLW b),.int .i64 (zB1 b)]):=by
 by_cases h:zAs (plT b)=0
 ·exact zSR B w v b hb hsm h
 ·exact zSS B w v b hb hsm h
end Go.Proofs.YtbeeoomadnmogaaGreat
namespace Go.Proofs.YtbeeoomadnmogaaGreat
open Go.RowKit
theorem Few.mono {n m:Nat} {l:List zAr} (h:Few n l) (hnm:n<=m):Few m l:=⟨h.1,fun a ha=>by have:=h.2 a ha;omega⟩
theorem zQN {b:List BrN} (h:zB1 b=0) {j:Nat} (hj:j < b.length):zBR (zAk b j).ats=0:=by
 obtain⟨t0,_,_⟩:=zAp h
 have:=zSu t0 (k:=j) (by rw [zAh];exact hj)
 rw [zAv b j hj] at this
 exact this
def zXS {α:Type} (C:Cd α) (w:World) (n:Nat) (l:List α) (e:Ending) (w':World):Prop:=(∃ g c,e= .returned (.slice (some ⟨g,0,none⟩) n c)/\zAg C w.heap.size w' (.slice (some ⟨g,0,none⟩) n c) l/\w.heap.size<=g/\g < w'.heap.size)/\Ext w w'
theorem zJZ {d:DiN} (hd:zH5 d.ens) (h:∀ x ∈ d.ens,aeE x=0):zH5 (acL d):=by
 unfold acL zH5 zDl
 rw [List.pairwise_append]
 refine⟨?_,?_,fun a ha b hb=>?_⟩
 ·rw [List.pairwise_map]
  refine List.Pairwise.imp_of_mem (fun {a b} ha hb hab e=>?_) hd
  have e:=zBJ e
  have za:=zEc (h a ha);have zb:=zEc (h b hb)
  cases ea:a.wh <;> cases eb:b.wh
  ·rw [zBp ea,zBp eb] at e
   exact hab (congrArg L (zRa (za.2 ea) (zb.2 eb) e))
  ·rw [zBp ea,zBv eb] at e
   exact zND (za.2 ea) (zb.1 eb) e
  ·rw [zBv ea,zBp eb] at e
   exact zND (zb.2 eb) (za.1 ea) e.symm
  ·rw [zBv ea,zBv eb] at e
   exact hab (congrArg L (zQ9 (za.1 ea) (zb.1 eb) e))
 ·split
  ·exact List.pairwise_singleton _ _
  ·exact List.Pairwise.nil
 ·obtain⟨x,hx,rfl⟩:=List.mem_map.1 ha
  split at hb
  case isFalse=>cases hb
  obtain rfl:=List.mem_singleton.1 hb
  intro e
  have e:=zBJ e
  have zx:=zEc (h x hx)
  cases ex:x.wh
  ·rw [zBp ex] at e;exact zKV (zx.2 ex) e
  ·rw [zBv ex] at e;exact zKU (zx.1 ex) e
theorem zSE {d:DiN} (h:zDA d=0) {k:Nat} (hk:k+1 < d.ens.length):L (zA6 d.ens k).nm < L (zA6 d.ens (k+1)).nm:=by
 have h5:zEh d.opq (zCZ d.ens (k+1)) (zA6 d.ens (k+1))=0:=(zA0 h).2.2.2.2.2 (k+1) hk
 obtain⟨_,h1,h2,_⟩:=zCm h5
 have e:zCZ d.ens (k+1)=(zA6 d.ens k).nm:=by
  unfold zCZ
  first
   | rfl
   | (rw [if_neg (by omega)];rfl)
   | simp
 rw [e] at h1 h2
 rcases Std.lt_trichotomy (L (zA6 d.ens k).nm) (L (zA6 d.ens (k+1)).nm) with x | x | x
 ·exact x
 ·exact absurd (zBJ x).symm h1
 ·exact absurd x h2
theorem zHQ {d:DiN} (h:zDA d=0):∀ {j k:Nat},j < k->k < d.ens.length->L (zA6 d.ens j).nm < L (zA6 d.ens k).nm:=by
 intro j k hjk
 induction k with
 | zero=>exact absurd hjk (by omega)
 | succ k ih=>
  intro hk
  have hs:=zSE h hk
  by_cases e:j=k
  ·subst e;exact hs
  ·exact List.lt_trans (ih (by omega) (by omega)) hs
theorem zCJ {d:DiN} (h:zDA d=0):zH5 d.ens:=by
 unfold zH5 zDl
 rw [List.pairwise_iff_getElem]
 intro i j hi hj hij e
 have:=zHQ h hij hj
 rw [zAy _ _ hi,zAy _ _ hj,e] at this
 exact List.lt_irrefl _ this
theorem zE6 (d:Int) (s:ByteArray):((bkE d s == 0)=false/\bkS d s=⟨#[]⟩/\bkW d s=0) \/
  (bkE d s=0/\bkW d s=1/\nmE d (bkS d s)=0/\nmS d (bkS d s)=s) \/
  (bkE d s=0/\bkW d s=2/\d=3/\wtE d (bkS d s)=0/\wtS d (bkS d s)=s) \/
  (bkE d s=0/\bkW d s=3/\d=3/\bkS d s=⟨#[]⟩/\s=⟨#[46,119,104,46,46,119,104,46,111,112,113]⟩) \/
  (bkE d s=0/\bkW d s=4/\d=3/\bkS d s=⟨#[]⟩/\s=⟨#[46,119,104,46,46,119,104,46,112,108,110,107]⟩):=by
 have e0:L (bkS d s)=(zDn d (L s)).1:=zMc _
 rcases zOq (d:=d) (raw:=L s) with ⟨h1,h2,h3⟩ | ⟨h1,h0,hm⟩
 ·refine .inl ⟨nB h1,?_,h3⟩
  apply zBJ;rw [e0,h2];rfl
 ·obtain⟨hd,hn⟩:=zCo h0
  have hz:=(zCA hn).2.2.2.2
  rw [<- e0] at hm
  rcases hm with ⟨w1,k1,k2⟩ | ⟨w1,rfl,k1,k2⟩ | ⟨w1,rfl,k1,k2⟩ | ⟨w1,rfl,k1,k2⟩
  ·obtain⟨f1,f2⟩:=zW6 k1 (by rw [k2];exact hz)
   refine .inr (.inl ⟨h1,w1,f1,?_⟩)
   rw [f2];apply zBJ;rw [zMa];exact k2
  ·obtain⟨f1,f2⟩:=zWW k1 (by rw [k2];exact hz)
   refine .inr (.inr (.inl ⟨h1,w1,rfl,f1,?_⟩))
   rw [f2];apply zBJ;rw [zMb];exact k2
  ·exact .inr (.inr (.inr (.inl ⟨h1,w1,rfl,zBJ (by rw [k1];rfl),zBJ k2⟩)))
  ·exact .inr (.inr (.inr (.inr ⟨h1,w1,rfl,zBJ (by rw [k1];rfl),zBJ k2⟩)))
theorem zSt {E:Nat->Int} {n:Nat} (h:(gnI E n).2=0):∀ j,j < n->E j=0:=by
 unfold gnI at h
 cases hf:zBs (fun i=>E i != 0) 0 n with
 | some i=>
  rw [hf] at h
  exact absurd h (bne_iff_ne.1 (zBo _ _ _ hf).1)
 | none=>exact fun j hj=>bne_eq_false_iff_eq.1 (zAC _ _ hf j (Nat.zero_le _) (by omega))
theorem zTr {o:Bool} {z:ByteArray} {x:DeN} (h:zEh o z x=0) (he:zG5 x=true):x=mkN x.nm:=by
 obtain⟨_,_,_,p4,p5,p6,p7,p8,p9,_⟩:=zCm h
 obtain⟨k1,_⟩:=zFR h
 unfold zG5 at he
 simp only [Bool.and_eq_true,beq_iff_eq] at he
 obtain⟨e1,e2,e3,e4⟩:=he
 have hfi:=zKD h e1
 obtain⟨f1,f2⟩:=zPM (x:=zCw x.nd) (zKe p6) e2
 have f1:x.nd.ma=0:=f1
 have f2:x.nd.mi=0:=f2
 have hc:x.nd.cl=0:=by omega
 have hw:x.wh=false:=by rw [k1,e2];rfl
 have hn:=zCn p5
 have hd:x.nd.dat=⟨#[]⟩:=by
  apply zCn;rw [tL];apply List.length_eq_zero_iff.1;rw [<- zAN];exact e3
 have ha:=List.length_eq_zero_iff.1 e4
 obtain⟨nm,nd,wh,fi,ns⟩:=x
 obtain⟨dep,nnm,kd,ats,dat,ma,mi,cl⟩:=nd
 simp only at *
 subst p4 hn e2 ha hd f1 f2 hc hw hfi e1
 rfl
theorem zDk {d:DiN} (h:arE d=0):zDA d=0/\d.opq=false/\d.red= []/\(∀ j,j < d.ens.length->adE (adO d.ens) d.ens j=0)/\arT d=(⟨d.ats,adO d.ens,[],zFl (adL d.ens)⟩,0,0):=by
 by_cases h1:zDA d=0
 case neg=>rw [(zDS (zQ6 h1)).2.2] at h;exact absurd h h1
 by_cases h2:d.opq=true\/0 < d.red.length
 case pos=>rw [(zDS (zJT h1 h2)).2.2] at h;cases h
 by_cases h3:(gnI (adE (adO d.ens) d.ens) d.ens.length).2=0
 case neg=>rw [(zDS (zQ5 h1 h2 (n:=(gnI (adE (adO d.ens) d.ens) d.ens.length).1) (e:=(gnI (adE (adO d.ens) d.ens) d.ens.length).2) rfl h3)).2.2] at h;exact absurd h h3
 refine⟨h1,?_,?_,zSt h3,zNA h1 h2 h3⟩
 ·cases ho:d.opq with
  | false=>rfl
  | true=>exact absurd (.inl ho) h2
 ·exact List.length_eq_zero_iff.1 (by by_cases t:0 < d.red.length;exact absurd (.inr t) h2;omega)
theorem zEd {o:Bool} {l:List DeN} {i:Nat} (h:adE o l i=0):bkE 3 (zA6 l i).nm=0/\bkW 3 (zA6 l i).nm ≠ 4/\(bkW 3 (zA6 l i).nm ≠ 1->zG5 (zA6 l i)=true)/\(bkW 3 (zA6 l i).nm=1->(zA6 l i).nd.kd ≠ 5)/\(bkW 3 (zA6 l i).nm ≠ 3->zRt l i=false)/\(bkW 3 (zA6 l i).nm=2->o=false):=by
 unfold adE at h
 by_cases h1:bkE 3 (zA6 l i).nm ≠ 0
 ·rw [if_pos h1] at h;cases h
 rw [if_neg h1] at h
 by_cases h2:bkW 3 (zA6 l i).nm=4
 ·rw [if_pos h2] at h;cases h
 rw [if_neg h2] at h
 by_cases h3:(bkW 3 (zA6 l i).nm ≠ 1/\zG5 (zA6 l i)=false)\/(bkW 3 (zA6 l i).nm=1/\(zA6 l i).nd.kd=5)
 ·rw [if_pos h3] at h;cases h
 rw [if_neg h3] at h
 by_cases h4:bkW 3 (zA6 l i).nm ≠ 3/\zRt l i=true
 ·rw [if_pos h4] at h;cases h
 rw [if_neg h4] at h
 by_cases h5:bkW 3 (zA6 l i).nm=2/\o=true
 ·rw [if_pos h5] at h;cases h
 refine⟨Decidable.not_not.1 h1,h2,fun t=>?_,fun t k=>h3 (.inr ⟨t,k⟩),fun t=>?_,fun t=>?_⟩
 ·cases e:zG5 (zA6 l i) with
  | true=>rfl
  | false=>exact absurd (.inl ⟨t,e⟩) h3
 ·cases e:zRt l i with
  | false=>rfl
  | true=>exact absurd ⟨t,e⟩ h4
 ·cases e:o with
  | false=>rfl
  | true=>exact absurd ⟨t,e⟩ h5
theorem zS6 {z:ByteArray} {x:DeN} (h:zEh false z x=0) (h0:bkE 3 x.nm=0) (h4:bkW 3 x.nm ≠ 4) (h3:bkW 3 x.nm ≠ 3) (he:bkW 3 x.nm ≠ 1->zG5 x=true) (hk:bkW 3 x.nm=1->x.nd.kd ≠ 5) :
  aeE (adX x)=0/\aeX (adX x)=x/\(adX x).nm=bkS 3 x.nm/\zAq (L (bkS 3 x.nm))=0/\∀ o,(bkW 3 x.nm=2->o=false)->EnY o (adX x):=by
 rcases zE6 3 x.nm with ⟨a1,_,_⟩ | ⟨_,a2,a3,a4⟩ | ⟨_,a2,_,a3,a4⟩ | ⟨_,a2,_⟩ | ⟨_,a2,_⟩
 ·rw [h0] at a1;cases a1
 ·have n2:¬ bkW 3 x.nm=2:=by rw [a2];decide
  have hw:x.wh=false:=by
   rw [(zFR h).1];exact nB (hk a2)
  have e:adX x= {x with nm:=bkS 3 x.nm}:=if_neg n2
  have hn:zAq (L (bkS 3 x.nm))=0:=(zCo (zLv a3).1).2
  rw [e]
  refine⟨?_,?_,rfl,hn,fun o _=>?_⟩
  ·unfold aeE
   rw [if_neg (show ¬ ({x with nm:=bkS 3 x.nm}:DeN).wh=true by show ¬ x.wh=true;rw [hw];decide)]
   exact if_neg (by show ¬ nmE 3 (bkS 3 x.nm) ≠ 0;rw [a3];decide)
  ·rw [zBp (show ({x with nm:=bkS 3 x.nm}:DeN).wh=false from hw)]
   show ({x with nm:=nmS 3 (bkS 3 x.nm)}:DeN)=x
   rw [a4]
  ·obtain⟨y1,y2,y3,y4,y5⟩:=zNa h hn
   refine⟨y1,y2,y3,y4,?_⟩
   obtain⟨_,_,_,_,_,_,p7,p8,p9,p10⟩:=zCm h
   refine zEx (x:={x with nm:=bkS 3 x.nm}) (by show ¬ (x.nd.cl < 0\/(0 < x.nd.cl/\x.ns<=1)\/(x.nd.cl<=0/\1 < x.ns));omega) (by show ¬ x.ns < 1;omega) ?_
   unfold zB8 at p10 ⊢
   have k5:(x.nd.kd == 5)=false:=nB (hk a2)
   show (((x.nd.kd == 1) && (decide (0 < x.nd.ats.length) || decide (0 < x.nd.cl))) || ((x.nd.kd == 5) && (decide (0 < x.nd.cl) || o)) || (x.wh != (x.nd.kd == 5)) || (!x.fi && (x.ns == 1)))=false
   rw [k5] at p10 ⊢
   simpa using p10
 ·have e:adX x=⟨bkS 3 x.nm,kdN 5,true,true,1⟩:=if_pos a2
  have hn:zAq (L (bkS 3 x.nm))=0:=(zCo (zHg a3).1).2
  rw [e]
  refine⟨?_,?_,rfl,hn,fun o ho=>?_⟩
  ·unfold aeE
   rw [if_pos rfl]
   exact if_neg (by show ¬ wtE 3 (bkS 3 x.nm) ≠ 0;rw [a3];decide)
  ·rw [zBv rfl]
   show mkN (wtS 3 (bkS 3 x.nm))=x
   rw [a4]
   exact(zTr h (he (by rw [a2];decide))).symm
  ·rw [ho a2]
   exact⟨hn,rfl,(show (⟨#[]⟩:ByteArray).toList= [] by rw [tL];rfl),(show zDE (kdN 5)=0 by decide +kernel),zEx (x:=⟨bkS 3 x.nm,kdN 5,true,true,1⟩) (show ¬ ((0:Int) < 0\/((0:Int) < 0/\(1:Int)<=1)\/((0:Int)<=0/\(1:Int) < 1)) by omega) (show ¬ (1:Int) < 1 by omega) rfl⟩
 ·exact absurd a2 h3
 ·exact absurd a2 h4
theorem zRg {d:DiN} (h:arE d=0):zH5 (adL d.ens):=by
 obtain⟨h1,h2,h3,h4,_⟩:=zDk h
 obtain⟨_,_,_,_,_,d5⟩:=zA0 h1
 unfold adL zH5 zDl
 rw [List.pairwise_map,List.pairwise_filter,List.pairwise_iff_getElem]
 intro i j hi hj hij ni nj e
 have ni:=bne_iff_ne.1 ni
 have nj:=bne_iff_ne.1 nj
 have pi:=zEd (h4 i hi)
 have pj:=zEd (h4 j hj)
 have ei:zEh d.opq (zCZ d.ens i) (zA6 d.ens i)=0:=d5 i hi
 have ej:zEh d.opq (zCZ d.ens j) (zA6 d.ens j)=0:=d5 j hj
 rw [h2] at ei ej
 have gi:=zAy d.ens i hi
 have gj:=zAy d.ens j hj
 have ai:=zS6 ei pi.1 pi.2.1 (by rw [gi];exact ni) pi.2.2.1 pi.2.2.2.1
 have aj:=zS6 ej pj.1 pj.2.1 (by rw [gj];exact nj) pj.2.2.1 pj.2.2.2.1
 have e:=zBJ e
 rw [<- gi,<- gj,ai.2.2.1,aj.2.2.1] at e
 have hd:=pj.2.2.2.2.1 (by rw [gj];exact nj)
 unfold zRt at hd
 rw [List.any_eq_false] at hd
 refine hd i (List.mem_range.2 hij) ?_
 simp only [Bool.and_eq_true,Bool.or_eq_true,beq_iff_eq,decide_eq_true_eq]
 refine⟨?_,e⟩
 rcases zE6 3 (zA6 d.ens i).nm with ⟨a1,_,_⟩ | ⟨_,a2,_⟩ | ⟨_,a2,_⟩ | ⟨_,a2,_⟩ | ⟨_,a2,_⟩
 ·rw [pi.1] at a1;cases a1
 ·exact .inl a2
 ·exact .inr a2
 ·exact absurd a2 (by rw [gi];exact ni)
 ·exact absurd a2 pi.2.1
theorem zPE {d:DiN} (h:arE d=0) {y:DeN} (hy:y ∈ adL d.ens):∃ x ∈ d.ens,y=adX x/\bkW 3 x.nm ≠ 3/\aeE y=0/\aeX y=x/\EnY (adO d.ens) y:=by
 obtain⟨h1,h2,h3,h4,_⟩:=zDk h
 obtain⟨_,_,_,_,_,d5⟩:=zA0 h1
 obtain⟨x,hx,rfl⟩:=List.mem_map.1 hy
 obtain⟨hm,hn⟩:=List.mem_filter.1 hx
 have hn:=bne_iff_ne.1 hn
 obtain⟨j,hj,rfl⟩:=List.getElem_of_mem hm
 have e:zEh d.opq (zCZ d.ens j) (zA6 d.ens j)=0:=d5 j hj
 have p:=zEd (h4 j hj)
 rw [h2] at e
 rw [zAy _ _ hj] at e p
 obtain⟨a1,a2,_,_,a5⟩:=zS6 e p.1 p.2.1 hn p.2.2.1 p.2.2.2.1
 exact⟨_,hm,rfl,hn,a1,a2,a5 _ p.2.2.2.2.2⟩
theorem zHc {d:DiN} (h:arE d=0):zDA (arD d)=0:=by
 obtain⟨h1,h2,h3,h4,h5⟩:=zDk h
 obtain⟨_,d1,_,_,d4,d5⟩:=zA0 h1
 rw [(zDS h5).1]
 have hl:(zFl (adL d.ens)).length=(adL d.ens).length:=(zAl _).length_eq
 have hl2:(adL d.ens).length<=d.ens.length:=by unfold adL;rw [List.length_map];exact List.length_filter_le _ _
 exact(zBi (zJG (d:=⟨d.ats,adO d.ens,[],zFl (adL d.ens)⟩) d1 (by rintro⟨_,t⟩;exact absurd t (show ¬ 0 < ([]:List ByteArray).length by decide)) rfl (by show ¬ 24 < (zFl (adL d.ens)).length;omega)
  (zQj (fun x hx=>by obtain⟨_,_,_,_,_,_,t⟩:=zPE h ((zAl _).mem_iff.1 hx);exact t) (zI0 (zRg h))))).2
abbrev zCj (q:BrN × For):ByteArray:=q.1.nm
def zFP (nm:ByteArray):BrN:={kdN 2 with nm:=nm,opq:=false,red:=[]}
def zMg (nm:ByteArray):BrN:={kdN 5 with nm:=nm,opq:=false,red:=[]}
def aeB (x:BrN):BrN:=if x.kd=5 then zFP (wtS 3 x.nm) else {x with nm:=nmS 3 x.nm,opq:=false,red:=[]}
def mkF (x:BrN):List (BrN × For):=if x.opq=true then [(zFP zDy,.nil)] else []
def zB4:For->List (BrN × For)
 | .nil=>[]
 | .node x k r=>(aeB x,ofS (zEg zCj (zB4 k ++ mkF x))) :: zB4 r
def zDm (x:BrN) (k:For):For:=ofS (zEg zCj (zB4 k ++ mkF x))
theorem zFS:∀ f:For,zB4 f=(zBU f).map fun q=>(aeB q.1,zDm q.1 q.2)
 | .nil=>rfl
 | .node x k r=>by unfold zB4 zBU;rw [List.map_cons,zFS r];rfl
def zVy (k:For):Bool:=(zBU k).any fun q=>decide (q.1.nm=zDy)
def adB (x:BrN) (k:For):BrN:=if bkW 3 x.nm=2 then zMg (bkS 3 x.nm) else {x with nm:=bkS 3 x.nm,opq:=zVy k}
def zNd:For->List (BrN × For)
 | .nil=>[]
 | .node x k r=>if bkW 3 x.nm=3 then zNd r else (adB x k,ofS (zEg zCj (zNd k))) :: zNd r
def zNe (k:For):For:=ofS (zEg zCj (zNd k))
theorem zG6:∀ l:List (BrN × For),zNd (ofS l)=(l.filter fun q=>bkW 3 q.1.nm != 3).map fun q=>(adB q.1 q.2,zNe q.2)
 | []=>rfl
 | (x,k) :: r=>by
  unfold ofS zNd
  by_cases h:bkW 3 x.nm=3
  ·rw [if_pos h,List.filter_cons_of_neg (by simp [h]),zG6 r]
  ·rw [if_neg h,List.filter_cons_of_pos (by simp [h]),List.map_cons,zG6 r];rfl
theorem zSH (k:For):zNd k=((zBU k).filter fun q=>bkW 3 q.1.nm != 3).map fun q=>(adB q.1 q.2,zNe q.2):=by
 rw [<- zG6,zFE]
def zGJ (x:BrN) (k:For):Prop:=x.dep=0/\x.red= []/\(x.kd=5->x=zMg x.nm/\wtE 3 x.nm=0)/\(x.kd ≠ 5->nmE 3 x.nm=0)/\(x.kd ≠ 1->k= .nil/\x.opq=false)/\zGK zCj (zBU k)/\(x.kd=1->x.dat=⟨#[]⟩/\x.ma=0/\x.mi=0/\x.cl=0)/\(∀ q ∈ zBU k,q.1.kd=5->x.opq=false)
theorem zDR {x:BrN} {k:For} (h:zGJ x k):bkS 3 (aeB x).nm=x.nm/\(bkW 3 (aeB x).nm=if x.kd=5 then 2 else 1)/\bkE 3 (aeB x).nm=0:=by
 obtain⟨_,_,h3,h4,_⟩:=h
 unfold aeB
 by_cases e:x.kd=5
 ·rw [if_pos e,if_pos e];exact zOr (h3 e).2
 ·rw [if_neg e,if_neg e];exact zKW (h4 e)
theorem zEG {f:For} (h:zCT zGJ f) {q:BrN × For} (hq:q ∈ zB4 f):∃ p ∈ zBU f,q=(aeB p.1,zDm p.1 p.2)/\zGJ p.1 p.2/\bkS 3 q.1.nm=p.1.nm/\bkW 3 q.1.nm ≠ 3:=by
 rw [zFS] at hq
 obtain⟨p,hp,rfl⟩:=List.mem_map.1 hq
 have hc:=(zE2 h p hp).1
 obtain⟨b1,b2,_⟩:=zDR hc
 exact⟨p,hp,rfl,hc,b1,by rw [show ((aeB p.1,zDm p.1 p.2):BrN × For).1.nm=(aeB p.1).nm from rfl,b2];split <;> decide⟩
theorem zHK {f:For} {x:BrN} (h:zCT zGJ f) (ha:zGK zCj (zBU f)):zDl zCj (zB4 f ++ mkF x):=by
 unfold zDl
 rw [List.pairwise_append]
 refine⟨?_,?_,fun q hq m hm=>?_⟩
 ·rw [zFS,List.pairwise_map]
  refine List.Pairwise.imp_of_mem (fun {p q} hp hq hpq e=>?_) ha
  have e:(aeB p.1).nm=(aeB q.1).nm:=zBJ e
  have b1:=(zDR (zE2 h p hp).1).1
  have b2:=(zDR (zE2 h q hq).1).1
  rw [e,b2] at b1
  have hpq:L p.1.nm < L q.1.nm:=hpq
  rw [b1] at hpq
  exact List.lt_irrefl _ hpq
 ·unfold mkF;split
  ·exact List.pairwise_singleton _ _
  ·exact List.Pairwise.nil
 ·intro e
  obtain⟨_,_,_,_,_,n3⟩:=zEG h hq
  unfold mkF at hm
  split at hm
  case isFalse=>cases hm
  obtain rfl:=List.mem_singleton.1 hm
  have e:q.1.nm=zDy:=zBJ e
  exact n3 (by rw [e];exact zEj.1)
theorem zLo {f:For} {x:BrN} (h:zCT zGJ f):zVy (zDm x f)=x.opq:=by
 unfold zVy zDm
 rw [zCI,Bool.eq_iff_iff,List.any_eq_true]
 constructor
 ·rintro⟨q,hq,e⟩
  have e:q.1.nm=zDy:=of_decide_eq_true e
  rcases List.mem_append.1 ((zAl _).mem_iff.1 hq) with hq | hq
  ·obtain⟨_,_,_,_,_,n3⟩:=zEG h hq
   exact absurd (by rw [e];exact zEj.1) n3
  ·unfold mkF at hq
   split at hq
   case isTrue ho=>exact ho
   case isFalse=>cases hq
 ·intro ho
  exact⟨(zFP zDy,.nil),(zAl _).mem_iff.2 (List.mem_append.2 (.inr (by unfold mkF;rw [if_pos ho];exact List.mem_singleton.2 rfl))),decide_eq_true rfl⟩
theorem zVW {x:BrN} {k:For} (hk:zCT zGJ k) (c6:zGK zCj (zBU k)) (ih:(zB4 k).map (fun q=>(adB q.1 q.2,zNe q.2))=zBU k):zNe (zDm x k)=k:=by
 unfold zNe zDm
 rw [zG6]
 have hp:(((zEg zCj (zB4 k ++ mkF x)).filter fun q=>bkW 3 q.1.nm != 3).map fun q=>(adB q.1 q.2,zNe q.2)).Perm (zBU k):=by
  rw [<- ih]
  refine List.Perm.map _ ?_
  refine((zAl _).filter _).trans ?_
  rw [List.filter_append]
  have e1:(zB4 k).filter (fun q=>bkW 3 q.1.nm != 3)=zB4 k:=List.filter_eq_self.2 fun q hq=>by
   obtain⟨_,_,_,_,_,n3⟩:=zEG hk hq
   exact bne_iff_ne.2 n3
  have e2:(mkF x).filter (fun q=>bkW 3 q.1.nm != 3)= []:=by
   unfold mkF;split
   ·rw [List.filter_cons_of_neg (by show ¬ (bkW 3 zDy != 3)=true;rw [zEj.1];decide)];rfl
   ·rfl
  rw [e1,e2,List.append_nil]
 rw [<- zF8 (zDl.perm c6.dist hp) hp.symm c6.le,zFE]
theorem zLR:∀ {f:For},zCT zGJ f->(zB4 f).map (fun q=>(adB q.1 q.2,zNe q.2))=zBU f
 | .nil,_=>rfl
 | .node x k r,h=>by
  obtain⟨hc,hk,hr⟩:=h
  unfold zB4 zBU
  rw [List.map_cons,zLR hr]
  refine congrArg (· :: zBU r) (Prod.ext ?_ ?_)
  ·show adB (aeB x) (zDm x k)=x
   obtain⟨b1,b2,b3⟩:=zDR hc
   obtain⟨c1,c2,c3,c4,c5,c6,c7,c8⟩:=hc
   unfold adB
   by_cases e:x.kd=5
   ·rw [if_pos (by rw [b2,if_pos e]),b1]
    exact(c3 e).1.symm
   ·rw [if_neg (by rw [b2,if_neg e];decide),b1,zLo hk]
    unfold aeB
    rw [if_neg e]
    obtain⟨y,opq,red⟩:=x
    simp only at c2
    subst c2
    rfl
  ·exact zVW hk hc.2.2.2.2.2.1 (zLR hk)
theorem zQz {x:BrN} {k:For} (hk:zCT zGJ k) (ha:zGK zCj (zBU k)):zNe (zDm x k)=k:=zVW hk ha (zLR hk)
abbrev zC (t:List TrN):List TrN:=t.map (clM fun _=>0)
def FOk:Int->For->Prop:=zB6 fun d x k=>d<=8/\zAq (L x.nm)=0/\zAc (clM (fun _=>0) x.toTrN)=0/\zBR x.ats=0/\(x.kd ≠ 1->k= .nil)/\(zBU k).length<=24/\zGK zCj (zBU k)
theorem zOD (b:List BrN) (j:Nat) (h:j < b.length):zAa (zC (plT b)) j=clM (fun _=>0) (zAk b j).toTrN:=by rw [zDw rfl,zAv b j h]
theorem zJJ {t:List TrN} (h:∀ j,(zAa t j).cl=0) (i:Nat):zF4 t i=0:=by
 have hm:∀ k,zAJ t k=0:=fun k=>by
  induction k with
  | zero=>rfl
  | succ k ih=>show max (zAJ t k) (zAa t k).cl=0;rw [ih,h];rfl
 have hu:∀ k,zBS t i k=false:=fun k=>by
  induction k with
  | zero=>rfl
  | succ k ih=>
   unfold zBS
   rw [ih,h i];rfl
 unfold zF4
 rw [hu,if_neg Bool.false_ne_true,hm,h,if_neg (by omega)]
theorem zOE (t:List TrN) (j:Nat):(zAa (zC t) j).cl=0:=zKK rfl t j
theorem zUo {m:Nat} {z:Option ByteArray} {nm:ByteArray} (hm:m < 24) (h:∀ x,z=some x->L x < L nm):zDL m z nm=0:=by
 unfold zDL
 cases z with
 | none=>show (if 24<=m then _ else _)=_;rw [if_neg (by omega)]
 | some x=>
  have h:=h x rfl
  show (if x=nm then _ else _)=_
  rw [if_neg (fun e=>by rw [e] at h;exact List.lt_irrefl _ h),if_neg (fun e=>List.lt_irrefl _ (List.lt_trans h e)),if_neg (by omega)]
theorem zJu {b:List BrN}:∀ (f:For) (pre post:List BrN) (d:Int) (i:Nat),b=pre ++ flt d f ++ post->i < pre.length->(zAa (zC (plT b)) i).dep+1=d->(zAa (zC (plT b)) i).kd=1 ->
  (∀ j,i < j->j < pre.length->d<=(zAa (zC (plT b)) j).dep)->zAW (zC (plT b)) pre.length->FOk d f->1<=d->(zBg (zC (plT b)) i pre.length).length+(zBU f).length<=24->zGK zCj (zBU f) ->
  (∀ k,(zBg (zC (plT b)) i pre.length).getLast? = some k->∀ q ∈ zBU f,L (zAa (zC (plT b)) k).nm < L q.1.nm)->zAW (zC (plT b)) (pre.length+siz f)
 | .nil,pre,post,d,i,hb,hi,hd,hk,hbt,hok,hf,h1,hl,ha,hn=>hok
 | .node x k r,pre,post,d,i,hb,hi,hd,hk,hbt,hok,hf,h1,hl,ha,hn=>by
  obtain⟨⟨f1,f2,f3,f4,f5,f6,f7⟩,f8,f9⟩:=hf
  have hb1:b=pre ++ [x.at d] ++ (flt (d+1) k ++ flt d r ++ post):=by rw [hb,zBe];simp [List.append_assoc]
  have hb2:b=(pre ++ [x.at d]) ++ flt (d+1) k ++ (flt d r ++ post):=by rw [hb1];simp [List.append_assoc]
  have hb3:b=(pre ++ [x.at d] ++ flt (d+1) k) ++ flt d r ++ post:=by rw [hb1];simp [List.append_assoc]
  have hl2:(pre ++ [x.at d]).length=pre.length+1:=by simp
  have hl3:(pre ++ [x.at d] ++ flt (d+1) k).length=pre.length+1+siz k:=by rw [List.length_append,hl2,zA9]
  have hbl:pre.length+1+siz k<=b.length:=by rw [hb3,List.length_append,List.length_append,hl3];omega
  have hx:zAa (zC (plT b)) pre.length=clM (fun _=>0) (x.at d).toTrN:=by
   rw [zOD _ _ (by omega)]
   have:=zD5 hb1 (j:=pre.length) (Nat.le_refl _) (by simp)
   rw [List.mem_singleton.1 this]
  have hzl:(zC (plT b)).length=b.length:=by rw [List.length_map,zAh]
  have hin:∀ j,pre.length+1<=j->j < pre.length+1+siz k->d+1<=(zAa (zC (plT b)) j).dep:=fun j h1 h2=>by
   rw [zOD _ _ (by omega)]
   exact zEE _ _ _ (zD5 hb2 (by rw [hl2];exact h1) (by rw [hl2,zA9];exact h2))
  have hdx:(zAa (zC (plT b)) pre.length).dep=d:=by rw [hx];rfl
  have hsx:(zBU (.node x k r)).length=1+(zBU r).length:=by show (_ :: _).length=_;rw [List.length_cons];omega
  obtain⟨ha1,ha2⟩:=List.pairwise_cons.1 (show List.Pairwise _ ((x,k) :: zBU r) from ha)
  have hq:zBf (zC (plT b)) pre.length=0:=by
   have hs:zAz (zC (plT b)) pre.length=0:=by
    unfold zAz
    rw [if_neg (by omega),hdx,if_neg,if_neg (by omega)]
    rintro(e | e)
    ·omega
    ·unfold zEn at e
     by_cases e2:pre.length - 1=i
     ·rw [e2,if_pos hk] at e;omega
     ·have:=hbt (pre.length - 1) (by omega) (by omega)
      split at e <;> omega
   have he:zAT (zC (plT b)) pre.length=0:=by
    obtain⟨s1,s2⟩:=zHl (t:=zC (plT b)) (n:=i) (j:=pre.length) hok (by omega) hi (fun k h2 h3=>by have:=hbt k h2 h3;omega)
    unfold zAT
    rw [show (zAa (zC (plT b)) pre.length).nm=x.nm by rw [hx];rfl,if_neg (by rw [f2];decide),hdx,<- hd,s1,s2]
    refine zUo (by omega) fun z hz=>?_
    cases hg:(zBg (zC (plT b)) i pre.length).getLast? with
    | none=>rw [hg] at hz;cases hz
    | some k'=>
     rw [hg] at hz
     cases hz
     exact hn k' hg (x,k) (List.mem_cons_self ..)
   rw [zBL hx hs (fun _=>he) f3 f4]
   exact zJJ (zOE _) _
  have hok1:=zAW.step hok hq
  have hsub:zAW (zC (plT b)) (pre.length+1+siz k):=by
   by_cases hkd:x.kd=1
   ·have hk0:zBg (zC (plT b)) pre.length (pre.length+1)= []:=List.filter_eq_nil_iff.2 fun j hj=>by
     have hj:=List.mem_range.1 hj
     have:=zCN (zC (plT b)) j
     unfold zG0
     rw [decide_eq_true_iff];omega
    have:=zJu k (pre ++ [x.at d]) (flt d r ++ post) (d+1) pre.length hb2 (by omega) (by rw [hdx]) (by rw [hx];exact hkd) (fun j h2 h3=>by omega) (by rw [hl2];exact hok1) f8 (by omega)
     (by rw [hl2,hk0];simpa using f6) f7 (by rw [hl2,hk0];intro k' h;cases h)
    rw [hl2] at this
    exact this
   ·rw [f5 hkd];exact hok1
  have hkids:zBg (zC (plT b)) i (pre.length+1+siz k)=zBg (zC (plT b)) i pre.length ++ [pre.length]:=by
   unfold zBg
   rw [Nat.add_assoc,List.range_eq_range',<- List.range'_append_1 (m:=pre.length),List.filter_append,<- List.range'_append_1 (m:=1) (n:=siz k),List.filter_append,<- List.range_eq_range',Nat.zero_add]
   rw [zEF (siz k) (pre.length+1) fun j h2 h3=>by
    unfold zG0
    rw [decide_eq_false_iff_not]
    intro e
    have:=(zGz (fun m hm=>hsub m (by omega)) e).2.1
    have:=hin j (by omega) (by omega)
    omega]
   rw [show List.range' pre.length 1= [pre.length] from rfl,List.filter_cons_of_pos,List.filter_nil,List.append_nil]
   unfold zG0
   rw [decide_eq_true_iff]
   exact zJ3 hi (by omega) fun j h2 h3=>by have:=hbt j h2 h3;omega
  have:=zJu r (pre ++ [x.at d] ++ flt (d+1) k) post d i hb3 (by omega) hd hk (fun j h2 h3=>by
    rw [hl3] at h3
    by_cases e1:j < pre.length
    ·exact hbt j h2 e1
    ·by_cases e2:j=pre.length
     ·rw [e2,hdx];exact Int.le_refl _
     ·have:=hin j (by omega) (by omega);omega) (by rw [hl3];exact hsub) f9 h1 (by rw [hl3,hkids,List.length_append];simp only [List.length_singleton];omega) ha2 (fun k' hk' q hq'=>by
    rw [hl3,hkids,List.getLast?_append] at hk'
    have e:pre.length=k':=by simpa using hk'
    subst e
    rw [hx]
    exact ha1 q hq')
  rw [hl3] at this
  have e:pre.length+1+siz k+siz r=pre.length+siz (.node x k r):=by show _=pre.length+(1+siz k+siz r);omega
  rw [e] at this
  exact this
theorem zJv {x:BrN} {g:For} (h:FOk 1 g) (hl:1+siz g<=120) (ha:zGK zCj (zBU g)) (h24:(zBU g).length<=24) (h0:x.dep=0) (hn:x.nm.toList= []) (hk:x.kd=1) (hki:zAc (clM (fun _=>0) x.toTrN)=0) (hc:zBR x.ats=0):zAs (zC (plT (x :: flt 1 g)))=0:=by
 have hlen:(zC (plT (x :: flt 1 g))).length=1+siz g:=by rw [List.length_map,zAh,List.length_cons,zA9];omega
 have hg:zAa (zC (plT (x :: flt 1 g))) 0=clM (fun _=>0) x.toTrN:=zOD _ _ (by simp)
 have h1:zBf (zC (plT (x :: flt 1 g))) 0=0:=by
  rw [zBL hg (by unfold zAz;rw [if_pos rfl,hg,if_pos ⟨h0,hn,hk⟩]) (fun h=>absurd rfl h) hki hc]
  exact zJJ (zOE _) _
 have hk0:zBg (zC (plT (x :: flt 1 g))) 0 1= []:=List.filter_eq_nil_iff.2 fun j hj=>by
  have hj:=List.mem_range.1 hj
  have:=zCN (zC (plT (x :: flt 1 g))) j
  unfold zG0
  rw [decide_eq_true_iff];omega
 have hok:=zJu (b:=x :: flt 1 g) g [x] [] 1 0 (by simp) (by simp) (by rw [hg];show x.dep+1=1;rw [h0];rfl) (by rw [hg];exact hk) (fun j h2 h3=>by simp at h3;omega) (fun j hj=>by simp at hj;subst hj;exact h1) h (by decide)
  (by show (zBg _ 0 1).length+_<=24;rw [hk0];simpa using h24) ha (fun k hk'=>by rw [show ([x]:List BrN).length=1 from rfl,hk0] at hk';cases hk')
 refine(zBj (zEO (by omega) (by omega) (by rw [hlen];exact hok) fun j _=>?_)).2
 unfold zDM
 rw [zOE];rfl
attribute [local go_sem] Oper.semAt_some
section
variable {P:Program} {α:Type} {C:Cd α} {B:Nat} {w:World} {F:Fence} {nF:Nat} {ops:Array Oper} {rest:List Oper} {o:Oper} {a:Act} {Q:Exit->Act->World->Prop}
theorem zWc (K:zEN P C) (hgd:o.guard=none) (s x:Operand) (ho:o.op= .call {callee:=.builtin .append,args:=#[s,x],argTypes:=#[C.t,C.t]})
  (v xv:Value) (l1 l2:List α) (W0 w:World) (hs:a.eval s=v) (hx:a.eval x=xv) (h1:zAg C B w v l1) (h2:zAj C B w xv l2) (hb:Below B W0 w) (hB:B<=w.heap.size) (hl:l1.length+l2.length<=1000000)
  (h:∀ v' w',zH6 C B v v' (l1 ++ l2) W0 w w'->wpListIn F nF P ops Q rest (a.put o.dst v') w'):wpListIn F nF P ops Q (o :: rest) a w:=by
 refine wpListIn_plain hgd fun K2 hK2=>?_
 obtain⟨v',w',hr,h3,h4,h5,h6⟩:=zI3 K o.type v xv l1 l2 w h1 h2 hB hl
 unfold Oper.wpIn
 refine⟨?_,?_⟩
 ·simp [Oper.about,ho,resolve,Target.leads,Sem.run_pure]
 ·rw [Oper.semAt_plain F _ _ (by rw [ho];intro c hc';cases hc')]
  simp [execOp,ho,resolve,invoke,builtin,hs,hx,hr,Result.andThen]
  exact hK2 _ _ (h v' w' ⟨h3,zHV hb h4 h1 hB,h6,h5⟩)
end
theorem zVI {B:Nat} {E:TypeId} {row:Option Nat} {W V:World} (h:Chg B E row W V):KeepsOthers W V:=⟨h.size,fun b o hk hc=>h.keep _ _ hk (fun e=>by obtain⟨_,c,f,h2⟩:=h.isrow _ e;rw [hk] at h2;cases h2;cases hc)⟩
theorem zAg.keep1 {B:Nat} {W W':World} {v:Value} {l:List Nat} (h:zAg cdN B W v l) (hk:∀ q cs e f,v.ownBlock=some q->W.heap[q]? = some (.cells cs e f)->W'.heap[q]? = some (.cells cs e f)):zAg cdN B W' v l:=by
 obtain⟨css,hl,hR0,ho⟩:=h
 refine⟨css,hl,fun i h1 h2=>hR0 i h1 h2,ho.1,?_⟩
 rcases ho.2 with h1 | ⟨g,cap,cur,rfl,hb,hg,h3⟩
 ·exact .inl h1
 ·exact .inr ⟨g,cap,cur,rfl,hb,hk _ _ _ _ rfl hg,h3⟩
structure KdI (w W0:World) (ob n:Nat) (b:List BrN) (k:Nat) (W:World):Prop where
 box:∃ vo,W.heap[ob]? = some (.cells #[vo] 49 (0,0))/\zAg cdN W0.heap.size W vo (zBg (plT b) n k)
 node:W.heap[w.heap.size]? = some (.cells #[.int .i64 n] 3 (0,0))
 ext:Ext w W
 size:W0.heap.size<=W.heap.size
theorem zM6 {ob:Nat} {W:World} {vo:Value} {t:TypeId} {f:Nat × Nat} (h:W.heap[ob]? = some (.cells #[vo] t f)):exK ob W=vo.ownBlock:=by
 unfold exK;rw [bC h 0];rfl
theorem KdI.ab {w W0:World} {ob n:Nat} {b:List BrN} (ho:ob < W0.heap.size) (hw:w.heap.size < W0.heap.size) {k:Nat} {W W':World} (h:KdI w W0 ob n b k W) (hx:Below W0.heap.size W W') (hX:XeK ob W W'):KdI w W0 ob n b k W':=by
 obtain⟨⟨vo,h1,h2⟩,h3,h4,h5⟩:=h
 exact⟨⟨vo,(hx.block _ ho).trans h1,h2.keep1 fun q cs e f hq hk=>hX q cs e f (by rw [zM6 h1];exact hq) hk⟩,(hx.block _ hw).trans h3,Below.trans h4 (hx.mono (by omega)),Nat.le_trans h5 hx.size⟩
theorem KdI.up {w W0:World} {ob n:Nat} {b:List BrN} {k:Nat} {W W':World} (h:KdI w W0 ob n b k W) (he:Ext W W'):KdI w W0 ob n b k W':=by
 obtain⟨⟨vo,h1,h2⟩,h3,h4,h5⟩:=h
 exact⟨⟨vo,bX he h1,h2.ext okN he⟩,bX he h3,h4.trans he,Nat.le_trans h5 he.size⟩
theorem zUt {w W0 W w2:World} {ob n k:Nat} {b:List BrN} {ao:Option Addr} {len co:Nat} {v2:Value} {cs:Array Value} (h:KdI w W0 ob n b k W) (ho:W.heap[ob]? = some (.cells #[.slice ao len co] 49 (0,0))) (hO:zAg cdN W0.heap.size W (.slice ao len co) (zBg (plT b) n k))
  (ha:zH6 cdN W0.heap.size (.slice ao len co) v2 (zBg (plT b) n k ++ [k]) W (W.alloc (.cells cs 3)) w2) (h1:w.heap.size < ob) (h2:ob < W0.heap.size) (hk:zBg (plT b) n (k+1)=zBg (plT b) n k ++ [k]) :
  KeepsOthers W (w2.setCell ⟨ob,0,none⟩ v2)/\KcX ob w.heap.size W0.heap.size W (w2.setCell ⟨ob,0,none⟩ v2)/\KdI w W0 ob n b (k+1) (w2.setCell ⟨ob,0,none⟩ v2):=by
 have hx:=zM6 ho
 have hrow:∀ g,(Value.slice ao len co).ownBlock=some g->W0.heap.size<=g:=fun g e=>(hO.row e g rfl).1
 have hou:w2.heap[ob]? = some (.cells #[.slice ao len co] 49 (0,0)):=ha.chg.keep _ _ (bA ho) (fun e=>by have:=hrow _ e;omega)
 have hq:∀ q c e f,v2.ownBlock=some q->w2.heap[q]? = some (.cells c e f)->(w2.setCell ⟨ob,0,none⟩ v2).heap[q]? = some (.cells c e f):=fun q c e f e1 h9=>bSn h9 _ _ (fun e2=>by
  obtain⟨g1,_⟩:=ha.own.row e1 q rfl
  have e2:q=ob:=e2
  omega)
 have hsz:(w2.setCell ⟨ob,0,none⟩ v2).heap.size=w2.heap.size:=by simp [World.setCell]
 have hs:=ha.chg.size
 have hs2:(W.alloc (.cells cs 3)).heap.size=W.heap.size+1:=by simp
 refine⟨(KeepsOthers.alloc W _).trans ((zVI ha.chg).trans (KeepsOthers.setCell _ _ _)),⟨by omega,fun q c e f hq2 hne hh=>?_,?_⟩,⟨⟨v2,bS hou _,by rw [hk];exact ha.own.keep1 hq⟩,?_,?_,by have:=h.size;omega⟩⟩
 ·refine bSn (ha.chg.keep _ _ (bA hh) (fun e2=>hne (by rw [hx];exact e2))) _ _ (fun e2=>?_)
  have e2:q=ob:=e2
  omega
 ·have e3:exK ob (w2.setCell ⟨ob,0,none⟩ v2)=v2.ownBlock:=zM6 (t:=49) (f:=(0,0)) (bS hou _)
  rcases ha.lies with e4 | e4
  ·exact .inl (by rw [e3,hx];exact e4)
  ·obtain⟨_,c,f,h9⟩:=ha.own.row e4 _ rfl
   exact .inr ⟨_,by rw [e3];exact e4,by omega,by have:=bL h9;omega⟩
 ·refine bSn (ha.chg.keep _ _ (bA h.node) (fun e=>by have:=hrow _ e;omega)) _ _ (fun e2=>?_)
  have e2:w.heap.size=ob:=e2
  omega
 ·exact Below.setCell (p:=⟨ob,0,none⟩) (Below.trans h.ext (ha.below.mono (by omega))) (by show w.heap.size<=ob;omega) _
def zXa (w:World) (ob:Nat) (b:List BrN) (x:PlI) (a:Act) (W:World):Prop:=∃ (Bx:Nat) (M:List Value),W.heap[Bx]? = some (.cells #[.int .i64 (abv (plT b) x.i),.slice x.a x.n x.cap] 165 (0,0))/\a= {tmps:=#[zAb M 0,zAb M 1,zAb M 2,.pointer (some ⟨w.heap.size,0,none⟩),zAb M 4,zAb M 5,zAb M 6,.pointer (some ⟨ob,0,none⟩),.int .i64 x.i,.pointer (some ⟨Bx,0,none⟩),zAb M 10,zAb M 11,zAb M 12,zAb M 13,zAb M 14,zAb M 15,zAb M 16,zAb M 17,zAb M 18,zAb M 19,zAb M 20,zAb M 21,zAb M 22,zAb M 23,zAb M 24,zAb M 25,zAb M 26,zAb M 27,zAb M 28,zAb M 29,zAb M 30,zAb M 31,zAb M 32,zAb M 33,zAb M 34],defers:=[]}
theorem zSn (w:World) (ob:Nat) (b:List BrN) (x:PlI) (a:Act) (W:World) (l:Nat) (o o':Obj) (h:W.heap[l]? = some o) (hc:o.isCells=false) (hx:zXa w ob b x a W):zXa w ob b x a (W.putObj l o'):=by
 obtain⟨Bx,M,h1,h2⟩:=hx
 refine⟨Bx,M,(World.putObj_heap_other ?_).trans h1,h2⟩
 rintro rfl;rw [h] at h1;cases h1;cases hc
def zS9 {α:Type} (C:Cd α) (w:World) (l:List α) (e:Ending) (w':World):Prop:=(∃ a cap,e= .returned (.slice a l.length cap)/\zAg C w.heap.size w' (.slice a l.length cap) l)/\Ext w w'
def zJf (y:TrN):BrN:={y with opq:=false,red:=[]}
theorem zMn (B:Nat) (v:Value) (l:List TrN) (w:World) (hv:zCt B w v l) (hB:B<=w.heap.size) (hl:l.length<=1000) :
  Calls Tryz.prog 151 #[v] w (zYh cdT B w l):=by
 obtain⟨a,cap,rfl⟩:=hv.form
 have HV:=hQq hv;clear hv
 cases a with
 | none=>
  have:=HV.out.zero ⟨_,_,rfl⟩
  subst this
  have hnil:=fun wx=>Lib.run_eql_slice_nil (P:=Tryz.prog) wx 33 59 none 0 cap 0 0 okT.sl.und
  go_enter Tryz.func151,Tryz.ntmps151
  go_wp2
  go_ret
  exact⟨⟨_,_,rfl,zAg.nil _ _ _,fun g h=>by cases h⟩,bR _ _⟩
 | some ad=>
  have hnil:=fun wx=>Lib.run_eql_slice_nil (P:=Tryz.prog) wx 33 59 (some ad) l.length cap 0 0 okT.sl.und
  go_enter Tryz.func151,Tryz.ntmps151
  go_wp2_with (at_builtin;refine zYa okT rfl (.tmp 5) (.tmp 6) rfl B _ l w _ rfl rfl rfl HV.out hB (by omega) ?_;intro v1 w1 ha;have HA:=hQq ha;clear ha)
  obtain⟨a6,cap6,rfl⟩:=HA.out.own.form
  go_ret
  exact⟨⟨_,_,rfl,HA.out.own,fun g h=>HA.out.far g (by rw [h];rfl)⟩,HA.out.ext⟩
theorem zOP (B:Nat) (w:World) (v:Value) (t:List TrN) (ht:zCt B w v t) (hB:B<=w.heap.size) (hlen:t.length<=1000) (hal:∀ x ∈ t,x.ats.length<=1000) :
  Calls Tryz.prog 152 #[v] w (zS9 cdT w t):=by
 have HV:=hQq (ht.mono okT hB);have HAL:=hQq hal
 obtain⟨aa,cap,rfl⟩:=ht.form
 clear ht hal
 go_enter Tryz.func152,Tryz.ntmps152
 go_wp2_with (go_at_call 151;refine(zMn w.heap.size _ t _ HV.out (Nat.le_refl _) hlen).mono ?_;rintro e w1 ⟨⟨a6,cap6,rfl,ho,hf⟩,hb1⟩;have HO:=hQq ho;have HB1:=hQq hb1;clear ho hf hb1)
 go_loopw [9] (fun i w'=>∃ (wi:World) (k:Nat),wi=w'/\k<=t.length/\i= .int .i64 k/\zAg cdT w.heap.size wi (.slice a6 t.length cap6) t/\Ext w wi) (fun i _=>t.length - (intOf i).toNat)
 case atStart=>exact⟨_,0,rfl,Nat.zero_le _,rfl,HO.out,HB1.out⟩
 case round=>
  clear HO HB1
  obtain⟨wi,k,rfl,hk,rfl,ho,hE⟩:=hrel
  have HO:=hQq ho;have HE:=hQq hE
  clear hE
  by_cases hlt:k < t.length
  case neg=>
   obtain rfl:k=t.length:=by omega
   clear ho
   go_wp2
   go_ret
   exact⟨⟨_,_,rfl,HO.out⟩,HE.out⟩
  have k1:((k:Nat):Int) < (t.length:Int):=by omega
  have k0:(0:Int)<=(k:Int):=by omega
  obtain⟨g,rfl,hg1,hg2,-⟩:=ho.addr (by omega)
  obtain⟨b,off,va,hex,hbx,hva,c0,c1,c2,c3,c4,c5,c6,c7⟩:=(ho.in okT).tr k hlt
  cases hex
  obtain⟨a3,cap3,rfl⟩:=hva.form
  have HVA:=hQq hva
  have HAK:=hQq (HAL.out _ (List.getElem_mem hlt))
  have HLT:=hQq hlt
  rw [Nat.zero_add] at c3
  clear hva c0 c1 c2 c4 c5 c6 c7
  go_wp2_with (go_at_call 41;refine(zF9 _ (t[k]'HLT.out).ats _ (HVA.out.attrs) HAK.out).mono ?_;rintro e w5 ⟨⟨a9,c9,rfl,h9⟩,hb5⟩;have H9:=hQq (show zAK w.heap.size w5 (.slice a9 (t[k]'HLT.out).ats.length c9) (t[k]'HLT.out).ats from h9.toIn);have HB5:=hQq hb5;have ho5:=HO.out.ext okT hb5;have c5:=(eC hb5 hg2).trans c3;have f5:∀ j,w5.frozen? ⟨g,j,none⟩=false:=fun j=>ho5.frozen j;have hz5:=Nat.lt_of_lt_of_le hg2 hb5.size;have HO5:=hQq ho5;clear h9 hb5 ho5)
  obtain⟨u1,u2,u3⟩:=HO5.out.store okT k HLT.out 3 (by decide) (.slice a9 (t[k]'HLT.out).ats.length c9) (t[k]'HLT.out) (fun cs ⟨va,h1,h2⟩=>⟨_,H9.out,by rw [h2];rfl⟩)
  rw [List.set_getElem_self] at u1
  have HU1:=hQq u1
  have HU2:Hid (Ext w _):=hQq (Below.grown (HE.out.trans HB5.out) u2 (HE.out.trans HB5.out).size (fun q e=>by injection e with e;omega))
  clear u1 u2 u3
  go_roundw
  case rel=>exact⟨_,k+1,rfl,by omega,by go_num,HU1.out,HU2.out⟩
  case measure=>simp [intOf] <;> omega
theorem zIS (k:Int) (w:World):zAt Tryz.prog 188 #[.int .i64 k] w (.bool (zPG k)):=by
 unfold zAt zPG
 cases h2:k == 2
 ·cases h3:k == 3
  ·cases h4:k == 4
   all_goals
    go_enter Tryz.func188,Tryz.ntmps188
    go_wp2
    go_ret
    exact⟨by rfl,by first | exact bR _ _ | exact eDn _ _⟩
  ·go_enter Tryz.func188,Tryz.ntmps188
   go_wp2
   go_ret
   exact⟨by rfl,by first | exact bR _ _ | exact eDn _ _⟩
 ·go_enter Tryz.func188,Tryz.ntmps188
  go_wp2
  go_ret
  exact⟨by rfl,by first | exact bR _ _ | exact eDn _ _⟩
def zVc (w:World) (r:List TrN × Int) (e:Ending) (w':World):Prop:=(∃ a cap B,e= .returned (.tuple #[.slice a r.1.length cap,.int .i64 r.2])/\w.heap.size<=B/\B<=w'.heap.size/\zAg cdT B w' (.slice a r.1.length cap) r.1)/\Ext w w'
theorem zJM {w w':World} {r:List TrN × Int} {c:Int} (h:r=([],c)) (he:Ext w w'):zVc w r (.returned (.tuple #[.slice none 0 0,.int .i64 c])) w':=by
 subst h;exact⟨⟨none,0,_,rfl,Nat.le_refl _,he.size,zAg.nil _ _ _⟩,he⟩
theorem zOY {s:Int->Int} {t:List TrN} (h:zAP t):zAP (t.map (clM s)):=fun x hx=>by
 obtain⟨y,hy,rfl⟩:=List.mem_map.1 hx
 exact h y hy
theorem zFX {t:List TrN} (h:120 < t.length):zBh t=([],3):=if_pos h
theorem zG8 {t:List TrN} (h:¬ 120 < t.length) (h2:zAs (t.map (clM fun _=>0)) ≠ 0):zBh t=([],zAs (t.map (clM fun _=>0))):=by unfold zBh;rw [if_neg h,if_pos h2]
theorem zJL {t:List TrN} (h:¬ 120 < t.length) (h2:¬ zAs (t.map (clM fun _=>0)) ≠ 0) (h3:zKq t ≠ 0):zBh t=([],6)/\zKq t=6:=by
 unfold zKq at h3 ⊢;unfold zBh;rw [if_neg h,if_neg h2]
 by_cases e:(List.range t.length).any (zFm t)=true
 ·rw [if_pos e,if_pos e];exact⟨rfl,rfl⟩
 ·rw [if_neg e] at h3;exact absurd rfl h3
theorem zJK {t:List TrN} (h:¬ 120 < t.length) (h2:¬ zAs (t.map (clM fun _=>0)) ≠ 0) (h3:zKq t=0):zBh t=(zCV t,0):=by
 unfold zKq at h3;unfold zBh;rw [if_neg h,if_neg h2]
 by_cases e:(List.range t.length).any (zFm t)=true
 ·rw [if_pos e] at h3;cases h3
 ·rw [if_neg e]
theorem zSO {l:List zAr} (h:zBR l=0):l.length<=1000:=by
 unfold zBR at h
 by_cases e:6 < l.length
 ·rw [if_pos e] at h;cases h
 ·omega
theorem zPL {x:TrN} {s:Int->Int} (h:zAc (clM s x)=0):1<=x.kd/\x.kd<=5:=by
 unfold zAc at h
 by_cases e:(clM s x).kd < 1\/5 < (clM s x).kd
 ·rw [if_pos e] at h;cases h
 ·have e':¬ (x.kd < 1\/5 < x.kd):=e
  omega
theorem szT:(Tryz.prog.info? 59).map (·.size)=some 8:=by kernel_rfl
theorem zW0 (w:World):(Go.sizeOf 59).run Tryz.prog w= .ok 8 w:=by kernel_rfl
theorem zWL {B : Nat} {w : World} {l : List TrN} {css : List (List Value)} (hcl : css.length = l.length) (hR : ∀ k (h : k < l.length) (h' : k < css.length), cdT.R B w (l[k]'h) (css[k]'h')) : ∀ u ∈ css.flatten, u.oneCell' = true := by
 intro u hu
 obtain⟨cs,hcs,hu⟩:=List.mem_flatten.1 hu
 obtain⟨k,hk,rfl⟩:=List.getElem_of_mem hcs
 exact okT.one (hR k (by omega) hk) u hu
theorem zSP {W W':World} (e:W'.heap=W.heap) (B:Nat) (E:TypeId):Chg B E none W W':=⟨fun b o h _=>by rw [e];exact h,by rw [e];exact Nat.le_refl _,fun g hg=>by cases hg⟩
theorem zPp {B:Nat} {W W':World} {v:Value} {l:List TrN} (h:zAg cdT B W v l) (e:W'.heap=W.heap):zAg cdT B W' v l:=by
 obtain⟨css,h1,h2,h3,h4⟩:=h
 exact⟨css,h1,fun k h h'=>okT.chg (h2 k h h') (zSP e B cdT.e) okT.self,h3,h4.imp_right fun ⟨g,cap,cur,a,b,c,d⟩=>⟨g,cap,cur,a,b,by rw [e];exact c,d⟩⟩
def ccL {α:Type} (l1 l2:List α) (k:Nat):List α:=if k=0 then [] else if k=1 then l1 else l1 ++ l2
theorem zSr (a b:List UInt8):(!Op.bytesLess a b && !(a == b))=decide (b < a):=by
 rw [zDq]
 by_cases h:b < a
 ·have h1:¬ a < b:=fun k=>List.lt_irrefl _ (List.lt_trans h k)
  have h2:a ≠ b:=fun e=>by rw [e] at h;exact List.lt_irrefl _ h
  rw [decide_eq_true h,decide_eq_false h1,nB h2];rfl
 ·rw [decide_eq_false h]
  by_cases h1:a < b
  ·rw [decide_eq_true h1];rfl
  ·have h2:a=b:=List.le_antisymm (List.not_lt.1 h) (List.not_lt.1 h1)
   rw [h2,beq_self_eq_true];simp
theorem zVY (w:World) (g:Nat) (x y:Int) (hx:w.cell? ⟨g,0,none⟩=some (.int .i64 x)) (hy:w.cell? ⟨g,1,none⟩=some (.int .i64 y)) :
  zAt Tryz.prog 180 #[.slice (some ⟨g,0,none⟩) 2 2] w (.int .i64 (if x ≠ 0 then x else y)):=by
 unfold zAt
 obtain⟨r,hr⟩:∃ r,(if x ≠ 0 then x else y)=r:=⟨_,rfl⟩
 rw [hr]
 have HRR:=hQq hr
 clear hr
 go_enter Tryz.func180,Tryz.ntmps180
 go_wp2
 go_loopw [8] (fun i w'=>∃ (wi:World) (k:Nat),wi=w'/\k<=2/\i= .int .i64 k/\(1<=k->x=0)/\(2<=k->y=0)/\w=wi) (fun i _=>2 - (intOf i).toNat)
 case atStart=>exact⟨_,0,rfl,by omega,rfl,fun h=>absurd h (by omega),fun h=>absurd h (by omega),rfl⟩
 case round=>
  obtain⟨wi,k,rfl,hk,rfl,h1,h2,rfl⟩:=hrel
  have hk3:k=0\/k=1\/k=2:=by omega
  rcases hk3 with rfl | rfl | rfl
  ·by_cases e:x=0
   ·have q:(x != 0)=false:=bne_eq_false_iff_eq.2 e
    have HE:=hQq e
    clear h1 h2 e hk
    go_wp2
    go_roundw
    case rel=>exact⟨_,1,rfl,by omega,by first | rfl | go_num,fun _=>HE.out,fun h=>absurd h (by omega),rfl⟩
    case measure=>simp [intOf] <;> omega
   ·have q:(x != 0)=true:=bne_iff_ne.2 e
    have HR:Hid ((if x ≠ 0 then x else y)=x):=hQq (if_pos e)
    clear h1 h2 e hk
    go_wp2
    go_ret
    exact⟨by rw [<- HRR.out,HR.out];rfl,bR _ _⟩
  ·have HX:=hQq (h1 (by omega))
   by_cases e:y=0
   ·have q:(y != 0)=false:=bne_eq_false_iff_eq.2 e
    have HE:=hQq e
    clear h1 h2 e hk
    go_wp2
    go_roundw
    case rel=>exact⟨_,2,rfl,by omega,by first | rfl | go_num,fun _=>HX.out,fun _=>HE.out,rfl⟩
    case measure=>simp [intOf] <;> omega
   ·have q:(y != 0)=true:=bne_iff_ne.2 e
    have HR:Hid ((if x ≠ 0 then x else y)=y):=hQq (if_neg (by simp [HX.out]))
    clear h1 h2 e hk
    go_wp2
    go_ret
    exact⟨by rw [<- HRR.out,HR.out];rfl,bR _ _⟩
  ·have HX:=hQq (h1 (by omega));have HY:=hQq (h2 (by omega))
   have HR:Hid ((if x ≠ 0 then x else y)=0):=hQq (by rw [HX.out,HY.out];simp)
   clear h1 h2 hk
   go_wp2
   go_ret
   exact⟨by rw [<- HRR.out,HR.out];rfl,bR _ _⟩
theorem zV0 (b:List BrN) (ab x y:Nat) (w:World) (h:zVi b ab w) (hlen:b.length<=1000) (hx:x < b.length) (hy:y < b.length) :
  zAt Tryz.prog 179 #[.int .i64 x,.int .i64 y,.pointer (some ⟨ab,0,none⟩)] w (.int .i64 (cmA (plT b) x y)):=by
 unfold zAt
 obtain⟨mb,n,f,h1,h2,h3,h4⟩:=h
 have HM:=hQq h3;have HFX:=hQq (h4 x hx);have HFY:=hQq (h4 y hy)
 have bx:=zCN (plT b) x;have bY:=zCN (plT b) y
 have jw1:IntKind.i64.wrap (abv (plT b) x - abv (plT b) y)=abv (plT b) x - abv (plT b) y:=IntWalk.i64_in _ (by omega)
 have jw2:IntKind.i64.wrap ((x:Int) - (y:Int))=(x:Int) - (y:Int):=IntWalk.i64_in _ (by omega)
 have hc:∀ (W:World) (g:Nat),W.cell? ⟨g,0,none⟩=some (.int .i64 (abv (plT b) x - abv (plT b) y))->W.cell? ⟨g,1,none⟩=some (.int .i64 ((x:Int) - (y:Int)))->zAt Tryz.prog 180 #[.slice (some ⟨g,0,none⟩) 2 2] W (.int .i64 (cmA (plT b) x y)):=fun W g h1 h2=>zVY W g _ _ h1 h2
 generalize cmA (plT b) x y=c at hc ⊢
 have HC:=hQq hc
 clear h3 h4 bx bY hc
 go_enter Tryz.func179,Tryz.ntmps179
 go_wp2_with (first
  | (at_lookup;refine zCa rfl (.tmp 6) (.tmp 7) 146 false rfl 3 3 zAZ zAB (.int .i64 0) zB2 rfl HM.out (x:Int) rfl ?_;rw [if_neg Bool.false_ne_true,HFX.out,Option.getD_some])
  | (at_lookup;refine zCa rfl (.tmp 9) (.tmp 10) 146 false rfl 3 3 zAZ zAB (.int .i64 0) zB2 rfl HM.out (y:Int) rfl ?_;rw [if_neg Bool.false_ne_true,HFY.out,Option.getD_some])
  | (go_at_call 180;refine(HC.out _ w.heap.size (bC (bN _ _) 0) (bC (bN _ _) 1)).mono ?_;rintro e w2 ⟨rfl,hb2⟩;have HB2:=hQq hb2;clear hb2)
  | fail)
 go_ret
 exact⟨rfl,(eA _ _).trans HB2.out⟩
theorem zW3 (b:List BrN) (ab:Nat) (B:Nat) (w:World) (v:Value) (l:List Nat) (hl:zAg cdN B w v l) (h0:0 < l.length) (h:zVi b ab w) (hlen:b.length<=1000) (hlb:l.length<=1000) (hlt:∀ x ∈ l,x < b.length) :
  Calls Tryz.prog 178 #[v,.func (.func 179) #[] #[.pointer (some ⟨ab,0,none⟩)]] w fun e w'=>(∃ m,m ∈ l/\e= .returned (.int .i64 (m:Nat))/\∀ x ∈ l,¬ abL (plT b) x m)/\Ext w w':=by
 obtain⟨a5,cap5,rfl⟩:=hl.form
 obtain⟨g,rfl,hg1,hg2,-⟩:=hl.addr h0
 have HL:=hQq (hl.in okN);have HM:=hQq h;have HLT:=hQq hlt
 have he:∀ args w,(callFunc 179 args).run Tryz.prog w= .ok (.enter 179 args) w:=enters_of Tryz.func179 (by kernel_rfl) rfl
 have c0:=HL.out.num 0 h0
 have j1:¬ (l.length:Int) < 1:=by omega
 have j2:(0:Int) < (l.length:Int):=by omega
 have H0:=hQq h0
 clear hl h hlt
 go_enter Tryz.func178,Tryz.ntmps178
 go_wp2
 go_loopw [5,6] (fun m i w'=>∃ (wi:World) (k m0:Nat),wi=w'/\1<=k/\k<=l.length/\i= .int .i64 k/\m0 ∈ l/\m= .int .i64 m0/\(∀ j (hj:j < l.length),j < k->¬ abL (plT b) (l[j]'hj) m0)/\Ext w wi) (fun _ i _=>l.length - (intOf i).toNat)
 case atStart=>exact⟨_,1,l[0]'H0.out,rfl,by omega,by omega,by first | rfl | go_num,List.getElem_mem _,rfl,fun j hj h1=>by
  obtain rfl:j=0:=by omega
  unfold abL;omega,bR _ _⟩
 case round=>
  clear c0
  obtain⟨wi,k,m0,rfl,hk1,hk,rfl,hm,rfl,hA,hE⟩:=hrel
  have HMM:=hQq hm;have HA:=hQq hA;have HE:=hQq hE
  clear hm hA hE
  by_cases hlt:k < l.length
  case neg=>
   obtain rfl:k=l.length:=by omega
   go_wp2
   go_ret
   exact⟨⟨m0,HMM.out,rfl,fun x hx=>by obtain⟨j,hj,rfl⟩:=List.getElem_of_mem hx;exact HA.out j hj hj⟩,HE.out⟩
  have k1:((k:Nat):Int) < (l.length:Int):=by omega
  have k0:(0:Int)<=(k:Int):=by omega
  have ck:=(HL.out.ext okN HE.out).num k hlt
  have HKM:=hQq (List.getElem_mem hlt)
  have HST:Hid (∀ j (hj:j < l.length),j < k+1->j=k\/j < k):=hQq (fun j _ h=>by omega)
  obtain⟨y,hy⟩:∃ y,y=l[k]'hlt:=⟨_,rfl⟩
  rw [<- hy] at ck HKM
  have HY:=hQq hy
  clear hy
  have HC:=hQq (zV0 b ab y m0 wi (HM.out.ext HE.out) hlen (HLT.out y HKM.out) (HLT.out m0 HMM.out))
  unfold zAt at HC
  by_cases e:abL (plT b) y m0
  ·have q:cmA (plT b) y m0 < 0:=(zQE _ _ _).2 e
   have HN:Hid (∀ j (hj:j < l.length),j < k+1->¬ abL (plT b) (l[j]'hj) y):=hQq (fun j hj h=>by
    rcases HST.out j hj h with rfl | h2
    ·rw [<- HY.out];unfold abL;omega
    ·exact fun h3=>HA.out j hj h2 (zRm h3 e))
   clear e
   go_wp2_with (refine HC.out.mono ?_;rintro e w1 ⟨rfl,hb1⟩;have HB1:=hQq hb1;have ck1:=(HL.out.ext okN (HE.out.trans hb1)).num k hlt;rw [<- HY.out] at ck1;clear hb1)
   go_roundw
   case rel=>exact⟨_,k+1,y,rfl,by omega,by omega,by go_num,HKM.out,rfl,HN.out,HE.out.trans HB1.out⟩
   case measure=>simp [intOf] <;> omega
  ·have q:¬ cmA (plT b) y m0 < 0:=fun h=>e ((zQE _ _ _).1 h)
   have HN:Hid (∀ j (hj:j < l.length),j < k+1->¬ abL (plT b) (l[j]'hj) m0):=hQq (fun j hj h=>by
    rcases HST.out j hj h with rfl | h2
    ·rw [<- HY.out];exact e
    ·exact HA.out j hj h2)
   clear e
   go_wp2_with (refine HC.out.mono ?_;rintro e w1 ⟨rfl,hb1⟩;have HB1:=hQq hb1;clear hb1)
   go_roundw
   case rel=>exact⟨_,k+1,m0,rfl,by omega,by omega,by go_num,HMM.out,rfl,HN.out,HE.out.trans HB1.out⟩
   case measure=>simp [intOf] <;> omega
theorem zTH (nm:ByteArray) (w:World):zAt Tryz.prog 44 #[.string nm] w (deV (mkN nm) (.slice none 0 0)):=by
 unfold zAt
 go_enter Tryz.func44,Tryz.ntmps44
 go_wp2
 refine bodyPost_ret (v:=deV (mkN nm) (.slice none 0 0)) (by simp [results,Tryz.f44,go_sem];exact⟨rfl,rfl,rfl,rfl,rfl,rfl,rfl,rfl,rfl,rfl,rfl⟩) rfl ?_
 exact⟨rfl,eA _ _⟩
theorem zGx (x:DeN) (a:Option Addr) (cap:Nat) (w:World):zAt Tryz.prog 121 #[deV x (.slice a x.nd.ats.length cap)] w (.bool (zG5 x)):=by
 unfold zAt zG5
 have e1:(x.nd.dat.toList == [])=(x.nd.dat.size == 0):=by
  rw [Bool.eq_iff_iff,beq_iff_eq,beq_iff_eq,tL,zAN,List.length_eq_zero_iff]
 go_enter Tryz.func121,Tryz.ntmps121
 cases h1:x.ns == 1
 ·go_wp2;go_ret;exact⟨rfl,eA _ _⟩
 cases h2:x.nd.kd == 2
 ·go_wp2;go_ret;exact⟨rfl,eA _ _⟩
 cases h3:x.nd.dat.size == 0
 ·rw [h3] at e1
  go_wp2;go_ret;exact⟨rfl,eA _ _⟩
 rw [h3] at e1
 go_wp2
 go_ret
 exact⟨congrArg (fun b=>Ending.returned (Value.bool b)) (show ((x.nd.ats.length:Int) == 0)=(x.nd.ats.length == 0) by rw [Bool.eq_iff_iff];simp),eA _ _⟩
theorem zU0 (x:DeN) (va:Value) (w:World) (hv:aA w va x.nd.ats) (hl:x.nd.ats.length<=1000) :
  Calls Tryz.prog 45 #[deV x va] w fun e w'=>(∃ a cap,e= .returned (deV x (.slice a x.nd.ats.length cap))/\zAK 0 w' (.slice a x.nd.ats.length cap) x.nd.ats)/\Ext w w':=by
 obtain⟨a3,cap3,rfl,hcap3,hxc⟩:=hv
 have HX:Hid (aA w (.slice a3 x.nd.ats.length cap3) x.nd.ats):=⟨a3,cap3,rfl,hcap3,hxc⟩
 clear hxc
 go_enter Tryz.func45,Tryz.ntmps45
 go_wp2_with ((go_at_call 41;refine(zF9 _ x.nd.ats _ (HX.out.ext ((eA _ _).trans (eA _ _))) hl).mono ?_;rintro e w3 ⟨⟨a5,cap5,rfl,ho⟩,hb3⟩;have HO:=hQq ho;have X3:Hid (w3.heap[w.heap.size]? = some (.cells #[.string x.nm,.int .i64 x.nd.dep,.string x.nd.nm,.int .i64 x.nd.kd,.slice a3 x.nd.ats.length cap3,.string x.nd.dat,.int .i64 x.nd.ma,.int .i64 x.nd.mi,.int .i64 x.nd.cl,.bool x.wh,.bool x.fi,.int .i64 x.ns] 66 (0,0))):=hQq (bX hb3 (bA (bN w _)));have Z3:Hid (w3.heap[w.heap.size+1]? = some (.cells #[.string ⟨#[]⟩,.int .i64 0,.string ⟨#[]⟩,.int .i64 0,.slice none 0 0,.string ⟨#[]⟩,.int .i64 0,.int .i64 0,.int .i64 0,.bool false,.bool false,.int .i64 0] 66 (0,0))):=hQq (bX hb3 (zAH (by simp)));have HE3:Hid (Ext w w3):=hQq (((eA _ _).trans (eA _ _)).trans hb3);have c0:w3.cell? ⟨w.heap.size,0,none⟩=some (.string x.nm):=bC X3.out 0;have c1:w3.cell? ⟨w.heap.size,1,none⟩=some (.int .i64 x.nd.dep):=bC X3.out 1;have c2:w3.cell? ⟨w.heap.size,2,none⟩=some (.string x.nd.nm):=bC X3.out 2;have c3:w3.cell? ⟨w.heap.size,3,none⟩=some (.int .i64 x.nd.kd):=bC X3.out 3;have c4:w3.cell? ⟨w.heap.size,4,none⟩=some (.slice a3 x.nd.ats.length cap3):=bC X3.out 4;have c5:w3.cell? ⟨w.heap.size,5,none⟩=some (.string x.nd.dat):=bC X3.out 5;have c6:w3.cell? ⟨w.heap.size,6,none⟩=some (.int .i64 x.nd.ma):=bC X3.out 6;have c7:w3.cell? ⟨w.heap.size,7,none⟩=some (.int .i64 x.nd.mi):=bC X3.out 7;have c8:w3.cell? ⟨w.heap.size,8,none⟩=some (.int .i64 x.nd.cl):=bC X3.out 8;have c9:w3.cell? ⟨w.heap.size,9,none⟩=some (.bool x.wh):=bC X3.out 9;have c10:w3.cell? ⟨w.heap.size,10,none⟩=some (.bool x.fi):=bC X3.out 10;have c11:w3.cell? ⟨w.heap.size,11,none⟩=some (.int .i64 x.ns):=bC X3.out 11;have r0:w3.cell? ⟨w.heap.size+1,0,none⟩=some (.string ⟨#[]⟩):=bC Z3.out 0;have r1:w3.cell? ⟨w.heap.size+1,1,none⟩=some (.int .i64 0):=bC Z3.out 1;have r2:w3.cell? ⟨w.heap.size+1,2,none⟩=some (.string ⟨#[]⟩):=bC Z3.out 2;have r3:w3.cell? ⟨w.heap.size+1,3,none⟩=some (.int .i64 0):=bC Z3.out 3;have r4:w3.cell? ⟨w.heap.size+1,4,none⟩=some (.slice none 0 0):=bC Z3.out 4;have r5:w3.cell? ⟨w.heap.size+1,5,none⟩=some (.string ⟨#[]⟩):=bC Z3.out 5;have r6:w3.cell? ⟨w.heap.size+1,6,none⟩=some (.int .i64 0):=bC Z3.out 6;have r7:w3.cell? ⟨w.heap.size+1,7,none⟩=some (.int .i64 0):=bC Z3.out 7;have r8:w3.cell? ⟨w.heap.size+1,8,none⟩=some (.int .i64 0):=bC Z3.out 8;have r9:w3.cell? ⟨w.heap.size+1,9,none⟩=some (.bool false):=bC Z3.out 9;have r10:w3.cell? ⟨w.heap.size+1,10,none⟩=some (.bool false):=bC Z3.out 10;have r11:w3.cell? ⟨w.heap.size+1,11,none⟩=some (.int .i64 0):=bC Z3.out 11;have fz:∀ j,w3.frozen? ⟨w.heap.size,j,none⟩=false:=fun j=>bT X3.out j;have fz1:∀ j,w3.frozen? ⟨w.heap.size+1,j,none⟩=false:=fun j=>bT Z3.out j;have hsz:w.heap.size+1 < w3.heap.size:=bL Z3.out;clear ho hb3))
 refine nW (P:=fun W=>bodyPost _ _ _ Exit.ret _ W) _ ?_
 intro W2 hW2
 replace hW2:W2=zGa (zGa w3 w.heap.size 4 [.slice a5 x.nd.ats.length cap5]) (w.heap.size+1) 0 [.string x.nm,.int .i64 x.nd.dep,.string x.nd.nm,.int .i64 x.nd.kd,.slice a5 x.nd.ats.length cap5,.string x.nd.dat,.int .i64 x.nd.ma,.int .i64 x.nd.mi,.int .i64 x.nd.cl,.bool x.wh,.bool x.fi,.int .i64 x.ns]:=hW2
 have hk:=zFy (g:=w.heap.size) [.slice a5 x.nd.ats.length cap5] w3 4
 have hc:Chg 0 66 (some w.heap.size) w3 (zGa w3 w.heap.size 4 [.slice a5 x.nd.ats.length cap5]):=⟨hk,Nat.le_of_eq (zFx _ w3 4).symm,fun g' e=>by cases e;exact⟨Nat.zero_le _,_,_,X3.out⟩⟩
 have hb:=zBG (Nat.le_refl w.heap.size) [.slice a5 x.nd.ats.length cap5] w3 4 HE3.out
 generalize zGa w3 w.heap.size 4 [.slice a5 x.nd.ats.length cap5]=Y at hW2 hk hc hb
 obtain⟨p1,p2,p3⟩:=zTf (hk _ _ Z3.out (by simp)) (by omega) hb hW2
 clear c0 c1 c2 c3 c4 c5 c6 c7 c8 c9 c10 c11 r0 r1 r2 r3 r4 r5 r6 r7 r8 r9 r10 r11 hW2
 have HA:Hid (zAK 0 W2 (.slice a5 x.nd.ats.length cap5) x.nd.ats):=hQq (((HO.out.toIn).chg okA hc (by decide) (by decide)).chg okA p3 (by decide) (by decide))
 have t0:=bC p1 0
 have t1:=bC p1 1
 have t2:=bC p1 2
 have t3:=bC p1 3
 have t4:=bC p1 4
 have t5:=bC p1 5
 have t6:=bC p1 6
 have t7:=bC p1 7
 have t8:=bC p1 8
 have t9:=bC p1 9
 have t10:=bC p1 10
 have t11:=bC p1 11
 refine bodyPost_ret (v:=deV x (.slice a5 x.nd.ats.length cap5)) (by simp [results,Tryz.f45,go_sem,t0,t1,t2,t3,t4,t5,t6,t7,t8,t9,t10,t11]) rfl ?_
 exact⟨⟨_,_,rfl,HA.out⟩,p2⟩
def apI (B:Nat) (w W:World) (St:Value->List DeN->World->Prop) (ve:Value) (es:List DeN) (Y:DeN) (i3 i4 i5 i7:Nat) (t3 t4 t5:Tmp) (z:Nat->Bool) (vs:Tmp->Value) (V:World):Prop:=
 match z i5 with
 | false=>Ext W V/\St ve es V/\(z i3=true->∃ a c,vs t3=deV Y (.slice a Y.nd.ats.length c)/\zAK B V (.slice a Y.nd.ats.length c) Y.nd.ats)/\(z i4=true->zAj cdE B V (vs t4) [Y])
 | true=>match z i7 with
  | false=>∃ V0,St ve es V0/\zH6 cdE B ve (vs t5) (es ++ [Y]) w V0 V
  | true=>St (vs t5) (es ++ [Y]) V
def zXP (p:Addr) (ve xv:Value):Nat->Value->Prop
 | 0,v=>v= .pointer (some p)
 | 1,v=>v=ve
 | 2,v=>v=xv
 | 6,v=>v= .pointer (some p)
 | _,_=>True
def apG (g:Nat->Option Value) (i:Nat) (v:Value):Prop:=match g i with
 | some u=>v=u
 | none=>True
def zYc (p:Addr) (ve _xv:Value):Nat->Value->Prop
 | 0,v=>v= .pointer (some p)
 | 1,v=>v=ve
 | 5,v=>v= .pointer (some p)
 | _,_=>True
section
variable {B:Nat} {w W V:World} {St:Value->List DeN->World->Prop} {ve:Value} {es:List DeN} {Y:DeN} {i3 i4 i5 i7:Nat} {t3 t4 t5:Tmp} {z z':Nat->Bool} {vs vs':Tmp->Value}
theorem zAu (h3:z' i3=z i3) (h4:z' i4=z i4) (h5:z' i5=z i5) (h7:z' i7=z i7) (e3:vs' t3=vs t3) (e4:vs' t4=vs t4) (e5:vs' t5=vs t5) (h:apI B w W St ve es Y i3 i4 i5 i7 t3 t4 t5 z vs V):apI B w W St ve es Y i3 i4 i5 i7 t3 t4 t5 z' vs' V:=by
 unfold apI at h ⊢
 rw [h3,h4,h5,h7,e3,e4,e5]
 exact h
theorem zBc (h5:z i5=false) (h:apI B w W St ve es Y i3 i4 i5 i7 t3 t4 t5 z vs V):Ext W V/\St ve es V/\(z i3=true->∃ a c,vs t3=deV Y (.slice a Y.nd.ats.length c)/\zAK B V (.slice a Y.nd.ats.length c) Y.nd.ats)/\(z i4=true->zAj cdE B V (vs t4) [Y]):=by
 unfold apI at h
 rw [h5] at h
 exact h
theorem zDt (h5:z i5=false) (h:Ext W V/\St ve es V/\(z i3=true->∃ a c,vs t3=deV Y (.slice a Y.nd.ats.length c)/\zAK B V (.slice a Y.nd.ats.length c) Y.nd.ats)/\(z i4=true->zAj cdE B V (vs t4) [Y])):apI B w W St ve es Y i3 i4 i5 i7 t3 t4 t5 z vs V:=by
 unfold apI
 rw [h5]
 exact h
theorem zH2 (h5:z i5=true) (h7:z i7=false) (h:apI B w W St ve es Y i3 i4 i5 i7 t3 t4 t5 z vs V):∃ V0,St ve es V0/\zH6 cdE B ve (vs t5) (es ++ [Y]) w V0 V:=by
 unfold apI at h
 rw [h5,h7] at h
 exact h
theorem zH3 (h5:z i5=true) (h7:z i7=false) (h:∃ V0,St ve es V0/\zH6 cdE B ve (vs t5) (es ++ [Y]) w V0 V):apI B w W St ve es Y i3 i4 i5 i7 t3 t4 t5 z vs V:=by
 unfold apI
 rw [h5,h7]
 exact h
theorem zDx (h5:z i5=true) (h7:z i7=true):apI B w W St ve es Y i3 i4 i5 i7 t3 t4 t5 z vs V ↔ St (vs t5) (es ++ [Y]) V:=by
 unfold apI
 rw [h5,h7]
end
theorem zIi {α : Type} (P : α -> Bool) : ∀ (l : List α) (k : Nat) (_ : k < (l.takeWhile P).length), ∃ h', P (l[k]'h') = true
 | x :: r,k,h=>by
  rw [List.takeWhile_cons] at h
  by_cases e:P x=true
  ·rw [if_pos e] at h
   cases k with
   | zero=>exact⟨by simp,e⟩
   | succ k=>
    obtain⟨h',h2⟩:=zIi P r k (by simpa using h)
    exact⟨by simpa using h',h2⟩
  ·rw [if_neg e] at h;simp at h
theorem zTT {α:Type} (P:α->Bool) (l:List α):(l.takeWhile P).length<=l.length:=(List.takeWhile_sublist P).length_le
theorem zRz {α:Type} (P:α->Bool):∀ (l:List α) (h:(l.takeWhile P).length < l.length),P (l[(l.takeWhile P).length]'h)=false
 | x :: r,h=>by
  by_cases e:P x=true
  ·have he:((x :: r).takeWhile P).length=(r.takeWhile P).length+1:=by rw [List.takeWhile_cons,if_pos e];rfl
   have:=zRz P r (by rw [he] at h;simpa using h)
   simp only [he]
   exact this
  ·have he:((x :: r).takeWhile P).length=0:=by rw [List.takeWhile_cons,if_neg e];rfl
   simp only [he]
   simpa using e
theorem zHO {α:Type} (P:α->Bool):∀ l:List α,l.drop (l.takeWhile P).length=l.dropWhile P
 | []=>rfl
 | x :: r=>by
  by_cases e:P x=true
  ·rw [List.takeWhile_cons,if_pos e,List.dropWhile_cons,if_pos e,List.length_cons,List.drop_succ_cons]
   exact zHO P r
  ·rw [List.takeWhile_cons,if_neg e,List.dropWhile_cons,if_neg e];rfl
theorem zDN {α:Type} {C:Cd α} {B:Nat} {w:World} {b off n cap:Nat} {l:List α} (h:zAj C B w (.slice (some ⟨b,off,none⟩) n cap) l) (i m:Nat) (hm:i+m<=l.length) (c2:Nat) (hc2:m<=c2) (o2:Nat) (ho2:o2=off+i * C.n) :
  zAj C B w (.slice (some ⟨b,o2,none⟩) m c2) ((l.drop i).take m):=by
 subst ho2
 obtain⟨a,cap',he,_,hn,hc⟩:=h
 cases he
 have hl:((l.drop i).take m).length=m:=by rw [List.length_take,List.length_drop];omega
 refine⟨_,_,by rw [hl],by rw [hl];exact hc2,fun h0 b' hb'=>?_,fun k hk=>?_⟩
 ·cases hb'
  exact hn (show 0 < l.length by have:0 < m:=h0;omega) b rfl
 ·rw [hl] at hk
  obtain⟨b2,off2,cs,he,hb,hr,hrow⟩:=hc (i+k) (by omega)
  cases he
  refine⟨_,_,cs,rfl,hb,?_,?_⟩
  ·rw [List.getElem_take,List.getElem_drop];exact hr
  ·rw [Nat.add_assoc,<- Nat.add_mul];exact hrow
def zAL (t:List TrN) (i:Nat):List TrN:=t.take i ++ (t.drop (i+1)).dropWhile fun y=>decide ((zAa t i).dep < y.dep)
def zJO (t:List TrN) (i:Nat):Nat:=((t.drop (i+1)).takeWhile fun y=>decide ((zAa t i).dep < y.dep)).length
theorem zJN (t:List TrN) (i:Nat) (hi:i < t.length):i+1+zJO t i<=t.length:=by
 have:=zTT (fun y=>decide ((zAa t i).dep < y.dep)) (t.drop (i+1))
 rw [List.length_drop] at this
 unfold zJO;omega
theorem zQV {t:List TrN} {i k:Nat} (hk:k < zJO t i):∃ h:i+1+k < t.length,(zAa t i).dep < (t[i+1+k]'h).dep:=by
 obtain⟨h,h2⟩:=zIi _ _ k hk
 rw [List.getElem_drop] at h2
 exact⟨by rw [List.length_drop] at h;omega,of_decide_eq_true h2⟩
theorem zTA {t:List TrN} {i:Nat} (h:i+1+zJO t i < t.length):¬ (zAa t i).dep < (t[i+1+zJO t i]'h).dep:=by
 have:=zRz (fun y=>decide ((zAa t i).dep < y.dep)) (t.drop (i+1)) (by rw [List.length_drop];unfold zJO at h;omega)
 rw [List.getElem_drop] at this
 exact of_decide_eq_false this
theorem zTu (t:List TrN) (i:Nat):zAL t i=t.take i ++ t.drop (i+1+zJO t i):=by
 unfold zAL zJO
 rw [<- zHO,List.drop_drop]
def zWO (SV V2 V5:Value) (ix e B0:Nat) (CT RL:List TrN) (RE:Int):Nat->Value->World->Prop
 | 0,v,_=>v=SV
 | 1,v,_=>v= .int .i64 ix
 | 2,v,_=>v=V2
 | 3,v,_=>v=SV
 | 4,v,_=>v= .int .i64 e
 | 5,v,_=>v=V5
 | 6,v,w=>∃ g,v= .slice (some ⟨g,0,none⟩) 2 2/\w.heap[g]? = some (.cells #[V2,V5] 33 (0,0))
 | 7,v,w=>∃ a c B2,v= .slice a CT.length c/\B2<=w.heap.size/\zCt B2 w (.slice a CT.length c) CT
 | 8,v,w=>∃ a c B2,v= .tuple #[.slice a RL.length c,.int .i64 RE]/\B0<=B2/\B2<=w.heap.size/\zAg cdT B2 w (.slice a RL.length c) RL
 | 9,v,w=>∃ a c B2,v= .slice a RL.length c/\B0<=B2/\B2<=w.heap.size/\zAg cdT B2 w (.slice a RL.length c) RL
 | 10,v,_=>v= .int .i64 RE
 | 11,v,w=>∃ a c B2,v= .slice a RL.length c/\B0<=B2/\B2<=w.heap.size/\zAg cdT B2 w (.slice a RL.length c) RL
 | 12,v,_=>v= .int .i64 RE
 | _,_,_=>True
theorem zKI {SV V2 V5:Value} {ix e B0:Nat} {CT RL:List TrN} {RE:Int}:∀ (i:Nat) (v:Value) (w w':World),zWO SV V2 V5 ix e B0 CT RL RE i v w->Ext w w'->zWO SV V2 V5 ix e B0 CT RL RE i v w':=by
 intro i v w w' hh he
 match i,hh with
 | 0,h=>exact h
 | 1,h=>exact h
 | 2,h=>exact h
 | 3,h=>exact h
 | 4,h=>exact h
 | 5,h=>exact h
 | 6,⟨g,h,h2⟩=>exact⟨g,h,bX he h2⟩
 | 7,⟨a,c,B2,h,h2⟩=>exact⟨a,c,B2,h,⟨Nat.le_trans h2.1 he.size,h2.2.ext okT he⟩⟩
 | 8,⟨a,c,B2,h,h2⟩=>exact⟨a,c,B2,h,⟨h2.1,Nat.le_trans h2.2.1 he.size,h2.2.2.ext okT he⟩⟩
 | 9,⟨a,c,B2,h,h2⟩=>exact⟨a,c,B2,h,⟨h2.1,Nat.le_trans h2.2.1 he.size,h2.2.2.ext okT he⟩⟩
 | 10,h=>exact h
 | 11,⟨a,c,B2,h,h2⟩=>exact⟨a,c,B2,h,⟨h2.1,Nat.le_trans h2.2.1 he.size,h2.2.2.ext okT he⟩⟩
 | 12,h=>exact h
 | i+13,_=>trivial
theorem zR8 {t:List TrN} (h:zAs t=0) {i:Nat} (hi:i < t.length):(zAa t i).nm.size<=24:=by
 obtain⟨h1,h2,_,_,_⟩:=zAd ((zAf h).2.2.1 i hi)
 by_cases e:i=0
 ·subst e
  unfold zAz at h1
  rw [if_pos rfl] at h1
  split at h1
  ·rename_i hh
   have:=zA7 hh.2.1
   omega
  ·cases h1
 ·have h3:=h2 e
  unfold zAT at h3
  by_cases e2:zAq (L (zAa t i).nm) ≠ 0
  ·rw [if_pos e2] at h3;exact absurd h3 e2
  ·have e2:=Decidable.not_not.1 e2
   unfold zAq at e2
   split at e2
   ·cases e2
   ·split at e2
    ·cases e2
    ·rw [zAN];omega
theorem zA3 {l:List zAr} (h:zBR l=0):zL9 l/\l.length<=1000:=by
 refine⟨fun a ha=>?_,?_⟩
 ·have:=zLf h a ha;omega
 ·have:=(zKL h).1;omega
theorem zIG {b:List BrN} {n:Nat} (h:zB1 b=0) (hn:n < b.length) (hs:zBr b):zGH (zAo b n):=by
 obtain⟨t0,_,_⟩:=zAp h
 have hc:∀ i,i < b.length->zBR (zAk b i).ats=0:=fun i hi=>zQN h hi
 refine⟨(zA3 (hc n hn)).1,(zA3 (hc n hn)).2,fun s hx=>?_,fun x hx=>?_,?_⟩
 ·have hm:zAk b n ∈ b:=by rw [zAw b n hn];exact List.getElem_mem hn
  have:=(hs.red _ hm).2 s hx
  exact Nat.le_trans this (by decide)
 ·obtain⟨i,hi,rfl⟩:=List.mem_map.1 hx
  have hil:=zVJ hi
  have hnm:=zR8 t0 (i:=i) (by rw [zAh];exact hil)
  rw [zAv b i hil] at hnm
  refine⟨by show (zAk b i).nm.size<=_;have hnm:(zAk b i).nm.size<=24:=hnm;omega,?_⟩
  show zL9 (zEs (zAk b i).toTrN).ats/\(zEs (zAk b i).toTrN).ats.length<=1000
  unfold zEs
  split
  ·exact⟨fun a ha=>(by cases ha),Nat.zero_le _⟩
  ·exact zA3 (hc i hil)
 ·show ((zAE b n).map (zBl b n)).length<=1000
  rw [List.length_map]
  have h1:=zE1 (zG0 (plT b) n) b.length
  have h2:=hs.len
  unfold zAE zBg;omega
end Go.Proofs.YtbeeoomadnmogaaGreat
