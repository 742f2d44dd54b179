/- AufsRound is proved: for every branch the law returns true; a branch that is larger than what is looked at is answered by the fixed calls alone. -/
import Derived.Test.YtbeeoomadnmogaaGreatQI6
import Derived.Test.YtbeeoomadnmogaaGreatQaNodE
import Derived.Test.YtbeeoomadnmogaaGreatQdLwpO
import Derived.Test.YtbeeoomadnmogaaGreatQAxM
import Derived.Test.YtbeeoomadnmogaaGreatQdFarA
set_option maxRecDepth 100000
set_option maxHeartbeats 64000000
namespace Go.Proofs.YtbeeoomadnmogaaGreat.lwAufsRound
open Go.ChangeShapes Go.WideShapes Go.ChangeAt Go.RowKit
open Go.ChangeMaps (open_string shut_string)
theorem walk (v:Value) (b:List BrN) (w:World) (hv:zC4 w.heap.size w v b) (hz:∀ x ∈ b,x.ats.length * 32<=140737488355328) (hzl:b.length * 128<=140737488355328):zAt Tryz.prog 5 #[v] w (.bool true):=by
 unfold zAt
 obtain⟨aa,cap,rfl⟩:=hv.form
 have HV:=hQq hv
 clear hv
 go_enter Tryz.func5,Tryz.ntmps5
 go_wp2_with fail
 refine(zIb w.heap.size _ b _ HV.out (Nat.le_refl _) hzl hz).mono ?_
 rintro e w0 ⟨r,rfl,hr,hb0⟩
 have HB0:=hQq hb0
 clear hb0 hz hzl
 cases r
 case true=>
  clear hr
  go_wp2_with (go_at_call 12;refine(zBz _).mono ?_;rintro e w1 ⟨rfl,hb⟩)
  go_ret
  exact⟨rfl,Ext.trans HB0.out hb⟩
 have HFB:=hQq (hr rfl)
 clear hr
 have HSM:=hQq (zLK (Nat.le_refl _) HFB.out)
 obtain⟨rl,rn,re,hre⟩:∃ rl rn re,awT b=(rl,rn,re):=⟨_,_,_,rfl⟩
 have HRE:=hQq (zSZ hre)
 have HENC:=hQq (zHe w.heap.size w0 _ b (HV.out.ext okB HB0.out) HB0.out.size HSM.out)
 rw [hre] at HENC
 clear hre
 by_cases he:re=0
 case neg=>
  have HNIL:Hid (rl= []):=hQq (by rw [<- HRE.out.1];exact zV7 (by rw [HRE.out.2.2];exact he))
  have q4:(re != 0)=true:=bne_iff_ne.2 he
  clear he
  go_wp2_with fail
  refine HENC.out.mono ?_
  rintro e w1 ⟨⟨a1,c1,B1,he1,-,-,-⟩,hb1⟩
  have he1:e=Ending.returned (.tuple #[.slice a1 rl.length c1,.int .i64 rn,.int .i64 re]):=he1
  subst he1
  rw [HNIL.out]
  have HB1:=hQq (Ext.trans HB0.out hb1)
  clear hb1
  go_wp2_with (go_at_call 12;refine(zBz _).mono ?_;rintro e w2 ⟨rfl,hb⟩)
  go_ret
  exact⟨rfl,Ext.trans HB1.out hb⟩
 subst he
 have HEB:=hQq (zL2 HRE.out.2.2)
 have HSE:=hQq (zNt b)
 rw [HRE.out.1] at HEB HSE
 go_wp2_with fail
 refine HENC.out.mono ?_
 rintro e w1 ⟨⟨a1,c1,B1,he1,hB1,hB1',ho1⟩,hb1⟩
 have he1:e=Ending.returned (.tuple #[.slice a1 rl.length c1,.int .i64 rn,.int .i64 0]):=he1
 subst he1
 have ho1:zAg cdT B1 w1 (.slice a1 rl.length c1) rl:=ho1
 have HO1:=hQq ho1;have HB1:=hQq (Ext.trans HB0.out hb1);have HS1:=hQq hB1'
 clear ho1 hb1 hB1 hB1'
 go_wp2_with fail
 refine(zEy _ _ rl _ (HO1.out.in okT) HSE.out).mono ?_
 rintro e w2 ⟨rfl,hb2⟩
 rw [HEB.out.2]
 have HB2:=hQq (Ext.trans HB1.out hb2);have HO2:=hQq (HO1.out.ext okT hb2);have HS2:=hQq (Nat.le_trans HS1.out hb2.size)
 clear hb2
 have HDEC:=hQq (zF3 B1 w2 _ rl (HO2.out.in okT) HS2.out HSE.out)
 rw [HEB.out.1] at HDEC
 go_wp2_with fail
 refine HDEC.out.mono ?_
 rintro e w3 ⟨⟨a3,c3,B3,he3,hB3,hB3',ho3⟩,hb3⟩
 have he3:e=Ending.returned (.tuple #[.slice a3 b.length c3,.int .i64 0,.int .i64 0]):=he3
 subst he3
 have ho3:zAg cdB B3 w3 (.slice a3 b.length c3) b:=ho3
 have HO3:=hQq ho3;have HB3:=hQq (Ext.trans HB2.out hb3);have HS3:=hQq hB3';have HO23:=hQq (HO2.out.ext okT hb3);have HS23:=hQq (Nat.le_trans HS2.out hb3.size)
 clear ho3 hb3 hB3 hB3'
 have HGOOD:=hQq (zTI B1 w3 _ rl (HO23.out.in okT) HS23.out HSE.out)
 rw [HEB.out.1] at HGOOD
 go_wp2_with fail
 refine HGOOD.out.mono ?_
 rintro e w4 ⟨rfl,hb4⟩
 have HB4:=hQq (Ext.trans HB3.out hb4);have HO34:=hQq (HO3.out.ext okB hb4);have HS34:=hQq (Nat.le_trans HS3.out hb4.size)
 clear hb4
 go_wp2_with fail
 refine(zKl B3 w.heap.size _ _ b _ (HO34.out.in okB) (HV.out.ext okB HB4.out) HS34.out HB4.out.size HSM.out.len HSM.out.ats (fun x hx=>(HSM.out.red x hx).1)).mono ?_
 rintro e w5 ⟨rfl,hb5⟩
 have HB5:=hQq (Ext.trans HB4.out hb5)
 clear hb5
 go_wp2_with (go_at_call 12;refine(zBz _).mono ?_;rintro e w6 ⟨rfl,hb⟩)
 go_ret
 exact⟨rfl,Ext.trans HB5.out hb⟩
theorem contract (H:Type) (enc:TypeId × Value->H) (W:World) (base:Nat) (args:Array Value) (ds gs:List (DataW H)) (before:List MemPlace)
  (hval:∀ (j:Nat) t v,Tryz.f5.params[j]? = some t->args[j]? = some v->Value.okWide Tryz.prog W .any base t v)
  (hW:DataW.Whole enc Tryz.prog Tryz.f5.params.toList Rows.aufsRoundSpec.vars false W args.toList ds gs before) (hz:(DataW.weightsEach Tryz.prog (Tryz.f5.params.toList ++ (OpenSpec.ofChange Rows.aufsRoundSpec).bare.plain.varTypes Tryz.prog) (ds ++ gs)).all (· <=reachBytes)=true) (_hL:laidMetH Tryz.prog Rows.aufsRoundRow.laid W) (_hS:W.ShapedOpen Tryz.prog) :
  Calls Tryz.prog 5 args W fun e W'=>∃ v,e= .returned v/\Rows.aufsRoundSpec.post enc Tryz.prog Tryz.f5 false true false false W args v W':=by
 have hW':=hW
 obtain⟨p,q,hA0,hV,rfl,hfz,hnd⟩:=hW
 have hA:DataW.TrodAll enc Tryz.prog W 0 (fun _=>true) true Tryz.f5.params.toList args.toList ds p:=hA0
 rw [Tryz.params5] at hA hval
 obtain⟨v0,vs0,d0,ds0,p0,q0,hargs,rfl,rfl,h0,r0⟩:=trodAll_cons hA
 obtain⟨rfl,rfl,rfl⟩:=trodAll_nil r0
 obtain rfl:args= #[v0]:=by cases args;simp_all
 obtain⟨x0,w0,z0⟩:=zLt (hval 0 35 v0 rfl rfl) h0 (fun n hn=>by have:=List.all_eq_true.1 hz n (DataW.weights_mem_each (j:=0) (t:=35) (d:=d0) (by rw [Tryz.params5];rfl) rfl n hn);simpa using this)
 refine(walk v0 x0 W w0 (fun y hy=>Nat.le_trans (z0 y hy) (by decide)) (Nat.le_trans (zPr (hval 0 35 v0 rfl rfl) h0 (fun n hn=>by have:=List.all_eq_true.1 hz n (DataW.weights_mem_each (j:=0) (t:=35) (d:=d0) (by rw [Tryz.params5];rfl) rfl n hn);simpa using this) w0) (by decide))).mono fun e W' ⟨he,hb⟩=>?_
 subst he
 exact⟨_,rfl,zJq hW' rfl rfl rfl (by intro t ht;rw [Tryz.params5] at ht;simp at ht;subst ht;exact⟨by kernel_rfl,of_decide_eq_true (by kernel_rfl)⟩) hb⟩
theorem reads (os:Os) {H:Type} (enc:TypeId × Value->H):∃ places,DataW.whole enc Tryz.prog ((zCC os).forCall (fun _ _=>0) ⟨#[],(#[.slice none 0 0]:Array Value),[]⟩).memory Tryz.f5.params.toList Rows.aufsRoundSpec.vars false (#[.slice none 0 0]:Array Value).toList 8=some ([.nil],[],places):=
 ⟨[],by kernel_rfl⟩
theorem lifted (os : Os) (started : os.Started) (H : Type) (enc : TypeId × Value -> H) (F : Stop.Interp) :
  ReturnsInHanded {} Tryz.checked os 5 .any ((OpenSpec.ofChange Rows.aufsRoundSpec).preRow enc Tryz.prog Tryz.f5 Rows.aufsRoundRow.domain false Rows.aufsRoundRow.laid) (((OpenSpec.ofChange Rows.aufsRoundSpec).at F).post enc Tryz.prog Tryz.f5 false true false false) := by
 obtain ⟨places, hx⟩ := reads os enc
 refine returnsInHanded_of_row (C := Tryz.checked) (s := OpenSpec.ofChange Rows.aufsRoundSpec) own started (by kernel_rfl) Tryz.func5
  (witness_row_atRef (enc := enc) (C := Tryz.checked) false (zCC os) (#[.slice none 0 0] : Array Value) rfl (by kernel_rfl) (by kernel_rfl) (by kernel_rfl)
   (OpenSpec.preRow_of_cond 8 hx (by kernel_rfl) (fun k hk => by cases hk) (by kernel_rfl) (zHz os _))) ?_
 intro W base args ds gs before hval hW _ _ hz hL hS _
 exact contract H enc W base args ds gs before hval hW hz hL hS
theorem j0:(Rows.aufsRoundRow.wf (OpenSpec.ofChange Rows.aufsRoundSpec))=true:=by kernel_rfl
theorem j1:(laidOutB Tryz.prog)=true:=zJr
theorem j2:(mapsRowed Tryz.prog)=true:=zUv
theorem j3:(Tryz.f5.params.all (Tryz.prog.readableRec ·))=true:=by kernel_rfl
theorem j4:(namedTie Tryz.prog Rows.aufsRoundRow.named Rows.aufsRoundSpec.vars)=true:=by kernel_rfl
theorem j5:((Rows.aufsRoundRow.stops == []))=true:=by kernel_rfl
theorem j6:((Tryz.prog.stops == []))=true:=zPU
theorem j7:((Rows.aufsRoundRow.knobs == []))=true:=by kernel_rfl
theorem j8:((Tryz.prog.stopKnobs == []))=true:=zPX
theorem j9:((Rows.aufsRoundRow.inPlace == Tryz.prog.inPlace 5))=true:=by kernel_rfl
theorem j10:((Rows.aufsRoundRow.unfollowed == Tryz.prog.unfollowed 5))=true:=by kernel_rfl
theorem j11:((Rows.aufsRoundRow.recurses == Tryz.prog.recurses 5))=true:=by kernel_rfl
theorem j12:((Rows.aufsRoundRow.named == Tryz.prog.varsNamed 5))=true:=by kernel_rfl
theorem j13:((Rows.aufsRoundRow.maps == (Tryz.f5.params.toList ++ Rows.aufsRoundSpec.plain.varTypes Tryz.prog).any (Tryz.prog.mapsRec ·)))=true:=by kernel_rfl
theorem j14:((Rows.aufsRoundRow.ifaces == (Tryz.f5.params.toList ++ Rows.aufsRoundSpec.plain.varTypes Tryz.prog).any (Tryz.prog.ifacesRec ·)))=true:=by kernel_rfl
theorem j15:((Rows.aufsRoundRow.mapsOut == Tryz.prog.mapsAmong Tryz.f5.resultTypes.toList))=true:=by kernel_rfl
theorem j16:((Rows.aufsRoundRow.loops == (Tryz.f5.params.toList ++ Rows.aufsRoundSpec.plain.varTypes Tryz.prog).any (Tryz.prog.loopsFrom ·)))=true:=by kernel_rfl
theorem j17:((Rows.aufsRoundRow.wideKeys == (Tryz.f5.params.toList ++ Rows.aufsRoundSpec.plain.varTypes Tryz.prog ++ Tryz.f5.resultTypes.toList).any (Tryz.prog.wideKeysFrom ·)))=true:=by kernel_rfl
theorem j18:(Rows.aufsRoundSpec.vars.all (Tryz.prog.varReadable ·))=true:=by kernel_rfl
theorem j19:(Tryz.f5.resultTypes.all (fun t=>Tryz.prog.readableRec t && decide (t < Tryz.prog.types.size)))=true:=by kernel_rfl
theorem j20:((Rows.aufsRoundRow.ifacesOut == Tryz.f5.resultTypes.toList.any (Tryz.prog.ifacesRec ·)))=true:=by kernel_rfl
theorem j21:((Rows.aufsRoundRow.loopsOut == Tryz.f5.resultTypes.toList.any (Tryz.prog.loopsFrom ·)))=true:=by kernel_rfl
theorem j22:((Rows.aufsRoundRow.plainKeys == Tryz.prog.plainKeys))=true:=zPV
theorem j23:(Rows.aufsRoundRow.shortTexts.isNone)=true:=by kernel_rfl
theorem j24:(Tryz.prog.stopsHeard)=true:=zPY
theorem j25:(Tryz.prog.mayEnter)=true:=zPZ
theorem j26:((Rows.aufsRoundRow.lifted == Tryz.prog.liftsFinal))=true:=zPW
theorem j27:((Tryz.prog.make == some Rows.aufsRoundRow.make))=true:=zUw
theorem j28:((Rows.aufsRoundRow.kinds == (if Rows.aufsRoundRow.domain.isEmpty then [] else Tryz.f5.params.toList.map fun t=>match Tryz.prog.underlying t with | some (.int k)=>some k | _=>none)))=true:=by kernel_rfl
theorem j29:((Rows.aufsRoundRow.pinned == Rows.aufsRoundRow.pinnedBy))=true:=by kernel_rfl
theorem j30:((Rows.aufsRoundRow.veiled == (Tryz.f5.params.toList ++ Rows.aufsRoundSpec.plain.varTypes Tryz.prog ++ Tryz.f5.resultTypes.toList).any (Tryz.prog.veiledRec ·)))=true:=by kernel_rfl
theorem j31:(Rows.aufsRoundRow.veiledFits Tryz.prog Tryz.f5.params.toList (Tryz.f5.params.toList ++ Rows.aufsRoundSpec.plain.varTypes Tryz.prog ++ Tryz.f5.resultTypes.toList))=true:=by kernel_rfl
theorem facts:joinedFacts Tryz.prog 5 Tryz.f5 Rows.aufsRoundSpec Rows.aufsRoundRow=true:=by
 unfold joinedFacts
 simp only [Bool.and_eq_true]
 exact⟨⟨⟨⟨⟨⟨⟨⟨⟨⟨⟨⟨⟨⟨⟨⟨⟨⟨⟨⟨⟨⟨⟨⟨⟨⟨⟨⟨⟨⟨⟨j0,j1⟩,j2⟩,j3⟩,j4⟩,j5⟩,j6⟩,j7⟩,j8⟩,j9⟩,j10⟩,j11⟩,j12⟩,j13⟩,j14⟩,j15⟩,j16⟩,j17⟩,j18⟩,j19⟩,j20⟩,j21⟩,j22⟩,j23⟩,j24⟩,j25⟩,j26⟩,j27⟩,j28⟩,j29⟩,j30⟩,j31⟩
theorem said:Rows.AufsRoundSaid:=
 OpenClaim.holds_of_cond 5 Tryz.f5 rfl rfl rfl rfl rfl rfl rfl ⟨rfl,rfl,rfl,rfl,rfl⟩ rfl rfl rfl rfl rfl (by kernel_rfl) Tryz.func5 facts
  (of_decide_eq_true (by kernel_rfl)) (by unfold Func.isWrapper;rw [if_neg (of_decide_eq_false (by kernel_rfl))];exact⟨rfl,rfl⟩)
  (fun os started H enc _ F=>by rw [OpenClaim.pre_eq_preRow];exact lifted os started H enc F)
#print axioms said
end Go.Proofs.YtbeeoomadnmogaaGreat.lwAufsRound
