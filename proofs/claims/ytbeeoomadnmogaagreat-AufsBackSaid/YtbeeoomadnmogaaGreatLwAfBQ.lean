/- AufsBack is proved: for every tree the law returns true; a tree that is larger than what is looked at is answered by the fixed calls alone. -/
import Derived.Test.YtbeeoomadnmogaaGreatQI6
import Derived.Test.YtbeeoomadnmogaaGreatQeOpenN
import Derived.Test.YtbeeoomadnmogaaGreatQeBrnE
import Derived.Test.YtbeeoomadnmogaaGreatQeLwpO
import Derived.Test.YtbeeoomadnmogaaGreatQAxM
import Derived.Test.YtbeeoomadnmogaaGreatQeAxR
set_option maxRecDepth 100000
set_option maxHeartbeats 64000000
namespace Go.Proofs.YtbeeoomadnmogaaGreat.lwAufsBack
open Go.ChangeShapes Go.WideShapes Go.ChangeAt Go.RowKit
open Go.ChangeMaps (open_string shut_string)
theorem walk (u:Value) (t:List TrN) (w:World) (hu:zCt w.heap.size w u t):zAt Tryz.prog 6 #[u] w (.bool true):=by
 unfold zAt
 obtain⟨ta,tcap,rfl⟩:=hu.form
 have HVT:=hQq hu
 clear hu
 go_enter Tryz.func6,Tryz.ntmps6
 go_wp2_with fail
 refine(zGZ w.heap.size _ t _ HVT.out).mono ?_
 rintro e w0 ⟨r,rfl,hr,rfl⟩
 cases r
 case true=>
  clear hr
  go_wp2_with (go_at_call 12;refine(zBz _).mono ?_;rintro e w1 ⟨rfl,hb⟩)
  go_ret
  exact⟨rfl,hb⟩
 have HFT:=hQq (hr rfl)
 clear hr
 have HST:=hQq (zLJ (Nat.le_refl _) HFT.out)
 by_cases he:zRu t=0
 case neg=>
  obtain⟨rl,rn,re,hre⟩:∃ rl rn re,zGw t=(rl,rn,re):=⟨_,_,_,rfl⟩
  have HRE:=hQq (zV8 hre)
  have HDEC:=hQq (zF3 w.heap.size w _ t HVT.out (Nat.le_refl _) HST.out)
  rw [hre] at HDEC
  have HNIL:Hid (rl= []):=hQq (by rw [<- HRE.out.1];exact zUW he)
  have q4:(re != 0)=true:=bne_iff_ne.2 (by rw [<- HRE.out.2.2];exact he)
  clear he hre
  go_wp2_with fail
  refine HDEC.out.mono ?_
  rintro e w1 ⟨⟨a1,c1,B1,he1,-,-,-⟩,hb1⟩
  have he1:e=Ending.returned (.tuple #[.slice a1 rl.length c1,.int .i64 rn,.int .i64 re]):=he1
  subst he1
  rw [HNIL.out]
  have HB1:=hQq hb1
  clear hb1
  go_wp2_with (go_at_call 12;refine(zBz _).mono ?_;rintro e w2 ⟨rfl,hb⟩)
  go_ret
  exact⟨rfl,Ext.trans HB1.out hb⟩
 have HAB:=hQq (zS1 he)
 have HDEC:=hQq (zF3 w.heap.size w _ t HVT.out (Nat.le_refl _) HST.out)
 rw [HAB.out.1] at HDEC
 have HSB:=hQq (zLj he)
 have HBR:=hQq (zSY HAB.out.2.1)
 have HENQ:Hid (awT (zEm t)=(t,0,0)):=hQq (zXr HAB.out.2.1 HAB.out.2.2.1)
 obtain⟨b,hbq⟩:∃ b,b=zEm t:=⟨_,rfl⟩
 rw [<- hbq] at HDEC HSB HAB HENQ HBR
 clear hbq he
 go_wp2_with fail
 refine HDEC.out.mono ?_
 rintro e w1 ⟨⟨a1,c1,B1,he1,hB1,hB1',ho1⟩,hb1⟩
 have he1:e=Ending.returned (.tuple #[.slice a1 b.length c1,.int .i64 0,.int .i64 0]):=he1
 subst he1
 have ho1:zAg cdB B1 w1 (.slice a1 b.length c1) b:=ho1
 have HO1:=hQq ho1;have HB1:=hQq hb1;have HS1:=hQq hB1'
 clear ho1 hb1 hB1 hB1'
 go_wp2_with fail
 refine(zNV B1 _ _ b (HO1.out.in okB) HS1.out HSB.out).mono ?_
 rintro e w2 ⟨rfl,hb2⟩
 rw [HBR.out]
 have HB2:=hQq (Ext.trans HB1.out hb2);have HO2:=hQq (HO1.out.ext okB hb2);have HS2:=hQq (Nat.le_trans HS1.out hb2.size)
 clear hb2
 have HENC:=hQq (zHe B1 w2 _ b (HO2.out.in okB) HS2.out HSB.out)
 rw [HENQ.out] at HENC
 go_wp2_with fail
 refine HENC.out.mono ?_
 rintro e w3 ⟨⟨a3,c3,B3,he3,hB3,hB3',ho3⟩,hb3⟩
 have he3:e=Ending.returned (.tuple #[.slice a3 t.length c3,.int .i64 0,.int .i64 0]):=he3
 subst he3
 have ho3:zAg cdT B3 w3 (.slice a3 t.length c3) t:=ho3
 have HO3:=hQq ho3;have HB3:=hQq (Ext.trans HB2.out hb3);have HO23:=hQq (HO2.out.ext okB hb3)
 clear ho3 hb3 hB3 hB3'
 have HLB:=hQq HSB.out.len
 go_wp2_with fail
 go_loop [11] (fun i=>∃ k:Nat,i= .int .i64 k/\k<=b.length) (fun i=>b.length - (intOf i).toNat)
 case atStart=>exact⟨0,rfl,Nat.zero_le _⟩
 case round=>
  obtain⟨k,rfl,hk⟩:=hrel
  have hlb:=HLB.out
  by_cases hlt:k < b.length
  case neg=>
   obtain rfl:k=b.length:=by omega
   have HY:=hQq (zCx (a:=t) rfl)
   go_wp2_with (first
    | (go_at_call 27;refine(zD0 _ _ _ _ t t _ (HO3.out.in okT) (HVT.out.ext okT HB3.out) (by have:=HFT.out.len;omega) (fun x hx=>by have:=(HFT.out.ok x hx).1.1;omega)).mono ?_;rintro e w4 ⟨rfl,hb4⟩;rw [HY.out];have HB4:=hQq (Ext.trans HB3.out hb4);clear hb4)
    | (go_at_call 12;refine(zBz _).mono ?_;rintro e w5 ⟨rfl,hb5⟩;have HB5:=hQq (Ext.trans HB4.out hb5);clear hb5)
    | fail)
   go_ret
   exact⟨rfl,HB5.out⟩
  obtain⟨bb,off,va,vr,hex,hb,hva,hvr,c0,c1,c2,c3,c4,c5,c6,c7,c8,c9⟩:=(HO23.out.in okB).br k hlt
  cases hex
  have hr0:=HAB.out.2.2.2.2 _ (List.getElem_mem hlt)
  rw [hr0] at hvr
  obtain⟨a4,cap4,rfl⟩:=hvr.form
  have j1:((k:Nat):Int) < (b.length:Int):=by omega
  have j0:(0:Int)<=(k:Int):=by omega
  clear hva hvr c0 c1 c2 c3 c4 c5 c6 c7 c8
  go_wp2
  go_round
  case rel=>exact⟨k+1,by go_num,by omega⟩
  case measure=>simp [intOf] <;> omega
theorem contract (H:Type) (enc:TypeId × Value->H) (W:World) (base:Nat) (args:Array Value) (ds gs:List (DataW H)) (before:List MemPlace)
  (hval:∀ (j:Nat) t v,Tryz.f6.params[j]? = some t->args[j]? = some v->Value.okWide Tryz.prog W .any base t v)
  (hW:DataW.Whole enc Tryz.prog Tryz.f6.params.toList Rows.aufsBackSpec.vars false W args.toList ds gs before) (_hz:(DataW.weightsEach Tryz.prog (Tryz.f6.params.toList ++ (OpenSpec.ofChange Rows.aufsBackSpec).bare.plain.varTypes Tryz.prog) (ds ++ gs)).all (· <=reachBytes)=true) (_hL:laidMetH Tryz.prog Rows.aufsBackRow.laid W) (_hS:W.ShapedOpen Tryz.prog) :
  Calls Tryz.prog 6 args W fun e W'=>∃ v,e= .returned v/\Rows.aufsBackSpec.post enc Tryz.prog Tryz.f6 false true false false W args v W':=by
 have hW':=hW
 obtain⟨p,q,hA0,hV,rfl,hfz,hnd⟩:=hW
 have hA:DataW.TrodAll enc Tryz.prog W 0 (fun _=>true) true Tryz.f6.params.toList args.toList ds p:=hA0
 rw [Tryz.params6] at hA hval
 obtain⟨v0,vs0,d0,ds0,p0,q0,hargs,rfl,rfl,h0,r0⟩:=trodAll_cons hA
 obtain⟨rfl,rfl,rfl⟩:=trodAll_nil r0
 obtain rfl:args= #[v0]:=by cases args;simp_all
 obtain⟨x0,w0⟩:=zNZ (hval 0 33 v0 rfl rfl) h0
 refine(walk v0 x0 W w0).mono fun e W' ⟨he,hb⟩=>?_
 subst he
 exact⟨_,rfl,zJq hW' rfl rfl rfl (by intro t ht;rw [Tryz.params6] at ht;simp at ht;subst ht;exact⟨by kernel_rfl,of_decide_eq_true (by kernel_rfl)⟩) hb⟩
theorem reads (os:Os) {H:Type} (enc:TypeId × Value->H):∃ places,DataW.whole enc Tryz.prog ((zCC os).forCall (fun _ _=>0) ⟨#[],(#[.slice none 0 0]:Array Value),[]⟩).memory Tryz.f6.params.toList Rows.aufsBackSpec.vars false (#[.slice none 0 0]:Array Value).toList 8=some ([.nil],[],places):=
 ⟨[],by kernel_rfl⟩
theorem lifted (os : Os) (started : os.Started) (H : Type) (enc : TypeId × Value -> H) (F : Stop.Interp) :
  ReturnsInHanded {} Tryz.checked os 6 .any ((OpenSpec.ofChange Rows.aufsBackSpec).preRow enc Tryz.prog Tryz.f6 Rows.aufsBackRow.domain false Rows.aufsBackRow.laid) (((OpenSpec.ofChange Rows.aufsBackSpec).at F).post enc Tryz.prog Tryz.f6 false true false false) := by
 obtain ⟨places, hx⟩ := reads os enc
 refine returnsInHanded_of_row (C := Tryz.checked) (s := OpenSpec.ofChange Rows.aufsBackSpec) own started (by kernel_rfl) Tryz.func6
  (witness_row_atRef (enc := enc) (C := Tryz.checked) false (zCC os) (#[.slice none 0 0] : Array Value) rfl (by kernel_rfl) (by kernel_rfl) (by kernel_rfl)
   (OpenSpec.preRow_of_cond 8 hx (by kernel_rfl) (fun k hk => by cases hk) (by kernel_rfl) (zHz os _))) ?_
 intro W base args ds gs before hval hW _ _ hz hL hS _
 exact contract H enc W base args ds gs before hval hW hz hL hS
theorem j0:(Rows.aufsBackRow.wf (OpenSpec.ofChange Rows.aufsBackSpec))=true:=by kernel_rfl
theorem j1:(laidOutB Tryz.prog)=true:=zJr
theorem j2:(mapsRowed Tryz.prog)=true:=zUv
theorem j3:(Tryz.f6.params.all (Tryz.prog.readableRec ·))=true:=by kernel_rfl
theorem j4:(namedTie Tryz.prog Rows.aufsBackRow.named Rows.aufsBackSpec.vars)=true:=by kernel_rfl
theorem j5:((Rows.aufsBackRow.stops == []))=true:=by kernel_rfl
theorem j6:((Tryz.prog.stops == []))=true:=zPU
theorem j7:((Rows.aufsBackRow.knobs == []))=true:=by kernel_rfl
theorem j8:((Tryz.prog.stopKnobs == []))=true:=zPX
theorem j9:((Rows.aufsBackRow.inPlace == Tryz.prog.inPlace 6))=true:=by kernel_rfl
theorem j10:((Rows.aufsBackRow.unfollowed == Tryz.prog.unfollowed 6))=true:=by kernel_rfl
theorem j11:((Rows.aufsBackRow.recurses == Tryz.prog.recurses 6))=true:=by kernel_rfl
theorem j12:((Rows.aufsBackRow.named == Tryz.prog.varsNamed 6))=true:=by kernel_rfl
theorem j13:((Rows.aufsBackRow.maps == (Tryz.f6.params.toList ++ Rows.aufsBackSpec.plain.varTypes Tryz.prog).any (Tryz.prog.mapsRec ·)))=true:=by kernel_rfl
theorem j14:((Rows.aufsBackRow.ifaces == (Tryz.f6.params.toList ++ Rows.aufsBackSpec.plain.varTypes Tryz.prog).any (Tryz.prog.ifacesRec ·)))=true:=by kernel_rfl
theorem j15:((Rows.aufsBackRow.mapsOut == Tryz.prog.mapsAmong Tryz.f6.resultTypes.toList))=true:=by kernel_rfl
theorem j16:((Rows.aufsBackRow.loops == (Tryz.f6.params.toList ++ Rows.aufsBackSpec.plain.varTypes Tryz.prog).any (Tryz.prog.loopsFrom ·)))=true:=by kernel_rfl
theorem j17:((Rows.aufsBackRow.wideKeys == (Tryz.f6.params.toList ++ Rows.aufsBackSpec.plain.varTypes Tryz.prog ++ Tryz.f6.resultTypes.toList).any (Tryz.prog.wideKeysFrom ·)))=true:=by kernel_rfl
theorem j18:(Rows.aufsBackSpec.vars.all (Tryz.prog.varReadable ·))=true:=by kernel_rfl
theorem j19:(Tryz.f6.resultTypes.all (fun t=>Tryz.prog.readableRec t && decide (t < Tryz.prog.types.size)))=true:=by kernel_rfl
theorem j20:((Rows.aufsBackRow.ifacesOut == Tryz.f6.resultTypes.toList.any (Tryz.prog.ifacesRec ·)))=true:=by kernel_rfl
theorem j21:((Rows.aufsBackRow.loopsOut == Tryz.f6.resultTypes.toList.any (Tryz.prog.loopsFrom ·)))=true:=by kernel_rfl
theorem j22:((Rows.aufsBackRow.plainKeys == Tryz.prog.plainKeys))=true:=zPV
theorem j23:(Rows.aufsBackRow.shortTexts.isNone)=true:=by kernel_rfl
theorem j24:(Tryz.prog.stopsHeard)=true:=zPY
theorem j25:(Tryz.prog.mayEnter)=true:=zPZ
theorem j26:((Rows.aufsBackRow.lifted == Tryz.prog.liftsFinal))=true:=zPW
theorem j27:((Tryz.prog.make == some Rows.aufsBackRow.make))=true:=zUw
theorem j28:((Rows.aufsBackRow.kinds == (if Rows.aufsBackRow.domain.isEmpty then [] else Tryz.f6.params.toList.map fun t=>match Tryz.prog.underlying t with | some (.int k)=>some k | _=>none)))=true:=by kernel_rfl
theorem j29:((Rows.aufsBackRow.pinned == Rows.aufsBackRow.pinnedBy))=true:=by kernel_rfl
theorem j30:((Rows.aufsBackRow.veiled == (Tryz.f6.params.toList ++ Rows.aufsBackSpec.plain.varTypes Tryz.prog ++ Tryz.f6.resultTypes.toList).any (Tryz.prog.veiledRec ·)))=true:=by kernel_rfl
theorem j31:(Rows.aufsBackRow.veiledFits Tryz.prog Tryz.f6.params.toList (Tryz.f6.params.toList ++ Rows.aufsBackSpec.plain.varTypes Tryz.prog ++ Tryz.f6.resultTypes.toList))=true:=by kernel_rfl
theorem facts:joinedFacts Tryz.prog 6 Tryz.f6 Rows.aufsBackSpec Rows.aufsBackRow=true:=by
 unfold joinedFacts
 simp only [Bool.and_eq_true]
 exact⟨⟨⟨⟨⟨⟨⟨⟨⟨⟨⟨⟨⟨⟨⟨⟨⟨⟨⟨⟨⟨⟨⟨⟨⟨⟨⟨⟨⟨⟨⟨j0,j1⟩,j2⟩,j3⟩,j4⟩,j5⟩,j6⟩,j7⟩,j8⟩,j9⟩,j10⟩,j11⟩,j12⟩,j13⟩,j14⟩,j15⟩,j16⟩,j17⟩,j18⟩,j19⟩,j20⟩,j21⟩,j22⟩,j23⟩,j24⟩,j25⟩,j26⟩,j27⟩,j28⟩,j29⟩,j30⟩,j31⟩
theorem said:Rows.AufsBackSaid:=
 OpenClaim.holds_of_cond 6 Tryz.f6 rfl rfl rfl rfl rfl rfl rfl ⟨rfl,rfl,rfl,rfl,rfl⟩ rfl rfl rfl rfl rfl (by kernel_rfl) Tryz.func6 facts
  (of_decide_eq_true (by kernel_rfl)) (by unfold Func.isWrapper;rw [if_neg (of_decide_eq_false (by kernel_rfl))];exact⟨rfl,rfl⟩)
  (fun os started H enc _ F=>by rw [OpenClaim.pre_eq_preRow];exact lifted os started H enc F)
#print axioms said
end Go.Proofs.YtbeeoomadnmogaaGreat.lwAufsBack
