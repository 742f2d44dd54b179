
import Derived.Test.YtiliglpolcpnbaaGreatDoorQOrE
import Derived.Test.YtiliglpolcpnbaaGreatDoorQFrameO
namespace Go.Proofs.YtiliglpolcpnbaaGreatDoor.lwOverlayBack
open Go.ChangeShapes Go.WideShapes Go.ChangeAt Go.RowKit
open Go.ChangeMaps (open_string shut_string)

set_option maxHeartbeats 8000000 in
set_option maxRecDepth 100000 in
theorem walk (v : Value) (b : List BrN) (u : Value) (t : List TrN) (w : World) (hv : BrIn w.heap.size w v b) (hz : ∀ x ∈ b, x.ats.length * 32 ≤ 140737488355328) (hu : TrIn w.heap.size w u t) (hL : LaidO w) : RetB Tryz.prog 5 #[v, u] w (.bool true) := by
  unfold RetB
  obtain ⟨aa, cap, rfl⟩ := hv.form
  obtain ⟨ta, tcap, rfl⟩ := hu.form
  have HV := Lib.hid hv; have HVT := Lib.hid hu; have HL := Lib.hid hL
  clear hv hu hL
  go_enter Tryz.func5, Tryz.ntmps5
  go_wp2_with fail
  refine (law21far w.heap.size _ b _ HV.out (Nat.le_refl _) hz).mono ?_
  rintro e w0 ⟨r, rfl, hr, hb0⟩
  have HB0 := Lib.hid hb0
  clear hb0
  cases r
  case true =>
    clear hr
    go_wp2_with (go_at_call 12; refine (law21awake _ (HL.out.ext HB0.out)).mono ?_; rintro e w1 ⟨rfl, hb⟩)
    go_ret
    exact ⟨rfl, Ext.trans HB0.out hb⟩
  have HFB := Lib.hid (hr rfl)
  clear hr
  go_wp2_with fail
  refine (law21large w.heap.size _ t _ (HVT.out.ext okT HB0.out)).mono ?_
  rintro e w0' ⟨r, rfl, hr, rfl⟩
  cases r
  case true =>
    clear hr
    go_wp2_with (go_at_call 12; refine (law21awake _ (HL.out.ext HB0.out)).mono ?_; rintro e w1 ⟨rfl, hb⟩)
    go_ret
    exact ⟨rfl, Ext.trans HB0.out hb⟩
  have HFT := Lib.hid (hr rfl)
  clear hr
  have HSM := Lib.hid (fewB_smallO (Nat.le_refl _) HFB.out); have HST := Lib.hid (fewT_smallO (Nat.le_refl _) HFT.out)
  go_wp2_with fail
  refine (ovEncode w.heap.size _ _ b (HL.out.ext HB0.out) (HV.out.ext okB HB0.out) HSM.out).mono ?_
  rintro e w1 ⟨⟨B1, a1, n1, c1, hB1, rfl, ho1⟩, hb1⟩
  by_cases he : oeF b = 0
  focus
    have HEB := Lib.hid (oe_back he)
    have HEN := Lib.hid (oe_parts he).2.2.2
    have HE0 := Lib.hid he
    have HDO := Lib.hid (od_of HEB.out.2)
    have HSE := Lib.hid (oeL_small HSM.out)
    clear he
    rw [HEN.out, HE0.out]
    have HO1 := Lib.hid ho1; have HB1 := Lib.hid (Ext.trans HB0.out hb1)
    clear ho1 hb1 hB1
    go_wp2_with fail
    refine (ovDecode _ _ _ (oeL b) (HL.out.ext HB1.out) (HO1.out.in okT) HSE.out).mono ?_
    rintro e w2 ⟨⟨B2, a2, n2, c2, hB2, rfl, ho2⟩, hb2⟩
    rw [HDO.out.2.1, HDO.out.2.2]
    rw [HDO.out.1] at ho2
    have HO2 := Lib.hid ho2; have HO12 := Lib.hid (HO1.out.ext okT hb2); have HB2 := Lib.hid (Ext.trans HB1.out hb2)
    clear ho2 hb2 hB2
    go_wp2_with fail
    refine (refTreeCheck _ _ (oeL b) _ (HO12.out.in okT) HSE.out).mono ?_
    rintro e w3 ⟨rfl, hb3⟩
    rw [HEB.out.1]
    have HB3 := Lib.hid (Ext.trans HB2.out hb3); have HO23 := Lib.hid ((HO2.out.ext okB hb3).inS okB)
    clear hb3
    obtain ⟨X2, hX2, hi2⟩ := HO23.out
    have HI2 := Lib.hid hi2; have HX2 := Lib.hid hX2
    clear hi2 hX2
    go_wp2_with fail
    refine (refBrSame w.heap.size X2 _ _ b _ (HV.out.ext okB HB3.out) HI2.out HB3.out.size HX2.out HSM.out.len HSM.out.ats (fun x hx => (HSM.out.red x hx).1)).mono ?_
    rintro e w4 ⟨rfl, hb4⟩
    have HB4 := Lib.hid (Ext.trans HB3.out hb4)
    clear hb4
  rotate_left
  focus
    have q4 : (oeF b == 0) = false := beq_eq_false_iff_ne.2 he
    clear he
    have HB4 := Lib.hid (Ext.trans HB0.out hb1)
    clear ho1 hb1 hB1
  all_goals
    by_cases hd : odF t = 0
    case pos =>
      have HDC := Lib.hid (od_back hd)
      have HDP := Lib.hid (gend_zero (t := t) (E := odE t) (X := odX t) hd)
      have HN := Lib.hid (show odN t = 0 from (od_of HDP.out.2.2.2).2.1)
      have HD0 := Lib.hid hd
      have HEO := Lib.hid (oe_of HDC.out.2)
      have HSL := Lib.hid (odL_small HST.out)
      clear hd
      go_wp2_with fail
      refine (ovDecode w.heap.size _ _ t (HL.out.ext HB4.out) (HVT.out.ext okT HB4.out) HST.out).mono ?_
      rintro e y1 ⟨⟨D1, b1, m1, k1, hD1, rfl, hp1⟩, hy1⟩
      rw [HN.out, HD0.out]
      have P1 := Lib.hid hp1; have Y1 := Lib.hid (Ext.trans HB4.out hy1)
      clear hp1 hy1 hD1
      go_wp2_with fail
      refine (ovEncode _ _ _ (odL t) (HL.out.ext Y1.out) (P1.out.in okB) HSL.out).mono ?_
      rintro e y2 ⟨⟨D2, b2, m2, k2, hD2, rfl, hp2⟩, hy2⟩
      rw [HEO.out.2.1, HEO.out.2.2]
      rw [HEO.out.1] at hp2
      have P2 := Lib.hid hp2; have Y2 := Lib.hid (Ext.trans Y1.out hy2); have P12 := Lib.hid ((P1.out.ext okB hy2).inS okB)
      clear hp2 hy2 hD2
      obtain ⟨X3, hX3, hi3⟩ := P12.out
      have HI3 := Lib.hid hi3; have HX3 := Lib.hid hX3
      clear hi3 hX3
      go_wp2_with fail
      refine (refBrCheck X3 _ _ (odL t) HI3.out HX3.out HSL.out).mono ?_
      rintro e y3 ⟨rfl, hy3⟩
      rw [HDC.out.1]
      have Y3 := Lib.hid (Ext.trans Y2.out hy3); have P23 := Lib.hid (P2.out.ext okT hy3)
      clear hy3
      have HY := Lib.hid (sameTB_yes (a := t) rfl)
      go_wp2_with fail
      refine (refSameList _ _ _ _ t t _ (HVT.out.ext okT Y3.out) (P23.out.in okT) (by have := HFT.out.len; omega) (fun x hx => by have := (HFT.out.ok x hx).1.1; omega)).mono ?_
      rintro e y4 ⟨rfl, hy4⟩
      rw [HY.out]
      have Y4 := Lib.hid (Ext.trans Y3.out hy4)
      clear hy4
      go_wp2_with (go_at_call 12; refine (law21awake _ (HL.out.ext Y4.out)).mono ?_; rintro e y5 ⟨rfl, hb⟩)
      go_ret
      exact ⟨rfl, Ext.trans Y4.out hb⟩
    case neg =>
      have q5 : (odF t == 0) = false := beq_eq_false_iff_ne.2 hd
      clear hd
      go_wp2_with fail
      refine (ovDecode w.heap.size _ _ t (HL.out.ext HB4.out) (HVT.out.ext okT HB4.out) HST.out).mono ?_
      rintro e y1 ⟨⟨D1, b1, m1, k1, hD1, rfl, hp1⟩, hy1⟩
      have Y1 := Lib.hid (Ext.trans HB4.out hy1)
      clear hp1 hy1 hD1
      go_wp2_with (go_at_call 12; refine (law21awake _ (HL.out.ext Y1.out)).mono ?_; rintro e y5 ⟨rfl, hb⟩)
      go_ret
      exact ⟨rfl, Ext.trans Y1.out hb⟩
set_option maxRecDepth 100000 in
theorem contract (H : Type) (enc : TypeId × Value → H) (W : World) (base : Nat) (args : Array Value) (ds gs : List (DataW H)) (before : List MemPlace)
    (hval : ∀ (j : Nat) t v, Tryz.f5.params[j]? = some t → args[j]? = some v → Value.okWide Tryz.prog W .any base t v)
    (hW : DataW.Whole enc Tryz.prog Tryz.f5.params.toList Rows.overlayBackSpec.vars false W args.toList ds gs before) (hz : (DataW.weightsEach Tryz.prog (Tryz.f5.params.toList ++ (OpenSpec.ofChange Rows.overlayBackSpec).bare.plain.varTypes Tryz.prog) (ds ++ gs)).all (· ≤ reachBytes) = true) (hL : laidMetH Tryz.prog Rows.overlayBackRow.laid W) (hS : W.ShapedOpen Tryz.prog) :
    Calls Tryz.prog 5 args W fun e W' => ∃ v, e = .returned v ∧ Rows.overlayBackSpec.post enc Tryz.prog Tryz.f5 false true false false W args v W' := by
  have hW' := hW
  obtain ⟨p, q, hA0, hV, rfl, hfz, hnd⟩ := hW
  have hA : DataW.TrodAll enc Tryz.prog W 0 (fun _ => true) true Tryz.f5.params.toList args.toList ds p := hA0
  rw [Tryz.params5] at hA hval
  obtain ⟨v0, vs0, d0, ds0, p0, q0, hargs, rfl, rfl, h0, r0⟩ := trodAll_cons hA
  obtain ⟨v1, vs1, d1, ds1, p1, q1, rfl, rfl, rfl, h1, r1⟩ := trodAll_cons r0
  obtain ⟨rfl, rfl, rfl⟩ := trodAll_nil r1
  obtain rfl : args = #[v0, v1] := by cases args; simp_all
  obtain ⟨x0, w0, z0⟩ := open_nodesS (hval 0 22 v0 rfl rfl) h0 (fun n hn => by have := List.all_eq_true.1 hz n (DataW.weights_mem_each (j := 0) (t := 22) (d := d0) (by rw [Tryz.params5]; rfl) rfl n hn); simpa using this)
  obtain ⟨x1, w1⟩ := open_trees (hval 1 25 v1 rfl rfl) h1
  refine (walk v0 x0 v1 x1 W w0 (fun y hy => Nat.le_trans (z0 y hy) (by decide)) w1 (laid_of hL hS)).mono fun e W' ⟨he, hb⟩ => ?_
  subst he
  exact ⟨_, rfl, law_post hW' rfl rfl rfl (by intro t ht; rw [Tryz.params5] at ht; simp at ht; rcases ht with rfl | rfl <;> exact ⟨by kernel_rfl, of_decide_eq_true (by kernel_rfl)⟩) hb⟩
theorem reads (os : Os) {H : Type} (enc : TypeId × Value → H) : ∃ places, DataW.whole enc Tryz.prog ((laidWorld os).forCall (fun _ _ => 0) ⟨#[], (#[.slice none 0 0, .slice none 0 0] : Array Value), []⟩).memory Tryz.f5.params.toList Rows.overlayBackSpec.vars false (#[.slice none 0 0, .slice none 0 0] : Array Value).toList 8 = some ([.nil, .nil], [], places) :=
  ⟨[], by kernel_rfl⟩
set_option maxRecDepth 100000 in
theorem lifted (os : Os) (started : os.Started) (H : Type) (enc : TypeId × Value → H) (F : Stop.Interp) :
    ReturnsInHanded {} Tryz.checked os 5 .any ((OpenSpec.ofChange Rows.overlayBackSpec).preRow enc Tryz.prog Tryz.f5 Rows.overlayBackRow.domain false Rows.overlayBackRow.laid) (((OpenSpec.ofChange Rows.overlayBackSpec).at F).post enc Tryz.prog Tryz.f5 false true false false) := by
  obtain ⟨places, hx⟩ := reads os enc
  refine returnsInHanded_of_row (C := Tryz.checked) (s := OpenSpec.ofChange Rows.overlayBackSpec) own started (by kernel_rfl) Tryz.func5
    (witness_row_atRef (enc := enc) (C := Tryz.checked) false (laidWorld os) (#[.slice none 0 0, .slice none 0 0] : Array Value) rfl (by kernel_rfl) (by kernel_rfl) (by kernel_rfl)
      (OpenSpec.preRow_of_cond 8 hx (by kernel_rfl) (fun k hk => by cases hk) (by kernel_rfl) (laid_met os _))) ?_
  intro W base args ds gs before hval hW _ _ hz hL hS _
  exact contract H enc W base args ds gs before hval hW hz hL hS
theorem j0 : (Rows.overlayBackRow.wf (OpenSpec.ofChange Rows.overlayBackSpec)) = true := by kernel_rfl
theorem j1 : (laidOutB Tryz.prog) = true := laidOut
theorem j2 : (mapsRowed Tryz.prog) = true := jMaps
theorem j3 : (Tryz.f5.params.all (Tryz.prog.readableRec ·)) = true := by kernel_rfl
theorem j4 : (namedTie Tryz.prog Rows.overlayBackRow.named Rows.overlayBackSpec.vars) = true := by kernel_rfl
theorem j5 : ((Rows.overlayBackRow.stops == [])) = true := by kernel_rfl
theorem j6 : ((Tryz.prog.stops == [])) = true := jStops
theorem j7 : ((Rows.overlayBackRow.knobs == [])) = true := by kernel_rfl
theorem j8 : ((Tryz.prog.stopKnobs == [])) = true := jKnobs
theorem j9 : ((Rows.overlayBackRow.inPlace == Tryz.prog.inPlace 5)) = true := by kernel_rfl
theorem j10 : ((Rows.overlayBackRow.unfollowed == Tryz.prog.unfollowed 5)) = true := by kernel_rfl
theorem j11 : ((Rows.overlayBackRow.recurses == Tryz.prog.recurses 5)) = true := by kernel_rfl
theorem j12 : ((Rows.overlayBackRow.named == Tryz.prog.varsNamed 5)) = true := by kernel_rfl
theorem j13 : ((Rows.overlayBackRow.maps == (Tryz.f5.params.toList ++ Rows.overlayBackSpec.plain.varTypes Tryz.prog).any (Tryz.prog.mapsRec ·))) = true := by kernel_rfl
theorem j14 : ((Rows.overlayBackRow.ifaces == (Tryz.f5.params.toList ++ Rows.overlayBackSpec.plain.varTypes Tryz.prog).any (Tryz.prog.ifacesRec ·))) = true := by kernel_rfl
theorem j15 : ((Rows.overlayBackRow.mapsOut == Tryz.prog.mapsAmong Tryz.f5.resultTypes.toList)) = true := by kernel_rfl
theorem j16 : ((Rows.overlayBackRow.loops == (Tryz.f5.params.toList ++ Rows.overlayBackSpec.plain.varTypes Tryz.prog).any (Tryz.prog.loopsFrom ·))) = true := by kernel_rfl
theorem j17 : ((Rows.overlayBackRow.wideKeys == (Tryz.f5.params.toList ++ Rows.overlayBackSpec.plain.varTypes Tryz.prog ++ Tryz.f5.resultTypes.toList).any (Tryz.prog.wideKeysFrom ·))) = true := by kernel_rfl
theorem j18 : (Rows.overlayBackSpec.vars.all (Tryz.prog.varReadable ·)) = true := by kernel_rfl
theorem j19 : (Tryz.f5.resultTypes.all (fun t => Tryz.prog.readableRec t && decide (t < Tryz.prog.types.size))) = true := by kernel_rfl
theorem j20 : ((Rows.overlayBackRow.ifacesOut == Tryz.f5.resultTypes.toList.any (Tryz.prog.ifacesRec ·))) = true := by kernel_rfl
theorem j21 : ((Rows.overlayBackRow.loopsOut == Tryz.f5.resultTypes.toList.any (Tryz.prog.loopsFrom ·))) = true := by kernel_rfl
theorem j22 : ((Rows.overlayBackRow.plainKeys == Tryz.prog.plainKeys)) = true := jPlain
theorem j23 : (Rows.overlayBackRow.shortTexts.isNone) = true := by kernel_rfl
theorem j24 : (Tryz.prog.stopsHeard) = true := jHeard
theorem j25 : (Tryz.prog.mayEnter) = true := jEnter
theorem j26 : ((Rows.overlayBackRow.lifted == Tryz.prog.liftsFinal)) = true := jLifts
theorem j27 : ((Tryz.prog.make == some Rows.overlayBackRow.make)) = true := jMake
theorem j28 : ((Rows.overlayBackRow.kinds == (if Rows.overlayBackRow.domain.isEmpty then [] else Tryz.f5.params.toList.map fun t => match Tryz.prog.underlying t with | some (.int k) => some k | _ => none))) = true := by kernel_rfl
theorem j29 : ((Rows.overlayBackRow.pinned == Rows.overlayBackRow.pinnedBy)) = true := by kernel_rfl
theorem j30 : ((Rows.overlayBackRow.veiled == (Tryz.f5.params.toList ++ Rows.overlayBackSpec.plain.varTypes Tryz.prog ++ Tryz.f5.resultTypes.toList).any (Tryz.prog.veiledRec ·))) = true := by kernel_rfl
theorem j31 : (Rows.overlayBackRow.veiledFits Tryz.prog Tryz.f5.params.toList (Tryz.f5.params.toList ++ Rows.overlayBackSpec.plain.varTypes Tryz.prog ++ Tryz.f5.resultTypes.toList)) = true := by kernel_rfl
set_option maxRecDepth 100000 in
theorem facts : joinedFacts Tryz.prog 5 Tryz.f5 Rows.overlayBackSpec Rows.overlayBackRow = true := by
  unfold joinedFacts
  simp only [Bool.and_eq_true]
  exact ⟨⟨⟨⟨⟨⟨⟨⟨⟨⟨⟨⟨⟨⟨⟨⟨⟨⟨⟨⟨⟨⟨⟨⟨⟨⟨⟨⟨⟨⟨⟨j0, j1⟩, j2⟩, j3⟩, j4⟩, j5⟩, j6⟩, j7⟩, j8⟩, j9⟩, j10⟩, j11⟩, j12⟩, j13⟩, j14⟩, j15⟩, j16⟩, j17⟩, j18⟩, j19⟩, j20⟩, j21⟩, j22⟩, j23⟩, j24⟩, j25⟩, j26⟩, j27⟩, j28⟩, j29⟩, j30⟩, j31⟩
set_option maxRecDepth 100000 in
theorem said : Rows.OverlayBackSaid :=
  OpenClaim.holds_of_cond 5 Tryz.f5 rfl rfl rfl rfl rfl rfl rfl ⟨rfl, rfl, rfl, rfl, rfl⟩ rfl rfl rfl rfl rfl (by kernel_rfl) Tryz.func5 facts
    (of_decide_eq_true (by kernel_rfl)) (by unfold Func.isWrapper; rw [if_neg (of_decide_eq_false (by kernel_rfl))]; exact ⟨rfl, rfl⟩)
    (fun os started H enc _ F => by rw [OpenClaim.pre_eq_preRow]; exact lifted os started H enc F)
theorem plain (f : FuncId) (fn : Func) (hf : Tryz.pinned.checked.prog.funcNamed Rows.overlayBackRow.func = some f) (hfn : Tryz.pinned.checked.prog.funcs[f]? = some fn) :
    true = Tryz.pinned.checked.prog.looks [] ∧ ∀ (j : Nat) t, fn.params[j]? = some t → Tryz.pinned.checked.prog.wantsStandIn t = false := by
  obtain rfl : f = 5 := Option.some.inj ((show Tryz.prog.funcNamed Rows.overlayBackRow.func = some 5 by kernel_rfl).symm.trans hf) |>.symm
  obtain rfl : fn = Tryz.f5 := (Option.some.inj (Tryz.func5.symm.trans hfn)).symm
  refine ⟨by kernel_rfl, fun j t ht => ?_⟩
  rw [Tryz.params5] at ht
  have hm := Array.mem_of_getElem? ht
  simp at hm
  rcases hm with rfl | rfl
  · exact (show Tryz.prog.wantsStandIn 22 = false by kernel_rfl)
  · exact (show Tryz.prog.wantsStandIn 25 = false by kernel_rfl)
theorem card : Rows.OverlayBackCardSaid :=
  Claim7.holds_tied_plain_at .later [] _ _ _ _ said (fun _ h => by cases h) (by kernel_rfl) (fun _ h => by cases h) overlayBack_row_tie rfl ⟨rfl, rfl⟩ (by kernel_rfl) rfl plain (by kernel_rfl)
#print axioms card
end Go.Proofs.YtiliglpolcpnbaaGreatDoor.lwOverlayBack
