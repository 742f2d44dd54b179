/- FuseBack is proved: for every branch and every tree the law returns true; larger ones are answered by the fixed calls alone. -/
import Derived.Test.YtimpejaaeinplaaGreatDoorQI6
import Derived.Test.YtimpejaaeinplaaGreatDoorQFuDd
namespace Go.Proofs.YtimpejaaeinplaaGreatDoor.lwFuseBack
open Go.ChangeShapes Go.WideShapes Go.ChangeAt Go.RowKit
open Go.ChangeMaps (open_string shut_string)

set_option maxHeartbeats 8000000 in
set_option maxRecDepth 100000 in
theorem walk (a0 b0 c0 : Addr) (v : Value) (b : List BrN) (u : Value) (t : List TrN) (w : World) (hv : BrIn w.heap.size w v b) (hz : ∀ x ∈ b, x.ats.length * 32 <= 140737488355328) (hu : TrIn w.heap.size w u t) (hL : LaidF w a0 b0 c0) : RetB Tryz.prog 4 #[v, u] w (.bool true) := by
  unfold RetB
  obtain ⟨aa, cap, rfl⟩ := hv.form
  obtain ⟨ta, tcap, rfl⟩ := hu.form
  have HV := hQq hv; have HVT := hQq hu; have HL := hQq hL
  clear hv hu hL
  go_enter Tryz.func4, Tryz.ntmps4
  go_wp2_with fail
  refine (law22far w.heap.size _ b _ HV.out (Nat.le_refl _) hz).mono ?_
  rintro e w0 ⟨r, rfl, hr, hb0⟩
  have HB0 := hQq hb0
  clear hb0
  cases r
  case true =>
    clear hr
    go_wp2_with (go_at_call 12; refine (law22awake a0 b0 c0 _ (HL.out.ext HB0.out)).mono ?_; rintro e w1 ⟨rfl, hb⟩)
    go_ret
    exact ⟨rfl, Ext.trans HB0.out hb⟩
  have HFB := hQq (hr rfl)
  clear hr
  go_wp2_with fail
  refine (law22large w.heap.size _ t _ (HVT.out.ext okT HB0.out)).mono ?_
  rintro e w0' ⟨r, rfl, hr, rfl⟩
  cases r
  case true =>
    clear hr
    go_wp2_with (go_at_call 12; refine (law22awake a0 b0 c0 _ (HL.out.ext HB0.out)).mono ?_; rintro e w1 ⟨rfl, hb⟩)
    go_ret
    exact ⟨rfl, Ext.trans HB0.out hb⟩
  have HFT := hQq (hr rfl)
  clear hr
  have HSM := hQq (fewB_smallO (Nat.le_refl _) HFB.out); have HST := hQq (fewT_smallO (Nat.le_refl _) HFT.out)
  by_cases he : feF b = 0
  case pos =>
    have HEB := hQq (fe_back he)
    have HEN := hQq (fe_parts he).2.2.2
    have HE0 := hQq he
    have HDO := hQq (fd_of HEB.out.2)
    have HSE := hQq (feL_small HSM.out)
    clear he
    go_wp2_with fail
    refine (fuEncode a0 b0 c0 w.heap.size _ _ b (HL.out.ext HB0.out) (HV.out.ext okB HB0.out) HSM.out).mono ?_
    rintro e w1 ⟨⟨B1, a1, n1, c1, hB1, rfl, ho1⟩, hb1⟩
    rw [HEN.out, HE0.out]
    have HO1 := hQq ho1; have HB1 := hQq (Ext.trans HB0.out hb1)
    clear ho1 hb1 hB1
    go_wp2_with fail
    refine (fuDecode a0 b0 c0 _ _ _ (feL b) (HL.out.ext HB1.out) (HO1.out.in okT) HSE.out).mono ?_
    rintro e w2 ⟨⟨B2, a2, n2, c2, hB2, rfl, ho2⟩, hb2⟩
    rw [HDO.out.2.1, HDO.out.2.2]
    rw [HDO.out.1] at ho2
    have HO2 := hQq ho2; have HO12 := hQq (HO1.out.ext okT hb2); have HB2 := hQq (Ext.trans HB1.out hb2)
    clear ho2 hb2 hB2
    go_wp2_with fail
    refine (refTreeCheck _ _ (feL b) _ (HO12.out.in okT) HSE.out).mono ?_
    rintro e w3 ⟨rfl, hb3⟩
    rw [HEB.out.1]
    have HB3 := hQq (Ext.trans HB2.out hb3); have HO23 := hQq ((HO2.out.ext okB hb3).inS okB)
    clear hb3
    obtain ⟨X2, hX2, hi2⟩ := HO23.out
    have HI2 := hQq hi2; have HX2 := hQq hX2
    clear hi2 hX2
    go_wp2_with fail
    refine (refBrSame w.heap.size X2 _ _ b _ (HV.out.ext okB HB3.out) HI2.out HB3.out.size HX2.out HSM.out.len HSM.out.ats (fun x hx => (HSM.out.red x hx).1)).mono ?_
    rintro e w4 ⟨rfl, hb4⟩
    have HB4 := hQq (Ext.trans HB3.out hb4)
    clear hb4
    by_cases hd : fdF t = 0
    case pos =>
      have HDC := hQq (fd_back hd)
      have HDP := hQq (gend_zero (t := t) (E := fdE t) (X := fdX t) hd)
      have HN := hQq (show fdN t = 0 from (fd_of HDP.out.2.2.2).2.1)
      have HD0 := hQq hd
      have HEO := hQq (fe_of HDC.out.2)
      have HSL := hQq (fdL_small HST.out)
      clear hd
      go_wp2_with fail
      refine (fuDecode a0 b0 c0 w.heap.size _ _ t (HL.out.ext HB4.out) (HVT.out.ext okT HB4.out) HST.out).mono ?_
      rintro e y1 ⟨⟨D1, b1, m1, k1, hD1, rfl, hp1⟩, hy1⟩
      rw [HN.out, HD0.out]
      have P1 := hQq hp1; have Y1 := hQq (Ext.trans HB4.out hy1)
      clear hp1 hy1 hD1
      go_wp2_with fail
      refine (fuEncode a0 b0 c0 _ _ _ (fdL t) (HL.out.ext Y1.out) (P1.out.in okB) HSL.out).mono ?_
      rintro e y2 ⟨⟨D2, b2, m2, k2, hD2, rfl, hp2⟩, hy2⟩
      rw [HEO.out.2.1, HEO.out.2.2]
      rw [HEO.out.1] at hp2
      have P2 := hQq hp2; have Y2 := hQq (Ext.trans Y1.out hy2); have P12 := hQq ((P1.out.ext okB hy2).inS okB)
      clear hp2 hy2 hD2
      obtain ⟨X3, hX3, hi3⟩ := P12.out
      have HI3 := hQq hi3; have HX3 := hQq hX3
      clear hi3 hX3
      go_wp2_with fail
      refine (refBrCheck X3 _ _ (fdL t) HI3.out HX3.out HSL.out).mono ?_
      rintro e y3 ⟨rfl, hy3⟩
      rw [HDC.out.1]
      have Y3 := hQq (Ext.trans Y2.out hy3); have P23 := hQq (P2.out.ext okT hy3)
      clear hy3
      have HY := hQq (sameTB_yes (a := t) rfl)
      go_wp2_with fail
      refine (refSameList _ _ _ _ t t _ (HVT.out.ext okT Y3.out) (P23.out.in okT) (by have := HFT.out.len; omega) (fun x hx => by have := (HFT.out.ok x hx).1.1; omega)).mono ?_
      rintro e y4 ⟨rfl, hy4⟩
      rw [HY.out]
      have Y4 := hQq (Ext.trans Y3.out hy4)
      clear hy4
      go_wp2_with (go_at_call 12; refine (law22awake a0 b0 c0 _ (HL.out.ext Y4.out)).mono ?_; rintro e y5 ⟨rfl, hb⟩)
      go_ret
      exact ⟨rfl, Ext.trans Y4.out hb⟩
    case neg =>
      have q5 : (fdF t == 0) = false := beq_eq_false_iff_ne.2 hd
      clear hd
      go_wp2_with fail
      refine (fuDecode a0 b0 c0 w.heap.size _ _ t (HL.out.ext HB4.out) (HVT.out.ext okT HB4.out) HST.out).mono ?_
      rintro e y1 ⟨⟨D1, b1, m1, k1, hD1, rfl, hp1⟩, hy1⟩
      have Y1 := hQq (Ext.trans HB4.out hy1)
      clear hp1 hy1 hD1
      go_wp2_with (go_at_call 12; refine (law22awake a0 b0 c0 _ (HL.out.ext Y1.out)).mono ?_; rintro e y5 ⟨rfl, hb⟩)
      go_ret
      exact ⟨rfl, Ext.trans Y1.out hb⟩
  case neg =>
    have q4 : (feF b == 0) = false := beq_eq_false_iff_ne.2 he
    clear he
    go_wp2_with fail
    refine (fuEncode a0 b0 c0 w.heap.size _ _ b (HL.out.ext HB0.out) (HV.out.ext okB HB0.out) HSM.out).mono ?_
    rintro e w1 ⟨⟨B1, a1, n1, c1, hB1, rfl, ho1⟩, hb1⟩
    have HB1 := hQq (Ext.trans HB0.out hb1)
    clear ho1 hb1 hB1
    by_cases hd : fdF t = 0
    case pos =>
      have HDC := hQq (fd_back hd)
      have HDP := hQq (gend_zero (t := t) (E := fdE t) (X := fdX t) hd)
      have HN := hQq (show fdN t = 0 from (fd_of HDP.out.2.2.2).2.1)
      have HD0 := hQq hd
      have HEO := hQq (fe_of HDC.out.2)
      have HSL := hQq (fdL_small HST.out)
      clear hd
      go_wp2_with fail
      refine (fuDecode a0 b0 c0 w.heap.size _ _ t (HL.out.ext HB1.out) (HVT.out.ext okT HB1.out) HST.out).mono ?_
      rintro e y1 ⟨⟨D1, b1, m1, k1, hD1, rfl, hp1⟩, hy1⟩
      rw [HN.out, HD0.out]
      have P1 := hQq hp1; have Y1 := hQq (Ext.trans HB1.out hy1)
      clear hp1 hy1 hD1
      go_wp2_with fail
      refine (fuEncode a0 b0 c0 _ _ _ (fdL t) (HL.out.ext Y1.out) (P1.out.in okB) HSL.out).mono ?_
      rintro e y2 ⟨⟨D2, b2, m2, k2, hD2, rfl, hp2⟩, hy2⟩
      rw [HEO.out.2.1, HEO.out.2.2]
      rw [HEO.out.1] at hp2
      have P2 := hQq hp2; have Y2 := hQq (Ext.trans Y1.out hy2); have P12 := hQq ((P1.out.ext okB hy2).inS okB)
      clear hp2 hy2 hD2
      obtain ⟨X3, hX3, hi3⟩ := P12.out
      have HI3 := hQq hi3; have HX3 := hQq hX3
      clear hi3 hX3
      go_wp2_with fail
      refine (refBrCheck X3 _ _ (fdL t) HI3.out HX3.out HSL.out).mono ?_
      rintro e y3 ⟨rfl, hy3⟩
      rw [HDC.out.1]
      have Y3 := hQq (Ext.trans Y2.out hy3); have P23 := hQq (P2.out.ext okT hy3)
      clear hy3
      have HY := hQq (sameTB_yes (a := t) rfl)
      go_wp2_with fail
      refine (refSameList _ _ _ _ t t _ (HVT.out.ext okT Y3.out) (P23.out.in okT) (by have := HFT.out.len; omega) (fun x hx => by have := (HFT.out.ok x hx).1.1; omega)).mono ?_
      rintro e y4 ⟨rfl, hy4⟩
      rw [HY.out]
      have Y4 := hQq (Ext.trans Y3.out hy4)
      clear hy4
      go_wp2_with (go_at_call 12; refine (law22awake a0 b0 c0 _ (HL.out.ext Y4.out)).mono ?_; rintro e y5 ⟨rfl, hb⟩)
      go_ret
      exact ⟨rfl, Ext.trans Y4.out hb⟩
    case neg =>
      have q5 : (fdF t == 0) = false := beq_eq_false_iff_ne.2 hd
      clear hd
      go_wp2_with fail
      refine (fuDecode a0 b0 c0 w.heap.size _ _ t (HL.out.ext HB1.out) (HVT.out.ext okT HB1.out) HST.out).mono ?_
      rintro e y1 ⟨⟨D1, b1, m1, k1, hD1, rfl, hp1⟩, hy1⟩
      have Y1 := hQq (Ext.trans HB1.out hy1)
      clear hp1 hy1 hD1
      go_wp2_with (go_at_call 12; refine (law22awake a0 b0 c0 _ (HL.out.ext Y1.out)).mono ?_; rintro e y5 ⟨rfl, hb⟩)
      go_ret
      exact ⟨rfl, Ext.trans Y1.out hb⟩
set_option maxRecDepth 100000 in
theorem contract (H : Type) (enc : TypeId × Value -> H) (W : World) (base : Nat) (args : Array Value) (ds gs : List (DataW H)) (before : List MemPlace)
    (hval : ∀ (j : Nat) t v, Tryz.f4.params[j]? = some t -> args[j]? = some v -> Value.okWide Tryz.prog W .any base t v)
    (hW : DataW.Whole enc Tryz.prog Tryz.f4.params.toList Rows.fuseBackSpec.vars false W args.toList ds gs before) (hz : (DataW.weightsEach Tryz.prog (Tryz.f4.params.toList ++ (OpenSpec.ofChange Rows.fuseBackSpec).bare.plain.varTypes Tryz.prog) (ds ++ gs)).all (· <= reachBytes) = true) (hL : laidMetH Tryz.prog Rows.fuseBackRow.laid W) (hS : W.ShapedOpen Tryz.prog) :
    Calls Tryz.prog 4 args W fun e W' => ∃ v, e = .returned v /\ Rows.fuseBackSpec.post enc Tryz.prog Tryz.f4 false true false false W args v W' := by
  have hW' := hW
  obtain ⟨p, q, hA0, hV, rfl, hfz, hnd⟩ := hW
  have hA : DataW.TrodAll enc Tryz.prog W 0 (fun _ => true) true Tryz.f4.params.toList args.toList ds p := hA0
  rw [Tryz.params4] at hA hval
  obtain ⟨v0, vs0, d0, ds0, p0, q0, hargs, rfl, rfl, h0, r0⟩ := trodAll_cons hA
  obtain ⟨v1, vs1, d1, ds1, p1, q1, rfl, rfl, rfl, h1, r1⟩ := trodAll_cons r0
  obtain ⟨rfl, rfl, rfl⟩ := trodAll_nil r1
  obtain rfl : args = #[v0, v1] := by cases args; simp_all
  obtain ⟨x0, w0, z0⟩ := open_nodesS (hval 0 22 v0 rfl rfl) h0 (fun n hn => by have := List.all_eq_true.1 hz n (DataW.weights_mem_each (j := 0) (t := 22) (d := d0) (by rw [Tryz.params4]; rfl) rfl n hn); simpa using this)
  obtain ⟨x1, w1⟩ := open_trees (hval 1 25 v1 rfl rfl) h1
  obtain ⟨a0, b0, c0, hF⟩ := laidF_of hL hS
  refine (walk a0 b0 c0 v0 x0 v1 x1 W w0 (fun y hy => Nat.le_trans (z0 y hy) (by decide)) w1 hF).mono fun e W' ⟨he, hb⟩ => ?_
  subst he
  exact ⟨_, rfl, law_post hW' rfl rfl rfl (by intro t ht; rw [Tryz.params4] at ht; simp at ht; rcases ht with rfl | rfl <;> exact ⟨by kernel_rfl, of_decide_eq_true (by kernel_rfl)⟩) hb⟩
theorem reads (os : Os) {H : Type} (enc : TypeId × Value -> H) : ∃ places, DataW.whole enc Tryz.prog ((laidWorldF os).forCall (fun _ _ => 0) ⟨#[], (#[.slice none 0 0, .slice none 0 0] : Array Value), []⟩).memory Tryz.f4.params.toList Rows.fuseBackSpec.vars false (#[.slice none 0 0, .slice none 0 0] : Array Value).toList 8 = some ([.nil, .nil], [], places) :=
  ⟨[], by kernel_rfl⟩
set_option maxRecDepth 100000 in
theorem lifted (os : Os) (started : os.Started) (H : Type) (enc : TypeId × Value -> H) (F : Stop.Interp) :
    ReturnsInHanded {} Tryz.checked os 4 .any ((OpenSpec.ofChange Rows.fuseBackSpec).preRow enc Tryz.prog Tryz.f4 Rows.fuseBackRow.domain false Rows.fuseBackRow.laid) (((OpenSpec.ofChange Rows.fuseBackSpec).at F).post enc Tryz.prog Tryz.f4 false true false false) := by
  obtain ⟨places, hx⟩ := reads os enc
  refine returnsInHanded_of_row (C := Tryz.checked) (s := OpenSpec.ofChange Rows.fuseBackSpec) own started (by kernel_rfl) Tryz.func4
    (witness_row_atRef (enc := enc) (C := Tryz.checked) false (laidWorldF os) (#[.slice none 0 0, .slice none 0 0] : Array Value) rfl (by kernel_rfl) (by kernel_rfl) (by kernel_rfl)
      (OpenSpec.preRow_of_cond 8 hx (by kernel_rfl) (fun k hk => by cases hk) (by kernel_rfl) (laidF_met os _))) ?_
  intro W base args ds gs before hval hW _ _ hz hL hS _
  exact contract H enc W base args ds gs before hval hW hz hL hS
theorem j0 : (Rows.fuseBackRow.wf (OpenSpec.ofChange Rows.fuseBackSpec)) = true := by kernel_rfl
theorem j1 : (laidOutB Tryz.prog) = true := laidOut
theorem j2 : (mapsRowed Tryz.prog) = true := jMaps
theorem j3 : (Tryz.f4.params.all (Tryz.prog.readableRec ·)) = true := by kernel_rfl
theorem j4 : (namedTie Tryz.prog Rows.fuseBackRow.named Rows.fuseBackSpec.vars) = true := by kernel_rfl
theorem j5 : ((Rows.fuseBackRow.stops == [])) = true := by kernel_rfl
theorem j6 : ((Tryz.prog.stops == [])) = true := jStops
theorem j7 : ((Rows.fuseBackRow.knobs == [])) = true := by kernel_rfl
theorem j8 : ((Tryz.prog.stopKnobs == [])) = true := jKnobs
theorem j9 : ((Rows.fuseBackRow.inPlace == Tryz.prog.inPlace 4)) = true := by kernel_rfl
theorem j10 : ((Rows.fuseBackRow.unfollowed == Tryz.prog.unfollowed 4)) = true := by kernel_rfl
theorem j11 : ((Rows.fuseBackRow.recurses == Tryz.prog.recurses 4)) = true := by kernel_rfl
theorem j12 : ((Rows.fuseBackRow.named == Tryz.prog.varsNamed 4)) = true := by kernel_rfl
theorem j13 : ((Rows.fuseBackRow.maps == (Tryz.f4.params.toList ++ Rows.fuseBackSpec.plain.varTypes Tryz.prog).any (Tryz.prog.mapsRec ·))) = true := by kernel_rfl
theorem j14 : ((Rows.fuseBackRow.ifaces == (Tryz.f4.params.toList ++ Rows.fuseBackSpec.plain.varTypes Tryz.prog).any (Tryz.prog.ifacesRec ·))) = true := by kernel_rfl
theorem j15 : ((Rows.fuseBackRow.mapsOut == Tryz.prog.mapsAmong Tryz.f4.resultTypes.toList)) = true := by kernel_rfl
theorem j16 : ((Rows.fuseBackRow.loops == (Tryz.f4.params.toList ++ Rows.fuseBackSpec.plain.varTypes Tryz.prog).any (Tryz.prog.loopsFrom ·))) = true := by kernel_rfl
theorem j17 : ((Rows.fuseBackRow.wideKeys == (Tryz.f4.params.toList ++ Rows.fuseBackSpec.plain.varTypes Tryz.prog ++ Tryz.f4.resultTypes.toList).any (Tryz.prog.wideKeysFrom ·))) = true := by kernel_rfl
theorem j18 : (Rows.fuseBackSpec.vars.all (Tryz.prog.varReadable ·)) = true := by kernel_rfl
theorem j19 : (Tryz.f4.resultTypes.all (fun t => Tryz.prog.readableRec t && decide (t < Tryz.prog.types.size))) = true := by kernel_rfl
theorem j20 : ((Rows.fuseBackRow.ifacesOut == Tryz.f4.resultTypes.toList.any (Tryz.prog.ifacesRec ·))) = true := by kernel_rfl
theorem j21 : ((Rows.fuseBackRow.loopsOut == Tryz.f4.resultTypes.toList.any (Tryz.prog.loopsFrom ·))) = true := by kernel_rfl
theorem j22 : ((Rows.fuseBackRow.plainKeys == Tryz.prog.plainKeys)) = true := jPlain
theorem j23 : (Rows.fuseBackRow.shortTexts.isNone) = true := by kernel_rfl
theorem j24 : (Tryz.prog.stopsHeard) = true := jHeard
theorem j25 : (Tryz.prog.mayEnter) = true := jEnter
theorem j26 : ((Rows.fuseBackRow.lifted == Tryz.prog.liftsFinal)) = true := jLifts
theorem j27 : ((Tryz.prog.make == some Rows.fuseBackRow.make)) = true := jMake
theorem j28 : ((Rows.fuseBackRow.kinds == (if Rows.fuseBackRow.domain.isEmpty then [] else Tryz.f4.params.toList.map fun t => match Tryz.prog.underlying t with | some (.int k) => some k | _ => none))) = true := by kernel_rfl
theorem j29 : ((Rows.fuseBackRow.pinned == Rows.fuseBackRow.pinnedBy)) = true := by kernel_rfl
theorem j30 : ((Rows.fuseBackRow.veiled == (Tryz.f4.params.toList ++ Rows.fuseBackSpec.plain.varTypes Tryz.prog ++ Tryz.f4.resultTypes.toList).any (Tryz.prog.veiledRec ·))) = true := by kernel_rfl
theorem j31 : (Rows.fuseBackRow.veiledFits Tryz.prog Tryz.f4.params.toList (Tryz.f4.params.toList ++ Rows.fuseBackSpec.plain.varTypes Tryz.prog ++ Tryz.f4.resultTypes.toList)) = true := by kernel_rfl
set_option maxRecDepth 100000 in
theorem facts : joinedFacts Tryz.prog 4 Tryz.f4 Rows.fuseBackSpec Rows.fuseBackRow = true := by
  unfold joinedFacts
  simp only [Bool.and_eq_true]
  exact ⟨⟨⟨⟨⟨⟨⟨⟨⟨⟨⟨⟨⟨⟨⟨⟨⟨⟨⟨⟨⟨⟨⟨⟨⟨⟨⟨⟨⟨⟨⟨j0, j1⟩, j2⟩, j3⟩, j4⟩, j5⟩, j6⟩, j7⟩, j8⟩, j9⟩, j10⟩, j11⟩, j12⟩, j13⟩, j14⟩, j15⟩, j16⟩, j17⟩, j18⟩, j19⟩, j20⟩, j21⟩, j22⟩, j23⟩, j24⟩, j25⟩, j26⟩, j27⟩, j28⟩, j29⟩, j30⟩, j31⟩
set_option maxRecDepth 100000 in
theorem said : Rows.FuseBackSaid :=
  OpenClaim.holds_of_cond 4 Tryz.f4 rfl rfl rfl rfl rfl rfl rfl ⟨rfl, rfl, rfl, rfl, rfl⟩ rfl rfl rfl rfl rfl (by kernel_rfl) Tryz.func4 facts
    (of_decide_eq_true (by kernel_rfl)) (by unfold Func.isWrapper; rw [if_neg (of_decide_eq_false (by kernel_rfl))]; exact ⟨rfl, rfl⟩)
    (fun os started H enc _ F => by rw [OpenClaim.pre_eq_preRow]; exact lifted os started H enc F)
theorem plain (f : FuncId) (fn : Func) (hf : Tryz.pinned.checked.prog.funcNamed Rows.fuseBackRow.func = some f) (hfn : Tryz.pinned.checked.prog.funcs[f]? = some fn) :
    true = Tryz.pinned.checked.prog.looks [] /\ ∀ (j : Nat) t, fn.params[j]? = some t -> Tryz.pinned.checked.prog.wantsStandIn t = false := by
  obtain rfl : f = 4 := Option.some.inj ((show Tryz.prog.funcNamed Rows.fuseBackRow.func = some 4 by kernel_rfl).symm.trans hf) |>.symm
  obtain rfl : fn = Tryz.f4 := (Option.some.inj (Tryz.func4.symm.trans hfn)).symm
  refine ⟨by kernel_rfl, fun j t ht => ?_⟩
  rw [Tryz.params4] at ht
  have hm := Array.mem_of_getElem? ht
  simp at hm
  rcases hm with rfl | rfl
  · exact (show Tryz.prog.wantsStandIn 22 = false by kernel_rfl)
  · exact (show Tryz.prog.wantsStandIn 25 = false by kernel_rfl)
theorem card : Rows.FuseBackCardSaid :=
  Claim7.holds_tied_plain_at .later [] _ _ _ _ said (fun _ h => by cases h) (by kernel_rfl) (fun _ h => by cases h) fuseBack_row_tie rfl ⟨rfl, rfl⟩ (by kernel_rfl) rfl plain (by kernel_rfl)
#print axioms card
end Go.Proofs.YtimpejaaeinplaaGreatDoor.lwFuseBack
