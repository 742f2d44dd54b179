/- OverlaySays is proved: for every branch the law returns true; a larger branch is answered by the fixed calls alone. -/
import Derived.Test.YtiliglpolcpnbaaGreatDoorQOrE
import Derived.Test.YtiliglpolcpnbaaGreatDoorQFrameO
namespace Go.Proofs.YtiliglpolcpnbaaGreatDoor.lwOverlaySays
open Go.ChangeShapes Go.WideShapes Go.ChangeAt Go.RowKit
open Go.ChangeMaps (open_string shut_string)

set_option maxHeartbeats 16000000 in
set_option maxRecDepth 100000 in
theorem walk (v : Value) (b : List BrN) (w : World) (hv : BrIn w.heap.size w v b) (hz : ∀ x ∈ b, x.ats.length * 32 ≤ 140737488355328) (hL : LaidO w) : RetB Tryz.prog 6 #[v] w (.bool true) := by
  unfold RetB
  obtain ⟨aa, cap, rfl⟩ := hv.form
  have HV := Lib.hid hv; have HL := Lib.hid hL
  clear hv hL
  go_enter Tryz.func6, Tryz.ntmps6
  go_wp2_with fail
  refine (law21far w.heap.size _ b _ HV.out (Nat.le_refl _) hz).mono ?_
  rintro e w0 ⟨r, rfl, hr, hb0⟩
  have HB0 := Lib.hid hb0
  clear hb0
  cases r
  case true =>
    clear hr
    go_wp2_with (go_at_call 12; refine (law21awake _ (HL.out.ext HB0.out)).mono ?_; rintro e w1 ⟨rfl, hb⟩)
    go_ret
    exact ⟨rfl, Ext.trans HB0.out hb⟩
  have HSM := Lib.hid (fewB_smallO (Nat.le_refl _) (hr rfl))
  clear hr
  by_cases he : oeF b = 0
  case neg =>
    have q1 : (oeF b != 0) = true := bne_iff_ne.2 he
    clear he
    go_wp2_with fail
    refine (ovEncode w.heap.size _ _ b (HL.out.ext HB0.out) (HV.out.ext okB HB0.out) HSM.out).mono ?_
    rintro e w1 ⟨⟨B1, a1, n1, c1, hB1, rfl, ho1⟩, hb1⟩
    have HB1 := Lib.hid (Ext.trans HB0.out hb1)
    clear ho1 hb1 hB1
    go_wp2_with (go_at_call 12; refine (law21awake _ (HL.out.ext HB1.out)).mono ?_; rintro e w5 ⟨rfl, hb⟩)
    go_ret
    exact ⟨rfl, Ext.trans HB1.out hb⟩
  have HE0 := Lib.hid he
  have HOL := Lib.hid (oe_parts he).2.2.1
  have HSY := Lib.hid (fun i hi => oe_says he (i := i) hi)
  have HLN : Hid ((oeL b).length = b.length) := Lib.hid (by rw [HOL.out]; simp)
  have hlen := HSM.out.len
  clear he
  go_wp2_with fail
  refine (ovEncode w.heap.size _ _ b (HL.out.ext HB0.out) (HV.out.ext okB HB0.out) HSM.out).mono ?_
  rintro e w1 ⟨⟨B1, a1, n1, c1, hB1, rfl, ho1⟩, hb1⟩
  rw [HE0.out]
  have HB1 := Lib.hid (Ext.trans HB0.out hb1)
  have hn : n1 = b.length := by
    obtain ⟨a', c', e'⟩ := ho1.form
    injection e' with _ e2 _
    rw [e2, HLN.out]
  subst hn
  have HO1 := Lib.hid ho1
  clear ho1 hb1 hB1
  have q0 : (((b.length : Nat) : Int) != (b.length : Int)) = false := bne_self_eq_false _
  go_wp2
  clear q0
  go_loopw [6] (fun i w' => ∃ (wi : World) (k : Nat), wi = w' ∧ k ≤ b.length ∧ i = .int .i64 k ∧ Ext w1 wi) (fun i _ => b.length - (intOf i).toNat)
  case atStart => exact ⟨_, 0, rfl, Nat.zero_le _, rfl, Below.refl _ _⟩
  case round =>
    obtain ⟨wi, k, rfl, hk, rfl, hE⟩ := hrel
    have HI := Lib.hid hE
    clear hE
    by_cases hlt : k < b.length
    case neg =>
      obtain rfl : k = b.length := by omega
      go_wp2_with (go_at_call 12; refine (law21awake _ (HL.out.ext (HB1.out.trans HI.out))).mono ?_; rintro e w5 ⟨rfl, hb⟩)
      go_ret
      exact ⟨rfl, Ext.trans (HB1.out.trans HI.out) hb⟩
    obtain ⟨bb, off, va, vr, hex, hbx, hva, hvr, c0, c1, c2, c3, c4, c5, c6, c7, c8, c9⟩ := (HV.out.ext okB (HB1.out.trans HI.out)).br k hlt
    cases hex
    obtain ⟨tb, toff, ta, htx, htb, hta, t0, t1, t2, t3, t4, t5, t6, t7⟩ := ((HO1.out.in okT).ext okT HI.out).tr k (by rw [HLN.out]; exact hlt)
    cases htx
    obtain ⟨a4, cap4, rfl⟩ := hvr.form
    obtain ⟨a3, cap3, rfl⟩ := hva.form
    obtain ⟨a6, cap6, rfl⟩ := hta.form
    have hxk : ∀ h', (oeL b)[k]'h' = oeX b k := fun h' => by simp only [HOL.out, List.getElem_map, List.getElem_range]
    rw [hxk] at t0 t1 t2 t3 t4 t5 t6 t7
    have hs := HSY.out k hlt
    rw [getB_at b k hlt] at hs
    generalize b[k]'hlt = x at c0 c1 c2 c3 c4 c5 c6 c7 c8 c9 hs
    generalize oeX b k = y at t0 t1 t2 t3 t4 t5 t6 t7 hs
    obtain ⟨s0, s1, s4, s5, s6, s7, skd⟩ := hs
    rw [s0] at t0; rw [s1] at t1; rw [s4] at t4; rw [s5] at t5; rw [s6] at t6; rw [s7] at t7
    rw [s5, s6] at skd
    have HKD := Lib.hid skd
    have j1 : ((k : Nat) : Int) < (b.length : Int) := by omega
    have j0 : (0 : Int) ≤ (k : Int) := by omega
    clear hva hvr hta hxk s0 s1 s4 s5 s6 s7 skd
    go_upto_region 11 with fail
    go_cut [7, 8] (fun p q wx => ∃ g1 g2, p = .pointer (some ⟨g1, 0, none⟩) ∧ q = .pointer (some ⟨g2, 0, none⟩) ∧ Ext wi wx ∧
      wx.heap[g1]? = some (.cells #[.int .i64 x.dep, .string x.nm, .int .i64 x.kd, .slice a3 x.ats.length cap3, .string x.dat, .int .i64 x.ma, .int .i64 x.mi, .int .i64 x.cl, .bool x.opq, .slice a4 x.red.length cap4] 41 (0, 0)) ∧
      wx.heap[g2]? = some (.cells #[.int .i64 x.dep, .string x.nm, .int .i64 y.kd, .slice a6 y.ats.length cap6, .string x.dat, .int .i64 x.ma, .int .i64 x.mi, .int .i64 x.cl] 43 (0, 0)))
    case first =>
      go_region
      all_goals
        go_wp2_with fail
        go_meet
        refine ⟨_, _, rfl, rfl, ?_, ?_, ?_⟩
        · first | exact ((ext_alloc _ _).trans (ext_alloc _ _)).trans (ext_drew _) | exact ((ext_alloc _ _).trans (ext_alloc _ _)).trans (ext_drewN _ _) | exact (ext_alloc _ _).trans (ext_alloc _ _)
        · first | exact blk_ext (ext_drew _) (blk_alloc (blk_new _ _)) | exact blk_ext (ext_drew _) (blk_at (by simp)) | exact blk_ext (ext_drewN _ _) (blk_alloc (blk_new _ _)) | exact blk_ext (ext_drewN _ _) (blk_at (by simp)) | exact blk_alloc (blk_new _ _) | exact blk_at (by simp)
        · first | exact blk_ext (ext_drew _) (blk_alloc (blk_new _ _)) | exact blk_ext (ext_drew _) (blk_at (by simp)) | exact blk_ext (ext_drewN _ _) (blk_alloc (blk_new _ _)) | exact blk_ext (ext_drewN _ _) (blk_at (by simp)) | exact blk_alloc (blk_new _ _) | exact blk_at (by simp)
    case rest =>
    obtain ⟨g1, g2, rfl, rfl, hE2, hg1, hg2⟩ := hcut
    have HI2 := Lib.hid (HI.out.trans hE2)
    have hz3 := blk_lt hg1; have hz4 := blk_lt hg2
    have m0 : (x.dep != x.dep) = false := bne_self_eq_false _
    have m1 : (x.nm.toList == x.nm.toList) = true := beq_self_eq_true _
    have m4 : (x.dat.toList == x.dat.toList) = true := beq_self_eq_true _
    have m5 : (x.ma != x.ma) = false := bne_self_eq_false _
    have m6 : (x.mi != x.mi) = false := bne_self_eq_false _
    have m7 : (x.cl != x.cl) = false := bne_self_eq_false _
    clear hE2 c0 c1 c2 c3 c4 c5 c6 c7 c8 c9 t0 t1 t2 t3 t4 t5 t6 t7
    rcases HKD.out with ⟨k1, k2, k3, k4⟩ | ⟨k1, k2, k3⟩
    · rw [k1, k3, k4] at hg1
      rw [k2, k3, k4] at hg2
      have m8 : ((0 : Int) != 0) = false := rfl
      clear m5 m6 k1 k2 k3 k4
      have e0 := blk_cell hg1 0; have e1 := blk_cell hg1 1; have e2 := blk_cell hg1 2; have e3 := blk_cell hg1 3; have e4 := blk_cell hg1 4; have e5 := blk_cell hg1 5; have e6 := blk_cell hg1 6; have e7 := blk_cell hg1 7; have e8 := blk_cell hg1 8; have e9 := blk_cell hg1 9; have f0 := blk_cell hg2 0; have f1 := blk_cell hg2 1; have f2 := blk_cell hg2 2; have f3 := blk_cell hg2 3; have f4 := blk_cell hg2 4; have f5 := blk_cell hg2 5; have f6 := blk_cell hg2 6; have f7 := blk_cell hg2 7; clear hg1 hg2
      go_wp2
      go_roundw
      case rel => exact ⟨_, k + 1, rfl, by omega, by go_num, HI2.out⟩
      case measure => first | (simp [intOf]; done) | (simp [intOf]; omega)
    · rw [k2] at hg2
      rw [k2] at k3
      have m8 : (x.kd == 5) = false := beq_eq_false_iff_ne.2 k1
      have m9 : (x.kd != x.kd) = false := bne_self_eq_false _
      have e0 := blk_cell hg1 0; have e1 := blk_cell hg1 1; have e2 := blk_cell hg1 2; have e3 := blk_cell hg1 3; have e4 := blk_cell hg1 4; have e5 := blk_cell hg1 5; have e6 := blk_cell hg1 6; have e7 := blk_cell hg1 7; have e8 := blk_cell hg1 8; have e9 := blk_cell hg1 9; have f0 := blk_cell hg2 0; have f1 := blk_cell hg2 1; have f2 := blk_cell hg2 2; have f3 := blk_cell hg2 3; have f4 := blk_cell hg2 4; have f5 := blk_cell hg2 5; have f6 := blk_cell hg2 6; have f7 := blk_cell hg2 7; clear hg1 hg2
      by_cases e1 : x.kd = 4
      case neg =>
        have m10 : (x.kd == 4) = false := beq_eq_false_iff_ne.2 e1
        clear k1 k2 k3 e1
        go_wp2
        go_roundw
        case rel => exact ⟨_, k + 1, rfl, by omega, by go_num, HI2.out⟩
        case measure => first | (simp [intOf]; done) | (simp [intOf]; omega)
      have m10 : (x.kd == 4) = true := beq_iff_eq.2 e1
      by_cases e2 : x.ma = 0
      case neg =>
        have m11 : (x.ma == 0) = false := beq_eq_false_iff_ne.2 e2
        clear k1 k2 k3 e1 e2
        go_wp2
        go_roundw
        case rel => exact ⟨_, k + 1, rfl, by omega, by go_num, HI2.out⟩
        case measure => first | (simp [intOf]; done) | (simp [intOf]; omega)
      have m11 : (x.ma == 0) = true := beq_iff_eq.2 e2
      have m12 : (x.mi == 0) = false := beq_eq_false_iff_ne.2 (fun e => k3 ⟨e1, e2, e⟩)
      clear k1 k2 k3 e1 e2
      go_wp2
      go_roundw
      case rel => exact ⟨_, k + 1, rfl, by omega, by go_num, HI2.out⟩
      case measure => first | (simp [intOf]; done) | (simp [intOf]; omega)
set_option maxRecDepth 100000 in
theorem contract (H : Type) (enc : TypeId × Value → H) (W : World) (base : Nat) (args : Array Value) (ds gs : List (DataW H)) (before : List MemPlace)
    (hval : ∀ (j : Nat) t v, Tryz.f6.params[j]? = some t → args[j]? = some v → Value.okWide Tryz.prog W .any base t v)
    (hW : DataW.Whole enc Tryz.prog Tryz.f6.params.toList Rows.overlaySaysSpec.vars false W args.toList ds gs before) (hz : (DataW.weightsEach Tryz.prog (Tryz.f6.params.toList ++ (OpenSpec.ofChange Rows.overlaySaysSpec).bare.plain.varTypes Tryz.prog) (ds ++ gs)).all (· ≤ reachBytes) = true) (hL : laidMetH Tryz.prog Rows.overlaySaysRow.laid W) (hS : W.ShapedOpen Tryz.prog) :
    Calls Tryz.prog 6 args W fun e W' => ∃ v, e = .returned v ∧ Rows.overlaySaysSpec.post enc Tryz.prog Tryz.f6 false true false false W args v W' := by
  have hW' := hW
  obtain ⟨p, q, hA0, hV, rfl, hfz, hnd⟩ := hW
  have hA : DataW.TrodAll enc Tryz.prog W 0 (fun _ => true) true Tryz.f6.params.toList args.toList ds p := hA0
  rw [Tryz.params6] at hA hval
  obtain ⟨v0, vs0, d0, ds0, p0, q0, hargs, rfl, rfl, h0, r0⟩ := trodAll_cons hA
  obtain ⟨rfl, rfl, rfl⟩ := trodAll_nil r0
  obtain rfl : args = #[v0] := by cases args; simp_all
  obtain ⟨x0, w0, z0⟩ := open_nodesS (hval 0 22 v0 rfl rfl) h0 (fun n hn => by have := List.all_eq_true.1 hz n (DataW.weights_mem_each (j := 0) (t := 22) (d := d0) (by rw [Tryz.params6]; rfl) rfl n hn); simpa using this)
  refine (walk v0 x0 W w0 (fun y hy => Nat.le_trans (z0 y hy) (by decide)) (laid_of hL hS)).mono fun e W' ⟨he, hb⟩ => ?_
  subst he
  exact ⟨_, rfl, law_post hW' rfl rfl rfl (by intro t ht; rw [Tryz.params6] at ht; simp at ht; subst ht; exact ⟨by kernel_rfl, of_decide_eq_true (by kernel_rfl)⟩) hb⟩
theorem reads (os : Os) {H : Type} (enc : TypeId × Value → H) : ∃ places, DataW.whole enc Tryz.prog ((laidWorld os).forCall (fun _ _ => 0) ⟨#[], (#[.slice none 0 0] : Array Value), []⟩).memory Tryz.f6.params.toList Rows.overlaySaysSpec.vars false (#[.slice none 0 0] : Array Value).toList 8 = some ([.nil], [], places) :=
  ⟨[], by kernel_rfl⟩
set_option maxRecDepth 100000 in
theorem lifted (os : Os) (started : os.Started) (H : Type) (enc : TypeId × Value → H) (F : Stop.Interp) :
    ReturnsInHanded {} Tryz.checked os 6 .any ((OpenSpec.ofChange Rows.overlaySaysSpec).preRow enc Tryz.prog Tryz.f6 Rows.overlaySaysRow.domain false Rows.overlaySaysRow.laid) (((OpenSpec.ofChange Rows.overlaySaysSpec).at F).post enc Tryz.prog Tryz.f6 false true false false) := by
  obtain ⟨places, hx⟩ := reads os enc
  refine returnsInHanded_of_row (C := Tryz.checked) (s := OpenSpec.ofChange Rows.overlaySaysSpec) own started (by kernel_rfl) Tryz.func6
    (witness_row_atRef (enc := enc) (C := Tryz.checked) false (laidWorld os) (#[.slice none 0 0] : Array Value) rfl (by kernel_rfl) (by kernel_rfl) (by kernel_rfl)
      (OpenSpec.preRow_of_cond 8 hx (by kernel_rfl) (fun k hk => by cases hk) (by kernel_rfl) (laid_met os _))) ?_
  intro W base args ds gs before hval hW _ _ hz hL hS _
  exact contract H enc W base args ds gs before hval hW hz hL hS
theorem j0 : (Rows.overlaySaysRow.wf (OpenSpec.ofChange Rows.overlaySaysSpec)) = true := by kernel_rfl
theorem j1 : (laidOutB Tryz.prog) = true := laidOut
theorem j2 : (mapsRowed Tryz.prog) = true := jMaps
theorem j3 : (Tryz.f6.params.all (Tryz.prog.readableRec ·)) = true := by kernel_rfl
theorem j4 : (namedTie Tryz.prog Rows.overlaySaysRow.named Rows.overlaySaysSpec.vars) = true := by kernel_rfl
theorem j5 : ((Rows.overlaySaysRow.stops == [])) = true := by kernel_rfl
theorem j6 : ((Tryz.prog.stops == [])) = true := jStops
theorem j7 : ((Rows.overlaySaysRow.knobs == [])) = true := by kernel_rfl
theorem j8 : ((Tryz.prog.stopKnobs == [])) = true := jKnobs
theorem j9 : ((Rows.overlaySaysRow.inPlace == Tryz.prog.inPlace 6)) = true := by kernel_rfl
theorem j10 : ((Rows.overlaySaysRow.unfollowed == Tryz.prog.unfollowed 6)) = true := by kernel_rfl
theorem j11 : ((Rows.overlaySaysRow.recurses == Tryz.prog.recurses 6)) = true := by kernel_rfl
theorem j12 : ((Rows.overlaySaysRow.named == Tryz.prog.varsNamed 6)) = true := by kernel_rfl
theorem j13 : ((Rows.overlaySaysRow.maps == (Tryz.f6.params.toList ++ Rows.overlaySaysSpec.plain.varTypes Tryz.prog).any (Tryz.prog.mapsRec ·))) = true := by kernel_rfl
theorem j14 : ((Rows.overlaySaysRow.ifaces == (Tryz.f6.params.toList ++ Rows.overlaySaysSpec.plain.varTypes Tryz.prog).any (Tryz.prog.ifacesRec ·))) = true := by kernel_rfl
theorem j15 : ((Rows.overlaySaysRow.mapsOut == Tryz.prog.mapsAmong Tryz.f6.resultTypes.toList)) = true := by kernel_rfl
theorem j16 : ((Rows.overlaySaysRow.loops == (Tryz.f6.params.toList ++ Rows.overlaySaysSpec.plain.varTypes Tryz.prog).any (Tryz.prog.loopsFrom ·))) = true := by kernel_rfl
theorem j17 : ((Rows.overlaySaysRow.wideKeys == (Tryz.f6.params.toList ++ Rows.overlaySaysSpec.plain.varTypes Tryz.prog ++ Tryz.f6.resultTypes.toList).any (Tryz.prog.wideKeysFrom ·))) = true := by kernel_rfl
theorem j18 : (Rows.overlaySaysSpec.vars.all (Tryz.prog.varReadable ·)) = true := by kernel_rfl
theorem j19 : (Tryz.f6.resultTypes.all (fun t => Tryz.prog.readableRec t && decide (t < Tryz.prog.types.size))) = true := by kernel_rfl
theorem j20 : ((Rows.overlaySaysRow.ifacesOut == Tryz.f6.resultTypes.toList.any (Tryz.prog.ifacesRec ·))) = true := by kernel_rfl
theorem j21 : ((Rows.overlaySaysRow.loopsOut == Tryz.f6.resultTypes.toList.any (Tryz.prog.loopsFrom ·))) = true := by kernel_rfl
theorem j22 : ((Rows.overlaySaysRow.plainKeys == Tryz.prog.plainKeys)) = true := jPlain
theorem j23 : (Rows.overlaySaysRow.shortTexts.isNone) = true := by kernel_rfl
theorem j24 : (Tryz.prog.stopsHeard) = true := jHeard
theorem j25 : (Tryz.prog.mayEnter) = true := jEnter
theorem j26 : ((Rows.overlaySaysRow.lifted == Tryz.prog.liftsFinal)) = true := jLifts
theorem j27 : ((Tryz.prog.make == some Rows.overlaySaysRow.make)) = true := jMake
theorem j28 : ((Rows.overlaySaysRow.kinds == (if Rows.overlaySaysRow.domain.isEmpty then [] else Tryz.f6.params.toList.map fun t => match Tryz.prog.underlying t with | some (.int k) => some k | _ => none))) = true := by kernel_rfl
theorem j29 : ((Rows.overlaySaysRow.pinned == Rows.overlaySaysRow.pinnedBy)) = true := by kernel_rfl
theorem j30 : ((Rows.overlaySaysRow.veiled == (Tryz.f6.params.toList ++ Rows.overlaySaysSpec.plain.varTypes Tryz.prog ++ Tryz.f6.resultTypes.toList).any (Tryz.prog.veiledRec ·))) = true := by kernel_rfl
theorem j31 : (Rows.overlaySaysRow.veiledFits Tryz.prog Tryz.f6.params.toList (Tryz.f6.params.toList ++ Rows.overlaySaysSpec.plain.varTypes Tryz.prog ++ Tryz.f6.resultTypes.toList)) = true := by kernel_rfl
set_option maxRecDepth 100000 in
theorem facts : joinedFacts Tryz.prog 6 Tryz.f6 Rows.overlaySaysSpec Rows.overlaySaysRow = true := by
  unfold joinedFacts
  simp only [Bool.and_eq_true]
  exact ⟨⟨⟨⟨⟨⟨⟨⟨⟨⟨⟨⟨⟨⟨⟨⟨⟨⟨⟨⟨⟨⟨⟨⟨⟨⟨⟨⟨⟨⟨⟨j0, j1⟩, j2⟩, j3⟩, j4⟩, j5⟩, j6⟩, j7⟩, j8⟩, j9⟩, j10⟩, j11⟩, j12⟩, j13⟩, j14⟩, j15⟩, j16⟩, j17⟩, j18⟩, j19⟩, j20⟩, j21⟩, j22⟩, j23⟩, j24⟩, j25⟩, j26⟩, j27⟩, j28⟩, j29⟩, j30⟩, j31⟩
set_option maxRecDepth 100000 in
theorem said : Rows.OverlaySaysSaid :=
  OpenClaim.holds_of_cond 6 Tryz.f6 rfl rfl rfl rfl rfl rfl rfl ⟨rfl, rfl, rfl, rfl, rfl⟩ rfl rfl rfl rfl rfl (by kernel_rfl) Tryz.func6 facts
    (of_decide_eq_true (by kernel_rfl)) (by unfold Func.isWrapper; rw [if_neg (of_decide_eq_false (by kernel_rfl))]; exact ⟨rfl, rfl⟩)
    (fun os started H enc _ F => by rw [OpenClaim.pre_eq_preRow]; exact lifted os started H enc F)
theorem plain (f : FuncId) (fn : Func) (hf : Tryz.pinned.checked.prog.funcNamed Rows.overlaySaysRow.func = some f) (hfn : Tryz.pinned.checked.prog.funcs[f]? = some fn) :
    true = Tryz.pinned.checked.prog.looks [] ∧ ∀ (j : Nat) t, fn.params[j]? = some t → Tryz.pinned.checked.prog.wantsStandIn t = false := by
  obtain rfl : f = 6 := Option.some.inj ((show Tryz.prog.funcNamed Rows.overlaySaysRow.func = some 6 by kernel_rfl).symm.trans hf) |>.symm
  obtain rfl : fn = Tryz.f6 := (Option.some.inj (Tryz.func6.symm.trans hfn)).symm
  refine ⟨by kernel_rfl, fun j t ht => ?_⟩
  rw [Tryz.params6] at ht
  have hm := Array.mem_of_getElem? ht
  simp at hm
  subst hm
  exact (show Tryz.prog.wantsStandIn 22 = false by kernel_rfl)
theorem card : Rows.OverlaySaysCardSaid :=
  Claim7.holds_tied_plain_at .later [] _ _ _ _ said (fun _ h => by cases h) (by kernel_rfl) (fun _ h => by cases h) overlaySays_row_tie rfl ⟨rfl, rfl⟩ (by kernel_rfl) rfl plain (by kernel_rfl)
#print axioms card
end Go.Proofs.YtiliglpolcpnbaaGreatDoor.lwOverlaySays
