/- FuseSays is proved: for every branch the law returns true; a larger branch is answered by the fixed calls alone. -/
import Derived.Test.YtimpejaaeinplaaGreatDoorQI6
import Derived.Test.YtimpejaaeinplaaGreatDoorQFuDd
namespace Go.Proofs.YtimpejaaeinplaaGreatDoor.lwFuseSays
open Go.ChangeShapes Go.WideShapes Go.ChangeAt Go.RowKit
open Go.ChangeMaps (open_string shut_string)

set_option maxHeartbeats 16000000 in
set_option maxRecDepth 100000 in
theorem walk (a0 b0 c0 : Addr) (v : Value) (b : List BrN) (w : World) (hv : BrIn w.heap.size w v b) (hz : ∀ x ∈ b, x.ats.length * 32 <= 140737488355328) (hL : LaidF w a0 b0 c0) : RetB Tryz.prog 5 #[v] w (.bool true) := by
  unfold RetB
  obtain ⟨aa, cap, rfl⟩ := hv.form
  have HV := hQq hv; have HL := hQq hL
  clear hv hL
  go_enter Tryz.func5, Tryz.ntmps5
  go_wp2_with fail
  refine (law22far w.heap.size _ b _ HV.out (Nat.le_refl _) hz).mono ?_
  rintro e w0 ⟨r, rfl, hr, hb0⟩
  have HB0 := hQq hb0
  clear hb0
  cases r
  case true =>
    clear hr
    go_wp2_with (go_at_call 12; refine (law22awake a0 b0 c0 _ (HL.out.ext HB0.out)).mono ?_; rintro e w1 ⟨rfl, hb⟩)
    go_ret
    exact ⟨rfl, Ext.trans HB0.out hb⟩
  have HSM := hQq (fewB_smallO (Nat.le_refl _) (hr rfl))
  clear hr
  by_cases he : feF b = 0
  case neg =>
    have q1 : (feF b != 0) = true := bne_iff_ne.2 he
    clear he
    go_wp2_with fail
    refine (fuEncode a0 b0 c0 w.heap.size _ _ b (HL.out.ext HB0.out) (HV.out.ext okB HB0.out) HSM.out).mono ?_
    rintro e w1 ⟨⟨B1, a1, n1, c1, hB1, rfl, ho1⟩, hb1⟩
    have HB1 := hQq (Ext.trans HB0.out hb1)
    clear ho1 hb1 hB1
    go_wp2_with (go_at_call 12; refine (law22awake a0 b0 c0 _ (HL.out.ext HB1.out)).mono ?_; rintro e w5 ⟨rfl, hb⟩)
    go_ret
    exact ⟨rfl, Ext.trans HB1.out hb⟩
  have HE0 := hQq he
  have HOL := hQq (fe_parts he).2.2.1
  have HSY := hQq (fun i hi => fe_says he (i := i) hi)
  have HLN : Hid ((feL b).length = b.length) := hQq (by rw [HOL.out]; simp)
  have hlen := HSM.out.len
  clear he
  go_wp2_with fail
  refine (fuEncode a0 b0 c0 w.heap.size _ _ b (HL.out.ext HB0.out) (HV.out.ext okB HB0.out) HSM.out).mono ?_
  rintro e w1 ⟨⟨B1, a1, n1, c1, hB1, rfl, ho1⟩, hb1⟩
  rw [HE0.out]
  have HB1 := hQq (Ext.trans HB0.out hb1)
  have hn : n1 = b.length := by
    obtain ⟨a', c', e'⟩ := ho1.form
    injection e' with _ e2 _
    rw [e2, HLN.out]
  subst hn
  have HO1 := hQq ho1
  clear ho1 hb1 hB1
  have q0 : (((b.length : Nat) : Int) != (b.length : Int)) = false := bne_self_eq_false _
  go_wp2
  clear q0
  go_loopw [6] (fun i w' => ∃ (wi : World) (k : Nat), wi = w' /\ k <= b.length /\ i = .int .i64 k /\ Ext w1 wi) (fun i _ => b.length - (intOf i).toNat)
  case atStart => exact ⟨_, 0, rfl, Nat.zero_le _, rfl, Below.refl _ _⟩
  case round =>
    obtain ⟨wi, k, rfl, hk, rfl, hE⟩ := hrel
    have HI := hQq hE
    clear hE
    by_cases hlt : k < b.length
    case neg =>
      obtain rfl : k = b.length := by omega
      go_wp2_with (go_at_call 12; refine (law22awake a0 b0 c0 _ (HL.out.ext (HB1.out.trans HI.out))).mono ?_; rintro e w5 ⟨rfl, hb⟩)
      go_ret
      exact ⟨rfl, Ext.trans (HB1.out.trans HI.out) hb⟩
    obtain ⟨bb, off, va, vr, hex, hbx, hva, hvr, c0, c1, c2, c3, c4, c5, c6, c7, c8, c9⟩ := (HV.out.ext okB (HB1.out.trans HI.out)).br k hlt
    cases hex
    obtain ⟨tb, toff, ta, htx, htb, hta, t0, t1, t2, t3, t4, t5, t6, t7⟩ := ((HO1.out.in okT).ext okT HI.out).tr k (by rw [HLN.out]; exact hlt)
    cases htx
    obtain ⟨a4, cap4, rfl⟩ := hvr.form
    obtain ⟨a3, cap3, rfl⟩ := hva.form
    obtain ⟨a6, cap6, rfl⟩ := hta.form
    have hxk : ∀ h', (feL b)[k]'h' = feX b k := fun h' => by simp only [HOL.out, List.getElem_map, List.getElem_range]
    rw [hxk] at hta t0 t1 t2 t3 t4 t5 t6 t7
    have hs := HSY.out k hlt
    rw [getB_at b k hlt] at hs
    generalize b[k]'hlt = x at c0 c1 c2 c3 c4 c5 c6 c7 c8 c9 hs
    generalize feX b k = y at hta t0 t1 t2 t3 t4 t5 t6 t7 hs
    obtain ⟨s0, s1, s4, s5, s6, s7, skd⟩ := hs
    rw [s0] at t0; rw [s1] at t1; rw [s4] at t4; rw [s5] at t5; rw [s6] at t6; rw [s7] at t7
    have HKD := hQq skd
    have j1 : ((k : Nat) : Int) < (b.length : Int) := by omega
    have j0 : (0 : Int) <= (k : Int) := by omega
    have HTA0 := hQq hta
    clear hva hvr hta hxk s0 s1 s4 s5 s6 s7 skd
    go_upto_region 11 with fail
    go_cut [7, 8] (fun p q wx => ∃ g1 g2, p = .pointer (some ⟨g1, 0, none⟩) /\ q = .pointer (some ⟨g2, 0, none⟩) /\ Ext wi wx /\
      wx.heap[g1]? = some (.cells #[.int .i64 x.dep, .string x.nm, .int .i64 x.kd, .slice a3 x.ats.length cap3, .string x.dat, .int .i64 x.ma, .int .i64 x.mi, .int .i64 x.cl, .bool x.opq, .slice a4 x.red.length cap4] 41 (0, 0)) /\
      wx.heap[g2]? = some (.cells #[.int .i64 x.dep, .string x.nm, .int .i64 y.kd, .slice a6 y.ats.length cap6, .string x.dat, .int .i64 x.ma, .int .i64 x.mi, .int .i64 x.cl] 43 (0, 0)))
    case first =>
      go_region
      all_goals
        go_wp2_with fail
        go_meet
        refine ⟨_, _, rfl, rfl, ?_, ?_, ?_⟩
        · first | exact ((eA _ _).trans (eA _ _)).trans (eD _) | exact ((eA _ _).trans (eA _ _)).trans (eDn _ _) | exact (eA _ _).trans (eA _ _)
        · first | exact bX (eD _) (bA (bN _ _)) | exact bX (eD _) (blk_at (by simp)) | exact bX (eDn _ _) (bA (bN _ _)) | exact bX (eDn _ _) (blk_at (by simp)) | exact bA (bN _ _) | exact blk_at (by simp)
        · first | exact bX (eD _) (bA (bN _ _)) | exact bX (eD _) (blk_at (by simp)) | exact bX (eDn _ _) (bA (bN _ _)) | exact bX (eDn _ _) (blk_at (by simp)) | exact bA (bN _ _) | exact blk_at (by simp)
    case rest =>
    obtain ⟨g1, g2, rfl, rfl, hE2, hg1, hg2⟩ := hcut
    have HI2 := hQq (HI.out.trans hE2)
    have HTA := (HTA0.out.ext okA hE2).attrs
    have hz3 := blk_lt hg1; have hz4 := blk_lt hg2
    have m0 : (x.dep != x.dep) = false := bne_self_eq_false _
    have m1 : (x.nm.toList == x.nm.toList) = true := beq_self_eq_true _
    have m4 : (x.dat.toList == x.dat.toList) = true := beq_self_eq_true _
    have m5 : (x.ma != x.ma) = false := bne_self_eq_false _
    have m6 : (x.mi != x.mi) = false := bne_self_eq_false _
    have m7 : (x.cl != x.cl) = false := bne_self_eq_false _
    clear hE2 c0 c1 c2 c3 c4 c5 c6 c7 c8 c9 t0 t1 t2 t3 t4 t5 t6 t7
    rcases HKD.out with ⟨k1, k2, k3⟩ | ⟨k1, k2, k3⟩
    · have hl : y.ats.length = 1 := by rw [k3]; rfl
      rw [k1] at hg1
      rw [k2, hl] at hg2
      rw [hl, k3] at HTA
      obtain ⟨a9, cap9, e9, -, hc9⟩ := HTA
      cases e9
      obtain ⟨b6, o6, rfl, hb6, n1, n2⟩ := hc9 0 (by decide)
      rw [Nat.zero_mul, Nat.add_zero] at n1 n2
      have w1 : (whA[0]'(by decide)).1 = (⟨#[117, 115, 101, 114, 46, 102, 117, 115, 101, 111, 118, 101, 114, 108, 97, 121, 102, 115, 46, 119, 104, 105, 116, 101, 111, 117, 116]⟩ : ByteArray) := by decide +kernel
      have w2 : (whA[0]'(by decide)).2 = (⟨#[121]⟩ : ByteArray) := by decide +kernel
      rw [w1] at n1; rw [w2] at n2
      clear k1 k2 k3 hl hc9 w1 w2
      have e0 := bC hg1 0; have e1 := bC hg1 1; have e2 := bC hg1 2; have e3 := bC hg1 3; have e4 := bC hg1 4; have e5 := bC hg1 5; have e6 := bC hg1 6; have e7 := bC hg1 7; have e8 := bC hg1 8; have e9 := bC hg1 9; have f0 := bC hg2 0; have f1 := bC hg2 1; have f2 := bC hg2 2; have f3 := bC hg2 3; have f4 := bC hg2 4; have f5 := bC hg2 5; have f6 := bC hg2 6; have f7 := bC hg2 7; clear hg1 hg2
      go_wp2
      go_roundw
      case rel => exact ⟨_, k + 1, rfl, by omega, by go_num, HI2.out⟩
      case measure => first | (simp [intOf]; done) | (simp [intOf]; omega)
    · rw [k2] at hg2
      have m8 : (x.kd == 5) = false := beq_eq_false_iff_ne.2 k1
      have m9 : (x.kd != x.kd) = false := bne_self_eq_false _
      have e0 := bC hg1 0; have e1 := bC hg1 1; have e2 := bC hg1 2; have e3 := bC hg1 3; have e4 := bC hg1 4; have e5 := bC hg1 5; have e6 := bC hg1 6; have e7 := bC hg1 7; have e8 := bC hg1 8; have e9 := bC hg1 9; have f0 := bC hg2 0; have f1 := bC hg2 1; have f2 := bC hg2 2; have f3 := bC hg2 3; have f4 := bC hg2 4; have f5 := bC hg2 5; have f6 := bC hg2 6; have f7 := bC hg2 7; clear hg1 hg2
      by_cases e2' : x.kd = 2
      case neg =>
        have m10 : (x.kd == 2) = false := beq_eq_false_iff_ne.2 e2'
        clear k1 k2 k3 e2' HTA
        go_wp2
        go_roundw
        case rel => exact ⟨_, k + 1, rfl, by omega, by go_num, HI2.out⟩
        case measure => first | (simp [intOf]; done) | (simp [intOf]; omega)
      have m10 : (x.kd == 2) = true := beq_iff_eq.2 e2'
      by_cases e3' : y.ats.length = 1
      case neg =>
        have m11 : ((y.ats.length : Int) == 1) = false := beq_eq_false_iff_ne.2 (by omega)
        clear k1 k2 k3 e2' e3' HTA
        go_wp2
        go_roundw
        case rel => exact ⟨_, k + 1, rfl, by omega, by go_num, HI2.out⟩
        case measure => first | (simp [intOf]; done) | (simp [intOf]; omega)
      have m11 : ((y.ats.length : Int) == 1) = true := beq_iff_eq.2 (by omega)
      obtain ⟨a, ha⟩ := List.length_eq_one_iff.1 e3'
      have hne : ¬ (a.1 = (⟨#[117, 115, 101, 114, 46, 102, 117, 115, 101, 111, 118, 101, 114, 108, 97, 121, 102, 115, 46, 119, 104, 105, 116, 101, 111, 117, 116]⟩ : ByteArray) /\ a.2 = (⟨#[121]⟩ : ByteArray)) := fun h => k3 (by
        rw [ha]
        have w1 : (whA[0]'(by decide)).1 = (⟨#[117, 115, 101, 114, 46, 102, 117, 115, 101, 111, 118, 101, 114, 108, 97, 121, 102, 115, 46, 119, 104, 105, 116, 101, 111, 117, 116]⟩ : ByteArray) := by decide +kernel
        have w2 : (whA[0]'(by decide)).2 = (⟨#[121]⟩ : ByteArray) := by decide +kernel
        have w3 : whA = [whA[0]'(by decide)] := rfl
        rw [w3]
        congr 1
        exact Prod.ext (h.1.trans w1.symm) (h.2.trans w2.symm))
      rw [ha] at HTA
      obtain ⟨a9, cap9, e9, -, hc9⟩ := HTA
      cases e9
      obtain ⟨b6, o6, rfl, hb6, n1, n2⟩ := hc9 0 (by simp)
      rw [Nat.zero_mul, Nat.add_zero] at n1 n2
      have n1 : wc.cell? ⟨b6, o6, none⟩ = some (.string a.1) := n1
      have n2 : wc.cell? ⟨b6, o6 + 1, none⟩ = some (.string a.2) := n2
      have HNE : Hid ((a.1.toList == ([117, 115, 101, 114, 46, 102, 117, 115, 101, 111, 118, 101, 114, 108, 97, 121, 102, 115, 46, 119, 104, 105, 116, 101, 111, 117, 116] : List UInt8)) = false \/ (a.2.toList == ([121] : List UInt8)) = false) := hQq (by
        by_cases h : a.1 = (⟨#[117, 115, 101, 114, 46, 102, 117, 115, 101, 111, 118, 101, 114, 108, 97, 121, 102, 115, 46, 119, 104, 105, 116, 101, 111, 117, 116]⟩ : ByteArray)
        · exact .inr (beq_eq_false_iff_ne.2 fun e => hne ⟨h, L_inj (by rw [<- toList_L, e]; rfl)⟩)
        · exact .inl (beq_eq_false_iff_ne.2 fun e => h (L_inj (by rw [<- toList_L, e]; rfl))))
      clear k1 k2 k3 hc9 hne ha e2'
      cases hq : a.1.toList == ([117, 115, 101, 114, 46, 102, 117, 115, 101, 111, 118, 101, 114, 108, 97, 121, 102, 115, 46, 119, 104, 105, 116, 101, 111, 117, 116] : List UInt8)
      case false =>
        clear HNE
        go_wp2
        go_roundw
        case rel => exact ⟨_, k + 1, rfl, by omega, by go_num, HI2.out⟩
        case measure => first | (simp [intOf]; done) | (simp [intOf]; omega)
      case true =>
        have h9 : (a.2.toList == ([121] : List UInt8)) = false := HNE.out.resolve_left (by rw [hq]; decide)
        clear HNE
        go_wp2
        go_roundw
        case rel => exact ⟨_, k + 1, rfl, by omega, by go_num, HI2.out⟩
        case measure => first | (simp [intOf]; done) | (simp [intOf]; omega)
set_option maxRecDepth 100000 in
theorem contract (H : Type) (enc : TypeId × Value -> H) (W : World) (base : Nat) (args : Array Value) (ds gs : List (DataW H)) (before : List MemPlace)
    (hval : ∀ (j : Nat) t v, Tryz.f5.params[j]? = some t -> args[j]? = some v -> Value.okWide Tryz.prog W .any base t v)
    (hW : DataW.Whole enc Tryz.prog Tryz.f5.params.toList Rows.fuseSaysSpec.vars false W args.toList ds gs before) (hz : (DataW.weightsEach Tryz.prog (Tryz.f5.params.toList ++ (OpenSpec.ofChange Rows.fuseSaysSpec).bare.plain.varTypes Tryz.prog) (ds ++ gs)).all (· <= reachBytes) = true) (hL : laidMetH Tryz.prog Rows.fuseSaysRow.laid W) (hS : W.ShapedOpen Tryz.prog) :
    Calls Tryz.prog 5 args W fun e W' => ∃ v, e = .returned v /\ Rows.fuseSaysSpec.post enc Tryz.prog Tryz.f5 false true false false W args v W' := by
  have hW' := hW
  obtain ⟨p, q, hA0, hV, rfl, hfz, hnd⟩ := hW
  have hA : DataW.TrodAll enc Tryz.prog W 0 (fun _ => true) true Tryz.f5.params.toList args.toList ds p := hA0
  rw [Tryz.params5] at hA hval
  obtain ⟨v0, vs0, d0, ds0, p0, q0, hargs, rfl, rfl, h0, r0⟩ := trodAll_cons hA
  obtain ⟨rfl, rfl, rfl⟩ := trodAll_nil r0
  obtain rfl : args = #[v0] := by cases args; simp_all
  obtain ⟨x0, w0, z0⟩ := open_nodesS (hval 0 22 v0 rfl rfl) h0 (fun n hn => by have := List.all_eq_true.1 hz n (DataW.weights_mem_each (j := 0) (t := 22) (d := d0) (by rw [Tryz.params5]; rfl) rfl n hn); simpa using this)
  obtain ⟨a0, b0, c0, hF⟩ := laidF_of hL hS
  refine (walk a0 b0 c0 v0 x0 W w0 (fun y hy => Nat.le_trans (z0 y hy) (by decide)) hF).mono fun e W' ⟨he, hb⟩ => ?_
  subst he
  exact ⟨_, rfl, law_post hW' rfl rfl rfl (by intro t ht; rw [Tryz.params5] at ht; simp at ht; subst ht; exact ⟨by kernel_rfl, of_decide_eq_true (by kernel_rfl)⟩) hb⟩
theorem reads (os : Os) {H : Type} (enc : TypeId × Value -> H) : ∃ places, DataW.whole enc Tryz.prog ((laidWorldF os).forCall (fun _ _ => 0) ⟨#[], (#[.slice none 0 0] : Array Value), []⟩).memory Tryz.f5.params.toList Rows.fuseSaysSpec.vars false (#[.slice none 0 0] : Array Value).toList 8 = some ([.nil], [], places) :=
  ⟨[], by kernel_rfl⟩
set_option maxRecDepth 100000 in
theorem lifted (os : Os) (started : os.Started) (H : Type) (enc : TypeId × Value -> H) (F : Stop.Interp) :
    ReturnsInHanded {} Tryz.checked os 5 .any ((OpenSpec.ofChange Rows.fuseSaysSpec).preRow enc Tryz.prog Tryz.f5 Rows.fuseSaysRow.domain false Rows.fuseSaysRow.laid) (((OpenSpec.ofChange Rows.fuseSaysSpec).at F).post enc Tryz.prog Tryz.f5 false true false false) := by
  obtain ⟨places, hx⟩ := reads os enc
  refine returnsInHanded_of_row (C := Tryz.checked) (s := OpenSpec.ofChange Rows.fuseSaysSpec) own started (by kernel_rfl) Tryz.func5
    (witness_row_atRef (enc := enc) (C := Tryz.checked) false (laidWorldF os) (#[.slice none 0 0] : Array Value) rfl (by kernel_rfl) (by kernel_rfl) (by kernel_rfl)
      (OpenSpec.preRow_of_cond 8 hx (by kernel_rfl) (fun k hk => by cases hk) (by kernel_rfl) (laidF_met os _))) ?_
  intro W base args ds gs before hval hW _ _ hz hL hS _
  exact contract H enc W base args ds gs before hval hW hz hL hS
theorem j0 : (Rows.fuseSaysRow.wf (OpenSpec.ofChange Rows.fuseSaysSpec)) = true := by kernel_rfl
theorem j1 : (laidOutB Tryz.prog) = true := laidOut
theorem j2 : (mapsRowed Tryz.prog) = true := jMaps
theorem j3 : (Tryz.f5.params.all (Tryz.prog.readableRec ·)) = true := by kernel_rfl
theorem j4 : (namedTie Tryz.prog Rows.fuseSaysRow.named Rows.fuseSaysSpec.vars) = true := by kernel_rfl
theorem j5 : ((Rows.fuseSaysRow.stops == [])) = true := by kernel_rfl
theorem j6 : ((Tryz.prog.stops == [])) = true := jStops
theorem j7 : ((Rows.fuseSaysRow.knobs == [])) = true := by kernel_rfl
theorem j8 : ((Tryz.prog.stopKnobs == [])) = true := jKnobs
theorem j9 : ((Rows.fuseSaysRow.inPlace == Tryz.prog.inPlace 5)) = true := by kernel_rfl
theorem j10 : ((Rows.fuseSaysRow.unfollowed == Tryz.prog.unfollowed 5)) = true := by kernel_rfl
theorem j11 : ((Rows.fuseSaysRow.recurses == Tryz.prog.recurses 5)) = true := by kernel_rfl
theorem j12 : ((Rows.fuseSaysRow.named == Tryz.prog.varsNamed 5)) = true := by kernel_rfl
theorem j13 : ((Rows.fuseSaysRow.maps == (Tryz.f5.params.toList ++ Rows.fuseSaysSpec.plain.varTypes Tryz.prog).any (Tryz.prog.mapsRec ·))) = true := by kernel_rfl
theorem j14 : ((Rows.fuseSaysRow.ifaces == (Tryz.f5.params.toList ++ Rows.fuseSaysSpec.plain.varTypes Tryz.prog).any (Tryz.prog.ifacesRec ·))) = true := by kernel_rfl
theorem j15 : ((Rows.fuseSaysRow.mapsOut == Tryz.prog.mapsAmong Tryz.f5.resultTypes.toList)) = true := by kernel_rfl
theorem j16 : ((Rows.fuseSaysRow.loops == (Tryz.f5.params.toList ++ Rows.fuseSaysSpec.plain.varTypes Tryz.prog).any (Tryz.prog.loopsFrom ·))) = true := by kernel_rfl
theorem j17 : ((Rows.fuseSaysRow.wideKeys == (Tryz.f5.params.toList ++ Rows.fuseSaysSpec.plain.varTypes Tryz.prog ++ Tryz.f5.resultTypes.toList).any (Tryz.prog.wideKeysFrom ·))) = true := by kernel_rfl
theorem j18 : (Rows.fuseSaysSpec.vars.all (Tryz.prog.varReadable ·)) = true := by kernel_rfl
theorem j19 : (Tryz.f5.resultTypes.all (fun t => Tryz.prog.readableRec t && decide (t < Tryz.prog.types.size))) = true := by kernel_rfl
theorem j20 : ((Rows.fuseSaysRow.ifacesOut == Tryz.f5.resultTypes.toList.any (Tryz.prog.ifacesRec ·))) = true := by kernel_rfl
theorem j21 : ((Rows.fuseSaysRow.loopsOut == Tryz.f5.resultTypes.toList.any (Tryz.prog.loopsFrom ·))) = true := by kernel_rfl
theorem j22 : ((Rows.fuseSaysRow.plainKeys == Tryz.prog.plainKeys)) = true := jPlain
theorem j23 : (Rows.fuseSaysRow.shortTexts.isNone) = true := by kernel_rfl
theorem j24 : (Tryz.prog.stopsHeard) = true := jHeard
theorem j25 : (Tryz.prog.mayEnter) = true := jEnter
theorem j26 : ((Rows.fuseSaysRow.lifted == Tryz.prog.liftsFinal)) = true := jLifts
theorem j27 : ((Tryz.prog.make == some Rows.fuseSaysRow.make)) = true := jMake
theorem j28 : ((Rows.fuseSaysRow.kinds == (if Rows.fuseSaysRow.domain.isEmpty then [] else Tryz.f5.params.toList.map fun t => match Tryz.prog.underlying t with | some (.int k) => some k | _ => none))) = true := by kernel_rfl
theorem j29 : ((Rows.fuseSaysRow.pinned == Rows.fuseSaysRow.pinnedBy)) = true := by kernel_rfl
theorem j30 : ((Rows.fuseSaysRow.veiled == (Tryz.f5.params.toList ++ Rows.fuseSaysSpec.plain.varTypes Tryz.prog ++ Tryz.f5.resultTypes.toList).any (Tryz.prog.veiledRec ·))) = true := by kernel_rfl
theorem j31 : (Rows.fuseSaysRow.veiledFits Tryz.prog Tryz.f5.params.toList (Tryz.f5.params.toList ++ Rows.fuseSaysSpec.plain.varTypes Tryz.prog ++ Tryz.f5.resultTypes.toList)) = true := by kernel_rfl
set_option maxRecDepth 100000 in
theorem facts : joinedFacts Tryz.prog 5 Tryz.f5 Rows.fuseSaysSpec Rows.fuseSaysRow = true := by
  unfold joinedFacts
  simp only [Bool.and_eq_true]
  exact ⟨⟨⟨⟨⟨⟨⟨⟨⟨⟨⟨⟨⟨⟨⟨⟨⟨⟨⟨⟨⟨⟨⟨⟨⟨⟨⟨⟨⟨⟨⟨j0, j1⟩, j2⟩, j3⟩, j4⟩, j5⟩, j6⟩, j7⟩, j8⟩, j9⟩, j10⟩, j11⟩, j12⟩, j13⟩, j14⟩, j15⟩, j16⟩, j17⟩, j18⟩, j19⟩, j20⟩, j21⟩, j22⟩, j23⟩, j24⟩, j25⟩, j26⟩, j27⟩, j28⟩, j29⟩, j30⟩, j31⟩
set_option maxRecDepth 100000 in
theorem said : Rows.FuseSaysSaid :=
  OpenClaim.holds_of_cond 5 Tryz.f5 rfl rfl rfl rfl rfl rfl rfl ⟨rfl, rfl, rfl, rfl, rfl⟩ rfl rfl rfl rfl rfl (by kernel_rfl) Tryz.func5 facts
    (of_decide_eq_true (by kernel_rfl)) (by unfold Func.isWrapper; rw [if_neg (of_decide_eq_false (by kernel_rfl))]; exact ⟨rfl, rfl⟩)
    (fun os started H enc _ F => by rw [OpenClaim.pre_eq_preRow]; exact lifted os started H enc F)
theorem plain (f : FuncId) (fn : Func) (hf : Tryz.pinned.checked.prog.funcNamed Rows.fuseSaysRow.func = some f) (hfn : Tryz.pinned.checked.prog.funcs[f]? = some fn) :
    true = Tryz.pinned.checked.prog.looks [] /\ ∀ (j : Nat) t, fn.params[j]? = some t -> Tryz.pinned.checked.prog.wantsStandIn t = false := by
  obtain rfl : f = 5 := Option.some.inj ((show Tryz.prog.funcNamed Rows.fuseSaysRow.func = some 5 by kernel_rfl).symm.trans hf) |>.symm
  obtain rfl : fn = Tryz.f5 := (Option.some.inj (Tryz.func5.symm.trans hfn)).symm
  refine ⟨by kernel_rfl, fun j t ht => ?_⟩
  rw [Tryz.params5] at ht
  have hm := Array.mem_of_getElem? ht
  simp at hm
  subst hm
  exact (show Tryz.prog.wantsStandIn 22 = false by kernel_rfl)
theorem card : Rows.FuseSaysCardSaid :=
  Claim7.holds_tied_plain_at .later [] _ _ _ _ said (fun _ h => by cases h) (by kernel_rfl) (fun _ h => by cases h) fuseSays_row_tie rfl ⟨rfl, rfl⟩ (by kernel_rfl) rfl plain (by kernel_rfl)
#print axioms card
end Go.Proofs.YtimpejaaeinplaaGreatDoor.lwFuseSays
