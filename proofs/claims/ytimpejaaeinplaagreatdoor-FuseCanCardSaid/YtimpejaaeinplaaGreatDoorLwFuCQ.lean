/- FuseCan is proved: for every branch the law returns true; a larger branch is answered by the fixed calls alone. -/
import Derived.Test.YtimpejaaeinplaaGreatDoorQI6
import Derived.Test.YtimpejaaeinplaaGreatDoorQFuDd
namespace Go.Proofs.YtimpejaaeinplaaGreatDoor.lwFuseCan
open Go.ChangeShapes Go.WideShapes Go.ChangeAt Go.RowKit
open Go.ChangeMaps (open_string shut_string)

theorem slT_size (l : List ByteArray) (k : Nat) (h : k < l.length) : (slT (l.take (k + 1))).size = (slT (l.take k)).size + 1 + (l[k]'h).size := by
  rw [List.take_succ_eq_append_getElem h, slT_snoc, ByteArray.size_append, ByteArray.size_append]; rfl
set_option maxHeartbeats 16000000 in
set_option maxRecDepth 100000 in
theorem walk (a0 b0 c0 : Addr) (v : Value) (b : List BrN) (w : World) (hv : BrIn w.heap.size w v b) (hz : ∀ x ∈ b, x.ats.length * 32 <= 140737488355328) (hL : LaidF w a0 b0 c0) : RetB Tryz.prog 6 #[v] w (.bool true) := by
  unfold RetB
  obtain ⟨aa, cap, rfl⟩ := hv.form
  have HV := hQq hv; have HL := hQq hL
  clear hv hL
  go_enter Tryz.func6, Tryz.ntmps6
  go_wp2_with fail
  refine (law22far w.heap.size _ b _ HV.out (Nat.le_refl _) hz).mono ?_
  rintro e w0 ⟨r, rfl, hr, hb0⟩
  have HB0 := hQq hb0
  clear hb0
  cases r
  case true =>
    clear hr
    go_wp2_with (go_at_call 12; refine (law22awake a0 b0 c0 _ (HL.out.ext HB0.out)).mono ?_; rintro e w1 ⟨rfl, hb⟩)
    go_ret
    exact ⟨rfl, Ext.trans HB0.out hb⟩
  have HFB := hQq (hr rfl)
  have HSM := hQq (fewB_smallO (Nat.le_refl _) HFB.out)
  have hlen := HSM.out.len
  clear hr
  go_wp2_with fail
  refine (refBrCheck w.heap.size _ _ b (HV.out.ext okB HB0.out) HB0.out.size HSM.out).mono ?_
  rintro e w1 ⟨rfl, hb1⟩
  have HB1 := hQq (Ext.trans HB0.out hb1)
  clear hb1
  go_wp2_with fail
  refine (fuCan a0 b0 c0 w.heap.size _ _ b (HL.out.ext HB1.out) (HV.out.ext okB HB1.out) HSM.out).mono ?_
  rintro e w2 ⟨rfl, hb2⟩
  have HB2 := hQq (Ext.trans HB1.out hb2)
  clear hb2
  by_cases he : brEr b = 0
  case neg =>
    have q1 : (brEr b != 0) = true := bne_iff_ne.2 he
    have q2 : (feF b == brEr b) = true := beq_iff_eq.2 (fe_err he)
    clear he
    go_wp2_with (go_at_call 12; refine (law22awake a0 b0 c0 _ (HL.out.ext HB2.out)).mono ?_; rintro e w5 ⟨rfl, hb⟩)
    go_ret
    exact ⟨rfl, Ext.trans HB2.out hb⟩
  have q1 : (brEr b != 0) = false := bne_eq_false_iff_eq.2 he
  have HE0 := hQq he
  have HSA := hQq (fun k hk => small_br he (k := k) hk)
  have HRD := hQq (fun i hi => br_red he (i := i) hi)
  clear he
  go_wp2
  go_loopw [7, 9, 10] (fun i _ _ w' => ∃ (wi : World) (k : Nat), wi = w' /\ k <= b.length /\ i = .int .i64 k /\ (∀ j, j < k -> feE b j = 0) /\ Ext w2 wi) (fun i _ _ _ => b.length - (intOf i).toNat)
  case atStart => exact ⟨_, 0, rfl, Nat.zero_le _, rfl, fun j hj => absurd hj (by omega), Below.refl _ _⟩
  case round =>
    obtain ⟨wi, k, rfl, hk, rfl, hok, hE⟩ := hrel
    have HI := hQq hE; have HOK := hQq hok
    clear hE hok
    by_cases hlt : k < b.length
    case neg =>
      obtain rfl : k = b.length := by omega
      have HN := hQq (fe_none HE0.out HOK.out)
      have q3 : (feN b == 0) = true := beq_iff_eq.2 HN.out.1
      have q4 : (feF b == 0) = true := beq_iff_eq.2 HN.out.2
      go_wp2_with (go_at_call 12; refine (law22awake a0 b0 c0 _ (HL.out.ext (HB2.out.trans HI.out))).mono ?_; rintro e w5 ⟨rfl, hb⟩)
      go_ret
      exact ⟨rfl, Ext.trans (HB2.out.trans HI.out) hb⟩
    obtain ⟨bb, off, va, vr, hex, hbx, hva, hvr, c0, c1, c2, c3, c4, c5, c6, c7, c8, c9⟩ := (HV.out.ext okB (HB2.out.trans HI.out)).br k hlt
    cases hex
    obtain ⟨a4, cap4, rfl⟩ := hvr.form
    obtain ⟨a3, cap3, rfl⟩ := hva.form
    have HVA := hQq hva.attrs; have HVR := hQq hvr.strs
    have HG := hQq (getB_at b k hlt)
    have HSX := hQq (HSA.out k hlt)
    have HRX := hQq (HRD.out k hlt)
    rw [getB_at b k hlt] at HRX
    have HFT := hQq (fun h5 => fe_fits HE0.out hlen hlt (by rw [getB_at b k hlt]; exact h5))
    rw [getB_at b k hlt] at HFT
    have HFX := hQq (HFB.out.ok _ (List.getElem_mem hlt))
    have HMM := hQq (names_many (b := b) (i := k) hlt)
    rw [getB_at b k hlt] at HMM
    have HFR := hQq (fun he => fe_first HE0.out hlt HOK.out he)
    have HN : Hid (feE b k = 0 -> ∀ j, j < k + 1 -> feE b j = 0) := hQq (fun hz j hj => by
      by_cases e : j = k
      · subst e; exact hz
      · exact HOK.out j (by omega))
    generalize b[k]'hlt = x at c0 c1 c2 c3 c4 c5 c6 c7 c8 c9 HVA HVR HG HSX HRX HFT HFX HMM
    have j1 : ((k : Nat) : Int) < (b.length : Int) := by omega
    have j0 : (0 : Int) <= (k : Int) := by omega
    clear hva hvr
    by_cases h5 : x.kd = 5
    · have q2 : (x.kd == 5) = true := beq_iff_eq.2 h5
      have HW := hQq (HN.out (fe_white HG.out h5).1)
      clear h5
      go_wp2
      go_roundw
      case rel => exact ⟨_, k + 1, rfl, by omega, by go_num, HW.out, HI.out.trans (eA _ _)⟩
      case measure => first | (simp [intOf]; done) | (simp [intOf]; omega)
    have q2 : (x.kd == 5) = false := beq_eq_false_iff_ne.2 h5
    have HFI := hQq (HFT.out h5)
    rw [HMM.out] at HFI
    clear h5
    go_upto_region 13 with fail
    refine nW (P := fun W => Code.wp _ _ _ _ W) _ ?_
    intro W hW
    have HX : Hid (W.heap[wi.heap.size]? = some (.cells #[.int .i64 x.dep, .string x.nm, .int .i64 x.kd, .slice a3 x.ats.length cap3, .string x.dat, .int .i64 x.ma, .int .i64 x.mi, .int .i64 x.cl, .bool x.opq, .slice a4 x.red.length cap4] 41 (0, 0))) := hQq (by rw [hW]; exact bN wi _)
    have HEW : Hid (Ext wi W) := hQq (by rw [hW]; exact eA _ _)
    clear hW c0 c1 c2 c3 c4 c5 c6 c7 c8 c9
    obtain ⟨o, ho⟩ : ∃ o, x.opq = o := ⟨_, rfl⟩
    obtain ⟨hh, hhd⟩ : ∃ h, hdB b k = h := ⟨_, rfl⟩
    have HOP := hQq ho; have HHD := hQq hhd
    have HLT := hQq hlt
    clear ho hhd
    have x8 : W.cell? ⟨wi.heap.size, 8, none⟩ = some (.bool o) := (bC HX.out 8).trans (by rw [HOP.out]; rfl)
    have xz := blk_lt HX.out
    go_cut [54] (fun s wx => s = .bool (o || hh) /\ Ext W wx)
    case first =>
      cases o
      · go_wp2_with fail
        refine (law22hides w.heap.size _ b k _ (HV.out.ext okB (HB2.out.trans (HI.out.trans HEW.out))) HLT.out (by omega) HE0.out).mono ?_
        rintro e w5 ⟨rfl, hb5⟩
        rw [HHD.out]
        have HB5 := hQq hb5
        clear hb5 HHD
        go_wp2_with fail; go_meet
        exact ⟨by cases hh <;> rfl, HB5.out⟩
      · go_wp2_with fail; go_meet; exact ⟨rfl, Below.refl _ _⟩
    case rest =>
    obtain ⟨rfl, hxq⟩ := hcut
    generalize wc = W2 at hxq ⊢
    replace HX := hQq (bX hxq HX.out)
    replace HEW : Hid (Ext wi W2) := hQq (HEW.out.trans hxq)
    clear hxq x8 xz
    obtain ⟨od, hod⟩ : ∃ od, (o || hh) = od := ⟨_, rfl⟩
    rw [hod]
    have HOD := hQq hod
    clear hod
    go_upto_if 54 with (fail)
    go_cut [9, 10] (fun p q wx => ∃ n1 c1 : Nat, p = .int .i64 n1 /\ q = .int .i64 c1 /\ n1 = b2n od /\ c1 = (if od = true then 28 else 0) /\ W2 = wx)
    case first =>
      clear HOD
      cases od
      · go_wp2_with fail; go_meet; exact ⟨0, 0, rfl, rfl, rfl, rfl, rfl⟩
      · go_wp2_with fail; go_meet; exact ⟨1, 28, rfl, rfl, rfl, rfl, rfl⟩
    case rest =>
    obtain ⟨n1, c1, rfl, rfl, hn1, hc1, rfl⟩ := hcut
    have hb1 : n1 <= 1 := by rw [hn1]; cases od <;> decide
    have hb2 : c1 <= 28 := by rw [hc1]; split <;> decide
    have HN1 := hQq hn1; have HC1 := hQq hc1
    have x9 := bC HX.out 9
    have HVRW : Hid (StrsAt W2 (.slice a4 x.red.length cap4) x.red) := hQq (HVR.out.ext HEW.out)
    clear hn1 hc1
    go_upto_if 65 with (fail)
    go_cut [9, 10] (fun p q wx => ∃ n2 c2 : Nat, p = .int .i64 n2 /\ q = .int .i64 c2 /\ n2 = n1 + b2n (decide (0 < x.red.length)) /\ c2 = c1 + (if 0 < x.red.length then 29 + (textP x.red).size else 0) /\ W2 = wx)
    case first =>
      by_cases hr : 0 < x.red.length
      case neg =>
        have hr' := lenZ hr
        go_wp2_with fail; go_meet
        exact ⟨n1, c1, rfl, rfl, by simp [b2n, hr], by rw [if_neg hr]; omega, rfl⟩
      have hr' := lenP hr
      have hred := HFX.out.2.2.2
      have hr12 := hred.1
      have HR5 := hQq hred.2
      obtain ⟨ra, rcap, rex, rhc, rc⟩ := HVRW.out
      injection rex with e1 _ e3
      subst e1 e3
      have HRC := hQq rc
      have HTS : Hid ((textP x.red).size = (slT x.red).size) := hQq (by rw [textP_slT (fun e => by rw [e] at hr; exact absurd hr (by decide))])
      have HRP := hQq hr
      clear hred rc
      go_wp2_with fail
      go_loop [10, 11] (fun q i => ∃ j c2 : Nat, j <= x.red.length /\ i = .int .i64 j /\ q = .int .i64 c2 /\ c2 = c1 + 29 + (slT (x.red.take j)).size /\ c2 <= 57 + j * 501) (fun _ i => x.red.length - (intOf i).toNat)
      case atStart => exact ⟨0, c1 + 29, Nat.zero_le _, rfl, by go_num, rfl, by omega⟩
      case round =>
        obtain ⟨j, c2, hj, rfl, rfl, hc2, hcb⟩ := hrel
        have HC2 := hQq hc2
        clear hc2
        by_cases hjl : j < x.red.length
        case neg =>
          obtain rfl : j = x.red.length := by omega
          go_wp2_with fail; go_meet
          exact ⟨n1 + 1, c2, by go_num, rfl, by simp [b2n, HRP.out], by rw [if_pos HRP.out, HTS.out, HC2.out, List.take_length]; omega, rfl⟩
        obtain ⟨rb, roff, hra, hrb, rv⟩ := HRC.out j hjl
        have hs5 := HR5.out _ (List.getElem_mem hjl)
        have HST := hQq (slT_size x.red j hjl)
        subst hra
        generalize x.red[j]'hjl = t at rv hs5 HST
        have i1 : ((j : Nat) : Int) < (x.red.length : Int) := by omega
        have i0 : (0 : Int) <= (j : Int) := by omega
        go_wp2
        go_round
        case rel => exact ⟨j + 1, c2 + 1 + t.size, by omega, by go_num, by go_num, by rw [HST.out, HC2.out]; omega, by omega⟩
        case measure => first | (simp [intOf]; done) | (simp [intOf]; omega)
    case rest =>
    obtain ⟨n2, c2, rfl, rfl, hn2, hc2, rfl⟩ := hcut
    have hb3 : n2 <= 2 := by
      rw [hn2]
      have : b2n (decide (0 < x.red.length)) <= 1 := by cases decide (0 < x.red.length) <;> decide
      omega
    have hb4 : c2 <= 257 := by
      rw [hc2]
      by_cases hr : 0 < x.red.length
      · rw [if_pos hr]; have := join_tight (HRX.out hr); omega
      · rw [if_neg hr]; omega
    have HN2 := hQq hn2; have HC2 := hQq hc2
    clear hn2 hc2 hb1 hb2 x9
    go_wp2_with fail
    refine (refNames19 w.heap.size _ _ b k (HV.out.ext okB (HB2.out.trans (HI.out.trans HEW.out))) ((HB2.out.trans (HI.out.trans HEW.out)).size) HSM.out HE0.out hlt).mono ?_
    rintro e w4 ⟨⟨la, lc, rfl, -⟩, hb4'⟩
    have HB4 := hQq hb4'
    clear hb4'
    have hmb := many_bd (plT b) x.cl
    rw [HMM.out, plT_len] at hmb
    generalize (namesL b k).length = m at HMM HFI hmb
    have hm1 : m <= 1001 := by omega
    clear hmb
    go_upto_if 98 with (fail)
    go_cut [9, 10] (fun p q wx => ∃ n3 c3 : Nat, p = .int .i64 n3 /\ q = .int .i64 c3 /\ n3 = n2 + b2n (decide ((1 : Int) < (m : Int))) /\ c3 = c2 + (if (1 : Int) < (m : Int) then 26 + (linkS m).size else 0) /\ Ext w4 wx)
    case first =>
      by_cases hr : 1 < m
      case neg =>
        have hr' : decide ((1 : Int) < (m : Int)) = false := decide_eq_false (by omega)
        have HR2 : Hid (¬ (1 : Int) < (m : Int)) := hQq (by omega)
        have HR3 := hQq hr'
        go_wp2_with fail; go_meet
        exact ⟨n2, c2, rfl, rfl, by rw [HR3.out]; rfl, by rw [if_neg (by have := HR2.out; omega)]; rfl, Below.refl _ _⟩
      have hr' : decide ((1 : Int) < (m : Int)) = true := decide_eq_true (by omega)
      have hr2 : (1 : Int) < (m : Int) := by omega
      have HLK : Hid (linkS (m : Int) = decB m) := hQq (by have := linkS_dec hr2; rw [Int.toNat_natCast] at this; exact this)
      have hls := linkS_size (n := (m : Int)) (by omega)
      rw [HLK.out] at hls
      have HR2 := hQq hr2; have HR3 := hQq hr'
      go_wp2_with (go_at_call 24; refine (refDigitsI (m : Int) _ (by omega) (by omega)).mono ?_; rw [Int.toNat_natCast]; rintro e w6 ⟨rfl, hb6⟩; have HB6 := hQq hb6; clear hb6)
      go_meet
      exact ⟨n2 + 1, c2 + (26 + (decB m).size), by go_num, by go_num, by rw [HR3.out]; rfl, by rw [if_pos HR2.out, HLK.out], HB6.out⟩
    case rest =>
    obtain ⟨n3, c3, rfl, rfl, hn3, hc3, hx5⟩ := hcut
    have HX5 := hQq hx5
    have hb5 : n3 <= 3 := by
      rw [hn3]
      have : b2n (decide ((1 : Int) < (m : Int))) <= 1 := by cases decide ((1 : Int) < (m : Int)) <;> decide
      omega
    have hb6 : c3 <= 1000 := by
      rw [hc3]
      have hls := linkS_size (n := (m : Int)) (by omega)
      split <;> omega
    have HMO : Hid (manyF (x.opq || hdB b k) x.red (m : Int) = n3 /\ bytesF (x.opq || hdB b k) x.red (m : Int) = c3) := hQq (by
      unfold manyF bytesF
      rw [HOP.out, HHD.out, HOD.out, hn3, hc3, HN2.out, HC2.out, HN1.out, HC1.out]
      exact ⟨rfl, rfl⟩)
    rw [HMO.out.1, HMO.out.2] at HFI
    have x3 := bC (bX (HB4.out.trans HX5.out) HX.out) 3
    have HEX : Hid (Ext w2 wc) := hQq (HI.out.trans (HEW.out.trans (HB4.out.trans HX5.out)))
    clear hn3 hc3 hx5 hb3 hb4 hm1
    cases hf : fitsW 2 x.ats n3 c3 with
    | true =>
      have HFF := hQq hf
      rw [hf, if_pos rfl] at HFI
      have HW := hQq (HN.out HFI.out)
      clear hf
      go_wp2_with (go_at_call 25; refine (law22fits _ x.ats n3 c3 _ (HVA.out.ext (HEW.out.trans (HB4.out.trans HX5.out))) HSX.out (by have := HFX.out.1.1; omega) (by omega) (by omega)).mono ?_; rintro e w7 ⟨rfl, rfl⟩; rw [HFF.out])
      go_roundw
      case rel => exact ⟨_, k + 1, rfl, by omega, by go_num, HW.out, HEX.out⟩
      case measure => first | (simp [intOf]; done) | (simp [intOf]; omega)
    | false =>
      have HFF := hQq hf
      rw [hf, if_neg Bool.false_ne_true] at HFI
      obtain ⟨f1, f2⟩ := HFR.out (by rw [HFI.out]; decide)
      rw [HFI.out] at f2
      have q6 : (feN b == (k : Int)) = true := beq_iff_eq.2 f1
      have q7 : (feF b == 17) = true := beq_iff_eq.2 f2
      clear hf f1 f2
      go_wp2_with (first
        | (go_at_call 25; refine (law22fits _ x.ats n3 c3 _ (HVA.out.ext (HEW.out.trans (HB4.out.trans HX5.out))) HSX.out (by have := HFX.out.1.1; omega) (by omega) (by omega)).mono ?_; rintro e w7 ⟨rfl, rfl⟩; rw [HFF.out])
        | (go_at_call 12; refine (law22awake a0 b0 c0 _ (HL.out.ext (HB2.out.trans HEX.out))).mono ?_; rintro e w8 ⟨rfl, hb⟩)
        | fail)
      go_ret
      exact ⟨rfl, Ext.trans (HB2.out.trans HEX.out) hb⟩
set_option maxRecDepth 100000 in
theorem contract (H : Type) (enc : TypeId × Value -> H) (W : World) (base : Nat) (args : Array Value) (ds gs : List (DataW H)) (before : List MemPlace)
    (hval : ∀ (j : Nat) t v, Tryz.f6.params[j]? = some t -> args[j]? = some v -> Value.okWide Tryz.prog W .any base t v)
    (hW : DataW.Whole enc Tryz.prog Tryz.f6.params.toList Rows.fuseCanSpec.vars false W args.toList ds gs before) (hz : (DataW.weightsEach Tryz.prog (Tryz.f6.params.toList ++ (OpenSpec.ofChange Rows.fuseCanSpec).bare.plain.varTypes Tryz.prog) (ds ++ gs)).all (· <= reachBytes) = true) (hL : laidMetH Tryz.prog Rows.fuseCanRow.laid W) (hS : W.ShapedOpen Tryz.prog) :
    Calls Tryz.prog 6 args W fun e W' => ∃ v, e = .returned v /\ Rows.fuseCanSpec.post enc Tryz.prog Tryz.f6 false true false false W args v W' := by
  have hW' := hW
  obtain ⟨p, q, hA0, hV, rfl, hfz, hnd⟩ := hW
  have hA : DataW.TrodAll enc Tryz.prog W 0 (fun _ => true) true Tryz.f6.params.toList args.toList ds p := hA0
  rw [Tryz.params6] at hA hval
  obtain ⟨v0, vs0, d0, ds0, p0, q0, hargs, rfl, rfl, h0, r0⟩ := trodAll_cons hA
  obtain ⟨rfl, rfl, rfl⟩ := trodAll_nil r0
  obtain rfl : args = #[v0] := by cases args; simp_all
  obtain ⟨x0, w0, z0⟩ := open_nodesS (hval 0 22 v0 rfl rfl) h0 (fun n hn => by have := List.all_eq_true.1 hz n (DataW.weights_mem_each (j := 0) (t := 22) (d := d0) (by rw [Tryz.params6]; rfl) rfl n hn); simpa using this)
  obtain ⟨a0, b0, c0, hF⟩ := laidF_of hL hS
  refine (walk a0 b0 c0 v0 x0 W w0 (fun y hy => Nat.le_trans (z0 y hy) (by decide)) hF).mono fun e W' ⟨he, hb⟩ => ?_
  subst he
  exact ⟨_, rfl, law_post hW' rfl rfl rfl (by intro t ht; rw [Tryz.params6] at ht; simp at ht; subst ht; exact ⟨by kernel_rfl, of_decide_eq_true (by kernel_rfl)⟩) hb⟩
theorem reads (os : Os) {H : Type} (enc : TypeId × Value -> H) : ∃ places, DataW.whole enc Tryz.prog ((laidWorldF os).forCall (fun _ _ => 0) ⟨#[], (#[.slice none 0 0] : Array Value), []⟩).memory Tryz.f6.params.toList Rows.fuseCanSpec.vars false (#[.slice none 0 0] : Array Value).toList 8 = some ([.nil], [], places) :=
  ⟨[], by kernel_rfl⟩
set_option maxRecDepth 100000 in
theorem lifted (os : Os) (started : os.Started) (H : Type) (enc : TypeId × Value -> H) (F : Stop.Interp) :
    ReturnsInHanded {} Tryz.checked os 6 .any ((OpenSpec.ofChange Rows.fuseCanSpec).preRow enc Tryz.prog Tryz.f6 Rows.fuseCanRow.domain false Rows.fuseCanRow.laid) (((OpenSpec.ofChange Rows.fuseCanSpec).at F).post enc Tryz.prog Tryz.f6 false true false false) := by
  obtain ⟨places, hx⟩ := reads os enc
  refine returnsInHanded_of_row (C := Tryz.checked) (s := OpenSpec.ofChange Rows.fuseCanSpec) own started (by kernel_rfl) Tryz.func6
    (witness_row_atRef (enc := enc) (C := Tryz.checked) false (laidWorldF os) (#[.slice none 0 0] : Array Value) rfl (by kernel_rfl) (by kernel_rfl) (by kernel_rfl)
      (OpenSpec.preRow_of_cond 8 hx (by kernel_rfl) (fun k hk => by cases hk) (by kernel_rfl) (laidF_met os _))) ?_
  intro W base args ds gs before hval hW _ _ hz hL hS _
  exact contract H enc W base args ds gs before hval hW hz hL hS
theorem j0 : (Rows.fuseCanRow.wf (OpenSpec.ofChange Rows.fuseCanSpec)) = true := by kernel_rfl
theorem j1 : (laidOutB Tryz.prog) = true := laidOut
theorem j2 : (mapsRowed Tryz.prog) = true := jMaps
theorem j3 : (Tryz.f6.params.all (Tryz.prog.readableRec ·)) = true := by kernel_rfl
theorem j4 : (namedTie Tryz.prog Rows.fuseCanRow.named Rows.fuseCanSpec.vars) = true := by kernel_rfl
theorem j5 : ((Rows.fuseCanRow.stops == [])) = true := by kernel_rfl
theorem j6 : ((Tryz.prog.stops == [])) = true := jStops
theorem j7 : ((Rows.fuseCanRow.knobs == [])) = true := by kernel_rfl
theorem j8 : ((Tryz.prog.stopKnobs == [])) = true := jKnobs
theorem j9 : ((Rows.fuseCanRow.inPlace == Tryz.prog.inPlace 6)) = true := by kernel_rfl
theorem j10 : ((Rows.fuseCanRow.unfollowed == Tryz.prog.unfollowed 6)) = true := by kernel_rfl
theorem j11 : ((Rows.fuseCanRow.recurses == Tryz.prog.recurses 6)) = true := by kernel_rfl
theorem j12 : ((Rows.fuseCanRow.named == Tryz.prog.varsNamed 6)) = true := by kernel_rfl
theorem j13 : ((Rows.fuseCanRow.maps == (Tryz.f6.params.toList ++ Rows.fuseCanSpec.plain.varTypes Tryz.prog).any (Tryz.prog.mapsRec ·))) = true := by kernel_rfl
theorem j14 : ((Rows.fuseCanRow.ifaces == (Tryz.f6.params.toList ++ Rows.fuseCanSpec.plain.varTypes Tryz.prog).any (Tryz.prog.ifacesRec ·))) = true := by kernel_rfl
theorem j15 : ((Rows.fuseCanRow.mapsOut == Tryz.prog.mapsAmong Tryz.f6.resultTypes.toList)) = true := by kernel_rfl
theorem j16 : ((Rows.fuseCanRow.loops == (Tryz.f6.params.toList ++ Rows.fuseCanSpec.plain.varTypes Tryz.prog).any (Tryz.prog.loopsFrom ·))) = true := by kernel_rfl
theorem j17 : ((Rows.fuseCanRow.wideKeys == (Tryz.f6.params.toList ++ Rows.fuseCanSpec.plain.varTypes Tryz.prog ++ Tryz.f6.resultTypes.toList).any (Tryz.prog.wideKeysFrom ·))) = true := by kernel_rfl
theorem j18 : (Rows.fuseCanSpec.vars.all (Tryz.prog.varReadable ·)) = true := by kernel_rfl
theorem j19 : (Tryz.f6.resultTypes.all (fun t => Tryz.prog.readableRec t && decide (t < Tryz.prog.types.size))) = true := by kernel_rfl
theorem j20 : ((Rows.fuseCanRow.ifacesOut == Tryz.f6.resultTypes.toList.any (Tryz.prog.ifacesRec ·))) = true := by kernel_rfl
theorem j21 : ((Rows.fuseCanRow.loopsOut == Tryz.f6.resultTypes.toList.any (Tryz.prog.loopsFrom ·))) = true := by kernel_rfl
theorem j22 : ((Rows.fuseCanRow.plainKeys == Tryz.prog.plainKeys)) = true := jPlain
theorem j23 : (Rows.fuseCanRow.shortTexts.isNone) = true := by kernel_rfl
theorem j24 : (Tryz.prog.stopsHeard) = true := jHeard
theorem j25 : (Tryz.prog.mayEnter) = true := jEnter
theorem j26 : ((Rows.fuseCanRow.lifted == Tryz.prog.liftsFinal)) = true := jLifts
theorem j27 : ((Tryz.prog.make == some Rows.fuseCanRow.make)) = true := jMake
theorem j28 : ((Rows.fuseCanRow.kinds == (if Rows.fuseCanRow.domain.isEmpty then [] else Tryz.f6.params.toList.map fun t => match Tryz.prog.underlying t with | some (.int k) => some k | _ => none))) = true := by kernel_rfl
theorem j29 : ((Rows.fuseCanRow.pinned == Rows.fuseCanRow.pinnedBy)) = true := by kernel_rfl
theorem j30 : ((Rows.fuseCanRow.veiled == (Tryz.f6.params.toList ++ Rows.fuseCanSpec.plain.varTypes Tryz.prog ++ Tryz.f6.resultTypes.toList).any (Tryz.prog.veiledRec ·))) = true := by kernel_rfl
theorem j31 : (Rows.fuseCanRow.veiledFits Tryz.prog Tryz.f6.params.toList (Tryz.f6.params.toList ++ Rows.fuseCanSpec.plain.varTypes Tryz.prog ++ Tryz.f6.resultTypes.toList)) = true := by kernel_rfl
set_option maxRecDepth 100000 in
theorem facts : joinedFacts Tryz.prog 6 Tryz.f6 Rows.fuseCanSpec Rows.fuseCanRow = true := by
  unfold joinedFacts
  simp only [Bool.and_eq_true]
  exact ⟨⟨⟨⟨⟨⟨⟨⟨⟨⟨⟨⟨⟨⟨⟨⟨⟨⟨⟨⟨⟨⟨⟨⟨⟨⟨⟨⟨⟨⟨⟨j0, j1⟩, j2⟩, j3⟩, j4⟩, j5⟩, j6⟩, j7⟩, j8⟩, j9⟩, j10⟩, j11⟩, j12⟩, j13⟩, j14⟩, j15⟩, j16⟩, j17⟩, j18⟩, j19⟩, j20⟩, j21⟩, j22⟩, j23⟩, j24⟩, j25⟩, j26⟩, j27⟩, j28⟩, j29⟩, j30⟩, j31⟩
set_option maxRecDepth 100000 in
theorem said : Rows.FuseCanSaid :=
  OpenClaim.holds_of_cond 6 Tryz.f6 rfl rfl rfl rfl rfl rfl rfl ⟨rfl, rfl, rfl, rfl, rfl⟩ rfl rfl rfl rfl rfl (by kernel_rfl) Tryz.func6 facts
    (of_decide_eq_true (by kernel_rfl)) (by unfold Func.isWrapper; rw [if_neg (of_decide_eq_false (by kernel_rfl))]; exact ⟨rfl, rfl⟩)
    (fun os started H enc _ F => by rw [OpenClaim.pre_eq_preRow]; exact lifted os started H enc F)
theorem plain (f : FuncId) (fn : Func) (hf : Tryz.pinned.checked.prog.funcNamed Rows.fuseCanRow.func = some f) (hfn : Tryz.pinned.checked.prog.funcs[f]? = some fn) :
    true = Tryz.pinned.checked.prog.looks [] /\ ∀ (j : Nat) t, fn.params[j]? = some t -> Tryz.pinned.checked.prog.wantsStandIn t = false := by
  obtain rfl : f = 6 := Option.some.inj ((show Tryz.prog.funcNamed Rows.fuseCanRow.func = some 6 by kernel_rfl).symm.trans hf) |>.symm
  obtain rfl : fn = Tryz.f6 := (Option.some.inj (Tryz.func6.symm.trans hfn)).symm
  refine ⟨by kernel_rfl, fun j t ht => ?_⟩
  rw [Tryz.params6] at ht
  have hm := Array.mem_of_getElem? ht
  simp at hm
  subst hm
  exact (show Tryz.prog.wantsStandIn 22 = false by kernel_rfl)
theorem card : Rows.FuseCanCardSaid :=
  Claim7.holds_tied_plain_at .later [] _ _ _ _ said (fun _ h => by cases h) (by kernel_rfl) (fun _ h => by cases h) fuseCan_row_tie rfl ⟨rfl, rfl⟩ (by kernel_rfl) rfl plain (by kernel_rfl)
#print axioms card
end Go.Proofs.YtimpejaaeinplaaGreatDoor.lwFuseCan
