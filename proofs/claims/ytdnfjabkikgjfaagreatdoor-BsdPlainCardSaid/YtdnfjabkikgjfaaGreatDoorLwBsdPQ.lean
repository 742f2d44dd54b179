/- BsdPlain is proved: for every branch the law returns true; a larger branch is answered by the fixed calls alone. -/
import Derived.Test.YtdnfjabkikgjfaaGreatDoorQBsdU
import Derived.Test.YtdnfjabkikgjfaaGreatDoorQFrame
import Derived.Test.YtdnfjabkikgjfaaGreatDoorQOpenA
namespace Go.Proofs.YtdnfjabkikgjfaaGreatDoor.lwBsdPlain
open Go.ChangeShapes Go.WideShapes Go.ChangeAt Go.RowKit
open Go.ChangeMaps (open_string shut_string)

set_option maxHeartbeats 16000000 in
set_option maxRecDepth 100000 in
theorem walk (v : Value) (b : List BrN) (w : World) (hv : BrIn w.heap.size w v b) (hL : Laid w) : RetB Tryz.prog 4 #[v] w (.bool true) := by
  unfold RetB
  obtain ⟨aa, cap, rfl⟩ := hv.form
  have HV := Lib.hid hv; have HL := Lib.hid hL
  clear hv hL
  go_enter Tryz.func4, Tryz.ntmps4
  go_wp2_with fail
  refine (law24far w.heap.size _ b _ HV.out).mono ?_
  rintro e w0 ⟨r, rfl, hr, rfl⟩
  cases r
  case true =>
    clear hr
    go_wp2_with (go_at_call 10; refine (law24awake _ HL.out).mono ?_; rintro e w1 ⟨rfl, hb⟩)
    go_ret
    exact ⟨rfl, hb⟩
  have hf := hr rfl
  have HSB := Lib.hid (fewB_small hf)
  have HFB : Hid (b.length ≤ 1000 ∧ (∀ x ∈ b, x.ats.length ≤ 1000) ∧ ∀ x ∈ b, x.red.length ≤ 1000) := Lib.hid ⟨by have := hf.len; omega, fun x hx => by have := (hf.ok x hx).1.1; omega, fun x hx => by have := (hf.ok x hx).2.2.2.1; omega⟩
  have hlen := hf.len
  clear hr hf
  by_cases he : brEr b = 0
  case neg =>
    have q1 : (brEr b != 0) = true := bne_iff_ne.2 he
    clear he
    go_wp2_with fail
    refine (refBrCheck w.heap.size _ _ b HV.out (Nat.le_refl _) HSB.out).mono ?_
    rintro e w1 ⟨rfl, hb1⟩
    have HB1 := Lib.hid hb1
    clear hb1
    go_wp2_with (go_at_call 10; refine (law24awake _ (HL.out.ext HB1.out)).mono ?_; rintro e w2 ⟨rfl, hb⟩)
    go_ret
    exact ⟨rfl, Ext.trans HB1.out hb⟩
  have HE0 := Lib.hid he
  have q1 : (brEr b != 0) = false := bne_eq_false_iff_eq.2 he
  clear he
  go_wp2_with fail
  refine (refBrCheck w.heap.size _ _ b HV.out (Nat.le_refl _) HSB.out).mono ?_
  rintro e w1 ⟨rfl, hb1⟩
  have HB1 := Lib.hid hb1
  clear hb1
  go_wp2_with fail
  refine (bsdEncode w.heap.size _ _ b (HL.out.ext HB1.out) (HV.out.ext okB HB1.out) HSB.out).mono ?_
  rintro e w2 ⟨⟨B2, a2, n2, c2, hB2, rfl, ho2⟩, hb2⟩
  have HO2 := Lib.hid ho2; have HB2 := Lib.hid (Ext.trans HB1.out hb2); have HW2 : Hid (w.heap.size ≤ B2) := Lib.hid (Nat.le_trans HB1.out.size hB2)
  clear ho2 hb2 hB2
  go_wp2_with fail
  go_loopw [7, 8] (fun s i w' => ∃ (wi : World) (k : Nat), wi = w' ∧ k ≤ b.length ∧ i = .int .i64 k ∧ s = .bool (simB (b.take k)) ∧ OwnL cdT B2 wi (.slice a2 n2 c2) (encL b) ∧ Ext w wi) (fun _ i _ => b.length - (intOf i).toNat)
  case atStart => exact ⟨_, 0, rfl, Nat.zero_le _, rfl, rfl, HO2.out, HB2.out⟩
  case round =>
    clear HO2 HB2
    obtain ⟨wi, k, rfl, hk, rfl, rfl, ho, hE⟩ := hrel
    have HO := Lib.hid ho; have HE := Lib.hid hE
    clear ho hE
    by_cases hlt : k < b.length
    case pos =>
      have HVI := Lib.hid (HV.out.ext okB HE.out)
      obtain ⟨bb, off, va, vr, hex, hbx, hva, hvr, c0, c1, c2', c3, c4, c5, c6, c7, c8, c9⟩ := HVI.out.br k hlt
      cases hex
      obtain ⟨a4, cap4, rfl⟩ := hvr.form
      obtain ⟨a3, cap3, rfl⟩ := hva.form
      have HVA := Lib.hid hva.attrs
      have HCK := Lib.hid (br_chk HE0.out hlt)
      have HAL := Lib.hid (HFB.out.2.1 _ (List.getElem_mem hlt))
      have HT := Lib.hid (simB_take b k hlt)
      rw [getB_at b k hlt] at HCK
      generalize b[k]'hlt = x at c0 c1 c2' c3 c4 c5 c6 c7 c8 c9 HVA HCK HT HAL
      have HCE : Hid (∀ W, Ext wi W → W.cell? ⟨bb, off + k * 10 + 3, none⟩ = some (.slice a3 x.ats.length cap3) ∧ W.cell? ⟨bb, off + k * 10 + 8, none⟩ = some (.bool x.opq) ∧ W.cell? ⟨bb, off + k * 10 + 9, none⟩ = some (.slice a4 x.red.length cap4)) := Lib.hid fun W hW => ⟨(ext_cell hW hbx).trans c3, (ext_cell hW hbx).trans c8, (ext_cell hW hbx).trans c9⟩
      have j1 : ((k : Nat) : Int) < (b.length : Int) := by omega
      have j0 : (0 : Int) ≤ (k : Int) := by omega
      have hal : x.ats.length ≤ 1000 := HAL.out
      clear hva hvr c0 c1 c2' c4 c5 c6 c7 c8 c9
      go_wp2_with fail
      refine (refSizeOk _ x.ats _ HVA.out HCK.out).mono ?_
      rintro e w3 ⟨rfl, hb3⟩
      obtain ⟨d3, d8, d9⟩ := HCE.out _ hb3
      have HE3 := Lib.hid (HE.out.trans hb3); have HX3 := Lib.hid hb3; have HV3 := Lib.hid (HVA.out.ext hb3)
      have hbx3 : bb < w3.heap.size := Nat.lt_of_lt_of_le hbx hb3.size
      clear hb3 c3
      obtain ⟨s, hs⟩ : ∃ s, s = simB (b.take k) := ⟨_, rfl⟩
      rw [← hs] at HT ⊢
      clear hs
      by_cases g1 : s = true ∧ x.red.length = 0
      case neg =>
        have hsx : (s && simX x) = false := by
          cases s with
          | false => rfl
          | true =>
            have : ¬ x.red.length = 0 := fun h => g1 ⟨rfl, h⟩
            unfold simX; simp [this]
        have HQ := Lib.hid (HT.out.trans hsx)
        cases s with
        | false =>
          go_wp2
          go_roundw
          case rel => exact ⟨_, k + 1, rfl, by omega, by go_num, by rw [HQ.out], HO.out.ext okT HX3.out, HE3.out⟩
          case measure => first | (simp [intOf]; done) | (simp [intOf]; omega)
        | true =>
          have g2 : ¬ x.red.length = 0 := fun h => g1 ⟨rfl, h⟩
          have g3 : decide ((x.red.length : Int) = 0) = false := decide_eq_false (by omega)
          go_wp2
          go_roundw
          case rel => exact ⟨_, k + 1, rfl, by omega, by go_num, by rw [HQ.out], HO.out.ext okT HX3.out, HE3.out⟩
          case measure => first | (simp [intOf]; done) | (simp [intOf]; omega)
      obtain ⟨rfl, g2⟩ := g1
      have HSX : Hid (simX x = (plainB x.ats && (!x.opq || (decide (x.ats.length < 6) && decide (sizeA x.ats ≤ 276))))) := Lib.hid (by unfold simX; simp [g2])
      rw [g2] at d9
      go_wp2_with fail
      refine (law24plain _ x.ats _ HV3.out (by omega)).mono ?_
      rintro e w4 ⟨rfl, hb4⟩
      obtain ⟨e3, e8, e9⟩ := HCE.out _ (Ext.trans HX3.out hb4)
      have HE4 := Lib.hid (HE3.out.trans hb4); have HX4 := Lib.hid (Ext.trans HX3.out hb4)
      have hbx4 : bb < w4.heap.size := Nat.lt_of_lt_of_le hbx3 hb4.size
      clear hb4
      cases g3 : plainB x.ats with
      | false =>
        have HQ := Lib.hid (HT.out.trans (show (true && simX x) = false by rw [HSX.out, g3]; rfl))
        go_wp2
        go_roundw
        case rel => exact ⟨_, k + 1, rfl, by omega, by go_num, by rw [HQ.out], HO.out.ext okT HX4.out, HE4.out⟩
        case measure => first | (simp [intOf]; done) | (simp [intOf]; omega)
      | true =>
        rw [g3] at HSX
        cases g4 : x.opq with
        | false =>
          rw [g4] at e8
          have HQ := Lib.hid (HT.out.trans (show (true && simX x) = true by rw [HSX.out, g4]; rfl))
          go_wp2
          go_roundw
          case rel => exact ⟨_, k + 1, rfl, by omega, by go_num, by rw [HQ.out], HO.out.ext okT HX4.out, HE4.out⟩
          case measure => first | (simp [intOf]; done) | (simp [intOf]; omega)
        | true =>
          rw [g4] at e8
          by_cases g5 : x.ats.length < 6
          case neg =>
            have HQ := Lib.hid (HT.out.trans (show (true && simX x) = false by rw [HSX.out, g4]; simp [g5]))
            go_wp2
            go_roundw
            case rel => exact ⟨_, k + 1, rfl, by omega, by go_num, by rw [HQ.out], HO.out.ext okT HX4.out, HE4.out⟩
            case measure => first | (simp [intOf]; done) | (simp [intOf]; omega)
          by_cases g6 : sizeA x.ats ≤ 276
          · have g7 : decide ((sizeA x.ats : Int) ≤ 276) = true := decide_eq_true (by omega)
            have HQ := Lib.hid (HT.out.trans (show (true && simX x) = true by rw [HSX.out, g4]; simp [g5, g6]))
            go_wp2
            go_roundw
            case rel => exact ⟨_, k + 1, rfl, by omega, by go_num, by rw [HQ.out], HO.out.ext okT HX4.out, HE4.out⟩
            case measure => first | (simp [intOf]; done) | (simp [intOf]; omega)
          · have g7 : decide ((sizeA x.ats : Int) ≤ 276) = false := decide_eq_false (by omega)
            have HQ := Lib.hid (HT.out.trans (show (true && simX x) = false by rw [HSX.out, g4]; simp [g6]))
            go_wp2
            go_roundw
            case rel => exact ⟨_, k + 1, rfl, by omega, by go_num, by rw [HQ.out], HO.out.ext okT HX4.out, HE4.out⟩
            case measure => first | (simp [intOf]; done) | (simp [intOf]; omega)
    obtain rfl : k = b.length := by omega
    rw [List.take_length]
    by_cases hz : encF b = 0
    case neg =>
      have q2 : (encF b != 0) = true := bne_iff_ne.2 hz
      have hs : simB b = false := by
        cases h : simB b with
        | false => rfl
        | true => exact absurd (sim_enc HE0.out h) hz
      rw [hs]
      clear hz hs
      go_wp2_with (go_at_call 10; refine (law24awake _ (HL.out.ext HE.out)).mono ?_; rintro e w3 ⟨rfl, hb⟩)
      go_ret
      exact ⟨rfl, Ext.trans HE.out hb⟩
    have q2 : (encF b != 0) = false := bne_eq_false_iff_eq.2 hz
    have hln : (encL b).length = b.length := by rw [(enc_of (enc_zero hz).2.1).1, List.length_map]
    have hpos : 0 < b.length := by
      obtain ⟨t0, _, _⟩ := brEr_zero HE0.out
      have := (treeE_zero t0).1
      rw [plT_len] at this; omega
    have HZ := Lib.hid (enc_zero hz).2.2
    have HEL := Lib.hid (enc_of (enc_zero hz).2.1).1
    obtain ⟨g, rfl, hg1, hg2, rfl⟩ := HO.out.addr (by omega)
    rw [hln]
    rw [hln] at HO
    have HG1 : Hid (w.heap.size ≤ g) := Lib.hid (Nat.le_trans HW2.out hg1)
    have HGB := Lib.hid hg1; have HGW := Lib.hid hg2
    clear hz hg1 hg2
    go_wp2_with fail
    refine (refTreeC w.heap.size _ _ b (HV.out.ext okB HE.out) HE.out.size (by omega) HFB.out.2.1).mono ?_
    rintro e w3 ⟨⟨a5, c5, rfl, ho5⟩, hb5⟩
    obtain ⟨g', rfl, hg1, hg2, -⟩ := ho5.addr (by rw [plT_len]; exact hpos)
    have HO5 := Lib.hid (own_of_c ho5 (B' := B2) (Nat.le_trans HGB.out (Nat.le_of_lt HGW.out)))
    have HOT := Lib.hid (HO.out.ext okT hb5)
    have HB5 := Lib.hid (HE.out.trans hb5)
    have HG2 : Hid (w.heap.size ≤ g') := Lib.hid (Nat.le_trans HE.out.size hg1)
    have HNE : Hid (g ≠ g') := Lib.hid (by have := HGW.out; omega)
    clear ho5 hb5 hg1 hg2 HO HE
    go_wp2_with fail
    go_loopw [12] (fun i w' => ∃ (wi : World) (k : Nat), wi = w' ∧ k ≤ b.length ∧ i = .int .i64 k ∧ OwnL cdT B2 wi (.slice (some ⟨g, 0, none⟩) b.length c2) (mixM (fun x => bareT (encX x)) encX b k) ∧ OwnL cdT B2 wi (.slice (some ⟨g', 0, none⟩) b.length c5) (mixM (fun x => bareT x.toTrN) BrN.toTrN b k) ∧ Ext w wi) (fun i _ => b.length - (intOf i).toNat)
    case atStart => exact ⟨_, 0, rfl, Nat.zero_le _, rfl, by rw [mix_zero, ← HEL.out]; exact HOT.out, by rw [mix_zero]; exact HO5.out, HB5.out⟩
    case round =>
      clear HOT HO5 HB5
      obtain ⟨wi, k, rfl, hk, rfl, ho1, ho2, hE⟩ := hrel
      have HE := Lib.hid hE
      clear hE
      by_cases hlt : k < b.length
      case neg =>
        obtain rfl : k = b.length := by omega
        rw [mix_end] at ho1 ho2
        have HO1 := Lib.hid ho1; have HO2 := Lib.hid ho2
        clear ho1 ho2
        go_wp2_with fail
        refine (sameBare _ b _ _ _ HO1.out HO2.out hlen).mono ?_
        rintro e w4 ⟨rfl, hb4⟩
        have HB4 := Lib.hid (HE.out.trans hb4)
        clear hb4
        go_wp2_with (go_at_call 10; refine (law24awake _ (HL.out.ext HB4.out)).mono ?_; rintro e w5 ⟨rfl, hb⟩)
        go_ret
        exact ⟨rfl, Ext.trans HB4.out hb⟩
      have HO1 := Lib.hid ho1; have HO2 := Lib.hid ho2
      clear ho1 ho2
      have HVI := Lib.hid (HV.out.ext okB HE.out)
      obtain ⟨bb, off, va0, vr0, hex, hbx, hva, hvr, c0, c1, c2', c3, c4, c5', c6, c7, c8, c9⟩ := HVI.out.br k hlt
      cases hex
      have HZK := Lib.hid (HZ.out k hlt)
      rw [getB_at b k hlt] at HZK
      have HCK := Lib.hid (br_chk HE0.out hlt)
      rw [getB_at b k hlt] at HCK
      have HAL := Lib.hid (HFB.out.2.1 _ (List.getElem_mem hlt))
      have HM1 := Lib.hid (fun h' => mix_get (fun x => bareT (encX x)) encX b k hlt h')
      have HM2 := Lib.hid (fun h' => mix_get (fun x => bareT x.toTrN) BrN.toTrN b k hlt h')
      have HS1 := Lib.hid (mix_set (fun x => bareT (encX x)) encX b k hlt)
      have HS2 := Lib.hid (mix_set (fun x => bareT x.toTrN) BrN.toTrN b k hlt)
      have HSIM : Hid (simB b = true → simX (b[k]'hlt) = true) := Lib.hid fun h => List.all_eq_true.1 h _ (List.getElem_mem hlt)
      generalize b[k]'hlt = x at c8 HZK HCK HAL HM1 HM2 HS1 HS2 HSIM
      have j1 : ((k : Nat) : Int) < (b.length : Int) := by omega
      have j0 : (0 : Int) ≤ (k : Int) := by omega
      clear hva hvr c0 c1 c2' c3 c4 c5' c6 c7 c9
      have hal : x.ats.length ≤ 1000 := HAL.out
      have hbl : (encX x).ats.length = x.ats.length + (if x.opq = true then 1 else 0) := bw_length HZK.out.2
      cases g4 : x.opq with
      | true =>
        rw [g4] at c8 hbl
        rw [if_pos rfl] at hbl
        obtain ⟨va, vo, u3, y1, y2, y3, y4, y5, y6, y7, y8, y9⟩ := step2 HO1.out HO2.out (by rw [mix_len]; exact hlt) (by rw [mix_len]; exact hlt) HNE.out
        rw [HM1.out] at y2 y8
        rw [HM2.out] at y4 y9
        rw [HS1.out] at y8
        rw [HS2.out] at y9
        obtain ⟨a3, cap3, rfl⟩ := y2.form
        obtain ⟨a4, cap4, rfl⟩ := y4.form
        have HN1 := Lib.hid y8; have HN2 := Lib.hid y9
        have HY2 := Lib.hid y2; have HY4 := Lib.hid y4
        clear y2 y4 y8 y9
        rw [hbl] at y1
        cases simB b
        · go_wp2
          go_quiet (fail)
          clear y1 y3 y5 y6 y7
          obtain ⟨W, hW⟩ : ∃ W, W = wi.drewN nq := ⟨_, rfl⟩
          have HXW : Hid (Ext wi W) := Lib.hid (by rw [hW]; exact ext_drewN _ _)
          rw [← hW]
          clear hW
          obtain ⟨va, vo, u3, y1, y2, y3, y4, y5, y6, y7, y8, y9⟩ := step2 (HO1.out.ext okT HXW.out) (HO2.out.ext okT HXW.out) (by rw [mix_len]; exact hlt) (by rw [mix_len]; exact hlt) HNE.out
          rw [HM1.out] at y2 y8
          rw [HM2.out] at y4 y9
          rw [HS1.out] at y8
          rw [HS2.out] at y9
          have HN1 := Lib.hid y8; have HN2 := Lib.hid y9
          clear y2 y4 y8 y9
          go_wp2
          have HE3 : Hid (Ext w ((W.setCell ⟨g, k * 8 + 3, none⟩ (.slice none 0 0)).setCell ⟨g', k * 8 + 3, none⟩ (.slice none 0 0))) := Lib.hid (Below.setCell (p := ⟨g', k * 8 + 3, none⟩) (Below.setCell (p := ⟨g, k * 8 + 3, none⟩) (HE.out.trans HXW.out) HG1.out _) HG2.out _)
          go_roundw
          case rel => exact ⟨_, k + 1, rfl, by omega, by go_num, HN1.out, HN2.out, HE3.out⟩
          case measure => first | (simp [intOf]; done) | (simp [intOf]; omega)
        · go_wp2
          go_quiet (fail)
          clear y1 y3 y5 y6 y7
          obtain ⟨W, hW⟩ : ∃ W, W = wi.drewN nq := ⟨_, rfl⟩
          have HXW : Hid (Ext wi W) := Lib.hid (by rw [hW]; exact ext_drewN _ _)
          rw [← hW]
          clear hW
          obtain ⟨va, vo, u3, y1, y2, y3, y4, y5, y6, y7, y8, y9⟩ := step2 (HO1.out.ext okT HXW.out) (HO2.out.ext okT HXW.out) (by rw [mix_len]; exact hlt) (by rw [mix_len]; exact hlt) HNE.out
          rw [HM1.out] at y2 y8
          rw [HM2.out] at y4 y9
          rw [HS1.out] at y8
          rw [HS2.out] at y9
          have HN1 := Lib.hid y8; have HN2 := Lib.hid y9
          clear y2 y4 y8 y9
          go_wp2
          have HE3 : Hid (Ext w ((W.setCell ⟨g, k * 8 + 3, none⟩ (.slice none 0 0)).setCell ⟨g', k * 8 + 3, none⟩ (.slice none 0 0))) := Lib.hid (Below.setCell (p := ⟨g', k * 8 + 3, none⟩) (Below.setCell (p := ⟨g, k * 8 + 3, none⟩) (HE.out.trans HXW.out) HG1.out _) HG2.out _)
          go_roundw
          case rel => exact ⟨_, k + 1, rfl, by omega, by go_num, HN1.out, HN2.out, HE3.out⟩
          case measure => first | (simp [intOf]; done) | (simp [intOf]; omega)
      | false =>
        rw [g4] at c8 hbl
        rw [if_neg (by decide)] at hbl
        cases g5 : simB b with
        | false =>
          obtain ⟨va, vo, u3, y1, y2, y3, y4, y5, y6, y7, y8, y9⟩ := step2 HO1.out HO2.out (by rw [mix_len]; exact hlt) (by rw [mix_len]; exact hlt) HNE.out
          rw [HM1.out] at y2 y8
          rw [HM2.out] at y4 y9
          rw [HS1.out] at y8
          rw [HS2.out] at y9
          obtain ⟨a3, cap3, rfl⟩ := y2.form
          obtain ⟨a4, cap4, rfl⟩ := y4.form
          have HN1 := Lib.hid y8; have HN2 := Lib.hid y9
          have HY2 := Lib.hid y2; have HY4 := Lib.hid y4
          clear y2 y4 y8 y9
          rw [hbl] at y1
          go_wp2
          go_quiet (fail)
          clear y1 y3 y5 y6 y7
          obtain ⟨W, hW⟩ : ∃ W, W = wi.drewN nq := ⟨_, rfl⟩
          have HXW : Hid (Ext wi W) := Lib.hid (by rw [hW]; exact ext_drewN _ _)
          rw [← hW]
          clear hW
          obtain ⟨va, vo, u3, y1, y2, y3, y4, y5, y6, y7, y8, y9⟩ := step2 (HO1.out.ext okT HXW.out) (HO2.out.ext okT HXW.out) (by rw [mix_len]; exact hlt) (by rw [mix_len]; exact hlt) HNE.out
          rw [HM1.out] at y2 y8
          rw [HM2.out] at y4 y9
          rw [HS1.out] at y8
          rw [HS2.out] at y9
          have HN1 := Lib.hid y8; have HN2 := Lib.hid y9
          clear y2 y4 y8 y9
          go_wp2
          have HE3 : Hid (Ext w ((W.setCell ⟨g, k * 8 + 3, none⟩ (.slice none 0 0)).setCell ⟨g', k * 8 + 3, none⟩ (.slice none 0 0))) := Lib.hid (Below.setCell (p := ⟨g', k * 8 + 3, none⟩) (Below.setCell (p := ⟨g, k * 8 + 3, none⟩) (HE.out.trans HXW.out) HG1.out _) HG2.out _)
          go_roundw
          case rel => exact ⟨_, k + 1, rfl, by omega, by go_num, HN1.out, HN2.out, HE3.out⟩
          case measure => first | (simp [intOf]; done) | (simp [intOf]; omega)
        | true =>
          have HEQ : Hid ((encX x).ats = x.ats) := Lib.hid ((sim_bw HCK.out (HSIM.out g5)).2 g4)
          obtain ⟨va, vo, u3, y1, y2, y3, y4, -, -, -, -, -⟩ := step2 HO1.out HO2.out (by rw [mix_len]; exact hlt) (by rw [mix_len]; exact hlt) HNE.out
          rw [HM1.out] at y2
          rw [HM2.out] at y4
          rw [HEQ.out] at y2
          obtain ⟨a3, cap3, rfl⟩ := y2.form
          obtain ⟨a4, cap4, rfl⟩ := y4.form
          have HY2 := Lib.hid y2; have HY4 := Lib.hid y4
          have HC1 := Lib.hid y1; have HC3 := Lib.hid y3
          have hgw : g < wi.heap.size := ((HO1.out.addr (by rw [mix_len]; omega)).elim fun _ h => by cases h.1; exact h.2.2.1)
          have hgw' : g' < wi.heap.size := ((HO2.out.addr (by rw [mix_len]; omega)).elim fun _ h => by cases h.1; exact h.2.2.1)
          clear y2 y4
          go_wp2
          go_region_held3 (fun w' => w'.cell? ⟨bb, off + k * 10 + 8, none⟩ = some (.bool false) ∧ w'.cell? ⟨g, k * 8 + 3, none⟩ = some (.slice a3 x.ats.length cap3) ∧ w'.cell? ⟨g', k * 8 + 3, none⟩ = some (.slice a4 x.ats.length cap4)) (first | go_keep | exact ⟨by assumption, by assumption, by assumption⟩)
            (first
              | (go_at_call 19; refine (sameAts _ _ x.ats _ (by first | exact HY2.out.ext okA (ext_drew _) | exact HY2.out) (by first | exact HY4.out.ext okA (ext_drew _) | exact HY4.out) (by omega)).mono ?_; rintro e w4 ⟨rfl, hb4⟩; have HB4 : Hid (Ext wi w4) := Lib.hid (by first | exact (ext_drew _).trans hb4 | exact hb4); have z8 := (ext_cell HB4.out hbx).trans c8; have z1 := (ext_cell HB4.out hgw).trans HC1.out; have z3 := (ext_cell HB4.out hgw').trans HC3.out; clear hb4)
              | fail)
          have qd : ((x.ats.length : Int) != IntKind.i64.wrap (x.ats.length : Int)) = false := by rw [IntWalk.i64_in _ (by omega)]; exact bne_self_eq_false _
          clear y1 y3 HY2 HY4 HC1 HC3 z1 z3 z8
          obtain ⟨va, vo, u3, y1, y2, y3, y4, y5, y6, y7, y8, y9⟩ := step2 (HO1.out.ext okT HB4.out) (HO2.out.ext okT HB4.out) (by rw [mix_len]; exact hlt) (by rw [mix_len]; exact hlt) HNE.out
          rw [HM1.out] at y2 y8
          rw [HM2.out] at y4 y9
          rw [HS1.out] at y8
          rw [HS2.out] at y9
          have HN1 := Lib.hid y8; have HN2 := Lib.hid y9
          clear y2 y4 y8 y9
          go_wp2
          have HE3 : Hid (Ext w ((w4.setCell ⟨g, k * 8 + 3, none⟩ (.slice none 0 0)).setCell ⟨g', k * 8 + 3, none⟩ (.slice none 0 0))) := Lib.hid (Below.setCell (p := ⟨g', k * 8 + 3, none⟩) (Below.setCell (p := ⟨g, k * 8 + 3, none⟩) (HE.out.trans HB4.out) HG1.out _) HG2.out _)
          go_roundw
          case rel => exact ⟨_, k + 1, rfl, by omega, by go_num, HN1.out, HN2.out, HE3.out⟩
          case measure => first | (simp [intOf]; done) | (simp [intOf]; omega)
set_option maxRecDepth 100000 in
theorem contract (H : Type) (enc : TypeId × Value → H) (W : World) (base : Nat) (args : Array Value) (ds gs : List (DataW H)) (before : List MemPlace)
    (hval : ∀ (j : Nat) t v, Tryz.f4.params[j]? = some t → args[j]? = some v → Value.okWide Tryz.prog W .any base t v)
    (hW : DataW.Whole enc Tryz.prog Tryz.f4.params.toList Rows.bsdPlainSpec.vars false W args.toList ds gs before) (hL : laidMetH Tryz.prog Rows.bsdPlainRow.laid W) :
    Calls Tryz.prog 4 args W fun e W' => ∃ v, e = .returned v ∧ Rows.bsdPlainSpec.post enc Tryz.prog Tryz.f4 false true false false W args v W' := by
  have hW' := hW
  obtain ⟨p, q, hA0, hV, rfl, hfz, hnd⟩ := hW
  have hA : DataW.TrodAll enc Tryz.prog W 0 (fun _ => true) true Tryz.f4.params.toList args.toList ds p := hA0
  rw [Tryz.params4] at hA hval
  obtain ⟨v0, vs0, d0, ds0, p0, q0, hargs, rfl, rfl, h0, r0⟩ := trodAll_cons hA
  obtain ⟨rfl, rfl, rfl⟩ := trodAll_nil r0
  obtain rfl : args = #[v0] := by cases args; simp_all
  obtain ⟨x0, w0⟩ := open_nodes (hval 0 22 v0 rfl rfl) h0
  refine (walk v0 x0 W w0 (laid_of hL)).mono fun e W' ⟨he, hb⟩ => ?_
  subst he
  exact ⟨_, rfl, law_post hW' rfl rfl rfl (by intro t ht; rw [Tryz.params4] at ht; simp at ht; subst ht; exact ⟨by kernel_rfl, of_decide_eq_true (by kernel_rfl)⟩) hb⟩
theorem reads (os : Os) {H : Type} (enc : TypeId × Value → H) : ∃ places, DataW.whole enc Tryz.prog ((laidWorld os).forCall (fun _ _ => 0) ⟨#[], (#[.slice none 0 0] : Array Value), []⟩).memory Tryz.f4.params.toList Rows.bsdPlainSpec.vars false (#[.slice none 0 0] : Array Value).toList 8 = some ([.nil], [], places) :=
  ⟨[], by kernel_rfl⟩
set_option maxRecDepth 100000 in
theorem lifted (os : Os) (started : os.Started) (H : Type) (enc : TypeId × Value → H) (F : Stop.Interp) :
    ReturnsInHanded {} Tryz.checked os 4 .any ((OpenSpec.ofChange Rows.bsdPlainSpec).preRow enc Tryz.prog Tryz.f4 Rows.bsdPlainRow.domain false Rows.bsdPlainRow.laid) (((OpenSpec.ofChange Rows.bsdPlainSpec).at F).post enc Tryz.prog Tryz.f4 false true false false) := by
  obtain ⟨places, hx⟩ := reads os enc
  refine returnsInHanded_of_row (C := Tryz.checked) (s := OpenSpec.ofChange Rows.bsdPlainSpec) own started (by kernel_rfl) Tryz.func4
    (witness_row_atRef (enc := enc) (C := Tryz.checked) false (laidWorld os) (#[.slice none 0 0] : Array Value) rfl (by kernel_rfl) (by kernel_rfl) (by kernel_rfl)
      (OpenSpec.preRow_of_cond 8 hx (by kernel_rfl) (fun k hk => by cases hk) (by kernel_rfl) (laid_met os _))) ?_
  intro W base args ds gs before hval hW _ _ _ hL _ _
  exact contract H enc W base args ds gs before hval hW hL
theorem said : Rows.BsdPlainSaid :=
  OpenClaim.holds_of_cond 4 Tryz.f4 rfl rfl rfl rfl rfl rfl rfl ⟨rfl, rfl, rfl, rfl, rfl⟩ rfl rfl rfl rfl rfl (by kernel_rfl) Tryz.func4 (by kernel_rfl)
    (of_decide_eq_true (by kernel_rfl)) (by unfold Func.isWrapper; rw [if_neg (of_decide_eq_false (by kernel_rfl))]; exact ⟨rfl, rfl⟩)
    (fun os started H enc _ F => by rw [OpenClaim.pre_eq_preRow]; exact lifted os started H enc F)
theorem plain (f : FuncId) (fn : Func) (hf : Tryz.pinned.checked.prog.funcNamed Rows.bsdPlainRow.func = some f) (hfn : Tryz.pinned.checked.prog.funcs[f]? = some fn) :
    false = Tryz.pinned.checked.prog.looks [] ∧ ∀ (j : Nat) t, fn.params[j]? = some t → Tryz.pinned.checked.prog.wantsStandIn t = false := by
  obtain rfl : f = 4 := Option.some.inj ((show Tryz.prog.funcNamed Rows.bsdPlainRow.func = some 4 by kernel_rfl).symm.trans hf) |>.symm
  obtain rfl : fn = Tryz.f4 := (Option.some.inj (Tryz.func4.symm.trans hfn)).symm
  refine ⟨by kernel_rfl, fun j t ht => ?_⟩
  rw [Tryz.params4] at ht
  have hm := Array.mem_of_getElem? ht
  simp at hm
  subst hm
  exact (show Tryz.prog.wantsStandIn 22 = false by kernel_rfl)
theorem card : Rows.BsdPlainCardSaid :=
  Claim7.holds_tied_plain_at .later [] _ _ _ _ said (fun _ h => by cases h) (by kernel_rfl) (fun _ h => by cases h) bsdPlain_row_tie rfl ⟨rfl, rfl⟩ (by kernel_rfl) rfl plain (by kernel_rfl)
#print axioms card
end Go.Proofs.YtdnfjabkikgjfaaGreatDoor.lwBsdPlain
