/- AttrC AttrR -/
import Derived.Test.YtimpejaaeinplaaGreatDoorQI0
import Derived.Test.YtimpejaaeinplaaGreatDoorQAttrA
namespace Go.Proofs.YtimpejaaeinplaaGreatDoor
open Go.RowKit

theorem attrsFit (v : Value) (l : List Attr) (w : World) (hv : AttrsAt w v l) (hl : l.length <= 6) (hm : ∀ a ∈ l, a.1.size <= 1000000 /\ a.2.size <= 1000000) :
    RetB Tryz.prog 171 #[v] w (.tuple (if 288 < sizeA l then #[.slice none 0 0, .int .i64 5] else #[v, .int .i64 0])) := by
  unfold RetB
  have HV := hQq hv
  have HM := hQq hm; clear hm
  obtain ⟨a, cap, rfl, hcap, hc⟩ := hv
  clear hc
  by_cases h : 288 < sizeA l
  · rw [if_pos h]
    go_enter Tryz.func171, Tryz.ntmps171
    go_wp2_with (go_at_call 210; refine (attrsBytes _ l _ HV.out (by omega) HM.out).mono ?_; rintro e w' ⟨⟨a2, cap2, rfl⟩, hb⟩)
    go_ret2
    exact ⟨rfl, hb⟩
  · rw [if_neg h]
    go_enter Tryz.func171, Tryz.ntmps171
    go_wp2_with (go_at_call 210; refine (attrsBytes _ l _ HV.out (by omega) HM.out).mono ?_; rintro e w' ⟨⟨a2, cap2, rfl⟩, hb⟩)
    go_ret2
    exact ⟨rfl, hb⟩

set_option maxRecDepth 100000 in
theorem attrsCheck (v : Value) (l : List Attr) (w : World) (hv : AttrsAt w v l) (hm : ∀ a ∈ l, a.1.size <= 1000000 /\ a.2.size <= 1000000) :
    RetB Tryz.prog 137 #[v] w (.int .i64 (chkE l)) := by
  unfold RetB
  have HV := hQq hv
  have HM := hQq hm; clear hm
  obtain ⟨a, cap, rfl, hcap, hc⟩ := hv
  have HC := hQq hc; clear hc
  by_cases hl : 6 < l.length
  · rw [chk_long hl]
    go_enter Tryz.func137, Tryz.ntmps137
    go_wp2
    go_ret
    exact ⟨rfl, Below.refl _ _⟩
  go_enter Tryz.func137, Tryz.ntmps137
  go_wp2
  go_loopw [16] (fun i w' => ∃ k : Nat, k <= l.length /\ i = .int .i64 k /\ firstE (l.take k) = 0 /\ Below w.heap.size w w') (fun i _ => l.length - (intOf i).toNat)
  case atStart => exact ⟨0, Nat.zero_le _, rfl, rfl, Below.refl _ _⟩
  case round =>
    rename_i wr
    obtain ⟨k, hk, rfl, hf, hb⟩ := hrel
    have HF := hQq hf; clear hf
    by_cases hlt : k < l.length
    · obtain ⟨bb, off, rfl, hbs, c1, c2⟩ := HC.out k hlt
      obtain ⟨m1, m2⟩ := HM.out _ (List.getElem_mem hlt)
      replace c1 := (ext_cell hb hbs).trans c1
      replace c2 := (ext_cell hb hbs).trans c2
      have HB := hQq hb; clear hb
      by_cases ha : aloneE (l[k]'hlt) = 0
      · have HN := hQq (firstE_step l k hlt HF.out ha)
        generalize l[k]'hlt = x at c1 c2 m1 m2 ha
        go_wp2_with (go_at_call 170; refine (attrsAlone x _ m1).mono ?_; rintro e w' ⟨rfl, hb2⟩; have HB2 := hQq hb2; clear hb2)
        go_roundw
        case rel => exact ⟨k + 1, by omega, by go_num, HN.out, Ext.trans HB.out (Ext.trans (eA _ _) HB2.out)⟩
        case measure => simp [intOf]; omega
      · have HN := hQq ((chk_first hl (by rw [firstE_hit l k hlt HF.out ha]; exact ha)).trans (firstE_hit l k hlt HF.out ha))
        have ha1 : (aloneE (l[k]'hlt) != 0) = true := bne_iff_ne.2 ha
        clear ha
        generalize l[k]'hlt = x at c1 c2 m1 m2 ha1 HN
        go_wp2_with (go_at_call 170; refine (attrsAlone x _ m1).mono ?_; rintro e w' ⟨rfl, hb2⟩; have HB2 := hQq hb2; clear hb2)
        go_ret
        exact ⟨by rw [HN.out]; rfl, Ext.trans HB.out (Ext.trans (eA _ _) HB2.out)⟩
    · have hf := HF.out
      rw [List.take_of_length_le (by omega)] at hf
      have HF1 := hQq hf; clear hf HF
      have HB := hQq hb; clear hb
      go_wp2
      go_loopw [6, 28] (fun s i w' => ∃ (wq : World) (k : Nat) (o : Int), wq = w' /\ k <= l.length /\ s = .int .i64 o /\ i = .int .i64 k /\ OrdSt l k 0 o /\ Below w.heap.size w w') (fun _ i _ => l.length - (intOf i).toNat)
      case atStart => exact ⟨_, 0, 0, rfl, Nat.zero_le _, rfl, rfl, OrdSt.start l, HB.out⟩
      case round =>
        obtain ⟨wq, k, o, rfl, hk, rfl, rfl, hord, hb⟩ := hrel
        have HO := hQq hord; clear hord
        by_cases hlt : k < l.length
        · obtain ⟨bb, off, rfl, hbs, c1, c2⟩ := HC.out k hlt
          replace c1 := (ext_cell hb hbs).trans c1
          replace c2 := (ext_cell hb hbs).trans c2
          have HB1 := hQq hb; clear hb
          have hnm := nmA_at l k hlt
          generalize l[k]'hlt = x at c1 c2 hnm
          have HX := hQq hnm; clear hnm
          go_wp2
          go_loopw [6, 37] (fun s i w' => ∃ (wi : World) (m : Nat) (o : Int), wi = w' /\ m <= k /\ s = .int .i64 o /\ i = .int .i64 m /\ OrdSt l k m o /\ Ext (wq.alloc (.cells #[.string x.1, .string x.2] 45)) w') (fun _ i _ => k - (intOf i).toNat)
          case atStart => exact ⟨_, 0, o, rfl, Nat.zero_le _, rfl, rfl, HO.out, Below.refl _ _⟩
          case round =>
            clear c1 c2
            obtain ⟨wi, m, o2, rfl, hm, rfl, rfl, hord, hb⟩ := hrel
            have HO2 := hQq hord; clear hord
            have hbw : Below w.heap.size w wi := Ext.trans HB1.out (Ext.trans (eA _ _) hb)
            have x1 : wi.cell? ⟨wq.heap.size, 0, none⟩ = some (.string x.1) := bC (bX hb (bN wq _)) 0
            have x2 : wi.cell? ⟨wq.heap.size, 1, none⟩ = some (.string x.2) := bC (bX hb (bN wq _)) 1
            have hxl : wq.heap.size < wi.heap.size := blk_lt (bX hb (bN wq _))
            have HB2 := hQq hb; clear hb
            by_cases hmk : m < k
            · obtain ⟨b3, off3, he3, hbs3, c1, c2⟩ := HC.out m (by omega)
              obtain ⟨rfl, rfl⟩ : bb = b3 /\ off = off3 := by simpa using he3
              clear he3
              replace c1 := (ext_cell hbw hbs3).trans c1
              replace c2 := (ext_cell hbw hbs3).trans c2
              have hnm := nmA_at l m (by omega)
              generalize l[m]'(by omega) = y at c1 c2 hnm
              have HY := hQq hnm; clear hnm
              have HW := hQq hbw; clear hbw
              by_cases hc0 : cmpS (L y.1) (L x.1) = 0
              · have HN := hQq (chk_dup hl HF1.out hmk hlt (by rw [HX.out, HY.out]; exact cmpS_zero.1 hc0))
                go_wp2_with (go_at_call 183; refine (cmpCompare _ _ _).mono ?_; rintro e w' ⟨rfl, rfl⟩)
                go_ret
                exact ⟨by rw [HN.out]; rfl, Ext.trans HW.out (eA _ _)⟩
              by_cases hc1 : cmpS (L y.1) (L x.1) = 1
              · have HN := hQq (HO2.out.gt hmk (by rw [HX.out, HY.out]; exact hc1))
                clear hc0
                go_wp2_with (go_at_call 183; refine (cmpCompare _ _ _).mono ?_; rintro e w' ⟨rfl, rfl⟩)
                go_roundw
                case rel => exact ⟨_, m + 1, 6, rfl, by omega, rfl, by go_num, HN.out, Ext.trans HB2.out (eA _ _)⟩
                case measure => simp [intOf]; omega
              · have HN := hQq (HO2.out.lt hmk (by rw [HX.out, HY.out]; exact hc0) (by rw [HX.out, HY.out]; exact hc1))
                have e0 : (cmpS (L y.1) (L x.1) == 0) = false := beq_eq_false_iff_ne.2 hc0
                have e1 : (cmpS (L y.1) (L x.1) == 1) = false := beq_eq_false_iff_ne.2 hc1
                clear hc0 hc1
                go_wp2_with (go_at_call 183; refine (cmpCompare _ _ _).mono ?_; rintro e w' ⟨rfl, rfl⟩)
                go_roundw
                case rel => exact ⟨_, m + 1, o2, rfl, by omega, rfl, by go_num, HN.out, Ext.trans HB2.out (eA _ _)⟩
                case measure => simp [intOf]; omega
            · obtain rfl : m = k := by omega
              have HW := hQq hbw; clear hbw
              go_wp2
              go_roundw
              case rel => exact ⟨_, m + 1, o2, rfl, by omega, rfl, by go_num, HO2.out.up, HW.out⟩
              case measure => simp [intOf]; omega
        · obtain rfl : k = l.length := by omega
          have HN := hQq (chk_end hl HF1.out HO.out)
          have HB1 := hQq hb
          by_cases ho : o = 0
          · subst ho
            by_cases hz : 288 < sizeA l
            · have HN2 := hQq (HN.out.trans ((if_pos rfl).trans (if_pos hz)))
              have HFit := hQq (attrsFit (.slice a l.length cap) l wq (HV.out.ext HB1.out) (by omega) HM.out)
              clear hb HN
              go_wp2_with (go_at_call 171; have hfit := HFit.out; rw [if_pos hz] at hfit; refine hfit.mono ?_; clear hfit; rintro e w' ⟨rfl, hb2⟩)
              go_ret
              exact ⟨by rw [HN2.out]; rfl, Ext.trans HB1.out hb2⟩
            · have HN2 := hQq (HN.out.trans ((if_pos rfl).trans (if_neg hz)))
              have HFit := hQq (attrsFit (.slice a l.length cap) l wq (HV.out.ext HB1.out) (by omega) HM.out)
              clear hb HN
              go_wp2_with (go_at_call 171; have hfit := HFit.out; rw [if_neg hz] at hfit; refine hfit.mono ?_; clear hfit; rintro e w' ⟨rfl, hb2⟩)
              go_ret
              exact ⟨by rw [HN2.out]; rfl, Ext.trans HB1.out hb2⟩
          · have ho6 : o = 6 := by rcases HO.out.2 with ⟨x, _⟩ | ⟨x, _⟩; exact absurd x ho; exact x
            subst ho6
            have HN2 := hQq (HN.out.trans (if_neg ho))
            clear hb HN
            go_wp2
            go_ret
            exact ⟨by rw [HN2.out]; rfl, HB1.out⟩
end Go.Proofs.YtimpejaaeinplaaGreatDoor
namespace Go.Proofs.YtimpejaaeinplaaGreatDoor
open Go.RowKit

set_option maxRecDepth 100000 in
theorem refSize (v : Value) (l : List Attr) (w : World) (hv : AttrsAt w v l) (hl : l.length <= 10) (hm : ∀ a ∈ l, a.1.size <= 1000000 /\ a.2.size <= 1000000) :
    RetB Tryz.prog 182 #[v] w (.int .i64 (sizeA l)) := by
  unfold RetB
  have hmax := sizeA_le l 1000000 hm
  have hmax : sizeA l <= 30000000 := Nat.le_trans hmax (Nat.le_trans (Nat.mul_le_mul hl (Nat.le_refl _)) (by decide))
  have HM := hQq hm; clear hm
  obtain ⟨a, cap, rfl, hcap, hc⟩ := hv
  have HC := hQq hc; clear hc
  go_enter Tryz.func182, Tryz.ntmps182
  go_wp2
  go_loopw [3, 4] (fun n i w' => ∃ (wr : World) (k : Nat), wr = w' /\ k <= l.length /\ i = .int .i64 k /\ n = .int .i64 (sizeA (l.take k)) /\ Below w.heap.size w w') (fun _ i _ => l.length - (intOf i).toNat)
  case atStart => exact ⟨_, 0, rfl, Nat.zero_le _, rfl, rfl, Below.refl _ _⟩
  case round =>
    obtain ⟨wr, k, rfl, hk, rfl, rfl, hb⟩ := hrel
    by_cases hlt : k < l.length
    · obtain ⟨bb, off, rfl, hbs, c1, c2⟩ := HC.out k hlt
      obtain ⟨m1, m2⟩ := HM.out _ (List.getElem_mem hlt)
      have HS := hQq (sizeA_take l k hlt)
      replace c1 := (ext_cell hb hbs).trans c1
      replace c2 := (ext_cell hb hbs).trans c2
      generalize l[k]'hlt = x at c1 c2 m1 m2 HS
      have hle : sizeA (l.take k) <= 30000000 := by
        have := sizeA_append (l.take k) (l.drop k); rw [List.take_append_drop] at this; omega
      clear HC HM hmax
      have HB := hQq hb; clear hb
      generalize sizeA (l.take k) = n at HS hle
      have e1 : IntKind.i64.wrap ((n : Int) + 2) = (n : Int) + 2 := IntWalk.i64_in _ (by omega)
      have e2 : IntKind.i64.wrap ((n : Int) + 2 + (x.1.size : Int)) = (n : Int) + 2 + (x.1.size : Int) := IntWalk.i64_in _ (by omega)
      have e3 : IntKind.i64.wrap ((n : Int) + 2 + (x.1.size : Int) + (x.2.size : Int)) = (n : Int) + 2 + (x.1.size : Int) + (x.2.size : Int) := IntWalk.i64_in _ (by omega)
      go_wp2
      go_quiet (fail)
      go_wp2
      go_roundw
      case rel => exact ⟨_, k + 1, rfl, by omega, by go_num, by rw [HS.out]; exact congrArg _ (by omega), Ext.trans HB.out (eDn _ _)⟩
      case measure => simp [intOf]; omega
    · have HN : Hid (sizeA (l.take k) = sizeA l) := by rw [List.take_of_length_le (by omega)]; exact rfl
      have HB := hQq hb; clear hb
      go_wp2
      go_ret
      exact ⟨by rw [<- HN.out]; rfl, HB.out⟩

theorem refFull (v : Value) (l : List Attr) (w : World) (hv : AttrsAt w v l) (hm : ∀ a ∈ l, a.1.size <= 1000000 /\ a.2.size <= 1000000) :
    RetB Tryz.prog 134 #[v] w (.bool (decide (6 < l.length) || decide (288 < sizeA l))) := by
  unfold RetB
  have HV := hQq hv
  have HM := hQq hm; clear hm
  obtain ⟨a, cap, rfl, hcap, hc⟩ := hv
  clear hc
  by_cases hl : 6 < l.length
  · go_enter Tryz.func134, Tryz.ntmps134
    go_wp2
    go_ret
    exact ⟨by simp, Below.refl _ _⟩
  by_cases h : 288 < sizeA l
  · go_enter Tryz.func134, Tryz.ntmps134
    go_wp2_with (go_at_call 182; refine (refSize _ l _ HV.out (by omega) HM.out).mono ?_; rintro e w' ⟨rfl, hb⟩)
    go_ret
    exact ⟨by simp; rw [Bool.eq_iff_iff]; simp only [Bool.or_eq_true, decide_eq_true_eq]; omega, hb⟩
  · go_enter Tryz.func134, Tryz.ntmps134
    go_wp2_with (go_at_call 182; refine (refSize _ l _ HV.out (by omega) HM.out).mono ?_; rintro e w' ⟨rfl, hb⟩)
    go_ret
    exact ⟨by simp; rw [Bool.eq_iff_iff]; simp only [Bool.or_eq_true, decide_eq_true_eq]; omega, hb⟩

set_option maxRecDepth 100000 in
theorem refCheck (v : Value) (l : List Attr) (w : World) (hv : AttrsAt w v l) (hm : ∀ a ∈ l, a.1.size <= 1000000 /\ a.2.size <= 1000000) :
    RetB Tryz.prog 71 #[v] w (.int .i64 (chkE l)) := by
  unfold RetB
  have HV := hQq hv
  have HM := hQq hm; clear hm
  obtain ⟨a, cap, rfl, hcap, hc⟩ := hv
  have HC := hQq hc; clear hc
  by_cases hl : 6 < l.length
  · rw [chk_long hl]
    go_enter Tryz.func71, Tryz.ntmps71
    go_wp2
    go_ret
    exact ⟨rfl, Below.refl _ _⟩
  go_enter Tryz.func71, Tryz.ntmps71
  go_wp2
  go_loopw [3] (fun i w' => ∃ (wr : World) (k : Nat), wr = w' /\ k <= l.length /\ i = .int .i64 k /\ firstE (l.take k) = 0 /\ Below w.heap.size w w') (fun i _ => l.length - (intOf i).toNat)
  case atStart => exact ⟨_, 0, rfl, Nat.zero_le _, rfl, rfl, Below.refl _ _⟩
  case round =>
    obtain ⟨wr, k, rfl, hk, rfl, hf, hb⟩ := hrel
    have HF := hQq hf; clear hf
    by_cases hlt : k < l.length
    · obtain ⟨bb, off, rfl, hbs, c1, c2⟩ := HC.out k hlt
      obtain ⟨m1, m2⟩ := HM.out _ (List.getElem_mem hlt)
      replace c1 := (ext_cell hb hbs).trans c1
      replace c2 := (ext_cell hb hbs).trans c2
      have HB := hQq hb; clear hb
      by_cases ha : aloneE (l[k]'hlt) = 0
      · have HN := hQq (firstE_step l k hlt HF.out ha)
        generalize l[k]'hlt = x at c1 c2 m1 m2 ha
        go_wp2_with (go_at_call 133; refine (refAlone x _ m1).mono ?_; rintro e w' ⟨rfl, hb2⟩; have HB2 := hQq hb2; clear hb2)
        go_roundw
        case rel => exact ⟨_, k + 1, rfl, by omega, by go_num, HN.out, Ext.trans HB.out HB2.out⟩
        case measure => simp [intOf]; omega
      · have HN := hQq ((chk_first hl (by rw [firstE_hit l k hlt HF.out ha]; exact ha)).trans (firstE_hit l k hlt HF.out ha))
        have ha1 : (aloneE (l[k]'hlt) != 0) = true := bne_iff_ne.2 ha
        clear ha
        generalize l[k]'hlt = x at c1 c2 m1 m2 ha1 HN
        go_wp2_with (go_at_call 133; refine (refAlone x _ m1).mono ?_; rintro e w' ⟨rfl, hb2⟩; have HB2 := hQq hb2; clear hb2)
        go_ret
        exact ⟨by rw [HN.out]; rfl, Ext.trans HB.out HB2.out⟩
    · have hf := HF.out
      rw [List.take_of_length_le (by omega)] at hf
      have HF1 := hQq hf; clear hf HF
      have HB := hQq hb; clear hb
      go_wp2
      go_loopw [5] (fun i w' => ∃ (wq : World) (k : Nat), wq = w' /\ k <= l.length /\ i = .int .i64 k /\ NoDupK l k 0 /\ Below w.heap.size w w') (fun i _ => l.length - (intOf i).toNat)
      case atStart => exact ⟨_, 0, rfl, Nat.zero_le _, rfl, NoDupK.start l, HB.out⟩
      case round =>
        obtain ⟨wq, k, rfl, hk, rfl, hord, hb⟩ := hrel
        have HO := hQq hord; clear hord
        by_cases hlt : k < l.length
        · obtain ⟨bb, off, rfl, hbs, c1, c2⟩ := HC.out k hlt
          have hnm := nmA_at l k hlt
          have HX := hQq hnm; clear hnm
          have HB1 := hQq hb; clear hb
          go_wp2
          go_loopw [6] (fun i w' => ∃ (wi : World) (m : Nat), wi = w' /\ m <= k /\ i = .int .i64 m /\ NoDupK l k m /\ Below w.heap.size w w') (fun i _ => k - (intOf i).toNat)
          case atStart => exact ⟨_, 0, rfl, Nat.zero_le _, rfl, HO.out, HB1.out⟩
          case round =>
            obtain ⟨wi, m, rfl, hm, rfl, hord, hb⟩ := hrel
            have HO2 := hQq hord; clear hord
            by_cases hmk : m < k
            · obtain ⟨b3, off3, he3, hbs3, d1, d2⟩ := HC.out m (by omega)
              obtain ⟨rfl, rfl⟩ : bb = b3 /\ off = off3 := by simpa using he3
              clear he3
              replace c1 := (ext_cell hb hbs).trans c1
              replace d1 := (ext_cell hb hbs3).trans d1
              clear c2 d2
              have hnm := nmA_at l m (by omega)
              have HY := hQq hnm; clear hnm
              generalize l[m]'(by omega) = y at d1 HY
              generalize l[k]'hlt = x at c1 HX
              have HB2 := hQq hb; clear hb
              have j1 : ((m : Nat) : Int) < (l.length : Int) := by omega
              have j2 : ((k : Nat) : Int) < (l.length : Int) := by omega
              cases he : y.1.toList == x.1.toList
              · have HN := hQq (HO2.out.step hmk (by rw [HX.out, HY.out]; rw [toList_L, toList_L] at he; exact beq_eq_false_iff_ne.1 he))
                go_wp2
                go_quiet (fail)
                go_wp2
                go_roundw
                case rel => exact ⟨_, m + 1, rfl, by omega, by go_num, HN.out, Ext.trans HB2.out (eDn _ _)⟩
                case measure => simp [intOf]; omega
              · have HN := hQq (chk_dup hl HF1.out hmk hlt (by rw [HX.out, HY.out]; rw [toList_L, toList_L] at he; exact beq_iff_eq.1 he))
                go_wp2
                go_quiet (fail)
                go_wp2
                go_ret
                exact ⟨by rw [HN.out]; rfl, Ext.trans HB2.out (eDn _ _)⟩
            · obtain rfl : m = k := by omega
              have HB2 := hQq hb; clear hb
              go_wp2
              go_roundw
              case rel => exact ⟨_, m + 1, rfl, by omega, by go_num, HO2.out.up, HB2.out⟩
              case measure => simp [intOf]; omega
        · obtain rfl : k = l.length := by omega
          have HB1 := hQq hb; clear hb
          go_wp2
          go_loopw [7] (fun i w' => ∃ (wi : World) (m : Nat), wi = w' /\ 1 <= m /\ (m <= l.length \/ m = 1) /\ i = .int .i64 m /\ AscK l m /\ Below w.heap.size w w') (fun i _ => l.length - (intOf i).toNat)
          case atStart => exact ⟨_, 1, rfl, Nat.le_refl _, .inr rfl, rfl, fun i hi => by omega, HB1.out⟩
          case round =>
            obtain ⟨wi, m, rfl, hm1, hm2, rfl, hasc, hb⟩ := hrel
            have HA := hQq hasc; clear hasc
            by_cases hmk : m < l.length
            · obtain ⟨m, rfl⟩ : ∃ q, m = q + 1 := ⟨m - 1, by omega⟩
              obtain ⟨bb, off, rfl, hbs, c1, c2⟩ := HC.out (m + 1) hmk
              obtain ⟨b3, off3, he3, hbs3, d1, d2⟩ := HC.out m (by omega)
              obtain ⟨rfl, rfl⟩ : bb = b3 /\ off = off3 := by simpa using he3
              clear he3
              replace c1 := (ext_cell hb hbs).trans c1
              replace d1 := (ext_cell hb hbs3).trans d1
              clear c2 d2
              have hnm := nmA_at l m (by omega)
              have HY := hQq hnm; clear hnm
              have hnm := nmA_at l (m + 1) hmk
              have HX := hQq hnm; clear hnm
              generalize l[m]'(by omega) = y at d1 HY
              generalize l[m + 1]'hmk = x at c1 HX
              have HB2 := hQq hb; clear hb
              have e1 : IntKind.i64.wrap ((m : Int) + 1 - 1) = (m : Int) := by rw [show (m : Int) + 1 - 1 = m by omega]; exact IntWalk.i64_in _ (by omega)
              have e2 : IntKind.i64.wrap (m : Int) = (m : Int) := IntWalk.i64_in _ (by omega)
              have j1 : ((m : Nat) : Int) + 1 < (l.length : Int) := by omega
              have j2 : ((m : Nat) : Int) < (l.length : Int) := by omega
              by_cases he : L x.1 < L y.1
              · have hbl := bl_true he
                have HN := hQq (chk_ref hl HF1.out HO.out false (fun h => by cases h) (fun _ => ⟨m, hmk, by rw [HX.out, HY.out]; exact he⟩))
                clear he
                go_wp2
                go_quiet (fail)
                go_wp2
                go_ret
                exact ⟨by rw [HN.out]; rfl, Ext.trans HB2.out (eDn _ _)⟩
              · have hbl := bl_false he
                have HN : Hid (AscK l (m + 1 + 1)) := by
                  intro i hi
                  by_cases e : i = m
                  · subst e; rw [HX.out, HY.out]; exact he
                  · exact HA.out i (by omega)
                clear he
                go_wp2
                go_quiet (fail)
                go_wp2
                go_roundw
                case rel => exact ⟨_, m + 1 + 1, rfl, by omega, .inl (by omega), by go_num, HN.out, Ext.trans HB2.out (eDn _ _)⟩
                case measure => simp [intOf]; omega
            · have hA : AscK l l.length := fun i hi => by
                rcases hm2 with h | h
                · exact HA.out i (by omega)
                · omega
              have HN := hQq (chk_ref hl HF1.out HO.out true (fun _ => hA) (fun h => by cases h))
              clear hA
              have HB2 := hQq hb
              by_cases hz : 288 < sizeA l
              · have HN2 := hQq (HN.out.trans ((if_pos rfl).trans (if_pos hz)))
                have HFull := hQq (refFull (.slice a l.length cap) l wi (HV.out.ext hb) HM.out)
                have hd : (decide (6 < l.length) || decide (288 < sizeA l)) = true := by simp [hz]
                rw [hd] at HFull
                clear hb HN hd
                go_wp2_with (go_at_call 134; refine HFull.out.mono ?_; rintro e w' ⟨rfl, hb2⟩)
                go_ret
                exact ⟨by rw [HN2.out]; rfl, Ext.trans HB2.out hb2⟩
              · have HN2 := hQq (HN.out.trans ((if_pos rfl).trans (if_neg hz)))
                have HFull := hQq (refFull (.slice a l.length cap) l wi (HV.out.ext hb) HM.out)
                have hd : (decide (6 < l.length) || decide (288 < sizeA l)) = false := by simp [hz, hl]
                rw [hd] at HFull
                clear hb HN hd
                go_wp2_with (go_at_call 134; refine HFull.out.mono ?_; rintro e w' ⟨rfl, hb2⟩)
                go_ret
                exact ⟨by rw [HN2.out]; rfl, Ext.trans HB2.out hb2⟩
end Go.Proofs.YtimpejaaeinplaaGreatDoor
