/- Attributes: the reference's check of a list. -/
import Derived.Test.YtnemfapegbehlaaDoorAttrC
namespace Go.Proofs.YtnemfapegbehlaaDoor
open Go.RowKit

theorem ext_drewN (w : World) (n : Nat) : Ext w (w.drewN n) := by
  induction n with
  | zero => exact Below.refl _ _
  | succ n ih => exact Below.drew ih

set_option maxRecDepth 100000 in
theorem refSize (v : Value) (l : List Attr) (w : World) (hv : AttrsAt w v l) (hl : l.length ≤ 10) (hm : ∀ a ∈ l, a.1.size ≤ 1000000 ∧ a.2.size ≤ 1000000) :
    RetB Tryd.prog 73 #[v] w (.int .i64 (sizeA l)) := by
  unfold RetB
  have hmax := sizeA_le l 1000000 hm
  have hmax : sizeA l ≤ 30000000 := Nat.le_trans hmax (Nat.le_trans (Nat.mul_le_mul hl (Nat.le_refl _)) (by decide))
  have HM := Lib.hid hm; clear hm
  obtain ⟨a, cap, rfl, hcap, hc⟩ := hv
  have HC := Lib.hid hc; clear hc
  go_enter Tryd.func73, Tryd.ntmps73
  go_wp2
  go_loopw [3, 4] (fun n i w' => ∃ (wr : World) (k : Nat), wr = w' ∧ k ≤ l.length ∧ i = .int .i64 k ∧ n = .int .i64 (sizeA (l.take k)) ∧ Below w.heap.size w w') (fun _ i _ => l.length - (intOf i).toNat)
  case atStart => exact ⟨_, 0, rfl, Nat.zero_le _, rfl, rfl, Below.refl _ _⟩
  case round =>
    obtain ⟨wr, k, rfl, hk, rfl, rfl, hb⟩ := hrel
    by_cases hlt : k < l.length
    · obtain ⟨bb, off, rfl, hbs, c1, c2⟩ := HC.out k hlt
      obtain ⟨m1, m2⟩ := HM.out _ (List.getElem_mem hlt)
      have HS := Lib.hid (sizeA_take l k hlt)
      replace c1 := (ext_cell hb hbs).trans c1
      replace c2 := (ext_cell hb hbs).trans c2
      generalize l[k]'hlt = x at c1 c2 m1 m2 HS
      have hle : sizeA (l.take k) ≤ 30000000 := by
        have := sizeA_append (l.take k) (l.drop k); rw [List.take_append_drop] at this; omega
      clear HC HM hmax
      have HB := Lib.hid hb; clear hb
      generalize sizeA (l.take k) = n at HS hle
      have e1 : IntKind.i64.wrap ((n : Int) + 2) = (n : Int) + 2 := IntWalk.i64_in _ (by omega)
      have e2 : IntKind.i64.wrap ((n : Int) + 2 + (x.1.size : Int)) = (n : Int) + 2 + (x.1.size : Int) := IntWalk.i64_in _ (by omega)
      have e3 : IntKind.i64.wrap ((n : Int) + 2 + (x.1.size : Int) + (x.2.size : Int)) = (n : Int) + 2 + (x.1.size : Int) + (x.2.size : Int) := IntWalk.i64_in _ (by omega)
      go_wp2
      go_quiet (fail)
      go_wp2
      go_roundw
      case rel => exact ⟨_, k + 1, rfl, by omega, by go_num, by rw [HS.out]; exact congrArg _ (by omega), Ext.trans HB.out (ext_drewN _ _)⟩
      case measure => simp [intOf]; omega
    · have HN : Hid (sizeA (l.take k) = sizeA l) := by rw [List.take_of_length_le (by omega)]; exact rfl
      have HB := Lib.hid hb; clear hb
      go_wp2
      go_ret
      exact ⟨by rw [← HN.out]; rfl, HB.out⟩

theorem refFull (v : Value) (l : List Attr) (w : World) (hv : AttrsAt w v l) (hm : ∀ a ∈ l, a.1.size ≤ 1000000 ∧ a.2.size ≤ 1000000) :
    RetB Tryd.prog 59 #[v] w (.bool (decide (6 < l.length) || decide (288 < sizeA l))) := by
  unfold RetB
  have HV := Lib.hid hv
  have HM := Lib.hid hm; clear hm
  obtain ⟨a, cap, rfl, hcap, hc⟩ := hv
  clear hc
  by_cases hl : 6 < l.length
  · go_enter Tryd.func59, Tryd.ntmps59
    go_wp2
    go_ret
    exact ⟨by simp, Below.refl _ _⟩
  by_cases h : 288 < sizeA l
  · go_enter Tryd.func59, Tryd.ntmps59
    go_wp2_with (go_at_call 73; refine (refSize _ l _ HV.out (by omega) HM.out).mono ?_; rintro e w' ⟨rfl, hb⟩)
    go_ret
    exact ⟨by simp; rw [Bool.eq_iff_iff]; simp only [Bool.or_eq_true, decide_eq_true_eq]; omega, hb⟩
  · go_enter Tryd.func59, Tryd.ntmps59
    go_wp2_with (go_at_call 73; refine (refSize _ l _ HV.out (by omega) HM.out).mono ?_; rintro e w' ⟨rfl, hb⟩)
    go_ret
    exact ⟨by simp; rw [Bool.eq_iff_iff]; simp only [Bool.or_eq_true, decide_eq_true_eq]; omega, hb⟩

/-- No attribute up to here has the name of an earlier one. -/
def NoDupK (l : List Attr) (k m : Nat) : Prop := ∀ i j, Seen k m i j → nmA l j ≠ nmA l i
theorem NoDupK.start (l : List Attr) : NoDupK l 0 0 := fun i j h => by obtain ⟨_, h | h⟩ := h <;> omega
theorem NoDupK.up {l : List Attr} {k : Nat} (h : NoDupK l k k) : NoDupK l (k + 1) 0 := fun i j hs => h i j (by unfold Seen at hs ⊢; omega)
theorem NoDupK.step {l : List Attr} {k m : Nat} (h : NoDupK l k m) (hm : m < k) (d : nmA l m ≠ nmA l k) : NoDupK l k (m + 1) := fun i j hs => by
  rcases (seen_succ hm).1 hs with hs | ⟨rfl, rfl⟩
  · exact h i j hs
  · exact d
/-- The attributes up to here ascend. -/
def AscK (l : List Attr) (k : Nat) : Prop := ∀ i, i + 1 < k → ¬ nmA l (i + 1) < nmA l i
theorem not_lt_trans' {a b c : List UInt8} (h1 : ¬ b < a) (h2 : ¬ c < b) : ¬ c < a := by
  intro h
  rcases Std.lt_trichotomy a b with x | x | x
  · exact h2 (List.lt_trans h x)
  · subst x; exact h2 h
  · exact h1 x
theorem AscK.all {l : List Attr} {k : Nat} (h : AscK l k) : ∀ i j, j < i → i < k → ¬ nmA l i < nmA l j := by
  intro i
  induction i with
  | zero => intro j hj; omega
  | succ i ih =>
    intro j hj hi
    by_cases e : j = i
    · subst e; exact h j hi
    · exact not_lt_trans' (ih j (by omega) (by omega)) (h i hi)
theorem chk_ref {l : List Attr} (h : ¬ 6 < l.length) (h1 : firstE l = 0) (hd : NoDupK l l.length 0) : ∀ (s : Bool), (s = true → AscK l l.length) → (s = false → ∃ i, i + 1 < l.length ∧ nmA l (i + 1) < nmA l i) →
    chkE l = if s = true then (if 288 < sizeA l then 5 else 0) else 6 := by
  intro s hs hn
  cases s
  · obtain ⟨i, hi, hlt⟩ := hn rfl
    refine (chk_end (o := 6) h h1 ⟨hd, .inr ⟨rfl, i + 1, i, ⟨by omega, .inl hi⟩, hlt⟩⟩).trans ?_
    rw [if_neg (by decide), if_neg (by decide)]
  · refine (chk_end (o := 0) h h1 ⟨hd, .inl ⟨rfl, fun i j hsn => (hs rfl).all i j hsn.1 (by unfold Seen at hsn; omega)⟩⟩).trans ?_
    rw [if_pos rfl, if_pos rfl]

set_option maxRecDepth 100000 in
theorem refCheck (v : Value) (l : List Attr) (w : World) (hv : AttrsAt w v l) (hm : ∀ a ∈ l, a.1.size ≤ 1000000 ∧ a.2.size ≤ 1000000) :
    RetB Tryd.prog 31 #[v] w (.int .i64 (chkE l)) := by
  unfold RetB
  have HV := Lib.hid hv
  have HM := Lib.hid hm; clear hm
  obtain ⟨a, cap, rfl, hcap, hc⟩ := hv
  have HC := Lib.hid hc; clear hc
  by_cases hl : 6 < l.length
  · rw [chk_long hl]
    go_enter Tryd.func31, Tryd.ntmps31
    go_wp2
    go_ret
    exact ⟨rfl, Below.refl _ _⟩
  go_enter Tryd.func31, Tryd.ntmps31
  go_wp2
  go_loopw [3] (fun i w' => ∃ (wr : World) (k : Nat), wr = w' ∧ k ≤ l.length ∧ i = .int .i64 k ∧ firstE (l.take k) = 0 ∧ Below w.heap.size w w') (fun i _ => l.length - (intOf i).toNat)
  case atStart => exact ⟨_, 0, rfl, Nat.zero_le _, rfl, rfl, Below.refl _ _⟩
  case round =>
    obtain ⟨wr, k, rfl, hk, rfl, hf, hb⟩ := hrel
    have HF := Lib.hid hf; clear hf
    by_cases hlt : k < l.length
    · obtain ⟨bb, off, rfl, hbs, c1, c2⟩ := HC.out k hlt
      obtain ⟨m1, m2⟩ := HM.out _ (List.getElem_mem hlt)
      replace c1 := (ext_cell hb hbs).trans c1
      replace c2 := (ext_cell hb hbs).trans c2
      have HB := Lib.hid hb; clear hb
      by_cases ha : aloneE (l[k]'hlt) = 0
      · have HN := Lib.hid (firstE_step l k hlt HF.out ha)
        generalize l[k]'hlt = x at c1 c2 m1 m2 ha
        go_wp2_with (go_at_call 58; refine (refAlone x _ m1).mono ?_; rintro e w' ⟨rfl, hb2⟩; have HB2 := Lib.hid hb2; clear hb2)
        go_roundw
        case rel => exact ⟨_, k + 1, rfl, by omega, by go_num, HN.out, Ext.trans HB.out HB2.out⟩
        case measure => simp [intOf]; omega
      · have HN := Lib.hid ((chk_first hl (by rw [firstE_hit l k hlt HF.out ha]; exact ha)).trans (firstE_hit l k hlt HF.out ha))
        have ha1 : (aloneE (l[k]'hlt) != 0) = true := bne_iff_ne.2 ha
        clear ha
        generalize l[k]'hlt = x at c1 c2 m1 m2 ha1 HN
        go_wp2_with (go_at_call 58; refine (refAlone x _ m1).mono ?_; rintro e w' ⟨rfl, hb2⟩; have HB2 := Lib.hid hb2; clear hb2)
        go_ret
        exact ⟨by rw [HN.out]; rfl, Ext.trans HB.out HB2.out⟩
    · have hf := HF.out
      rw [List.take_of_length_le (by omega)] at hf
      have HF1 := Lib.hid hf; clear hf HF
      have HB := Lib.hid hb; clear hb
      go_wp2
      go_loopw [5] (fun i w' => ∃ (wq : World) (k : Nat), wq = w' ∧ k ≤ l.length ∧ i = .int .i64 k ∧ NoDupK l k 0 ∧ Below w.heap.size w w') (fun i _ => l.length - (intOf i).toNat)
      case atStart => exact ⟨_, 0, rfl, Nat.zero_le _, rfl, NoDupK.start l, HB.out⟩
      case round =>
        obtain ⟨wq, k, rfl, hk, rfl, hord, hb⟩ := hrel
        have HO := Lib.hid hord; clear hord
        by_cases hlt : k < l.length
        · obtain ⟨bb, off, rfl, hbs, c1, c2⟩ := HC.out k hlt
          have hnm := nmA_at l k hlt
          have HX := Lib.hid hnm; clear hnm
          have HB1 := Lib.hid hb; clear hb
          go_wp2
          go_loopw [6] (fun i w' => ∃ (wi : World) (m : Nat), wi = w' ∧ m ≤ k ∧ i = .int .i64 m ∧ NoDupK l k m ∧ Below w.heap.size w w') (fun i _ => k - (intOf i).toNat)
          case atStart => exact ⟨_, 0, rfl, Nat.zero_le _, rfl, HO.out, HB1.out⟩
          case round =>
            obtain ⟨wi, m, rfl, hm, rfl, hord, hb⟩ := hrel
            have HO2 := Lib.hid hord; clear hord
            by_cases hmk : m < k
            · obtain ⟨b3, off3, he3, hbs3, d1, d2⟩ := HC.out m (by omega)
              obtain ⟨rfl, rfl⟩ : bb = b3 ∧ off = off3 := by simpa using he3
              clear he3
              replace c1 := (ext_cell hb hbs).trans c1
              replace d1 := (ext_cell hb hbs3).trans d1
              clear c2 d2
              have hnm := nmA_at l m (by omega)
              have HY := Lib.hid hnm; clear hnm
              generalize l[m]'(by omega) = y at d1 HY
              generalize l[k]'hlt = x at c1 HX
              have HB2 := Lib.hid hb; clear hb
              have j1 : ((m : Nat) : Int) < (l.length : Int) := by omega
              have j2 : ((k : Nat) : Int) < (l.length : Int) := by omega
              cases he : y.1.toList == x.1.toList
              · have HN := Lib.hid (HO2.out.step hmk (by rw [HX.out, HY.out]; rw [toList_L, toList_L] at he; exact beq_eq_false_iff_ne.1 he))
                go_wp2
                go_quiet (fail)
                go_wp2
                go_roundw
                case rel => exact ⟨_, m + 1, rfl, by omega, by go_num, HN.out, Ext.trans HB2.out (ext_drewN _ _)⟩
                case measure => simp [intOf]; omega
              · have HN := Lib.hid (chk_dup hl HF1.out hmk hlt (by rw [HX.out, HY.out]; rw [toList_L, toList_L] at he; exact beq_iff_eq.1 he))
                go_wp2
                go_quiet (fail)
                go_wp2
                go_ret
                exact ⟨by rw [HN.out]; rfl, Ext.trans HB2.out (ext_drewN _ _)⟩
            · obtain rfl : m = k := by omega
              have HB2 := Lib.hid hb; clear hb
              go_wp2
              go_roundw
              case rel => exact ⟨_, m + 1, rfl, by omega, by go_num, HO2.out.up, HB2.out⟩
              case measure => simp [intOf]; omega
        · obtain rfl : k = l.length := by omega
          have HB1 := Lib.hid hb; clear hb
          go_wp2
          go_loopw [7] (fun i w' => ∃ (wi : World) (m : Nat), wi = w' ∧ 1 ≤ m ∧ (m ≤ l.length ∨ m = 1) ∧ i = .int .i64 m ∧ AscK l m ∧ Below w.heap.size w w') (fun i _ => l.length - (intOf i).toNat)
          case atStart => exact ⟨_, 1, rfl, Nat.le_refl _, .inr rfl, rfl, fun i hi => by omega, HB1.out⟩
          case round =>
            obtain ⟨wi, m, rfl, hm1, hm2, rfl, hasc, hb⟩ := hrel
            have HA := Lib.hid hasc; clear hasc
            by_cases hmk : m < l.length
            · obtain ⟨m, rfl⟩ : ∃ q, m = q + 1 := ⟨m - 1, by omega⟩
              obtain ⟨bb, off, rfl, hbs, c1, c2⟩ := HC.out (m + 1) hmk
              obtain ⟨b3, off3, he3, hbs3, d1, d2⟩ := HC.out m (by omega)
              obtain ⟨rfl, rfl⟩ : bb = b3 ∧ off = off3 := by simpa using he3
              clear he3
              replace c1 := (ext_cell hb hbs).trans c1
              replace d1 := (ext_cell hb hbs3).trans d1
              clear c2 d2
              have hnm := nmA_at l m (by omega)
              have HY := Lib.hid hnm; clear hnm
              have hnm := nmA_at l (m + 1) hmk
              have HX := Lib.hid hnm; clear hnm
              generalize l[m]'(by omega) = y at d1 HY
              generalize l[m + 1]'hmk = x at c1 HX
              have HB2 := Lib.hid hb; clear hb
              have e1 : IntKind.i64.wrap ((m : Int) + 1 - 1) = (m : Int) := by rw [show (m : Int) + 1 - 1 = m by omega]; exact IntWalk.i64_in _ (by omega)
              have e2 : IntKind.i64.wrap (m : Int) = (m : Int) := IntWalk.i64_in _ (by omega)
              have j1 : ((m : Nat) : Int) + 1 < (l.length : Int) := by omega
              have j2 : ((m : Nat) : Int) < (l.length : Int) := by omega
              by_cases he : L x.1 < L y.1
              · have hbl := bl_true he
                have HN := Lib.hid (chk_ref hl HF1.out HO.out false (fun h => by cases h) (fun _ => ⟨m, hmk, by rw [HX.out, HY.out]; exact he⟩))
                clear he
                go_wp2
                go_quiet (fail)
                go_wp2
                go_ret
                exact ⟨by rw [HN.out]; rfl, Ext.trans HB2.out (ext_drewN _ _)⟩
              · have hbl := bl_false he
                have HN : Hid (AscK l (m + 1 + 1)) := by
                  intro i hi
                  by_cases e : i = m
                  · subst e; rw [HX.out, HY.out]; exact he
                  · exact HA.out i (by omega)
                clear he
                go_wp2
                go_quiet (fail)
                go_wp2
                go_roundw
                case rel => exact ⟨_, m + 1 + 1, rfl, by omega, .inl (by omega), by go_num, HN.out, Ext.trans HB2.out (ext_drewN _ _)⟩
                case measure => simp [intOf]; omega
            · have hA : AscK l l.length := fun i hi => by
                rcases hm2 with h | h
                · exact HA.out i (by omega)
                · omega
              have HN := Lib.hid (chk_ref hl HF1.out HO.out true (fun _ => hA) (fun h => by cases h))
              clear hA
              have HB2 := Lib.hid hb
              by_cases hz : 288 < sizeA l
              · have HN2 := Lib.hid (HN.out.trans ((if_pos rfl).trans (if_pos hz)))
                have HFull := Lib.hid (refFull (.slice a l.length cap) l wi (HV.out.ext hb) HM.out)
                have hd : (decide (6 < l.length) || decide (288 < sizeA l)) = true := by simp [hz]
                rw [hd] at HFull
                clear hb HN hd
                go_wp2_with (go_at_call 59; refine HFull.out.mono ?_; rintro e w' ⟨rfl, hb2⟩)
                go_ret
                exact ⟨by rw [HN2.out]; rfl, Ext.trans HB2.out hb2⟩
              · have HN2 := Lib.hid (HN.out.trans ((if_pos rfl).trans (if_neg hz)))
                have HFull := Lib.hid (refFull (.slice a l.length cap) l wi (HV.out.ext hb) HM.out)
                have hd : (decide (6 < l.length) || decide (288 < sizeA l)) = false := by simp [hz, hl]
                rw [hd] at HFull
                clear hb HN hd
                go_wp2_with (go_at_call 59; refine HFull.out.mono ?_; rintro e w' ⟨rfl, hb2⟩)
                go_ret
                exact ⟨by rw [HN2.out]; rfl, Ext.trans HB2.out hb2⟩
end Go.Proofs.YtnemfapegbehlaaDoor
