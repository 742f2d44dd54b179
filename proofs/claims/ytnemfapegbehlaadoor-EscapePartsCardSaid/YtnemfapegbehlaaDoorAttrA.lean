/- Attributes: the check of a name and of one attribute, in the program and in the reference. -/
import Derived.Test.YtnemfapegbehlaaDoorLaid
import Derived.Test.YtnemfapegbehlaaDoorEsc
namespace Go.Proofs.YtnemfapegbehlaaDoor
open Go.RowKit

def badK (c : Int) : Bool := decide (c < 33) || decide (126 < c)
def keyE (l : List UInt8) : Int := if l = [] ∨ l.any (pB badK) = true then 6 else if 40 < l.length then 3 else 0
theorem keyE_bad {l : List UInt8} (h : l.any (pB badK) = true) : keyE l = 6 := by unfold keyE; rw [if_pos (.inr h)]
theorem keyE_nil {l : List UInt8} (h : l = []) : keyE l = 6 := by unfold keyE; rw [if_pos (.inl h)]
theorem keyE_long {l : List UInt8} (h0 : l ≠ []) (h : l.any (pB badK) = false) (hl : 40 < l.length) : keyE l = 3 := by
  unfold keyE; rw [if_neg (by simp [h0, h]), if_pos hl]
theorem keyE_ok {l : List UInt8} (h0 : l ≠ []) (h : l.any (pB badK) = false) (hl : ¬ 40 < l.length) : keyE l = 0 := by
  unfold keyE; rw [if_neg (by simp [h0, h]), if_neg hl]

theorem attrsNameBad (c : Int) (w : World) : Ret Tryd.prog 85 #[.int .i32 c] w (.bool (badK c)) := by
  unfold Ret
  by_cases h1 : c < 33
  · go_enter Tryd.func85, Tryd.ntmps85
    go_wp2
    go_ret
    exact ⟨by simp [badK, h1], rfl⟩
  · have h3 : decide (126 < c) = badK c := by rw [Bool.eq_iff_iff]; simp [badK]; omega
    have h4 : decide (c < 33) = false := decide_eq_false h1
    rw [← h3]
    clear h3
    by_cases h2 : 126 < c
    · go_enter Tryd.func85, Tryd.ntmps85
      go_wp2
      go_ret
      exact ⟨by simp, rfl⟩
    · go_enter Tryd.func85, Tryd.ntmps85
      go_wp2
      go_ret
      exact ⟨by simp [h2], rfl⟩
theorem badKFn : PredFn 85 badK where
  enter := by intro a w; kernel_rfl
  ret := attrsNameBad
  high := by intro c h; simp [badK]; omega

theorem attrsName (s : ByteArray) (w : World) (hs : s.size ≤ 1000000) : RetB Tryd.prog 78 #[.string s] w (.int .i64 (keyE (L s))) := by
  unfold RetB
  by_cases h0 : L s = []
  · rw [keyE_nil h0]
    have h1 : s.toList.isEmpty = true := by rw [toList_L, h0]; rfl
    clear h0
    go_enter Tryd.func78, Tryd.ntmps78
    go_wp2
    go_ret
    exact ⟨rfl, Below.refl _ _⟩
  have h1 : s.toList.isEmpty = false := by rw [toList_L]; simpa using h0
  cases hb : (L s).any (pB badK)
  · by_cases hl : 40 < s.size
    · rw [keyE_long h0 hb (by rw [← size_L]; exact hl)]
      clear h0
      go_enter Tryd.func78, Tryd.ntmps78
      go_wp2_with (go_at_call 63; refine (strContainsFunc _ _ badKFn s w).mono ?_; rintro e w' ⟨rfl, hx⟩)
      go_ret
      exact ⟨rfl, hx⟩
    · rw [keyE_ok h0 hb (by rw [← size_L]; exact hl)]
      clear h0
      go_enter Tryd.func78, Tryd.ntmps78
      go_wp2_with (go_at_call 63; refine (strContainsFunc _ _ badKFn s w).mono ?_; rintro e w' ⟨rfl, hx⟩)
      go_ret
      exact ⟨rfl, hx⟩
  · rw [keyE_bad hb]
    clear h0
    go_enter Tryd.func78, Tryd.ntmps78
    go_wp2_with (go_at_call 63; refine (strContainsFunc _ _ badKFn s w).mono ?_; rintro e w' ⟨rfl, hx⟩)
    go_ret
    exact ⟨rfl, hx⟩

theorem badByteK (b : UInt8) : pB badK b = (decide ((b.toNat : Int) < 33) || decide (126 < (b.toNat : Int))) := rfl
theorem refKey (s : ByteArray) (w : World) (hs : s.size ≤ 1000000) : Ret Tryd.prog 72 #[.string s] w (.int .i64 (keyE (L s))) := by
  unfold Ret
  go_enter Tryd.func72, Tryd.ntmps72
  go_wp2
  go_loop [3] (fun i => ∃ k : Nat, k ≤ s.size ∧ i = .int .i64 k ∧ ((L s).take k).any (pB badK) = false) (fun i => s.size - (intOf i).toNat)
  case atStart => exact ⟨0, Nat.zero_le _, rfl, by simp⟩
  case round =>
    obtain ⟨k, hk, rfl, hb⟩ := hrel
    have HB := Lib.hid hb; clear hb
    by_cases hlt : k < s.size
    · cases hb : pB badK (s[k]'hlt)
      · have HN2 := Lib.hid (any_take_succ badK s k hlt HB.out hb); clear HB
        rw [badByteK] at hb
        simp only [Bool.or_eq_false_iff, decide_eq_false_iff_not] at hb
        obtain ⟨ha, hb⟩ := hb
        go_wp2
        go_round
        case rel => exact ⟨k + 1, by omega, by go_num, HN2.out⟩
        case measure => simp [intOf]; omega
      · have HN2 := Lib.hid (keyE_bad (List.any_eq_true.2 ⟨s[k]'hlt, by rw [getElem_L]; exact List.getElem_mem _, hb⟩))
        clear HB
        rw [badByteK] at hb
        simp only [Bool.or_eq_true, decide_eq_true_eq] at hb
        by_cases ha : (s[k].toNat : Int) < 33
        · clear hb
          go_wp2
          go_ret
          exact ⟨by rw [HN2.out]; rfl, rfl⟩
        · have hd : 126 < (s[k].toNat : Int) := by simpa [ha] using hb
          clear hb
          go_wp2
          go_ret
          exact ⟨by rw [HN2.out]; rfl, rfl⟩
    · have hb := HB.out
      rw [List.take_of_length_le (by rw [← size_L]; omega)] at hb
      by_cases h0 : L s = []
      · have HN2 := Lib.hid (keyE_nil h0)
        have h1 : s.toList.isEmpty = true := by rw [toList_L, h0]; rfl
        clear hb HB h0
        go_wp2
        go_ret
        exact ⟨by rw [HN2.out]; rfl, rfl⟩
      have h1 : s.toList.isEmpty = false := by rw [toList_L]; simpa using h0
      by_cases hl : 40 < s.size
      · have HN2 := Lib.hid (keyE_long h0 hb (by rw [← size_L]; exact hl))
        clear hb HB h0
        go_wp2
        go_ret
        exact ⟨by rw [HN2.out]; rfl, rfl⟩
      · have HN2 := Lib.hid (keyE_ok h0 hb (by rw [← size_L]; exact hl))
        clear hb HB h0
        go_wp2
        go_ret
        exact ⟨by rw [HN2.out]; rfl, rfl⟩

def attV (a : Attr) : Value := .agg #[.string a.1, .string a.2]
/-- The error of one attribute. -/
def aloneE (a : Attr) : Int := if keyE (L a.1) ≠ 0 then keyE (L a.1) else if 200 < a.2.size then 3 else 0
theorem attrsAlone (a : Attr) (w : World) (hs : a.1.size ≤ 1000000) : RetB Tryd.prog 67 #[.agg #[.string a.1, .string a.2]] w (.int .i64 (aloneE a)) := by
  unfold RetB
  by_cases h : keyE (L a.1) = 0
  · by_cases hl : 200 < a.2.size
    · rw [show aloneE a = 3 by unfold aloneE; rw [if_neg (by simpa using h), if_pos hl]]
      go_enter Tryd.func67, Tryd.ntmps67
      go_wp2_with (go_at_call 78; refine (attrsName _ _ hs).mono ?_; rintro e w' ⟨rfl, hb⟩; obtain ⟨hc, hf⟩ := bcell hb)
      go_ret
      exact ⟨rfl, (ext_alloc _ _).trans hb⟩
    · rw [show aloneE a = 0 by unfold aloneE; rw [if_neg (by simpa using h), if_neg hl]]
      go_enter Tryd.func67, Tryd.ntmps67
      go_wp2_with (go_at_call 78; refine (attrsName _ _ hs).mono ?_; rintro e w' ⟨rfl, hb⟩; obtain ⟨hc, hf⟩ := bcell hb)
      go_ret
      exact ⟨rfl, (ext_alloc _ _).trans hb⟩
  · rw [show aloneE a = keyE (L a.1) by unfold aloneE; rw [if_pos h]]
    have h1 : (keyE (L a.1) != 0) = true := bne_iff_ne.2 h
    clear h
    go_enter Tryd.func67, Tryd.ntmps67
    go_wp2_with (go_at_call 78; refine (attrsName _ _ hs).mono ?_; rintro e w' ⟨rfl, hb⟩; obtain ⟨hc, hf⟩ := bcell hb)
    go_ret
    exact ⟨rfl, (ext_alloc _ _).trans hb⟩
theorem refAlone (a : Attr) (w : World) (hs : a.1.size ≤ 1000000) : RetB Tryd.prog 58 #[.agg #[.string a.1, .string a.2]] w (.int .i64 (aloneE a)) := by
  unfold RetB
  by_cases h : keyE (L a.1) = 0
  · by_cases hl : 200 < a.2.size
    · rw [show aloneE a = 3 by unfold aloneE; rw [if_neg (by simpa using h), if_pos hl]]
      go_enter Tryd.func58, Tryd.ntmps58
      go_wp2_with (go_at_call 72; refine (refKey _ _ hs).mono ?_; rintro e w' ⟨rfl, rfl⟩)
      go_ret
      exact ⟨rfl, ext_alloc _ _⟩
    · rw [show aloneE a = 0 by unfold aloneE; rw [if_neg (by simpa using h), if_neg hl]]
      go_enter Tryd.func58, Tryd.ntmps58
      go_wp2_with (go_at_call 72; refine (refKey _ _ hs).mono ?_; rintro e w' ⟨rfl, rfl⟩)
      go_ret
      exact ⟨rfl, ext_alloc _ _⟩
  · rw [show aloneE a = keyE (L a.1) by unfold aloneE; rw [if_pos h]]
    have h1 : (keyE (L a.1) == 0) = false := beq_eq_false_iff_ne.2 h
    clear h
    go_enter Tryd.func58, Tryd.ntmps58
    go_wp2_with (go_at_call 72; refine (refKey _ _ hs).mono ?_; rintro e w' ⟨rfl, rfl⟩)
    go_ret
    exact ⟨rfl, ext_alloc _ _⟩

/-- cmp.Compare of strings. -/
def cmpS (a b : List UInt8) : Int := if a < b then -1 else if b < a then 1 else 0
theorem cmpNaN (s : ByteArray) (w : World) : Ret Tryd.prog 79 #[.string s] w (.bool false) := by
  unfold Ret
  go_enter Tryd.func79, Tryd.ntmps79
  go_wp2
  go_ret
  exact ⟨by simp, rfl⟩
theorem bytesLess_eq : ∀ (x y : List UInt8), Op.bytesLess x y = decide (x < y)
  | _, [] => by simp [Op.bytesLess]
  | [], _ :: _ => by simp [Op.bytesLess]
  | a :: x, b :: y => by
    simp only [Op.bytesLess, bytesLess_eq x y, List.cons_lt_cons_iff]
    rw [Bool.eq_iff_iff]; simp
theorem bl_true {a b : ByteArray} (h : L a < L b) : Op.bytesLess a.toList b.toList = true := by rw [bytesLess_eq, toList_L, toList_L]; exact decide_eq_true h
theorem bl_false {a b : ByteArray} (h : ¬ L a < L b) : Op.bytesLess a.toList b.toList = false := by rw [bytesLess_eq, toList_L, toList_L]; exact decide_eq_false h
theorem cmpCompare (a b : ByteArray) (w : World) : Ret Tryd.prog 68 #[.string a, .string b] w (.int .i64 (cmpS (L a) (L b))) := by
  unfold Ret
  by_cases h : L a < L b
  · rw [show cmpS (L a) (L b) = -1 from if_pos h]
    have e1 := bl_true h
    clear h
    go_enter Tryd.func68, Tryd.ntmps68
    go_wp2_with (go_at_call 79; refine (cmpNaN _ _).mono ?_; rintro e w' ⟨rfl, rfl⟩)
    go_ret
    exact ⟨rfl, rfl⟩
  · have e1 := bl_false h
    by_cases h2 : L b < L a
    · rw [show cmpS (L a) (L b) = 1 from (if_neg h).trans (if_pos h2)]
      have e2 : (a.toList == b.toList) = false := by
        rw [toList_L, toList_L]; rw [beq_eq_false_iff_ne]; intro e; rw [e] at h2; exact absurd h2 (List.lt_irrefl _)
      clear h h2
      go_enter Tryd.func68, Tryd.ntmps68
      go_wp2_with (go_at_call 79; refine (cmpNaN _ _).mono ?_; rintro e w' ⟨rfl, rfl⟩)
      go_ret
      exact ⟨rfl, rfl⟩
    · rw [show cmpS (L a) (L b) = 0 from (if_neg h).trans (if_neg h2)]
      have e2 : (a.toList == b.toList) = true := by
        rw [toList_L, toList_L]; rw [beq_iff_eq]
        rcases Std.lt_trichotomy (L a) (L b) with x | x | x
        · exact absurd x h
        · exact x
        · exact absurd x h2
      clear h h2
      go_enter Tryd.func68, Tryd.ntmps68
      go_wp2_with (go_at_call 79; refine (cmpNaN _ _).mono ?_; rintro e w' ⟨rfl, rfl⟩)
      go_ret
      exact ⟨rfl, rfl⟩
theorem cmpS_zero {a b : List UInt8} : cmpS a b = 0 ↔ a = b := by
  unfold cmpS
  constructor
  · intro h
    split at h
    · cases h
    · split at h
      · cases h
      · rename_i h1 h2
        rcases Std.lt_trichotomy a b with x | x | x
        · exact absurd x h1
        · exact x
        · exact absurd x h2
  · rintro rfl; rw [if_neg (List.lt_irrefl _), if_neg (List.lt_irrefl _)]
theorem cmpS_one {a b : List UInt8} : cmpS a b = 1 ↔ b < a := by
  unfold cmpS
  constructor
  · intro h
    split at h
    · cases h
    · split at h
      · assumption
      · cases h
  · intro h; rw [if_neg (fun x => List.lt_irrefl _ (List.lt_trans x h)), if_pos h]
end Go.Proofs.YtnemfapegbehlaaDoor
