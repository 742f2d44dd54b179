/- Escape: contracts of names. -/
import Derived.Test.YtnemfapegbehlaaDoorStr
namespace Go.Proofs.YtnemfapegbehlaaDoor
open Go.RowKit

/-- The error of a name. -/
def nameE (l : List UInt8) : Int := if l = [] ∨ l = [46] ∨ l = [46, 46] ∨ l.any (pB badC) = true then 6 else if 24 < l.length then 3 else 0

theorem nameE_bad {l : List UInt8} (h : l.any (pB badC) = true) : nameE l = 6 := by
  unfold nameE; rw [if_pos (Or.inr (Or.inr (Or.inr h)))]
theorem nameE_long {l : List UInt8} (h0 : ¬ (l = [] ∨ l = [46] ∨ l = [46, 46])) (h : l.any (pB badC) = false) (hl : 24 < l.length) : nameE l = 3 := by
  simp only [not_or] at h0
  unfold nameE; rw [if_neg (by simp [h0, h]), if_pos hl]
theorem nameE_ok {l : List UInt8} (h0 : ¬ (l = [] ∨ l = [46] ∨ l = [46, 46])) (h : l.any (pB badC) = false) (hl : ¬ 24 < l.length) : nameE l = 0 := by
  simp only [not_or] at h0
  unfold nameE; rw [if_neg (by simp [h0, h]), if_neg hl]

theorem pathsName (s : ByteArray) (w : World) :
    RetB Tryd.prog 42 #[.string s] w (.int .i64 (nameE (L s))) := by
  unfold RetB
  go_enter Tryd.func42, Tryd.ntmps42
  go_wp2_with (go_at_call 63; refine (strContainsFunc _ _ badFn s w).mono ?_; rintro e w' ⟨rfl, hb⟩)
  all_goals go_ret
  all_goals refine ⟨ret_val ?_, ?_⟩
  all_goals first | exact Below.refl _ _ | exact hb | skip
  all_goals simp_all [nameE, toList_L, size_L]
  all_goals rw [if_neg (by simp_all)]
  all_goals split <;> omega

theorem badByte (b : UInt8) : pB badC b = (decide ((b.toNat : Int) < 33) || decide (126 < (b.toNat : Int)) || ((b.toNat : Int) == 47)) := by
  unfold pB badC; rw [Bool.eq_iff_iff]; simp

theorem refNameShort (s : ByteArray) (w : World) (h : L s = [] ∨ L s = [46] ∨ L s = [46, 46]) :
    Ret Tryd.prog 23 #[.string s] w (.int .i64 (nameE (L s))) := by
  unfold Ret
  have hn : nameE (L s) = 6 := by unfold nameE; rw [if_pos]; rcases h with h | h | h <;> simp [h]
  rw [hn]; clear hn
  rw [← toList_L] at h
  rcases h with h | h | h
  all_goals
    go_enter Tryd.func23, Tryd.ntmps23
    go_wp2
    go_ret
    exact ⟨rfl, rfl⟩
theorem refName (s : ByteArray) (w : World) (hs : s.size ≤ 1000000) :
    Ret Tryd.prog 23 #[.string s] w (.int .i64 (nameE (L s))) := by
  by_cases h0 : L s = [] ∨ L s = [46] ∨ L s = [46, 46]
  · exact refNameShort s w h0
  have HN := Lib.hid h0
  unfold Ret
  simp only [not_or, ← toList_L] at h0
  obtain ⟨h1, h2, h3⟩ := h0
  have h1 : s.toList.isEmpty = false := by simpa using h1
  have h2 : (s.toList == [46]) = false := by simpa using h2
  have h3 : (s.toList == [46, 46]) = false := by simpa using h3
  go_enter Tryd.func23, Tryd.ntmps23
  go_wp2
  clear h1 h2 h3
  go_loop [3] (fun i => ∃ k : Nat, k ≤ s.size ∧ i = .int .i64 k ∧ ((L s).take k).any (pB badC) = false) (fun i => s.size - (intOf i).toNat)
  case atStart => exact ⟨0, Nat.zero_le _, rfl, by simp⟩
  case round =>
    obtain ⟨k, hk, rfl, hb⟩ := hrel
    have HB := Lib.hid hb; clear hb
    by_cases hlt : k < s.size
    · cases hb : pB badC (s[k]'hlt)
      · have HN2 := Lib.hid (any_take_succ badC s k hlt HB.out hb); clear HB
        rw [badByte] at hb
        simp only [Bool.or_eq_false_iff, decide_eq_false_iff_not] at hb
        obtain ⟨⟨ha, hb⟩, hc⟩ := hb
        go_wp2
        go_round
        case rel => exact ⟨k + 1, by omega, by go_num, HN2.out⟩
        case measure => simp [intOf]; omega
      · have HN2 := Lib.hid (nameE_bad (List.any_eq_true.2 ⟨s[k]'hlt, by rw [getElem_L]; exact List.getElem_mem _, hb⟩))
        clear HB HN
        rw [badByte] at hb
        simp only [Bool.or_eq_true, decide_eq_true_eq] at hb
        by_cases ha : (s[k].toNat : Int) < 33
        · clear hb
          go_wp2
          go_ret
          exact ⟨by rw [HN2.out]; rfl, rfl⟩
        by_cases hc : 126 < (s[k].toNat : Int)
        · clear hb
          go_wp2
          go_ret
          exact ⟨by rw [HN2.out]; rfl, rfl⟩
        · have hd : ((s[k].toNat : Int) == 47) = true := by simpa [ha, hc] using hb
          clear hb
          go_wp2
          go_ret
          exact ⟨by rw [HN2.out]; rfl, rfl⟩
    · have hb := HB.out
      rw [List.take_of_length_le (by rw [← size_L]; omega)] at hb
      by_cases hl : 24 < s.size
      · have HN2 := Lib.hid (nameE_long HN.out hb (by rw [← size_L]; exact hl))
        clear hb HB
        go_wp2
        go_ret
        exact ⟨by rw [HN2.out]; rfl, rfl⟩
      · have HN2 := Lib.hid (nameE_ok HN.out hb (by rw [← size_L]; exact hl))
        clear hb HB
        go_wp2
        go_ret
        exact ⟨by rw [HN2.out]; rfl, rfl⟩

/-- The error of a dialect and a name. -/
def askE (d : Int) (l : List UInt8) : Int := if 1 ≤ d ∧ d ≤ 4 then nameE l else 2
theorem askE_in {d : Int} {l : List UInt8} (h1 : 1 ≤ d) (h2 : d ≤ 4) : askE d l = nameE l := by unfold askE; rw [if_pos ⟨h1, h2⟩]
theorem askE_out {d : Int} {l : List UInt8} (h : ¬ (1 ≤ d ∧ d ≤ 4)) : askE d l = 2 := by unfold askE; rw [if_neg h]

theorem checkName (d : Int) (s : ByteArray) (w : World) : RetB Tryd.prog 32 #[.int .i64 d, .string s] w (.int .i64 (askE d (L s))) := by
  unfold RetB
  by_cases h1 : d < 1
  · rw [askE_out (by omega)]
    go_enter Tryd.func32, Tryd.ntmps32
    go_wp2
    go_ret
    exact ⟨rfl, Below.refl _ _⟩
  by_cases h2 : 4 < d
  · rw [askE_out (by omega)]
    go_enter Tryd.func32, Tryd.ntmps32
    go_wp2
    go_ret
    exact ⟨rfl, Below.refl _ _⟩
  · rw [askE_in (by omega) (by omega)]
    go_enter Tryd.func32, Tryd.ntmps32
    go_wp2_with (go_at_call 42; refine (pathsName _ _).mono ?_; rintro e w' ⟨rfl, hb⟩)
    go_ret
    exact ⟨rfl, hb⟩
theorem refDialect (d : Int) (w : World) : Ret Tryd.prog 48 #[.int .i64 d] w (.bool (decide (1 ≤ d ∧ d ≤ 4))) := by
  unfold Ret
  by_cases h1 : 1 ≤ d
  · by_cases h2 : d ≤ 4
    · go_enter Tryd.func48, Tryd.ntmps48
      go_wp2
      go_ret
      exact ⟨by simp [h1, h2], rfl⟩
    · go_enter Tryd.func48, Tryd.ntmps48
      go_wp2
      go_ret
      exact ⟨by simp [h2], rfl⟩
  · rw [show decide (1 ≤ d ∧ d ≤ 4) = false from decide_eq_false (by omega)]
    go_enter Tryd.func48, Tryd.ntmps48
    go_wp2
    go_ret
    exact ⟨rfl, rfl⟩
theorem refAsked (d : Int) (s : ByteArray) (w : World) (hs : s.size ≤ 1000000) : Ret Tryd.prog 35 #[.int .i64 d, .string s] w (.int .i64 (askE d (L s))) := by
  unfold Ret
  by_cases h1 : 1 ≤ d ∧ d ≤ 4
  · rw [askE_in (by omega) (by omega)]
    have h3 : decide (1 ≤ d ∧ d ≤ 4) = true := decide_eq_true h1
    go_enter Tryd.func35, Tryd.ntmps35
    go_wp2_with (first | (go_at_call 48; refine (refDialect _ _).mono ?_; rintro e w' ⟨rfl, rfl⟩) | (go_at_call 23; refine (refName _ _ hs).mono ?_; rintro e w' ⟨rfl, rfl⟩))
    go_ret
    exact ⟨rfl, rfl⟩
  · rw [askE_out h1]
    have h3 : decide (1 ≤ d ∧ d ≤ 4) = false := decide_eq_false h1
    go_enter Tryd.func35, Tryd.ntmps35
    go_wp2_with (first | (go_at_call 48; refine (refDialect _ _).mono ?_; rintro e w' ⟨rfl, rfl⟩) | (go_at_call 23; refine (refName _ _ hs).mono ?_; rintro e w' ⟨rfl, rfl⟩))
    go_ret
    exact ⟨rfl, rfl⟩

/-- A written form, if it is not too long. -/
def fitS (s : ByteArray) (n : Nat) : ByteArray := if n < s.size then ⟨#[]⟩ else s
def fitE (s : ByteArray) (n : Nat) : Int := if n < s.size then 17 else 0
theorem escFit (s : ByteArray) (n : Nat) (w : World) : Ret Tryd.prog 33 #[.string s, .int .i64 n] w (.tuple #[.string (fitS s n), .int .i64 (fitE s n)]) := by
  unfold Ret
  by_cases h : n < s.size
  · go_enter Tryd.func33, Tryd.ntmps33
    go_wp2
    go_ret2
    exact ⟨by simp [fitS, fitE, h], rfl⟩
  · go_enter Tryd.func33, Tryd.ntmps33
    go_wp2
    go_ret2
    exact ⟨by simp [fitS, fitE, h], rfl⟩
theorem refFits (s : ByteArray) (n : Nat) (w : World) : Ret Tryd.prog 36 #[.string s, .int .i64 n] w (.tuple #[.string (fitS s n), .int .i64 (fitE s n)]) := by
  unfold Ret
  by_cases h : n < s.size
  · go_enter Tryd.func36, Tryd.ntmps36
    go_wp2
    go_ret2
    exact ⟨by simp [fitS, fitE, h], rfl⟩
  · go_enter Tryd.func36, Tryd.ntmps36
    go_wp2
    go_ret2
    exact ⟨by simp [fitS, fitE, h], rfl⟩

def whB : ByteArray := ⟨#[46, 119, 104, 46]⟩
def wxB : ByteArray := ⟨#[46, 119, 104, 46, 46, 119, 104, 46, 120]⟩
/-- The written form of a name, and of its whiteout. -/
def wrS (d : Int) (s : ByteArray) : ByteArray := if d = 3 ∧ hasP s whB = true then wxB ++ s.extract 4 s.size else s
def whS (d : Int) (s : ByteArray) : ByteArray := if d = 3 then whB ++ wrS d s else s

theorem escWrite (d : Int) (s : ByteArray) (w : World) (hs : s.size ≤ 1000000) : Ret Tryd.prog 34 #[.int .i64 d, .string s] w (.string (wrS d s)) := by
  unfold Ret
  cases h : hasP s ⟨#[46, 119, 104, 46]⟩
  · go_enter Tryd.func34, Tryd.ntmps34
    go_wp2_with (go_at_call 39; refine (cutPrefix _ _ _).mono ?_; rintro e w' ⟨rfl, rfl⟩)
    go_ret
    exact ⟨by simp [wrS, whB, h], rfl⟩
  · by_cases h3 : d = 3
    · subst h3
      have hc := cutP_le s ⟨#[46, 119, 104, 46]⟩
      go_enter Tryd.func34, Tryd.ntmps34
      go_wp2_with (go_at_call 39; refine (cutPrefix _ _ _).mono ?_; rintro e w' ⟨rfl, rfl⟩)
      go_ret
      exact ⟨by simp [wrS, whB, wxB, cutP, h]; rfl, rfl⟩
    · go_enter Tryd.func34, Tryd.ntmps34
      go_wp2_with (go_at_call 39; refine (cutPrefix _ _ _).mono ?_; rintro e w' ⟨rfl, rfl⟩)
      go_ret
      exact ⟨by simp [wrS, whB, h, h3], rfl⟩

theorem wrS_le (d : Int) (s : ByteArray) : (wrS d s).size ≤ s.size + 9 := by
  unfold wrS; split
  · have h1 := size_L s; rw [size_L, L_append, List.length_append, L_drop, List.length_drop]; have : (L wxB).length = 9 := rfl; omega
  · omega
theorem whS_le (d : Int) (s : ByteArray) : (whS d s).size ≤ s.size + 13 := by
  have := wrS_le d s
  unfold whS; split
  · have h1 := size_L (wrS d s); rw [size_L, L_append, List.length_append]; have : (L whB).length = 4 := rfl; omega
  · omega
theorem refBegins (s t : ByteArray) (w : World) (_hs : s.size ≤ 1000000) : Ret Tryd.prog 51 #[.string s, .string t] w (.bool (hasP s t)) := by
  unfold Ret
  by_cases h : t.size ≤ s.size
  · have h1 := hasP_long h
    go_enter Tryd.func51, Tryd.ntmps51
    go_wp2
    go_ret
    exact ⟨rfl, rfl⟩
  · have h1 := hasP_short h
    go_enter Tryd.func51, Tryd.ntmps51
    go_wp2
    go_ret
    exact ⟨by simp [h1], rfl⟩
theorem refWritten (d : Int) (s : ByteArray) (w : World) (hs : s.size ≤ 1000000) : Ret Tryd.prog 37 #[.int .i64 d, .string s] w (.string (wrS d s)) := by
  unfold Ret
  by_cases h3 : d = 3
  · subst h3
    cases h : hasP s ⟨#[46, 119, 104, 46]⟩
    · go_enter Tryd.func37, Tryd.ntmps37
      go_wp2_with (go_at_call 51; refine (refBegins _ _ _ hs).mono ?_; rintro e w' ⟨rfl, rfl⟩)
      go_ret
      exact ⟨by simp [wrS, whB, h], rfl⟩
    · have hc := hasP_size h
      have hc : 4 ≤ s.size := hc
      go_enter Tryd.func37, Tryd.ntmps37
      go_wp2_with (go_at_call 51; refine (refBegins _ _ _ hs).mono ?_; rintro e w' ⟨rfl, rfl⟩)
      go_ret
      exact ⟨by simp [wrS, whB, wxB, h], rfl⟩
  · go_enter Tryd.func37, Tryd.ntmps37
    go_wp2_with (go_at_call 51; refine (refBegins _ _ _ hs).mono ?_; rintro e w' ⟨rfl, rfl⟩)
    go_ret
    exact ⟨by simp [wrS, h3], rfl⟩
theorem refWhite (d : Int) (s : ByteArray) (w : World) (hs : s.size ≤ 1000000) : Ret Tryd.prog 38 #[.int .i64 d, .string s] w (.string (whS d s)) := by
  unfold Ret
  have hw := wrS_le d s
  by_cases h3 : d = 3
  · subst h3
    go_enter Tryd.func38, Tryd.ntmps38
    go_wp2_with (go_at_call 37; refine (refWritten _ _ _ hs).mono ?_; rintro e w' ⟨rfl, rfl⟩)
    go_ret
    exact ⟨by simp [whS, whB], rfl⟩
  · go_enter Tryd.func38, Tryd.ntmps38
    go_wp2_with (go_at_call 37; refine (refWritten _ _ _ hs).mono ?_; rintro e w' ⟨rfl, rfl⟩)
    go_ret
    exact ⟨by simp [whS, h3], rfl⟩


/-- What Name and White return. -/
def nmE (d : Int) (s : ByteArray) : Int := if askE d (L s) = 0 then fitE (wrS d s) 24 else askE d (L s)
def nmS (d : Int) (s : ByteArray) : ByteArray := if askE d (L s) = 0 then fitS (wrS d s) 24 else ⟨#[]⟩
def wtE (d : Int) (s : ByteArray) : Int := if askE d (L s) = 0 then fitE (whS d s) 24 else askE d (L s)
def wtS (d : Int) (s : ByteArray) : ByteArray := if askE d (L s) = 0 then fitS (whS d s) 24 else ⟨#[]⟩

theorem escFit24 (s : ByteArray) (w : World) : Ret Tryd.prog 33 #[.string s, .int .i64 24] w (.tuple #[.string (fitS s 24), .int .i64 (fitE s 24)]) := escFit s 24 w
theorem refFits24 (s : ByteArray) (w : World) : Ret Tryd.prog 36 #[.string s, .int .i64 24] w (.tuple #[.string (fitS s 24), .int .i64 (fitE s 24)]) := refFits s 24 w
theorem escName (d : Int) (s : ByteArray) (w : World) (hs : s.size ≤ 1000000) : RetB Tryd.prog 11 #[.int .i64 d, .string s] w (.tuple #[.string (nmS d s), .int .i64 (nmE d s)]) := by
  unfold RetB
  by_cases h : askE d (L s) = 0
  · rw [show nmS d s = fitS (wrS d s) 24 from if_pos h, show nmE d s = fitE (wrS d s) 24 from if_pos h]
    go_enter Tryd.func11, Tryd.ntmps11
    go_wp2_with (first | (go_at_call 32; refine (checkName _ _ _).mono ?_; rintro e w' ⟨rfl, hb⟩) | (go_at_call 34; refine (escWrite _ _ _ hs).mono ?_; rintro e w' ⟨rfl, rfl⟩) | (go_at_call 33; refine (escFit24 _ _).mono ?_; rintro e w' ⟨rfl, rfl⟩))
    go_ret2
    exact ⟨rfl, hb⟩
  · rw [show nmS d s = ⟨#[]⟩ from if_neg h, show nmE d s = askE d (L s) from if_neg h]
    have h1 : (askE d (L s) != 0) = true := bne_iff_ne.2 h
    clear h
    go_enter Tryd.func11, Tryd.ntmps11
    go_wp2_with (first | (go_at_call 32; refine (checkName _ _ _).mono ?_; rintro e w' ⟨rfl, hb⟩))
    go_ret2
    exact ⟨rfl, hb⟩
theorem refNm (d : Int) (s : ByteArray) (w : World) (hs : s.size ≤ 1000000) : Ret Tryd.prog 12 #[.int .i64 d, .string s] w (.tuple #[.string (nmS d s), .int .i64 (nmE d s)]) := by
  unfold Ret
  by_cases h : askE d (L s) = 0
  · rw [show nmS d s = fitS (wrS d s) 24 from if_pos h, show nmE d s = fitE (wrS d s) 24 from if_pos h]
    go_enter Tryd.func12, Tryd.ntmps12
    go_wp2_with (first | (go_at_call 35; refine (refAsked _ _ _ hs).mono ?_; rintro e w' ⟨rfl, rfl⟩) | (go_at_call 37; refine (refWritten _ _ _ hs).mono ?_; rintro e w' ⟨rfl, rfl⟩) | (go_at_call 36; refine (refFits24 _ _).mono ?_; rintro e w' ⟨rfl, rfl⟩))
    go_ret2
    exact ⟨rfl, rfl⟩
  · rw [show nmS d s = ⟨#[]⟩ from if_neg h, show nmE d s = askE d (L s) from if_neg h]
    have h1 : (askE d (L s) != 0) = true := bne_iff_ne.2 h
    clear h
    go_enter Tryd.func12, Tryd.ntmps12
    go_wp2_with (first | (go_at_call 35; refine (refAsked _ _ _ hs).mono ?_; rintro e w' ⟨rfl, rfl⟩))
    go_ret2
    exact ⟨rfl, rfl⟩
theorem escWhite (d : Int) (s : ByteArray) (w : World) (hs : s.size ≤ 1000000) : RetB Tryd.prog 13 #[.int .i64 d, .string s] w (.tuple #[.string (wtS d s), .int .i64 (wtE d s)]) := by
  unfold RetB
  have hz := wrS_le d s
  by_cases h : askE d (L s) = 0
  · rw [show wtS d s = fitS (whS d s) 24 from if_pos h, show wtE d s = fitE (whS d s) 24 from if_pos h]
    by_cases h3 : d = 3
    · rw [show whS d s = ⟨#[46, 119, 104, 46]⟩ ++ wrS d s from if_pos h3]
      subst h3
      go_enter Tryd.func13, Tryd.ntmps13
      go_wp2_with (first | (go_at_call 32; refine (checkName _ _ _).mono ?_; rintro e w' ⟨rfl, hb⟩) | (go_at_call 34; refine (escWrite _ _ _ hs).mono ?_; rintro e w' ⟨rfl, rfl⟩) | (go_at_call 33; refine (escFit24 _ _).mono ?_; rintro e w' ⟨rfl, rfl⟩))
      go_ret2
      exact ⟨rfl, hb⟩
    · have hw : wrS d s = s := if_neg (by intro h; exact h3 h.1)
      rw [show whS d s = wrS d s from (if_neg h3).trans hw.symm]
      clear hw
      go_enter Tryd.func13, Tryd.ntmps13
      go_wp2_with (first | (go_at_call 32; refine (checkName _ _ _).mono ?_; rintro e w' ⟨rfl, hb⟩) | (go_at_call 34; refine (escWrite _ _ _ hs).mono ?_; rintro e w' ⟨rfl, rfl⟩) | (go_at_call 33; refine (escFit24 _ _).mono ?_; rintro e w' ⟨rfl, rfl⟩))
      go_ret2
      exact ⟨rfl, hb⟩
  · rw [show wtS d s = ⟨#[]⟩ from if_neg h, show wtE d s = askE d (L s) from if_neg h]
    have h1 : (askE d (L s) != 0) = true := bne_iff_ne.2 h
    clear h
    go_enter Tryd.func13, Tryd.ntmps13
    go_wp2_with (first | (go_at_call 32; refine (checkName _ _ _).mono ?_; rintro e w' ⟨rfl, hb⟩))
    go_ret2
    exact ⟨rfl, hb⟩
theorem refWt (d : Int) (s : ByteArray) (w : World) (hs : s.size ≤ 1000000) : Ret Tryd.prog 14 #[.int .i64 d, .string s] w (.tuple #[.string (wtS d s), .int .i64 (wtE d s)]) := by
  unfold Ret
  by_cases h : askE d (L s) = 0
  · rw [show wtS d s = fitS (whS d s) 24 from if_pos h, show wtE d s = fitE (whS d s) 24 from if_pos h]
    go_enter Tryd.func14, Tryd.ntmps14
    go_wp2_with (first | (go_at_call 35; refine (refAsked _ _ _ hs).mono ?_; rintro e w' ⟨rfl, rfl⟩) | (go_at_call 38; refine (refWhite _ _ _ hs).mono ?_; rintro e w' ⟨rfl, rfl⟩) | (go_at_call 36; refine (refFits24 _ _).mono ?_; rintro e w' ⟨rfl, rfl⟩))
    go_ret2
    exact ⟨rfl, rfl⟩
  · rw [show wtS d s = ⟨#[]⟩ from if_neg h, show wtE d s = askE d (L s) from if_neg h]
    have h1 : (askE d (L s) != 0) = true := bne_iff_ne.2 h
    clear h
    go_enter Tryd.func14, Tryd.ntmps14
    go_wp2_with (first | (go_at_call 35; refine (refAsked _ _ _ hs).mono ?_; rintro e w' ⟨rfl, rfl⟩))
    go_ret2
    exact ⟨rfl, rfl⟩
end Go.Proofs.YtnemfapegbehlaaDoor
