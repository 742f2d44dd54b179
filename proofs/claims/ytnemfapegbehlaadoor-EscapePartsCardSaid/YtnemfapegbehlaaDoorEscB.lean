/- Escape: contracts of Back. -/
import Derived.Test.YtnemfapegbehlaaDoorEscP
namespace Go.Proofs.YtnemfapegbehlaaDoor
open Go.RowKit

def bkS (d : Int) (s : ByteArray) : ByteArray := ofL (backT d (L s)).1
def bkW (d : Int) (s : ByteArray) : Int := (backT d (L s)).2.1
def bkE (d : Int) (s : ByteArray) : Int := (backT d (L s)).2.2
theorem bk_of {d : Int} {s : ByteArray} {x : List UInt8} {y z : Int} (h : backT d (L s) = (x, y, z)) : bkS d s = ofL x ∧ bkW d s = y ∧ bkE d s = z := by
  unfold bkS bkW bkE; rw [h]; exact ⟨rfl, rfl, rfl⟩

theorem escBack (d : Int) (s : ByteArray) (w : World) (hs : s.size ≤ 1000000) : RetB Tryd.prog 15 #[.int .i64 d, .string s] w (.tuple #[.string (bkS d s), .int .i64 (bkW d s), .int .i64 (bkE d s)]) := by
  unfold RetB
  by_cases h : askE d (L s) = 0
  case neg =>
    obtain ⟨e1, e2, e3⟩ := bk_of (d := d) (s := s) (x := []) (y := 0) (z := askE d (L s)) (by unfold backT; rw [if_pos h])
    rw [e1, e2, e3]; clear e1 e2 e3
    have h1 : (askE d (L s) != 0) = true := bne_iff_ne.2 h
    clear h
    go_enter Tryd.func15, Tryd.ntmps15
    go_wp2_with (first | (go_at_call 32; refine (checkName _ _ _).mono ?_; rintro e w' ⟨rfl, hb⟩))
    go_ret3
    exact ⟨rfl, hb⟩
  by_cases hd : d = 3
  case neg =>
    obtain ⟨e1, e2, e3⟩ := bk_of (d := d) (s := s) (x := L s) (y := 1) (z := 0) (by unfold backT; rw [if_neg (by simpa using h), if_pos (.inl hd)])
    rw [e1, e2, e3]; clear e1 e2 e3
    have h1 : (d != 3) = true := bne_iff_ne.2 hd
    clear hd
    go_enter Tryd.func15, Tryd.ntmps15
    go_wp2_with (first | (go_at_call 32; refine (checkName _ _ _).mono ?_; rintro e w' ⟨rfl, hb⟩) | (go_at_call 39; refine (cutPrefix _ _ _).mono ?_; rintro e w' ⟨rfl, rfl⟩))
    go_ret3
    exact ⟨rfl, hb⟩
  subst hd
  cases hw : hasP s ⟨#[46, 119, 104, 46]⟩
  case false =>
    obtain ⟨e1, e2, e3⟩ := bk_of (d := 3) (s := s) (x := L s) (y := 1) (z := 0) (by unfold backT; rw [if_neg (by simpa using h), if_pos (.inr hw)])
    rw [e1, e2, e3]; clear e1 e2 e3
    go_enter Tryd.func15, Tryd.ntmps15
    go_wp2_with (first | (go_at_call 32; refine (checkName _ _ _).mono ?_; rintro e w' ⟨rfl, hb⟩) | (go_at_call 39; refine (cutPrefix _ _ _).mono ?_; rintro e w' ⟨rfl, rfl⟩))
    go_ret3
    exact ⟨rfl, hb⟩
  have hz := cutP_le s ⟨#[46, 119, 104, 46]⟩
  have hcut : cutP s ⟨#[46, 119, 104, 46]⟩ = s.extract 4 s.size := by unfold cutP; rw [if_pos hw]; rfl
  have HC : Hid (L (cutP s ⟨#[46, 119, 104, 46]⟩) = (L s).drop 4) := by rw [hcut, L_drop]; exact rfl
  clear hcut
  have hw0 : ¬ (3 ≠ (3 : Int) ∨ whL.isPrefixOf (L s) = false) := by
    have : whL.isPrefixOf (L s) = true := hw
    simp [this]
  have HB0 : Hid (backT 3 (L s) = if L s = opqL then ([], 3, 0) else if L s = plnkL then ([], 4, 0) else if wxL.isPrefixOf ((L s).drop 4) = true then (whL ++ (L s).drop 13, 2, 0)
    else if wxL.isPrefixOf (L s) = true then (whL ++ (L s).drop 9, 1, 0) else if whL.isPrefixOf ((L s).drop 4) = true ∨ nameE ((L s).drop 4) ≠ 0 then ([], 0, 6) else ((L s).drop 4, 2, 0)) := by
    unfold backT; rw [if_neg (by simpa using h), if_neg hw0]; exact rfl
  clear hw0
  cases ho : s.toList == [46, 119, 104, 46, 46, 119, 104, 46, 111, 112, 113]
  case true =>
    obtain ⟨e1, e2, e3⟩ := bk_of (d := 3) (s := s) (x := []) (y := 3) (z := 0) (by rw [HB0.out, if_pos (by rw [toList_L] at ho; simpa [opqL] using ho)])
    rw [e1, e2, e3]; clear e1 e2 e3 HB0 HC
    go_enter Tryd.func15, Tryd.ntmps15
    go_wp2_with (first | (go_at_call 32; refine (checkName _ _ _).mono ?_; rintro e w' ⟨rfl, hb⟩) | (go_at_call 39; refine (cutPrefix _ _ _).mono ?_; rintro e w' ⟨rfl, rfl⟩))
    go_ret3
    exact ⟨rfl, hb⟩
  cases hk : s.toList == [46, 119, 104, 46, 46, 119, 104, 46, 112, 108, 110, 107]
  case true =>
    obtain ⟨e1, e2, e3⟩ := bk_of (d := 3) (s := s) (x := []) (y := 4) (z := 0) (by rw [HB0.out, if_neg (by rw [toList_L] at ho; simpa [opqL] using ho), if_pos (by rw [toList_L] at hk; simpa [plnkL] using hk)])
    rw [e1, e2, e3]; clear e1 e2 e3 HB0 HC
    go_enter Tryd.func15, Tryd.ntmps15
    go_wp2_with (first | (go_at_call 32; refine (checkName _ _ _).mono ?_; rintro e w' ⟨rfl, hb⟩) | (go_at_call 39; refine (cutPrefix _ _ _).mono ?_; rintro e w' ⟨rfl, rfl⟩))
    go_ret3
    exact ⟨rfl, hb⟩
  have HB1 : Hid (backT 3 (L s) = if wxL.isPrefixOf (L (cutP s ⟨#[46, 119, 104, 46]⟩)) = true then (whL ++ (L s).drop 13, 2, 0)
    else if wxL.isPrefixOf (L s) = true then (whL ++ (L s).drop 9, 1, 0) else if whL.isPrefixOf ((L s).drop 4) = true ∨ nameE (L (cutP s ⟨#[46, 119, 104, 46]⟩)) ≠ 0 then ([], 0, 6) else (L (cutP s ⟨#[46, 119, 104, 46]⟩), 2, 0)) := by
    rw [HC.out, HB0.out, if_neg (by rw [toList_L] at ho; simpa [opqL] using ho), if_neg (by rw [toList_L] at hk; simpa [plnkL] using hk)]; exact rfl
  clear HB0
  generalize hr : cutP s ⟨#[46, 119, 104, 46]⟩ = r at hz HB1 HC
  have HR := Lib.hid hr; clear hr
  cases hx : hasP r ⟨#[46, 119, 104, 46, 46, 119, 104, 46, 120]⟩
  case true =>
    have hzz := cutP_le r ⟨#[46, 119, 104, 46, 46, 119, 104, 46, 120]⟩
    have hv : bkS 3 s = ⟨#[46, 119, 104, 46]⟩ ++ cutP r ⟨#[46, 119, 104, 46, 46, 119, 104, 46, 120]⟩ ∧ bkW 3 s = 2 ∧ bkE 3 s = 0 := by
      obtain ⟨e1, e2, e3⟩ := bk_of (d := 3) (s := s) (HB1.out.trans (if_pos hx))
      refine ⟨?_, e2, e3⟩
      rw [e1]; apply L_inj; rw [L_append, L_ofL]; unfold cutP; rw [if_pos hx, L_drop, HC.out, List.drop_drop]; rfl
    obtain ⟨e1, e2, e3⟩ := hv
    rw [e1, e2, e3]; clear e1 e2 e3 HB1 HC
    go_enter Tryd.func15, Tryd.ntmps15
    go_wp2_with (first | (go_at_call 32; refine (checkName _ _ _).mono ?_; rintro e w' ⟨rfl, hb⟩) | (go_at_call 39; refine (cutPrefix _ _ _).mono ?_; rintro e w' ⟨rfl, rfl⟩; rw [HR.out]) | (go_at_call 40; refine (hasPrefix _ _ _).mono ?_; rintro e w' ⟨rfl, rfl⟩) | (go_at_call 41; refine (trimPrefix _ _ _).mono ?_; rintro e w' ⟨rfl, rfl⟩))
    go_ret3
    exact ⟨rfl, hb⟩
  cases hy : hasP s ⟨#[46, 119, 104, 46, 46, 119, 104, 46, 120]⟩
  case true =>
    have hzz := cutP_le s ⟨#[46, 119, 104, 46, 46, 119, 104, 46, 120]⟩
    have hv : bkS 3 s = ⟨#[46, 119, 104, 46]⟩ ++ cutP s ⟨#[46, 119, 104, 46, 46, 119, 104, 46, 120]⟩ ∧ bkW 3 s = 1 ∧ bkE 3 s = 0 := by
      obtain ⟨e1, e2, e3⟩ := bk_of (d := 3) (s := s) (HB1.out.trans ((if_neg (Bool.eq_false_iff.1 hx)).trans (if_pos hy)))
      refine ⟨?_, e2, e3⟩
      rw [e1]; apply L_inj; rw [L_append, L_ofL]; unfold cutP; rw [if_pos hy, L_drop]; rfl
    obtain ⟨e1, e2, e3⟩ := hv
    rw [e1, e2, e3]; clear e1 e2 e3 HB1 HC
    go_enter Tryd.func15, Tryd.ntmps15
    go_wp2_with (first | (go_at_call 32; refine (checkName _ _ _).mono ?_; rintro e w' ⟨rfl, hb⟩) | (go_at_call 39; refine (cutPrefix _ _ _).mono ?_; rintro e w' ⟨rfl, rfl⟩; rw [HR.out]) | (go_at_call 40; refine (hasPrefix _ _ _).mono ?_; rintro e w' ⟨rfl, rfl⟩) | (go_at_call 41; refine (trimPrefix _ _ _).mono ?_; rintro e w' ⟨rfl, rfl⟩))
    go_ret3
    exact ⟨rfl, hb⟩
  have HB2 := Lib.hid (HB1.out.trans ((if_neg (Bool.eq_false_iff.1 hx)).trans (if_neg (Bool.eq_false_iff.1 hy))))
  clear HB1
  have HT : Hid (hasP s ⟨#[46, 119, 104, 46, 46, 119, 104, 46]⟩ = whL.isPrefixOf ((L s).drop 4)) := by
    show hasP s ⟨#[46, 119, 104, 46, 46, 119, 104, 46]⟩ = _
    obtain ⟨t, ht⟩ := pre_iff.1 (show whL.isPrefixOf (L s) = true from hw)
    unfold hasP; rw [ht]; simp [L, whL]
  cases ht : hasP s ⟨#[46, 119, 104, 46, 46, 119, 104, 46]⟩
  case true =>
    obtain ⟨e1, e2, e3⟩ := bk_of (d := 3) (s := s) (HB2.out.trans (if_pos (.inl (HT.out.symm.trans ht))))
    rw [e1, e2, e3]; clear e1 e2 e3 HB2 HC HT
    go_enter Tryd.func15, Tryd.ntmps15
    go_wp2_with (first | (go_at_call 32; refine (checkName _ _ _).mono ?_; rintro e w' ⟨rfl, hb⟩) | (go_at_call 39; refine (cutPrefix _ _ _).mono ?_; rintro e w' ⟨rfl, rfl⟩; rw [HR.out]) | (go_at_call 40; refine (hasPrefix _ _ _).mono ?_; rintro e w' ⟨rfl, rfl⟩) | (go_at_call 41; refine (trimPrefix _ _ _).mono ?_; rintro e w' ⟨rfl, rfl⟩))
    go_ret3
    exact ⟨rfl, hb⟩
  by_cases hn : nameE (L r) = 0
  · obtain ⟨e1, e2, e3⟩ := bk_of (d := 3) (s := s) (HB2.out.trans (if_neg (by rw [← HT.out, ht]; simp [hn])))
    rw [e1, e2, e3]; clear e1 e2 e3 HB2 HC HT
    go_enter Tryd.func15, Tryd.ntmps15
    go_wp2_with (first | (go_at_call 32; refine (checkName _ _ _).mono ?_; rintro e w' ⟨rfl, hb⟩) | (go_at_call 39; refine (cutPrefix _ _ _).mono ?_; rintro e w' ⟨rfl, rfl⟩; rw [HR.out]) | (go_at_call 40; refine (hasPrefix _ _ _).mono ?_; rintro e w' ⟨rfl, rfl⟩) | (go_at_call 42; refine (pathsName _ _).mono ?_; rintro e w' ⟨rfl, hb2⟩))
    go_ret3
    exact ⟨rfl, hb.trans (hb2.mono hb.size)⟩
  · obtain ⟨e1, e2, e3⟩ := bk_of (d := 3) (s := s) (HB2.out.trans (if_pos (.inr hn)))
    rw [e1, e2, e3]; clear e1 e2 e3 HB2 HC HT
    have hn1 : (nameE (L r) != 0) = true := bne_iff_ne.2 hn
    clear hn
    go_enter Tryd.func15, Tryd.ntmps15
    go_wp2_with (first | (go_at_call 32; refine (checkName _ _ _).mono ?_; rintro e w' ⟨rfl, hb⟩) | (go_at_call 39; refine (cutPrefix _ _ _).mono ?_; rintro e w' ⟨rfl, rfl⟩; rw [HR.out]) | (go_at_call 40; refine (hasPrefix _ _ _).mono ?_; rintro e w' ⟨rfl, rfl⟩) | (go_at_call 42; refine (pathsName _ _).mono ?_; rintro e w' ⟨rfl, hb2⟩))
    go_ret3
    exact ⟨rfl, hb.trans (hb2.mono hb.size)⟩

def candS (s : ByteArray) (i k : Nat) : ByteArray := if k = 1 then ⟨#[46, 119, 104, 46]⟩ ++ s.extract i s.size else s.extract i s.size
theorem L_cand (s : ByteArray) (i k : Nat) : L (candS s i k) = cand (L s) i k := by
  unfold candS cand; split
  · rw [L_append, L_drop]; rfl
  · rw [L_drop]
theorem beq_L (a b : ByteArray) : (a.toList == b.toList) = decide (L a = L b) := by
  rw [toList_L, toList_L, Bool.eq_iff_iff]; simp
/-- The tests of one name: none hits, or one. -/
theorem hit_none {d : Int} {s n : ByteArray} (h : hit d (L s) (L n) = 0) : (nameE (L n) != 0) = true ∨ (nameE (L n) = 0 ∧ ((wrS d n).toList == s.toList) = false ∧ ((whS d n).toList == s.toList) = false) := by
  unfold hit at h
  by_cases hn : nameE (L n) = 0
  · right
    rw [if_neg (by simpa using hn)] at h
    by_cases h1 : wrL d (L n) = L s
    · rw [if_pos h1] at h; cases h
    · rw [if_neg h1] at h
      by_cases h2 : whtL d (L n) = L s
      · rw [if_pos h2] at h; cases h
      · exact ⟨hn, by rw [beq_L, L_wrS]; exact decide_eq_false h1, by rw [beq_L, L_whS]; exact decide_eq_false h2⟩
  · left; exact bne_iff_ne.2 hn
theorem hit_some {d : Int} {s n : ByteArray} (h : hit d (L s) (L n) ≠ 0) : nameE (L n) = 0 ∧ (((wrS d n).toList == s.toList) = true ∧ hit d (L s) (L n) = 1 ∨ ((wrS d n).toList == s.toList) = false ∧ ((whS d n).toList == s.toList) = true ∧ hit d (L s) (L n) = 2) := by
  unfold hit at h ⊢
  by_cases hn : nameE (L n) = 0
  · rw [if_neg (by simpa using hn)] at h ⊢
    refine ⟨hn, ?_⟩
    by_cases h1 : wrL d (L n) = L s
    · left; rw [if_pos h1]; exact ⟨by rw [beq_L, L_wrS]; exact decide_eq_true h1, rfl⟩
    · rw [if_neg h1] at h ⊢
      right
      by_cases h2 : whtL d (L n) = L s
      · rw [if_pos h2]; exact ⟨by rw [beq_L, L_wrS]; exact decide_eq_false h1, by rw [beq_L, L_whS]; exact decide_eq_true h2, rfl⟩
      · rw [if_neg h2] at h; exact absurd rfl h
  · rw [if_pos hn] at h; exact absurd rfl h


/-- No name that was tried so far is one. -/
def HBef (d : Int) (s : ByteArray) (k : Nat) : Prop := ∀ i, i < k → ∀ m, m < 2 → hit d (L s) (cand (L s) i m) = 0
def HIn (d : Int) (s : ByteArray) (i k : Nat) : Prop := ∀ m, m < k → hit d (L s) (cand (L s) i m) = 0
theorem HBef.step {d : Int} {s : ByteArray} {k : Nat} (h : HBef d s k) (hi : HIn d s k 2) : HBef d s (k + 1) := by
  intro i hik m hm
  by_cases e : i = k
  · subst e; exact hi m hm
  · exact h i (by omega) m hm
theorem HIn.step {d : Int} {s : ByteArray} {i k : Nat} (h : HIn d s i k) (hi : hit d (L s) (L (candS s i k)) = 0) : HIn d s i (k + 1) := by
  intro m hm
  by_cases e : m = k
  · subst e; rw [← L_cand]; exact hi
  · exact h m (by omega)
theorem bk_hit {d : Int} {s n : ByteArray} (h0 : askE d (L s) = 0) (h1 : ¬ (d = 3 ∧ L s = opqL)) (h2 : ¬ (d = 3 ∧ L s = plnkL)) (h : hit d (L s) (L n) ≠ 0) :
    bkS d s = n ∧ bkW d s = hit d (L s) (L n) ∧ bkE d s = 0 := by
  obtain ⟨e1, e2, e3⟩ := bk_of (hit_back h0 h1 h2 h); exact ⟨e1, e2, e3⟩
theorem bk_none {d : Int} {s : ByteArray} (h0 : askE d (L s) = 0) (h1 : ¬ (d = 3 ∧ L s = opqL)) (h2 : ¬ (d = 3 ∧ L s = plnkL)) (h : HBef d s s.size)
    (h3 : ((wrS d ⟨#[46, 119, 104, 46]⟩).toList == s.toList) = false) (h4 : ((whS d ⟨#[46, 119, 104, 46]⟩).toList == s.toList) = false) :
    bkS d s = ⟨#[]⟩ ∧ bkW d s = 0 ∧ bkE d s = 6 := by
  rw [beq_L, L_wrS] at h3; rw [beq_L, L_whS] at h4
  exact bk_of (nohit_back h0 h1 h2 (fun i hi m hm => h i (by rw [size_L]; exact hi) m hm) (of_decide_eq_false h3) (of_decide_eq_false h4))
theorem hit_wh1 {d : Int} {s : ByteArray} (h3 : ((wrS d ⟨#[46, 119, 104, 46]⟩).toList == s.toList) = true) : hit d (L s) (L ⟨#[46, 119, 104, 46]⟩) = 1 := by
  rw [beq_L, L_wrS] at h3
  unfold hit; rw [if_neg (by decide), if_pos (of_decide_eq_true h3)]
theorem hit_wh2 {d : Int} {s : ByteArray} (h3 : ((wrS d ⟨#[46, 119, 104, 46]⟩).toList == s.toList) = false) (h4 : ((whS d ⟨#[46, 119, 104, 46]⟩).toList == s.toList) = true) : hit d (L s) (L ⟨#[46, 119, 104, 46]⟩) = 2 := by
  rw [beq_L, L_wrS] at h3; rw [beq_L, L_whS] at h4
  unfold hit; rw [if_neg (by decide), if_neg (of_decide_eq_false h3), if_pos (of_decide_eq_true h4)]
theorem extract_le (s : ByteArray) (k : Nat) : (s.extract k s.size).size ≤ s.size := by
  have := size_L s; rw [size_L, L_drop, List.length_drop]; omega
theorem candS_le (s : ByteArray) (i k : Nat) : (candS s i k).size ≤ s.size + 4 := by
  unfold candS; have h1 := size_L s
  split
  · rw [size_L, L_append, List.length_append, L_drop, List.length_drop]; have : (L ⟨#[46, 119, 104, 46]⟩).length = 4 := rfl; omega
  · have := extract_le s i; omega

set_option maxHeartbeats 1000000 in
theorem refBackLoop (d : Int) (s : ByteArray) (w : World) (hs : s.size ≤ 900000) (h : askE d (L s) = 0) (h1 : ¬ (d = 3 ∧ L s = opqL)) (h2 : ¬ (d = 3 ∧ L s = plnkL))
    (h3 : (d == 3) = false ∨ (d == 3) = true ∧ (s.toList == [46, 119, 104, 46, 46, 119, 104, 46, 111, 112, 113]) = false ∧ (s.toList == [46, 119, 104, 46, 46, 119, 104, 46, 112, 108, 110, 107]) = false) :
    Ret Tryd.prog 16 #[.int .i64 d, .string s] w (.tuple #[.string (bkS d s), .int .i64 (bkW d s), .int .i64 (bkE d s)]) := by
  unfold Ret
  have H1 := Lib.hid h1; have H2 := Lib.hid h2; have H0 := Lib.hid h
  clear h1 h2
  rcases h3 with h3 | ⟨h3, h4, h5⟩
  all_goals
    go_enter Tryd.func16, Tryd.ntmps16
    go_wp2_with (first | (go_at_call 35; refine (refAsked _ _ _ (by omega)).mono ?_; rintro e w' ⟨rfl, rfl⟩))
    go_loop [8] (fun i => ∃ k : Nat, k ≤ s.size ∧ i = .int .i64 k ∧ HBef d s k) (fun i => s.size - (intOf i).toNat)
    case atStart => exact ⟨0, Nat.zero_le _, rfl, fun i hi => absurd hi (by omega)⟩
    case round =>
      obtain ⟨k, hk, rfl, hb⟩ := hrel
      have HB := Lib.hid hb; clear hb
      by_cases hlt : k < s.size
      · go_wp2
        go_loop [9] (fun j => ∃ m : Nat, m ≤ 2 ∧ j = .int .i64 m ∧ HIn d s k m) (fun j => 2 - (intOf j).toNat)
        case atStart => exact ⟨0, Nat.zero_le _, rfl, fun i hi => absurd hi (by omega)⟩
        case round =>
          obtain ⟨m, hm, rfl, hi⟩ := hrel
          have HI := Lib.hid hi; clear hi
          by_cases hm2 : m < 2
          · have hz := candS_le s k m
            by_cases ht : hit d (L s) (L (candS s k m)) = 0
            · have HT := Lib.hid (HI.out.step ht)
              have hh := hit_none ht
              clear ht HI
              obtain rfl | rfl : m = 0 ∨ m = 1 := by omega
              · have ec : candS s k 0 = s.extract k s.size := rfl
                rw [ec] at hh hz; clear ec
                rcases hh with hh | ⟨hh1, hh2, hh3⟩
                all_goals
                  go_wp2_with (first | (go_at_call 23; refine (refName _ _ (by omega)).mono ?_; rintro e w' ⟨rfl, rfl⟩) | (go_at_call 37; refine (refWritten _ _ _ (by omega)).mono ?_; rintro e w' ⟨rfl, rfl⟩) | (go_at_call 38; refine (refWhite _ _ _ (by omega)).mono ?_; rintro e w' ⟨rfl, rfl⟩))
                  go_round
                  case rel => exact ⟨1, by omega, rfl, HT.out⟩
                  case measure => simp [intOf]
              · have ec : candS s k 1 = ⟨#[46, 119, 104, 46]⟩ ++ s.extract k s.size := rfl
                rw [ec] at hh hz; clear ec
                have hz2 := extract_le s k
                rcases hh with hh | ⟨hh1, hh2, hh3⟩
                all_goals
                  go_wp2_with (first | (go_at_call 23; refine (refName _ _ (by omega)).mono ?_; rintro e w' ⟨rfl, rfl⟩) | (go_at_call 37; refine (refWritten _ _ _ (by omega)).mono ?_; rintro e w' ⟨rfl, rfl⟩) | (go_at_call 38; refine (refWhite _ _ _ (by omega)).mono ?_; rintro e w' ⟨rfl, rfl⟩))
                  go_round
                  case rel => exact ⟨2, by omega, rfl, HT.out⟩
                  case measure => simp [intOf]
            · have HV := Lib.hid (bk_hit H0.out H1.out H2.out ht)
              have hh := hit_some ht
              clear ht HI HB
              obtain rfl | rfl : m = 0 ∨ m = 1 := by omega
              · have ec : candS s k 0 = s.extract k s.size := rfl
                rw [ec] at hh hz HV; clear ec
                obtain ⟨hh0, ⟨hh1, hh2⟩ | ⟨hh1, hh2, hh3⟩⟩ := hh
                all_goals
                  go_wp2_with (first | (go_at_call 23; refine (refName _ _ (by omega)).mono ?_; rintro e w' ⟨rfl, rfl⟩) | (go_at_call 37; refine (refWritten _ _ _ (by omega)).mono ?_; rintro e w' ⟨rfl, rfl⟩) | (go_at_call 38; refine (refWhite _ _ _ (by omega)).mono ?_; rintro e w' ⟨rfl, rfl⟩))
                  go_ret3
                  exact ⟨by obtain ⟨e1, e2, e3⟩ := HV.out; rw [e1, e2, e3]; (first | rw [hh2] | rw [hh3]); rfl, rfl⟩
              · have ec : candS s k 1 = ⟨#[46, 119, 104, 46]⟩ ++ s.extract k s.size := rfl
                rw [ec] at hh hz HV; clear ec
                have hz2 := extract_le s k
                obtain ⟨hh0, ⟨hh1, hh2⟩ | ⟨hh1, hh2, hh3⟩⟩ := hh
                all_goals
                  go_wp2_with (first | (go_at_call 23; refine (refName _ _ (by omega)).mono ?_; rintro e w' ⟨rfl, rfl⟩) | (go_at_call 37; refine (refWritten _ _ _ (by omega)).mono ?_; rintro e w' ⟨rfl, rfl⟩) | (go_at_call 38; refine (refWhite _ _ _ (by omega)).mono ?_; rintro e w' ⟨rfl, rfl⟩))
                  go_ret3
                  exact ⟨by obtain ⟨e1, e2, e3⟩ := HV.out; rw [e1, e2, e3]; (first | rw [hh2] | rw [hh3]); rfl, rfl⟩
          · obtain rfl : m = 2 := by omega
            go_wp2
            go_round
            case rel => exact ⟨k + 1, by omega, by go_num, HB.out.step HI.out⟩
            case measure => simp [intOf]; omega
      · obtain rfl : k = s.size := by omega
        cases hw1 : (wrS d ⟨#[46, 119, 104, 46]⟩).toList == s.toList
        · cases hw2 : (whS d ⟨#[46, 119, 104, 46]⟩).toList == s.toList
          · have HV := Lib.hid (bk_none H0.out H1.out H2.out HB.out hw1 hw2)
            clear HB
            go_wp2_with (first | (go_at_call 37; refine (refWritten _ _ _ (by decide)).mono ?_; rintro e w' ⟨rfl, rfl⟩) | (go_at_call 38; refine (refWhite _ _ _ (by decide)).mono ?_; rintro e w' ⟨rfl, rfl⟩))
            go_ret3
            exact ⟨by obtain ⟨e1, e2, e3⟩ := HV.out; rw [e1, e2, e3]; rfl, rfl⟩
          · have HV := Lib.hid (bk_hit H0.out H1.out H2.out (by rw [hit_wh2 hw1 hw2]; decide))
            have HV2 := Lib.hid (hit_wh2 hw1 hw2)
            clear HB
            go_wp2_with (first | (go_at_call 37; refine (refWritten _ _ _ (by decide)).mono ?_; rintro e w' ⟨rfl, rfl⟩) | (go_at_call 38; refine (refWhite _ _ _ (by decide)).mono ?_; rintro e w' ⟨rfl, rfl⟩))
            go_ret3
            exact ⟨by obtain ⟨e1, e2, e3⟩ := HV.out; rw [e1, e2, e3, HV2.out]; rfl, rfl⟩
        · have HV := Lib.hid (bk_hit H0.out H1.out H2.out (by rw [hit_wh1 hw1]; decide))
          have HV2 := Lib.hid (hit_wh1 hw1)
          clear HB
          go_wp2_with (first | (go_at_call 37; refine (refWritten _ _ _ (by decide)).mono ?_; rintro e w' ⟨rfl, rfl⟩) | (go_at_call 38; refine (refWhite _ _ _ (by decide)).mono ?_; rintro e w' ⟨rfl, rfl⟩))
          go_ret3
          exact ⟨by obtain ⟨e1, e2, e3⟩ := HV.out; rw [e1, e2, e3, HV2.out]; rfl, rfl⟩

theorem refBack (d : Int) (s : ByteArray) (w : World) (hs : s.size ≤ 900000) : Ret Tryd.prog 16 #[.int .i64 d, .string s] w (.tuple #[.string (bkS d s), .int .i64 (bkW d s), .int .i64 (bkE d s)]) := by
  by_cases h : askE d (L s) = 0
  case neg =>
    unfold Ret
    obtain ⟨e1, e2, e3⟩ := bk_of (d := d) (s := s) (x := []) (y := 0) (z := askE d (L s)) (by unfold backT; rw [if_pos h])
    rw [e1, e2, e3]; clear e1 e2 e3
    have h1 : (askE d (L s) != 0) = true := bne_iff_ne.2 h
    clear h
    go_enter Tryd.func16, Tryd.ntmps16
    go_wp2_with (first | (go_at_call 35; refine (refAsked _ _ _ (by omega)).mono ?_; rintro e w' ⟨rfl, rfl⟩))
    go_ret3
    exact ⟨rfl, rfl⟩
  by_cases hd : d = 3
  case neg =>
    exact refBackLoop d s w hs h (fun x => hd x.1) (fun x => hd x.1) (.inl (beq_eq_false_iff_ne.2 hd))
  by_cases ho : L s = opqL
  · unfold Ret
    subst hd
    have hw : whL.isPrefixOf (L s) = true := by rw [ho]; rfl
    obtain ⟨e1, e2, e3⟩ := bk_of (d := 3) (s := s) (x := []) (y := 3) (z := 0) (by unfold backT; rw [if_neg (by simpa using h), if_neg (by simp [hw]), if_pos ho])
    rw [e1, e2, e3]; clear e1 e2 e3
    have h1 : s.toList = [46, 119, 104, 46, 46, 119, 104, 46, 111, 112, 113] := by rw [toList_L]; exact ho
    clear ho hw
    go_enter Tryd.func16, Tryd.ntmps16
    go_wp2_with (first | (go_at_call 35; refine (refAsked _ _ _ (by omega)).mono ?_; rintro e w' ⟨rfl, rfl⟩))
    go_ret3
    exact ⟨rfl, rfl⟩
  by_cases hk : L s = plnkL
  · unfold Ret
    subst hd
    have hw : whL.isPrefixOf (L s) = true := by rw [hk]; rfl
    obtain ⟨e1, e2, e3⟩ := bk_of (d := 3) (s := s) (x := []) (y := 4) (z := 0) (by unfold backT; rw [if_neg (by simpa using h), if_neg (by simp [hw]), if_neg ho, if_pos hk])
    rw [e1, e2, e3]; clear e1 e2 e3
    have h1 : s.toList = [46, 119, 104, 46, 46, 119, 104, 46, 112, 108, 110, 107] := by rw [toList_L]; exact hk
    clear ho hk hw
    go_enter Tryd.func16, Tryd.ntmps16
    go_wp2_with (first | (go_at_call 35; refine (refAsked _ _ _ (by omega)).mono ?_; rintro e w' ⟨rfl, rfl⟩))
    go_ret3
    exact ⟨rfl, rfl⟩
  · refine refBackLoop d s w hs h (fun x => ho x.2) (fun x => hk x.2) (.inr ⟨beq_iff_eq.2 hd, ?_, ?_⟩)
    · rw [toList_L]; simpa [opqL] using ho
    · rw [toList_L]; simpa [plnkL] using hk
end Go.Proofs.YtnemfapegbehlaaDoor
