/- Escape, plain laws: written forms are different, come back, and mean what they say. -/
import Derived.Test.YtnemfapegbehlaaDoorEscB
namespace Go.Proofs.YtnemfapegbehlaaDoor
open Go.RowKit

theorem e2 (l : List UInt8) : wrL 3 l = if whL.isPrefixOf l = true then wxL ++ l.drop 4 else l := by unfold wrL; simp
theorem wr_other {d : Int} (hd : d ≠ 3) (l : List UInt8) : wrL d l = l := by unfold wrL; simp [hd]
theorem wht_other {d : Int} (hd : d ≠ 3) (l : List UInt8) : whtL d l = l := by unfold whtL; simp [hd]
theorem wht3 (l : List UInt8) : whtL 3 l = whL ++ wrL 3 l := rfl
theorem pre_wx (t : List UInt8) : whL.isPrefixOf (wxL ++ t) = true := by simp [whL, wxL]

theorem wrL_inj {d : Int} {a b : List UInt8} (h : wrL d a = wrL d b) : a = b := by
  by_cases hd : d = 3
  · subst hd
    rw [e2, e2] at h
    by_cases ha : whL.isPrefixOf a = true
    · rw [if_pos ha] at h
      obtain ⟨s, rfl⟩ := pre_iff.1 ha
      have hs : (whL ++ s).drop 4 = s := rfl
      by_cases hb : whL.isPrefixOf b = true
      · rw [if_pos hb] at h
        obtain ⟨t, rfl⟩ := pre_iff.1 hb
        have ht : (whL ++ t).drop 4 = t := rfl
        rw [hs, ht] at h
        rw [List.append_cancel_left h]
      · rw [if_neg hb] at h
        exact absurd (h ▸ pre_wx _) hb
    · rw [if_neg ha] at h
      by_cases hb : whL.isPrefixOf b = true
      · rw [if_pos hb] at h
        exact absurd (h.symm ▸ pre_wx _) ha
      · rw [if_neg hb] at h; exact h
  · rw [wr_other hd, wr_other hd] at h; exact h
theorem whtL_inj {d : Int} {a b : List UInt8} (h : whtL d a = whtL d b) : a = b := by
  by_cases hd : d = 3
  · subst hd; rw [wht3, wht3] at h; exact wrL_inj (List.append_cancel_left h)
  · rw [wht_other hd, wht_other hd] at h; exact h
theorem wr_len (l : List UInt8) : (whtL 3 l).length = 4 + (wrL 3 l).length := by rw [wht3, List.length_append]; rfl
theorem wr_ne_wht {a b : List UInt8} : wrL 3 b ≠ whtL 3 a := by
  intro h
  rw [wht3, e2 b] at h
  by_cases hb : whL.isPrefixOf b = true
  · rw [if_pos hb] at h
    have h2 : wrL 3 a = [46, 119, 104, 46, 120] ++ b.drop 4 := by
      have : whL ++ ([46, 119, 104, 46, 120] ++ b.drop 4) = whL ++ wrL 3 a := h
      exact (List.append_cancel_left this).symm
    rw [e2] at h2
    by_cases ha : whL.isPrefixOf a = true
    · rw [if_pos ha] at h2; simp [wxL] at h2
    · rw [if_neg ha] at h2; apply ha; rw [h2]; simp [whL]
  · rw [if_neg hb] at h; apply hb; rw [h]; exact pre_self _ _
theorem wr_ne_opq (a : List UInt8) : wrL 3 a ≠ opqL ∧ wrL 3 a ≠ plnkL := by
  rw [e2]
  by_cases ha : whL.isPrefixOf a = true
  · rw [if_pos ha]; constructor <;> (intro h; simp [wxL, opqL, plnkL] at h)
  · rw [if_neg ha]; constructor <;> (intro h; apply ha; rw [h]; decide)
theorem wht_ne_opq (a : List UInt8) : whtL 3 a ≠ opqL ∧ whtL 3 a ≠ plnkL := by
  rw [wht3, e2]
  by_cases ha : whL.isPrefixOf a = true
  · rw [if_pos ha]; constructor <;> (intro h; simp [wxL, whL, opqL, plnkL] at h)
  · rw [if_neg ha]; constructor
    · intro h
      have : a = [46, 119, 104, 46, 111, 112, 113] := List.append_cancel_left (show whL ++ a = whL ++ [46, 119, 104, 46, 111, 112, 113] from h)
      apply ha; rw [this]; decide
    · intro h
      have : a = [46, 119, 104, 46, 112, 108, 110, 107] := List.append_cancel_left (show whL ++ a = whL ++ [46, 119, 104, 46, 112, 108, 110, 107] from h)
      apply ha; rw [this]; decide
theorem any_append_false {p : UInt8 → Bool} {l m : List UInt8} (h : l.any p = false) (k : m.any p = false) : (l ++ m).any p = false := by rw [List.any_append, h, k]; rfl
theorem wr_any {d : Int} {l : List UInt8} (h : l.any (pB badC) = false) : (wrL d l).any (pB badC) = false := by
  unfold wrL; split
  · exact any_append_false (by decide) (any_drop h 4)
  · exact h
theorem nameE_of {l : List UInt8} (h : l.any (pB badC) = false) (hl : l.length ≤ 24) (h0 : ¬ (l = [] ∨ l = [46] ∨ l = [46, 46])) : nameE l = 0 := nameE_ok h0 h (by omega)
theorem nameE_wr {d : Int} {l : List UInt8} (h : nameE l = 0) (hl : (wrL d l).length ≤ 24) : nameE (wrL d l) = 0 := by
  obtain ⟨a, b, c, e, f⟩ := nameE_zero h
  refine nameE_of (wr_any e) hl ?_
  unfold wrL; split
  · simp [wxL]
  · simp only [not_or]; exact ⟨a, b, c⟩
theorem nameE_wht {d : Int} {l : List UInt8} (h : nameE l = 0) (hl : (whtL d l).length ≤ 24) : nameE (whtL d l) = 0 := by
  obtain ⟨a, b, c, e, f⟩ := nameE_zero h
  by_cases hd : d = 3
  · subst hd
    refine nameE_of (any_append_false (by decide) (wr_any e)) hl ?_
    rw [wht3]; simp [whL]
  · rw [wht_other hd]; exact h
theorem askE_zero {d : Int} {l : List UInt8} (h : askE d l = 0) : (1 ≤ d ∧ d ≤ 4) ∧ nameE l = 0 := by
  unfold askE at h; split at h
  · exact ⟨by assumption, h⟩
  · cases h
theorem askE_of {d : Int} {l : List UInt8} (h1 : 1 ≤ d ∧ d ≤ 4) (h : nameE l = 0) : askE d l = 0 := by unfold askE; rw [if_pos h1]; exact h

/-- What comes back of a written name, and of a written whiteout. -/
theorem back_wr {d : Int} {a : List UInt8} (h : askE d a = 0) (hl : (wrL d a).length ≤ 24) : backT d (wrL d a) = (a, 1, 0) := by
  obtain ⟨hd, hn⟩ := askE_zero h
  have hh : hit d (wrL d a) a = 1 := by unfold hit; rw [if_neg (by simpa using hn), if_pos rfl]
  have := hit_back (d := d) (raw := wrL d a) (name := a) (askE_of hd (nameE_wr hn hl)) (by rintro ⟨rfl, h⟩; exact (wr_ne_opq a).1 h) (by rintro ⟨rfl, h⟩; exact (wr_ne_opq a).2 h) (by rw [hh]; decide)
  rw [hh] at this; exact this
theorem back_wht {a : List UInt8} (h : askE 3 a = 0) (hl : (whtL 3 a).length ≤ 24) : backT 3 (whtL 3 a) = (a, 2, 0) := by
  obtain ⟨hd, hn⟩ := askE_zero h
  have hh : hit 3 (whtL 3 a) a = 2 := by unfold hit; rw [if_neg (by simpa using hn), if_neg wr_ne_wht, if_pos rfl]
  have := hit_back (d := 3) (raw := whtL 3 a) (name := a) (askE_of hd (nameE_wht hn hl)) (by rintro ⟨_, h⟩; exact (wht_ne_opq a).1 h) (by rintro ⟨_, h⟩; exact (wht_ne_opq a).2 h) (by rw [hh]; decide)
  rw [hh] at this; exact this

/-- What Back says of a name, is written so. -/
def Means (d : Int) (raw n : List UInt8) (w : Int) : Prop :=
  w = 1 ∧ askE d n = 0 ∧ wrL d n = raw ∨ w = 2 ∧ d = 3 ∧ askE d n = 0 ∧ whtL d n = raw ∨ w = 3 ∧ d = 3 ∧ n = [] ∧ raw = opqL ∨ w = 4 ∧ d = 3 ∧ n = [] ∧ raw = plnkL
theorem back_means {d : Int} {raw : List UInt8} : ((backT d raw).2.2 ≠ 0 ∧ (backT d raw).1 = [] ∧ (backT d raw).2.1 = 0) ∨ ((backT d raw).2.2 = 0 ∧ askE d raw = 0 ∧ Means d raw (backT d raw).1 (backT d raw).2.1) := by
  unfold backT
  by_cases h0 : askE d raw ≠ 0
  · rw [if_pos h0]; exact .inl ⟨h0, rfl, rfl⟩
  rw [if_neg h0]
  have h0' : askE d raw = 0 := by simpa using h0
  obtain ⟨hd, hn⟩ := askE_zero h0'
  by_cases h1 : d ≠ 3 ∨ whL.isPrefixOf raw = false
  · rw [if_pos h1]
    refine .inr ⟨rfl, h0', .inl ⟨rfl, h0', ?_⟩⟩
    rcases h1 with h1 | h1
    · exact wr_other h1 _
    · unfold wrL; rw [if_neg (by simp [h1])]
  rw [if_neg h1]
  simp only [not_or, ne_eq, Classical.not_not] at h1
  obtain ⟨rfl, hp⟩ := h1
  have hp : whL.isPrefixOf raw = true := by simpa using hp
  by_cases h2 : raw = opqL
  · rw [if_pos h2]; exact .inr ⟨rfl, h0', .inr (.inr (.inl ⟨rfl, rfl, rfl, h2⟩))⟩
  rw [if_neg h2]
  by_cases h3 : raw = plnkL
  · rw [if_pos h3]; exact .inr ⟨rfl, h0', .inr (.inr (.inr ⟨rfl, rfl, rfl, h3⟩))⟩
  rw [if_neg h3]
  obtain ⟨r, rfl⟩ := pre_iff.1 hp
  have hr : (whL ++ r).drop 4 = r := rfl
  have hlr : (whL ++ r).length = 4 + r.length := by rw [List.length_append]; rfl
  rw [hr]
  by_cases h4 : wxL.isPrefixOf r = true
  · rw [if_pos h4]
    obtain ⟨t, rfl⟩ := pre_iff.1 h4
    have hlt : (wxL ++ t).length = 9 + t.length := by rw [List.length_append]; rfl
    have hd13 : (whL ++ (wxL ++ t)).drop 13 = t := rfl
    rw [hd13]
    exact .inr ⟨rfl, h0', .inr (.inl ⟨rfl, rfl, askE_of hd (nameE_wh 13 hn (by omega) rfl (by omega)), rfl⟩)⟩
  rw [if_neg h4]
  by_cases h5 : wxL.isPrefixOf (whL ++ r) = true
  · rw [if_pos h5]
    obtain ⟨t, ht⟩ := pre_iff.1 h5
    have hlt : (wxL ++ t).length = 9 + t.length := by rw [List.length_append]; rfl
    rw [ht] at hn hlr h0' ⊢
    have hd9 : (wxL ++ t).drop 9 = t := rfl
    rw [hd9]
    exact .inr ⟨rfl, h0', .inl ⟨rfl, askE_of hd (nameE_wh 9 hn (by omega) rfl (by omega)), rfl⟩⟩
  rw [if_neg h5]
  by_cases h6 : whL.isPrefixOf r = true ∨ nameE r ≠ 0
  · rw [if_pos h6]; exact .inl ⟨by decide, rfl, rfl⟩
  · rw [if_neg h6]
    simp only [not_or, ne_eq, Classical.not_not] at h6
    refine .inr ⟨rfl, h0', .inr (.inl ⟨rfl, rfl, askE_of hd h6.2, ?_⟩)⟩
    rw [wht3, e2, if_neg h6.1]

theorem fit_zero {s : ByteArray} {n : Nat} (h : fitE s n = 0) : s.size ≤ n ∧ fitS s n = s := by
  unfold fitE at h; unfold fitS
  by_cases c : n < s.size
  · rw [if_pos c] at h; cases h
  · rw [if_neg c]; exact ⟨by omega, rfl⟩
theorem fit_of {s : ByteArray} {n : Nat} (h : s.size ≤ n) : fitE s n = 0 ∧ fitS s n = s := by
  unfold fitE fitS; rw [if_neg (by omega), if_neg (by omega)]; exact ⟨rfl, rfl⟩
theorem nm_zero {d : Int} {s : ByteArray} (h : nmE d s = 0) : askE d (L s) = 0 ∧ nmS d s = wrS d s ∧ (wrL d (L s)).length ≤ 24 := by
  unfold nmE at h; unfold nmS
  by_cases c : askE d (L s) = 0
  · rw [if_pos c] at h ⊢
    obtain ⟨h1, h2⟩ := fit_zero h
    exact ⟨c, h2, by rw [← L_wrS, ← size_L]; exact h1⟩
  · rw [if_neg c] at h; exact absurd h c
theorem wt_zero {d : Int} {s : ByteArray} (h : wtE d s = 0) : askE d (L s) = 0 ∧ wtS d s = whS d s ∧ (whtL d (L s)).length ≤ 24 := by
  unfold wtE at h; unfold wtS
  by_cases c : askE d (L s) = 0
  · rw [if_pos c] at h ⊢
    obtain ⟨h1, h2⟩ := fit_zero h
    exact ⟨c, h2, by rw [← L_whS, ← size_L]; exact h1⟩
  · rw [if_neg c] at h; exact absurd h c
theorem nm_of {d : Int} {s : ByteArray} (h : askE d (L s) = 0) (hl : (wrL d (L s)).length ≤ 24) : nmE d s = 0 ∧ nmS d s = wrS d s := by
  unfold nmE nmS; rw [if_pos h, if_pos h]; exact fit_of (by rw [size_L, L_wrS]; exact hl)
theorem wt_of {d : Int} {s : ByteArray} (h : askE d (L s) = 0) (hl : (whtL d (L s)).length ≤ 24) : wtE d s = 0 ∧ wtS d s = whS d s := by
  unfold wtE wtS; rw [if_pos h, if_pos h]; exact fit_of (by rw [size_L, L_whS]; exact hl)
end Go.Proofs.YtnemfapegbehlaaDoor
