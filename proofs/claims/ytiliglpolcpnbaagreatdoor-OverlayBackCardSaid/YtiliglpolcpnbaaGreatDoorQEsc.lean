/- Escape: contracts of names. -/
/- Escape, plain law: what Back returns, and that the search of all names finds it. -/
import Derived.Test.YtiliglpolcpnbaaGreatDoorQBase
namespace Go.Proofs.YtiliglpolcpnbaaGreatDoor
open Go.RowKit

/-- The error of a name. -/
def nameE (l : List UInt8) : Int := if l = [] ∨ l = [46] ∨ l = [46, 46] ∨ l.any (pB badC) = true then 6 else if 24 < l.length then 3 else 0

theorem nameE_bad {l : List UInt8} (h : l.any (pB badC) = true) : nameE l = 6 := by
  unfold nameE; rw [if_pos (Or.inr (Or.inr (Or.inr h)))]
theorem nameE_long {l : List UInt8} (h0 : ¬ (l = [] ∨ l = [46] ∨ l = [46, 46])) (h : l.any (pB badC) = false) (hl : 24 < l.length) : nameE l = 3 := by
  simp only [not_or] at h0
  unfold nameE; rw [if_neg (by simp [h0, h]), if_pos hl]
theorem nameE_ok {l : List UInt8} (h0 : ¬ (l = [] ∨ l = [46] ∨ l = [46, 46])) (h : l.any (pB badC) = false) (hl : ¬ 24 < l.length) : nameE l = 0 := by
  simp only [not_or] at h0
  unfold nameE; rw [if_neg (by simp [h0, h]), if_neg hl]

theorem pathsName (s : ByteArray) (w : World) :
    RetB Tryz.prog 137 #[.string s] w (.int .i64 (nameE (L s))) := by
  unfold RetB
  go_enter Tryz.func137, Tryz.ntmps137
  go_wp2_with (go_at_call 167; refine (strContainsFunc _ _ badFn s w).mono ?_; rintro e w' ⟨rfl, hb⟩)
  all_goals go_ret
  all_goals refine ⟨ret_val ?_, ?_⟩
  all_goals first | exact Below.refl _ _ | exact hb | skip
  all_goals simp_all [nameE, toList_L, size_L]
  all_goals rw [if_neg (by simp_all)]
  all_goals split <;> omega

theorem badByte (b : UInt8) : pB badC b = (decide ((b.toNat : Int) < 33) || decide (126 < (b.toNat : Int)) || ((b.toNat : Int) == 47)) := by
  unfold pB badC; rw [Bool.eq_iff_iff]; simp

theorem refNameShort (s : ByteArray) (w : World) (h : L s = [] ∨ L s = [46] ∨ L s = [46, 46]) :
    Ret Tryz.prog 98 #[.string s] w (.int .i64 (nameE (L s))) := by
  unfold Ret
  have hn : nameE (L s) = 6 := by unfold nameE; rw [if_pos]; rcases h with h | h | h <;> simp [h]
  rw [hn]; clear hn
  rw [← toList_L] at h
  rcases h with h | h | h
  all_goals
    go_enter Tryz.func98, Tryz.ntmps98
    go_wp2
    go_ret
    exact ⟨rfl, rfl⟩
theorem refName (s : ByteArray) (w : World) (hs : s.size ≤ 1000000) :
    Ret Tryz.prog 98 #[.string s] w (.int .i64 (nameE (L s))) := by
  by_cases h0 : L s = [] ∨ L s = [46] ∨ L s = [46, 46]
  · exact refNameShort s w h0
  have HN := Lib.hid h0
  unfold Ret
  simp only [not_or, ← toList_L] at h0
  obtain ⟨h1, h2, h3⟩ := h0
  have h1 : s.toList.isEmpty = false := by simpa using h1
  have h2 : (s.toList == [46]) = false := by simpa using h2
  have h3 : (s.toList == [46, 46]) = false := by simpa using h3
  go_enter Tryz.func98, Tryz.ntmps98
  go_wp2
  clear h1 h2 h3
  go_loop [3] (fun i => ∃ k : Nat, k ≤ s.size ∧ i = .int .i64 k ∧ ((L s).take k).any (pB badC) = false) (fun i => s.size - (intOf i).toNat)
  case atStart => exact ⟨0, Nat.zero_le _, rfl, by simp⟩
  case round =>
    obtain ⟨k, hk, rfl, hb⟩ := hrel
    have HB := Lib.hid hb; clear hb
    by_cases hlt : k < s.size
    · cases hb : pB badC (s[k]'hlt)
      · have HN2 := Lib.hid (any_take_succ badC s k hlt HB.out hb); clear HB
        rw [badByte] at hb
        simp only [Bool.or_eq_false_iff, decide_eq_false_iff_not] at hb
        obtain ⟨⟨ha, hb⟩, hc⟩ := hb
        go_wp2
        go_round
        case rel => exact ⟨k + 1, by omega, by go_num, HN2.out⟩
        case measure => simp [intOf]; omega
      · have HN2 := Lib.hid (nameE_bad (List.any_eq_true.2 ⟨s[k]'hlt, by rw [getElem_L]; exact List.getElem_mem _, hb⟩))
        clear HB HN
        rw [badByte] at hb
        simp only [Bool.or_eq_true, decide_eq_true_eq] at hb
        by_cases ha : (s[k].toNat : Int) < 33
        · clear hb
          go_wp2
          go_ret
          exact ⟨by rw [HN2.out]; rfl, rfl⟩
        by_cases hc : 126 < (s[k].toNat : Int)
        · clear hb
          go_wp2
          go_ret
          exact ⟨by rw [HN2.out]; rfl, rfl⟩
        · have hd : ((s[k].toNat : Int) == 47) = true := by simpa [ha, hc] using hb
          clear hb
          go_wp2
          go_ret
          exact ⟨by rw [HN2.out]; rfl, rfl⟩
    · have hb := HB.out
      rw [List.take_of_length_le (by rw [← size_L]; omega)] at hb
      by_cases hl : 24 < s.size
      · have HN2 := Lib.hid (nameE_long HN.out hb (by rw [← size_L]; exact hl))
        clear hb HB
        go_wp2
        go_ret
        exact ⟨by rw [HN2.out]; rfl, rfl⟩
      · have HN2 := Lib.hid (nameE_ok HN.out hb (by rw [← size_L]; exact hl))
        clear hb HB
        go_wp2
        go_ret
        exact ⟨by rw [HN2.out]; rfl, rfl⟩

/-- The error of a dialect and a name. -/
def askE (d : Int) (l : List UInt8) : Int := if 1 ≤ d ∧ d ≤ 4 then nameE l else 2
theorem askE_in {d : Int} {l : List UInt8} (h1 : 1 ≤ d) (h2 : d ≤ 4) : askE d l = nameE l := by unfold askE; rw [if_pos ⟨h1, h2⟩]
theorem askE_out {d : Int} {l : List UInt8} (h : ¬ (1 ≤ d ∧ d ≤ 4)) : askE d l = 2 := by unfold askE; rw [if_neg h]

theorem refDialect (d : Int) (w : World) : Ret Tryz.prog 143 #[.int .i64 d] w (.bool (decide (1 ≤ d ∧ d ≤ 4))) := by
  unfold Ret
  by_cases h1 : 1 ≤ d
  · by_cases h2 : d ≤ 4
    · go_enter Tryz.func143, Tryz.ntmps143
      go_wp2
      go_ret
      exact ⟨by simp [h1, h2], rfl⟩
    · go_enter Tryz.func143, Tryz.ntmps143
      go_wp2
      go_ret
      exact ⟨by simp [h2], rfl⟩
  · rw [show decide (1 ≤ d ∧ d ≤ 4) = false from decide_eq_false (by omega)]
    go_enter Tryz.func143, Tryz.ntmps143
    go_wp2
    go_ret
    exact ⟨rfl, rfl⟩
/-- A written form, if it is not too long. -/
def fitS (s : ByteArray) (n : Nat) : ByteArray := if n < s.size then ⟨#[]⟩ else s
def fitE (s : ByteArray) (n : Nat) : Int := if n < s.size then 17 else 0
def whB : ByteArray := ⟨#[46, 119, 104, 46]⟩
def wxB : ByteArray := ⟨#[46, 119, 104, 46, 46, 119, 104, 46, 120]⟩
/-- The written form of a name, and of its whiteout. -/
def wrS (d : Int) (s : ByteArray) : ByteArray := if d = 3 ∧ hasP s whB = true then wxB ++ s.extract 4 s.size else s
def whS (d : Int) (s : ByteArray) : ByteArray := if d = 3 then whB ++ wrS d s else s

theorem wrS_le (d : Int) (s : ByteArray) : (wrS d s).size ≤ s.size + 9 := by
  unfold wrS; split
  · have h1 := size_L s; rw [size_L, L_append, List.length_append, L_drop, List.length_drop]; have : (L wxB).length = 9 := rfl; omega
  · omega
theorem whS_le (d : Int) (s : ByteArray) : (whS d s).size ≤ s.size + 13 := by
  have := wrS_le d s
  unfold whS; split
  · have h1 := size_L (wrS d s); rw [size_L, L_append, List.length_append]; have : (L whB).length = 4 := rfl; omega
  · omega
theorem refBegins (s t : ByteArray) (w : World) (_hs : s.size ≤ 1000000) : Ret Tryz.prog 146 #[.string s, .string t] w (.bool (hasP s t)) := by
  unfold Ret
  by_cases h : t.size ≤ s.size
  · have h1 := hasP_long h
    go_enter Tryz.func146, Tryz.ntmps146
    go_wp2
    go_ret
    exact ⟨rfl, rfl⟩
  · have h1 := hasP_short h
    go_enter Tryz.func146, Tryz.ntmps146
    go_wp2
    go_ret
    exact ⟨by simp [h1], rfl⟩
/-- What Name and White return. -/
def nmE (d : Int) (s : ByteArray) : Int := if askE d (L s) = 0 then fitE (wrS d s) 24 else askE d (L s)
def nmS (d : Int) (s : ByteArray) : ByteArray := if askE d (L s) = 0 then fitS (wrS d s) 24 else ⟨#[]⟩
def wtE (d : Int) (s : ByteArray) : Int := if askE d (L s) = 0 then fitE (whS d s) 24 else askE d (L s)
def wtS (d : Int) (s : ByteArray) : ByteArray := if askE d (L s) = 0 then fitS (whS d s) 24 else ⟨#[]⟩

end Go.Proofs.YtiliglpolcpnbaaGreatDoor

namespace Go.Proofs.YtiliglpolcpnbaaGreatDoor
open Go.RowKit

def whL : List UInt8 := [46, 119, 104, 46]
def wxL : List UInt8 := [46, 119, 104, 46, 46, 119, 104, 46, 120]
def opqL : List UInt8 := [46, 119, 104, 46, 46, 119, 104, 46, 111, 112, 113]
def plnkL : List UInt8 := [46, 119, 104, 46, 46, 119, 104, 46, 112, 108, 110, 107]
def wrL (d : Int) (l : List UInt8) : List UInt8 := if d = 3 ∧ whL.isPrefixOf l = true then wxL ++ l.drop 4 else l
def whtL (d : Int) (l : List UInt8) : List UInt8 := if d = 3 then whL ++ wrL d l else l
theorem L_wrS (d : Int) (s : ByteArray) : L (wrS d s) = wrL d (L s) := by
  unfold wrS wrL
  have e : hasP s whB = whL.isPrefixOf (L s) := rfl
  rw [e]; split
  · rw [L_append, L_drop]; rfl
  · rfl
theorem L_whS (d : Int) (s : ByteArray) : L (whS d s) = whtL d (L s) := by
  unfold whS whtL
  split
  · rw [L_append, L_wrS]; rfl
  · rfl

/-- What Back returns. -/
def backT (d : Int) (raw : List UInt8) : List UInt8 × Int × Int :=
  if askE d raw ≠ 0 then ([], 0, askE d raw)
  else if d ≠ 3 ∨ whL.isPrefixOf raw = false then (raw, 1, 0)
  else if raw = opqL then ([], 3, 0)
  else if raw = plnkL then ([], 4, 0)
  else if wxL.isPrefixOf (raw.drop 4) = true then (whL ++ raw.drop 13, 2, 0)
  else if wxL.isPrefixOf raw = true then (whL ++ raw.drop 9, 1, 0)
  else if whL.isPrefixOf (raw.drop 4) = true ∨ nameE (raw.drop 4) ≠ 0 then ([], 0, 6)
  else (raw.drop 4, 2, 0)

/-- Is a name one whose written form this is (1), or that of its whiteout (2)? -/
def hit (d : Int) (raw name : List UInt8) : Int := if nameE name ≠ 0 then 0 else if wrL d name = raw then 1 else if whtL d name = raw then 2 else 0

theorem pre_iff {p l : List UInt8} : p.isPrefixOf l = true ↔ ∃ t, l = p ++ t := by
  rw [List.isPrefixOf_iff_prefix]; constructor
  · rintro ⟨t, rfl⟩; exact ⟨t, rfl⟩
  · rintro ⟨t, rfl⟩; exact ⟨t, rfl⟩
theorem pre_self (p t : List UInt8) : p.isPrefixOf (p ++ t) = true := pre_iff.2 ⟨t, rfl⟩

theorem hit_back {d : Int} {raw name : List UInt8} (h0 : askE d raw = 0) (h1 : ¬ (d = 3 ∧ raw = opqL)) (h2 : ¬ (d = 3 ∧ raw = plnkL)) (h : hit d raw name ≠ 0) :
    backT d raw = (name, hit d raw name, 0) := by
  unfold hit at h ⊢
  by_cases hn : nameE name ≠ 0
  · rw [if_pos hn] at h; exact absurd rfl h
  rw [if_neg hn] at h ⊢
  unfold backT
  rw [if_neg (by simpa using h0)]
  by_cases hd : d = 3
  · subst hd
    simp only [true_and] at h1 h2
    have e1 : ∀ l, whtL 3 l = whL ++ wrL 3 l := fun l => rfl
    have e2 : ∀ l, wrL 3 l = if whL.isPrefixOf l = true then wxL ++ l.drop 4 else l := fun l => by unfold wrL; simp
    by_cases hw : wrL 3 name = raw
    · rw [if_pos hw]
      rw [e2] at hw
      by_cases hp : whL.isPrefixOf name = true
      · rw [if_pos hp] at hw
        obtain ⟨t, rfl⟩ := pre_iff.1 hp
        have ht : (whL ++ t).drop 4 = t := rfl
        rw [ht] at hw; subst hw
        rw [if_neg (by simp [wxL, whL]), if_neg h1, if_neg h2, if_neg (by simp [wxL]), if_pos (pre_self _ _)]
        rfl
      · rw [if_neg hp] at hw
        subst hw
        rw [if_pos (.inr (Bool.eq_false_iff.2 hp))]
    · rw [if_neg hw] at h ⊢
      by_cases hw2 : whtL 3 name = raw
      · rw [if_pos hw2]
        rw [e1, e2] at hw2
        by_cases hp : whL.isPrefixOf name = true
        · rw [if_pos hp] at hw2
          obtain ⟨t, rfl⟩ := pre_iff.1 hp
          have ht : (whL ++ t).drop 4 = t := rfl
          rw [ht] at hw2; subst hw2
          rw [if_neg (by simp [whL]), if_neg h1, if_neg h2, if_pos (by simp [wxL, whL])]
          rfl
        · rw [if_neg hp] at hw2
          subst hw2
          have hd4 : (whL ++ name).drop 4 = name := rfl
          rw [if_neg (by simp [whL]), if_neg h1, if_neg h2, hd4]
          have hp' : whL.isPrefixOf name = false := Bool.eq_false_iff.2 hp
          have n1 : ¬ wxL.isPrefixOf name = true := by
            intro hx; obtain ⟨t, rfl⟩ := pre_iff.1 hx; simp [whL, wxL] at hp'
          have n2 : ¬ wxL.isPrefixOf (whL ++ name) = true := by
            intro hx; obtain ⟨t, ht⟩ := pre_iff.1 hx
            have : name = [46, 119, 104, 46, 120] ++ t := by simpa [whL, wxL] using ht
            subst this; simp [whL] at hp'
          rw [if_neg n1, if_neg n2, if_neg]
          simp only [not_or]; exact ⟨by simp [hp'], by simpa using hn⟩
      · rw [if_neg hw2] at h; exact absurd rfl h
  · have e2 : ∀ l, wrL d l = l := fun l => by unfold wrL; simp [hd]
    have e1 : ∀ l, whtL d l = l := fun l => by unfold whtL; simp [hd]
    rw [if_pos (.inl hd)]
    rw [e2, e1] at h ⊢
    by_cases hw : name = raw
    · rw [if_pos hw, hw]
    · rw [if_neg hw, if_neg hw] at h; exact absurd rfl h

theorem any_drop {l : List UInt8} {p : UInt8 → Bool} (h : l.any p = false) (n : Nat) : (l.drop n).any p = false := by
  rw [List.any_eq_false] at h ⊢; intro x hx; exact h x (List.mem_of_mem_drop hx)
theorem nameE_zero {l : List UInt8} (h : nameE l = 0) : l ≠ [] ∧ l ≠ [46] ∧ l ≠ [46, 46] ∧ l.any (pB badC) = false ∧ l.length ≤ 24 := by
  unfold nameE at h
  split at h
  · cases h
  · rename_i h1
    split at h
    · cases h
    · rename_i h2
      simp only [not_or] at h1
      exact ⟨h1.1, h1.2.1, h1.2.2.1, by simpa using h1.2.2.2, by omega⟩
theorem nameE_wh {t raw : List UInt8} (n : Nat) (h : nameE raw = 0) (hn : 4 ≤ n) (ht : t = raw.drop n) (hl : n ≤ raw.length) : nameE (whL ++ t) = 0 := by
  obtain ⟨a, b, c, e, f⟩ := nameE_zero h
  apply nameE_ok
  · simp [whL]
  · rw [List.any_append, ht, any_drop e]; decide
  · subst ht; rw [List.length_append, List.length_drop]; have : whL.length = 4 := rfl; omega

/-- The names that are tried. -/
def cand (raw : List UInt8) (i k : Nat) : List UInt8 := if k = 1 then whL ++ raw.drop i else raw.drop i
theorem nohit_back {d : Int} {raw : List UInt8} (h0 : askE d raw = 0) (h1 : ¬ (d = 3 ∧ raw = opqL)) (h2 : ¬ (d = 3 ∧ raw = plnkL))
    (h : ∀ i, i < raw.length → ∀ k, k < 2 → hit d raw (cand raw i k) = 0) (h3 : wrL d whL ≠ raw) (h4 : whtL d whL ≠ raw) : backT d raw = ([], 0, 6) := by
  have hd : 1 ≤ d ∧ d ≤ 4 := by
    unfold askE at h0; split at h0
    · assumption
    · cases h0
  have hn : nameE raw = 0 := by rw [askE_in hd.1 hd.2] at h0; exact h0
  have hz := nameE_zero hn
  have hlen : 0 < raw.length := List.length_pos_iff.2 hz.1
  have hself : wrL d raw ≠ raw := by
    intro e; have := h 0 hlen 0 (by omega)
    unfold hit cand at this; simp [hn, e] at this
  have hd3 : d = 3 := by
    apply Classical.byContradiction; intro hd; apply hself; unfold wrL; simp [hd]
  subst hd3
  simp only [true_and] at h1 h2
  have e2 : ∀ l, wrL 3 l = if whL.isPrefixOf l = true then wxL ++ l.drop 4 else l := fun l => by unfold wrL; simp
  have e1 : ∀ l, whtL 3 l = whL ++ wrL 3 l := fun l => rfl
  have hp : whL.isPrefixOf raw = true := by
    apply Classical.byContradiction; intro hp; apply hself; rw [e2, if_neg hp]
  unfold backT
  rw [if_neg (by simpa using h0), if_neg (by simp [hp]), if_neg h1, if_neg h2]
  obtain ⟨r, rfl⟩ := pre_iff.1 hp
  have hr : (whL ++ r).drop 4 = r := rfl
  have hlr : (whL ++ r).length = 4 + r.length := by rw [List.length_append]; rfl
  rw [hr]
  by_cases c1 : wxL.isPrefixOf r = true
  · exfalso
    obtain ⟨t, rfl⟩ := pre_iff.1 c1
    have hlx : (wxL ++ t).length = 9 + t.length := by rw [List.length_append]; rfl
    by_cases ht : t = []
    · subst ht; exact h4 rfl
    · have hlt : 0 < t.length := List.length_pos_iff.2 ht
      have := h 13 (by omega) 1 (by omega)
      have hc : cand (whL ++ (wxL ++ t)) 13 1 = whL ++ t := rfl
      rw [hc] at this
      have hnn : nameE (whL ++ t) = 0 := nameE_wh 13 hn (by omega) rfl (by omega)
      have hw : whtL 3 (whL ++ t) = whL ++ (wxL ++ t) := rfl
      unfold hit at this
      rw [if_neg (by simpa using hnn), if_pos hw] at this
      split at this <;> cases this
  rw [if_neg c1]
  by_cases c2 : wxL.isPrefixOf (whL ++ r) = true
  · exfalso
    obtain ⟨t, ht⟩ := pre_iff.1 c2
    have hlx : (wxL ++ t).length = 9 + t.length := by rw [List.length_append]; rfl
    rw [ht] at h hn h3 hlr
    by_cases hte : t = []
    · subst hte; exact h3 rfl
    · have hlt : 0 < t.length := List.length_pos_iff.2 hte
      have := h 9 (by omega) 1 (by omega)
      have hc : cand (wxL ++ t) 9 1 = whL ++ t := rfl
      rw [hc] at this
      have hnn : nameE (whL ++ t) = 0 := nameE_wh 9 hn (by omega) rfl (by omega)
      have hw : wrL 3 (whL ++ t) = wxL ++ t := rfl
      unfold hit at this
      rw [if_neg (by simpa using hnn), if_pos hw] at this
      cases this
  rw [if_neg c2, if_pos]
  apply Classical.byContradiction; intro hc
  simp only [not_or, Classical.not_not] at hc
  have hre : r ≠ [] := (nameE_zero hc.2).1
  have hlt : 0 < r.length := List.length_pos_iff.2 hre
  have := h 4 (by omega) 0 (by omega)
  have hcd : cand (whL ++ r) 4 0 = r := rfl
  rw [hcd] at this
  have hw : whtL 3 r = whL ++ r := by rw [e1, e2, if_neg hc.1]
  unfold hit at this
  rw [if_neg (by simpa using hc.2), if_pos hw] at this
  split at this <;> cases this
end Go.Proofs.YtiliglpolcpnbaaGreatDoor
