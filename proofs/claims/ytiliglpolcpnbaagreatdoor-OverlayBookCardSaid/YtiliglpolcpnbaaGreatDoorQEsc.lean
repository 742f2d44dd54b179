/- Escape: contracts of names. -/
/- Escape, plain law: what Back returns, and that the search of all names finds it. -/
import Derived.Test.YtiliglpolcpnbaaGreatDoorQBase
namespace Go.Proofs.YtiliglpolcpnbaaGreatDoor
open Go.RowKit

/-- The error of a name. -/
def nameE (l : List UInt8) : Int := if l = [] ∨ l = [46] ∨ l = [46, 46] ∨ l.any (pB badC) = true then 6 else if 24 < l.length then 3 else 0

theorem nameE_bad {l : List UInt8} (h : l.any (pB badC) = true) : nameE l = 6 := by
  unfold nameE; rw [if_pos (Or.inr (Or.inr (Or.inr h)))]
theorem nameE_long {l : List UInt8} (h0 : ¬ (l = [] ∨ l = [46] ∨ l = [46, 46])) (h : l.any (pB badC) = false) (hl : 24 < l.length) : nameE l = 3 := by
  simp only [not_or] at h0
  unfold nameE; rw [if_neg (by simp [h0, h]), if_pos hl]
theorem nameE_ok {l : List UInt8} (h0 : ¬ (l = [] ∨ l = [46] ∨ l = [46, 46])) (h : l.any (pB badC) = false) (hl : ¬ 24 < l.length) : nameE l = 0 := by
  simp only [not_or] at h0
  unfold nameE; rw [if_neg (by simp [h0, h]), if_neg hl]

theorem pathsName (s : ByteArray) (w : World) :
    RetB Tryz.prog 137 #[.string s] w (.int .i64 (nameE (L s))) := by
  unfold RetB
  go_enter Tryz.func137, Tryz.ntmps137
  go_wp2_with (go_at_call 167; refine (strContainsFunc _ _ badFn s w).mono ?_; rintro e w' ⟨rfl, hb⟩)
  all_goals go_ret
  all_goals refine ⟨ret_val ?_, ?_⟩
  all_goals first | exact Below.refl _ _ | exact hb | skip
  all_goals simp_all [nameE, toList_L, size_L]
  all_goals rw [if_neg (by simp_all)]
  all_goals split <;> omega

theorem badByte (b : UInt8) : pB badC b = (decide ((b.toNat : Int) < 33) || decide (126 < (b.toNat : Int)) || ((b.toNat : Int) == 47)) := by
  unfold pB badC; rw [Bool.eq_iff_iff]; simp

theorem refNameShort (s : ByteArray) (w : World) (h : L s = [] ∨ L s = [46] ∨ L s = [46, 46]) :
    Ret Tryz.prog 98 #[.string s] w (.int .i64 (nameE (L s))) := by
  unfold Ret
  have hn : nameE (L s) = 6 := by unfold nameE; rw [if_pos]; rcases h with h | h | h <;> simp [h]
  rw [hn]; clear hn
  rw [← toList_L] at h
  rcases h with h | h | h
  all_goals
    go_enter Tryz.func98, Tryz.ntmps98
    go_wp2
    go_ret
    exact ⟨rfl, rfl⟩
theorem refName (s : ByteArray) (w : World) (hs : s.size ≤ 1000000) :
    Ret Tryz.prog 98 #[.string s] w (.int .i64 (nameE (L s))) := by
  by_cases h0 : L s = [] ∨ L s = [46] ∨ L s = [46, 46]
  · exact refNameShort s w h0
  have HN := Lib.hid h0
  unfold Ret
  simp only [not_or, ← toList_L] at h0
  obtain ⟨h1, h2, h3⟩ := h0
  have h1 : s.toList.isEmpty = false := by simpa using h1
  have h2 : (s.toList == [46]) = false := by simpa using h2
  have h3 : (s.toList == [46, 46]) = false := by simpa using h3
  go_enter Tryz.func98, Tryz.ntmps98
  go_wp2
  clear h1 h2 h3
  go_loop [3] (fun i => ∃ k : Nat, k ≤ s.size ∧ i = .int .i64 k ∧ ((L s).take k).any (pB badC) = false) (fun i => s.size - (intOf i).toNat)
  case atStart => exact ⟨0, Nat.zero_le _, rfl, by simp⟩
  case round =>
    obtain ⟨k, hk, rfl, hb⟩ := hrel
    have HB := Lib.hid hb; clear hb
    by_cases hlt : k < s.size
    · cases hb : pB badC (s[k]'hlt)
      · have HN2 := Lib.hid (any_take_succ badC s k hlt HB.out hb); clear HB
        rw [badByte] at hb
        simp only [Bool.or_eq_false_iff, decide_eq_false_iff_not] at hb
        obtain ⟨⟨ha, hb⟩, hc⟩ := hb
        go_wp2
        go_round
        case rel => exact ⟨k + 1, by omega, by go_num, HN2.out⟩
        case measure => simp [intOf]; omega
      · have HN2 := Lib.hid (nameE_bad (List.any_eq_true.2 ⟨s[k]'hlt, by rw [getElem_L]; exact List.getElem_mem _, hb⟩))
        clear HB HN
        rw [badByte] at hb
        simp only [Bool.or_eq_true, decide_eq_true_eq] at hb
        by_cases ha : (s[k].toNat : Int) < 33
        · clear hb
          go_wp2
          go_ret
          exact ⟨by rw [HN2.out]; rfl, rfl⟩
        by_cases hc : 126 < (s[k].toNat : Int)
        · clear hb
          go_wp2
          go_ret
          exact ⟨by rw [HN2.out]; rfl, rfl⟩
        · have hd : ((s[k].toNat : Int) == 47) = true := by simpa [ha, hc] using hb
          clear hb
          go_wp2
          go_ret
          exact ⟨by rw [HN2.out]; rfl, rfl⟩
    · have hb := HB.out
      rw [List.take_of_length_le (by rw [← size_L]; omega)] at hb
      by_cases hl : 24 < s.size
      · have HN2 := Lib.hid (nameE_long HN.out hb (by rw [← size_L]; exact hl))
        clear hb HB
        go_wp2
        go_ret
        exact ⟨by rw [HN2.out]; rfl, rfl⟩
      · have HN2 := Lib.hid (nameE_ok HN.out hb (by rw [← size_L]; exact hl))
        clear hb HB
        go_wp2
        go_ret
        exact ⟨by rw [HN2.out]; rfl, rfl⟩




end Go.Proofs.YtiliglpolcpnbaaGreatDoor

namespace Go.Proofs.YtiliglpolcpnbaaGreatDoor
open Go.RowKit

def whL : List UInt8 := [46, 119, 104, 46]
def wxL : List UInt8 := [46, 119, 104, 46, 46, 119, 104, 46, 120]
def wrL (d : Int) (l : List UInt8) : List UInt8 := if d = 3 ∧ whL.isPrefixOf l = true then wxL ++ l.drop 4 else l
def whtL (d : Int) (l : List UInt8) : List UInt8 := if d = 3 then whL ++ wrL d l else l


/-- Is a name one whose written form this is (1), or that of its whiteout (2)? -/
def hit (d : Int) (raw name : List UInt8) : Int := if nameE name ≠ 0 then 0 else if wrL d name = raw then 1 else if whtL d name = raw then 2 else 0




/-- The names that are tried. -/
def cand (raw : List UInt8) (i k : Nat) : List UInt8 := if k = 1 then whL ++ raw.drop i else raw.drop i
end Go.Proofs.YtiliglpolcpnbaaGreatDoor
