/- The law's 'far': whether attributes are more than what is examined. -/
import Derived.Test.YtnemfapegbehlaaDoorOwnA
namespace Go.Proofs.YtnemfapegbehlaaDoor
open Go.RowKit

def farX (a : Attr) : Bool := decide (500 < a.1.size) || decide (500 < a.2.size)
def farB (l : List Attr) : Bool := decide (10 < l.length) || l.any farX
theorem farB_no {l : List Attr} (h : farB l = false) : l.length ≤ 10 ∧ ∀ a ∈ l, a.1.size ≤ 500 ∧ a.2.size ≤ 500 := by
  unfold farB farX at h
  simp only [Bool.or_eq_false_iff, decide_eq_false_iff_not, List.any_eq_false, Bool.not_eq_true] at h
  exact ⟨by omega, fun a ha => by have := h.2 a ha; omega⟩
theorem farB_hit {l : List Attr} (k : Nat) (hk : k < l.length) (h : farX (l[k]'hk) = true) : farB l = true := by
  unfold farB; rw [List.any_eq_true.2 ⟨_, List.getElem_mem hk, h⟩]; simp
def FarK (l : List Attr) (k : Nat) : Prop := ∀ j (_ : j < k) (h : j < l.length), farX (l[j]'h) = false
theorem farK_end {l : List Attr} (h1 : ¬ 10 < l.length) (h : FarK l l.length) : farB l = false := by
  unfold farB; rw [decide_eq_false h1, Bool.false_or, List.any_eq_false]
  intro a ha
  obtain ⟨j, hj, rfl⟩ := List.getElem_of_mem ha
  rw [h j hj hj]; exact Bool.false_ne_true
set_option maxRecDepth 100000 in
theorem lawFar (v : Value) (l : List Attr) (w : World) (hv : AttrsAt w v l) : Ret Tryd.prog 24 #[v] w (.bool (farB l)) := by
  unfold Ret
  obtain ⟨aa, cap, rfl, hcap, hc⟩ := hv
  have HC := Lib.hid hc; clear hc
  by_cases hl : 10 < l.length
  · rw [show farB l = true by unfold farB; rw [decide_eq_true hl]; rfl]
    go_enter Tryd.func24, Tryd.ntmps24
    go_wp2
    go_ret
    exact ⟨rfl, rfl⟩
  go_enter Tryd.func24, Tryd.ntmps24
  go_wp2
  go_loopw [3] (fun i w' => ∃ k : Nat, w' = w ∧ k ≤ l.length ∧ i = .int .i64 k ∧ FarK l k) (fun i _ => l.length - (intOf i).toNat)
  case atStart => exact ⟨0, rfl, Nat.zero_le _, rfl, fun j hj => absurd hj (by omega)⟩
  case round =>
    obtain ⟨k, rfl, hk, rfl, hf⟩ := hrel
    have HF := Lib.hid hf; clear hf
    by_cases hlt : k < l.length
    · obtain ⟨bb, off, rfl, hbs, c1, c2⟩ := HC.out k hlt
      by_cases h1 : 500 < (l[k]'hlt).1.size
      · have HN := Lib.hid (farB_hit k hlt (by unfold farX; rw [decide_eq_true h1]; rfl))
        generalize l[k]'hlt = x at c1 c2 h1
        go_wp2
        go_ret
        exact ⟨by rw [HN.out]; rfl, rfl⟩
      · by_cases h2 : 500 < (l[k]'hlt).2.size
        · have HN := Lib.hid (farB_hit k hlt (by unfold farX; rw [decide_eq_true h2]; simp))
          generalize l[k]'hlt = x at c1 c2 h1 h2
          go_wp2
          go_ret
          exact ⟨by rw [HN.out]; rfl, rfl⟩
        · have HN : Hid (FarK l (k + 1)) := by
            intro j hj hjl
            by_cases e : j = k
            · subst e; unfold farX; rw [decide_eq_false h1, decide_eq_false h2]; rfl
            · exact HF.out j (by omega) hjl
          generalize l[k]'hlt = x at c1 c2 h1 h2
          go_wp2
          go_roundw
          case rel => exact ⟨k + 1, by first | trivial | rfl, by omega, by go_num, HN.out⟩
          case measure => simp [intOf]; omega
    · obtain rfl : k = l.length := by omega
      have HN := Lib.hid (farK_end hl HF.out)
      go_wp2
      go_ret
      exact ⟨by rw [HN.out]; rfl, rfl⟩
end Go.Proofs.YtnemfapegbehlaaDoor
