/- Plain laws of bsd: what is written is read back; what is read is written back. -/
/- Plain laws of bsd: what Encode returns is a tree that Decode reads back, and what Decode returns is a branch that Encode writes back. -/
/- What BsdPlain asks of a branch without the mark's names: plain laws, and the law's own small functions. -/
import Derived.Test.YtiliglpolcpnbaaGreatDoorQBsdP
import Derived.Test.YtiliglpolcpnbaaGreatDoorQFarB
namespace Go.Proofs.YtiliglpolcpnbaaGreatDoor
open Go.RowKit

theorem sizeA_perm {l m : List Attr} (h : l.Perm m) : sizeA l = sizeA m := by
  induction h with
  | nil => rfl
  | cons x _ ih => simp [sizeA, ih]
  | swap x y l => simp [sizeA]; omega
  | trans _ _ h1 h2 => rw [h1, h2]
end Go.Proofs.YtiliglpolcpnbaaGreatDoor

namespace Go.Proofs.YtiliglpolcpnbaaGreatDoor
open Go.RowKit

/-! A tree stays sound if other sound attributes are put in, equal ones for equal ones. -/
def bareT (x : TrN) : TrN := { x with ats := [] }
theorem unlike_like {t : List TrN} {i : Nat} : ∀ (k : Nat), unlike t i k = false ↔ ∀ j, j < k → 0 < (getT t i).cl → (getT t j).cl = (getT t i).cl → likeB (getT t j) (getT t i) = true
  | 0 => ⟨fun _ j hj => absurd hj (by omega), fun _ => rfl⟩
  | k + 1 => by
    unfold unlike
    rw [Bool.or_eq_false_iff, unlike_like k]
    constructor
    · rintro ⟨h1, h2⟩ j hj h3 h4
      by_cases e : j = k
      · subst e
        cases hq : likeB (getT t j) (getT t i) with
        | true => rfl
        | false => rw [hq, h4] at h2; simp [h3] at h2
      · exact h1 j (by omega) h3 h4
    · intro h
      refine ⟨fun j hj => h j (by omega), ?_⟩
      by_cases h3 : 0 < (getT t i).cl
      case neg => simp [h3]
      by_cases h4 : (getT t k).cl = (getT t i).cl
      case neg => simp [h4]
      rw [h k (by omega) h3 h4]; simp
theorem like_iff {x y : TrN} : likeB x y = true ↔ x.kd = y.kd ∧ x.ats = y.ats ∧ x.dat.toList = y.dat.toList ∧ x.ma = y.ma ∧ x.mi = y.mi := by
  unfold likeB; simp [and_assoc]
theorem bare_eq {x y : TrN} (h : bareT x = bareT y) : x.dep = y.dep ∧ x.nm = y.nm ∧ x.kd = y.kd ∧ x.dat = y.dat ∧ x.ma = y.ma ∧ x.mi = y.mi ∧ x.cl = y.cl := by
  cases x; cases y; simp [bareT] at h; simp [h]
theorem kind_bare {x y : TrN} (h : bareT x = bareT y) (h5 : x.kd = 5 → y.ats = []) (hk : kindE x = 0) : kindE y = 0 := by
  obtain ⟨_, _, a, b, c, d, e⟩ := bare_eq h
  unfold kindE at hk ⊢
  rw [← a, ← b, ← c, ← d, ← e]
  by_cases e1 : x.kd < 1 ∨ 5 < x.kd
  · rw [if_pos e1] at hk; cases hk
  rw [if_neg e1] at hk ⊢
  by_cases e2 : x.kd = 1
  · rw [if_pos e2] at hk ⊢; exact hk
  rw [if_neg e2] at hk ⊢
  by_cases e3 : x.kd = 2
  · rw [if_pos e3] at hk ⊢; exact hk
  rw [if_neg e3] at hk ⊢
  by_cases e4 : x.kd = 3
  · rw [if_pos e4] at hk ⊢; exact hk
  rw [if_neg e4] at hk ⊢
  by_cases e5 : x.kd = 4
  · rw [if_pos e5] at hk ⊢; exact hk
  rw [if_neg e5] at hk ⊢
  split at hk
  · rename_i hh
    rw [if_pos ⟨hh.1, hh.2.1, hh.2.2.1, hh.2.2.2.1, by rw [h5 (by omega)]; rfl⟩]
  · cases hk
end Go.Proofs.YtiliglpolcpnbaaGreatDoor

namespace Go.Proofs.YtiliglpolcpnbaaGreatDoor
open Go.RowKit

theorem br_chk {b : List BrN} (h : brEr b = 0) {j : Nat} (hj : j < b.length) : chkE (getB b j).ats = 0 := by
  obtain ⟨t0, _, _⟩ := brEr_zero h
  have := getT_chk t0 (k := j) (by rw [plT_len]; exact hj)
  rw [getT_plT b j hj] at this
  exact this
end Go.Proofs.YtiliglpolcpnbaaGreatDoor
