/- Plain law: what is wrong in a tree: of the place, the name and the class of a node; the first node with an error. -/
/- The reference's functions on trees: the place, the name, the class of a node. -/
/- The reference's functions on trees: the class of a node, how many have it. -/
import Derived.Test.YtiliglpolcpnbaaGreatDoorQNodA
import Derived.Test.YtiliglpolcpnbaaGreatDoorQAttrR
namespace Go.Proofs.YtiliglpolcpnbaaGreatDoor
open Go.RowKit

def getT (t : List TrN) (i : Nat) : TrN := t.getD i zTrN
theorem getT_at (t : List TrN) (i : Nat) (h : i < t.length) : getT t i = t[i]'h := by unfold getT; simp [List.getD, h]
/-- The greatest depth that a node behind this one may have. -/
def mostD (p : TrN) : Int := if p.kd = 1 then p.dep + 1 else p.dep
def shapeE (t : List TrN) (i : Nat) : Int :=
  if i = 0 then (if (getT t i).dep = 0 ∧ (getT t i).nm.toList = [] ∧ (getT t i).kd = 1 then 0 else 6)
  else if (getT t i).dep < 1 ∨ mostD (getT t (i - 1)) < (getT t i).dep then 6 else if 8 < (getT t i).dep then 3 else 0
/-- Of nodes, the last one first: how many of the open directory's entries there are at a depth, and the last one's name. -/
def scan : List TrN → Int → Nat × Option ByteArray
  | [], _ => (0, none)
  | x :: r, d => if x.dep < d then (0, none) else if x.dep = d then ((scan r d).1 + 1, some x.nm) else scan r d
theorem scan_lt {x : TrN} {r : List TrN} {d : Int} (h : x.dep < d) : scan (x :: r) d = (0, none) := by unfold scan; rw [if_pos h]
theorem scan_eq {x : TrN} {r : List TrN} {d : Int} (h : x.dep = d) : scan (x :: r) d = ((scan r d).1 + 1, some x.nm) := by
  rw [scan.eq_2, if_neg (by omega), if_pos h]
theorem scan_gt {x : TrN} {r : List TrN} {d : Int} (h : d < x.dep) : scan (x :: r) d = scan r d := by
  rw [scan.eq_2, if_neg (by omega), if_neg (by omega)]
theorem scan_none {r : List TrN} {d : Int} : (scan r d).2 = none ↔ (scan r d).1 = 0 := by
  induction r with
  | nil => simp [scan]
  | cons x r ih =>
    rcases Int.lt_trichotomy x.dep d with h | h | h
    · rw [scan_lt h]; simp
    · rw [scan_eq h]; simp
    · rw [scan_gt h]; exact ih
def revT (t : List TrN) (i : Nat) : List TrN := (t.take i).reverse
theorem revT_succ (t : List TrN) (i : Nat) (h : i < t.length) : revT t (i + 1) = (t[i]'h) :: revT t i := by
  unfold revT; rw [List.take_succ_eq_append_getElem h, List.reverse_append]; rfl
/-- The error of a name behind those that were before it. -/
def nextE (many : Nat) (last : Option ByteArray) (nm : ByteArray) : Int :=
  match last with
  | some z => if z = nm then 8 else if L nm < L z then 6 else if 24 ≤ many then 3 else 0
  | none => if 24 ≤ many then 3 else 0
def entryE (t : List TrN) (i : Nat) : Int :=
  if nameE (L (getT t i).nm) ≠ 0 then nameE (L (getT t i).nm) else nextE (scan (revT t i) (getT t i).dep).1 (scan (revT t i) (getT t i).dep).2 (getT t i).nm
/-- The greatest class of the first nodes. -/
def mostC (t : List TrN) : Nat → Int
  | 0 => 0
  | k + 1 => max (mostC t k) (getT t k).cl
def unlike (t : List TrN) (i : Nat) : Nat → Bool
  | 0 => false
  | k + 1 => unlike t i k || (decide (0 < (getT t i).cl) && ((getT t k).cl == (getT t i).cl) && !likeB (getT t k) (getT t i))
def clsE (t : List TrN) (i : Nat) : Int := if unlike t i i = true then 6 else if (getT t i).cl < 0 ∨ mostC t i + 1 < (getT t i).cl then 6 else 0
def nodeE (t : List TrN) (i : Nat) : Int :=
  if shapeE t i ≠ 0 then shapeE t i else if i ≠ 0 ∧ entryE t i ≠ 0 then entryE t i else if kindE (getT t i) ≠ 0 then kindE (getT t i) else if chkE (getT t i).ats ≠ 0 then chkE (getT t i).ats else clsE t i
theorem nodeE_shape {t : List TrN} {i : Nat} (h : shapeE t i ≠ 0) : nodeE t i = shapeE t i := by unfold nodeE; rw [if_pos h]
theorem nodeE_entry {t : List TrN} {i : Nat} (h1 : shapeE t i = 0) (h0 : i ≠ 0) (h : entryE t i ≠ 0) : nodeE t i = entryE t i := by unfold nodeE; rw [if_neg (by omega), if_pos ⟨h0, h⟩]
theorem nodeE_kind {t : List TrN} {i : Nat} {x : TrN} (hg : getT t i = x) (h1 : shapeE t i = 0) (h2 : i ≠ 0 → entryE t i = 0) (h : kindE x ≠ 0) : nodeE t i = kindE x := by
  subst hg; unfold nodeE; rw [if_neg (by omega), if_neg (fun h => h.2 (h2 h.1)), if_pos h]
theorem nodeE_attrs {t : List TrN} {i : Nat} {x : TrN} (hg : getT t i = x) (h1 : shapeE t i = 0) (h2 : i ≠ 0 → entryE t i = 0) (h3 : kindE x = 0) (h : chkE x.ats ≠ 0) : nodeE t i = chkE x.ats := by
  subst hg; unfold nodeE; rw [if_neg (by omega), if_neg (fun h => h.2 (h2 h.1)), if_neg (by omega), if_pos h]
theorem nodeE_cls {t : List TrN} {i : Nat} {x : TrN} (hg : getT t i = x) (h1 : shapeE t i = 0) (h2 : i ≠ 0 → entryE t i = 0) (h3 : kindE x = 0) (h4 : chkE x.ats = 0) : nodeE t i = clsE t i := by
  subst hg; unfold nodeE; rw [if_neg (by omega), if_neg (fun h => h.2 (h2 h.1)), if_neg (by omega), if_neg (by omega)]
def countC (t : List TrN) (c : Int) : Nat → Nat
  | 0 => 0
  | k + 1 => countC t c k + (if (getT t k).cl = c then 1 else 0)
def loneB (t : List TrN) (i : Nat) : Bool := decide (0 < (getT t i).cl) && (countC t (getT t i).cl t.length == 1)
def findB (p : Nat → Bool) : Nat → Nat → Option Nat
  | _, 0 => none
  | a, n + 1 => if p a then some a else findB p (a + 1) n
theorem findB_none {p : Nat → Bool} : ∀ (n a : Nat), (∀ j, a ≤ j → j < a + n → p j = false) → findB p a n = none
  | 0, _, _ => rfl
  | n + 1, a, h => by
    unfold findB; rw [if_neg (by rw [h a (Nat.le_refl _) (by omega)]; exact Bool.false_ne_true)]
    exact findB_none n (a + 1) fun j h1 h2 => h j (by omega) (by omega)
theorem findB_some {p : Nat → Bool} : ∀ (n a i : Nat), a ≤ i → i < a + n → (∀ j, a ≤ j → j < i → p j = false) → p i = true → findB p a n = some i
  | 0, _, _, h1, h2, _, _ => by omega
  | n + 1, a, i, h1, h2, h, hi => by
    unfold findB
    by_cases e : a = i
    · subst e; rw [if_pos hi]
    · rw [if_neg (by rw [h a (Nat.le_refl _) (by omega)]; exact Bool.false_ne_true)]
      exact findB_some n (a + 1) i (by omega) (by omega) (fun j h3 h4 => h j (by omega) h4) hi
def badB (t : List TrN) (i : Nat) : Bool := nodeE t i != 0
theorem badB_no {t : List TrN} {i : Nat} (h : nodeE t i = 0) : badB t i = false := by unfold badB; rw [h]; rfl
theorem badB_yes {t : List TrN} {i : Nat} (h : nodeE t i ≠ 0) : badB t i = true := bne_iff_ne.2 h
/-- What is wrong in a tree: the node, and the error. -/
def treeT (t : List TrN) : Int × Int :=
  if t.length = 0 then (-1, 6) else if 120 < t.length then (-1, 3)
  else match findB (badB t) 0 t.length with
    | some i => (i, nodeE t i)
    | none => match findB (loneB t) 0 t.length with
      | some i => (i, 6)
      | none => (0, 0)
theorem treeT_nil {t : List TrN} (h : t.length = 0) : treeT t = (-1, 6) := if_pos h
theorem treeT_long {t : List TrN} (h : 120 < t.length) : treeT t = (-1, 3) := by unfold treeT; rw [if_neg (by omega), if_pos h]
def AllOk (t : List TrN) (k : Nat) : Prop := ∀ j, j < k → nodeE t j = 0
theorem treeT_node {t : List TrN} (h1 : ¬ 120 < t.length) {i : Nat} (hi : i < t.length) (h : AllOk t i) (he : nodeE t i ≠ 0) : treeT t = ((i : Int), nodeE t i) := by
  unfold treeT; rw [if_neg (by omega), if_neg h1, findB_some t.length 0 i (Nat.zero_le _) (by omega) (fun j _ hj => badB_no (h j hj)) (badB_yes he)]
theorem treeT_lone {t : List TrN} (h1 : ¬ 120 < t.length) (h : AllOk t t.length) {i : Nat} (hi : i < t.length) (hl : ∀ j, j < i → loneB t j = false) (he : loneB t i = true) : treeT t = ((i : Int), 6) := by
  unfold treeT; rw [if_neg (by omega), if_neg h1, findB_none t.length 0 (fun j _ hj => badB_no (h j (by omega))), findB_some t.length 0 i (Nat.zero_le _) (by omega) (fun j _ hj => hl j hj) he]
theorem treeT_ok {t : List TrN} (h0 : t.length ≠ 0) (h1 : ¬ 120 < t.length) (h : AllOk t t.length) (hl : ∀ j, j < t.length → loneB t j = false) : treeT t = (0, 0) := by
  unfold treeT; rw [if_neg h0, if_neg h1, findB_none t.length 0 (fun j _ hj => badB_no (h j (by omega))), findB_none t.length 0 (fun j _ hj => hl j (by omega))]
def treeN (t : List TrN) : Int := (treeT t).1
def treeE (t : List TrN) : Int := (treeT t).2
theorem tree_of {t : List TrN} {a b : Int} (h : treeT t = (a, b)) : treeN t = a ∧ treeE t = b := by unfold treeN treeE; rw [h]; exact ⟨rfl, rfl⟩

/-! What is known of nodes without an error. -/
theorem node_parts {t : List TrN} {i : Nat} (h : nodeE t i = 0) : shapeE t i = 0 ∧ (i ≠ 0 → entryE t i = 0) ∧ kindE (getT t i) = 0 ∧ chkE (getT t i).ats = 0 ∧ clsE t i = 0 := by
  unfold nodeE at h
  by_cases h1 : shapeE t i ≠ 0
  · rw [if_pos h1] at h; exact absurd h h1
  rw [if_neg h1] at h
  by_cases h2 : i ≠ 0 ∧ entryE t i ≠ 0
  · rw [if_pos h2] at h; exact absurd h h2.2
  rw [if_neg h2] at h
  by_cases h3 : kindE (getT t i) ≠ 0
  · rw [if_pos h3] at h; exact absurd h h3
  rw [if_neg h3] at h
  by_cases h4 : chkE (getT t i).ats ≠ 0
  · rw [if_pos h4] at h; exact absurd h h4
  rw [if_neg h4] at h
  exact ⟨by omega, fun hi => by by_cases e : entryE t i = 0; exact e; exact absurd ⟨hi, e⟩ h2, by omega, by omega, h⟩
theorem shape_bd {t : List TrN} {i : Nat} (h : shapeE t i = 0) : 0 ≤ (getT t i).dep ∧ (getT t i).dep ≤ 8 ∧ (i = 0 → (getT t i).dep = 0 ∧ (getT t i).kd = 1) ∧ (i ≠ 0 → 1 ≤ (getT t i).dep ∧ (getT t i).dep ≤ mostD (getT t (i - 1))) := by
  unfold shapeE at h
  by_cases h0 : i = 0
  · rw [if_pos h0] at h
    split at h
    · rename_i h1; exact ⟨by omega, by omega, fun _ => ⟨h1.1, h1.2.2⟩, fun x => absurd h0 x⟩
    · cases h
  · rw [if_neg h0] at h
    split at h
    · cases h
    · split at h
      · cases h
      · rename_i h1 h2; exact ⟨by omega, by omega, fun x => absurd x h0, fun _ => by omega⟩
theorem cls_bd {t : List TrN} {i : Nat} (h : clsE t i = 0) : 0 ≤ (getT t i).cl ∧ (getT t i).cl ≤ mostC t i + 1 ∧ unlike t i i = false := by
  unfold clsE at h
  split at h
  · cases h
  · split at h
    · cases h
    · rename_i h1 h2; exact ⟨by omega, by omega, Bool.eq_false_iff.2 h1⟩
theorem mostC_bd {t : List TrN} : ∀ (k : Nat), AllOk t k → 0 ≤ mostC t k ∧ mostC t k ≤ k
  | 0, _ => ⟨Int.le_refl _, Int.le_refl _⟩
  | k + 1, h => by
    obtain ⟨a, b⟩ := mostC_bd k fun j hj => h j (by omega)
    obtain ⟨_, _, _, _, hc⟩ := node_parts (h k (by omega))
    obtain ⟨c, d, _⟩ := cls_bd hc
    unfold mostC
    omega
theorem AllOk.step {t : List TrN} {k : Nat} (h : AllOk t k) (hk : nodeE t k = 0) : AllOk t (k + 1) := by
  intro j hj
  by_cases e : j = k
  · subst e; exact hk
  · exact h j (by omega)
end Go.Proofs.YtiliglpolcpnbaaGreatDoor

namespace Go.Proofs.YtiliglpolcpnbaaGreatDoor
open Go.RowKit

set_option maxRecDepth 100000 in
theorem refShape0 (B : Nat) (v : Value) (t : List TrN) (w : World) (hv : TrIn B w v t) (h0 : 0 < t.length) : RetB Tryz.prog 58 #[v, .int .i64 0] w (.int .i64 (shapeE t 0)) := by
  unfold RetB
  obtain ⟨aa, cap, rfl⟩ := hv.form
  obtain ⟨b, off, va, rfl, hb, hva, c0, c1, c2, c3, c4, c5, c6, c7⟩ := hv.tr 0 h0
  obtain ⟨a3, cap3, rfl⟩ := hva.form
  clear hva
  clear hv
  have hs : shapeE t 0 = if (t[0]'h0).dep = 0 ∧ (t[0]'h0).nm.toList = [] ∧ (t[0]'h0).kd = 1 then 0 else 6 := by unfold shapeE; rw [if_pos rfl, getT_at t 0 h0]
  rw [hs]; clear hs
  generalize t[0]'h0 = x at c0 c1 c2 c3 c4 c5 c6 c7
  simp only [Nat.zero_mul, Nat.add_zero] at c0 c1 c2 c3 c4 c5 c6 c7
  by_cases e1 : x.dep = 0
  case neg =>
    have d1 : (x.dep != 0) = true := bne_iff_ne.2 e1
    rw [if_neg (fun h => e1 h.1)]; clear e1
    go_enter Tryz.func58, Tryz.ntmps58
    go_wp2
    go_ret
    exact ⟨rfl, ext_alloc _ _⟩
  by_cases e2 : x.nm.toList = []
  case neg =>
    have d2 : x.nm.toList.isEmpty = false := by simpa using e2
    rw [if_neg (fun h => e2 h.2.1)]; clear e2
    go_enter Tryz.func58, Tryz.ntmps58
    go_wp2
    go_ret
    exact ⟨rfl, ext_alloc _ _⟩
  have d2 : x.nm.toList.isEmpty = true := by rw [e2]; rfl
  by_cases e3 : x.kd = 1
  · rw [if_pos ⟨e1, e2, e3⟩]; clear e2
    go_enter Tryz.func58, Tryz.ntmps58
    go_wp2
    go_ret
    exact ⟨rfl, ext_alloc _ _⟩
  · have d3 : (x.kd != 1) = true := bne_iff_ne.2 e3
    rw [if_neg (fun h => e3 h.2.2)]; clear e3 e2
    go_enter Tryz.func58, Tryz.ntmps58
    go_wp2
    go_ret
    exact ⟨rfl, ext_alloc _ _⟩
set_option maxRecDepth 100000 in
set_option maxHeartbeats 1000000 in
theorem refShape1 (B : Nat) (v : Value) (t : List TrN) (j : Nat) (w : World) (hv : TrIn B w v t) (h0 : j + 1 < t.length) (hm : t.length ≤ 1000) (hp : (getT t j).dep ≤ 1000) (hq : 0 ≤ (getT t j).dep) : RetB Tryz.prog 58 #[v, .int .i64 ((j : Int) + 1)] w (.int .i64 (shapeE t (j + 1))) := by
  unfold RetB
  obtain ⟨aa, cap, rfl⟩ := hv.form
  obtain ⟨b, off, va, rfl, hb, hva, c0, c1, c2, c3, c4, c5, c6, c7⟩ := hv.tr (j + 1) h0
  obtain ⟨a3, cap3, rfl⟩ := hva.form
  clear hva
  obtain ⟨b', off', vb, he, hb', _, d0, _, d2, _⟩ := hv.tr j (by omega)
  cases he
  clear hv
  have hs : shapeE t (j + 1) = if (t[j + 1]'h0).dep < 1 ∨ mostD (t[j]'(by omega)) < (t[j + 1]'h0).dep then 6 else if 8 < (t[j + 1]'h0).dep then 3 else 0 := by
    unfold shapeE; rw [if_neg (by omega), getT_at t (j + 1) h0, Nat.add_sub_cancel, getT_at t j (by omega)]
  rw [getT_at t j (by omega)] at hp hq
  rw [hs]; clear hs
  generalize t[j + 1]'h0 = x at c0 c1 c2 c3 c4 c5 c6 c7
  generalize t[j]'(by omega) = y at d0 d2 hp hq
  unfold mostD
  have j1 : ((j : Nat) : Int) < (t.length : Int) := by omega
  have j2 : ((j : Nat) : Int) + 1 < (t.length : Int) := by omega
  by_cases e1 : x.dep < 1
  · rw [if_pos (.inl e1)]
    by_cases e2 : y.kd = 1
    · go_enter Tryz.func58, Tryz.ntmps58
      go_wp2
      go_ret
      exact ⟨rfl, ext_alloc _ _⟩
    · have e3 : (y.kd == 1) = false := beq_eq_false_iff_ne.2 e2
      go_enter Tryz.func58, Tryz.ntmps58
      go_wp2
      go_ret
      exact ⟨rfl, ext_alloc _ _⟩
  by_cases e2 : y.kd = 1
  · rw [if_pos e2]
    by_cases e3 : y.dep + 1 < x.dep
    · rw [if_pos (.inr e3)]
      go_enter Tryz.func58, Tryz.ntmps58
      go_wp2
      go_ret
      exact ⟨rfl, ext_alloc _ _⟩
    rw [if_neg (by simp [e1, e3])]
    by_cases e4 : 8 < x.dep
    · rw [if_pos e4]
      go_enter Tryz.func58, Tryz.ntmps58
      go_wp2
      go_ret
      exact ⟨rfl, ext_alloc _ _⟩
    · rw [if_neg e4]
      go_enter Tryz.func58, Tryz.ntmps58
      go_wp2
      go_ret
      exact ⟨rfl, ext_alloc _ _⟩
  · have f1 : (y.kd == 1) = false := beq_eq_false_iff_ne.2 e2
    rw [if_neg e2]
    by_cases e3 : y.dep < x.dep
    · rw [if_pos (.inr e3)]
      go_enter Tryz.func58, Tryz.ntmps58
      go_wp2
      go_ret
      exact ⟨rfl, ext_alloc _ _⟩
    rw [if_neg (by simp [e1, e3])]
    by_cases e4 : 8 < x.dep
    · rw [if_pos e4]
      go_enter Tryz.func58, Tryz.ntmps58
      go_wp2
      go_ret
      exact ⟨rfl, ext_alloc _ _⟩
    · rw [if_neg e4]
      go_enter Tryz.func58, Tryz.ntmps58
      go_wp2
      go_ret
      exact ⟨rfl, ext_alloc _ _⟩
theorem refShape (B : Nat) (v : Value) (t : List TrN) (i : Nat) (w : World) (hv : TrIn B w v t) (hi : i < t.length) (hm : t.length ≤ 1000) (hp : i ≠ 0 → 0 ≤ (getT t (i - 1)).dep ∧ (getT t (i - 1)).dep ≤ 1000) : RetB Tryz.prog 58 #[v, .int .i64 i] w (.int .i64 (shapeE t i)) := by
  cases i with
  | zero => exact refShape0 B v t w hv hi
  | succ j => exact refShape1 B v t j w hv hi hm (hp (by omega)).2 (hp (by omega)).1

theorem lt_of_no {a b : ByteArray} (h1 : ¬ a = b) (h2 : ¬ L b < L a) : L a < L b := by
  rcases Std.lt_trichotomy (L a) (L b) with x | x | x
  · exact x
  · exact absurd (L_inj x) h1
  · exact absurd x h2
/-- What the search for earlier entries knows: j nodes are left, m entries were met, z is the last one's place, or -1. -/
structure ScanSt (t : List TrN) (i : Nat) (d : Int) (j m : Nat) (z : Int) : Prop where
  many : (scan (revT t i) d).1 = m + (scan (revT t j) d).1
  last : (z = -1 ∧ m = 0 ∧ (scan (revT t i) d).2 = (scan (revT t j) d).2) ∨ ∃ q : Nat, z = q ∧ q < i ∧ (scan (revT t i) d).2 = some (getT t q).nm
theorem ScanSt.start (t : List TrN) (i : Nat) (d : Int) : ScanSt t i d i 0 (-1) := ⟨by omega, .inl ⟨rfl, rfl, rfl⟩⟩
theorem ScanSt.skip {t : List TrN} {i p m : Nat} {d z : Int} (h : ScanSt t i d (p + 1) m z) (hp : p < t.length) (hd : d < (t[p]'hp).dep) : ScanSt t i d p m z := by
  have e := scan_gt (r := revT t p) hd
  rw [← revT_succ t p hp] at e
  exact ⟨by rw [h.many, e], h.last.imp_left fun ⟨a, b, c⟩ => ⟨a, b, by rw [c, e]⟩⟩
theorem ScanSt.hit {t : List TrN} {i p m : Nat} {d z : Int} (h : ScanSt t i d (p + 1) m z) (hpi : p < i) (hp : p < t.length) (hd : (t[p]'hp).dep = d) : ScanSt t i d p (m + 1) (if z < 0 then (p : Int) else z) := by
  have e := scan_eq (r := revT t p) hd
  rw [← revT_succ t p hp] at e
  refine ⟨by rw [h.many, e]; show m + ((scan (revT t p) d).1 + 1) = _; omega, .inr ?_⟩
  rcases h.last with ⟨a, b, c⟩ | ⟨q, a, b, c⟩
  · rw [if_pos (by omega)]; exact ⟨p, rfl, hpi, by rw [c, e, getT_at t p hp]⟩
  · rw [if_neg (by omega)]; exact ⟨q, a, b, c⟩
theorem ScanSt.low {t : List TrN} {i p m : Nat} {d z : Int} (h : ScanSt t i d (p + 1) m z) (hp : p < t.length) (hd : (t[p]'hp).dep < d) : ScanSt t i d 0 m z := by
  have e := scan_lt (r := revT t p) hd
  rw [← revT_succ t p hp] at e
  exact ⟨by rw [h.many, e]; rfl, h.last.imp_left fun ⟨a, b, c⟩ => ⟨a, b, by rw [c, e]; rfl⟩⟩
theorem ScanSt.end {t : List TrN} {i m : Nat} {d z : Int} (h : ScanSt t i d 0 m z) : (scan (revT t i) d).1 = m ∧ ((z = -1 ∧ m = 0 ∧ (scan (revT t i) d).2 = none) ∨ ∃ q : Nat, z = q ∧ q < i ∧ (scan (revT t i) d).2 = some (getT t q).nm) :=
  ⟨by rw [h.many]; rfl, h.last⟩
set_option maxRecDepth 100000 in
set_option maxHeartbeats 4000000 in
theorem refEntry (B : Nat) (v : Value) (t : List TrN) (i : Nat) (w : World) (hv : TrIn B w v t) (hi : i < t.length) (hm : t.length ≤ 1000) (hs : (getT t i).nm.size ≤ 1000000) : RetB Tryz.prog 59 #[v, .int .i64 i] w (.int .i64 (entryE t i)) := by
  unfold RetB
  obtain ⟨aa, cap, rfl⟩ := hv.form
  obtain ⟨b, off, va, rfl, hb, _, c0, c1, _⟩ := hv.tr i hi
  have HV := Lib.hid hv; clear hv
  have hg := getT_at t i hi
  have HE : Hid (entryE t i = if nameE (L (t[i]'hi).nm) ≠ 0 then nameE (L (t[i]'hi).nm) else nextE (scan (revT t i) (t[i]'hi).dep).1 (scan (revT t i) (t[i]'hi).dep).2 (t[i]'hi).nm) := by
    unfold entryE; rw [hg]; exact rfl
  rw [hg] at hs
  clear hg
  generalize t[i]'hi = x at c0 c1 HE hs
  have ji : ((i : Nat) : Int) < (t.length : Int) := by omega
  by_cases hn : nameE (L x.nm) = 0
  case neg =>
    have hn1 : (nameE (L x.nm) != 0) = true := bne_iff_ne.2 hn
    rw [HE.out, if_pos hn]; clear hn HE
    go_enter Tryz.func59, Tryz.ntmps59
    go_wp2_with (go_at_call 98; refine (refName _ _ hs).mono ?_; rintro e w' ⟨rfl, rfl⟩)
    go_ret
    exact ⟨rfl, Below.refl _ _⟩
  have HE2 : Hid (entryE t i = nextE (scan (revT t i) x.dep).1 (scan (revT t i) x.dep).2 x.nm) := by rw [HE.out, if_neg (by simpa using hn)]; exact rfl
  rw [HE2.out]; clear HE HE2
  go_enter Tryz.func59, Tryz.ntmps59
  go_wp2_with (go_at_call 98; refine (refName _ _ hs).mono ?_; rintro e w' ⟨rfl, rfl⟩)
  clear hn
  go_loopw [6, 7, 8] (fun m la kk w' => ∃ (wi : World) (j n : Nat) (z : Int), wi = w' ∧ j ≤ i ∧ n + j ≤ i ∧ m = .int .i64 n ∧ la = .int .i64 z ∧ kk = .int .i64 ((j : Int) - 1) ∧ ScanSt t i x.dep j n z ∧ Ext w w') (fun _ _ kk _ => (intOf kk + 1).toNat)
  case atStart => exact ⟨_, i, 0, -1, rfl, Nat.le_refl _, by omega, rfl, rfl, rfl, ScanSt.start t i x.dep, Below.refl _ _⟩
  case round =>
    obtain ⟨wi, j, n, z, rfl, hj, hnj, rfl, rfl, rfl, hst, hbw⟩ := hrel
    have HS := Lib.hid hst; clear hst
    replace c0 := (ext_cell hbw hb).trans c0
    replace c1 := (ext_cell hbw hb).trans c1
    have HB := Lib.hid hbw; clear hbw
    have hgo : (∃ p, j = p + 1 ∧ ∃ h : p < t.length, x.dep ≤ (t[p]'h).dep) ∨ ScanSt t i x.dep 0 n z ∧ (j = 0 ∨ ∃ p, j = p + 1 ∧ ∃ h : p < t.length, (t[p]'h).dep < x.dep) := by
      cases j with
      | zero => exact .inr ⟨HS.out, .inl rfl⟩
      | succ p =>
        have hp : p < t.length := by omega
        by_cases hd : x.dep ≤ (t[p]'hp).dep
        · exact .inl ⟨p, rfl, hp, hd⟩
        · exact .inr ⟨HS.out.low hp (by omega), .inr ⟨p, rfl, hp, by omega⟩⟩
    rcases hgo with ⟨p, rfl, hp, hd⟩ | ⟨hend, hwhy⟩
    · obtain ⟨b', off', vb, he, hb', _, d0, _⟩ := HV.out.tr p hp
      cases he
      replace d0 := (ext_cell HB.out hb').trans d0
      have jp : ((p : Nat) : Int) < (t.length : Int) := by omega
      have jc : ((p + 1 : Nat) : Int) - 1 = (p : Int) := by omega
      rw [jc]
      clear jc
      by_cases heq : (t[p]'hp).dep = x.dep
      · have HN := Lib.hid (HS.out.hit (by omega) hp heq)
        generalize t[p]'hp = y at d0 hd heq
        have q1 : (y.dep == x.dep) = true := beq_iff_eq.2 heq
        clear heq
        by_cases hz : z < 0
        · rw [if_pos hz] at HN
          go_wp2
          go_quiet (fail)
          go_wp2
          go_quiet (fail)
          go_wp2
          go_roundw
          case rel => exact ⟨_, p, n + 1, p, rfl, by omega, by omega, by go_num, rfl, rfl, HN.out, Ext.trans HB.out (by first | exact ext_drewN _ _ | exact Ext.trans (ext_drewN _ _) (ext_drewN _ _))⟩
          case measure => first | (simp [intOf]; done) | (simp [intOf]; omega)
        · rw [if_neg hz] at HN
          go_wp2
          go_quiet (fail)
          go_wp2
          go_quiet (fail)
          go_wp2
          go_roundw
          case rel => exact ⟨_, p, n + 1, z, rfl, by omega, by omega, by go_num, rfl, rfl, HN.out, Ext.trans HB.out (by first | exact ext_drewN _ _ | exact Ext.trans (ext_drewN _ _) (ext_drewN _ _))⟩
          case measure => first | (simp [intOf]; done) | (simp [intOf]; omega)
      · have HN := Lib.hid (HS.out.skip hp (by omega))
        generalize t[p]'hp = y at d0 hd heq
        have q1 : (y.dep == x.dep) = false := beq_eq_false_iff_ne.2 heq
        clear heq
        go_wp2
        go_quiet (fail)
        go_wp2
        go_quiet (fail)
        go_wp2
        go_roundw
        case rel => exact ⟨_, p, n, z, rfl, by omega, by omega, rfl, rfl, rfl, HN.out, Ext.trans HB.out (by first | exact ext_drewN _ _ | exact Ext.trans (ext_drewN _ _) (ext_drewN _ _))⟩
        case measure => first | (simp [intOf]; done) | (simp [intOf]; omega)
    · obtain ⟨s1, s2⟩ := hend.end
      clear hend HS
      rcases s2 with ⟨rfl, rfl, s2⟩ | ⟨q, rfl, hq, s2⟩
      · have HR : Hid (nextE (scan (revT t i) x.dep).1 (scan (revT t i) x.dep).2 x.nm = 0) := Lib.hid (by rw [s1, s2]; simp [nextE])
        clear s1 s2
        rcases hwhy with rfl | ⟨p, rfl, hp, hd⟩
        · have jc : ((0 : Nat) : Int) - 1 = -1 := rfl
          rw [jc]; clear jc
          go_wp2
          go_quiet (fail)
          go_wp2
          go_quiet (fail)
          go_wp2
          go_quiet (fail)
          go_wp2
          go_ret
          exact ⟨by rw [HR.out]; rfl, Ext.trans HB.out (by first | exact ext_drewN _ _ | exact Ext.trans (ext_drewN _ _) (ext_drewN _ _) | exact Ext.trans (ext_drewN _ _) (Ext.trans (ext_drewN _ _) (ext_drewN _ _)))⟩
        · obtain ⟨b', off', vb, he, hb', _, d0, _⟩ := HV.out.tr p hp
          cases he
          replace d0 := (ext_cell HB.out hb').trans d0
          have jp : ((p : Nat) : Int) < (t.length : Int) := by omega
          have jc : ((p + 1 : Nat) : Int) - 1 = (p : Int) := by omega
          rw [jc]; clear jc
          generalize t[p]'hp = y' at d0 hd
          go_wp2
          go_quiet (fail)
          go_wp2
          go_quiet (fail)
          go_wp2
          go_quiet (fail)
          go_wp2
          go_ret
          exact ⟨by rw [HR.out]; rfl, Ext.trans HB.out (by first | exact ext_drewN _ _ | exact Ext.trans (ext_drewN _ _) (ext_drewN _ _) | exact Ext.trans (ext_drewN _ _) (Ext.trans (ext_drewN _ _) (ext_drewN _ _)))⟩
      · have hqt : q < t.length := by omega
        rw [getT_at t q hqt] at s2
        obtain ⟨b2, off2, vb2, he2, hb2, _, _, e1, _⟩ := HV.out.tr q hqt
        cases he2
        replace e1 := (ext_cell HB.out hb2).trans e1
        have jq : ((q : Nat) : Int) < (t.length : Int) := by omega
        generalize t[q]'hqt = y at e1 s2
        by_cases k1 : y.nm = x.nm
        · have HR : Hid (nextE (scan (revT t i) x.dep).1 (scan (revT t i) x.dep).2 x.nm = 8) := Lib.hid (by rw [s1, s2]; simp [nextE, k1])
          have g1 : (y.nm.toList == x.nm.toList) = true := by rw [k1]; simp
          clear s1 s2 k1
          rcases hwhy with rfl | ⟨p, rfl, hp, hd⟩
          · have jc : ((0 : Nat) : Int) - 1 = -1 := rfl
            rw [jc]; clear jc
            go_wp2
            go_quiet (fail)
            go_wp2
            go_quiet (fail)
            go_wp2
            go_ret
            exact ⟨by rw [HR.out]; rfl, Ext.trans HB.out (by first | exact ext_drewN _ _ | exact Ext.trans (ext_drewN _ _) (ext_drewN _ _) | exact Ext.trans (ext_drewN _ _) (Ext.trans (ext_drewN _ _) (ext_drewN _ _)))⟩
          · obtain ⟨b', off', vb, he, hb', _, d0, _⟩ := HV.out.tr p hp
            cases he
            replace d0 := (ext_cell HB.out hb').trans d0
            have jp : ((p : Nat) : Int) < (t.length : Int) := by omega
            have jc : ((p + 1 : Nat) : Int) - 1 = (p : Int) := by omega
            rw [jc]; clear jc
            generalize t[p]'hp = y' at d0 hd
            go_wp2
            go_quiet (fail)
            go_wp2
            go_quiet (fail)
            go_wp2
            go_ret
            exact ⟨by rw [HR.out]; rfl, Ext.trans HB.out (by first | exact ext_drewN _ _ | exact Ext.trans (ext_drewN _ _) (ext_drewN _ _) | exact Ext.trans (ext_drewN _ _) (Ext.trans (ext_drewN _ _) (ext_drewN _ _)))⟩
        have g1 : (y.nm.toList == x.nm.toList) = false := by rw [beq_eq_false_iff_ne]; intro h; exact k1 (L_inj (by rw [← toList_L, ← toList_L]; exact h))
        by_cases k2 : L x.nm < L y.nm
        · have HR : Hid (nextE (scan (revT t i) x.dep).1 (scan (revT t i) x.dep).2 x.nm = 6) := Lib.hid (by rw [s1, s2]; simp [nextE, k1, k2])
          have g2 := bl_false (fun h => List.lt_irrefl _ (List.lt_trans k2 h))
          clear s1 s2 k1 k2
          rcases hwhy with rfl | ⟨p, rfl, hp, hd⟩
          · have jc : ((0 : Nat) : Int) - 1 = -1 := rfl
            rw [jc]; clear jc
            go_wp2
            go_quiet (fail)
            go_wp2
            go_quiet (fail)
            go_wp2
            go_quiet (fail)
            go_wp2
            go_ret
            exact ⟨by rw [HR.out]; rfl, Ext.trans HB.out (by first | exact ext_drewN _ _ | exact Ext.trans (ext_drewN _ _) (ext_drewN _ _) | exact Ext.trans (ext_drewN _ _) (Ext.trans (ext_drewN _ _) (ext_drewN _ _)))⟩
          · obtain ⟨b', off', vb, he, hb', _, d0, _⟩ := HV.out.tr p hp
            cases he
            replace d0 := (ext_cell HB.out hb').trans d0
            have jp : ((p : Nat) : Int) < (t.length : Int) := by omega
            have jc : ((p + 1 : Nat) : Int) - 1 = (p : Int) := by omega
            rw [jc]; clear jc
            generalize t[p]'hp = y' at d0 hd
            go_wp2
            go_quiet (fail)
            go_wp2
            go_quiet (fail)
            go_wp2
            go_quiet (fail)
            go_wp2
            go_ret
            exact ⟨by rw [HR.out]; rfl, Ext.trans HB.out (by first | exact ext_drewN _ _ | exact Ext.trans (ext_drewN _ _) (ext_drewN _ _) | exact Ext.trans (ext_drewN _ _) (Ext.trans (ext_drewN _ _) (ext_drewN _ _)))⟩
        have g2 := bl_true (lt_of_no k1 k2)
        by_cases k3 : 24 ≤ n
        · have HR : Hid (nextE (scan (revT t i) x.dep).1 (scan (revT t i) x.dep).2 x.nm = 3) := Lib.hid (by rw [s1, s2]; simp [nextE, k1, k2, k3])
          clear s1 s2 k1 k2
          rcases hwhy with rfl | ⟨p, rfl, hp, hd⟩
          · have jc : ((0 : Nat) : Int) - 1 = -1 := rfl
            rw [jc]; clear jc
            go_wp2
            go_quiet (fail)
            go_wp2
            go_quiet (fail)
            go_wp2
            go_quiet (fail)
            go_wp2
            go_ret
            exact ⟨by rw [HR.out]; rfl, Ext.trans HB.out (by first | exact ext_drewN _ _ | exact Ext.trans (ext_drewN _ _) (ext_drewN _ _) | exact Ext.trans (ext_drewN _ _) (Ext.trans (ext_drewN _ _) (ext_drewN _ _)))⟩
          · obtain ⟨b', off', vb, he, hb', _, d0, _⟩ := HV.out.tr p hp
            cases he
            replace d0 := (ext_cell HB.out hb').trans d0
            have jp : ((p : Nat) : Int) < (t.length : Int) := by omega
            have jc : ((p + 1 : Nat) : Int) - 1 = (p : Int) := by omega
            rw [jc]; clear jc
            generalize t[p]'hp = y' at d0 hd
            go_wp2
            go_quiet (fail)
            go_wp2
            go_quiet (fail)
            go_wp2
            go_quiet (fail)
            go_wp2
            go_ret
            exact ⟨by rw [HR.out]; rfl, Ext.trans HB.out (by first | exact ext_drewN _ _ | exact Ext.trans (ext_drewN _ _) (ext_drewN _ _) | exact Ext.trans (ext_drewN _ _) (Ext.trans (ext_drewN _ _) (ext_drewN _ _)))⟩
        · have HR : Hid (nextE (scan (revT t i) x.dep).1 (scan (revT t i) x.dep).2 x.nm = 0) := Lib.hid (by rw [s1, s2]; simp [nextE, k1, k2, k3])
          clear s1 s2 k1 k2
          rcases hwhy with rfl | ⟨p, rfl, hp, hd⟩
          · have jc : ((0 : Nat) : Int) - 1 = -1 := rfl
            rw [jc]; clear jc
            go_wp2
            go_quiet (fail)
            go_wp2
            go_quiet (fail)
            go_wp2
            go_quiet (fail)
            go_wp2
            go_ret
            exact ⟨by rw [HR.out]; rfl, Ext.trans HB.out (by first | exact ext_drewN _ _ | exact Ext.trans (ext_drewN _ _) (ext_drewN _ _) | exact Ext.trans (ext_drewN _ _) (Ext.trans (ext_drewN _ _) (ext_drewN _ _)))⟩
          · obtain ⟨b', off', vb, he, hb', _, d0, _⟩ := HV.out.tr p hp
            cases he
            replace d0 := (ext_cell HB.out hb').trans d0
            have jp : ((p : Nat) : Int) < (t.length : Int) := by omega
            have jc : ((p + 1 : Nat) : Int) - 1 = (p : Int) := by omega
            rw [jc]; clear jc
            generalize t[p]'hp = y' at d0 hd
            go_wp2
            go_quiet (fail)
            go_wp2
            go_quiet (fail)
            go_wp2
            go_quiet (fail)
            go_wp2
            go_ret
            exact ⟨by rw [HR.out]; rfl, Ext.trans HB.out (by first | exact ext_drewN _ _ | exact Ext.trans (ext_drewN _ _) (ext_drewN _ _) | exact Ext.trans (ext_drewN _ _) (Ext.trans (ext_drewN _ _) (ext_drewN _ _)))⟩
end Go.Proofs.YtiliglpolcpnbaaGreatDoor

namespace Go.Proofs.YtiliglpolcpnbaaGreatDoor
open Go.RowKit

theorem cells8 {w w' : World} {b o : Nat} {v0 v1 v2 v3 v4 v5 v6 v7 : Value} (he : Ext w w') (hb : b < w.heap.size)
    (h : w.cell? ⟨b, o, none⟩ = some v0 ∧ w.cell? ⟨b, o + 1, none⟩ = some v1 ∧ w.cell? ⟨b, o + 2, none⟩ = some v2 ∧ w.cell? ⟨b, o + 3, none⟩ = some v3 ∧ w.cell? ⟨b, o + 4, none⟩ = some v4 ∧ w.cell? ⟨b, o + 5, none⟩ = some v5 ∧ w.cell? ⟨b, o + 6, none⟩ = some v6 ∧ w.cell? ⟨b, o + 7, none⟩ = some v7) :
    w'.cell? ⟨b, o, none⟩ = some v0 ∧ w'.cell? ⟨b, o + 1, none⟩ = some v1 ∧ w'.cell? ⟨b, o + 2, none⟩ = some v2 ∧ w'.cell? ⟨b, o + 3, none⟩ = some v3 ∧ w'.cell? ⟨b, o + 4, none⟩ = some v4 ∧ w'.cell? ⟨b, o + 5, none⟩ = some v5 ∧ w'.cell? ⟨b, o + 6, none⟩ = some v6 ∧ w'.cell? ⟨b, o + 7, none⟩ = some v7 := by
  obtain ⟨h0, h1, h2, h3, h4, h5, h6, h7⟩ := h
  exact ⟨(ext_cell he hb).trans h0, (ext_cell he hb).trans h1, (ext_cell he hb).trans h2, (ext_cell he hb).trans h3, (ext_cell he hb).trans h4, (ext_cell he hb).trans h5, (ext_cell he hb).trans h6, (ext_cell he hb).trans h7⟩
set_option maxRecDepth 100000 in
theorem refCount (B : Nat) (v : Value) (t : List TrN) (c : Int) (w : World) (hv : TrIn B w v t) (hm : t.length ≤ 1000) : RetB Tryz.prog 63 #[v, .int .i64 c] w (.int .i64 (countC t c t.length)) := by
  unfold RetB
  obtain ⟨aa, cap, rfl⟩ := hv.form
  have HV := Lib.hid hv; clear hv
  go_enter Tryz.func63, Tryz.ntmps63
  go_wp2
  go_loopw [5, 6] (fun n i w' => ∃ (wi : World) (k : Nat), wi = w' ∧ k ≤ t.length ∧ i = .int .i64 k ∧ n = .int .i64 (countC t c k) ∧ countC t c k ≤ k ∧ Ext w w') (fun _ i _ => t.length - (intOf i).toNat)
  case atStart => exact ⟨_, 0, rfl, Nat.zero_le _, rfl, rfl, Nat.le_refl _, Below.refl _ _⟩
  case round =>
    obtain ⟨wi, k, rfl, hk, rfl, rfl, hck, hb⟩ := hrel
    by_cases hlt : k < t.length
    · obtain ⟨b, off, va, he, hbs, _, _, _, _, _, _, _, _, c7⟩ := HV.out.tr k hlt
      cases he
      replace c7 := (ext_cell hb hbs).trans c7
      have HB := Lib.hid hb; clear hb
      by_cases e : (t[k]'hlt).cl = c
      · have HN : Hid (countC t c (k + 1) = countC t c k + 1) := Lib.hid (by rw [countC.eq_2, getT_at t k hlt, if_pos e])
        generalize t[k]'hlt = x at c7 e
        have q1 : (x.cl == c) = true := beq_iff_eq.2 e
        clear e
        go_wp2
        go_roundw
        case rel => exact ⟨_, k + 1, rfl, by omega, by go_num, by rw [HN.out]; go_num, by rw [HN.out]; omega, HB.out⟩
        case measure => first | (simp [intOf]; done) | (simp [intOf]; omega)
      · have HN : Hid (countC t c (k + 1) = countC t c k) := Lib.hid (by rw [countC.eq_2, getT_at t k hlt, if_neg e]; rfl)
        generalize t[k]'hlt = x at c7 e
        have q1 : (x.cl == c) = false := beq_eq_false_iff_ne.2 e
        clear e
        go_wp2
        go_roundw
        case rel => exact ⟨_, k + 1, rfl, by omega, by go_num, by rw [HN.out], by rw [HN.out]; omega, HB.out⟩
        case measure => first | (simp [intOf]; done) | (simp [intOf]; omega)
    · obtain rfl : k = t.length := by omega
      have HB := Lib.hid hb; clear hb
      go_wp2
      go_ret
      exact ⟨rfl, HB.out⟩
theorem int_eq {a b : Int} (h : a = b) : Value.int .i64 a = .int .i64 b := by rw [h]
theorem unlike_step {t : List TrN} {i k : Nat} (h : unlike t i k = false) (hx : (decide (0 < (getT t i).cl) && ((getT t k).cl == (getT t i).cl) && !likeB (getT t k) (getT t i)) = false) : unlike t i (k + 1) = false := by
  unfold unlike; rw [h, hx]; rfl
theorem unlike_hit {t : List TrN} {i k : Nat} (hx : (decide (0 < (getT t i).cl) && ((getT t k).cl == (getT t i).cl) && !likeB (getT t k) (getT t i)) = true) : ∀ m, k < m → unlike t i m = true
  | 0, h => by omega
  | m + 1, h => by
    unfold unlike
    by_cases e : k = m
    · subst e; rw [hx, Bool.or_true]
    · rw [unlike_hit hx m (by omega), Bool.true_or]
set_option maxRecDepth 100000 in
set_option maxHeartbeats 4000000 in
theorem refClass (B : Nat) (v : Value) (t : List TrN) (i : Nat) (w : World) (hv : TrIn B w v t) (hi : i < t.length) (hm : t.length ≤ 1000) (hmost : ∀ k, k ≤ i → 0 ≤ mostC t k ∧ mostC t k ≤ 1000) (hats : ∀ x ∈ t, x.ats.length ≤ 1000000) : RetB Tryz.prog 62 #[v, .int .i64 i] w (.int .i64 (clsE t i)) := by
  unfold RetB
  obtain ⟨aa, cap, rfl⟩ := hv.form
  obtain ⟨b, off, va, rfl, hb, hva, cc⟩ := hv.tr i hi
  have HV := Lib.hid hv; clear hv
  have HM := Lib.hid hmost; clear hmost
  have HG := Lib.hid (getT_at t i hi)
  have ji : ((i : Nat) : Int) < (t.length : Int) := by omega
  have HAT := Lib.hid hats; clear hats
  have hva' := ListIn.attrs hva
  obtain ⟨a3, cap3, rfl⟩ := hva.form
  generalize t[i]'hi = x at cc HG hva' hva
  have HVA := Lib.hid hva'
  have HC := Lib.hid cc
  clear hva hva' cc
  go_enter Tryz.func62, Tryz.ntmps62
  go_wp2
  go_loopw [5, 6] (fun m kk w' => ∃ (wi : World) (k : Nat), wi = w' ∧ k ≤ i ∧ kk = .int .i64 k ∧ m = .int .i64 (mostC t k) ∧ unlike t i k = false ∧ Ext w w') (fun _ kk _ => i - (intOf kk).toNat)
  case atStart => exact ⟨_, 0, rfl, Nat.zero_le _, rfl, rfl, rfl, Below.refl _ _⟩
  case round =>
    obtain ⟨wi, k, rfl, hk, rfl, rfl, hun, hbw⟩ := hrel
    have HU := Lib.hid hun; clear hun
    have CC := cells8 hbw hb HC.out
    by_cases hlt : k < i
    · have hkt : k < t.length := by omega
      obtain ⟨b', off', vb, he, hb', hvb, dd⟩ := HV.out.tr k hkt
      cases he
      have DD := cells8 hbw hb dd
      have HGK := Lib.hid (getT_at t k hkt)
      have hvb' := (ListIn.attrs hvb).ext hbw
      have hl1 := HAT.out _ (List.getElem_mem hkt)
      obtain ⟨a4, cap4, rfl⟩ := hvb.form
      have jk : ((k : Nat) : Int) < (t.length : Int) := by omega
      have HMS : Hid (mostC t (k + 1) = max (mostC t k) (t[k]'hkt).cl) := Lib.hid (by rw [mostC.eq_2, getT_at t k hkt])
      generalize t[k]'hkt = y at DD HGK hvb' hvb hl1 HMS dd
      have HVB := Lib.hid hvb'
      have hx' := HVA.out.ext hbw
      have HVX := Lib.hid hx'
      have HB := Lib.hid hbw
      have hbb := Nat.lt_of_lt_of_le hb hbw.size
      have hst : ∀ hh : (decide (0 < x.cl) && (y.cl == x.cl) && !likeB y x) = false, unlike t i (k + 1) = false := fun hh => unlike_step HU.out (by rw [HG.out, HGK.out]; exact hh)
      have HST := Lib.hid hst
      clear hst hvb hvb' hx' hbw dd
      by_cases p1 : 0 < x.cl
      case neg =>
        have HN := Lib.hid (HST.out (by simp [p1]))
        obtain ⟨c0, c1, c2, c3, c4, c5, c6, c7⟩ := CC
        obtain ⟨d0, d1, d2, d3, d4, d5, d6, d7⟩ := DD
        have p1' : decide (0 < x.cl) = false := decide_eq_false p1
        go_wp2
        all_goals
          go_quiet (fail)
          go_wp2
          go_roundw
          case rel => exact ⟨_, k + 1, rfl, by omega, by go_num, by rw [HMS.out]; exact int_eq (by omega), HN.out, Ext.trans HB.out (ext_drewN _ _)⟩
          case measure => first | (simp [intOf]; done) | (simp [intOf]; omega)
      by_cases p2 : y.cl = x.cl
      case neg =>
        have HN := Lib.hid (HST.out (by simp [beq_eq_false_iff_ne.2 p2]))
        obtain ⟨c0, c1, c2, c3, c4, c5, c6, c7⟩ := CC
        obtain ⟨d0, d1, d2, d3, d4, d5, d6, d7⟩ := DD
        have p2' : (y.cl == x.cl) = false := beq_eq_false_iff_ne.2 p2
        clear p2
        go_wp2
        all_goals
          go_quiet (fail)
          go_wp2
          go_roundw
          case rel => exact ⟨_, k + 1, rfl, by omega, by go_num, by rw [HMS.out]; exact int_eq (by omega), HN.out, Ext.trans HB.out (ext_drewN _ _)⟩
          case measure => first | (simp [intOf]; done) | (simp [intOf]; omega)
      have p2' : (y.cl == x.cl) = true := beq_iff_eq.2 p2
      clear p2
      have DD := Lib.hid DD
      have CC := Lib.hid CC
      obtain ⟨c0, c1, c2, c3, c4, c5, c6, c7⟩ := CC.out
      obtain ⟨d0, d1, d2, d3, d4, d5, d6, d7⟩ := DD.out
      have ji0 : (0 : Int) ≤ (i : Int) := by omega
      have jk0 : (0 : Int) ≤ (k : Int) := by omega
      cases hl : likeB y x
      · have HN := Lib.hid (unlike_hit (t := t) (i := i) (k := k) (by rw [HG.out, HGK.out, hl]; simp [p1, p2']) i hlt)
        go_wp2
        all_goals
          go_region_held3 (fun w' => w'.cell? ⟨b, off + k * 8, none⟩ = some (.int .i64 y.dep) ∧ w'.cell? ⟨b, off + k * 8 + 1, none⟩ = some (.string y.nm) ∧ w'.cell? ⟨b, off + k * 8 + 2, none⟩ = some (.int .i64 y.kd) ∧ w'.cell? ⟨b, off + k * 8 + 3, none⟩ = some (.slice a4 y.ats.length cap4) ∧ w'.cell? ⟨b, off + k * 8 + 4, none⟩ = some (.string y.dat) ∧ w'.cell? ⟨b, off + k * 8 + 5, none⟩ = some (.int .i64 y.ma) ∧ w'.cell? ⟨b, off + k * 8 + 6, none⟩ = some (.int .i64 y.mi) ∧ w'.cell? ⟨b, off + k * 8 + 7, none⟩ = some (.int .i64 y.cl) ∧ w'.cell? ⟨b, off + i * 8, none⟩ = some (.int .i64 x.dep) ∧ w'.cell? ⟨b, off + i * 8 + 1, none⟩ = some (.string x.nm) ∧ w'.cell? ⟨b, off + i * 8 + 2, none⟩ = some (.int .i64 x.kd) ∧ w'.cell? ⟨b, off + i * 8 + 3, none⟩ = some (.slice a3 x.ats.length cap3) ∧ w'.cell? ⟨b, off + i * 8 + 4, none⟩ = some (.string x.dat) ∧ w'.cell? ⟨b, off + i * 8 + 5, none⟩ = some (.int .i64 x.ma) ∧ w'.cell? ⟨b, off + i * 8 + 6, none⟩ = some (.int .i64 x.mi) ∧ w'.cell? ⟨b, off + i * 8 + 7, none⟩ = some (.int .i64 x.cl)) (first | go_keep | (refine ⟨?_, ?_, ?_, ?_, ?_, ?_, ?_, ?_, ?_, ?_, ?_, ?_, ?_, ?_, ?_, ?_⟩ <;> assumption))
            ((go_at_call 52; refine (refLike y x _ _ _ (HVB.out.ext (by first | exact ext_drewN _ _ | exact Below.refl _ _ | exact Ext.trans (ext_drewN _ _) (ext_drewN _ _))) (HVX.out.ext (by first | exact ext_drewN _ _ | exact Below.refl _ _ | exact Ext.trans (ext_drewN _ _) (ext_drewN _ _))) hl1).mono ?_; rintro e w3 ⟨rfl, hb3⟩; obtain ⟨g0, g1, g2, g3, g4, g5, g6, g7⟩ := cells8 hb3 hbb DD.out; obtain ⟨f0, f1, f2, f3, f4, f5, f6, f7⟩ := cells8 hb3 hbb CC.out; have H3 := Lib.hid hb3; clear hb3))
          go_wp2
          go_ret
          exact ⟨by unfold clsE; rw [if_pos HN.out]; rfl, Ext.trans HB.out (by first | exact H3.out | exact Ext.trans (ext_drewN _ _) H3.out | exact Ext.trans (ext_drewN _ _) (Ext.trans H3.out (ext_drewN _ _)))⟩
      · have HN := Lib.hid (HST.out (by simp [hl]))
        go_wp2
        all_goals
          go_region_held3 (fun w' => w'.cell? ⟨b, off + k * 8, none⟩ = some (.int .i64 y.dep) ∧ w'.cell? ⟨b, off + k * 8 + 1, none⟩ = some (.string y.nm) ∧ w'.cell? ⟨b, off + k * 8 + 2, none⟩ = some (.int .i64 y.kd) ∧ w'.cell? ⟨b, off + k * 8 + 3, none⟩ = some (.slice a4 y.ats.length cap4) ∧ w'.cell? ⟨b, off + k * 8 + 4, none⟩ = some (.string y.dat) ∧ w'.cell? ⟨b, off + k * 8 + 5, none⟩ = some (.int .i64 y.ma) ∧ w'.cell? ⟨b, off + k * 8 + 6, none⟩ = some (.int .i64 y.mi) ∧ w'.cell? ⟨b, off + k * 8 + 7, none⟩ = some (.int .i64 y.cl) ∧ w'.cell? ⟨b, off + i * 8, none⟩ = some (.int .i64 x.dep) ∧ w'.cell? ⟨b, off + i * 8 + 1, none⟩ = some (.string x.nm) ∧ w'.cell? ⟨b, off + i * 8 + 2, none⟩ = some (.int .i64 x.kd) ∧ w'.cell? ⟨b, off + i * 8 + 3, none⟩ = some (.slice a3 x.ats.length cap3) ∧ w'.cell? ⟨b, off + i * 8 + 4, none⟩ = some (.string x.dat) ∧ w'.cell? ⟨b, off + i * 8 + 5, none⟩ = some (.int .i64 x.ma) ∧ w'.cell? ⟨b, off + i * 8 + 6, none⟩ = some (.int .i64 x.mi) ∧ w'.cell? ⟨b, off + i * 8 + 7, none⟩ = some (.int .i64 x.cl)) (first | go_keep | (refine ⟨?_, ?_, ?_, ?_, ?_, ?_, ?_, ?_, ?_, ?_, ?_, ?_, ?_, ?_, ?_, ?_⟩ <;> assumption))
            ((go_at_call 52; refine (refLike y x _ _ _ (HVB.out.ext (by first | exact ext_drewN _ _ | exact Below.refl _ _ | exact Ext.trans (ext_drewN _ _) (ext_drewN _ _))) (HVX.out.ext (by first | exact ext_drewN _ _ | exact Below.refl _ _ | exact Ext.trans (ext_drewN _ _) (ext_drewN _ _))) hl1).mono ?_; rintro e w3 ⟨rfl, hb3⟩; obtain ⟨g0, g1, g2, g3, g4, g5, g6, g7⟩ := cells8 hb3 hbb DD.out; obtain ⟨f0, f1, f2, f3, f4, f5, f6, f7⟩ := cells8 hb3 hbb CC.out; have H3 := Lib.hid hb3; clear hb3))
          go_wp2
          go_roundw
          case rel => exact ⟨_, k + 1, rfl, by omega, by go_num, by rw [HMS.out]; exact int_eq (by omega), HN.out, Ext.trans HB.out (by first | exact H3.out | exact Ext.trans (ext_drewN _ _) H3.out | exact Ext.trans (ext_drewN _ _) (Ext.trans H3.out (ext_drewN _ _)))⟩
          case measure => first | (simp [intOf]; done) | (simp [intOf]; omega)
    · obtain rfl : k = i := by omega
      have HB := Lib.hid hbw
      obtain ⟨m0, m1⟩ := HM.out k (Nat.le_refl _)
      obtain ⟨c0, c1, c2, c3, c4, c5, c6, c7⟩ := CC
      have HR : Hid (clsE t k = if x.cl < 0 ∨ mostC t k + 1 < x.cl then 6 else 0) := Lib.hid (by unfold clsE; rw [if_neg (by rw [HU.out]; exact Bool.false_ne_true), HG.out])
      clear hbw
      by_cases r1 : x.cl < 0
      · go_wp2
        go_ret
        exact ⟨by rw [HR.out, if_pos (.inl r1)]; rfl, HB.out⟩
      by_cases r2 : mostC t k + 1 < x.cl
      · go_wp2
        go_ret
        exact ⟨by rw [HR.out, if_pos (.inr r2)]; rfl, HB.out⟩
      · go_wp2
        go_ret
        exact ⟨by rw [HR.out, if_neg (by omega)]; rfl, HB.out⟩
end Go.Proofs.YtiliglpolcpnbaaGreatDoor
