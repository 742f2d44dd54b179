/- PthW FarB FarO BsdG BsdY GenP ParW OrW OvA OvT BsdV -/
import Derived.Test.YtimpejaaeinplaaGreatDoorQI5
import Derived.Test.YtimpejaaeinplaaGreatDoorShelj
import Derived.Test.YtimpejaaeinplaaGreatDoorShelp
import Derived.Test.YtimpejaaeinplaaGreatDoorSheli
import Derived.Test.YtimpejaaeinplaaGreatDoorQNodA
import Derived.Test.YtimpejaaeinplaaGreatDoorQBsdP
import Derived.Test.YtimpejaaeinplaaGreatDoorQSrt
import Derived.Test.YtimpejaaeinplaaGreatDoorQPthP
namespace Go.Proofs.YtimpejaaeinplaaGreatDoor
open Go.RowKit

theorem strJoin (w : World) (v : Value) (l : List ByteArray) (hv : StrsAt w v l) (hp : pathE l = 0) :
    RetB Tryz.prog 165 #[v, .string ⟨#[47]⟩] w (.string (ofL (Lib.join (l.map L) [47]))) := by
  unfold RetB
  obtain ⟨a, cap, rfl, hcap, hc⟩ := hv
  have hlen := join_len hp
  have hl8 := (pathE_zero hp).1
  by_cases h0 : l.length = 0
  · obtain rfl : l = [] := List.length_eq_zero_iff.1 h0
    exact (Tryz.strings_Join_none a cap _ w).mono fun e w' ⟨h1, h2⟩ => ⟨h1, h2 ▸ Below.refl _ _⟩
  · obtain ⟨b, off, rfl, hb, _⟩ := hc 0 (by omega)
    refine Tryz.strings_Join b off cap l ⟨#[47]⟩ w (fun j x hj => ?_) hb (by omega) hcap ?_
    · obtain ⟨hj', rfl⟩ := List.getElem?_eq_some_iff.1 hj
      obtain ⟨b2, off2, e, _, h2⟩ := hc j hj'
      cases e; exact h2
    · exact Nat.le_trans hlen (by decide)
def prS (l : List ByteArray) : ByteArray := if pathE l = 0 then textP l else ⟨#[]⟩
end Go.Proofs.YtimpejaaeinplaaGreatDoor
namespace Go.Proofs.YtimpejaaeinplaaGreatDoor
open Go.RowKit

theorem pathsPrint (w : World) (v : Value) (l : List ByteArray) (hv : StrsAt w v l) :
    RetB Tryz.prog 115 #[v] w (.tuple #[.string (prS l), .int .i64 (pathE l)]) := by
  unfold RetB
  have HV := hQq hv; clear hv
  by_cases h : pathE l = 0
  · have h1 : (pathE l != 0) = false := bne_eq_false_iff_eq.2 h
    have HP := hQq h
    have hsz : (ofL (Lib.join (l.map L) [47])).size <= 1000 := by rw [size_ofL]; exact join_len h
    clear h
    go_enter Tryz.func115, Tryz.ntmps115
    go_wp2_with (first
      | (go_at_call 138; refine (pathsCheck _ l _ HV.out).mono ?_; rintro e w1 ⟨rfl, hb⟩; have HB1 := hQq hb; clear hb)
      | (go_at_call 165; refine (strJoin _ _ l (HV.out.ext HB1.out) HP.out).mono ?_; rintro e w2 ⟨rfl, hb⟩; have HB2 := hQq (Ext.trans HB1.out hb); clear hb))
    go_ret2
    refine ⟨?_, HB2.out⟩
    have e : prS l = (⟨#[47]⟩ : ByteArray) ++ ofL (Lib.join (l.map L) [47]) := by
      unfold prS; rw [if_pos HP.out]; apply L_inj; rw [L_append]; rfl
    rw [e, HP.out]; rfl
  · have h1 : (pathE l != 0) = true := bne_iff_ne.2 h
    have HP : Hid (prS l = ⟨#[]⟩) := hQq (if_neg h)
    clear h
    go_enter Tryz.func115, Tryz.ntmps115
    go_wp2_with (go_at_call 138; refine (pathsCheck _ l _ HV.out).mono ?_; rintro e w1 ⟨rfl, hb⟩; have HB1 := hQq hb; clear hb)
    go_ret2
    exact ⟨by rw [HP.out]; rfl, HB1.out⟩
end Go.Proofs.YtimpejaaeinplaaGreatDoor
namespace Go.Proofs.YtimpejaaeinplaaGreatDoor
open Go.RowKit

def BoolP (P : Prop) (w : World) (e : Ending) (w' : World) : Prop := ∃ r : Bool, e = .returned (.bool r) /\ (r = false -> P) /\ w = w'
def Few (n : Nat) (l : List Attr) : Prop := l.length <= 10 /\ ∀ a ∈ l, a.1.size <= n /\ a.2.size <= n
theorem few_of {l : List Attr} {k n : Nat} (hk : k = l.length) (hl : l.length <= 10) (h : ∀ j (_ : j < k) (hj : j < l.length), (l[j]'hj).1.size <= n /\ (l[j]'hj).2.size <= n) : Few n l := by
  refine ⟨hl, fun a ha => ?_⟩
  obtain ⟨j, hj, rfl⟩ := List.getElem_of_mem ha
  exact h j (by omega) hj
structure FewT (n : Nat) (t : List TrN) : Prop where
  len : t.length <= 130
  ok : ∀ x ∈ t, Few n x.ats /\ x.nm.size <= n /\ x.dat.size <= n
structure FewB (n : Nat) (b : List BrN) : Prop where
  len : b.length <= 130
  ok : ∀ x ∈ b, Few n x.ats /\ x.nm.size <= n /\ x.dat.size <= n /\ x.red.length <= 12 /\ ∀ s ∈ x.red, s.size <= n
end Go.Proofs.YtimpejaaeinplaaGreatDoor
namespace Go.Proofs.YtimpejaaeinplaaGreatDoor
open Go.RowKit

theorem Few.mono {n m : Nat} {l : List Attr} (h : Few n l) (hnm : n <= m) : Few m l := ⟨h.1, fun a ha => by have := h.2 a ha; omega⟩
def BoolE (P : Prop) (w : World) (e : Ending) (w' : World) : Prop := ∃ r : Bool, e = .returned (.bool r) /\ (r = false -> P) /\ Ext w w'
end Go.Proofs.YtimpejaaeinplaaGreatDoor
namespace Go.Proofs.YtimpejaaeinplaaGreatDoor
open Go.RowKit
theorem getT_chk {t : List TrN} (h : treeE t = 0) {k : Nat} (hk : k < t.length) : chkE (getT t k).ats = 0 := (node_parts ((treeE_zero h).2.2.1 k hk)).2.2.2.1
theorem small_chk {l : List Attr} (h : chkE l = 0) : Small l := fun a ha => by have := size_of_chk h a ha; omega
end Go.Proofs.YtimpejaaeinplaaGreatDoor
namespace Go.Proofs.YtimpejaaeinplaaGreatDoor
open Go.RowKit

/-! A tree stays sound if other sound attributes are put in, equal ones for equal ones. -/
def bareT (x : TrN) : TrN := { x with ats := [] }
theorem unlike_like {t : List TrN} {i : Nat} : ∀ (k : Nat), unlike t i k = false ↔ ∀ j, j < k -> 0 < (getT t i).cl -> (getT t j).cl = (getT t i).cl -> likeB (getT t j) (getT t i) = true
  | 0 => ⟨fun _ j hj => absurd hj (by omega), fun _ => rfl⟩
  | k + 1 => by
    unfold unlike
    rw [Bool.or_eq_false_iff, unlike_like k]
    constructor
    · rintro ⟨h1, h2⟩ j hj h3 h4
      by_cases e : j = k
      · subst e
        cases hq : likeB (getT t j) (getT t i) with
        | true => rfl
        | false => rw [hq, h4] at h2; simp [h3] at h2
      · exact h1 j (by omega) h3 h4
    · intro h
      refine ⟨fun j hj => h j (by omega), ?_⟩
      by_cases h3 : 0 < (getT t i).cl
      case neg => simp [h3]
      by_cases h4 : (getT t k).cl = (getT t i).cl
      case neg => simp [h4]
      rw [h k (by omega) h3 h4]; simp
theorem like_iff {x y : TrN} : likeB x y = true ↔ x.kd = y.kd /\ x.ats = y.ats /\ x.dat.toList = y.dat.toList /\ x.ma = y.ma /\ x.mi = y.mi := by
  unfold likeB; simp [and_assoc]
theorem bare_eq {x y : TrN} (h : bareT x = bareT y) : x.dep = y.dep /\ x.nm = y.nm /\ x.kd = y.kd /\ x.dat = y.dat /\ x.ma = y.ma /\ x.mi = y.mi /\ x.cl = y.cl := by
  cases x; cases y; simp [bareT] at h; simp [h]
theorem kind_bare {x y : TrN} (h : bareT x = bareT y) (h5 : x.kd = 5 -> y.ats = []) (hk : kindE x = 0) : kindE y = 0 := by
  obtain ⟨_, _, a, b, c, d, e⟩ := bare_eq h
  unfold kindE at hk ⊢
  rw [<- a, <- b, <- c, <- d, <- e]
  by_cases e1 : x.kd < 1 \/ 5 < x.kd
  · rw [if_pos e1] at hk; cases hk
  rw [if_neg e1] at hk ⊢
  by_cases e2 : x.kd = 1
  · rw [if_pos e2] at hk ⊢; exact hk
  rw [if_neg e2] at hk ⊢
  by_cases e3 : x.kd = 2
  · rw [if_pos e3] at hk ⊢; exact hk
  rw [if_neg e3] at hk ⊢
  by_cases e4 : x.kd = 3
  · rw [if_pos e4] at hk ⊢; exact hk
  rw [if_neg e4] at hk ⊢
  by_cases e5 : x.kd = 4
  · rw [if_pos e5] at hk ⊢; exact hk
  rw [if_neg e5] at hk ⊢
  split at hk
  · rename_i hh
    rw [if_pos ⟨hh.1, hh.2.1, hh.2.2.1, hh.2.2.2.1, by rw [h5 (by omega)]; rfl⟩]
  · cases hk
end Go.Proofs.YtimpejaaeinplaaGreatDoor
namespace Go.Proofs.YtimpejaaeinplaaGreatDoor
open Go.RowKit

/-! Encode: the error of each node, and what it is written as. -/
def genT (b : List BrN) (E : Nat -> Int) (X : Nat -> TrN) : List TrN × Int × Int :=
  if brEr b ≠ 0 then ([], brNo b, brEr b) else match findB (fun i => E i != 0) 0 b.length with
    | some i => ([], i, E i)
    | none => ((List.range b.length).map X, 0, 0)
section
variable {b : List BrN} {E : Nat -> Int} {X : Nat -> TrN}
theorem gen_br (h : brEr b ≠ 0) : genT b E X = ([], brNo b, brEr b) := if_pos h
theorem gen_node (h : brEr b = 0) {i : Nat} (hi : i < b.length) (hl : ∀ j, j < i -> E j = 0) (he : E i ≠ 0) : genT b E X = ([], (i : Int), E i) := by
  unfold genT
  rw [if_neg (by simp [h]), findB_some b.length 0 i (Nat.zero_le _) (by omega) (fun j _ hj => by show (E j != 0) = false; rw [hl j hj]; rfl) (show (E i != 0) = true from bne_iff_ne.2 he)]
theorem gen_ok (h : brEr b = 0) (hl : ∀ j, j < b.length -> E j = 0) : genT b E X = ((List.range b.length).map X, 0, 0) := by
  unfold genT
  rw [if_neg (by simp [h]), findB_none b.length 0 (fun j _ hj => by show (E j != 0) = false; rw [hl j (by omega)]; rfl)]
theorem gen_zero (h : (genT b E X).2.2 = 0) : brEr b = 0 /\ (∀ j, j < b.length -> E j = 0) /\ genT b E X = ((List.range b.length).map X, 0, 0) := by
  by_cases h1 : brEr b = 0
  case neg => rw [gen_br h1] at h; exact absurd h h1
  have hall : ∀ j, j < b.length -> E j = 0 := by
    cases hf : findB (fun i => E i != 0) 0 b.length with
    | some i =>
      unfold genT at h
      rw [if_neg (by simp [h1]), hf] at h
      exact absurd h (bne_iff_ne.1 (findB_mem _ _ _ hf).1)
    | none => exact fun j hj => bne_eq_false_iff_eq.1 (findB_none_iff _ _ hf j (Nat.zero_le _) (by omega))
  exact ⟨h1, hall, gen_ok h1 hall⟩
end
/-! Decode. -/
def genD (t : List TrN) (E : Nat -> Int) (X : Nat -> BrN) : List BrN × Int × Int :=
  if treeE t ≠ 0 then ([], treeN t, treeE t) else match findB (fun i => E i != 0) 0 t.length with
    | some i => ([], i, E i)
    | none => if brEr ((List.range t.length).map X) ≠ 0 then ([], brNo ((List.range t.length).map X), brEr ((List.range t.length).map X)) else ((List.range t.length).map X, 0, 0)
section
variable {t : List TrN} {E : Nat -> Int} {X : Nat -> BrN}
theorem gend_tree (h : treeE t ≠ 0) : genD t E X = ([], treeN t, treeE t) := if_pos h
theorem gend_node (h : treeE t = 0) {i : Nat} (hi : i < t.length) (hl : ∀ j, j < i -> E j = 0) (he : E i ≠ 0) : genD t E X = ([], (i : Int), E i) := by
  unfold genD
  rw [if_neg (by simp [h]), findB_some t.length 0 i (Nat.zero_le _) (by omega) (fun j _ hj => by show (E j != 0) = false; rw [hl j hj]; rfl) (show (E i != 0) = true from bne_iff_ne.2 he)]
theorem gend_br (h : treeE t = 0) (hl : ∀ j, j < t.length -> E j = 0) (hb : brEr ((List.range t.length).map X) ≠ 0) : genD t E X = ([], brNo ((List.range t.length).map X), brEr ((List.range t.length).map X)) := by
  unfold genD
  rw [if_neg (by simp [h]), findB_none t.length 0 (fun j _ hj => by show (E j != 0) = false; rw [hl j (by omega)]; rfl)]; exact if_pos hb
theorem gend_ok (h : treeE t = 0) (hl : ∀ j, j < t.length -> E j = 0) (hb : brEr ((List.range t.length).map X) = 0) : genD t E X = ((List.range t.length).map X, 0, 0) := by
  unfold genD
  rw [if_neg (by simp [h]), findB_none t.length 0 (fun j _ hj => by show (E j != 0) = false; rw [hl j (by omega)]; rfl)]; exact if_neg (by simp [hb])
theorem gend_zero (h : (genD t E X).2.2 = 0) : treeE t = 0 /\ (∀ j, j < t.length -> E j = 0) /\ brEr ((List.range t.length).map X) = 0 /\ genD t E X = ((List.range t.length).map X, 0, 0) := by
  by_cases h1 : treeE t = 0
  case neg => rw [gend_tree h1] at h; exact absurd h h1
  have hall : ∀ j, j < t.length -> E j = 0 := by
    cases hf : findB (fun i => E i != 0) 0 t.length with
    | some i =>
      unfold genD at h
      rw [if_neg (by simp [h1]), hf] at h
      exact absurd h (bne_iff_ne.1 (findB_mem _ _ _ hf).1)
    | none => exact fun j hj => bne_eq_false_iff_eq.1 (findB_none_iff _ _ hf j (Nat.zero_le _) (by omega))
  by_cases h2 : brEr ((List.range t.length).map X) = 0
  case neg => rw [gend_br h1 hall h2] at h; exact absurd h h2
  exact ⟨h1, hall, h2, gend_ok h1 hall h2⟩
end
theorem getT_range {n : Nat} {X : Nat -> TrN} {i : Nat} (h : i < n) : getT ((List.range n).map X) i = X i := by
  unfold getT; simp [List.getD, h]
theorem getB_range {n : Nat} {X : Nat -> BrN} {i : Nat} (h : i < n) : getB ((List.range n).map X) i = X i := by
  unfold getB; simp [List.getD, h]
theorem range_T {t : List TrN} {X : Nat -> TrN} (h : ∀ i, i < t.length -> X i = getT t i) : (List.range t.length).map X = t := by
  refine List.ext_getElem (by simp) fun i h1 h2 => ?_
  simp only [List.getElem_map, List.getElem_range]
  rw [h i h2, getT_at t i h2]
theorem range_B {b : List BrN} {X : Nat -> BrN} (h : ∀ i, i < b.length -> X i = getB b i) : (List.range b.length).map X = b := by
  refine List.ext_getElem (by simp) fun i h1 h2 => ?_
  simp only [List.getElem_map, List.getElem_range]
  rw [h i h2, getB_at b i h2]
/-! A tree stays sound under sound changes of its nodes that keep shape, names and classes. -/
theorem shape_same {t u : List TrN} (h : ∀ i, (getT u i).dep = (getT t i).dep /\ (getT u i).nm = (getT t i).nm /\ ((getT u i).kd = 1 ↔ (getT t i).kd = 1)) (i : Nat) : shapeE u i = shapeE t i := by
  have hm : ∀ j, mostD (getT u j) = mostD (getT t j) := fun j => by
    obtain ⟨h1, _, h3⟩ := h j
    unfold mostD
    rw [h1]
    by_cases e : (getT t j).kd = 1
    · rw [if_pos e, if_pos (h3.2 e)]
    · rw [if_neg e, if_neg (fun x => e (h3.1 x))]
  obtain ⟨h1, h2, h3⟩ := h i
  unfold shapeE
  rw [hm, h1, h2]
  simp only [h3]
theorem scan_same : ∀ {r s : List TrN} (d : Int), r.map (fun x => (x.dep, x.nm)) = s.map (fun x => (x.dep, x.nm)) -> scan r d = scan s d
  | [], [], _, _ => rfl
  | [], _ :: _, _, h => by cases h
  | _ :: _, [], _, h => by cases h
  | x :: r, y :: s, d, h => by
    rw [List.map_cons, List.map_cons] at h
    injection h with h1 h2
    injection h1 with h3 h4
    have ih := scan_same d h2
    rcases Int.lt_trichotomy x.dep d with e | e | e
    · rw [scan_lt e, scan_lt (by rw [<- h3]; exact e)]
    · rw [scan_eq e, scan_eq (by rw [<- h3]; exact e), ih, h4]
    · rw [scan_gt e, scan_gt (by rw [<- h3]; exact e), ih]
theorem most_same {t u : List TrN} (h : ∀ i, (getT u i).cl = (getT t i).cl) (k : Nat) : mostC u k = mostC t k := by
  induction k with
  | zero => rfl
  | succ k ih => unfold mostC; rw [ih, h]
theorem count_same {t u : List TrN} (h : ∀ i, (getT u i).cl = (getT t i).cl) (c : Int) (k : Nat) : countC u c k = countC t c k := by
  induction k with
  | zero => rfl
  | succ k ih => unfold countC; rw [ih, h]
theorem tree_keep {t u : List TrN} (hl : u.length = t.length) (hs : ∀ i, i < t.length -> (getT u i).dep = (getT t i).dep /\ (getT u i).nm = (getT t i).nm /\ (getT u i).cl = (getT t i).cl /\ ((getT u i).kd = 1 ↔ (getT t i).kd = 1))
    (hk : ∀ i, i < t.length -> kindE (getT u i) = 0) (hc : ∀ i, i < t.length -> chkE (getT u i).ats = 0)
    (heq : ∀ i k, i < t.length -> k < t.length -> 0 < (getT t i).cl -> (getT t k).cl = (getT t i).cl -> likeB (getT t k) (getT t i) = true -> likeB (getT u k) (getT u i) = true) (h : treeE t = 0) : treeE u = 0 := by
  obtain ⟨z1, z2, z3, z4, z5⟩ := treeE_zero h
  have hs' : ∀ i, (getT u i).dep = (getT t i).dep /\ (getT u i).nm = (getT t i).nm /\ (getT u i).cl = (getT t i).cl /\ ((getT u i).kd = 1 ↔ (getT t i).kd = 1) := fun i => by
    by_cases hi : i < t.length
    · exact hs i hi
    · have e1 : getT t i = zTrN := by unfold getT; rw [List.getD, List.getElem?_eq_none (by omega)]; rfl
      have e2 : getT u i = zTrN := by unfold getT; rw [List.getD, List.getElem?_eq_none (by omega)]; rfl
      rw [e1, e2]; exact ⟨rfl, rfl, rfl, Iff.rfl⟩
  have hent : ∀ i, i <= t.length -> entryE u i = entryE t i := fun i hi => by
    have hrev : (revT u i).map (fun x => (x.dep, x.nm)) = (revT t i).map (fun x => (x.dep, x.nm)) := by
      unfold revT
      rw [List.map_reverse, List.map_reverse]
      congr 1
      refine List.ext_getElem (by simp [hl]) fun j h1 h2 => ?_
      simp only [List.getElem_map, List.getElem_take]
      simp only [List.length_map, List.length_take] at h1 h2
      have g := hs' j
      rw [getT_at u j (by omega), getT_at t j (by omega)] at g
      rw [g.1, g.2.1]
    unfold entryE
    rw [(hs' i).1, (hs' i).2.1, scan_same _ hrev]
  have hok : AllOk u u.length := by
    intro i hi
    rw [hl] at hi
    obtain ⟨n1, n2, n3, n4, n5⟩ := node_parts (z3 i hi)
    have m1 : shapeE u i = 0 := by rw [shape_same (t := t) (fun j => ⟨(hs' j).1, (hs' j).2.1, (hs' j).2.2.2⟩)]; exact n1
    have m2 : i ≠ 0 -> entryE u i = 0 := fun h0 => by rw [hent i (by omega)]; exact n2 h0
    rw [nodeE_cls rfl m1 m2 (hk i hi) (hc i hi)]
    obtain ⟨c1, c2, c3⟩ := cls_bd n5
    unfold clsE
    have hun : unlike u i i = false := by
      refine (unlike_like i).2 fun j hj hp he => ?_
      rw [(hs' i).2.2.1] at hp he
      rw [(hs' j).2.2.1] at he
      exact heq i j hi (by omega) hp he ((unlike_like i).1 c3 j hj hp he)
    rw [if_neg (by simp [hun]), if_neg (by rw [(hs' i).2.2.1, most_same (fun j => (hs' j).2.2.1)]; omega)]
  refine (tree_of (treeT_ok (by omega) (by omega) hok fun i hi => ?_)).2
  rw [hl] at hi
  have := z5 i hi
  unfold loneB at this ⊢
  rw [hl, count_same (fun j => (hs' j).2.2.1), (hs' i).2.2.1]
  exact this
theorem kind_white {x : TrN} (h : kindE x = 0) (hk : x.kd = 5) : x.ats = [] /\ x.dat.toList = [] /\ x.ma = 0 /\ x.mi = 0 /\ x.cl = 0 := by
  unfold kindE at h
  rw [if_neg (by omega), if_neg (by omega), if_neg (by omega), if_neg (by omega), if_neg (by omega)] at h
  split at h
  · rename_i hh
    exact ⟨List.length_eq_zero_iff.1 hh.2.2.2.2, hh.1, hh.2.1, hh.2.2.1, hh.2.2.2.1⟩
  · cases h
def manyT (t : List TrN) (c : Int) : Int := if c = 0 then 1 else countC t c t.length
theorem many_bd (t : List TrN) (c : Int) : 0 <= manyT t c /\ manyT t c <= t.length + 1 := by
  unfold manyT
  have := countC_le t c t.length
  split <;> omega
def linkS (n : Int) : ByteArray := if n < 2 then ⟨#[]⟩ else ⟨(Lib.itoa n).toArray⟩
theorem decDigits_ne (n : Nat) : Lib.decDigits n ≠ [] := by
  unfold Lib.decDigits
  split
  · exact List.cons_ne_nil _ _
  · intro e; exact absurd (List.append_eq_nil_iff.1 e).2 (List.cons_ne_nil _ _)
theorem link_one {n : Int} (h : n < 2) : linkS n = ⟨#[]⟩ := if_pos h
theorem link_two {n : Int} (h : ¬ n < 2) : (linkS n).size ≠ 0 := by
  unfold linkS
  rw [if_neg h]
  intro e
  have e : (Lib.itoa n).length = 0 := e
  unfold Lib.itoa at e
  rw [if_neg (by omega)] at e
  exact decDigits_ne _ (List.length_eq_zero_iff.1 e)
def reW : ByteArray := ofL [114, 101, 100, 105, 114, 101, 99, 116]
def nlW : ByteArray := ofL [110, 108, 105, 110, 107]
def yW : ByteArray := ofL [121]
def redS (r : List ByteArray) : ByteArray := if 0 < r.length then prS r else ⟨#[]⟩
def bookE (own : List Attr) (n : Int) : Int := if isM own nlW = decide (1 < n) /\ valM own nlW = linkS n then 0 else 18
theorem book_ok {own : List Attr} {n : Int} (h1 : isM own nlW = decide (1 < n)) (h2 : valM own nlW = linkS n) : bookE own n = 0 := if_pos ⟨h1, h2⟩
theorem book_no {own : List Attr} {n : Int} (h : ¬ (isM own nlW = decide (1 < n) /\ valM own nlW = linkS n)) : bookE own n = 18 := if_neg h
theorem book_zero {own : List Attr} {n : Int} (h : bookE own n = 0) : isM own nlW = decide (1 < n) /\ valM own nlW = linkS n := by
  unfold bookE at h
  split at h
  · assumption
  · cases h
end Go.Proofs.YtimpejaaeinplaaGreatDoor
namespace Go.Proofs.YtimpejaaeinplaaGreatDoor
open Go.RowKit

theorem gPow : Tryz.prog.globalNamed "internal/strconv.uint64pow10" = some 7 := by kernel_rfl
structure LaidO (w : World) : Prop where
  laid : Laid w
  psz : 7 < w.heap.size
  pow : Lib.TabIs Tryz.prog w "internal/strconv.uint64pow10" .u64 Lib.pow10Tab
  mx : ∃ m, w.cell? ⟨8, 0, none⟩ = some (.int .i64 m)
theorem LaidO.ext {w w' : World} (h : LaidO w) (he : Ext w w') : LaidO w' where
  laid := h.laid.ext he
  psz := Nat.lt_of_lt_of_le h.psz he.size
  pow := by
    have ha := h.pow
    unfold Lib.TabIs at ha ⊢
    exact var?_below he gPow h.psz ha
  mx := by
    obtain ⟨m, hm⟩ := h.mx
    exact ⟨m, by rw [ext_cell he (World.block_lt_of_cell? _ _ hm)]; exact hm⟩
theorem itoaX (n : Int) (w : World) (hL : LaidO w) (h0 : 0 <= n) (h1 : n <= 9223372036854775807) : RetB Tryz.prog 121 #[.int .i64 n] w (.string ⟨(Lib.itoa n).toArray⟩) := by
  unfold RetB
  refine (Tryz.strconv_Itoa n (by omega) (by omega) w hL.pow).mono ?_
  rintro e w' ⟨rfl, k, os, rfl⟩
  exact ⟨rfl, Lib.below_grow _ _ (Nat.le_refl _) _ _⟩
theorem itoa (n : Int) (w : World) (hL : LaidO w) (h0 : 0 <= n) (h1 : n <= 1000000) : RetB Tryz.prog 121 #[.int .i64 n] w (.string ⟨(Lib.itoa n).toArray⟩) := itoaX n w hL h0 (by omega)
theorem splitSlash (s : ByteArray) (w : World) (hL : LaidO w) (hs : s.size <= 1000000) :
    Calls Tryz.prog 192 #[.string s, .string ⟨#[47]⟩] w fun e w' => (∃ a cap, e = .returned (.slice a (cutsB (L s)).length cap) /\ StrIn 0 w' (.slice a (cutsB (L s)).length cap) (cutsB (L s))) /\ Ext w w' := by
  obtain ⟨m, hm⟩ := hL.mx
  have hsp : Lib.splitB ⟨#[47]⟩ 0 (Lib.countB s ⟨#[47]⟩) s = cutsB (L s) := by
    have := splitB_cuts s
    rw [cutsB, <- this, mapOfL]; rfl
  have hlen : Lib.countB s ⟨#[47]⟩ + 1 = (cutsB (L s)).length := by
    rw [<- hsp]; exact (Lib.splitB_all ⟨#[47]⟩ (by decide) 0 _ s rfl).symm
  refine (Tryz.strings_Split s ⟨#[47]⟩ m w (by omega) hm (by decide)).mono ?_
  rintro e w' ⟨rfl, rfl⟩
  rw [hlen, hsp]
  refine ⟨⟨_, _, rfl, ?_⟩, eA _ _⟩
  have h := strsAt_new w (cutsL (L s)) 9
  have e1 : ((cutsL (L s)).map ofL).map Value.string = (cutsL (L s)).map (fun l => Value.string ⟨l.toArray⟩) := by rw [List.map_map]; rfl
  rw [cutsB, e1, List.length_map]
  refine strIn_of (by simpa using h) fun _ b hb => .inr ?_
  cases hb
  exact ⟨_, _, bN _ _⟩
theorem head_hasP {s : ByteArray} : hasP s ⟨#[47]⟩ = true ↔ (L s).head? = some 47 := by
  unfold hasP
  have e : L (⟨#[47]⟩ : ByteArray) = [47] := rfl
  rw [e]
  cases h : L s with
  | nil => simp
  | cons c r =>
    show ((47 == c) && true) = true ↔ some c = some 47
    rw [Bool.and_true, beq_iff_eq, Option.some.injEq]
    exact eq_comm
theorem cut_tail {s : ByteArray} (h : hasP s ⟨#[47]⟩ = true) : L (cutP s ⟨#[47]⟩) = (L s).tail := by
  have := L_cut h
  rw [this]; rfl
end Go.Proofs.YtimpejaaeinplaaGreatDoor
namespace Go.Proofs.YtimpejaaeinplaaGreatDoor
open Go.RowKit
theorem setM_len (d : Int) (l : List Attr) (m : Attr) : (setM d l m).length <= l.length + 1 := by
  unfold setM; split
  · omega
  · rw [put_length]; exact Nat.le_refl _
end Go.Proofs.YtimpejaaeinplaaGreatDoor
namespace Go.Proofs.YtimpejaaeinplaaGreatDoor
open Go.RowKit

abbrev mksV (o r n : ByteArray) : Value := .agg #[.string o, .string r, .string n]
end Go.Proofs.YtimpejaaeinplaaGreatDoor
namespace Go.Proofs.YtimpejaaeinplaaGreatDoor
open Go.RowKit

theorem isM_none {own : List Attr} {k : ByteArray} (h : isM own k = false) : valM own k = ⟨#[]⟩ := by
  unfold isM at h
  unfold valM
  cases e : getM own k with
  | none => rfl
  | some v => rw [e] at h; cases h
end Go.Proofs.YtimpejaaeinplaaGreatDoor
namespace Go.Proofs.YtimpejaaeinplaaGreatDoor
open Go.RowKit

theorem br_chk {b : List BrN} (h : brEr b = 0) {j : Nat} (hj : j < b.length) : chkE (getB b j).ats = 0 := by
  obtain ⟨t0, _, _⟩ := brEr_zero h
  have := getT_chk t0 (k := j) (by rw [plT_len]; exact hj)
  rw [getT_plT b j hj] at this
  exact this
end Go.Proofs.YtimpejaaeinplaaGreatDoor
