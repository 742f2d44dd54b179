/- BsdY GenP OvP BsdV OvS RawP BsdM DirQ OvPD -/
import Derived.Test.YtimpejaaeinplaaGreatDoorJI5
import Derived.Test.YtimpejaaeinplaaGreatDoorJPthW
import Derived.Test.YtimpejaaeinplaaGreatDoorJaDirK
namespace Go.Proofs.YtimpejaaeinplaaGreatDoor
open Go.RowKit
/-! A tree stays sound if other sound attributes are put in, equal ones for equal ones. -/
def bareT (x : TrN) : TrN := { x with ats := [] }
theorem unlike_like {t : List TrN} {i : Nat} : ∀ (k : Nat), unlike t i k = false ↔ ∀ j, j < k -> 0 < (getT t i).cl -> (getT t j).cl = (getT t i).cl -> likeB (getT t j) (getT t i) = true
 | 0 => ⟨fun _ j hj => absurd hj (by omega), fun _ => rfl⟩
 | k + 1 => by
  unfold unlike
  rw [Bool.or_eq_false_iff, unlike_like k]
  constructor
  ·rintro ⟨h1, h2⟩ j hj h3 h4
   by_cases e : j = k
   ·subst e
    cases hq : likeB (getT t j) (getT t i) with
    | true => rfl
    | false => rw [hq, h4] at h2; simp [h3] at h2
   ·exact h1 j (by omega) h3 h4
  ·intro h
   refine ⟨fun j hj => h j (by omega), ?_⟩
   by_cases h3 : 0 < (getT t i).cl
   case neg => simp [h3]
   by_cases h4 : (getT t k).cl = (getT t i).cl
   case neg => simp [h4]
   rw [h k (by omega) h3 h4]; simp
theorem like_iff {x y : TrN} : likeB x y = true ↔ x.kd = y.kd /\ x.ats = y.ats /\ x.dat.toList = y.dat.toList /\ x.ma = y.ma /\ x.mi = y.mi := by
 unfold likeB; simp [and_assoc]
theorem bare_eq {x y : TrN} (h : bareT x = bareT y) : x.dep = y.dep /\ x.nm = y.nm /\ x.kd = y.kd /\ x.dat = y.dat /\ x.ma = y.ma /\ x.mi = y.mi /\ x.cl = y.cl := by
 cases x; cases y; simp [bareT] at h; simp [h]
theorem kind_bare {x y : TrN} (h : bareT x = bareT y) (h5 : x.kd = 5 -> y.ats = []) (hk : kindE x = 0) : kindE y = 0 := by
 obtain ⟨_, _, a, b, c, d, e⟩ := bare_eq h
 unfold kindE at hk ⊢
 rw [<- a, <- b, <- c, <- d, <- e]
 by_cases e1 : x.kd < 1 \/ 5 < x.kd
 ·rw [if_pos e1] at hk; cases hk
 rw [if_neg e1] at hk ⊢
 by_cases e2 : x.kd = 1
 ·rw [if_pos e2] at hk ⊢; exact hk
 rw [if_neg e2] at hk ⊢
 by_cases e3 : x.kd = 2
 ·rw [if_pos e3] at hk ⊢; exact hk
 rw [if_neg e3] at hk ⊢
 by_cases e4 : x.kd = 3
 ·rw [if_pos e4] at hk ⊢; exact hk
 rw [if_neg e4] at hk ⊢
 by_cases e5 : x.kd = 4
 ·rw [if_pos e5] at hk ⊢; exact hk
 rw [if_neg e5] at hk ⊢
 split at hk
 ·rename_i hh
  rw [if_pos ⟨hh.1, hh.2.1, hh.2.2.1, hh.2.2.2.1, by rw [h5 (by omega)]; rfl⟩]
 ·cases hk
theorem getT_map (t : List TrN) {j : Nat} (hj : j < t.length) (f : TrN -> BrN) : getB (t.map f) j = f (getT t j) := by
 unfold getT getB; simp [List.getD, hj]
section
variable {b : List BrN} {E : Nat -> Int} {X : Nat -> TrN}
theorem gen_zero (h : (genT b E X).2.2 = 0) : brEr b = 0 /\ (∀ j, j < b.length -> E j = 0) /\ genT b E X = ((List.range b.length).map X, 0, 0) := by
 by_cases h1 : brEr b = 0
 case neg => rw [gen_br h1] at h; exact absurd h h1
 have hall : ∀ j, j < b.length -> E j = 0 := by
  cases hf : findB (fun i => E i != 0) 0 b.length with
  | some i =>
   unfold genT at h
   rw [if_neg (by simp [h1]), hf] at h
   exact absurd h (bne_iff_ne.1 (findB_mem _ _ _ hf).1)
  | none => exact fun j hj => bne_eq_false_iff_eq.1 (findB_none_iff _ _ hf j (Nat.zero_le _) (by omega))
 exact ⟨h1, hall, gen_ok h1 hall⟩
end
theorem getT_range {n : Nat} {X : Nat -> TrN} {i : Nat} (h : i < n) : getT ((List.range n).map X) i = X i := by
 unfold getT; simp [List.getD, h]
theorem range_B {b : List BrN} {X : Nat -> BrN} (h : ∀ i, i < b.length -> X i = getB b i) : (List.range b.length).map X = b := by
 refine List.ext_getElem (by simp) fun i h1 h2 => ?_
 simp only [List.getElem_map, List.getElem_range]
 rw [h i h2, getB_at b i h2]
/-! A tree stays sound under sound changes of its nodes that keep shape, names and classes. -/
theorem shape_same {t u : List TrN} (h : ∀ i, (getT u i).dep = (getT t i).dep /\ (getT u i).nm = (getT t i).nm /\ ((getT u i).kd = 1 ↔ (getT t i).kd = 1)) (i : Nat) : shapeE u i = shapeE t i := by
 have hm : ∀ j, mostD (getT u j) = mostD (getT t j) := fun j => by
  obtain ⟨h1, _, h3⟩ := h j
  unfold mostD
  rw [h1]
  by_cases e : (getT t j).kd = 1
  ·rw [if_pos e, if_pos (h3.2 e)]
  ·rw [if_neg e, if_neg (fun x => e (h3.1 x))]
 obtain ⟨h1, h2, h3⟩ := h i
 unfold shapeE
 rw [hm, h1, h2]
 simp only [h3]
theorem scan_same : ∀ {r s : List TrN} (d : Int), r.map (fun x => (x.dep, x.nm)) = s.map (fun x => (x.dep, x.nm)) -> scan r d = scan s d
 | [], [], _, _ => rfl
 | [], _ :: _, _, h => by cases h
 | _ :: _, [], _, h => by cases h
 | x :: r, y :: s, d, h => by
  rw [List.map_cons, List.map_cons] at h
  injection h with h1 h2
  injection h1 with h3 h4
  have ih := scan_same d h2
  rcases Int.lt_trichotomy x.dep d with e | e | e
  ·rw [scan_lt e, scan_lt (by rw [<- h3]; exact e)]
  ·rw [scan_eq e, scan_eq (by rw [<- h3]; exact e), ih, h4]
  ·rw [scan_gt e, scan_gt (by rw [<- h3]; exact e), ih]
theorem most_same {t u : List TrN} (h : ∀ i, (getT u i).cl = (getT t i).cl) (k : Nat) : mostC u k = mostC t k := by
 induction k with
 | zero => rfl
 | succ k ih => unfold mostC; rw [ih, h]
theorem count_same {t u : List TrN} (h : ∀ i, (getT u i).cl = (getT t i).cl) (c : Int) (k : Nat) : countC u c k = countC t c k := by
 induction k with
 | zero => rfl
 | succ k ih => unfold countC; rw [ih, h]
theorem tree_keep {t u : List TrN} (hl : u.length = t.length) (hs : ∀ i, i < t.length -> (getT u i).dep = (getT t i).dep /\ (getT u i).nm = (getT t i).nm /\ (getT u i).cl = (getT t i).cl /\ ((getT u i).kd = 1 ↔ (getT t i).kd = 1))
  (hk : ∀ i, i < t.length -> kindE (getT u i) = 0) (hc : ∀ i, i < t.length -> chkE (getT u i).ats = 0)
  (heq : ∀ i k, i < t.length -> k < t.length -> 0 < (getT t i).cl -> (getT t k).cl = (getT t i).cl -> likeB (getT t k) (getT t i) = true -> likeB (getT u k) (getT u i) = true) (h : treeE t = 0) : treeE u = 0 := by
 obtain ⟨z1, z2, z3, z4, z5⟩ := treeE_zero h
 have hs' : ∀ i, (getT u i).dep = (getT t i).dep /\ (getT u i).nm = (getT t i).nm /\ (getT u i).cl = (getT t i).cl /\ ((getT u i).kd = 1 ↔ (getT t i).kd = 1) := fun i => by
  by_cases hi : i < t.length
  ·exact hs i hi
  ·have e1 : getT t i = zTrN := by unfold getT; rw [List.getD, List.getElem?_eq_none (by omega)]; rfl
   have e2 : getT u i = zTrN := by unfold getT; rw [List.getD, List.getElem?_eq_none (by omega)]; rfl
   rw [e1, e2]; exact ⟨rfl, rfl, rfl, Iff.rfl⟩
 have hent : ∀ i, i <= t.length -> entryE u i = entryE t i := fun i hi => by
  have hrev : (revT u i).map (fun x => (x.dep, x.nm)) = (revT t i).map (fun x => (x.dep, x.nm)) := by
   unfold revT
   rw [List.map_reverse, List.map_reverse]
   congr 1
   refine List.ext_getElem (by simp [hl]) fun j h1 h2 => ?_
   simp only [List.getElem_map, List.getElem_take]
   simp only [List.length_map, List.length_take] at h1 h2
   have g := hs' j
   rw [getT_at u j (by omega), getT_at t j (by omega)] at g
   rw [g.1, g.2.1]
  unfold entryE
  rw [(hs' i).1, (hs' i).2.1, scan_same _ hrev]
 have hok : AllOk u u.length := by
  intro i hi
  rw [hl] at hi
  obtain ⟨n1, n2, n3, n4, n5⟩ := node_parts (z3 i hi)
  have m1 : shapeE u i = 0 := by rw [shape_same (t := t) (fun j => ⟨(hs' j).1, (hs' j).2.1, (hs' j).2.2.2⟩)]; exact n1
  have m2 : i ≠ 0 -> entryE u i = 0 := fun h0 => by rw [hent i (by omega)]; exact n2 h0
  rw [nodeE_cls rfl m1 m2 (hk i hi) (hc i hi)]
  obtain ⟨c1, c2, c3⟩ := cls_bd n5
  unfold clsE
  have hun : unlike u i i = false := by
   refine (unlike_like i).2 fun j hj hp he => ?_
   rw [(hs' i).2.2.1] at hp he
   rw [(hs' j).2.2.1] at he
   exact heq i j hi (by omega) hp he ((unlike_like i).1 c3 j hj hp he)
  rw [if_neg (by simp [hun]), if_neg (by rw [(hs' i).2.2.1, most_same (fun j => (hs' j).2.2.1)]; omega)]
 refine (tree_of (treeT_ok (by omega) (by omega) hok fun i hi => ?_)).2
 rw [hl] at hi
 have := z5 i hi
 unfold loneB at this ⊢
 rw [hl, count_same (fun j => (hs' j).2.2.1), (hs' i).2.2.1]
 exact this
theorem kind_white {x : TrN} (h : kindE x = 0) (hk : x.kd = 5) : x.ats = [] /\ x.dat.toList = [] /\ x.ma = 0 /\ x.mi = 0 /\ x.cl = 0 := by
 unfold kindE at h
 rw [if_neg (by omega), if_neg (by omega), if_neg (by omega), if_neg (by omega), if_neg (by omega)] at h
 split at h
 ·rename_i hh
  exact ⟨List.length_eq_zero_iff.1 hh.2.2.2.2, hh.1, hh.2.1, hh.2.2.1, hh.2.2.2.1⟩
 ·cases h
/-! What is known of right branches and trees. -/
theorem marks_bare {b : List BrN} {j : Nat} (h : marksE b j = 0) (hk : (getB b j).kd ≠ 1) : (getB b j).opq = false /\ (getB b j).red = [] := by
 have hn : ¬ ((((getB b j).opq = true \/ 0 < (getB b j).red.length) /\ (getB b j).kd ≠ 1) \/ (j = 0 /\ 0 < (getB b j).red.length)) := fun e => by rw [marks_kind rfl e] at h; cases h
 refine ⟨?_, ?_⟩
 ·cases e : (getB b j).opq with
  | false => rfl
  | true => exact absurd (.inl ⟨.inl e, hk⟩) hn
 ·by_cases e : 0 < (getB b j).red.length
  ·exact absurd (.inl ⟨.inr e, hk⟩) hn
  ·exact List.length_eq_zero_iff.1 (by omega)
theorem marks_red {b : List BrN} {j : Nat} (h : marksE b j = 0) (hr : 0 < (getB b j).red.length) : (getB b j).kd = 1 /\ j ≠ 0 /\ pathE (getB b j).red = 0 /\ (getB b j).opq = false := by
 have hn : ¬ ((((getB b j).opq = true \/ 0 < (getB b j).red.length) /\ (getB b j).kd ≠ 1) \/ (j = 0 /\ 0 < (getB b j).red.length)) := fun e => by rw [marks_kind rfl e] at h; cases h
 have hk : (getB b j).kd = 1 := Decidable.not_not.1 fun e => hn (.inl ⟨.inr hr, e⟩)
 have h0 : j ≠ 0 := fun e => hn (.inr ⟨e, hr⟩)
 have ho : (getB b j).opq = false := by
  cases e : (getB b j).opq with
  | false => rfl
  | true => rw [marks_both rfl hk h0 e hr] at h; cases h
 refine ⟨hk, h0, Decidable.not_not.1 fun e => ?_, ho⟩
 rw [marks_path rfl hk h0 ho hr e] at h; exact e h
theorem kind_dir {x : TrN} (h : kindE x = 0) (hk : x.kd = 1) : x.cl = 0 := by
 unfold kindE at h
 rw [if_neg (by omega), if_pos hk] at h
 split at h
 ·rename_i hh; exact hh.2.2.2
 ·cases h
theorem kind_ats {x : TrN} {l : List Attr} (h : kindE x = 0) (hk : x.kd ≠ 5) : kindE { x with ats := l } = 0 := kind_bare (x := x) rfl (fun e => absurd e hk) h
theorem bytes_nil {s : ByteArray} (h : s.toList = []) : s = ⟨#[]⟩ := L_inj (by rw [<- tL, h]; rfl)
theorem size_ne_toList {s : ByteArray} : s.size = 0 ↔ s = ⟨#[]⟩ := by
 constructor
 ·intro h; exact L_inj (List.length_eq_zero_iff.1 (by rw [<- size_L]; exact h))
 ·rintro rfl; rfl
theorem textP_size (r : List ByteArray) : (textP r).size ≠ 0 := by
 rw [size_L]; unfold textP; rw [L_ofL]; simp
theorem red_size {r : List ByteArray} (h : 0 < r.length -> pathE r = 0) : (redS r).size = 0 ↔ r = [] := by
 unfold redS
 by_cases e : 0 < r.length
 ·rw [if_pos e]
  unfold prS
  rw [if_pos (h e)]
  exact ⟨fun x => absurd x (textP_size r), fun x => by rw [x] at e; exact absurd e (by decide)⟩
 ·rw [if_neg e]
  exact ⟨fun _ => List.length_eq_zero_iff.1 (by omega), fun _ => rfl⟩
theorem many_same {t u : List TrN} (hl : u.length = t.length) (h : ∀ i, (getT u i).cl = (getT t i).cl) (c : Int) : manyT u c = manyT t c := by
 unfold manyT; rw [hl, count_same h]
theorem isM_get {own : List Attr} {k v : ByteArray} (h : getM own k = if v.size = 0 then none else some v) : isM own k = decide (v.size ≠ 0) /\ valM own k = v := by
 unfold isM valM
 rw [h]
 by_cases e : v.size = 0
 ·rw [if_pos e]; exact ⟨by simp [e], (size_ne_toList.1 e).symm⟩
 ·rw [if_neg e]; exact ⟨by simp [e], rfl⟩
theorem book_ov {own : List Attr} {n : Int} (h : getM own nlW = if (linkS n).size = 0 then none else some (linkS n)) : bookE own n = 0 := by
 obtain ⟨a1, a2⟩ := isM_get h
 refine book_ok ?_ a2
 rw [a1]
 have := link_size n
 by_cases e : n < 2
 ·rw [decide_eq_false (p := (linkS n).size ≠ 0) (fun x => x (this.2 e)), decide_eq_false (by omega)]
 ·rw [decide_eq_true (p := (linkS n).size ≠ 0) (fun x => e (this.1 x)), decide_eq_true (by omega)]
theorem br_chk {b : List BrN} (h : brEr b = 0) {j : Nat} (hj : j < b.length) : chkE (getB b j).ats = 0 := by
 obtain ⟨t0, _, _⟩ := brEr_zero h
 have := getT_chk t0 (k := j) (by rw [plT_len]; exact hj)
 rw [getT_plT b j hj] at this
 exact this
theorem br_kind {b : List BrN} (h : brEr b = 0) {i : Nat} (hi : i < b.length) : kindE (getB b i).toTrN = 0 := by
 have hz := treeE_zero (brEr_zero h).1
 obtain ⟨_, _, hc, _, _⟩ := node_parts (hz.2.2.1 i (by rw [plT_len]; exact hi))
 rw [getT_plT b i hi] at hc; exact hc
theorem names_many {b : List BrN} {i : Nat} (hi : i < b.length) : manyT (plT b) (getB b i).cl = ((namesL b i).length : Int) := by
 have hl := plT_len b
 have hi' : i < (plT b).length := by rw [hl]; exact hi
 have hg := getT_plT b i hi
 unfold manyT namesL
 by_cases hc : (getB b i).cl = 0
 ·rw [if_pos hc]
  have := names_alone hi' (by rw [hg]; exact hc)
  rw [hl] at this
  rw [this]; rfl
 ·rw [if_neg hc]
  have := names_count hi' (by rw [hg]; exact hc) (plT b).length (Nat.le_refl _)
  rw [hg] at this
  have e : namesT (plT b) i b.length = namesT (plT b) i (plT b).length := by rw [hl]
  rw [e, this]
def rawX (x : TrN) : BrN := { x with opq := false, red := [] }
def rawB (t : List TrN) : List BrN := t.map rawX
theorem raw_pl (t : List TrN) : plT (rawB t) = t := by
 unfold plT rawB
 rw [List.map_map]
 exact List.map_id' _
theorem raw_ok {t : List TrN} (h : treeE t = 0) : brEr (rawB t) = 0 := by
 refine (br_of (brT_ok (b := rawB t) (by rw [raw_pl]; exact h) fun j hj => ?_)).2
 have hj : j < t.length := by unfold rawB at hj; rwa [List.length_map] at hj
 have hg : getB (rawB t) j = rawX (getT t j) := getT_map t hj rawX
 rw [marks_under hg (by rintro ⟨h1, _⟩; cases h1) (by show ¬ 0 < ([] : List ByteArray).length; decide)]
 rw [if_neg]
 unfold underB
 have h0 : (getB (rawB t) (abv (plT (rawB t)) j).toNat).opq = false := by
  by_cases e : (abv (plT (rawB t)) j).toNat < t.length
  ·have : getB (rawB t) (abv (plT (rawB t)) j).toNat = rawX (getT t (abv (plT (rawB t)) j).toNat) := getT_map t e rawX
   rw [this]; rfl
  ·have e : (rawB t).length <= (abv (plT (rawB t)) j).toNat := by unfold rawB at e ⊢; rw [List.length_map]; omega
   unfold getB
   rw [List.getD, List.getElem?_eq_none e]; rfl
 rw [h0, Bool.and_false]
 exact Bool.false_ne_true
theorem abvE_same {t u : List TrN} (h : ∀ k, (getT t k).dep = (getT u k).dep) (d : Int) : ∀ n, abvE t d n = abvE u d n
 | 0 => rfl
 | n + 1 => by unfold abvE; rw [h n, abvE_same h d n]
theorem abv_same {t u : List TrN} (h : ∀ k, (getT t k).dep = (getT u k).dep) (i : Nat) : abv t i = abv u i := by unfold abv; rw [h i, abvE_same h]
theorem kid_lt {b : List BrN} {n i : Nat} (h : i ∈ kidsL b n) : i < b.length := List.mem_range.1 (List.mem_filter.1 h).1
theorem nm_small {t : List TrN} (h : treeE t = 0) {i : Nat} (hi : i < t.length) : (getT t i).nm.size <= 24 := by
 obtain ⟨h1, h2, _, _, _⟩ := node_parts ((treeE_zero h).2.2.1 i hi)
 by_cases e : i = 0
 ·subst e
  unfold shapeE at h1
  rw [if_pos rfl] at h1
  split at h1
  ·rename_i hh
   have := empty_size hh.2.1
   omega
  ·cases h1
 ·have h3 := h2 e
  unfold entryE at h3
  by_cases e2 : nameE (L (getT t i).nm) ≠ 0
  ·rw [if_pos e2] at h3; exact absurd h3 e2
  ·have e2 := Decidable.not_not.1 e2
   unfold nameE at e2
   split at e2
   ·cases e2
   ·split at e2
    ·cases e2
    ·rw [size_L]; omega
theorem small_chk2 {l : List Attr} (h : chkE l = 0) : Small l /\ l.length <= 1000 := by
 refine ⟨fun a ha => ?_, ?_⟩
 ·have := size_of_chk h a ha; omega
 ·have := (chk_parts h).1; omega
theorem dirD_small {b : List BrN} {n : Nat} (h : brEr b = 0) (hn : n < b.length) (hs : SmallB b) : SmallD (dirD b n) := by
 obtain ⟨t0, _, _⟩ := brEr_zero h
 have hc : ∀ i, i < b.length -> chkE (getB b i).ats = 0 := fun i hi => br_chk h hi
 refine ⟨(small_chk2 (hc n hn)).1, (small_chk2 (hc n hn)).2, fun s hx => ?_, fun x hx => ?_, ?_⟩
 ·have hm : getB b n ∈ b := by rw [getB_at b n hn]; exact List.getElem_mem hn
  have := (hs.red _ hm).2 s hx
  exact Nat.le_trans this (by decide)
 ·obtain ⟨i, hi, rfl⟩ := List.mem_map.1 hx
  have hil := kid_lt hi
  have hnm := nm_small t0 (i := i) (by rw [plT_len]; exact hil)
  rw [getT_plT b i hil] at hnm
  refine ⟨by show (getB b i).nm.size <= _; have hnm : (getB b i).nm.size <= 24 := hnm; omega, ?_⟩
  show Small (nodX (getB b i).toTrN).ats /\ (nodX (getB b i).toTrN).ats.length <= 1000
  unfold nodX
  split
  ·exact ⟨fun a ha => (by cases ha), Nat.zero_le _⟩
  ·exact small_chk2 (hc i hil)
 ·show ((kidsL b n).map (entD b n)).length <= 1000
  rw [List.length_map]
  have h1 := filt_len (kidB (plT b) n) b.length
  have h2 := hs.len
  unfold kidsL kidsT; omega
theorem dirs_mem {b : List BrN} {n : Nat} (h : n ∈ dirsL b) : n < b.length /\ (getB b n).kd = 1 := by
 unfold dirsL dirsT at h
 obtain ⟨h1, h2⟩ := List.mem_filter.1 h
 exact ⟨List.mem_range.1 h1, by simpa using h2⟩
theorem solo_keep {x y : TrN} (h : soloE x = 0) (hd : y.kd = 1 ↔ x.kd = 1) (hk : kindE (soloN y) = 0) (hc : chkE y.ats = 0) : soloE y = 0 := by
 unfold soloE at *
 have h2 : ∀ i, i < 2 -> i = 0 \/ i = 1 := fun i hi => by omega
 refine tree_keep (t := [rootN, soloN x]) rfl (fun i hi => ?_) (fun i hi => ?_) (fun i hi => ?_) (fun i k hi hk2 hp _ _ => ?_) h
 ·rcases h2 i hi with rfl | rfl
  ·exact ⟨rfl, rfl, rfl, Iff.rfl⟩
  ·exact ⟨rfl, rfl, rfl, hd⟩
 ·rcases h2 i hi with rfl | rfl
  ·exact kind_root
  ·exact hk
 ·rcases h2 i hi with rfl | rfl
  ·show chkE [] = 0; decide
  ·exact hc
 ·rcases h2 i hi with rfl | rfl
  ·exact absurd hp (by show ¬ (0 : Int) < 0; decide)
  ·exact absurd hp (by show ¬ (0 : Int) < 0; decide)
theorem entX_put {o o' : Bool} {z : ByteArray} {x y : DeN} (h : entX o z x = 0) (h1 : y.nm = x.nm) (h2 : y.ns = x.ns) (h3 : y.fi = x.fi) (h4 : y.nd.dep = 0) (h5 : y.nd.nm.toList = []) (h6 : y.nd.cl = x.nd.cl) (h7 : soloE y.nd = 0)
  (h8 : y.wh = (y.nd.kd == 5)) (h9 : y.nd.kd = 1 -> y.nd.ats = [] /\ y.nd.cl <= 0) (h10 : y.nd.kd = 5 -> y.nd.cl <= 0 /\ o' = false) : entX o' z y = 0 := by
 obtain ⟨p1, p2, p3, _, _, _, p7, p8, p9, p10⟩ := ent_parts h
 rw [entX_rest (by rw [h1]; exact p1) (by rw [h1]; exact p2) (by rw [h1]; exact p3) h4 h5 h7]
 refine rest_ok ?_ (by rw [h2]; omega) ?_
 ·rw [h6, h2]; omega
 ·unfold markB at p10 ⊢
  simp only [Bool.or_eq_false_iff] at p10
  rw [h8, h3, h2, p10.2]
  simp only [Bool.or_false, bne_self_eq_false]
  by_cases e1 : y.nd.kd = 1
  ·obtain ⟨q1, q2⟩ := h9 e1
   rw [e1, q1]
   have : decide (0 < y.nd.cl) = false := decide_eq_false (by omega)
   rw [this]; rfl
  ·have e1' : (y.nd.kd == 1) = false := nB e1
   rw [e1']
   by_cases e5 : y.nd.kd = 5
   ·obtain ⟨q1, q2⟩ := h10 e5
    have : decide (0 < y.nd.cl) = false := decide_eq_false (by omega)
    rw [this, q2, e5]; rfl
   ·have e5' : (y.nd.kd == 5) = false := nB e5
    rw [e5']; rfl
theorem ent_marks {o : Bool} {z : ByteArray} {x : DeN} (h : entX o z x = 0) : (x.nd.kd = 1 -> x.nd.ats = [] /\ x.nd.cl <= 0) /\ (x.nd.kd = 5 -> x.nd.cl <= 0 /\ o = false) := by
 have hm := (ent_parts h).2.2.2.2.2.2.2.2.2
 unfold markB at hm
 simp only [Bool.or_eq_false_iff] at hm
 obtain ⟨⟨⟨h1, h2⟩, _⟩, _⟩ := hm
 refine ⟨fun hk => ?_, fun hk => ?_⟩
 ·rw [hk] at h1
  have h1 : decide (0 < x.nd.ats.length) = false /\ decide (0 < x.nd.cl) = false := by simpa using h1
  have a := of_decide_eq_false h1.1; have b := of_decide_eq_false h1.2
  exact ⟨List.length_eq_zero_iff.1 (by omega), by omega⟩
 ·rw [hk] at h2
  have h2 : decide (0 < x.nd.cl) = false /\ o = false := by simpa using h2
  have b := of_decide_eq_false h2.1
  exact ⟨by omega, h2.2⟩
theorem nd_ext {x : TrN} (h1 : x.dep = 0) (h2 : x.nm.toList = []) (hk : x.kd = 5) (h3 : kindE (soloN x) = 0) (h4 : x.cl = 0) : x = kdN 5 := by
 obtain ⟨w1, w2, w3, w4, _⟩ := kind_white (x := soloN x) h3 hk
 have u1 : x.ats = [] := w1
 have u2 : x.dat = ⟨#[]⟩ := bytes_nil (s := x.dat) w2
 have u3 : x.ma = 0 := w3
 have u4 : x.mi = 0 := w4
 have u5 := bytes_nil h2
 clear w1 w2 w3 w4 h2 h3
 obtain ⟨dep, nm, kd, ats, dat, ma, mi, cl⟩ := x
 simp only at h1 hk h4 u1 u2 u3 u4 u5
 subst h1 hk h4 u1 u2 u3 u4 u5
 rfl
theorem getE_map {l : List DeN} {f : DeN -> DeN} {j : Nat} (h : j < l.length) : getE (l.map f) j = f (getE l j) := by
 unfold getE; simp [List.getD, h]
theorem lastE_map {l : List DeN} {f : DeN -> DeN} (hf : ∀ j, j < l.length -> (f (getE l j)).nm = (getE l j).nm) {j : Nat} (h : j < l.length) : lastE (l.map f) j = lastE l j := by
 cases j with
 | zero => rfl
 | succ j => rw [lastE_succ, lastE_succ, getE_map (by omega), hf j (by omega)]
def leftX (neu : List DeN) (i : Nat) (x : DeN) : DeN := if x.fi = false /\ i < neu.length then { x with nd := { x.nd with ats := (getE neu i).nd.ats } } else x
def leftL (raw neu : List DeN) : List DeN := (List.range raw.length).map fun i => leftX neu i (getE raw i)
def leftD (raw neu : DiN) : DiN := { raw with ens := leftL raw.ens neu.ens }
section
variable {b : List BrN} {t : List TrN} (hl : t.length = b.length) (hd : ∀ k, (getT t k).dep = (getT (plT b) k).dep) (hc : ∀ k, (getT t k).cl = (getT (plT b) k).cl)
include hl
theorem rawB_len : (rawB t).length = b.length := by unfold rawB; rw [List.length_map, hl]
include hd
theorem rawB_kids (n : Nat) : kidsL (rawB t) n = kidsL b n := by
 unfold kidsL kidsT
 rw [raw_pl, rawB_len hl]
 refine List.filter_congr fun k _ => ?_
 unfold kidB
 rw [abv_same hd]
omit hd
include hc
theorem rawB_names (n : Nat) : namesL (rawB t) n = namesL b n := by
 unfold namesL namesT
 rw [raw_pl, rawB_len hl]
 refine List.filter_congr fun k _ => ?_
 unfold classB
 rw [hc n, hc k]
include hd
theorem rawB_first (n i : Nat) : firstB (rawB t) n i = firstB b n i := by
 unfold firstB
 rw [rawB_names hl hc, raw_pl]
 congr 1
 funext k
 unfold notB
 rw [abv_same hd]
end
end Go.Proofs.YtimpejaaeinplaaGreatDoor
