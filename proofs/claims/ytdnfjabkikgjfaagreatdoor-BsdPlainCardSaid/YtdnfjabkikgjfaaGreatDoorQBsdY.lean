/- Plain laws of bsd: what Encode returns is a tree that Decode reads back, and what Decode returns is a branch that Encode writes back. -/
import Derived.Test.YtdnfjabkikgjfaaGreatDoorQBsdX
import Derived.Test.YtdnfjabkikgjfaaGreatDoorQAwkB
namespace Go.Proofs.YtdnfjabkikgjfaaGreatDoor
open Go.RowKit

/-! A tree stays sound if other sound attributes are put in, equal ones for equal ones. -/
def bareT (x : TrN) : TrN := { x with ats := [] }
theorem bare_get (t : List TrN) (i : Nat) : getT (t.map bareT) i = bareT (getT t i) := by
  unfold getT
  by_cases h : i < t.length
  · simp [List.getD, h]
  · simp [List.getD, Nat.le_of_not_lt h, bareT, zTrN]
theorem bare_scan (r : List TrN) (d : Int) : scan (r.map bareT) d = scan r d := by
  induction r with
  | nil => rfl
  | cons x r ih =>
    rcases Int.lt_trichotomy x.dep d with h | h | h
    · rw [List.map_cons, scan_lt h, scan_lt (show (bareT x).dep < d from h)]
    · rw [List.map_cons, scan_eq h, scan_eq (show (bareT x).dep = d from h), ih]; rfl
    · rw [List.map_cons, scan_gt h, scan_gt (show d < (bareT x).dep from h), ih]
theorem bare_rev (t : List TrN) (i : Nat) : revT (t.map bareT) i = (revT t i).map bareT := by
  unfold revT; rw [← List.map_take, List.map_reverse]
theorem bare_shape (t : List TrN) (i : Nat) : shapeE (t.map bareT) i = shapeE t i := by
  unfold shapeE mostD; simp only [bare_get]; rfl
theorem bare_entry (t : List TrN) (i : Nat) : entryE (t.map bareT) i = entryE t i := by
  unfold entryE; simp only [bare_get, bare_rev, bare_scan]; rfl
theorem bare_most (t : List TrN) (k : Nat) : mostC (t.map bareT) k = mostC t k := by
  induction k with
  | zero => rfl
  | succ k ih => unfold mostC; rw [ih, bare_get]; rfl
theorem bare_count (t : List TrN) (c : Int) (k : Nat) : countC (t.map bareT) c k = countC t c k := by
  induction k with
  | zero => rfl
  | succ k ih => unfold countC; rw [ih, bare_get]; rfl
theorem unlike_like {t : List TrN} {i : Nat} : ∀ (k : Nat), unlike t i k = false ↔ ∀ j, j < k → 0 < (getT t i).cl → (getT t j).cl = (getT t i).cl → likeB (getT t j) (getT t i) = true
  | 0 => ⟨fun _ j hj => absurd hj (by omega), fun _ => rfl⟩
  | k + 1 => by
    unfold unlike
    rw [Bool.or_eq_false_iff, unlike_like k]
    constructor
    · rintro ⟨h1, h2⟩ j hj h3 h4
      by_cases e : j = k
      · subst e
        cases hq : likeB (getT t j) (getT t i) with
        | true => rfl
        | false => rw [hq, h4] at h2; simp [h3] at h2
      · exact h1 j (by omega) h3 h4
    · intro h
      refine ⟨fun j hj => h j (by omega), ?_⟩
      by_cases h3 : 0 < (getT t i).cl
      case neg => simp [h3]
      by_cases h4 : (getT t k).cl = (getT t i).cl
      case neg => simp [h4]
      rw [h k (by omega) h3 h4]; simp
theorem like_iff {x y : TrN} : likeB x y = true ↔ x.kd = y.kd ∧ x.ats = y.ats ∧ x.dat.toList = y.dat.toList ∧ x.ma = y.ma ∧ x.mi = y.mi := by
  unfold likeB; simp [and_assoc]
theorem bare_eq {x y : TrN} (h : bareT x = bareT y) : x.dep = y.dep ∧ x.nm = y.nm ∧ x.kd = y.kd ∧ x.dat = y.dat ∧ x.ma = y.ma ∧ x.mi = y.mi ∧ x.cl = y.cl := by
  cases x; cases y; simp [bareT] at h; simp [h]
theorem kind_bare {x y : TrN} (h : bareT x = bareT y) (h5 : x.kd = 5 → y.ats = []) (hk : kindE x = 0) : kindE y = 0 := by
  obtain ⟨_, _, a, b, c, d, e⟩ := bare_eq h
  unfold kindE at hk ⊢
  rw [← a, ← b, ← c, ← d, ← e]
  by_cases e1 : x.kd < 1 ∨ 5 < x.kd
  · rw [if_pos e1] at hk; cases hk
  rw [if_neg e1] at hk ⊢
  by_cases e2 : x.kd = 1
  · rw [if_pos e2] at hk ⊢; exact hk
  rw [if_neg e2] at hk ⊢
  by_cases e3 : x.kd = 2
  · rw [if_pos e3] at hk ⊢; exact hk
  rw [if_neg e3] at hk ⊢
  by_cases e4 : x.kd = 3
  · rw [if_pos e4] at hk ⊢; exact hk
  rw [if_neg e4] at hk ⊢
  by_cases e5 : x.kd = 4
  · rw [if_pos e5] at hk ⊢; exact hk
  rw [if_neg e5] at hk ⊢
  split at hk
  · rename_i hh
    rw [if_pos ⟨hh.1, hh.2.1, hh.2.2.1, hh.2.2.2.1, by rw [h5 (by omega)]; rfl⟩]
  · cases hk
theorem tree_ats {t u : List TrN} (hb : u.map bareT = t.map bareT) (hc : ∀ i, i < t.length → chkE (getT u i).ats = 0) (h5 : ∀ i, i < t.length → (getT t i).kd = 5 → (getT u i).ats = [])
    (heq : ∀ i k, i < t.length → k < t.length → 0 < (getT t i).cl → likeB (getT t k) (getT t i) = true → (getT u k).ats = (getT u i).ats) (h : treeE t = 0) : treeE u = 0 := by
  obtain ⟨z1, z2, z3, z4, z5⟩ := treeE_zero h
  have hl : u.length = t.length := by have := congrArg List.length hb; simpa using this
  have hg : ∀ i, bareT (getT u i) = bareT (getT t i) := fun i => by rw [← bare_get, ← bare_get, hb]
  have hok : AllOk u u.length := by
    intro i hi
    rw [hl] at hi
    obtain ⟨n1, n2, n3, n4, n5⟩ := node_parts (z3 i hi)
    have m1 : shapeE u i = 0 := by rw [← bare_shape, hb, bare_shape]; exact n1
    have m2 : i ≠ 0 → entryE u i = 0 := fun h0 => by rw [← bare_entry, hb, bare_entry]; exact n2 h0
    have m3 := kind_bare (hg i).symm (h5 i hi) n3
    rw [nodeE_cls rfl m1 m2 m3 (hc i hi)]
    obtain ⟨c1, c2, c3⟩ := cls_bd n5
    obtain ⟨_, _, _, _, _, _, g1⟩ := bare_eq (hg i)
    unfold clsE
    have hun : unlike u i i = false := by
      refine (unlike_like i).2 fun j hj hp he => ?_
      obtain ⟨_, _, q1, q2, q3, q4, q5⟩ := bare_eq (hg j)
      obtain ⟨_, _, r1, r2, r3, r4, r5⟩ := bare_eq (hg i)
      rw [r5] at hp
      have hlk := (unlike_like i).1 c3 j hj hp (by rw [← q5, ← r5]; exact he)
      have ha := heq i j hi (by omega) hp hlk
      obtain ⟨k1, _, k3, k4, k5⟩ := like_iff.1 hlk
      exact like_iff.2 ⟨by rw [q1, r1]; exact k1, ha, by rw [q2, r2]; exact k3, by rw [q3, r3]; exact k4, by rw [q4, r4]; exact k5⟩
    rw [if_neg (by simp [hun]), if_neg (by
      rw [g1, ← bare_most, hb, bare_most]; omega)]
  refine (tree_of (treeT_ok (by omega) (by omega) hok fun i hi => ?_)).2
  rw [hl] at hi
  have := z5 i hi
  unfold loneB at this ⊢
  rw [hl, ← bare_count, hb, bare_count]
  rw [(bare_eq (hg i)).2.2.2.2.2.2]
  exact this
/-- What is known of a branch that Encode writes. -/
theorem enc_zero {b : List BrN} (h : encF b = 0) : brEr b = 0 ∧ encT b = (b.map encX, 0, 0) ∧ ∀ j, j < b.length → (getB b j).red = [] ∧ bwE (getB b j).ats (getB b j).opq = 0 := by
  by_cases h1 : brEr b = 0
  case neg => rw [(enc_of (encT_br h1)).2.2] at h; exact absurd h h1
  have hall : ∀ j, j < b.length → encE b j = 0 := by
    cases hf : findB (badE b) 0 b.length with
    | some i =>
      unfold encF encT at h
      rw [if_neg (by simp [h1]), hf] at h
      exact absurd h (bne_iff_ne.1 (findB_mem _ _ _ hf).1)
    | none => exact fun j hj => bne_eq_false_iff_eq.1 (findB_none_iff _ _ hf j (Nat.zero_le _) (by omega))
  refine ⟨h1, encT_ok h1 hall, fun j hj => ?_⟩
  have := hall j hj
  unfold encE at this
  by_cases hr : 0 < (getB b j).red.length
  · rw [if_pos hr] at this; cases this
  rw [if_neg hr] at this
  exact ⟨List.length_eq_zero_iff.1 (by omega), this⟩
theorem dec_zero {t : List TrN} (h : decF t = 0) : treeE t = 0 ∧ decT t = (t.map decX, 0, 0) ∧ brEr (t.map decX) = 0 ∧ ∀ j, j < t.length → bdE (getT t j).ats = 0 := by
  by_cases h1 : treeE t = 0
  case neg => rw [(dec_of (decT_tree h1)).2.2] at h; exact absurd h h1
  have hall : ∀ j, j < t.length → decE t j = 0 := by
    cases hf : findB (badD t) 0 t.length with
    | some i =>
      unfold decF decT at h
      rw [if_neg (by simp [h1]), hf] at h
      exact absurd h (bne_iff_ne.1 (findB_mem _ _ _ hf).1)
    | none => exact fun j hj => bne_eq_false_iff_eq.1 (findB_none_iff _ _ hf j (Nat.zero_le _) (by omega))
  by_cases h2 : brEr (t.map decX) = 0
  case neg => rw [(dec_of (decT_br h1 hall h2)).2.2] at h; exact absurd h h2
  refine ⟨h1, decT_ok h1 hall h2, h2, fun j hj => ?_⟩
  have := hall j hj
  unfold decE at this
  split at this
  · cases this
  · exact this
theorem getB_map (b : List BrN) {j : Nat} (hj : j < b.length) (f : BrN → TrN) : getT (b.map f) j = f (getB b j) := by
  unfold getT getB; simp [List.getD, hj]
theorem getT_map (t : List TrN) {j : Nat} (hj : j < t.length) (f : TrN → BrN) : getB (t.map f) j = f (getT t j) := by
  unfold getT getB; simp [List.getD, hj]
theorem map_self {α β : Type} {l : List α} {f : α → β} {g : β → α} (h : ∀ x ∈ l, g (f x) = x) : (l.map f).map g = l := by
  rw [List.map_map]
  conv => rhs; rw [← List.map_id l]
  exact List.map_congr_left h
theorem mem_getB {b : List BrN} {x : BrN} (h : x ∈ b) : ∃ j, j < b.length ∧ getB b j = x := by
  obtain ⟨j, hj, rfl⟩ := List.mem_iff_getElem.1 h
  exact ⟨j, hj, by unfold getB; simp [List.getD, hj]⟩
theorem mem_getT {t : List TrN} {x : TrN} (h : x ∈ t) : ∃ j, j < t.length ∧ getT t j = x := by
  obtain ⟨j, hj, rfl⟩ := List.mem_iff_getElem.1 h
  exact ⟨j, hj, by unfold getT; simp [List.getD, hj]⟩
theorem marks_opq {b : List BrN} {j : Nat} (h : marksE b j = 0) (ho : (getB b j).opq = true) : (getB b j).kd = 1 := by
  unfold marksE at h
  by_cases e : (getB b j).kd = 1
  · exact e
  · rw [if_pos (.inl ⟨.inl ho, e⟩)] at h; cases h
/-- What Encode writes is a sound tree, which Decode reads back. -/
theorem enc_back {b : List BrN} (h : encF b = 0) : treeE (encL b) = 0 ∧ decT (encL b) = (b, 0, 0) := by
  obtain ⟨h1, h2, h3⟩ := enc_zero h
  obtain ⟨t0, _, hmk⟩ := brEr_zero h1
  rw [(enc_of h2).1]
  have hplT : ∀ j, j < b.length → getT (plT b) j = (getB b j).toTrN := fun j hj => getB_map b hj BrN.toTrN
  have hlen : (plT b).length = b.length := List.length_map _
  have hkd5 : ∀ j, j < b.length → (getB b j).kd ≠ 1 → (getB b j).opq = false := fun j hj hk => by
    cases ho : (getB b j).opq with
    | false => rfl
    | true => exact absurd (marks_opq (hmk j hj) ho) hk
  obtain ⟨_, _, z3, _, _⟩ := treeE_zero t0
  have ht : treeE (b.map encX) = 0 := by
    refine tree_ats (t := plT b) ?_ ?_ ?_ ?_ t0
    · show (b.map encX).map bareT = (b.map BrN.toTrN).map bareT
      rw [List.map_map, List.map_map]; rfl
    · intro i hi
      rw [hlen] at hi
      rw [getB_map b hi]
      exact bw_chk0 (h3 i hi).2
    · intro i hi hk
      rw [hlen] at hi
      rw [getB_map b hi]
      rw [hplT i hi] at hk
      have hk : (getB b i).kd = 5 := hk
      have ho := hkd5 i hi (by omega)
      obtain ⟨_, _, n3, _, _⟩ := node_parts (z3 i (by omega))
      rw [hplT i hi] at n3
      have ha : (getB b i).ats = [] := by
        unfold kindE at n3
        have hk' : (getB b i).toTrN.kd = 5 := hk
        rw [if_neg (by omega), if_neg (by omega), if_neg (by omega), if_neg (by omega), if_neg (by omega)] at n3
        split at n3
        · rename_i hh; exact List.length_eq_zero_iff.1 hh.2.2.2.2
        · cases n3
      show bwL (getB b i).ats (getB b i).opq = []
      rw [ha, ho]; exact bw_nil rfl
    · intro i k hi hk hp hlk
      rw [hlen] at hi hk
      rw [getB_map b hi, getB_map b hk]
      rw [hplT i hi] at hp
      have hp : 0 < (getB b i).cl := hp
      rw [hplT i hi, hplT k hk] at hlk
      obtain ⟨k1, k2, _⟩ := like_iff.1 hlk
      have k1 : (getB b k).kd = (getB b i).kd := k1
      have k2 : (getB b k).ats = (getB b i).ats := k2
      obtain ⟨_, _, n3, _, _⟩ := node_parts (z3 i (by omega))
      rw [hplT i hi] at n3
      have hne : (getB b i).kd ≠ 1 := by
        intro e
        have e : (getB b i).toTrN.kd = 1 := e
        have hp : 0 < (getB b i).toTrN.cl := hp
        unfold kindE at n3
        rw [if_neg (by omega), if_pos e, if_neg (by omega)] at n3
        cases n3
      show bwL (getB b k).ats (getB b k).opq = bwL (getB b i).ats (getB b i).opq
      rw [k2, hkd5 i hi hne, hkd5 k hk (by rw [k1]; exact hne)]
  refine ⟨ht, ?_⟩
  have hX : ∀ x ∈ b, decX (encX x) = x := by
    intro x hx
    obtain ⟨j, hj, rfl⟩ := mem_getB hx
    obtain ⟨r1, r2⟩ := h3 j hj
    obtain ⟨e1, e2, _⟩ := bd_of (bd_bw r2)
    revert r1 e1 e2
    generalize getB b j = x
    intro r1 e1 e2
    obtain ⟨⟨dep, nm, kd, ats, dat, ma, mi, cl⟩, opq, red⟩ := x
    have r1 : red = [] := r1
    subst r1
    show (⟨⟨dep, nm, kd, bdP (bwL ats opq), dat, ma, mi, cl⟩, bdO (bwL ats opq), []⟩ : BrN) = _
    have e1 : bdP (bwL ats opq) = ats := e1
    have e2 : bdO (bwL ats opq) = opq := e2
    rw [e1, e2]
  have hm : (b.map encX).map decX = b := map_self hX
  have := decT_ok ht (fun j hj => by
    rw [List.length_map] at hj
    obtain ⟨e1, e2, e3⟩ := bd_of (bd_bw (h3 j hj).2)
    unfold decE
    rw [getB_map b hj]
    rw [if_neg (by
      rintro ⟨_, q1, q2⟩
      have q1 : bdO (bwL (getB b j).ats (getB b j).opq) = true := q1
      have q2 : (getB b j).kd ≠ 1 := q2
      rw [e2] at q1
      exact q2 (marks_opq (hmk j hj) q1))]
    exact e3) (by rw [hm]; exact h1)
  rw [this, hm]
/-- What Decode reads is a sound branch, which Encode writes back. -/
theorem dec_back {t : List TrN} (h : decF t = 0) : brEr (decL t) = 0 ∧ encT (decL t) = (t, 0, 0) := by
  obtain ⟨h1, h2, h3, h4⟩ := dec_zero h
  rw [(dec_of h2).1]
  have hz : ∀ j, j < t.length → bwT (bdP (getT t j).ats) (bdO (getT t j).ats) = ((getT t j).ats, 0) := fun j hj => bw_bd (getT_chk h1 hj) (h4 j hj)
  have hX : ∀ x ∈ t, encX (decX x) = x := by
    intro x hx
    obtain ⟨j, hj, rfl⟩ := mem_getT hx
    have e1 := (bw_of (hz j hj)).1
    revert e1
    generalize getT t j = x
    intro e1
    obtain ⟨dep, nm, kd, ats, dat, ma, mi, cl⟩ := x
    show (⟨dep, nm, kd, bwL (bdP ats) (bdO ats), dat, ma, mi, cl⟩ : TrN) = _
    have e1 : bwL (bdP ats) (bdO ats) = ats := e1
    rw [e1]
  have hm : (t.map decX).map encX = t := map_self hX
  refine ⟨h3, ?_⟩
  have := encT_ok h3 fun j hj => by
    rw [List.length_map] at hj
    unfold encE
    rw [getT_map t hj, if_neg (by show ¬ 0 < ([] : List ByteArray).length; decide)]
    exact (bw_of (hz j hj)).2
  rw [this, hm]
theorem enc_small {b : List BrN} (h : encF b = 0) (hs : SmallB b) : SmallT (encL b) := by
  obtain ⟨h1, h2, h3⟩ := enc_zero h
  rw [(enc_of h2).1]
  intro y hy
  obtain ⟨x, hx, rfl⟩ := List.mem_map.1 hy
  obtain ⟨j, hj, rfl⟩ := mem_getB hx
  have hc := bw_chk0 (h3 j hj).2
  have ht := hs.tree (getB b j).toTrN (List.mem_map.2 ⟨_, hx, rfl⟩)
  refine ⟨ht.1, fun a ha => ?_, ?_⟩
  · have := size_of_chk hc a ha; omega
  · obtain ⟨c1, _⟩ := chk_parts hc
    show (bwL (getB b j).ats (getB b j).opq).length ≤ _
    omega
/-! The calls, where nothing is wrong. -/
theorem encZ (B : Nat) (w : World) (v : Value) (b : List BrN) (h : encF b = 0) (hL : Laid w) (hb : BrIn B w v b) (hsm : SmallB b) :
    Calls Tryz.prog 11 #[v] w fun e w' => (∃ B' a n cap, e = .returned (.tuple #[.slice a n cap, .int .i64 0, .int .i64 0]) ∧ OwnL cdT B' w' (.slice a n cap) (encL b)) ∧ Ext w w' := by
  refine (bsdEncode B w v b hL hb hsm).mono ?_
  rintro e w' ⟨⟨B', a, n, cap, _, rfl, ho⟩, hb'⟩
  have h2 := enc_of (enc_zero h).2.1
  exact ⟨⟨B', a, n, cap, by rw [h2.2.1, h2.2.2], ho⟩, hb'⟩
theorem decBack (B : Nat) (w : World) (v : Value) (b : List BrN) (h : encF b = 0) (hL : Laid w) (hv : TrIn B w v (encL b)) (hsm : SmallB b) :
    Calls Tryz.prog 21 #[v] w fun e w' => (∃ a n cap, e = .returned (.tuple #[.slice a n cap, .int .i64 0, .int .i64 0]) ∧ OwnL cdB w.heap.size w' (.slice a n cap) b) ∧ Ext w w' := by
  refine (bsdDecode B w v _ hL hv (enc_small h hsm)).mono ?_
  rintro e w' ⟨⟨a, n, cap, rfl, ho⟩, hb'⟩
  obtain ⟨h1, h2, h3⟩ := dec_of (enc_back h).2
  rw [h1] at ho
  exact ⟨⟨a, n, cap, by rw [h2, h3], ho⟩, hb'⟩
theorem goodBack (B : Nat) (w : World) (v : Value) (b : List BrN) (h : encF b = 0) (hL : Laid w) (hv : TrIn B w v (encL b)) (hsm : SmallB b) :
    RetB Tryz.prog 23 #[v] w (.tuple #[.int .i64 0, .int .i64 0]) := by
  have := bsdGood B w v _ hL hv (enc_small h hsm)
  obtain ⟨_, h2, h3⟩ := dec_of (enc_back h).2
  rw [h2, h3] at this
  exact this
theorem treeBack (B : Nat) (w : World) (v : Value) (b : List BrN) (h : encF b = 0) (hv : TrIn B w v (encL b)) (hsm : SmallB b) :
    RetB Tryz.prog 25 #[v] w (.tuple #[.int .i64 0, .int .i64 0]) := by
  have := refTreeCheck B v _ w hv (enc_small h hsm)
  have h0 := (enc_back h).1
  rw [h0, (treeE_zero h0).2.2.2.1] at this
  exact this
theorem decZ (B : Nat) (w : World) (v : Value) (t : List TrN) (h : decF t = 0) (hL : Laid w) (hv : TrIn B w v t) (hsm : SmallT t) :
    Calls Tryz.prog 21 #[v] w fun e w' => (∃ a n cap, e = .returned (.tuple #[.slice a n cap, .int .i64 0, .int .i64 0]) ∧ OwnL cdB w.heap.size w' (.slice a n cap) (decL t)) ∧ Ext w w' := by
  refine (bsdDecode B w v t hL hv hsm).mono ?_
  rintro e w' ⟨⟨a, n, cap, rfl, ho⟩, hb'⟩
  have h2 := dec_of (dec_zero h).2.1
  exact ⟨⟨a, n, cap, by rw [h2.2.1, h2.2.2], ho⟩, hb'⟩
theorem decL_small {t : List TrN} (h : decF t = 0) (hs : SmallT t) : SmallB (decL t) := by
  obtain ⟨h1, h2, _⟩ := dec_zero h
  rw [(dec_of h2).1]; exact dec_small h1 hs
theorem encBack (B : Nat) (w : World) (v : Value) (t : List TrN) (h : decF t = 0) (hL : Laid w) (hv : BrIn B w v (decL t)) (hsm : SmallT t) :
    Calls Tryz.prog 11 #[v] w fun e w' => (∃ B' a n cap, e = .returned (.tuple #[.slice a n cap, .int .i64 0, .int .i64 0]) ∧ OwnL cdT B' w' (.slice a n cap) t) ∧ Ext w w' := by
  refine (bsdEncode B w v _ hL hv (decL_small h hsm)).mono ?_
  rintro e w' ⟨⟨B', a, n, cap, _, rfl, ho⟩, hb'⟩
  obtain ⟨h1, h2, h3⟩ := enc_of (dec_back h).2
  rw [h1] at ho
  exact ⟨⟨B', a, n, cap, by rw [h2, h3], ho⟩, hb'⟩
theorem canBack (B : Nat) (w : World) (v : Value) (t : List TrN) (h : decF t = 0) (hL : Laid w) (hv : BrIn B w v (decL t)) (hsm : SmallT t) :
    RetB Tryz.prog 13 #[v] w (.tuple #[.int .i64 0, .int .i64 0]) := by
  have := bsdCan B w v _ hL hv (decL_small h hsm)
  obtain ⟨_, h2, h3⟩ := enc_of (dec_back h).2
  rw [h2, h3] at this
  exact this
theorem brBack (B : Nat) (w : World) (v : Value) (t : List TrN) (h : decF t = 0) (hv : BrIn B w v (decL t)) (hB : B ≤ w.heap.size) (hsm : SmallT t) :
    RetB Tryz.prog 15 #[v] w (.tuple #[.int .i64 0, .int .i64 0]) := by
  have := refBrCheck B w v _ hv hB (decL_small h hsm)
  have h0 := (dec_back h).1
  rw [h0, (brEr_zero h0).2.1] at this
  exact this
theorem sameBack (B B' : Nat) (u v : Value) (t : List TrN) (w : World) (hu : TrIn B w u t) (hv : TrIn B' w v t) (hf : FewT 1000 t) :
    RetB Tryz.prog 14 #[u, v] w (.bool true) := by
  have := refSameList B B' u v t t w hu hv (by have := hf.len; omega) (fun x hx => by have := (hf.ok x hx).1.1; omega)
  rw [sameTB_yes (a := t) rfl] at this
  exact this
end Go.Proofs.YtdnfjabkikgjfaaGreatDoor
