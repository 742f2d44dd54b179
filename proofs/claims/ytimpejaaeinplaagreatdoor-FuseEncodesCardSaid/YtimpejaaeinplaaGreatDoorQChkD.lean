/- ChkD ChkE ChkF BrnD BrnE BrnF BrnG BrnH BrnJ BrnK -/
import Derived.Test.YtimpejaaeinplaaGreatDoorQI3
import Derived.Test.YtimpejaaeinplaaGreatDoorQChkB
namespace Go.Proofs.YtimpejaaeinplaaGreatDoor
open Go.RowKit

def FirstOk (W0 : World) (t : List TrN) (k : Nat) (F : Int -> Option Value) : Prop := ∀ q : Int, 0 < q -> q <= mostC t k -> ∃ i vy, i < k /\ (getT t i).cl = q /\ F q = some (trV (getT t i) vy) /\ AttrsAt W0 vy (getT t i).ats
def CountOk (t : List TrN) (k : Nat) (F : Int -> Option Value) : Prop := ∀ q : Int, 0 < q -> (F q).getD (.int .i64 0) = .int .i64 (countC t q k)
structure ChkSt (W0 w : World) (c m1 m2 : Nat) (t : List TrN) (k : Nat) : Prop where
  ex : ∃ vd n1 n2 F1 F2, w.heap[c]? = some (.cells #[vd, .bool (fileOf t k), .map (some m1), .map (some m2), .int .i64 (mostC t k)] 151 (0, 0)) /\ OwnL cdO W0.heap.size w vd (dirsOf t k) /\ MapAt kI w m1 n1 F1 /\ MapAt kI w m2 n2 F2 /\ FirstOk W0 t k F1 /\ CountOk t k F2
  below : Ext W0 w
theorem ChkSt.ext {W0 w w' : World} {c m1 m2 k : Nat} {t : List TrN} (h : ChkSt W0 w c m1 m2 t k) (he : Ext w w') : ChkSt W0 w' c m1 m2 t k := by
  obtain ⟨vd, n1, n2, F1, F2, h1, h2, h3, h4, h5, h6⟩ := h.ex
  exact ⟨⟨vd, n1, n2, F1, F2, bX he h1, h2.ext okO he, h3.ext he, h4.ext he, h5, h6⟩, h.below.trans he⟩
theorem likeB_trans {x y z : TrN} (h1 : likeB x y = true) (_h2 : likeB x z = likeB x z) : likeB y z = likeB x z := by
  obtain ⟨a, b, c, d, e⟩ := likeB_iff.1 h1
  unfold likeB; rw [a, b, c, d, e]
theorem likeB_refl (x : TrN) : likeB x x = true := likeB_iff.2 ⟨rfl, rfl, rfl, rfl, rfl⟩
theorem unlike_no {t : List TrN} {i : Nat} : ∀ k, (unlike t i k = false ↔ ∀ j, j < k -> ¬ (0 < (getT t i).cl /\ (getT t j).cl = (getT t i).cl /\ likeB (getT t j) (getT t i) = false))
  | 0 => ⟨fun _ j hj => by omega, fun _ => rfl⟩
  | k + 1 => by
    unfold unlike
    rw [Bool.or_eq_false_iff, unlike_no k]
    constructor
    · rintro ⟨h1, h2⟩ j hj ⟨a, b, c⟩
      by_cases e : j = k
      · subst e; rw [b, c] at h2; simp [a] at h2
      · exact h1 j (by omega) ⟨a, b, c⟩
    · intro h
      refine ⟨fun j hj => h j (by omega), ?_⟩
      have := h k (by omega)
      cases hl : likeB (getT t k) (getT t i)
      · by_cases a : 0 < (getT t i).cl
        · by_cases b : (getT t k).cl = (getT t i).cl
          · exact absurd ⟨a, b, hl⟩ this
          · simp [b]
        · simp [a]
      · simp
theorem mostC_ge (t : List TrN) : ∀ k i, i < k -> (getT t i).cl <= mostC t k
  | 0, i, h => by omega
  | k + 1, i, h => by
    by_cases e : i = k
    · subst e; rw [mostC.eq_2]; omega
    · have := mostC_ge t k i (by omega)
      rw [mostC.eq_2]; omega
theorem class_is {t : List TrN} {k : Nat} (h : AllOk t k) {i : Nat} (hi : i < k) (hc : 0 < (getT t k).cl -> (getT t k).cl <= mostC t k -> (getT t i).cl = (getT t k).cl) : classE (mostC t k) (likeB (getT t i) (getT t k)) (getT t k) = clsE t k := by
  have hmb := mostC_bd k h
  unfold classE clsE
  by_cases e0 : (getT t k).cl = 0
  · rw [if_pos e0, if_neg, if_neg (by omega)]
    rw [Bool.not_eq_true, unlike_no]; rintro j hj ⟨a, _⟩; omega
  rw [if_neg e0]
  by_cases e1 : (getT t k).cl < 0 \/ mostC t k + 1 < (getT t k).cl
  · rw [if_pos e1, if_pos e1]; split <;> rfl
  rw [if_neg e1, if_neg e1]
  by_cases e2 : mostC t k < (getT t k).cl
  · rw [if_pos e2, if_neg]
    rw [Bool.not_eq_true, unlike_no]; rintro j hj ⟨a, b, _⟩
    have := mostC_ge t k j hj; omega
  rw [if_neg e2]
  have hc' := hc (by omega) (by omega)
  cases hl : likeB (getT t i) (getT t k)
  · rw [if_neg (by simp), if_pos]
    cases hu : unlike t k k with
    | true => rfl
    | false => exact absurd ⟨by omega, hc', hl⟩ ((unlike_no k).1 hu i hi)
  · rw [if_pos rfl, if_neg]
    rw [Bool.not_eq_true, unlike_no]; rintro j hj ⟨a, b, c⟩
    -- both are like the first one of the class
    have hji : likeB (getT t i) (getT t j) = true := by
      by_cases e : i = j
      · subst e; exact likeB_refl _
      · rcases Nat.lt_or_gt_of_ne e with e | e
        · obtain ⟨_, _, _, _, hcj⟩ := node_parts (h j hj)
          have := (unlike_no j).1 (cls_bd hcj).2.2 i e
          cases hh : likeB (getT t i) (getT t j)
          · exact absurd ⟨by omega, by rw [hc', b], hh⟩ this
          · rfl
        · obtain ⟨_, _, _, _, hci⟩ := node_parts (h i hi)
          have := (unlike_no i).1 (cls_bd hci).2.2 j e
          cases hh : likeB (getT t j) (getT t i)
          · exact absurd ⟨by omega, by rw [hc', b], hh⟩ this
          · obtain ⟨a1, a2, a3, a4, a5⟩ := likeB_iff.1 hh
            exact likeB_iff.2 ⟨a1.symm, a2.symm, a3.symm, a4.symm, a5.symm⟩
    rw [likeB_trans hji rfl, hl] at c; cases c
theorem class_new {t : List TrN} {k : Nat} (h : AllOk t k) (lk : Bool) (hc : ¬ (0 < (getT t k).cl /\ (getT t k).cl <= mostC t k)) : classE (mostC t k) lk (getT t k) = clsE t k := by
  have hmb := mostC_bd k h
  unfold classE clsE
  by_cases e0 : (getT t k).cl = 0
  · rw [if_pos e0, if_neg, if_neg (by omega)]
    rw [Bool.not_eq_true, unlike_no]; rintro j hj ⟨a, _⟩; omega
  rw [if_neg e0]
  by_cases e1 : (getT t k).cl < 0 \/ mostC t k + 1 < (getT t k).cl
  · rw [if_pos e1, if_pos e1]; split <;> rfl
  rw [if_neg e1, if_neg e1]
  have e2 : mostC t k < (getT t k).cl := by omega
  rw [if_pos e2, if_neg]
  rw [Bool.not_eq_true, unlike_no]; rintro j hj ⟨a, b, _⟩
  have := mostC_ge t k j hj; omega

theorem OwnL.keepO {B : Nat} {w w' : World} {v : Value} {l : List Opn} (h : OwnL cdO B w v l) (hk : ∀ g, v.ownBlock = some g -> ∀ o, w.heap[g]? = some o -> w'.heap[g]? = some o) : OwnL cdO B w' v l := by
  obtain ⟨css, hl, hR, ho⟩ := h
  refine ⟨css, hl, hR, ho.1, ?_⟩
  rcases ho.2 with h1 | ⟨g, cap, cur, rfl, hb, hg, h3⟩
  · exact .inl h1
  · exact .inr ⟨g, cap, cur, rfl, hb, hk g rfl _ hg, h3⟩
theorem AttrsAt.setC {w : World} {v : Value} {l : List Attr} {c o : Nat} {u : Value} (h : AttrsAt w v l) (hc : ∀ b, v.ownBlock = some b -> 0 < l.length -> b ≠ c) : AttrsAt (w.setCell ⟨c, o, none⟩ u) v l := by
  obtain ⟨a, cap, rfl, hcap, hcs⟩ := h
  refine ⟨a, cap, rfl, hcap, fun k hk => ?_⟩
  obtain ⟨b, off, rfl, hb, h1, h2⟩ := hcs k hk
  have hne := hc b rfl (by omega)
  have hh : (w.setCell ⟨c, o, none⟩ u).heap[b]? = w.heap[b]? := Below.heap_setCell _ _ _ _ hne
  refine ⟨b, off, rfl, by simp [World.setCell]; exact hb, ?_, ?_⟩
  · simp only [World.cell?, hh]; exact h1
  · simp only [World.cell?, hh]; exact h2
theorem fst_dirs {t : List TrN} {k : Nat} (hk : k <= t.length) (h : AllOk t k) : (dirsOf t k).length <= 9 /\ ∀ d ∈ dirsOf t k, d.1 <= 24 := by
  by_cases hk0 : k = 0
  · subst hk0; simp [dirsOf]
  obtain ⟨h1, _⟩ := node_parts (h (k - 1) (by omega))
  have hb := shape_bd h1
  refine ⟨by rw [dirsOf_len hk0]; omega, fun d hd => ?_⟩
  unfold dirsOf at hd
  rw [if_neg hk0] at hd
  obtain ⟨j, _, rfl⟩ := List.mem_map.1 hd
  exact scan_le k hk h _ (by omega)
def KeepC (w w' : World) (c : Nat) : Prop := ∀ b cs E f, w.heap[b]? = some (.cells cs E f) -> E ≠ 237 -> b ≠ c -> w'.heap[b]? = some (.cells cs E f)
def NodeP (W0 w : World) (c m1 m2 : Nat) (t : List TrN) (k : Nat) (e : Ending) (w' : World) : Prop :=
  e = .returned (.int .i64 (nodeE t k)) /\ Ext W0 w' /\ (nodeE t k = 0 -> ChkSt W0 w' c m1 m2 t (k + 1) /\ KeepC w w' c)
theorem nodeP_err {W0 w w' : World} {c m1 m2 k : Nat} {t : List TrN} {r : Int} (h : nodeE t k = r) (hv : r ≠ 0) (hb : Ext W0 w') : NodeP W0 w c m1 m2 t k (.returned (.int .i64 r)) w' := ⟨by rw [h], hb, fun h0 => absurd (h.symm.trans h0) hv⟩
theorem fileOf_succ (t : List TrN) (k : Nat) : fileOf t (k + 1) = !((getT t k).kd == 1) := by unfold fileOf; rw [if_neg (by omega)]; rfl
theorem first_step {W0 : World} {t : List TrN} {k : Nat} {F : Int -> Option Value} {va : Value} (h : FirstOk W0 t k F) (ha : AttrsAt W0 va (getT t k).ats) (_hc0 : 0 <= (getT t k).cl) (hc1 : (getT t k).cl <= mostC t k + 1) :
    FirstOk W0 t (k + 1) (if mostC t k < (getT t k).cl then upd F (getT t k).cl (trV (getT t k) va) else F) := by
  intro q hq hq2
  rw [mostC.eq_2] at hq2
  by_cases e : mostC t k < (getT t k).cl
  · rw [if_pos e]
    by_cases e2 : q = (getT t k).cl
    · exact ⟨k, va, by omega, e2.symm, by unfold upd; rw [if_pos e2], ha⟩
    · obtain ⟨i, vy, h1, h2, h3, h4⟩ := h q hq (by omega)
      exact ⟨i, vy, by omega, h2, by unfold upd; rw [if_neg e2]; exact h3, h4⟩
  · rw [if_neg e]
    obtain ⟨i, vy, h1, h2, h3, h4⟩ := h q hq (by omega)
    exact ⟨i, vy, by omega, h2, h3, h4⟩
theorem count_step {t : List TrN} {k : Nat} {F : Int -> Option Value} (h : CountOk t k F) : CountOk t (k + 1) (if (getT t k).cl = 0 then F else upd F (getT t k).cl (.int .i64 ((countC t (getT t k).cl k : Int) + 1))) := by
  intro q hq
  rw [countC.eq_2]
  by_cases e : (getT t k).cl = 0
  · rw [if_pos e, if_neg (by omega)]; exact h q hq
  · rw [if_neg e]
    unfold upd
    by_cases e2 : q = (getT t k).cl
    · rw [if_pos e2, if_pos e2.symm, e2]; rfl
    · rw [if_neg e2, if_neg (fun x => e2 x.symm)]; exact h q hq
theorem countC_le (t : List TrN) (c : Int) : ∀ k, countC t c k <= k
  | 0 => Nat.le_refl _
  | k + 1 => by have := countC_le t c k; rw [countC.eq_2]; split <;> omega
end Go.Proofs.YtimpejaaeinplaaGreatDoor
namespace Go.Proofs.YtimpejaaeinplaaGreatDoor
open Go.RowKit

def idxE (p : Nat -> Bool) (n : Nat) : Int := match findB p 0 n with | some i => i | none => -1
theorem idxE_none {p : Nat -> Bool} {n : Nat} (h : ∀ j, j < n -> p j = false) : idxE p n = -1 := by unfold idxE; rw [findB_none n 0 fun j _ hj => h j (by omega)]
theorem idxE_some {p : Nat -> Bool} {n i : Nat} (hi : i < n) (h : ∀ j, j < i -> p j = false) (hp : p i = true) : idxE p n = i := by unfold idxE; rw [findB_some n 0 i (Nat.zero_le _) (by omega) (fun j _ hj => h j hj) hp]
end Go.Proofs.YtimpejaaeinplaaGreatDoor
namespace Go.Proofs.YtimpejaaeinplaaGreatDoor
open Go.RowKit

theorem first_is {p : Nat -> Bool} : ∀ n, (∀ j, j < n -> p j = false) \/ ∃ i, i < n /\ (∀ j, j < i -> p j = false) /\ p i = true
  | 0 => .inl fun j h => by omega
  | n + 1 => by
    rcases first_is n with h | ⟨i, h1, h2, h3⟩
    · cases hp : p n
      · exact .inl fun j hj => by
          by_cases e : j = n
          · subst e; exact hp
          · exact h j (by omega)
      · exact .inr ⟨n, by omega, h, hp⟩
    · exact .inr ⟨i, by omega, h2, h3⟩
theorem blk_at {w : World} {o : Obj} {n : Nat} (h : n = w.heap.size) : (w.alloc o).heap[n]? = some o := by subst h; exact bN w o
theorem mapAt_at {K : Type} {κ : K -> Value} {w : World} {n : Nat} (h : n = w.heap.size) : MapAt κ (w.alloc (.map #[] 0)) n 0 (fun _ => none) := by subst h; exact mapAt_made w κ
theorem neg_ok {a : Nat} : (decide ((0 : Int) <= (a : Int))) = true := decide_eq_true (by omega)
end Go.Proofs.YtimpejaaeinplaaGreatDoor
namespace Go.Proofs.YtimpejaaeinplaaGreatDoor
open Go.RowKit

theorem makeL {P : Program} {α : Type} {C : Cd α} (K : CdOk P C) (w : World) {ops : Array Oper} {rest : List Oper} {o : Oper} {a : Act} {Q : Exit -> Act -> World -> Prop}
    (hg : o.guard = none) (l c : Operand) (hop : o.op = Op.makeSlice C.t l c) (n : Nat) (hl : a.eval l = .int .i64 0) (hc : a.eval c = .int .i64 n) (hn : n <= 1000000)
    (hK : ∀ w', OwnL C w.heap.size w' (.slice (some ⟨w.heap.size, 0, none⟩) 0 n) [] -> Ext w w' -> wpList P ops Q rest (a.put o.dst (.slice (some ⟨w.heap.size, 0, none⟩) 0 n)) w') :
    wpList P ops Q (o :: rest) a w := by
  obtain ⟨i, hi, hz, h3, h4⟩ := K.sl.info
  have hsm := K.sl.small
  refine wpList_make_own w hg l c C.t hop w.heap.size C.e i _ C.n K.sl.und hi hz h3 .i64 .i64 n n hl hc rfl ?_ (by unfold maxLen; omega) (Nat.le_refl _) fun w' h1 h2 => hK w' ⟨[], rfl, fun k hk => absurd hk (by simp), h1⟩ ?_
  · have : i.bytes * n <= 1000 * 1000000 := Nat.mul_le_mul (by omega) hn
    omega
  · exact Below.grown (Below.refl _ _) h2 (Nat.le_refl _) (fun k hk => by cases hk)
end Go.Proofs.YtimpejaaeinplaaGreatDoor
namespace Go.Proofs.YtimpejaaeinplaaGreatDoor
open Go.RowKit

def zBrN : BrN := { zTrN with opq := false, red := [] }
def getB (b : List BrN) (i : Nat) : BrN := b.getD i zBrN
theorem getB_at (b : List BrN) (i : Nat) (h : i < b.length) : getB b i = b[i]'h := by unfold getB; simp [List.getD, h]
theorem getT_plT (b : List BrN) (i : Nat) (h : i < b.length) : getT (plT b) i = (getB b i).toTrN := by
  rw [getT_at _ _ (by rw [plT_len]; exact h), getB_at _ _ h]; simp [plT]
def abvE (t : List TrN) (d : Int) : Nat -> Int
  | 0 => -1
  | n + 1 => if (getT t n).dep < d then n else abvE t d n
def abv (t : List TrN) (i : Nat) : Int := abvE t (getT t i).dep i
theorem abvE_bd (t : List TrN) (d : Int) : ∀ n, -1 <= abvE t d n /\ abvE t d n < n
  | 0 => ⟨Int.le_refl _, by show (-1 : Int) < 0; decide⟩
  | n + 1 => by
    have := abvE_bd t d n
    unfold abvE; split <;> omega
end Go.Proofs.YtimpejaaeinplaaGreatDoor
namespace Go.Proofs.YtimpejaaeinplaaGreatDoor
open Go.RowKit

def pathF (t : List TrN) : Nat -> Nat -> List ByteArray
  | 0, _ => []
  | f + 1, i => if i = 0 then [] else pathF t f (abv t i).toNat ++ [(getT t i).nm]
def pathT (t : List TrN) (i : Nat) : List ByteArray := pathF t (i + 1) i
theorem abv_bd (t : List TrN) (i : Nat) : -1 <= abv t i /\ abv t i < i := abvE_bd _ _ _
theorem pathF_eq (t : List TrN) : ∀ (i f f' : Nat), i < f -> i < f' -> pathF t f i = pathF t f' i := by
  intro i
  induction i using Nat.strongRecOn with
  | ind i ih =>
    intro f f' h h'
    obtain ⟨g, rfl⟩ : ∃ g, f = g + 1 := ⟨f - 1, by omega⟩
    obtain ⟨g', rfl⟩ : ∃ g, f' = g + 1 := ⟨f' - 1, by omega⟩
    unfold pathF
    by_cases e : i = 0
    · rw [if_pos e, if_pos e]
    · rw [if_neg e, if_neg e]
      have := abv_bd t i
      rw [ih (abv t i).toNat (by omega) g g' (by omega) (by omega)]
theorem pathT_zero (t : List TrN) : pathT t 0 = [] := rfl
theorem pathT_succ (t : List TrN) (i : Nat) (h : i ≠ 0) : pathT t i = pathT t (abv t i).toNat ++ [(getT t i).nm] := by
  have := abv_bd t i
  show pathF t (i + 1) i = _
  rw [pathF.eq_2, if_neg h]
  unfold pathT
  rw [pathF_eq t (abv t i).toNat i ((abv t i).toNat + 1) (by omega) (by omega)]
theorem pathT_len (t : List TrN) : ∀ i, (pathT t i).length <= i := by
  intro i
  induction i using Nat.strongRecOn with
  | ind i ih =>
    by_cases e : i = 0
    · subst e; rw [pathT_zero]; simp
    · have := abv_bd t i
      rw [pathT_succ t i e, List.length_append]
      have := ih (abv t i).toNat (by omega)
      simp; omega
theorem abvE_ge {t : List TrN} {d : Int} : ∀ {n j : Nat}, j < n -> (getT t j).dep < d -> 0 <= abvE t d n
  | n + 1, j, hj, hd => by
    unfold abvE
    by_cases e : (getT t n).dep < d
    · rw [if_pos e]; omega
    · rw [if_neg e]
      exact abvE_ge (j := j) (by by_cases e2 : j = n; subst e2; exact absurd hd e; omega) hd
theorem abv_ge {t : List TrN} {k i : Nat} (h : AllOk t k) (hi : i < k) (h0 : i ≠ 0) : 0 <= abv t i := by
  obtain ⟨s0, _⟩ := node_parts (h 0 (by omega))
  obtain ⟨si, _⟩ := node_parts (h i hi)
  have := (shape_bd s0).2.2.1 rfl
  have := (shape_bd si).2.2.2 h0
  exact abvE_ge (j := 0) (by omega) (by omega)
end Go.Proofs.YtimpejaaeinplaaGreatDoor
namespace Go.Proofs.YtimpejaaeinplaaGreatDoor
open Go.RowKit

def OwnP {α : Type} (C : Cd α) (w : World) (l : List α) (e : Ending) (w' : World) : Prop := (∃ a n cap, e = .returned (.slice a n cap) /\ OwnL C w.heap.size w' (.slice a n cap) l) /\ Ext w w'
end Go.Proofs.YtimpejaaeinplaaGreatDoor
namespace Go.Proofs.YtimpejaaeinplaaGreatDoor
open Go.RowKit

def seenR (b : List BrN) (r : List ByteArray) : Nat -> Bool
  | 0 => false
  | k + 1 => seenR b r k || decide (r = (getB b k).red)
def underB (b : List BrN) (i : Nat) : Bool := (getB b i).kd == 5 && decide (0 <= abv (plT b) i) && (getB b (abv (plT b) i).toNat).opq
def marksE (b : List BrN) (i : Nat) : Int :=
  if (((getB b i).opq = true \/ 0 < (getB b i).red.length) /\ (getB b i).kd ≠ 1) \/ (i = 0 /\ 0 < (getB b i).red.length) then 14
  else if (getB b i).opq = true /\ 0 < (getB b i).red.length then 6
  else if 0 < (getB b i).red.length /\ pathE (getB b i).red ≠ 0 then pathE (getB b i).red
  else if 0 < (getB b i).red.length /\ (getB b i).red = pathT (plT b) i then 6
  else if 0 < (getB b i).red.length /\ seenR b (getB b i).red i = true then 8
  else if underB b i = true then 6 else 0
section
variable {b : List BrN} {i : Nat} {x : BrN} (hg : getB b i = x)
include hg
theorem marks_kind (h : ((x.opq = true \/ 0 < x.red.length) /\ x.kd ≠ 1) \/ (i = 0 /\ 0 < x.red.length)) : marksE b i = 14 := by subst hg; exact if_pos h
theorem marks_both (h1 : x.kd = 1) (h2 : i ≠ 0) (h3 : x.opq = true) (h4 : 0 < x.red.length) : marksE b i = 6 := by
  subst hg; unfold marksE; rw [if_neg (fun h => h.elim (fun h => h.2 h1) (fun h => h2 h.1)), if_pos ⟨h3, h4⟩]
theorem marks_path (h1 : x.kd = 1) (h2 : i ≠ 0) (h3 : x.opq = false) (h4 : 0 < x.red.length) (h : pathE x.red ≠ 0) : marksE b i = pathE x.red := by
  subst hg; unfold marksE; rw [if_neg (fun h => h.elim (fun h => h.2 h1) (fun h => h2 h.1)), if_neg (by simp [h3]), if_pos ⟨h4, h⟩]
theorem marks_self (h1 : x.kd = 1) (h2 : i ≠ 0) (h3 : x.opq = false) (h4 : 0 < x.red.length) (h5 : pathE x.red = 0) (h : x.red = pathT (plT b) i) : marksE b i = 6 := by
  subst hg; unfold marksE; rw [if_neg (fun h => h.elim (fun h => h.2 h1) (fun h => h2 h.1)), if_neg (by simp [h3]), if_neg (fun h => h.2 h5), if_pos ⟨h4, h⟩]
theorem marks_seen (h1 : x.kd = 1) (h2 : i ≠ 0) (h3 : x.opq = false) (h4 : 0 < x.red.length) (h5 : pathE x.red = 0) (h6 : x.red ≠ pathT (plT b) i) (h : seenR b x.red i = true) : marksE b i = 8 := by
  subst hg; unfold marksE; rw [if_neg (fun h => h.elim (fun h => h.2 h1) (fun h => h2 h.1)), if_neg (by simp [h3]), if_neg (fun h => h.2 h5), if_neg (fun h => h6 h.2), if_pos ⟨h4, h⟩]
theorem marks_led (h1 : x.kd = 1) (h2 : i ≠ 0) (h3 : x.opq = false) (h4 : 0 < x.red.length) (h5 : pathE x.red = 0) (h6 : x.red ≠ pathT (plT b) i) (h : seenR b x.red i = false) : marksE b i = 0 := by
  subst hg; unfold marksE; rw [if_neg (fun h => h.elim (fun h => h.2 h1) (fun h => h2 h.1)), if_neg (by simp [h3]), if_neg (fun h => h.2 h5), if_neg (fun h => h6 h.2), if_neg (fun e => by rw [h] at e; cases e.2), if_neg (by unfold underB; rw [h1]; simp)]
theorem marks_under (h1 : ¬ (x.opq = true /\ x.kd ≠ 1)) (h4 : ¬ 0 < x.red.length) : marksE b i = if underB b i = true then 6 else 0 := by
  subst hg; unfold marksE
  rw [if_neg (fun h => h.elim (fun h => h.1.elim (fun e => h1 ⟨e, h.2⟩) h4) (fun h => h4 h.2)), if_neg (fun h => h4 h.2), if_neg (fun h => h4 h.1), if_neg (fun h => h4 h.1), if_neg (fun h => h4 h.1)]
end
theorem seenR_first {b : List BrN} {r : List ByteArray} : ∀ {n k : Nat}, k < n -> r = (getB b k).red -> seenR b r n = true
  | n + 1, k, hk, h => by
    unfold seenR
    by_cases e : k = n
    · subst e; rw [decide_eq_true h, Bool.or_true]
    · rw [seenR_first (by omega) h, Bool.true_or]
structure SmallB (b : List BrN) : Prop where
  tree : SmallT (plT b)
  ats : ∀ x ∈ b, x.ats.length <= 1000
  red : ∀ x ∈ b, x.red.length <= 1000 /\ ∀ s ∈ x.red, s.size <= 1000000
  len : b.length <= 1000
theorem strs_ext {B : Nat} {w w' : World} {v : Value} {l : List ByteArray} (h : StrIn B w v l) (he : Ext w w') : StrsAt w' v l := (h.ext okS he).strs
theorem lenZ {n : Nat} (h : ¬ 0 < n) : decide ((0 : Int) < (n : Int)) = false := decide_eq_false (by omega)
theorem lenP {n : Nat} (h : 0 < n) : decide ((0 : Int) < (n : Int)) = true := decide_eq_true (by omega)
end Go.Proofs.YtimpejaaeinplaaGreatDoor
namespace Go.Proofs.YtimpejaaeinplaaGreatDoor
open Go.RowKit

theorem findB_none_iff {p : Nat -> Bool} : ∀ (n a : Nat), findB p a n = none -> ∀ j, a <= j -> j < a + n -> p j = false
  | 0, a, _, j, h1, h2 => by omega
  | n + 1, a, h, j, h1, h2 => by
    unfold findB at h
    by_cases e : p a = true
    · rw [if_pos e] at h; cases h
    · rw [if_neg e] at h
      by_cases e2 : j = a
      · subst e2; exact Bool.eq_false_iff.2 e
      · exact findB_none_iff n (a + 1) h j (by omega) (by omega)
theorem findB_mem {p : Nat -> Bool} : ∀ (n a i : Nat), findB p a n = some i -> p i = true /\ a <= i /\ i < a + n
  | 0, _, _, h => by cases h
  | n + 1, a, i, h => by
    unfold findB at h
    by_cases e : p a = true
    · rw [if_pos e] at h; cases h; exact ⟨e, Nat.le_refl _, by omega⟩
    · rw [if_neg e] at h
      have := findB_mem n (a + 1) i h
      exact ⟨this.1, by omega, by omega⟩
theorem treeE_zero {t : List TrN} (h : treeE t = 0) : t.length ≠ 0 /\ t.length <= 120 /\ AllOk t t.length /\ treeN t = 0 /\ ∀ j, j < t.length -> loneB t j = false := by
  unfold treeE treeN at *
  unfold treeT at *
  by_cases h0 : t.length = 0
  · rw [if_pos h0] at h; cases h
  rw [if_neg h0] at h ⊢
  by_cases h1 : 120 < t.length
  · rw [if_pos h1] at h; cases h
  rw [if_neg h1] at h ⊢
  cases hf : findB (badB t) 0 t.length with
  | some i =>
    rw [hf] at h
    have := (findB_mem _ _ _ hf).1
    exact absurd h (bne_iff_ne.1 this)
  | none =>
    rw [hf] at h
    cases hg : findB (loneB t) 0 t.length with
    | some i => rw [hg] at h; cases h
    | none =>
      refine ⟨h0, by omega, fun j hj => ?_, rfl, fun j hj => findB_none_iff _ _ hg j (Nat.zero_le _) (by omega)⟩
      have := findB_none_iff _ _ hf j (Nat.zero_le _) (by omega)
      exact bne_eq_false_iff_eq.1 this
def badM (b : List BrN) (i : Nat) : Bool := marksE b i != 0
def brT (b : List BrN) : Int × Int :=
  if treeE (plT b) ≠ 0 then (treeN (plT b), treeE (plT b)) else match findB (badM b) 0 b.length with
    | some i => (i, marksE b i)
    | none => (0, 0)
def brNo (b : List BrN) : Int := (brT b).1
def brEr (b : List BrN) : Int := (brT b).2
theorem br_of {b : List BrN} {x y : Int} (h : brT b = (x, y)) : brNo b = x /\ brEr b = y := by unfold brNo brEr; rw [h]; exact ⟨rfl, rfl⟩
theorem brT_tree {b : List BrN} (h : treeE (plT b) ≠ 0) : brT b = (treeN (plT b), treeE (plT b)) := if_pos h
theorem brT_mark {b : List BrN} (h : treeE (plT b) = 0) {i : Nat} (hi : i < b.length) (hl : ∀ j, j < i -> marksE b j = 0) (he : marksE b i ≠ 0) : brT b = ((i : Int), marksE b i) := by
  unfold brT; rw [if_neg (by omega), findB_some b.length 0 i (Nat.zero_le _) (by omega) (fun j _ hj => by unfold badM; rw [hl j hj]; rfl) (show badM b i = true from bne_iff_ne.2 he)]
theorem brT_ok {b : List BrN} (h : treeE (plT b) = 0) (hl : ∀ j, j < b.length -> marksE b j = 0) : brT b = (0, 0) := by
  unfold brT; rw [if_neg (by omega), findB_none b.length 0 (fun j _ hj => by unfold badM; rw [hl j (by omega)]; rfl)]
theorem brEr_zero {b : List BrN} (h : brEr b = 0) : treeE (plT b) = 0 /\ brNo b = 0 /\ ∀ j, j < b.length -> marksE b j = 0 := by
  unfold brEr brNo brT at *
  by_cases h0 : treeE (plT b) ≠ 0
  · rw [if_pos h0] at h; exact absurd h h0
  rw [if_neg h0] at h ⊢
  cases hf : findB (badM b) 0 b.length with
  | some i =>
    rw [hf] at h
    exact absurd h (bne_iff_ne.1 (findB_mem _ _ _ hf).1)
  | none => exact ⟨by omega, rfl, fun j hj => bne_eq_false_iff_eq.1 (findB_none_iff _ _ hf j (Nat.zero_le _) (by omega))⟩
end Go.Proofs.YtimpejaaeinplaaGreatDoor
namespace Go.Proofs.YtimpejaaeinplaaGreatDoor
open Go.RowKit

theorem ListIn.zero {α : Type} {C : Cd α} {B : Nat} {w : World} {v : Value} {l : List α} (h : ListIn C B w v l) (hv : ∃ n cap, v = .slice none n cap) : l = [] := by
  obtain ⟨a, cap, rfl, _, _, hc⟩ := h
  obtain ⟨n', cap', he⟩ := hv
  cases he
  cases l with
  | nil => rfl
  | cons y r => obtain ⟨b, off, cs, h0, _⟩ := hc 0 (by simp); cases h0
end Go.Proofs.YtimpejaaeinplaaGreatDoor
namespace Go.Proofs.YtimpejaaeinplaaGreatDoor
open Go.RowKit

set_option maxRecDepth 100000 in
set_option maxHeartbeats 4000000 in
theorem slCloneS (B : Nat) (v : Value) (l : List ByteArray) (w : World) (hv : StrIn B w v l) (hB : B <= w.heap.size) (hl : l.length <= 1000) :
    Calls Tryz.prog 164 #[v] w (OwnP cdS w l) := by
  obtain ⟨a, cap, rfl⟩ := hv.form
  have HV := hQq hv; clear hv
  cases a with
  | none =>
    have := HV.out.zero ⟨_, _, rfl⟩
    subst this
    have hnil := fun wx => Lib.run_eql_slice_nil (P := Tryz.prog) wx 39 9 none 0 cap 0 0 okS.sl.und
    go_enter Tryz.func164, Tryz.ntmps164
    go_wp2
    go_ret
    exact ⟨⟨_, _, _, rfl, OwnL.nil _ _ _⟩, Below.refl _ _⟩
  | some ad =>
    have hnil := fun wx => Lib.run_eql_slice_nil (P := Tryz.prog) wx 39 9 (some ad) l.length cap 0 0 okS.sl.und
    go_enter Tryz.func164, Tryz.ntmps164
    go_wp2_with (at_builtin; refine appL okS rfl (.tmp 5) (.tmp 6) rfl _ _ [] l w (w.alloc (.cells #[] 9)) rfl rfl (OwnL.fresh cdS w) ((HV.out.mono okS hB).ext okS (eA _ _)) (eA _ _) (by simp) (by simp; omega) ?_; intro v1 w1 ha; have HA := hQq ha; clear ha)
    obtain ⟨a6, cap6, rfl⟩ := HA.out.own.form
    go_ret
    exact ⟨⟨_, _, _, rfl, HA.out.own⟩, HA.out.below⟩
end Go.Proofs.YtimpejaaeinplaaGreatDoor
