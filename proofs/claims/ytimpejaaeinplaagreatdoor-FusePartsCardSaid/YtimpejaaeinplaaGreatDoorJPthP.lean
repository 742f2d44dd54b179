/- PthP MapI ParP OrP -/
import Derived.Test.YtimpejaaeinplaaGreatDoorJI5
import Derived.Test.YtimpejaaeinplaaGreatDoorJRng
namespace Go.Proofs.YtimpejaaeinplaaGreatDoor
open Go.RowKit
def textP (l : List ByteArray) : ByteArray := ofL (47 :: Lib.join (l.map L) [47])
theorem nameE_parts {l : List UInt8} (h : nameE l = 0) : l ≠ [] /\ (47 : UInt8) ∉ l /\ l.length <= 24 := by
 unfold nameE at h
 by_cases h1 : l = [] \/ l = [46] \/ l = [46, 46] \/ l.any (pB badC) = true
 ·rw [if_pos h1] at h; cases h
 rw [if_neg h1] at h
 by_cases h2 : 24 < l.length
 ·rw [if_pos h2] at h; cases h
 refine ⟨fun e => h1 (.inl e), fun e => h1 (.inr (.inr (.inr ?_))), by omega⟩
 exact List.any_eq_true.2 ⟨47, e, by decide⟩
theorem firstN_zero : ∀ {l : List ByteArray}, firstN l = 0 -> ∀ s ∈ l, nameE (L s) = 0
 | a :: r, h, s, hs => by
  unfold firstN at h
  by_cases e : nameE (L a) ≠ 0
  ·rw [if_pos e] at h; exact absurd h e
  ·rw [if_neg e] at h
   rcases List.mem_cons.1 hs with rfl | hs
   ·exact Decidable.not_not.1 e
   ·exact firstN_zero h s hs
theorem pathE_zero {l : List ByteArray} (h : pathE l = 0) : l.length <= 8 /\ ∀ s ∈ l, nameE (L s) = 0 := by
 unfold pathE at h
 by_cases e : 8 < l.length
 ·rw [if_pos e] at h; cases h
 ·rw [if_neg e] at h; exact ⟨by omega, firstN_zero h⟩
def Sl (t : List UInt8) : Prop := t = [] \/ ∃ u, t = 47 :: u
theorem cutL_inj : ∀ {x y t u : List UInt8}, (47 : UInt8) ∉ x -> (47 : UInt8) ∉ y -> Sl t -> Sl u -> x ++ t = y ++ u -> x = y /\ t = u
 | [], [], _, _, _, _, _, _, h => ⟨rfl, h⟩
 | [], b :: y, t, u, _, hy, ht, _, h => by
  rcases ht with rfl | ⟨t', rfl⟩
  ·cases h
  ·injection h with h1 _; exact absurd (by rw [<- h1]; simp) hy
 | a :: x, [], t, u, hx, _, _, hu, h => by
  rcases hu with rfl | ⟨u', rfl⟩
  ·cases h
  ·injection h with h1 _; exact absurd (by rw [<- h1]; simp) hx
 | a :: x, b :: y, t, u, hx, hy, ht, hu, h => by
  injection h with h1 h2
  obtain ⟨e1, e2⟩ := cutL_inj (fun e => hx (by simp [e])) (fun e => hy (by simp [e])) ht hu h2
  exact ⟨by rw [h1, e1], e2⟩
theorem tail_sl : ∀ r : List (List UInt8), Sl (Lib.joinTail [47] r)
 | [] => .inl rfl
 | x :: r => .inr ⟨x ++ Lib.joinTail [47] r, rfl⟩
theorem tail_inj : ∀ {r s : List (List UInt8)}, (∀ x ∈ r, (47 : UInt8) ∉ x) -> (∀ x ∈ s, (47 : UInt8) ∉ x) -> Lib.joinTail [47] r = Lib.joinTail [47] s -> r = s
 | [], [], _, _, _ => rfl
 | [], y :: s, _, _, h => by cases h
 | x :: r, [], _, _, h => by cases h
 | x :: r, y :: s, hr, hs, h => by
  have h : (47 : UInt8) :: (x ++ Lib.joinTail [47] r) = 47 :: (y ++ Lib.joinTail [47] s) := h
  injection h with _ h
  obtain ⟨e1, e2⟩ := cutL_inj (hr x (by simp)) (hs y (by simp)) (tail_sl r) (tail_sl s) h
  rw [e1, tail_inj (fun z hz => hr z (by simp [hz])) (fun z hz => hs z (by simp [hz])) e2]
theorem join_inj {r s : List (List UInt8)} (hr : ∀ x ∈ r, x ≠ [] /\ (47 : UInt8) ∉ x) (hs : ∀ x ∈ s, x ≠ [] /\ (47 : UInt8) ∉ x) (h : Lib.join r [47] = Lib.join s [47]) : r = s := by
 cases r with
 | nil =>
  cases s with
  | nil => rfl
  | cons y s =>
   rw [Lib.join_cons, Lib.join_nil] at h
   exact absurd (List.append_eq_nil_iff.1 h.symm).1 (hs y (by simp)).1
 | cons x r =>
  cases s with
  | nil =>
   rw [Lib.join_cons, Lib.join_nil] at h
   exact absurd (List.append_eq_nil_iff.1 h).1 (hr x (by simp)).1
  | cons y s =>
   rw [Lib.join_cons, Lib.join_cons] at h
   obtain ⟨e1, e2⟩ := cutL_inj (hr x (by simp)).2 (hs y (by simp)).2 (tail_sl r) (tail_sl s) h
   rw [e1, tail_inj (fun z hz => (hr z (by simp [hz])).2) (fun z hz => (hs z (by simp [hz])).2) e2]
theorem textP_inj {a b : List ByteArray} (ha : pathE a = 0) (hb : pathE b = 0) (h : textP a = textP b) : a = b := by
 have h1 := congrArg L h
 unfold textP at h1
 rw [L_ofL, L_ofL] at h1
 injection h1 with _ h1
 have hn : ∀ {l : List ByteArray}, pathE l = 0 -> ∀ x ∈ l.map L, x ≠ [] /\ (47 : UInt8) ∉ x := by
  intro l hl x hx
  obtain ⟨s, hs, rfl⟩ := List.mem_map.1 hx
  have := nameE_parts ((pathE_zero hl).2 s hs)
  exact ⟨this.1, this.2.1⟩
 have h2 := join_inj (hn ha) (hn hb) h1
 exact List.map_inj_right (fun _ _ e => L_inj e) |>.1 h2
theorem join_len {l : List ByteArray} (h : pathE l = 0) : (Lib.join (l.map L) [47]).length <= 1000 := by
 obtain ⟨h1, h2⟩ := pathE_zero h
 have : ∀ m : List ByteArray, (∀ s ∈ m, nameE (L s) = 0) -> (Lib.joinTail [47] (m.map L)).length <= 25 * m.length := by
  intro m
  induction m with
  | nil => intro _; exact Nat.le_refl _
  | cons s r ih =>
   intro hm
   have := ih fun x hx => hm x (by simp [hx])
   have := (nameE_parts (hm s (by simp))).2.2
   show ((47 : UInt8) :: (L s ++ Lib.joinTail [47] (r.map L))).length <= _
   simp only [List.length_cons, List.length_append]; omega
 cases l with
 | nil => simp [Lib.join_nil]
 | cons s r =>
  rw [List.map_cons, Lib.join_cons, List.length_append]
  have := this r fun x hx => h2 x (by simp [hx])
  have := (nameE_parts (h2 s (by simp))).2.2
  simp only [List.length_cons] at h1; omega
open Go.RowKit Go.MapKept
section
variable {P : Program} {K : Type} {κ : K -> Value} {w : World} {b n : Nat} {f : K -> Option Value} {F : Fence} {nF : Nat}
variable {ops : Array Oper} {rest : List Oper} {o : Oper} {a : Act} {Q : Exit -> Act -> World -> Prop}
theorem wlIn_look (hg : o.guard = none) (m x : Operand) (t : TypeId) (ok : Bool) (hop : o.op = Op.lookup t m x ok) (k e : TypeId) (T : KeyT P k κ) (ht : P.underlying t = some (.map k e)) (z : Value) (hz : ∀ w, (zeroValue e).run P w = .ok z w)
  (hm : a.eval m = .map (some b)) (h : MapAt κ w b n f) (y : K) (hx : a.eval x = κ y)
  (hK : wpListIn F nF P ops Q rest (a.put o.dst (if ok then .tuple #[(f y).getD z, .bool (f y).isSome] else (f y).getD z)) w) : wpListIn F nF P ops Q (o :: rest) a w := by
 refine wpListIn_plain hg fun K' hK' => ?_
 unfold Oper.wpIn
 refine ⟨by simp [Oper.about, hop], ?_⟩
 rw [Oper.semAt_plain F _ _ (by rw [hop]; intro c hc'; cases hc')]
 simp only [execOp, hop, hm, hx]
 have := h.look T ht (hz w) y ok
 simp [this, Result.andThen]
 exact hK' _ _ hK
theorem wlIn_store [DecidableEq K] (hg : o.guard = none) (m x y : Operand) (t : TypeId) (hop : o.op = Op.mapUpdate t m x y) (k e : TypeId) (T : KeyT P k κ) (ht : P.underlying t = some (.map k e))
  (hm : a.eval m = .map (some b)) (h : MapAt κ w b n f) (q : K) (v : Value) (hx : a.eval x = κ q) (hy : a.eval y = v)
  (hK : ∀ w', MapAt κ w' b (if (f q).isSome then n else n + 1) (upd f q v) -> w.grownBy w' (some b) -> wpListIn F nF P ops Q rest (a.put o.dst undef) w') : wpListIn F nF P ops Q (o :: rest) a w := by
 obtain ⟨w', hr, h1, h2⟩ := h.update T ht q v
 refine wpListIn_plain hg fun K' hK' => ?_
 unfold Oper.wpIn
 refine ⟨by simp [Oper.about, hop], ?_⟩
 rw [Oper.semAt_plain F _ _ (by rw [hop]; intro c hc'; cases hc')]
 simp [execOp, hop, hm, hx, hy, hr, Result.andThen]
 exact hK' _ _ (hK w' h1 h2)
end
end Go.Proofs.YtimpejaaeinplaaGreatDoor
namespace Go.Proofs.YtimpejaaeinplaaGreatDoor
open Go.RowKit
def cutsL : List UInt8 -> List (List UInt8)
 | [] => [[]]
 | c :: r => if c = 47 then [] :: cutsL r else (c :: (cutsL r).headD []) :: (cutsL r).tail
theorem cuts_slash (r : List UInt8) : cutsL (47 :: r) = [] :: cutsL r := if_pos rfl
theorem cuts_ne {c : UInt8} (h : c ≠ 47) (r : List UInt8) : cutsL (c :: r) = (c :: (cutsL r).headD []) :: (cutsL r).tail := if_neg h
theorem cuts_cons (l : List UInt8) : ∃ x r, cutsL l = x :: r := by
 cases l with
 | nil => exact ⟨_, _, rfl⟩
 | cons c r =>
  by_cases h : c = 47
  ·subst h; exact ⟨_, _, cuts_slash r⟩
  ·exact ⟨_, _, cuts_ne h r⟩
def cutsB (l : List UInt8) : List ByteArray := (cutsL l).map ofL
def parT (s : ByteArray) : List ByteArray × Int :=
 if (L s).head? ≠ some 47 then ([], 6) else if (L s).tail = [] then ([], 0)
 else if pathE (cutsB (L s).tail) ≠ 0 then ([], pathE (cutsB (L s).tail)) else (cutsB (L s).tail, 0)
def parL (s : ByteArray) : List ByteArray := (parT s).1
def parE (s : ByteArray) : Int := (parT s).2
theorem par_of {s : ByteArray} {x : List ByteArray} {y : Int} (h : parT s = (x, y)) : parL s = x /\ parE s = y := by unfold parL parE; rw [h]; exact ⟨rfl, rfl⟩
theorem par_form {s : ByteArray} (h : (L s).head? ≠ some 47) : parT s = ([], 6) := if_pos h
theorem par_root {s : ByteArray} (h : (L s).head? = some 47) (h2 : (L s).tail = []) : parT s = ([], 0) := by unfold parT; rw [if_neg (by simp [h]), if_pos h2]
theorem par_bad {s : ByteArray} (h : (L s).head? = some 47) (h2 : (L s).tail ≠ []) (h3 : pathE (cutsB (L s).tail) ≠ 0) : parT s = ([], pathE (cutsB (L s).tail)) := by
 unfold parT; rw [if_neg (by simp [h]), if_neg h2, if_pos h3]
theorem par_ok {s : ByteArray} (h : (L s).head? = some 47) (h2 : (L s).tail ≠ []) (h3 : pathE (cutsB (L s).tail) = 0) : parT s = (cutsB (L s).tail, 0) := by
 unfold parT; rw [if_neg (by simp [h]), if_neg h2, if_neg (by simp [h3])]
theorem mapOfL (l : List ByteArray) : (l.map L).map ofL = l := by
 rw [List.map_map]
 conv => rhs; rw [<- List.map_id l]
 exact List.map_congr_left fun x _ => L_inj (L_ofL (L x))
theorem par_len (s : ByteArray) : (parL s).length <= 8 := by
 unfold parL parT
 by_cases h1 : (L s).head? ≠ some 47
 ·rw [if_pos h1]; exact Nat.zero_le _
 rw [if_neg h1]
 by_cases h2 : (L s).tail = []
 ·rw [if_pos h2]; exact Nat.zero_le _
 rw [if_neg h2]
 by_cases h3 : pathE (cutsB (L s).tail) ≠ 0
 ·rw [if_pos h3]; exact Nat.zero_le _
 rw [if_neg h3]
 exact (pathE_zero (Decidable.not_not.1 h3)).1
theorem par_names (s : ByteArray) : ∀ x ∈ parL s, x.size <= 24 := by
 intro x hx
 unfold parL parT at hx
 by_cases h1 : (L s).head? ≠ some 47
 ·rw [if_pos h1] at hx; cases hx
 rw [if_neg h1] at hx
 by_cases h2 : (L s).tail = []
 ·rw [if_pos h2] at hx; cases hx
 rw [if_neg h2] at hx
 by_cases h3 : pathE (cutsB (L s).tail) ≠ 0
 ·rw [if_pos h3] at hx; cases hx
 rw [if_neg h3] at hx
 rw [size_L]
 exact (nameE_parts ((pathE_zero (Decidable.not_not.1 h3)).2 x hx)).2.2
/-! The library's cutting. -/
theorem index_cons_ne {c : UInt8} (h : c ≠ 47) (r : List UInt8) : Lib.index (c :: r) [47] = if Lib.index r [47] = -1 then -1 else Lib.index r [47] + 1 := by
 rw [Lib.index_one, Lib.index_one]
 rcases Int.lt_or_le (Lib.indexByte r 47) 0 with hr | hr
 ·have e : Lib.indexByte r 47 = -1 := by have := Lib.indexByte_ge r 47; omega
  rw [if_pos e]
  unfold Lib.indexByte
  simp [h, e]
 ·rw [if_neg (by omega)]
  obtain ⟨k, hk⟩ := Int.eq_ofNat_of_zero_le hr
  rw [hk]
  unfold Lib.indexByte
  simp [h, hk]
  try omega
theorem index_cons_eq (r : List UInt8) : Lib.index (47 :: r) [47] = 0 := by
 rw [Lib.index_one]
 unfold Lib.indexByte
 simp
theorem splitK_succ (k : Nat) (s : List UInt8) : Lib.splitK [47] 0 (k + 1) s = if Lib.index s [47] == -1 then [s] else s.take ((Lib.index s [47]).toNat + 0) :: Lib.splitK [47] 0 k (s.drop ((Lib.index s [47]).toNat + 1)) := rfl
theorem splitK_cuts : ∀ l : List UInt8, Lib.splitK [47] 0 (Lib.count l [47]) l = cutsL l
 | [] => rfl
 | c :: r => by
  have ih := splitK_cuts r
  by_cases h : c = 47
  ·subst h
   rw [Lib.count_cons_eq, Nat.add_comm, cuts_slash, <- ih, splitK_succ, index_cons_eq]
   rfl
  ·rw [Lib.count_cons_ne _ _ _ h, cuts_ne h, <- ih]
   generalize Lib.count r [47] = k
   cases k with
   | zero => rfl
   | succ j =>
    rw [splitK_succ, splitK_succ, index_cons_ne h]
    by_cases hi : Lib.index r [47] = -1
    ·rw [if_pos hi, hi]; rfl
    ·have hg := Lib.index_ge r [47]
     obtain ⟨i, hk⟩ := Int.eq_ofNat_of_zero_le (show 0 <= Lib.index r [47] by omega)
     rw [if_neg hi, hk]
     have e1 : ((i : Int) + 1 == -1) = false := nB (by omega)
     have e2 : ((i : Int) == -1) = false := nB (by omega)
     have e3 : ((i : Int) + 1).toNat = i + 1 := by omega
     rw [e1, e2, e3, Int.toNat_natCast]
     rfl
def slB : ByteArray := ⟨#[47]⟩
theorem splitB_cuts (s : ByteArray) : (Lib.splitB slB 0 (Lib.countB s slB) s).map L = cutsL (L s) := by
 have h := Lib.splitB_data slB 0 (Lib.countB s slB) s
 have e : Lib.countB s slB = Lib.count (L s) [47] := rfl
 exact h.trans (by rw [e]; exact splitK_cuts (L s))
structure ParSt (s : ByteArray) (out : List ByteArray) (fr i : Nat) : Prop where
 lo : 1 <= i
 hi : i <= s.size + 1
 num : out.length + 1 <= i
 mid : i <= s.size -> 1 <= fr /\ fr <= i /\ cutsB ((L s).drop 1) = out ++ cutsB ((L s).drop fr) /\ (47 : UInt8) ∉ ((L s).drop fr).take (i - fr)
 fin : i = s.size + 1 -> cutsB ((L s).drop 1) = out
end Go.Proofs.YtimpejaaeinplaaGreatDoor
