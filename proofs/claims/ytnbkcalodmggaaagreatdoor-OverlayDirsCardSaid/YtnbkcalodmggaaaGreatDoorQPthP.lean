/- PthP MapI ParP OvAs OrP -/
import Derived.Test.YtnbkcalodmggaaaGreatDoorQI5
import Derived.Test.YtnbkcalodmggaaaGreatDoorQNodC
import Derived.Test.YtnbkcalodmggaaaGreatDoorQRng
namespace Go.Proofs.YtnbkcalodmggaaaGreatDoor
open Go.RowKit

def textP (l : List ByteArray) : ByteArray := ofL (47 :: Lib.join (l.map L) [47])
theorem nameE_parts {l : List UInt8} (h : nameE l = 0) : l ≠ [] /\ (47 : UInt8) ∉ l /\ l.length <= 24 := by
  unfold nameE at h
  by_cases h1 : l = [] \/ l = [46] \/ l = [46, 46] \/ l.any (pB badC) = true
  · rw [if_pos h1] at h; cases h
  rw [if_neg h1] at h
  by_cases h2 : 24 < l.length
  · rw [if_pos h2] at h; cases h
  refine ⟨fun e => h1 (.inl e), fun e => h1 (.inr (.inr (.inr ?_))), by omega⟩
  exact List.any_eq_true.2 ⟨47, e, by decide⟩
theorem firstN_zero : ∀ {l : List ByteArray}, firstN l = 0 -> ∀ s ∈ l, nameE (L s) = 0
  | a :: r, h, s, hs => by
    unfold firstN at h
    by_cases e : nameE (L a) ≠ 0
    · rw [if_pos e] at h; exact absurd h e
    · rw [if_neg e] at h
      rcases List.mem_cons.1 hs with rfl | hs
      · exact Decidable.not_not.1 e
      · exact firstN_zero h s hs
theorem pathE_zero {l : List ByteArray} (h : pathE l = 0) : l.length <= 8 /\ ∀ s ∈ l, nameE (L s) = 0 := by
  unfold pathE at h
  by_cases e : 8 < l.length
  · rw [if_pos e] at h; cases h
  · rw [if_neg e] at h; exact ⟨by omega, firstN_zero h⟩
def Sl (t : List UInt8) : Prop := t = [] \/ ∃ u, t = 47 :: u
theorem cutL_inj : ∀ {x y t u : List UInt8}, (47 : UInt8) ∉ x -> (47 : UInt8) ∉ y -> Sl t -> Sl u -> x ++ t = y ++ u -> x = y /\ t = u
  | [], [], _, _, _, _, _, _, h => ⟨rfl, h⟩
  | [], b :: y, t, u, _, hy, ht, _, h => by
    rcases ht with rfl | ⟨t', rfl⟩
    · cases h
    · injection h with h1 _; exact absurd (by rw [<- h1]; simp) hy
  | a :: x, [], t, u, hx, _, _, hu, h => by
    rcases hu with rfl | ⟨u', rfl⟩
    · cases h
    · injection h with h1 _; exact absurd (by rw [<- h1]; simp) hx
  | a :: x, b :: y, t, u, hx, hy, ht, hu, h => by
    injection h with h1 h2
    obtain ⟨e1, e2⟩ := cutL_inj (fun e => hx (by simp [e])) (fun e => hy (by simp [e])) ht hu h2
    exact ⟨by rw [h1, e1], e2⟩
theorem tail_sl : ∀ r : List (List UInt8), Sl (Lib.joinTail [47] r)
  | [] => .inl rfl
  | x :: r => .inr ⟨x ++ Lib.joinTail [47] r, rfl⟩
theorem tail_inj : ∀ {r s : List (List UInt8)}, (∀ x ∈ r, (47 : UInt8) ∉ x) -> (∀ x ∈ s, (47 : UInt8) ∉ x) -> Lib.joinTail [47] r = Lib.joinTail [47] s -> r = s
  | [], [], _, _, _ => rfl
  | [], y :: s, _, _, h => by cases h
  | x :: r, [], _, _, h => by cases h
  | x :: r, y :: s, hr, hs, h => by
    have h : (47 : UInt8) :: (x ++ Lib.joinTail [47] r) = 47 :: (y ++ Lib.joinTail [47] s) := h
    injection h with _ h
    obtain ⟨e1, e2⟩ := cutL_inj (hr x (by simp)) (hs y (by simp)) (tail_sl r) (tail_sl s) h
    rw [e1, tail_inj (fun z hz => hr z (by simp [hz])) (fun z hz => hs z (by simp [hz])) e2]
theorem join_inj {r s : List (List UInt8)} (hr : ∀ x ∈ r, x ≠ [] /\ (47 : UInt8) ∉ x) (hs : ∀ x ∈ s, x ≠ [] /\ (47 : UInt8) ∉ x) (h : Lib.join r [47] = Lib.join s [47]) : r = s := by
  cases r with
  | nil =>
    cases s with
    | nil => rfl
    | cons y s =>
      rw [Lib.join_cons, Lib.join_nil] at h
      exact absurd (List.append_eq_nil_iff.1 h.symm).1 (hs y (by simp)).1
  | cons x r =>
    cases s with
    | nil =>
      rw [Lib.join_cons, Lib.join_nil] at h
      exact absurd (List.append_eq_nil_iff.1 h).1 (hr x (by simp)).1
    | cons y s =>
      rw [Lib.join_cons, Lib.join_cons] at h
      obtain ⟨e1, e2⟩ := cutL_inj (hr x (by simp)).2 (hs y (by simp)).2 (tail_sl r) (tail_sl s) h
      rw [e1, tail_inj (fun z hz => (hr z (by simp [hz])).2) (fun z hz => (hs z (by simp [hz])).2) e2]
theorem textP_inj {a b : List ByteArray} (ha : pathE a = 0) (hb : pathE b = 0) (h : textP a = textP b) : a = b := by
  have h1 := congrArg L h
  unfold textP at h1
  rw [L_ofL, L_ofL] at h1
  injection h1 with _ h1
  have hn : ∀ {l : List ByteArray}, pathE l = 0 -> ∀ x ∈ l.map L, x ≠ [] /\ (47 : UInt8) ∉ x := by
    intro l hl x hx
    obtain ⟨s, hs, rfl⟩ := List.mem_map.1 hx
    have := nameE_parts ((pathE_zero hl).2 s hs)
    exact ⟨this.1, this.2.1⟩
  have h2 := join_inj (hn ha) (hn hb) h1
  exact List.map_inj_right (fun _ _ e => L_inj e) |>.1 h2
theorem join_len {l : List ByteArray} (h : pathE l = 0) : (Lib.join (l.map L) [47]).length <= 1000 := by
  obtain ⟨h1, h2⟩ := pathE_zero h
  have : ∀ m : List ByteArray, (∀ s ∈ m, nameE (L s) = 0) -> (Lib.joinTail [47] (m.map L)).length <= 25 * m.length := by
    intro m
    induction m with
    | nil => intro _; exact Nat.le_refl _
    | cons s r ih =>
      intro hm
      have := ih fun x hx => hm x (by simp [hx])
      have := (nameE_parts (hm s (by simp))).2.2
      show ((47 : UInt8) :: (L s ++ Lib.joinTail [47] (r.map L))).length <= _
      simp only [List.length_cons, List.length_append]; omega
  cases l with
  | nil => simp [Lib.join_nil]
  | cons s r =>
    rw [List.map_cons, Lib.join_cons, List.length_append]
    have := this r fun x hx => h2 x (by simp [hx])
    have := (nameE_parts (h2 s (by simp))).2.2
    simp only [List.length_cons] at h1; omega
end Go.Proofs.YtnbkcalodmggaaaGreatDoor
namespace Go.Proofs.YtnbkcalodmggaaaGreatDoor
open Go.RowKit Go.MapKept

section
variable {P : Program} {K : Type} {κ : K -> Value} {w : World} {b n : Nat} {f : K -> Option Value} {F : Fence} {nF : Nat}
variable {ops : Array Oper} {rest : List Oper} {o : Oper} {a : Act} {Q : Exit -> Act -> World -> Prop}
theorem wlIn_look (hg : o.guard = none) (m x : Operand) (t : TypeId) (ok : Bool) (hop : o.op = Op.lookup t m x ok) (k e : TypeId) (T : KeyT P k κ) (ht : P.underlying t = some (.map k e)) (z : Value) (hz : ∀ w, (zeroValue e).run P w = .ok z w)
    (hm : a.eval m = .map (some b)) (h : MapAt κ w b n f) (y : K) (hx : a.eval x = κ y)
    (hK : wpListIn F nF P ops Q rest (a.put o.dst (if ok then .tuple #[(f y).getD z, .bool (f y).isSome] else (f y).getD z)) w) : wpListIn F nF P ops Q (o :: rest) a w := by
  refine wpListIn_plain hg fun K' hK' => ?_
  unfold Oper.wpIn
  refine ⟨by simp [Oper.about, hop], ?_⟩
  rw [Oper.semAt_plain F _ _ (by rw [hop]; intro c hc'; cases hc')]
  simp only [execOp, hop, hm, hx]
  have := h.look T ht (hz w) y ok
  simp [this, Result.andThen]
  exact hK' _ _ hK
theorem wlIn_store [DecidableEq K] (hg : o.guard = none) (m x y : Operand) (t : TypeId) (hop : o.op = Op.mapUpdate t m x y) (k e : TypeId) (T : KeyT P k κ) (ht : P.underlying t = some (.map k e))
    (hm : a.eval m = .map (some b)) (h : MapAt κ w b n f) (q : K) (v : Value) (hx : a.eval x = κ q) (hy : a.eval y = v)
    (hK : ∀ w', MapAt κ w' b (if (f q).isSome then n else n + 1) (upd f q v) -> w.grownBy w' (some b) -> wpListIn F nF P ops Q rest (a.put o.dst undef) w') : wpListIn F nF P ops Q (o :: rest) a w := by
  obtain ⟨w', hr, h1, h2⟩ := h.update T ht q v
  refine wpListIn_plain hg fun K' hK' => ?_
  unfold Oper.wpIn
  refine ⟨by simp [Oper.about, hop], ?_⟩
  rw [Oper.semAt_plain F _ _ (by rw [hop]; intro c hc'; cases hc')]
  simp [execOp, hop, hm, hx, hy, hr, Result.andThen]
  exact hK' _ _ (hK w' h1 h2)
end
end Go.Proofs.YtnbkcalodmggaaaGreatDoor
namespace Go.Proofs.YtnbkcalodmggaaaGreatDoor
open Go.RowKit

def cutsL : List UInt8 -> List (List UInt8)
  | [] => [[]]
  | c :: r => if c = 47 then [] :: cutsL r else (c :: (cutsL r).headD []) :: (cutsL r).tail
theorem cuts_slash (r : List UInt8) : cutsL (47 :: r) = [] :: cutsL r := if_pos rfl
theorem cuts_ne {c : UInt8} (h : c ≠ 47) (r : List UInt8) : cutsL (c :: r) = (c :: (cutsL r).headD []) :: (cutsL r).tail := if_neg h
theorem cuts_cons (l : List UInt8) : ∃ x r, cutsL l = x :: r := by
  cases l with
  | nil => exact ⟨_, _, rfl⟩
  | cons c r =>
    by_cases h : c = 47
    · subst h; exact ⟨_, _, cuts_slash r⟩
    · exact ⟨_, _, cuts_ne h r⟩
def cutsB (l : List UInt8) : List ByteArray := (cutsL l).map ofL
def parT (s : ByteArray) : List ByteArray × Int :=
  if (L s).head? ≠ some 47 then ([], 6) else if (L s).tail = [] then ([], 0)
  else if pathE (cutsB (L s).tail) ≠ 0 then ([], pathE (cutsB (L s).tail)) else (cutsB (L s).tail, 0)
def parL (s : ByteArray) : List ByteArray := (parT s).1
def parE (s : ByteArray) : Int := (parT s).2
theorem par_of {s : ByteArray} {x : List ByteArray} {y : Int} (h : parT s = (x, y)) : parL s = x /\ parE s = y := by unfold parL parE; rw [h]; exact ⟨rfl, rfl⟩
theorem par_form {s : ByteArray} (h : (L s).head? ≠ some 47) : parT s = ([], 6) := if_pos h
theorem par_root {s : ByteArray} (h : (L s).head? = some 47) (h2 : (L s).tail = []) : parT s = ([], 0) := by unfold parT; rw [if_neg (by simp [h]), if_pos h2]
theorem par_bad {s : ByteArray} (h : (L s).head? = some 47) (h2 : (L s).tail ≠ []) (h3 : pathE (cutsB (L s).tail) ≠ 0) : parT s = ([], pathE (cutsB (L s).tail)) := by
  unfold parT; rw [if_neg (by simp [h]), if_neg h2, if_pos h3]
theorem par_ok {s : ByteArray} (h : (L s).head? = some 47) (h2 : (L s).tail ≠ []) (h3 : pathE (cutsB (L s).tail) = 0) : parT s = (cutsB (L s).tail, 0) := by
  unfold parT; rw [if_neg (by simp [h]), if_neg h2, if_neg (by simp [h3])]
theorem mapOfL (l : List ByteArray) : (l.map L).map ofL = l := by
  rw [List.map_map]
  conv => rhs; rw [<- List.map_id l]
  exact List.map_congr_left fun x _ => L_inj (L_ofL (L x))
theorem par_len (s : ByteArray) : (parL s).length <= 8 := by
  unfold parL parT
  by_cases h1 : (L s).head? ≠ some 47
  · rw [if_pos h1]; exact Nat.zero_le _
  rw [if_neg h1]
  by_cases h2 : (L s).tail = []
  · rw [if_pos h2]; exact Nat.zero_le _
  rw [if_neg h2]
  by_cases h3 : pathE (cutsB (L s).tail) ≠ 0
  · rw [if_pos h3]; exact Nat.zero_le _
  rw [if_neg h3]
  exact (pathE_zero (Decidable.not_not.1 h3)).1
theorem par_names (s : ByteArray) : ∀ x ∈ parL s, x.size <= 24 := by
  intro x hx
  unfold parL parT at hx
  by_cases h1 : (L s).head? ≠ some 47
  · rw [if_pos h1] at hx; cases hx
  rw [if_neg h1] at hx
  by_cases h2 : (L s).tail = []
  · rw [if_pos h2] at hx; cases hx
  rw [if_neg h2] at hx
  by_cases h3 : pathE (cutsB (L s).tail) ≠ 0
  · rw [if_pos h3] at hx; cases hx
  rw [if_neg h3] at hx
  rw [size_L]
  exact (nameE_parts ((pathE_zero (Decidable.not_not.1 h3)).2 x hx)).2.2
/-! The library's cutting. -/
theorem index_cons_ne {c : UInt8} (h : c ≠ 47) (r : List UInt8) : Lib.index (c :: r) [47] = if Lib.index r [47] = -1 then -1 else Lib.index r [47] + 1 := by
  rw [Lib.index_one, Lib.index_one]
  rcases Int.lt_or_le (Lib.indexByte r 47) 0 with hr | hr
  · have e : Lib.indexByte r 47 = -1 := by have := Lib.indexByte_ge r 47; omega
    rw [if_pos e]
    unfold Lib.indexByte
    simp [h, e]
  · rw [if_neg (by omega)]
    obtain ⟨k, hk⟩ := Int.eq_ofNat_of_zero_le hr
    rw [hk]
    unfold Lib.indexByte
    simp [h, hk]
    try omega
theorem index_cons_eq (r : List UInt8) : Lib.index (47 :: r) [47] = 0 := by
  rw [Lib.index_one]
  unfold Lib.indexByte
  simp
theorem splitK_succ (k : Nat) (s : List UInt8) : Lib.splitK [47] 0 (k + 1) s = if Lib.index s [47] == -1 then [s] else s.take ((Lib.index s [47]).toNat + 0) :: Lib.splitK [47] 0 k (s.drop ((Lib.index s [47]).toNat + 1)) := rfl
theorem splitK_cuts : ∀ l : List UInt8, Lib.splitK [47] 0 (Lib.count l [47]) l = cutsL l
  | [] => rfl
  | c :: r => by
    have ih := splitK_cuts r
    by_cases h : c = 47
    · subst h
      rw [Lib.count_cons_eq, Nat.add_comm, cuts_slash, <- ih, splitK_succ, index_cons_eq]
      rfl
    · rw [Lib.count_cons_ne _ _ _ h, cuts_ne h, <- ih]
      generalize Lib.count r [47] = k
      cases k with
      | zero => rfl
      | succ j =>
        rw [splitK_succ, splitK_succ, index_cons_ne h]
        by_cases hi : Lib.index r [47] = -1
        · rw [if_pos hi, hi]; rfl
        · have hg := Lib.index_ge r [47]
          obtain ⟨i, hk⟩ := Int.eq_ofNat_of_zero_le (show 0 <= Lib.index r [47] by omega)
          rw [if_neg hi, hk]
          have e1 : ((i : Int) + 1 == -1) = false := beq_eq_false_iff_ne.2 (by omega)
          have e2 : ((i : Int) == -1) = false := beq_eq_false_iff_ne.2 (by omega)
          have e3 : ((i : Int) + 1).toNat = i + 1 := by omega
          rw [e1, e2, e3, Int.toNat_natCast]
          rfl
def slB : ByteArray := ⟨#[47]⟩
theorem splitB_cuts (s : ByteArray) : (Lib.splitB slB 0 (Lib.countB s slB) s).map L = cutsL (L s) := by
  have h := Lib.splitB_data slB 0 (Lib.countB s slB) s
  have e : Lib.countB s slB = Lib.count (L s) [47] := rfl
  exact h.trans (by rw [e]; exact splitK_cuts (L s))
end Go.Proofs.YtnbkcalodmggaaaGreatDoor
namespace Go.Proofs.YtnbkcalodmggaaaGreatDoor
open Go.RowKit Go.Extern.Stop Go.Stop Go.Extern

theorem as_val (t : Addr) (w : World) : (ReflectliteValue.unpack (.iface 178 (.pointer (some t)))).run Tryz.prog w
    = .ok (.agg #[.pointer (some ⟨14, 178, none⟩), .pointer (some ⟨w.heap.size, 0, none⟩), .int .u64 150]) (w.alloc (.cells #[.pointer (some t)] 178)) := by kernel_rfl
theorem as_type (a : Addr) (w : World) : (ReflectliteValue.methodAny (ReflectliteValue.valueError "reflectlite.Value.Type" 0) (fun t _ _ _ => ReflectliteType.toType t) #[.agg #[.pointer (some ⟨14, 178, none⟩), .pointer (some a), .int .u64 150]]).run Tryz.prog w
    = .ok (.iface 244 (.agg #[.pointer (some ⟨14, 178, none⟩)])) w := by kernel_rfl
theorem as_err (n e : Int) (w : World) : (ReflectliteValue.unpack (.iface 176 (.agg #[.int .i64 n, .int .i64 e]))).run Tryz.prog w
    = .ok (.agg #[.pointer (some ⟨14, 176, none⟩), .pointer (some ⟨w.heap.size, 0, none⟩), .int .u64 153]) (w.alloc (.cells #[.int .i64 n, .int .i64 e] 176)) := by kernel_rfl
theorem as_methodKind (h : Value) (w : World) : (Go.method 461 244 (.agg #[h]) "Kind").run Tryz.prog w = .ok (311, h) w := by kernel_rfl
theorem as_kindP (w : World) : ((ReflectliteType.abiMethod fun t => (fun a : Nat => Value.int IntKind.u8 (a : Int)) <$> Rtype.kind t) #[.pointer (some ⟨14, 178, none⟩)]).run Tryz.prog w = .ok (.int .u8 22) w := by kernel_rfl
theorem as_kindF (w : World) : ((ReflectliteType.abiMethod fun t => (fun a : Nat => Value.int IntKind.u8 (a : Int)) <$> Rtype.kind t) #[.pointer (some ⟨14, 176, none⟩)]).run Tryz.prog w = .ok (.int .u8 25) w := by kernel_rfl
/-! The entries that read or write memory. -/
theorem as_rlm (z : Sem Value) (f : TypeId -> Addr -> Nat -> Nat -> Sem Value) (v : Value) :
    ReflectliteValue.method z f #[v] = (do match <- ReflectliteValue.parts v with | none => z | some (t, a, fl) => f t a fl (fl % 32)) := rfl
theorem as_partsP (a : Addr) (w : World) : (ReflectliteValue.parts (.agg #[.pointer (some ⟨14, 178, none⟩), .pointer (some a), .int .u64 150])).run Tryz.prog w = .ok (some (178, a, 150)) w := by kernel_rfl
theorem as_isNil (a p : Addr) (W : World) (ha : W.cell? a = some (.pointer (some p))) :
    (ReflectliteValue.method (ReflectliteValue.valueError "reflectlite.Value.IsNil" 0) ReflectliteValue.isNil #[.agg #[.pointer (some ⟨14, 178, none⟩), .pointer (some a), .int .u64 150]]).run Tryz.prog W = .ok (.bool false) W := by
  rw [as_rlm]
  simp only [Sem.run_bind, as_partsP, Result.andThen]
  simp [ReflectliteValue.isNil, loadVar, isAgg, underlying, Tryz.underlying178, ha, Result.andThen]
theorem as_methodElem (h : Value) (w : World) : (Go.method 461 244 (.agg #[h]) "Elem").run Tryz.prog w = .ok (322, .agg #[h]) w := by kernel_rfl
theorem as_methodImplements (h : Value) (w : World) : (Go.method 461 244 (.agg #[h]) "Implements").run Tryz.prog w = .ok (323, .agg #[h]) w := by kernel_rfl
theorem as_methodAssignableTo (h : Value) (w : World) : (Go.method 461 244 (.agg #[h]) "AssignableTo").run Tryz.prog w = .ok (320, .agg #[h]) w := by kernel_rfl
theorem as_elemP (w : World) : (ReflectliteType.method ReflectliteType.elem #[.agg #[.pointer (some ⟨14, 178, none⟩)]]).run Tryz.prog w = .ok (.iface 244 (.agg #[.pointer (some ⟨14, 176, none⟩)])) w := by kernel_rfl
theorem as_implements (w : World) : (ReflectliteType.relation "Implements" ReflectliteType.implements_ #[.agg #[.pointer (some ⟨14, 176, none⟩)], .iface 244 (.agg #[.pointer (some ⟨14, 109, none⟩)])]).run Tryz.prog w = .ok (.bool true) w := by kernel_rfl
theorem as_typeOf (v : Value) (w : World) : (ReflectliteType.typeOf #[.iface 176 v]).run Tryz.prog w = .ok (.iface 244 (.agg #[.pointer (some ⟨14, 176, none⟩)])) w := by kernel_rfl
theorem as_assignable (w : World) : (ReflectliteType.relation "AssignableTo" ReflectliteType.assignableTo #[.agg #[.pointer (some ⟨14, 176, none⟩)], .iface 244 (.agg #[.pointer (some ⟨14, 176, none⟩)])]).run Tryz.prog w = .ok (.bool true) w := by kernel_rfl
theorem as_elemOf (w : World) : (Rtype.elem? 178).run Tryz.prog w = .ok (some 176) w := by kernel_rfl
theorem as_mk (p : Addr) (w : World) : (ReflectliteValue.mk 176 p ReflectliteValue.flagAddr).run Tryz.prog w = .ok (.agg #[.pointer (some ⟨14, 176, none⟩), .pointer (some p), .int .u64 409]) w := by kernel_rfl
theorem as_elemV (a p : Addr) (W : World) (ha : W.cell? a = some (.pointer (some p))) :
    (ReflectliteValue.method (ReflectliteValue.valueError "reflectlite.Value.Elem" 0) ReflectliteValue.elem #[.agg #[.pointer (some ⟨14, 178, none⟩), .pointer (some a), .int .u64 150]]).run Tryz.prog W
      = .ok (.agg #[.pointer (some ⟨14, 176, none⟩), .pointer (some p), .int .u64 409]) W := by
  rw [as_rlm]
  simp only [Sem.run_bind, as_partsP, Result.andThen]
  simp [ReflectliteValue.elem, loadVar, isAgg, underlying, Tryz.underlying178, ha, Result.andThen, as_elemOf, as_mk]
theorem as_rls (v x : Value) : ReflectliteValue.set #[v, x] = (do
    let (some (dst, a, fl), some (src, b, _)) := (<- ReflectliteValue.parts v, <- ReflectliteValue.parts x)
      | unsupported (.noEntry "extern/(internal/reflectlite.Value).Set.zeroValue")
    if fl / ReflectliteValue.flagAddr % 2 == 0 then unsupported (.noEntry "extern/(internal/reflectlite.Value).Set.unaddressable")
    let val <- loadVar src b
    if <- Rtype.directlyAssignable dst src then storeVar dst a val
    else if <- Rtype.implements dst src then
      if (<- Rtype.kind src) == 20 then
        match val with
        | .nilIface => unsupported (.noEntry "extern/reflectlite: a nil value of one interface type handed on as a value of another")
        | _ => storeVar dst a val
      else storeVar dst a (.iface src val)
    else panicString ("reflectlite.Set: value of type " ++ (<- Rtype.spelt src) ++ " is not assignable to type " ++ (<- Rtype.spelt dst))
    pure (.tuple #[])) := rfl
theorem as_partsFa (a : Addr) (w : World) : (ReflectliteValue.parts (.agg #[.pointer (some ⟨14, 176, none⟩), .pointer (some a), .int .u64 409])).run Tryz.prog w = .ok (some (176, a, 409)) w := by kernel_rfl
theorem as_partsF (a : Addr) (w : World) : (ReflectliteValue.parts (.agg #[.pointer (some ⟨14, 176, none⟩), .pointer (some a), .int .u64 153])).run Tryz.prog w = .ok (some (176, a, 153)) w := by kernel_rfl
theorem as_direct (w : World) : (Rtype.directlyAssignable 176 176).run Tryz.prog w = .ok true w := by kernel_rfl
theorem as_set (tb bb : Nat) (x y o1 o2 : Value) (W : World) (hx : x.oneCell' = true) (hy : y.oneCell' = true) (hb : W.heap[bb]? = some (.cells #[x, y] 176 (0, 0))) (ht : W.heap[tb]? = some (.cells #[o1, o2] 176 (0, 0))) :
    (ReflectliteValue.set #[.agg #[.pointer (some ⟨14, 176, none⟩), .pointer (some ⟨tb, 0, none⟩), .int .u64 409], .agg #[.pointer (some ⟨14, 176, none⟩), .pointer (some ⟨bb, 0, none⟩), .int .u64 153]]).run Tryz.prog W
      = .ok (.tuple #[]) ((W.setCell ⟨tb, 0, none⟩ x).setCell ⟨tb, 1, none⟩ y) := by
  have l1 := run_loadVar_row (P := Tryz.prog) W bb 176 176 #[x, y] (0, 0) _ hb Tryz.underlying176 rfl (by kernel_rfl)
  obtain ⟨ie, i0⟩ : ∃ ie, Tryz.prog.info? 176 = some ie := Option.isSome_iff_exists.1 (by kernel_rfl)
  have i1 : ([x, y] : List Value).length = ie.size := by
    have h : (Tryz.prog.info? 176).map (·.size) = some 2 := by kernel_rfl
    rw [i0] at h
    exact (Option.some.inj h).symm
  have s1 := Go.Lib.rl_storeVar_cells (P := Tryz.prog) 176 ie i0 tb 0 [x, y] i1 (by simp [hx, hy]) W (fun k hk => by
    have hk : k < 2 := hk
    rw [Nat.zero_add, cell_of_row W tb k #[o1, o2] _ _ ht]
    have : k = 0 \/ k = 1 := by omega
    rcases this with rfl | rfl <;> rfl) (fun k hk => by simp [World.frozen?, ht])
  have s1 : (storeVar 176 ⟨tb, 0, none⟩ (.agg #[x, y])).run Tryz.prog W = .ok () ((W.setCell ⟨tb, 0, none⟩ x).setCell ⟨tb, 1, none⟩ y) := s1
  rw [as_rls]
  simp only [Sem.run_bind, as_partsFa, as_partsF, Result.andThen]
  simp [ReflectliteValue.flagAddr, l1, s1, Result.andThen, as_direct]
def ErrT (w : World) : Prop := w.cell? ⟨4, 0, none⟩ = some (.iface 244 (.agg #[.pointer (some ⟨14, 109, none⟩)]))
theorem ErrT.ext {w w' : World} (h : ErrT w) (he : Ext w w') : ErrT w' := (ext_cell he (World.block_lt_of_cell? _ _ h)).trans h
abbrev fltV (n e : Int) : Value := .iface 176 (.agg #[.int .i64 n, .int .i64 e])
end Go.Proofs.YtnbkcalodmggaaaGreatDoor
namespace Go.Proofs.YtnbkcalodmggaaaGreatDoor
open Go.RowKit Go.Extern.Stop Go.Stop Go.Extern

set_option maxHeartbeats 4000000 in
theorem as_hit (tb : Nat) (o1 o2 : Value) (n e : Int) (w : World) (hg : w.cell? ⟨4, 0, none⟩ = some (.iface 244 (.agg #[.pointer (some ⟨14, 109, none⟩)]))) (ht : w.heap[tb]? = some (.cells #[o1, o2] 176 (0, 0))) :
    Calls Tryz.prog 169 #[.iface 176 (.agg #[.int .i64 n, .int .i64 e]), .iface 178 (.pointer (some ⟨tb, 0, none⟩))] w fun ev w' => ev = .returned (.bool true) /\ w' = ((((((w.alloc (.cells #[.pointer (some ⟨tb, 0, none⟩)] 178)).alloc (.cells #[.pointer (some ⟨14, 178, none⟩), .pointer (some ⟨w.heap.size, 0, none⟩), .int .u64 150] 217)).alloc (.cells #[.pointer (some ⟨14, 178, none⟩), .pointer (some ⟨w.heap.size, 0, none⟩), .int .u64 150] 217)).alloc (.cells #[.int .i64 n, .int .i64 e] 176))).setCell ⟨tb, 0, none⟩ (.int .i64 n)).setCell ⟨tb, 1, none⟩ (.int .i64 e) := by
  have h1 := @run_callFunc_extern Tryz.prog 213 _ (fun args => ReflectliteValue.unpack (args.getD 0 (.tuple #[]))) Tryz.func213 (by kernel_rfl) (by kernel_rfl) (by kernel_rfl) (by kernel_rfl)
  have h2 := @run_callFunc_extern Tryz.prog 214 _ (ReflectliteValue.methodAny (ReflectliteValue.valueError "reflectlite.Value.Type" 0) (fun t _ _ _ => ReflectliteType.toType t)) Tryz.func214 (by kernel_rfl) (by kernel_rfl) (by kernel_rfl) (by kernel_rfl)
  have h3 := @run_callFunc_extern Tryz.prog 215 _ (ReflectliteValue.method (ReflectliteValue.valueError "reflectlite.Value.IsNil" 0) ReflectliteValue.isNil) Tryz.func215 (by kernel_rfl) (by kernel_rfl) (by kernel_rfl) (by kernel_rfl)
  have h4 := @run_callFunc_extern Tryz.prog 311 _ (ReflectliteType.abiMethod fun t => do pure (.int .u8 (<- Rtype.kind t))) Tryz.func311 (by kernel_rfl) (by kernel_rfl) (by kernel_rfl) (by kernel_rfl)
  have h5 := @run_callFunc_extern Tryz.prog 322 _ (ReflectliteType.method ReflectliteType.elem) Tryz.func322 (by kernel_rfl) (by kernel_rfl) (by kernel_rfl) (by kernel_rfl)
  have h6 := @run_callFunc_extern Tryz.prog 323 _ (ReflectliteType.relation "Implements" ReflectliteType.implements_) Tryz.func323 (by kernel_rfl) (by kernel_rfl) (by kernel_rfl) (by kernel_rfl)
  have h7 := @run_callFunc_extern Tryz.prog 199 _ ReflectliteType.typeOf Tryz.func199 (by kernel_rfl) (by kernel_rfl) (by kernel_rfl) (by kernel_rfl)
  have h8 := @run_callFunc_extern Tryz.prog 320 _ (ReflectliteType.relation "AssignableTo" ReflectliteType.assignableTo) Tryz.func320 (by kernel_rfl) (by kernel_rfl) (by kernel_rfl) (by kernel_rfl)
  have h9 := @run_callFunc_extern Tryz.prog 235 _ (ReflectliteValue.method (ReflectliteValue.valueError "reflectlite.Value.Elem" 0) ReflectliteValue.elem) Tryz.func235 (by kernel_rfl) (by kernel_rfl) (by kernel_rfl) (by kernel_rfl)
  have h10 := @run_callFunc_extern Tryz.prog 236 _ ReflectliteValue.set Tryz.func236 (by kernel_rfl) (by kernel_rfl) (by kernel_rfl) (by kernel_rfl)
  have tO := as_typeOf
  have mA := as_methodAssignableTo
  have a25 := as_assignable
  have v25 := as_err
  have f6 := as_val
  have f7 := as_type
  have mK := as_methodKind
  have mE := as_methodElem
  have mI := as_methodImplements
  have kP := as_kindP
  have kF := as_kindF
  have eP := as_elemP
  have iF := as_implements
  have n8 := as_isNil ⟨w.heap.size, 0, none⟩ ⟨tb, 0, none⟩ ((w.alloc (.cells #[.pointer (some ⟨tb, 0, none⟩)] 178)).alloc (.cells #[.pointer (some ⟨14, 178, none⟩), .pointer (some ⟨w.heap.size, 0, none⟩), .int .u64 150] 217)) (by simp)
  have hlt : 4 < w.heap.size := World.block_lt_of_cell? _ _ hg
  have hg2 : (((w.alloc (.cells #[.pointer (some ⟨tb, 0, none⟩)] 178)).alloc (.cells #[.pointer (some ⟨14, 178, none⟩), .pointer (some ⟨w.heap.size, 0, none⟩), .int .u64 150] 217))).cell? ⟨4, 0, none⟩ = some (.iface 244 (.agg #[.pointer (some ⟨14, 109, none⟩)])) := by
    rw [World.cell?_alloc_lt _ _ ⟨4, 0, none⟩ (by simp; omega), World.cell?_alloc_lt _ _ ⟨4, 0, none⟩ hlt]; exact hg
  have el := as_elemV ⟨w.heap.size, 0, none⟩ ⟨tb, 0, none⟩ (((w.alloc (.cells #[.pointer (some ⟨tb, 0, none⟩)] 178)).alloc (.cells #[.pointer (some ⟨14, 178, none⟩), .pointer (some ⟨w.heap.size, 0, none⟩), .int .u64 150] 217)).alloc (.cells #[.pointer (some ⟨14, 178, none⟩), .pointer (some ⟨w.heap.size, 0, none⟩), .int .u64 150] 217)) (by rw [World.cell?_alloc_lt _ _ ⟨w.heap.size, 0, none⟩ (by simp; omega)]; simp)
  have st := as_set tb (w.heap.size + 1 + 1 + 1) (.int .i64 n) (.int .i64 e) o1 o2 ((((w.alloc (.cells #[.pointer (some ⟨tb, 0, none⟩)] 178)).alloc (.cells #[.pointer (some ⟨14, 178, none⟩), .pointer (some ⟨w.heap.size, 0, none⟩), .int .u64 150] 217)).alloc (.cells #[.pointer (some ⟨14, 178, none⟩), .pointer (some ⟨w.heap.size, 0, none⟩), .int .u64 150] 217)).alloc (.cells #[.int .i64 n, .int .i64 e] 176)) rfl rfl (by have := bN (((w.alloc (.cells #[.pointer (some ⟨tb, 0, none⟩)] 178)).alloc (.cells #[.pointer (some ⟨14, 178, none⟩), .pointer (some ⟨w.heap.size, 0, none⟩), .int .u64 150] 217)).alloc (.cells #[.pointer (some ⟨14, 178, none⟩), .pointer (some ⟨w.heap.size, 0, none⟩), .int .u64 150] 217)) (.cells #[.int .i64 n, .int .i64 e] 176); simpa using this) (bA (bA (bA (bA ht))))
  go_enter Tryz.func169, Tryz.ntmps169
  go_wp2
  refine wp_loop_rounds 1 ?_
  rw [rounds_succ]
  go_wp2
  go_ret
  exact ⟨rfl, rfl⟩
set_option maxHeartbeats 4000000 in
theorem ovAnswer (n e : Int) (w : World) (hg : ErrT w) : RetB Tryz.prog 112 #[fltV n e] w (.tuple #[.int .i64 n, .int .i64 e]) := by
  unfold RetB
  have HG := hQq hg
  clear hg
  go_enter Tryz.func112, Tryz.ntmps112
  go_wp2_with (go_at_call 169; refine (as_hit w.heap.size _ _ n e _ (HG.out.ext (eA _ _)) (bN w _)).mono ?_; rintro ev w1 ⟨rfl, hw1⟩; have HB : Hid (Ext w w1) := hQq (by rw [hw1]; exact ((((((eA _ _).trans (eA _ _)).trans (eA _ _)).trans (eA _ _)).trans (eA _ _)).setCell (p := ⟨w.heap.size, 0, none⟩) (Nat.le_refl _) _).setCell (p := ⟨w.heap.size, 1, none⟩) (Nat.le_refl _) _); have hq : w1.heap[w.heap.size]? = some (.cells #[.int .i64 n, .int .i64 e] 176 (0, 0)) := (by rw [hw1]; exact bS (bS (bA (bA (bA (bA (bN w _))))) _) _); have k0 := bC hq 0; have k1 := bC hq 1; clear hw1 hq)
  go_region
  all_goals
    go_wp2
    go_ret2
    first
      | exact ⟨rfl, HB.out⟩
      | exact ⟨rfl, HB.out.trans (eD _)⟩
      | exact ⟨rfl, HB.out.trans (eDn _ _)⟩
end Go.Proofs.YtnbkcalodmggaaaGreatDoor
namespace Go.Proofs.YtnbkcalodmggaaaGreatDoor
open Go.RowKit

theorem cuts_mid {x : List UInt8} (h : (47 : UInt8) ∉ x) (r : List UInt8) : cutsL (x ++ 47 :: r) = x :: cutsL r := by
  induction x with
  | nil => exact cuts_slash r
  | cons c x ih =>
    simp only [List.mem_cons, not_or] at h
    rw [List.cons_append, cuts_ne (fun e => h.1 e.symm), ih h.2]; rfl
theorem cuts_end {x : List UInt8} (h : (47 : UInt8) ∉ x) : cutsL x = [x] := by
  induction x with
  | nil => rfl
  | cons c x ih =>
    simp only [List.mem_cons, not_or] at h
    rw [cuts_ne (fun e => h.1 e.symm), ih h.2]; rfl
theorem cuts_len (l : List UInt8) : (cutsL l).length <= l.length + 1 /\ ∀ x ∈ cutsL l, x.length <= l.length := by
  induction l with
  | nil => exact ⟨Nat.le_refl _, fun x hx => by rw [List.mem_singleton.1 hx]; exact Nat.le_refl _⟩
  | cons c r ih =>
    obtain ⟨y, q, e⟩ := cuts_cons r
    rw [e] at ih
    by_cases h : c = 47
    · subst h
      rw [cuts_slash, e]
      refine ⟨by have := ih.1; simp only [List.length_cons] at this ⊢; omega, fun x hx => ?_⟩
      rcases List.mem_cons.1 hx with rfl | hx
      · exact Nat.zero_le _
      · have := ih.2 x hx; simp only [List.length_cons]; omega
    · rw [cuts_ne h, e]
      refine ⟨by have := ih.1; simp only [List.length_cons, List.tail_cons] at this ⊢; omega, fun x hx => ?_⟩
      rcases List.mem_cons.1 hx with rfl | hx
      · have := ih.2 y (by simp); simp only [List.headD_cons, List.length_cons]; omega
      · have := ih.2 x (by simpa using .inr hx); simp only [List.length_cons]; omega
structure ParSt (s : ByteArray) (out : List ByteArray) (fr i : Nat) : Prop where
  lo : 1 <= i
  hi : i <= s.size + 1
  num : out.length + 1 <= i
  mid : i <= s.size -> 1 <= fr /\ fr <= i /\ cutsB ((L s).drop 1) = out ++ cutsB ((L s).drop fr) /\ (47 : UInt8) ∉ ((L s).drop fr).take (i - fr)
  fin : i = s.size + 1 -> cutsB ((L s).drop 1) = out
theorem par_start {s : ByteArray} (h : 1 <= s.size) : ParSt s [] 1 1 := ⟨Nat.le_refl _, by omega, Nat.le_refl _, fun _ => ⟨Nat.le_refl _, Nat.le_refl _, rfl, by simp⟩, fun e => by omega⟩
theorem par_skip {s : ByteArray} {out : List ByteArray} {fr i : Nat} (h : ParSt s out fr i) (hi : i < s.size) (hc : s[i]'hi ≠ 47) : ParSt s out fr (i + 1) := by
  obtain ⟨h1, h2, h3, h4⟩ := h.mid (by omega)
  refine ⟨by omega, by omega, by have := h.num; omega, fun _ => ⟨h1, by omega, h3, ?_⟩, fun e => by omega⟩
  have hl : i < (L s).length := by rw [<- size_L]; exact hi
  have hl2 : i - fr < ((L s).drop fr).length := by rw [List.length_drop]; omega
  rw [show i + 1 - fr = (i - fr) + 1 by omega, List.take_succ_eq_append_getElem hl2, List.mem_append, not_or]
  refine ⟨h4, fun e => hc ?_⟩
  rw [List.mem_singleton, List.getElem_drop] at e
  rw [getElem_L, e]
  congr 1; omega
theorem par_piece {s : ByteArray} {out : List ByteArray} {fr i : Nat} (h : ParSt s out fr i) (hi : i < s.size) (hc : s[i]'hi = 47) : ParSt s (out ++ [s.extract fr i]) (i + 1) (i + 1) := by
  obtain ⟨h1, h2, h3, h4⟩ := h.mid (by omega)
  have hl : i < (L s).length := by rw [<- size_L]; exact hi
  have e : (L s).drop fr = ((L s).drop fr).take (i - fr) ++ 47 :: (L s).drop (i + 1) := by
    conv => lhs; rw [<- List.take_append_drop (i - fr) ((L s).drop fr)]
    rw [List.drop_drop, show fr + (i - fr) = i by omega, List.drop_eq_getElem_cons hl, <- getElem_L s i hi, hc]
  refine ⟨by omega, by omega, by have := h.num; simp; omega, fun _ => ⟨by omega, Nat.le_refl _, ?_, by simp⟩, fun e => by omega⟩
  rw [h3]
  conv => lhs; rw [e]
  unfold cutsB
  rw [cuts_mid h4, List.map_cons, List.append_assoc]
  have : ofL (((L s).drop fr).take (i - fr)) = s.extract fr i := L_inj (by rw [L_ofL, L_extract])
  rw [this]; rfl
theorem par_last {s : ByteArray} {out : List ByteArray} {fr : Nat} (h : ParSt s out fr s.size) : ParSt s (out ++ [s.extract fr s.size]) (s.size + 1) (s.size + 1) := by
  obtain ⟨h1, h2, h3, h4⟩ := h.mid (Nat.le_refl _)
  refine ⟨by omega, Nat.le_refl _, by have := h.num; simp; omega, fun e => by omega, fun _ => ?_⟩
  rw [List.take_of_length_le (by rw [List.length_drop, <- size_L]; exact Nat.le_refl _)] at h4
  rw [h3]
  congr 1
  unfold cutsB
  rw [cuts_end h4]
  have : ofL ((L s).drop fr) = s.extract fr s.size := L_inj (by rw [L_ofL, L_drop])
  rw [List.map_cons, this]; rfl
theorem slash_no {c : UInt8} (h : c ≠ 47) : ((c.toNat : Int) == 47) = false /\ ((c.toNat : Int) != 47) = true := by
  have : (c.toNat : Int) ≠ 47 := fun e => h (UInt8.toNat_inj.1 (by have : c.toNat = 47 := by omega
                                                                   rw [this]; rfl))
  exact ⟨beq_eq_false_iff_ne.2 this, bne_iff_ne.2 this⟩
theorem head_at {s : ByteArray} (h : 0 < s.size) : (L s).head? = some (s[0]'h) := by
  rw [getElem_L, List.head?_eq_getElem?, List.getElem?_eq_getElem]
end Go.Proofs.YtnbkcalodmggaaaGreatDoor
namespace Go.Proofs.YtnbkcalodmggaaaGreatDoor
open Go.RowKit

set_option maxRecDepth 100000 in
set_option maxHeartbeats 4000000 in
theorem refParse (s : ByteArray) (w : World) (hs : s.size <= 900000) :
    Calls Tryz.prog 165 #[.string s] w fun e w' => (∃ a cap, e = .returned (.tuple #[.slice a (parL s).length cap, .int .i64 (parE s)]) /\ StrIn 0 w' (.slice a (parL s).length cap) (parL s)) /\ Ext w w' := by
  by_cases h0 : s.size = 0
  · have hl : L s = [] := List.length_eq_zero_iff.1 (by rw [<- size_L]; exact h0)
    have HR := hQq (par_of (par_form (s := s) (fun e => by rw [hl] at e; cases e)))
    have q1 : s.toList.isEmpty = true := by rw [toList_L, hl]; rfl
    clear h0 hl
    go_enter Tryz.func165, Tryz.ntmps165
    go_wp2
    go_ret2
    exact ⟨⟨none, 0, by rw [HR.out.1, HR.out.2]; rfl, by rw [HR.out.1]; exact strIn_nil _ _ _⟩, Below.refl _ _⟩
  have hp : 0 < s.size := by omega
  have hh := head_at hp
  have q1 : s.toList.isEmpty = false := by
    rw [toList_L]
    cases e : L s with
    | nil => have := size_L s; rw [e] at this; exact absurd this h0
    | cons _ _ => rfl
  clear h0
  by_cases h1 : s[0]'hp = 47
  case neg =>
    have HR := hQq (par_of (par_form (s := s) (fun e => by rw [hh] at e; exact h1 (Option.some.inj e))))
    have q3 := (slash_no h1).2
    clear h1 hh
    go_enter Tryz.func165, Tryz.ntmps165
    go_wp2
    go_ret2
    exact ⟨⟨none, 0, by rw [HR.out.1, HR.out.2]; rfl, by rw [HR.out.1]; exact strIn_nil _ _ _⟩, Below.refl _ _⟩
  have hh' : (L s).head? = some 47 := by rw [hh, h1]
  have q3 : (((s[0]'hp).toNat : Int) != 47) = false := bne_eq_false_iff_eq.2 (by rw [h1]; rfl)
  clear hh
  have ht : (L s).tail = (L s).drop 1 := List.drop_one.symm
  by_cases h2 : (L s).tail = []
  · have HR := hQq (par_of (par_root hh' h2))
    have q4 : (s.toList == ([47] : List UInt8)) = true := by
      rw [toList_L]
      cases e : L s with
      | nil => rw [e] at hh'; cases hh'
      | cons c r =>
        rw [e] at hh' h2
        obtain rfl : c = 47 := Option.some.inj hh'
        obtain rfl : r = [] := h2
        rfl
    clear h1 h2 hh' ht
    go_enter Tryz.func165, Tryz.ntmps165
    go_wp2
    go_ret2
    exact ⟨⟨none, 0, by rw [HR.out.1, HR.out.2]; rfl, by rw [HR.out.1]; exact strIn_nil _ _ _⟩, Below.refl _ _⟩
  have q4 : (s.toList == ([47] : List UInt8)) = false := beq_eq_false_iff_ne.2 (fun e => h2 (by rw [<- toList_L, e]; rfl))
  have HSB : Hid (∀ x ∈ cutsB ((L s).drop 1), x.size <= longest) := hQq (fun x hx => by
    unfold cutsB at hx
    obtain ⟨y, hy, rfl⟩ := List.mem_map.1 hx
    have := (cuts_len _).2 y hy
    rw [List.length_drop, <- size_L] at this
    rw [size_ofL]; unfold longest; omega)
  have HPO := hQq (par_start (s := s) (by omega))
  have HHH := hQq hh'; have HH2 := hQq h2; have HTD := hQq ht
  clear h1 h2 hh' ht
  go_enter Tryz.func165, Tryz.ntmps165
  go_wp2
  clear q1 q3 q4
  go_loopw [4, 5, 6] (fun o f i w' => ∃ (wi : World) (l : List ByteArray) (m k : Nat), wi = w' /\ ParSt s l m k /\ f = .int .i64 m /\ i = .int .i64 k /\ m <= 1000000 /\ OwnL cdS w.heap.size wi o l /\ Ext w wi) (fun _ _ i _ => s.size + 1 - (intOf i).toNat)
  case atStart => exact ⟨_, [], 1, 1, rfl, HPO.out, rfl, rfl, by decide, OwnL.nil _ _ _, Below.refl _ _⟩
  case round =>
    obtain ⟨wi, l, m, k, rfl, hst, rfl, rfl, hm, ho, hE⟩ := hrel
    have HST := hQq hst; have HO := hQq ho; have HE := hQq hE
    have k1 := hst.lo; have k2 := hst.hi; have k3 := hst.num
    obtain ⟨a5, cap5, rfl⟩ := ho.form
    clear hst ho hE
    by_cases hlt : k < s.size
    · have hmid := HST.out.mid (by omega)
      have m1 := hmid.1; have m2 := hmid.2.1
      clear hmid
      by_cases hc : s[k]'hlt = 47
      · have HN := hQq (par_piece HST.out hlt hc)
        have q5 : (((s[k]'hlt).toNat : Int) == 47) = true := beq_iff_eq.2 (by rw [hc]; rfl)
        have q6 : (((k : Nat) : Int) == (s.size : Int)) = false := beq_eq_false_iff_ne.2 (by omega)
        clear hc
        generalize hx : s.extract m k = x at HN
        go_wp2_with (at_builtin; refine appL okS rfl (.tmp 33) (.tmp 38) rfl _ _ l [x] w _ rfl rfl (by exact HO.out.ext okS (eA _ _)) (by rw [<- hx]; exact listIn_new okS _ _ _ _ rfl rfl) (by exact HE.out.trans (eA _ _)) (by have := (HE.out.trans (eA wi (.cells #[] 0))).size; simp at this ⊢; omega) (by simp; omega) ?_; intro v5 w5 ha; have HA := hQq ha; clear ha)
        go_roundw
        case rel => exact ⟨_, _, k + 1, k + 1, rfl, HN.out, by go_num, by go_num, by omega, HA.out.own, HA.out.below⟩
        case measure => first | (simp [intOf]; done) | (simp [intOf]; omega)
      · have HN := hQq (par_skip HST.out hlt hc)
        have q5 := (slash_no hc).1
        have q6 : (((k : Nat) : Int) == (s.size : Int)) = false := beq_eq_false_iff_ne.2 (by omega)
        clear hc
        go_wp2
        go_roundw
        case rel => exact ⟨_, l, m, k + 1, rfl, HN.out, rfl, by go_num, hm, HO.out, HE.out⟩
        case measure => first | (simp [intOf]; done) | (simp [intOf]; omega)
    by_cases hq : k = s.size
    · subst hq
      have hmid := HST.out.mid (by omega)
      have m1 := hmid.1; have m2 := hmid.2.1
      clear hmid
      have HN := hQq (par_last HST.out)
      generalize hx : s.extract m s.size = x at HN
      go_wp2_with (at_builtin; refine appL okS rfl (.tmp 33) (.tmp 38) rfl _ _ l [x] w _ rfl rfl (by exact HO.out.ext okS (eA _ _)) (by rw [<- hx]; exact listIn_new okS _ _ _ _ rfl rfl) (by exact HE.out.trans (eA _ _)) (by have := (HE.out.trans (eA wi (.cells #[] 0))).size; simp at this ⊢; omega) (by simp; omega) ?_; intro v5 w5 ha; have HA := hQq ha; clear ha)
      go_roundw
      case rel => exact ⟨_, _, s.size + 1, s.size + 1, rfl, HN.out, by go_num, by go_num, by omega, HA.out.own, HA.out.below⟩
      case measure => first | (simp [intOf]; done) | (simp [intOf]; omega)
    · have HL := hQq (HST.out.fin (by omega))
      have HBD : Hid (∀ x ∈ l, x.size <= longest) := hQq (by rw [<- HL.out]; exact HSB.out)
      have HT2 : Hid (cutsB (L s).tail = l) := hQq (by rw [HTD.out]; exact HL.out)
      by_cases h3 : pathE l = 0
      · have HR := hQq (par_of (par_ok HHH.out HH2.out (by rw [HT2.out]; exact h3)))
        rw [HT2.out] at HR
        have q2 : (pathE l != 0) = false := bne_eq_false_iff_eq.2 h3
        clear h3
        go_wp2_with (go_at_call 147; refine (refPathCheckX _ l _ (HO.out.in okS).strs HBD.out).mono ?_; rintro e w2 ⟨rfl, rfl⟩)
        go_ret2
        exact ⟨⟨_, _, by rw [HR.out.1, HR.out.2]; rfl, by rw [HR.out.1]; exact strIn_of (HO.out.in okS).strs (Nb.own (by exact HO.out.choose_spec.2.2))⟩, HE.out⟩
      · have HR := hQq (par_of (par_bad HHH.out HH2.out (by rw [HT2.out]; exact h3)))
        rw [HT2.out] at HR
        have q2 : (pathE l != 0) = true := bne_iff_ne.2 h3
        clear h3
        go_wp2_with (go_at_call 147; refine (refPathCheckX _ l _ (HO.out.in okS).strs HBD.out).mono ?_; rintro e w2 ⟨rfl, rfl⟩)
        go_ret2
        exact ⟨⟨none, 0, by rw [HR.out.1, HR.out.2]; rfl, by rw [HR.out.1]; exact strIn_nil _ _ _⟩, HE.out⟩
end Go.Proofs.YtnbkcalodmggaaaGreatDoor
