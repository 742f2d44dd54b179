/- Attributes: the check of a name and of one attribute, in the program and in the reference. -/
/- Small facts on rows that a call owns, and on blocks. -/
/- Attributes: the check of a list, in the program and in the reference. -/
import Derived.Test.YtiliglpolcpnbaaGreatDoorQBase
import Derived.Test.YtiliglpolcpnbaaGreatDoorQEsc
import Derived.Lib.AppendStr
import Derived.Deep.QuietTactic
import Derived.BigQuiet
namespace Go.Proofs.YtiliglpolcpnbaaGreatDoor
open Go.RowKit

def badK (c : Int) : Bool := decide (c < 33) || decide (126 < c)
def keyE (l : List UInt8) : Int := if l = [] ∨ l.any (pB badK) = true then 6 else if 40 < l.length then 3 else 0
theorem keyE_bad {l : List UInt8} (h : l.any (pB badK) = true) : keyE l = 6 := by unfold keyE; rw [if_pos (.inr h)]
theorem keyE_nil {l : List UInt8} (h : l = []) : keyE l = 6 := by unfold keyE; rw [if_pos (.inl h)]
theorem keyE_long {l : List UInt8} (h0 : l ≠ []) (h : l.any (pB badK) = false) (hl : 40 < l.length) : keyE l = 3 := by
  unfold keyE; rw [if_neg (by simp [h0, h]), if_pos hl]
theorem keyE_ok {l : List UInt8} (h0 : l ≠ []) (h : l.any (pB badK) = false) (hl : ¬ 40 < l.length) : keyE l = 0 := by
  unfold keyE; rw [if_neg (by simp [h0, h]), if_neg hl]

theorem attrsNameBad (c : Int) (w : World) : Ret Tryz.prog 181 #[.int .i32 c] w (.bool (badK c)) := by
  unfold Ret
  by_cases h1 : c < 33
  · go_enter Tryz.func181, Tryz.ntmps181
    go_wp2
    go_ret
    exact ⟨by simp [badK, h1], rfl⟩
  · have h3 : decide (126 < c) = badK c := by rw [Bool.eq_iff_iff]; simp [badK]; omega
    have h4 : decide (c < 33) = false := decide_eq_false h1
    rw [← h3]
    clear h3
    by_cases h2 : 126 < c
    · go_enter Tryz.func181, Tryz.ntmps181
      go_wp2
      go_ret
      exact ⟨by simp, rfl⟩
    · go_enter Tryz.func181, Tryz.ntmps181
      go_wp2
      go_ret
      exact ⟨by simp [h2], rfl⟩
theorem badKFn : PredFn 181 badK where
  enter := by intro a w; kernel_rfl
  ret := attrsNameBad
  high := by intro c h; simp [badK]; omega

theorem attrsName (s : ByteArray) (w : World) (hs : s.size ≤ 1000000) : RetB Tryz.prog 158 #[.string s] w (.int .i64 (keyE (L s))) := by
  unfold RetB
  by_cases h0 : L s = []
  · rw [keyE_nil h0]
    have h1 : s.toList.isEmpty = true := by rw [toList_L, h0]; rfl
    clear h0
    go_enter Tryz.func158, Tryz.ntmps158
    go_wp2
    go_ret
    exact ⟨rfl, Below.refl _ _⟩
  have h1 : s.toList.isEmpty = false := by rw [toList_L]; simpa using h0
  cases hb : (L s).any (pB badK)
  · by_cases hl : 40 < s.size
    · rw [keyE_long h0 hb (by rw [← size_L]; exact hl)]
      clear h0
      go_enter Tryz.func158, Tryz.ntmps158
      go_wp2_with (go_at_call 167; refine (strContainsFunc _ _ badKFn s w).mono ?_; rintro e w' ⟨rfl, hx⟩)
      go_ret
      exact ⟨rfl, hx⟩
    · rw [keyE_ok h0 hb (by rw [← size_L]; exact hl)]
      clear h0
      go_enter Tryz.func158, Tryz.ntmps158
      go_wp2_with (go_at_call 167; refine (strContainsFunc _ _ badKFn s w).mono ?_; rintro e w' ⟨rfl, hx⟩)
      go_ret
      exact ⟨rfl, hx⟩
  · rw [keyE_bad hb]
    clear h0
    go_enter Tryz.func158, Tryz.ntmps158
    go_wp2_with (go_at_call 167; refine (strContainsFunc _ _ badKFn s w).mono ?_; rintro e w' ⟨rfl, hx⟩)
    go_ret
    exact ⟨rfl, hx⟩

theorem badByteK (b : UInt8) : pB badK b = (decide ((b.toNat : Int) < 33) || decide (126 < (b.toNat : Int))) := rfl
theorem refKey (s : ByteArray) (w : World) (hs : s.size ≤ 1000000) : Ret Tryz.prog 135 #[.string s] w (.int .i64 (keyE (L s))) := by
  unfold Ret
  go_enter Tryz.func135, Tryz.ntmps135
  go_wp2
  go_loop [3] (fun i => ∃ k : Nat, k ≤ s.size ∧ i = .int .i64 k ∧ ((L s).take k).any (pB badK) = false) (fun i => s.size - (intOf i).toNat)
  case atStart => exact ⟨0, Nat.zero_le _, rfl, by simp⟩
  case round =>
    obtain ⟨k, hk, rfl, hb⟩ := hrel
    have HB := Lib.hid hb; clear hb
    by_cases hlt : k < s.size
    · cases hb : pB badK (s[k]'hlt)
      · have HN2 := Lib.hid (any_take_succ badK s k hlt HB.out hb); clear HB
        rw [badByteK] at hb
        simp only [Bool.or_eq_false_iff, decide_eq_false_iff_not] at hb
        obtain ⟨ha, hb⟩ := hb
        go_wp2
        go_round
        case rel => exact ⟨k + 1, by omega, by go_num, HN2.out⟩
        case measure => simp [intOf]; omega
      · have HN2 := Lib.hid (keyE_bad (List.any_eq_true.2 ⟨s[k]'hlt, by rw [getElem_L]; exact List.getElem_mem _, hb⟩))
        clear HB
        rw [badByteK] at hb
        simp only [Bool.or_eq_true, decide_eq_true_eq] at hb
        by_cases ha : (s[k].toNat : Int) < 33
        · clear hb
          go_wp2
          go_ret
          exact ⟨by rw [HN2.out]; rfl, rfl⟩
        · have hd : 126 < (s[k].toNat : Int) := by simpa [ha] using hb
          clear hb
          go_wp2
          go_ret
          exact ⟨by rw [HN2.out]; rfl, rfl⟩
    · have hb := HB.out
      rw [List.take_of_length_le (by rw [← size_L]; omega)] at hb
      by_cases h0 : L s = []
      · have HN2 := Lib.hid (keyE_nil h0)
        have h1 : s.toList.isEmpty = true := by rw [toList_L, h0]; rfl
        clear hb HB h0
        go_wp2
        go_ret
        exact ⟨by rw [HN2.out]; rfl, rfl⟩
      have h1 : s.toList.isEmpty = false := by rw [toList_L]; simpa using h0
      by_cases hl : 40 < s.size
      · have HN2 := Lib.hid (keyE_long h0 hb (by rw [← size_L]; exact hl))
        clear hb HB h0
        go_wp2
        go_ret
        exact ⟨by rw [HN2.out]; rfl, rfl⟩
      · have HN2 := Lib.hid (keyE_ok h0 hb (by rw [← size_L]; exact hl))
        clear hb HB h0
        go_wp2
        go_ret
        exact ⟨by rw [HN2.out]; rfl, rfl⟩

/-- The error of one attribute. -/
def aloneE (a : Attr) : Int := if keyE (L a.1) ≠ 0 then keyE (L a.1) else if 200 < a.2.size then 3 else 0
theorem attrsAlone (a : Attr) (w : World) (hs : a.1.size ≤ 1000000) : RetB Tryz.prog 122 #[.agg #[.string a.1, .string a.2]] w (.int .i64 (aloneE a)) := by
  unfold RetB
  by_cases h : keyE (L a.1) = 0
  · by_cases hl : 200 < a.2.size
    · rw [show aloneE a = 3 by unfold aloneE; rw [if_neg (by simpa using h), if_pos hl]]
      go_enter Tryz.func122, Tryz.ntmps122
      go_wp2_with (go_at_call 158; refine (attrsName _ _ hs).mono ?_; rintro e w' ⟨rfl, hb⟩; obtain ⟨hc, hf⟩ := bcell hb)
      go_ret
      exact ⟨rfl, (ext_alloc _ _).trans hb⟩
    · rw [show aloneE a = 0 by unfold aloneE; rw [if_neg (by simpa using h), if_neg hl]]
      go_enter Tryz.func122, Tryz.ntmps122
      go_wp2_with (go_at_call 158; refine (attrsName _ _ hs).mono ?_; rintro e w' ⟨rfl, hb⟩; obtain ⟨hc, hf⟩ := bcell hb)
      go_ret
      exact ⟨rfl, (ext_alloc _ _).trans hb⟩
  · rw [show aloneE a = keyE (L a.1) by unfold aloneE; rw [if_pos h]]
    have h1 : (keyE (L a.1) != 0) = true := bne_iff_ne.2 h
    clear h
    go_enter Tryz.func122, Tryz.ntmps122
    go_wp2_with (go_at_call 158; refine (attrsName _ _ hs).mono ?_; rintro e w' ⟨rfl, hb⟩; obtain ⟨hc, hf⟩ := bcell hb)
    go_ret
    exact ⟨rfl, (ext_alloc _ _).trans hb⟩
theorem refAlone (a : Attr) (w : World) (hs : a.1.size ≤ 1000000) : RetB Tryz.prog 99 #[.agg #[.string a.1, .string a.2]] w (.int .i64 (aloneE a)) := by
  unfold RetB
  by_cases h : keyE (L a.1) = 0
  · by_cases hl : 200 < a.2.size
    · rw [show aloneE a = 3 by unfold aloneE; rw [if_neg (by simpa using h), if_pos hl]]
      go_enter Tryz.func99, Tryz.ntmps99
      go_wp2_with (go_at_call 135; refine (refKey _ _ hs).mono ?_; rintro e w' ⟨rfl, rfl⟩)
      go_ret
      exact ⟨rfl, ext_alloc _ _⟩
    · rw [show aloneE a = 0 by unfold aloneE; rw [if_neg (by simpa using h), if_neg hl]]
      go_enter Tryz.func99, Tryz.ntmps99
      go_wp2_with (go_at_call 135; refine (refKey _ _ hs).mono ?_; rintro e w' ⟨rfl, rfl⟩)
      go_ret
      exact ⟨rfl, ext_alloc _ _⟩
  · rw [show aloneE a = keyE (L a.1) by unfold aloneE; rw [if_pos h]]
    have h1 : (keyE (L a.1) == 0) = false := beq_eq_false_iff_ne.2 h
    clear h
    go_enter Tryz.func99, Tryz.ntmps99
    go_wp2_with (go_at_call 135; refine (refKey _ _ hs).mono ?_; rintro e w' ⟨rfl, rfl⟩)
    go_ret
    exact ⟨rfl, ext_alloc _ _⟩

/-- cmp.Compare of strings. -/
def cmpS (a b : List UInt8) : Int := if a < b then -1 else if b < a then 1 else 0
theorem cmpNaN (s : ByteArray) (w : World) : Ret Tryz.prog 175 #[.string s] w (.bool false) := by
  unfold Ret
  go_enter Tryz.func175, Tryz.ntmps175
  go_wp2
  go_ret
  exact ⟨by simp, rfl⟩
theorem bytesLess_eq : ∀ (x y : List UInt8), Op.bytesLess x y = decide (x < y)
  | _, [] => by simp [Op.bytesLess]
  | [], _ :: _ => by simp [Op.bytesLess]
  | a :: x, b :: y => by
    simp only [Op.bytesLess, bytesLess_eq x y, List.cons_lt_cons_iff]
    rw [Bool.eq_iff_iff]; simp
theorem bl_true {a b : ByteArray} (h : L a < L b) : Op.bytesLess a.toList b.toList = true := by rw [bytesLess_eq, toList_L, toList_L]; exact decide_eq_true h
theorem bl_false {a b : ByteArray} (h : ¬ L a < L b) : Op.bytesLess a.toList b.toList = false := by rw [bytesLess_eq, toList_L, toList_L]; exact decide_eq_false h
theorem cmpCompare (a b : ByteArray) (w : World) : Ret Tryz.prog 153 #[.string a, .string b] w (.int .i64 (cmpS (L a) (L b))) := by
  unfold Ret
  by_cases h : L a < L b
  · rw [show cmpS (L a) (L b) = -1 from if_pos h]
    have e1 := bl_true h
    clear h
    go_enter Tryz.func153, Tryz.ntmps153
    go_wp2_with (go_at_call 175; refine (cmpNaN _ _).mono ?_; rintro e w' ⟨rfl, rfl⟩)
    go_ret
    exact ⟨rfl, rfl⟩
  · have e1 := bl_false h
    by_cases h2 : L b < L a
    · rw [show cmpS (L a) (L b) = 1 from (if_neg h).trans (if_pos h2)]
      have e2 : (a.toList == b.toList) = false := by
        rw [toList_L, toList_L]; rw [beq_eq_false_iff_ne]; intro e; rw [e] at h2; exact absurd h2 (List.lt_irrefl _)
      clear h h2
      go_enter Tryz.func153, Tryz.ntmps153
      go_wp2_with (go_at_call 175; refine (cmpNaN _ _).mono ?_; rintro e w' ⟨rfl, rfl⟩)
      go_ret
      exact ⟨rfl, rfl⟩
    · rw [show cmpS (L a) (L b) = 0 from (if_neg h).trans (if_neg h2)]
      have e2 : (a.toList == b.toList) = true := by
        rw [toList_L, toList_L]; rw [beq_iff_eq]
        rcases Std.lt_trichotomy (L a) (L b) with x | x | x
        · exact absurd x h
        · exact x
        · exact absurd x h2
      clear h h2
      go_enter Tryz.func153, Tryz.ntmps153
      go_wp2_with (go_at_call 175; refine (cmpNaN _ _).mono ?_; rintro e w' ⟨rfl, rfl⟩)
      go_ret
      exact ⟨rfl, rfl⟩
theorem cmpS_zero {a b : List UInt8} : cmpS a b = 0 ↔ a = b := by
  unfold cmpS
  constructor
  · intro h
    split at h
    · cases h
    · split at h
      · cases h
      · rename_i h1 h2
        rcases Std.lt_trichotomy a b with x | x | x
        · exact absurd x h1
        · exact x
        · exact absurd x h2
  · rintro rfl; rw [if_neg (List.lt_irrefl _), if_neg (List.lt_irrefl _)]
theorem cmpS_one {a b : List UInt8} : cmpS a b = 1 ↔ b < a := by
  unfold cmpS
  constructor
  · intro h
    split at h
    · cases h
    · split at h
      · assumption
      · cases h
  · intro h; rw [if_neg (fun x => List.lt_irrefl _ (List.lt_trans x h)), if_pos h]
end Go.Proofs.YtiliglpolcpnbaaGreatDoor

namespace Go.Proofs.YtiliglpolcpnbaaGreatDoor
open Go.RowKit

theorem own_ne {w : World} {base e size n : Nat} {v : Value} {xs : List Value} (h : w.ownsRow base e size v n xs) {b : Nat} {c : Array Value} {t : TypeId} {f : Nat × Nat}
    (hb : w.heap[b]? = some (.cells c t f)) (ht : t ≠ e) : v.ownBlock ≠ some b := by
  rcases h.2 with ⟨rfl, _⟩ | ⟨g, cap, cur, rfl, _, hg, _⟩
  · intro x; cases x
  · intro x
    simp only [Value.ownBlock, Option.some.injEq] at x
    subst x
    rw [hb] at hg; cases hg; exact ht rfl
theorem own_ne_new {w : World} {base e size n : Nat} {v : Value} {xs : List Value} (h : w.ownsRow base e size v n xs) : v.ownBlock ≠ some w.heap.size :=
  fun x => Nat.lt_irrefl _ (h.lt _ x).2
theorem blk_grown {w w' : World} {row : Option Nat} (hg : w.grownBy w' row) {b : Nat} {o : Obj} (hb : w.heap[b]? = some o) (hne : row ≠ some b) : w'.heap[b]? = some o := by
  have hl : b < w.heap.size := by
    rcases Nat.lt_or_ge b w.heap.size with h | h
    · exact h
    · rw [Array.getElem?_eq_none h] at hb; cases hb
  rw [hg.block b hl (fun e => hne e.symm)]; exact hb
theorem blk_alloc {w : World} {b : Nat} {o x : Obj} (hb : w.heap[b]? = some o) : (w.alloc x).heap[b]? = some o := by
  have hl : b < w.heap.size := by
    rcases Nat.lt_or_ge b w.heap.size with h | h
    · exact h
    · rw [Array.getElem?_eq_none h] at hb; cases hb
  rw [Below.heap_alloc _ _ _ hl]; exact hb
theorem blk_new (w : World) (o : Obj) : (w.alloc o).heap[w.heap.size]? = some o := by
  show (w.heap.push o)[w.heap.size]? = _; simp
theorem blk_lt {w : World} {b : Nat} {o : Obj} (hb : w.heap[b]? = some o) : b < w.heap.size := by
  rcases Nat.lt_or_ge b w.heap.size with h | h
  · exact h
  · rw [Array.getElem?_eq_none h] at hb; cases hb
theorem blk_cell {w : World} {b : Nat} {c : Array Value} {t : TypeId} {f : Nat × Nat} (hb : w.heap[b]? = some (.cells c t f)) (o : Nat) : w.cell? ⟨b, o, none⟩ = c[o]? := by
  simp [World.cell?, hb]
theorem blk_ext {w w' : World} (h : Ext w w') {b : Nat} {o : Obj} (hb : w.heap[b]? = some o) : w'.heap[b]? = some o := by
  rw [h.block b (blk_lt hb)]; exact hb
theorem below_grown {B : Nat} {W w w' : World} {base e size n : Nat} {v : Value} {xs : List Value} (hb : Below B W w) (ho : w.ownsRow base e size v n xs) (hbase : B ≤ base) (hB : B ≤ w.heap.size) (hg : w.grownBy w' v.ownBlock) : Below B W w' :=
  hb.grown hg hB (fun k hk => Nat.le_trans hbase (ho.lt k hk).1)

/-- A slice type, its element's type, the element's cells, bytes and zero value. -/
structure SlT (P : Program) (t e size bytes : Nat) (z : Value) : Prop where
  und : P.underlying t = some (.slice e)
  info : ∃ i, P.info? e = some i ∧ i.zero = some z ∧ i.size = size ∧ i.bytes = bytes
  zs : z.cells.size = size
  pos : 0 < size
  small : bytes ≤ 1000
/-- Everything that was there, but for one row, is there. -/
def KeepBut (row : Option Nat) (w w' : World) : Prop := ∀ b o, w.heap[b]? = some o → row ≠ some b → w'.heap[b]? = some o

section
variable {P : Program}
/-- 'v = append(v, x)': the new element lies in a block that the statement has just laid. -/
theorem app1 {ops : Array Oper} {rest : List Oper} {o : Oper} {a : Act} {Q : Exit → Act → World → Prop} (hgd : o.guard = none) (s x : Operand) (t : TypeId)
    (ho : o.op = .call { callee := .builtin .append, args := #[s, x], argTypes := #[t, t] })
    (B e size bytes : Nat) (z : Value) (hT : SlT P t e size bytes z) (v : Value) (n : Nat) (xs : List Value) (hs : a.eval s = v) (W0 w0 : World) (news : Array Value)
    (hown : w0.ownsRow B e size v n xs) (hb : Below B W0 w0) (hB : B ≤ w0.heap.size)
    (g : Nat) (hx : a.eval x = .slice (some ⟨g, 0, none⟩) 1 1) (hg : g = w0.heap.size) (hl : news.size = size) (h1 : ∀ u ∈ news.toList, u.oneCell' = true) (hn : n ≤ 100000000)
    (h : ∀ v' w', w'.ownsRow B e size v' (n + 1) (xs ++ news.toList) → Below B W0 w' → KeepBut v.ownBlock w0 w' → wpList P ops Q rest (a.put o.dst v') w') :
    wpList P ops Q (o :: rest) a (w0.alloc (.cells news e)) := by
  subst hg
  obtain ⟨i, hi, hz, h3, h4⟩ := hT.info
  have hs2 := hT.small
  refine wpList_append_own _ hgd s x t ho B e i z size bytes hT.und hi hz h3 h4 hT.zs hT.pos v n xs hs (hown.alloc _) ⟨w0.heap.size, 0, none⟩ 1 1 news.toList hx (by simp [hl]) ?_ h1 (by unfold maxLen; omega) ?_ (by simp; omega) ?_
  · intro j u hj
    have hc := blk_cell (blk_new w0 (.cells news e))
    by_cases hj0 : j = 0
    · subst hj0; simp only [Addr.add, if_true]; rw [hc]; simpa using hj
    · simp only [Addr.add, if_neg hj0]; rw [hc]; simpa using hj
  · have : (n + 1) * bytes ≤ 100000001 * 1000 := Nat.mul_le_mul (by omega) hs2
    omega
  · intro v' w' h5 h6 _
    refine h v' w' h5 (below_grown (hb.alloc hB _) (hown.alloc _) (Nat.le_refl _) (by simp; omega) h6) ?_
    intro b ob hbk hne
    exact blk_grown h6 (blk_alloc hbk) hne
/-- 'v = append(v, s...)', s a string. -/
theorem appS {ops : Array Oper} {rest : List Oper} {o : Oper} {a : Act} {Q : Exit → Act → World → Prop} (hgd : o.guard = none) (sl x : Operand) (t u : TypeId)
    (ho : o.op = .call { callee := .builtin .append, args := #[sl, x], argTypes := #[t, u] })
    (B e : Nat) (hT : SlT P t e 1 1 (.int .u8 0)) (hu : P.underlying u = some .string) (v : Value) (n : Nat) (xs : List Value) (hs : a.eval sl = v) (W0 w0 : World) (s : ByteArray)
    (hown : w0.ownsRow B e 1 v n xs) (hb : Below B W0 w0) (hB : B ≤ w0.heap.size) (hx : a.eval x = .string s) (hn : n + s.size ≤ 100000000)
    (h : ∀ v' w', w'.ownsRow B e 1 v' (n + s.size) (xs ++ Lib.strCells s) → Below B W0 w' → KeepBut v.ownBlock w0 w' → wpList P ops Q rest (a.put o.dst v') w') :
    wpList P ops Q (o :: rest) a w0 := by
  obtain ⟨i, hi, hz, h3, h4⟩ := hT.info
  refine Lib.wpList_append_own_string _ hgd sl x t u ho B e i hT.und hu hi hz h3 h4 v n xs hs hown s hx (by unfold maxLen; omega) (by omega) hB ?_
  intro v' w' h5 h6 _
  refine h v' w' h5 (below_grown hb hown (Nat.le_refl _) hB h6) ?_
  intro b ob hbk hne
  exact blk_grown h6 hbk hne
end

theorem slU8 : SlT Tryz.prog 92 5 1 1 (.int .u8 0) where
  und := Tryz.underlying92
  info := info_parts (by kernel_rfl)
  zs := rfl
  pos := by decide
  small := by decide
/-- How many bytes attributes are, written. -/
def sizeA : List Attr → Nat
  | [] => 0
  | a :: r => 2 + a.1.size + a.2.size + sizeA r
theorem sizeA_append (l m : List Attr) : sizeA (l ++ m) = sizeA l + sizeA m := by
  induction l with
  | nil => simp [sizeA]
  | cons a r ih => simp [sizeA, ih]; omega
theorem sizeA_take (l : List Attr) (k : Nat) (h : k < l.length) : sizeA (l.take (k + 1)) = sizeA (l.take k) + (2 + (l[k]'h).1.size + (l[k]'h).2.size) := by
  rw [List.take_succ_eq_append_getElem h, sizeA_append]; simp [sizeA]
theorem sizeA_le (l : List Attr) (M : Nat) (h : ∀ a ∈ l, a.1.size ≤ M ∧ a.2.size ≤ M) : sizeA l ≤ l.length * (2 + 2 * M) := by
  induction l with
  | nil => simp [sizeA]
  | cons a r ih =>
    have h1 := h a (by simp); have h2 := ih (fun x hx => h x (by simp [hx]))
    simp only [sizeA, List.length_cons, Nat.add_mul, Nat.one_mul]; omega

/-- The row of a slice that the call owns. -/
def OwnsN (B e size : Nat) (v : Value) (n : Nat) (w : World) : Prop := ∃ xs, w.ownsRow B e size v n xs
/-- A slice of so many elements. -/
def LenIs (n : Nat) (e : Ending) : Prop := ∃ a cap, e = .returned (.slice a n cap)

set_option maxHeartbeats 1000000 in

set_option maxRecDepth 100000 in
theorem attrsBytes (v : Value) (l : List Attr) (w : World) (hv : AttrsAt w v l) (hl : l.length ≤ 10) (hm : ∀ a ∈ l, a.1.size ≤ 1000000 ∧ a.2.size ≤ 1000000) :
    Calls Tryz.prog 159 #[v] w fun e w' => LenIs (sizeA l) e ∧ Below w.heap.size w w' := by
  have hmax := sizeA_le l 1000000 hm
  have hmax : sizeA l ≤ 30000000 := Nat.le_trans hmax (Nat.le_trans (Nat.mul_le_mul hl (Nat.le_refl _)) (by decide))
  have HM := Lib.hid hm; clear hm
  obtain ⟨a, cap, rfl, hcap, hc⟩ := hv
  have HC := Lib.hid hc; clear hc
  go_enter Tryz.func159, Tryz.ntmps159
  go_wp2
  go_loopw [3, 8] (fun b i w' => ∃ k : Nat, k ≤ l.length ∧ i = .int .i64 k ∧ OwnsN w.heap.size 5 1 b (sizeA (l.take k)) w' ∧ Below w.heap.size w w') (fun _ i _ => l.length - (intOf i).toNat)
  case atStart => exact ⟨0, Nat.zero_le _, rfl, ⟨[], World.ownsRow_nil _ _ _ _⟩, Below.refl _ _⟩
  case round =>
    rename_i wr
    obtain ⟨k, hk, rfl, ⟨xs, hown⟩, hb⟩ := hrel
    by_cases hlt : k < l.length
    · obtain ⟨bb, off, rfl, hbs, c1, c2⟩ := HC.out k hlt
      obtain ⟨m1, m2⟩ := HM.out _ (List.getElem_mem hlt)
      have HS := Lib.hid (sizeA_take l k hlt)
      replace c1 := (ext_cell hb hbs).trans c1
      replace c2 := (ext_cell hb hbs).trans c2
      generalize l[k]'hlt = x at c1 c2 m1 m2 HS
      obtain ⟨xn, xv⟩ := x
      simp only at c1 c2 m1 m2 HS
      have hle : sizeA (l.take k) ≤ 30000000 := by
        have := sizeA_append (l.take k) (l.drop k); rw [List.take_append_drop] at this; omega
      clear HC HM
      have hsz := hb.size
      have HB := Lib.hid hb; clear hb
      have HO := Lib.hid hown; clear hown
      go_wp2_with (first
        | (at_builtin; refine app1 rfl (.tmp 12) (.tmp 17) 92 rfl w.heap.size 5 1 1 (.int .u8 0) slU8 u3 (sizeA (l.take k)) xs rfl w (wr.alloc (.cells #[.string xn, .string xv] 50)) #[.int .u8 ((xn.size : Int) % 256)] (HO.out.alloc _) (HB.out.alloc hsz _) (Nat.le_trans hsz (ext_alloc _ _).size) (wr.heap.size + 1) rfl (by simp) rfl (by intro u hu; simp at hu; subst hu; rfl) (by omega) ?_; intro v1 w1 ho1 hb1 hk1; have hx1 := hk1 _ _ (blk_new wr _) (own_ne_new HO.out); have d1 : w1.cell? ⟨wr.heap.size, 0, none⟩ = some (.string xn) := blk_cell hx1 0; have d2 : w1.cell? ⟨wr.heap.size, 1, none⟩ = some (.string xv) := blk_cell hx1 1; have X1 := Lib.hid hx1; clear hx1; have O1 := Lib.hid ho1; clear ho1; have B1 := Lib.hid hb1; clear hb1 hk1)
        | (at_builtin; refine appS rfl (.tmp 19) (.tmp 21) 92 9 rfl w.heap.size 5 slU8 Tryz.underlying9 v1 _ _ rfl w _ xn O1.out B1.out B1.out.size rfl (by omega) ?_; intro v2 w2 ho2 hb2 hk2; have hx2 := hk2 _ _ X1.out (own_ne O1.out X1.out (by decide)); have d3 : w2.cell? ⟨wr.heap.size, 0, none⟩ = some (.string xn) := blk_cell hx2 0; have d4 : w2.cell? ⟨wr.heap.size, 1, none⟩ = some (.string xv) := blk_cell hx2 1; have X2 := Lib.hid hx2; clear hx2; have O2 := Lib.hid ho2; clear ho2; have B2 := Lib.hid hb2; clear hb2 hk2)
        | (at_builtin; refine app1 rfl (.tmp 23) (.tmp 28) 92 rfl w.heap.size 5 1 1 (.int .u8 0) slU8 v2 _ _ rfl w w2 #[.int .u8 ((xv.size : Int) % 256)] O2.out B2.out B2.out.size w2.heap.size rfl rfl rfl (by intro u hu; simp at hu; subst hu; rfl) (by omega) ?_; intro v3 w3 ho3 hb3 hk3; have hx3 := hk3 _ _ X2.out (own_ne O2.out X2.out (by decide)); have d5 : w3.cell? ⟨wr.heap.size, 0, none⟩ = some (.string xn) := blk_cell hx3 0; have d6 : w3.cell? ⟨wr.heap.size, 1, none⟩ = some (.string xv) := blk_cell hx3 1; have O3 := Lib.hid ho3; clear ho3; have B3 := Lib.hid hb3; clear hb3 hk3 hx3)
        | (at_builtin; refine appS rfl (.tmp 30) (.tmp 32) 92 9 rfl w.heap.size 5 slU8 Tryz.underlying9 v3 _ _ rfl w _ xv O3.out B3.out B3.out.size rfl (by omega) ?_; intro v4 w4 ho4 hb4 hk4; have O4 := Lib.hid ho4; clear ho4; have B4 := Lib.hid hb4; clear hb4 hk4))
      go_roundw
      case rel => exact ⟨k + 1, by omega, by go_num, ⟨_, by rw [HS.out, show sizeA (l.take k) + (2 + xn.size + xv.size) = sizeA (l.take k) + 1 + xn.size + 1 + xv.size by omega]; exact O4.out⟩, B4.out⟩
      case measure => simp [intOf]; omega
    · have HN : Hid (sizeA (l.take k) = sizeA l) := by rw [List.take_of_length_le (by omega)]; exact rfl
      have HB := Lib.hid hb; clear hb
      have HO := Lib.hid hown; clear hown
      go_wp2
      go_ret
      refine ⟨?_, HB.out⟩
      rcases HO.out.2 with ⟨h1, h2⟩ | ⟨g, cap, cur, h1, _⟩
      · subst h1; exact ⟨none, 0, by rw [← HN.out, h2]; rfl⟩
      · subst h1; exact ⟨_, _, by rw [← HN.out]; rfl⟩
end Go.Proofs.YtiliglpolcpnbaaGreatDoor

namespace Go.Proofs.YtiliglpolcpnbaaGreatDoor
open Go.RowKit

/-- The error of the first attribute that has one. -/
def firstE : List Attr → Int
  | [] => 0
  | a :: r => if aloneE a ≠ 0 then aloneE a else firstE r
theorem firstE_append (l m : List Attr) (h : firstE l = 0) : firstE (l ++ m) = firstE m := by
  induction l with
  | nil => rfl
  | cons a r ih =>
    unfold firstE at h
    by_cases ha : aloneE a ≠ 0
    · rw [if_pos ha] at h; exact absurd h ha
    · rw [if_neg ha] at h; show (if aloneE a ≠ 0 then aloneE a else firstE (r ++ m)) = firstE m; rw [if_neg ha]; exact ih h
theorem firstE_step (l : List Attr) (k : Nat) (h : k < l.length) (h0 : firstE (l.take k) = 0) (ha : aloneE (l[k]'h) = 0) : firstE (l.take (k + 1)) = 0 := by
  rw [List.take_succ_eq_append_getElem h, firstE_append _ _ h0]; unfold firstE; rw [if_neg (by simpa using ha)]; rfl
theorem firstE_hit (l : List Attr) (k : Nat) (h : k < l.length) (h0 : firstE (l.take k) = 0) (ha : aloneE (l[k]'h) ≠ 0) : firstE l = aloneE (l[k]'h) := by
  have e : l = l.take k ++ l[k]'h :: l.drop (k + 1) := by simp
  have : firstE (l.take k ++ l[k]'h :: l.drop (k + 1)) = aloneE (l[k]'h) := by
    rw [firstE_append _ _ h0]; show (if aloneE (l[k]'h) ≠ 0 then aloneE (l[k]'h) else firstE (l.drop (k + 1))) = _; rw [if_pos ha]
  rw [← e] at this; exact this

/-- The name at a place. -/
def nmA (l : List Attr) (i : Nat) : List UInt8 := L (l.getD i (⟨#[]⟩, ⟨#[]⟩)).1
theorem nmA_at (l : List Attr) (i : Nat) (h : i < l.length) : nmA l i = L (l[i]'h).1 := by unfold nmA; simp [List.getD, h]
def dupB (l : List Attr) : Bool := (List.range l.length).any fun i => (List.range i).any fun j => nmA l j == nmA l i
def descB (l : List Attr) : Bool := (List.range l.length).any fun i => (List.range i).any fun j => decide (nmA l i < nmA l j)
theorem dupB_iff {l : List Attr} : dupB l = true ↔ ∃ i j, j < i ∧ i < l.length ∧ nmA l j = nmA l i := by
  unfold dupB; simp only [List.any_eq_true, List.mem_range, beq_iff_eq]
  exact ⟨fun ⟨i, hi, j, hj, h⟩ => ⟨i, j, hj, hi, h⟩, fun ⟨i, j, hj, hi, h⟩ => ⟨i, hi, j, hj, h⟩⟩
theorem descB_iff {l : List Attr} : descB l = true ↔ ∃ i j, j < i ∧ i < l.length ∧ nmA l i < nmA l j := by
  unfold descB; simp only [List.any_eq_true, List.mem_range, decide_eq_true_eq]
  exact ⟨fun ⟨i, hi, j, hj, h⟩ => ⟨i, j, hj, hi, h⟩, fun ⟨i, j, hj, hi, h⟩ => ⟨i, hi, j, hj, h⟩⟩

/-- The error of a list of attributes. -/
def chkE (l : List Attr) : Int := if 6 < l.length then 3 else if firstE l ≠ 0 then firstE l else if dupB l = true then 8 else if descB l = true then 6 else if 288 < sizeA l then 5 else 0

def Seen (k m i j : Nat) : Prop := j < i ∧ (i < k ∨ i = k ∧ j < m)
/-- What the double loop knows. -/
def OrdSt (l : List Attr) (k m : Nat) (o : Int) : Prop :=
  (∀ i j, Seen k m i j → nmA l j ≠ nmA l i) ∧ ((o = 0 ∧ ∀ i j, Seen k m i j → ¬ nmA l i < nmA l j) ∨ (o = 6 ∧ ∃ i j, Seen k m i j ∧ nmA l i < nmA l j))
theorem OrdSt.start (l : List Attr) : OrdSt l 0 0 0 := ⟨fun i j h => by obtain ⟨_, h | h⟩ := h <;> omega, .inl ⟨rfl, fun i j h => by obtain ⟨_, h | h⟩ := h <;> omega⟩⟩
theorem OrdSt.up {l : List Attr} {k : Nat} {o : Int} (h : OrdSt l k k o) : OrdSt l (k + 1) 0 o := by
  have e : ∀ i j, Seen (k + 1) 0 i j ↔ Seen k k i j := fun i j => by unfold Seen; omega
  unfold OrdSt at h ⊢; simpa only [e] using h
theorem seen_succ {k m i j : Nat} (hm : m < k) : Seen k (m + 1) i j ↔ Seen k m i j ∨ (i = k ∧ j = m) := by unfold Seen; omega
theorem OrdSt.lt {l : List Attr} {k m : Nat} {o : Int} (h : OrdSt l k m o) (hm : m < k) (h0 : cmpS (nmA l m) (nmA l k) ≠ 0) (h1 : cmpS (nmA l m) (nmA l k) ≠ 1) : OrdSt l k (m + 1) o := by
  have d : nmA l m ≠ nmA l k := fun e => h0 (cmpS_zero.2 e)
  have g : ¬ nmA l k < nmA l m := fun e => h1 (cmpS_one.2 e)
  refine ⟨fun i j hs => ?_, ?_⟩
  · rcases (seen_succ hm).1 hs with hs | ⟨rfl, rfl⟩
    · exact h.1 i j hs
    · exact d
  · rcases h.2 with ⟨ho, hn⟩ | ⟨ho, i, j, hs, hl⟩
    · refine .inl ⟨ho, fun i j hs => ?_⟩
      rcases (seen_succ hm).1 hs with hs | ⟨rfl, rfl⟩
      · exact hn i j hs
      · exact g
    · exact .inr ⟨ho, i, j, (seen_succ hm).2 (.inl hs), hl⟩
theorem OrdSt.gt {l : List Attr} {k m : Nat} {o : Int} (h : OrdSt l k m o) (hm : m < k) (h1 : cmpS (nmA l m) (nmA l k) = 1) : OrdSt l k (m + 1) 6 := by
  have d : nmA l m ≠ nmA l k := fun e => by rw [cmpS_zero.2 e] at h1; cases h1
  refine ⟨fun i j hs => ?_, .inr ⟨rfl, k, m, (seen_succ hm).2 (.inr ⟨rfl, rfl⟩), cmpS_one.1 h1⟩⟩
  rcases (seen_succ hm).1 hs with hs | ⟨rfl, rfl⟩
  · exact h.1 i j hs
  · exact d
theorem chk_long {l : List Attr} (h : 6 < l.length) : chkE l = 3 := by unfold chkE; rw [if_pos h]
theorem chk_first {l : List Attr} (h : ¬ 6 < l.length) (h1 : firstE l ≠ 0) : chkE l = firstE l := by unfold chkE; rw [if_neg h, if_pos h1]
theorem chk_dup {l : List Attr} (h : ¬ 6 < l.length) (h1 : firstE l = 0) {i j : Nat} (hj : j < i) (hi : i < l.length) (he : nmA l j = nmA l i) : chkE l = 8 := by
  unfold chkE; rw [if_neg h, if_neg (by simpa using h1), if_pos (dupB_iff.2 ⟨i, j, hj, hi, he⟩)]
theorem chk_end {l : List Attr} (h : ¬ 6 < l.length) (h1 : firstE l = 0) {o : Int} (ho : OrdSt l l.length 0 o) : chkE l = if o = 0 then (if 288 < sizeA l then 5 else 0) else 6 := by
  have hd : ¬ dupB l = true := by
    rw [dupB_iff]; rintro ⟨i, j, hj, hi, he⟩; exact ho.1 i j ⟨hj, .inl hi⟩ he
  unfold chkE; rw [if_neg h, if_neg (by simpa using h1), if_neg hd]
  rcases ho.2 with ⟨ho, hn⟩ | ⟨ho, i, j, hs, hl⟩
  · rw [if_neg (by rw [descB_iff]; rintro ⟨i, j, hj, hi, he⟩; exact hn i j ⟨hj, .inl hi⟩ he), if_pos ho]
  · rw [if_pos (descB_iff.2 ⟨i, j, hs.1, by obtain ⟨_, x | x⟩ := hs <;> omega, hl⟩), if_neg (by rw [ho]; decide)]

theorem attrsFit (v : Value) (l : List Attr) (w : World) (hv : AttrsAt w v l) (hl : l.length ≤ 6) (hm : ∀ a ∈ l, a.1.size ≤ 1000000 ∧ a.2.size ≤ 1000000) :
    RetB Tryz.prog 123 #[v] w (.tuple (if 288 < sizeA l then #[.slice none 0 0, .int .i64 5] else #[v, .int .i64 0])) := by
  unfold RetB
  have HV := Lib.hid hv
  have HM := Lib.hid hm; clear hm
  obtain ⟨a, cap, rfl, hcap, hc⟩ := hv
  clear hc
  by_cases h : 288 < sizeA l
  · rw [if_pos h]
    go_enter Tryz.func123, Tryz.ntmps123
    go_wp2_with (go_at_call 159; refine (attrsBytes _ l _ HV.out (by omega) HM.out).mono ?_; rintro e w' ⟨⟨a2, cap2, rfl⟩, hb⟩)
    go_ret2
    exact ⟨rfl, hb⟩
  · rw [if_neg h]
    go_enter Tryz.func123, Tryz.ntmps123
    go_wp2_with (go_at_call 159; refine (attrsBytes _ l _ HV.out (by omega) HM.out).mono ?_; rintro e w' ⟨⟨a2, cap2, rfl⟩, hb⟩)
    go_ret2
    exact ⟨rfl, hb⟩

set_option maxRecDepth 100000 in
theorem attrsCheck (v : Value) (l : List Attr) (w : World) (hv : AttrsAt w v l) (hm : ∀ a ∈ l, a.1.size ≤ 1000000 ∧ a.2.size ≤ 1000000) :
    RetB Tryz.prog 118 #[v] w (.int .i64 (chkE l)) := by
  unfold RetB
  have HV := Lib.hid hv
  have HM := Lib.hid hm; clear hm
  obtain ⟨a, cap, rfl, hcap, hc⟩ := hv
  have HC := Lib.hid hc; clear hc
  by_cases hl : 6 < l.length
  · rw [chk_long hl]
    go_enter Tryz.func118, Tryz.ntmps118
    go_wp2
    go_ret
    exact ⟨rfl, Below.refl _ _⟩
  go_enter Tryz.func118, Tryz.ntmps118
  go_wp2
  go_loopw [16] (fun i w' => ∃ k : Nat, k ≤ l.length ∧ i = .int .i64 k ∧ firstE (l.take k) = 0 ∧ Below w.heap.size w w') (fun i _ => l.length - (intOf i).toNat)
  case atStart => exact ⟨0, Nat.zero_le _, rfl, rfl, Below.refl _ _⟩
  case round =>
    rename_i wr
    obtain ⟨k, hk, rfl, hf, hb⟩ := hrel
    have HF := Lib.hid hf; clear hf
    by_cases hlt : k < l.length
    · obtain ⟨bb, off, rfl, hbs, c1, c2⟩ := HC.out k hlt
      obtain ⟨m1, m2⟩ := HM.out _ (List.getElem_mem hlt)
      replace c1 := (ext_cell hb hbs).trans c1
      replace c2 := (ext_cell hb hbs).trans c2
      have HB := Lib.hid hb; clear hb
      by_cases ha : aloneE (l[k]'hlt) = 0
      · have HN := Lib.hid (firstE_step l k hlt HF.out ha)
        generalize l[k]'hlt = x at c1 c2 m1 m2 ha
        go_wp2_with (go_at_call 122; refine (attrsAlone x _ m1).mono ?_; rintro e w' ⟨rfl, hb2⟩; have HB2 := Lib.hid hb2; clear hb2)
        go_roundw
        case rel => exact ⟨k + 1, by omega, by go_num, HN.out, Ext.trans HB.out (Ext.trans (ext_alloc _ _) HB2.out)⟩
        case measure => simp [intOf]; omega
      · have HN := Lib.hid ((chk_first hl (by rw [firstE_hit l k hlt HF.out ha]; exact ha)).trans (firstE_hit l k hlt HF.out ha))
        have ha1 : (aloneE (l[k]'hlt) != 0) = true := bne_iff_ne.2 ha
        clear ha
        generalize l[k]'hlt = x at c1 c2 m1 m2 ha1 HN
        go_wp2_with (go_at_call 122; refine (attrsAlone x _ m1).mono ?_; rintro e w' ⟨rfl, hb2⟩; have HB2 := Lib.hid hb2; clear hb2)
        go_ret
        exact ⟨by rw [HN.out]; rfl, Ext.trans HB.out (Ext.trans (ext_alloc _ _) HB2.out)⟩
    · have hf := HF.out
      rw [List.take_of_length_le (by omega)] at hf
      have HF1 := Lib.hid hf; clear hf HF
      have HB := Lib.hid hb; clear hb
      go_wp2
      go_loopw [6, 28] (fun s i w' => ∃ (wq : World) (k : Nat) (o : Int), wq = w' ∧ k ≤ l.length ∧ s = .int .i64 o ∧ i = .int .i64 k ∧ OrdSt l k 0 o ∧ Below w.heap.size w w') (fun _ i _ => l.length - (intOf i).toNat)
      case atStart => exact ⟨_, 0, 0, rfl, Nat.zero_le _, rfl, rfl, OrdSt.start l, HB.out⟩
      case round =>
        obtain ⟨wq, k, o, rfl, hk, rfl, rfl, hord, hb⟩ := hrel
        have HO := Lib.hid hord; clear hord
        by_cases hlt : k < l.length
        · obtain ⟨bb, off, rfl, hbs, c1, c2⟩ := HC.out k hlt
          replace c1 := (ext_cell hb hbs).trans c1
          replace c2 := (ext_cell hb hbs).trans c2
          have HB1 := Lib.hid hb; clear hb
          have hnm := nmA_at l k hlt
          generalize l[k]'hlt = x at c1 c2 hnm
          have HX := Lib.hid hnm; clear hnm
          go_wp2
          go_loopw [6, 37] (fun s i w' => ∃ (wi : World) (m : Nat) (o : Int), wi = w' ∧ m ≤ k ∧ s = .int .i64 o ∧ i = .int .i64 m ∧ OrdSt l k m o ∧ Ext (wq.alloc (.cells #[.string x.1, .string x.2] 50)) w') (fun _ i _ => k - (intOf i).toNat)
          case atStart => exact ⟨_, 0, o, rfl, Nat.zero_le _, rfl, rfl, HO.out, Below.refl _ _⟩
          case round =>
            clear c1 c2
            obtain ⟨wi, m, o2, rfl, hm, rfl, rfl, hord, hb⟩ := hrel
            have HO2 := Lib.hid hord; clear hord
            have hbw : Below w.heap.size w wi := Ext.trans HB1.out (Ext.trans (ext_alloc _ _) hb)
            have x1 : wi.cell? ⟨wq.heap.size, 0, none⟩ = some (.string x.1) := blk_cell (blk_ext hb (blk_new wq _)) 0
            have x2 : wi.cell? ⟨wq.heap.size, 1, none⟩ = some (.string x.2) := blk_cell (blk_ext hb (blk_new wq _)) 1
            have hxl : wq.heap.size < wi.heap.size := blk_lt (blk_ext hb (blk_new wq _))
            have HB2 := Lib.hid hb; clear hb
            by_cases hmk : m < k
            · obtain ⟨b3, off3, he3, hbs3, c1, c2⟩ := HC.out m (by omega)
              obtain ⟨rfl, rfl⟩ : bb = b3 ∧ off = off3 := by simpa using he3
              clear he3
              replace c1 := (ext_cell hbw hbs3).trans c1
              replace c2 := (ext_cell hbw hbs3).trans c2
              have hnm := nmA_at l m (by omega)
              generalize l[m]'(by omega) = y at c1 c2 hnm
              have HY := Lib.hid hnm; clear hnm
              have HW := Lib.hid hbw; clear hbw
              by_cases hc0 : cmpS (L y.1) (L x.1) = 0
              · have HN := Lib.hid (chk_dup hl HF1.out hmk hlt (by rw [HX.out, HY.out]; exact cmpS_zero.1 hc0))
                go_wp2_with (go_at_call 153; refine (cmpCompare _ _ _).mono ?_; rintro e w' ⟨rfl, rfl⟩)
                go_ret
                exact ⟨by rw [HN.out]; rfl, Ext.trans HW.out (ext_alloc _ _)⟩
              by_cases hc1 : cmpS (L y.1) (L x.1) = 1
              · have HN := Lib.hid (HO2.out.gt hmk (by rw [HX.out, HY.out]; exact hc1))
                clear hc0
                go_wp2_with (go_at_call 153; refine (cmpCompare _ _ _).mono ?_; rintro e w' ⟨rfl, rfl⟩)
                go_roundw
                case rel => exact ⟨_, m + 1, 6, rfl, by omega, rfl, by go_num, HN.out, Ext.trans HB2.out (ext_alloc _ _)⟩
                case measure => simp [intOf]; omega
              · have HN := Lib.hid (HO2.out.lt hmk (by rw [HX.out, HY.out]; exact hc0) (by rw [HX.out, HY.out]; exact hc1))
                have e0 : (cmpS (L y.1) (L x.1) == 0) = false := beq_eq_false_iff_ne.2 hc0
                have e1 : (cmpS (L y.1) (L x.1) == 1) = false := beq_eq_false_iff_ne.2 hc1
                clear hc0 hc1
                go_wp2_with (go_at_call 153; refine (cmpCompare _ _ _).mono ?_; rintro e w' ⟨rfl, rfl⟩)
                go_roundw
                case rel => exact ⟨_, m + 1, o2, rfl, by omega, rfl, by go_num, HN.out, Ext.trans HB2.out (ext_alloc _ _)⟩
                case measure => simp [intOf]; omega
            · obtain rfl : m = k := by omega
              have HW := Lib.hid hbw; clear hbw
              go_wp2
              go_roundw
              case rel => exact ⟨_, m + 1, o2, rfl, by omega, rfl, by go_num, HO2.out.up, HW.out⟩
              case measure => simp [intOf]; omega
        · obtain rfl : k = l.length := by omega
          have HN := Lib.hid (chk_end hl HF1.out HO.out)
          have HB1 := Lib.hid hb
          by_cases ho : o = 0
          · subst ho
            by_cases hz : 288 < sizeA l
            · have HN2 := Lib.hid (HN.out.trans ((if_pos rfl).trans (if_pos hz)))
              have HFit := Lib.hid (attrsFit (.slice a l.length cap) l wq (HV.out.ext HB1.out) (by omega) HM.out)
              clear hb HN
              go_wp2_with (go_at_call 123; have hfit := HFit.out; rw [if_pos hz] at hfit; refine hfit.mono ?_; clear hfit; rintro e w' ⟨rfl, hb2⟩)
              go_ret
              exact ⟨by rw [HN2.out]; rfl, Ext.trans HB1.out hb2⟩
            · have HN2 := Lib.hid (HN.out.trans ((if_pos rfl).trans (if_neg hz)))
              have HFit := Lib.hid (attrsFit (.slice a l.length cap) l wq (HV.out.ext HB1.out) (by omega) HM.out)
              clear hb HN
              go_wp2_with (go_at_call 123; have hfit := HFit.out; rw [if_neg hz] at hfit; refine hfit.mono ?_; clear hfit; rintro e w' ⟨rfl, hb2⟩)
              go_ret
              exact ⟨by rw [HN2.out]; rfl, Ext.trans HB1.out hb2⟩
          · have ho6 : o = 6 := by rcases HO.out.2 with ⟨x, _⟩ | ⟨x, _⟩; exact absurd x ho; exact x
            subst ho6
            have HN2 := Lib.hid (HN.out.trans (if_neg ho))
            clear hb HN
            go_wp2
            go_ret
            exact ⟨by rw [HN2.out]; rfl, HB1.out⟩
end Go.Proofs.YtiliglpolcpnbaaGreatDoor
