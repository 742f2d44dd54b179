/- Small facts on rows that a call owns, and on blocks. -/
import Derived.Test.YtnemfapegbehlaaDoorAttrA
import Derived.Lib.AppendStr
namespace Go.Proofs.YtnemfapegbehlaaDoor
open Go.RowKit

theorem own_ne {w : World} {base e size n : Nat} {v : Value} {xs : List Value} (h : w.ownsRow base e size v n xs) {b : Nat} {c : Array Value} {t : TypeId} {f : Nat × Nat}
    (hb : w.heap[b]? = some (.cells c t f)) (ht : t ≠ e) : v.ownBlock ≠ some b := by
  rcases h.2 with ⟨rfl, _⟩ | ⟨g, cap, cur, rfl, _, hg, _⟩
  · intro x; cases x
  · intro x
    simp only [Value.ownBlock, Option.some.injEq] at x
    subst x
    rw [hb] at hg; cases hg; exact ht rfl
theorem own_ne_new {w : World} {base e size n : Nat} {v : Value} {xs : List Value} (h : w.ownsRow base e size v n xs) : v.ownBlock ≠ some w.heap.size :=
  fun x => Nat.lt_irrefl _ (h.lt _ x).2
theorem blk_grown {w w' : World} {row : Option Nat} (hg : w.grownBy w' row) {b : Nat} {o : Obj} (hb : w.heap[b]? = some o) (hne : row ≠ some b) : w'.heap[b]? = some o := by
  have hl : b < w.heap.size := by
    rcases Nat.lt_or_ge b w.heap.size with h | h
    · exact h
    · rw [Array.getElem?_eq_none h] at hb; cases hb
  rw [hg.block b hl (fun e => hne e.symm)]; exact hb
theorem blk_alloc {w : World} {b : Nat} {o x : Obj} (hb : w.heap[b]? = some o) : (w.alloc x).heap[b]? = some o := by
  have hl : b < w.heap.size := by
    rcases Nat.lt_or_ge b w.heap.size with h | h
    · exact h
    · rw [Array.getElem?_eq_none h] at hb; cases hb
  rw [Below.heap_alloc _ _ _ hl]; exact hb
theorem blk_new (w : World) (o : Obj) : (w.alloc o).heap[w.heap.size]? = some o := by
  show (w.heap.push o)[w.heap.size]? = _; simp
theorem blk_lt {w : World} {b : Nat} {o : Obj} (hb : w.heap[b]? = some o) : b < w.heap.size := by
  rcases Nat.lt_or_ge b w.heap.size with h | h
  · exact h
  · rw [Array.getElem?_eq_none h] at hb; cases hb
theorem blk_cell {w : World} {b : Nat} {c : Array Value} {t : TypeId} {f : Nat × Nat} (hb : w.heap[b]? = some (.cells c t f)) (o : Nat) : w.cell? ⟨b, o, none⟩ = c[o]? := by
  simp [World.cell?, hb]
theorem blk_ext {w w' : World} (h : Ext w w') {b : Nat} {o : Obj} (hb : w.heap[b]? = some o) : w'.heap[b]? = some o := by
  rw [h.block b (blk_lt hb)]; exact hb
theorem below_grown {B : Nat} {W w w' : World} {base e size n : Nat} {v : Value} {xs : List Value} (hb : Below B W w) (ho : w.ownsRow base e size v n xs) (hbase : B ≤ base) (hB : B ≤ w.heap.size) (hg : w.grownBy w' v.ownBlock) : Below B W w' :=
  hb.grown hg hB (fun k hk => Nat.le_trans hbase (ho.lt k hk).1)

/-- A slice type, its element's type, the element's cells, bytes and zero value. -/
structure SlT (P : Program) (t e size bytes : Nat) (z : Value) : Prop where
  und : P.underlying t = some (.slice e)
  info : ∃ i, P.info? e = some i ∧ i.zero = some z ∧ i.size = size ∧ i.bytes = bytes
  zs : z.cells.size = size
  pos : 0 < size
  small : bytes ≤ 1000
/-- Everything that was there, but for one row, is there. -/
def KeepBut (row : Option Nat) (w w' : World) : Prop := ∀ b o, w.heap[b]? = some o → row ≠ some b → w'.heap[b]? = some o

section
variable {P : Program}
/-- 'v = append(v, x)': the new element lies in a block that the statement has just laid. -/
theorem app1 {ops : Array Oper} {rest : List Oper} {o : Oper} {a : Act} {Q : Exit → Act → World → Prop} (hgd : o.guard = none) (s x : Operand) (t : TypeId)
    (ho : o.op = .call { callee := .builtin .append, args := #[s, x], argTypes := #[t, t] })
    (B e size bytes : Nat) (z : Value) (hT : SlT P t e size bytes z) (v : Value) (n : Nat) (xs : List Value) (hs : a.eval s = v) (W0 w0 : World) (news : Array Value)
    (hown : w0.ownsRow B e size v n xs) (hb : Below B W0 w0) (hB : B ≤ w0.heap.size)
    (g : Nat) (hx : a.eval x = .slice (some ⟨g, 0, none⟩) 1 1) (hg : g = w0.heap.size) (hl : news.size = size) (h1 : ∀ u ∈ news.toList, u.oneCell' = true) (hn : n ≤ 100000000)
    (h : ∀ v' w', w'.ownsRow B e size v' (n + 1) (xs ++ news.toList) → Below B W0 w' → KeepBut v.ownBlock w0 w' → wpList P ops Q rest (a.put o.dst v') w') :
    wpList P ops Q (o :: rest) a (w0.alloc (.cells news e)) := by
  subst hg
  obtain ⟨i, hi, hz, h3, h4⟩ := hT.info
  have hs2 := hT.small
  refine wpList_append_own _ hgd s x t ho B e i z size bytes hT.und hi hz h3 h4 hT.zs hT.pos v n xs hs (hown.alloc _) ⟨w0.heap.size, 0, none⟩ 1 1 news.toList hx (by simp [hl]) ?_ h1 (by unfold maxLen; omega) ?_ (by simp; omega) ?_
  · intro j u hj
    have hc := blk_cell (blk_new w0 (.cells news e))
    by_cases hj0 : j = 0
    · subst hj0; simp only [Addr.add, if_true]; rw [hc]; simpa using hj
    · simp only [Addr.add, if_neg hj0]; rw [hc]; simpa using hj
  · have : (n + 1) * bytes ≤ 100000001 * 1000 := Nat.mul_le_mul (by omega) hs2
    omega
  · intro v' w' h5 h6 _
    refine h v' w' h5 (below_grown (hb.alloc hB _) (hown.alloc _) (Nat.le_refl _) (by simp; omega) h6) ?_
    intro b ob hbk hne
    exact blk_grown h6 (blk_alloc hbk) hne
/-- 'v = append(v, s...)', s a string. -/
theorem appS {ops : Array Oper} {rest : List Oper} {o : Oper} {a : Act} {Q : Exit → Act → World → Prop} (hgd : o.guard = none) (sl x : Operand) (t u : TypeId)
    (ho : o.op = .call { callee := .builtin .append, args := #[sl, x], argTypes := #[t, u] })
    (B e : Nat) (hT : SlT P t e 1 1 (.int .u8 0)) (hu : P.underlying u = some .string) (v : Value) (n : Nat) (xs : List Value) (hs : a.eval sl = v) (W0 w0 : World) (s : ByteArray)
    (hown : w0.ownsRow B e 1 v n xs) (hb : Below B W0 w0) (hB : B ≤ w0.heap.size) (hx : a.eval x = .string s) (hn : n + s.size ≤ 100000000)
    (h : ∀ v' w', w'.ownsRow B e 1 v' (n + s.size) (xs ++ Lib.strCells s) → Below B W0 w' → KeepBut v.ownBlock w0 w' → wpList P ops Q rest (a.put o.dst v') w') :
    wpList P ops Q (o :: rest) a w0 := by
  obtain ⟨i, hi, hz, h3, h4⟩ := hT.info
  refine Lib.wpList_append_own_string _ hgd sl x t u ho B e i hT.und hu hi hz h3 h4 v n xs hs hown s hx (by unfold maxLen; omega) (by omega) hB ?_
  intro v' w' h5 h6 _
  refine h v' w' h5 (below_grown hb hown (Nat.le_refl _) hB h6) ?_
  intro b ob hbk hne
  exact blk_grown h6 hbk hne
end

theorem slU8 : SlT Tryd.prog 76 5 1 1 (.int .u8 0) where
  und := Tryd.underlying76
  info := info_parts (by kernel_rfl)
  zs := rfl
  pos := by decide
  small := by decide
/-- How many bytes attributes are, written. -/
def sizeA : List Attr → Nat
  | [] => 0
  | a :: r => 2 + a.1.size + a.2.size + sizeA r
theorem sizeA_append (l m : List Attr) : sizeA (l ++ m) = sizeA l + sizeA m := by
  induction l with
  | nil => simp [sizeA]
  | cons a r ih => simp [sizeA, ih]; omega
theorem sizeA_take (l : List Attr) (k : Nat) (h : k < l.length) : sizeA (l.take (k + 1)) = sizeA (l.take k) + (2 + (l[k]'h).1.size + (l[k]'h).2.size) := by
  rw [List.take_succ_eq_append_getElem h, sizeA_append]; simp [sizeA]
theorem sizeA_le (l : List Attr) (M : Nat) (h : ∀ a ∈ l, a.1.size ≤ M ∧ a.2.size ≤ M) : sizeA l ≤ l.length * (2 + 2 * M) := by
  induction l with
  | nil => simp [sizeA]
  | cons a r ih =>
    have h1 := h a (by simp); have h2 := ih (fun x hx => h x (by simp [hx]))
    simp only [sizeA, List.length_cons, Nat.add_mul, Nat.one_mul]; omega

/-- The row of a slice that the call owns. -/
def OwnsN (B e size : Nat) (v : Value) (n : Nat) (w : World) : Prop := ∃ xs, w.ownsRow B e size v n xs
/-- A slice of so many elements. -/
def LenIs (n : Nat) (e : Ending) : Prop := ∃ a cap, e = .returned (.slice a n cap)

set_option maxHeartbeats 1000000 in

set_option maxRecDepth 100000 in
theorem attrsBytes (v : Value) (l : List Attr) (w : World) (hv : AttrsAt w v l) (hl : l.length ≤ 10) (hm : ∀ a ∈ l, a.1.size ≤ 1000000 ∧ a.2.size ≤ 1000000) :
    Calls Tryd.prog 80 #[v] w fun e w' => LenIs (sizeA l) e ∧ Below w.heap.size w w' := by
  have hmax := sizeA_le l 1000000 hm
  have hmax : sizeA l ≤ 30000000 := Nat.le_trans hmax (Nat.le_trans (Nat.mul_le_mul hl (Nat.le_refl _)) (by decide))
  have HM := Lib.hid hm; clear hm
  obtain ⟨a, cap, rfl, hcap, hc⟩ := hv
  have HC := Lib.hid hc; clear hc
  go_enter Tryd.func80, Tryd.ntmps80
  go_wp2
  go_loopw [3, 8] (fun b i w' => ∃ k : Nat, k ≤ l.length ∧ i = .int .i64 k ∧ OwnsN w.heap.size 5 1 b (sizeA (l.take k)) w' ∧ Below w.heap.size w w') (fun _ i _ => l.length - (intOf i).toNat)
  case atStart => exact ⟨0, Nat.zero_le _, rfl, ⟨[], World.ownsRow_nil _ _ _ _⟩, Below.refl _ _⟩
  case round =>
    rename_i wr
    obtain ⟨k, hk, rfl, ⟨xs, hown⟩, hb⟩ := hrel
    by_cases hlt : k < l.length
    · obtain ⟨bb, off, rfl, hbs, c1, c2⟩ := HC.out k hlt
      obtain ⟨m1, m2⟩ := HM.out _ (List.getElem_mem hlt)
      have HS := Lib.hid (sizeA_take l k hlt)
      replace c1 := (ext_cell hb hbs).trans c1
      replace c2 := (ext_cell hb hbs).trans c2
      generalize l[k]'hlt = x at c1 c2 m1 m2 HS
      obtain ⟨xn, xv⟩ := x
      simp only at c1 c2 m1 m2 HS
      have hle : sizeA (l.take k) ≤ 30000000 := by
        have := sizeA_append (l.take k) (l.drop k); rw [List.take_append_drop] at this; omega
      clear HC HM
      have hsz := hb.size
      have HB := Lib.hid hb; clear hb
      have HO := Lib.hid hown; clear hown
      go_wp2_with (first
        | (at_builtin; refine app1 rfl (.tmp 12) (.tmp 17) 76 rfl w.heap.size 5 1 1 (.int .u8 0) slU8 u3 (sizeA (l.take k)) xs rfl w (wr.alloc (.cells #[.string xn, .string xv] 42)) #[.int .u8 ((xn.size : Int) % 256)] (HO.out.alloc _) (HB.out.alloc hsz _) (Nat.le_trans hsz (ext_alloc _ _).size) (wr.heap.size + 1) rfl (by simp) rfl (by intro u hu; simp at hu; subst hu; rfl) (by omega) ?_; intro v1 w1 ho1 hb1 hk1; have hx1 := hk1 _ _ (blk_new wr _) (own_ne_new HO.out); have d1 : w1.cell? ⟨wr.heap.size, 0, none⟩ = some (.string xn) := blk_cell hx1 0; have d2 : w1.cell? ⟨wr.heap.size, 1, none⟩ = some (.string xv) := blk_cell hx1 1; have X1 := Lib.hid hx1; clear hx1; have O1 := Lib.hid ho1; clear ho1; have B1 := Lib.hid hb1; clear hb1 hk1)
        | (at_builtin; refine appS rfl (.tmp 19) (.tmp 21) 76 9 rfl w.heap.size 5 slU8 Tryd.underlying9 v1 _ _ rfl w _ xn O1.out B1.out B1.out.size rfl (by omega) ?_; intro v2 w2 ho2 hb2 hk2; have hx2 := hk2 _ _ X1.out (own_ne O1.out X1.out (by decide)); have d3 : w2.cell? ⟨wr.heap.size, 0, none⟩ = some (.string xn) := blk_cell hx2 0; have d4 : w2.cell? ⟨wr.heap.size, 1, none⟩ = some (.string xv) := blk_cell hx2 1; have X2 := Lib.hid hx2; clear hx2; have O2 := Lib.hid ho2; clear ho2; have B2 := Lib.hid hb2; clear hb2 hk2)
        | (at_builtin; refine app1 rfl (.tmp 23) (.tmp 28) 76 rfl w.heap.size 5 1 1 (.int .u8 0) slU8 v2 _ _ rfl w w2 #[.int .u8 ((xv.size : Int) % 256)] O2.out B2.out B2.out.size w2.heap.size rfl rfl rfl (by intro u hu; simp at hu; subst hu; rfl) (by omega) ?_; intro v3 w3 ho3 hb3 hk3; have hx3 := hk3 _ _ X2.out (own_ne O2.out X2.out (by decide)); have d5 : w3.cell? ⟨wr.heap.size, 0, none⟩ = some (.string xn) := blk_cell hx3 0; have d6 : w3.cell? ⟨wr.heap.size, 1, none⟩ = some (.string xv) := blk_cell hx3 1; have O3 := Lib.hid ho3; clear ho3; have B3 := Lib.hid hb3; clear hb3 hk3 hx3)
        | (at_builtin; refine appS rfl (.tmp 30) (.tmp 32) 76 9 rfl w.heap.size 5 slU8 Tryd.underlying9 v3 _ _ rfl w _ xv O3.out B3.out B3.out.size rfl (by omega) ?_; intro v4 w4 ho4 hb4 hk4; have O4 := Lib.hid ho4; clear ho4; have B4 := Lib.hid hb4; clear hb4 hk4))
      go_roundw
      case rel => exact ⟨k + 1, by omega, by go_num, ⟨_, by rw [HS.out, show sizeA (l.take k) + (2 + xn.size + xv.size) = sizeA (l.take k) + 1 + xn.size + 1 + xv.size by omega]; exact O4.out⟩, B4.out⟩
      case measure => simp [intOf]; omega
    · have HN : Hid (sizeA (l.take k) = sizeA l) := by rw [List.take_of_length_le (by omega)]; exact rfl
      have HB := Lib.hid hb; clear hb
      have HO := Lib.hid hown; clear hown
      go_wp2
      go_ret
      refine ⟨?_, HB.out⟩
      rcases HO.out.2 with ⟨h1, h2⟩ | ⟨g, cap, cur, h1, _⟩
      · subst h1; exact ⟨none, 0, by rw [← HN.out, h2]; rfl⟩
      · subst h1; exact ⟨_, _, by rw [← HN.out]; rfl⟩
end Go.Proofs.YtnemfapegbehlaaDoor
