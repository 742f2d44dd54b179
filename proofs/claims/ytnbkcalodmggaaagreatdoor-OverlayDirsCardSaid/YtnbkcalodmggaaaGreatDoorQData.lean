/- Data Esc Own AttrC AttrR SortP EscB -/
import Derived.Test.YtnbkcalodmggaaaGreatDoorQI0
import Derived.Test.YtnbkcalodmggaaaGreatDoorQBase
namespace Go.Proofs.YtnbkcalodmggaaaGreatDoor
open Go.RowKit

theorem slIndexStr (v : Value) (l : List ByteArray) (s : ByteArray) (w : World) (hv : StrsAt w v l) (hl : l.length <= 1000000) :
    Calls Tryz.prog 239 #[v, .string s] w fun e w' => IsIdx l s e /\ w = w' := by
  obtain ⟨a, cap, rfl, hcap, hc⟩ := hv
  have HC := hQq hc; clear hc
  go_enter Tryz.func239, Tryz.ntmps239
  go_wp2
  go_loop [8] (fun i => ∃ k : Nat, k <= l.length /\ i = .int .i64 k /\ ∀ j (h : j < l.length), j < k -> L (l[j]'h) ≠ L s) (fun i => l.length - (intOf i).toNat)
  case atStart => exact ⟨0, Nat.zero_le _, rfl, fun j hj h0 => absurd h0 (by omega)⟩
  case round =>
    obtain ⟨k, hk, rfl, hb⟩ := hrel
    have HB := hQq hb; clear hb
    by_cases hlt : k < l.length
    · obtain ⟨b, off, rfl, hbs, h1⟩ := HC.out k hlt
      cases he : s.toList == (l[k]'hlt).toList
      · have HB2 : Hid (∀ j (h : j < l.length), j < k + 1 -> L (l[j]'h) ≠ L s) := by
          intro j hj hjk
          by_cases e : j = k
          · subst e; rw [toList_L, toList_L] at he; simpa using fun h => (beq_eq_false_iff_ne.1 he) h.symm
          · exact HB.out j hj (by omega)
        go_wp2
        go_round
        case rel => exact ⟨k + 1, by omega, by go_num, HB2.out⟩
        case measure => simp [intOf]; omega
      · have HF : Hid ((l.map L).contains (L s) = true) := by
          rw [toList_L, toList_L] at he
          rw [List.contains_iff_mem, List.mem_map]
          exact ⟨_, List.getElem_mem hlt, (beq_iff_eq.1 he).symm⟩
        go_wp2
        go_ret
        exact ⟨⟨k, rfl, fun _ => HF.out, fun _ => by omega⟩, rfl⟩
    · have HF : Hid (¬ (l.map L).contains (L s) = true) := by
        rw [List.contains_iff_mem, List.mem_map]
        rintro ⟨x, hx, hxe⟩
        obtain ⟨j, hj, rfl⟩ := List.getElem_of_mem hx
        exact HB.out j hj (by omega) hxe
      go_wp2
      go_ret
      exact ⟨⟨-1, rfl, fun h => absurd h (by decide), fun h => absurd h HF.out⟩, rfl⟩
theorem slContainsStr (v : Value) (l : List ByteArray) (s : ByteArray) (w : World) (hv : StrsAt w v l) (hl : l.length <= 1000000) :
    Ret Tryz.prog 220 #[v, .string s] w (.bool (hasS l s)) := by
  unfold Ret
  have HV := hQq hv
  obtain ⟨a, cap, rfl, hcap, hc⟩ := hv
  clear hc
  unfold hasS
  cases hm : (l.map L).contains (L s)
  · have HM := hQq hm; clear hm
    go_enter Tryz.func220, Tryz.ntmps220
    go_wp2_with fail
    refine (slIndexStr _ l s _ HV.out hl).mono ?_
    rintro e w' ⟨⟨i, rfl, hi⟩, rfl⟩
    have hi2 : i < 0 := by
      rw [HM.out] at hi; simp only [Bool.false_eq_true, iff_false] at hi; omega
    clear hi
    go_wp2
    go_ret
    exact ⟨by simp [Int.not_le.2 hi2], rfl⟩
  · have HM := hQq hm; clear hm
    go_enter Tryz.func220, Tryz.ntmps220
    go_wp2_with fail
    refine (slIndexStr _ l s _ HV.out hl).mono ?_
    rintro e w' ⟨⟨i, rfl, hi⟩, rfl⟩
    have hi2 : 0 <= i := hi.2 HM.out
    clear hi
    go_wp2
    go_ret
    exact ⟨by simp, rfl⟩
end Go.Proofs.YtnbkcalodmggaaaGreatDoor
namespace Go.Proofs.YtnbkcalodmggaaaGreatDoor
open Go.RowKit

def nameE (l : List UInt8) : Int := if l = [] \/ l = [46] \/ l = [46, 46] \/ l.any (pB badC) = true then 6 else if 24 < l.length then 3 else 0

theorem nameE_bad {l : List UInt8} (h : l.any (pB badC) = true) : nameE l = 6 := by
  unfold nameE; rw [if_pos (Or.inr (Or.inr (Or.inr h)))]
theorem nameE_long {l : List UInt8} (h0 : ¬ (l = [] \/ l = [46] \/ l = [46, 46])) (h : l.any (pB badC) = false) (hl : 24 < l.length) : nameE l = 3 := by
  simp only [not_or] at h0
  unfold nameE; rw [if_neg (by simp [h0, h]), if_pos hl]
theorem nameE_ok {l : List UInt8} (h0 : ¬ (l = [] \/ l = [46] \/ l = [46, 46])) (h : l.any (pB badC) = false) (hl : ¬ 24 < l.length) : nameE l = 0 := by
  simp only [not_or] at h0
  unfold nameE; rw [if_neg (by simp [h0, h]), if_neg hl]

theorem badByte (b : UInt8) : pB badC b = (decide ((b.toNat : Int) < 33) || decide (126 < (b.toNat : Int)) || ((b.toNat : Int) == 47)) := by
  unfold pB badC; rw [Bool.eq_iff_iff]; simp

end Go.Proofs.YtnbkcalodmggaaaGreatDoor
namespace Go.Proofs.YtnbkcalodmggaaaGreatDoor
open Go.RowKit

theorem own_ne {w : World} {base e size n : Nat} {v : Value} {xs : List Value} (h : w.ownsRow base e size v n xs) {b : Nat} {c : Array Value} {t : TypeId} {f : Nat × Nat}
    (hb : w.heap[b]? = some (.cells c t f)) (ht : t ≠ e) : v.ownBlock ≠ some b := by
  rcases h.2 with ⟨rfl, _⟩ | ⟨g, cap, cur, rfl, _, hg, _⟩
  · intro x; cases x
  · intro x
    simp only [Value.ownBlock, Option.some.injEq] at x
    subst x
    rw [hb] at hg; cases hg; exact ht rfl
theorem own_ne_new {w : World} {base e size n : Nat} {v : Value} {xs : List Value} (h : w.ownsRow base e size v n xs) : v.ownBlock ≠ some w.heap.size :=
  fun x => Nat.lt_irrefl _ (h.lt _ x).2
theorem blk_grown {w w' : World} {row : Option Nat} (hg : w.grownBy w' row) {b : Nat} {o : Obj} (hb : w.heap[b]? = some o) (hne : row ≠ some b) : w'.heap[b]? = some o := by
  have hl : b < w.heap.size := by
    rcases Nat.lt_or_ge b w.heap.size with h | h
    · exact h
    · rw [Array.getElem?_eq_none h] at hb; cases hb
  rw [hg.block b hl (fun e => hne e.symm)]; exact hb
theorem bA {w : World} {b : Nat} {o x : Obj} (hb : w.heap[b]? = some o) : (w.alloc x).heap[b]? = some o := by
  have hl : b < w.heap.size := by
    rcases Nat.lt_or_ge b w.heap.size with h | h
    · exact h
    · rw [Array.getElem?_eq_none h] at hb; cases hb
  rw [Below.heap_alloc _ _ _ hl]; exact hb
theorem bN (w : World) (o : Obj) : (w.alloc o).heap[w.heap.size]? = some o := by
  show (w.heap.push o)[w.heap.size]? = _; simp
theorem blk_lt {w : World} {b : Nat} {o : Obj} (hb : w.heap[b]? = some o) : b < w.heap.size := by
  rcases Nat.lt_or_ge b w.heap.size with h | h
  · exact h
  · rw [Array.getElem?_eq_none h] at hb; cases hb
theorem bC {w : World} {b : Nat} {c : Array Value} {t : TypeId} {f : Nat × Nat} (hb : w.heap[b]? = some (.cells c t f)) (o : Nat) : w.cell? ⟨b, o, none⟩ = c[o]? := by
  simp [World.cell?, hb]
theorem bX {w w' : World} (h : Ext w w') {b : Nat} {o : Obj} (hb : w.heap[b]? = some o) : w'.heap[b]? = some o := by
  rw [h.block b (blk_lt hb)]; exact hb
theorem below_grown {B : Nat} {W w w' : World} {base e size n : Nat} {v : Value} {xs : List Value} (hb : Below B W w) (ho : w.ownsRow base e size v n xs) (hbase : B <= base) (hB : B <= w.heap.size) (hg : w.grownBy w' v.ownBlock) : Below B W w' :=
  hb.grown hg hB (fun k hk => Nat.le_trans hbase (ho.lt k hk).1)

structure SlT (P : Program) (t e size bytes : Nat) (z : Value) : Prop where
  und : P.underlying t = some (.slice e)
  info : ∃ i, P.info? e = some i /\ i.zero = some z /\ i.size = size /\ i.bytes = bytes
  zs : z.cells.size = size
  pos : 0 < size
  small : bytes <= 1000
def KeepBut (row : Option Nat) (w w' : World) : Prop := ∀ b o, w.heap[b]? = some o -> row ≠ some b -> w'.heap[b]? = some o

section
variable {P : Program}
theorem app1 {ops : Array Oper} {rest : List Oper} {o : Oper} {a : Act} {Q : Exit -> Act -> World -> Prop} (hgd : o.guard = none) (s x : Operand) (t : TypeId)
    (ho : o.op = .call { callee := .builtin .append, args := #[s, x], argTypes := #[t, t] })
    (B e size bytes : Nat) (z : Value) (hT : SlT P t e size bytes z) (v : Value) (n : Nat) (xs : List Value) (hs : a.eval s = v) (W0 w0 : World) (news : Array Value)
    (hown : w0.ownsRow B e size v n xs) (hb : Below B W0 w0) (hB : B <= w0.heap.size)
    (g : Nat) (hx : a.eval x = .slice (some ⟨g, 0, none⟩) 1 1) (hg : g = w0.heap.size) (hl : news.size = size) (h1 : ∀ u ∈ news.toList, u.oneCell' = true) (hn : n <= 100000000)
    (h : ∀ v' w', w'.ownsRow B e size v' (n + 1) (xs ++ news.toList) -> Below B W0 w' -> KeepBut v.ownBlock w0 w' -> wpList P ops Q rest (a.put o.dst v') w') :
    wpList P ops Q (o :: rest) a (w0.alloc (.cells news e)) := by
  subst hg
  obtain ⟨i, hi, hz, h3, h4⟩ := hT.info
  have hs2 := hT.small
  refine wpList_append_own _ hgd s x t ho B e i z size bytes hT.und hi hz h3 h4 hT.zs hT.pos v n xs hs (hown.alloc _) ⟨w0.heap.size, 0, none⟩ 1 1 news.toList hx (by simp [hl]) ?_ h1 (by unfold maxLen; omega) ?_ (by simp; omega) ?_
  · intro j u hj
    have hc := bC (bN w0 (.cells news e))
    by_cases hj0 : j = 0
    · subst hj0; simp only [Addr.add, if_true]; rw [hc]; simpa using hj
    · simp only [Addr.add, if_neg hj0]; rw [hc]; simpa using hj
  · have : (n + 1) * bytes <= 100000001 * 1000 := Nat.mul_le_mul (by omega) hs2
    omega
  · intro v' w' h5 h6 _
    refine h v' w' h5 (below_grown (hb.alloc hB _) (hown.alloc _) (Nat.le_refl _) (by simp; omega) h6) ?_
    intro b ob hbk hne
    exact blk_grown h6 (bA hbk) hne
theorem appS {ops : Array Oper} {rest : List Oper} {o : Oper} {a : Act} {Q : Exit -> Act -> World -> Prop} (hgd : o.guard = none) (sl x : Operand) (t u : TypeId)
    (ho : o.op = .call { callee := .builtin .append, args := #[sl, x], argTypes := #[t, u] })
    (B e : Nat) (hT : SlT P t e 1 1 (.int .u8 0)) (hu : P.underlying u = some .string) (v : Value) (n : Nat) (xs : List Value) (hs : a.eval sl = v) (W0 w0 : World) (s : ByteArray)
    (hown : w0.ownsRow B e 1 v n xs) (hb : Below B W0 w0) (hB : B <= w0.heap.size) (hx : a.eval x = .string s) (hn : n + s.size <= 100000000)
    (h : ∀ v' w', w'.ownsRow B e 1 v' (n + s.size) (xs ++ Lib.strCells s) -> Below B W0 w' -> KeepBut v.ownBlock w0 w' -> wpList P ops Q rest (a.put o.dst v') w') :
    wpList P ops Q (o :: rest) a w0 := by
  obtain ⟨i, hi, hz, h3, h4⟩ := hT.info
  refine Lib.wpList_append_own_string _ hgd sl x t u ho B e i hT.und hu hi hz h3 h4 v n xs hs hown s hx (by unfold maxLen; omega) (by omega) hB ?_
  intro v' w' h5 h6 _
  refine h v' w' h5 (below_grown hb hown (Nat.le_refl _) hB h6) ?_
  intro b ob hbk hne
  exact blk_grown h6 hbk hne
end

theorem slU8 : SlT Tryz.prog 95 5 1 1 (.int .u8 0) where
  und := Tryz.underlying95
  info := info_parts (by kernel_rfl)
  zs := rfl
  pos := by decide
  small := by decide
def sizeA : List Attr -> Nat
  | [] => 0
  | a :: r => 2 + a.1.size + a.2.size + sizeA r
theorem sizeA_append (l m : List Attr) : sizeA (l ++ m) = sizeA l + sizeA m := by
  induction l with
  | nil => simp [sizeA]
  | cons a r ih => simp [sizeA, ih]; omega
theorem sizeA_take (l : List Attr) (k : Nat) (h : k < l.length) : sizeA (l.take (k + 1)) = sizeA (l.take k) + (2 + (l[k]'h).1.size + (l[k]'h).2.size) := by
  rw [List.take_succ_eq_append_getElem h, sizeA_append]; simp [sizeA]
theorem sizeA_le (l : List Attr) (M : Nat) (h : ∀ a ∈ l, a.1.size <= M /\ a.2.size <= M) : sizeA l <= l.length * (2 + 2 * M) := by
  induction l with
  | nil => simp [sizeA]
  | cons a r ih =>
    have h1 := h a (by simp); have h2 := ih (fun x hx => h x (by simp [hx]))
    simp only [sizeA, List.length_cons, Nat.add_mul, Nat.one_mul]; omega

def OwnsN (B e size : Nat) (v : Value) (n : Nat) (w : World) : Prop := ∃ xs, w.ownsRow B e size v n xs
def LenIs (n : Nat) (e : Ending) : Prop := ∃ a cap, e = .returned (.slice a n cap)

end Go.Proofs.YtnbkcalodmggaaaGreatDoor
namespace Go.Proofs.YtnbkcalodmggaaaGreatDoor
open Go.RowKit


set_option maxHeartbeats 1000000 in
set_option maxRecDepth 100000 in
theorem attrsBytes (v : Value) (l : List Attr) (w : World) (hv : AttrsAt w v l) (hl : l.length <= 10) (hm : ∀ a ∈ l, a.1.size <= 1000000 /\ a.2.size <= 1000000) :
    Calls Tryz.prog 223 #[v] w fun e w' => LenIs (sizeA l) e /\ Below w.heap.size w w' := by
  have hmax := sizeA_le l 1000000 hm
  have hmax : sizeA l <= 30000000 := Nat.le_trans hmax (Nat.le_trans (Nat.mul_le_mul hl (Nat.le_refl _)) (by decide))
  have HM := hQq hm; clear hm
  obtain ⟨a, cap, rfl, hcap, hc⟩ := hv
  have HC := hQq hc; clear hc
  go_enter Tryz.func223, Tryz.ntmps223
  go_wp2
  go_loopw [3, 8] (fun b i w' => ∃ k : Nat, k <= l.length /\ i = .int .i64 k /\ OwnsN w.heap.size 5 1 b (sizeA (l.take k)) w' /\ Below w.heap.size w w') (fun _ i _ => l.length - (intOf i).toNat)
  case atStart => exact ⟨0, Nat.zero_le _, rfl, ⟨[], World.ownsRow_nil _ _ _ _⟩, Below.refl _ _⟩
  case round =>
    rename_i wr
    obtain ⟨k, hk, rfl, ⟨xs, hown⟩, hb⟩ := hrel
    by_cases hlt : k < l.length
    · obtain ⟨bb, off, rfl, hbs, c1, c2⟩ := HC.out k hlt
      obtain ⟨m1, m2⟩ := HM.out _ (List.getElem_mem hlt)
      have HS := hQq (sizeA_take l k hlt)
      replace c1 := (ext_cell hb hbs).trans c1
      replace c2 := (ext_cell hb hbs).trans c2
      generalize l[k]'hlt = x at c1 c2 m1 m2 HS
      obtain ⟨xn, xv⟩ := x
      simp only at c1 c2 m1 m2 HS
      have hle : sizeA (l.take k) <= 30000000 := by
        have := sizeA_append (l.take k) (l.drop k); rw [List.take_append_drop] at this; omega
      clear HC HM
      have hsz := hb.size
      have HB := hQq hb; clear hb
      have HO := hQq hown; clear hown
      go_wp2_with (first
        | (at_builtin; refine app1 rfl (.tmp 12) (.tmp 17) 95 rfl w.heap.size 5 1 1 (.int .u8 0) slU8 u3 (sizeA (l.take k)) xs rfl w (wr.alloc (.cells #[.string xn, .string xv] 45)) #[.int .u8 ((xn.size : Int) % 256)] (HO.out.alloc _) (HB.out.alloc hsz _) (Nat.le_trans hsz (eA _ _).size) (wr.heap.size + 1) rfl (by simp) rfl (by intro u hu; simp at hu; subst hu; rfl) (by omega) ?_; intro v1 w1 ho1 hb1 hk1; have hx1 := hk1 _ _ (bN wr _) (own_ne_new HO.out); have d1 : w1.cell? ⟨wr.heap.size, 0, none⟩ = some (.string xn) := bC hx1 0; have d2 : w1.cell? ⟨wr.heap.size, 1, none⟩ = some (.string xv) := bC hx1 1; have X1 := hQq hx1; clear hx1; have O1 := hQq ho1; clear ho1; have B1 := hQq hb1; clear hb1 hk1)
        | (at_builtin; refine appS rfl (.tmp 19) (.tmp 21) 95 9 rfl w.heap.size 5 slU8 Tryz.underlying9 v1 _ _ rfl w _ xn O1.out B1.out B1.out.size rfl (by omega) ?_; intro v2 w2 ho2 hb2 hk2; have hx2 := hk2 _ _ X1.out (own_ne O1.out X1.out (by decide)); have d3 : w2.cell? ⟨wr.heap.size, 0, none⟩ = some (.string xn) := bC hx2 0; have d4 : w2.cell? ⟨wr.heap.size, 1, none⟩ = some (.string xv) := bC hx2 1; have X2 := hQq hx2; clear hx2; have O2 := hQq ho2; clear ho2; have B2 := hQq hb2; clear hb2 hk2)
        | (at_builtin; refine app1 rfl (.tmp 23) (.tmp 28) 95 rfl w.heap.size 5 1 1 (.int .u8 0) slU8 v2 _ _ rfl w w2 #[.int .u8 ((xv.size : Int) % 256)] O2.out B2.out B2.out.size w2.heap.size rfl rfl rfl (by intro u hu; simp at hu; subst hu; rfl) (by omega) ?_; intro v3 w3 ho3 hb3 hk3; have hx3 := hk3 _ _ X2.out (own_ne O2.out X2.out (by decide)); have d5 : w3.cell? ⟨wr.heap.size, 0, none⟩ = some (.string xn) := bC hx3 0; have d6 : w3.cell? ⟨wr.heap.size, 1, none⟩ = some (.string xv) := bC hx3 1; have O3 := hQq ho3; clear ho3; have B3 := hQq hb3; clear hb3 hk3 hx3)
        | (at_builtin; refine appS rfl (.tmp 30) (.tmp 32) 95 9 rfl w.heap.size 5 slU8 Tryz.underlying9 v3 _ _ rfl w _ xv O3.out B3.out B3.out.size rfl (by omega) ?_; intro v4 w4 ho4 hb4 hk4; have O4 := hQq ho4; clear ho4; have B4 := hQq hb4; clear hb4 hk4))
      go_roundw
      case rel => exact ⟨k + 1, by omega, by go_num, ⟨_, by rw [HS.out, show sizeA (l.take k) + (2 + xn.size + xv.size) = sizeA (l.take k) + 1 + xn.size + 1 + xv.size by omega]; exact O4.out⟩, B4.out⟩
      case measure => simp [intOf]; omega
    · have HN : Hid (sizeA (l.take k) = sizeA l) := by rw [List.take_of_length_le (by omega)]; exact rfl
      have HB := hQq hb; clear hb
      have HO := hQq hown; clear hown
      go_wp2
      go_ret
      refine ⟨?_, HB.out⟩
      rcases HO.out.2 with ⟨h1, h2⟩ | ⟨g, cap, cur, h1, _⟩
      · subst h1; exact ⟨none, 0, by rw [<- HN.out, h2]; rfl⟩
      · subst h1; exact ⟨_, _, by rw [<- HN.out]; rfl⟩
end Go.Proofs.YtnbkcalodmggaaaGreatDoor
namespace Go.Proofs.YtnbkcalodmggaaaGreatDoor
open Go.RowKit

def firstE : List Attr -> Int
  | [] => 0
  | a :: r => if aloneE a ≠ 0 then aloneE a else firstE r
theorem firstE_append (l m : List Attr) (h : firstE l = 0) : firstE (l ++ m) = firstE m := by
  induction l with
  | nil => rfl
  | cons a r ih =>
    unfold firstE at h
    by_cases ha : aloneE a ≠ 0
    · rw [if_pos ha] at h; exact absurd h ha
    · rw [if_neg ha] at h; show (if aloneE a ≠ 0 then aloneE a else firstE (r ++ m)) = firstE m; rw [if_neg ha]; exact ih h
theorem firstE_step (l : List Attr) (k : Nat) (h : k < l.length) (h0 : firstE (l.take k) = 0) (ha : aloneE (l[k]'h) = 0) : firstE (l.take (k + 1)) = 0 := by
  rw [List.take_succ_eq_append_getElem h, firstE_append _ _ h0]; unfold firstE; rw [if_neg (by simpa using ha)]; rfl
theorem firstE_hit (l : List Attr) (k : Nat) (h : k < l.length) (h0 : firstE (l.take k) = 0) (ha : aloneE (l[k]'h) ≠ 0) : firstE l = aloneE (l[k]'h) := by
  have e : l = l.take k ++ l[k]'h :: l.drop (k + 1) := by simp
  have : firstE (l.take k ++ l[k]'h :: l.drop (k + 1)) = aloneE (l[k]'h) := by
    rw [firstE_append _ _ h0]; show (if aloneE (l[k]'h) ≠ 0 then aloneE (l[k]'h) else firstE (l.drop (k + 1))) = _; rw [if_pos ha]
  rw [<- e] at this; exact this

def nmA (l : List Attr) (i : Nat) : List UInt8 := L (l.getD i (⟨#[]⟩, ⟨#[]⟩)).1
theorem nmA_at (l : List Attr) (i : Nat) (h : i < l.length) : nmA l i = L (l[i]'h).1 := by unfold nmA; simp [List.getD, h]
def dupB (l : List Attr) : Bool := (List.range l.length).any fun i => (List.range i).any fun j => nmA l j == nmA l i
def descB (l : List Attr) : Bool := (List.range l.length).any fun i => (List.range i).any fun j => decide (nmA l i < nmA l j)
theorem dupB_iff {l : List Attr} : dupB l = true ↔ ∃ i j, j < i /\ i < l.length /\ nmA l j = nmA l i := by
  unfold dupB; simp only [List.any_eq_true, List.mem_range, beq_iff_eq]
  exact ⟨fun ⟨i, hi, j, hj, h⟩ => ⟨i, j, hj, hi, h⟩, fun ⟨i, j, hj, hi, h⟩ => ⟨i, hi, j, hj, h⟩⟩
theorem descB_iff {l : List Attr} : descB l = true ↔ ∃ i j, j < i /\ i < l.length /\ nmA l i < nmA l j := by
  unfold descB; simp only [List.any_eq_true, List.mem_range, decide_eq_true_eq]
  exact ⟨fun ⟨i, hi, j, hj, h⟩ => ⟨i, j, hj, hi, h⟩, fun ⟨i, j, hj, hi, h⟩ => ⟨i, hi, j, hj, h⟩⟩

def chkE (l : List Attr) : Int := if 6 < l.length then 3 else if firstE l ≠ 0 then firstE l else if dupB l = true then 8 else if descB l = true then 6 else if 288 < sizeA l then 5 else 0

def Seen (k m i j : Nat) : Prop := j < i /\ (i < k \/ i = k /\ j < m)
def OrdSt (l : List Attr) (k m : Nat) (o : Int) : Prop :=
  (∀ i j, Seen k m i j -> nmA l j ≠ nmA l i) /\ ((o = 0 /\ ∀ i j, Seen k m i j -> ¬ nmA l i < nmA l j) \/ (o = 6 /\ ∃ i j, Seen k m i j /\ nmA l i < nmA l j))
theorem OrdSt.start (l : List Attr) : OrdSt l 0 0 0 := ⟨fun i j h => by obtain ⟨_, h | h⟩ := h <;> omega, .inl ⟨rfl, fun i j h => by obtain ⟨_, h | h⟩ := h <;> omega⟩⟩
theorem OrdSt.up {l : List Attr} {k : Nat} {o : Int} (h : OrdSt l k k o) : OrdSt l (k + 1) 0 o := by
  have e : ∀ i j, Seen (k + 1) 0 i j ↔ Seen k k i j := fun i j => by unfold Seen; omega
  unfold OrdSt at h ⊢; simpa only [e] using h
theorem seen_succ {k m i j : Nat} (hm : m < k) : Seen k (m + 1) i j ↔ Seen k m i j \/ (i = k /\ j = m) := by unfold Seen; omega
theorem OrdSt.lt {l : List Attr} {k m : Nat} {o : Int} (h : OrdSt l k m o) (hm : m < k) (h0 : cmpS (nmA l m) (nmA l k) ≠ 0) (h1 : cmpS (nmA l m) (nmA l k) ≠ 1) : OrdSt l k (m + 1) o := by
  have d : nmA l m ≠ nmA l k := fun e => h0 (cmpS_zero.2 e)
  have g : ¬ nmA l k < nmA l m := fun e => h1 (cmpS_one.2 e)
  refine ⟨fun i j hs => ?_, ?_⟩
  · rcases (seen_succ hm).1 hs with hs | ⟨rfl, rfl⟩
    · exact h.1 i j hs
    · exact d
  · rcases h.2 with ⟨ho, hn⟩ | ⟨ho, i, j, hs, hl⟩
    · refine .inl ⟨ho, fun i j hs => ?_⟩
      rcases (seen_succ hm).1 hs with hs | ⟨rfl, rfl⟩
      · exact hn i j hs
      · exact g
    · exact .inr ⟨ho, i, j, (seen_succ hm).2 (.inl hs), hl⟩
theorem OrdSt.gt {l : List Attr} {k m : Nat} {o : Int} (h : OrdSt l k m o) (hm : m < k) (h1 : cmpS (nmA l m) (nmA l k) = 1) : OrdSt l k (m + 1) 6 := by
  have d : nmA l m ≠ nmA l k := fun e => by rw [cmpS_zero.2 e] at h1; cases h1
  refine ⟨fun i j hs => ?_, .inr ⟨rfl, k, m, (seen_succ hm).2 (.inr ⟨rfl, rfl⟩), cmpS_one.1 h1⟩⟩
  rcases (seen_succ hm).1 hs with hs | ⟨rfl, rfl⟩
  · exact h.1 i j hs
  · exact d
theorem chk_long {l : List Attr} (h : 6 < l.length) : chkE l = 3 := by unfold chkE; rw [if_pos h]
theorem chk_first {l : List Attr} (h : ¬ 6 < l.length) (h1 : firstE l ≠ 0) : chkE l = firstE l := by unfold chkE; rw [if_neg h, if_pos h1]
theorem chk_dup {l : List Attr} (h : ¬ 6 < l.length) (h1 : firstE l = 0) {i j : Nat} (hj : j < i) (hi : i < l.length) (he : nmA l j = nmA l i) : chkE l = 8 := by
  unfold chkE; rw [if_neg h, if_neg (by simpa using h1), if_pos (dupB_iff.2 ⟨i, j, hj, hi, he⟩)]
theorem chk_end {l : List Attr} (h : ¬ 6 < l.length) (h1 : firstE l = 0) {o : Int} (ho : OrdSt l l.length 0 o) : chkE l = if o = 0 then (if 288 < sizeA l then 5 else 0) else 6 := by
  have hd : ¬ dupB l = true := by
    rw [dupB_iff]; rintro ⟨i, j, hj, hi, he⟩; exact ho.1 i j ⟨hj, .inl hi⟩ he
  unfold chkE; rw [if_neg h, if_neg (by simpa using h1), if_neg hd]
  rcases ho.2 with ⟨ho, hn⟩ | ⟨ho, i, j, hs, hl⟩
  · rw [if_neg (by rw [descB_iff]; rintro ⟨i, j, hj, hi, he⟩; exact hn i j ⟨hj, .inl hi⟩ he), if_pos ho]
  · rw [if_pos (descB_iff.2 ⟨i, j, hs.1, by obtain ⟨_, x | x⟩ := hs <;> omega, hl⟩), if_neg (by rw [ho]; decide)]

end Go.Proofs.YtnbkcalodmggaaaGreatDoor
namespace Go.Proofs.YtnbkcalodmggaaaGreatDoor
open Go.RowKit

theorem eDn (w : World) (n : Nat) : Ext w (w.drewN n) := by
  induction n with
  | zero => exact Below.refl _ _
  | succ n ih => exact Below.drew ih

def NoDupK (l : List Attr) (k m : Nat) : Prop := ∀ i j, Seen k m i j -> nmA l j ≠ nmA l i
theorem NoDupK.start (l : List Attr) : NoDupK l 0 0 := fun i j h => by obtain ⟨_, h | h⟩ := h <;> omega
theorem NoDupK.up {l : List Attr} {k : Nat} (h : NoDupK l k k) : NoDupK l (k + 1) 0 := fun i j hs => h i j (by unfold Seen at hs ⊢; omega)
theorem NoDupK.step {l : List Attr} {k m : Nat} (h : NoDupK l k m) (hm : m < k) (d : nmA l m ≠ nmA l k) : NoDupK l k (m + 1) := fun i j hs => by
  rcases (seen_succ hm).1 hs with hs | ⟨rfl, rfl⟩
  · exact h i j hs
  · exact d
def AscK (l : List Attr) (k : Nat) : Prop := ∀ i, i + 1 < k -> ¬ nmA l (i + 1) < nmA l i
theorem not_lt_trans' {a b c : List UInt8} (h1 : ¬ b < a) (h2 : ¬ c < b) : ¬ c < a := by
  intro h
  rcases Std.lt_trichotomy a b with x | x | x
  · exact h2 (List.lt_trans h x)
  · subst x; exact h2 h
  · exact h1 x
theorem AscK.all {l : List Attr} {k : Nat} (h : AscK l k) : ∀ i j, j < i -> i < k -> ¬ nmA l i < nmA l j := by
  intro i
  induction i with
  | zero => intro j hj; omega
  | succ i ih =>
    intro j hj hi
    by_cases e : j = i
    · subst e; exact h j hi
    · exact not_lt_trans' (ih j (by omega) (by omega)) (h i hi)
theorem chk_ref {l : List Attr} (h : ¬ 6 < l.length) (h1 : firstE l = 0) (hd : NoDupK l l.length 0) : ∀ (s : Bool), (s = true -> AscK l l.length) -> (s = false -> ∃ i, i + 1 < l.length /\ nmA l (i + 1) < nmA l i) ->
    chkE l = if s = true then (if 288 < sizeA l then 5 else 0) else 6 := by
  intro s hs hn
  cases s
  · obtain ⟨i, hi, hlt⟩ := hn rfl
    refine (chk_end (o := 6) h h1 ⟨hd, .inr ⟨rfl, i + 1, i, ⟨by omega, .inl hi⟩, hlt⟩⟩).trans ?_
    rw [if_neg (by decide), if_neg (by decide)]
  · refine (chk_end (o := 0) h h1 ⟨hd, .inl ⟨rfl, fun i j hsn => (hs rfl).all i j hsn.1 (by unfold Seen at hsn; omega)⟩⟩).trans ?_
    rw [if_pos rfl, if_pos rfl]

end Go.Proofs.YtnbkcalodmggaaaGreatDoor
namespace Go.Proofs.YtnbkcalodmggaaaGreatDoor
open Go.RowKit

def leA (a b : Attr) : Prop := ¬ L b.1 < L a.1
def putA : List Attr -> Attr -> List Attr
  | [], x => [x]
  | a :: r, x => if L a.1 < L x.1 then a :: putA r x else x :: a :: r
def srtA (l : List Attr) : List Attr := l.foldl putA []
theorem putA_perm (l : List Attr) (x : Attr) : (putA l x).Perm (x :: l) := by
  induction l with
  | nil => exact List.Perm.refl _
  | cons a r ih =>
    unfold putA; split
    · exact (ih.cons a).trans (List.Perm.swap x a r)
    · exact List.Perm.refl _
theorem foldl_putA_perm (l acc : List Attr) : (l.foldl putA acc).Perm (acc ++ l) := by
  induction l generalizing acc with
  | nil => simp
  | cons x r ih =>
    rw [List.foldl_cons]
    refine (ih _).trans ?_
    have h1 : (putA acc x ++ r).Perm ((x :: acc) ++ r) := (putA_perm acc x).append_right r
    refine h1.trans ?_
    rw [List.cons_append]
    exact List.perm_middle.symm
theorem srtA_perm (l : List Attr) : (srtA l).Perm l := by
  have := foldl_putA_perm l []; simpa [srtA] using this
theorem leA_trans {a b c : Attr} (h1 : leA a b) (h2 : leA b c) : leA a c := not_lt_trans' h1 h2
theorem leA_of_lt {a b : Attr} (h : L a.1 < L b.1) : leA a b := fun k => List.lt_irrefl _ (List.lt_trans h k)
theorem putA_sorted {l : List Attr} (h : l.Pairwise leA) (x : Attr) : (putA l x).Pairwise leA := by
  induction l with
  | nil => simp [putA]
  | cons a r ih =>
    obtain ⟨h1, h2⟩ := List.pairwise_cons.1 h
    unfold putA; split
    · rename_i hlt
      refine List.pairwise_cons.2 ⟨fun b hb => ?_, ih h2⟩
      have := (putA_perm r x).mem_iff.1 hb
      rcases List.mem_cons.1 this with rfl | hm
      · exact leA_of_lt hlt
      · exact h1 b hm
    · rename_i hlt
      refine List.pairwise_cons.2 ⟨fun b hb => ?_, h⟩
      rcases List.mem_cons.1 hb with rfl | hm
      · exact hlt
      · exact leA_trans (b := a) hlt (h1 b hm)
theorem foldl_putA_sorted (l acc : List Attr) (h : acc.Pairwise leA) : (l.foldl putA acc).Pairwise leA := by
  induction l generalizing acc with
  | nil => exact h
  | cons x r ih => exact ih _ (putA_sorted h x)
theorem srtA_sorted (l : List Attr) : (srtA l).Pairwise leA := foldl_putA_sorted l [] List.Pairwise.nil

def Dist (l : List Attr) : Prop := l.Pairwise fun a b => L a.1 ≠ L b.1
theorem eq_of_name {l : List Attr} (h : Dist l) {a b : Attr} (ha : a ∈ l) (hb : b ∈ l) (e : L a.1 = L b.1) : a = b := by
  induction l with
  | nil => cases ha
  | cons x r ih =>
    obtain ⟨h1, h2⟩ := List.pairwise_cons.1 h
    rcases List.mem_cons.1 ha with ea | ha <;> rcases List.mem_cons.1 hb with eb | hb
    · rw [ea, eb]
    · exact absurd (ea ▸ e) (h1 b hb)
    · exact absurd (eb ▸ e.symm) (h1 a ha)
    · exact ih h2 ha hb
theorem sorted_unique {l m : List Attr} (hd : Dist l) (hp : m.Perm l) (hs : m.Pairwise leA) (l' : List Attr) (hp' : l'.Perm l) (hs' : l'.Pairwise leA) : m = l' := by
  refine List.Perm.eq_of_pairwise (le := leA) (fun a b ha hb h1 h2 => ?_) hs hs' (hp.trans hp'.symm)
  refine eq_of_name hd (hp.mem_iff.1 ha) (hp'.mem_iff.1 hb) ?_
  rcases Std.lt_trichotomy (L a.1) (L b.1) with x | x | x
  · exact absurd x h2
  · exact x
  · exact absurd x h1
theorem srt_of {l m : List Attr} (hd : Dist l) (hp : m.Perm l) (hs : m.Pairwise leA) : m = srtA l := sorted_unique hd hp hs _ (srtA_perm l) (srtA_sorted l)
theorem Dist.perm {l m : List Attr} (h : Dist l) (hp : m.Perm l) : Dist m := (hp.pairwise_iff (fun h => Ne.symm h)).2 h
theorem dist_of_dupB {l : List Attr} (h : dupB l = false) : Dist l := by
  unfold Dist
  rw [List.pairwise_iff_getElem]
  intro i j hi hj hij e
  have : dupB l = true := dupB_iff.2 ⟨j, i, hij, hj, by rw [nmA_at l i hi, nmA_at l j hj]; exact e⟩
  rw [h] at this; cases this
theorem dist_of_chk {l : List Attr} (h : chkE l = 0) : Dist l := by
  apply dist_of_dupB
  unfold chkE at h
  split at h
  · cases h
  · split at h
    · rename_i h2; rw [h] at h2; exact absurd rfl h2
    · split at h
      · cases h
      · rename_i h3; exact Bool.eq_false_iff.2 h3
theorem chk_len {l : List Attr} (h : chkE l = 0) : l.length <= 6 := by
  unfold chkE at h
  split at h
  · cases h
  · omega
end Go.Proofs.YtnbkcalodmggaaaGreatDoor
namespace Go.Proofs.YtnbkcalodmggaaaGreatDoor
open Go.RowKit

theorem extract_le (s : ByteArray) (k : Nat) : (s.extract k s.size).size <= s.size := by
  have := size_L s; rw [size_L, L_drop, List.length_drop]; omega
end Go.Proofs.YtnbkcalodmggaaaGreatDoor
