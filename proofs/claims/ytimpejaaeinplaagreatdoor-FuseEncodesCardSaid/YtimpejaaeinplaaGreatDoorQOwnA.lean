/- OwnA Cod -/
import Derived.Test.YtimpejaaeinplaaGreatDoorQI2
import Derived.Test.YtimpejaaeinplaaGreatDoorQBase
namespace Go.Proofs.YtimpejaaeinplaaGreatDoor
open Go.RowKit

theorem slAttr : SlT Tryz.prog 38 45 2 32 (.agg #[.string ⟨#[]⟩, .string ⟨#[]⟩]) where
  und := Tryz.underlying38
  info := info_parts (by kernel_rfl)
  zs := rfl
  pos := by decide
  small := by decide
theorem keepBut_grown {w w' : World} {row : Option Nat} (h : w.grownBy w' row) : KeepBut row w w' := fun _ _ hb hne => blk_grown h hb hne
theorem KeepBut.trans {row : Option Nat} {w w' w'' : World} (h : KeepBut row w w') (k : KeepBut row w' w'') : KeepBut row w w'' := fun b o hb hne => k b o (h b o hb hne) hne
theorem heap_some {w : World} {b : Nat} (h : b < w.heap.size) : ∃ o, w.heap[b]? = some o := ⟨_, Array.getElem?_eq_getElem h⟩
def TyA (w : World) (v : Value) : Prop := ∀ b, v.ownBlock = some b -> ∃ cs f, w.heap[b]? = some (.cells cs 45 f)
theorem TyA.ext {w w' : World} {v : Value} (h : TyA w v) (he : Ext w w') : TyA w' v := fun b hb => by obtain ⟨cs, f, h1⟩ := h b hb; exact ⟨cs, f, bX he h1⟩
def AttT (w : World) (v : Value) (l : List Attr) : Prop := AttrsAt w v l /\ TyA w v
theorem AttT.nil (w : World) (n c : Nat) (h : AttrsAt w (.slice none n c) []) : AttT w (.slice none n c) [] := ⟨h, fun b hb => by cases hb⟩
theorem AttT.ext {w w' : World} {v : Value} {l : List Attr} (h : AttT w v l) (he : Ext w w') : AttT w' v l := ⟨h.1.ext he, h.2.ext he⟩
theorem OwnA.att {B : Nat} {w : World} {v : Value} {l : List Attr} (h : OwnA B w v l) : AttT w v l := by
  refine ⟨h.at, fun b hb => ?_⟩
  rcases h.2 with ⟨rfl, _⟩ | ⟨g, cap, cur, rfl, _, hg, _⟩
  · cases hb
  · cases hb; exact ⟨cur, _, hg⟩
theorem cell_keep {row : Option Nat} {w w' : World} (h : KeepBut row w w') {b o : Nat} (hb : b < w.heap.size) (hne : row ≠ some b) : w'.cell? ⟨b, o, none⟩ = w.cell? ⟨b, o, none⟩ := by
  obtain ⟨x, hx⟩ := heap_some hb
  have := h b x hx hne
  simp only [World.cell?, hx, this]
theorem AttrsAt.keep {row : Option Nat} {w w' : World} {v : Value} {l : List Attr} (h : AttrsAt w v l) (hk : KeepBut row w w') (hs : w.heap.size <= w'.heap.size) (hne : row = none \/ v.ownBlock ≠ row) : AttrsAt w' v l := by
  obtain ⟨a, cap, rfl, hcap, hc⟩ := h
  refine ⟨a, cap, rfl, hcap, fun k hk' => ?_⟩
  obtain ⟨b, off, rfl, hb, h1, h2⟩ := hc k hk'
  have hne' : row ≠ some b := by
    rcases hne with rfl | hne
    · exact fun x => by cases x
    · exact fun x => hne (by rw [x]; rfl)
  exact ⟨b, off, rfl, Nat.lt_of_lt_of_le hb hs, by rw [cell_keep hk hb hne']; exact h1, by rw [cell_keep hk hb hne']; exact h2⟩
theorem AttT.keep {row : Option Nat} {w w' : World} {v : Value} {l : List Attr} (h : AttT w v l) (hk : KeepBut row w w') (hs : w.heap.size <= w'.heap.size) (hne : row = none \/ v.ownBlock ≠ row) : AttT w' v l := by
  refine ⟨h.1.keep hk hs hne, fun b hb => ?_⟩
  obtain ⟨cs, f, h1⟩ := h.2 b hb
  refine ⟨cs, f, hk _ _ h1 ?_⟩
  rcases hne with rfl | hne
  · exact fun x => by cases x
  · exact fun x => hne (by rw [x]; exact hb)
theorem OwnA.keep {B : Nat} {row : Option Nat} {w w' : World} {v : Value} {l : List Attr} (h : OwnA B w v l) (hk : KeepBut row w w') (hne : row = none \/ v.ownBlock ≠ row) : OwnA B w' v l := by
  refine ⟨h.1, ?_⟩
  rcases h.2 with ⟨h1, h2⟩ | ⟨g, cap, cur, rfl, hb, hg, h3⟩
  · exact .inl ⟨h1, h2⟩
  · refine .inr ⟨g, cap, cur, rfl, hb, hk _ _ hg ?_, h3⟩
    rcases hne with rfl | hne
    · exact fun x => by cases x
    · exact fun x => hne (by rw [x]; rfl)
theorem OwnA.ext {B : Nat} {w w' : World} {v : Value} {l : List Attr} (h : OwnA B w v l) (he : Ext w w') : OwnA B w' v l := h.keep (row := none) (fun _ _ hb _ => bX he hb) (.inl rfl)
theorem OwnA.form {B : Nat} {w : World} {v : Value} {l : List Attr} (h : OwnA B w v l) : ∃ a cap, v = .slice a l.length cap := by
  rcases h.2 with ⟨rfl, h0⟩ | ⟨g, cap, cur, rfl, _⟩
  · rw [h0]; exact ⟨_, _, rfl⟩
  · exact ⟨_, _, rfl⟩
theorem OwnA.addr {B n cap : Nat} {w : World} {a : Option Addr} {l : List Attr} (h : OwnA B w (.slice a n cap) l) (hl : 0 < l.length) : ∃ g, a = some ⟨g, 0, none⟩ /\ B <= g /\ g < w.heap.size /\ n = l.length := by
  rcases h.2 with ⟨h1, h0⟩ | ⟨g, cap', cur, h1, hb, hg, _⟩
  · omega
  · injection h1 with e1 e2 e3
    exact ⟨g, e1, hb, blk_lt hg, e2⟩
theorem OwnA.frozen {B n cap g : Nat} {w : World} {l : List Attr} (h : OwnA B w (.slice (some ⟨g, 0, none⟩) n cap) l) (j : Nat) : w.frozen? ⟨g, j, none⟩ = false := by
  obtain ⟨a, c, he⟩ := h.form
  injection he with _ e2 _
  subst e2
  exact World.ownsRow.frozenAt h j
theorem attC_set (l : List Attr) (k : Nat) (hk : k < l.length) (s : ByteArray) : (attC l).set (k * 2) (.string s) = attC (l.set k (s, (l[k]'hk).2)) := by
  induction l generalizing k with
  | nil => simp at hk
  | cons a r ih =>
    cases k with
    | zero => rfl
    | succ k =>
      rw [List.set_cons_succ, attC_cons, attC_cons, show (k + 1) * 2 = k * 2 + 1 + 1 by omega, List.set_cons_succ, List.set_cons_succ, ih k (by simpa using hk)]
      rfl
theorem OwnA.store {B n cap g : Nat} {w : World} {l : List Attr} (h : OwnA B w (.slice (some ⟨g, 0, none⟩) n cap) l) (k : Nat) (hk : k < l.length) (s : ByteArray) :
    OwnA B (w.setCell ⟨g, k * 2, none⟩ (.string s)) (.slice (some ⟨g, 0, none⟩) n cap) (l.set k (s, (l[k]'hk).2)) /\ w.grownBy (w.setCell ⟨g, k * 2, none⟩ (.string s)) (some g) := by
  obtain ⟨_, h1, _, _, rfl⟩ := h.addr (by omega)
  have hh : w.ownsRow B 45 2 (.slice (some ⟨g, 0, none⟩) l.length cap) l.length (attC l) := h
  have h2 := hh.stored (k * 2) (.string s)
  refine ⟨?_, h2.2⟩
  unfold OwnA
  rw [<- attC_set l k hk s, List.length_set]
  exact h2.1
theorem OwnA.nil (B : Nat) (w : World) : OwnA B w (.slice none 0 0) [] := World.ownsRow_nil _ _ _ _
theorem OwnA.le {B B' : Nat} {w : World} {v : Value} {l : List Attr} (h : OwnA B w v l) (hb : B' <= B) : OwnA B' w v l := ⟨h.1, h.2.imp_right fun ⟨g, cap, cur, h1, h2, h3⟩ => ⟨g, cap, cur, h1, Nat.le_trans hb h2, h3⟩⟩
theorem AttrsAt.take {w : World} {a : Option Addr} {n cap : Nat} {l : List Attr} (h : AttrsAt w (.slice a n cap) l) (i : Nat) (hi : i <= l.length) : AttrsAt w (.slice a i cap) (l.take i) := by
  obtain ⟨a', cap', he, hcap, hc⟩ := h
  cases he
  refine ⟨a, cap, by rw [List.length_take, Nat.min_eq_left hi], by rw [List.length_take]; omega, fun k hk => ?_⟩
  have hk' : k < l.length := by rw [List.length_take] at hk; omega
  obtain ⟨b, off, h0, h1, h2, h3⟩ := hc k hk'
  exact ⟨b, off, h0, h1, by rw [List.getElem_take]; exact h2, by rw [List.getElem_take]; exact h3⟩

theorem run_appA (ty : TypeId) (B : Nat) (v x : Value) (l1 l2 : List Attr) (w : World) (h1 : OwnA B w v l1) (h2 : AttrsAt w x l2) (hB : B <= w.heap.size) (hl : l1.length + l2.length <= 1000) :
    ∃ v' w', (Builtin.append_ #[38, 38] ty #[v, x]).run Tryz.prog w = .ok v' w' /\ OwnA B w' v' (l1 ++ l2) /\ w.grownBy w' v.ownBlock /\ (v'.ownBlock = v.ownBlock \/ v'.ownBlock = some w.heap.size) := by
  obtain ⟨i, hi, hz, h3, h4⟩ := slAttr.info
  obtain ⟨a, cap, rfl, hcap, hc⟩ := h2
  cases a with
  | none =>
    obtain rfl : l2 = [] := by
      cases l2 with
      | nil => rfl
      | cons y r => obtain ⟨b, off, h0, _⟩ := hc 0 (by simp); cases h0
    refine ⟨v, w, ?_, by rw [List.append_nil]; exact h1, ⟨rfl, rfl, rfl, Nat.le_refl _, fun _ _ _ => rfl⟩, .inl rfl⟩
    rcases h1.2 with ⟨rfl, h0⟩ | ⟨g, cap', cur, rfl, _, _, hnc, _⟩
    · simp [Builtin.append_, run_underlying slAttr.und, sizeOf, typeInfo, hi, Builtin.lenOf, Builtin.firstCells]
    · simp [Builtin.append_, run_underlying slAttr.und, sizeOf, typeInfo, hi, Builtin.lenOf, Builtin.firstCells, hnc, storeCells]
  | some ad =>
    have hcell : ∀ j u, (attC l2)[j]? = some u -> w.cell? (ad.add j) = some u := by
      intro j u hj
      rw [attC_get] at hj
      rcases Nat.lt_or_ge (j / 2) l2.length with hk | hk
      · rw [List.getElem?_eq_getElem hk] at hj
        obtain ⟨b, off, h0, hb, c1, c2⟩ := hc (j / 2) hk
        cases h0
        have hm : j % 2 = 0 \/ j % 2 = 1 := by omega
        rcases hm with hm | hm
        · rw [hm] at hj
          have : u = .string l2[j / 2].1 := by simpa [encA] using hj.symm
          rw [this, <- c1]
          show w.cell? (Addr.add _ _) = _
          rw [Addr.add_lit, show off + j = off + j / 2 * 2 by omega]
        · rw [hm] at hj
          have : u = .string l2[j / 2].2 := by simpa [encA] using hj.symm
          rw [this, <- c2]
          rw [Addr.add_lit, show off + j = off + j / 2 * 2 + 1 by omega]
      · rw [List.getElem?_eq_none hk] at hj; cases hj
    have hone : ∀ u ∈ attC l2, u.oneCell' = true := by
      intro u hu
      obtain ⟨y, _, hy⟩ := List.mem_flatMap.1 hu
      simp [encA] at hy
      rcases hy with rfl | rfl <;> rfl
    obtain ⟨v', w', hr, ho, hg, _, hlies⟩ := run_append_own_at (P := Tryz.prog) (w := w) B 38 ty 45 i _ 2 32 slAttr.und hi hz h3 h4 slAttr.zs slAttr.pos v l1.length (attC l1) h1 ad l2.length cap (attC l2) (attC_length l2) hcell hone (by unfold maxLen; omega) (by omega) hB
    refine ⟨v', w', hr, ?_, hg, hlies⟩
    unfold OwnA; rw [List.length_append, attC_append]; exact ho
structure AppA (B : Nat) (v v' : Value) (l : List Attr) (W0 w w' : World) : Prop where
  own : OwnA B w' v' l
  below : Below B W0 w'
  keep : KeepBut v.ownBlock w w'
  lies : v'.ownBlock = v.ownBlock \/ v'.ownBlock = some w.heap.size
  size : w.heap.size <= w'.heap.size
section
variable {o : Oper} {a : Act} {K : Act -> World -> Prop} {Q : Exit -> Act -> World -> Prop}
theorem wp_appA (s x : Operand) (ho : o.op = .call { callee := .builtin .append, args := #[s, x], argTypes := #[38, 38] })
    (B : Nat) (v xv : Value) (l1 l2 : List Attr) (W0 w : World) (hs : a.eval s = v) (hx : a.eval x = xv) (h1 : OwnA B w v l1) (h2 : AttrsAt w xv l2) (hb : Below B W0 w) (hB : B <= w.heap.size) (hl : l1.length + l2.length <= 1000)
    (h : ∀ v' w', AppA B v v' (l1 ++ l2) W0 w w' -> K (a.put o.dst v') w') : o.wp Tryz.prog a w K Q := by
  obtain ⟨v', w', hr, h3, h4, h5⟩ := run_appA o.type B v xv l1 l2 w h1 h2 hB hl
  unfold Oper.wp execOp
  simp only [ho, resolve, invoke, builtin, Sem.run_bind, Sem.run_pure, Result.andThen_ok, List.map_toArray, List.map_cons, List.map_nil, hs, hx, hr]
  exact h v' w' ⟨h3, below_grown hb h1 (Nat.le_refl _) hB h4, keepBut_grown h4, h5, h4.size⟩
theorem appA {ops : Array Oper} {rest : List Oper} (hgd : o.guard = none) (s x : Operand) (ho : o.op = .call { callee := .builtin .append, args := #[s, x], argTypes := #[38, 38] })
    (B : Nat) (v xv : Value) (l1 l2 : List Attr) (W0 w : World) (hs : a.eval s = v) (hx : a.eval x = xv) (h1 : OwnA B w v l1) (h2 : AttrsAt w xv l2) (hb : Below B W0 w) (hB : B <= w.heap.size) (hl : l1.length + l2.length <= 1000)
    (h : ∀ v' w', AppA B v v' (l1 ++ l2) W0 w w' -> wpList Tryz.prog ops Q rest (a.put o.dst v') w') : wpList Tryz.prog ops Q (o :: rest) a w :=
  wpList_plain hgd fun _ hK => wp_appA s x ho B v xv l1 l2 W0 w hs hx h1 h2 hb hB hl fun v' w' h3 => hK _ _ (h v' w' h3)
theorem stepA {ops : Array Oper} {E : Prop} (hgd : o.guard = none) (s x : Operand) (ho : o.op = .call { callee := .builtin .append, args := #[s, x], argTypes := #[38, 38] })
    (B : Nat) (v xv : Value) (l1 l2 : List Attr) (W0 w : World) (hs : a.eval s = v) (hx : a.eval x = xv) (h1 : OwnA B w v l1) (h2 : AttrsAt w xv l2) (hb : Below B W0 w) (hB : B <= w.heap.size) (hl : l1.length + l2.length <= 1000)
    (h : ∀ v' w', AppA B v v' (l1 ++ l2) W0 w w' -> K (a.put o.dst v') w') : if Region.wanted o (yielded ops a.tmps) = true then Oper.wp Tryz.prog o a w K Q else E := by
  have hw : Region.wanted o (yielded ops a.tmps) = true := by simp [Region.wanted, hgd]
  rw [if_pos hw]
  exact wp_appA s x ho B v xv l1 l2 W0 w hs hx h1 h2 hb hB hl h
end
theorem OwnA.fresh (w : World) (_c : Nat) : OwnA w.heap.size (w.alloc (.cells #[] 45)) (.slice (some ⟨w.heap.size, 0, none⟩) 0 0) [] :=
  World.ownsRow_lit w #[] 0 (Nat.le_refl _) (Nat.zero_le _) rfl
theorem attrsAt_new (w : World) (x : Attr) : AttrsAt (w.alloc (.cells #[.string x.1, .string x.2] 45)) (.slice (some ⟨w.heap.size, 0, none⟩) 1 1) [x] := by
  refine ⟨_, _, rfl, by simp, fun k hk => ?_⟩
  obtain rfl : k = 0 := by simp at hk; omega
  exact ⟨w.heap.size, 0, rfl, by simp, bC (bN w _) _, bC (bN w _) _⟩

end Go.Proofs.YtimpejaaeinplaaGreatDoor
namespace Go.Proofs.YtimpejaaeinplaaGreatDoor
open Go.RowKit

def RowAt (w : World) (b off : Nat) (cs : List Value) : Prop := ∀ j c, cs[j]? = some c -> w.cell? ⟨b, off + j, none⟩ = some c
def lenV : Value -> Nat
  | .slice _ n _ => n
  | _ => 0
def Nb (B : Nat) (w : World) (v : Value) (e : TypeId) : Prop := 0 < lenV v -> ∀ b, v.ownBlock = some b -> b < B \/ ∃ cs f, w.heap[b]? = some (.cells cs e f)
structure Chg (B : Nat) (E : TypeId) (row : Option Nat) (w w' : World) : Prop where
  keep : KeepBut row w w'
  size : w.heap.size <= w'.heap.size
  isrow : ∀ g, row = some g -> B <= g /\ ∃ c f, w.heap[g]? = some (.cells c E f)
theorem Chg.of_ext {w w' : World} (h : Ext w w') (B : Nat) (E : TypeId) : Chg B E none w w' := ⟨fun _ _ hb _ => bX h hb, h.size, fun g hg => by cases hg⟩
theorem Nb.chg {B : Nat} {w w' : World} {v : Value} {e E : TypeId} {row : Option Nat} (h : Nb B w v e) (c : Chg B E row w w') (hE : E ≠ e) : Nb B w' v e := by
  intro h0 b hb
  rcases h h0 b hb with h1 | ⟨cs, f, h1⟩
  · exact .inl h1
  · refine .inr ⟨cs, f, c.keep _ _ h1 ?_⟩
    rintro rfl
    obtain ⟨_, c', f', h2⟩ := c.isrow b rfl
    rw [h1] at h2; cases h2; exact hE rfl
theorem Nb.ext {B : Nat} {w w' : World} {v : Value} {e : TypeId} (h : Nb B w v e) (he : Ext w w') : Nb B w' v e := h.chg (Chg.of_ext he B (e + 1)) (Nat.succ_ne_self e)
theorem Nb.ne {B : Nat} {w w' : World} {v : Value} {e E : TypeId} {row : Option Nat} (h : Nb B w v e) (h0 : 0 < lenV v) (c : Chg B E row w w') (hE : E ≠ e) : row = none \/ v.ownBlock ≠ row := by
  cases row with
  | none => exact .inl rfl
  | some g =>
    refine .inr fun hv => ?_
    obtain ⟨h1, c', f', h2⟩ := c.isrow g rfl
    rcases h h0 g hv with h3 | ⟨cs, f, h3⟩
    · omega
    · rw [h2] at h3; cases h3; exact hE rfl
theorem Nb.mono {B B' : Nat} {w : World} {v : Value} {e : TypeId} (h : Nb B w v e) (hB : B <= B') : Nb B' w v e := fun h0 b hb => (h h0 b hb).imp_left (fun x => Nat.lt_of_lt_of_le x hB)
theorem Nb.nil (B : Nat) (w : World) (n c : Nat) (e : TypeId) : Nb B w (.slice none n c) e := fun _ b hb => by cases hb
theorem Nb.own {B B' e size n : Nat} {w : World} {v : Value} {xs : List Value} (h : w.ownsRow B e size v n xs) : Nb B' w v e := by
  intro _ b hb
  rcases h.2 with ⟨rfl, _⟩ | ⟨g, cap, cur, rfl, _, hg, _⟩
  · cases hb
  · cases hb; exact .inr ⟨cur, _, hg⟩

structure Cd (α : Type) where
  t : TypeId
  e : TypeId
  n : Nat
  bytes : Nat
  z : Value
  inner : List TypeId
  R : Nat -> World -> α -> List Value -> Prop
structure CdOk (P : Program) {α : Type} (C : Cd α) : Prop where
  sl : SlT P C.t C.e C.n C.bytes C.z
  len : ∀ {B w x cs}, C.R B w x cs -> cs.length = C.n
  one : ∀ {B w x cs}, C.R B w x cs -> ∀ u ∈ cs, u.oneCell' = true
  chg : ∀ {B w w' x cs E row}, C.R B w x cs -> Chg B E row w w' -> E ∉ C.inner -> C.R B w' x cs
  mono : ∀ {B B' w x cs}, B <= B' -> C.R B w x cs -> C.R B' w x cs
  self : C.e ∉ C.inner
def ListIn {α : Type} (C : Cd α) (B : Nat) (w : World) (v : Value) (l : List α) : Prop :=
  ∃ a cap, v = .slice a l.length cap /\ l.length <= cap /\ Nb B w v C.e /\ ∀ k (h : k < l.length), ∃ b off cs, a = some ⟨b, off, none⟩ /\ b < w.heap.size /\ C.R B w (l[k]'h) cs /\ RowAt w b (off + k * C.n) cs
def OwnL {α : Type} (C : Cd α) (B : Nat) (w : World) (v : Value) (l : List α) : Prop :=
  ∃ css : List (List Value), css.length = l.length /\ (∀ k (h : k < l.length) (h' : k < css.length), C.R B w (l[k]'h) (css[k]'h')) /\ w.ownsRow B C.e C.n v l.length css.flatten

theorem flat_get {n : Nat} {css : List (List Value)} (h : ∀ cs ∈ css, cs.length = n) (k j : Nat) (hj : j < n) : css.flatten[k * n + j]? = css[k]?.bind (·[j]?) := by
  induction css generalizing k with
  | nil => simp
  | cons c r ih =>
    have hc := h c (by simp)
    rw [List.flatten_cons]
    cases k with
    | zero => rw [Nat.zero_mul, Nat.zero_add, List.getElem?_append_left (by omega)]; rfl
    | succ k =>
      rw [List.getElem?_append_right (by rw [hc, Nat.succ_mul]; omega), hc, show (k + 1) * n + j - n = k * n + j by rw [Nat.succ_mul]; omega, ih (fun cs hcs => h cs (by simp [hcs])) k]
      rfl
theorem flat_set {n : Nat} {css : List (List Value)} (h : ∀ cs ∈ css, cs.length = n) (k j : Nat) (hj : j < n) (hk : k < css.length) (u : Value) : css.flatten.set (k * n + j) u = (css.set k ((css[k]'hk).set j u)).flatten := by
  induction css generalizing k with
  | nil => simp at hk
  | cons c r ih =>
    have hc := h c (by simp)
    cases k with
    | zero => rw [Nat.zero_mul, Nat.zero_add, List.flatten_cons, List.set_append_left _ _ (by omega)]; rfl
    | succ k =>
      rw [List.flatten_cons, List.set_append_right _ _ (by rw [hc, Nat.succ_mul]; omega), hc, show (k + 1) * n + j - n = k * n + j by rw [Nat.succ_mul]; omega, ih (fun cs hcs => h cs (by simp [hcs])) k (by simpa using hk)]
      rfl
theorem flat_length {n : Nat} {css : List (List Value)} (h : ∀ cs ∈ css, cs.length = n) : css.flatten.length = css.length * n := by
  induction css with
  | nil => simp
  | cons c r ih => rw [List.flatten_cons, List.length_append, h c (by simp), ih (fun cs hcs => h cs (by simp [hcs])), List.length_cons, Nat.succ_mul]; omega

section
variable {P : Program} {α : Type} {C : Cd α} {B B' : Nat} {w w' : World} {v : Value} {l : List α}
theorem ListIn.chg {E : TypeId} {row : Option Nat} (h : ListIn C B w v l) (k : CdOk P C) (c : Chg B E row w w') (h1 : E ≠ C.e) (h2 : E ∉ C.inner) : ListIn C B w' v l := by
  obtain ⟨a, cap, rfl, hcap, hn, hc⟩ := h
  refine ⟨a, cap, rfl, hcap, hn.chg c h1, fun i hi => ?_⟩
  obtain ⟨b, off, cs, rfl, hb, hr, hrow⟩ := hc i hi
  refine ⟨b, off, cs, rfl, Nat.lt_of_lt_of_le hb c.size, k.chg hr c h2, fun j u hj => ?_⟩
  rw [cell_keep c.keep hb ?_]
  · exact hrow j u hj
  · rcases hn.ne (show 0 < l.length by omega) c h1 with rfl | h3
    · exact fun x => by cases x
    · exact fun x => h3 (by rw [x]; rfl)
theorem ListIn.ext (h : ListIn C B w v l) (k : CdOk P C) (he : Ext w w') : ListIn C B w' v l := by
  obtain ⟨a, cap, rfl, hcap, hn, hc⟩ := h
  refine ⟨a, cap, rfl, hcap, hn.ext he, fun i hi => ?_⟩
  obtain ⟨b, off, cs, rfl, hb, hr, hrow⟩ := hc i hi
  exact ⟨b, off, cs, rfl, Nat.lt_of_lt_of_le hb he.size, k.chg hr (Chg.of_ext he B C.e) k.self, fun j u hj => by rw [ext_cell he hb]; exact hrow j u hj⟩
theorem ListIn.mono (h : ListIn C B w v l) (k : CdOk P C) (hB : B <= B') : ListIn C B' w v l := by
  obtain ⟨a, cap, rfl, hcap, hn, hc⟩ := h
  refine ⟨a, cap, rfl, hcap, hn.mono hB, fun i hi => ?_⟩
  obtain ⟨b, off, cs, h1, h2, h3, h4⟩ := hc i hi
  exact ⟨b, off, cs, h1, h2, k.mono hB h3, h4⟩
theorem ListIn.nil (C : Cd α) (B : Nat) (w : World) (c : Nat) : ListIn C B w (.slice none 0 c) [] := ⟨none, c, rfl, Nat.zero_le _, Nb.nil _ _ _ _ _, fun k hk => absurd hk (by simp)⟩
theorem ListIn.form (h : ListIn C B w v l) : ∃ a cap, v = .slice a l.length cap := by obtain ⟨a, cap, h, _⟩ := h; exact ⟨a, cap, h⟩
theorem OwnL.lens (k : CdOk P C) {css : List (List Value)} (hl : css.length = l.length) (hR : ∀ k (h : k < l.length) (h' : k < css.length), C.R B w (l[k]'h) (css[k]'h')) : ∀ cs ∈ css, cs.length = C.n := by
  intro cs hcs
  obtain ⟨i, hi, rfl⟩ := List.getElem_of_mem hcs
  exact k.len (hR i (by omega) hi)
theorem OwnL.in (h : OwnL C B w v l) (k : CdOk P C) : ListIn C B w v l := by
  obtain ⟨css, hl, hR, ho⟩ := h
  have hlen := OwnL.lens k hl hR
  have ho' := ho
  rcases ho.2 with ⟨rfl, h0⟩ | ⟨g, cap, cur, rfl, hb, hg, hnc, _⟩
  · obtain rfl : l = [] := List.length_eq_zero_iff.1 h0
    exact ListIn.nil _ _ _ _
  · refine ⟨_, _, rfl, hnc, Nb.own ho', fun i hi => ⟨g, 0, css[i]'(by omega), rfl, blk_lt hg, hR i hi (by omega), fun j u hj => ?_⟩⟩
    have hj' : j < C.n := by
      have := hlen _ (List.getElem_mem (show i < css.length by omega))
      have := (List.getElem?_eq_some_iff.1 hj).1; omega
    have h2 : i * C.n + j < l.length * C.n := by
      have : (i + 1) * C.n <= l.length * C.n := Nat.mul_le_mul_right _ hi
      rw [Nat.succ_mul] at this; omega
    have := World.ownsRow.cellAt ho' (i * C.n + j) h2
    rw [Nat.zero_add, this, flat_get hlen i j hj', List.getElem?_eq_getElem (show i < css.length by omega)]
    exact hj
theorem OwnL.nil (C : Cd α) (B : Nat) (w : World) : OwnL C B w (.slice none 0 0) [] := ⟨[], rfl, fun k hk => absurd hk (by simp), World.ownsRow_nil _ _ _ _⟩
theorem OwnL.fresh (C : Cd α) (w : World) : OwnL C w.heap.size (w.alloc (.cells #[] C.e)) (.slice (some ⟨w.heap.size, 0, none⟩) 0 0) [] :=
  ⟨[], rfl, fun k hk => absurd hk (by simp), World.ownsRow_lit w #[] 0 (Nat.le_refl _) (Nat.zero_le _) (by simp)⟩
theorem OwnL.chg {E : TypeId} {row : Option Nat} (h : OwnL C B w v l) (k : CdOk P C) (c : Chg B E row w w') (h2 : E ∉ C.inner) (hne : row = none \/ v.ownBlock ≠ row) : OwnL C B w' v l := by
  obtain ⟨css, hl, hR, ho⟩ := h
  refine ⟨css, hl, fun i hi hi' => k.chg (hR i hi hi') c h2, ho.1, ?_⟩
  rcases ho.2 with h1 | ⟨g, cap, cur, rfl, hb, hg, h3⟩
  · exact .inl h1
  · refine .inr ⟨g, cap, cur, rfl, hb, c.keep _ _ hg ?_, h3⟩
    rcases hne with rfl | hne
    · exact fun x => by cases x
    · exact fun x => hne (by rw [x]; rfl)
theorem OwnL.ext (h : OwnL C B w v l) (k : CdOk P C) (he : Ext w w') : OwnL C B w' v l := h.chg k (Chg.of_ext he B C.e) k.self (.inl rfl)
theorem OwnL.other {E : TypeId} {row : Option Nat} (h : OwnL C B w v l) (k : CdOk P C) (c : Chg B E row w w') (h1 : E ≠ C.e) (h2 : E ∉ C.inner) : OwnL C B w' v l := by
  obtain ⟨css, hl, hR, ho⟩ := h
  refine OwnL.chg ⟨css, hl, hR, ho⟩ k c h2 ?_
  cases row with
  | none => exact .inl rfl
  | some g =>
    refine .inr fun hv => ?_
    obtain ⟨_, c', f', h3⟩ := c.isrow g rfl
    rcases ho.2 with ⟨rfl, _⟩ | ⟨g', cap, cur, rfl, _, hg, _⟩
    · cases hv
    · cases hv; rw [h3] at hg; cases hg; exact h1 rfl
theorem OwnL.le (h : OwnL C B w v l) (_k : CdOk P C) (hk : ∀ i (h : i < l.length) cs, C.R B w (l[i]'h) cs -> C.R B' w (l[i]'h) cs) (hB : B' <= B) : OwnL C B' w v l := by
  obtain ⟨css, hl, hR, ho⟩ := h
  exact ⟨css, hl, fun i hi hi' => hk i hi _ (hR i hi hi'), ho.1, ho.2.imp_right fun ⟨g, cap, cur, h1, h2, h3⟩ => ⟨g, cap, cur, h1, Nat.le_trans hB h2, h3⟩⟩
theorem OwnL.form (h : OwnL C B w v l) : ∃ a cap, v = .slice a l.length cap := by
  obtain ⟨css, _, _, ho⟩ := h
  rcases ho.2 with ⟨rfl, h0⟩ | ⟨g, cap, cur, rfl, _⟩
  · rw [h0]; exact ⟨_, _, rfl⟩
  · exact ⟨_, _, rfl⟩
theorem OwnL.addr {n cap : Nat} {a : Option Addr} (h : OwnL C B w (.slice a n cap) l) (hl : 0 < l.length) : ∃ g, a = some ⟨g, 0, none⟩ /\ B <= g /\ g < w.heap.size /\ n = l.length := by
  obtain ⟨css, _, _, ho⟩ := h
  rcases ho.2 with ⟨h1, h0⟩ | ⟨g, cap', cur, h1, hb, hg, _⟩
  · omega
  · injection h1 with e1 e2 e3
    exact ⟨g, e1, hb, blk_lt hg, e2⟩
theorem OwnL.frozen {n cap g : Nat} (h : OwnL C B w (.slice (some ⟨g, 0, none⟩) n cap) l) (j : Nat) : w.frozen? ⟨g, j, none⟩ = false := by
  obtain ⟨a, c, he⟩ := h.form
  injection he with _ e2 _
  subst e2
  obtain ⟨css, _, _, ho⟩ := h
  exact World.ownsRow.frozenAt ho j
theorem OwnL.row (h : OwnL C B w v l) {row : Option Nat} (hr : v.ownBlock = row) : ∀ g, row = some g -> B <= g /\ ∃ c f, w.heap[g]? = some (.cells c C.e f) := by
  obtain ⟨css, _, _, ho⟩ := h
  intro g hg
  rcases ho.2 with ⟨rfl, _⟩ | ⟨g', cap, cur, rfl, hb, hgg, _⟩
  · rw [hg] at hr; cases hr
  · rw [hg] at hr; cases hr; exact ⟨hb, _, _, hgg⟩
theorem OwnL.store {n cap g : Nat} (h : OwnL C B w (.slice (some ⟨g, 0, none⟩) n cap) l) (K : CdOk P C) (k : Nat) (hk : k < l.length) (j : Nat) (hj : j < C.n) (u : Value) (x : α) (hx : ∀ cs, C.R B w (l[k]'hk) cs -> C.R B w x (cs.set j u)) :
    OwnL C B (w.setCell ⟨g, k * C.n + j, none⟩ u) (.slice (some ⟨g, 0, none⟩) n cap) (l.set k x) /\ w.grownBy (w.setCell ⟨g, k * C.n + j, none⟩ u) (some g) /\ Chg B C.e (some g) w (w.setCell ⟨g, k * C.n + j, none⟩ u) := by
  obtain ⟨_, h1, _, _, rfl⟩ := h.addr (by omega)
  have hrow := h.row rfl
  obtain ⟨css, hl, hR, ho⟩ := h
  have hlen := OwnL.lens K hl hR
  have h2 := ho.stored (k * C.n + j) u
  have hc : Chg B C.e (some g) w (w.setCell ⟨g, k * C.n + j, none⟩ u) := ⟨keepBut_grown h2.2, h2.2.size, hrow⟩
  have hkc : k < css.length := by omega
  refine ⟨⟨css.set k ((css[k]'hkc).set j u), by simp [hl], fun i hi hi' => ?_, ?_⟩, h2.2, hc⟩
  · refine K.chg ?_ hc K.self
    rw [List.getElem_set, List.getElem_set]
    by_cases e : k = i
    · subst e; rw [if_pos rfl, if_pos rfl]; exact hx _ (hR k hk hkc)
    · rw [if_neg e, if_neg e]; exact hR i (by simpa using hi) (by simpa using hi')
  · rw [List.length_set, <- flat_set hlen k j hj hkc u]; exact h2.1
theorem listIn_new (K : CdOk P C) (w : World) (x : α) (cs : List Value) (n : Nat) (hn : n = w.heap.size) (h : C.R B w x cs) : ListIn C B (w.alloc (.cells cs.toArray C.e)) (.slice (some ⟨n, 0, none⟩) 1 1) [x] := by
  subst hn
  refine ⟨_, _, rfl, by simp, fun _ b hb => .inr ⟨_, _, by cases hb; exact bN w _⟩, fun k hk => ?_⟩
  obtain rfl : k = 0 := by simp at hk; omega
  refine ⟨w.heap.size, 0, cs, rfl, by simp, K.chg h (Chg.of_ext (eA _ _) B C.e) K.self, fun j u hj => ?_⟩
  rw [Nat.zero_add, Nat.zero_mul, Nat.zero_add, bC (bN w _)]; simpa using hj
theorem run_appL (K : CdOk P C) (ty : TypeId) (v x : Value) (l1 l2 : List α) (w : World) (h1 : OwnL C B w v l1) (h2 : ListIn C B w x l2) (hB : B <= w.heap.size) (hl : l1.length + l2.length <= 1000000) :
    ∃ v' w', (Builtin.append_ #[C.t, C.t] ty #[v, x]).run P w = .ok v' w' /\ OwnL C B w' v' (l1 ++ l2) /\ w.grownBy w' v.ownBlock /\ (v'.ownBlock = v.ownBlock \/ v'.ownBlock = some w.heap.size) /\ Chg B C.e v.ownBlock w w' := by
  obtain ⟨i, hi, hz, h3, h4⟩ := K.sl.info
  have hsm := K.sl.small
  have hrow := h1.row rfl
  obtain ⟨a, cap, rfl, hcap, hn, hc⟩ := h2
  obtain ⟨css, hcl, hR, ho⟩ := h1
  have hlen := OwnL.lens K hcl hR
  cases a with
  | none =>
    obtain rfl : l2 = [] := by
      cases l2 with
      | nil => rfl
      | cons y r => obtain ⟨b, off, cs, h0, _⟩ := hc 0 (by simp); cases h0
    refine ⟨v, w, ?_, by rw [List.append_nil]; exact ⟨css, hcl, hR, ho⟩, ⟨rfl, rfl, rfl, Nat.le_refl _, fun _ _ _ => rfl⟩, .inl rfl, ⟨fun _ _ hb _ => hb, Nat.le_refl _, hrow⟩⟩
    rcases ho.2 with ⟨rfl, h0⟩ | ⟨g, cap', cur, rfl, _, _, hnc, _⟩
    · simp [Builtin.append_, run_underlying K.sl.und, sizeOf, typeInfo, hi, Builtin.lenOf, Builtin.firstCells]
    · simp [Builtin.append_, run_underlying K.sl.und, sizeOf, typeInfo, hi, Builtin.lenOf, Builtin.firstCells, hnc, storeCells]
  | some ad =>
    have hex : ∃ dss : List (List Value), dss.length = l2.length /\ ∀ k (h : k < l2.length) (h' : k < dss.length), C.R B w (l2[k]'h) (dss[k]'h') /\ ∀ j c, (dss[k]'h')[j]? = some c -> w.cell? (ad.add (k * C.n + j)) = some c := by
      have : ∀ m, m <= l2.length -> ∃ dss : List (List Value), dss.length = m /\ ∀ k (h : k < l2.length) (h' : k < dss.length), C.R B w (l2[k]'h) (dss[k]'h') /\ ∀ j c, (dss[k]'h')[j]? = some c -> w.cell? (ad.add (k * C.n + j)) = some c := by
        intro m
        induction m with
        | zero => intro _; exact ⟨[], rfl, fun k _ h' => absurd h' (by simp)⟩
        | succ m ih =>
          intro hm
          obtain ⟨dss, hd, hh⟩ := ih (by omega)
          obtain ⟨b, off, cs, h0, hb, hr, hrw⟩ := hc m (by omega)
          refine ⟨dss ++ [cs], by simp [hd], fun k h h' => ?_⟩
          rw [List.getElem_append]
          split
          · exact hh k h _
          · have hkm : k = m := by simp at h'; omega
            subst hkm
            simp only [List.getElem_singleton]
            refine ⟨hr, fun j c hj => ?_⟩
            cases h0
            rw [Addr.add_lit, <- Nat.add_assoc]; exact hrw j c hj
      exact this _ (Nat.le_refl _)
    obtain ⟨dss, hdl, hd⟩ := hex
    have hdlen : ∀ cs ∈ dss, cs.length = C.n := by
      intro cs hcs
      obtain ⟨k, hk, rfl⟩ := List.getElem_of_mem hcs
      exact K.len (hd k (by omega) hk).1
    have hcell : ∀ j u, dss.flatten[j]? = some u -> w.cell? (ad.add j) = some u := by
      intro j u hj
      have hp := K.sl.pos
      have hdm : j / C.n * C.n + j % C.n = j := by rw [Nat.mul_comm]; exact Nat.div_add_mod j C.n
      have hml := Nat.mod_lt j hp
      rw [<- hdm, flat_get hdlen _ _ hml] at hj
      rcases Nat.lt_or_ge (j / C.n) dss.length with hk | hk
      · rw [List.getElem?_eq_getElem hk] at hj
        have := (hd (j / C.n) (by omega) hk).2 (j % C.n) u hj
        rwa [hdm] at this
      · rw [List.getElem?_eq_none hk] at hj; cases hj
    have hone : ∀ u ∈ dss.flatten, u.oneCell' = true := by
      intro u hu
      obtain ⟨cs, hcs, hu⟩ := List.mem_flatten.1 hu
      obtain ⟨k, hk, rfl⟩ := List.getElem_of_mem hcs
      exact K.one (hd k (by omega) hk).1 u hu
    have hby : (l1.length + l2.length) * C.bytes <= 140737488355328 := by
      have : (l1.length + l2.length) * C.bytes <= 1000000 * 1000 := Nat.mul_le_mul hl hsm
      omega
    obtain ⟨v', w', hr, ho', hg, _, hlies⟩ := run_append_own_at (P := P) (w := w) B C.t ty C.e i _ C.n C.bytes K.sl.und hi hz h3 h4 K.sl.zs K.sl.pos v l1.length css.flatten ho ad l2.length cap dss.flatten (by rw [flat_length hdlen, hdl]) hcell hone (by unfold maxLen; omega) hby hB
    have hchg : Chg B C.e v.ownBlock w w' := ⟨keepBut_grown hg, hg.size, hrow⟩
    refine ⟨v', w', hr, ⟨css ++ dss, by simp [hcl, hdl], fun k hk hk' => K.chg ?_ hchg K.self, ?_⟩, hg, hlies, hchg⟩
    · rw [List.getElem_append, List.getElem_append]
      by_cases hkl : k < l1.length
      · rw [dif_pos hkl, dif_pos (by omega)]; exact hR k hkl (by omega)
      · rw [dif_neg hkl, dif_neg (by omega)]
        have := (hd (k - l1.length) (by simp at hk; omega) (by simp at hk; omega)).1
        simp only [hcl]; exact this
    · rw [List.length_append, List.flatten_append]; exact ho'
structure AppL {α : Type} (C : Cd α) (B : Nat) (v v' : Value) (l : List α) (W0 w w' : World) : Prop where
  own : OwnL C B w' v' l
  below : Below B W0 w'
  chg : Chg B C.e v.ownBlock w w'
  lies : v'.ownBlock = v.ownBlock \/ v'.ownBlock = some w.heap.size
variable {o : Oper} {a : Act} {Kx : Act -> World -> Prop} {Q : Exit -> Act -> World -> Prop}
theorem below_chg {W0 : World} (hb : Below B W0 w) (hg : w.grownBy w' v.ownBlock) (ho : OwnL C B w v l) (hB : B <= w.heap.size) : Below B W0 w' := by
  obtain ⟨css, _, _, ho⟩ := ho
  exact below_grown hb ho (Nat.le_refl _) hB hg
theorem wp_appL (K : CdOk P C) (s x : Operand) (ho : o.op = .call { callee := .builtin .append, args := #[s, x], argTypes := #[C.t, C.t] })
    (v xv : Value) (l1 l2 : List α) (W0 w : World) (hs : a.eval s = v) (hx : a.eval x = xv) (h1 : OwnL C B w v l1) (h2 : ListIn C B w xv l2) (hb : Below B W0 w) (hB : B <= w.heap.size) (hl : l1.length + l2.length <= 1000000)
    (h : ∀ v' w', AppL C B v v' (l1 ++ l2) W0 w w' -> Kx (a.put o.dst v') w') : o.wp P a w Kx Q := by
  obtain ⟨v', w', hr, h3, h4, h5, h6⟩ := run_appL K o.type v xv l1 l2 w h1 h2 hB hl
  unfold Oper.wp execOp
  simp only [ho, resolve, invoke, builtin, Sem.run_bind, Sem.run_pure, Result.andThen_ok, List.map_toArray, List.map_cons, List.map_nil, hs, hx, hr]
  exact h v' w' ⟨h3, below_chg hb h4 h1 hB, h6, h5⟩
theorem appL (K : CdOk P C) {ops : Array Oper} {rest : List Oper} (hgd : o.guard = none) (s x : Operand) (ho : o.op = .call { callee := .builtin .append, args := #[s, x], argTypes := #[C.t, C.t] })
    (v xv : Value) (l1 l2 : List α) (W0 w : World) (hs : a.eval s = v) (hx : a.eval x = xv) (h1 : OwnL C B w v l1) (h2 : ListIn C B w xv l2) (hb : Below B W0 w) (hB : B <= w.heap.size) (hl : l1.length + l2.length <= 1000000)
    (h : ∀ v' w', AppL C B v v' (l1 ++ l2) W0 w w' -> wpList P ops Q rest (a.put o.dst v') w') : wpList P ops Q (o :: rest) a w :=
  wpList_plain hgd fun _ hK => wp_appL K s x ho v xv l1 l2 W0 w hs hx h1 h2 hb hB hl fun v' w' h3 => hK _ _ (h v' w' h3)
theorem stepL (K : CdOk P C) {ops : Array Oper} {E : Prop} (hgd : o.guard = none) (s x : Operand) (ho : o.op = .call { callee := .builtin .append, args := #[s, x], argTypes := #[C.t, C.t] })
    (v xv : Value) (l1 l2 : List α) (W0 w : World) (hs : a.eval s = v) (hx : a.eval x = xv) (h1 : OwnL C B w v l1) (h2 : ListIn C B w xv l2) (hb : Below B W0 w) (hB : B <= w.heap.size) (hl : l1.length + l2.length <= 1000000)
    (h : ∀ v' w', AppL C B v v' (l1 ++ l2) W0 w w' -> Kx (a.put o.dst v') w') : if Region.wanted o (yielded ops a.tmps) = true then Oper.wp P o a w Kx Q else E := by
  have hw : Region.wanted o (yielded ops a.tmps) = true := by simp [Region.wanted, hgd]
  rw [if_pos hw]
  exact wp_appL K s x ho v xv l1 l2 W0 w hs hx h1 h2 hb hB hl h
end
end Go.Proofs.YtimpejaaeinplaaGreatDoor
