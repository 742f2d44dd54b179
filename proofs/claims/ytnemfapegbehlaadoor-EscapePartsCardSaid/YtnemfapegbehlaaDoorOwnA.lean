/- A row of attributes that the call owns: appending a slice of attributes to it. -/
import Derived.Test.YtnemfapegbehlaaDoorOwnD
import Derived.Maps.AppendAt
import Derived.Lib.SliceRun
namespace Go.Proofs.YtnemfapegbehlaaDoor
open Go.RowKit

theorem slAttr : SlT Tryd.prog 33 42 2 32 (.agg #[.string ⟨#[]⟩, .string ⟨#[]⟩]) where
  und := Tryd.underlying33
  info := info_parts (by kernel_rfl)
  zs := rfl
  pos := by decide
  small := by decide
theorem keepBut_grown {w w' : World} {row : Option Nat} (h : w.grownBy w' row) : KeepBut row w w' := fun _ _ hb hne => blk_grown h hb hne
theorem KeepBut.trans {row : Option Nat} {w w' w'' : World} (h : KeepBut row w w') (k : KeepBut row w' w'') : KeepBut row w w'' := fun b o hb hne => k b o (h b o hb hne) hne
theorem heap_some {w : World} {b : Nat} (h : b < w.heap.size) : ∃ o, w.heap[b]? = some o := ⟨_, Array.getElem?_eq_getElem h⟩
theorem cell_keep {row : Option Nat} {w w' : World} (h : KeepBut row w w') {b o : Nat} (hb : b < w.heap.size) (hne : row ≠ some b) : w'.cell? ⟨b, o, none⟩ = w.cell? ⟨b, o, none⟩ := by
  obtain ⟨x, hx⟩ := heap_some hb
  have := h b x hx hne
  simp only [World.cell?, hx, this]
theorem AttrsAt.keep {row : Option Nat} {w w' : World} {v : Value} {l : List Attr} (h : AttrsAt w v l) (hk : KeepBut row w w') (hs : w.heap.size ≤ w'.heap.size) (hne : row = none ∨ v.ownBlock ≠ row) : AttrsAt w' v l := by
  obtain ⟨a, cap, rfl, hcap, hc⟩ := h
  refine ⟨a, cap, rfl, hcap, fun k hk' => ?_⟩
  obtain ⟨b, off, rfl, hb, h1, h2⟩ := hc k hk'
  have hne' : row ≠ some b := by
    rcases hne with rfl | hne
    · exact fun x => by cases x
    · exact fun x => hne (by rw [x]; rfl)
  exact ⟨b, off, rfl, Nat.lt_of_lt_of_le hb hs, by rw [cell_keep hk hb hne']; exact h1, by rw [cell_keep hk hb hne']; exact h2⟩
theorem OwnA.keep {B : Nat} {row : Option Nat} {w w' : World} {v : Value} {l : List Attr} (h : OwnA B w v l) (hk : KeepBut row w w') (hne : row = none ∨ v.ownBlock ≠ row) : OwnA B w' v l := by
  refine ⟨h.1, ?_⟩
  rcases h.2 with ⟨h1, h2⟩ | ⟨g, cap, cur, rfl, hb, hg, h3⟩
  · exact .inl ⟨h1, h2⟩
  · refine .inr ⟨g, cap, cur, rfl, hb, hk _ _ hg ?_, h3⟩
    rcases hne with rfl | hne
    · exact fun x => by cases x
    · exact fun x => hne (by rw [x]; rfl)
theorem OwnA.ext {B : Nat} {w w' : World} {v : Value} {l : List Attr} (h : OwnA B w v l) (he : Ext w w') : OwnA B w' v l := h.keep (row := none) (fun _ _ hb _ => blk_ext he hb) (.inl rfl)
theorem OwnA.form {B : Nat} {w : World} {v : Value} {l : List Attr} (h : OwnA B w v l) : ∃ a cap, v = .slice a l.length cap := by
  rcases h.2 with ⟨rfl, h0⟩ | ⟨g, cap, cur, rfl, _⟩
  · rw [h0]; exact ⟨_, _, rfl⟩
  · exact ⟨_, _, rfl⟩
theorem OwnA.addr {B n cap : Nat} {w : World} {a : Option Addr} {l : List Attr} (h : OwnA B w (.slice a n cap) l) (hl : 0 < l.length) : ∃ g, a = some ⟨g, 0, none⟩ ∧ B ≤ g ∧ g < w.heap.size ∧ n = l.length := by
  rcases h.2 with ⟨h1, h0⟩ | ⟨g, cap', cur, h1, hb, hg, _⟩
  · omega
  · injection h1 with e1 e2 e3
    exact ⟨g, e1, hb, blk_lt hg, e2⟩
theorem OwnA.frozen {B n cap g : Nat} {w : World} {l : List Attr} (h : OwnA B w (.slice (some ⟨g, 0, none⟩) n cap) l) (j : Nat) : w.frozen? ⟨g, j, none⟩ = false := by
  obtain ⟨a, c, he⟩ := h.form
  injection he with _ e2 _
  subst e2
  exact World.ownsRow.frozenAt h j
theorem attC_set (l : List Attr) (k : Nat) (hk : k < l.length) (s : ByteArray) : (attC l).set (k * 2) (.string s) = attC (l.set k (s, (l[k]'hk).2)) := by
  induction l generalizing k with
  | nil => simp at hk
  | cons a r ih =>
    cases k with
    | zero => rfl
    | succ k =>
      rw [List.set_cons_succ, attC_cons, attC_cons, show (k + 1) * 2 = k * 2 + 1 + 1 by omega, List.set_cons_succ, List.set_cons_succ, ih k (by simpa using hk)]
      rfl
/-- A store of a name into the row. -/
theorem OwnA.store {B n cap g : Nat} {w : World} {l : List Attr} (h : OwnA B w (.slice (some ⟨g, 0, none⟩) n cap) l) (k : Nat) (hk : k < l.length) (s : ByteArray) :
    OwnA B (w.setCell ⟨g, k * 2, none⟩ (.string s)) (.slice (some ⟨g, 0, none⟩) n cap) (l.set k (s, (l[k]'hk).2)) ∧ w.grownBy (w.setCell ⟨g, k * 2, none⟩ (.string s)) (some g) := by
  obtain ⟨_, h1, _, _, rfl⟩ := h.addr (by omega)
  have hh : w.ownsRow B 42 2 (.slice (some ⟨g, 0, none⟩) l.length cap) l.length (attC l) := h
  have h2 := hh.stored (k * 2) (.string s)
  refine ⟨?_, h2.2⟩
  unfold OwnA
  rw [← attC_set l k hk s, List.length_set]
  exact h2.1
theorem OwnA.nil (B : Nat) (w : World) : OwnA B w (.slice none 0 0) [] := World.ownsRow_nil _ _ _ _
theorem OwnA.le {B B' : Nat} {w : World} {v : Value} {l : List Attr} (h : OwnA B w v l) (hb : B' ≤ B) : OwnA B' w v l := ⟨h.1, h.2.imp_right fun ⟨g, cap, cur, h1, h2, h3⟩ => ⟨g, cap, cur, h1, Nat.le_trans hb h2, h3⟩⟩
theorem AttrsAt.take {w : World} {a : Option Addr} {n cap : Nat} {l : List Attr} (h : AttrsAt w (.slice a n cap) l) (i : Nat) (hi : i ≤ l.length) : AttrsAt w (.slice a i cap) (l.take i) := by
  obtain ⟨a', cap', he, hcap, hc⟩ := h
  cases he
  refine ⟨a, cap, by rw [List.length_take, Nat.min_eq_left hi], by rw [List.length_take]; omega, fun k hk => ?_⟩
  have hk' : k < l.length := by rw [List.length_take] at hk; omega
  obtain ⟨b, off, h0, h1, h2, h3⟩ := hc k hk'
  exact ⟨b, off, h0, h1, by rw [List.getElem_take]; exact h2, by rw [List.getElem_take]; exact h3⟩

/-- append: the slice's elements lie behind the row's; the new row lies where the old one lay, or in a new block. -/
theorem run_appA (ty : TypeId) (B : Nat) (v x : Value) (l1 l2 : List Attr) (w : World) (h1 : OwnA B w v l1) (h2 : AttrsAt w x l2) (hB : B ≤ w.heap.size) (hl : l1.length + l2.length ≤ 1000) :
    ∃ v' w', (Builtin.append_ #[33, 33] ty #[v, x]).run Tryd.prog w = .ok v' w' ∧ OwnA B w' v' (l1 ++ l2) ∧ w.grownBy w' v.ownBlock ∧ (v'.ownBlock = v.ownBlock ∨ v'.ownBlock = some w.heap.size) := by
  obtain ⟨i, hi, hz, h3, h4⟩ := slAttr.info
  obtain ⟨a, cap, rfl, hcap, hc⟩ := h2
  cases a with
  | none =>
    obtain rfl : l2 = [] := by
      cases l2 with
      | nil => rfl
      | cons y r => obtain ⟨b, off, h0, _⟩ := hc 0 (by simp); cases h0
    refine ⟨v, w, ?_, by rw [List.append_nil]; exact h1, ⟨rfl, rfl, rfl, Nat.le_refl _, fun _ _ _ => rfl⟩, .inl rfl⟩
    rcases h1.2 with ⟨rfl, h0⟩ | ⟨g, cap', cur, rfl, _, _, hnc, _⟩
    · simp [Builtin.append_, run_underlying slAttr.und, sizeOf, typeInfo, hi, Builtin.lenOf, Builtin.firstCells]
    · simp [Builtin.append_, run_underlying slAttr.und, sizeOf, typeInfo, hi, Builtin.lenOf, Builtin.firstCells, hnc, storeCells]
  | some ad =>
    have hcell : ∀ j u, (attC l2)[j]? = some u → w.cell? (ad.add j) = some u := by
      intro j u hj
      rw [attC_get] at hj
      rcases Nat.lt_or_ge (j / 2) l2.length with hk | hk
      · rw [List.getElem?_eq_getElem hk] at hj
        obtain ⟨b, off, h0, hb, c1, c2⟩ := hc (j / 2) hk
        cases h0
        have hm : j % 2 = 0 ∨ j % 2 = 1 := by omega
        rcases hm with hm | hm
        · rw [hm] at hj
          have : u = .string l2[j / 2].1 := by simpa [encA] using hj.symm
          rw [this, ← c1]
          show w.cell? (Addr.add _ _) = _
          rw [Addr.add_lit, show off + j = off + j / 2 * 2 by omega]
        · rw [hm] at hj
          have : u = .string l2[j / 2].2 := by simpa [encA] using hj.symm
          rw [this, ← c2]
          rw [Addr.add_lit, show off + j = off + j / 2 * 2 + 1 by omega]
      · rw [List.getElem?_eq_none hk] at hj; cases hj
    have hone : ∀ u ∈ attC l2, u.oneCell' = true := by
      intro u hu
      obtain ⟨y, _, hy⟩ := List.mem_flatMap.1 hu
      simp [encA] at hy
      rcases hy with rfl | rfl <;> rfl
    obtain ⟨v', w', hr, ho, hg, _, hlies⟩ := run_append_own_at (P := Tryd.prog) (w := w) B 33 ty 42 i _ 2 32 slAttr.und hi hz h3 h4 slAttr.zs slAttr.pos v l1.length (attC l1) h1 ad l2.length cap (attC l2) (attC_length l2) hcell hone (by unfold maxLen; omega) (by omega) hB
    refine ⟨v', w', hr, ?_, hg, hlies⟩
    unfold OwnA; rw [List.length_append, attC_append]; exact ho
/-- What such an append leaves. -/
structure AppA (B : Nat) (v v' : Value) (l : List Attr) (W0 w w' : World) : Prop where
  own : OwnA B w' v' l
  below : Below B W0 w'
  keep : KeepBut v.ownBlock w w'
  lies : v'.ownBlock = v.ownBlock ∨ v'.ownBlock = some w.heap.size
  size : w.heap.size ≤ w'.heap.size
section
variable {o : Oper} {a : Act} {K : Act → World → Prop} {Q : Exit → Act → World → Prop}
theorem wp_appA (s x : Operand) (ho : o.op = .call { callee := .builtin .append, args := #[s, x], argTypes := #[33, 33] })
    (B : Nat) (v xv : Value) (l1 l2 : List Attr) (W0 w : World) (hs : a.eval s = v) (hx : a.eval x = xv) (h1 : OwnA B w v l1) (h2 : AttrsAt w xv l2) (hb : Below B W0 w) (hB : B ≤ w.heap.size) (hl : l1.length + l2.length ≤ 1000)
    (h : ∀ v' w', AppA B v v' (l1 ++ l2) W0 w w' → K (a.put o.dst v') w') : o.wp Tryd.prog a w K Q := by
  obtain ⟨v', w', hr, h3, h4, h5⟩ := run_appA o.type B v xv l1 l2 w h1 h2 hB hl
  unfold Oper.wp execOp
  simp only [ho, resolve, invoke, builtin, Sem.run_bind, Sem.run_pure, Result.andThen_ok, List.map_toArray, List.map_cons, List.map_nil, hs, hx, hr]
  exact h v' w' ⟨h3, below_grown hb h1 (Nat.le_refl _) hB h4, keepBut_grown h4, h5, h4.size⟩
theorem appA {ops : Array Oper} {rest : List Oper} (hgd : o.guard = none) (s x : Operand) (ho : o.op = .call { callee := .builtin .append, args := #[s, x], argTypes := #[33, 33] })
    (B : Nat) (v xv : Value) (l1 l2 : List Attr) (W0 w : World) (hs : a.eval s = v) (hx : a.eval x = xv) (h1 : OwnA B w v l1) (h2 : AttrsAt w xv l2) (hb : Below B W0 w) (hB : B ≤ w.heap.size) (hl : l1.length + l2.length ≤ 1000)
    (h : ∀ v' w', AppA B v v' (l1 ++ l2) W0 w w' → wpList Tryd.prog ops Q rest (a.put o.dst v') w') : wpList Tryd.prog ops Q (o :: rest) a w :=
  wpList_plain hgd fun _ hK => wp_appA s x ho B v xv l1 l2 W0 w hs hx h1 h2 hb hB hl fun v' w' h3 => hK _ _ (h v' w' h3)
theorem stepA {ops : Array Oper} {E : Prop} (hgd : o.guard = none) (s x : Operand) (ho : o.op = .call { callee := .builtin .append, args := #[s, x], argTypes := #[33, 33] })
    (B : Nat) (v xv : Value) (l1 l2 : List Attr) (W0 w : World) (hs : a.eval s = v) (hx : a.eval x = xv) (h1 : OwnA B w v l1) (h2 : AttrsAt w xv l2) (hb : Below B W0 w) (hB : B ≤ w.heap.size) (hl : l1.length + l2.length ≤ 1000)
    (h : ∀ v' w', AppA B v v' (l1 ++ l2) W0 w w' → K (a.put o.dst v') w') : if Region.wanted o (yielded ops a.tmps) = true then Oper.wp Tryd.prog o a w K Q else E := by
  have hw : Region.wanted o (yielded ops a.tmps) = true := by simp [Region.wanted, hgd]
  rw [if_pos hw]
  exact wp_appA s x ho B v xv l1 l2 W0 w hs hx h1 h2 hb hB hl h
end
/-- An empty row that the statement has just laid. -/
theorem OwnA.fresh (w : World) (_c : Nat) : OwnA w.heap.size (w.alloc (.cells #[] 42)) (.slice (some ⟨w.heap.size, 0, none⟩) 0 0) [] :=
  World.ownsRow_lit w #[] 0 (Nat.le_refl _) (Nat.zero_le _) rfl
theorem attrsAt_new (w : World) (x : Attr) : AttrsAt (w.alloc (.cells #[.string x.1, .string x.2] 42)) (.slice (some ⟨w.heap.size, 0, none⟩) 1 1) [x] := by
  refine ⟨_, _, rfl, by simp, fun k hk => ?_⟩
  obtain rfl : k = 0 := by simp at hk; omega
  exact ⟨w.heap.size, 0, rfl, by simp, blk_cell (blk_new w _) _, blk_cell (blk_new w _) _⟩

/-- slices.Clone: a row of the call's own with the same attributes. -/
theorem slClone (v : Value) (l : List Attr) (w : World) (hv : AttrsAt w v l) (hl : l.length ≤ 1000) :
    Calls Tryd.prog 54 #[v] w fun e w' => (∃ a cap, e = .returned (.slice a l.length cap) ∧ OwnA w.heap.size w' (.slice a l.length cap) l) ∧ Ext w w' := by
  obtain ⟨a, cap, rfl, hcap, hc⟩ := hv
  have HV := Lib.hid (show AttrsAt w (.slice a l.length cap) l from ⟨a, cap, rfl, hcap, hc⟩)
  clear hc
  cases a with
  | none =>
    have : l = [] := by
      obtain ⟨a', cap', he, _, hc⟩ := HV.out
      cases he
      cases l with
      | nil => rfl
      | cons y r => obtain ⟨b, off, h0, _⟩ := hc 0 (by simp); cases h0
    subst this
    have hnil := fun wx => Lib.run_eql_slice_nil (P := Tryd.prog) wx 33 42 none 0 cap 0 0 slAttr.und
    go_enter Tryd.func54, Tryd.ntmps54
    go_wp2
    go_ret
    exact ⟨⟨_, _, rfl, OwnA.nil _ _⟩, Below.refl _ _⟩
  | some ad =>
    have hnil := fun wx => Lib.run_eql_slice_nil (P := Tryd.prog) wx 33 42 (some ad) l.length cap 0 0 slAttr.und
    go_enter Tryd.func54, Tryd.ntmps54
    go_wp2_with (at_builtin; refine appA rfl (.tmp 5) (.tmp 6) rfl w.heap.size _ _ [] l w (w.alloc (.cells #[] 42)) rfl rfl (OwnA.fresh w 0) (HV.out.ext (ext_alloc _ _)) (ext_alloc _ _) (by simp) (by simpa using hl) ?_; intro v1 w1 ha; have HA := Lib.hid ha; clear ha)
    go_ret
    obtain ⟨a1, c1, rfl⟩ := HA.out.own.form
    exact ⟨⟨_, _, rfl, HA.out.own⟩, HA.out.below⟩
end Go.Proofs.YtnemfapegbehlaaDoor
