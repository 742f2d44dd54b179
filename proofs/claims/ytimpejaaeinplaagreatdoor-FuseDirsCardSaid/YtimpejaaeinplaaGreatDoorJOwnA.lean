/- OwnA Cod NodT NodA NodB TreP NodC NodD NodE MapW ChkA RefA RefP PthR DirT -/
import Derived.Test.YtimpejaaeinplaaGreatDoorJI2
import Derived.Test.YtimpejaaeinplaaGreatDoorJBase
namespace Go.Proofs.YtimpejaaeinplaaGreatDoor
open Go.RowKit
theorem slAttr : SlT Tryz.prog 38 45 2 32 (.agg #[.string ⟨#[]⟩, .string ⟨#[]⟩]) where
 und := Tryz.underlying38
 info := info_parts (by kernel_rfl)
 zs := rfl
 pos := by decide
 small := by decide
theorem keepBut_grown {w w' : World} {row : Option Nat} (h : w.grownBy w' row) : KeepBut row w w' := fun _ _ hb hne => blk_grown h hb hne
theorem KeepBut.trans {row : Option Nat} {w w' w'' : World} (h : KeepBut row w w') (k : KeepBut row w' w'') : KeepBut row w w'' := fun b o hb hne => k b o (h b o hb hne) hne
theorem heap_some {w : World} {b : Nat} (h : b < w.heap.size) : ∃ o, w.heap[b]? = some o := ⟨_, Array.getElem?_eq_getElem h⟩
def TyA (w : World) (v : Value) : Prop := ∀ b, v.ownBlock = some b -> ∃ cs f, w.heap[b]? = some (.cells cs 45 f)
theorem TyA.ext {w w' : World} {v : Value} (h : TyA w v) (he : Ext w w') : TyA w' v := fun b hb => by obtain ⟨cs, f, h1⟩ := h b hb; exact ⟨cs, f, bX he h1⟩
def AttT (w : World) (v : Value) (l : List Attr) : Prop := aA w v l /\ TyA w v
theorem AttT.nil (w : World) (n c : Nat) (h : aA w (.slice none n c) []) : AttT w (.slice none n c) [] := ⟨h, fun b hb => by cases hb⟩
theorem AttT.ext {w w' : World} {v : Value} {l : List Attr} (h : AttT w v l) (he : Ext w w') : AttT w' v l := ⟨h.1.ext he, h.2.ext he⟩
theorem cell_keep {row : Option Nat} {w w' : World} (h : KeepBut row w w') {b o : Nat} (hb : b < w.heap.size) (hne : row ≠ some b) : w'.cell? ⟨b, o, none⟩ = w.cell? ⟨b, o, none⟩ := by
 obtain ⟨x, hx⟩ := heap_some hb
 have := h b x hx hne
 simp only [World.cell?, hx, this]
theorem aA.keep {row : Option Nat} {w w' : World} {v : Value} {l : List Attr} (h : aA w v l) (hk : KeepBut row w w') (hs : w.heap.size <= w'.heap.size) (hne : row = none \/ v.ownBlock ≠ row) : aA w' v l := by
 obtain ⟨a, cap, rfl, hcap, hc⟩ := h
 refine ⟨a, cap, rfl, hcap, fun k hk' => ?_⟩
 obtain ⟨b, off, rfl, hb, h1, h2⟩ := hc k hk'
 have hne' : row ≠ some b := by
  rcases hne with rfl | hne
  ·exact fun x => by cases x
  ·exact fun x => hne (by rw [x]; rfl)
 exact ⟨b, off, rfl, Nat.lt_of_lt_of_le hb hs, by rw [cell_keep hk hb hne']; exact h1, by rw [cell_keep hk hb hne']; exact h2⟩
theorem AttT.keep {row : Option Nat} {w w' : World} {v : Value} {l : List Attr} (h : AttT w v l) (hk : KeepBut row w w') (hs : w.heap.size <= w'.heap.size) (hne : row = none \/ v.ownBlock ≠ row) : AttT w' v l := by
 refine ⟨h.1.keep hk hs hne, fun b hb => ?_⟩
 obtain ⟨cs, f, h1⟩ := h.2 b hb
 refine ⟨cs, f, hk _ _ h1 ?_⟩
 rcases hne with rfl | hne
 ·exact fun x => by cases x
 ·exact fun x => hne (by rw [x]; exact hb)
theorem OwnA.keep {B : Nat} {row : Option Nat} {w w' : World} {v : Value} {l : List Attr} (h : OwnA B w v l) (hk : KeepBut row w w') (hne : row = none \/ v.ownBlock ≠ row) : OwnA B w' v l := by
 refine ⟨h.1, ?_⟩
 rcases h.2 with ⟨h1, h2⟩ | ⟨g, cap, cur, rfl, hb, hg, h3⟩
 ·exact .inl ⟨h1, h2⟩
 ·refine .inr ⟨g, cap, cur, rfl, hb, hk _ _ hg ?_, h3⟩
  rcases hne with rfl | hne
  ·exact fun x => by cases x
  ·exact fun x => hne (by rw [x]; rfl)
theorem OwnA.ext {B : Nat} {w w' : World} {v : Value} {l : List Attr} (h : OwnA B w v l) (he : Ext w w') : OwnA B w' v l := h.keep (row := none) (fun _ _ hb _ => bX he hb) (.inl rfl)
theorem OwnA.form {B : Nat} {w : World} {v : Value} {l : List Attr} (h : OwnA B w v l) : ∃ a cap, v = .slice a l.length cap := by
 rcases h.2 with ⟨rfl, h0⟩ | ⟨g, cap, cur, rfl, _⟩
 ·rw [h0]; exact ⟨_, _, rfl⟩
 ·exact ⟨_, _, rfl⟩
theorem OwnA.addr {B n cap : Nat} {w : World} {a : Option Addr} {l : List Attr} (h : OwnA B w (.slice a n cap) l) (hl : 0 < l.length) : ∃ g, a = some ⟨g, 0, none⟩ /\ B <= g /\ g < w.heap.size /\ n = l.length := by
 rcases h.2 with ⟨h1, h0⟩ | ⟨g, cap', cur, h1, hb, hg, _⟩
 ·omega
 ·injection h1 with e1 e2 e3
  exact ⟨g, e1, hb, bL hg, e2⟩
theorem OwnA.frozen {B n cap g : Nat} {w : World} {l : List Attr} (h : OwnA B w (.slice (some ⟨g, 0, none⟩) n cap) l) (j : Nat) : w.frozen? ⟨g, j, none⟩ = false := by
 obtain ⟨a, c, he⟩ := h.form
 injection he with _ e2 _
 subst e2
 exact World.ownsRow.frozenAt h j
theorem attC_set (l : List Attr) (k : Nat) (hk : k < l.length) (s : ByteArray) : (attC l).set (k * 2) (.string s) = attC (l.set k (s, (l[k]'hk).2)) := by
 induction l generalizing k with
 | nil => simp at hk
 | cons a r ih =>
  cases k with
  | zero => rfl
  | succ k =>
   rw [List.set_cons_succ, attC_cons, attC_cons, show (k + 1) * 2 = k * 2 + 1 + 1 by omega, List.set_cons_succ, List.set_cons_succ, ih k (by simpa using hk)]
   rfl
theorem OwnA.store {B n cap g : Nat} {w : World} {l : List Attr} (h : OwnA B w (.slice (some ⟨g, 0, none⟩) n cap) l) (k : Nat) (hk : k < l.length) (s : ByteArray) :
  OwnA B (w.setCell ⟨g, k * 2, none⟩ (.string s)) (.slice (some ⟨g, 0, none⟩) n cap) (l.set k (s, (l[k]'hk).2)) /\ w.grownBy (w.setCell ⟨g, k * 2, none⟩ (.string s)) (some g) := by
 obtain ⟨_, h1, _, _, rfl⟩ := h.addr (by omega)
 have hh : w.ownsRow B 45 2 (.slice (some ⟨g, 0, none⟩) l.length cap) l.length (attC l) := h
 have h2 := hh.stored (k * 2) (.string s)
 refine ⟨?_, h2.2⟩
 unfold OwnA
 rw [<- attC_set l k hk s, List.length_set]
 exact h2.1
theorem OwnA.nil (B : Nat) (w : World) : OwnA B w (.slice none 0 0) [] := World.ownsRow_nil _ _ _ _
theorem OwnA.le {B B' : Nat} {w : World} {v : Value} {l : List Attr} (h : OwnA B w v l) (hb : B' <= B) : OwnA B' w v l := ⟨h.1, h.2.imp_right fun ⟨g, cap, cur, h1, h2, h3⟩ => ⟨g, cap, cur, h1, Nat.le_trans hb h2, h3⟩⟩
theorem aA.take {w : World} {a : Option Addr} {n cap : Nat} {l : List Attr} (h : aA w (.slice a n cap) l) (i : Nat) (hi : i <= l.length) : aA w (.slice a i cap) (l.take i) := by
 obtain ⟨a', cap', he, hcap, hc⟩ := h
 cases he
 refine ⟨a, cap, by rw [List.length_take, Nat.min_eq_left hi], by rw [List.length_take]; omega, fun k hk => ?_⟩
 have hk' : k < l.length := by rw [List.length_take] at hk; omega
 obtain ⟨b, off, h0, h1, h2, h3⟩ := hc k hk'
 exact ⟨b, off, h0, h1, by rw [List.getElem_take]; exact h2, by rw [List.getElem_take]; exact h3⟩
theorem run_appA (ty : TypeId) (B : Nat) (v x : Value) (l1 l2 : List Attr) (w : World) (h1 : OwnA B w v l1) (h2 : aA w x l2) (hB : B <= w.heap.size) (hl : l1.length + l2.length <= 1000) :
  ∃ v' w', (Builtin.append_ #[38, 38] ty #[v, x]).run Tryz.prog w = .ok v' w' /\ OwnA B w' v' (l1 ++ l2) /\ w.grownBy w' v.ownBlock /\ (v'.ownBlock = v.ownBlock \/ v'.ownBlock = some w.heap.size) := by
 obtain ⟨i, hi, hz, h3, h4⟩ := slAttr.info
 obtain ⟨a, cap, rfl, hcap, hc⟩ := h2
 cases a with
 | none =>
  obtain rfl : l2 = [] := by
   cases l2 with
   | nil => rfl
   | cons y r => obtain ⟨b, off, h0, _⟩ := hc 0 (by simp); cases h0
  refine ⟨v, w, ?_, by rw [List.append_nil]; exact h1, ⟨rfl, rfl, rfl, Nat.le_refl _, fun _ _ _ => rfl⟩, .inl rfl⟩
  rcases h1.2 with ⟨rfl, h0⟩ | ⟨g, cap', cur, rfl, _, _, hnc, _⟩
  ·simp [Builtin.append_, run_underlying slAttr.und, sizeOf, typeInfo, hi, Builtin.lenOf, Builtin.firstCells]
  ·simp [Builtin.append_, run_underlying slAttr.und, sizeOf, typeInfo, hi, Builtin.lenOf, Builtin.firstCells, hnc, storeCells]
 | some ad =>
  have hcell : ∀ j u, (attC l2)[j]? = some u -> w.cell? (ad.add j) = some u := by
   intro j u hj
   rw [attC_get] at hj
   rcases Nat.lt_or_ge (j / 2) l2.length with hk | hk
   ·rw [List.getElem?_eq_getElem hk] at hj
    obtain ⟨b, off, h0, hb, c1, c2⟩ := hc (j / 2) hk
    cases h0
    have hm : j % 2 = 0 \/ j % 2 = 1 := by omega
    rcases hm with hm | hm
    ·rw [hm] at hj
     have : u = .string l2[j / 2].1 := by simpa [encA] using hj.symm
     rw [this, <- c1]
     show w.cell? (Addr.add _ _) = _
     rw [Addr.add_lit, show off + j = off + j / 2 * 2 by omega]
    ·rw [hm] at hj
     have : u = .string l2[j / 2].2 := by simpa [encA] using hj.symm
     rw [this, <- c2]
     rw [Addr.add_lit, show off + j = off + j / 2 * 2 + 1 by omega]
   ·rw [List.getElem?_eq_none hk] at hj; cases hj
  have hone : ∀ u ∈ attC l2, u.oneCell' = true := by
   intro u hu
   obtain ⟨y, _, hy⟩ := List.mem_flatMap.1 hu
   simp [encA] at hy
   rcases hy with rfl | rfl <;> rfl
  obtain ⟨v', w', hr, ho, hg, _, hlies⟩ := run_append_own_at (P := Tryz.prog) (w := w) B 38 ty 45 i _ 2 32 slAttr.und hi hz h3 h4 slAttr.zs slAttr.pos v l1.length (attC l1) h1 ad l2.length cap (attC l2) (attC_length l2) hcell hone (by unfold maxLen; omega) (by omega) hB
  refine ⟨v', w', hr, ?_, hg, hlies⟩
  unfold OwnA; rw [List.length_append, attC_append]; exact ho
structure AppA (B : Nat) (v v' : Value) (l : List Attr) (W0 w w' : World) : Prop where
 own : OwnA B w' v' l
 below : Below B W0 w'
 keep : KeepBut v.ownBlock w w'
 lies : v'.ownBlock = v.ownBlock \/ v'.ownBlock = some w.heap.size
 size : w.heap.size <= w'.heap.size
section
variable {o : Oper} {a : Act} {K : Act -> World -> Prop} {Q : Exit -> Act -> World -> Prop}
theorem wp_appA (s x : Operand) (ho : o.op = .call { callee := .builtin .append, args := #[s, x], argTypes := #[38, 38] })
  (B : Nat) (v xv : Value) (l1 l2 : List Attr) (W0 w : World) (hs : a.eval s = v) (hx : a.eval x = xv) (h1 : OwnA B w v l1) (h2 : aA w xv l2) (hb : Below B W0 w) (hB : B <= w.heap.size) (hl : l1.length + l2.length <= 1000)
  (h : ∀ v' w', AppA B v v' (l1 ++ l2) W0 w w' -> K (a.put o.dst v') w') : o.wp Tryz.prog a w K Q := by
 obtain ⟨v', w', hr, h3, h4, h5⟩ := run_appA o.type B v xv l1 l2 w h1 h2 hB hl
 unfold Oper.wp execOp
 simp only [ho, resolve, invoke, builtin, Sem.run_bind, Sem.run_pure, Result.andThen_ok, List.map_toArray, List.map_cons, List.map_nil, hs, hx, hr]
 exact h v' w' ⟨h3, below_grown hb h1 (Nat.le_refl _) hB h4, keepBut_grown h4, h5, h4.size⟩
theorem appA {ops : Array Oper} {rest : List Oper} (hgd : o.guard = none) (s x : Operand) (ho : o.op = .call { callee := .builtin .append, args := #[s, x], argTypes := #[38, 38] })
  (B : Nat) (v xv : Value) (l1 l2 : List Attr) (W0 w : World) (hs : a.eval s = v) (hx : a.eval x = xv) (h1 : OwnA B w v l1) (h2 : aA w xv l2) (hb : Below B W0 w) (hB : B <= w.heap.size) (hl : l1.length + l2.length <= 1000)
  (h : ∀ v' w', AppA B v v' (l1 ++ l2) W0 w w' -> wpList Tryz.prog ops Q rest (a.put o.dst v') w') : wpList Tryz.prog ops Q (o :: rest) a w :=
 wpList_plain hgd fun _ hK => wp_appA s x ho B v xv l1 l2 W0 w hs hx h1 h2 hb hB hl fun v' w' h3 => hK _ _ (h v' w' h3)
end
theorem OwnA.fresh (w : World) (_c : Nat) : OwnA w.heap.size (w.alloc (.cells #[] 45)) (.slice (some ⟨w.heap.size, 0, none⟩) 0 0) [] :=
 World.ownsRow_lit w #[] 0 (Nat.le_refl _) (Nat.zero_le _) rfl
theorem attrsAt_new (w : World) (x : Attr) : aA (w.alloc (.cells #[.string x.1, .string x.2] 45)) (.slice (some ⟨w.heap.size, 0, none⟩) 1 1) [x] := by
 refine ⟨_, _, rfl, by simp, fun k hk => ?_⟩
 obtain rfl : k = 0 := by simp at hk; omega
 exact ⟨w.heap.size, 0, rfl, by simp, bC (bN w _) _, bC (bN w _) _⟩
theorem slClone (v : Value) (l : List Attr) (w : World) (hv : aA w v l) (hl : l.length <= 1000) :
  Calls Tryz.prog 166 #[v] w fun e w' => (∃ a cap, e = .returned (.slice a l.length cap) /\ OwnA w.heap.size w' (.slice a l.length cap) l) /\ Ext w w' := by
 obtain ⟨a, cap, rfl, hcap, hc⟩ := hv
 have HV := hQq (show aA w (.slice a l.length cap) l from ⟨a, cap, rfl, hcap, hc⟩)
 clear hc
 cases a with
 | none =>
  have : l = [] := by
   obtain ⟨a', cap', he, _, hc⟩ := HV.out
   cases he
   cases l with
   | nil => rfl
   | cons y r => obtain ⟨b, off, h0, _⟩ := hc 0 (by simp); cases h0
  subst this
  have hnil := fun wx => Lib.run_eql_slice_nil (P := Tryz.prog) wx 38 45 none 0 cap 0 0 slAttr.und
  go_enter Tryz.func166, Tryz.ntmps166
  go_wp2
  go_ret
  exact ⟨⟨_, _, rfl, OwnA.nil _ _⟩, bR _ _⟩
 | some ad =>
  have hnil := fun wx => Lib.run_eql_slice_nil (P := Tryz.prog) wx 38 45 (some ad) l.length cap 0 0 slAttr.und
  go_enter Tryz.func166, Tryz.ntmps166
  go_wp2_with (at_builtin; refine appA rfl (.tmp 5) (.tmp 6) rfl w.heap.size _ _ [] l w (w.alloc (.cells #[] 45)) rfl rfl (OwnA.fresh w 0) (HV.out.ext (eA _ _)) (eA _ _) (by simp) (by simpa using hl) ?_; intro v1 w1 ha; have HA := hQq ha; clear ha)
  go_ret
  obtain ⟨a1, c1, rfl⟩ := HA.out.own.form
  exact ⟨⟨_, _, rfl, HA.out.own⟩, HA.out.below⟩
def RowAt (w : World) (b off : Nat) (cs : List Value) : Prop := ∀ j c, cs[j]? = some c -> w.cell? ⟨b, off + j, none⟩ = some c
def lenV : Value -> Nat
 | .slice _ n _ => n
 | _ => 0
def Nb (B : Nat) (w : World) (v : Value) (e : TypeId) : Prop := 0 < lenV v -> ∀ b, v.ownBlock = some b -> b < B \/ ∃ cs f, w.heap[b]? = some (.cells cs e f)
structure Chg (B : Nat) (E : TypeId) (row : Option Nat) (w w' : World) : Prop where
 keep : KeepBut row w w'
 size : w.heap.size <= w'.heap.size
 isrow : ∀ g, row = some g -> B <= g /\ ∃ c f, w.heap[g]? = some (.cells c E f)
theorem Chg.of_ext {w w' : World} (h : Ext w w') (B : Nat) (E : TypeId) : Chg B E none w w' := ⟨fun _ _ hb _ => bX h hb, h.size, fun g hg => by cases hg⟩
theorem Nb.chg {B : Nat} {w w' : World} {v : Value} {e E : TypeId} {row : Option Nat} (h : Nb B w v e) (c : Chg B E row w w') (hE : E ≠ e) : Nb B w' v e := by
 intro h0 b hb
 rcases h h0 b hb with h1 | ⟨cs, f, h1⟩
 ·exact .inl h1
 ·refine .inr ⟨cs, f, c.keep _ _ h1 ?_⟩
  rintro rfl
  obtain ⟨_, c', f', h2⟩ := c.isrow b rfl
  rw [h1] at h2; cases h2; exact hE rfl
theorem Nb.ext {B : Nat} {w w' : World} {v : Value} {e : TypeId} (h : Nb B w v e) (he : Ext w w') : Nb B w' v e := h.chg (Chg.of_ext he B (e + 1)) (Nat.succ_ne_self e)
theorem Nb.ne {B : Nat} {w w' : World} {v : Value} {e E : TypeId} {row : Option Nat} (h : Nb B w v e) (h0 : 0 < lenV v) (c : Chg B E row w w') (hE : E ≠ e) : row = none \/ v.ownBlock ≠ row := by
 cases row with
 | none => exact .inl rfl
 | some g =>
  refine .inr fun hv => ?_
  obtain ⟨h1, c', f', h2⟩ := c.isrow g rfl
  rcases h h0 g hv with h3 | ⟨cs, f, h3⟩
  ·omega
  ·rw [h2] at h3; cases h3; exact hE rfl
theorem Nb.mono {B B' : Nat} {w : World} {v : Value} {e : TypeId} (h : Nb B w v e) (hB : B <= B') : Nb B' w v e := fun h0 b hb => (h h0 b hb).imp_left (fun x => Nat.lt_of_lt_of_le x hB)
theorem Nb.nil (B : Nat) (w : World) (n c : Nat) (e : TypeId) : Nb B w (.slice none n c) e := fun _ b hb => by cases hb
theorem Nb.own {B B' e size n : Nat} {w : World} {v : Value} {xs : List Value} (h : w.ownsRow B e size v n xs) : Nb B' w v e := by
 intro _ b hb
 rcases h.2 with ⟨rfl, _⟩ | ⟨g, cap, cur, rfl, _, hg, _⟩
 ·cases hb
 ·cases hb; exact .inr ⟨cur, _, hg⟩
structure Cd (α : Type) where
 t : TypeId
 e : TypeId
 n : Nat
 bytes : Nat
 z : Value
 inner : List TypeId
 R : Nat -> World -> α -> List Value -> Prop
structure CdOk (P : Program) {α : Type} (C : Cd α) : Prop where
 sl : SlT P C.t C.e C.n C.bytes C.z
 len : ∀ {B w x cs}, C.R B w x cs -> cs.length = C.n
 one : ∀ {B w x cs}, C.R B w x cs -> ∀ u ∈ cs, u.oneCell' = true
 chg : ∀ {B w w' x cs E row}, C.R B w x cs -> Chg B E row w w' -> E ∉ C.inner -> C.R B w' x cs
 mono : ∀ {B B' w x cs}, B <= B' -> C.R B w x cs -> C.R B' w x cs
 self : C.e ∉ C.inner
def ListIn {α : Type} (C : Cd α) (B : Nat) (w : World) (v : Value) (l : List α) : Prop :=
 ∃ a cap, v = .slice a l.length cap /\ l.length <= cap /\ Nb B w v C.e /\ ∀ k (h : k < l.length), ∃ b off cs, a = some ⟨b, off, none⟩ /\ b < w.heap.size /\ C.R B w (l[k]'h) cs /\ RowAt w b (off + k * C.n) cs
def OwnL {α : Type} (C : Cd α) (B : Nat) (w : World) (v : Value) (l : List α) : Prop :=
 ∃ css : List (List Value), css.length = l.length /\ (∀ k (h : k < l.length) (h' : k < css.length), C.R B w (l[k]'h) (css[k]'h')) /\ w.ownsRow B C.e C.n v l.length css.flatten
theorem flat_get {n : Nat} {css : List (List Value)} (h : ∀ cs ∈ css, cs.length = n) (k j : Nat) (hj : j < n) : css.flatten[k * n + j]? = css[k]?.bind (·[j]?) := by
 induction css generalizing k with
 | nil => simp
 | cons c r ih =>
  have hc := h c (by simp)
  rw [List.flatten_cons]
  cases k with
  | zero => rw [Nat.zero_mul, Nat.zero_add, List.getElem?_append_left (by omega)]; rfl
  | succ k =>
   rw [List.getElem?_append_right (by rw [hc, Nat.succ_mul]; omega), hc, show (k + 1) * n + j - n = k * n + j by rw [Nat.succ_mul]; omega, ih (fun cs hcs => h cs (by simp [hcs])) k]
   rfl
theorem flat_set {n : Nat} {css : List (List Value)} (h : ∀ cs ∈ css, cs.length = n) (k j : Nat) (hj : j < n) (hk : k < css.length) (u : Value) : css.flatten.set (k * n + j) u = (css.set k ((css[k]'hk).set j u)).flatten := by
 induction css generalizing k with
 | nil => simp at hk
 | cons c r ih =>
  have hc := h c (by simp)
  cases k with
  | zero => rw [Nat.zero_mul, Nat.zero_add, List.flatten_cons, List.set_append_left _ _ (by omega)]; rfl
  | succ k =>
   rw [List.flatten_cons, List.set_append_right _ _ (by rw [hc, Nat.succ_mul]; omega), hc, show (k + 1) * n + j - n = k * n + j by rw [Nat.succ_mul]; omega, ih (fun cs hcs => h cs (by simp [hcs])) k (by simpa using hk)]
   rfl
theorem flat_length {n : Nat} {css : List (List Value)} (h : ∀ cs ∈ css, cs.length = n) : css.flatten.length = css.length * n := by
 induction css with
 | nil => simp
 | cons c r ih => rw [List.flatten_cons, List.length_append, h c (by simp), ih (fun cs hcs => h cs (by simp [hcs])), List.length_cons, Nat.succ_mul]; omega
section
variable {P : Program} {α : Type} {C : Cd α} {B B' : Nat} {w w' : World} {v : Value} {l : List α}
theorem ListIn.chg {E : TypeId} {row : Option Nat} (h : ListIn C B w v l) (k : CdOk P C) (c : Chg B E row w w') (h1 : E ≠ C.e) (h2 : E ∉ C.inner) : ListIn C B w' v l := by
 obtain ⟨a, cap, rfl, hcap, hn, hc⟩ := h
 refine ⟨a, cap, rfl, hcap, hn.chg c h1, fun i hi => ?_⟩
 obtain ⟨b, off, cs, rfl, hb, hr, hrow⟩ := hc i hi
 refine ⟨b, off, cs, rfl, Nat.lt_of_lt_of_le hb c.size, k.chg hr c h2, fun j u hj => ?_⟩
 rw [cell_keep c.keep hb ?_]
 ·exact hrow j u hj
 ·rcases hn.ne (show 0 < l.length by omega) c h1 with rfl | h3
  ·exact fun x => by cases x
  ·exact fun x => h3 (by rw [x]; rfl)
theorem ListIn.ext (h : ListIn C B w v l) (k : CdOk P C) (he : Ext w w') : ListIn C B w' v l := by
 obtain ⟨a, cap, rfl, hcap, hn, hc⟩ := h
 refine ⟨a, cap, rfl, hcap, hn.ext he, fun i hi => ?_⟩
 obtain ⟨b, off, cs, rfl, hb, hr, hrow⟩ := hc i hi
 exact ⟨b, off, cs, rfl, Nat.lt_of_lt_of_le hb he.size, k.chg hr (Chg.of_ext he B C.e) k.self, fun j u hj => by rw [eC he hb]; exact hrow j u hj⟩
theorem ListIn.mono (h : ListIn C B w v l) (k : CdOk P C) (hB : B <= B') : ListIn C B' w v l := by
 obtain ⟨a, cap, rfl, hcap, hn, hc⟩ := h
 refine ⟨a, cap, rfl, hcap, hn.mono hB, fun i hi => ?_⟩
 obtain ⟨b, off, cs, h1, h2, h3, h4⟩ := hc i hi
 exact ⟨b, off, cs, h1, h2, k.mono hB h3, h4⟩
theorem ListIn.nil (C : Cd α) (B : Nat) (w : World) (c : Nat) : ListIn C B w (.slice none 0 c) [] := ⟨none, c, rfl, Nat.zero_le _, Nb.nil _ _ _ _ _, fun k hk => absurd hk (by simp)⟩
theorem ListIn.form (h : ListIn C B w v l) : ∃ a cap, v = .slice a l.length cap := by obtain ⟨a, cap, h, _⟩ := h; exact ⟨a, cap, h⟩
theorem OwnL.lens (k : CdOk P C) {css : List (List Value)} (hl : css.length = l.length) (hR : ∀ k (h : k < l.length) (h' : k < css.length), C.R B w (l[k]'h) (css[k]'h')) : ∀ cs ∈ css, cs.length = C.n := by
 intro cs hcs
 obtain ⟨i, hi, rfl⟩ := List.getElem_of_mem hcs
 exact k.len (hR i (by omega) hi)
theorem OwnL.in (h : OwnL C B w v l) (k : CdOk P C) : ListIn C B w v l := by
 obtain ⟨css, hl, hR, ho⟩ := h
 have hlen := OwnL.lens k hl hR
 have ho' := ho
 rcases ho.2 with ⟨rfl, h0⟩ | ⟨g, cap, cur, rfl, hb, hg, hnc, _⟩
 ·obtain rfl : l = [] := List.length_eq_zero_iff.1 h0
  exact ListIn.nil _ _ _ _
 ·refine ⟨_, _, rfl, hnc, Nb.own ho', fun i hi => ⟨g, 0, css[i]'(by omega), rfl, bL hg, hR i hi (by omega), fun j u hj => ?_⟩⟩
  have hj' : j < C.n := by
   have := hlen _ (List.getElem_mem (show i < css.length by omega))
   have := (List.getElem?_eq_some_iff.1 hj).1; omega
  have h2 : i * C.n + j < l.length * C.n := by
   have : (i + 1) * C.n <= l.length * C.n := Nat.mul_le_mul_right _ hi
   rw [Nat.succ_mul] at this; omega
  have := World.ownsRow.cellAt ho' (i * C.n + j) h2
  rw [Nat.zero_add, this, flat_get hlen i j hj', List.getElem?_eq_getElem (show i < css.length by omega)]
  exact hj
theorem OwnL.nil (C : Cd α) (B : Nat) (w : World) : OwnL C B w (.slice none 0 0) [] := ⟨[], rfl, fun k hk => absurd hk (by simp), World.ownsRow_nil _ _ _ _⟩
theorem OwnL.fresh (C : Cd α) (w : World) : OwnL C w.heap.size (w.alloc (.cells #[] C.e)) (.slice (some ⟨w.heap.size, 0, none⟩) 0 0) [] :=
 ⟨[], rfl, fun k hk => absurd hk (by simp), World.ownsRow_lit w #[] 0 (Nat.le_refl _) (Nat.zero_le _) (by simp)⟩
theorem OwnL.chg {E : TypeId} {row : Option Nat} (h : OwnL C B w v l) (k : CdOk P C) (c : Chg B E row w w') (h2 : E ∉ C.inner) (hne : row = none \/ v.ownBlock ≠ row) : OwnL C B w' v l := by
 obtain ⟨css, hl, hR, ho⟩ := h
 refine ⟨css, hl, fun i hi hi' => k.chg (hR i hi hi') c h2, ho.1, ?_⟩
 rcases ho.2 with h1 | ⟨g, cap, cur, rfl, hb, hg, h3⟩
 ·exact .inl h1
 ·refine .inr ⟨g, cap, cur, rfl, hb, c.keep _ _ hg ?_, h3⟩
  rcases hne with rfl | hne
  ·exact fun x => by cases x
  ·exact fun x => hne (by rw [x]; rfl)
theorem OwnL.ext (h : OwnL C B w v l) (k : CdOk P C) (he : Ext w w') : OwnL C B w' v l := h.chg k (Chg.of_ext he B C.e) k.self (.inl rfl)
theorem OwnL.other {E : TypeId} {row : Option Nat} (h : OwnL C B w v l) (k : CdOk P C) (c : Chg B E row w w') (h1 : E ≠ C.e) (h2 : E ∉ C.inner) : OwnL C B w' v l := by
 obtain ⟨css, hl, hR, ho⟩ := h
 refine OwnL.chg ⟨css, hl, hR, ho⟩ k c h2 ?_
 cases row with
 | none => exact .inl rfl
 | some g =>
  refine .inr fun hv => ?_
  obtain ⟨_, c', f', h3⟩ := c.isrow g rfl
  rcases ho.2 with ⟨rfl, _⟩ | ⟨g', cap, cur, rfl, _, hg, _⟩
  ·cases hv
  ·cases hv; rw [h3] at hg; cases hg; exact h1 rfl
theorem OwnL.le (h : OwnL C B w v l) (_k : CdOk P C) (hk : ∀ i (h : i < l.length) cs, C.R B w (l[i]'h) cs -> C.R B' w (l[i]'h) cs) (hB : B' <= B) : OwnL C B' w v l := by
 obtain ⟨css, hl, hR, ho⟩ := h
 exact ⟨css, hl, fun i hi hi' => hk i hi _ (hR i hi hi'), ho.1, ho.2.imp_right fun ⟨g, cap, cur, h1, h2, h3⟩ => ⟨g, cap, cur, h1, Nat.le_trans hB h2, h3⟩⟩
theorem OwnL.form (h : OwnL C B w v l) : ∃ a cap, v = .slice a l.length cap := by
 obtain ⟨css, _, _, ho⟩ := h
 rcases ho.2 with ⟨rfl, h0⟩ | ⟨g, cap, cur, rfl, _⟩
 ·rw [h0]; exact ⟨_, _, rfl⟩
 ·exact ⟨_, _, rfl⟩
theorem OwnL.addr {n cap : Nat} {a : Option Addr} (h : OwnL C B w (.slice a n cap) l) (hl : 0 < l.length) : ∃ g, a = some ⟨g, 0, none⟩ /\ B <= g /\ g < w.heap.size /\ n = l.length := by
 obtain ⟨css, _, _, ho⟩ := h
 rcases ho.2 with ⟨h1, h0⟩ | ⟨g, cap', cur, h1, hb, hg, _⟩
 ·omega
 ·injection h1 with e1 e2 e3
  exact ⟨g, e1, hb, bL hg, e2⟩
theorem OwnL.frozen {n cap g : Nat} (h : OwnL C B w (.slice (some ⟨g, 0, none⟩) n cap) l) (j : Nat) : w.frozen? ⟨g, j, none⟩ = false := by
 obtain ⟨a, c, he⟩ := h.form
 injection he with _ e2 _
 subst e2
 obtain ⟨css, _, _, ho⟩ := h
 exact World.ownsRow.frozenAt ho j
theorem OwnL.row (h : OwnL C B w v l) {row : Option Nat} (hr : v.ownBlock = row) : ∀ g, row = some g -> B <= g /\ ∃ c f, w.heap[g]? = some (.cells c C.e f) := by
 obtain ⟨css, _, _, ho⟩ := h
 intro g hg
 rcases ho.2 with ⟨rfl, _⟩ | ⟨g', cap, cur, rfl, hb, hgg, _⟩
 ·rw [hg] at hr; cases hr
 ·rw [hg] at hr; cases hr; exact ⟨hb, _, _, hgg⟩
theorem OwnL.store {n cap g : Nat} (h : OwnL C B w (.slice (some ⟨g, 0, none⟩) n cap) l) (K : CdOk P C) (k : Nat) (hk : k < l.length) (j : Nat) (hj : j < C.n) (u : Value) (x : α) (hx : ∀ cs, C.R B w (l[k]'hk) cs -> C.R B w x (cs.set j u)) :
  OwnL C B (w.setCell ⟨g, k * C.n + j, none⟩ u) (.slice (some ⟨g, 0, none⟩) n cap) (l.set k x) /\ w.grownBy (w.setCell ⟨g, k * C.n + j, none⟩ u) (some g) /\ Chg B C.e (some g) w (w.setCell ⟨g, k * C.n + j, none⟩ u) := by
 obtain ⟨_, h1, _, _, rfl⟩ := h.addr (by omega)
 have hrow := h.row rfl
 obtain ⟨css, hl, hR, ho⟩ := h
 have hlen := OwnL.lens K hl hR
 have h2 := ho.stored (k * C.n + j) u
 have hc : Chg B C.e (some g) w (w.setCell ⟨g, k * C.n + j, none⟩ u) := ⟨keepBut_grown h2.2, h2.2.size, hrow⟩
 have hkc : k < css.length := by omega
 refine ⟨⟨css.set k ((css[k]'hkc).set j u), by simp [hl], fun i hi hi' => ?_, ?_⟩, h2.2, hc⟩
 ·refine K.chg ?_ hc K.self
  rw [List.getElem_set, List.getElem_set]
  by_cases e : k = i
  ·subst e; rw [if_pos rfl, if_pos rfl]; exact hx _ (hR k hk hkc)
  ·rw [if_neg e, if_neg e]; exact hR i (by simpa using hi) (by simpa using hi')
 ·rw [List.length_set, <- flat_set hlen k j hj hkc u]; exact h2.1
theorem listIn_new (K : CdOk P C) (w : World) (x : α) (cs : List Value) (n : Nat) (hn : n = w.heap.size) (h : C.R B w x cs) : ListIn C B (w.alloc (.cells cs.toArray C.e)) (.slice (some ⟨n, 0, none⟩) 1 1) [x] := by
 subst hn
 refine ⟨_, _, rfl, by simp, fun _ b hb => .inr ⟨_, _, by cases hb; exact bN w _⟩, fun k hk => ?_⟩
 obtain rfl : k = 0 := by simp at hk; omega
 refine ⟨w.heap.size, 0, cs, rfl, by simp, K.chg h (Chg.of_ext (eA _ _) B C.e) K.self, fun j u hj => ?_⟩
 rw [Nat.zero_add, Nat.zero_mul, Nat.zero_add, bC (bN w _)]; simpa using hj
theorem run_appL (K : CdOk P C) (ty : TypeId) (v x : Value) (l1 l2 : List α) (w : World) (h1 : OwnL C B w v l1) (h2 : ListIn C B w x l2) (hB : B <= w.heap.size) (hl : l1.length + l2.length <= 1000000) :
  ∃ v' w', (Builtin.append_ #[C.t, C.t] ty #[v, x]).run P w = .ok v' w' /\ OwnL C B w' v' (l1 ++ l2) /\ w.grownBy w' v.ownBlock /\ (v'.ownBlock = v.ownBlock \/ v'.ownBlock = some w.heap.size) /\ Chg B C.e v.ownBlock w w' := by
 obtain ⟨i, hi, hz, h3, h4⟩ := K.sl.info
 have hsm := K.sl.small
 have hrow := h1.row rfl
 obtain ⟨a, cap, rfl, hcap, hn, hc⟩ := h2
 obtain ⟨css, hcl, hR, ho⟩ := h1
 have hlen := OwnL.lens K hcl hR
 cases a with
 | none =>
  obtain rfl : l2 = [] := by
   cases l2 with
   | nil => rfl
   | cons y r => obtain ⟨b, off, cs, h0, _⟩ := hc 0 (by simp); cases h0
  refine ⟨v, w, ?_, by rw [List.append_nil]; exact ⟨css, hcl, hR, ho⟩, ⟨rfl, rfl, rfl, Nat.le_refl _, fun _ _ _ => rfl⟩, .inl rfl, ⟨fun _ _ hb _ => hb, Nat.le_refl _, hrow⟩⟩
  rcases ho.2 with ⟨rfl, h0⟩ | ⟨g, cap', cur, rfl, _, _, hnc, _⟩
  ·simp [Builtin.append_, run_underlying K.sl.und, sizeOf, typeInfo, hi, Builtin.lenOf, Builtin.firstCells]
  ·simp [Builtin.append_, run_underlying K.sl.und, sizeOf, typeInfo, hi, Builtin.lenOf, Builtin.firstCells, hnc, storeCells]
 | some ad =>
  have hex : ∃ dss : List (List Value), dss.length = l2.length /\ ∀ k (h : k < l2.length) (h' : k < dss.length), C.R B w (l2[k]'h) (dss[k]'h') /\ ∀ j c, (dss[k]'h')[j]? = some c -> w.cell? (ad.add (k * C.n + j)) = some c := by
   have : ∀ m, m <= l2.length -> ∃ dss : List (List Value), dss.length = m /\ ∀ k (h : k < l2.length) (h' : k < dss.length), C.R B w (l2[k]'h) (dss[k]'h') /\ ∀ j c, (dss[k]'h')[j]? = some c -> w.cell? (ad.add (k * C.n + j)) = some c := by
    intro m
    induction m with
    | zero => intro _; exact ⟨[], rfl, fun k _ h' => absurd h' (by simp)⟩
    | succ m ih =>
     intro hm
     obtain ⟨dss, hd, hh⟩ := ih (by omega)
     obtain ⟨b, off, cs, h0, hb, hr, hrw⟩ := hc m (by omega)
     refine ⟨dss ++ [cs], by simp [hd], fun k h h' => ?_⟩
     rw [List.getElem_append]
     split
     ·exact hh k h _
     ·have hkm : k = m := by simp at h'; omega
      subst hkm
      simp only [List.getElem_singleton]
      refine ⟨hr, fun j c hj => ?_⟩
      cases h0
      rw [Addr.add_lit, <- Nat.add_assoc]; exact hrw j c hj
   exact this _ (Nat.le_refl _)
  obtain ⟨dss, hdl, hd⟩ := hex
  have hdlen : ∀ cs ∈ dss, cs.length = C.n := by
   intro cs hcs
   obtain ⟨k, hk, rfl⟩ := List.getElem_of_mem hcs
   exact K.len (hd k (by omega) hk).1
  have hcell : ∀ j u, dss.flatten[j]? = some u -> w.cell? (ad.add j) = some u := by
   intro j u hj
   have hp := K.sl.pos
   have hdm : j / C.n * C.n + j % C.n = j := by rw [Nat.mul_comm]; exact Nat.div_add_mod j C.n
   have hml := Nat.mod_lt j hp
   rw [<- hdm, flat_get hdlen _ _ hml] at hj
   rcases Nat.lt_or_ge (j / C.n) dss.length with hk | hk
   ·rw [List.getElem?_eq_getElem hk] at hj
    have := (hd (j / C.n) (by omega) hk).2 (j % C.n) u hj
    rwa [hdm] at this
   ·rw [List.getElem?_eq_none hk] at hj; cases hj
  have hone : ∀ u ∈ dss.flatten, u.oneCell' = true := by
   intro u hu
   obtain ⟨cs, hcs, hu⟩ := List.mem_flatten.1 hu
   obtain ⟨k, hk, rfl⟩ := List.getElem_of_mem hcs
   exact K.one (hd k (by omega) hk).1 u hu
  have hby : (l1.length + l2.length) * C.bytes <= 140737488355328 := by
   have : (l1.length + l2.length) * C.bytes <= 1000000 * 1000 := Nat.mul_le_mul hl hsm
   omega
  obtain ⟨v', w', hr, ho', hg, _, hlies⟩ := run_append_own_at (P := P) (w := w) B C.t ty C.e i _ C.n C.bytes K.sl.und hi hz h3 h4 K.sl.zs K.sl.pos v l1.length css.flatten ho ad l2.length cap dss.flatten (by rw [flat_length hdlen, hdl]) hcell hone (by unfold maxLen; omega) hby hB
  have hchg : Chg B C.e v.ownBlock w w' := ⟨keepBut_grown hg, hg.size, hrow⟩
  refine ⟨v', w', hr, ⟨css ++ dss, by simp [hcl, hdl], fun k hk hk' => K.chg ?_ hchg K.self, ?_⟩, hg, hlies, hchg⟩
  ·rw [List.getElem_append, List.getElem_append]
   by_cases hkl : k < l1.length
   ·rw [dif_pos hkl, dif_pos (by omega)]; exact hR k hkl (by omega)
   ·rw [dif_neg hkl, dif_neg (by omega)]
    have := (hd (k - l1.length) (by simp at hk; omega) (by simp at hk; omega)).1
    simp only [hcl]; exact this
  ·rw [List.length_append, List.flatten_append]; exact ho'
structure AppL {α : Type} (C : Cd α) (B : Nat) (v v' : Value) (l : List α) (W0 w w' : World) : Prop where
 own : OwnL C B w' v' l
 below : Below B W0 w'
 chg : Chg B C.e v.ownBlock w w'
 lies : v'.ownBlock = v.ownBlock \/ v'.ownBlock = some w.heap.size
variable {o : Oper} {a : Act} {Kx : Act -> World -> Prop} {Q : Exit -> Act -> World -> Prop}
theorem below_chg {W0 : World} (hb : Below B W0 w) (hg : w.grownBy w' v.ownBlock) (ho : OwnL C B w v l) (hB : B <= w.heap.size) : Below B W0 w' := by
 obtain ⟨css, _, _, ho⟩ := ho
 exact below_grown hb ho (Nat.le_refl _) hB hg
theorem wp_appL (K : CdOk P C) (s x : Operand) (ho : o.op = .call { callee := .builtin .append, args := #[s, x], argTypes := #[C.t, C.t] })
  (v xv : Value) (l1 l2 : List α) (W0 w : World) (hs : a.eval s = v) (hx : a.eval x = xv) (h1 : OwnL C B w v l1) (h2 : ListIn C B w xv l2) (hb : Below B W0 w) (hB : B <= w.heap.size) (hl : l1.length + l2.length <= 1000000)
  (h : ∀ v' w', AppL C B v v' (l1 ++ l2) W0 w w' -> Kx (a.put o.dst v') w') : o.wp P a w Kx Q := by
 obtain ⟨v', w', hr, h3, h4, h5, h6⟩ := run_appL K o.type v xv l1 l2 w h1 h2 hB hl
 unfold Oper.wp execOp
 simp only [ho, resolve, invoke, builtin, Sem.run_bind, Sem.run_pure, Result.andThen_ok, List.map_toArray, List.map_cons, List.map_nil, hs, hx, hr]
 exact h v' w' ⟨h3, below_chg hb h4 h1 hB, h6, h5⟩
theorem appL (K : CdOk P C) {ops : Array Oper} {rest : List Oper} (hgd : o.guard = none) (s x : Operand) (ho : o.op = .call { callee := .builtin .append, args := #[s, x], argTypes := #[C.t, C.t] })
  (v xv : Value) (l1 l2 : List α) (W0 w : World) (hs : a.eval s = v) (hx : a.eval x = xv) (h1 : OwnL C B w v l1) (h2 : ListIn C B w xv l2) (hb : Below B W0 w) (hB : B <= w.heap.size) (hl : l1.length + l2.length <= 1000000)
  (h : ∀ v' w', AppL C B v v' (l1 ++ l2) W0 w w' -> wpList P ops Q rest (a.put o.dst v') w') : wpList P ops Q (o :: rest) a w :=
 wpList_plain hgd fun _ hK => wp_appL K s x ho v xv l1 l2 W0 w hs hx h1 h2 hb hB hl fun v' w' h3 => hK _ _ (h v' w' h3)
theorem stepL (K : CdOk P C) {ops : Array Oper} {E : Prop} (hgd : o.guard = none) (s x : Operand) (ho : o.op = .call { callee := .builtin .append, args := #[s, x], argTypes := #[C.t, C.t] })
  (v xv : Value) (l1 l2 : List α) (W0 w : World) (hs : a.eval s = v) (hx : a.eval x = xv) (h1 : OwnL C B w v l1) (h2 : ListIn C B w xv l2) (hb : Below B W0 w) (hB : B <= w.heap.size) (hl : l1.length + l2.length <= 1000000)
  (h : ∀ v' w', AppL C B v v' (l1 ++ l2) W0 w w' -> Kx (a.put o.dst v') w') : if Region.wanted o (yielded ops a.tmps) = true then Oper.wp P o a w Kx Q else E := by
 have hw : Region.wanted o (yielded ops a.tmps) = true := by simp [Region.wanted, hgd]
 rw [if_pos hw]
 exact wp_appL K s x ho v xv l1 l2 W0 w hs hx h1 h2 hb hB hl h
end
def cdA : Cd Attr := { t := 38, e := 45, n := 2, bytes := 32, z := .agg #[.string ⟨#[]⟩, .string ⟨#[]⟩], inner := [], R := fun _ _ x cs => cs = encA x }
theorem okA : CdOk Tryz.prog cdA where
 sl := slAttr
 len := fun h => by subst h; rfl
 one := fun h u hu => by subst h; simp [encA] at hu; rcases hu with rfl | rfl <;> rfl
 chg := fun h _ _ => h
 mono := fun _ h => h
 self := by simp [cdA]
abbrev AttIn (B : Nat) (w : World) (v : Value) (l : List Attr) : Prop := ListIn cdA B w v l
theorem ListIn.attrs {B : Nat} {w : World} {v : Value} {l : List Attr} (h : AttIn B w v l) : aA w v l := by
 obtain ⟨a, cap, rfl, hcap, _, hc⟩ := h
 refine ⟨a, cap, rfl, hcap, fun k hk => ?_⟩
 obtain ⟨b, off, cs, h1, h2, h3, h4⟩ := hc k hk
 have h3 : cs = encA (l[k]'hk) := h3
 subst h3
 exact ⟨b, off, h1, h2, h4 0 _ rfl, h4 1 _ rfl⟩
theorem attIn_of {B : Nat} {w : World} {v : Value} {l : List Attr} (h : aA w v l) (hn : Nb B w v 45) : AttIn B w v l := by
 obtain ⟨a, cap, rfl, hcap, hc⟩ := h
 refine ⟨a, cap, rfl, hcap, hn, fun k hk => ?_⟩
 obtain ⟨b, off, h1, h2, h3, h4⟩ := hc k hk
 refine ⟨b, off, encA (l[k]'hk), h1, h2, rfl, fun j c hj => ?_⟩
 match j, hj with
 | 0, hj => cases hj; exact h3
 | 1, hj => cases hj; exact h4
 | j + 2, hj => simp [encA] at hj
theorem aA.block {w : World} {v : Value} {l : List Attr} (h : aA w v l) (hl : 0 < l.length) : ∀ b, v.ownBlock = some b -> b < w.heap.size := by
 obtain ⟨a, cap, rfl, hcap, hc⟩ := h
 obtain ⟨b, off, rfl, h2, _⟩ := hc 0 hl
 intro b' hb'; cases hb'; exact h2
theorem OwnA.toIn {B B' : Nat} {w : World} {v : Value} {l : List Attr} (h : OwnA B w v l) : AttIn B' w v l := attIn_of h.at (Nb.own h)
theorem attIn_nil (B : Nat) (w : World) (c : Nat) : AttIn B w (.slice none 0 c) [] := ListIn.nil _ _ _ _
def cdS : Cd ByteArray := { t := 39, e := 9, n := 1, bytes := 16, z := .string ⟨#[]⟩, inner := [], R := fun _ _ x cs => cs = [.string x] }
theorem okS : CdOk Tryz.prog cdS where
 sl := { und := Tryz.underlying39, info := info_parts (by kernel_rfl), zs := rfl, pos := by decide, small := by decide }
 len := fun h => by subst h; rfl
 one := fun h u hu => by subst h; simp at hu; subst hu; rfl
 chg := fun h _ _ => h
 mono := fun _ h => h
 self := by simp [cdS]
abbrev StrIn (B : Nat) (w : World) (v : Value) (l : List ByteArray) : Prop := ListIn cdS B w v l
theorem ListIn.strs {B : Nat} {w : World} {v : Value} {l : List ByteArray} (h : StrIn B w v l) : StrsAt w v l := by
 obtain ⟨a, cap, rfl, hcap, _, hc⟩ := h
 refine ⟨a, cap, rfl, hcap, fun k hk => ?_⟩
 obtain ⟨b, off, cs, h1, h2, h3, h4⟩ := hc k hk
 have h3 : cs = [.string (l[k]'hk)] := h3
 subst h3
 have := h4 0 _ rfl
 exact ⟨b, off, h1, h2, by rw [Nat.add_zero, show off + k * cdS.n = off + k from by rw [show cdS.n = 1 from rfl, Nat.mul_one]] at this; exact this⟩
theorem strIn_of {B : Nat} {w : World} {v : Value} {l : List ByteArray} (h : StrsAt w v l) (hn : Nb B w v 9) : StrIn B w v l := by
 obtain ⟨a, cap, rfl, hcap, hc⟩ := h
 refine ⟨a, cap, rfl, hcap, hn, fun k hk => ?_⟩
 obtain ⟨b, off, h1, h2, h3⟩ := hc k hk
 refine ⟨b, off, [.string (l[k]'hk)], h1, h2, rfl, fun j c hj => ?_⟩
 match j, hj with
 | 0, hj => cases hj; rw [Nat.add_zero, show cdS.n = 1 from rfl, Nat.mul_one]; exact h3
 | j + 1, hj => simp at hj
theorem strIn_nil (B : Nat) (w : World) (c : Nat) : StrIn B w (.slice none 0 c) [] := ListIn.nil _ _ _ _
structure TrN where
 dep : Int
 nm : ByteArray
 kd : Int
 ats : List Attr
 dat : ByteArray
 ma : Int
 mi : Int
 cl : Int
def trC (x : TrN) (va : Value) : List Value := [.int .i64 x.dep, .string x.nm, .int .i64 x.kd, va, .string x.dat, .int .i64 x.ma, .int .i64 x.mi, .int .i64 x.cl]
def zTrN : TrN := ⟨0, ⟨#[]⟩, 0, [], ⟨#[]⟩, 0, 0, 0⟩
def cdT : Cd TrN := { t := 25, e := 43, n := 8, bytes := 96, z := .agg #[.int .i64 0, .string ⟨#[]⟩, .int .i64 0, .slice none 0 0, .string ⟨#[]⟩, .int .i64 0, .int .i64 0, .int .i64 0], inner := [45], R := fun B w x cs => ∃ va, AttIn B w va x.ats /\ cs = trC x va }
theorem slice_one {α : Type} {C : Cd α} {B : Nat} {w : World} {v : Value} {l : List α} (h : ListIn C B w v l) : v.oneCell' = true := by
 obtain ⟨a, cap, rfl⟩ := h.form; rfl
theorem okT : CdOk Tryz.prog cdT where
 sl := { und := Tryz.underlying25, info := info_parts (by kernel_rfl), zs := rfl, pos := by decide, small := by decide }
 len := fun h => by obtain ⟨va, _, rfl⟩ := h; rfl
 one := fun h u hu => by
  obtain ⟨va, h1, rfl⟩ := h
  have := slice_one h1
  simp [trC] at hu
  rcases hu with rfl | rfl | rfl | rfl | rfl | rfl | rfl | rfl <;> first | rfl | exact this
 chg := fun h c hE => by
  obtain ⟨va, h1, rfl⟩ := h
  exact ⟨va, h1.chg okA c (fun e => hE (by rw [e]; simp [cdT, cdA])) (by simp [cdA]), rfl⟩
 mono := fun hB h => by obtain ⟨va, h1, rfl⟩ := h; exact ⟨va, h1.mono okA hB, rfl⟩
 self := by decide
abbrev TrIn (B : Nat) (w : World) (v : Value) (l : List TrN) : Prop := ListIn cdT B w v l
structure BrN extends TrN where
 opq : Bool
 red : List ByteArray
def brC (x : BrN) (va vr : Value) : List Value := [.int .i64 x.dep, .string x.nm, .int .i64 x.kd, va, .string x.dat, .int .i64 x.ma, .int .i64 x.mi, .int .i64 x.cl, .bool x.opq, vr]
def cdB : Cd BrN := { t := 22, e := 41, n := 10, bytes := 128, z := .agg #[.int .i64 0, .string ⟨#[]⟩, .int .i64 0, .slice none 0 0, .string ⟨#[]⟩, .int .i64 0, .int .i64 0, .int .i64 0, .bool false, .slice none 0 0], inner := [45, 9], R := fun B w x cs => ∃ va vr, AttIn B w va x.ats /\ StrIn B w vr x.red /\ cs = brC x va vr }
theorem okB : CdOk Tryz.prog cdB where
 sl := { und := Tryz.underlying22, info := info_parts (by kernel_rfl), zs := rfl, pos := by decide, small := by decide }
 len := fun h => by obtain ⟨va, vr, _, _, rfl⟩ := h; rfl
 one := fun h u hu => by
  obtain ⟨va, vr, h1, h2, rfl⟩ := h
  have := slice_one h1; have := slice_one h2
  simp [brC] at hu
  rcases hu with rfl | rfl | rfl | rfl | rfl | rfl | rfl | rfl | rfl | rfl <;> first | rfl | assumption
 chg := fun h c hE => by
  obtain ⟨va, vr, h1, h2, rfl⟩ := h
  exact ⟨va, vr, h1.chg okA c (fun e => hE (by rw [e]; simp [cdB, cdA])) (by simp [cdA]), h2.chg okS c (fun e => hE (by rw [e]; simp [cdB, cdS])) (by simp [cdS]), rfl⟩
 mono := fun hB h => by obtain ⟨va, vr, h1, h2, rfl⟩ := h; exact ⟨va, vr, h1.mono okA hB, h2.mono okS hB, rfl⟩
 self := by decide
abbrev BrIn (B : Nat) (w : World) (v : Value) (l : List BrN) : Prop := ListIn cdB B w v l
theorem ListIn.tr {B : Nat} {w : World} {a : Option Addr} {n cap : Nat} {l : List TrN} (h : TrIn B w (.slice a n cap) l) (k : Nat) (hk : k < l.length) : ∃ b off va, a = some ⟨b, off, none⟩ /\ b < w.heap.size /\ AttIn B w va (l[k]'hk).ats /\
  w.cell? ⟨b, off + k * 8, none⟩ = some (.int .i64 (l[k]'hk).dep) /\ w.cell? ⟨b, off + k * 8 + 1, none⟩ = some (.string (l[k]'hk).nm) /\ w.cell? ⟨b, off + k * 8 + 2, none⟩ = some (.int .i64 (l[k]'hk).kd) /\ w.cell? ⟨b, off + k * 8 + 3, none⟩ = some va /\
  w.cell? ⟨b, off + k * 8 + 4, none⟩ = some (.string (l[k]'hk).dat) /\ w.cell? ⟨b, off + k * 8 + 5, none⟩ = some (.int .i64 (l[k]'hk).ma) /\ w.cell? ⟨b, off + k * 8 + 6, none⟩ = some (.int .i64 (l[k]'hk).mi) /\ w.cell? ⟨b, off + k * 8 + 7, none⟩ = some (.int .i64 (l[k]'hk).cl) := by
 obtain ⟨a', cap', he, _, _, hc⟩ := h
 cases he
 obtain ⟨b, off, cs, h1, h2, ⟨va, h3, rfl⟩, h4⟩ := hc k hk
 exact ⟨b, off, va, h1, h2, h3, h4 0 _ rfl, h4 1 _ rfl, h4 2 _ rfl, h4 3 _ rfl, h4 4 _ rfl, h4 5 _ rfl, h4 6 _ rfl, h4 7 _ rfl⟩
theorem ListIn.br {B : Nat} {w : World} {a : Option Addr} {n cap : Nat} {l : List BrN} (h : BrIn B w (.slice a n cap) l) (k : Nat) (hk : k < l.length) : ∃ b off va vr, a = some ⟨b, off, none⟩ /\ b < w.heap.size /\ AttIn B w va (l[k]'hk).ats /\ StrIn B w vr (l[k]'hk).red /\
  w.cell? ⟨b, off + k * 10, none⟩ = some (.int .i64 (l[k]'hk).dep) /\ w.cell? ⟨b, off + k * 10 + 1, none⟩ = some (.string (l[k]'hk).nm) /\ w.cell? ⟨b, off + k * 10 + 2, none⟩ = some (.int .i64 (l[k]'hk).kd) /\ w.cell? ⟨b, off + k * 10 + 3, none⟩ = some va /\
  w.cell? ⟨b, off + k * 10 + 4, none⟩ = some (.string (l[k]'hk).dat) /\ w.cell? ⟨b, off + k * 10 + 5, none⟩ = some (.int .i64 (l[k]'hk).ma) /\ w.cell? ⟨b, off + k * 10 + 6, none⟩ = some (.int .i64 (l[k]'hk).mi) /\ w.cell? ⟨b, off + k * 10 + 7, none⟩ = some (.int .i64 (l[k]'hk).cl) /\
  w.cell? ⟨b, off + k * 10 + 8, none⟩ = some (.bool (l[k]'hk).opq) /\ w.cell? ⟨b, off + k * 10 + 9, none⟩ = some vr := by
 obtain ⟨a', cap', he, _, _, hc⟩ := h
 cases he
 obtain ⟨b, off, cs, h1, h2, ⟨va, vr, h3, h5, rfl⟩, h4⟩ := hc k hk
 exact ⟨b, off, va, vr, h1, h2, h3, h5, h4 0 _ rfl, h4 1 _ rfl, h4 2 _ rfl, h4 3 _ rfl, h4 4 _ rfl, h4 5 _ rfl, h4 6 _ rfl, h4 7 _ rfl, h4 8 _ rfl, h4 9 _ rfl⟩
def firstN : List ByteArray -> Int
 | [] => 0
 | a :: r => if nameE (L a) ≠ 0 then nameE (L a) else firstN r
theorem firstN_append (l m : List ByteArray) (h : firstN l = 0) : firstN (l ++ m) = firstN m := by
 induction l with
 | nil => rfl
 | cons a r ih =>
  unfold firstN at h
  by_cases ha : nameE (L a) ≠ 0
  ·rw [if_pos ha] at h; exact absurd h ha
  ·rw [if_neg ha] at h; show (if nameE (L a) ≠ 0 then nameE (L a) else firstN (r ++ m)) = firstN m; rw [if_neg ha]; exact ih h
theorem firstN_step (l : List ByteArray) (k : Nat) (h : k < l.length) (h0 : firstN (l.take k) = 0) (ha : nameE (L (l[k]'h)) = 0) : firstN (l.take (k + 1)) = 0 := by
 rw [List.take_succ_eq_append_getElem h, firstN_append _ _ h0]; unfold firstN; rw [if_neg (by simpa using ha)]; rfl
theorem firstN_hit (l : List ByteArray) (k : Nat) (h : k < l.length) (h0 : firstN (l.take k) = 0) (ha : nameE (L (l[k]'h)) ≠ 0) : firstN l = nameE (L (l[k]'h)) := by
 have e : l = l.take k ++ l[k]'h :: l.drop (k + 1) := by simp
 have : firstN (l.take k ++ l[k]'h :: l.drop (k + 1)) = nameE (L (l[k]'h)) := by
  rw [firstN_append _ _ h0]; show (if nameE (L (l[k]'h)) ≠ 0 then nameE (L (l[k]'h)) else firstN (l.drop (k + 1))) = _; rw [if_pos ha]
 rw [<- e] at this; exact this
def pathE (l : List ByteArray) : Int := if 8 < l.length then 3 else firstN l
theorem pathE_long {l : List ByteArray} (h : 8 < l.length) : pathE l = 3 := if_pos h
theorem pathE_of {l : List ByteArray} (h : ¬ 8 < l.length) : pathE l = firstN l := if_neg h
def SameL {α : Type} (a b : List α) (k : Nat) : Prop := ∀ j, j < k -> a[j]? = b[j]?
theorem sameL_end {α : Type} {a b : List α} (hl : a.length = b.length) (h : SameL a b a.length) : a = b := by
 apply List.ext_getElem?
 intro i
 rcases Nat.lt_or_ge i a.length with hi | hi
 ·exact h i hi
 ·rw [List.getElem?_eq_none hi, List.getElem?_eq_none (by omega)]
abbrev trV (x : TrN) (va : Value) : Value := .agg #[.int .i64 x.dep, .string x.nm, .int .i64 x.kd, va, .string x.dat, .int .i64 x.ma, .int .i64 x.mi, .int .i64 x.cl]
def likeB (x y : TrN) : Bool := (x.kd == y.kd) && decide (x.ats = y.ats) && (x.dat.toList == y.dat.toList) && (x.ma == y.ma) && (x.mi == y.mi)
theorem refPathCheck (v : Value) (l : List ByteArray) (w : World) (hv : StrsAt w v l) (hm : ∀ s ∈ l, s.size <= 1000000) : Ret Tryz.prog 135 #[v] w (.int .i64 (pathE l)) := by
 unfold Ret
 obtain ⟨a, cap, rfl, hcap, hc⟩ := hv
 have HC := hQq hc; clear hc
 have HM := hQq hm; clear hm
 by_cases hl : 8 < l.length
 ·rw [pathE_long hl]
  go_enter Tryz.func135, Tryz.ntmps135
  go_wp2
  go_ret
  exact ⟨rfl, rfl⟩
 rw [pathE_of hl]
 go_enter Tryz.func135, Tryz.ntmps135
 go_wp2
 go_loop [3] (fun i => ∃ k : Nat, k <= l.length /\ i = .int .i64 k /\ firstN (l.take k) = 0) (fun i => l.length - (intOf i).toNat)
 case atStart => exact ⟨0, Nat.zero_le _, rfl, rfl⟩
 case round =>
  obtain ⟨k, hk, rfl, hf⟩ := hrel
  have HF := hQq hf; clear hf
  by_cases hlt : k < l.length
  ·obtain ⟨b, off, rfl, hbs, h1⟩ := HC.out k hlt
   have hm1 := HM.out _ (List.getElem_mem hlt)
   by_cases he : nameE (L (l[k]'hlt)) = 0
   ·have HN := hQq (firstN_step l k hlt HF.out he)
    generalize l[k]'hlt = x at h1 hm1 he
    go_wp2_with (go_at_call 132; refine (refName _ _ hm1).mono ?_; rintro e w' ⟨rfl, rfl⟩)
    go_round
    case rel => exact ⟨k + 1, by omega, by go_num, HN.out⟩
    case measure => simp [intOf]; omega
   ·have HN := hQq (firstN_hit l k hlt HF.out he)
    have he1 : (nameE (L (l[k]'hlt)) != 0) = true := bne_iff_ne.2 he
    clear he
    generalize l[k]'hlt = x at h1 hm1 he1 HN
    go_wp2_with (go_at_call 132; refine (refName _ _ hm1).mono ?_; rintro e w' ⟨rfl, rfl⟩)
    go_ret
    exact ⟨by rw [HN.out]; rfl, rfl⟩
  ·have HN : Hid (firstN l = 0) := by have := HF.out; rw [List.take_of_length_le (by omega)] at this; exact this
   go_wp2
   go_ret
   exact ⟨by rw [HN.out]; rfl, rfl⟩
theorem pathsCheck (v : Value) (l : List ByteArray) (w : World) (hv : StrsAt w v l) : RetB Tryz.prog 138 #[v] w (.int .i64 (pathE l)) := by
 unfold RetB
 obtain ⟨a, cap, rfl, hcap, hc⟩ := hv
 have HC := hQq hc; clear hc
 by_cases hl : 8 < l.length
 ·rw [pathE_long hl]
  go_enter Tryz.func138, Tryz.ntmps138
  go_wp2
  go_ret
  exact ⟨rfl, bR _ _⟩
 rw [pathE_of hl]
 go_enter Tryz.func138, Tryz.ntmps138
 go_wp2
 go_loopw [11] (fun i w' => ∃ (wi : World) (k : Nat), wi = w' /\ k <= l.length /\ i = .int .i64 k /\ firstN (l.take k) = 0 /\ Ext w w') (fun i _ => l.length - (intOf i).toNat)
 case atStart => exact ⟨_, 0, rfl, Nat.zero_le _, rfl, rfl, bR _ _⟩
 case round =>
  obtain ⟨wi, k, rfl, hk, rfl, hf, hb⟩ := hrel
  have HF := hQq hf; clear hf
  by_cases hlt : k < l.length
  ·obtain ⟨b, off, rfl, hbs, h1⟩ := HC.out k hlt
   replace h1 := (eC hb hbs).trans h1
   have HB := hQq hb; clear hb
   by_cases he : nameE (L (l[k]'hlt)) = 0
   ·have HN := hQq (firstN_step l k hlt HF.out he)
    generalize l[k]'hlt = x at h1 he
    go_wp2_with (go_at_call 139; refine (pathsName _ _).mono ?_; rintro e w' ⟨rfl, hb2⟩; have H2 := hQq hb2; clear hb2)
    go_roundw
    case rel => exact ⟨_, k + 1, rfl, by omega, by go_num, HN.out, Ext.trans HB.out H2.out⟩
    case measure => simp [intOf]; omega
   ·have HN := hQq (firstN_hit l k hlt HF.out he)
    have he1 : (nameE (L (l[k]'hlt)) != 0) = true := bne_iff_ne.2 he
    clear he
    generalize l[k]'hlt = x at h1 he1 HN
    go_wp2_with (go_at_call 139; refine (pathsName _ _).mono ?_; rintro e w' ⟨rfl, hb2⟩; have H2 := hQq hb2; clear hb2)
    go_ret
    exact ⟨by rw [HN.out]; rfl, Ext.trans HB.out H2.out⟩
  ·have HN : Hid (firstN l = 0) := by have := HF.out; rw [List.take_of_length_le (by omega)] at this; exact this
   have HB := hQq hb; clear hb
   go_wp2
   go_ret
   exact ⟨by rw [HN.out]; rfl, HB.out⟩
set_option maxRecDepth 100000 in
theorem refSameS (u v : Value) (a b : List ByteArray) (w : World) (hu : StrsAt w u a) (hv : StrsAt w v b) (hl : a.length <= 1000000) :
  RetB Tryz.prog 74 #[u, v] w (.bool (decide (a = b))) := by
 unfold RetB
 obtain ⟨aa, cap, rfl, _, hc⟩ := hu
 obtain ⟨ba, cap2, rfl, _, hc2⟩ := hv
 have HC := hQq hc; clear hc
 have HD := hQq hc2; clear hc2
 by_cases hab : a.length = b.length
 ·have e0 : (((a.length : Nat) : Int) != ((b.length : Nat) : Int)) = false := by rw [bne_eq_false_iff_eq]; omega
  go_enter Tryz.func74, Tryz.ntmps74
  go_wp2
  go_loopw [5] (fun i w' => ∃ (wi : World) (k : Nat), wi = w' /\ k <= a.length /\ i = .int .i64 k /\ SameL a b k /\ Ext w w') (fun i _ => a.length - (intOf i).toNat)
  case atStart => exact ⟨_, 0, rfl, Nat.zero_le _, rfl, fun j hj => absurd hj (by omega), bR _ _⟩
  case round =>
   obtain ⟨wi, k, rfl, hk, rfl, hs, hb⟩ := hrel
   have HS := hQq hs; clear hs
   by_cases hlt : k < a.length
   ·obtain ⟨bb, off, rfl, hbs, c1⟩ := HC.out k hlt
    obtain ⟨bb2, off2, rfl, hbs2, d1⟩ := HD.out k (by omega)
    replace c1 := (eC hb hbs).trans c1
    replace d1 := (eC hb hbs2).trans d1
    have hx : a[k]? = some (a[k]'hlt) := List.getElem?_eq_getElem hlt
    have hy : b[k]? = some (b[k]'(by omega)) := List.getElem?_eq_getElem (by omega)
    generalize a[k]'hlt = x at c1 hx
    generalize b[k]'(by omega) = y at d1 hy
    have HX := hQq hx; clear hx
    have HY := hQq hy; clear hy
    have HB := hQq hb; clear hb
    have j1 : ((k : Nat) : Int) < (a.length : Int) := by omega
    have j2 : ((k : Nat) : Int) < (b.length : Int) := by omega
    clear e0
    cases e1 : x.toList == y.toList
    ·have he : ¬ x = y := fun e => by rw [e] at e1; simp at e1
     have HN := hQq (show decide (a = b) = false from decide_eq_false fun e => he (by have h1 := HX.out; rw [e, HY.out] at h1; injection h1 with h1; exact h1.symm))
     clear he
     go_wp2
     go_quiet (fail)
     go_wp2
     go_ret
     exact ⟨by rw [HN.out]; rfl, Ext.trans HB.out (eDn _ _)⟩
    ·have he : x = y := L_inj (by rw [<- tL, <- tL]; exact beq_iff_eq.1 e1)
     have hN : SameL a b (k + 1) := by
      intro j hj
      by_cases e : j = k
      ·subst e; rw [HX.out, HY.out, he]
      ·exact HS.out j (by omega)
     have HN := hQq hN; clear hN he
     go_wp2
     go_quiet (fail)
     go_wp2
     go_roundw
     case rel => exact ⟨_, k + 1, rfl, by omega, by go_num, HN.out, Ext.trans HB.out (eDn _ _)⟩
     case measure => simp [intOf]; omega
   ·obtain rfl : k = a.length := by omega
    have HN := hQq (show decide (a = b) = true from decide_eq_true (sameL_end hab HS.out))
    have HB := hQq hb; clear hb
    go_wp2
    go_ret
    exact ⟨by rw [HN.out]; rfl, HB.out⟩
 ·have e0 : (((a.length : Nat) : Int) != ((b.length : Nat) : Int)) = true := by rw [bne_iff_ne]; omega
  rw [show decide (a = b) = false from decide_eq_false fun e => hab (by rw [e])]
  go_enter Tryz.func74, Tryz.ntmps74
  go_wp2
  go_ret
  exact ⟨rfl, bR _ _⟩
set_option maxRecDepth 100000 in
theorem slEqualS (u v : Value) (a b : List ByteArray) (w : World) (hu : StrsAt w u a) (hv : StrsAt w v b) (hl : a.length <= 1000000) :
  RetB Tryz.prog 116 #[u, v] w (.bool (decide (a = b))) := by
 unfold RetB
 obtain ⟨aa, cap, rfl, _, hc⟩ := hu
 obtain ⟨ba, cap2, rfl, _, hc2⟩ := hv
 have HC := hQq hc; clear hc
 have HD := hQq hc2; clear hc2
 by_cases hab : a.length = b.length
 ·have e0 : (((a.length : Nat) : Int) != ((b.length : Nat) : Int)) = false := by rw [bne_eq_false_iff_eq]; omega
  go_enter Tryz.func116, Tryz.ntmps116
  go_wp2
  go_loopw [13] (fun i w' => ∃ (wi : World) (k : Nat), wi = w' /\ k <= a.length /\ i = .int .i64 k /\ SameL a b k /\ Ext w w') (fun i _ => a.length - (intOf i).toNat)
  case atStart => exact ⟨_, 0, rfl, Nat.zero_le _, rfl, fun j hj => absurd hj (by omega), bR _ _⟩
  case round =>
   obtain ⟨wi, k, rfl, hk, rfl, hs, hb⟩ := hrel
   have HS := hQq hs; clear hs
   by_cases hlt : k < a.length
   ·obtain ⟨bb, off, rfl, hbs, c1⟩ := HC.out k hlt
    obtain ⟨bb2, off2, rfl, hbs2, d1⟩ := HD.out k (by omega)
    replace c1 := (eC hb hbs).trans c1
    replace d1 := (eC hb hbs2).trans d1
    have hx : a[k]? = some (a[k]'hlt) := List.getElem?_eq_getElem hlt
    have hy : b[k]? = some (b[k]'(by omega)) := List.getElem?_eq_getElem (by omega)
    generalize a[k]'hlt = x at c1 hx
    generalize b[k]'(by omega) = y at d1 hy
    have HX := hQq hx; clear hx
    have HY := hQq hy; clear hy
    have HB := hQq hb; clear hb
    have j1 : ((k : Nat) : Int) < (a.length : Int) := by omega
    have j2 : ((k : Nat) : Int) < (b.length : Int) := by omega
    clear e0
    cases e1 : x.toList == y.toList
    ·have he : ¬ x = y := fun e => by rw [e] at e1; simp at e1
     have HN := hQq (show decide (a = b) = false from decide_eq_false fun e => he (by have h1 := HX.out; rw [e, HY.out] at h1; injection h1 with h1; exact h1.symm))
     clear he
     go_wp2
     go_quiet (fail)
     go_wp2
     go_ret
     exact ⟨by rw [HN.out]; rfl, Ext.trans HB.out (eDn _ _)⟩
    ·have he : x = y := L_inj (by rw [<- tL, <- tL]; exact beq_iff_eq.1 e1)
     have hN : SameL a b (k + 1) := by
      intro j hj
      by_cases e : j = k
      ·subst e; rw [HX.out, HY.out, he]
      ·exact HS.out j (by omega)
     have HN := hQq hN; clear hN he
     go_wp2
     go_quiet (fail)
     go_wp2
     go_roundw
     case rel => exact ⟨_, k + 1, rfl, by omega, by go_num, HN.out, Ext.trans HB.out (eDn _ _)⟩
     case measure => simp [intOf]; omega
   ·obtain rfl : k = a.length := by omega
    have HN := hQq (show decide (a = b) = true from decide_eq_true (sameL_end hab HS.out))
    have HB := hQq hb; clear hb
    go_wp2
    go_ret
    exact ⟨by rw [HN.out]; rfl, HB.out⟩
 ·have e0 : (((a.length : Nat) : Int) != ((b.length : Nat) : Int)) = true := by rw [bne_iff_ne]; omega
  rw [show decide (a = b) = false from decide_eq_false fun e => hab (by rw [e])]
  go_enter Tryz.func116, Tryz.ntmps116
  go_wp2
  go_ret
  exact ⟨rfl, bR _ _⟩
set_option maxRecDepth 100000 in
theorem refSameA (u v : Value) (a b : List Attr) (w : World) (hu : aA w u a) (hv : aA w v b) (hl : a.length <= 1000000) :
  RetB Tryz.prog 84 #[u, v] w (.bool (decide (a = b))) := by
 unfold RetB
 obtain ⟨aa, cap, rfl, _, hc⟩ := hu
 obtain ⟨ba, cap2, rfl, _, hc2⟩ := hv
 have HC := hQq hc; clear hc
 have HD := hQq hc2; clear hc2
 by_cases hab : a.length = b.length
 ·have e0 : (((a.length : Nat) : Int) != ((b.length : Nat) : Int)) = false := by rw [bne_eq_false_iff_eq]; omega
  go_enter Tryz.func84, Tryz.ntmps84
  go_wp2
  go_loopw [5] (fun i w' => ∃ (wi : World) (k : Nat), wi = w' /\ k <= a.length /\ i = .int .i64 k /\ SameL a b k /\ Ext w w') (fun i _ => a.length - (intOf i).toNat)
  case atStart => exact ⟨_, 0, rfl, Nat.zero_le _, rfl, fun j hj => absurd hj (by omega), bR _ _⟩
  case round =>
   obtain ⟨wi, k, rfl, hk, rfl, hs, hb⟩ := hrel
   have HS := hQq hs; clear hs
   by_cases hlt : k < a.length
   ·obtain ⟨bb, off, rfl, hbs, c1, c2⟩ := HC.out k hlt
    obtain ⟨bb2, off2, rfl, hbs2, d1, d2⟩ := HD.out k (by omega)
    replace c1 := (eC hb hbs).trans c1
    replace c2 := (eC hb hbs).trans c2
    replace d1 := (eC hb hbs2).trans d1
    replace d2 := (eC hb hbs2).trans d2
    have hx : a[k]? = some (a[k]'hlt) := List.getElem?_eq_getElem hlt
    have hy : b[k]? = some (b[k]'(by omega)) := List.getElem?_eq_getElem (by omega)
    generalize a[k]'hlt = x at c1 c2 hx
    generalize b[k]'(by omega) = y at d1 d2 hy
    have HX := hQq hx; clear hx
    have HY := hQq hy; clear hy
    have HB := hQq hb; clear hb
    have j1 : ((k : Nat) : Int) < (a.length : Int) := by omega
    have j2 : ((k : Nat) : Int) < (b.length : Int) := by omega
    clear e0
    cases e1 : x.1.toList == y.1.toList
    ·have he : ¬ x = y := fun e => by rw [e] at e1; simp at e1
     have HN := hQq (show decide (a = b) = false from decide_eq_false fun e => he (by have h1 := HX.out; rw [e, HY.out] at h1; injection h1 with h1; exact h1.symm))
     clear he
     go_wp2
     go_quiet (fail)
     go_wp2
     go_ret
     exact ⟨by rw [HN.out]; rfl, Ext.trans HB.out (eDn _ _)⟩
    cases e2 : x.2.toList == y.2.toList
    ·have he : ¬ x = y := fun e => by rw [e] at e2; simp at e2
     have HN := hQq (show decide (a = b) = false from decide_eq_false fun e => he (by have h1 := HX.out; rw [e, HY.out] at h1; injection h1 with h1; exact h1.symm))
     clear he
     go_wp2
     go_quiet (fail)
     go_wp2
     go_ret
     exact ⟨by rw [HN.out]; rfl, Ext.trans HB.out (eDn _ _)⟩
    ·have he : x = y := Prod.ext (L_inj (by rw [<- tL, <- tL]; exact beq_iff_eq.1 e1)) (L_inj (by rw [<- tL, <- tL]; exact beq_iff_eq.1 e2))
     have hN : SameL a b (k + 1) := by
      intro j hj
      by_cases e : j = k
      ·subst e; rw [HX.out, HY.out, he]
      ·exact HS.out j (by omega)
     have HN := hQq hN; clear hN he
     go_wp2
     go_quiet (fail)
     go_wp2
     go_roundw
     case rel => exact ⟨_, k + 1, rfl, by omega, by go_num, HN.out, Ext.trans HB.out (eDn _ _)⟩
     case measure => simp [intOf]; omega
   ·obtain rfl : k = a.length := by omega
    have HN := hQq (show decide (a = b) = true from decide_eq_true (sameL_end hab HS.out))
    have HB := hQq hb; clear hb
    go_wp2
    go_ret
    exact ⟨by rw [HN.out]; rfl, HB.out⟩
 ·have e0 : (((a.length : Nat) : Int) != ((b.length : Nat) : Int)) = true := by rw [bne_iff_ne]; omega
  rw [show decide (a = b) = false from decide_eq_false fun e => hab (by rw [e])]
  go_enter Tryz.func84, Tryz.ntmps84
  go_wp2
  go_ret
  exact ⟨rfl, bR _ _⟩
set_option maxRecDepth 100000 in
theorem slEqualA (u v : Value) (a b : List Attr) (w : World) (hu : aA w u a) (hv : aA w v b) (hl : a.length <= 1000000) :
  RetB Tryz.prog 238 #[u, v] w (.bool (decide (a = b))) := by
 unfold RetB
 obtain ⟨aa, cap, rfl, _, hc⟩ := hu
 obtain ⟨ba, cap2, rfl, _, hc2⟩ := hv
 have HC := hQq hc; clear hc
 have HD := hQq hc2; clear hc2
 by_cases hab : a.length = b.length
 ·have e0 : (((a.length : Nat) : Int) != ((b.length : Nat) : Int)) = false := by rw [bne_eq_false_iff_eq]; omega
  go_enter Tryz.func238, Tryz.ntmps238
  go_wp2
  go_loopw [13] (fun i w' => ∃ (wi : World) (k : Nat), wi = w' /\ k <= a.length /\ i = .int .i64 k /\ SameL a b k /\ Ext w w') (fun i _ => a.length - (intOf i).toNat)
  case atStart => exact ⟨_, 0, rfl, Nat.zero_le _, rfl, fun j hj => absurd hj (by omega), bR _ _⟩
  case round =>
   obtain ⟨wi, k, rfl, hk, rfl, hs, hb⟩ := hrel
   have HS := hQq hs; clear hs
   by_cases hlt : k < a.length
   ·obtain ⟨bb, off, rfl, hbs, c1, c2⟩ := HC.out k hlt
    obtain ⟨bb2, off2, rfl, hbs2, d1, d2⟩ := HD.out k (by omega)
    replace c1 := (eC hb hbs).trans c1
    replace c2 := (eC hb hbs).trans c2
    replace d1 := (eC hb hbs2).trans d1
    replace d2 := (eC hb hbs2).trans d2
    have hx : a[k]? = some (a[k]'hlt) := List.getElem?_eq_getElem hlt
    have hy : b[k]? = some (b[k]'(by omega)) := List.getElem?_eq_getElem (by omega)
    generalize a[k]'hlt = x at c1 c2 hx
    generalize b[k]'(by omega) = y at d1 d2 hy
    have HX := hQq hx; clear hx
    have HY := hQq hy; clear hy
    have HB := hQq hb; clear hb
    have j1 : ((k : Nat) : Int) < (a.length : Int) := by omega
    have j2 : ((k : Nat) : Int) < (b.length : Int) := by omega
    clear e0
    cases e1 : x.1.toList == y.1.toList
    ·have he : ¬ x = y := fun e => by rw [e] at e1; simp at e1
     have HN := hQq (show decide (a = b) = false from decide_eq_false fun e => he (by have h1 := HX.out; rw [e, HY.out] at h1; injection h1 with h1; exact h1.symm))
     clear he
     go_wp2
     go_quiet (fail)
     go_wp2
     go_ret
     exact ⟨by rw [HN.out]; rfl, Ext.trans HB.out (eDn _ _)⟩
    cases e2 : x.2.toList == y.2.toList
    ·have he : ¬ x = y := fun e => by rw [e] at e2; simp at e2
     have HN := hQq (show decide (a = b) = false from decide_eq_false fun e => he (by have h1 := HX.out; rw [e, HY.out] at h1; injection h1 with h1; exact h1.symm))
     clear he
     go_wp2
     go_quiet (fail)
     go_wp2
     go_ret
     exact ⟨by rw [HN.out]; rfl, Ext.trans HB.out (eDn _ _)⟩
    ·have he : x = y := Prod.ext (L_inj (by rw [<- tL, <- tL]; exact beq_iff_eq.1 e1)) (L_inj (by rw [<- tL, <- tL]; exact beq_iff_eq.1 e2))
     have hN : SameL a b (k + 1) := by
      intro j hj
      by_cases e : j = k
      ·subst e; rw [HX.out, HY.out, he]
      ·exact HS.out j (by omega)
     have HN := hQq hN; clear hN he
     go_wp2
     go_quiet (fail)
     go_wp2
     go_roundw
     case rel => exact ⟨_, k + 1, rfl, by omega, by go_num, HN.out, Ext.trans HB.out (eDn _ _)⟩
     case measure => simp [intOf]; omega
   ·obtain rfl : k = a.length := by omega
    have HN := hQq (show decide (a = b) = true from decide_eq_true (sameL_end hab HS.out))
    have HB := hQq hb; clear hb
    go_wp2
    go_ret
    exact ⟨by rw [HN.out]; rfl, HB.out⟩
 ·have e0 : (((a.length : Nat) : Int) != ((b.length : Nat) : Int)) = true := by rw [bne_iff_ne]; omega
  rw [show decide (a = b) = false from decide_eq_false fun e => hab (by rw [e])]
  go_enter Tryz.func238, Tryz.ntmps238
  go_wp2
  go_ret
  exact ⟨rfl, bR _ _⟩
set_option maxRecDepth 100000 in
theorem refLike (x y : TrN) (va vb : Value) (w : World) (ha : aA w va x.ats) (hb : aA w vb y.ats) (hl : x.ats.length <= 1000000) :
  RetB Tryz.prog 64 #[trV x va, trV y vb] w (.bool (likeB x y)) := by
 unfold RetB trV
 have hA : ∀ W, Ext w W -> RetB Tryz.prog 84 #[va, vb] W (.bool (decide (x.ats = y.ats))) := fun W he => refSameA va vb _ _ W (ha.ext he) (hb.ext he) hl
 have HW : Hid (Ext w ((w.alloc (.cells #[.int .i64 x.dep, .string x.nm, .int .i64 x.kd, va, .string x.dat, .int .i64 x.ma, .int .i64 x.mi, .int .i64 x.cl] 43)).alloc (.cells #[.int .i64 y.dep, .string y.nm, .int .i64 y.kd, vb, .string y.dat, .int .i64 y.ma, .int .i64 y.mi, .int .i64 y.cl] 43))) := (eA _ _).trans (eA _ _)
 clear ha hb
 unfold likeB
 have HH := hQq hA; clear hA
 cases e0 : x.kd == y.kd
 ·simp only [Bool.false_and]
  go_enter Tryz.func64, Tryz.ntmps64
  go_wp2
  go_ret
  exact ⟨by simp, HW.out⟩
 cases e1 : decide (x.ats = y.ats)
 ·simp only [Bool.and_false, Bool.false_and]
  go_enter Tryz.func64, Tryz.ntmps64
  go_wp2_with (go_at_call 84; refine (HH.out _ HW.out).mono ?_; rintro e w' ⟨rfl, hb⟩; obtain ⟨hc, hf⟩ := bcell hb; have HB := hQq hb; clear hb)
  go_ret
  exact ⟨by simp, Ext.trans HW.out HB.out⟩
 cases e2 : x.dat.toList == y.dat.toList
 ·simp only [Bool.and_false, Bool.false_and]
  go_enter Tryz.func64, Tryz.ntmps64
  go_wp2_with (go_at_call 84; refine (HH.out _ HW.out).mono ?_; rintro e w' ⟨rfl, hb⟩; obtain ⟨hc, hf⟩ := bcell hb; have HB := hQq hb; clear hb)
  go_ret
  exact ⟨by simp, Ext.trans HW.out HB.out⟩
 cases e3 : x.ma == y.ma
 ·simp only [Bool.and_false, Bool.false_and]
  go_enter Tryz.func64, Tryz.ntmps64
  go_wp2_with (go_at_call 84; refine (HH.out _ HW.out).mono ?_; rintro e w' ⟨rfl, hb⟩; obtain ⟨hc, hf⟩ := bcell hb; have HB := hQq hb; clear hb)
  go_ret
  exact ⟨by simp, Ext.trans HW.out HB.out⟩
 cases e4 : x.mi == y.mi
 ·simp only [Bool.and_false]
  go_enter Tryz.func64, Tryz.ntmps64
  go_wp2_with (go_at_call 84; refine (HH.out _ HW.out).mono ?_; rintro e w' ⟨rfl, hb⟩; obtain ⟨hc, hf⟩ := bcell hb; have HB := hQq hb; clear hb)
  go_ret
  exact ⟨by simp, Ext.trans HW.out HB.out⟩
 ·simp only [Bool.and_true]
  go_enter Tryz.func64, Tryz.ntmps64
  go_wp2_with (go_at_call 84; refine (HH.out _ HW.out).mono ?_; rintro e w' ⟨rfl, hb⟩; obtain ⟨hc, hf⟩ := bcell hb; have HB := hQq hb; clear hb)
  go_ret
  exact ⟨by simp, Ext.trans HW.out HB.out⟩
set_option maxRecDepth 100000 in
theorem treeLike (x y : TrN) (va vb : Value) (w : World) (ha : aA w va x.ats) (hb : aA w vb y.ats) (hl : x.ats.length <= 1000000) :
  RetB Tryz.prog 215 #[trV x va, trV y vb] w (.bool (likeB x y)) := by
 unfold RetB trV
 have hA : ∀ W, Ext w W -> RetB Tryz.prog 238 #[va, vb] W (.bool (decide (x.ats = y.ats))) := fun W he => slEqualA va vb _ _ W (ha.ext he) (hb.ext he) hl
 have HW : Hid (Ext w ((w.alloc (.cells #[.int .i64 x.dep, .string x.nm, .int .i64 x.kd, va, .string x.dat, .int .i64 x.ma, .int .i64 x.mi, .int .i64 x.cl] 43)).alloc (.cells #[.int .i64 y.dep, .string y.nm, .int .i64 y.kd, vb, .string y.dat, .int .i64 y.ma, .int .i64 y.mi, .int .i64 y.cl] 43))) := (eA _ _).trans (eA _ _)
 clear ha hb
 unfold likeB
 have HH := hQq hA; clear hA
 cases e0 : x.kd == y.kd
 ·simp only [Bool.false_and]
  go_enter Tryz.func215, Tryz.ntmps215
  go_wp2
  go_ret
  exact ⟨by simp, HW.out⟩
 cases e1 : x.dat.toList == y.dat.toList
 ·simp only [Bool.and_false, Bool.false_and]
  go_enter Tryz.func215, Tryz.ntmps215
  go_wp2
  go_ret
  exact ⟨by simp, HW.out⟩
 cases e2 : x.ma == y.ma
 ·simp only [Bool.and_false, Bool.false_and]
  go_enter Tryz.func215, Tryz.ntmps215
  go_wp2
  go_ret
  exact ⟨by simp, HW.out⟩
 cases e3 : x.mi == y.mi
 ·simp only [Bool.and_false]
  go_enter Tryz.func215, Tryz.ntmps215
  go_wp2
  go_ret
  exact ⟨by simp, HW.out⟩
 cases e4 : decide (x.ats = y.ats)
 ·simp only [Bool.and_false, Bool.false_and]
  go_enter Tryz.func215, Tryz.ntmps215
  go_wp2_with (go_at_call 238; refine (HH.out _ HW.out).mono ?_; rintro e w' ⟨rfl, hb⟩; obtain ⟨hc, hf⟩ := bcell hb; have HB := hQq hb; clear hb)
  go_ret
  exact ⟨by simp, Ext.trans HW.out HB.out⟩
 ·simp only [Bool.and_true]
  go_enter Tryz.func215, Tryz.ntmps215
  go_wp2_with (go_at_call 238; refine (HH.out _ HW.out).mono ?_; rintro e w' ⟨rfl, hb⟩; obtain ⟨hc, hf⟩ := bcell hb; have HB := hQq hb; clear hb)
  go_ret
  exact ⟨by simp, Ext.trans HW.out HB.out⟩
def kindE (x : TrN) : Int :=
 if x.kd < 1 \/ 5 < x.kd then 14
 else if x.kd = 1 then (if x.dat.toList = [] /\ x.ma = 0 /\ x.mi = 0 /\ x.cl = 0 then 0 else 6)
 else if x.kd = 2 then (if x.ma = 0 /\ x.mi = 0 then (if 384 < x.dat.size then 3 else 0) else 6)
 else if x.kd = 3 then (if ¬ x.dat.toList = [] /\ x.ma = 0 /\ x.mi = 0 then (if 200 < x.dat.size then 3 else 0) else 6)
 else if x.kd = 4 then (if x.dat.toList = [] then (if x.ma < 0 \/ 255 < x.ma \/ x.mi < 0 \/ 255 < x.mi then 7 else 0) else 6)
 else (if x.dat.toList = [] /\ x.ma = 0 /\ x.mi = 0 /\ x.cl = 0 /\ x.ats.length = 0 then 0 else 6)
theorem empty_size {s : ByteArray} (h : s.toList = []) : s.size = 0 := by rw [tL] at h; rw [size_L, h]; rfl
def getT (t : List TrN) (i : Nat) : TrN := t.getD i zTrN
theorem getT_at (t : List TrN) (i : Nat) (h : i < t.length) : getT t i = t[i]'h := by unfold getT; simp [List.getD, h]
def mostD (p : TrN) : Int := if p.kd = 1 then p.dep + 1 else p.dep
def shapeE (t : List TrN) (i : Nat) : Int :=
 if i = 0 then (if (getT t i).dep = 0 /\ (getT t i).nm.toList = [] /\ (getT t i).kd = 1 then 0 else 6)
 else if (getT t i).dep < 1 \/ mostD (getT t (i - 1)) < (getT t i).dep then 6 else if 8 < (getT t i).dep then 3 else 0
def scan : List TrN -> Int -> Nat × Option ByteArray
 | [], _ => (0, none)
 | x :: r, d => if x.dep < d then (0, none) else if x.dep = d then ((scan r d).1 + 1, some x.nm) else scan r d
theorem scan_lt {x : TrN} {r : List TrN} {d : Int} (h : x.dep < d) : scan (x :: r) d = (0, none) := by unfold scan; rw [if_pos h]
theorem scan_eq {x : TrN} {r : List TrN} {d : Int} (h : x.dep = d) : scan (x :: r) d = ((scan r d).1 + 1, some x.nm) := by
 rw [scan.eq_2, if_neg (by omega), if_pos h]
theorem scan_gt {x : TrN} {r : List TrN} {d : Int} (h : d < x.dep) : scan (x :: r) d = scan r d := by
 rw [scan.eq_2, if_neg (by omega), if_neg (by omega)]
theorem scan_none {r : List TrN} {d : Int} : (scan r d).2 = none ↔ (scan r d).1 = 0 := by
 induction r with
 | nil => simp [scan]
 | cons x r ih =>
  rcases Int.lt_trichotomy x.dep d with h | h | h
  ·rw [scan_lt h]; simp
  ·rw [scan_eq h]; simp
  ·rw [scan_gt h]; exact ih
def revT (t : List TrN) (i : Nat) : List TrN := (t.take i).reverse
theorem revT_succ (t : List TrN) (i : Nat) (h : i < t.length) : revT t (i + 1) = (t[i]'h) :: revT t i := by
 unfold revT; rw [List.take_succ_eq_append_getElem h, List.reverse_append]; rfl
def nextE (many : Nat) (last : Option ByteArray) (nm : ByteArray) : Int :=
 match last with
 | some z => if z = nm then 8 else if L nm < L z then 6 else if 24 <= many then 3 else 0
 | none => if 24 <= many then 3 else 0
def entryE (t : List TrN) (i : Nat) : Int :=
 if nameE (L (getT t i).nm) ≠ 0 then nameE (L (getT t i).nm) else nextE (scan (revT t i) (getT t i).dep).1 (scan (revT t i) (getT t i).dep).2 (getT t i).nm
def mostC (t : List TrN) : Nat -> Int
 | 0 => 0
 | k + 1 => max (mostC t k) (getT t k).cl
def unlike (t : List TrN) (i : Nat) : Nat -> Bool
 | 0 => false
 | k + 1 => unlike t i k || (decide (0 < (getT t i).cl) && ((getT t k).cl == (getT t i).cl) && !likeB (getT t k) (getT t i))
def clsE (t : List TrN) (i : Nat) : Int := if unlike t i i = true then 6 else if (getT t i).cl < 0 \/ mostC t i + 1 < (getT t i).cl then 6 else 0
def nodeE (t : List TrN) (i : Nat) : Int :=
 if shapeE t i ≠ 0 then shapeE t i else if i ≠ 0 /\ entryE t i ≠ 0 then entryE t i else if kindE (getT t i) ≠ 0 then kindE (getT t i) else if chkE (getT t i).ats ≠ 0 then chkE (getT t i).ats else clsE t i
theorem nodeE_shape {t : List TrN} {i : Nat} (h : shapeE t i ≠ 0) : nodeE t i = shapeE t i := by unfold nodeE; rw [if_pos h]
theorem nodeE_entry {t : List TrN} {i : Nat} (h1 : shapeE t i = 0) (h0 : i ≠ 0) (h : entryE t i ≠ 0) : nodeE t i = entryE t i := by unfold nodeE; rw [if_neg (by omega), if_pos ⟨h0, h⟩]
theorem nodeE_kind {t : List TrN} {i : Nat} {x : TrN} (hg : getT t i = x) (h1 : shapeE t i = 0) (h2 : i ≠ 0 -> entryE t i = 0) (h : kindE x ≠ 0) : nodeE t i = kindE x := by
 subst hg; unfold nodeE; rw [if_neg (by omega), if_neg (fun h => h.2 (h2 h.1)), if_pos h]
theorem nodeE_attrs {t : List TrN} {i : Nat} {x : TrN} (hg : getT t i = x) (h1 : shapeE t i = 0) (h2 : i ≠ 0 -> entryE t i = 0) (h3 : kindE x = 0) (h : chkE x.ats ≠ 0) : nodeE t i = chkE x.ats := by
 subst hg; unfold nodeE; rw [if_neg (by omega), if_neg (fun h => h.2 (h2 h.1)), if_neg (by omega), if_pos h]
theorem nodeE_cls {t : List TrN} {i : Nat} {x : TrN} (hg : getT t i = x) (h1 : shapeE t i = 0) (h2 : i ≠ 0 -> entryE t i = 0) (h3 : kindE x = 0) (h4 : chkE x.ats = 0) : nodeE t i = clsE t i := by
 subst hg; unfold nodeE; rw [if_neg (by omega), if_neg (fun h => h.2 (h2 h.1)), if_neg (by omega), if_neg (by omega)]
def countC (t : List TrN) (c : Int) : Nat -> Nat
 | 0 => 0
 | k + 1 => countC t c k + (if (getT t k).cl = c then 1 else 0)
def loneB (t : List TrN) (i : Nat) : Bool := decide (0 < (getT t i).cl) && (countC t (getT t i).cl t.length == 1)
def findB (p : Nat -> Bool) : Nat -> Nat -> Option Nat
 | _, 0 => none
 | a, n + 1 => if p a then some a else findB p (a + 1) n
theorem findB_none {p : Nat -> Bool} : ∀ (n a : Nat), (∀ j, a <= j -> j < a + n -> p j = false) -> findB p a n = none
 | 0, _, _ => rfl
 | n + 1, a, h => by
  unfold findB; rw [if_neg (by rw [h a (Nat.le_refl _) (by omega)]; exact Bool.false_ne_true)]
  exact findB_none n (a + 1) fun j h1 h2 => h j (by omega) (by omega)
theorem findB_some {p : Nat -> Bool} : ∀ (n a i : Nat), a <= i -> i < a + n -> (∀ j, a <= j -> j < i -> p j = false) -> p i = true -> findB p a n = some i
 | 0, _, _, h1, h2, _, _ => by omega
 | n + 1, a, i, h1, h2, h, hi => by
  unfold findB
  by_cases e : a = i
  ·subst e; rw [if_pos hi]
  ·rw [if_neg (by rw [h a (Nat.le_refl _) (by omega)]; exact Bool.false_ne_true)]
   exact findB_some n (a + 1) i (by omega) (by omega) (fun j h3 h4 => h j (by omega) h4) hi
def badB (t : List TrN) (i : Nat) : Bool := nodeE t i != 0
theorem badB_no {t : List TrN} {i : Nat} (h : nodeE t i = 0) : badB t i = false := by unfold badB; rw [h]; rfl
theorem badB_yes {t : List TrN} {i : Nat} (h : nodeE t i ≠ 0) : badB t i = true := bne_iff_ne.2 h
def treeT (t : List TrN) : Int × Int :=
 if t.length = 0 then (-1, 6) else if 120 < t.length then (-1, 3)
 else match findB (badB t) 0 t.length with
  | some i => (i, nodeE t i)
  | none => match findB (loneB t) 0 t.length with
   | some i => (i, 6)
   | none => (0, 0)
theorem treeT_nil {t : List TrN} (h : t.length = 0) : treeT t = (-1, 6) := if_pos h
theorem treeT_long {t : List TrN} (h : 120 < t.length) : treeT t = (-1, 3) := by unfold treeT; rw [if_neg (by omega), if_pos h]
def AllOk (t : List TrN) (k : Nat) : Prop := ∀ j, j < k -> nodeE t j = 0
theorem treeT_node {t : List TrN} (h1 : ¬ 120 < t.length) {i : Nat} (hi : i < t.length) (h : AllOk t i) (he : nodeE t i ≠ 0) : treeT t = ((i : Int), nodeE t i) := by
 unfold treeT; rw [if_neg (by omega), if_neg h1, findB_some t.length 0 i (Nat.zero_le _) (by omega) (fun j _ hj => badB_no (h j hj)) (badB_yes he)]
theorem treeT_lone {t : List TrN} (h1 : ¬ 120 < t.length) (h : AllOk t t.length) {i : Nat} (hi : i < t.length) (hl : ∀ j, j < i -> loneB t j = false) (he : loneB t i = true) : treeT t = ((i : Int), 6) := by
 unfold treeT; rw [if_neg (by omega), if_neg h1, findB_none t.length 0 (fun j _ hj => badB_no (h j (by omega))), findB_some t.length 0 i (Nat.zero_le _) (by omega) (fun j _ hj => hl j hj) he]
theorem treeT_ok {t : List TrN} (h0 : t.length ≠ 0) (h1 : ¬ 120 < t.length) (h : AllOk t t.length) (hl : ∀ j, j < t.length -> loneB t j = false) : treeT t = (0, 0) := by
 unfold treeT; rw [if_neg h0, if_neg h1, findB_none t.length 0 (fun j _ hj => badB_no (h j (by omega))), findB_none t.length 0 (fun j _ hj => hl j (by omega))]
def treeN (t : List TrN) : Int := (treeT t).1
def treeE (t : List TrN) : Int := (treeT t).2
theorem tree_of {t : List TrN} {a b : Int} (h : treeT t = (a, b)) : treeN t = a /\ treeE t = b := by unfold treeN treeE; rw [h]; exact ⟨rfl, rfl⟩
/-! What is known of nodes without an error. -/
theorem node_parts {t : List TrN} {i : Nat} (h : nodeE t i = 0) : shapeE t i = 0 /\ (i ≠ 0 -> entryE t i = 0) /\ kindE (getT t i) = 0 /\ chkE (getT t i).ats = 0 /\ clsE t i = 0 := by
 unfold nodeE at h
 by_cases h1 : shapeE t i ≠ 0
 ·rw [if_pos h1] at h; exact absurd h h1
 rw [if_neg h1] at h
 by_cases h2 : i ≠ 0 /\ entryE t i ≠ 0
 ·rw [if_pos h2] at h; exact absurd h h2.2
 rw [if_neg h2] at h
 by_cases h3 : kindE (getT t i) ≠ 0
 ·rw [if_pos h3] at h; exact absurd h h3
 rw [if_neg h3] at h
 by_cases h4 : chkE (getT t i).ats ≠ 0
 ·rw [if_pos h4] at h; exact absurd h h4
 rw [if_neg h4] at h
 exact ⟨by omega, fun hi => by by_cases e : entryE t i = 0; exact e; exact absurd ⟨hi, e⟩ h2, by omega, by omega, h⟩
theorem shape_bd {t : List TrN} {i : Nat} (h : shapeE t i = 0) : 0 <= (getT t i).dep /\ (getT t i).dep <= 8 /\ (i = 0 -> (getT t i).dep = 0 /\ (getT t i).kd = 1) /\ (i ≠ 0 -> 1 <= (getT t i).dep /\ (getT t i).dep <= mostD (getT t (i - 1))) := by
 unfold shapeE at h
 by_cases h0 : i = 0
 ·rw [if_pos h0] at h
  split at h
  ·rename_i h1; exact ⟨by omega, by omega, fun _ => ⟨h1.1, h1.2.2⟩, fun x => absurd h0 x⟩
  ·cases h
 ·rw [if_neg h0] at h
  split at h
  ·cases h
  ·split at h
   ·cases h
   ·rename_i h1 h2; exact ⟨by omega, by omega, fun x => absurd x h0, fun _ => by omega⟩
theorem cls_bd {t : List TrN} {i : Nat} (h : clsE t i = 0) : 0 <= (getT t i).cl /\ (getT t i).cl <= mostC t i + 1 /\ unlike t i i = false := by
 unfold clsE at h
 split at h
 ·cases h
 ·split at h
  ·cases h
  ·rename_i h1 h2; exact ⟨by omega, by omega, Bool.eq_false_iff.2 h1⟩
theorem mostC_bd {t : List TrN} : ∀ (k : Nat), AllOk t k -> 0 <= mostC t k /\ mostC t k <= k
 | 0, _ => ⟨Int.le_refl _, Int.le_refl _⟩
 | k + 1, h => by
  obtain ⟨a, b⟩ := mostC_bd k fun j hj => h j (by omega)
  obtain ⟨_, _, _, _, hc⟩ := node_parts (h k (by omega))
  obtain ⟨c, d, _⟩ := cls_bd hc
  unfold mostC
  omega
theorem AllOk.step {t : List TrN} {k : Nat} (h : AllOk t k) (hk : nodeE t k = 0) : AllOk t (k + 1) := by
 intro j hj
 by_cases e : j = k
 ·subst e; exact hk
 ·exact h j (by omega)
theorem lt_of_no {a b : ByteArray} (h1 : ¬ a = b) (h2 : ¬ L b < L a) : L a < L b := by
 rcases Std.lt_trichotomy (L a) (L b) with x | x | x
 ·exact x
 ·exact absurd (L_inj x) h1
 ·exact absurd x h2
structure ScanSt (t : List TrN) (i : Nat) (d : Int) (j m : Nat) (z : Int) : Prop where
 many : (scan (revT t i) d).1 = m + (scan (revT t j) d).1
 last : (z = -1 /\ m = 0 /\ (scan (revT t i) d).2 = (scan (revT t j) d).2) \/ ∃ q : Nat, z = q /\ q < i /\ (scan (revT t i) d).2 = some (getT t q).nm
theorem ScanSt.start (t : List TrN) (i : Nat) (d : Int) : ScanSt t i d i 0 (-1) := ⟨by omega, .inl ⟨rfl, rfl, rfl⟩⟩
theorem ScanSt.skip {t : List TrN} {i p m : Nat} {d z : Int} (h : ScanSt t i d (p + 1) m z) (hp : p < t.length) (hd : d < (t[p]'hp).dep) : ScanSt t i d p m z := by
 have e := scan_gt (r := revT t p) hd
 rw [<- revT_succ t p hp] at e
 exact ⟨by rw [h.many, e], h.last.imp_left fun ⟨a, b, c⟩ => ⟨a, b, by rw [c, e]⟩⟩
theorem ScanSt.hit {t : List TrN} {i p m : Nat} {d z : Int} (h : ScanSt t i d (p + 1) m z) (hpi : p < i) (hp : p < t.length) (hd : (t[p]'hp).dep = d) : ScanSt t i d p (m + 1) (if z < 0 then (p : Int) else z) := by
 have e := scan_eq (r := revT t p) hd
 rw [<- revT_succ t p hp] at e
 refine ⟨by rw [h.many, e]; show m + ((scan (revT t p) d).1 + 1) = _; omega, .inr ?_⟩
 rcases h.last with ⟨a, b, c⟩ | ⟨q, a, b, c⟩
 ·rw [if_pos (by omega)]; exact ⟨p, rfl, hpi, by rw [c, e, getT_at t p hp]⟩
 ·rw [if_neg (by omega)]; exact ⟨q, a, b, c⟩
theorem ScanSt.low {t : List TrN} {i p m : Nat} {d z : Int} (h : ScanSt t i d (p + 1) m z) (hp : p < t.length) (hd : (t[p]'hp).dep < d) : ScanSt t i d 0 m z := by
 have e := scan_lt (r := revT t p) hd
 rw [<- revT_succ t p hp] at e
 exact ⟨by rw [h.many, e]; rfl, h.last.imp_left fun ⟨a, b, c⟩ => ⟨a, b, by rw [c, e]; rfl⟩⟩
theorem ScanSt.end {t : List TrN} {i m : Nat} {d z : Int} (h : ScanSt t i d 0 m z) : (scan (revT t i) d).1 = m /\ ((z = -1 /\ m = 0 /\ (scan (revT t i) d).2 = none) \/ ∃ q : Nat, z = q /\ q < i /\ (scan (revT t i) d).2 = some (getT t q).nm) :=
 ⟨by rw [h.many]; rfl, h.last⟩
theorem cells8 {w w' : World} {b o : Nat} {v0 v1 v2 v3 v4 v5 v6 v7 : Value} (he : Ext w w') (hb : b < w.heap.size)
  (h : w.cell? ⟨b, o, none⟩ = some v0 /\ w.cell? ⟨b, o + 1, none⟩ = some v1 /\ w.cell? ⟨b, o + 2, none⟩ = some v2 /\ w.cell? ⟨b, o + 3, none⟩ = some v3 /\ w.cell? ⟨b, o + 4, none⟩ = some v4 /\ w.cell? ⟨b, o + 5, none⟩ = some v5 /\ w.cell? ⟨b, o + 6, none⟩ = some v6 /\ w.cell? ⟨b, o + 7, none⟩ = some v7) :
  w'.cell? ⟨b, o, none⟩ = some v0 /\ w'.cell? ⟨b, o + 1, none⟩ = some v1 /\ w'.cell? ⟨b, o + 2, none⟩ = some v2 /\ w'.cell? ⟨b, o + 3, none⟩ = some v3 /\ w'.cell? ⟨b, o + 4, none⟩ = some v4 /\ w'.cell? ⟨b, o + 5, none⟩ = some v5 /\ w'.cell? ⟨b, o + 6, none⟩ = some v6 /\ w'.cell? ⟨b, o + 7, none⟩ = some v7 := by
 obtain ⟨h0, h1, h2, h3, h4, h5, h6, h7⟩ := h
 exact ⟨(eC he hb).trans h0, (eC he hb).trans h1, (eC he hb).trans h2, (eC he hb).trans h3, (eC he hb).trans h4, (eC he hb).trans h5, (eC he hb).trans h6, (eC he hb).trans h7⟩
theorem int_eq {a b : Int} (h : a = b) : Value.int .i64 a = .int .i64 b := by rw [h]
theorem unlike_step {t : List TrN} {i k : Nat} (h : unlike t i k = false) (hx : (decide (0 < (getT t i).cl) && ((getT t k).cl == (getT t i).cl) && !likeB (getT t k) (getT t i)) = false) : unlike t i (k + 1) = false := by
 unfold unlike; rw [h, hx]; rfl
theorem unlike_hit {t : List TrN} {i k : Nat} (hx : (decide (0 < (getT t i).cl) && ((getT t k).cl == (getT t i).cl) && !likeB (getT t k) (getT t i)) = true) : ∀ m, k < m -> unlike t i m = true
 | 0, h => by omega
 | m + 1, h => by
  unfold unlike
  by_cases e : k = m
  ·subst e; rw [hx, Bool.or_true]
  ·rw [unlike_hit hx m (by omega), Bool.true_or]
theorem likeB_iff {x y : TrN} : likeB x y = true ↔ x.kd = y.kd /\ x.ats = y.ats /\ x.dat = y.dat /\ x.ma = y.ma /\ x.mi = y.mi := by
 unfold likeB
 simp only [Bool.and_eq_true, beq_iff_eq, decide_eq_true_eq, and_assoc, tL]
 exact ⟨fun ⟨a, b, c, d, e⟩ => ⟨a, b, L_inj c, d, e⟩, fun ⟨a, b, c, d, e⟩ => ⟨a, b, by rw [c], d, e⟩⟩
theorem trN_eq {x y : TrN} (h1 : x.dep = y.dep) (h2 : x.nm = y.nm) (h3 : x.cl = y.cl) (h : likeB x y = true) : x = y := by
 obtain ⟨a, b, c, d, e⟩ := likeB_iff.1 h
 cases x; cases y; simp_all
open Classical in
noncomputable def sameTB (a b : List TrN) : Bool := decide (a = b)
open Classical in
theorem sameTB_yes {a b : List TrN} (h : a = b) : sameTB a b = true := by unfold sameTB; exact decide_eq_true h
open Classical in
theorem sameTB_no {a b : List TrN} (h : ¬ a = b) : sameTB a b = false := by unfold sameTB; exact decide_eq_false h
def SmallT (t : List TrN) : Prop := ∀ x ∈ t, x.nm.size <= 1000000 /\ (∀ a ∈ x.ats, a.1.size <= 1000000 /\ a.2.size <= 1000000) /\ x.ats.length <= 1000000
end Go.Proofs.YtimpejaaeinplaaGreatDoor
namespace Go.Proofs.YtimpejaaeinplaaGreatDoor
open Go.RowKit Go.MapKept
structure KeyT (P : Program) (k : TypeId) {K : Type} (κ : K -> Value) : Prop where
 ex : ∃ d, P.underlying k = some d /\ ∀ x, IsKey d (κ x)
 inj : ∀ x y, κ x = κ y -> x = y
def kI (i : Int) : Value := .int .i64 i
def kS (s : ByteArray) : Value := .string s
theorem keyT_int {P : Program} {k : TypeId} (h : P.underlying k = some (.int .i64)) : KeyT P k kI := ⟨⟨_, h, fun _ => rfl⟩, fun _ _ h => by injection h⟩
theorem keyT_str {P : Program} {k : TypeId} (h : P.underlying k = some .string) : KeyT P k kS := ⟨⟨_, h, fun _ => trivial⟩, fun _ _ h => by injection h⟩
def MapAt {K : Type} (κ : K -> Value) (w : World) (b n : Nat) (f : K -> Option Value) : Prop :=
 ∃ es clock, w.heap[b]? = some (.map es clock) /\ Stamped es clock /\ es.size = n /\ (∀ e ∈ es.toList, ∃ x, e.key = κ x) /\ ∀ x v, f x = some v ↔ ∃ e ∈ es.toList, e.key = κ x /\ e.val = v
def upd {K : Type} [DecidableEq K] (f : K -> Option Value) (x : K) (v : Value) : K -> Option Value := fun y => if y = x then some v else f y
section
variable {P : Program} {K : Type} {κ : K -> Value} {w w' : World} {b n : Nat} {f : K -> Option Value}
theorem mapAt_made (w : World) (κ : K -> Value) : MapAt κ (w.alloc (.map #[] 0)) w.heap.size 0 (fun _ => none) :=
 ⟨#[], 0, bN w _, stamped_empty 0, rfl, fun e he => by simp at he, fun x v => by simp⟩
theorem MapAt.lt (h : MapAt κ w b n f) : b < w.heap.size := by obtain ⟨es, c, hb, _⟩ := h; exact bL hb
theorem MapAt.keep {row : Option Nat} (h : MapAt κ w b n f) (hk : KeepBut row w w') (hne : row ≠ some b) : MapAt κ w' b n f := by
 obtain ⟨es, c, hb, r⟩ := h; exact ⟨es, c, hk _ _ hb hne, r⟩
theorem MapAt.grown {row : Option Nat} (h : MapAt κ w b n f) (hg : w.grownBy w' row) (hne : row ≠ some b) : MapAt κ w' b n f := by
 obtain ⟨es, c, hb, r⟩ := h; exact ⟨es, c, blk_grown hg hb hne, r⟩
theorem MapAt.ext (h : MapAt κ w b n f) (he : Ext w w') : MapAt κ w' b n f := by
 obtain ⟨es, c, hb, r⟩ := h; exact ⟨es, c, bX he hb, r⟩
theorem MapAt.same {g : K -> Option Value} (h : MapAt κ w b n f) (e : ∀ x, f x = g x) : MapAt κ w b n g := by
 rw [show g = f from funext fun x => (e x).symm]; exact h
theorem MapAt.setCell (h : MapAt κ w b n f) (p : Addr) (v : Value) : MapAt κ (w.setCell p v) b n f := by
 obtain ⟨es, c, hb, r⟩ := h
 refine ⟨es, c, ?_, r⟩
 unfold World.setCell
 by_cases e : p.block = b
 ·subst e; simp [Array.getElem?_modify, hb]
 ·simp [Array.getElem?_modify, e, hb]
theorem mapAt_find {k : TypeId} (T : KeyT P k κ) {es : Array MapEntry} {c : Nat} (hk : ∀ e ∈ es.toList, ∃ x, e.key = κ x) (_hs : Stamped es c) (hf : ∀ x v, f x = some v ↔ ∃ e ∈ es.toList, e.key = κ x /\ e.val = v) (x : K) :
  ((Instr.findKey k (κ x) es.toList).run P w = .ok none w /\ f x = none /\ ∀ e ∈ es.toList, e.key ≠ κ x) \/
  ∃ j e, (Instr.findKey k (κ x) es.toList).run P w = .ok (some (j, e.val)) w /\ f x = some e.val /\ es.toList[j]? = some e /\ e.key = κ x := by
 obtain ⟨d, hd, his⟩ := T.ex
 have hks : ∀ e ∈ es.toList, IsKey d e.key := fun e he => by obtain ⟨y, hy⟩ := hk e he; rw [hy]; exact his y
 rcases findNow_spec (his x) es.toList 0 hks with ⟨h1, h2⟩ | ⟨j, e0, h1, h2, h3⟩
 ·refine .inl ⟨run_findKey hd h1, ?_, h2⟩
  cases hx : f x with
  | none => rfl
  | some v => obtain ⟨e, he, h4, _⟩ := (hf x v).1 hx; exact absurd h4 (h2 e he)
 ·exact .inr ⟨j, e0, by simpa using run_findKey hd h1, (hf x _).2 ⟨e0, List.mem_of_getElem? h2, h3, rfl⟩, h2, h3⟩
theorem MapAt.look {t k e : TypeId} (h : MapAt κ w b n f) (T : KeyT P k κ) (ht : P.underlying t = some (.map k e)) {z : Value} (hz : (zeroValue e).run P w = .ok z w) (x : K) (ok : Bool) :
  (Instr.lookup t (.map (some b)) (κ x) ok).run P w = .ok (if ok then .tuple #[(f x).getD z, .bool (f x).isSome] else (f x).getD z) w := by
 obtain ⟨es, c, hb, hs, hn, hk, hf⟩ := h
 obtain ⟨d, hd, his⟩ := T.ex
 have hc := run_checkKey (P := P) (w := w) hd (his x) es.isEmpty 9999
 rcases mapAt_find (P := P) (w := w) T hk hs hf x with ⟨h1, h2, _⟩ | ⟨j, e0, h1, h2, _⟩
 ·simp [Instr.lookup, run_underlying ht, MapKept.run_getObj_map hb, hc, h1, h2, hz]
 ·simp [Instr.lookup, run_underlying ht, MapKept.run_getObj_map hb, hc, h1, h2]
theorem MapAt.update [DecidableEq K] {t k e : TypeId} (h : MapAt κ w b n f) (T : KeyT P k κ) (ht : P.underlying t = some (.map k e)) (x : K) (v : Value) :
  ∃ w', (Instr.mapUpdate t (.map (some b)) (κ x) v).run P w = .ok () w' /\ MapAt κ w' b (if (f x).isSome then n else n + 1) (upd f x v) /\ w.grownBy w' (some b) := by
 obtain ⟨es, c, hb, hs, hn, hk, hf⟩ := h
 obtain ⟨d, hd, his⟩ := T.ex
 have hc := run_checkKey (P := P) (w := w) hd (his x) false 9999
 have hset : ∀ o : Obj, w.grownBy { w with heap := w.heap.setIfInBounds b o } (some b) := fun o =>
  ⟨rfl, rfl, rfl, by simp, fun i _ hi => by simp [show b ≠ i from fun e => hi (by rw [e])]⟩
 have hnew : ∀ o : Obj, ({ w with heap := w.heap.setIfInBounds b o } : World).heap[b]? = some o := fun o => by
  simp [bL hb]
 rcases mapAt_find (P := P) (w := w) T hk hs hf x with ⟨h1, h2, h3⟩ | ⟨j, e0, h1, h2, h3, h4⟩
 ·refine ⟨_, by simp [Instr.mapUpdate, run_underlying ht, MapKept.run_getObj_map hb, hc, h1, MapKept.run_setObj_map _ hb]; rfl, ⟨_, _, hnew _, stamped_push hs (fun e he => h3 e he), ?_, ?_, ?_⟩, hset _⟩
  ·simp [hn, h2]
  ·intro e he
   simp only [Array.toList_push, List.mem_append, List.mem_singleton] at he
   rcases he with he | rfl
   ·exact hk e he
   ·exact ⟨x, rfl⟩
  ·intro y u
   unfold upd
   simp only [Array.toList_push, List.mem_append, List.mem_singleton]
   by_cases e : y = x
   ·subst e
    rw [if_pos rfl]
    constructor
    ·intro hv; cases hv; exact ⟨_, .inr rfl, rfl, rfl⟩
    ·rintro ⟨e, he | rfl, h5, h6⟩
     ·exact absurd h5 (h3 e he)
     ·rw [<- h6]
   ·rw [if_neg e, hf]
    constructor
    ·rintro ⟨e', he, h5⟩; exact ⟨e', .inl he, h5⟩
    ·rintro ⟨e', he | rfl, h5, h6⟩
     ·exact ⟨e', he, h5, h6⟩
     ·exact absurd (T.inj _ _ h5) (fun q => e q.symm)
 ·have hkey : ((es[j]?).map (·.key)).getD (κ x) = κ x := by rw [<- Array.getElem?_toList, h3]; exact h4
  have hst := run_keyThatStays (P := P) (w := w) (his x)
  have hj : j < es.size := by
   have := (List.getElem?_eq_some_iff.1 h3).1; simpa using this
  have hl : ∀ g : MapEntry -> MapEntry, (es.modify j g).toList = es.toList.set j (g e0) := by
   intro g
   apply List.ext_getElem?
   intro i
   rw [Array.getElem?_toList, Array.getElem?_modify, List.getElem?_set]
   by_cases e : j = i
   ·subst e
    rw [if_pos rfl, if_pos rfl, if_pos (by simpa using hj), <- Array.getElem?_toList, h3]; rfl
   ·rw [if_neg e, if_neg e, Array.getElem?_toList]
  refine ⟨{ w with heap := w.heap.setIfInBounds b (.map (es.modify j fun e => { e with key := κ x, val := v }) c) }, by simp [Instr.mapUpdate, run_underlying ht, MapKept.run_getObj_map hb, hc, h1, hkey, hst, MapKept.run_setObj_map _ hb], ⟨_, _, hnew _, stamped_modify hs j _ (fun e _ => rfl) (fun e he hj' => ?_), ?_, ?_, ?_⟩, hset _⟩
  ·rw [<- Array.getElem?_toList, h3] at hj'; cases hj'; exact h4.symm
  ·simp [hn, h2]
  ·intro e he
   rw [hl] at he
   rcases List.mem_or_eq_of_mem_set he with he | rfl
   ·exact hk e he
   ·exact ⟨x, rfl⟩
  ·intro y u
   rw [hl]
   have hnd := ((stamped_iff es c).1 hs).2.2
   unfold upd
   by_cases e : y = x
   ·subst e
    rw [if_pos rfl]
    constructor
    ·intro hv; cases hv
     exact ⟨_, List.mem_set (by simpa using hj) _, rfl, rfl⟩
    ·rintro ⟨e', he, h5, h6⟩
     obtain ⟨i, hi, rfl⟩ := List.getElem_of_mem he
     rw [List.getElem_set] at h5 h6
     by_cases ei : j = i
     ·rw [if_pos ei] at h6; rw [<- h6]
     ·rw [if_neg ei] at h5
      have hi' : i < es.toList.length := by simpa using hi
      have h0 : es.toList[j]'(by simpa using hj) = e0 := (List.getElem?_eq_some_iff.1 h3).2
      rcases Nat.lt_or_ge j i with hlt | hge
      ·exact absurd (by rw [h0, h4, h5]) (List.pairwise_iff_getElem.1 hnd j i (by simpa using hj) hi' hlt)
      ·exact absurd (by rw [h0, h4, h5]) (List.pairwise_iff_getElem.1 hnd i j hi' (by simpa using hj) (by omega))
   ·rw [if_neg e, hf]
    constructor
    ·rintro ⟨e', he, h5, h6⟩
     obtain ⟨i, hi, rfl⟩ := List.getElem_of_mem he
     have h0 : es.toList[j]'(by simpa using hj) = e0 := (List.getElem?_eq_some_iff.1 h3).2
     have ei : j ≠ i := by
      rintro rfl; rw [h0, h4] at h5; exact e (T.inj _ _ h5).symm
     refine ⟨es.toList[i], List.mem_iff_getElem.2 ⟨i, by simpa using hi, ?_⟩, h5, h6⟩
     rw [List.getElem_set, if_neg ei]
    ·rintro ⟨e', he, h5, h6⟩
     obtain ⟨i, hi, rfl⟩ := List.getElem_of_mem he
     rw [List.getElem_set] at h5 h6
     by_cases ei : j = i
     ·rw [if_pos ei] at h5; exact absurd (T.inj _ _ h5) (fun q => e q.symm)
     ·rw [if_neg ei] at h5 h6
      exact ⟨_, List.getElem_mem _, h5, h6⟩
variable {ops : Array Oper} {rest : List Oper} {o : Oper} {a : Act} {Q : Exit -> Act -> World -> Prop}
theorem wl_look (hg : o.guard = none) (m x : Operand) (t : TypeId) (ok : Bool) (hop : o.op = Op.lookup t m x ok) (k e : TypeId) (T : KeyT P k κ) (ht : P.underlying t = some (.map k e)) (z : Value) (hz : ∀ w, (zeroValue e).run P w = .ok z w)
  (hm : a.eval m = .map (some b)) (h : MapAt κ w b n f) (y : K) (hx : a.eval x = κ y)
  (hK : wpList P ops Q rest (a.put o.dst (if ok then .tuple #[(f y).getD z, .bool (f y).isSome] else (f y).getD z)) w) : wpList P ops Q (o :: rest) a w := by
 refine wpList_plain hg fun K' hK' => ?_
 unfold Oper.wp
 simp only [execOp, hop, hm, hx]
 have := h.look T ht (hz w) y ok
 simp [this, Result.andThen]
 exact hK' _ _ hK
theorem wl_store [DecidableEq K] (hg : o.guard = none) (m x y : Operand) (t : TypeId) (hop : o.op = Op.mapUpdate t m x y) (k e : TypeId) (T : KeyT P k κ) (ht : P.underlying t = some (.map k e))
  (hm : a.eval m = .map (some b)) (h : MapAt κ w b n f) (q : K) (v : Value) (hx : a.eval x = κ q) (hy : a.eval y = v)
  (hK : ∀ w', MapAt κ w' b (if (f q).isSome then n else n + 1) (upd f q v) -> w.grownBy w' (some b) -> wpList P ops Q rest (a.put o.dst undef) w') : wpList P ops Q (o :: rest) a w := by
 obtain ⟨w', hr, h1, h2⟩ := h.update T ht q v
 refine wpList_plain hg fun K' hK' => ?_
 unfold Oper.wp
 simp [execOp, hop, hm, hx, hy, hr, Result.andThen]
 exact hK' _ _ (hK w' h1 h2)
end
end Go.Proofs.YtimpejaaeinplaaGreatDoor
namespace Go.Proofs.YtimpejaaeinplaaGreatDoor
open Go.RowKit
abbrev Opn := Nat × ByteArray
def opnC (x : Opn) : List Value := [.int .i64 x.1, .string x.2]
def cdO : Cd Opn := { t := 149, e := 237, n := 2, bytes := 24, z := .agg #[.int .i64 0, .string ⟨#[]⟩], inner := [], R := fun _ _ x cs => cs = opnC x }
theorem okO : CdOk Tryz.prog cdO where
 sl := { und := Tryz.underlying149, info := info_parts (by kernel_rfl), zs := rfl, pos := by decide, small := by decide }
 len := fun h => by subst h; rfl
 one := fun h u hu => by subst h; simp [opnC] at hu; rcases hu with rfl | rfl <;> rfl
 chg := fun h _ _ => h
 mono := fun _ h => h
 self := by simp [cdO]
theorem ListIn.opn {B : Nat} {w : World} {a : Option Addr} {n cap : Nat} {l : List Opn} (h : ListIn cdO B w (.slice a n cap) l) (k : Nat) (hk : k < l.length) : ∃ b off, a = some ⟨b, off, none⟩ /\ b < w.heap.size /\
  w.cell? ⟨b, off + k * 2, none⟩ = some (.int .i64 (l[k]'hk).1) /\ w.cell? ⟨b, off + k * 2 + 1, none⟩ = some (.string (l[k]'hk).2) := by
 obtain ⟨a', cap', he, _, _, hc⟩ := h
 cases he
 obtain ⟨b, off, cs, h1, h2, h3, h4⟩ := hc k hk
 have h3 : cs = opnC (l[k]'hk) := h3
 subst h3
 exact ⟨b, off, h1, h2, h4 0 _ rfl, h4 1 _ rfl⟩
theorem OwnL.trunc {α : Type} {C : Cd α} {B n cap i : Nat} {a : Option Addr} {w : World} {l : List α} (h : OwnL C B w (.slice a n cap) l) (k : CdOk Tryz.prog C) (hl : 0 < l.length) (hi : i <= l.length) : OwnL C B w (.slice a i cap) (l.take i) := by
 obtain ⟨css, hcl, hR, ho⟩ := h
 have hlen := OwnL.lens k hcl hR
 rcases ho.2 with ⟨h1, h0⟩ | ⟨g, cap', cur, h1, hb, hg, hnc, hcm, hcs, htake⟩
 ·omega
 ·injection h1 with e1 e2 e3
  subst e1 e3
  refine ⟨css.take i, by rw [List.length_take, List.length_take, hcl], fun j hj hj' => ?_, ?_, .inr ⟨g, _, cur, ?_, hb, hg, ?_, hcm, hcs, ?_⟩⟩
  ·rw [List.getElem_take, List.getElem_take]
   exact hR j (by rw [List.length_take] at hj; omega) (by rw [List.length_take] at hj'; omega)
  ·rw [flat_length (fun cs hc => hlen cs (List.mem_of_mem_take hc)), List.length_take, List.length_take, hcl]
  ·rw [List.length_take, Nat.min_eq_left hi]
  ·rw [List.length_take]; omega
  ·have e : css.flatten = (css.take i).flatten ++ (css.drop i).flatten := by rw [<- List.flatten_append, List.take_append_drop]
   have hf : (css.take i).flatten.length = i * C.n := by
    rw [flat_length (fun cs hc => hlen cs (List.mem_of_mem_take hc)), List.length_take, Nat.min_eq_left (by omega)]
   rw [List.length_take, Nat.min_eq_left hi]
   have h2 : (cur.toList.take (l.length * C.n)).take (i * C.n) = cur.toList.take (i * C.n) := by
    rw [List.take_take, Nat.min_eq_left (Nat.mul_le_mul_right _ hi)]
   rw [<- h2, htake, e, <- hf, List.take_left]
theorem bS {w : World} {b o : Nat} {c : Array Value} {t : TypeId} {f : Nat × Nat} (h : w.heap[b]? = some (.cells c t f)) (v : Value) : (w.setCell ⟨b, o, none⟩ v).heap[b]? = some (.cells (c.setIfInBounds o v) t f) := by
 simp [World.setCell, Array.getElem?_modify, h]
theorem bSn {w : World} {b : Nat} {ob : Obj} (h : w.heap[b]? = some ob) (p : Addr) (v : Value) (hne : b ≠ p.block) : (w.setCell p v).heap[b]? = some ob := by
 rw [Below.heap_setCell _ _ _ _ hne]; exact h
def placeE (D : List Opn) (f : Bool) (x : TrN) : Int :=
 if D.length = 0 then (if x.dep = 0 /\ x.nm.toList = [] /\ x.kd = 1 then 0 else 6)
 else if x.dep < 1 \/ (if f then (D.length : Int) - 1 else D.length) < x.dep then 6
 else if 8 < x.dep then 3
 else if nameE (L x.nm) ≠ 0 then nameE (L x.nm)
 else if 0 < (D.getD (x.dep.toNat - 1) (0, ⟨#[]⟩)).1 /\ (D.getD (x.dep.toNat - 1) (0, ⟨#[]⟩)).2 = x.nm then 8
 else if 0 < (D.getD (x.dep.toNat - 1) (0, ⟨#[]⟩)).1 /\ L x.nm < L (D.getD (x.dep.toNat - 1) (0, ⟨#[]⟩)).2 then 6
 else if (D.getD (x.dep.toNat - 1) (0, ⟨#[]⟩)).1 = 24 then 3 else 0
def placeD (D : List Opn) (x : TrN) : List Opn :=
 if D.length = 0 then [(0, ⟨#[]⟩)]
 else (D.set (x.dep.toNat - 1) ((D.getD (x.dep.toNat - 1) (0, ⟨#[]⟩)).1 + 1, x.nm)).take x.dep.toNat ++ [(0, ⟨#[]⟩)]
def dirsOf (t : List TrN) (k : Nat) : List Opn :=
 if k = 0 then [] else (List.range ((getT t (k - 1)).dep.toNat + 1)).map fun (j : Nat) => ((scan (revT t k) ((j : Int) + 1)).1, (scan (revT t k) ((j : Int) + 1)).2.getD ⟨#[]⟩)
def fileOf (t : List TrN) (k : Nat) : Bool := if k = 0 then false else !((getT t (k - 1)).kd == 1)
theorem dirsOf_len {t : List TrN} {k : Nat} (hk : k ≠ 0) : (dirsOf t k).length = (getT t (k - 1)).dep.toNat + 1 := by unfold dirsOf; rw [if_neg hk]; simp
theorem dirsOf_get {t : List TrN} {k j : Nat} (hk : k ≠ 0) (hj : j <= (getT t (k - 1)).dep.toNat) : (dirsOf t k).getD j (0, ⟨#[]⟩) = ((scan (revT t k) ((j : Int) + 1)).1, (scan (revT t k) ((j : Int) + 1)).2.getD ⟨#[]⟩) := by
 unfold dirsOf; rw [if_neg hk, List.getD_eq_getElem?_getD, List.getElem?_map, List.getElem?_range (by omega)]; rfl
theorem scan_le {t : List TrN} : ∀ (k : Nat), k <= t.length -> AllOk t k -> ∀ d : Int, 1 <= d -> (scan (revT t k) d).1 <= 24
 | 0, _, _, _, _ => by simp [revT, scan]
 | k + 1, hk, h, d, hd => by
  have ih := scan_le k (by omega) (fun j hj => h j (by omega))
  rw [revT_succ t k (by omega)]
  rcases Int.lt_trichotomy (t[k]'(by omega)).dep d with c | c | c
  ·rw [scan_lt c]; simp
  ·rw [scan_eq c]
   obtain ⟨h1, h2, _⟩ := node_parts (h k (by omega))
   have hg := getT_at t k (by omega)
   have hb := shape_bd h1
   by_cases hk0 : k = 0
   ·subst hk0
    have := (hb.2.2.1 rfl).1
    rw [hg, c] at this; omega
   ·have he := h2 hk0
    unfold entryE at he
    by_cases hn : nameE (L (getT t k).nm) ≠ 0
    ·rw [if_pos hn] at he; exact absurd he hn
    rw [if_neg hn, hg, c] at he
    have := ih d hd
    unfold nextE at he
    split at he
    ·split at he
     ·cases he
     ·split at he
      ·cases he
      ·split at he
       ·cases he
       ·show (scan (revT t k) d).1 + 1 <= 24; omega
    ·split at he
     ·cases he
     ·show (scan (revT t k) d).1 + 1 <= 24; omega
  ·rw [scan_gt c]; exact ih d hd
theorem place_is {t : List TrN} {k : Nat} (hk : k < t.length) (h : AllOk t k) : placeE (dirsOf t k) (fileOf t k) (getT t k) = if shapeE t k ≠ 0 then shapeE t k else if k = 0 then 0 else entryE t k := by
 by_cases hk0 : k = 0
 ·subst hk0
  have e : shapeE t 0 = if (getT t 0).dep = 0 /\ (getT t 0).nm.toList = [] /\ (getT t 0).kd = 1 then 0 else 6 := by unfold shapeE; rw [if_pos rfl]
  have e2 : placeE (dirsOf t 0) (fileOf t 0) (getT t 0) = if (getT t 0).dep = 0 /\ (getT t 0).nm.toList = [] /\ (getT t 0).kd = 1 then 0 else 6 := by unfold placeE; rw [if_pos (by simp [dirsOf])]
  rw [e, e2]
  split <;> simp
 obtain ⟨h1, _⟩ := node_parts (h (k - 1) (by omega))
 have hb := shape_bd h1
 have hl := dirsOf_len (t := t) hk0
 have hmost : (if fileOf t k = true then ((dirsOf t k).length : Int) - 1 else (dirsOf t k).length) = mostD (getT t (k - 1)) := by
  unfold fileOf mostD
  rw [if_neg hk0, hl]
  by_cases hd : (getT t (k - 1)).kd = 1
  ·rw [if_pos hd, if_neg (by simp [hd])]; omega
  ·rw [if_neg hd, if_pos (by simp [hd])]; omega
 have hsh : shapeE t k = if (getT t k).dep < 1 \/ mostD (getT t (k - 1)) < (getT t k).dep then 6 else if 8 < (getT t k).dep then 3 else 0 := by unfold shapeE; rw [if_neg hk0]
 unfold placeE
 rw [if_neg (by omega), hmost, hsh]
 by_cases c1 : (getT t k).dep < 1 \/ mostD (getT t (k - 1)) < (getT t k).dep
 ·rw [if_pos c1, if_pos c1]; rfl
 rw [if_neg c1, if_neg c1]
 by_cases c2 : 8 < (getT t k).dep
 ·rw [if_pos c2, if_pos c2]; rfl
 rw [if_neg c2, if_neg c2, if_neg (show ¬ (0 : Int) ≠ 0 by simp), if_neg hk0]
 have hmd : mostD (getT t (k - 1)) <= (getT t (k - 1)).dep + 1 := by unfold mostD; split <;> omega
 have hj : (getT t k).dep.toNat - 1 <= (getT t (k - 1)).dep.toNat := by omega
 have hz : (((getT t k).dep.toNat - 1 : Nat) : Int) + 1 = (getT t k).dep := by omega
 rw [dirsOf_get hk0 hj, hz]
 unfold entryE
 have hle := scan_le k (by omega) h (getT t k).dep (by omega)
 by_cases c3 : nameE (L (getT t k).nm) ≠ 0
 ·rw [if_pos c3, if_pos c3]
 rw [if_neg c3, if_neg c3]
 cases hs : (scan (revT t k) (getT t k).dep).2 with
 | none =>
  have h0 := scan_none.1 hs
  rw [h0]; simp [nextE]
 | some z =>
  have h0 : 0 < (scan (revT t k) (getT t k).dep).1 := by
   rcases Nat.eq_zero_or_pos (scan (revT t k) (getT t k).dep).1 with e | e
   ·rw [scan_none.2 e] at hs; cases hs
   ·exact e
  simp only [Option.getD_some, nextE, h0, true_and]
  by_cases k1 : z = (getT t k).nm
  ·rw [if_pos k1, if_pos k1]
  rw [if_neg k1, if_neg k1]
  by_cases k2 : L (getT t k).nm < L z
  ·rw [if_pos k2, if_pos k2]
  rw [if_neg k2, if_neg k2]
  by_cases k3 : 24 <= (scan (revT t k) (getT t k).dep).1
  ·rw [if_pos k3, if_pos (by omega)]
  ·rw [if_neg k3, if_neg (by omega)]
theorem dirs_step {t : List TrN} {k : Nat} (hk : k < t.length) (h : AllOk t k) (hs : shapeE t k = 0) : placeD (dirsOf t k) (getT t k) = dirsOf t (k + 1) := by
 have hg := getT_at t k hk
 have hb := shape_bd hs
 have hd : dirsOf t (k + 1) = (List.range ((getT t k).dep.toNat + 1)).map fun (j : Nat) => ((scan (getT t k :: revT t k) ((j : Int) + 1)).1, (scan (getT t k :: revT t k) ((j : Int) + 1)).2.getD ⟨#[]⟩) := by
  unfold dirsOf; rw [if_neg (by omega), Nat.add_sub_cancel, revT_succ t k hk, hg]
 rw [hd]
 by_cases hk0 : k = 0
 ·subst hk0
  obtain ⟨e, _⟩ := hb.2.2.1 rfl
  unfold placeD; rw [if_pos (by simp [dirsOf]), e]
  have : (getT t 0).dep < (0 : Int) + 1 := by omega
  simp [List.range_succ]
  rw [show (1 : Int) = 0 + 1 from rfl, scan_lt this]; simp
 obtain ⟨h1, _⟩ := node_parts (h (k - 1) (by omega))
 have hb1 := shape_bd h1
 have hl := dirsOf_len (t := t) hk0
 obtain ⟨b1, b2⟩ := hb.2.2.2 hk0
 have hmd : mostD (getT t (k - 1)) <= (getT t (k - 1)).dep + 1 := by unfold mostD; split <;> omega
 unfold placeD; rw [if_neg (by omega), dirsOf_get hk0 (by omega)]
 generalize hx : getT t k = x at *
 obtain ⟨m, hm⟩ : ∃ m : Nat, x.dep.toNat = m + 1 := ⟨x.dep.toNat - 1, by omega⟩
 have hmi : x.dep = (m : Int) + 1 := by omega
 rw [hm, Nat.add_sub_cancel, List.range_succ, List.map_append]
 congr 1
 ·apply List.ext_getElem?
  intro j
  rw [List.getElem?_take, List.getElem?_map]
  by_cases hj : j < m + 1
  ·rw [if_pos hj, List.getElem?_range hj, List.getElem?_set]
   by_cases e : m = j
   ·subst e
    rw [if_pos rfl, if_pos (by omega)]
    simp only [Option.map_some]
    rw [scan_eq hmi]; rfl
   ·rw [if_neg e]
    have hlt : (j : Int) + 1 < x.dep := by omega
    simp only [Option.map_some]
    rw [scan_gt hlt]
    have := dirsOf_get (t := t) (k := k) (j := j) hk0 (by omega)
    rw [List.getD_eq_getElem?_getD] at this
    have hjl : j < (dirsOf t k).length := by omega
    rw [List.getElem?_eq_getElem hjl] at this ⊢
    exact congrArg some this
  ·rw [if_neg hj, List.getElem?_eq_none (by simpa using hj)]; rfl
 ·have : x.dep < (m : Int) + 1 + 1 := by omega
  simp [scan_lt this]
structure Twin (w : World) (u v : Value) : Prop where
 out : ∃ a, aA w u a /\ aA w v a /\ a.length <= 1000
theorem Twin.ext {w w' : World} {u v : Value} (h : Twin w u v) (he : Ext w w') : Twin w' u v := by
 obtain ⟨a, h1, h2, h3⟩ := h.out
 exact ⟨a, h1.ext he, h2.ext he, h3⟩
def PutSt (l : List Attr) (x : Attr) (k : Nat) : Prop := ∀ j (_ : j < k) (h : j < l.length), L (l[j]'h).1 < L x.1
theorem putA_at (l : List Attr) (x : Attr) (k : Nat) (hk : k <= l.length) (h : PutSt l x k) (hx : ∀ hk : k < l.length, ¬ L (l[k]'hk).1 < L x.1) : putA l x = l.take k ++ [x] ++ l.drop k := by
  induction l generalizing k with
  | nil => obtain rfl : k = 0 := by simpa using hk
           rfl
  | cons a r ih =>
    cases k with
    | zero =>
      have := hx (by simp)
      simp only [List.getElem_cons_zero] at this
      simp [putA, this]
    | succ k =>
      have h0 : L a.1 < L x.1 := h 0 (by omega) (by simp)
      have := ih k (by simpa using hk) (fun j hj hl => by have := h (j + 1) (by omega) (by simpa using hl); simpa using this) (fun hk => by have := hx (by simpa using hk); simpa using this)
      simp [putA, h0, this]
theorem aA.drop {w : World} {b off cap : Nat} {l : List Attr} (h : aA w (.slice (some ⟨b, off, none⟩) l.length cap) l) (i : Nat) (hi : i < l.length) : aA w (.slice (some ⟨b, off + i * 2, none⟩) (l.length - i) (cap - i)) (l.drop i) := by
 obtain ⟨a', cap', he, hcap, hc⟩ := h
 cases he
 refine ⟨_, cap - i, by rw [List.length_drop], by rw [List.length_drop]; omega, fun k hk => ?_⟩
 have hk' : i + k < l.length := by rw [List.length_drop] at hk; omega
 obtain ⟨b', off', he, h1, h2, h3⟩ := hc (i + k) hk'
 cases he
 refine ⟨b, off + i * 2, rfl, h1, ?_, ?_⟩
 ·rw [List.getElem_drop, <- h2, show off + i * 2 + k * 2 = off + (i + k) * 2 by omega]
 ·rw [List.getElem_drop, <- h3, show off + i * 2 + k * 2 + 1 = off + (i + k) * 2 + 1 by omega]
abbrev longest : Nat := 9223372036854775807
structure DeN where
 nm : ByteArray
 nd : TrN
 wh : Bool
 fi : Bool
 ns : Int
def deC (x : DeN) (va : Value) : List Value := [.string x.nm, .int .i64 x.nd.dep, .string x.nd.nm, .int .i64 x.nd.kd, va, .string x.nd.dat, .int .i64 x.nd.ma, .int .i64 x.nd.mi, .int .i64 x.nd.cl, .bool x.wh, .bool x.fi, .int .i64 x.ns]
def zDeN : DeN := ⟨⟨#[]⟩, zTrN, false, false, 0⟩
def cdE : Cd DeN := { t := 53, e := 98, n := 12, bytes := 128, z := .agg #[.string ⟨#[]⟩, .int .i64 0, .string ⟨#[]⟩, .int .i64 0, .slice none 0 0, .string ⟨#[]⟩, .int .i64 0, .int .i64 0, .int .i64 0, .bool false, .bool false, .int .i64 0], inner := [45], R := fun B w x cs => ∃ va, AttIn B w va x.nd.ats /\ cs = deC x va }
theorem okE : CdOk Tryz.prog cdE where
 sl := { und := Tryz.underlying53, info := info_parts (by kernel_rfl), zs := rfl, pos := by decide, small := by decide }
 len := fun h => by obtain ⟨va, _, rfl⟩ := h; rfl
 one := fun h u hu => by
  obtain ⟨va, h1, rfl⟩ := h
  have := slice_one h1
  simp [deC] at hu
  rcases hu with rfl | rfl | rfl | rfl | rfl | rfl | rfl | rfl | rfl | rfl | rfl | rfl <;> first | rfl | exact this
 chg := fun h c hE => by
  obtain ⟨va, h1, rfl⟩ := h
  exact ⟨va, h1.chg okA c (fun e => hE (by rw [e]; simp [cdE, cdA])) (by simp [cdA]), rfl⟩
 mono := fun hB h => by obtain ⟨va, h1, rfl⟩ := h; exact ⟨va, h1.mono okA hB, rfl⟩
 self := by decide
abbrev EnIn (B : Nat) (w : World) (v : Value) (l : List DeN) : Prop := ListIn cdE B w v l
structure DiN where
 ats : List Attr
 opq : Bool
 red : List ByteArray
 ens : List DeN
def DirIn (B : Nat) (w : World) (v : Value) (d : DiN) : Prop := ∃ va vr ve, v = .agg #[va, .bool d.opq, vr, ve] /\ AttIn B w va d.ats /\ StrIn B w vr d.red /\ EnIn B w ve d.ens
theorem DirIn.ext {B : Nat} {w w' : World} {v : Value} {d : DiN} (h : DirIn B w v d) (he : Ext w w') : DirIn B w' v d := by
 obtain ⟨va, vr, ve, rfl, h1, h2, h3⟩ := h
 exact ⟨va, vr, ve, rfl, h1.ext okA he, h2.ext okS he, h3.ext okE he⟩
theorem DirIn.mono {B B' : Nat} {w : World} {v : Value} {d : DiN} (h : DirIn B w v d) (hB : B <= B') : DirIn B' w v d := by
 obtain ⟨va, vr, ve, rfl, h1, h2, h3⟩ := h
 exact ⟨va, vr, ve, rfl, h1.mono okA hB, h2.mono okS hB, h3.mono okE hB⟩
theorem DirIn.chg {B : Nat} {E : TypeId} {row : Option Nat} {w w' : World} {v : Value} {d : DiN} (h : DirIn B w v d) (c : Chg B E row w w') (hE : E ≠ 45 /\ E ≠ 9 /\ E ≠ 98) : DirIn B w' v d := by
 obtain ⟨va, vr, ve, rfl, h1, h2, h3⟩ := h
 exact ⟨va, vr, ve, rfl, h1.chg okA c hE.1 (by simp [cdA]), h2.chg okS c hE.2.1 (by simp [cdS]), h3.chg okE c hE.2.2 (by simp [cdE, hE.1])⟩
end Go.Proofs.YtimpejaaeinplaaGreatDoor
