/- PthW WlkQ WlkR BsdE FarO GenP OvP ParW OvA OvN OvS OrA -/
import Derived.Test.YtnbkcalodmggaaaGreatDoorQI5
import Derived.Test.YtnbkcalodmggaaaGreatDoorShelj
import Derived.Test.YtnbkcalodmggaaaGreatDoorShelp
import Derived.Test.YtnbkcalodmggaaaGreatDoorSheli
import Derived.Test.YtnbkcalodmggaaaGreatDoorQNodA
import Derived.Test.YtnbkcalodmggaaaGreatDoorQSrt
import Derived.Test.YtnbkcalodmggaaaGreatDoorQBsdP
import Derived.Test.YtnbkcalodmggaaaGreatDoorQPthP
namespace Go.Proofs.YtnbkcalodmggaaaGreatDoor
open Go.RowKit

theorem strJoin (w : World) (v : Value) (l : List ByteArray) (hv : StrsAt w v l) (hp : pathE l = 0) :
    RetB Tryz.prog 178 #[v, .string ⟨#[47]⟩] w (.string (ofL (Lib.join (l.map L) [47]))) := by
  unfold RetB
  obtain ⟨a, cap, rfl, hcap, hc⟩ := hv
  have hlen := join_len hp
  have hl8 := (pathE_zero hp).1
  by_cases h0 : l.length = 0
  · obtain rfl : l = [] := List.length_eq_zero_iff.1 h0
    exact (Tryz.strings_Join_none a cap _ w).mono fun e w' ⟨h1, h2⟩ => ⟨h1, h2 ▸ Below.refl _ _⟩
  · obtain ⟨b, off, rfl, hb, _⟩ := hc 0 (by omega)
    refine Tryz.strings_Join b off cap l ⟨#[47]⟩ w (fun j x hj => ?_) hb (by omega) hcap ?_
    · obtain ⟨hj', rfl⟩ := List.getElem?_eq_some_iff.1 hj
      obtain ⟨b2, off2, e, _, h2⟩ := hc j hj'
      cases e; exact h2
    · exact Nat.le_trans hlen (by decide)
def prS (l : List ByteArray) : ByteArray := if pathE l = 0 then textP l else ⟨#[]⟩
end Go.Proofs.YtnbkcalodmggaaaGreatDoor
namespace Go.Proofs.YtnbkcalodmggaaaGreatDoor
open Go.RowKit

theorem pathsPrint (w : World) (v : Value) (l : List ByteArray) (hv : StrsAt w v l) :
    RetB Tryz.prog 127 #[v] w (.tuple #[.string (prS l), .int .i64 (pathE l)]) := by
  unfold RetB
  have HV := hQq hv; clear hv
  by_cases h : pathE l = 0
  · have h1 : (pathE l != 0) = false := bne_eq_false_iff_eq.2 h
    have HP := hQq h
    have hsz : (ofL (Lib.join (l.map L) [47])).size <= 1000 := by rw [size_ofL]; exact join_len h
    clear h
    go_enter Tryz.func127, Tryz.ntmps127
    go_wp2_with (first
      | (go_at_call 150; refine (pathsCheck _ l _ HV.out).mono ?_; rintro e w1 ⟨rfl, hb⟩; have HB1 := hQq hb; clear hb)
      | (go_at_call 178; refine (strJoin _ _ l (HV.out.ext HB1.out) HP.out).mono ?_; rintro e w2 ⟨rfl, hb⟩; have HB2 := hQq (Ext.trans HB1.out hb); clear hb))
    go_ret2
    refine ⟨?_, HB2.out⟩
    have e : prS l = (⟨#[47]⟩ : ByteArray) ++ ofL (Lib.join (l.map L) [47]) := by
      unfold prS; rw [if_pos HP.out]; apply L_inj; rw [L_append]; rfl
    rw [e, HP.out]; rfl
  · have h1 : (pathE l != 0) = true := bne_iff_ne.2 h
    have HP : Hid (prS l = ⟨#[]⟩) := hQq (if_neg h)
    clear h
    go_enter Tryz.func127, Tryz.ntmps127
    go_wp2_with (go_at_call 150; refine (pathsCheck _ l _ HV.out).mono ?_; rintro e w1 ⟨rfl, hb⟩; have HB1 := hQq hb; clear hb)
    go_ret2
    exact ⟨by rw [HP.out]; rfl, HB1.out⟩
end Go.Proofs.YtnbkcalodmggaaaGreatDoor
namespace Go.Proofs.YtnbkcalodmggaaaGreatDoor
open Go.RowKit

def MetOk (b : List BrN) (k : Nat) (F : ByteArray -> Option Value) : Prop := ∀ r, pathE r = 0 -> 0 < r.length -> F (textP r) = if seenR b r k = true then some (.bool true) else none
theorem met_zero (b : List BrN) : MetOk b 0 (fun _ => none) := fun _ _ _ => rfl
theorem met_skip {b : List BrN} {k : Nat} {F : ByteArray -> Option Value} (h : MetOk b k F) (hr : ¬ 0 < (getB b k).red.length) : MetOk b (k + 1) F := by
  intro r hp hl
  rw [h r hp hl, seenR.eq_2, decide_eq_false (fun e => hr (by rw [<- e]; exact hl)), Bool.or_false]
theorem met_step {b : List BrN} {k : Nat} {F : ByteArray -> Option Value} (h : MetOk b k F) (hk : pathE (getB b k).red = 0) : MetOk b (k + 1) (upd F (textP (getB b k).red) (.bool true)) := by
  intro r hp hl
  unfold upd
  rw [seenR.eq_2]
  by_cases e : r = (getB b k).red
  · rw [<- e, if_pos rfl, decide_eq_true rfl, Bool.or_true, if_pos rfl]
  · rw [if_neg (fun x => e (textP_inj hp hk x)), decide_eq_false e, Bool.or_false, h r hp hl]
theorem met_look {b : List BrN} {k : Nat} {F : ByteArray -> Option Value} (h : MetOk b k F) {r : List ByteArray} (hp : pathE r = 0) (hl : 0 < r.length) : (F (textP r)).getD (.bool false) = .bool (seenR b r k) := by
  rw [h r hp hl]
  cases seenR b r k <;> rfl
theorem stored2 {w w2 : World} {a c : Value} (h : Ext w w2) (c1 : w2.cell? ⟨w.heap.size + 1, 0, none⟩ = some a) (c2 : w2.cell? ⟨w.heap.size + 1 + 1, 0, none⟩ = some c) (x y : Value) :
    ((w2.setCell ⟨w.heap.size + 1, 0, none⟩ x).setCell ⟨w.heap.size + 1 + 1, 0, none⟩ y).cell? ⟨w.heap.size + 1, 0, none⟩ = some x /\ ((w2.setCell ⟨w.heap.size + 1, 0, none⟩ x).setCell ⟨w.heap.size + 1 + 1, 0, none⟩ y).cell? ⟨w.heap.size + 1 + 1, 0, none⟩ = some y /\ Ext w ((w2.setCell ⟨w.heap.size + 1, 0, none⟩ x).setCell ⟨w.heap.size + 1 + 1, 0, none⟩ y) := by
  refine ⟨?_, ?_, ?_⟩
  · rw [World.cell?_setCell_far _ _ _ _ (by show w.heap.size + 1 + 1 ≠ w.heap.size + 1; omega)]; exact World.cell?_setCell_same' _ _ _ (by rw [c1]; rfl)
  · refine World.cell?_setCell_same' _ _ _ ?_
    rw [World.cell?_setCell_far _ _ _ _ (by show w.heap.size + 1 ≠ w.heap.size + 1 + 1; omega), c2]; rfl
  · exact Below.setCell (p := ⟨w.heap.size + 1 + 1, 0, none⟩) (Below.setCell (p := ⟨w.heap.size + 1, 0, none⟩) h (by simp) _) (by simp; omega) _
structure BrI (w0 w : World) (bm : Nat) (b : List BrN) (k : Nat) (W : World) : Prop where
  ok : ∀ j, j < k -> marksE b j = 0
  met : ∃ n F, MapAt kS W bm n F /\ MetOk b k F
  kc : KcA w W
  ext : Ext w0 W
theorem BrI.ab {w0 w : World} {bm : Nat} {b : List BrN} (hb : bm < w.heap.size) (h0 : w0.heap.size <= w.heap.size) {k : Nat} {W W' : World} (h : BrI w0 w bm b k W) (hx : Below w.heap.size W W') : BrI w0 w bm b k W' where
  ok := h.ok
  met := by
    obtain ⟨n, F, ⟨es, c, hh, r⟩, hm⟩ := h.met
    exact ⟨n, F, ⟨es, c, (hx.block _ hb).trans hh, r⟩, hm⟩
  kc := ⟨Nat.le_trans h.kc.size hx.size, fun j cs e f _ hj => (hx.block _ (blk_lt hj)).trans (h.kc.keep j cs e f (.inr (Nat.zero_le _)) hj)⟩
  ext := Below.trans h.ext (hx.mono h0)
structure BrX (w0 : World) (b : List BrN) (W : World) : Prop where
  no : W.heap[w0.heap.size + 1]? = some (.cells #[.int .i64 (brNo b)] 3 (0, 0))
  er : W.heap[w0.heap.size + 2]? = some (.cells #[.int .i64 (brEr b)] 26 (0, 0))
  ext : Ext w0 W
theorem BrX.ab {w0 : World} {B : Nat} {b : List BrN} (h0 : w0.heap.size + 2 < B) {W W' : World} (h : BrX w0 b W) (hx : Below B W W') : BrX w0 b W' :=
  ⟨(hx.block _ (by omega)).trans h.no, (hx.block _ (by omega)).trans h.er, Below.trans h.ext (hx.mono (by omega))⟩
theorem ko_ext {W V : World} (h : Ext W V) : KeepsOthers W V := ⟨h.size, fun _ _ hk _ => bX h hk⟩
theorem kc_map {V U : World} {bm : Nat} {es : Array MapEntry} {c : Nat} (h : V.heap[bm]? = some (.map es c)) (hg : V.grownBy U (some bm)) : KcA V U :=
  ⟨hg.size, fun k cs e f _ hk => blk_grown hg hk (fun x => by cases x; rw [h] at hk; cases hk)⟩
theorem brX_of {w V : World} {b : List BrN} {a c x y : Int} (hV : Ext w V) (d1 : V.heap[w.heap.size + 1]? = some (.cells #[.int .i64 a] 3 (0, 0))) (d2 : V.heap[w.heap.size + 2]? = some (.cells #[.int .i64 c] 26 (0, 0))) (hr : brNo b = x /\ brEr b = y) :
    BrX w b ((V.setCell ⟨w.heap.size + 1, 0, none⟩ (.int .i64 x)).setCell ⟨w.heap.size + 1 + 1, 0, none⟩ (.int .i64 y)) /\ KeepsOthers V ((V.setCell ⟨w.heap.size + 1, 0, none⟩ (.int .i64 x)).setCell ⟨w.heap.size + 1 + 1, 0, none⟩ (.int .i64 y)) := by
  obtain ⟨_, _, g3⟩ := stored2 hV (bC d1 0) (bC d2 0) (.int .i64 x) (.int .i64 y)
  have h1 := one_setCell (u := .int .i64 x) d1
  have h2 : (V.setCell ⟨w.heap.size + 1, 0, none⟩ (.int .i64 x)).heap[w.heap.size + 1 + 1]? = some (.cells #[.int .i64 c] 26 (0, 0)) := by
    rw [<- d2]; simp [World.setCell, Array.getElem?_modify]
  refine ⟨⟨?_, ?_, g3⟩, (KeepsOthers.setCell _ _ _).trans (KeepsOthers.setCell _ _ _)⟩
  · rw [hr.1, <- h1]; simp [World.setCell, Array.getElem?_modify]
  · rw [hr.2]; exact one_setCell (u := .int .i64 y) h2
theorem BrX.alloc {w V : World} {b : List BrN} (h : BrX w b V) (o : Obj) : BrX w b (V.alloc o) := ⟨bA h.no, bA h.er, Below.trans h.ext (Below.alloc (Below.refl _ _) h.ext.size _)⟩
theorem BrI.skip {w0 w W U : World} {bm : Nat} {b : List BrN} {k : Nat} (h : BrI w0 w bm b k W) (hm : marksE b k = 0) (hr : ¬ 0 < (getB b k).red.length) (hE : Ext W U) : BrI w0 w bm b (k + 1) U where
  ok := fun j hj => by
    by_cases e : j = k
    · subst e; exact hm
    · exact h.ok j (by omega)
  met := by obtain ⟨n, F, h1, h2⟩ := h.met; exact ⟨n, F, h1.ext hE, met_skip h2 hr⟩
  kc := h.kc.trans (Kc.of_ext hE)
  ext := h.ext.trans hE
theorem BrI.led {w0 w W V U : World} {bm n n' : Nat} {F : ByteArray -> Option Value} {b : List BrN} {k : Nat} (h : BrI w0 w bm b k W) (hm : marksE b k = 0) (hp : pathE (getB b k).red = 0) (h0 : w0.heap.size <= bm) (hE : Ext W V) (hv : MapAt kS V bm n F) (hF : MetOk b k F) (hg : V.grownBy U (some bm)) (hU : MapAt kS U bm n' (upd F (textP (getB b k).red) (.bool true))) : BrI w0 w bm b (k + 1) U where
  ok := fun j hj => by
    by_cases e : j = k
    · subst e; exact hm
    · exact h.ok j (by omega)
  met := ⟨_, _, hU, met_step hF hp⟩
  kc := by obtain ⟨es, c, hb, _⟩ := hv; exact (h.kc.trans (Kc.of_ext hE)).trans (kc_map hb hg)
  ext := Below.grown (h.ext.trans hE) hg (Nat.le_trans h.ext.size hE.size) (fun k e => by cases e; exact h0)
end Go.Proofs.YtnbkcalodmggaaaGreatDoor
namespace Go.Proofs.YtnbkcalodmggaaaGreatDoor
open Go.RowKit Go.Shelf
attribute [local go_sem] Oper.semAt_some

theorem keyString : KeyT Tryz.prog 9 kS := keyT_str (by kernel_rfl)
theorem mapT_met : Tryz.prog.underlying 137 = some (.map 9 4) := Tryz.underlying137
theorem zeroBool (w : World) : (zeroValue 4).run Tryz.prog w = .ok (.bool false) w := by kernel_rfl
def brW0 (w : World) (v : Value) : World := ((w.alloc (.cells #[v] 22 (0, 0))).alloc (.cells #[.int .i64 0] 3 (0, 0))).alloc (.cells #[.int .i64 0] 26 (0, 0))
theorem brW0_ext (w : World) (v : Value) : Ext w (brW0 w v) := ((eA _ _).trans (eA _ _)).trans (eA _ _)
theorem brW0_blk (w : World) (v : Value) : (brW0 w v).heap[w.heap.size]? = some (.cells #[v] 22 (0, 0)) /\ (brW0 w v).heap[w.heap.size + 1]? = some (.cells #[.int .i64 0] 3 (0, 0)) /\ (brW0 w v).heap[w.heap.size + 2]? = some (.cells #[.int .i64 0] 26 (0, 0)) /\ (brW0 w v).heap.size = w.heap.size + 3 := by
  unfold brW0
  exact ⟨bA (bA (bN w _)), bA (blk_at (by simp)), blk_at (by simp), by simp⟩
def nthV (M : List Value) (k : Nat) : Value := M.getD k undef
def brAx (w : World) (bm : Nat) (b : List BrN) (x : PlI) (a : Act) (W : World) : Prop := ∃ (Bx : Nat) (M : List Value), W.heap[Bx]? = some (.cells #[.int .i64 (abv (plT b) x.i), .slice x.a x.n x.cap] 142 (0, 0)) /\ a = { tmps := #[nthV M 0, .pointer (some ⟨w.heap.size, 0, none⟩), .pointer (some ⟨w.heap.size + 1, 0, none⟩), .pointer (some ⟨w.heap.size + 1 + 1, 0, none⟩), nthV M 4, nthV M 5, .pointer (some ⟨bm + 1, 0, none⟩), .int .i64 x.i, .pointer (some ⟨Bx, 0, none⟩), nthV M 9, nthV M 10, nthV M 11, nthV M 12, nthV M 13, nthV M 14, nthV M 15, nthV M 16, nthV M 17, nthV M 18, nthV M 19, nthV M 20, nthV M 21, nthV M 22, nthV M 23, nthV M 24, nthV M 25, nthV M 26, nthV M 27, nthV M 28, nthV M 29, nthV M 30, nthV M 31, nthV M 32, nthV M 33, nthV M 34, nthV M 35, nthV M 36, nthV M 37, nthV M 38, nthV M 39, nthV M 40, nthV M 41, nthV M 42, nthV M 43, nthV M 44, nthV M 45, nthV M 46, nthV M 47, nthV M 48, nthV M 49, nthV M 50, nthV M 51, nthV M 52, nthV M 53, nthV M 54, nthV M 55, nthV M 56, nthV M 57, nthV M 58, nthV M 59, nthV M 60, nthV M 61, nthV M 62, nthV M 63, nthV M 64, nthV M 65, nthV M 66, nthV M 67, nthV M 68, nthV M 69, nthV M 70, nthV M 71, nthV M 72, nthV M 73, nthV M 74, nthV M 75, nthV M 76, nthV M 77, nthV M 78, nthV M 79, nthV M 80, nthV M 81, nthV M 82, nthV M 83, nthV M 84, nthV M 85, nthV M 86, nthV M 87, nthV M 88, nthV M 89, nthV M 90, nthV M 91, nthV M 92, nthV M 93, nthV M 94, nthV M 95, nthV M 96], defers := [] }
theorem brAx_put (w : World) (bm : Nat) (b : List BrN) (x : PlI) (a : Act) (W : World) (l : Nat) (o o' : Obj) (h : W.heap[l]? = some o) (hc : o.isCells = false) (hx : brAx w bm b x a W) : brAx w bm b x a (W.putObj l o') := by
  obtain ⟨Bx, M, h1, h2⟩ := hx
  refine ⟨Bx, M, (World.putObj_heap_other ?_).trans h1, h2⟩
  rintro rfl; rw [h] at h1; cases h1; cases hc
end Go.Proofs.YtnbkcalodmggaaaGreatDoor
namespace Go.Proofs.YtnbkcalodmggaaaGreatDoor
open Go.RowKit

theorem small_br {b : List BrN} (h : brEr b = 0) {k : Nat} (hk : k < b.length) : Small (b[k]'hk).ats := by
  have hz := treeE_zero (brEr_zero h).1
  obtain ⟨_, _, _, hc, _⟩ := node_parts (hz.2.2.1 k (by rw [plT_len]; exact hk))
  rw [getT_plT b k hk, getB_at b k hk] at hc
  intro a ha
  have := size_of_chk hc a ha
  omega
theorem attT_in {B : Nat} {w : World} {v : Value} {l : List Attr} (h : AttT w v l) : AttIn B w v l := attIn_of h.1 fun _ b hb => .inr (h.2 b hb)
end Go.Proofs.YtnbkcalodmggaaaGreatDoor
namespace Go.Proofs.YtnbkcalodmggaaaGreatDoor
open Go.RowKit

def BoolE (P : Prop) (w : World) (e : Ending) (w' : World) : Prop := ∃ r : Bool, e = .returned (.bool r) /\ (r = false -> P) /\ Ext w w'
end Go.Proofs.YtnbkcalodmggaaaGreatDoor
namespace Go.Proofs.YtnbkcalodmggaaaGreatDoor
open Go.RowKit

/-! Encode: the error of each node, and what it is written as. -/
def genT (b : List BrN) (E : Nat -> Int) (X : Nat -> TrN) : List TrN × Int × Int :=
  if brEr b ≠ 0 then ([], brNo b, brEr b) else match findB (fun i => E i != 0) 0 b.length with
    | some i => ([], i, E i)
    | none => ((List.range b.length).map X, 0, 0)
section
variable {b : List BrN} {E : Nat -> Int} {X : Nat -> TrN}
theorem gen_br (h : brEr b ≠ 0) : genT b E X = ([], brNo b, brEr b) := if_pos h
theorem gen_node (h : brEr b = 0) {i : Nat} (hi : i < b.length) (hl : ∀ j, j < i -> E j = 0) (he : E i ≠ 0) : genT b E X = ([], (i : Int), E i) := by
  unfold genT
  rw [if_neg (by simp [h]), findB_some b.length 0 i (Nat.zero_le _) (by omega) (fun j _ hj => by show (E j != 0) = false; rw [hl j hj]; rfl) (show (E i != 0) = true from bne_iff_ne.2 he)]
theorem gen_ok (h : brEr b = 0) (hl : ∀ j, j < b.length -> E j = 0) : genT b E X = ((List.range b.length).map X, 0, 0) := by
  unfold genT
  rw [if_neg (by simp [h]), findB_none b.length 0 (fun j _ hj => by show (E j != 0) = false; rw [hl j (by omega)]; rfl)]
end
/-! Decode. -/
def genD (t : List TrN) (E : Nat -> Int) (X : Nat -> BrN) : List BrN × Int × Int :=
  if treeE t ≠ 0 then ([], treeN t, treeE t) else match findB (fun i => E i != 0) 0 t.length with
    | some i => ([], i, E i)
    | none => if brEr ((List.range t.length).map X) ≠ 0 then ([], brNo ((List.range t.length).map X), brEr ((List.range t.length).map X)) else ((List.range t.length).map X, 0, 0)
section
variable {t : List TrN} {E : Nat -> Int} {X : Nat -> BrN}
theorem gend_tree (h : treeE t ≠ 0) : genD t E X = ([], treeN t, treeE t) := if_pos h
theorem gend_node (h : treeE t = 0) {i : Nat} (hi : i < t.length) (hl : ∀ j, j < i -> E j = 0) (he : E i ≠ 0) : genD t E X = ([], (i : Int), E i) := by
  unfold genD
  rw [if_neg (by simp [h]), findB_some t.length 0 i (Nat.zero_le _) (by omega) (fun j _ hj => by show (E j != 0) = false; rw [hl j hj]; rfl) (show (E i != 0) = true from bne_iff_ne.2 he)]
theorem gend_br (h : treeE t = 0) (hl : ∀ j, j < t.length -> E j = 0) (hb : brEr ((List.range t.length).map X) ≠ 0) : genD t E X = ([], brNo ((List.range t.length).map X), brEr ((List.range t.length).map X)) := by
  unfold genD
  rw [if_neg (by simp [h]), findB_none t.length 0 (fun j _ hj => by show (E j != 0) = false; rw [hl j (by omega)]; rfl)]; exact if_pos hb
theorem gend_ok (h : treeE t = 0) (hl : ∀ j, j < t.length -> E j = 0) (hb : brEr ((List.range t.length).map X) = 0) : genD t E X = ((List.range t.length).map X, 0, 0) := by
  unfold genD
  rw [if_neg (by simp [h]), findB_none t.length 0 (fun j _ hj => by show (E j != 0) = false; rw [hl j (by omega)]; rfl)]; exact if_neg (by simp [hb])
end
def manyT (t : List TrN) (c : Int) : Int := if c = 0 then 1 else countC t c t.length
theorem many_bd (t : List TrN) (c : Int) : 0 <= manyT t c /\ manyT t c <= t.length + 1 := by
  unfold manyT
  have := countC_le t c t.length
  split <;> omega
def linkS (n : Int) : ByteArray := if n < 2 then ⟨#[]⟩ else ⟨(Lib.itoa n).toArray⟩
theorem decDigits_ne (n : Nat) : Lib.decDigits n ≠ [] := by
  unfold Lib.decDigits
  split
  · exact List.cons_ne_nil _ _
  · intro e; exact absurd (List.append_eq_nil_iff.1 e).2 (List.cons_ne_nil _ _)
theorem link_one {n : Int} (h : n < 2) : linkS n = ⟨#[]⟩ := if_pos h
theorem link_two {n : Int} (h : ¬ n < 2) : (linkS n).size ≠ 0 := by
  unfold linkS
  rw [if_neg h]
  intro e
  have e : (Lib.itoa n).length = 0 := e
  unfold Lib.itoa at e
  rw [if_neg (by omega)] at e
  exact decDigits_ne _ (List.length_eq_zero_iff.1 e)
def reW : ByteArray := ofL [114, 101, 100, 105, 114, 101, 99, 116]
def nlW : ByteArray := ofL [110, 108, 105, 110, 107]
def yW : ByteArray := ofL [121]
def optS (o : Bool) : ByteArray := if o = true then yW else ⟨#[]⟩
def redS (r : List ByteArray) : ByteArray := if 0 < r.length then prS r else ⟨#[]⟩
def bookE (own : List Attr) (n : Int) : Int := if isM own nlW = decide (1 < n) /\ valM own nlW = linkS n then 0 else 18
theorem book_ok {own : List Attr} {n : Int} (h1 : isM own nlW = decide (1 < n)) (h2 : valM own nlW = linkS n) : bookE own n = 0 := if_pos ⟨h1, h2⟩
theorem book_no {own : List Attr} {n : Int} (h : ¬ (isM own nlW = decide (1 < n) /\ valM own nlW = linkS n)) : bookE own n = 18 := if_neg h
end Go.Proofs.YtnbkcalodmggaaaGreatDoor
namespace Go.Proofs.YtnbkcalodmggaaaGreatDoor
open Go.RowKit

theorem bytes_nil {s : ByteArray} (h : s.toList = []) : s = ⟨#[]⟩ := L_inj (by rw [<- toList_L, h]; rfl)
def zeroB (x : TrN) : Bool := x.kd == 4 && x.ma == 0 && x.mi == 0
theorem zeroB_iff {x : TrN} : zeroB x = true ↔ x.kd = 4 /\ x.ma = 0 /\ x.mi = 0 := by unfold zeroB; simp [and_assoc]
theorem kind_char {x : TrN} (h : kindE x = 0) (hk : x.kd = 4) : x.dat = ⟨#[]⟩ := by
  unfold kindE at h
  rw [if_neg (by omega), if_neg (by omega), if_neg (by omega), if_neg (by omega), if_pos hk] at h
  split at h
  · rename_i hh; exact bytes_nil hh
  · cases h
/-! Lists of marks that say the same are equal but for their order. -/
theorem getM_cons (a : Attr) (r : List Attr) (k : ByteArray) : getM (a :: r) k = if L a.1 = L k then some a.2 else getM r k := by
  unfold getM
  rw [List.find?_cons]
  by_cases h : L a.1 = L k
  · rw [if_pos h]; simp [h]
  · rw [if_neg h]; simp [h]
/-! The marks. -/
def ovM (o : Bool) (r : List ByteArray) (n : Int) : List Attr := [(opqW, optS o), (reW, redS r), (nlW, linkS n)]
theorem mkOk1o : MkOk 1 opqW := ⟨by decide +kernel, by decide +kernel, by decide +kernel, by decide +kernel, by decide +kernel⟩
theorem mkOk1r : MkOk 1 reW := ⟨by decide +kernel, by decide +kernel, by decide +kernel, by decide +kernel, by decide +kernel⟩
theorem mkOk1n : MkOk 1 nlW := ⟨by decide +kernel, by decide +kernel, by decide +kernel, by decide +kernel, by decide +kernel⟩
theorem ne_or : L opqW ≠ L reW := by decide
theorem ne_on : L opqW ≠ L nlW := by decide
theorem ne_rn : L reW ≠ L nlW := by decide
theorem mark1 {k : ByteArray} (h : mrE 1 k = 0) : L k = L opqW \/ L k = L reW \/ L k = L nlW := by
  have hm : (mkW 1).contains (L k) = true := by
    unfold mrE at h
    rw [if_pos (by decide)] at h
    by_cases e : isMk (1 : Int).toNat k = true
    · exact e
    · rw [if_neg e] at h; cases h
  rw [mkW1] at hm
  simp only [List.contains_cons, List.contains_nil, Bool.or_false, Bool.or_eq_true, beq_iff_eq] at hm
  rcases hm with e | e | e
  · exact .inr (.inr e)
  · exact .inl e
  · exact .inr (.inl e)
theorem link_size (n : Int) : (linkS n).size = 0 ↔ n < 2 := by
  by_cases h : n < 2
  · rw [link_one h]; exact ⟨fun _ => h, fun _ => rfl⟩
  · exact ⟨fun x => absurd x (link_two h), fun x => absurd x h⟩
/-! Encode. -/
def oeE (b : List BrN) (i : Nat) : Int :=
  if (getB b i).kd = 5 then 0 else if zeroB (getB b i).toTrN = true then 16 else mwE 1 (getB b i).ats (ovM (getB b i).opq (getB b i).red (manyT (plT b) (getB b i).cl))
def oeX (b : List BrN) (i : Nat) : TrN :=
  if (getB b i).kd = 5 then ⟨(getB b i).dep, (getB b i).nm, 4, [], ⟨#[]⟩, 0, 0, 0⟩ else { (getB b i).toTrN with ats := mwL 1 (getB b i).ats (ovM (getB b i).opq (getB b i).red (manyT (plT b) (getB b i).cl)) }
def oeT (b : List BrN) : List TrN × Int × Int := genT b (oeE b) (oeX b)
def oeL (b : List BrN) : List TrN := (oeT b).1
def oeN (b : List BrN) : Int := (oeT b).2.1
def oeF (b : List BrN) : Int := (oeT b).2.2
theorem oe_of {b : List BrN} {x : List TrN} {y z : Int} (h : oeT b = (x, y, z)) : oeL b = x /\ oeN b = y /\ oeF b = z := by unfold oeL oeN oeF; rw [h]; exact ⟨rfl, rfl, rfl⟩
section
variable {b : List BrN} {i : Nat} {x : BrN} (hg : getB b i = x)
include hg
theorem oe_white (h : x.kd = 5) : oeE b i = 0 /\ oeX b i = ⟨x.dep, x.nm, 4, [], ⟨#[]⟩, 0, 0, 0⟩ := by subst hg; exact ⟨if_pos h, if_pos h⟩
theorem oe_dev (h : x.kd ≠ 5) (hz : zeroB x.toTrN = true) : oeE b i = 16 := by subst hg; unfold oeE; rw [if_neg h, if_pos hz]
theorem oe_node (h : x.kd ≠ 5) (hz : zeroB x.toTrN = false) : oeE b i = mwE 1 x.ats (ovM x.opq x.red (manyT (plT b) x.cl)) /\ oeX b i = { x.toTrN with ats := mwL 1 x.ats (ovM x.opq x.red (manyT (plT b) x.cl)) } := by
  subst hg; exact ⟨by unfold oeE; rw [if_neg h, if_neg (by simp [hz])], if_neg h⟩
end
/-! Decode. -/
def turnT (own : List Attr) : Bool × List ByteArray × Int :=
  if isM own opqW = true /\ valM own opqW ≠ yW then (false, [], 6)
  else if isM own reW = true then (if parE (valM own reW) ≠ 0 \/ parL (valM own reW) = [] then (false, [], 6) else (isM own opqW, parL (valM own reW), 0))
  else (isM own opqW, [], 0)
def turnO (own : List Attr) : Bool := (turnT own).1
def turnR (own : List Attr) : List ByteArray := (turnT own).2.1
def turnE (own : List Attr) : Int := (turnT own).2.2
theorem turn_of {own : List Attr} {x : Bool} {y : List ByteArray} {z : Int} (h : turnT own = (x, y, z)) : turnO own = x /\ turnR own = y /\ turnE own = z := by unfold turnO turnR turnE; rw [h]; exact ⟨rfl, rfl, rfl⟩
theorem turn_opq {own : List Attr} (h : isM own opqW = true) (h2 : valM own opqW ≠ yW) : turnT own = (false, [], 6) := if_pos ⟨h, h2⟩
theorem turn_bad {own : List Attr} (h : ¬ (isM own opqW = true /\ valM own opqW ≠ yW)) (h2 : isM own reW = true) (h3 : parE (valM own reW) ≠ 0 \/ parL (valM own reW) = []) : turnT own = (false, [], 6) := by
  unfold turnT; rw [if_neg h, if_pos h2, if_pos h3]
theorem turn_led {own : List Attr} (h : ¬ (isM own opqW = true /\ valM own opqW ≠ yW)) (h2 : isM own reW = true) (h3 : ¬ (parE (valM own reW) ≠ 0 \/ parL (valM own reW) = [])) : turnT own = (isM own opqW, parL (valM own reW), 0) := by
  unfold turnT; rw [if_neg h, if_pos h2, if_neg h3]
theorem turn_no {own : List Attr} (h : ¬ (isM own opqW = true /\ valM own opqW ≠ yW)) (h2 : isM own reW = false) : turnT own = (isM own opqW, [], 0) := by
  unfold turnT; rw [if_neg h, if_neg (by simp [h2])]
def odE (t : List TrN) (i : Nat) : Int :=
  if zeroB (getT t i) = true then (if (getT t i).ats ≠ [] \/ (getT t i).cl ≠ 0 then 6 else 0)
  else if (getT t i).kd = 5 then 6
  else if ptsE 1 (getT t i).ats ≠ 0 then ptsE 1 (getT t i).ats
  else if turnE (ptsO 1 (getT t i).ats) ≠ 0 \/ ((isM (ptsO 1 (getT t i).ats) opqW || isM (ptsO 1 (getT t i).ats) reW) = true /\ (getT t i).kd ≠ 1) \/ (i = 0 /\ isM (ptsO 1 (getT t i).ats) reW = true) then 6
  else bookE (ptsO 1 (getT t i).ats) (manyT t (getT t i).cl)
def odX (t : List TrN) (i : Nat) : BrN :=
  if zeroB (getT t i) = true then ⟨⟨(getT t i).dep, (getT t i).nm, 5, [], ⟨#[]⟩, 0, 0, 0⟩, false, []⟩
  else ⟨{ getT t i with ats := ptsP 1 (getT t i).ats }, turnO (ptsO 1 (getT t i).ats), turnR (ptsO 1 (getT t i).ats)⟩
section
variable {t : List TrN} {i : Nat} {x : TrN} (hg : getT t i = x)
include hg
theorem od_node (h : zeroB x = false) : odX t i = ⟨{ x with ats := ptsP 1 x.ats }, turnO (ptsO 1 x.ats), turnR (ptsO 1 x.ats)⟩ := by
  subst hg; exact if_neg (by simp [h])
end
def odT (t : List TrN) : List BrN × Int × Int := genD t (odE t) (odX t)
def odL (t : List TrN) : List BrN := (odT t).1
def odN (t : List TrN) : Int := (odT t).2.1
def odF (t : List TrN) : Int := (odT t).2.2
theorem od_of {t : List TrN} {x : List BrN} {y z : Int} (h : odT t = (x, y, z)) : odL t = x /\ odN t = y /\ odF t = z := by unfold odL odN odF; rw [h]; exact ⟨rfl, rfl, rfl⟩

end Go.Proofs.YtnbkcalodmggaaaGreatDoor
namespace Go.Proofs.YtnbkcalodmggaaaGreatDoor
open Go.RowKit

theorem gPow : Tryz.prog.globalNamed "internal/strconv.uint64pow10" = some 7 := by kernel_rfl
structure LaidO (w : World) : Prop where
  laid : Laid w
  psz : 7 < w.heap.size
  pow : Lib.TabIs Tryz.prog w "internal/strconv.uint64pow10" .u64 Lib.pow10Tab
  mx : ∃ m, w.cell? ⟨8, 0, none⟩ = some (.int .i64 m)
theorem LaidO.ext {w w' : World} (h : LaidO w) (he : Ext w w') : LaidO w' where
  laid := h.laid.ext he
  psz := Nat.lt_of_lt_of_le h.psz he.size
  pow := by
    have ha := h.pow
    unfold Lib.TabIs at ha ⊢
    exact var?_below he gPow h.psz ha
  mx := by
    obtain ⟨m, hm⟩ := h.mx
    exact ⟨m, by rw [ext_cell he (World.block_lt_of_cell? _ _ hm)]; exact hm⟩
theorem itoaX (n : Int) (w : World) (hL : LaidO w) (h0 : 0 <= n) (h1 : n <= 9223372036854775807) : RetB Tryz.prog 133 #[.int .i64 n] w (.string ⟨(Lib.itoa n).toArray⟩) := by
  unfold RetB
  refine (Tryz.strconv_Itoa n (by omega) (by omega) w hL.pow).mono ?_
  rintro e w' ⟨rfl, k, os, rfl⟩
  exact ⟨rfl, Lib.below_grow _ _ (Nat.le_refl _) _ _⟩
theorem itoa (n : Int) (w : World) (hL : LaidO w) (h0 : 0 <= n) (h1 : n <= 1000000) : RetB Tryz.prog 133 #[.int .i64 n] w (.string ⟨(Lib.itoa n).toArray⟩) := itoaX n w hL h0 (by omega)
theorem splitSlash (s : ByteArray) (w : World) (hL : LaidO w) (hs : s.size <= 1000000) :
    Calls Tryz.prog 205 #[.string s, .string ⟨#[47]⟩] w fun e w' => (∃ a cap, e = .returned (.slice a (cutsB (L s)).length cap) /\ StrIn 0 w' (.slice a (cutsB (L s)).length cap) (cutsB (L s))) /\ Ext w w' := by
  obtain ⟨m, hm⟩ := hL.mx
  have hsp : Lib.splitB ⟨#[47]⟩ 0 (Lib.countB s ⟨#[47]⟩) s = cutsB (L s) := by
    have := splitB_cuts s
    rw [cutsB, <- this, mapOfL]; rfl
  have hlen : Lib.countB s ⟨#[47]⟩ + 1 = (cutsB (L s)).length := by
    rw [<- hsp]; exact (Lib.splitB_all ⟨#[47]⟩ (by decide) 0 _ s rfl).symm
  refine (Tryz.strings_Split s ⟨#[47]⟩ m w (by omega) hm (by decide)).mono ?_
  rintro e w' ⟨rfl, rfl⟩
  rw [hlen, hsp]
  refine ⟨⟨_, _, rfl, ?_⟩, eA _ _⟩
  have h := strsAt_new w (cutsL (L s)) 9
  have e1 : ((cutsL (L s)).map ofL).map Value.string = (cutsL (L s)).map (fun l => Value.string ⟨l.toArray⟩) := by rw [List.map_map]; rfl
  rw [cutsB, e1, List.length_map]
  refine strIn_of (by simpa using h) fun _ b hb => .inr ?_
  cases hb
  exact ⟨_, _, bN _ _⟩
theorem head_hasP {s : ByteArray} : hasP s ⟨#[47]⟩ = true ↔ (L s).head? = some 47 := by
  unfold hasP
  have e : L (⟨#[47]⟩ : ByteArray) = [47] := rfl
  rw [e]
  cases h : L s with
  | nil => simp
  | cons c r =>
    show ((47 == c) && true) = true ↔ some c = some 47
    rw [Bool.and_true, beq_iff_eq, Option.some.injEq]
    exact eq_comm
theorem cut_tail {s : ByteArray} (h : hasP s ⟨#[47]⟩ = true) : L (cutP s ⟨#[47]⟩) = (L s).tail := by
  have := L_cut h
  rw [this]; rfl
end Go.Proofs.YtnbkcalodmggaaaGreatDoor
namespace Go.Proofs.YtnbkcalodmggaaaGreatDoor
open Go.RowKit

abbrev mksV (o r n : ByteArray) : Value := .agg #[.string o, .string r, .string n]
theorem put3 {w w1 W2 : World} {b : Nat} {t : TypeId} {x0 x1 x2 y0 y1 y2 : Value} (hq : w1.heap[b]? = some (.cells #[x0, x1, x2] t (0, 0))) (hb : w.heap.size <= b) (he : Ext w w1) (hW : W2 = setL w1 b 0 [y0, y1, y2]) :
    W2.heap[b]? = some (.cells #[y0, y1, y2] t (0, 0)) /\ Ext w W2 := by
  subst hW
  exact ⟨by rw [setL_blk _ _ _ _ hq]; rfl, setL_below hb _ _ _ he⟩
theorem put3a {w w1 W2 : World} {b : Nat} {t : TypeId} {x0 x1 x2 y0 y1 y2 : Value} {o : Obj} (hq : w1.heap[b]? = some (.cells #[x0, x1, x2] t (0, 0))) (hb : w.heap.size <= b) (he : Ext w w1) (hW : W2 = (setL w1 b 0 [y0, y1, y2]).alloc o) :
    W2.heap[b]? = some (.cells #[y0, y1, y2] t (0, 0)) /\ Ext w W2 := by
  obtain ⟨h1, h2⟩ := put3 (y0 := y0) (y1 := y1) (y2 := y2) hq hb he rfl
  subst hW
  exact ⟨bA h1, h2.trans (eA _ _)⟩
end Go.Proofs.YtnbkcalodmggaaaGreatDoor
namespace Go.Proofs.YtnbkcalodmggaaaGreatDoor
open Go.RowKit

def nmF (t : List TrN) (k : Nat) : Int -> Option Value := fun c => if countC t c k = 0 then none else some (.int .i64 (countC t c k))
theorem nmF_zero (t : List TrN) : nmF t 0 = fun _ => none := by funext c; exact if_pos rfl
theorem nmF_look (t : List TrN) (k : Nat) (c : Int) : (nmF t k c).getD (.int .i64 0) = .int .i64 (countC t c k) := by
  unfold nmF
  by_cases h : countC t c k = 0
  · rw [if_pos h, h]; rfl
  · rw [if_neg h]; rfl
theorem nmF_step (t : List TrN) (k : Nat) : nmF t (k + 1) = upd (nmF t k) (getT t k).cl (.int .i64 ((countC t (getT t k).cl k : Int) + 1)) := by
  funext c
  unfold nmF upd
  by_cases e : c = (getT t k).cl
  · have h : countC t c (k + 1) = countC t c k + 1 := by rw [countC.eq_2, if_pos e.symm]
    rw [if_pos e, h, if_neg (by omega), e]; rfl
  · have h : countC t c (k + 1) = countC t c k := by rw [countC.eq_2, if_neg (fun x => e x.symm)]; rfl
    rw [if_neg e, h]
def mnF (t : List TrN) : Int -> Option Value := upd (nmF t t.length) 0 (.int .i64 1)
theorem mnF_look (t : List TrN) (c : Int) : (mnF t c).getD (.int .i64 0) = .int .i64 (manyT t c) := by
  unfold mnF upd manyT
  by_cases e : c = 0
  · rw [if_pos e, if_pos e]; rfl
  · rw [if_neg e, if_neg e]; exact nmF_look t _ c
def NamesP (w : World) (t : List TrN) (e : Ending) (w' : World) : Prop := (∃ b n, e = .returned (.map (some b)) /\ MapAt kI w' b n (mnF t) /\ w.heap.size <= b) /\ Ext w w'
end Go.Proofs.YtnbkcalodmggaaaGreatDoor
namespace Go.Proofs.YtnbkcalodmggaaaGreatDoor
open Go.RowKit

set_option maxRecDepth 100000 in
set_option maxHeartbeats 4000000 in
theorem ovNames (B : Nat) (v : Value) (t : List TrN) (w : World) (hv : TrIn B w v t) (hl : t.length <= 1000000) :
    Calls Tryz.prog 122 #[v] w (NamesP w t) := by
  obtain ⟨a, cap, rfl⟩ := hv.form
  have HV := hQq hv; clear hv
  have hmm := @run_makeMap Tryz.prog
  go_enter Tryz.func122, Tryz.ntmps122
  go_wp2
  go_loopw [9] (fun i w' => ∃ (wi : World) (k n : Nat), wi = w' /\ k <= t.length /\ i = .int .i64 k /\ MapAt kI wi w.heap.size n (nmF t k) /\ Ext w wi) (fun i _ => t.length - (intOf i).toNat)
  case atStart => exact ⟨_, 0, 0, rfl, Nat.zero_le _, rfl, by rw [nmF_zero]; exact mapAt_made _ _, eA _ _⟩
  case round =>
    obtain ⟨wi, k, n, rfl, hk, rfl, hm, hE⟩ := hrel
    have HM := hQq hm; have HE := hQq hE
    clear hm hE
    have hcl := fun c => countC_le t c k
    by_cases hlt : k < t.length
    · obtain ⟨b, off, va, hex, hb, hva, c0, c1, c2, c3, c4, c5, c6, c7⟩ := (HV.out.ext okT HE.out).tr k hlt
      cases hex
      obtain ⟨a3, cap3, rfl⟩ := hva.form
      have HG := hQq (getT_at t k hlt)
      have HS := hQq (nmF_step t k)
      generalize t[k]'hlt = x at c0 c1 c2 c3 c4 c5 c6 c7 HG
      rw [HG.out] at HS
      have hc := hcl x.cl
      have j1 : ((k : Nat) : Int) < (t.length : Int) := by omega
      have j0 : (0 : Int) <= (k : Int) := by omega
      have y0 : (0 : Int) <= (countC t x.cl k : Int) := by omega
      have y1 : (countC t x.cl k : Int) <= 1000000 := by omega
      clear hva hcl
      go_wp2_with (first
        | (at_lookup; refine wl_look rfl (.tmp 13) (.tmp 15) 70 false rfl 3 3 keyInt mapT_count (.int .i64 0) zeroInt rfl (HM.out.ext (eA _ _)) x.cl rfl ?_; rw [if_neg Bool.false_ne_true, nmF_look])
        | (at_mapUpdate; refine wl_store rfl (.tmp 13) (.tmp 15) (.tmp 17) 70 rfl _ _ keyInt mapT_count rfl (by exact HM.out.ext (eA _ _)) x.cl (.int .i64 ((countC t x.cl k : Int) + 1)) rfl rfl ?_; intro w4 hm4 hg4; have HM4 := hQq hm4; have HG4 := hQq hg4; clear hm4 hg4)
        | fail)
      rw [<- HS.out] at HM4
      have HE4 : Hid (Ext w w4) := hQq (Below.grown (HE.out.trans (eA _ _)) HG4.out (by have := HE.out.size; simp; omega) (fun g hg => by cases hg; exact Nat.le_refl _))
      go_roundw
      case rel => exact ⟨_, k + 1, _, rfl, by omega, by go_num, HM4.out, HE4.out⟩
      case measure => first | (simp [intOf]; done) | (simp [intOf]; omega)
    · obtain rfl : k = t.length := by omega
      clear hcl
      go_wp2_with (at_mapUpdate; refine wl_store rfl (.tmp 19) (.const (.int .i64 0)) (.const (.int .i64 1)) 70 rfl _ _ keyInt mapT_count rfl (by exact HM.out) 0 (.int .i64 1) rfl rfl ?_; intro w4 hm4 hg4; have HM4 := hQq hm4; have HG4 := hQq hg4; clear hm4 hg4)
      have HE4 : Hid (Ext w w4) := hQq (Below.grown HE.out HG4.out HE.out.size (fun g hg => by cases hg; exact Nat.le_refl _))
      go_ret
      exact ⟨⟨_, _, rfl, HM4.out, Nat.le_refl _⟩, HE4.out⟩
end Go.Proofs.YtnbkcalodmggaaaGreatDoor
namespace Go.Proofs.YtnbkcalodmggaaaGreatDoor
open Go.RowKit

structure SayOk (x : BrN) (y : TrN) : Prop where
  dep : y.dep = x.dep
  nm : y.nm = x.nm
  dat : y.dat = x.dat
  ma : y.ma = x.ma
  mi : y.mi = x.mi
  cl : y.cl = x.cl
  kd : (x.kd = 5 /\ y.kd = 4 /\ y.ma = 0 /\ y.mi = 0) \/ (x.kd ≠ 5 /\ y.kd = x.kd /\ ¬ (y.kd = 4 /\ y.ma = 0 /\ y.mi = 0))
end Go.Proofs.YtnbkcalodmggaaaGreatDoor
namespace Go.Proofs.YtnbkcalodmggaaaGreatDoor
open Go.RowKit

theorem getM_at {own : List Attr} {k : ByteArray} {i : Nat} (hi : i < own.length) (h : ∀ j (_ : j < i) (hj : j < own.length), L (own[j]'hj).1 ≠ L k) (e : L (own[i]'hi).1 = L k) : getM own k = some (own[i]'hi).2 := by
  unfold getM
  have : own.find? (fun a => decide (L a.1 = L k)) = some (own[i]'hi) := by
    rw [List.find?_eq_some_iff_getElem]
    exact ⟨by simp [e], i, hi, rfl, fun j hj => by simp [h j hj (by omega)]⟩
  rw [this]; rfl
/-! The text of a path. -/
def slT (l : List ByteArray) : ByteArray := ofL (l.flatMap fun s => 47 :: L s)
theorem slT_snoc (l : List ByteArray) (s : ByteArray) : slT (l ++ [s]) = slT l ++ (⟨#[47]⟩ : ByteArray) ++ s := by
  refine L_inj ?_
  unfold slT
  rw [L_ofL, L_append, L_append, L_ofL]
  show (l ++ [s]).flatMap _ = _ ++ [47] ++ L s
  simp
theorem tail_flat : ∀ l : List ByteArray, Lib.joinTail [47] (l.map L) = l.flatMap fun s => 47 :: L s
  | [] => rfl
  | x :: r => by
    show (47 : UInt8) :: (L x ++ Lib.joinTail [47] (r.map L)) = _
    rw [tail_flat r]; rfl
theorem textP_slT {l : List ByteArray} (h : l ≠ []) : textP l = slT l := by
  refine L_inj ?_
  unfold textP slT
  rw [L_ofL, L_ofL]
  cases l with
  | nil => exact absurd rfl h
  | cons x r => rw [List.map_cons, Lib.join_cons, tail_flat]; rfl
end Go.Proofs.YtnbkcalodmggaaaGreatDoor
namespace Go.Proofs.YtnbkcalodmggaaaGreatDoor
open Go.RowKit

set_option maxHeartbeats 1000000 in
theorem refValue (v : Value) (own : List Attr) (key : ByteArray) (w : World) (hv : AttrsAt w v own) (hl : own.length <= 1000000) :
    Ret Tryz.prog 119 #[v, .string key] w (.tuple #[.string (valM own key), .bool (isM own key)]) := by
  unfold Ret
  obtain ⟨a, cap, rfl, hcap, hc⟩ := hv
  have HC := hQq hc; clear hc
  go_enter Tryz.func119, Tryz.ntmps119
  go_wp2
  go_loop [6] (fun i => ∃ k : Nat, k <= own.length /\ i = .int .i64 k /\ ∀ j (_ : j < k) (hj : j < own.length), L (own[j]'hj).1 ≠ L key) (fun i => own.length - (intOf i).toNat)
  case atStart => exact ⟨0, Nat.zero_le _, rfl, fun j hj => absurd hj (by omega)⟩
  case round =>
    obtain ⟨k, hk, rfl, hb⟩ := hrel
    have HB := hQq hb; clear hb
    by_cases hlt : k < own.length
    · obtain ⟨b, off, rfl, hbs, h1, h2⟩ := HC.out k hlt
      have HG := hQq (fun (e : L (own[k]'hlt).1 = L key) => getM_at hlt HB.out e)
      have HN : Hid (L (own[k]'hlt).1 ≠ L key -> ∀ j (_ : j < k + 1) (hj : j < own.length), L (own[j]'hj).1 ≠ L key) := hQq (fun hn j hj hjl => by
        by_cases e : j = k
        · subst e; exact hn
        · exact HB.out j (by omega) hjl)
      generalize own[k]'hlt = x at h1 h2 HG HN
      have j1 : ((k : Nat) : Int) < (own.length : Int) := by omega
      have j0 : (0 : Int) <= (k : Int) := by omega
      cases he : x.1.toList == key.toList
      · have HB2 := hQq (HN.out (by rw [toList_L, toList_L] at he; simpa using he))
        go_wp2
        go_round
        case rel => exact ⟨k + 1, by omega, by go_num, HB2.out⟩
        case measure => first | (simp [intOf]; done) | (simp [intOf]; omega)
      · have HF := hQq (HG.out (by rw [toList_L, toList_L] at he; exact beq_iff_eq.1 he))
        go_wp2
        go_ret2
        exact ⟨by unfold valM isM; rw [HF.out]; rfl, rfl⟩
    · have HF : Hid (getM own key = none) := hQq (getM_none fun y hy => by
        obtain ⟨j, hj, rfl⟩ := List.getElem_of_mem hy
        exact HB.out j (by omega) hj)
      go_wp2
      go_ret2
      exact ⟨by unfold valM isM; rw [HF.out]; rfl, rfl⟩
theorem orZero (x : TrN) (va : Value) (hva : ∃ a n c, va = .slice a n c) (w : World) :
    RetB Tryz.prog 171 #[trV x va] w (.bool (zeroB x)) := by
  unfold RetB
  obtain ⟨a3, n3, c3, rfl⟩ := hva
  unfold trV
  cases q1 : (x.kd == 4) with
  | false =>
    have HZ : Hid (zeroB x = false) := hQq (by unfold zeroB; rw [q1]; rfl)
    go_enter Tryz.func171, Tryz.ntmps171
    go_wp2
    go_ret
    exact ⟨by rw [HZ.out]; rfl, eA _ _⟩
  | true =>
    cases q2 : (x.ma == 0) with
    | false =>
      have HZ : Hid (zeroB x = false) := hQq (by unfold zeroB; rw [q1, q2]; rfl)
      go_enter Tryz.func171, Tryz.ntmps171
      go_wp2
      go_ret
      exact ⟨by rw [HZ.out]; rfl, eA _ _⟩
    | true =>
      have HZ : Hid (zeroB x = (x.mi == 0)) := hQq (by unfold zeroB; rw [q1, q2]; rfl)
      go_enter Tryz.func171, Tryz.ntmps171
      go_wp2
      go_ret
      exact ⟨by rw [HZ.out]; rfl, eA _ _⟩
set_option maxHeartbeats 1000000 in
theorem refPathText (v : Value) (l : List ByteArray) (w : World) (hv : StrsAt w v l) (hp : pathE l = 0) :
    Ret Tryz.prog 189 #[v] w (.string (textP l)) := by
  unfold Ret
  obtain ⟨a, cap, rfl, hcap, hc⟩ := hv
  have HC := hQq hc; clear hc
  have hl8 := (pathE_zero hp).1
  have HN := hQq (fun s hs => (nameE_parts ((pathE_zero hp).2 s hs)).2.2)
  clear hp
  by_cases h0 : l.length = 0
  · obtain rfl : l = [] := List.length_eq_zero_iff.1 h0
    go_enter Tryz.func189, Tryz.ntmps189
    go_wp2
    go_ret
    exact ⟨rfl, rfl⟩
  have HT : Hid (textP l = slT l) := hQq (textP_slT (fun e => h0 (by rw [e]; rfl)))
  have h0' : 0 < l.length := by omega
  have q0 : ((l.length : Int) == 0) = false := beq_eq_false_iff_ne.2 (by omega)
  rw [HT.out]
  clear h0
  go_enter Tryz.func189, Tryz.ntmps189
  go_wp2
  go_loop [3, 4] (fun t i => ∃ k : Nat, k <= l.length /\ i = .int .i64 k /\ t = .string (slT (l.take k)) /\ (slT (l.take k)).size <= 25 * k) (fun _ i => l.length - (intOf i).toNat)
  case atStart => exact ⟨0, Nat.zero_le _, rfl, rfl, by rw [List.take_zero]; decide⟩
  case round =>
    obtain ⟨k, hk, rfl, rfl, hsz⟩ := hrel
    by_cases hlt : k < l.length
    · obtain ⟨b, off, rfl, hbs, h1⟩ := HC.out k hlt
      have HS : Hid (slT (l.take (k + 1)) = slT (l.take k) ++ (⟨#[47]⟩ : ByteArray) ++ l[k]'hlt) := hQq (by rw [List.take_succ_eq_append_getElem hlt, slT_snoc])
      have hx := HN.out _ (List.getElem_mem hlt)
      generalize l[k]'hlt = x at h1 HS hx
      rw [<- size_L] at hx
      have j1 : ((k : Nat) : Int) < (l.length : Int) := by omega
      have j0 : (0 : Int) <= (k : Int) := by omega
      go_wp2
      go_round
      case rel => exact ⟨k + 1, by omega, by go_num, by rw [HS.out], by rw [HS.out, ByteArray.size_append, ByteArray.size_append]; show _ + 1 + _ <= _; omega⟩
      case measure => first | (simp [intOf]; done) | (simp [intOf]; omega)
    · obtain rfl : k = l.length := by omega
      rw [List.take_length]
      go_wp2
      go_ret
      exact ⟨rfl, rfl⟩
theorem refPrint (v : Value) (l : List ByteArray) (w : World) (hv : StrsAt w v l) (hp : pathE l = 0) :
    Ret Tryz.prog 135 #[v] w (.tuple #[.string (prS l), .int .i64 0]) := by
  unfold Ret
  have HV := hQq hv; have HP := hQq hp
  have HM : Hid (∀ s ∈ l, s.size <= 1000000) := hQq (fun s hs => by
    have := (nameE_parts ((pathE_zero hp).2 s hs)).2.2
    rw [size_L]; omega)
  have HS : Hid (prS l = textP l) := hQq (if_pos hp)
  clear hv hp
  go_enter Tryz.func135, Tryz.ntmps135
  go_wp2_with (first
    | (go_at_call 147; refine (refPathCheck _ l _ HV.out HM.out).mono ?_; rintro e w' ⟨rfl, rfl⟩; rw [HP.out])
    | (go_at_call 189; refine (refPathText _ l _ HV.out HP.out).mono ?_; rintro e w' ⟨rfl, rfl⟩))
  go_ret2
  exact ⟨by rw [HS.out]; rfl, rfl⟩
theorem refText (v : Value) (l : List ByteArray) (w : World) (hv : StrsAt w v l) (hp : 0 < l.length -> pathE l = 0) :
    Ret Tryz.prog 113 #[v] w (.string (redS l)) := by
  unfold Ret
  have HV := hQq hv
  obtain ⟨a, cap, rfl, _, _⟩ := hv
  by_cases h : 0 < l.length
  · have HP := hQq (hp h)
    have HS : Hid (redS l = prS l) := hQq (if_pos h)
    have q0 : ((l.length : Int) == 0) = false := beq_eq_false_iff_ne.2 (by omega)
    rw [HS.out]
    clear hp
    go_enter Tryz.func113, Tryz.ntmps113
    go_wp2_with (go_at_call 135; refine (refPrint _ l _ HV.out HP.out).mono ?_; rintro e w' ⟨rfl, rfl⟩)
    go_ret
    exact ⟨rfl, rfl⟩
  · have HS : Hid (redS l = ⟨#[]⟩) := hQq (if_neg h)
    have q0 : ((l.length : Int) == 0) = true := beq_iff_eq.2 (by omega)
    rw [HS.out]
    clear hp
    go_enter Tryz.func113, Tryz.ntmps113
    go_wp2
    go_ret
    exact ⟨rfl, rfl⟩
end Go.Proofs.YtnbkcalodmggaaaGreatDoor
