/- PthW WlkQ WlkR BsdE FarB FarO BsdG AwkB GenP OvP OvQ ParW OvA OvR OvB OvN OvX OvXO OvS OvD OvE AwkO OvI -/
import Derived.Test.YtimpejaaeinplaaGreatDoorJI5
import Derived.Test.YtimpejaaeinplaaGreatDoorShelj
import Derived.Test.YtimpejaaeinplaaGreatDoorShelp
import Derived.Test.YtimpejaaeinplaaGreatDoorSheli
import Derived.Test.YtimpejaaeinplaaGreatDoorJSrt
import Derived.Test.YtimpejaaeinplaaGreatDoorJChkC
import Derived.Test.YtimpejaaeinplaaGreatDoorJBsdP
import Derived.Test.YtimpejaaeinplaaGreatDoorJPthP
namespace Go.Proofs.YtimpejaaeinplaaGreatDoor
open Go.RowKit
theorem strJoin (w : World) (v : Value) (l : List ByteArray) (hv : StrsAt w v l) (hp : pathE l = 0) :
  RetB Tryz.prog 165 #[v, .string ⟨#[47]⟩] w (.string (ofL (Lib.join (l.map L) [47]))) := by
 unfold RetB
 obtain ⟨a, cap, rfl, hcap, hc⟩ := hv
 have hlen := join_len hp
 have hl8 := (pathE_zero hp).1
 by_cases h0 : l.length = 0
 ·obtain rfl : l = [] := List.length_eq_zero_iff.1 h0
  exact (Tryz.strings_Join_none a cap _ w).mono fun e w' ⟨h1, h2⟩ => ⟨h1, h2 ▸ bR _ _⟩
 ·obtain ⟨b, off, rfl, hb, _⟩ := hc 0 (by omega)
  refine Tryz.strings_Join b off cap l ⟨#[47]⟩ w (fun j x hj => ?_) hb (by omega) hcap ?_
  ·obtain ⟨hj', rfl⟩ := List.getElem?_eq_some_iff.1 hj
   obtain ⟨b2, off2, e, _, h2⟩ := hc j hj'
   cases e; exact h2
  ·exact Nat.le_trans hlen (by decide)
def prS (l : List ByteArray) : ByteArray := if pathE l = 0 then textP l else ⟨#[]⟩
theorem pathsPrint (w : World) (v : Value) (l : List ByteArray) (hv : StrsAt w v l) :
  RetB Tryz.prog 115 #[v] w (.tuple #[.string (prS l), .int .i64 (pathE l)]) := by
 unfold RetB
 have HV := hQq hv; clear hv
 by_cases h : pathE l = 0
 ·have h1 : (pathE l != 0) = false := bne_eq_false_iff_eq.2 h
  have HP := hQq h
  have hsz : (ofL (Lib.join (l.map L) [47])).size <= 1000 := by rw [size_ofL]; exact join_len h
  clear h
  go_enter Tryz.func115, Tryz.ntmps115
  go_wp2_with (first
   | (go_at_call 138; refine (pathsCheck _ l _ HV.out).mono ?_; rintro e w1 ⟨rfl, hb⟩; have HB1 := hQq hb; clear hb)
   | (go_at_call 165; refine (strJoin _ _ l (HV.out.ext HB1.out) HP.out).mono ?_; rintro e w2 ⟨rfl, hb⟩; have HB2 := hQq (Ext.trans HB1.out hb); clear hb))
  go_ret2
  refine ⟨?_, HB2.out⟩
  have e : prS l = (⟨#[47]⟩ : ByteArray) ++ ofL (Lib.join (l.map L) [47]) := by
   unfold prS; rw [if_pos HP.out]; apply L_inj; rw [L_append]; rfl
  rw [e, HP.out]; rfl
 ·have h1 : (pathE l != 0) = true := bne_iff_ne.2 h
  have HP : Hid (prS l = ⟨#[]⟩) := hQq (if_neg h)
  clear h
  go_enter Tryz.func115, Tryz.ntmps115
  go_wp2_with (go_at_call 138; refine (pathsCheck _ l _ HV.out).mono ?_; rintro e w1 ⟨rfl, hb⟩; have HB1 := hQq hb; clear hb)
  go_ret2
  exact ⟨by rw [HP.out]; rfl, HB1.out⟩
def MetOk (b : List BrN) (k : Nat) (F : ByteArray -> Option Value) : Prop := ∀ r, pathE r = 0 -> 0 < r.length -> F (textP r) = if seenR b r k = true then some (.bool true) else none
theorem met_zero (b : List BrN) : MetOk b 0 (fun _ => none) := fun _ _ _ => rfl
theorem met_skip {b : List BrN} {k : Nat} {F : ByteArray -> Option Value} (h : MetOk b k F) (hr : ¬ 0 < (getB b k).red.length) : MetOk b (k + 1) F := by
 intro r hp hl
 rw [h r hp hl, seenR.eq_2, decide_eq_false (fun e => hr (by rw [<- e]; exact hl)), Bool.or_false]
theorem met_step {b : List BrN} {k : Nat} {F : ByteArray -> Option Value} (h : MetOk b k F) (hk : pathE (getB b k).red = 0) : MetOk b (k + 1) (upd F (textP (getB b k).red) (.bool true)) := by
 intro r hp hl
 unfold upd
 rw [seenR.eq_2]
 by_cases e : r = (getB b k).red
 ·rw [<- e, if_pos rfl, decide_eq_true rfl, Bool.or_true, if_pos rfl]
 ·rw [if_neg (fun x => e (textP_inj hp hk x)), decide_eq_false e, Bool.or_false, h r hp hl]
theorem met_look {b : List BrN} {k : Nat} {F : ByteArray -> Option Value} (h : MetOk b k F) {r : List ByteArray} (hp : pathE r = 0) (hl : 0 < r.length) : (F (textP r)).getD (.bool false) = .bool (seenR b r k) := by
 rw [h r hp hl]
 cases seenR b r k <;> rfl
theorem stored2 {w w2 : World} {a c : Value} (h : Ext w w2) (c1 : w2.cell? ⟨w.heap.size + 1, 0, none⟩ = some a) (c2 : w2.cell? ⟨w.heap.size + 1 + 1, 0, none⟩ = some c) (x y : Value) :
  ((w2.setCell ⟨w.heap.size + 1, 0, none⟩ x).setCell ⟨w.heap.size + 1 + 1, 0, none⟩ y).cell? ⟨w.heap.size + 1, 0, none⟩ = some x /\ ((w2.setCell ⟨w.heap.size + 1, 0, none⟩ x).setCell ⟨w.heap.size + 1 + 1, 0, none⟩ y).cell? ⟨w.heap.size + 1 + 1, 0, none⟩ = some y /\ Ext w ((w2.setCell ⟨w.heap.size + 1, 0, none⟩ x).setCell ⟨w.heap.size + 1 + 1, 0, none⟩ y) := by
 refine ⟨?_, ?_, ?_⟩
 ·rw [World.cell?_setCell_far _ _ _ _ (by show w.heap.size + 1 + 1 ≠ w.heap.size + 1; omega)]; exact World.cell?_setCell_same' _ _ _ (by rw [c1]; rfl)
 ·refine World.cell?_setCell_same' _ _ _ ?_
  rw [World.cell?_setCell_far _ _ _ _ (by show w.heap.size + 1 ≠ w.heap.size + 1 + 1; omega), c2]; rfl
 ·exact Below.setCell (p := ⟨w.heap.size + 1 + 1, 0, none⟩) (Below.setCell (p := ⟨w.heap.size + 1, 0, none⟩) h (by simp) _) (by simp; omega) _
structure BrI (w0 w : World) (bm : Nat) (b : List BrN) (k : Nat) (W : World) : Prop where
 ok : ∀ j, j < k -> marksE b j = 0
 met : ∃ n F, MapAt kS W bm n F /\ MetOk b k F
 kc : KcA w W
 ext : Ext w0 W
theorem BrI.ab {w0 w : World} {bm : Nat} {b : List BrN} (hb : bm < w.heap.size) (h0 : w0.heap.size <= w.heap.size) {k : Nat} {W W' : World} (h : BrI w0 w bm b k W) (hx : Below w.heap.size W W') : BrI w0 w bm b k W' where
 ok := h.ok
 met := by
  obtain ⟨n, F, ⟨es, c, hh, r⟩, hm⟩ := h.met
  exact ⟨n, F, ⟨es, c, (hx.block _ hb).trans hh, r⟩, hm⟩
 kc := ⟨Nat.le_trans h.kc.size hx.size, fun j cs e f _ hj => (hx.block _ (bL hj)).trans (h.kc.keep j cs e f (.inr (Nat.zero_le _)) hj)⟩
 ext := Below.trans h.ext (hx.mono h0)
structure BrX (w0 : World) (b : List BrN) (W : World) : Prop where
 no : W.heap[w0.heap.size + 1]? = some (.cells #[.int .i64 (brNo b)] 3 (0, 0))
 er : W.heap[w0.heap.size + 2]? = some (.cells #[.int .i64 (brEr b)] 26 (0, 0))
 ext : Ext w0 W
theorem BrX.ab {w0 : World} {B : Nat} {b : List BrN} (h0 : w0.heap.size + 2 < B) {W W' : World} (h : BrX w0 b W) (hx : Below B W W') : BrX w0 b W' :=
 ⟨(hx.block _ (by omega)).trans h.no, (hx.block _ (by omega)).trans h.er, Below.trans h.ext (hx.mono (by omega))⟩
theorem ko_ext {W V : World} (h : Ext W V) : KeepsOthers W V := ⟨h.size, fun _ _ hk _ => bX h hk⟩
theorem kc_map {V U : World} {bm : Nat} {es : Array MapEntry} {c : Nat} (h : V.heap[bm]? = some (.map es c)) (hg : V.grownBy U (some bm)) : KcA V U :=
 ⟨hg.size, fun k cs e f _ hk => blk_grown hg hk (fun x => by cases x; rw [h] at hk; cases hk)⟩
theorem brX_of {w V : World} {b : List BrN} {a c x y : Int} (hV : Ext w V) (d1 : V.heap[w.heap.size + 1]? = some (.cells #[.int .i64 a] 3 (0, 0))) (d2 : V.heap[w.heap.size + 2]? = some (.cells #[.int .i64 c] 26 (0, 0))) (hr : brNo b = x /\ brEr b = y) :
  BrX w b ((V.setCell ⟨w.heap.size + 1, 0, none⟩ (.int .i64 x)).setCell ⟨w.heap.size + 1 + 1, 0, none⟩ (.int .i64 y)) /\ KeepsOthers V ((V.setCell ⟨w.heap.size + 1, 0, none⟩ (.int .i64 x)).setCell ⟨w.heap.size + 1 + 1, 0, none⟩ (.int .i64 y)) := by
 obtain ⟨_, _, g3⟩ := stored2 hV (bC d1 0) (bC d2 0) (.int .i64 x) (.int .i64 y)
 have h1 := one_setCell (u := .int .i64 x) d1
 have h2 : (V.setCell ⟨w.heap.size + 1, 0, none⟩ (.int .i64 x)).heap[w.heap.size + 1 + 1]? = some (.cells #[.int .i64 c] 26 (0, 0)) := by
  rw [<- d2]; simp [World.setCell, Array.getElem?_modify]
 refine ⟨⟨?_, ?_, g3⟩, (KeepsOthers.setCell _ _ _).trans (KeepsOthers.setCell _ _ _)⟩
 ·rw [hr.1, <- h1]; simp [World.setCell, Array.getElem?_modify]
 ·rw [hr.2]; exact one_setCell (u := .int .i64 y) h2
theorem BrX.alloc {w V : World} {b : List BrN} (h : BrX w b V) (o : Obj) : BrX w b (V.alloc o) := ⟨bA h.no, bA h.er, Below.trans h.ext (Below.alloc (bR _ _) h.ext.size _)⟩
theorem BrI.skip {w0 w W U : World} {bm : Nat} {b : List BrN} {k : Nat} (h : BrI w0 w bm b k W) (hm : marksE b k = 0) (hr : ¬ 0 < (getB b k).red.length) (hE : Ext W U) : BrI w0 w bm b (k + 1) U where
 ok := fun j hj => by
  by_cases e : j = k
  ·subst e; exact hm
  ·exact h.ok j (by omega)
 met := by obtain ⟨n, F, h1, h2⟩ := h.met; exact ⟨n, F, h1.ext hE, met_skip h2 hr⟩
 kc := h.kc.trans (Kc.of_ext hE)
 ext := h.ext.trans hE
theorem BrI.led {w0 w W V U : World} {bm n n' : Nat} {F : ByteArray -> Option Value} {b : List BrN} {k : Nat} (h : BrI w0 w bm b k W) (hm : marksE b k = 0) (hp : pathE (getB b k).red = 0) (h0 : w0.heap.size <= bm) (hE : Ext W V) (hv : MapAt kS V bm n F) (hF : MetOk b k F) (hg : V.grownBy U (some bm)) (hU : MapAt kS U bm n' (upd F (textP (getB b k).red) (.bool true))) : BrI w0 w bm b (k + 1) U where
 ok := fun j hj => by
  by_cases e : j = k
  ·subst e; exact hm
  ·exact h.ok j (by omega)
 met := ⟨_, _, hU, met_step hF hp⟩
 kc := by obtain ⟨es, c, hb, _⟩ := hv; exact (h.kc.trans (Kc.of_ext hE)).trans (kc_map hb hg)
 ext := Below.grown (h.ext.trans hE) hg (Nat.le_trans h.ext.size hE.size) (fun k e => by cases e; exact h0)
open Go.RowKit Go.Shelf
attribute [local go_sem] Oper.semAt_some
theorem keyString : KeyT Tryz.prog 9 kS := keyT_str (by kernel_rfl)
theorem mapT_met : Tryz.prog.underlying 134 = some (.map 9 4) := Tryz.underlying134
theorem zeroBool (w : World) : (zeroValue 4).run Tryz.prog w = .ok (.bool false) w := by kernel_rfl
def brW0 (w : World) (v : Value) : World := ((w.alloc (.cells #[v] 22 (0, 0))).alloc (.cells #[.int .i64 0] 3 (0, 0))).alloc (.cells #[.int .i64 0] 26 (0, 0))
theorem brW0_ext (w : World) (v : Value) : Ext w (brW0 w v) := ((eA _ _).trans (eA _ _)).trans (eA _ _)
theorem brW0_blk (w : World) (v : Value) : (brW0 w v).heap[w.heap.size]? = some (.cells #[v] 22 (0, 0)) /\ (brW0 w v).heap[w.heap.size + 1]? = some (.cells #[.int .i64 0] 3 (0, 0)) /\ (brW0 w v).heap[w.heap.size + 2]? = some (.cells #[.int .i64 0] 26 (0, 0)) /\ (brW0 w v).heap.size = w.heap.size + 3 := by
 unfold brW0
 exact ⟨bA (bA (bN w _)), bA (blk_at (by simp)), blk_at (by simp), by simp⟩
def nthV (M : List Value) (k : Nat) : Value := M.getD k undef
def brAx (w : World) (bm : Nat) (b : List BrN) (x : PlI) (a : Act) (W : World) : Prop := ∃ (Bx : Nat) (M : List Value), W.heap[Bx]? = some (.cells #[.int .i64 (abv (plT b) x.i), .slice x.a x.n x.cap] 139 (0, 0)) /\ a = { tmps := #[nthV M 0, .pointer (some ⟨w.heap.size, 0, none⟩), .pointer (some ⟨w.heap.size + 1, 0, none⟩), .pointer (some ⟨w.heap.size + 1 + 1, 0, none⟩), nthV M 4, nthV M 5, .pointer (some ⟨bm + 1, 0, none⟩), .int .i64 x.i, .pointer (some ⟨Bx, 0, none⟩), nthV M 9, nthV M 10, nthV M 11, nthV M 12, nthV M 13, nthV M 14, nthV M 15, nthV M 16, nthV M 17, nthV M 18, nthV M 19, nthV M 20, nthV M 21, nthV M 22, nthV M 23, nthV M 24, nthV M 25, nthV M 26, nthV M 27, nthV M 28, nthV M 29, nthV M 30, nthV M 31, nthV M 32, nthV M 33, nthV M 34, nthV M 35, nthV M 36, nthV M 37, nthV M 38, nthV M 39, nthV M 40, nthV M 41, nthV M 42, nthV M 43, nthV M 44, nthV M 45, nthV M 46, nthV M 47, nthV M 48, nthV M 49, nthV M 50, nthV M 51, nthV M 52, nthV M 53, nthV M 54, nthV M 55, nthV M 56, nthV M 57, nthV M 58, nthV M 59, nthV M 60, nthV M 61, nthV M 62, nthV M 63, nthV M 64, nthV M 65, nthV M 66, nthV M 67, nthV M 68, nthV M 69, nthV M 70, nthV M 71, nthV M 72, nthV M 73, nthV M 74, nthV M 75, nthV M 76, nthV M 77, nthV M 78, nthV M 79, nthV M 80, nthV M 81, nthV M 82, nthV M 83, nthV M 84, nthV M 85, nthV M 86, nthV M 87, nthV M 88, nthV M 89, nthV M 90, nthV M 91, nthV M 92, nthV M 93, nthV M 94, nthV M 95, nthV M 96], defers := [] }
theorem brAx_put (w : World) (bm : Nat) (b : List BrN) (x : PlI) (a : Act) (W : World) (l : Nat) (o o' : Obj) (h : W.heap[l]? = some o) (hc : o.isCells = false) (hx : brAx w bm b x a W) : brAx w bm b x a (W.putObj l o') := by
 obtain ⟨Bx, M, h1, h2⟩ := hx
 refine ⟨Bx, M, (World.putObj_heap_other ?_).trans h1, h2⟩
 rintro rfl; rw [h] at h1; cases h1; cases hc
end Go.Proofs.YtimpejaaeinplaaGreatDoor
namespace Go.Proofs.YtimpejaaeinplaaGreatDoor
open Go.RowKit Go.Shelf
attribute [local go_sem] Oper.semAt_some
set_option maxRecDepth 100000 in
set_option maxHeartbeats 8000000 in
theorem brCheck0 (B : Nat) (w : World) (v : Value) (b : List BrN) (hb : BrIn B w v b) (hsm : SmallB b) (ht : treeE (plT b) ≠ 0) :
  RetB Tryz.prog 49 #[v] w (.tuple #[.int .i64 (brNo b), .int .i64 (brEr b)]) := by
 unfold RetB
 obtain ⟨aa, cap, rfl⟩ := hb.form
 have HV := hQq (hb.ext okB (brW0_ext w (.slice aa b.length cap))); clear hb
 have HSM := hQq hsm
 have hlen := hsm.len
 clear hsm
 have HW := hQq (brW0_ext w (.slice aa b.length cap))
 have HK := hQq (brW0_blk w (.slice aa b.length cap))
 unfold brW0 at HV HW HK
 have HR := hQq (br_of (brT_tree ht))
 have q1 : (treeE (plT b) != 0) = true := bne_iff_ne.2 ht
 clear ht
 go_enter Tryz.func49, Tryz.ntmps49
 go_wp2_with (first
  | (go_at_call 50; refine (brTree B _ _ b HV.out hlen HSM.out.ats).mono ?_; rintro e w1 ⟨⟨a5, cap5, rfl, ho⟩, hb1⟩; have HO1 := hQq ho; have HB1 := hQq hb1; clear ho hb1)
  | (go_at_call 66; refine (treeCheck _ _ (plT b) _ (HO1.out.in okT) HSM.out.tree).mono ?_; rintro e w2 ⟨rfl, hb2⟩; have HB2 := hQq (Ext.trans HB1.out hb2); have e1 := hQq (bX HB2.out HK.out.2.1); have e2 := hQq (bX HB2.out HK.out.2.2.1); have c1 : w2.cell? ⟨w.heap.size + 1, 0, none⟩ = some (.int .i64 0) := bC e1.out 0; have c2 : w2.cell? ⟨w.heap.size + 1 + 1, 0, none⟩ = some (.int .i64 0) := bC e2.out 0; have f1 : w2.frozen? ⟨w.heap.size + 1, 0, none⟩ = false := (by simp [World.frozen?, e1.out]); have f2 : w2.frozen? ⟨w.heap.size + 1 + 1, 0, none⟩ = false := (by simp [World.frozen?, e2.out]); clear hb2))
 obtain ⟨d1, d2, d3⟩ := stored2 (HW.out.trans HB2.out) c1 c2 (.int .i64 (treeN (plT b))) (.int .i64 (treeE (plT b)))
 refine bodyPost_ret (v := .tuple #[.int .i64 (treeN (plT b)), .int .i64 (treeE (plT b))]) (by simp [results, Tryz.f49, go_sem, d1, d2]) rfl ?_
 exact ⟨by rw [HR.out.1, HR.out.2], d3⟩
set_option maxRecDepth 100000 in
set_option maxHeartbeats 16000000 in
theorem brCheck1 (B : Nat) (w : World) (v : Value) (b : List BrN) (hb : BrIn B w v b) (hsm : SmallB b) (ht : treeE (plT b) = 0) :
  RetB Tryz.prog 49 #[v] w (.tuple #[.int .i64 (brNo b), .int .i64 (brEr b)]) := by
 unfold RetB
 obtain ⟨aa, cap, rfl⟩ := hb.form
 have HVw := hQq hb
 have HV := hQq (hb.ext okB (brW0_ext w (.slice aa b.length cap))); clear hb
 have HSM := hQq hsm
 have hlen := hsm.len
 clear hsm
 have HW := hQq (brW0_ext w (.slice aa b.length cap))
 have HK := hQq (brW0_blk w (.slice aa b.length cap))
 unfold brW0 at HV HW HK
 have HT := hQq ht
 have HZ := hQq (treeE_zero ht)
 have q1 : (treeE (plT b) != 0) = false := bne_eq_false_iff_eq.2 ht
 clear ht
 have hmm := @run_makeMap Tryz.prog
 refine (callsIn_wide (n := 8)).1 ?_
 refine callsIn_of_wp_marks Tryz.func49 rfl trivial ?_ rfl
 refine wpIn_wide.2 ?_
 simp only [Tryz.ntmps49, List.size_toArray, List.length_cons, List.length_nil, Nat.reduceAdd, Nat.reduceSub, Array.replicate_succ, Array.replicate_zero, List.push_toArray, List.append_toArray, List.nil_append, List.cons_append]
 go_wp2_with (first
  | (go_at_call 50; refine (brTree B _ _ b HV.out hlen HSM.out.ats).mono ?_; rintro e w1 ⟨⟨a5, cap5, rfl, ho⟩, hb1⟩; have HO1 := hQq ho; have HB1 := hQq hb1; clear ho hb1)
  | (go_at_call 66; refine (treeCheck _ _ (plT b) _ (HO1.out.in okT) HSM.out.tree).mono ?_; rintro e w2 ⟨rfl, hb2⟩; have HB2 := hQq (Ext.trans HB1.out hb2); have e0 := hQq (bX HB2.out HK.out.1); have e1 := hQq (bX HB2.out HK.out.2.1); have e2 := hQq (bX HB2.out HK.out.2.2.1); have HS2 := hQq (Nat.le_trans (Nat.le_of_eq HK.out.2.2.2.symm) HB2.out.size); have c0 : w2.cell? ⟨w.heap.size, 0, none⟩ = some (.slice aa b.length cap) := bC e0.out 0; have hbl : w.heap.size < w2.heap.size := bL e0.out; clear hb2)
  | (go_at_call 114; refine (brWalk _ _ _ _).mono ?_; rintro e w3 ⟨rfl, rfl⟩))
 refine nW (P := fun W => Code.wp _ _ _ _ W) _ ?_
 intro W0 hW0
 have HS0 : Hid (W0.heap.size = w2.heap.size + 3) := hQq (by rw [hW0]; simp)
 have HE0 : Hid (Ext w W0) := hQq (by rw [hW0]; exact HW.out.trans (HB2.out.trans (((eA _ _).trans (eA _ _)).trans (eA _ _))))
 have HE2 : Hid (Ext w2 W0) := hQq (by rw [hW0]; exact ((eA _ _).trans (eA _ _)).trans (eA _ _))
 have HM0 : Hid (MapAt kS W0 w2.heap.size 0 (fun _ => none)) := hQq (by rw [hW0]; exact ((mapAt_made w2 kS).ext (eA _ _)).ext (eA _ _))
 have HM1 : Hid (W0.heap[w2.heap.size + 1]? = some (.cells #[.map (some w2.heap.size)] 134 (0, 0))) := hQq (by rw [hW0]; exact bA (blk_at (by simp)))
 have HM2 : Hid (W0.cell? ⟨w2.heap.size + 1 + 1, 0, none⟩ = some (.slice aa b.length cap)) := hQq (by rw [hW0]; exact bC (blk_at (by simp)) 0)
 clear hW0 c0 hmm
 have hsz := HS0.out
 have HWS : Hid (w.heap.size + 3 <= w2.heap.size) := HS2
 refine (wpIn_wide (n := 8)).1 ?_
 refine wpIn_rangeH (w := W0) (w0 := W0) rfl (by omega) (gf := 163) (lb := #[.pointer (some ⟨w2.heap.size + 1 + 1, 0, none⟩)]) rfl trivial (enters_of Tryz.func163 (by kernel_rfl) rfl)
  (walk_seq 7 (by omega) B w W0 _ b (w2.heap.size + 1 + 1) HVw.out (Kc.of_ext HE0.out) HM2.out (by omega) hlen HZ.out.2.2.1) Kc.trans (fun W l o o' hl ho hc => Kc.put ho hc) (bR _ _) (fun _ => rfl) okPl_put
  (fun pre W => BrI w W0 w2.heap.size b pre.length W) (fun c _ W => c = .ret /\ BrX w b W)
  (fun s W W' h hx => h.ab (by omega) HE0.out.size hx) (fun c s W W' h hx => ⟨h.1, h.2.ab (by have := HWS.out; omega) hx⟩)
  ⟨fun j hj => absurd hj (by simp), ⟨_, _, HM0.out, met_zero b⟩, Kc.refl _ _ _, HE0.out⟩
  (brAx w w2.heap.size b) (brAx_put w w2.heap.size b) ?assign ?body ?done ?stop
 case assign =>
  intro l pre x W K hi hok hK
  unfold encPl
  gi_wp2
  exact hK _ _ (eA _ _) (Kc.of_ext (eA _ _)) ⟨W.heap.size, [_, undef, undef, undef, _, _, undef, undef, undef, _, _, _, _, _, _, _, _, _, _, _, _, _, _, _, _, _, _, _, _, _, _, _, _, _, _, _, _, _, _, _, _, _, _, _, _, _, _, _, _, _, _, _, _, _, _, _, _, _, _, _, _, _, _, _, _, _, _, _, _, _, _, _, _, _, _, _, _, _, _, _, _, _, _, _, _, _, _, _, _, _, _, _, _, _, _, _, _], bN W _, rfl⟩ ⟨hok.1, hok.2.ext okS (eA _ _)⟩
 case body =>
  rintro l pre x a2 W hI hlt hok ⟨Bx, M, hBx, rfl⟩
  obtain ⟨xi, xa, xn, xc⟩ := x
  obtain ⟨hxi, hxs⟩ := hok
  dsimp only at hxi hxs hBx ⊢
  subst hxi
  have HPI : Hid (∀ y : PlI, (pre ++ [y]).length = pre.length + 1) := hQq (fun y => by simp)
  generalize pre.length = k at hI hlt hBx hxs HPI ⊢
  have HI := hQq hI; have HXS := hQq hxs; have HBX := hQq hBx
  have d0 := hQq (hI.kc.keep _ _ _ _ (.inr (Nat.zero_le _)) (bX HE2.out e0.out))
  have d1 := hQq (hI.kc.keep _ _ _ _ (.inr (Nat.zero_le _)) (bX HE2.out e1.out))
  have d2 := hQq (hI.kc.keep _ _ _ _ (.inr (Nat.zero_le _)) (bX HE2.out e2.out))
  have d3 := hQq (hI.kc.keep _ _ _ _ (.inr (Nat.zero_le _)) HM1.out)
  have HVI := hQq (brIn_kc HVw.out ((Kc.of_ext HE0.out).trans hI.kc))
  have p0 : W.cell? ⟨w.heap.size, 0, none⟩ = some (.slice aa b.length cap) := bC d0.out 0
  have p1 : W.cell? ⟨w.heap.size + 1, 0, none⟩ = some (.int .i64 0) := bC d1.out 0
  have p2 : W.cell? ⟨w.heap.size + 1 + 1, 0, none⟩ = some (.int .i64 0) := bC d2.out 0
  have p3 : W.cell? ⟨w2.heap.size + 1, 0, none⟩ = some (.map (some w2.heap.size)) := bC d3.out 0
  have p4 : W.cell? ⟨Bx, 0, none⟩ = some (.int .i64 (abv (plT b) k)) := bC hBx 0
  have p5 : W.cell? ⟨Bx, 1, none⟩ = some (.slice xa xn xc) := bC hBx 1
  have f1 : W.frozen? ⟨w.heap.size + 1, 0, none⟩ = false := by simp [World.frozen?, d1.out]
  have f2 : W.frozen? ⟨w.heap.size + 1 + 1, 0, none⟩ = false := by simp [World.frozen?, d2.out]
  have z0 := bL d0.out; have z1 := bL d1.out; have z2 := bL d2.out; have z3 := bL d3.out; have z4 := bL hBx
  obtain ⟨bb, off, va, vr, hex, hbb, hva, hvr, xx⟩ := HVI.out.br k hlt
  cases hex
  obtain ⟨c0, c1, c2, c3, c4, c5, c6, c7, c8, c9⟩ := xx
  obtain ⟨a4, cap4, rfl⟩ := hvr.form
  obtain ⟨a3, cap3, rfl⟩ := hva.form
  have HG := hQq (getB_at b k hlt)
  have HVR := hQq hvr
  have HRL := hQq (HSM.out.red _ (List.getElem_mem hlt))
  generalize b[k]'hlt = x at c0 c1 c2 c3 c4 c5 c6 c7 c8 c9 HG HVR HRL
  have j1 : ((k : Nat) : Int) < (b.length : Int) := by omega
  have j0 : (0 : Int) <= (k : Int) := by omega
  clear hva hvr hI hBx hxs
  by_cases hled : 0 < x.red.length
  case neg =>
   have hled' := lenZ hled
   have HLE := hQq hled
   by_cases hw : x.opq = true /\ x.kd ≠ 1
   ·have HR := hQq (br_of (brT_mark HT.out hlt HI.out.ok (by rw [marks_kind HG.out (.inl ⟨.inl hw.1, hw.2⟩)]; decide)))
    have HM := hQq (marks_kind HG.out (.inl ⟨.inl hw.1, hw.2⟩))
    have q1 : (x.kd != 1) = true := bne_iff_ne.2 hw.2
    rw [hw.1] at c8
    clear hw hled
    gi_wp2
    have HX := brX_of HI.out.ext d1.out d2.out (by rw [HM.out] at HR; exact HR.out)
    exact ⟨((HX.2).trans (KeepsOthers.alloc _ _)).from _, rfl, HX.1.alloc _⟩
   have HW' := hQq hw
   have q1 : x.opq = true -> (x.kd != 1) = false := fun h => bne_eq_false_iff_eq.2 (Decidable.not_not.1 (fun e => hw ⟨h, e⟩))
   have HMU := hQq (marks_under HG.out hw hled)
   have HGL : Hid (¬ 0 < (getB b k).red.length) := hQq (by rw [HG.out]; exact hled)
   by_cases hk5 : x.kd = 5
   case neg =>
    have q5 : (x.kd == 5) = false := nB hk5
    have HM : Hid (marksE b k = 0) := hQq (by rw [HMU.out, if_neg]; unfold underB; rw [HG.out, q5]; simp)
    clear hk5 hw hled
    cases ho : x.opq
    ·rw [ho] at c8
     clear q1
     by_cases hz : k = 0
     ·have q0 : ((k : Int) == 0) = true := beq_iff_eq.2 (by omega)
      clear hz
      gi_wp2
      exact ⟨(KeepsOthers.alloc _ _).from _, Kc.of_ext (eA _ _), by show BrI w W0 _ b (pre ++ [_]).length _; rw [HPI.out]; exact HI.out.skip HM.out HGL.out (eA _ _)⟩
     ·have q0 : ((k : Int) == 0) = false := nB (by omega)
      clear hz
      gi_wp2
      exact ⟨(KeepsOthers.alloc _ _).from _, Kc.of_ext (eA _ _), by show BrI w W0 _ b (pre ++ [_]).length _; rw [HPI.out]; exact HI.out.skip HM.out HGL.out (eA _ _)⟩
    ·rw [ho] at c8
     have q2 := q1 ho
     clear q1
     by_cases hz : k = 0
     ·have q0 : ((k : Int) == 0) = true := beq_iff_eq.2 (by omega)
      clear hz
      gi_wp2
      exact ⟨(KeepsOthers.alloc _ _).from _, Kc.of_ext (eA _ _), by show BrI w W0 _ b (pre ++ [_]).length _; rw [HPI.out]; exact HI.out.skip HM.out HGL.out (eA _ _)⟩
     ·have q0 : ((k : Int) == 0) = false := nB (by omega)
      clear hz
      gi_wp2
      exact ⟨(KeepsOthers.alloc _ _).from _, Kc.of_ext (eA _ _), by show BrI w W0 _ b (pre ++ [_]).length _; rw [HPI.out]; exact HI.out.skip HM.out HGL.out (eA _ _)⟩
   have q5 : (x.kd == 5) = true := beq_iff_eq.2 hk5
   have ho : x.opq = false := by
    cases ho : x.opq with
    | false => rfl
    | true => exact absurd ⟨ho, by rw [hk5]; decide⟩ hw
   have hkn : k ≠ 0 := by
    rintro rfl
    obtain ⟨s0, _⟩ := node_parts (HZ.out.2.2.1 0 (by rw [plT_len]; exact hlt))
    have h1 := ((shape_bd s0).2.2.1 rfl).2
    rw [getT_plT b 0 hlt, HG.out] at h1
    have h1 : x.kd = 1 := h1
    rw [hk5] at h1; cases h1
   have hav := abv_bd (plT b) k
   have hag := abv_ge HZ.out.2.2.1 (i := k) (by rw [plT_len]; exact hlt) hkn
   have q0 : ((k : Int) == 0) = false := nB (by omega)
   rw [ho] at c8
   obtain ⟨m, hm⟩ : ∃ m : Nat, abv (plT b) k = m := ⟨(abv (plT b) k).toNat, by omega⟩
   have HUN := hQq (show underB b k = (getB b m).opq from by unfold underB; rw [HG.out, q5, hm, Int.toNat_natCast, decide_eq_true (by omega)]; rfl)
   rw [hm] at p4
   have hmb : m < b.length := by omega
   obtain ⟨bm', off', vam, vrm, hexm, hbbm, _, _, _, _, _, _, _, _, _, _, m8, _⟩ := HVI.out.br m hmb
   cases hexm
   rw [<- getB_at b m hmb] at m8
   have j2 : ((m : Nat) : Int) < (b.length : Int) := by omega
   have j3 : (0 : Int) <= (m : Int) := by omega
   clear hk5 hkn hav hag hm hw hled q1 ho
   cases hjo : (getB b m).opq
   ·rw [hjo] at m8
    have HM : Hid (marksE b k = 0) := hQq (by rw [HMU.out, HUN.out, hjo]; rfl)
    clear hjo
    gi_wp2
    exact ⟨(KeepsOthers.alloc _ _).from _, Kc.of_ext (eA _ _), by show BrI w W0 _ b (pre ++ [_]).length _; rw [HPI.out]; exact HI.out.skip HM.out HGL.out (eA _ _)⟩
   ·rw [hjo] at m8
    have HM : Hid (marksE b k = 6) := hQq (by rw [HMU.out, HUN.out, hjo]; rfl)
    have HR := hQq (br_of (brT_mark HT.out hlt HI.out.ok (by rw [HM.out]; decide)))
    clear hjo
    gi_wp2
    have HX := brX_of HI.out.ext d1.out d2.out (by rw [HM.out] at HR; exact HR.out)
    exact ⟨((HX.2).trans (KeepsOthers.alloc _ _)).from _, rfl, HX.1.alloc _⟩
  have hled' := lenP hled
  by_cases hk1 : x.kd = 1
  case neg =>
   have HM := hQq (marks_kind HG.out (.inl ⟨.inr hled, hk1⟩))
   have HR := hQq (br_of (brT_mark HT.out hlt HI.out.ok (by rw [HM.out]; decide)))
   have q1 : (x.kd != 1) = true := bne_iff_ne.2 hk1
   clear hk1
   cases ho : x.opq
   all_goals
    rw [ho] at c8
    clear ho
    gi_wp2
    have HX := brX_of HI.out.ext d1.out d2.out (by rw [HM.out] at HR; exact HR.out)
    exact ⟨((HX.2).trans (KeepsOthers.alloc _ _)).from _, rfl, HX.1.alloc _⟩
  have q1 : (x.kd != 1) = false := bne_eq_false_iff_eq.2 hk1
  have q5 : (x.kd == 5) = false := by rw [hk1]; rfl
  by_cases hz : k = 0
  ·have HM := hQq (marks_kind HG.out (.inr ⟨hz, hled⟩))
   have HR := hQq (br_of (brT_mark HT.out hlt HI.out.ok (by rw [HM.out]; decide)))
   have q0 : ((k : Int) == 0) = true := beq_iff_eq.2 (by omega)
   clear hk1 hz
   cases ho : x.opq
   all_goals
    rw [ho] at c8
    clear ho
    gi_wp2
    have HX := brX_of HI.out.ext d1.out d2.out (by rw [HM.out] at HR; exact HR.out)
    exact ⟨((HX.2).trans (KeepsOthers.alloc _ _)).from _, rfl, HX.1.alloc _⟩
  have q0 : ((k : Int) == 0) = false := nB (by omega)
  cases ho : x.opq
  case true =>
   have HM := hQq (marks_both HG.out hk1 hz ho hled)
   have HR := hQq (br_of (brT_mark HT.out hlt HI.out.ok (by rw [HM.out]; decide)))
   rw [ho] at c8
   clear hk1 hz ho
   gi_wp2
   have HX := brX_of HI.out.ext d1.out d2.out (by rw [HM.out] at HR; exact HR.out)
   exact ⟨((HX.2).trans (KeepsOthers.alloc _ _)).from _, rfl, HX.1.alloc _⟩
  have HC := hQq (And.intro hk1 (And.intro hz (And.intro ho hled)))
  rw [ho] at c8
  clear hk1 hz ho
  have hln : 1 <= 8 - 1 - 1 := by omega
  by_cases hpe : pathE x.red = 0
  case neg =>
   have HM := hQq (marks_path HG.out HC.out.1 HC.out.2.1 HC.out.2.2.1 HC.out.2.2.2 hpe)
   have HR := hQq (br_of (brT_mark HT.out hlt HI.out.ok (by rw [HM.out]; exact hpe)))
   have q2 : (pathE x.red != 0) = true := bne_iff_ne.2 hpe
   clear hpe
   gi_wp2_with (refine ⟨trivial, ?_⟩; gi_at_call 115; refine (CallsIn.inRound l (callsIn_wide.2 (pathsPrint _ _ x.red (strs_ext HVR.out (eA _ _))))).mono ?_; rintro e V ⟨rfl, hb1⟩; have HE := hQq ((eA W _).trans hb1); have v1 : V.cell? ⟨w.heap.size + 1, 0, none⟩ = some (.int .i64 0) := bC (bX HE.out d1.out) 0; have v2 : V.cell? ⟨w.heap.size + 1 + 1, 0, none⟩ = some (.int .i64 0) := bC (bX HE.out d2.out) 0; have g1 : V.frozen? ⟨w.heap.size + 1, 0, none⟩ = false := (by simp [World.frozen?, bX HE.out d1.out]); have g2 : V.frozen? ⟨w.heap.size + 1 + 1, 0, none⟩ = false := (by simp [World.frozen?, bX HE.out d2.out]); clear hb1)
   have HX := brX_of (HI.out.ext.trans HE.out) (bX HE.out d1.out) (bX HE.out d2.out) (by rw [HM.out] at HR; exact HR.out)
   exact ⟨((ko_ext HE.out).trans HX.2).from _, rfl, HX.1⟩
  have q2 : (pathE x.red != 0) = false := bne_eq_false_iff_eq.2 hpe
  have HPE := hQq hpe
  have HPS : Hid (prS x.red = textP x.red) := hQq (if_pos hpe)
  have HXS := hQq HXS.out.strs
  clear hpe
  by_cases heq : x.red = pathT (plT b) k
  ·have HM := hQq (marks_self HG.out HC.out.1 HC.out.2.1 HC.out.2.2.1 HC.out.2.2.2 HPE.out heq)
   have HR := hQq (br_of (brT_mark HT.out hlt HI.out.ok (by rw [HM.out]; decide)))
   have HQ := hQq (decide_eq_true heq)
   clear heq
   gi_wp2_with (first
    | (refine ⟨trivial, ?_⟩; gi_at_call 115; refine (CallsIn.inRound l (callsIn_wide.2 (pathsPrint _ _ x.red (strs_ext HVR.out (eA _ _))))).mono ?_; rintro e V ⟨rfl, hb1⟩; have HE := hQq ((eA W _).trans hb1); have HXB : Hid (V.heap[W.heap.size]? = some (.cells #[.int .i64 x.dep, .string x.nm, .int .i64 x.kd, .slice a3 x.ats.length cap3, .string x.dat, .int .i64 x.ma, .int .i64 x.mi, .int .i64 x.cl, .bool false, .slice a4 x.red.length cap4] 41 (0, 0))) := hQq (bX hb1 (bN W _)); rw [HPS.out]; have y9 : V.cell? ⟨W.heap.size, 9, none⟩ = some (.slice a4 x.red.length cap4) := bC HXB.out 9; have y1 : V.cell? ⟨Bx, 1, none⟩ = some (.slice xa xn xc) := bC (bX HE.out HBX.out) 1; clear hb1)
    | (refine ⟨trivial, ?_⟩; gi_at_call 116; refine (CallsIn.inRound l (callsIn_wide.2 (slEqualS _ _ x.red (pathT (plT b) k) V (strs_ext HVR.out HE.out) (HXS.out.ext HE.out) (by have := HRL.out.1; omega)))).mono ?_; rintro e U ⟨rfl, hb2⟩; have HE3 := hQq (HE.out.trans hb2); rw [HQ.out]; have v1 : U.cell? ⟨w.heap.size + 1, 0, none⟩ = some (.int .i64 0) := bC (bX HE3.out d1.out) 0; have v2 : U.cell? ⟨w.heap.size + 1 + 1, 0, none⟩ = some (.int .i64 0) := bC (bX HE3.out d2.out) 0; have g1 : U.frozen? ⟨w.heap.size + 1, 0, none⟩ = false := (by simp [World.frozen?, bX HE3.out d1.out]); have g2 : U.frozen? ⟨w.heap.size + 1 + 1, 0, none⟩ = false := (by simp [World.frozen?, bX HE3.out d2.out]); clear hb2))
   have HX := brX_of (HI.out.ext.trans HE3.out) (bX HE3.out d1.out) (bX HE3.out d2.out) (by rw [HM.out] at HR; exact HR.out)
   exact ⟨((ko_ext HE3.out).trans HX.2).from _, rfl, HX.1⟩
  have HNE := hQq heq
  have HQ := hQq (decide_eq_false heq)
  clear heq
  obtain ⟨nm, Fm, hma, hmo⟩ := HI.out.met
  have HMO := hQq hmo
  have HBM : Hid (w2.heap.size < W.heap.size) := hQq (by have := HI.out.kc.size; omega)
  have HLK0 := met_look hmo HPE.out HC.out.2.2.2
  cases hsn : seenR b x.red k
  case true =>
   have HM := hQq (marks_seen HG.out HC.out.1 HC.out.2.1 HC.out.2.2.1 HC.out.2.2.2 HPE.out HNE.out hsn)
   have HR := hQq (br_of (brT_mark HT.out hlt HI.out.ok (by rw [HM.out]; decide)))
   have HLK : Hid ((Fm (textP x.red)).getD (.bool false) = .bool true) := hQq (by rw [HLK0, hsn])
   have HMA := hQq hma
   clear hsn HLK0 hmo hma
   gi_wp2_with (first
    | (refine ⟨trivial, ?_⟩; gi_at_call 115; refine (CallsIn.inRound l (callsIn_wide.2 (pathsPrint _ _ x.red (strs_ext HVR.out (eA _ _))))).mono ?_; rintro e V ⟨rfl, hb1⟩; have HE := hQq ((eA W _).trans hb1); have HXB : Hid (V.heap[W.heap.size]? = some (.cells #[.int .i64 x.dep, .string x.nm, .int .i64 x.kd, .slice a3 x.ats.length cap3, .string x.dat, .int .i64 x.ma, .int .i64 x.mi, .int .i64 x.cl, .bool false, .slice a4 x.red.length cap4] 41 (0, 0))) := hQq (bX hb1 (bN W _)); rw [HPS.out]; have y9 : V.cell? ⟨W.heap.size, 9, none⟩ = some (.slice a4 x.red.length cap4) := bC HXB.out 9; have y1 : V.cell? ⟨Bx, 1, none⟩ = some (.slice xa xn xc) := bC (bX HE.out HBX.out) 1; clear hb1)
    | (refine ⟨trivial, ?_⟩; gi_at_call 116; refine (CallsIn.inRound l (callsIn_wide.2 (slEqualS _ _ x.red (pathT (plT b) k) V (strs_ext HVR.out HE.out) (HXS.out.ext HE.out) (by have := HRL.out.1; omega)))).mono ?_; rintro e U ⟨rfl, hb2⟩; have HE3 := hQq (HE.out.trans hb2); rw [HQ.out]; have v1 : U.cell? ⟨w.heap.size + 1, 0, none⟩ = some (.int .i64 0) := bC (bX HE3.out d1.out) 0; have v2 : U.cell? ⟨w.heap.size + 1 + 1, 0, none⟩ = some (.int .i64 0) := bC (bX HE3.out d2.out) 0; have g1 : U.frozen? ⟨w.heap.size + 1, 0, none⟩ = false := (by simp [World.frozen?, bX HE3.out d1.out]); have g2 : U.frozen? ⟨w.heap.size + 1 + 1, 0, none⟩ = false := (by simp [World.frozen?, bX HE3.out d2.out]); have v3 : U.cell? ⟨w2.heap.size + 1, 0, none⟩ = some (.map (some w2.heap.size)) := bC (bX HE3.out d3.out) 0; have HX2 : Hid (U.heap[W.heap.size]? = some (.cells #[.int .i64 x.dep, .string x.nm, .int .i64 x.kd, .slice a3 x.ats.length cap3, .string x.dat, .int .i64 x.ma, .int .i64 x.mi, .int .i64 x.cl, .bool false, .slice a4 x.red.length cap4] 41 (0, 0))) := hQq (bX hb2 HXB.out); have HMU := hQq (HMA.out.ext HE3.out); clear hb2)
    | (gi_at_lookup; refine wlIn_look rfl (.tmp 79) (.tmp 80) 134 false rfl 9 4 keyString mapT_met (.bool false) zeroBool rfl HMU.out (textP x.red) rfl ?_; rw [if_neg Bool.false_ne_true, HLK.out]))
   have HX := brX_of (HI.out.ext.trans HE3.out) (bX HE3.out d1.out) (bX HE3.out d2.out) (by rw [HM.out] at HR; exact HR.out)
   exact ⟨((ko_ext HE3.out).trans HX.2).from _, rfl, HX.1⟩
  have HM := hQq (marks_led HG.out HC.out.1 HC.out.2.1 HC.out.2.2.1 HC.out.2.2.2 HPE.out HNE.out hsn)
  have HLK : Hid ((Fm (textP x.red)).getD (.bool false) = .bool false) := hQq (by rw [HLK0, hsn])
  have HMA := hQq hma
  clear hsn HLK0 hmo hma
  gi_wp2_with (first
   | (refine ⟨trivial, ?_⟩; gi_at_call 115; refine (CallsIn.inRound l (callsIn_wide.2 (pathsPrint _ _ x.red (strs_ext HVR.out (eA _ _))))).mono ?_; rintro e V ⟨rfl, hb1⟩; have HE := hQq ((eA W _).trans hb1); have HXB : Hid (V.heap[W.heap.size]? = some (.cells #[.int .i64 x.dep, .string x.nm, .int .i64 x.kd, .slice a3 x.ats.length cap3, .string x.dat, .int .i64 x.ma, .int .i64 x.mi, .int .i64 x.cl, .bool false, .slice a4 x.red.length cap4] 41 (0, 0))) := hQq (bX hb1 (bN W _)); rw [HPS.out]; have y9 : V.cell? ⟨W.heap.size, 9, none⟩ = some (.slice a4 x.red.length cap4) := bC HXB.out 9; have y1 : V.cell? ⟨Bx, 1, none⟩ = some (.slice xa xn xc) := bC (bX HE.out HBX.out) 1; clear hb1)
   | (refine ⟨trivial, ?_⟩; gi_at_call 116; refine (CallsIn.inRound l (callsIn_wide.2 (slEqualS _ _ x.red (pathT (plT b) k) V (strs_ext HVR.out HE.out) (HXS.out.ext HE.out) (by have := HRL.out.1; omega)))).mono ?_; rintro e U ⟨rfl, hb2⟩; have HE3 := hQq (HE.out.trans hb2); rw [HQ.out]; have v3 : U.cell? ⟨w2.heap.size + 1, 0, none⟩ = some (.map (some w2.heap.size)) := bC (bX HE3.out d3.out) 0; have HX2 : Hid (U.heap[W.heap.size]? = some (.cells #[.int .i64 x.dep, .string x.nm, .int .i64 x.kd, .slice a3 x.ats.length cap3, .string x.dat, .int .i64 x.ma, .int .i64 x.mi, .int .i64 x.cl, .bool false, .slice a4 x.red.length cap4] 41 (0, 0))) := hQq (bX hb2 HXB.out); have HMU := hQq (HMA.out.ext HE3.out); clear hb2)
   | (gi_at_lookup; refine wlIn_look rfl (.tmp 79) (.tmp 80) 134 false rfl 9 4 keyString mapT_met (.bool false) zeroBool rfl HMU.out (textP x.red) rfl ?_; rw [if_neg Bool.false_ne_true, HLK.out])
   | (gi_at_mapUpdate; refine wlIn_store rfl (.tmp 83) (.tmp 84) (.const (.bool true)) 134 rfl 9 4 keyString mapT_met rfl HMU.out (textP x.red) (.bool true) rfl rfl ?_; intro U3 hm3 hg3; have HM3 := hQq hm3; have HG3 := hQq hg3; have y2 : U3.cell? ⟨W.heap.size, 2, none⟩ = some (.int .i64 x.kd) := bC (blk_grown hg3 HX2.out (fun e => by injection e with e; have := HBM.out; omega)) 2; clear hm3 hg3))
  have HGP : Hid (pathE (getB b k).red = 0) := hQq (by rw [HG.out]; exact HPE.out)
  obtain ⟨es3, cl3, hb3, _⟩ := HMU.out
  refine ⟨((ko_ext HE3.out).from _).trans (KeepsFrom.of_grownBy HG3.out (fun j e => by cases e; omega)), (Kc.of_ext HE3.out).trans ?_, ?_⟩
  ·have h := kc_map hb3 HG3.out
   exact ⟨h.size, fun j cs e f _ => h.keep j cs e f (.inr (Nat.zero_le _))⟩
  ·show BrI w W0 _ b (pre ++ [_]).length _
   rw [HPI.out]
   exact HI.out.led HM.out HGP.out (by have := HWS.out; omega) HE3.out HMU.out HMO.out HG3.out (by rw [HG.out]; exact HM3.out)
 case done =>
  intro D xs W hD hS hI hdf
  have d1 := hQq (hI.kc.keep _ _ _ _ (.inr (Nat.zero_le _)) (bX HE2.out e1.out))
  have d2 := hQq (hI.kc.keep _ _ _ _ (.inr (Nat.zero_le _)) (bX HE2.out e2.out))
  have HI := hQq hI
  have HS := hQq hS
  have HD := hQq hdf; have HDL := hQq hD
  have c1 : W.cell? ⟨w.heap.size + 1, 0, none⟩ = some (.int .i64 0) := bC d1.out 0
  have c2 : W.cell? ⟨w.heap.size + 1 + 1, 0, none⟩ = some (.int .i64 0) := bC d2.out 0
  have f1 : W.frozen? ⟨w.heap.size + 1, 0, none⟩ = false := by simp [World.frozen?, d1.out]
  have f2 : W.frozen? ⟨w.heap.size + 1 + 1, 0, none⟩ = false := by simp [World.frozen?, d2.out]
  clear hI hS hdf hD
  go_wp2
  obtain ⟨g1, g2, g3⟩ := stored2 HI.out.ext c1 c2 (.int .i64 0) (.int .i64 0)
  have hK' := (KeepsOthers.setCell (W.setCell ⟨w.heap.size + 1, 0, none⟩ (.int .i64 0)) ⟨w.heap.size + 1 + 1, 0, none⟩ (.int .i64 0)).same D _ ((KeepsOthers.setCell W ⟨w.heap.size + 1, 0, none⟩ (.int .i64 0)).same D _ HD.out rfl) rfl
  refine ⟨by simp, .inl ⟨_, _, rfl, run_takeDeferred hK', ?_⟩⟩
  have g4 := cell_kept g1 (grownBy_putObj' _ D (.deferred none)) (fun r e => by cases e; exact ⟨_, hK', rfl⟩)
  have g5 := cell_kept g2 (grownBy_putObj' _ D (.deferred none)) (fun r e => by cases e; exact ⟨_, hK', rfl⟩)
  have HR := br_of (brT_ok HT.out (by have h := HI.out.ok; rw [HS.out] at h; exact h))
  refine ⟨.tuple #[.int .i64 0, .int .i64 0], ?_, by rw [HR.1, HR.2], Below.trans g3 (below_put hK' (Nat.le_trans HE0.out.size HDL.out))⟩
  simp [results, Tryz.f49, go_sem, g4, g5]
 case stop =>
  rintro D c pre W hD _ ⟨rfl, hx⟩ hdf
  have HDL := hQq hD; have HX := hQq hx; have HD := hQq hdf
  clear hD hx hdf
  refine wpIn_wide.2 ?_
  go_wp2
  have g1 : W.cell? ⟨w.heap.size + 1, 0, none⟩ = some (.int .i64 (brNo b)) := bC HX.out.no 0
  have g2 : W.cell? ⟨w.heap.size + 1 + 1, 0, none⟩ = some (.int .i64 (brEr b)) := bC HX.out.er 0
  refine ⟨by simp, .inl ⟨_, _, rfl, run_takeDeferred HD.out, ?_⟩⟩
  have g4 := cell_kept g1 (grownBy_putObj' _ D (.deferred none)) (fun r e => by cases e; exact ⟨_, HD.out, rfl⟩)
  have g5 := cell_kept g2 (grownBy_putObj' _ D (.deferred none)) (fun r e => by cases e; exact ⟨_, HD.out, rfl⟩)
  refine ⟨.tuple #[.int .i64 (brNo b), .int .i64 (brEr b)], ?_, rfl, Below.trans HX.out.ext (below_put HD.out (Nat.le_trans HE0.out.size HDL.out))⟩
  simp [results, Tryz.f49, go_sem, g4, g5]
theorem brCheck (B : Nat) (w : World) (v : Value) (b : List BrN) (hb : BrIn B w v b) (hsm : SmallB b) :
  RetB Tryz.prog 49 #[v] w (.tuple #[.int .i64 (brNo b), .int .i64 (brEr b)]) := by
 by_cases h : treeE (plT b) = 0
 ·exact brCheck1 B w v b hb hsm h
 ·exact brCheck0 B w v b hb hsm h
end Go.Proofs.YtimpejaaeinplaaGreatDoor
namespace Go.Proofs.YtimpejaaeinplaaGreatDoor
open Go.RowKit
theorem small_br {b : List BrN} (h : brEr b = 0) {k : Nat} (hk : k < b.length) : Small (b[k]'hk).ats := by
 have hz := treeE_zero (brEr_zero h).1
 obtain ⟨_, _, _, hc, _⟩ := node_parts (hz.2.2.1 k (by rw [plT_len]; exact hk))
 rw [getT_plT b k hk, getB_at b k hk] at hc
 intro a ha
 have := size_of_chk hc a ha
 omega
theorem attT_in {B : Nat} {w : World} {v : Value} {l : List Attr} (h : AttT w v l) : AttIn B w v l := attIn_of h.1 fun _ b hb => .inr (h.2 b hb)
def BoolP (P : Prop) (w : World) (e : Ending) (w' : World) : Prop := ∃ r : Bool, e = .returned (.bool r) /\ (r = false -> P) /\ w = w'
def Few (n : Nat) (l : List Attr) : Prop := l.length <= 10 /\ ∀ a ∈ l, a.1.size <= n /\ a.2.size <= n
theorem few_of {l : List Attr} {k n : Nat} (hk : k = l.length) (hl : l.length <= 10) (h : ∀ j (_ : j < k) (hj : j < l.length), (l[j]'hj).1.size <= n /\ (l[j]'hj).2.size <= n) : Few n l := by
 refine ⟨hl, fun a ha => ?_⟩
 obtain ⟨j, hj, rfl⟩ := List.getElem_of_mem ha
 exact h j (by omega) hj
structure FewT (n : Nat) (t : List TrN) : Prop where
 len : t.length <= 130
 ok : ∀ x ∈ t, Few n x.ats /\ x.nm.size <= n /\ x.dat.size <= n
structure FewB (n : Nat) (b : List BrN) : Prop where
 len : b.length <= 130
 ok : ∀ x ∈ b, Few n x.ats /\ x.nm.size <= n /\ x.dat.size <= n /\ x.red.length <= 12 /\ ∀ s ∈ x.red, s.size <= n
theorem Few.mono {n m : Nat} {l : List Attr} (h : Few n l) (hnm : n <= m) : Few m l := ⟨h.1, fun a ha => by have := h.2 a ha; omega⟩
def BoolE (P : Prop) (w : World) (e : Ending) (w' : World) : Prop := ∃ r : Bool, e = .returned (.bool r) /\ (r = false -> P) /\ Ext w w'
theorem getT_chk {t : List TrN} (h : treeE t = 0) {k : Nat} (hk : k < t.length) : chkE (getT t k).ats = 0 := (node_parts ((treeE_zero h).2.2.1 k hk)).2.2.2.1
theorem small_chk {l : List Attr} (h : chkE l = 0) : Small l := fun a ha => by have := size_of_chk h a ha; omega
structure AwkT (w : World) (g : Nat) : Prop where
 ex : ∃ ga oa ca gb ob cb, w.cell? ⟨g, 3, none⟩ = some (.slice (some ⟨ga, oa, none⟩) 1 ca) /\ w.cell? ⟨g, 11, none⟩ = some (.slice (some ⟨gb, ob, none⟩) 1 cb) /\ w.cell? ⟨ga, oa, none⟩ = some (.string ⟨#[98, 115, 100, 46, 98, 115, 100, 46, 120]⟩) /\ w.cell? ⟨gb, ob, none⟩ = some (.string ⟨#[98, 115, 100, 46, 111, 112, 97, 113, 117, 101]⟩) /\ w.cell? ⟨gb, ob + 1, none⟩ = some (.string ⟨#[]⟩)
/-! Encode: the error of each node, and what it is written as. -/
def genT (b : List BrN) (E : Nat -> Int) (X : Nat -> TrN) : List TrN × Int × Int :=
 if brEr b ≠ 0 then ([], brNo b, brEr b) else match findB (fun i => E i != 0) 0 b.length with
  | some i => ([], i, E i)
  | none => ((List.range b.length).map X, 0, 0)
section
variable {b : List BrN} {E : Nat -> Int} {X : Nat -> TrN}
theorem gen_br (h : brEr b ≠ 0) : genT b E X = ([], brNo b, brEr b) := if_pos h
theorem gen_node (h : brEr b = 0) {i : Nat} (hi : i < b.length) (hl : ∀ j, j < i -> E j = 0) (he : E i ≠ 0) : genT b E X = ([], (i : Int), E i) := by
 unfold genT
 rw [if_neg (by simp [h]), findB_some b.length 0 i (Nat.zero_le _) (by omega) (fun j _ hj => by show (E j != 0) = false; rw [hl j hj]; rfl) (show (E i != 0) = true from bne_iff_ne.2 he)]
theorem gen_ok (h : brEr b = 0) (hl : ∀ j, j < b.length -> E j = 0) : genT b E X = ((List.range b.length).map X, 0, 0) := by
 unfold genT
 rw [if_neg (by simp [h]), findB_none b.length 0 (fun j _ hj => by show (E j != 0) = false; rw [hl j (by omega)]; rfl)]
end
/-! Decode. -/
def genD (t : List TrN) (E : Nat -> Int) (X : Nat -> BrN) : List BrN × Int × Int :=
 if treeE t ≠ 0 then ([], treeN t, treeE t) else match findB (fun i => E i != 0) 0 t.length with
  | some i => ([], i, E i)
  | none => if brEr ((List.range t.length).map X) ≠ 0 then ([], brNo ((List.range t.length).map X), brEr ((List.range t.length).map X)) else ((List.range t.length).map X, 0, 0)
section
variable {t : List TrN} {E : Nat -> Int} {X : Nat -> BrN}
theorem gend_tree (h : treeE t ≠ 0) : genD t E X = ([], treeN t, treeE t) := if_pos h
theorem gend_node (h : treeE t = 0) {i : Nat} (hi : i < t.length) (hl : ∀ j, j < i -> E j = 0) (he : E i ≠ 0) : genD t E X = ([], (i : Int), E i) := by
 unfold genD
 rw [if_neg (by simp [h]), findB_some t.length 0 i (Nat.zero_le _) (by omega) (fun j _ hj => by show (E j != 0) = false; rw [hl j hj]; rfl) (show (E i != 0) = true from bne_iff_ne.2 he)]
theorem gend_br (h : treeE t = 0) (hl : ∀ j, j < t.length -> E j = 0) (hb : brEr ((List.range t.length).map X) ≠ 0) : genD t E X = ([], brNo ((List.range t.length).map X), brEr ((List.range t.length).map X)) := by
 unfold genD
 rw [if_neg (by simp [h]), findB_none t.length 0 (fun j _ hj => by show (E j != 0) = false; rw [hl j (by omega)]; rfl)]; exact if_pos hb
theorem gend_ok (h : treeE t = 0) (hl : ∀ j, j < t.length -> E j = 0) (hb : brEr ((List.range t.length).map X) = 0) : genD t E X = ((List.range t.length).map X, 0, 0) := by
 unfold genD
 rw [if_neg (by simp [h]), findB_none t.length 0 (fun j _ hj => by show (E j != 0) = false; rw [hl j (by omega)]; rfl)]; exact if_neg (by simp [hb])
end
def manyT (t : List TrN) (c : Int) : Int := if c = 0 then 1 else countC t c t.length
theorem many_bd (t : List TrN) (c : Int) : 0 <= manyT t c /\ manyT t c <= t.length + 1 := by
 unfold manyT
 have := countC_le t c t.length
 split <;> omega
def linkS (n : Int) : ByteArray := if n < 2 then ⟨#[]⟩ else ⟨(Lib.itoa n).toArray⟩
theorem decDigits_ne (n : Nat) : Lib.decDigits n ≠ [] := by
 unfold Lib.decDigits
 split
 ·exact List.cons_ne_nil _ _
 ·intro e; exact absurd (List.append_eq_nil_iff.1 e).2 (List.cons_ne_nil _ _)
theorem link_one {n : Int} (h : n < 2) : linkS n = ⟨#[]⟩ := if_pos h
theorem link_two {n : Int} (h : ¬ n < 2) : (linkS n).size ≠ 0 := by
 unfold linkS
 rw [if_neg h]
 intro e
 have e : (Lib.itoa n).length = 0 := e
 unfold Lib.itoa at e
 rw [if_neg (by omega)] at e
 exact decDigits_ne _ (List.length_eq_zero_iff.1 e)
def reW : ByteArray := ofL [114, 101, 100, 105, 114, 101, 99, 116]
def nlW : ByteArray := ofL [110, 108, 105, 110, 107]
def yW : ByteArray := ofL [121]
def redS (r : List ByteArray) : ByteArray := if 0 < r.length then prS r else ⟨#[]⟩
def bookE (own : List Attr) (n : Int) : Int := if isM own nlW = decide (1 < n) /\ valM own nlW = linkS n then 0 else 18
theorem book_ok {own : List Attr} {n : Int} (h1 : isM own nlW = decide (1 < n)) (h2 : valM own nlW = linkS n) : bookE own n = 0 := if_pos ⟨h1, h2⟩
theorem book_no {own : List Attr} {n : Int} (h : ¬ (isM own nlW = decide (1 < n) /\ valM own nlW = linkS n)) : bookE own n = 18 := if_neg h
def zeroB (x : TrN) : Bool := x.kd == 4 && x.ma == 0 && x.mi == 0
/-! Lists of marks that say the same are equal but for their order. -/
theorem getM_cons (a : Attr) (r : List Attr) (k : ByteArray) : getM (a :: r) k = if L a.1 = L k then some a.2 else getM r k := by
 unfold getM
 rw [List.find?_cons]
 by_cases h : L a.1 = L k
 ·rw [if_pos h]; simp [h]
 ·rw [if_neg h]; simp [h]
theorem ne_or : L opqW ≠ L reW := by decide
theorem ne_on : L opqW ≠ L nlW := by decide
theorem ne_rn : L reW ≠ L nlW := by decide
theorem link_size (n : Int) : (linkS n).size = 0 ↔ n < 2 := by
 by_cases h : n < 2
 ·rw [link_one h]; exact ⟨fun _ => h, fun _ => rfl⟩
 ·exact ⟨fun x => absurd x (link_two h), fun x => absurd x h⟩
/-! Decode. -/
def turnT (own : List Attr) : Bool × List ByteArray × Int :=
 if isM own opqW = true /\ valM own opqW ≠ yW then (false, [], 6)
 else if isM own reW = true then (if parE (valM own reW) ≠ 0 \/ parL (valM own reW) = [] then (false, [], 6) else (isM own opqW, parL (valM own reW), 0))
 else (isM own opqW, [], 0)
def turnO (own : List Attr) : Bool := (turnT own).1
def turnR (own : List Attr) : List ByteArray := (turnT own).2.1
def turnE (own : List Attr) : Int := (turnT own).2.2
/-! Sizes. -/
theorem join_tight {l : List ByteArray} (h : pathE l = 0) : (textP l).size <= 200 := by
 obtain ⟨h1, h2⟩ := pathE_zero h
 rw [size_L]; unfold textP; rw [L_ofL]
 have : ∀ m : List ByteArray, (∀ s ∈ m, nameE (L s) = 0) -> (Lib.joinTail [47] (m.map L)).length <= 25 * m.length := by
  intro m
  induction m with
  | nil => intro _; exact Nat.le_refl _
  | cons s r ih =>
   intro hm
   have := ih fun x hx => hm x (by simp [hx])
   have := (nameE_parts (hm s (by simp))).2.2
   show ((47 : UInt8) :: (L s ++ Lib.joinTail [47] (r.map L))).length <= _
   simp only [List.length_cons, List.length_append]; omega
 cases l with
 | nil => rw [List.map_nil, Lib.join_nil]; decide
 | cons s r =>
  rw [List.map_cons, Lib.join_cons, List.length_cons, List.length_append]
  have := this r fun x hx => h2 x (by simp [hx])
  have := (nameE_parts (h2 s (by simp))).2.2
  simp only [List.length_cons] at h1; omega
theorem redS_size (r : List ByteArray) : (redS r).size <= 200 := by
 unfold redS
 split
 ·unfold prS
  split
  ·exact join_tight (by assumption)
  ·exact Nat.zero_le _
 ·exact Nat.zero_le _
theorem linkS_size {n : Int} (h1 : n <= 9223372036854775807) : (linkS n).size <= 200 := by
 unfold linkS
 split
 ·exact Nat.zero_le _
 ·show (Lib.itoa n).length <= _
  have := Lib.itoa_length_le n (by omega) h1
  omega
/-! Marks, put in. -/
theorem alone_mk {d : Int} {m : Attr} (h : MkOk d m.1) (hv : m.2.size <= 200) : aloneE (mkX d m) = 0 := by
 unfold aloneE
 have hk : keyE (L (mkX d m).1) = 0 := h.key
 rw [if_neg (by simp [hk]), if_neg (by show ¬ 200 < m.2.size; omega)]
theorem mk_size {d : Int} {m : ByteArray} (h : MkOk d m) : (mrS d m).size <= 40 := by
 have := keyE_len h.key
 rw [<- size_L] at this; exact this
structure MwStep (d : Int) (l ms : List Attr) (k : Nat) (m : Attr) : Prop where
 skip : m.2.size = 0 -> setsM d (atsL d l) (ms.take (k + 1)) = setsM d (atsL d l) (ms.take k)
 new : ∀ y ∈ setsM d (atsL d l) (ms.take k), L y.1 ≠ L (mkX d m).1
 alone : aloneE (mkX d m) = 0
 sizes : (mkX d m).1.size <= 1000000 /\ (mkX d m).2.size <= 1000000
 good : m.2.size ≠ 0 -> spF (setsM d (atsL d l) (ms.take k)) (mkX d m) = false -> chkE (setsM d (atsL d l) (ms.take (k + 1))) = 0 /\ spL (setsM d (atsL d l) (ms.take k)) (mkX d m) = setsM d (atsL d l) (ms.take (k + 1)) /\ spE (setsM d (atsL d l) (ms.take k)) (mkX d m) = 0
 bad : m.2.size ≠ 0 -> spF (setsM d (atsL d l) (ms.take k)) (mkX d m) = true -> chkE (setsM d (atsL d l) ms) ≠ 0 /\ spE (setsM d (atsL d l) (ms.take k)) (mkX d m) = 5
theorem mw_step {d : Int} {l ms : List Attr} (h : atsE d l = 0) (hm : MarksOk d ms) (hv : ∀ m ∈ ms, m.2.size <= 200) {k : Nat} (hk : k < ms.length) (hc : chkE (setsM d (atsL d l) (ms.take k)) = 0) : MwStep d l ms k (ms[k]'hk) := by
 have hmem := List.getElem_mem hk
 have hs := sets_step d (atsL d l) ms k hk
 have ha := alone_mk (hm.2 _ hmem) (hv _ hmem)
 have hn := sets_new h hm k hk
 have hcp := chk_put hc ha hn
 refine ⟨fun e => by rw [hs, setM_no e], hn, ha, ?_, fun e hf => ?_, fun e hf => ?_⟩
 ·have h1 := mk_size (hm.2 _ hmem); have h2 := hv _ hmem
  show (mrS d (ms[k]'hk).1).size <= _ /\ (ms[k]'hk).2.size <= _
  omega
 ·have e1 : setsM d (atsL d l) (ms.take (k + 1)) = putA (setsM d (atsL d l) (ms.take k)) (mkX d (ms[k]'hk)) := by rw [hs, setM_yes e]
  rw [e1]
  refine ⟨hcp.2 hf, ?_, ?_⟩
  ·unfold spL; rw [if_neg (by simp [hf])]
  ·unfold spE; rw [if_neg (by simp [hf])]
 ·refine ⟨?_, by unfold spE; rw [if_pos hf]⟩
  have e1 : setsM d (atsL d l) (ms.take (k + 1)) = putA (setsM d (atsL d l) (ms.take k)) (mkX d (ms[k]'hk)) := by rw [hs, setM_yes e]
  refine sets_bad (ats_sorted h).1 (k + 1) ?_
  rw [e1]
  intro e2
  rw [hcp.1 e2] at hf; cases hf
theorem chk_sizes {l : List Attr} (h : chkE l = 0) : ∀ a ∈ l, a.1.size <= 1000000 /\ a.2.size <= 1000000 := fun a ha => by have := size_of_chk h a ha; omega
/-! Marks, read. -/
theorem getM_snoc (l : List Attr) (a : Attr) (k : ByteArray) : getM (l ++ [a]) k = match getM l k with | some v => some v | none => if L a.1 = L k then some a.2 else none := by
 induction l with
 | nil => rw [List.nil_append, getM_cons]; rfl
 | cons x r ih =>
  rw [List.cons_append, getM_cons, getM_cons, ih]
  by_cases h : L x.1 = L k
  ·rw [if_pos h, if_pos h]
  ·rw [if_neg h, if_neg h]
def thM (l : List Attr) : ByteArray -> Option Value := fun k => if isM l k = true then some (.bool true) else none
theorem isM_snoc (l : List Attr) (a : Attr) (k : ByteArray) : isM (l ++ [a]) k = (isM l k || decide (L a.1 = L k)) := by
 unfold isM
 rw [getM_snoc]
 cases getM l k with
 | some v => rfl
 | none => by_cases h : L a.1 = L k <;> simp [h]
theorem thM_snoc (l : List Attr) (a : Attr) : thM (l ++ [a]) = upd (thM l) a.1 (.bool true) := by
 funext k
 unfold thM upd
 rw [isM_snoc]
 by_cases h : k = a.1
 ·rw [if_pos h, h]; simp
 ·have h2 : L a.1 ≠ L k := fun e => h (L_inj e).symm
  rw [if_neg h]; simp [h2]
theorem gPow : Tryz.prog.globalNamed "internal/strconv.uint64pow10" = some 7 := by kernel_rfl
structure LaidO (w : World) : Prop where
 laid : Laid w
 psz : 7 < w.heap.size
 pow : Lib.TabIs Tryz.prog w "internal/strconv.uint64pow10" .u64 Lib.pow10Tab
 mx : ∃ m, w.cell? ⟨8, 0, none⟩ = some (.int .i64 m)
theorem LaidO.ext {w w' : World} (h : LaidO w) (he : Ext w w') : LaidO w' where
 laid := h.laid.ext he
 psz := Nat.lt_of_lt_of_le h.psz he.size
 pow := by
  have ha := h.pow
  unfold Lib.TabIs at ha ⊢
  exact var?_below he gPow h.psz ha
 mx := by
  obtain ⟨m, hm⟩ := h.mx
  exact ⟨m, by rw [eC he (World.block_lt_of_cell? _ _ hm)]; exact hm⟩
theorem itoaX (n : Int) (w : World) (hL : LaidO w) (h0 : 0 <= n) (h1 : n <= 9223372036854775807) : RetB Tryz.prog 121 #[.int .i64 n] w (.string ⟨(Lib.itoa n).toArray⟩) := by
 unfold RetB
 refine (Tryz.strconv_Itoa n (by omega) (by omega) w hL.pow).mono ?_
 rintro e w' ⟨rfl, k, os, rfl⟩
 exact ⟨rfl, Lib.below_grow _ _ (Nat.le_refl _) _ _⟩
theorem itoa (n : Int) (w : World) (hL : LaidO w) (h0 : 0 <= n) (h1 : n <= 1000000) : RetB Tryz.prog 121 #[.int .i64 n] w (.string ⟨(Lib.itoa n).toArray⟩) := itoaX n w hL h0 (by omega)
theorem splitSlash (s : ByteArray) (w : World) (hL : LaidO w) (hs : s.size <= 1000000) :
  Calls Tryz.prog 192 #[.string s, .string ⟨#[47]⟩] w fun e w' => (∃ a cap, e = .returned (.slice a (cutsB (L s)).length cap) /\ StrIn 0 w' (.slice a (cutsB (L s)).length cap) (cutsB (L s))) /\ Ext w w' := by
 obtain ⟨m, hm⟩ := hL.mx
 have hsp : Lib.splitB ⟨#[47]⟩ 0 (Lib.countB s ⟨#[47]⟩) s = cutsB (L s) := by
  have := splitB_cuts s
  rw [cutsB, <- this, mapOfL]; rfl
 have hlen : Lib.countB s ⟨#[47]⟩ + 1 = (cutsB (L s)).length := by
  rw [<- hsp]; exact (Lib.splitB_all ⟨#[47]⟩ (by decide) 0 _ s rfl).symm
 refine (Tryz.strings_Split s ⟨#[47]⟩ m w (by omega) hm (by decide)).mono ?_
 rintro e w' ⟨rfl, rfl⟩
 rw [hlen, hsp]
 refine ⟨⟨_, _, rfl, ?_⟩, eA _ _⟩
 have h := strsAt_new w (cutsL (L s)) 9
 have e1 : ((cutsL (L s)).map ofL).map Value.string = (cutsL (L s)).map (fun l => Value.string ⟨l.toArray⟩) := by rw [List.map_map]; rfl
 rw [cutsB, e1, List.length_map]
 refine strIn_of (by simpa using h) fun _ b hb => .inr ?_
 cases hb
 exact ⟨_, _, bN _ _⟩
theorem head_hasP {s : ByteArray} : hasP s ⟨#[47]⟩ = true ↔ (L s).head? = some 47 := by
 unfold hasP
 have e : L (⟨#[47]⟩ : ByteArray) = [47] := rfl
 rw [e]
 cases h : L s with
 | nil => simp
 | cons c r =>
  show ((47 == c) && true) = true ↔ some c = some 47
  rw [Bool.and_true, beq_iff_eq, Option.some.injEq]
  exact eq_comm
theorem cut_tail {s : ByteArray} (h : hasP s ⟨#[47]⟩ = true) : L (cutP s ⟨#[47]⟩) = (L s).tail := by
 have := L_cut h
 rw [this]; rfl
set_option maxRecDepth 100000 in
set_option maxHeartbeats 2000000 in
theorem pathsParse (s : ByteArray) (w : World) (hL : LaidO w) (hs : s.size <= 1000000) :
  Calls Tryz.prog 149 #[.string s] w fun e w' => (∃ a cap, e = .returned (.tuple #[.slice a (parL s).length cap, .int .i64 (parE s)]) /\ StrIn 0 w' (.slice a (parL s).length cap) (parL s)) /\ Ext w w' := by
 have HL := hQq hL
 clear hL
 cases hp : hasP s ⟨#[47]⟩ with
 | false =>
  have HR := hQq (par_of (par_form (s := s) (fun e => by rw [head_hasP.2 e] at hp; cases hp)))
  go_enter Tryz.func149, Tryz.ntmps149
  go_wp2_with (go_at_call 189; refine (cutPrefix _ _ _).mono ?_; rintro e w' ⟨rfl, rfl⟩)
  go_ret2
  exact ⟨⟨none, 0, by rw [HR.out.1, HR.out.2]; rfl, by rw [HR.out.1]; exact strIn_nil _ _ _⟩, bR _ _⟩
 | true =>
  have h1 := head_hasP.1 hp
  have hct := cut_tail hp
  by_cases h2 : (L s).tail = []
  ·have HR := hQq (par_of (par_root h1 h2))
   have q1 : (cutP s ⟨#[47]⟩).toList.isEmpty = true := by rw [tL, hct, h2]; rfl
   clear h1 hct h2
   go_enter Tryz.func149, Tryz.ntmps149
   go_wp2_with (go_at_call 189; refine (cutPrefix _ _ _).mono ?_; rintro e w' ⟨rfl, rfl⟩)
   go_ret2
   exact ⟨⟨none, 0, by rw [HR.out.1, HR.out.2]; rfl, by rw [HR.out.1]; exact strIn_nil _ _ _⟩, bR _ _⟩
  ·have q1 : (cutP s ⟨#[47]⟩).toList.isEmpty = false := by
    rw [tL, hct]
    cases e : (L s).tail with
    | nil => exact absurd e h2
    | cons _ _ => rfl
   have HZ : Hid ((cutP s ⟨#[47]⟩).size <= 1000000) := hQq (Nat.le_trans (cutP_le s ⟨#[47]⟩) hs)
   have HC := hQq hct
   by_cases h3 : pathE (cutsB (L s).tail) = 0
   ·have HR := hQq (par_of (par_ok h1 h2 h3))
    have q2 : (pathE (cutsB (L s).tail) != 0) = false := bne_eq_false_iff_eq.2 h3
    clear h1 hct h2 h3
    go_enter Tryz.func149, Tryz.ntmps149
    go_wp2_with (first
     | (go_at_call 189; refine (cutPrefix _ _ _).mono ?_; rintro e w' ⟨rfl, rfl⟩)
     | (go_at_call 192; refine (splitSlash _ _ HL.out HZ.out).mono ?_; rw [HC.out]; rintro e w1 ⟨⟨a, cap, rfl, ho⟩, hb⟩; have HO := hQq ho; have HB := hQq hb; clear ho hb)
     | (go_at_call 138; refine (pathsCheck _ _ _ HO.out.strs).mono ?_; rintro e w2 ⟨rfl, hb⟩; have HB2 := hQq (Ext.trans HB.out hb); have HO2 := hQq (HO.out.ext okS hb); clear hb))
    go_ret2
    exact ⟨⟨_, _, by rw [HR.out.1, HR.out.2]; rfl, by rw [HR.out.1]; exact HO2.out⟩, HB2.out⟩
   ·have HR := hQq (par_of (par_bad h1 h2 h3))
    have q2 : (pathE (cutsB (L s).tail) != 0) = true := bne_iff_ne.2 h3
    clear h1 hct h2 h3
    go_enter Tryz.func149, Tryz.ntmps149
    go_wp2_with (first
     | (go_at_call 189; refine (cutPrefix _ _ _).mono ?_; rintro e w' ⟨rfl, rfl⟩)
     | (go_at_call 192; refine (splitSlash _ _ HL.out HZ.out).mono ?_; rw [HC.out]; rintro e w1 ⟨⟨a, cap, rfl, ho⟩, hb⟩; have HO := hQq ho; have HB := hQq hb; clear ho hb)
     | (go_at_call 138; refine (pathsCheck _ _ _ HO.out.strs).mono ?_; rintro e w2 ⟨rfl, hb⟩; have HB2 := hQq (Ext.trans HB.out hb); clear hb))
    go_ret2
    exact ⟨⟨none, 0, by rw [HR.out.1, HR.out.2]; rfl, by rw [HR.out.1]; exact strIn_nil _ _ _⟩, HB2.out⟩
abbrev mksV (o r n : ByteArray) : Value := .agg #[.string o, .string r, .string n]
structure ReadP (w : World) (l : List Attr) (e : Ending) (w' : World) : Prop where
 ex : ∃ v' b n, e = .returned (.tuple #[v', mksV (valM (ptsO 1 l) opqW) (valM (ptsO 1 l) reW) (valM (ptsO 1 l) nlW), .map (some b), .int .i64 (ptsE 1 l)]) /\ AttT w' v' (ptsP 1 l) /\ MapAt kS w' b n (thM (ptsO 1 l)) /\ w.heap.size <= b
 ext : Ext w w'
def mkA3 (l : List Attr) : Array Value := #[.string (valM l opqW), .string (valM l reW), .string (valM l nlW)]
theorem attT_keep {w w' : World} {v : Value} {l : List Attr} {g : Nat} {c : Array Value} {t : TypeId} {f : Nat × Nat} (h : AttT w v l) (hk : KeepBut (some g) w w') (hs : w.heap.size <= w'.heap.size) (hg : w.heap[g]? = some (.cells c t f)) (ht : t ≠ 45) : AttT w' v l := by
 obtain ⟨⟨a, cap, rfl, hcap, hc⟩, h2⟩ := h
 have hne : ∀ b, (Value.slice a l.length cap).ownBlock = some b -> b ≠ g := fun b hb e => by
  obtain ⟨c', f', h3⟩ := h2 b hb
  rw [e, hg] at h3
  cases h3; exact ht rfl
 refine ⟨⟨a, cap, rfl, hcap, fun k hk' => ?_⟩, fun b hb => ?_⟩
 ·obtain ⟨b, off, rfl, hbs, c1, c2⟩ := hc k hk'
  have hn := hne b rfl
  have hq : some g ≠ some b := fun e => hn (oI e).symm
  exact ⟨b, off, rfl, Nat.lt_of_lt_of_le hbs hs, by rw [cell_keep hk hbs hq]; exact c1, by rw [cell_keep hk hbs hq]; exact c2⟩
 ·obtain ⟨c', f', h3⟩ := h2 b hb
  exact ⟨c', f', hk _ _ h3 (fun e => hne b hb (oI e).symm)⟩
structure RdSt (w w1 : World) (own : List Attr) (k : Nat) (wi : World) : Prop where
 marks : wi.heap[w.heap.size]? = some (.cells (mkA3 (own.take k)) 129 (0, 0))
 map : ∃ n, MapAt kS wi w1.heap.size n (thM (own.take k))
 keep : KeepBut (some w.heap.size) w1 wi
 size : w1.heap.size < wi.heap.size
 ext : Ext w wi
theorem RdSt.step {w w1 wi w4 : World} {own : List Attr} {k n4 j : Nat} {x : Attr} {o : Obj} (h : RdSt w w1 own k wi) (hw : w.heap.size < w1.heap.size) (ht : own.take (k + 1) = own.take k ++ [x]) (hj : mkA3 (own.take k ++ [x]) = (mkA3 (own.take k)).setIfInBounds j (.string x.2))
  (hm : MapAt kS w4 w1.heap.size n4 (upd (thM (own.take k)) x.1 (.bool true))) (hg : (wi.alloc o).grownBy w4 (some w1.heap.size)) : RdSt w w1 own (k + 1) (w4.setCell ⟨w.heap.size, j, none⟩ (.string x.2)) := by
 have hb := blk_grown hg (bA h.marks) (fun e => by injection e with e; omega)
 refine ⟨?_, ⟨n4, ?_⟩, fun b p hp hne => ?_, ?_, ?_⟩
 ·rw [ht, hj]; exact bS hb _
 ·rw [ht, thM_snoc]; exact hm.setCell _ _
 ·have hl := bL hp
  exact bSn (blk_grown hg (bA (h.keep b p hp hne)) (fun e => by injection e with e; omega)) _ _ (fun e => hne (by rw [e]))
 ·have := hg.size
  have := h.size
  simp [World.setCell] at *; omega
 ·exact Below.setCell (p := ⟨w.heap.size, j, none⟩) (Below.grown (h.ext.trans (eA _ _)) hg (by have := h.ext.size; simp; omega) (fun g e => by injection e with e; omega)) (Nat.le_refl _) _
theorem eV {a : Act} {t : Tmp} {v : Value} (h : a.eval (.tmp t) = v) : a.tmps[t]?.getD undef = v := by
 rw [<- h]; simp [Act.eval, Array.getD_eq_getD_getElem?]
theorem bookB (own : List Attr) (n : Int) : bookE own n = if (valM own nlW).toList == (linkS n).toList then (if isM own nlW = decide (1 < n) then 0 else 18) else 18 := by
 unfold bookE
 have e : ((valM own nlW).toList == (linkS n).toList) = true ↔ valM own nlW = linkS n := by rw [beq_iff_eq, tL, tL]; exact L_eq_iff
 by_cases h : valM own nlW = linkS n
 ·rw [if_pos (e.2 h)]
  by_cases h2 : isM own nlW = decide (1 < n)
  ·rw [if_pos ⟨h2, h⟩, if_pos h2]
  ·rw [if_neg (fun x => h2 x.1), if_neg h2]
 ·rw [if_neg (fun x => h x.2), if_neg (fun x => h (e.1 x))]
def nmF (t : List TrN) (k : Nat) : Int -> Option Value := fun c => if countC t c k = 0 then none else some (.int .i64 (countC t c k))
theorem nmF_zero (t : List TrN) : nmF t 0 = fun _ => none := by funext c; exact if_pos rfl
theorem nmF_look (t : List TrN) (k : Nat) (c : Int) : (nmF t k c).getD (.int .i64 0) = .int .i64 (countC t c k) := by
 unfold nmF
 by_cases h : countC t c k = 0
 ·rw [if_pos h, h]; rfl
 ·rw [if_neg h]; rfl
theorem nmF_step (t : List TrN) (k : Nat) : nmF t (k + 1) = upd (nmF t k) (getT t k).cl (.int .i64 ((countC t (getT t k).cl k : Int) + 1)) := by
 funext c
 unfold nmF upd
 by_cases e : c = (getT t k).cl
 ·have h : countC t c (k + 1) = countC t c k + 1 := by rw [countC.eq_2, if_pos e.symm]
  rw [if_pos e, h, if_neg (by omega), e]; rfl
 ·have h : countC t c (k + 1) = countC t c k := by rw [countC.eq_2, if_neg (fun x => e x.symm)]; rfl
  rw [if_neg e, h]
def mnF (t : List TrN) : Int -> Option Value := upd (nmF t t.length) 0 (.int .i64 1)
theorem mnF_look (t : List TrN) (c : Int) : (mnF t c).getD (.int .i64 0) = .int .i64 (manyT t c) := by
 unfold mnF upd manyT
 by_cases e : c = 0
 ·rw [if_pos e, if_pos e]; rfl
 ·rw [if_neg e, if_neg e]; exact nmF_look t _ c
def NamesP (w : World) (t : List TrN) (e : Ending) (w' : World) : Prop := (∃ b n, e = .returned (.map (some b)) /\ MapAt kI w' b n (mnF t) /\ w.heap.size <= b) /\ Ext w w'
def ndE (x : TrN) (rt : Bool) (n : Int) : Int :=
 if zeroB x = true then (if x.ats ≠ [] \/ x.cl ≠ 0 then 6 else 0)
 else if x.kd = 5 then 6
 else if ptsE 1 x.ats ≠ 0 then ptsE 1 x.ats
 else if turnE (ptsO 1 x.ats) ≠ 0 \/ ((isM (ptsO 1 x.ats) opqW || isM (ptsO 1 x.ats) reW) = true /\ x.kd ≠ 1) \/ (rt = true /\ isM (ptsO 1 x.ats) reW = true) then 6
 else bookE (ptsO 1 x.ats) n
def ndX (x : TrN) : BrN :=
 if zeroB x = true then ⟨⟨x.dep, x.nm, 5, [], ⟨#[]⟩, 0, 0, 0⟩, false, []⟩
 else ⟨{ x with ats := ptsP 1 x.ats }, turnO (ptsO 1 x.ats), turnR (ptsO 1 x.ats)⟩
structure NeutP (w : World) (x : TrN) (rt : Bool) (n : Int) (e : Ending) (w' : World) : Prop where
 ex : ∃ (y : BrN) (va vr : Value), e = .returned (.tuple #[brV y va vr, .int .i64 (ndE x rt n)]) /\ (∃ a k c, va = .slice a k c) /\ (∃ a k c, vr = .slice a k c) /\ (ndE x rt n = 0 -> y = ndX x /\ AttT w' va y.ats /\ StrIn 0 w' vr y.red)
 ext : Ext w w'
theorem set10 (x0 x1 x2 x3 x4 x5 x6 x7 x8 x9 y0 y1 y2 y3 y4 y5 y6 y7 y8 y9 : Value) : setA #[x0, x1, x2, x3, x4, x5, x6, x7, x8, x9] 0 [y0, y1, y2, y3, y4, y5, y6, y7, y8, y9] = #[y0, y1, y2, y3, y4, y5, y6, y7, y8, y9] := by
 simp only [setA, List.setIfInBounds_toArray, List.set_cons_zero, List.set_cons_succ]
theorem put10 {w w1 W2 : World} {b : Nat} {t : TypeId} {x0 x1 x2 x3 x4 x5 x6 x7 x8 x9 y0 y1 y2 y3 y4 y5 y6 y7 y8 y9 : Value} (hq : w1.heap[b]? = some (.cells #[x0, x1, x2, x3, x4, x5, x6, x7, x8, x9] t (0, 0))) (hb : w.heap.size <= b) (he : Ext w w1) (hW : W2 = setL w1 b 0 [y0, y1, y2, y3, y4, y5, y6, y7, y8, y9]) :
  W2.heap[b]? = some (.cells #[y0, y1, y2, y3, y4, y5, y6, y7, y8, y9] t (0, 0)) /\ Ext w W2 := by
 subst hW
 refine ⟨?_, setL_below hb _ _ _ he⟩
 rw [setL_blk _ _ _ _ hq, set10]
theorem set3 (x0 x1 x2 x3 x4 x5 x6 x7 x8 x9 y3 y8 y9 : Value) : (((#[x0, x1, x2, x3, x4, x5, x6, x7, x8, x9] : Array Value).setIfInBounds 3 y3).setIfInBounds 8 y8).setIfInBounds 9 y9 = #[x0, x1, x2, y3, x4, x5, x6, x7, y8, y9] := by
 simp only [List.setIfInBounds_toArray, List.set_cons_zero, List.set_cons_succ]
theorem puts3 {w w3 W : World} {g : Nat} {t : TypeId} {x0 x1 x2 x3 x4 x5 x6 x7 x8 x9 y3 y8 y9 : Value} (hq : w3.heap[g]? = some (.cells #[x0, x1, x2, x3, x4, x5, x6, x7, x8, x9] t (0, 0))) (hg : w.heap.size <= g) (he : Ext w w3)
  (hW : W = ((w3.setCell ⟨g, 3, none⟩ y3).setCell ⟨g, 8, none⟩ y8).setCell ⟨g, 9, none⟩ y9) :
  W.heap[g]? = some (.cells #[x0, x1, x2, y3, x4, x5, x6, x7, y8, y9] t (0, 0)) /\ Ext w W /\ KeepBut (some g) w3 W /\ W.heap.size = w3.heap.size := by
 subst hW
 refine ⟨?_, ?_, fun b o h hne => ?_, by simp [World.setCell]⟩
 ·rw [<- set3 x0 x1 x2 x3 x4 x5 x6 x7 x8 x9 y3 y8 y9]
  exact bS (bS (bS hq _) _) _
 ·exact ((he.setCell (p := ⟨g, 3, none⟩) hg _).setCell (p := ⟨g, 8, none⟩) hg _).setCell (p := ⟨g, 9, none⟩) hg _
 ·have h2 : b ≠ g := fun e => hne (by rw [e])
  exact bSn (bSn (bSn h _ _ h2) _ _ h2) _ _ h2
theorem strIn_keep {w w' : World} {v : Value} {l : List ByteArray} {g : Nat} {c : Array Value} {f : Nat × Nat} (h : StrIn 0 w v l) (hk : KeepBut (some g) w w') (hs : w.heap.size <= w'.heap.size) (hg : w.heap[g]? = some (.cells c 41 f)) : StrIn 0 w' v l :=
 h.chg okS ⟨hk, hs, fun g' e => by cases e; exact ⟨Nat.zero_le _, _, _, hg⟩⟩ (by decide) (by decide)
structure SayOk (x : BrN) (y : TrN) : Prop where
 dep : y.dep = x.dep
 nm : y.nm = x.nm
 dat : y.dat = x.dat
 ma : y.ma = x.ma
 mi : y.mi = x.mi
 cl : y.cl = x.cl
 kd : (x.kd = 5 /\ y.kd = 4 /\ y.ma = 0 /\ y.mi = 0) \/ (x.kd ≠ 5 /\ y.kd = x.kd /\ ¬ (y.kd = 4 /\ y.ma = 0 /\ y.mi = 0))
theorem baS_sizeD {d : Int} (hd : (dP d.toNat).size <= 30) {s : ByteArray} (h : baE d s = 0) : (baS d s).size <= s.size + 100 := by
 cases ba_is h with
 | plain h1 _ => rw [(ba_of h1).1]; omega
 | mark h1 _ => rw [(ba_of h1).1]; have := cutP_le s (dP d.toNat); omega
 | own h1 _ _ _ =>
  rw [(ba_of h1).1, ByteArray.size_append]
  have h2 := cutP_le s (dP d.toNat)
  have h3 := cutP_le (cutP s (dP d.toNat)) (dI d.toNat)
  omega
theorem ptsP_small {d : Int} (hd : (dP d.toNat).size <= 30) {l : List Attr} (h : chkE l = 0) : (ptsP d l).length <= 6 /\ ∀ a ∈ ptsP d l, a.1.size <= 200 /\ a.2.size <= 200 := by
 have hs := size_of_chk h
 have hl := (chk_parts h).1
 unfold ptsP
 by_cases h3 : listE d l = 0 /\ ptB d l = true
 case neg => rw [if_neg h3]; exact ⟨Nat.zero_le _, fun a ha => by cases ha⟩
 rw [if_pos h3]
 have hok := ptB_iff.1 h3.2
 refine ⟨?_, fun a ha => ?_⟩
 ·rw [(srtA_perm _).length_eq]; exact Nat.le_trans (plR_len d l) hl
 ·have ha := (srtA_perm _).mem_iff.1 ha
  unfold plR at ha
  obtain ⟨y, hy, rfl⟩ := List.mem_map.1 ha
  have hy := (List.mem_filter.1 hy).1
  have := baS_sizeD hd (hok y hy)
  have := hs y hy
  show (baS d y.1).size <= 200 /\ y.2.size <= 200
  omega
theorem small_of {b : List BrN} (hl : b.length <= 1000) (h : ∀ x ∈ b, x.nm.size <= 1000000 /\ x.ats.length <= 1000 /\ (∀ a ∈ x.ats, a.1.size <= 1000000 /\ a.2.size <= 1000000) /\ x.red.length <= 1000 /\ ∀ s ∈ x.red, s.size <= 1000000) : SmallB b where
 tree := fun y hy => by
  unfold plT at hy
  obtain ⟨x, hx, rfl⟩ := List.mem_map.1 hy
  obtain ⟨h1, h2, h3, _⟩ := h x hx
  exact ⟨h1, h3, by show x.ats.length <= _; omega⟩
 ats := fun x hx => (h x hx).2.1
 red := fun x hx => (h x hx).2.2.2
 len := hl
structure RbR (g : Nat) (w w' : World) : Prop where
 below : Below g w w'
 keep : KeepBut (some g) w w'
 typed : (∃ c, w.heap[g]? = some (.cells c 43 (0, 0))) -> ∃ c, w'.heap[g]? = some (.cells c 43 (0, 0))
theorem RbR.trans {g : Nat} {w w' w'' : World} (h : RbR g w w') (k : RbR g w' w'') : RbR g w w'' := ⟨h.below.trans k.below, fun b o hb hne => k.keep b o (h.keep b o hb hne) hne, fun ht => k.typed (h.typed ht)⟩
theorem rb_ext {g : Nat} {w w' : World} (hg : g <= w.heap.size) (he : Ext w w') : RbR g w w' := ⟨Below.mono he hg, fun _ _ h _ => bX he h, fun ⟨c, h⟩ => ⟨c, bX he h⟩⟩
theorem rb_set {g j : Nat} {w : World} {c : Array Value} (hq : w.heap[g]? = some (.cells c 43 (0, 0))) (v : Value) : RbR g w (w.setCell ⟨g, j, none⟩ v) :=
 ⟨(bR g w).setCell (p := ⟨g, j, none⟩) (Nat.le_refl _) v, fun _ _ h hne => bSn h _ _ (fun e => hne (by rw [e])), fun _ => ⟨_, bS hq _⟩⟩
def oencG (g : Nat) (x : TrN) (va : Value) (l : List Attr) : Bool -> World -> Prop
 | false, w => w.heap[g]? = some (.cells #[.int .i64 x.dep, .string x.nm, .int .i64 x.kd, va, .string x.dat, .int .i64 x.ma, .int .i64 x.mi, .int .i64 x.cl] 43 (0, 0))
 | true, w => ∃ a c, w.heap[g]? = some (.cells #[.int .i64 x.dep, .string x.nm, .int .i64 x.kd, .slice a l.length c, .string x.dat, .int .i64 x.ma, .int .i64 x.mi, .int .i64 x.cl] 43 (0, 0)) /\ AttT w (.slice a l.length c) l
theorem oencG_ext {g : Nat} {x : TrN} {va : Value} {l : List Attr} : ∀ {z : Bool} {w w' : World}, oencG g x va l z w -> Ext w w' -> oencG g x va l z w'
 | false, _, _, h, he => bX he h
 | true, _, _, ⟨a, c, h, h2⟩, he => ⟨a, c, bX he h, h2.ext he⟩
theorem oencG_blk {g : Nat} {x : TrN} {va : Value} {l : List Attr} : ∀ {z : Bool} {w : World}, oencG g x va l z w -> ∃ c, w.heap[g]? = some (.cells c 43 (0, 0))
 | false, _, h => ⟨_, h⟩
 | true, _, ⟨_, _, h, _⟩ => ⟨_, h⟩
theorem oencG_fin {g : Nat} {x : TrN} {va : Value} {l : List Attr} {z : Bool} {w : World} (h : oencG g x va l z w) (w' : World) (he : Ext w w') : RbR g w w' /\ oencG g x va l z w' := by
 obtain ⟨c, hc⟩ := oencG_blk h
 exact ⟨rb_ext (Nat.le_of_lt (bL hc)) he, oencG_ext h he⟩
theorem encEnd {w w5 : World} {x0 x1 x2 x3 x4 x5 x6 x7 va : Value} {l : List Attr} (hq : w5.heap[w.heap.size]? = some (.cells #[x0, x1, x2, x3, x4, x5, x6, x7] 43 (0, 0))) (he : Ext w w5) (ha : AttT w5 va l) :
  (w5.setCell ⟨w.heap.size, 3, none⟩ va).heap[w.heap.size]? = some (.cells #[x0, x1, x2, va, x4, x5, x6, x7] 43 (0, 0)) /\ AttT (w5.setCell ⟨w.heap.size, 3, none⟩ va) va l /\ Ext w (w5.setCell ⟨w.heap.size, 3, none⟩ va) := by
 refine ⟨bS hq _, ?_, he.setCell (p := ⟨w.heap.size, 3, none⟩) (Nat.le_refl _) _⟩
 exact attT_keep ha (fun b o h hne => bSn h _ _ (fun e => hne (by rw [e]))) (by simp [World.setCell]) hq (by decide)
theorem one_in (W w' : World) (n v : ByteArray) (k : Nat) (hk : k = W.heap.size) (he : Ext (W.alloc (.cells #[.string n, .string v] 45)) w') (B : Nat) : AttIn B w' (.slice (some ⟨k, 0, none⟩) 1 1) [(n, v)] :=
 (listIn_new okA W (n, v) [.string n, .string v] k hk rfl).ext okA he
def NewL {α : Type} (C : Cd α) (w : World) (n : Nat) (l : List α) (e : Ending) (w' : World) : Prop := (∃ g c, e = .returned (.slice (some ⟨g, 0, none⟩) n c) /\ OwnL C w.heap.size w' (.slice (some ⟨g, 0, none⟩) n c) l /\ w.heap.size <= g /\ g < w'.heap.size) /\ Ext w w'
theorem put_ats {B : Nat} {w : World} {g c k : Nat} {l : List TrN} {x : TrN} {u : Value} {a : List Attr} (h : OwnL cdT B w (.slice (some ⟨g, 0, none⟩) l.length c) l) (hk : k < l.length) (hx : l[k]'hk = x) (ha : AttIn B w u a) :
  OwnL cdT B (w.setCell ⟨g, k * 8 + 3, none⟩ u) (.slice (some ⟨g, 0, none⟩) l.length c) (l.set k { x with ats := a }) :=
 (h.store okT k hk 3 (by decide) u { x with ats := a } (fun cs hr => by
  obtain ⟨va, _, rfl⟩ := hr
  rw [hx]; exact ⟨u, ha, rfl⟩)).1
theorem put_kd {B : Nat} {w : World} {g c k : Nat} {l : List BrN} {x : BrN} {n : Int} (h : OwnL cdB B w (.slice (some ⟨g, 0, none⟩) l.length c) l) (hk : k < l.length) (hx : l[k]'hk = x) :
  OwnL cdB B (w.setCell ⟨g, k * 10 + 2, none⟩ (.int .i64 n)) (.slice (some ⟨g, 0, none⟩) l.length c) (l.set k { x with kd := n }) :=
 (h.store okB k hk 2 (by decide) _ { x with kd := n } (fun cs hr => by
  subst hx
  obtain ⟨va, vr, h1, h2, rfl⟩ := hr
  exact ⟨va, vr, h1, h2, rfl⟩)).1
theorem at_ats {B : Nat} {w : World} {g n c : Nat} {l : List TrN} (h : OwnL cdT B w (.slice (some ⟨g, 0, none⟩) n c) l) (k : Nat) (hk : k < l.length) : ∃ u, w.cell? ⟨g, k * 8 + 3, none⟩ = some u /\ AttIn B w u (l[k]'hk).ats := by
 obtain ⟨b, off, va, e, _, h1, _, _, _, h3, _⟩ := (h.in okT).tr k hk
 cases e
 rw [Nat.zero_add] at h3
 exact ⟨va, h3, h1⟩
theorem at_kd {B : Nat} {w : World} {g n c : Nat} {l : List BrN} (h : OwnL cdB B w (.slice (some ⟨g, 0, none⟩) n c) l) (k : Nat) (hk : k < l.length) : w.cell? ⟨g, k * 10 + 2, none⟩ = some (.int .i64 (l[k]'hk).kd) := by
 obtain ⟨b, off, va, vr, e, _, _, _, _, _, h3, _⟩ := (h.in okB).br k hk
 cases e
 rw [Nat.zero_add] at h3
 exact h3
def gnB (E : DeN -> Int) (l : List DeN) (i : Nat) : Bool := E (getE l i) != 0
def gnT (E : DeN -> Int) (l : List DeN) : Int × Int :=
 match findB (gnB E l) 0 l.length with
 | some i => (i, E (getE l i))
 | none => (0, 0)
theorem gnT_no {E : DeN -> Int} {l : List DeN} {i : Nat} (hi : i < l.length) (hl : ∀ j, j < i -> E (getE l j) = 0) (he : E (getE l i) ≠ 0) : gnT E l = ((i : Int), E (getE l i)) := by
 unfold gnT; rw [findB_some l.length 0 i (Nat.zero_le _) (by omega) (fun j _ hj => by unfold gnB; rw [hl j hj]; rfl) (show gnB E l i = true from bne_iff_ne.2 he)]
theorem gnT_ok {E : DeN -> Int} {l : List DeN} (hl : ∀ j, j < l.length -> E (getE l j) = 0) : gnT E l = (0, 0) := by
 unfold gnT; rw [findB_none l.length 0 (fun j _ hj => by unfold gnB; rw [hl j (by omega)]; rfl)]
theorem gnT_zero {E : DeN -> Int} {l : List DeN} (h : (gnT E l).2 = 0) : (gnT E l).1 = 0 /\ ∀ j, j < l.length -> E (getE l j) = 0 := by
 unfold gnT at *
 cases hf : findB (gnB E l) 0 l.length with
 | some i => rw [hf] at h; exact absurd h (bne_iff_ne.1 (findB_mem _ _ _ hf).1)
 | none => exact ⟨rfl, fun j hj => bne_eq_false_iff_eq.1 (findB_none_iff _ _ hf j (Nat.zero_le _) (by omega))⟩
def kdN (k : Int) : TrN := ⟨0, ⟨#[]⟩, k, [], ⟨#[]⟩, 0, 0, 0⟩
def zbE (o : Bool) (x : DeN) : Prop := x.wh = true \/ (zeroB x.nd = true /\ (x.nd.ats ≠ [] \/ 1 < x.ns \/ o = true))
instance (o : Bool) (x : DeN) : Decidable (zbE o x) := by unfold zbE; infer_instance
theorem one_book (own : List Attr) : bookE own 1 = if isM own nlW = true then 18 else 0 := by
 cases h : isM own nlW with
 | true => rw [if_pos rfl]; exact book_no (fun e => by rw [h] at e; exact absurd e.1 (by decide))
 | false =>
  rw [if_neg Bool.false_ne_true]
  refine book_ok (by rw [h]; decide) ?_
  rw [link_one (by decide)]
  unfold valM
  unfold isM at h
  cases hg : getM own nlW with
  | none => rfl
  | some v => rw [hg] at h; cases h
theorem ent_kind {o : Bool} {z : ByteArray} {x : DeN} (h : entX o z x = 0) : x.wh = (x.nd.kd == 5) /\ (x.nd.kd = 5 -> o = false) := by
 have hm := (ent_parts h).2.2.2.2.2.2.2.2.2
 unfold markB at hm
 simp only [Bool.or_eq_false_iff] at hm
 obtain ⟨⟨⟨_, h2⟩, h3⟩, _⟩ := hm
 refine ⟨bne_eq_false_iff_eq.1 h3, fun hk => ?_⟩
 rw [hk] at h2
 cases o with
 | false => rfl
 | true => rw [Bool.or_true, Bool.and_true] at h2; cases h2
end Go.Proofs.YtimpejaaeinplaaGreatDoor
