/- overlay.neutral. -/
/- overlay.neutral, where the marks have not the form. -/
/- overlay.neutral, where the marks have the form. -/
import Derived.Test.YtiliglpolcpnbaaGreatDoorQRInG
import Derived.Deep.DeepCutAuto
import Derived.StillTailTactics
import Derived.Deep.RegionLaw
namespace Go.Proofs.YtiliglpolcpnbaaGreatDoor
open Go.RowKit

/-- The error of a raw node, and the node of a branch that it is. -/
def ndE (x : TrN) (rt : Bool) (n : Int) : Int :=
  if zeroB x = true then (if x.ats ≠ [] ∨ x.cl ≠ 0 then 6 else 0)
  else if x.kd = 5 then 6
  else if ptsE 1 x.ats ≠ 0 then ptsE 1 x.ats
  else if turnE (ptsO 1 x.ats) ≠ 0 ∨ ((isM (ptsO 1 x.ats) opqW || isM (ptsO 1 x.ats) reW) = true ∧ x.kd ≠ 1) ∨ (rt = true ∧ isM (ptsO 1 x.ats) reW = true) then 6
  else bookE (ptsO 1 x.ats) n
def ndX (x : TrN) : BrN :=
  if zeroB x = true then ⟨⟨x.dep, x.nm, 5, [], ⟨#[]⟩, 0, 0, 0⟩, false, []⟩
  else ⟨{ x with ats := ptsP 1 x.ats }, turnO (ptsO 1 x.ats), turnR (ptsO 1 x.ats)⟩
theorem odE_nd (t : List TrN) (i : Nat) : odE t i = ndE (getT t i) (decide (i = 0)) (manyT t (getT t i).cl) := by
  unfold odE ndE
  simp only [decide_eq_true_eq]
theorem odX_nd (t : List TrN) (i : Nat) : odX t i = ndX (getT t i) := rfl
/-- What 'neutral' leaves. -/
structure NeutP (w : World) (x : TrN) (rt : Bool) (n : Int) (e : Ending) (w' : World) : Prop where
  ex : ∃ (y : BrN) (va vr : Value), e = .returned (.tuple #[brV y va vr, .int .i64 (ndE x rt n)]) ∧ (∃ a k c, va = .slice a k c) ∧ (∃ a k c, vr = .slice a k c) ∧ (ndE x rt n = 0 → y = ndX x ∧ AttT w' va y.ats ∧ StrIn 0 w' vr y.red)
  ext : Ext w w'
/-- A device 0/0 has no data. -/
theorem zero_node {x : TrN} (h : zeroB x = true) (hk : kindE x = 0) (h2 : ¬ (x.ats ≠ [] ∨ x.cl ≠ 0)) : ndX x = ⟨{ x with kd := 5 }, false, []⟩ := by
  obtain ⟨h3, h4, h5⟩ := zeroB_iff.1 h
  have hd := kind_char hk h3
  have ha : x.ats = [] := Decidable.not_not.1 fun e => h2 (.inl e)
  have hc : x.cl = 0 := Decidable.not_not.1 fun e => h2 (.inr e)
  unfold ndX
  rw [if_pos h]
  obtain ⟨dep, nm, kd, ats, dat, ma, mi, cl⟩ := x
  simp only at ha hc hd h3 h4 h5
  subst ha hc hd h4 h5
  rfl
theorem set10 (x0 x1 x2 x3 x4 x5 x6 x7 x8 x9 y0 y1 y2 y3 y4 y5 y6 y7 y8 y9 : Value) : setA #[x0, x1, x2, x3, x4, x5, x6, x7, x8, x9] 0 [y0, y1, y2, y3, y4, y5, y6, y7, y8, y9] = #[y0, y1, y2, y3, y4, y5, y6, y7, y8, y9] := by
  simp only [setA, List.setIfInBounds_toArray, List.set_cons_zero, List.set_cons_succ]
theorem put10 {w w1 W2 : World} {b : Nat} {t : TypeId} {x0 x1 x2 x3 x4 x5 x6 x7 x8 x9 y0 y1 y2 y3 y4 y5 y6 y7 y8 y9 : Value} (hq : w1.heap[b]? = some (.cells #[x0, x1, x2, x3, x4, x5, x6, x7, x8, x9] t (0, 0))) (hb : w.heap.size ≤ b) (he : Ext w w1) (hW : W2 = setL w1 b 0 [y0, y1, y2, y3, y4, y5, y6, y7, y8, y9]) :
    W2.heap[b]? = some (.cells #[y0, y1, y2, y3, y4, y5, y6, y7, y8, y9] t (0, 0)) ∧ Ext w W2 := by
  subst hW
  refine ⟨?_, setL_below hb _ _ _ he⟩
  rw [setL_blk _ _ _ _ hq, set10]
theorem put10a {w w1 W2 : World} {b : Nat} {o : Obj} {t : TypeId} {x0 x1 x2 x3 x4 x5 x6 x7 x8 x9 y0 y1 y2 y3 y4 y5 y6 y7 y8 y9 : Value} (hq : w1.heap[b]? = some (.cells #[x0, x1, x2, x3, x4, x5, x6, x7, x8, x9] t (0, 0))) (hb : w.heap.size ≤ b) (he : Ext w w1) (hW : W2 = (setL w1 b 0 [y0, y1, y2, y3, y4, y5, y6, y7, y8, y9]).alloc o) :
    W2.heap[b]? = some (.cells #[y0, y1, y2, y3, y4, y5, y6, y7, y8, y9] t (0, 0)) ∧ Ext w W2 := by
  obtain ⟨h1, h2⟩ := put10 hq hb he rfl
  subst hW
  exact ⟨blk_alloc h1, h2.trans (ext_alloc _ _)⟩
set_option maxRecDepth 100000 in
set_option maxHeartbeats 8000000 in
theorem neutE (x : TrN) (va : Value) (rt : Bool) (n : Int) (w : World) (hL : LaidO w) (hv : AttrsAt w va x.ats) (hm : Small x.ats) (hk : kindE x = 0) (hs : zeroB x = true ∨ x.kd = 5 ∨ ptsE 1 x.ats ≠ 0) :
    Calls Tryz.prog 55 #[trV x va, .bool rt, .int .i64 n] w (NeutP w x rt n) := by
  obtain ⟨a3, cap3, rfl, hcap, hc⟩ := hv
  have HV := Lib.hid (show AttrsAt w (.slice a3 x.ats.length cap3) x.ats from ⟨a3, cap3, rfl, hcap, hc⟩)
  have HL := Lib.hid hL; have HM := Lib.hid hm; have HK := Lib.hid hk
  clear hcap hc hL hm hk
  unfold trV
  cases hz : zeroB x with
  | true =>
    have HZ := Lib.hid hz
    by_cases hb : x.ats ≠ [] ∨ x.cl ≠ 0
    · have HE : Hid (ndE x rt n = 6) := Lib.hid (by unfold ndE; rw [if_pos hz, if_pos hb])
      have HBD := Lib.hid hb
      by_cases hl : 0 < x.ats.length
      · have hl' := lenP hl
        clear hb hz
        go_enter Tryz.func55, Tryz.ntmps55
        go_wp2_with fail
        refine (ovZero x _ ⟨_, _, _, rfl⟩ _).mono ?_
        rintro e w1 ⟨rfl, hb1⟩
        rw [HZ.out]
        have QX : Hid (w1.heap[w.heap.size]? = some (.cells #[.int .i64 x.dep, .string x.nm, .int .i64 x.kd, .slice a3 x.ats.length cap3, .string x.dat, .int .i64 x.ma, .int .i64 x.mi, .int .i64 x.cl] 43 (0, 0))) := Lib.hid (blk_ext hb1 (blk_alloc (blk_new w _)))
        have QN : Hid (w1.heap[w.heap.size + 1]? = some (.cells #[.int .i64 x.dep, .string x.nm, .int .i64 x.kd, .slice none 0 0, .string x.dat, .int .i64 x.ma, .int .i64 x.mi, .int .i64 x.cl, .bool false, .slice none 0 0] 41 (0, 0))) := Lib.hid (blk_ext hb1 (blk_at (by simp)))
        have E1 : Hid (Ext w w1) := Lib.hid (((ext_alloc _ _).trans (ext_alloc _ _)).trans hb1)
        clear hb1
        have c0 := blk_cell QX.out 0; have c1 := blk_cell QX.out 1; have c2 := blk_cell QX.out 2; have c3 := blk_cell QX.out 3; have c4 := blk_cell QX.out 4; have c5 := blk_cell QX.out 5; have c6 := blk_cell QX.out 6; have c7 := blk_cell QX.out 7; have d0 := blk_cell QN.out 0; have d1 := blk_cell QN.out 1; have d2 := blk_cell QN.out 2; have d3 := blk_cell QN.out 3; have d4 := blk_cell QN.out 4; have d5 := blk_cell QN.out 5; have d6 := blk_cell QN.out 6; have d7 := blk_cell QN.out 7; have d8 := blk_cell QN.out 8; have d9 := blk_cell QN.out 9; have fz := fun j => blk_thaw QN.out j; have z1 := blk_lt QX.out; have z2 := blk_lt QN.out
        go_wp2_with fail
        refine name_world (P := fun W => bodyPost _ _ _ _ _ W) _ ?_
        intro W2 hW2
        have hW3 : W2 = setL (w1.setCell ⟨w.heap.size + 1, 2, none⟩ (.int .i64 5)) (w.heap.size + 1) 0 [.int .i64 x.dep, .string x.nm, .int .i64 5, .slice none 0 0, .string x.dat, .int .i64 x.ma, .int .i64 x.mi, .int .i64 x.cl, .bool false, .slice none 0 0] := hW2
        obtain ⟨hq, hx⟩ := put10 (w := w) (show (w1.setCell ⟨w.heap.size + 1, 2, none⟩ (.int .i64 5)).heap[w.heap.size + 1]? = some (.cells #[.int .i64 x.dep, .string x.nm, .int .i64 5, .slice none 0 0, .string x.dat, .int .i64 x.ma, .int .i64 x.mi, .int .i64 x.cl, .bool false, .slice none 0 0] 41 (0, 0)) from blk_setCell QN.out _) (by omega) (Below.setCell (p := ⟨w.heap.size + 1, 2, none⟩) E1.out (by show w.heap.size ≤ w.heap.size + 1; omega) _) hW3
        refine bodyPost_ret (v := .tuple #[.agg #[.int .i64 x.dep, .string x.nm, .int .i64 5, .slice none 0 0, .string x.dat, .int .i64 x.ma, .int .i64 x.mi, .int .i64 x.cl, .bool false, .slice none 0 0], .int .i64 6]) (by simp [results, Tryz.f55, go_sem, blk_cell hq 0, blk_cell hq 1, blk_cell hq 2, blk_cell hq 3, blk_cell hq 4, blk_cell hq 5, blk_cell hq 6, blk_cell hq 7, blk_cell hq 8, blk_cell hq 9]) rfl ?_
        exact ⟨⟨⟨{ x with ats := [], kd := 5 }, false, []⟩, .slice none 0 0, .slice none 0 0, by rw [HE.out], ⟨_, _, _, rfl⟩, ⟨_, _, _, rfl⟩, fun h => by rw [HE.out] at h; cases h⟩, hx⟩
      · have hl' := lenZ hl
        have q1 : (x.cl != 0) = true := bne_iff_ne.2 (HBD.out.resolve_left fun e => e (List.length_eq_zero_iff.1 (by omega)))
        clear hb hz
        go_enter Tryz.func55, Tryz.ntmps55
        go_wp2_with fail
        refine (ovZero x _ ⟨_, _, _, rfl⟩ _).mono ?_
        rintro e w1 ⟨rfl, hb1⟩
        rw [HZ.out]
        have QX : Hid (w1.heap[w.heap.size]? = some (.cells #[.int .i64 x.dep, .string x.nm, .int .i64 x.kd, .slice a3 x.ats.length cap3, .string x.dat, .int .i64 x.ma, .int .i64 x.mi, .int .i64 x.cl] 43 (0, 0))) := Lib.hid (blk_ext hb1 (blk_alloc (blk_new w _)))
        have QN : Hid (w1.heap[w.heap.size + 1]? = some (.cells #[.int .i64 x.dep, .string x.nm, .int .i64 x.kd, .slice none 0 0, .string x.dat, .int .i64 x.ma, .int .i64 x.mi, .int .i64 x.cl, .bool false, .slice none 0 0] 41 (0, 0))) := Lib.hid (blk_ext hb1 (blk_at (by simp)))
        have E1 : Hid (Ext w w1) := Lib.hid (((ext_alloc _ _).trans (ext_alloc _ _)).trans hb1)
        clear hb1
        have c0 := blk_cell QX.out 0; have c1 := blk_cell QX.out 1; have c2 := blk_cell QX.out 2; have c3 := blk_cell QX.out 3; have c4 := blk_cell QX.out 4; have c5 := blk_cell QX.out 5; have c6 := blk_cell QX.out 6; have c7 := blk_cell QX.out 7; have d0 := blk_cell QN.out 0; have d1 := blk_cell QN.out 1; have d2 := blk_cell QN.out 2; have d3 := blk_cell QN.out 3; have d4 := blk_cell QN.out 4; have d5 := blk_cell QN.out 5; have d6 := blk_cell QN.out 6; have d7 := blk_cell QN.out 7; have d8 := blk_cell QN.out 8; have d9 := blk_cell QN.out 9; have fz := fun j => blk_thaw QN.out j; have z1 := blk_lt QX.out; have z2 := blk_lt QN.out
        go_wp2_with fail
        refine name_world (P := fun W => bodyPost _ _ _ _ _ W) _ ?_
        intro W2 hW2
        have hW3 : W2 = setL (w1.setCell ⟨w.heap.size + 1, 2, none⟩ (.int .i64 5)) (w.heap.size + 1) 0 [.int .i64 x.dep, .string x.nm, .int .i64 5, .slice none 0 0, .string x.dat, .int .i64 x.ma, .int .i64 x.mi, .int .i64 x.cl, .bool false, .slice none 0 0] := hW2
        obtain ⟨hq, hx⟩ := put10 (w := w) (show (w1.setCell ⟨w.heap.size + 1, 2, none⟩ (.int .i64 5)).heap[w.heap.size + 1]? = some (.cells #[.int .i64 x.dep, .string x.nm, .int .i64 5, .slice none 0 0, .string x.dat, .int .i64 x.ma, .int .i64 x.mi, .int .i64 x.cl, .bool false, .slice none 0 0] 41 (0, 0)) from blk_setCell QN.out _) (by omega) (Below.setCell (p := ⟨w.heap.size + 1, 2, none⟩) E1.out (by show w.heap.size ≤ w.heap.size + 1; omega) _) hW3
        refine bodyPost_ret (v := .tuple #[.agg #[.int .i64 x.dep, .string x.nm, .int .i64 5, .slice none 0 0, .string x.dat, .int .i64 x.ma, .int .i64 x.mi, .int .i64 x.cl, .bool false, .slice none 0 0], .int .i64 6]) (by simp [results, Tryz.f55, go_sem, blk_cell hq 0, blk_cell hq 1, blk_cell hq 2, blk_cell hq 3, blk_cell hq 4, blk_cell hq 5, blk_cell hq 6, blk_cell hq 7, blk_cell hq 8, blk_cell hq 9]) rfl ?_
        exact ⟨⟨⟨{ x with ats := [], kd := 5 }, false, []⟩, .slice none 0 0, .slice none 0 0, by rw [HE.out], ⟨_, _, _, rfl⟩, ⟨_, _, _, rfl⟩, fun h => by rw [HE.out] at h; cases h⟩, hx⟩
    · have HE : Hid (ndE x rt n = 0) := Lib.hid (by unfold ndE; rw [if_pos hz, if_neg hb])
      have HNX := Lib.hid (zero_node hz HK.out hb)
      have hl' := lenZ (n := x.ats.length) (fun h => hb (.inl (fun e => by rw [e] at h; exact absurd h (by decide))))
      have q1 : (x.cl != 0) = false := bne_eq_false_iff_eq.2 (Decidable.not_not.1 fun e => hb (.inr e))
      have HA0 : Hid (x.ats = []) := Lib.hid (Decidable.not_not.1 fun e => hb (.inl e))
      clear hb hz
      go_enter Tryz.func55, Tryz.ntmps55
      go_wp2_with fail
      refine (ovZero x _ ⟨_, _, _, rfl⟩ _).mono ?_
      rintro e w1 ⟨rfl, hb1⟩
      rw [HZ.out]
      have QX : Hid (w1.heap[w.heap.size]? = some (.cells #[.int .i64 x.dep, .string x.nm, .int .i64 x.kd, .slice a3 x.ats.length cap3, .string x.dat, .int .i64 x.ma, .int .i64 x.mi, .int .i64 x.cl] 43 (0, 0))) := Lib.hid (blk_ext hb1 (blk_alloc (blk_new w _)))
      have QN : Hid (w1.heap[w.heap.size + 1]? = some (.cells #[.int .i64 x.dep, .string x.nm, .int .i64 x.kd, .slice none 0 0, .string x.dat, .int .i64 x.ma, .int .i64 x.mi, .int .i64 x.cl, .bool false, .slice none 0 0] 41 (0, 0))) := Lib.hid (blk_ext hb1 (blk_at (by simp)))
      have E1 : Hid (Ext w w1) := Lib.hid (((ext_alloc _ _).trans (ext_alloc _ _)).trans hb1)
      clear hb1
      have c0 := blk_cell QX.out 0; have c1 := blk_cell QX.out 1; have c2 := blk_cell QX.out 2; have c3 := blk_cell QX.out 3; have c4 := blk_cell QX.out 4; have c5 := blk_cell QX.out 5; have c6 := blk_cell QX.out 6; have c7 := blk_cell QX.out 7; have d0 := blk_cell QN.out 0; have d1 := blk_cell QN.out 1; have d2 := blk_cell QN.out 2; have d3 := blk_cell QN.out 3; have d4 := blk_cell QN.out 4; have d5 := blk_cell QN.out 5; have d6 := blk_cell QN.out 6; have d7 := blk_cell QN.out 7; have d8 := blk_cell QN.out 8; have d9 := blk_cell QN.out 9; have fz := fun j => blk_thaw QN.out j; have z1 := blk_lt QX.out; have z2 := blk_lt QN.out
      go_wp2_with fail
      refine name_world (P := fun W => bodyPost _ _ _ _ _ W) _ ?_
      intro W2 hW2
      have hW3 : W2 = setL (w1.setCell ⟨w.heap.size + 1, 2, none⟩ (.int .i64 5)) (w.heap.size + 1) 0 [.int .i64 x.dep, .string x.nm, .int .i64 5, .slice none 0 0, .string x.dat, .int .i64 x.ma, .int .i64 x.mi, .int .i64 x.cl, .bool false, .slice none 0 0] := hW2
      obtain ⟨hq, hx⟩ := put10 (w := w) (show (w1.setCell ⟨w.heap.size + 1, 2, none⟩ (.int .i64 5)).heap[w.heap.size + 1]? = some (.cells #[.int .i64 x.dep, .string x.nm, .int .i64 5, .slice none 0 0, .string x.dat, .int .i64 x.ma, .int .i64 x.mi, .int .i64 x.cl, .bool false, .slice none 0 0] 41 (0, 0)) from blk_setCell QN.out _) (by omega) (Below.setCell (p := ⟨w.heap.size + 1, 2, none⟩) E1.out (by show w.heap.size ≤ w.heap.size + 1; omega) _) hW3
      refine bodyPost_ret (v := .tuple #[.agg #[.int .i64 x.dep, .string x.nm, .int .i64 5, .slice none 0 0, .string x.dat, .int .i64 x.ma, .int .i64 x.mi, .int .i64 x.cl, .bool false, .slice none 0 0], .int .i64 0]) (by simp [results, Tryz.f55, go_sem, blk_cell hq 0, blk_cell hq 1, blk_cell hq 2, blk_cell hq 3, blk_cell hq 4, blk_cell hq 5, blk_cell hq 6, blk_cell hq 7, blk_cell hq 8, blk_cell hq 9]) rfl ?_
      refine ⟨⟨⟨{ x with kd := 5 }, false, []⟩, .slice none 0 0, .slice none 0 0, by rw [HE.out], ⟨_, _, _, rfl⟩, ⟨_, _, _, rfl⟩, fun _ => ⟨HNX.out.symm, ?_, strIn_nil _ _ _⟩⟩, hx⟩
      show AttT W2 (.slice none 0 0) x.ats
      rw [HA0.out]; exact AttT.nil _ _ _ (AttrsAt.nil _ _ _)
  | false =>
    have HZ := Lib.hid hz
    by_cases hw : x.kd = 5
    · have HE : Hid (ndE x rt n = 6) := Lib.hid (by unfold ndE; rw [if_neg (by rw [hz]; exact Bool.false_ne_true), if_pos hw])
      have q1 : (x.kd == 5) = true := beq_iff_eq.2 hw
      clear hw hz
      go_enter Tryz.func55, Tryz.ntmps55
      go_wp2_with fail
      refine (ovZero x _ ⟨_, _, _, rfl⟩ _).mono ?_
      rintro e w1 ⟨rfl, hb1⟩
      rw [HZ.out]
      have QX : Hid (w1.heap[w.heap.size]? = some (.cells #[.int .i64 x.dep, .string x.nm, .int .i64 x.kd, .slice a3 x.ats.length cap3, .string x.dat, .int .i64 x.ma, .int .i64 x.mi, .int .i64 x.cl] 43 (0, 0))) := Lib.hid (blk_ext hb1 (blk_alloc (blk_new w _)))
      have QN : Hid (w1.heap[w.heap.size + 1]? = some (.cells #[.int .i64 x.dep, .string x.nm, .int .i64 x.kd, .slice none 0 0, .string x.dat, .int .i64 x.ma, .int .i64 x.mi, .int .i64 x.cl, .bool false, .slice none 0 0] 41 (0, 0))) := Lib.hid (blk_ext hb1 (blk_at (by simp)))
      have E1 : Hid (Ext w w1) := Lib.hid (((ext_alloc _ _).trans (ext_alloc _ _)).trans hb1)
      clear hb1
      have c0 := blk_cell QX.out 0; have c1 := blk_cell QX.out 1; have c2 := blk_cell QX.out 2; have c3 := blk_cell QX.out 3; have c4 := blk_cell QX.out 4; have c5 := blk_cell QX.out 5; have c6 := blk_cell QX.out 6; have c7 := blk_cell QX.out 7; have d0 := blk_cell QN.out 0; have d1 := blk_cell QN.out 1; have d2 := blk_cell QN.out 2; have d3 := blk_cell QN.out 3; have d4 := blk_cell QN.out 4; have d5 := blk_cell QN.out 5; have d6 := blk_cell QN.out 6; have d7 := blk_cell QN.out 7; have d8 := blk_cell QN.out 8; have d9 := blk_cell QN.out 9; have fz := fun j => blk_thaw QN.out j; have z1 := blk_lt QX.out; have z2 := blk_lt QN.out
      go_wp2_with fail
      refine name_world (P := fun W => bodyPost _ _ _ _ _ W) _ ?_
      intro W2 hW2
      have hW3 : W2 = setL w1 (w.heap.size + 1) 0 [.int .i64 x.dep, .string x.nm, .int .i64 x.kd, .slice none 0 0, .string x.dat, .int .i64 x.ma, .int .i64 x.mi, .int .i64 x.cl, .bool false, .slice none 0 0] := hW2
      obtain ⟨hq, hx⟩ := put10 (w := w) QN.out (by omega) E1.out hW3
      refine bodyPost_ret (v := .tuple #[.agg #[.int .i64 x.dep, .string x.nm, .int .i64 x.kd, .slice none 0 0, .string x.dat, .int .i64 x.ma, .int .i64 x.mi, .int .i64 x.cl, .bool false, .slice none 0 0], .int .i64 6]) (by simp [results, Tryz.f55, go_sem, blk_cell hq 0, blk_cell hq 1, blk_cell hq 2, blk_cell hq 3, blk_cell hq 4, blk_cell hq 5, blk_cell hq 6, blk_cell hq 7, blk_cell hq 8, blk_cell hq 9]) rfl ?_
      exact ⟨⟨⟨{ x with ats := [] }, false, []⟩, .slice none 0 0, .slice none 0 0, by rw [HE.out], ⟨_, _, _, rfl⟩, ⟨_, _, _, rfl⟩, fun h => by rw [HE.out] at h; cases h⟩, hx⟩
    have q1 : (x.kd == 5) = false := beq_eq_false_iff_ne.2 hw
    by_cases hp : ptsE 1 x.ats = 0
    case neg =>
      have HE : Hid (ndE x rt n = ptsE 1 x.ats) := Lib.hid (by unfold ndE; rw [if_neg (by rw [hz]; exact Bool.false_ne_true), if_neg hw, if_pos hp])
      have HPN := Lib.hid hp
      have q2 : (ptsE 1 x.ats != 0) = true := bne_iff_ne.2 hp
      clear hp hw hz
      go_enter Tryz.func55, Tryz.ntmps55
      go_wp2_with fail
      refine (ovZero x _ ⟨_, _, _, rfl⟩ _).mono ?_
      rintro e w1 ⟨rfl, hb1⟩
      rw [HZ.out]
      have QX : Hid (w1.heap[w.heap.size]? = some (.cells #[.int .i64 x.dep, .string x.nm, .int .i64 x.kd, .slice a3 x.ats.length cap3, .string x.dat, .int .i64 x.ma, .int .i64 x.mi, .int .i64 x.cl] 43 (0, 0))) := Lib.hid (blk_ext hb1 (blk_alloc (blk_new w _)))
      have QN : Hid (w1.heap[w.heap.size + 1]? = some (.cells #[.int .i64 x.dep, .string x.nm, .int .i64 x.kd, .slice none 0 0, .string x.dat, .int .i64 x.ma, .int .i64 x.mi, .int .i64 x.cl, .bool false, .slice none 0 0] 41 (0, 0))) := Lib.hid (blk_ext hb1 (blk_at (by simp)))
      have E1 : Hid (Ext w w1) := Lib.hid (((ext_alloc _ _).trans (ext_alloc _ _)).trans hb1)
      clear hb1
      have c0 := blk_cell QX.out 0; have c1 := blk_cell QX.out 1; have c2 := blk_cell QX.out 2; have c3 := blk_cell QX.out 3; have c4 := blk_cell QX.out 4; have c5 := blk_cell QX.out 5; have c6 := blk_cell QX.out 6; have c7 := blk_cell QX.out 7; have d0 := blk_cell QN.out 0; have d1 := blk_cell QN.out 1; have d2 := blk_cell QN.out 2; have d3 := blk_cell QN.out 3; have d4 := blk_cell QN.out 4; have d5 := blk_cell QN.out 5; have d6 := blk_cell QN.out 6; have d7 := blk_cell QN.out 7; have d8 := blk_cell QN.out 8; have d9 := blk_cell QN.out 9; have fz := fun j => blk_thaw QN.out j; have z1 := blk_lt QX.out; have z2 := blk_lt QN.out
      go_wp2_with fail
      refine (ovRead _ x.ats _ (HL.out.ext E1.out) (HV.out.ext E1.out) HM.out).mono ?_
      rintro e w2 ⟨⟨v2, bm, nm2, rfl, ho2, hm2, hbm⟩, hb2⟩
      have HO2 := Lib.hid ho2; have HM2 := Lib.hid hm2; obtain ⟨a6, cap6, rfl, -, -⟩ := ho2.1
      have QX2 := Lib.hid (blk_ext hb2 QX.out); have QN2 := Lib.hid (blk_ext hb2 QN.out); have E2 := Lib.hid (E1.out.trans hb2)
      clear ho2 hm2 hbm hb2 c0 c1 c2 c3 c4 c5 c6 c7 d0 d1 d2 d3 d4 d5 d6 d7 d8 d9 fz z1 z2
      have c0 := blk_cell QX2.out 0; have c1 := blk_cell QX2.out 1; have c2 := blk_cell QX2.out 2; have c3 := blk_cell QX2.out 3; have c4 := blk_cell QX2.out 4; have c5 := blk_cell QX2.out 5; have c6 := blk_cell QX2.out 6; have c7 := blk_cell QX2.out 7; have d0 := blk_cell QN2.out 0; have d1 := blk_cell QN2.out 1; have d2 := blk_cell QN2.out 2; have d3 := blk_cell QN2.out 3; have d4 := blk_cell QN2.out 4; have d5 := blk_cell QN2.out 5; have d6 := blk_cell QN2.out 6; have d7 := blk_cell QN2.out 7; have d8 := blk_cell QN2.out 8; have d9 := blk_cell QN2.out 9; have fz := fun j => blk_thaw QN2.out j; have z1 := blk_lt QX2.out; have z2 := blk_lt QN2.out
      go_wp2_with fail
      refine name_world (P := fun W => bodyPost _ _ _ _ _ W) _ ?_
      intro W2 hW2
      have hW3 : W2 = (setL w2 (w.heap.size + 1) 0 [.int .i64 x.dep, .string x.nm, .int .i64 x.kd, .slice none 0 0, .string x.dat, .int .i64 x.ma, .int .i64 x.mi, .int .i64 x.cl, .bool false, .slice none 0 0]).alloc (.cells #[.string (valM (ptsO 1 x.ats) opqW), .string (valM (ptsO 1 x.ats) reW), .string (valM (ptsO 1 x.ats) nlW)] 75) := hW2
      obtain ⟨hq, hx⟩ := put10a (w := w) QN2.out (by omega) E2.out hW3
      refine bodyPost_ret (v := .tuple #[.agg #[.int .i64 x.dep, .string x.nm, .int .i64 x.kd, .slice none 0 0, .string x.dat, .int .i64 x.ma, .int .i64 x.mi, .int .i64 x.cl, .bool false, .slice none 0 0], .int .i64 (ptsE 1 x.ats)]) (by simp [results, Tryz.f55, go_sem, blk_cell hq 0, blk_cell hq 1, blk_cell hq 2, blk_cell hq 3, blk_cell hq 4, blk_cell hq 5, blk_cell hq 6, blk_cell hq 7, blk_cell hq 8, blk_cell hq 9]) rfl ?_
      exact ⟨⟨⟨{ x with ats := [] }, false, []⟩, .slice none 0 0, .slice none 0 0, by rw [HE.out], ⟨_, _, _, rfl⟩, ⟨_, _, _, rfl⟩, fun h => by rw [HE.out] at h; exact absurd h HPN.out⟩, hx⟩
    rcases hs with h | h | h
    · rw [hz] at h; cases h
    · exact absurd h hw
    · exact absurd hp h
end Go.Proofs.YtiliglpolcpnbaaGreatDoor

namespace Go.Proofs.YtiliglpolcpnbaaGreatDoor
open Go.RowKit

theorem valM_size {l : List Attr} (hm : Small l) {k : ByteArray} : (valM (ptsO 1 l) k).size ≤ 1000000 := by
  unfold valM
  cases h : getM (ptsO 1 l) k with
  | none => exact Nat.zero_le _
  | some v =>
    have hmem := getM_some h
    unfold ptsO at hmem
    by_cases hc : listE 1 l = 0 ∧ ptB 1 l = true
    · rw [if_pos hc] at hmem
      have hmem := (srtA_perm _).mem_iff.1 hmem
      unfold owR at hmem
      obtain ⟨a, ha, he⟩ := List.mem_map.1 hmem
      have ha := (List.mem_filter.1 ha).1
      have h2 : a.2 = v := congrArg Prod.snd he
      have := (hm a ha).2
      show v.size ≤ _
      rw [← h2]; omega
    · rw [if_neg hc] at hmem; cases hmem
set_option maxRecDepth 100000 in
set_option maxHeartbeats 100000000 in
theorem neutF (x : TrN) (va : Value) (rt : Bool) (n : Int) (w : World) (hL : LaidO w) (hv : AttrsAt w va x.ats) (hm : Small x.ats) (hz : zeroB x = false) (hw : x.kd ≠ 5) (hp : ptsE 1 x.ats = 0) (_hn : n ≤ 1000000) (hc : (turnE (ptsO 1 x.ats) ≠ 0 ∧ isM (ptsO 1 x.ats) opqW = true) ∨ (turnE (ptsO 1 x.ats) ≠ 0 ∧ isM (ptsO 1 x.ats) opqW = false) ∨ (turnE (ptsO 1 x.ats) = 0 ∧ isM (ptsO 1 x.ats) opqW = true ∧ x.kd ≠ 1) ∨ (turnE (ptsO 1 x.ats) = 0 ∧ isM (ptsO 1 x.ats) opqW = false ∧ isM (ptsO 1 x.ats) reW = true ∧ x.kd ≠ 1) ∨ (turnE (ptsO 1 x.ats) = 0 ∧ isM (ptsO 1 x.ats) opqW = true ∧ isM (ptsO 1 x.ats) reW = true ∧ x.kd = 1 ∧ rt = true) ∨ (turnE (ptsO 1 x.ats) = 0 ∧ isM (ptsO 1 x.ats) opqW = false ∧ isM (ptsO 1 x.ats) reW = true ∧ x.kd = 1 ∧ rt = true)) :
    Calls Tryz.prog 55 #[trV x va, .bool rt, .int .i64 n] w (NeutP w x rt n) := by
  obtain ⟨ht, ho⟩ | ⟨ht, ho⟩ | ⟨ht, ho, hk⟩ | ⟨ht, ho, hr, hk⟩ | ⟨ht, ho, hr, hk, hrt⟩ | ⟨ht, ho, hr, hk, hrt⟩ := hc
  all_goals
    have HE : Hid (ndE x rt n = 6) := Lib.hid (by unfold ndE; rw [if_neg (by rw [hz]; exact Bool.false_ne_true), if_neg hw, if_neg (by rw [hp]; exact fun h => h rfl), if_pos (by first | exact .inl ht | exact .inr (.inl ⟨by rw [ho]; rfl, hk⟩) | exact .inr (.inl ⟨by rw [ho, hr]; rfl, hk⟩) | exact .inr (.inr ⟨hrt, hr⟩))])
    first | have q3 : (turnE (ptsO 1 x.ats) != 0) = true := bne_iff_ne.2 ht | have HT0 := Lib.hid ht
    have HOP := Lib.hid ho
    try have HRE := Lib.hid hr
    try first | have q4 : (x.kd != 1) = true := bne_iff_ne.2 hk | have q4 : (x.kd != 1) = false := bne_eq_false_iff_eq.2 hk
    try subst hrt
    try clear hk
    try clear hr
    clear ht ho
    obtain ⟨a3, cap3, rfl, hcap, hc⟩ := hv
    have HV := Lib.hid (show AttrsAt w (.slice a3 x.ats.length cap3) x.ats from ⟨a3, cap3, rfl, hcap, hc⟩)
    have HL := Lib.hid hL; have HM := Lib.hid hm
    have HZ := Lib.hid hz
    have q1 : (x.kd == 5) = false := beq_eq_false_iff_ne.2 hw
    have HPZ := Lib.hid hp
    have HTZ : Hid ((valM (ptsO 1 x.ats) reW).size ≤ 1000000) := Lib.hid (valM_size hm)
    clear hcap hc hL hm hz hw hp
    unfold trV
    go_enter Tryz.func55, Tryz.ntmps55
    go_wp2_with fail
    refine (ovZero x _ ⟨_, _, _, rfl⟩ _).mono ?_
    rintro e w1 ⟨rfl, hb1⟩
    rw [HZ.out]
    have QX : Hid (w1.heap[w.heap.size]? = some (.cells #[.int .i64 x.dep, .string x.nm, .int .i64 x.kd, .slice a3 x.ats.length cap3, .string x.dat, .int .i64 x.ma, .int .i64 x.mi, .int .i64 x.cl] 43 (0, 0))) := Lib.hid (blk_ext hb1 (blk_alloc (blk_new w _)))
    have QN : Hid (w1.heap[w.heap.size + 1]? = some (.cells #[.int .i64 x.dep, .string x.nm, .int .i64 x.kd, .slice none 0 0, .string x.dat, .int .i64 x.ma, .int .i64 x.mi, .int .i64 x.cl, .bool false, .slice none 0 0] 41 (0, 0))) := Lib.hid (blk_ext hb1 (blk_at (by simp)))
    have E1 : Hid (Ext w w1) := Lib.hid (((ext_alloc _ _).trans (ext_alloc _ _)).trans hb1)
    clear hb1
    have c0 := blk_cell QX.out 0; have c1 := blk_cell QX.out 1; have c2 := blk_cell QX.out 2; have c3 := blk_cell QX.out 3; have c4 := blk_cell QX.out 4; have c5 := blk_cell QX.out 5; have c6 := blk_cell QX.out 6; have c7 := blk_cell QX.out 7; have d0 := blk_cell QN.out 0; have d1 := blk_cell QN.out 1; have d2 := blk_cell QN.out 2; have d3 := blk_cell QN.out 3; have d4 := blk_cell QN.out 4; have d5 := blk_cell QN.out 5; have d6 := blk_cell QN.out 6; have d7 := blk_cell QN.out 7; have d8 := blk_cell QN.out 8; have d9 := blk_cell QN.out 9; have fz := fun j => blk_thaw QN.out j; have z1 := blk_lt QX.out; have z2 := blk_lt QN.out
    go_wp2_with fail
    refine (ovRead _ x.ats _ (HL.out.ext E1.out) (HV.out.ext E1.out) HM.out).mono ?_
    rintro e w2 ⟨⟨v2, bm, nm2, rfl, ho2, hm2, hbm⟩, hb2⟩
    rw [HPZ.out]
    have HO2 := Lib.hid ho2; have HM2 := Lib.hid hm2; obtain ⟨a6, cap6, rfl, -, -⟩ := ho2.1
    have QX2 := Lib.hid (blk_ext hb2 QX.out); have QN2 := Lib.hid (blk_ext hb2 QN.out); have E2 := Lib.hid (E1.out.trans hb2)
    clear ho2 hm2 hbm hb2 c0 c1 c2 c3 c4 c5 c6 c7 d0 d1 d2 d3 d4 d5 d6 d7 d8 d9 fz z1 z2
    have c0 := blk_cell QX2.out 0; have c1 := blk_cell QX2.out 1; have c2 := blk_cell QX2.out 2; have c3 := blk_cell QX2.out 3; have c4 := blk_cell QX2.out 4; have c5 := blk_cell QX2.out 5; have c6 := blk_cell QX2.out 6; have c7 := blk_cell QX2.out 7; have d0 := blk_cell QN2.out 0; have d1 := blk_cell QN2.out 1; have d2 := blk_cell QN2.out 2; have d3 := blk_cell QN2.out 3; have d4 := blk_cell QN2.out 4; have d5 := blk_cell QN2.out 5; have d6 := blk_cell QN2.out 6; have d7 := blk_cell QN2.out 7; have d8 := blk_cell QN2.out 8; have d9 := blk_cell QN2.out 9; have fz := fun j => blk_thaw QN2.out j; have z1 := blk_lt QX2.out; have z2 := blk_lt QN2.out
    go_wp2_with fail
    refine (ovTurn (ptsO 1 x.ats) bm nm2 _ (HL.out.ext (E2.out.trans (ext_alloc _ _))) (HM2.out.ext (ext_alloc _ _)) HTZ.out).mono ?_
    rintro e w3 ⟨⟨a7, cap7, rfl, ho3⟩, hb3⟩
    have HO3 := Lib.hid ho3
    have QX3 := Lib.hid (blk_ext hb3 (blk_alloc QX2.out)); have QN3 := Lib.hid (blk_ext hb3 (blk_alloc QN2.out)); have QM3 := Lib.hid (blk_ext hb3 (blk_new w2 _)); have E3 := Lib.hid (E2.out.trans ((ext_alloc _ _).trans hb3)); have F3 := Lib.hid (Ext.trans (ext_alloc _ _) hb3)
    have lkO := thM_lookO (HM2.out.ext (Ext.trans (ext_alloc _ _) hb3)); have lkR := thM_lookR (HM2.out.ext (Ext.trans (ext_alloc _ _) hb3))
    clear ho3 hb3 c0 c1 c2 c3 c4 c5 c6 c7 d0 d1 d2 d3 d4 d5 d6 d7 d8 d9 fz z1 z2
    have c0 := blk_cell QX3.out 0; have c1 := blk_cell QX3.out 1; have c2 := blk_cell QX3.out 2; have c3 := blk_cell QX3.out 3; have c4 := blk_cell QX3.out 4; have c5 := blk_cell QX3.out 5; have c6 := blk_cell QX3.out 6; have c7 := blk_cell QX3.out 7; have d0 := blk_cell QN3.out 0; have d1 := blk_cell QN3.out 1; have d2 := blk_cell QN3.out 2; have d3 := blk_cell QN3.out 3; have d4 := blk_cell QN3.out 4; have d5 := blk_cell QN3.out 5; have d6 := blk_cell QN3.out 6; have d7 := blk_cell QN3.out 7; have d8 := blk_cell QN3.out 8; have d9 := blk_cell QN3.out 9; have fz := fun j => blk_thaw QN3.out j; have z1 := blk_lt QX3.out; have z2 := blk_lt QN3.out
    rw [HOP.out] at lkO
    try rw [HRE.out] at lkR
    try rw [HT0.out]
    go_wp2_with fail
    refine name_world (P := fun W => bodyPost _ _ _ _ _ W) _ ?_
    intro W2 hW2
    have hW3 : W2 = setL w3 (w.heap.size + 1) 0 [.int .i64 x.dep, .string x.nm, .int .i64 x.kd, .slice none 0 0, .string x.dat, .int .i64 x.ma, .int .i64 x.mi, .int .i64 x.cl, .bool false, .slice none 0 0] := hW2
    obtain ⟨hq, hx⟩ := put10 (w := w) QN3.out (by omega) E3.out hW3
    refine bodyPost_ret (v := .tuple #[.agg #[.int .i64 x.dep, .string x.nm, .int .i64 x.kd, .slice none 0 0, .string x.dat, .int .i64 x.ma, .int .i64 x.mi, .int .i64 x.cl, .bool false, .slice none 0 0], .int .i64 6]) (by simp [results, Tryz.f55, go_sem, blk_cell hq 0, blk_cell hq 1, blk_cell hq 2, blk_cell hq 3, blk_cell hq 4, blk_cell hq 5, blk_cell hq 6, blk_cell hq 7, blk_cell hq 8, blk_cell hq 9]) rfl ?_
    exact ⟨⟨⟨{ x with ats := [] }, false, []⟩, .slice none 0 0, .slice none 0 0, by rw [HE.out], ⟨_, _, _, rfl⟩, ⟨_, _, _, rfl⟩, fun h => by rw [HE.out] at h; cases h⟩, hx⟩
end Go.Proofs.YtiliglpolcpnbaaGreatDoor

namespace Go.Proofs.YtiliglpolcpnbaaGreatDoor
open Go.RowKit

/-- What the operations of the last region yield. -/
def neuF (x : TrN) (va vr : Value) (o : Bool) (m1 m2 m3 : ByteArray) (b : Nat) (n z : Int) : Nat → Value → World → Prop
  | 0, v, _ => v = .agg #[.int .i64 x.dep, .string x.nm, .int .i64 x.kd, va, .string x.dat, .int .i64 x.ma, .int .i64 x.mi, .int .i64 x.cl, .bool o, vr]
  | 1, v, _ => v = mksV m1 m2 m3
  | 2, v, _ => v = .map (some b)
  | 3, v, _ => v = .int .i64 n
  | 4, v, _ => v = .int .i64 z
  | _, _, _ => True
theorem neuF_mono {x : TrN} {va vr : Value} {o : Bool} {m1 m2 m3 : ByteArray} {b : Nat} {n z : Int} : ∀ (i : Nat) (v : Value) (w w' : World), neuF x va vr o m1 m2 m3 b n z i v w → Ext w w' → neuF x va vr o m1 m2 m3 b n z i v w' := by
  intro i v w w' h _
  match i, h with
  | 0, h => exact h
  | 1, h => exact h
  | 2, h => exact h
  | 3, h => exact h
  | 4, h => exact h
  | i + 5, h => trivial
theorem set3 (x0 x1 x2 x3 x4 x5 x6 x7 x8 x9 y3 y8 y9 : Value) : (((#[x0, x1, x2, x3, x4, x5, x6, x7, x8, x9] : Array Value).setIfInBounds 3 y3).setIfInBounds 8 y8).setIfInBounds 9 y9 = #[x0, x1, x2, y3, x4, x5, x6, x7, y8, y9] := by
  simp only [List.setIfInBounds_toArray, List.set_cons_zero, List.set_cons_succ]
/-- The attributes and the marks are put into the node. -/
theorem puts3 {w w3 W : World} {g : Nat} {t : TypeId} {x0 x1 x2 x3 x4 x5 x6 x7 x8 x9 y3 y8 y9 : Value} (hq : w3.heap[g]? = some (.cells #[x0, x1, x2, x3, x4, x5, x6, x7, x8, x9] t (0, 0))) (hg : w.heap.size ≤ g) (he : Ext w w3)
    (hW : W = ((w3.setCell ⟨g, 3, none⟩ y3).setCell ⟨g, 8, none⟩ y8).setCell ⟨g, 9, none⟩ y9) :
    W.heap[g]? = some (.cells #[x0, x1, x2, y3, x4, x5, x6, x7, y8, y9] t (0, 0)) ∧ Ext w W ∧ KeepBut (some g) w3 W ∧ W.heap.size = w3.heap.size := by
  subst hW
  refine ⟨?_, ?_, fun b o h hne => ?_, by simp [World.setCell]⟩
  · rw [← set3 x0 x1 x2 x3 x4 x5 x6 x7 x8 x9 y3 y8 y9]
    exact blk_setCell (blk_setCell (blk_setCell hq _) _) _
  · exact ((he.setCell (p := ⟨g, 3, none⟩) hg _).setCell (p := ⟨g, 8, none⟩) hg _).setCell (p := ⟨g, 9, none⟩) hg _
  · have h2 : b ≠ g := fun e => hne (by rw [e])
    exact blk_setCell_ne (blk_setCell_ne (blk_setCell_ne h _ _ h2) _ _ h2) _ _ h2
theorem strIn_keep {w w' : World} {v : Value} {l : List ByteArray} {g : Nat} {c : Array Value} {f : Nat × Nat} (h : StrIn 0 w v l) (hk : KeepBut (some g) w w') (hs : w.heap.size ≤ w'.heap.size) (hg : w.heap[g]? = some (.cells c 41 f)) : StrIn 0 w' v l :=
  h.chg okS ⟨hk, hs, fun g' e => by cases e; exact ⟨Nat.zero_le _, _, _, hg⟩⟩ (by decide) (by decide)
/-- The node is laid over itself. -/
theorem neuEnd {w w5 : World} {g : Nat} {x0 x1 x2 x3 x4 x5 x6 x7 x8 x9 va vr : Value} {l : List Attr} {r : List ByteArray} (hq : w5.heap[g]? = some (.cells #[x0, x1, x2, x3, x4, x5, x6, x7, x8, x9] 41 (0, 0))) (hg : w.heap.size ≤ g) (he : Ext w w5) (ha : AttT w5 va l) (hs : StrIn 0 w5 vr r) :
    (setL w5 g 0 [x0, x1, x2, x3, x4, x5, x6, x7, x8, x9]).heap[g]? = some (.cells #[x0, x1, x2, x3, x4, x5, x6, x7, x8, x9] 41 (0, 0)) ∧ Ext w (setL w5 g 0 [x0, x1, x2, x3, x4, x5, x6, x7, x8, x9]) ∧ AttT (setL w5 g 0 [x0, x1, x2, x3, x4, x5, x6, x7, x8, x9]) va l ∧ StrIn 0 (setL w5 g 0 [x0, x1, x2, x3, x4, x5, x6, x7, x8, x9]) vr r := by
  obtain ⟨h1, h2⟩ := put10 hq hg he rfl
  exact ⟨h1, h2, attT_keep ha (setL_keep _ _ _) (Nat.le_of_eq (setL_size _ _ _).symm) hq (by decide), strIn_keep hs (setL_keep _ _ _) (Nat.le_of_eq (setL_size _ _ _).symm) hq⟩
set_option maxRecDepth 100000 in
set_option maxHeartbeats 100000000 in
theorem neutG (x : TrN) (va : Value) (rt : Bool) (n : Int) (w : World) (hL : LaidO w) (hv : AttrsAt w va x.ats) (hm : Small x.ats) (hz : zeroB x = false) (hw : x.kd ≠ 5) (hp : ptsE 1 x.ats = 0) (hn : n ≤ 1000000) (ht : turnE (ptsO 1 x.ats) = 0) (hc : (isM (ptsO 1 x.ats) opqW = false ∧ isM (ptsO 1 x.ats) reW = false ∧ rt = true ∧ True) ∨ (isM (ptsO 1 x.ats) opqW = false ∧ isM (ptsO 1 x.ats) reW = false ∧ rt = false ∧ True) ∨ (isM (ptsO 1 x.ats) opqW = true ∧ isM (ptsO 1 x.ats) reW = false ∧ rt = true ∧ x.kd = 1) ∨ (isM (ptsO 1 x.ats) opqW = true ∧ isM (ptsO 1 x.ats) reW = false ∧ rt = false ∧ x.kd = 1) ∨ (isM (ptsO 1 x.ats) opqW = true ∧ isM (ptsO 1 x.ats) reW = true ∧ rt = false ∧ x.kd = 1) ∨ (isM (ptsO 1 x.ats) opqW = false ∧ isM (ptsO 1 x.ats) reW = true ∧ rt = false ∧ x.kd = 1)) :
    Calls Tryz.prog 55 #[trV x va, .bool rt, .int .i64 n] w (NeutP w x rt n) := by
  obtain ⟨ho, hr, hrt, hk⟩ | ⟨ho, hr, hrt, hk⟩ | ⟨ho, hr, hrt, hk⟩ | ⟨ho, hr, hrt, hk⟩ | ⟨ho, hr, hrt, hk⟩ | ⟨ho, hr, hrt, hk⟩ := hc
  all_goals
    have HE : Hid (ndE x rt n = bookE (ptsO 1 x.ats) n) := Lib.hid (by unfold ndE; rw [if_neg (by rw [hz]; exact Bool.false_ne_true), if_neg hw, if_neg (by rw [hp]; exact fun h => h rfl), if_neg (by rw [ho, hr]; simp [ht, hk, hrt])])
    have HX : Hid (ndX x = ⟨{ x with ats := ptsP 1 x.ats }, turnO (ptsO 1 x.ats), turnR (ptsO 1 x.ats)⟩) := Lib.hid (by unfold ndX; rw [if_neg (by rw [hz]; exact Bool.false_ne_true)])
    have HN := Lib.hid hn
    have HT0 := Lib.hid ht; have HOP := Lib.hid ho; have HRE := Lib.hid hr
    subst hrt
    try have q4 : (x.kd != 1) = false := bne_eq_false_iff_eq.2 hk
    clear ht ho hr hk
    clear hn
    obtain ⟨a3, cap3, rfl, hcap, hc⟩ := hv
    have HV := Lib.hid (show AttrsAt w (.slice a3 x.ats.length cap3) x.ats from ⟨a3, cap3, rfl, hcap, hc⟩)
    have HL := Lib.hid hL; have HM := Lib.hid hm
    have HZ := Lib.hid hz
    have q1 : (x.kd == 5) = false := beq_eq_false_iff_ne.2 hw
    have HPZ := Lib.hid hp
    have HTZ : Hid ((valM (ptsO 1 x.ats) reW).size ≤ 1000000) := Lib.hid (valM_size hm)
    clear hcap hc hL hm hz hw hp
    unfold trV
    go_enter Tryz.func55, Tryz.ntmps55
    go_wp2_with fail
    refine (ovZero x _ ⟨_, _, _, rfl⟩ _).mono ?_
    rintro e w1 ⟨rfl, hb1⟩
    rw [HZ.out]
    have QX : Hid (w1.heap[w.heap.size]? = some (.cells #[.int .i64 x.dep, .string x.nm, .int .i64 x.kd, .slice a3 x.ats.length cap3, .string x.dat, .int .i64 x.ma, .int .i64 x.mi, .int .i64 x.cl] 43 (0, 0))) := Lib.hid (blk_ext hb1 (blk_alloc (blk_new w _)))
    have QN : Hid (w1.heap[w.heap.size + 1]? = some (.cells #[.int .i64 x.dep, .string x.nm, .int .i64 x.kd, .slice none 0 0, .string x.dat, .int .i64 x.ma, .int .i64 x.mi, .int .i64 x.cl, .bool false, .slice none 0 0] 41 (0, 0))) := Lib.hid (blk_ext hb1 (blk_at (by simp)))
    have E1 : Hid (Ext w w1) := Lib.hid (((ext_alloc _ _).trans (ext_alloc _ _)).trans hb1)
    clear hb1
    have c0 := blk_cell QX.out 0; have c1 := blk_cell QX.out 1; have c2 := blk_cell QX.out 2; have c3 := blk_cell QX.out 3; have c4 := blk_cell QX.out 4; have c5 := blk_cell QX.out 5; have c6 := blk_cell QX.out 6; have c7 := blk_cell QX.out 7; have d0 := blk_cell QN.out 0; have d1 := blk_cell QN.out 1; have d2 := blk_cell QN.out 2; have d3 := blk_cell QN.out 3; have d4 := blk_cell QN.out 4; have d5 := blk_cell QN.out 5; have d6 := blk_cell QN.out 6; have d7 := blk_cell QN.out 7; have d8 := blk_cell QN.out 8; have d9 := blk_cell QN.out 9; have fz := fun j => blk_thaw QN.out j; have z1 := blk_lt QX.out; have z2 := blk_lt QN.out
    go_wp2_with fail
    refine (ovRead _ x.ats _ (HL.out.ext E1.out) (HV.out.ext E1.out) HM.out).mono ?_
    rintro e w2 ⟨⟨v2, bm, nm2, rfl, ho2, hm2, hbm⟩, hb2⟩
    rw [HPZ.out]
    have HO2 := Lib.hid ho2; have HM2 := Lib.hid hm2; obtain ⟨a6, cap6, rfl, -, -⟩ := ho2.1
    have HBM : Hid (w.heap.size + 1 < bm) := Lib.hid (by have := blk_lt QN.out; omega)
    have QX2 := Lib.hid (blk_ext hb2 QX.out); have QN2 := Lib.hid (blk_ext hb2 QN.out); have E2 := Lib.hid (E1.out.trans hb2)
    clear ho2 hm2 hbm hb2 c0 c1 c2 c3 c4 c5 c6 c7 d0 d1 d2 d3 d4 d5 d6 d7 d8 d9 fz z1 z2
    have c0 := blk_cell QX2.out 0; have c1 := blk_cell QX2.out 1; have c2 := blk_cell QX2.out 2; have c3 := blk_cell QX2.out 3; have c4 := blk_cell QX2.out 4; have c5 := blk_cell QX2.out 5; have c6 := blk_cell QX2.out 6; have c7 := blk_cell QX2.out 7; have d0 := blk_cell QN2.out 0; have d1 := blk_cell QN2.out 1; have d2 := blk_cell QN2.out 2; have d3 := blk_cell QN2.out 3; have d4 := blk_cell QN2.out 4; have d5 := blk_cell QN2.out 5; have d6 := blk_cell QN2.out 6; have d7 := blk_cell QN2.out 7; have d8 := blk_cell QN2.out 8; have d9 := blk_cell QN2.out 9; have fz := fun j => blk_thaw QN2.out j; have z1 := blk_lt QX2.out; have z2 := blk_lt QN2.out
    go_wp2_with fail
    refine (ovTurn (ptsO 1 x.ats) bm nm2 _ (HL.out.ext (E2.out.trans (ext_alloc _ _))) (HM2.out.ext (ext_alloc _ _)) HTZ.out).mono ?_
    rintro e w3 ⟨⟨a7, cap7, rfl, ho3⟩, hb3⟩
    have HO3 := Lib.hid ho3
    have QX3 := Lib.hid (blk_ext hb3 (blk_alloc QX2.out)); have QN3 := Lib.hid (blk_ext hb3 (blk_alloc QN2.out)); have QM3 := Lib.hid (blk_ext hb3 (blk_new w2 _)); have ZN : Hid (w.heap.size + 1 < w2.heap.size) := Lib.hid (blk_lt QN2.out); have E3 := Lib.hid (E2.out.trans ((ext_alloc _ _).trans hb3)); have F3 := Lib.hid (Ext.trans (ext_alloc _ _) hb3)
    have lkO := thM_lookO (HM2.out.ext (Ext.trans (ext_alloc _ _) hb3)); have lkR := thM_lookR (HM2.out.ext (Ext.trans (ext_alloc _ _) hb3))
    clear ho3 hb3 c0 c1 c2 c3 c4 c5 c6 c7 d0 d1 d2 d3 d4 d5 d6 d7 d8 d9 fz z1 z2
    have c0 := blk_cell QX3.out 0; have c1 := blk_cell QX3.out 1; have c2 := blk_cell QX3.out 2; have c3 := blk_cell QX3.out 3; have c4 := blk_cell QX3.out 4; have c5 := blk_cell QX3.out 5; have c6 := blk_cell QX3.out 6; have c7 := blk_cell QX3.out 7; have d0 := blk_cell QN3.out 0; have d1 := blk_cell QN3.out 1; have d2 := blk_cell QN3.out 2; have d3 := blk_cell QN3.out 3; have d4 := blk_cell QN3.out 4; have d5 := blk_cell QN3.out 5; have d6 := blk_cell QN3.out 6; have d7 := blk_cell QN3.out 7; have d8 := blk_cell QN3.out 8; have d9 := blk_cell QN3.out 9; have fz := fun j => blk_thaw QN3.out j; have z1 := blk_lt QX3.out; have z2 := blk_lt QN3.out
    rw [HOP.out] at lkO
    rw [HRE.out] at lkR
    rw [HT0.out]
    go_upto_region 17 with fail
    refine name_world (P := fun W => Code.wp _ _ _ _ W) _ ?_
    intro W hW
    obtain ⟨hq, hx, hkb, hsz⟩ := puts3 (w := w) QN3.out (by omega) E3.out hW
    have QW := Lib.hid hq; have EW := Lib.hid hx
    have MW : Hid (W.heap[w2.heap.size]? = some _) := Lib.hid (hkb _ _ QM3.out (fun e => by have h2 : w.heap.size + 1 = w2.heap.size := Option.some.inj e; have := ZN.out; omega))
    have HW := Lib.hid ((HM2.out.ext F3.out).keepB (fun o h => hkb _ o h (fun e => by have h2 : w.heap.size + 1 = bm := Option.some.inj e; have := HBM.out; omega)))
    have AW := Lib.hid (attT_keep (HO2.out.ext F3.out) hkb (Nat.le_of_eq hsz.symm) QN3.out (by decide))
    have SW := Lib.hid (strIn_keep HO3.out hkb (Nat.le_of_eq hsz.symm) QN3.out)
    clear hq hx hkb hsz hW lkO lkR c0 c1 c2 c3 c4 c5 c6 c7 d0 d1 d2 d3 d4 d5 d6 d7 d8 d9 fz z1 z2
    go_cut [7] (fun p wx => p = .int .i64 (bookE (ptsO 1 x.ats) n) ∧ wx.heap[w.heap.size + 1]? = some (.cells #[.int .i64 x.dep, .string x.nm, .int .i64 x.kd, .slice a6 (ptsP 1 x.ats).length cap6, .string x.dat, .int .i64 x.ma, .int .i64 x.mi, .int .i64 x.cl, .bool (turnO (ptsO 1 x.ats)), .slice a7 (turnR (ptsO 1 x.ats)).length cap7] 41 (0, 0)) ∧ Ext w wx ∧ AttT wx (.slice a6 (ptsP 1 x.ats).length cap6) (ptsP 1 x.ats) ∧ StrIn 0 wx (.slice a7 (turnR (ptsO 1 x.ats)).length cap7) (turnR (ptsO 1 x.ats)))
    case first =>
      refine wp_region_inv3 (neuF x (.slice a6 (ptsP 1 x.ats).length cap6) (.slice a7 (turnR (ptsO 1 x.ats)).length cap7) (turnO (ptsO 1 x.ats)) (valM (ptsO 1 x.ats) opqW) (valM (ptsO 1 x.ats) reW) (valM (ptsO 1 x.ats) nlW) bm n (bookE (ptsO 1 x.ats) n)) 5 6 rfl (by kernel_rfl) (by kernel_rfl) neuF_mono ?_ ?_
      · rename_i K1 hK1 J1 K2 hJ1 hK2
        clear hK1 hJ1 hK2 K1 J1
        intro i o a wx hi ho hE hk hp
        have n6 := evalTo (show a.eval (.tmp 6) = .pointer (some ⟨w.heap.size + 1, 0, none⟩) from hk 6 (of_decide_eq_true (by kernel_rfl)))
        have n9 := evalTo (show a.eval (.tmp 9) = .pointer (some ⟨w2.heap.size, 0, none⟩) from hk 9 (of_decide_eq_true (by kernel_rfl)))
        have n10 := evalTo (show a.eval (.tmp 10) = .map (some bm) from hk 10 (of_decide_eq_true (by kernel_rfl)))
        have n2 := evalTo (show a.eval (.tmp 2) = .int .i64 n from hk 2 (of_decide_eq_true (by kernel_rfl)))
        clear hk
        match i, hi, ho, hp with
        | 0, _, ho, hp =>
          obtain rfl := Option.some.inj ho
          have qx := blk_ext hE QW.out
          have d0 := blk_cell qx 0; have d1 := blk_cell qx 1; have d2 := blk_cell qx 2; have d3 := blk_cell qx 3; have d4 := blk_cell qx 4; have d5 := blk_cell qx 5; have d6 := blk_cell qx 6; have d7 := blk_cell qx 7; have d8 := blk_cell qx 8; have d9 := blk_cell qx 9
          clear ho hp
          unfold Oper.wp; go_simp; exact ⟨_, rfl, rfl, Below.refl _ _⟩
        | 1, _, ho, hp =>
          obtain rfl := Option.some.inj ho
          have qx := blk_ext hE MW.out
          have d0 := blk_cell qx 0; have d1 := blk_cell qx 1; have d2 := blk_cell qx 2
          clear ho hp
          unfold Oper.wp; go_simp; exact ⟨_, rfl, rfl, Below.refl _ _⟩
        | 2, _, ho, hp =>
          obtain rfl := Option.some.inj ho
          clear ho hp
          unfold Oper.wp; go_simp; exact ⟨_, rfl, rfl, Below.refl _ _⟩
        | 3, _, ho, hp =>
          obtain rfl := Option.some.inj ho
          clear ho hp
          unfold Oper.wp; go_simp; exact ⟨_, rfl, rfl, Below.refl _ _⟩
        | 4, _, ho, hp =>
          obtain rfl := Option.some.inj ho
          have p1 := evalTo (show a.eval (.tmp 97) = mksV (valM (ptsO 1 x.ats) opqW) (valM (ptsO 1 x.ats) reW) (valM (ptsO 1 x.ats) nlW) from hp 1 _ 97 (by kernel_rfl) rfl rfl)
          have p2 := evalTo (show a.eval (.tmp 98) = .map (some bm) from hp 2 _ 98 (by kernel_rfl) rfl rfl)
          have p3 := evalTo (show a.eval (.tmp 99) = .int .i64 n from hp 3 _ 99 (by kernel_rfl) rfl rfl)
          clear ho hp
          unfold Oper.wp; go_simp
          refine (ovBook (ptsO 1 x.ats) bm nm2 n _ (HL.out.ext (EW.out.trans hE)) (HW.out.ext hE) HN.out).mono ?_
          rintro e w5 ⟨rfl, hb5⟩
          exact ⟨_, rfl, rfl, hb5⟩
        | i + 5, h, _, _ => exact absurd h (by omega)
      · rename_i K1 hK1 J1 K2 hJ1 hK2
        clear hK1 K1
        intro vs wx hE hf
        generalize hA : putsA _ _ _ = A1
        have p96 : vs 96 = .agg #[.int .i64 x.dep, .string x.nm, .int .i64 x.kd, .slice a6 (ptsP 1 x.ats).length cap6, .string x.dat, .int .i64 x.ma, .int .i64 x.mi, .int .i64 x.cl, .bool (turnO (ptsO 1 x.ats)), .slice a7 (turnR (ptsO 1 x.ats)).length cap7] := hf 0 _ 96 (by omega) rfl rfl
        have p100 : vs 100 = .int .i64 (bookE (ptsO 1 x.ats) n) := hf 4 _ 100 (by omega) rfl rfl
        clear hf
        have hA2 := hA.symm.trans (congrArg (fun D => putsA _ D vs) (show dstL _ 5 = [96, 97, 98, 99, 100] by kernel_rfl))
        have e6 := evalTo (show A1.eval (.tmp 6) = .pointer (some ⟨w.heap.size + 1, 0, none⟩) by rw [hA2, puts_eval _ _ _ _ (of_decide_eq_true (by kernel_rfl)), if_neg (by decide)]; rfl)
        have e96 := evalTo (show A1.eval (.tmp 96) = .agg #[.int .i64 x.dep, .string x.nm, .int .i64 x.kd, .slice a6 (ptsP 1 x.ats).length cap6, .string x.dat, .int .i64 x.ma, .int .i64 x.mi, .int .i64 x.cl, .bool (turnO (ptsO 1 x.ats)), .slice a7 (turnR (ptsO 1 x.ats)).length cap7] by rw [hA2, puts_eval _ _ _ _ (of_decide_eq_true (by kernel_rfl)), if_pos (by decide), p96])
        have e100 := evalTo (show A1.eval (.tmp 100) = .int .i64 (bookE (ptsO 1 x.ats) n) by rw [hA2, puts_eval _ _ _ _ (of_decide_eq_true (by kernel_rfl)), if_pos (by decide), p100])
        have HA := Lib.hid hA2
        clear hA2 hA p96 p100
        have QX5 := Lib.hid (blk_ext hE QW.out); have EX5 := Lib.hid (EW.out.trans hE); have AX5 := Lib.hid (AW.out.ext hE); have SX5 := Lib.hid (SW.out.ext okS hE)
        clear hE
        have d0 := blk_cell QX5.out 0; have d1 := blk_cell QX5.out 1; have d2 := blk_cell QX5.out 2; have d3 := blk_cell QX5.out 3; have d4 := blk_cell QX5.out 4; have d5 := blk_cell QX5.out 5; have d6 := blk_cell QX5.out 6; have d7 := blk_cell QX5.out 7; have d8 := blk_cell QX5.out 8; have d9 := blk_cell QX5.out 9; have fz := fun j => blk_thaw QX5.out j; have z2 := blk_lt QX5.out
        refine tail_cons rfl ?_
        unfold Oper.wp
        go_simp
        refine tail_cons rfl ?_
        unfold Oper.wp
        go_simp
        unfold tailWp
        rw [HA.out]
        refine hK2 _ _ ?_
        clear e6 e96 e100 hK2 fz z2 d0 d1 d2 d3 d4 d5 d6 d7 d8 d9
        simp only [putsA, List.foldl, Act.put, List.setIfInBounds_toArray, List.set_cons_succ, List.set_cons_zero]
        go_meet
        exact ⟨rfl, neuEnd QX5.out (by omega) EX5.out AX5.out SX5.out⟩
    case rest =>
      obtain ⟨rfl, hq, hx, ha, hs⟩ := hcut
      have QF := Lib.hid hq; have XF := Lib.hid hx; have AF := Lib.hid ha; have SF := Lib.hid hs
      clear hq hx ha hs
      have d0 := blk_cell QF.out 0; have d1 := blk_cell QF.out 1; have d2 := blk_cell QF.out 2; have d3 := blk_cell QF.out 3; have d4 := blk_cell QF.out 4; have d5 := blk_cell QF.out 5; have d6 := blk_cell QF.out 6; have d7 := blk_cell QF.out 7; have d8 := blk_cell QF.out 8; have d9 := blk_cell QF.out 9
      go_wp2_with fail
      refine bodyPost_ret (v := .tuple #[.agg #[.int .i64 x.dep, .string x.nm, .int .i64 x.kd, .slice a6 (ptsP 1 x.ats).length cap6, .string x.dat, .int .i64 x.ma, .int .i64 x.mi, .int .i64 x.cl, .bool (turnO (ptsO 1 x.ats)), .slice a7 (turnR (ptsO 1 x.ats)).length cap7], .int .i64 (bookE (ptsO 1 x.ats) n)]) (by simp [results, Tryz.f55, go_sem, blk_cell QF.out 0, blk_cell QF.out 1, blk_cell QF.out 2, blk_cell QF.out 3, blk_cell QF.out 4, blk_cell QF.out 5, blk_cell QF.out 6, blk_cell QF.out 7, blk_cell QF.out 8, blk_cell QF.out 9]) rfl ?_
      exact ⟨⟨ndX x, _, _, by rw [HE.out, HX.out], ⟨_, _, _, rfl⟩, ⟨_, _, _, rfl⟩, fun _ => ⟨rfl, by rw [HX.out]; exact AF.out, by rw [HX.out]; exact SF.out⟩⟩, XF.out⟩
theorem ovNeutral (x : TrN) (va : Value) (rt : Bool) (n : Int) (w : World) (hL : LaidO w) (hv : AttrsAt w va x.ats) (hm : Small x.ats) (hk : kindE x = 0) (hn : n ≤ 1000000) :
    Calls Tryz.prog 55 #[trV x va, .bool rt, .int .i64 n] w (NeutP w x rt n) := by
  by_cases hs : zeroB x = true ∨ x.kd = 5 ∨ ptsE 1 x.ats ≠ 0
  · exact neutE x va rt n w hL hv hm hk hs
  · have hz : zeroB x = false := by
      cases h : zeroB x
      · rfl
      · exact absurd (.inl h) hs
    have hw : x.kd ≠ 5 := fun e => hs (.inr (.inl e))
    have hp : ptsE 1 x.ats = 0 := Decidable.not_not.1 fun e => hs (.inr (.inr e))
    by_cases ht : turnE (ptsO 1 x.ats) = 0
    · cases ho : isM (ptsO 1 x.ats) opqW <;> cases hr : isM (ptsO 1 x.ats) reW <;> cases rt
      · exact neutG x va _ n w hL hv hm hz hw hp hn ht (.inr (.inl ⟨ho, hr, rfl, trivial⟩))
      · exact neutG x va _ n w hL hv hm hz hw hp hn ht (.inl ⟨ho, hr, rfl, trivial⟩)
      · by_cases hk1 : x.kd = 1
        · exact neutG x va _ n w hL hv hm hz hw hp hn ht (.inr (.inr (.inr (.inr (.inr ⟨ho, hr, rfl, hk1⟩)))))
        · exact neutF x va _ n w hL hv hm hz hw hp hn (.inr (.inr (.inr (.inl ⟨ht, ho, hr, hk1⟩))))
      · by_cases hk1 : x.kd = 1
        · exact neutF x va _ n w hL hv hm hz hw hp hn (.inr (.inr (.inr (.inr (.inr ⟨ht, ho, hr, hk1, rfl⟩)))))
        · exact neutF x va _ n w hL hv hm hz hw hp hn (.inr (.inr (.inr (.inl ⟨ht, ho, hr, hk1⟩))))
      · by_cases hk1 : x.kd = 1
        · exact neutG x va _ n w hL hv hm hz hw hp hn ht (.inr (.inr (.inr (.inl ⟨ho, hr, rfl, hk1⟩))))
        · exact neutF x va _ n w hL hv hm hz hw hp hn (.inr (.inr (.inl ⟨ht, ho, hk1⟩)))
      · by_cases hk1 : x.kd = 1
        · exact neutG x va _ n w hL hv hm hz hw hp hn ht (.inr (.inr (.inl ⟨ho, hr, rfl, hk1⟩)))
        · exact neutF x va _ n w hL hv hm hz hw hp hn (.inr (.inr (.inl ⟨ht, ho, hk1⟩)))
      · by_cases hk1 : x.kd = 1
        · exact neutG x va _ n w hL hv hm hz hw hp hn ht (.inr (.inr (.inr (.inr (.inl ⟨ho, hr, rfl, hk1⟩)))))
        · exact neutF x va _ n w hL hv hm hz hw hp hn (.inr (.inr (.inl ⟨ht, ho, hk1⟩)))
      · by_cases hk1 : x.kd = 1
        · exact neutF x va _ n w hL hv hm hz hw hp hn (.inr (.inr (.inr (.inr (.inl ⟨ht, ho, hr, hk1, rfl⟩)))))
        · exact neutF x va _ n w hL hv hm hz hw hp hn (.inr (.inr (.inl ⟨ht, ho, hk1⟩)))
    · cases ho : isM (ptsO 1 x.ats) opqW
      · exact neutF x va rt n w hL hv hm hz hw hp hn (.inr (.inl ⟨ht, ho⟩))
      · exact neutF x va rt n w hL hv hm hz hw hp hn (.inl ⟨ht, ho⟩)
end Go.Proofs.YtiliglpolcpnbaaGreatDoor
