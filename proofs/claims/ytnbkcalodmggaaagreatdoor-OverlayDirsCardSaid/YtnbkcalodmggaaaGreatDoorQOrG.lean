/- OrG OrH OrHD -/
import Derived.Test.YtnbkcalodmggaaaGreatDoorQI6
import Derived.Test.YtnbkcalodmggaaaGreatDoorQOrB
import Derived.Test.YtnbkcalodmggaaaGreatDoorQBsdJ
namespace Go.Proofs.YtnbkcalodmggaaaGreatDoor
open Go.RowKit

theorem put8 {w w1 W2 : World} {b : Nat} {t : TypeId} {x0 x1 x2 x3 x4 x5 x6 x7 y0 y1 y2 y3 y4 y5 y6 y7 : Value} (hq : w1.heap[b]? = some (.cells #[x0, x1, x2, x3, x4, x5, x6, x7] t (0, 0))) (hb : w.heap.size <= b) (he : Ext w w1) (hW : W2 = setL w1 b 0 [y0, y1, y2, y3, y4, y5, y6, y7]) :
    W2.heap[b]? = some (.cells #[y0, y1, y2, y3, y4, y5, y6, y7] t (0, 0)) /\ Ext w W2 /\ Chg 0 t (some b) w1 W2 := by
  subst hW
  exact ⟨by rw [setL_blk _ _ _ _ hq]; simp only [setA, List.setIfInBounds_toArray, List.set_cons_zero, List.set_cons_succ], setL_below hb _ _ _ he, setL_chg (Nat.zero_le _) hq _⟩
theorem ovM_zero (o : Bool) (r : List ByteArray) : mk3 (optS o) (redS r) (linkS 0) = ovM o r 1 := by
  rw [show linkS 0 = linkS 1 from (link_one (by decide)).trans (link_one (by decide)).symm]; rfl
def EntryP (B : Nat) (w : World) (n : TrN) (er : Int) (e : Ending) (w' : World) : Prop :=
  (∃ (y : TrN) (a : Option Addr) (k c : Nat), e = .returned (.tuple #[trV y (.slice a k c), .int .i64 er]) /\ (er = 0 -> y = n /\ k = n.ats.length /\ AttIn B w' (.slice a k c) n.ats)) /\ Ext w w'
theorem setC9 (c0 c1 c2 c3 c4 c5 c6 c7 c8 c9 c10 c11 v y1 y2 y3 y4 y5 y6 y7 y8 : Value) : (setA #[c0, c1, c2, c3, c4, c5, c6, c7, c8, c9, c10, c11] 1 [y1, y2, y3, y4, y5, y6, y7, y8]).setIfInBounds 9 v = #[c0, y1, y2, y3, y4, y5, y6, y7, y8, v, c10, c11] := by
  simp only [setA, List.setIfInBounds_toArray, List.set_cons_zero, List.set_cons_succ]
theorem chgB {B b : Nat} {w w' : World} {t : TypeId} {c : Array Value} (hB : B <= b) (h : Chg 0 t (some b) w w') (hq : w.heap[b]? = some (.cells c t (0, 0))) : Chg B t (some b) w w' := ⟨h.keep, h.size, fun g hg => by cases hg; exact ⟨hB, _, _, hq⟩⟩
theorem we_same (x : DeN) : (weX x).nm = x.nm /\ (weX x).wh = false /\ (weX x).fi = x.fi /\ (weX x).ns = x.ns := by
  unfold weX
  split
  · exact ⟨rfl, rfl, rfl, rfl⟩
  · rename_i h
    split
    · exact ⟨rfl, Bool.eq_false_iff.2 h, rfl, rfl⟩
    · exact ⟨rfl, Bool.eq_false_iff.2 h, rfl, rfl⟩
end Go.Proofs.YtnbkcalodmggaaaGreatDoor
namespace Go.Proofs.YtnbkcalodmggaaaGreatDoor
open Go.RowKit

theorem str_nil {s : ByteArray} (h : s = ⟨#[]⟩) : s.toList.isEmpty = true := by rw [h, toList_L]; rfl
theorem str_some {s : ByteArray} (h : s ≠ ⟨#[]⟩) : s.toList.isEmpty = false := by
  cases e : s.toList.isEmpty with
  | false => rfl
  | true => exact absurd (bytes_nil (List.isEmpty_iff.1 e)) h
abbrev opB (s : ByteArray) : Bool := decide (s ≠ ⟨#[]⟩)
end Go.Proofs.YtnbkcalodmggaaaGreatDoor
namespace Go.Proofs.YtnbkcalodmggaaaGreatDoor
open Go.RowKit

set_option maxRecDepth 100000 in
set_option maxHeartbeats 16000000 in
theorem orRead (B : Nat) (x : DeN) (va : Value) (s : ByteArray) (w : World) (hv : AttIn B w va x.nd.ats) (hm : Small x.nd.ats) (hn : x.ns <= 9223372036854775807) (hB : B <= w.heap.size) :
    Calls Tryz.prog 120 #[.agg (deC x va).toArray, .string s] w (EntryP B w (rdX x).nd (rdE (opB s) x)) := by
  have HA := hQq hv; have HM := hQq hm; have HN := hQq hn
  obtain ⟨a3, cap3, rfl⟩ := hv.form
  clear hv hm hn
  unfold deC
  cases hw : x.wh
  case true =>
    have HWE : Hid (rdE (opB s) x = 6) := hQq (rd_bad (.inl hw))
    clear hw
    go_enter Tryz.func120, Tryz.ntmps120
    go_wp2_with fail
    refine nW (P := fun W => bodyPost _ _ _ _ _ W) _ ?_
    intro W2 hW2
    have hW3 : W2 = (w.alloc (.cells #[.string x.nm, .int .i64 x.nd.dep, .string x.nd.nm, .int .i64 x.nd.kd, .slice a3 x.nd.ats.length cap3, .string x.nd.dat, .int .i64 x.nd.ma, .int .i64 x.nd.mi, .int .i64 x.nd.cl, .bool true, .bool x.fi, .int .i64 x.ns] 98 (0, 0))).alloc (.cells #[.int .i64 x.nd.dep, .string x.nd.nm, .int .i64 x.nd.kd, .slice a3 x.nd.ats.length cap3, .string x.nd.dat, .int .i64 x.nd.ma, .int .i64 x.nd.mi, .int .i64 x.nd.cl] 43 (0, 0)) := hW2
    have hq : W2.heap[w.heap.size + 1]? = some (.cells #[.int .i64 x.nd.dep, .string x.nd.nm, .int .i64 x.nd.kd, .slice a3 x.nd.ats.length cap3, .string x.nd.dat, .int .i64 x.nd.ma, .int .i64 x.nd.mi, .int .i64 x.nd.cl] 43 (0, 0)) := by rw [hW3]; exact blk_at (by simp)
    have hx : Ext w W2 := by rw [hW3]; exact (eA _ _).trans (eA _ _)
    refine bodyPost_ret (v := .tuple #[.agg #[.int .i64 x.nd.dep, .string x.nd.nm, .int .i64 x.nd.kd, .slice a3 x.nd.ats.length cap3, .string x.nd.dat, .int .i64 x.nd.ma, .int .i64 x.nd.mi, .int .i64 x.nd.cl], .int .i64 6]) (by simp [results, Tryz.f120, go_sem, bC hq 0, bC hq 1, bC hq 2, bC hq 3, bC hq 4, bC hq 5, bC hq 6, bC hq 7]) rfl ?_
    exact ⟨⟨x.nd, _, _, _, by rw [HWE.out], fun h => by rw [HWE.out] at h; cases h⟩, hx⟩
  case false =>
  have HWH := hQq hw
  clear hw
  cases hz : zeroB x.nd
  case true =>
    have HZ := hQq hz
    clear hz
    by_cases g3 : 0 < x.nd.ats.length
    case pos =>
      have HWE : Hid (rdE (opB s) x = 6) := hQq (rd_bad (.inr ⟨HZ.out, .inl (fun h => by rw [h] at g3; exact absurd g3 (by decide))⟩))
      have g3' := lenP g3
      have g3n : decide (0 < x.nd.ats.length) = true := decide_eq_true g3
      clear g3
      go_enter Tryz.func120, Tryz.ntmps120
      go_wp2_with (go_at_call 171; refine (orZero x.nd _ ⟨_, _, _, rfl⟩ _).mono ?_; rintro e w3 ⟨rfl, hb3⟩; rw [HZ.out]; have QX := hQq (bX hb3 (bA (bN w (.cells #[.string x.nm, .int .i64 x.nd.dep, .string x.nd.nm, .int .i64 x.nd.kd, .slice a3 x.nd.ats.length cap3, .string x.nd.dat, .int .i64 x.nd.ma, .int .i64 x.nd.mi, .int .i64 x.nd.cl, .bool false, .bool x.fi, .int .i64 x.ns] 98 (0, 0))))); have QN := hQq (bX hb3 (blk_at (w := w.alloc (.cells #[.string x.nm, .int .i64 x.nd.dep, .string x.nd.nm, .int .i64 x.nd.kd, .slice a3 x.nd.ats.length cap3, .string x.nd.dat, .int .i64 x.nd.ma, .int .i64 x.nd.mi, .int .i64 x.nd.cl, .bool false, .bool x.fi, .int .i64 x.ns] 98 (0, 0))) (o := .cells #[.int .i64 0, .string ⟨#[]⟩, .int .i64 0, .slice none 0 0, .string ⟨#[]⟩, .int .i64 0, .int .i64 0, .int .i64 0] 43 (0, 0)) (n := w.heap.size + 1) (by simp))); have HB3 := hQq (((eA _ _).trans (eA _ _)).trans hb3); clear hb3; have c0 := bC QX.out 0; have c1 := bC QX.out 1; have c2 := bC QX.out 2; have c3 := bC QX.out 3; have c4 := bC QX.out 4; have c5 := bC QX.out 5; have c6 := bC QX.out 6; have c7 := bC QX.out 7; have c8 := bC QX.out 8; have c9 := bC QX.out 9; have c10 := bC QX.out 10; have c11 := bC QX.out 11; have d0 := bC QN.out 0; have d1 := bC QN.out 1; have d2 := bC QN.out 2; have d3 := bC QN.out 3; have d4 := bC QN.out 4; have d5 := bC QN.out 5; have d6 := bC QN.out 6; have d7 := bC QN.out 7; have fz := fun j => bT QN.out j; have fx := fun j => bT QX.out j; have z1 := blk_lt QX.out; have z2 := blk_lt QN.out)
      refine nW (P := fun W => bodyPost _ _ _ _ _ W) _ ?_
      intro W2 hW2
      have hW3 : W2 = setL w3 (w.heap.size + 1) 0 [.int .i64 x.nd.dep, .string x.nd.nm, .int .i64 x.nd.kd, .slice a3 x.nd.ats.length cap3, .string x.nd.dat, .int .i64 x.nd.ma, .int .i64 x.nd.mi, .int .i64 x.nd.cl] := hW2
      obtain ⟨hq, hx, hc⟩ := put8 (w := w) QN.out (by omega) HB3.out hW3
      refine bodyPost_ret (v := .tuple #[.agg #[.int .i64 x.nd.dep, .string x.nd.nm, .int .i64 x.nd.kd, .slice a3 x.nd.ats.length cap3, .string x.nd.dat, .int .i64 x.nd.ma, .int .i64 x.nd.mi, .int .i64 x.nd.cl], .int .i64 (6)]) (by simp [results, Tryz.f120, go_sem, bC hq 0, bC hq 1, bC hq 2, bC hq 3, bC hq 4, bC hq 5, bC hq 6, bC hq 7]) rfl ?_
      exact ⟨⟨x.nd, _, _, _, by rw [HWE.out], fun h => by rw [HWE.out] at h; first | (cases h; done) | exact absurd h HNZ.out⟩, hx⟩
    have HAN : Hid (x.nd.ats = []) := hQq (List.length_eq_zero_iff.1 (by omega))
    have g3' := lenZ g3
    have g3n : decide (0 < x.nd.ats.length) = false := decide_eq_false g3
    clear g3
    by_cases g4 : 1 < x.ns
    case pos =>
      have HWE : Hid (rdE (opB s) x = 6) := hQq (rd_bad (.inr ⟨HZ.out, .inr (.inl g4)⟩))
      have g4' : decide (1 < x.ns) = true := decide_eq_true g4
      clear g4
      go_enter Tryz.func120, Tryz.ntmps120
      go_wp2_with (go_at_call 171; refine (orZero x.nd _ ⟨_, _, _, rfl⟩ _).mono ?_; rintro e w3 ⟨rfl, hb3⟩; rw [HZ.out]; have QX := hQq (bX hb3 (bA (bN w (.cells #[.string x.nm, .int .i64 x.nd.dep, .string x.nd.nm, .int .i64 x.nd.kd, .slice a3 x.nd.ats.length cap3, .string x.nd.dat, .int .i64 x.nd.ma, .int .i64 x.nd.mi, .int .i64 x.nd.cl, .bool false, .bool x.fi, .int .i64 x.ns] 98 (0, 0))))); have QN := hQq (bX hb3 (blk_at (w := w.alloc (.cells #[.string x.nm, .int .i64 x.nd.dep, .string x.nd.nm, .int .i64 x.nd.kd, .slice a3 x.nd.ats.length cap3, .string x.nd.dat, .int .i64 x.nd.ma, .int .i64 x.nd.mi, .int .i64 x.nd.cl, .bool false, .bool x.fi, .int .i64 x.ns] 98 (0, 0))) (o := .cells #[.int .i64 0, .string ⟨#[]⟩, .int .i64 0, .slice none 0 0, .string ⟨#[]⟩, .int .i64 0, .int .i64 0, .int .i64 0] 43 (0, 0)) (n := w.heap.size + 1) (by simp))); have HB3 := hQq (((eA _ _).trans (eA _ _)).trans hb3); clear hb3; have c0 := bC QX.out 0; have c1 := bC QX.out 1; have c2 := bC QX.out 2; have c3 := bC QX.out 3; have c4 := bC QX.out 4; have c5 := bC QX.out 5; have c6 := bC QX.out 6; have c7 := bC QX.out 7; have c8 := bC QX.out 8; have c9 := bC QX.out 9; have c10 := bC QX.out 10; have c11 := bC QX.out 11; have d0 := bC QN.out 0; have d1 := bC QN.out 1; have d2 := bC QN.out 2; have d3 := bC QN.out 3; have d4 := bC QN.out 4; have d5 := bC QN.out 5; have d6 := bC QN.out 6; have d7 := bC QN.out 7; have fz := fun j => bT QN.out j; have fx := fun j => bT QX.out j; have z1 := blk_lt QX.out; have z2 := blk_lt QN.out)
      refine nW (P := fun W => bodyPost _ _ _ _ _ W) _ ?_
      intro W2 hW2
      have hW3 : W2 = setL w3 (w.heap.size + 1) 0 [.int .i64 x.nd.dep, .string x.nd.nm, .int .i64 x.nd.kd, .slice a3 x.nd.ats.length cap3, .string x.nd.dat, .int .i64 x.nd.ma, .int .i64 x.nd.mi, .int .i64 x.nd.cl] := hW2
      obtain ⟨hq, hx, hc⟩ := put8 (w := w) QN.out (by omega) HB3.out hW3
      refine bodyPost_ret (v := .tuple #[.agg #[.int .i64 x.nd.dep, .string x.nd.nm, .int .i64 x.nd.kd, .slice a3 x.nd.ats.length cap3, .string x.nd.dat, .int .i64 x.nd.ma, .int .i64 x.nd.mi, .int .i64 x.nd.cl], .int .i64 (6)]) (by simp [results, Tryz.f120, go_sem, bC hq 0, bC hq 1, bC hq 2, bC hq 3, bC hq 4, bC hq 5, bC hq 6, bC hq 7]) rfl ?_
      exact ⟨⟨x.nd, _, _, _, by rw [HWE.out], fun h => by rw [HWE.out] at h; first | (cases h; done) | exact absurd h HNZ.out⟩, hx⟩
    have HG4 := hQq g4
    have g4' : decide (1 < x.ns) = false := decide_eq_false g4
    clear g4
    by_cases g5 : s = ⟨#[]⟩
    case neg =>
      have HWE : Hid (rdE (opB s) x = 6) := hQq (rd_bad (.inr ⟨HZ.out, .inr (.inr (decide_eq_true g5))⟩))
      have g5' := str_some g5
      clear g5
      go_enter Tryz.func120, Tryz.ntmps120
      go_wp2_with (go_at_call 171; refine (orZero x.nd _ ⟨_, _, _, rfl⟩ _).mono ?_; rintro e w3 ⟨rfl, hb3⟩; rw [HZ.out]; have QX := hQq (bX hb3 (bA (bN w (.cells #[.string x.nm, .int .i64 x.nd.dep, .string x.nd.nm, .int .i64 x.nd.kd, .slice a3 x.nd.ats.length cap3, .string x.nd.dat, .int .i64 x.nd.ma, .int .i64 x.nd.mi, .int .i64 x.nd.cl, .bool false, .bool x.fi, .int .i64 x.ns] 98 (0, 0))))); have QN := hQq (bX hb3 (blk_at (w := w.alloc (.cells #[.string x.nm, .int .i64 x.nd.dep, .string x.nd.nm, .int .i64 x.nd.kd, .slice a3 x.nd.ats.length cap3, .string x.nd.dat, .int .i64 x.nd.ma, .int .i64 x.nd.mi, .int .i64 x.nd.cl, .bool false, .bool x.fi, .int .i64 x.ns] 98 (0, 0))) (o := .cells #[.int .i64 0, .string ⟨#[]⟩, .int .i64 0, .slice none 0 0, .string ⟨#[]⟩, .int .i64 0, .int .i64 0, .int .i64 0] 43 (0, 0)) (n := w.heap.size + 1) (by simp))); have HB3 := hQq (((eA _ _).trans (eA _ _)).trans hb3); clear hb3; have c0 := bC QX.out 0; have c1 := bC QX.out 1; have c2 := bC QX.out 2; have c3 := bC QX.out 3; have c4 := bC QX.out 4; have c5 := bC QX.out 5; have c6 := bC QX.out 6; have c7 := bC QX.out 7; have c8 := bC QX.out 8; have c9 := bC QX.out 9; have c10 := bC QX.out 10; have c11 := bC QX.out 11; have d0 := bC QN.out 0; have d1 := bC QN.out 1; have d2 := bC QN.out 2; have d3 := bC QN.out 3; have d4 := bC QN.out 4; have d5 := bC QN.out 5; have d6 := bC QN.out 6; have d7 := bC QN.out 7; have fz := fun j => bT QN.out j; have fx := fun j => bT QX.out j; have z1 := blk_lt QX.out; have z2 := blk_lt QN.out)
      refine nW (P := fun W => bodyPost _ _ _ _ _ W) _ ?_
      intro W2 hW2
      have hW3 : W2 = setL w3 (w.heap.size + 1) 0 [.int .i64 x.nd.dep, .string x.nd.nm, .int .i64 x.nd.kd, .slice a3 x.nd.ats.length cap3, .string x.nd.dat, .int .i64 x.nd.ma, .int .i64 x.nd.mi, .int .i64 x.nd.cl] := hW2
      obtain ⟨hq, hx, hc⟩ := put8 (w := w) QN.out (by omega) HB3.out hW3
      refine bodyPost_ret (v := .tuple #[.agg #[.int .i64 x.nd.dep, .string x.nd.nm, .int .i64 x.nd.kd, .slice a3 x.nd.ats.length cap3, .string x.nd.dat, .int .i64 x.nd.ma, .int .i64 x.nd.mi, .int .i64 x.nd.cl], .int .i64 (6)]) (by simp [results, Tryz.f120, go_sem, bC hq 0, bC hq 1, bC hq 2, bC hq 3, bC hq 4, bC hq 5, bC hq 6, bC hq 7]) rfl ?_
      exact ⟨⟨x.nd, _, _, _, by rw [HWE.out], fun h => by rw [HWE.out] at h; first | (cases h; done) | exact absurd h HNZ.out⟩, hx⟩
    have HWE := hQq (rd_zero (o := opB s) (x := x) (by
      rintro (h | ⟨_, h | h | h⟩)
      · rw [HWH.out] at h; cases h
      · exact h HAN.out
      · exact HG4.out h
      · exact of_decide_eq_true h g5) HZ.out)
    have g5' := str_nil g5
    clear g5
    go_enter Tryz.func120, Tryz.ntmps120
    go_wp2_with (go_at_call 171; refine (orZero x.nd _ ⟨_, _, _, rfl⟩ _).mono ?_; rintro e w3 ⟨rfl, hb3⟩; rw [HZ.out]; have QX := hQq (bX hb3 (bA (bN w (.cells #[.string x.nm, .int .i64 x.nd.dep, .string x.nd.nm, .int .i64 x.nd.kd, .slice a3 x.nd.ats.length cap3, .string x.nd.dat, .int .i64 x.nd.ma, .int .i64 x.nd.mi, .int .i64 x.nd.cl, .bool false, .bool x.fi, .int .i64 x.ns] 98 (0, 0))))); have QN := hQq (bX hb3 (blk_at (w := w.alloc (.cells #[.string x.nm, .int .i64 x.nd.dep, .string x.nd.nm, .int .i64 x.nd.kd, .slice a3 x.nd.ats.length cap3, .string x.nd.dat, .int .i64 x.nd.ma, .int .i64 x.nd.mi, .int .i64 x.nd.cl, .bool false, .bool x.fi, .int .i64 x.ns] 98 (0, 0))) (o := .cells #[.int .i64 0, .string ⟨#[]⟩, .int .i64 0, .slice none 0 0, .string ⟨#[]⟩, .int .i64 0, .int .i64 0, .int .i64 0] 43 (0, 0)) (n := w.heap.size + 1) (by simp))); have HB3 := hQq (((eA _ _).trans (eA _ _)).trans hb3); clear hb3; have c0 := bC QX.out 0; have c1 := bC QX.out 1; have c2 := bC QX.out 2; have c3 := bC QX.out 3; have c4 := bC QX.out 4; have c5 := bC QX.out 5; have c6 := bC QX.out 6; have c7 := bC QX.out 7; have c8 := bC QX.out 8; have c9 := bC QX.out 9; have c10 := bC QX.out 10; have c11 := bC QX.out 11; have d0 := bC QN.out 0; have d1 := bC QN.out 1; have d2 := bC QN.out 2; have d3 := bC QN.out 3; have d4 := bC QN.out 4; have d5 := bC QN.out 5; have d6 := bC QN.out 6; have d7 := bC QN.out 7; have fz := fun j => bT QN.out j; have fx := fun j => bT QX.out j; have z1 := blk_lt QX.out; have z2 := blk_lt QN.out)
    refine nW (P := fun W => bodyPost _ _ _ _ _ W) _ ?_
    intro W2 hW2
    have hW3 : W2 = setL w3 (w.heap.size + 1) 0 [.int .i64 0, .string ⟨#[]⟩, .int .i64 5, .slice none 0 0, .string ⟨#[]⟩, .int .i64 0, .int .i64 0, .int .i64 0] := hW2
    obtain ⟨hq, hx, hc⟩ := put8 (w := w) QN.out (by omega) HB3.out hW3
    refine bodyPost_ret (v := .tuple #[.agg #[.int .i64 0, .string ⟨#[]⟩, .int .i64 5, .slice none 0 0, .string ⟨#[]⟩, .int .i64 0, .int .i64 0, .int .i64 0], .int .i64 (0)]) (by simp [results, Tryz.f120, go_sem, bC hq 0, bC hq 1, bC hq 2, bC hq 3, bC hq 4, bC hq 5, bC hq 6, bC hq 7]) rfl ?_
    exact ⟨⟨kdN 5, none, 0, 0, by rw [HWE.out.1]; rfl, fun _ => by rw [HWE.out.2]; exact ⟨rfl, rfl, attIn_nil _ _ _⟩⟩, hx⟩
  case false =>
  have HZ := hQq hz
  have HBD : Hid (¬ zbE (opB s) x) := hQq (by
    rintro (h | ⟨h, _⟩)
    · rw [HWH.out] at h; cases h
    · rw [hz] at h; cases h)
  clear hz
  cases hf : x.fi
  case false =>
    have HWE := hQq (rd_rest HBD.out HZ.out hf)
    clear hf
    go_enter Tryz.func120, Tryz.ntmps120
    go_wp2_with (go_at_call 171; refine (orZero x.nd _ ⟨_, _, _, rfl⟩ _).mono ?_; rintro e w3 ⟨rfl, hb3⟩; rw [HZ.out]; have QX := hQq (bX hb3 (bA (bN w (.cells #[.string x.nm, .int .i64 x.nd.dep, .string x.nd.nm, .int .i64 x.nd.kd, .slice a3 x.nd.ats.length cap3, .string x.nd.dat, .int .i64 x.nd.ma, .int .i64 x.nd.mi, .int .i64 x.nd.cl, .bool false, .bool false, .int .i64 x.ns] 98 (0, 0))))); have QN := hQq (bX hb3 (blk_at (w := w.alloc (.cells #[.string x.nm, .int .i64 x.nd.dep, .string x.nd.nm, .int .i64 x.nd.kd, .slice a3 x.nd.ats.length cap3, .string x.nd.dat, .int .i64 x.nd.ma, .int .i64 x.nd.mi, .int .i64 x.nd.cl, .bool false, .bool false, .int .i64 x.ns] 98 (0, 0))) (o := .cells #[.int .i64 0, .string ⟨#[]⟩, .int .i64 0, .slice none 0 0, .string ⟨#[]⟩, .int .i64 0, .int .i64 0, .int .i64 0] 43 (0, 0)) (n := w.heap.size + 1) (by simp))); have HB3 := hQq (((eA _ _).trans (eA _ _)).trans hb3); clear hb3; have c0 := bC QX.out 0; have c1 := bC QX.out 1; have c2 := bC QX.out 2; have c3 := bC QX.out 3; have c4 := bC QX.out 4; have c5 := bC QX.out 5; have c6 := bC QX.out 6; have c7 := bC QX.out 7; have c8 := bC QX.out 8; have c9 := bC QX.out 9; have c10 := bC QX.out 10; have c11 := bC QX.out 11; have d0 := bC QN.out 0; have d1 := bC QN.out 1; have d2 := bC QN.out 2; have d3 := bC QN.out 3; have d4 := bC QN.out 4; have d5 := bC QN.out 5; have d6 := bC QN.out 6; have d7 := bC QN.out 7; have fz := fun j => bT QN.out j; have fx := fun j => bT QX.out j; have z1 := blk_lt QX.out; have z2 := blk_lt QN.out)
    refine nW (P := fun W => bodyPost _ _ _ _ _ W) _ ?_
    intro W2 hW2
    have hW3 : W2 = setL w3 (w.heap.size + 1) 0 [.int .i64 x.nd.dep, .string x.nd.nm, .int .i64 x.nd.kd, .slice a3 x.nd.ats.length cap3, .string x.nd.dat, .int .i64 x.nd.ma, .int .i64 x.nd.mi, .int .i64 x.nd.cl] := hW2
    obtain ⟨hq, hx, hc⟩ := put8 (w := w) QN.out (by omega) HB3.out hW3
    refine bodyPost_ret (v := .tuple #[.agg #[.int .i64 x.nd.dep, .string x.nd.nm, .int .i64 x.nd.kd, .slice a3 x.nd.ats.length cap3, .string x.nd.dat, .int .i64 x.nd.ma, .int .i64 x.nd.mi, .int .i64 x.nd.cl], .int .i64 (0)]) (by simp [results, Tryz.f120, go_sem, bC hq 0, bC hq 1, bC hq 2, bC hq 3, bC hq 4, bC hq 5, bC hq 6, bC hq 7]) rfl ?_
    exact ⟨⟨x.nd, _, _, _, by rw [HWE.out.1], fun _ => by rw [HWE.out.2]; exact ⟨rfl, rfl, ((HA.out.ext okA HB3.out).chg okA (chgB (by omega) hc QN.out) (by decide) (by decide))⟩⟩, hx⟩
  case true =>
  have HRF := hQq (rd_first HBD.out HZ.out hf)
  clear hf
  by_cases h1 : ptsE 1 x.nd.ats = 0
  case neg =>
    have HWE : Hid (rdE (opB s) x = ptsE 1 x.nd.ats) := hQq (HRF.out.1.trans (ow_pts h1))
    have HNZ := hQq h1
    have q1 : (ptsE 1 x.nd.ats != 0) = true := bne_iff_ne.2 h1
    clear h1
    go_enter Tryz.func120, Tryz.ntmps120
    go_wp2_with (first
      | (go_at_call 171; refine (orZero x.nd _ ⟨_, _, _, rfl⟩ _).mono ?_; rintro e w3 ⟨rfl, hb3⟩; rw [HZ.out]; have QX := hQq (bX hb3 (bA (bN w (.cells #[.string x.nm, .int .i64 x.nd.dep, .string x.nd.nm, .int .i64 x.nd.kd, .slice a3 x.nd.ats.length cap3, .string x.nd.dat, .int .i64 x.nd.ma, .int .i64 x.nd.mi, .int .i64 x.nd.cl, .bool false, .bool true, .int .i64 x.ns] 98 (0, 0))))); have QN := hQq (bX hb3 (blk_at (w := w.alloc (.cells #[.string x.nm, .int .i64 x.nd.dep, .string x.nd.nm, .int .i64 x.nd.kd, .slice a3 x.nd.ats.length cap3, .string x.nd.dat, .int .i64 x.nd.ma, .int .i64 x.nd.mi, .int .i64 x.nd.cl, .bool false, .bool true, .int .i64 x.ns] 98 (0, 0))) (o := .cells #[.int .i64 0, .string ⟨#[]⟩, .int .i64 0, .slice none 0 0, .string ⟨#[]⟩, .int .i64 0, .int .i64 0, .int .i64 0] 43 (0, 0)) (n := w.heap.size + 1) (by simp))); have HB3 := hQq (((eA _ _).trans (eA _ _)).trans hb3); clear hb3; have c0 := bC QX.out 0; have c1 := bC QX.out 1; have c2 := bC QX.out 2; have c3 := bC QX.out 3; have c4 := bC QX.out 4; have c5 := bC QX.out 5; have c6 := bC QX.out 6; have c7 := bC QX.out 7; have c8 := bC QX.out 8; have c9 := bC QX.out 9; have c10 := bC QX.out 10; have c11 := bC QX.out 11; have d0 := bC QN.out 0; have d1 := bC QN.out 1; have d2 := bC QN.out 2; have d3 := bC QN.out 3; have d4 := bC QN.out 4; have d5 := bC QN.out 5; have d6 := bC QN.out 6; have d7 := bC QN.out 7; have fz := fun j => bT QN.out j; have fx := fun j => bT QX.out j; have z1 := blk_lt QX.out; have z2 := blk_lt QN.out)
      | (go_at_call 95; refine (refPartsT 1 _ x.nd.ats _ ((HA.out.ext okA HB3.out).attrs) HM.out).mono ?_; rintro e w4 ⟨⟨v1, v2, rfl, ho1, ho2⟩, hb4⟩; obtain ⟨a4, c4', rfl, -, -⟩ := ho1.1; obtain ⟨a2, c2', rfl, -, -⟩ := ho2.1; clear c0 c1 c2 c3 c4 c5 c6 c7 c8 c9 c10 c11 d0 d1 d2 d3 d4 d5 d6 d7 fz fx z1 z2; have QX4 := hQq (bX hb4 QX.out); have QN4 := hQq (bX hb4 QN.out); have HO1 := hQq ho1; have HO2 := hQq ho2; have HB4 := hQq (HB3.out.trans hb4); clear hb4 ho1 ho2; have c0 := bC QX4.out 0; have c1 := bC QX4.out 1; have c2 := bC QX4.out 2; have c3 := bC QX4.out 3; have c4 := bC QX4.out 4; have c5 := bC QX4.out 5; have c6 := bC QX4.out 6; have c7 := bC QX4.out 7; have c8 := bC QX4.out 8; have c9 := bC QX4.out 9; have c10 := bC QX4.out 10; have c11 := bC QX4.out 11; have d0 := bC QN4.out 0; have d1 := bC QN4.out 1; have d2 := bC QN4.out 2; have d3 := bC QN4.out 3; have d4 := bC QN4.out 4; have d5 := bC QN4.out 5; have d6 := bC QN4.out 6; have d7 := bC QN4.out 7; have fz := fun j => bT QN4.out j; have fx := fun j => bT QX4.out j; have z1 := blk_lt QX4.out; have z2 := blk_lt QN4.out)
      | fail)
    refine nW (P := fun W => bodyPost _ _ _ _ _ W) _ ?_
    intro W2 hW2
    have hW3 : W2 = setL w4 (w.heap.size + 1) 0 [.int .i64 x.nd.dep, .string x.nd.nm, .int .i64 x.nd.kd, .slice a3 x.nd.ats.length cap3, .string x.nd.dat, .int .i64 x.nd.ma, .int .i64 x.nd.mi, .int .i64 x.nd.cl] := hW2
    obtain ⟨hq, hx, hc⟩ := put8 (w := w) QN4.out (by omega) HB4.out hW3
    refine bodyPost_ret (v := .tuple #[.agg #[.int .i64 x.nd.dep, .string x.nd.nm, .int .i64 x.nd.kd, .slice a3 x.nd.ats.length cap3, .string x.nd.dat, .int .i64 x.nd.ma, .int .i64 x.nd.mi, .int .i64 x.nd.cl], .int .i64 (ptsE 1 x.nd.ats)]) (by simp [results, Tryz.f120, go_sem, bC hq 0, bC hq 1, bC hq 2, bC hq 3, bC hq 4, bC hq 5, bC hq 6, bC hq 7]) rfl ?_
    exact ⟨⟨x.nd, _, _, _, by rw [HWE.out], fun h => by rw [HWE.out] at h; first | (cases h; done) | exact absurd h HNZ.out⟩, hx⟩
  have H1 := hQq h1
  cases ho : isM (ptsO 1 x.nd.ats) opqW
  case true =>
    have HWE : Hid (rdE (opB s) x = 6) := hQq (HRF.out.1.trans (ow_mark h1 (by rw [ho, Bool.true_or])))
    have HOP := hQq ho
    clear ho h1
    go_enter Tryz.func120, Tryz.ntmps120
    go_wp2_with (first
      | (go_at_call 171; refine (orZero x.nd _ ⟨_, _, _, rfl⟩ _).mono ?_; rintro e w3 ⟨rfl, hb3⟩; rw [HZ.out]; have QX := hQq (bX hb3 (bA (bN w (.cells #[.string x.nm, .int .i64 x.nd.dep, .string x.nd.nm, .int .i64 x.nd.kd, .slice a3 x.nd.ats.length cap3, .string x.nd.dat, .int .i64 x.nd.ma, .int .i64 x.nd.mi, .int .i64 x.nd.cl, .bool false, .bool true, .int .i64 x.ns] 98 (0, 0))))); have QN := hQq (bX hb3 (blk_at (w := w.alloc (.cells #[.string x.nm, .int .i64 x.nd.dep, .string x.nd.nm, .int .i64 x.nd.kd, .slice a3 x.nd.ats.length cap3, .string x.nd.dat, .int .i64 x.nd.ma, .int .i64 x.nd.mi, .int .i64 x.nd.cl, .bool false, .bool true, .int .i64 x.ns] 98 (0, 0))) (o := .cells #[.int .i64 0, .string ⟨#[]⟩, .int .i64 0, .slice none 0 0, .string ⟨#[]⟩, .int .i64 0, .int .i64 0, .int .i64 0] 43 (0, 0)) (n := w.heap.size + 1) (by simp))); have HB3 := hQq (((eA _ _).trans (eA _ _)).trans hb3); clear hb3; have c0 := bC QX.out 0; have c1 := bC QX.out 1; have c2 := bC QX.out 2; have c3 := bC QX.out 3; have c4 := bC QX.out 4; have c5 := bC QX.out 5; have c6 := bC QX.out 6; have c7 := bC QX.out 7; have c8 := bC QX.out 8; have c9 := bC QX.out 9; have c10 := bC QX.out 10; have c11 := bC QX.out 11; have d0 := bC QN.out 0; have d1 := bC QN.out 1; have d2 := bC QN.out 2; have d3 := bC QN.out 3; have d4 := bC QN.out 4; have d5 := bC QN.out 5; have d6 := bC QN.out 6; have d7 := bC QN.out 7; have fz := fun j => bT QN.out j; have fx := fun j => bT QX.out j; have z1 := blk_lt QX.out; have z2 := blk_lt QN.out)
      | (go_at_call 95; refine (refPartsT 1 _ x.nd.ats _ ((HA.out.ext okA HB3.out).attrs) HM.out).mono ?_; rintro e w4 ⟨⟨v1, v2, rfl, ho1, ho2⟩, hb4⟩; rw [H1.out]; obtain ⟨a4, c4', rfl, -, -⟩ := ho1.1; obtain ⟨a2, c2', rfl, -, -⟩ := ho2.1; clear c0 c1 c2 c3 c4 c5 c6 c7 c8 c9 c10 c11 d0 d1 d2 d3 d4 d5 d6 d7 fz fx z1 z2; have QX4 := hQq (bX hb4 QX.out); have QN4 := hQq (bX hb4 QN.out); have HO1 := hQq ho1; have HO2 := hQq ho2; have HB4 := hQq (HB3.out.trans hb4); clear hb4 ho1 ho2; have c0 := bC QX4.out 0; have c1 := bC QX4.out 1; have c2 := bC QX4.out 2; have c3 := bC QX4.out 3; have c4 := bC QX4.out 4; have c5 := bC QX4.out 5; have c6 := bC QX4.out 6; have c7 := bC QX4.out 7; have c8 := bC QX4.out 8; have c9 := bC QX4.out 9; have c10 := bC QX4.out 10; have c11 := bC QX4.out 11; have d0 := bC QN4.out 0; have d1 := bC QN4.out 1; have d2 := bC QN4.out 2; have d3 := bC QN4.out 3; have d4 := bC QN4.out 4; have d5 := bC QN4.out 5; have d6 := bC QN4.out 6; have d7 := bC QN4.out 7; have fz := fun j => bT QN4.out j; have fx := fun j => bT QX4.out j; have z1 := blk_lt QX4.out; have z2 := blk_lt QN4.out)
      | fail)
    refine (refValueO _ (ptsO 1 x.nd.ats) _ HO2.out.1 (own_small _)).mono ?_
    rintro e w5 ⟨rfl, rfl⟩
    rw [HOP.out]
    go_wp2_with fail
    refine (refValueR _ (ptsO 1 x.nd.ats) _ HO2.out.1 (own_small _)).mono ?_
    rintro e w5 ⟨rfl, rfl⟩
    skip
    go_wp2_with fail
    refine nW (P := fun W => bodyPost _ _ _ _ _ W) _ ?_
    intro W2 hW2
    have hW3 : W2 = setL w4 (w.heap.size + 1) 0 [.int .i64 x.nd.dep, .string x.nd.nm, .int .i64 x.nd.kd, .slice a3 x.nd.ats.length cap3, .string x.nd.dat, .int .i64 x.nd.ma, .int .i64 x.nd.mi, .int .i64 x.nd.cl] := hW2
    obtain ⟨hq, hx, hc⟩ := put8 (w := w) QN4.out (by omega) HB4.out hW3
    refine bodyPost_ret (v := .tuple #[.agg #[.int .i64 x.nd.dep, .string x.nd.nm, .int .i64 x.nd.kd, .slice a3 x.nd.ats.length cap3, .string x.nd.dat, .int .i64 x.nd.ma, .int .i64 x.nd.mi, .int .i64 x.nd.cl], .int .i64 (6)]) (by simp [results, Tryz.f120, go_sem, bC hq 0, bC hq 1, bC hq 2, bC hq 3, bC hq 4, bC hq 5, bC hq 6, bC hq 7]) rfl ?_
    exact ⟨⟨x.nd, _, _, _, by rw [HWE.out], fun h => by rw [HWE.out] at h; first | (cases h; done) | exact absurd h HNZ.out⟩, hx⟩
  case false =>
  cases hr : isM (ptsO 1 x.nd.ats) reW
  case true =>
    have HWE : Hid (rdE (opB s) x = 6) := hQq (HRF.out.1.trans (ow_mark h1 (by rw [hr, Bool.or_true])))
    have HOP := hQq ho; have HRE := hQq hr
    clear ho hr h1
    go_enter Tryz.func120, Tryz.ntmps120
    go_wp2_with (first
      | (go_at_call 171; refine (orZero x.nd _ ⟨_, _, _, rfl⟩ _).mono ?_; rintro e w3 ⟨rfl, hb3⟩; rw [HZ.out]; have QX := hQq (bX hb3 (bA (bN w (.cells #[.string x.nm, .int .i64 x.nd.dep, .string x.nd.nm, .int .i64 x.nd.kd, .slice a3 x.nd.ats.length cap3, .string x.nd.dat, .int .i64 x.nd.ma, .int .i64 x.nd.mi, .int .i64 x.nd.cl, .bool false, .bool true, .int .i64 x.ns] 98 (0, 0))))); have QN := hQq (bX hb3 (blk_at (w := w.alloc (.cells #[.string x.nm, .int .i64 x.nd.dep, .string x.nd.nm, .int .i64 x.nd.kd, .slice a3 x.nd.ats.length cap3, .string x.nd.dat, .int .i64 x.nd.ma, .int .i64 x.nd.mi, .int .i64 x.nd.cl, .bool false, .bool true, .int .i64 x.ns] 98 (0, 0))) (o := .cells #[.int .i64 0, .string ⟨#[]⟩, .int .i64 0, .slice none 0 0, .string ⟨#[]⟩, .int .i64 0, .int .i64 0, .int .i64 0] 43 (0, 0)) (n := w.heap.size + 1) (by simp))); have HB3 := hQq (((eA _ _).trans (eA _ _)).trans hb3); clear hb3; have c0 := bC QX.out 0; have c1 := bC QX.out 1; have c2 := bC QX.out 2; have c3 := bC QX.out 3; have c4 := bC QX.out 4; have c5 := bC QX.out 5; have c6 := bC QX.out 6; have c7 := bC QX.out 7; have c8 := bC QX.out 8; have c9 := bC QX.out 9; have c10 := bC QX.out 10; have c11 := bC QX.out 11; have d0 := bC QN.out 0; have d1 := bC QN.out 1; have d2 := bC QN.out 2; have d3 := bC QN.out 3; have d4 := bC QN.out 4; have d5 := bC QN.out 5; have d6 := bC QN.out 6; have d7 := bC QN.out 7; have fz := fun j => bT QN.out j; have fx := fun j => bT QX.out j; have z1 := blk_lt QX.out; have z2 := blk_lt QN.out)
      | (go_at_call 95; refine (refPartsT 1 _ x.nd.ats _ ((HA.out.ext okA HB3.out).attrs) HM.out).mono ?_; rintro e w4 ⟨⟨v1, v2, rfl, ho1, ho2⟩, hb4⟩; rw [H1.out]; obtain ⟨a4, c4', rfl, -, -⟩ := ho1.1; obtain ⟨a2, c2', rfl, -, -⟩ := ho2.1; clear c0 c1 c2 c3 c4 c5 c6 c7 c8 c9 c10 c11 d0 d1 d2 d3 d4 d5 d6 d7 fz fx z1 z2; have QX4 := hQq (bX hb4 QX.out); have QN4 := hQq (bX hb4 QN.out); have HO1 := hQq ho1; have HO2 := hQq ho2; have HB4 := hQq (HB3.out.trans hb4); clear hb4 ho1 ho2; have c0 := bC QX4.out 0; have c1 := bC QX4.out 1; have c2 := bC QX4.out 2; have c3 := bC QX4.out 3; have c4 := bC QX4.out 4; have c5 := bC QX4.out 5; have c6 := bC QX4.out 6; have c7 := bC QX4.out 7; have c8 := bC QX4.out 8; have c9 := bC QX4.out 9; have c10 := bC QX4.out 10; have c11 := bC QX4.out 11; have d0 := bC QN4.out 0; have d1 := bC QN4.out 1; have d2 := bC QN4.out 2; have d3 := bC QN4.out 3; have d4 := bC QN4.out 4; have d5 := bC QN4.out 5; have d6 := bC QN4.out 6; have d7 := bC QN4.out 7; have fz := fun j => bT QN4.out j; have fx := fun j => bT QX4.out j; have z1 := blk_lt QX4.out; have z2 := blk_lt QN4.out)
      | fail)
    refine (refValueO _ (ptsO 1 x.nd.ats) _ HO2.out.1 (own_small _)).mono ?_
    rintro e w5 ⟨rfl, rfl⟩
    rw [HOP.out]
    go_wp2_with fail
    refine (refValueR _ (ptsO 1 x.nd.ats) _ HO2.out.1 (own_small _)).mono ?_
    rintro e w5 ⟨rfl, rfl⟩
    rw [HRE.out]
    go_wp2_with fail
    refine nW (P := fun W => bodyPost _ _ _ _ _ W) _ ?_
    intro W2 hW2
    have hW3 : W2 = setL w4 (w.heap.size + 1) 0 [.int .i64 x.nd.dep, .string x.nd.nm, .int .i64 x.nd.kd, .slice a3 x.nd.ats.length cap3, .string x.nd.dat, .int .i64 x.nd.ma, .int .i64 x.nd.mi, .int .i64 x.nd.cl] := hW2
    obtain ⟨hq, hx, hc⟩ := put8 (w := w) QN4.out (by omega) HB4.out hW3
    refine bodyPost_ret (v := .tuple #[.agg #[.int .i64 x.nd.dep, .string x.nd.nm, .int .i64 x.nd.kd, .slice a3 x.nd.ats.length cap3, .string x.nd.dat, .int .i64 x.nd.ma, .int .i64 x.nd.mi, .int .i64 x.nd.cl], .int .i64 (6)]) (by simp [results, Tryz.f120, go_sem, bC hq 0, bC hq 1, bC hq 2, bC hq 3, bC hq 4, bC hq 5, bC hq 6, bC hq 7]) rfl ?_
    exact ⟨⟨x.nd, _, _, _, by rw [HWE.out], fun h => by rw [HWE.out] at h; first | (cases h; done) | exact absurd h HNZ.out⟩, hx⟩
  case false =>
  have HWE : Hid (rdE (opB s) x = bookE (ptsO 1 x.nd.ats) x.ns) := hQq (HRF.out.1.trans (ow_book h1 (by rw [ho, hr]; rfl)))
  have HOP := hQq ho; have HRE := hQq hr
  clear ho hr h1
  go_enter Tryz.func120, Tryz.ntmps120
  go_wp2_with (first
    | (go_at_call 171; refine (orZero x.nd _ ⟨_, _, _, rfl⟩ _).mono ?_; rintro e w3 ⟨rfl, hb3⟩; rw [HZ.out]; have QX := hQq (bX hb3 (bA (bN w (.cells #[.string x.nm, .int .i64 x.nd.dep, .string x.nd.nm, .int .i64 x.nd.kd, .slice a3 x.nd.ats.length cap3, .string x.nd.dat, .int .i64 x.nd.ma, .int .i64 x.nd.mi, .int .i64 x.nd.cl, .bool false, .bool true, .int .i64 x.ns] 98 (0, 0))))); have QN := hQq (bX hb3 (blk_at (w := w.alloc (.cells #[.string x.nm, .int .i64 x.nd.dep, .string x.nd.nm, .int .i64 x.nd.kd, .slice a3 x.nd.ats.length cap3, .string x.nd.dat, .int .i64 x.nd.ma, .int .i64 x.nd.mi, .int .i64 x.nd.cl, .bool false, .bool true, .int .i64 x.ns] 98 (0, 0))) (o := .cells #[.int .i64 0, .string ⟨#[]⟩, .int .i64 0, .slice none 0 0, .string ⟨#[]⟩, .int .i64 0, .int .i64 0, .int .i64 0] 43 (0, 0)) (n := w.heap.size + 1) (by simp))); have HB3 := hQq (((eA _ _).trans (eA _ _)).trans hb3); clear hb3; have c0 := bC QX.out 0; have c1 := bC QX.out 1; have c2 := bC QX.out 2; have c3 := bC QX.out 3; have c4 := bC QX.out 4; have c5 := bC QX.out 5; have c6 := bC QX.out 6; have c7 := bC QX.out 7; have c8 := bC QX.out 8; have c9 := bC QX.out 9; have c10 := bC QX.out 10; have c11 := bC QX.out 11; have d0 := bC QN.out 0; have d1 := bC QN.out 1; have d2 := bC QN.out 2; have d3 := bC QN.out 3; have d4 := bC QN.out 4; have d5 := bC QN.out 5; have d6 := bC QN.out 6; have d7 := bC QN.out 7; have fz := fun j => bT QN.out j; have fx := fun j => bT QX.out j; have z1 := blk_lt QX.out; have z2 := blk_lt QN.out)
    | (go_at_call 95; refine (refPartsT 1 _ x.nd.ats _ ((HA.out.ext okA HB3.out).attrs) HM.out).mono ?_; rintro e w4 ⟨⟨v1, v2, rfl, ho1, ho2⟩, hb4⟩; rw [H1.out]; obtain ⟨a4, c4', rfl, -, -⟩ := ho1.1; obtain ⟨a2, c2', rfl, -, -⟩ := ho2.1; clear c0 c1 c2 c3 c4 c5 c6 c7 c8 c9 c10 c11 d0 d1 d2 d3 d4 d5 d6 d7 fz fx z1 z2; have QX4 := hQq (bX hb4 QX.out); have QN4 := hQq (bX hb4 QN.out); have HO1 := hQq ho1; have HO2 := hQq ho2; have HB4 := hQq (HB3.out.trans hb4); clear hb4 ho1 ho2; have c0 := bC QX4.out 0; have c1 := bC QX4.out 1; have c2 := bC QX4.out 2; have c3 := bC QX4.out 3; have c4 := bC QX4.out 4; have c5 := bC QX4.out 5; have c6 := bC QX4.out 6; have c7 := bC QX4.out 7; have c8 := bC QX4.out 8; have c9 := bC QX4.out 9; have c10 := bC QX4.out 10; have c11 := bC QX4.out 11; have d0 := bC QN4.out 0; have d1 := bC QN4.out 1; have d2 := bC QN4.out 2; have d3 := bC QN4.out 3; have d4 := bC QN4.out 4; have d5 := bC QN4.out 5; have d6 := bC QN4.out 6; have d7 := bC QN4.out 7; have fz := fun j => bT QN4.out j; have fx := fun j => bT QX4.out j; have z1 := blk_lt QX4.out; have z2 := blk_lt QN4.out)
    | fail)
  refine (refValueO _ (ptsO 1 x.nd.ats) _ HO2.out.1 (own_small _)).mono ?_
  rintro e w5 ⟨rfl, rfl⟩
  rw [HOP.out]
  go_wp2_with fail
  refine (refValueR _ (ptsO 1 x.nd.ats) _ HO2.out.1 (own_small _)).mono ?_
  rintro e w5 ⟨rfl, rfl⟩
  rw [HRE.out]
  go_upto_region 17 with fail
  refine nW (P := fun W => Code.wp _ _ _ _ W) _ ?_
  intro W hW
  have hW2 : W = w4.setCell ⟨w.heap.size, 4, none⟩ (.slice a4 (ptsP 1 x.nd.ats).length c4') := hW
  have HC9 : Hid (Chg B 98 (some w.heap.size) w4 W) := hQq (by rw [hW2]; exact cellChg QX4.out hB)
  have HS9 : Hid (Ext w W) := hQq (by rw [hW2]; exact Below.setCell (p := ⟨w.heap.size, 4, none⟩) HB4.out (Nat.le_refl _) _)
  have QN9 : Hid (W.heap[w.heap.size + 1]? = some (.cells #[.int .i64 0, .string ⟨#[]⟩, .int .i64 0, .slice none 0 0, .string ⟨#[]⟩, .int .i64 0, .int .i64 0, .int .i64 0] 43 (0, 0))) := hQq (by rw [hW2]; exact bSn QN4.out ⟨w.heap.size, 4, none⟩ _ (by show w.heap.size + 1 ≠ w.heap.size; omega))
  have QX9 : Hid (W.heap[w.heap.size]? = some (.cells #[.string x.nm, .int .i64 x.nd.dep, .string x.nd.nm, .int .i64 x.nd.kd, .slice a4 (ptsP 1 x.nd.ats).length c4', .string x.nd.dat, .int .i64 x.nd.ma, .int .i64 x.nd.mi, .int .i64 x.nd.cl, .bool false, .bool true, .int .i64 x.ns] 98 (0, 0))) := hQq (by rw [hW2]; exact bS QX4.out _)
  have HA2 : Hid (AttrsAt W (.slice a2 (ptsO 1 x.nd.ats).length c2') (ptsO 1 x.nd.ats)) := hQq (by rw [hW2]; exact (attT_keep HO2.out (fun b o h hne => bSn h _ _ (fun e => hne (by rw [e]))) (by simp [World.setCell]) QX4.out (by decide)).1)
  have HP9 : Hid (AttIn B W (.slice a4 (ptsP 1 x.nd.ats).length c4') (ptsP 1 x.nd.ats)) := hQq ((attT_in HO1.out).chg okA HC9.out (by decide) (by decide))
  clear c0 c1 c2 c3 c4 c5 c6 c7 c8 c9 c10 c11 d0 d1 d2 d3 d4 d5 d6 d7 fz fx z1 z2
  clear hW hW2
  have c1 := bC QX9.out 1; have c2 := bC QX9.out 2; have c3 := bC QX9.out 3; have c4 := bC QX9.out 4; have c5 := bC QX9.out 5; have c6 := bC QX9.out 6; have c7 := bC QX9.out 7; have c8 := bC QX9.out 8; have c11 := bC QX9.out 11
  have d0 := bC QN9.out 0; have d1 := bC QN9.out 1; have d2 := bC QN9.out 2; have d3 := bC QN9.out 3; have d4 := bC QN9.out 4; have d5 := bC QN9.out 5; have d6 := bC QN9.out 6; have d7 := bC QN9.out 7
  have fz := fun j => bT QN9.out j
  have z1 := blk_lt QX9.out; have z2 := blk_lt QN9.out
  go_region_held3 (fun w' => w'.cell? ⟨w.heap.size, 1, none⟩ = some (.int .i64 x.nd.dep) /\ w'.cell? ⟨w.heap.size, 2, none⟩ = some (.string x.nd.nm) /\ w'.cell? ⟨w.heap.size, 3, none⟩ = some (.int .i64 x.nd.kd) /\ w'.cell? ⟨w.heap.size, 4, none⟩ = some (.slice a4 (ptsP 1 x.nd.ats).length c4') /\ w'.cell? ⟨w.heap.size, 5, none⟩ = some (.string x.nd.dat) /\ w'.cell? ⟨w.heap.size, 6, none⟩ = some (.int .i64 x.nd.ma) /\ w'.cell? ⟨w.heap.size, 7, none⟩ = some (.int .i64 x.nd.mi) /\ w'.cell? ⟨w.heap.size, 8, none⟩ = some (.int .i64 x.nd.cl) /\ w'.cell? ⟨w.heap.size, 11, none⟩ = some (.int .i64 x.ns)) (go_keep)
    (first
      | (go_at_call 117; refine (refBookedX _ (ptsO 1 x.nd.ats) x.ns _ (by first | exact HA2.out.ext (eD _) | exact HA2.out) (own_small _) HN.out).mono ?_; rintro e w6 ⟨rfl, hb6⟩; have HB6 : Hid (Ext W w6) := hQq (by first | exact (eD _).trans hb6 | exact hb6); have hx6 := bX HB6.out QX9.out; have hn6 := bX HB6.out QN9.out; have e1 := bC hx6 1; have e2 := bC hx6 2; have e3 := bC hx6 3; have e4 := bC hx6 4; have e5 := bC hx6 5; have e6 := bC hx6 6; have e7 := bC hx6 7; have e8 := bC hx6 8; have e11 := bC hx6 11; have g0 := bC hn6 0; have g1 := bC hn6 1; have g2 := bC hn6 2; have g3 := bC hn6 3; have g4 := bC hn6 4; have g5 := bC hn6 5; have g6 := bC hn6 6; have g7 := bC hn6 7; have fg := fun j => bT hn6 j; have l1 := blk_lt hx6; have l2 := blk_lt hn6; have QN6 := hQq hn6; clear hb6 hx6 hn6)
      | fail)
  all_goals
    go_wp2_with fail
    refine nW (P := fun W => bodyPost _ _ _ _ _ W) _ ?_
    intro W2 hW2
    obtain ⟨W3, hW3, hE3⟩ : ∃ W3, W3 = setL w6 (w.heap.size + 1) 0 [.int .i64 x.nd.dep, .string x.nd.nm, .int .i64 x.nd.kd, .slice a4 (ptsP 1 x.nd.ats).length c4', .string x.nd.dat, .int .i64 x.nd.ma, .int .i64 x.nd.mi, .int .i64 x.nd.cl] /\ (W2 = W3 \/ W2 = W3.drew) := ⟨_, rfl, .inl hW2⟩
    obtain ⟨hq, hx, hc⟩ := put8 (w := w) QN6.out (by omega) (HS9.out.trans HB6.out) hW3
    have hd3 : Ext W3 W2 := by
      rcases hE3 with rfl | rfl
      · exact Below.refl _ _
      · exact eD _
    have hq' := bX hd3 hq
    refine bodyPost_ret (v := .tuple #[.agg #[.int .i64 x.nd.dep, .string x.nd.nm, .int .i64 x.nd.kd, .slice a4 (ptsP 1 x.nd.ats).length c4', .string x.nd.dat, .int .i64 x.nd.ma, .int .i64 x.nd.mi, .int .i64 x.nd.cl], .int .i64 (bookE (ptsO 1 x.nd.ats) x.ns)]) (by simp [results, Tryz.f120, go_sem, bC hq' 0, bC hq' 1, bC hq' 2, bC hq' 3, bC hq' 4, bC hq' 5, bC hq' 6, bC hq' 7]) rfl ?_
    exact ⟨⟨{ x.nd with ats := ptsP 1 x.nd.ats }, _, _, _, by rw [HWE.out], fun _ => by rw [HRF.out.2]; exact ⟨rfl, rfl, ((HP9.out.ext okA HB6.out).chg okA (chgB (by omega) hc QN6.out) (by decide) (by decide)).ext okA hd3⟩⟩, hx.trans hd3⟩
end Go.Proofs.YtnbkcalodmggaaaGreatDoor
namespace Go.Proofs.YtnbkcalodmggaaaGreatDoor
open Go.RowKit

theorem opB_turn {own : List Attr} (h : turnE own = 0) : opB (valM own opqW) = turnO own := by
  have hm : ¬ (isM own opqW = true /\ valM own opqW ≠ yW) := fun e => by rw [(turn_of (turn_opq e.1 e.2)).2.2] at h; cases h
  have ho : turnO own = isM own opqW := by
    cases hr : isM own reW with
    | false => exact (turn_of (turn_no hm hr)).1
    | true =>
      by_cases hb : parE (valM own reW) ≠ 0 \/ parL (valM own reW) = []
      · rw [(turn_of (turn_bad hm hr hb)).2.2] at h; cases h
      · exact (turn_of (turn_led hm hr hb)).1
  rw [ho]
  cases hi : isM own opqW with
  | true =>
    have hv : valM own opqW = yW := Decidable.not_not.1 fun e => hm ⟨hi, e⟩
    show decide (valM own opqW ≠ ⟨#[]⟩) = true
    rw [hv]; decide
  | false =>
    show decide (valM own opqW ≠ ⟨#[]⟩) = false
    refine decide_eq_false fun e => e ?_
    unfold valM
    unfold isM at hi
    cases hg : getM own opqW with
    | none => rfl
    | some v => rw [hg] at hi; cases hi
theorem rd_same {x : DeN} (h : x.wh = (x.nd.kd == 5)) : (rdX x).nm = x.nm /\ (rdX x).wh = ((rdX x).nd.kd == 5) /\ (rdX x).fi = x.fi /\ (rdX x).ns = x.ns := by
  unfold rdX
  split
  · exact ⟨rfl, rfl, rfl, rfl⟩
  · split
    · exact ⟨rfl, h, rfl, rfl⟩
    · exact ⟨rfl, h, rfl, rfl⟩
end Go.Proofs.YtnbkcalodmggaaaGreatDoor
