/- OvHF OvGE OvHE SamD -/
import Derived.Test.YtnbkcalodmggaaaGreatDoorQI5
import Derived.Test.YtnbkcalodmggaaaGreatDoorQOvG
import Derived.Test.YtnbkcalodmggaaaGreatDoorQWideO
namespace Go.Proofs.YtnbkcalodmggaaaGreatDoor
open Go.RowKit

set_option maxRecDepth 100000 in
set_option maxHeartbeats 16000000 in
theorem ovDecodeDir0 (B : Nat) (w : World) (v : Value) (d : DiN) (hL : LaidO w) (hd : DirIn B w v d) (_hB : B <= w.heap.size) (hsm : SmallD d) (hns : NsOk d) (hE : ¬ (dirE d = 0 /\ ¬ (d.opq = true \/ 0 < d.red.length) /\ ptsE 1 d.ats = 0 /\ isM (ptsO 1 d.ats) nlW = false /\ ¬ (turnE (ptsO 1 d.ats) ≠ 0 \/ (turnO (ptsO 1 d.ats) = true /\ 0 < (turnR (ptsO 1 d.ats)).length)))) :
    Calls Tryz.prog 116 #[v] w (FltP w (drD d) (drN d) (drE d)) := by
  have HD := hQq hd
  obtain ⟨va, vr, ve, rfl, ha, hr, he⟩ := hd
  have HA := hQq ha; have HR := hQq hr; have HE := hQq he; have HSM := hQq hsm; have HL := hQq hL; have HNS := hQq hns
  obtain ⟨a3, cap3, rfl⟩ := ha.form
  obtain ⟨a4, cap4, rfl⟩ := hr.form
  obtain ⟨a5, cap5, rfl⟩ := he.form
  have hlen := hsm.len
  clear ha hr he hsm hL hns
  by_cases e1 : dirE d = 0
  case neg =>
    have HX := hQq (dr_of (drT_dir e1))
    have q1 : (dirE d != 0) = true := bne_iff_ne.2 e1
    have E1 := hQq e1
    clear e1
    go_enter Tryz.func116, Tryz.ntmps116
    go_wp2_with (go_at_call 82; refine (brCheckDir B _ _ d (HD.out.ext ((eA _ _).trans (eA _ _))) HSM.out).mono ?_; rintro e w1 ⟨rfl, hb1⟩; have q2 : w1.heap[w.heap.size + 1]? = some (.cells #[.slice none 0 0, .bool false, .slice none 0 0, .slice none 0 0] 55 (0, 0)) := bX hb1 (blk_at (by simp)); have r0 := bC q2 0; have r1 := bC q2 1; have r2 := bC q2 2; have r3 := bC q2 3; have fz : ∀ j, w1.frozen? ⟨w.heap.size + 1, j, none⟩ = false := fun j => bT q2 j; have Q2 := hQq q2; clear q2; have q1 : w1.heap[w.heap.size]? = some (.cells #[.slice a3 d.ats.length cap3, .bool d.opq, .slice a4 d.red.length cap4, .slice a5 d.ens.length cap5] 55 (0, 0)) := bX hb1 (bA (bN w _)); have k0 := bC q1 0; have k1 := bC q1 1; have k2 := bC q1 2; have k3 := bC q1 3; have Q1 := hQq q1; clear q1; have HB1 := hQq (((eA _ _).trans (eA _ _)).trans hb1); clear hb1)
    refine nW (P := fun W => bodyPost _ _ _ _ _ W) _ ?_
    intro W2 hW2
    obtain ⟨hq, hx, hc⟩ := set4 Q2.out (by omega) HB1.out hW2
    refine bodyPost_ret (v := .tuple #[.agg #[.slice a3 d.ats.length cap3, .bool d.opq, .slice a4 d.red.length cap4, .slice a5 d.ens.length cap5], fltV (dirN d) (dirE d)]) (by simp [results, Tryz.f116, go_sem, bC hq 0, bC hq 1, bC hq 2, bC hq 3]) rfl ?_
    exact ⟨⟨_, _, _, _, _, _, _, _, _, _, _, rfl, .inr ⟨by rw [HX.out.2.2]; exact E1.out, by rw [HX.out.2.1, HX.out.2.2]⟩⟩, hx⟩
  have q1 : (dirE d != 0) = false := bne_eq_false_iff_eq.2 e1
  have E1 := hQq e1
  clear e1
  by_cases e2 : d.opq = true \/ 0 < d.red.length
  case pos =>
    have HX := hQq (dr_of (drT_mark E1.out e2))
    by_cases e3 : d.opq = true
    case pos =>
      have E3 := hQq e3
      clear e2 e3
      go_enter Tryz.func116, Tryz.ntmps116
      go_wp2_with (go_at_call 82; refine (brCheckDir B _ _ d (HD.out.ext ((eA _ _).trans (eA _ _))) HSM.out).mono ?_; rintro e w1 ⟨rfl, hb1⟩; have q2 : w1.heap[w.heap.size + 1]? = some (.cells #[.slice none 0 0, .bool false, .slice none 0 0, .slice none 0 0] 55 (0, 0)) := bX hb1 (blk_at (by simp)); have r0 := bC q2 0; have r1 := bC q2 1; have r2 := bC q2 2; have r3 := bC q2 3; have fz : ∀ j, w1.frozen? ⟨w.heap.size + 1, j, none⟩ = false := fun j => bT q2 j; have Q2 := hQq q2; clear q2; have q1 : w1.heap[w.heap.size]? = some (.cells #[.slice a3 d.ats.length cap3, .bool d.opq, .slice a4 d.red.length cap4, .slice a5 d.ens.length cap5] 55 (0, 0)) := bX hb1 (bA (bN w _)); have k0 := bC q1 0; have k1 := bC q1 1; rw [E3.out] at k1; have k2 := bC q1 2; have k3 := bC q1 3; have Q1 := hQq q1; clear q1; have HB1 := hQq (((eA _ _).trans (eA _ _)).trans hb1); clear hb1)
      refine nW (P := fun W => bodyPost _ _ _ _ _ W) _ ?_
      intro W2 hW2
      obtain ⟨hq, hx, hc⟩ := set4 Q2.out (by omega) HB1.out hW2
      refine bodyPost_ret (v := .tuple #[.agg #[.slice a3 d.ats.length cap3, .bool true, .slice a4 d.red.length cap4, .slice a5 d.ens.length cap5], fltV (-1) (6)]) (by simp [results, Tryz.f116, go_sem, bC hq 0, bC hq 1, bC hq 2, bC hq 3]) rfl ?_
      exact ⟨⟨_, _, _, _, _, _, _, _, _, _, _, rfl, .inr ⟨by rw [HX.out.2.2]; exact (by decide), by rw [HX.out.2.1, HX.out.2.2]⟩⟩, hx⟩
    have e4 : 0 < d.red.length := e2.resolve_left e3
    have e5 : d.opq = false := Bool.eq_false_iff.2 e3
    have q2 := lenP e4
    have E5 := hQq e5
    clear e2 e3 e5
    go_enter Tryz.func116, Tryz.ntmps116
    go_wp2_with (go_at_call 82; refine (brCheckDir B _ _ d (HD.out.ext ((eA _ _).trans (eA _ _))) HSM.out).mono ?_; rintro e w1 ⟨rfl, hb1⟩; have q2 : w1.heap[w.heap.size + 1]? = some (.cells #[.slice none 0 0, .bool false, .slice none 0 0, .slice none 0 0] 55 (0, 0)) := bX hb1 (blk_at (by simp)); have r0 := bC q2 0; have r1 := bC q2 1; have r2 := bC q2 2; have r3 := bC q2 3; have fz : ∀ j, w1.frozen? ⟨w.heap.size + 1, j, none⟩ = false := fun j => bT q2 j; have Q2 := hQq q2; clear q2; have q1 : w1.heap[w.heap.size]? = some (.cells #[.slice a3 d.ats.length cap3, .bool d.opq, .slice a4 d.red.length cap4, .slice a5 d.ens.length cap5] 55 (0, 0)) := bX hb1 (bA (bN w _)); have k0 := bC q1 0; have k1 := bC q1 1; rw [E5.out] at k1; have k2 := bC q1 2; have k3 := bC q1 3; have Q1 := hQq q1; clear q1; have HB1 := hQq (((eA _ _).trans (eA _ _)).trans hb1); clear hb1)
    refine nW (P := fun W => bodyPost _ _ _ _ _ W) _ ?_
    intro W2 hW2
    obtain ⟨hq, hx, hc⟩ := set4 Q2.out (by omega) HB1.out hW2
    refine bodyPost_ret (v := .tuple #[.agg #[.slice a3 d.ats.length cap3, .bool false, .slice a4 d.red.length cap4, .slice a5 d.ens.length cap5], fltV (-1) (6)]) (by simp [results, Tryz.f116, go_sem, bC hq 0, bC hq 1, bC hq 2, bC hq 3]) rfl ?_
    exact ⟨⟨_, _, _, _, _, _, _, _, _, _, _, rfl, .inr ⟨by rw [HX.out.2.2]; exact (by decide), by rw [HX.out.2.1, HX.out.2.2]⟩⟩, hx⟩
  have E2 := hQq e2
  have E5 : Hid (d.opq = false) := hQq (Bool.eq_false_iff.2 fun h => e2 (.inl h))
  have q5 : ¬ 0 < d.red.length := fun h => e2 (.inr h)
  have q2 := lenZ q5
  clear e2
  by_cases e3 : ptsE 1 d.ats = 0
  case neg =>
    have HX := hQq (dr_of (drT_pts E1.out E2.out e3))
    have q3 : (ptsE 1 d.ats != 0) = true := bne_iff_ne.2 e3
    have E3 := hQq e3
    clear e3
    go_enter Tryz.func116, Tryz.ntmps116
    go_wp2_with (first
      | (go_at_call 82; refine (brCheckDir B _ _ d (HD.out.ext ((eA _ _).trans (eA _ _))) HSM.out).mono ?_; rintro e w1 ⟨rfl, hb1⟩; have q2 : w1.heap[w.heap.size + 1]? = some (.cells #[.slice none 0 0, .bool false, .slice none 0 0, .slice none 0 0] 55 (0, 0)) := bX hb1 (blk_at (by simp)); have r0 := bC q2 0; have r1 := bC q2 1; have r2 := bC q2 2; have r3 := bC q2 3; have fz : ∀ j, w1.frozen? ⟨w.heap.size + 1, j, none⟩ = false := fun j => bT q2 j; have Q2 := hQq q2; clear q2; have q1 : w1.heap[w.heap.size]? = some (.cells #[.slice a3 d.ats.length cap3, .bool d.opq, .slice a4 d.red.length cap4, .slice a5 d.ens.length cap5] 55 (0, 0)) := bX hb1 (bA (bN w _)); have k0 := bC q1 0; have k1 := bC q1 1; rw [E5.out] at k1; have k2 := bC q1 2; have k3 := bC q1 3; have Q1 := hQq q1; clear q1; have HB1 := hQq (((eA _ _).trans (eA _ _)).trans hb1); clear hb1)
      | (go_at_call 172; refine (ovRead _ d.ats _ (HL.out.ext HB1.out) ((HA.out.ext okA HB1.out).attrs) HSM.out.ats).mono ?_; rintro e w3 ⟨⟨v3, bm, n3, rfl, hv3, hmp, hbm⟩, hb3⟩; obtain ⟨a7, cap7, rfl, -, -⟩ := hv3.1; clear r0 r1 r2 r3 fz k0 k1 k2 k3; have q2 : w3.heap[w.heap.size + 1]? = some (.cells #[.slice none 0 0, .bool false, .slice none 0 0, .slice none 0 0] 55 (0, 0)) := bX hb3 Q2.out; have r0 := bC q2 0; have r1 := bC q2 1; have r2 := bC q2 2; have r3 := bC q2 3; have fz : ∀ j, w3.frozen? ⟨w.heap.size + 1, j, none⟩ = false := fun j => bT q2 j; have Q2 := hQq q2; clear q2; have q1x := bX hb3 Q1.out; have k0 := bC q1x 0; have k1 := bC q1x 1; have k2 := bC q1x 2; have k3 := bC q1x 3; have R1 := hQq q1x; have hz1 := blk_lt q1x; have hz2 := blk_lt Q2.out; have HV3 := hQq hv3; have HMP := hQq (hmp.ext (eA w3 (.cells #[.string (valM (ptsO 1 d.ats) opqW), .string (valM (ptsO 1 d.ats) reW), .string (valM (ptsO 1 d.ats) nlW)] 135))); have lkN := thM_lookN HMP.out; have HB3 := hQq (HB1.out.trans hb3); rw [E5.out] at k1; clear hv3 hmp hbm hb3 q1x)
      | fail)
    refine nW (P := fun W => bodyPost _ _ _ _ _ W) _ ?_
    intro W2 hW2
    have hW3 : W2 = (setL w3 (w.heap.size + 1) 0 [.slice a3 d.ats.length cap3, .bool false, .slice a4 d.red.length cap4, .slice a5 d.ens.length cap5]).alloc (.cells #[.string (valM (ptsO 1 d.ats) opqW), .string (valM (ptsO 1 d.ats) reW), .string (valM (ptsO 1 d.ats) nlW)] 135) := hW2
    obtain ⟨hq, hx⟩ := put4a (w := w) Q2.out (by omega) HB3.out hW3
    refine bodyPost_ret (v := .tuple #[.agg #[.slice a3 d.ats.length cap3, .bool false, .slice a4 d.red.length cap4, .slice a5 d.ens.length cap5], fltV (-1) (ptsE 1 d.ats)]) (by simp [results, Tryz.f116, go_sem, bC hq 0, bC hq 1, bC hq 2, bC hq 3]) rfl ?_
    exact ⟨⟨_, _, _, _, _, _, _, _, _, _, _, rfl, .inr ⟨by rw [HX.out.2.2]; exact E3.out, by rw [HX.out.2.1, HX.out.2.2]⟩⟩, hx⟩
  have E3 := hQq e3
  clear e3
  cases e4 : isM (ptsO 1 d.ats) nlW
  case true =>
    have HX := hQq (dr_of (drT_link E1.out E2.out E3.out e4))
    have E4 := hQq e4
    clear e4
    go_enter Tryz.func116, Tryz.ntmps116
    go_wp2_with (first
      | (go_at_call 82; refine (brCheckDir B _ _ d (HD.out.ext ((eA _ _).trans (eA _ _))) HSM.out).mono ?_; rintro e w1 ⟨rfl, hb1⟩; have q2 : w1.heap[w.heap.size + 1]? = some (.cells #[.slice none 0 0, .bool false, .slice none 0 0, .slice none 0 0] 55 (0, 0)) := bX hb1 (blk_at (by simp)); have r0 := bC q2 0; have r1 := bC q2 1; have r2 := bC q2 2; have r3 := bC q2 3; have fz : ∀ j, w1.frozen? ⟨w.heap.size + 1, j, none⟩ = false := fun j => bT q2 j; have Q2 := hQq q2; clear q2; have q1 : w1.heap[w.heap.size]? = some (.cells #[.slice a3 d.ats.length cap3, .bool d.opq, .slice a4 d.red.length cap4, .slice a5 d.ens.length cap5] 55 (0, 0)) := bX hb1 (bA (bN w _)); have k0 := bC q1 0; have k1 := bC q1 1; rw [E5.out] at k1; have k2 := bC q1 2; have k3 := bC q1 3; have Q1 := hQq q1; clear q1; have HB1 := hQq (((eA _ _).trans (eA _ _)).trans hb1); clear hb1)
      | (go_at_call 172; refine (ovRead _ d.ats _ (HL.out.ext HB1.out) ((HA.out.ext okA HB1.out).attrs) HSM.out.ats).mono ?_; rintro e w3 ⟨⟨v3, bm, n3, rfl, hv3, hmp, hbm⟩, hb3⟩; obtain ⟨a7, cap7, rfl, -, -⟩ := hv3.1; clear r0 r1 r2 r3 fz k0 k1 k2 k3; have q2 : w3.heap[w.heap.size + 1]? = some (.cells #[.slice none 0 0, .bool false, .slice none 0 0, .slice none 0 0] 55 (0, 0)) := bX hb3 Q2.out; have r0 := bC q2 0; have r1 := bC q2 1; have r2 := bC q2 2; have r3 := bC q2 3; have fz : ∀ j, w3.frozen? ⟨w.heap.size + 1, j, none⟩ = false := fun j => bT q2 j; have Q2 := hQq q2; clear q2; have q1x := bX hb3 Q1.out; have k0 := bC q1x 0; have k1 := bC q1x 1; have k2 := bC q1x 2; have k3 := bC q1x 3; have R1 := hQq q1x; have hz1 := blk_lt q1x; have hz2 := blk_lt Q2.out; have HV3 := hQq hv3; have HMP := hQq (hmp.ext (eA w3 (.cells #[.string (valM (ptsO 1 d.ats) opqW), .string (valM (ptsO 1 d.ats) reW), .string (valM (ptsO 1 d.ats) nlW)] 135))); have lkN := thM_lookN HMP.out; have HB3 := hQq (HB1.out.trans hb3); rw [E5.out] at k1; rw [E4.out] at lkN; rw [E3.out]; clear hv3 hmp hbm hb3 q1x)
      | fail)
    refine nW (P := fun W => bodyPost _ _ _ _ _ W) _ ?_
    intro W2 hW2
    have hW3 : W2 = (setL w3 (w.heap.size + 1) 0 [.slice a3 d.ats.length cap3, .bool false, .slice a4 d.red.length cap4, .slice a5 d.ens.length cap5]).alloc (.cells #[.string (valM (ptsO 1 d.ats) opqW), .string (valM (ptsO 1 d.ats) reW), .string (valM (ptsO 1 d.ats) nlW)] 135) := hW2
    obtain ⟨hq, hx⟩ := put4a (w := w) Q2.out (by omega) HB3.out hW3
    refine bodyPost_ret (v := .tuple #[.agg #[.slice a3 d.ats.length cap3, .bool false, .slice a4 d.red.length cap4, .slice a5 d.ens.length cap5], fltV (-1) (18)]) (by simp [results, Tryz.f116, go_sem, bC hq 0, bC hq 1, bC hq 2, bC hq 3]) rfl ?_
    exact ⟨⟨_, _, _, _, _, _, _, _, _, _, _, rfl, .inr ⟨by rw [HX.out.2.2]; exact (by decide), by rw [HX.out.2.1, HX.out.2.2]⟩⟩, hx⟩
  case false =>
  have E4 := hQq e4
  have HTZ : Hid ((valM (ptsO 1 d.ats) reW).size <= 1000000) := hQq (valM_size HSM.out.ats)
  clear e4
  obtain ⟨o, ho⟩ : ∃ o, turnO (ptsO 1 d.ats) = o := ⟨_, rfl⟩
  have HOQ := hQq ho
  obtain ⟨te, hte⟩ : ∃ te, turnE (ptsO 1 d.ats) = te := ⟨_, rfl⟩
  have HTE := hQq hte
  clear ho hte
  go_enter Tryz.func116, Tryz.ntmps116
  go_upto_region 12 with (first
      | (go_at_call 82; refine (brCheckDir B _ _ d (HD.out.ext ((eA _ _).trans (eA _ _))) HSM.out).mono ?_; rintro e w1 ⟨rfl, hb1⟩; have q2 : w1.heap[w.heap.size + 1]? = some (.cells #[.slice none 0 0, .bool false, .slice none 0 0, .slice none 0 0] 55 (0, 0)) := bX hb1 (blk_at (by simp)); have r0 := bC q2 0; have r1 := bC q2 1; have r2 := bC q2 2; have r3 := bC q2 3; have fz : ∀ j, w1.frozen? ⟨w.heap.size + 1, j, none⟩ = false := fun j => bT q2 j; have Q2 := hQq q2; clear q2; have q1 : w1.heap[w.heap.size]? = some (.cells #[.slice a3 d.ats.length cap3, .bool d.opq, .slice a4 d.red.length cap4, .slice a5 d.ens.length cap5] 55 (0, 0)) := bX hb1 (bA (bN w _)); have k0 := bC q1 0; have k1 := bC q1 1; rw [E5.out] at k1; have k2 := bC q1 2; have k3 := bC q1 3; have Q1 := hQq q1; clear q1; have HB1 := hQq (((eA _ _).trans (eA _ _)).trans hb1); clear hb1)
      | (go_at_call 172; refine (ovRead _ d.ats _ (HL.out.ext HB1.out) ((HA.out.ext okA HB1.out).attrs) HSM.out.ats).mono ?_; rintro e w3 ⟨⟨v3, bm, n3, rfl, hv3, hmp, hbm⟩, hb3⟩; obtain ⟨a7, cap7, rfl, -, -⟩ := hv3.1; clear r0 r1 r2 r3 fz k0 k1 k2 k3; have q2 : w3.heap[w.heap.size + 1]? = some (.cells #[.slice none 0 0, .bool false, .slice none 0 0, .slice none 0 0] 55 (0, 0)) := bX hb3 Q2.out; have r0 := bC q2 0; have r1 := bC q2 1; have r2 := bC q2 2; have r3 := bC q2 3; have fz : ∀ j, w3.frozen? ⟨w.heap.size + 1, j, none⟩ = false := fun j => bT q2 j; have Q2 := hQq q2; clear q2; have q1x := bX hb3 Q1.out; have k0 := bC q1x 0; have k1 := bC q1x 1; have k2 := bC q1x 2; have k3 := bC q1x 3; have R1 := hQq q1x; have hz1 := blk_lt q1x; have hz2 := blk_lt Q2.out; have HV3 := hQq hv3; have HMP := hQq (hmp.ext (eA w3 (.cells #[.string (valM (ptsO 1 d.ats) opqW), .string (valM (ptsO 1 d.ats) reW), .string (valM (ptsO 1 d.ats) nlW)] 135))); have lkN := thM_lookN HMP.out; have HB3 := hQq (HB1.out.trans hb3); rw [E5.out] at k1; rw [E4.out] at lkN; rw [E3.out]; clear hv3 hmp hbm hb3 q1x)
      | (go_at_call 173; refine (ovTurn (ptsO 1 d.ats) bm n3 _ (HL.out.ext (HB3.out.trans (eA _ _))) HMP.out HTZ.out).mono ?_; rintro e w4 ⟨⟨a8, cap8, rfl, ho4⟩, hb4⟩; have HR4 := hQq ho4; have HB4 : Hid (Ext w3 w4) := hQq ((eA _ _).trans hb4); clear r0 r1 r2 r3 fz k0 k1 k2 k3 lkN hz1 hz2; have q2 : w4.heap[w.heap.size + 1]? = some (.cells #[.slice none 0 0, .bool false, .slice none 0 0, .slice none 0 0] 55 (0, 0)) := bX HB4.out Q2.out; have r0 := bC q2 0; have r1 := bC q2 1; have r2 := bC q2 2; have r3 := bC q2 3; have fz : ∀ j, w4.frozen? ⟨w.heap.size + 1, j, none⟩ = false := fun j => bT q2 j; have Q2 := hQq q2; clear q2; have q1y := bX HB4.out R1.out; have k0 := bC q1y 0; have k1 := bC q1y 1; have k2 := bC q1y 2; have k3 := bC q1y 3; have S1 := hQq q1y; have hz1 := blk_lt q1y; have hz2 := blk_lt Q2.out; rw [HOQ.out, HTE.out]; rw [E5.out] at k1; clear ho4 hb4 q1y)
      | fail)
  by_cases e6 : te ≠ 0 \/ (o = true /\ 0 < (turnR (ptsO 1 d.ats)).length)
  case pos =>
    have HX := hQq (dr_of (drT_turn E1.out E2.out E3.out E4.out (by rw [HTE.out, HOQ.out]; exact e6)))
    by_cases e7 : te = 0
    case neg =>
      have q7 : (te != 0) = true := bne_iff_ne.2 e7
      clear e6 e7
      go_wp2
      refine nW (P := fun W => bodyPost _ _ _ _ _ W) _ ?_
      intro W2 hW2
      obtain ⟨hq, hx, hc⟩ := set4 Q2.out (by omega) (HB3.out.trans HB4.out) hW2
      refine bodyPost_ret (v := .tuple #[.agg #[.slice a3 d.ats.length cap3, .bool false, .slice a4 d.red.length cap4, .slice a5 d.ens.length cap5], fltV (-1) (6)]) (by simp [results, Tryz.f116, go_sem, bC hq 0, bC hq 1, bC hq 2, bC hq 3]) rfl ?_
      exact ⟨⟨_, _, _, _, _, _, _, _, _, _, _, rfl, .inr ⟨by rw [HX.out.2.2]; exact (by decide), by rw [HX.out.2.1, HX.out.2.2]⟩⟩, hx⟩
    obtain ⟨e8, e9⟩ := e6.resolve_left (fun h => h e7)
    have q7 : (te != 0) = false := bne_eq_false_iff_eq.2 e7
    have q8 := lenP e9
    have q9 : decide (0 < (turnR (ptsO 1 d.ats)).length) = true := decide_eq_true e9
    subst e8
    clear e6 e7 e9
    go_wp2
    refine nW (P := fun W => bodyPost _ _ _ _ _ W) _ ?_
    intro W2 hW2
    obtain ⟨hq, hx, hc⟩ := set4 Q2.out (by omega) (HB3.out.trans HB4.out) hW2
    refine bodyPost_ret (v := .tuple #[.agg #[.slice a3 d.ats.length cap3, .bool false, .slice a4 d.red.length cap4, .slice a5 d.ens.length cap5], fltV (-1) (6)]) (by simp [results, Tryz.f116, go_sem, bC hq 0, bC hq 1, bC hq 2, bC hq 3]) rfl ?_
    exact ⟨⟨_, _, _, _, _, _, _, _, _, _, _, rfl, .inr ⟨by rw [HX.out.2.2]; exact (by decide), by rw [HX.out.2.1, HX.out.2.2]⟩⟩, hx⟩
  exact absurd ⟨E1.out, E2.out, E3.out, E4.out, by rw [HTE.out, HOQ.out]; exact e6⟩ hE
end Go.Proofs.YtnbkcalodmggaaaGreatDoor
namespace Go.Proofs.YtnbkcalodmggaaaGreatDoor
open Go.RowKit

set_option maxRecDepth 100000 in
set_option maxHeartbeats 16000000 in
theorem ovEncodeDir (B : Nat) (w : World) (v : Value) (d : DiN) (hL : LaidO w) (hT : ErrT w) (hd : DirIn B w v d) (hB : B <= w.heap.size) (hsm : SmallD d) (hns : NsOk d) :
    Calls Tryz.prog 40 #[v] w (DirX w (ocD d) (ocN d) (ocE d)) := by
  have HD := hQq hd
  obtain ⟨va, vr, ve, rfl, ha, hr, he⟩ := hd
  have HSM := hQq hsm; have HL := hQq hL; have HNS := hQq hns; have HT := hQq hT
  obtain ⟨a3, cap3, rfl⟩ := ha.form
  obtain ⟨a4, cap4, rfl⟩ := hr.form
  obtain ⟨a5, cap5, rfl⟩ := he.form
  clear ha hr he hsm hL hns hT
  by_cases e1 : ocE d = 0
  case neg =>
    have HX := hQq (oc_err e1)
    have E1 := hQq e1
    clear e1
    go_enter Tryz.func40, Tryz.ntmps40
    go_wp2_with (first
      | (go_at_call 111; refine (ovEncodeDir1 B _ _ d (HL.out.ext ((eA _ _).trans (eA _ _))) (HD.out.ext ((eA _ _).trans (eA _ _))) (by simp; omega) HSM.out HNS.out).mono ?_; rintro e w1 ⟨⟨b0, n0, c0, o, b1, n1, c1, b2, n2, c2, ev, rfl, hev⟩, hb1⟩; have q2 : w1.heap[w.heap.size + 1]? = some (.cells #[.slice none 0 0, .bool false, .slice none 0 0, .slice none 0 0] 55 (0, 0)) := bX hb1 (blk_at (by simp)); have Q2 := hQq q2; have r0 := bC q2 0; have r1 := bC q2 1; have r2 := bC q2 2; have r3 := bC q2 3; have fz : ∀ j, w1.frozen? ⟨w.heap.size + 1, j, none⟩ = false := fun j => bT q2 j; have HB1 := hQq (((eA _ _).trans (eA _ _)).trans hb1); have hs1 := blk_lt q2; clear hb1 q2; have HEV := hQq hev; clear hev; obtain rfl := flt_err HEV.out E1.out; clear HEV)
      | (go_at_call 112; refine (ovAnswer _ _ _ (HT.out.ext (HB1.out.trans (eA _ _)))).mono ?_; rintro e w2 ⟨rfl, hb2⟩; clear r0 r1 r2 r3 fz; have HB2 : Hid (Ext w1 w2) := hQq ((eA _ _).trans hb2); have q3 := bX HB2.out Q2.out; have Q3 := hQq q3; have r0 := bC q3 0; have r1 := bC q3 1; have r2 := bC q3 2; have r3 := bC q3 3; have fz : ∀ j, w2.frozen? ⟨w.heap.size + 1, j, none⟩ = false := fun j => bT q3 j; clear q3 hb2))
    refine nW (P := fun W => bodyPost _ _ _ _ _ W) _ ?_
    intro W2 hW2
    obtain ⟨hq, hx, hc⟩ := set4 Q3.out (by omega) (HB1.out.trans HB2.out) hW2
    refine bodyPost_ret (v := .tuple #[.agg #[.slice none 0 0, .bool false, .slice none 0 0, .slice none 0 0], .int .i64 (ocN d), .int .i64 (ocE d)]) (by simp [results, Tryz.f40, go_sem, bC hq 0, bC hq 1, bC hq 2, bC hq 3]) rfl ?_
    exact ⟨⟨_, w.heap.size, rfl, by rw [HX.out]; exact zDir_in _ _, Nat.le_refl _, hx.size⟩, hx⟩
  have HX := hQq (oc_no e1)
  have E1 := hQq e1
  clear e1
  go_enter Tryz.func40, Tryz.ntmps40
  go_wp2_with (go_at_call 111; refine (ovEncodeDir1 B _ _ d (HL.out.ext ((eA _ _).trans (eA _ _))) (HD.out.ext ((eA _ _).trans (eA _ _))) (by simp; omega) HSM.out HNS.out).mono ?_; rintro e w1 ⟨⟨b0, n0, c0, o, b1, n1, c1, b2, n2, c2, ev, rfl, hev⟩, hb1⟩; have q2 : w1.heap[w.heap.size + 1]? = some (.cells #[.slice none 0 0, .bool false, .slice none 0 0, .slice none 0 0] 55 (0, 0)) := bX hb1 (blk_at (by simp)); have Q2 := hQq q2; have r0 := bC q2 0; have r1 := bC q2 1; have r2 := bC q2 2; have r3 := bC q2 3; have fz : ∀ j, w1.frozen? ⟨w.heap.size + 1, j, none⟩ = false := fun j => bT q2 j; have HB1 := hQq (((eA _ _).trans (eA _ _)).trans hb1); have hs1 := blk_lt q2; clear hb1 q2; have HEV := hQq hev; clear hev; obtain ⟨rfl, hdi⟩ := flt_ok HEV.out E1.out; have HDI := hQq hdi; clear HEV hdi)
  refine nW (P := fun W => bodyPost _ _ _ _ _ W) _ ?_
  intro W2 hW2
  have hW3 : W2 = (setL w1 (w.heap.size + 1) 0 [.slice b0 n0 c0, .bool o, .slice b1 n1 c1, .slice b2 n2 c2]).alloc (.cells #[.slice b0 n0 c0, .bool o, .slice b1 n1 c1, .slice b2 n2 c2] 55 (0, 0)) := hW2
  obtain ⟨hq, hx⟩ := put4a (w := w) Q2.out (by omega) HB1.out hW3
  obtain ⟨-, -, hc⟩ := set4 (y0 := .slice b0 n0 c0) (y1 := .bool o) (y2 := .slice b1 n1 c1) (y3 := .slice b2 n2 c2) Q2.out (by omega) HB1.out rfl
  refine bodyPost_ret (v := .tuple #[.agg #[.slice b0 n0 c0, .bool o, .slice b1 n1 c1, .slice b2 n2 c2], .int .i64 0, .int .i64 0]) (by simp [results, Tryz.f40, go_sem, bC hq 0, bC hq 1, bC hq 2, bC hq 3]) rfl ?_
  exact ⟨⟨_, _, by rw [HX.out, E1.out], by rw [hW3]; exact (HDI.out.keepX (setL_keep _ _ _) (Nat.le_of_eq (setL_size _ _ _).symm) (no_str Q2.out)).ext (eA _ _), by simp; omega, by rw [hW3]; have := blk_lt Q2.out; simp [setL_size]; omega⟩, hx⟩
end Go.Proofs.YtnbkcalodmggaaaGreatDoor
namespace Go.Proofs.YtnbkcalodmggaaaGreatDoor
open Go.RowKit

theorem ovDecodeDir1 (B : Nat) (w : World) (v : Value) (d : DiN) (hL : LaidO w) (hd : DirIn B w v d) (hB : B <= w.heap.size) (hsm : SmallD d) (hns : NsOk d) :
    Calls Tryz.prog 116 #[v] w (FltP w (drD d) (drN d) (drE d)) := by
  by_cases h : dirE d = 0 /\ ¬ (d.opq = true \/ 0 < d.red.length) /\ ptsE 1 d.ats = 0 /\ isM (ptsO 1 d.ats) nlW = false /\ ¬ (turnE (ptsO 1 d.ats) ≠ 0 \/ (turnO (ptsO 1 d.ats) = true /\ 0 < (turnR (ptsO 1 d.ats)).length))
  · exact ovDecodeDirM B w v d hL hd hB hsm hns h.1 h.2.1 h.2.2.1 h.2.2.2.1 h.2.2.2.2
  · exact ovDecodeDir0 B w v d hL hd hB hsm hns h
end Go.Proofs.YtnbkcalodmggaaaGreatDoor
namespace Go.Proofs.YtnbkcalodmggaaaGreatDoor
open Go.RowKit

set_option maxRecDepth 100000 in
set_option maxHeartbeats 16000000 in
theorem ovDecodeDir (B : Nat) (w : World) (v : Value) (d : DiN) (hL : LaidO w) (hT : ErrT w) (hd : DirIn B w v d) (hB : B <= w.heap.size) (hsm : SmallD d) (hns : NsOk d) :
    Calls Tryz.prog 42 #[v] w (DirX w (drD d) (drN d) (drE d)) := by
  have HD := hQq hd
  obtain ⟨va, vr, ve, rfl, ha, hr, he⟩ := hd
  have HSM := hQq hsm; have HL := hQq hL; have HNS := hQq hns; have HT := hQq hT
  obtain ⟨a3, cap3, rfl⟩ := ha.form
  obtain ⟨a4, cap4, rfl⟩ := hr.form
  obtain ⟨a5, cap5, rfl⟩ := he.form
  clear ha hr he hsm hL hns hT
  by_cases e1 : drE d = 0
  case neg =>
    have HX := hQq (dr_err e1)
    have E1 := hQq e1
    clear e1
    go_enter Tryz.func42, Tryz.ntmps42
    go_wp2_with (first
      | (go_at_call 116; refine (ovDecodeDir1 B _ _ d (HL.out.ext ((eA _ _).trans (eA _ _))) (HD.out.ext ((eA _ _).trans (eA _ _))) (by simp; omega) HSM.out HNS.out).mono ?_; rintro e w1 ⟨⟨b0, n0, c0, o, b1, n1, c1, b2, n2, c2, ev, rfl, hev⟩, hb1⟩; have q2 : w1.heap[w.heap.size + 1]? = some (.cells #[.slice none 0 0, .bool false, .slice none 0 0, .slice none 0 0] 55 (0, 0)) := bX hb1 (blk_at (by simp)); have Q2 := hQq q2; have r0 := bC q2 0; have r1 := bC q2 1; have r2 := bC q2 2; have r3 := bC q2 3; have fz : ∀ j, w1.frozen? ⟨w.heap.size + 1, j, none⟩ = false := fun j => bT q2 j; have HB1 := hQq (((eA _ _).trans (eA _ _)).trans hb1); have hs1 := blk_lt q2; clear hb1 q2; have HEV := hQq hev; clear hev; obtain rfl := flt_err HEV.out E1.out; clear HEV)
      | (go_at_call 112; refine (ovAnswer _ _ _ (HT.out.ext (HB1.out.trans (eA _ _)))).mono ?_; rintro e w2 ⟨rfl, hb2⟩; clear r0 r1 r2 r3 fz; have HB2 : Hid (Ext w1 w2) := hQq ((eA _ _).trans hb2); have q3 := bX HB2.out Q2.out; have Q3 := hQq q3; have r0 := bC q3 0; have r1 := bC q3 1; have r2 := bC q3 2; have r3 := bC q3 3; have fz : ∀ j, w2.frozen? ⟨w.heap.size + 1, j, none⟩ = false := fun j => bT q3 j; clear q3 hb2))
    refine nW (P := fun W => bodyPost _ _ _ _ _ W) _ ?_
    intro W2 hW2
    obtain ⟨hq, hx, hc⟩ := set4 Q3.out (by omega) (HB1.out.trans HB2.out) hW2
    refine bodyPost_ret (v := .tuple #[.agg #[.slice none 0 0, .bool false, .slice none 0 0, .slice none 0 0], .int .i64 (drN d), .int .i64 (drE d)]) (by simp [results, Tryz.f42, go_sem, bC hq 0, bC hq 1, bC hq 2, bC hq 3]) rfl ?_
    exact ⟨⟨_, w.heap.size, rfl, by rw [HX.out]; exact zDir_in _ _, Nat.le_refl _, hx.size⟩, hx⟩
  have HX := hQq (dr_zero e1).1
  have E1 := hQq e1
  clear e1
  go_enter Tryz.func42, Tryz.ntmps42
  go_wp2_with (go_at_call 116; refine (ovDecodeDir1 B _ _ d (HL.out.ext ((eA _ _).trans (eA _ _))) (HD.out.ext ((eA _ _).trans (eA _ _))) (by simp; omega) HSM.out HNS.out).mono ?_; rintro e w1 ⟨⟨b0, n0, c0, o, b1, n1, c1, b2, n2, c2, ev, rfl, hev⟩, hb1⟩; have q2 : w1.heap[w.heap.size + 1]? = some (.cells #[.slice none 0 0, .bool false, .slice none 0 0, .slice none 0 0] 55 (0, 0)) := bX hb1 (blk_at (by simp)); have Q2 := hQq q2; have r0 := bC q2 0; have r1 := bC q2 1; have r2 := bC q2 2; have r3 := bC q2 3; have fz : ∀ j, w1.frozen? ⟨w.heap.size + 1, j, none⟩ = false := fun j => bT q2 j; have HB1 := hQq (((eA _ _).trans (eA _ _)).trans hb1); have hs1 := blk_lt q2; clear hb1 q2; have HEV := hQq hev; clear hev; obtain ⟨rfl, hdi⟩ := flt_ok HEV.out E1.out; have HDI := hQq hdi; clear HEV hdi)
  refine nW (P := fun W => bodyPost _ _ _ _ _ W) _ ?_
  intro W2 hW2
  have hW3 : W2 = (setL w1 (w.heap.size + 1) 0 [.slice b0 n0 c0, .bool o, .slice b1 n1 c1, .slice b2 n2 c2]).alloc (.cells #[.slice b0 n0 c0, .bool o, .slice b1 n1 c1, .slice b2 n2 c2] 55 (0, 0)) := hW2
  obtain ⟨hq, hx⟩ := put4a (w := w) Q2.out (by omega) HB1.out hW3
  obtain ⟨-, -, hc⟩ := set4 (y0 := .slice b0 n0 c0) (y1 := .bool o) (y2 := .slice b1 n1 c1) (y3 := .slice b2 n2 c2) Q2.out (by omega) HB1.out rfl
  refine bodyPost_ret (v := .tuple #[.agg #[.slice b0 n0 c0, .bool o, .slice b1 n1 c1, .slice b2 n2 c2], .int .i64 0, .int .i64 0]) (by simp [results, Tryz.f42, go_sem, bC hq 0, bC hq 1, bC hq 2, bC hq 3]) rfl ?_
  exact ⟨⟨_, _, by rw [HX.out, E1.out], by rw [hW3]; exact (HDI.out.keepX (setL_keep _ _ _) (Nat.le_of_eq (setL_size _ _ _).symm) (no_str Q2.out)).ext (eA _ _), by simp; omega, by rw [hW3]; have := blk_lt Q2.out; simp [setL_size]; omega⟩, hx⟩
end Go.Proofs.YtnbkcalodmggaaaGreatDoor
namespace Go.Proofs.YtnbkcalodmggaaaGreatDoor
open Go.RowKit

set_option maxRecDepth 100000 in
set_option maxHeartbeats 8000000 in
theorem refDirSame (B B' : Nat) (u v : Value) (d : DiN) (w : World) (hu : DirIn B w u d) (hv : DirIn B' w v d) (ha : d.ats.length <= 1000000) (hr : d.red.length <= 1000000) (hl : d.ens.length <= 1000) (he : ∀ x ∈ d.ens, x.nd.ats.length <= 1000000) :
    RetB Tryz.prog 31 #[u, v] w (.bool true) := by
  unfold RetB
  obtain ⟨va, vr, ve, rfl, h1, h2, h3⟩ := hu
  obtain ⟨va', vr', ve', rfl, h1', h2', h3'⟩ := hv
  obtain ⟨a3, cap3, rfl⟩ := h1.form
  obtain ⟨a4, cap4, rfl⟩ := h2.form
  obtain ⟨a5, cap5, rfl⟩ := h3.form
  obtain ⟨b3, dap3, rfl⟩ := h1'.form
  obtain ⟨b4, dap4, rfl⟩ := h2'.form
  obtain ⟨b5, dap5, rfl⟩ := h3'.form
  have HA := hQq h1.attrs; have HA' := hQq h1'.attrs; have HR := hQq h2.strs; have HR' := hQq h2'.strs
  have HE := hQq h3; have HE' := hQq h3'; have HX := hQq he
  clear h1 h2 h3 h1' h2' h3' he
  have HS1 := hQq (fun W (hW : Ext w W) => refSameA _ _ d.ats d.ats W (HA.out.ext hW) (HA'.out.ext hW) ha)
  have HS2 := hQq (fun W (hW : Ext w W) => refSameT _ _ d.red W (HR.out.ext hW) (HR'.out.ext hW) hr)
  unfold RetB at HS2
  have qb : (d.opq != d.opq) = false := by cases d.opq <;> rfl
  go_enter Tryz.func31, Tryz.ntmps31
  go_upto_region 1 with fail
  refine nW (P := fun W => Code.wp _ _ _ _ W) _ ?_
  intro W hW
  have Q1 : Hid (W.heap[w.heap.size]? = some (.cells #[.slice a3 d.ats.length cap3, .bool d.opq, .slice a4 d.red.length cap4, .slice a5 d.ens.length cap5] 55 (0, 0))) := hQq (by rw [hW]; exact bA (bN w _))
  have Q2 : Hid (W.heap[w.heap.size + 1]? = some (.cells #[.slice b3 d.ats.length dap3, .bool d.opq, .slice b4 d.red.length dap4, .slice b5 d.ens.length dap5] 55 (0, 0))) := hQq (by rw [hW]; exact blk_at (by simp))
  have HW : Hid (Ext w W) := hQq (by rw [hW]; exact (eA _ _).trans (eA _ _))
  clear hW
  have k0 := bC Q1.out 0; have k1 := bC Q1.out 1; have k2 := bC Q1.out 2; have k3 := bC Q1.out 3
  have m0 := bC Q2.out 0; have m1 := bC Q2.out 1; have m2 := bC Q2.out 2; have m3 := bC Q2.out 3
  go_wp2_with (first
    | (go_at_call 88; go_loud (refine (sameAtsD _ _ d.ats _ (B := W.heap.size) (attIn_at (HA.out.ext HW.out)) (attIn_at (HA'.out.ext HW.out)) ha).mono ?_; rintro e w1 ⟨rfl, hb1⟩; have n1 := bC (bX hb1 Q1.out) 1; have n2 := bC (bX hb1 Q1.out) 2; have n3 := bC (bX hb1 Q1.out) 3; have o1 := bC (bX hb1 Q2.out) 1; have o2 := bC (bX hb1 Q2.out) 2; have o3 := bC (bX hb1 Q2.out) 3; have HB1 := hQq hb1; clear hb1))
    | (go_at_call 78; go_loud (refine (HS2.out _ (HW.out.trans HB1.out)).mono ?_; rintro e w2 ⟨rfl, hb2⟩; have t3 := bC (bX (Ext.trans HB1.out hb2) Q1.out) 3; have s3 := bC (bX (Ext.trans HB1.out hb2) Q2.out) 3; have HB2 := hQq (Ext.trans HB1.out hb2); clear hb2))
    | fail)
  clear k0 k1 k2 k3 m0 m1 m2 m3 n1 n2 n3 o1 o2 o3 t3 s3
  go_loopw [5] (fun i w' => ∃ (wi : World) (k : Nat), wi = w' /\ k <= d.ens.length /\ i = .int .i64 k /\ Ext W wi) (fun i _ => d.ens.length - (intOf i).toNat)
  case atStart => exact ⟨_, 0, rfl, Nat.zero_le _, rfl, HB2.out⟩
  case round =>
    clear HB1 HB2
    obtain ⟨wi, k, rfl, hk, rfl, hE⟩ := hrel
    have HI := hQq hE
    have k3 := bC (bX hE Q1.out) 3
    have m3 := bC (bX hE Q2.out) 3
    have hz1 := blk_lt (bX hE Q1.out)
    have hz2 := blk_lt (bX hE Q2.out)
    clear hE
    by_cases hlt : k < d.ens.length
    case neg =>
      obtain rfl : k = d.ens.length := by omega
      go_wp2
      go_ret
      exact ⟨rfl, HW.out.trans HI.out⟩
    obtain ⟨b, off, vx, hex, hbx, hva, c0, c1, c2, c3, c4, c5, c6, c7, c8, c9, c10, c11⟩ := (HE.out.ext okE (HW.out.trans HI.out)).en k hlt
    obtain ⟨b', off', vy, hey, hby, hvb, d0, d1, d2, d3, d4, d5, d6, d7, d8, d9, d10, d11⟩ := (HE'.out.ext okE (HW.out.trans HI.out)).en k hlt
    cases hex
    cases hey
    have HXL := hQq (HX.out _ (List.getElem_mem hlt))
    have HVA := hQq (attIn_at hva.attrs); have HVB := hQq (attIn_at hvb.attrs)
    obtain ⟨a6, cap6, rfl⟩ := hva.form
    obtain ⟨b6, dap6, rfl⟩ := hvb.form
    generalize d.ens[k]'hlt = x at c0 c1 c2 c3 c4 c5 c6 c7 c8 c9 c10 c11 d0 d1 d2 d3 d4 d5 d6 d7 d8 d9 d10 d11 HVA HVB HXL
    have j1 : ((k : Nat) : Int) < (d.ens.length : Int) := by omega
    have j0 : (0 : Int) <= (k : Int) := by omega
    clear hva hvb
    go_upto_region 6 with fail
    go_cut [6, 7] (fun p q wx => ∃ g1 g2, p = .pointer (some ⟨g1, 0, none⟩) /\ q = .pointer (some ⟨g2, 0, none⟩) /\ Ext wi wx /\
      wx.heap[g1]? = some (.cells #[.string x.nm, .int .i64 x.nd.dep, .string x.nd.nm, .int .i64 x.nd.kd, .slice a6 x.nd.ats.length cap6, .string x.nd.dat, .int .i64 x.nd.ma, .int .i64 x.nd.mi, .int .i64 x.nd.cl, .bool x.wh, .bool x.fi, .int .i64 x.ns] 98 (0, 0)) /\
      wx.heap[g2]? = some (.cells #[.string x.nm, .int .i64 x.nd.dep, .string x.nd.nm, .int .i64 x.nd.kd, .slice b6 x.nd.ats.length dap6, .string x.nd.dat, .int .i64 x.nd.ma, .int .i64 x.nd.mi, .int .i64 x.nd.cl, .bool x.wh, .bool x.fi, .int .i64 x.ns] 98 (0, 0)))
    case first =>
      go_region
      all_goals
        go_wp2_with fail
        go_meet
        refine ⟨_, _, rfl, rfl, ?_, ?_, ?_⟩
        · first | exact ((eA _ _).trans (eA _ _)).trans (eD _) | exact ((eA _ _).trans (eA _ _)).trans (eDn _ _) | exact (eA _ _).trans (eA _ _)
        · first | exact bX (eD _) (bA (bN _ _)) | exact bX (eD _) (blk_at (by simp)) | exact bX (eDn _ _) (bA (bN _ _)) | exact bX (eDn _ _) (blk_at (by simp)) | exact bA (bN _ _) | exact blk_at (by simp)
        · first | exact bX (eD _) (bA (bN _ _)) | exact bX (eD _) (blk_at (by simp)) | exact bX (eDn _ _) (bA (bN _ _)) | exact bX (eDn _ _) (blk_at (by simp)) | exact bA (bN _ _) | exact blk_at (by simp)
    case rest =>
    obtain ⟨g1, g2, rfl, rfl, hE2, hg1, hg2⟩ := hcut
    have HI2 := hQq (HI.out.trans hE2); have HE2 := hQq hE2
    have e0 := bC hg1 0; have e1 := bC hg1 1; have e2 := bC hg1 2; have e3 := bC hg1 3; have e4 := bC hg1 4; have e5 := bC hg1 5; have e6 := bC hg1 6; have e7 := bC hg1 7; have e8 := bC hg1 8; have e9 := bC hg1 9; have e10 := bC hg1 10; have e11 := bC hg1 11
    have f0 := bC hg2 0; have f1 := bC hg2 1; have f2 := bC hg2 2; have f3 := bC hg2 3; have f4 := bC hg2 4; have f5 := bC hg2 5; have f6 := bC hg2 6; have f7 := bC hg2 7; have f8 := bC hg2 8; have f9 := bC hg2 9; have f10 := bC hg2 10; have f11 := bC hg2 11
    have hz3 := blk_lt hg1; have hz4 := blk_lt hg2
    clear hE2 hg1 hg2 c0 c1 c2 c3 c4 c5 c6 c7 c8 c9 c10 c11 d0 d1 d2 d3 d4 d5 d6 d7 d8 d9 d10 d11 k3 m3
    have q1 : (x.wh != x.wh) = false := by cases x.wh <;> rfl
    have q2 : (x.fi != x.fi) = false := by cases x.fi <;> rfl
    have HY := hQq (sameTB_yes (a := [x.nd]) rfl)
    go_wp2_with fail
    have HT1 := hQq (fun (o2 : Obj) => ((listIn_new (B := wi.heap.size) okT wc x.nd (trC x.nd (.slice a6 x.nd.ats.length cap6)) _ rfl ⟨_, HVA.out.ext okA HE2.out, rfl⟩).ext okT (eA _ o2)))
    have HT2 := hQq (fun (o1 : Obj) => listIn_new (B := wi.heap.size) okT (wc.alloc o1) x.nd (trC x.nd (.slice b6 x.nd.ats.length dap6)) (wc.heap.size + 1) (by simp) ⟨_, HVB.out.ext okA (HE2.out.trans (eA _ o1)), rfl⟩)
    refine (refSameList _ _ _ _ [x.nd] [x.nd] _ (HT1.out _) (HT2.out _) (by simp) (fun y hy => by rw [List.mem_singleton.1 hy]; exact HXL.out)).mono ?_
    rintro e w5 ⟨rfl, hb5⟩
    rw [HY.out]
    have HB5 := hQq (((eA _ _).trans (eA _ _)).trans hb5)
    clear hb5
    go_wp2
    go_roundw
    case rel => exact ⟨_, k + 1, rfl, by omega, by go_num, HI2.out.trans HB5.out⟩
    case measure => first | (simp [intOf]; done) | (simp [intOf]; omega)
end Go.Proofs.YtnbkcalodmggaaaGreatDoor
