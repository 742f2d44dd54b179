/- FuNeD FuNeH FuHD -/
import Derived.Test.YtimpejaaeinplaaGreatDoorJI6
import Derived.Test.YtimpejaaeinplaaGreatDoorJcFuRw
namespace Go.Proofs.YtimpejaaeinplaaGreatDoor
open Go.RowKit
set_option maxRecDepth 100000 in
set_option maxHeartbeats 16000000 in
theorem fuNeD (a0 b0 e0 : Addr) (B : Nat) (x : DeN) (va : Value) (h : Bool) (w : World) (hL : LaidF w a0 b0 e0) (hv : AttIn B w va x.nd.ats) (hm : Small x.nd.ats) (hn : x.ns <= 9223372036854775807) (_hB : B <= w.heap.size) (hw : x.wh = false) (hf : x.fi = true) (hp : ptsE 2 x.nd.ats = 0) (ht : whtB x.nd = true) (hh : hidB x.nd x.ns = true) (hr : h = true) :
  Calls Tryz.prog 90 #[.agg (deC x va).toArray, .bool h] w (EntX B w (rfX x) (rfE h x)) := by
 have HA := hQq hv; have HM := hQq hm; have HN := hQq hn; have HL := hQq hL
 obtain ⟨a3, cap3, rfl⟩ := hv.form
 clear hv hm hn hL
 unfold deC
 have HWH := hQq hw; have HFI := hQq hf; have HPZ := hQq hp
 have q2 : (ptsE 2 x.nd.ats != 0) = false := bne_eq_false_iff_eq.2 hp
 have fge := fuGetE
 have HWT : Hid (isM (ptsO 2 x.nd.ats) whW = true) := hQq ht
 have HWE : Hid (rfE h x = 0 /\ rfX x = { x with wh := true, nd := kdN 5 }) := hQq (by have e := rf_hid (o := h) hw hf hp ht; rw [if_pos ⟨hh, hr⟩] at e; exact e)
 have HHB := hQq hh
 subst hr
 rw [hw, hf]
 clear hw hf hp ht hh
 go_enter Tryz.func90, Tryz.ntmps90
 go_upto_region 1 with fail
 refine nW (P := fun W => Code.wp _ _ _ _ W) _ ?_
 intro w1 hW
 have hb1 : Ext ((w.alloc (.cells #[.string x.nm, .int .i64 x.nd.dep, .string x.nd.nm, .int .i64 x.nd.kd, .slice a3 x.nd.ats.length cap3, .string x.nd.dat, .int .i64 x.nd.ma, .int .i64 x.nd.mi, .int .i64 x.nd.cl, .bool false, .bool true, .int .i64 x.ns] 98 (0, 0))).alloc (.cells #[.string ⟨#[]⟩, .int .i64 0, .string ⟨#[]⟩, .int .i64 0, .slice none 0 0, .string ⟨#[]⟩, .int .i64 0, .int .i64 0, .int .i64 0, .bool false, .bool false, .int .i64 0] 98 (0, 0))) w1 := by rw [hW]; exact bR _ _
 have QX1 := hQq (bX hb1 (bA (bN w (.cells #[.string x.nm, .int .i64 x.nd.dep, .string x.nd.nm, .int .i64 x.nd.kd, .slice a3 x.nd.ats.length cap3, .string x.nd.dat, .int .i64 x.nd.ma, .int .i64 x.nd.mi, .int .i64 x.nd.cl, .bool false, .bool true, .int .i64 x.ns] 98 (0, 0))))); have QR1 := hQq (bX hb1 (blk_at (w := w.alloc (.cells #[.string x.nm, .int .i64 x.nd.dep, .string x.nd.nm, .int .i64 x.nd.kd, .slice a3 x.nd.ats.length cap3, .string x.nd.dat, .int .i64 x.nd.ma, .int .i64 x.nd.mi, .int .i64 x.nd.cl, .bool false, .bool true, .int .i64 x.ns] 98 (0, 0))) (o := .cells #[.string ⟨#[]⟩, .int .i64 0, .string ⟨#[]⟩, .int .i64 0, .slice none 0 0, .string ⟨#[]⟩, .int .i64 0, .int .i64 0, .int .i64 0, .bool false, .bool false, .int .i64 0] 98 (0, 0)) (n := w.heap.size + 1) (by simp)))
 have EW1 : Hid (Ext w w1) := hQq (((eA _ _).trans (eA _ _)).trans hb1)
 clear hW hb1
 obtain ⟨c0, c1, c2, c3, c4, c5, c6, c7, c8, c9, c10, c11⟩ := b12C QX1.out; have z1 := bL QX1.out
 go_wp2_with fail
 refine (escPartsT 2 _ x.nd.ats _ (HL.out.o.ext EW1.out).laid ((HA.out.ext okA EW1.out).attrs) HM.out).mono ?_
 rintro e w2 ⟨⟨v1, v2, rfl, ho1, ho2⟩, hb2⟩
 rw [HPZ.out]
 have HO1 := hQq ho1; have HO2 := hQq ho2
 obtain ⟨a6, cap6, rfl, -, -⟩ := ho1.1
 have EW2 := hQq (EW1.out.trans hb2); have QR2 := hQq (bX hb2 QR1.out); have QX2 := hQq (bX hb2 QX1.out)
 clear ho1 ho2 hb2 QR1 QX1 c0 c1 c2 c3 c4 c5 c6 c7 c8 c9 c10 c11 z1
 go_wp2_with fail
 refine (fuGet _ (ptsO 2 x.nd.ats) whW _ (HO2.out.1) (oS2 _)).mono ?_
 rintro e w3 ⟨rfl, hb⟩
 rw [HWT.out]
 have EW3 := hQq (EW2.out.trans hb); have QR3 := hQq (bX hb QR2.out); have QX3 := hQq (bX hb QX2.out)
 have EP3 := hQq (hb)
 clear hb QR2 QX2
 obtain ⟨c0, c1, c2, c3, c4, c5, c6, c7, c8, c9, c10, c11⟩ := b12C QX3.out; have z1 := bL QX3.out
 go_wp2_with fail
 refine (fuHidden x.nd _ _ _ x.ns _ ⟨_, _, _, rfl⟩ ⟨_, _, rfl⟩ (HO2.out.1.ext EP3.out)).mono ?_
 rintro e w4 ⟨rfl, hb⟩
 rw [HHB.out]
 have EW4 := hQq (EW3.out.trans hb); have QR4 := hQq (bX hb QR3.out); have QX4 := hQq (bX hb QX3.out)
 clear hb QR3 QX3 c0 c1 c2 c3 c4 c5 c6 c7 c8 c9 c10 c11 z1
 obtain ⟨c0, c1, c2, c3, c4, c5, c6, c7, c8, c9, c10, c11⟩ := b12C QX4.out; have z1 := bL QX4.out
 have fx := fun j => bT QX4.out j
 go_upto_region 14 with fail
 refine nW (P := fun W => Code.wp _ _ _ _ W) _ ?_
 intro w5 hW
 have hW2 : w5 = setL (w4.setCell ⟨w.heap.size, 9, none⟩ (.bool true)) w.heap.size 1 [.int .i64 0, .string ⟨#[]⟩, .int .i64 5, .slice none 0 0, .string ⟨#[]⟩, .int .i64 0, .int .i64 0, .int .i64 0] := by rw [hW]; simp only [setL, Nat.reduceAdd]
 have q9 := bS (o := 9) QX4.out (.bool true)
 have QX5 := hQq (show w5.heap[w.heap.size]? = some (.cells #[.string x.nm, .int .i64 0, .string ⟨#[]⟩, .int .i64 5, .slice none 0 0, .string ⟨#[]⟩, .int .i64 0, .int .i64 0, .int .i64 0, .bool true, .bool true, .int .i64 x.ns] 98 (0, 0)) from by rw [hW2, setL_blk _ _ _ _ q9, set9c])
 have EW5 := hQq (show Ext w w5 from by rw [hW2]; exact setL_below (Nat.le_refl _) _ _ _ (Below.setCell (p := ⟨w.heap.size, 9, none⟩) EW4.out (Nat.le_refl _) _))
 have QR5 := hQq (show w5.heap[w.heap.size + 1]? = some (.cells #[.string ⟨#[]⟩, .int .i64 0, .string ⟨#[]⟩, .int .i64 0, .slice none 0 0, .string ⟨#[]⟩, .int .i64 0, .int .i64 0, .int .i64 0, .bool false, .bool false, .int .i64 0] 98 (0, 0)) from by rw [hW2]; exact setL_keep _ _ _ _ _ (bSn QR4.out ⟨w.heap.size, 9, none⟩ _ (by show w.heap.size + 1 ≠ w.heap.size; omega)) (fun e => by injection e with e; omega))
 clear hW hW2 q9 fx c0 c1 c2 c3 c4 c5 c6 c7 c8 c9 c10 c11 z1
 obtain ⟨c0, c1, c2, c3, c4, c5, c6, c7, c8, c9, c10, c11⟩ := b12C QX5.out; have z1 := bL QX5.out
 obtain ⟨r0, r1, r2, r3, r4, r5, r6, r7, r8, r9, r10, r11⟩ := b12C QR5.out; have fr := fun j => bT QR5.out j; have zr := bL QR5.out
 go_wp2_with fail
 refine nW (P := fun W => bodyPost _ _ _ _ _ W) _ ?_
 intro W2 hW2
 have hW3 : W2 = setL w5 (w.heap.size + 1) 0 [.string x.nm, .int .i64 0, .string ⟨#[]⟩, .int .i64 5, .slice none 0 0, .string ⟨#[]⟩, .int .i64 0, .int .i64 0, .int .i64 0, .bool true, .bool true, .int .i64 x.ns] := hW2
 obtain ⟨hq, hx, hc⟩ := put12 (w := w) QR5.out (by omega) EW5.out hW3
 refine bodyPost_ret (v := .tuple #[.agg #[.string x.nm, .int .i64 0, .string ⟨#[]⟩, .int .i64 5, .slice none 0 0, .string ⟨#[]⟩, .int .i64 0, .int .i64 0, .int .i64 0, .bool true, .bool true, .int .i64 x.ns], .int .i64 0]) (by simp [results, Tryz.f90, go_sem, bC hq 0, bC hq 1, bC hq 2, bC hq 3, bC hq 4, bC hq 5, bC hq 6, bC hq 7, bC hq 8, bC hq 9, bC hq 10, bC hq 11]) rfl ?_
 exact ⟨⟨{ x with wh := true, nd := kdN 5 }, none, 0, 0, by rw [HWE.out.1]; unfold deC; rw [HFI.out]; rfl, fun _ => by rw [HWE.out.2]; exact ⟨rfl, rfl, attIn_nil _ _ _⟩⟩, hx⟩
theorem fuNeutral (a0 b0 e0 : Addr) (B : Nat) (x : DeN) (va : Value) (h : Bool) (w : World) (hL : LaidF w a0 b0 e0) (hv : AttIn B w va x.nd.ats) (hm : Small x.nd.ats) (hn : x.ns <= 9223372036854775807) (hB : B <= w.heap.size) :
  Calls Tryz.prog 90 #[.agg (deC x va).toArray, .bool h] w (EntX B w (rfX x) (rfE h x)) := by
 cases hw : x.wh
 case true => exact fuNeA a0 b0 e0 B x va h w hL hv hm hn hB hw
 cases hf : x.fi
 case false => exact fuNeB a0 b0 e0 B x va h w hL hv hm hn hB hw hf
 by_cases hp : ptsE 2 x.nd.ats = 0
 case neg => exact fuNeC a0 b0 e0 B x va h w hL hv hm hn hB hw hf hp
 cases ht : whtB x.nd
 case true =>
  by_cases hh : hidB x.nd x.ns = true /\ h = true
  ·exact fuNeD a0 b0 e0 B x va h w hL hv hm hn hB hw hf hp ht hh.1 hh.2
  ·exact fuNeE a0 b0 e0 B x va h w hL hv hm hn hB hw hf hp ht hh
 case false =>
 cases hmk : (isM (ptsO 2 x.nd.ats) opqW || isM (ptsO 2 x.nd.ats) reW)
 case true => exact fuNeF a0 b0 e0 B x va h w hL hv hm hn hB hw hf hp ht hmk
 case false => exact fuNeG a0 b0 e0 B x va h w hL hv hm hn hB hw hf hp ht hmk
set_option maxRecDepth 100000 in
set_option maxHeartbeats 32000000 in
theorem fuDecodeDir (a0 b0 e0 : Addr) (B : Nat) (w : World) (v : Value) (d : DiN) (hL : LaidF w a0 b0 e0) (hd : DirIn B w v d) (hB : B <= w.heap.size) (hsm : SmallD d) (hns : NsOk d) :
  Calls Tryz.prog 31 #[v] w (DirP w.heap.size w (frD d) (frN d) (frE d)) := by
 have HD := hQq hd; have HL := hQq hL
 obtain ⟨va, vr, ve, rfl, ha, hr, he⟩ := hd
 have HA := hQq ha; have HR := hQq hr; have HE := hQq he; have HSM := hQq hsm; have HNS := hQq hns
 obtain ⟨a3, cap3, rfl⟩ := ha.form
 obtain ⟨a4, cap4, rfl⟩ := hr.form
 obtain ⟨a5, cap5, rfl⟩ := he.form
 have hlen := hsm.len
 clear ha hr he hsm hns hL
 by_cases e1 : dirE d = 0
 case neg =>
  have HX := hQq (fr_of (frT_dir e1))
  have q1 : (dirE d != 0) = true := bne_iff_ne.2 e1
  clear e1
  go_enter Tryz.func31, Tryz.ntmps31
  go_wp2_with (go_at_call 78; refine (brCheckDir B _ _ d (HD.out.ext ((eA _ _).trans (eA _ _))) HSM.out).mono ?_; rintro e w1 ⟨rfl, hb1⟩; have q2 : w1.heap[w.heap.size + 1]? = some (.cells #[.slice none 0 0, .bool false, .slice none 0 0, .slice none 0 0] 55 (0, 0)) := bX hb1 (blk_at (by simp)); obtain ⟨r0, r1, r2, r3⟩ := b4C q2; have fz : ∀ j, w1.frozen? ⟨w.heap.size + 1, j, none⟩ = false := fun j => bT q2 j; have Q2 := hQq q2; clear q2; have q1 : w1.heap[w.heap.size]? = some (.cells #[.slice a3 d.ats.length cap3, .bool d.opq, .slice a4 d.red.length cap4, .slice a5 d.ens.length cap5] 55 (0, 0)) := bX hb1 (bA (bN w _)); obtain ⟨k0, k1, k2, k3⟩ := b4C q1; have Q1 := hQq q1; have hz1 := bL q1; have hz2 := bL Q2.out; clear q1; have HB1 := hQq (((eA _ _).trans (eA _ _)).trans hb1); have g0 := (HL.out.ext HB1.out).f.var; unfold senV at g0; clear hb1)
  refine nW (P := fun W => bodyPost _ _ _ _ _ W) _ ?_
  intro W2 hW2
  obtain ⟨hq, hx, hc⟩ := set4 Q2.out (by omega) HB1.out hW2
  refine bodyPost_ret (v := .tuple #[.agg #[.slice none 0 0, .bool false, .slice none 0 0, .slice none 0 0], .int .i64 (dirN d), .int .i64 (dirE d)]) (by simp [results, Tryz.f31, go_sem, bC hq 0, bC hq 1, bC hq 2, bC hq 3]) rfl ?_
  exact ⟨⟨_, by rw [HX.out.2.1, HX.out.2.2], by rw [HX.out.1]; exact zDir_in _ _⟩, hx⟩
 have q1 : (dirE d != 0) = false := bne_eq_false_iff_eq.2 e1
 have E1 := hQq e1
 clear e1
 by_cases e2 : d.opq = true \/ 0 < d.red.length
 case pos =>
  have HX := hQq (fr_of (frT_mark E1.out e2))
  by_cases e3 : d.opq = true
  case pos =>
   have E5 := hQq e3
   clear e2 e3
   go_enter Tryz.func31, Tryz.ntmps31
   go_wp2_with (first
   | (go_at_call 78; refine (brCheckDir B _ _ d (HD.out.ext ((eA _ _).trans (eA _ _))) HSM.out).mono ?_; rintro e w1 ⟨rfl, hb1⟩; have q2 : w1.heap[w.heap.size + 1]? = some (.cells #[.slice none 0 0, .bool false, .slice none 0 0, .slice none 0 0] 55 (0, 0)) := bX hb1 (blk_at (by simp)); obtain ⟨r0, r1, r2, r3⟩ := b4C q2; have fz : ∀ j, w1.frozen? ⟨w.heap.size + 1, j, none⟩ = false := fun j => bT q2 j; have Q2 := hQq q2; clear q2; have q1 : w1.heap[w.heap.size]? = some (.cells #[.slice a3 d.ats.length cap3, .bool d.opq, .slice a4 d.red.length cap4, .slice a5 d.ens.length cap5] 55 (0, 0)) := bX hb1 (bA (bN w _)); have k0 := bC q1 0; have k1 := bC q1 1; rw [E5.out] at k1; have k2 := bC q1 2; have k3 := bC q1 3; have Q1 := hQq q1; have hz1 := bL q1; have hz2 := bL Q2.out; clear q1; have HB1 := hQq (((eA _ _).trans (eA _ _)).trans hb1); have g0 := (HL.out.ext HB1.out).f.var; unfold senV at g0; clear hb1)
   | (go_at_call 85; refine (fuNumF a0 b0 e0 _ (HL.out.ext HB1.out)).mono ?_; rintro e wn ⟨rfl, rfl⟩)
   | fail)
   refine nW (P := fun W => bodyPost _ _ _ _ _ W) _ ?_
   intro W2 hW2
   obtain ⟨hq, hx, hc⟩ := set4 Q2.out (by omega) HB1.out hW2
   refine bodyPost_ret (v := .tuple #[.agg #[.slice none 0 0, .bool false, .slice none 0 0, .slice none 0 0], .int .i64 (-1), .int .i64 (6)]) (by simp [results, Tryz.f31, go_sem, bC hq 0, bC hq 1, bC hq 2, bC hq 3]) rfl ?_
   exact ⟨⟨_, by rw [HX.out.2.1, HX.out.2.2], by rw [HX.out.1]; exact zDir_in _ _⟩, hx⟩
  have e4 : 0 < d.red.length := e2.resolve_left e3
  have e5 : d.opq = false := Bool.eq_false_iff.2 e3
  have q2 := lenP e4
  have q2n : decide (0 < d.red.length) = true := decide_eq_true e4
  have E5 := hQq e5
  clear e2 e3 e5
  go_enter Tryz.func31, Tryz.ntmps31
  go_wp2_with (first
   | (go_at_call 78; refine (brCheckDir B _ _ d (HD.out.ext ((eA _ _).trans (eA _ _))) HSM.out).mono ?_; rintro e w1 ⟨rfl, hb1⟩; have q2 : w1.heap[w.heap.size + 1]? = some (.cells #[.slice none 0 0, .bool false, .slice none 0 0, .slice none 0 0] 55 (0, 0)) := bX hb1 (blk_at (by simp)); obtain ⟨r0, r1, r2, r3⟩ := b4C q2; have fz : ∀ j, w1.frozen? ⟨w.heap.size + 1, j, none⟩ = false := fun j => bT q2 j; have Q2 := hQq q2; clear q2; have q1 : w1.heap[w.heap.size]? = some (.cells #[.slice a3 d.ats.length cap3, .bool d.opq, .slice a4 d.red.length cap4, .slice a5 d.ens.length cap5] 55 (0, 0)) := bX hb1 (bA (bN w _)); have k0 := bC q1 0; have k1 := bC q1 1; rw [E5.out] at k1; have k2 := bC q1 2; have k3 := bC q1 3; have Q1 := hQq q1; have hz1 := bL q1; have hz2 := bL Q2.out; clear q1; have HB1 := hQq (((eA _ _).trans (eA _ _)).trans hb1); have g0 := (HL.out.ext HB1.out).f.var; unfold senV at g0; clear hb1)
   | (go_at_call 85; refine (fuNumF a0 b0 e0 _ (HL.out.ext HB1.out)).mono ?_; rintro e wn ⟨rfl, rfl⟩)
   | fail)
  refine nW (P := fun W => bodyPost _ _ _ _ _ W) _ ?_
  intro W2 hW2
  obtain ⟨hq, hx, hc⟩ := set4 Q2.out (by omega) HB1.out hW2
  refine bodyPost_ret (v := .tuple #[.agg #[.slice none 0 0, .bool false, .slice none 0 0, .slice none 0 0], .int .i64 (-1), .int .i64 (6)]) (by simp [results, Tryz.f31, go_sem, bC hq 0, bC hq 1, bC hq 2, bC hq 3]) rfl ?_
  exact ⟨⟨_, by rw [HX.out.2.1, HX.out.2.2], by rw [HX.out.1]; exact zDir_in _ _⟩, hx⟩
 have E2 := hQq e2
 have E5 : Hid (d.opq = false) := hQq (Bool.eq_false_iff.2 fun h => e2 (.inl h))
 have q5 : ¬ 0 < d.red.length := fun h => e2 (.inr h)
 have q2 := lenZ q5
 have q2n : decide (0 < d.red.length) = false := decide_eq_false q5
 have HTZ : Hid ((valM (ptsO 2 d.ats) reW).size <= 1000000) := hQq (valM_size2 HSM.out.ats)
 clear e2 q5
 by_cases e3 : ptsE 2 d.ats = 0
 case neg =>
  have HX := hQq (fr_of (frT_pts E1.out E2.out e3))
  have q3 : (ptsE 2 d.ats != 0) = true := bne_iff_ne.2 e3
  clear e3
  go_enter Tryz.func31, Tryz.ntmps31
  go_wp2_with (first
   | (go_at_call 78; refine (brCheckDir B _ _ d (HD.out.ext ((eA _ _).trans (eA _ _))) HSM.out).mono ?_; rintro e w1 ⟨rfl, hb1⟩; have q2 : w1.heap[w.heap.size + 1]? = some (.cells #[.slice none 0 0, .bool false, .slice none 0 0, .slice none 0 0] 55 (0, 0)) := bX hb1 (blk_at (by simp)); obtain ⟨r0, r1, r2, r3⟩ := b4C q2; have fz : ∀ j, w1.frozen? ⟨w.heap.size + 1, j, none⟩ = false := fun j => bT q2 j; have Q2 := hQq q2; clear q2; have q1 : w1.heap[w.heap.size]? = some (.cells #[.slice a3 d.ats.length cap3, .bool d.opq, .slice a4 d.red.length cap4, .slice a5 d.ens.length cap5] 55 (0, 0)) := bX hb1 (bA (bN w _)); have k0 := bC q1 0; have k1 := bC q1 1; rw [E5.out] at k1; have k2 := bC q1 2; have k3 := bC q1 3; have Q1 := hQq q1; have hz1 := bL q1; have hz2 := bL Q2.out; clear q1; have HB1 := hQq (((eA _ _).trans (eA _ _)).trans hb1); have g0 := (HL.out.ext HB1.out).f.var; unfold senV at g0; clear hb1)
   | (go_at_call 86; refine (escPartsT 2 _ d.ats _ (HL.out.o.ext HB1.out).laid ((HA.out.ext okA HB1.out).attrs) HSM.out.ats).mono ?_; rintro e w2 ⟨⟨v1, v2, rfl, ho1, ho2⟩, hb2⟩; obtain ⟨a7, cap7, rfl, -, -⟩ := ho1.1; obtain ⟨a2, c2', rfl, -, -⟩ := ho2.1; have HO1 := hQq ho1; have HO2 := hQq ho2; clear r0 r1 r2 r3 fz k0 k1 k2 k3 hz1 hz2 g0; have q2 : w2.heap[w.heap.size + 1]? = some (.cells #[.slice none 0 0, .bool false, .slice none 0 0, .slice none 0 0] 55 (0, 0)) := bX hb2 Q2.out; obtain ⟨r0, r1, r2, r3⟩ := b4C q2; have fz : ∀ j, w2.frozen? ⟨w.heap.size + 1, j, none⟩ = false := fun j => bT q2 j; have Q2 := hQq q2; clear q2; have q1x := bX hb2 Q1.out; obtain ⟨k0, k1, k2, k3⟩ := b4C q1x; rw [E5.out] at k1; have Q1 := hQq q1x; have hz1 := bL q1x; have hz2 := bL Q2.out; have HB2 := hQq (HB1.out.trans hb2); have g0 := (HL.out.ext HB2.out).f.var; unfold senV at g0; clear q1x; clear hb2 ho1 ho2)
   | fail)
  refine nW (P := fun W => bodyPost _ _ _ _ _ W) _ ?_
  intro W2 hW2
  obtain ⟨hq, hx, hc⟩ := set4 Q2.out (by omega) HB2.out hW2
  refine bodyPost_ret (v := .tuple #[.agg #[.slice none 0 0, .bool false, .slice none 0 0, .slice none 0 0], .int .i64 (-1), .int .i64 (ptsE 2 d.ats)]) (by simp [results, Tryz.f31, go_sem, bC hq 0, bC hq 1, bC hq 2, bC hq 3]) rfl ?_
  exact ⟨⟨_, by rw [HX.out.2.1, HX.out.2.2], by rw [HX.out.1]; exact zDir_in _ _⟩, hx⟩
 have E3 := hQq e3
 clear e3
 cases e4 : isM (ptsO 2 d.ats) whW
 case true =>
  have HX := hQq (fr_of (frT_wh E1.out E2.out E3.out e4))
  have E4 := hQq e4
  clear e4
  go_enter Tryz.func31, Tryz.ntmps31
  go_wp2_with (first
   | (go_at_call 78; refine (brCheckDir B _ _ d (HD.out.ext ((eA _ _).trans (eA _ _))) HSM.out).mono ?_; rintro e w1 ⟨rfl, hb1⟩; have q2 : w1.heap[w.heap.size + 1]? = some (.cells #[.slice none 0 0, .bool false, .slice none 0 0, .slice none 0 0] 55 (0, 0)) := bX hb1 (blk_at (by simp)); obtain ⟨r0, r1, r2, r3⟩ := b4C q2; have fz : ∀ j, w1.frozen? ⟨w.heap.size + 1, j, none⟩ = false := fun j => bT q2 j; have Q2 := hQq q2; clear q2; have q1 : w1.heap[w.heap.size]? = some (.cells #[.slice a3 d.ats.length cap3, .bool d.opq, .slice a4 d.red.length cap4, .slice a5 d.ens.length cap5] 55 (0, 0)) := bX hb1 (bA (bN w _)); have k0 := bC q1 0; have k1 := bC q1 1; rw [E5.out] at k1; have k2 := bC q1 2; have k3 := bC q1 3; have Q1 := hQq q1; have hz1 := bL q1; have hz2 := bL Q2.out; clear q1; have HB1 := hQq (((eA _ _).trans (eA _ _)).trans hb1); have g0 := (HL.out.ext HB1.out).f.var; unfold senV at g0; clear hb1)
   | (go_at_call 86; refine (escPartsT 2 _ d.ats _ (HL.out.o.ext HB1.out).laid ((HA.out.ext okA HB1.out).attrs) HSM.out.ats).mono ?_; rintro e w2 ⟨⟨v1, v2, rfl, ho1, ho2⟩, hb2⟩; rw [E3.out]; obtain ⟨a7, cap7, rfl, -, -⟩ := ho1.1; obtain ⟨a2, c2', rfl, -, -⟩ := ho2.1; have HO1 := hQq ho1; have HO2 := hQq ho2; clear r0 r1 r2 r3 fz k0 k1 k2 k3 hz1 hz2 g0; have q2 : w2.heap[w.heap.size + 1]? = some (.cells #[.slice none 0 0, .bool false, .slice none 0 0, .slice none 0 0] 55 (0, 0)) := bX hb2 Q2.out; obtain ⟨r0, r1, r2, r3⟩ := b4C q2; have fz : ∀ j, w2.frozen? ⟨w.heap.size + 1, j, none⟩ = false := fun j => bT q2 j; have Q2 := hQq q2; clear q2; have q1x := bX hb2 Q1.out; obtain ⟨k0, k1, k2, k3⟩ := b4C q1x; rw [E5.out] at k1; have Q1 := hQq q1x; have hz1 := bL q1x; have hz2 := bL Q2.out; have HB2 := hQq (HB1.out.trans hb2); have g0 := (HL.out.ext HB2.out).f.var; unfold senV at g0; clear q1x; clear hb2 ho1 ho2)
   | (go_at_call 87; refine (fuGet _ (ptsO 2 d.ats) whW _ HO2.out.1 (oS2 _)).mono ?_; rintro e w3 ⟨rfl, hb3⟩; rw [E4.out]; have EP3 := hQq hb3; clear r0 r1 r2 r3 fz k0 k1 k2 k3 hz1 hz2 g0; have q2 : w3.heap[w.heap.size + 1]? = some (.cells #[.slice none 0 0, .bool false, .slice none 0 0, .slice none 0 0] 55 (0, 0)) := bX hb3 Q2.out; obtain ⟨r0, r1, r2, r3⟩ := b4C q2; have fz : ∀ j, w3.frozen? ⟨w.heap.size + 1, j, none⟩ = false := fun j => bT q2 j; have Q2 := hQq q2; clear q2; have q1x := bX hb3 Q1.out; obtain ⟨k0, k1, k2, k3⟩ := b4C q1x; rw [E5.out] at k1; have Q1 := hQq q1x; have hz1 := bL q1x; have hz2 := bL Q2.out; have HB3 := hQq (HB2.out.trans hb3); have g0 := (HL.out.ext HB3.out).f.var; unfold senV at g0; clear q1x; clear hb3)
   | (go_at_call 85; refine (fuNumF a0 b0 e0 _ (HL.out.ext HB3.out)).mono ?_; rintro e wn ⟨rfl, rfl⟩)
   | fail)
  refine nW (P := fun W => bodyPost _ _ _ _ _ W) _ ?_
  intro W2 hW2
  obtain ⟨hq, hx, hc⟩ := set4 Q2.out (by omega) HB3.out hW2
  refine bodyPost_ret (v := .tuple #[.agg #[.slice none 0 0, .bool false, .slice none 0 0, .slice none 0 0], .int .i64 (-1), .int .i64 (6)]) (by simp [results, Tryz.f31, go_sem, bC hq 0, bC hq 1, bC hq 2, bC hq 3]) rfl ?_
  exact ⟨⟨_, by rw [HX.out.2.1, HX.out.2.2], by rw [HX.out.1]; exact zDir_in _ _⟩, hx⟩
 case false =>
 have E4 := hQq e4
 clear e4
 cases e5 : isM (ptsO 2 d.ats) nlW
 case true =>
  have HX := hQq (fr_of (frT_link E1.out E2.out E3.out E4.out e5))
  have HBK : Hid (bookE (ptsO 2 d.ats) 1 = 18) := hQq (by rw [one_book, e5]; rfl)
  clear e5
  go_enter Tryz.func31, Tryz.ntmps31
  go_wp2_with (first
   | (go_at_call 78; refine (brCheckDir B _ _ d (HD.out.ext ((eA _ _).trans (eA _ _))) HSM.out).mono ?_; rintro e w1 ⟨rfl, hb1⟩; have q2 : w1.heap[w.heap.size + 1]? = some (.cells #[.slice none 0 0, .bool false, .slice none 0 0, .slice none 0 0] 55 (0, 0)) := bX hb1 (blk_at (by simp)); obtain ⟨r0, r1, r2, r3⟩ := b4C q2; have fz : ∀ j, w1.frozen? ⟨w.heap.size + 1, j, none⟩ = false := fun j => bT q2 j; have Q2 := hQq q2; clear q2; have q1 : w1.heap[w.heap.size]? = some (.cells #[.slice a3 d.ats.length cap3, .bool d.opq, .slice a4 d.red.length cap4, .slice a5 d.ens.length cap5] 55 (0, 0)) := bX hb1 (bA (bN w _)); have k0 := bC q1 0; have k1 := bC q1 1; rw [E5.out] at k1; have k2 := bC q1 2; have k3 := bC q1 3; have Q1 := hQq q1; have hz1 := bL q1; have hz2 := bL Q2.out; clear q1; have HB1 := hQq (((eA _ _).trans (eA _ _)).trans hb1); have g0 := (HL.out.ext HB1.out).f.var; unfold senV at g0; clear hb1)
   | (go_at_call 86; refine (escPartsT 2 _ d.ats _ (HL.out.o.ext HB1.out).laid ((HA.out.ext okA HB1.out).attrs) HSM.out.ats).mono ?_; rintro e w2 ⟨⟨v1, v2, rfl, ho1, ho2⟩, hb2⟩; rw [E3.out]; obtain ⟨a7, cap7, rfl, -, -⟩ := ho1.1; obtain ⟨a2, c2', rfl, -, -⟩ := ho2.1; have HO1 := hQq ho1; have HO2 := hQq ho2; clear r0 r1 r2 r3 fz k0 k1 k2 k3 hz1 hz2 g0; have q2 : w2.heap[w.heap.size + 1]? = some (.cells #[.slice none 0 0, .bool false, .slice none 0 0, .slice none 0 0] 55 (0, 0)) := bX hb2 Q2.out; obtain ⟨r0, r1, r2, r3⟩ := b4C q2; have fz : ∀ j, w2.frozen? ⟨w.heap.size + 1, j, none⟩ = false := fun j => bT q2 j; have Q2 := hQq q2; clear q2; have q1x := bX hb2 Q1.out; obtain ⟨k0, k1, k2, k3⟩ := b4C q1x; rw [E5.out] at k1; have Q1 := hQq q1x; have hz1 := bL q1x; have hz2 := bL Q2.out; have HB2 := hQq (HB1.out.trans hb2); have g0 := (HL.out.ext HB2.out).f.var; unfold senV at g0; clear q1x; clear hb2 ho1 ho2)
   | (go_at_call 87; refine (fuGet _ (ptsO 2 d.ats) whW _ HO2.out.1 (oS2 _)).mono ?_; rintro e w3 ⟨rfl, hb3⟩; rw [E4.out]; have EP3 := hQq hb3; clear r0 r1 r2 r3 fz k0 k1 k2 k3 hz1 hz2 g0; have q2 : w3.heap[w.heap.size + 1]? = some (.cells #[.slice none 0 0, .bool false, .slice none 0 0, .slice none 0 0] 55 (0, 0)) := bX hb3 Q2.out; obtain ⟨r0, r1, r2, r3⟩ := b4C q2; have fz : ∀ j, w3.frozen? ⟨w.heap.size + 1, j, none⟩ = false := fun j => bT q2 j; have Q2 := hQq q2; clear q2; have q1x := bX hb3 Q1.out; obtain ⟨k0, k1, k2, k3⟩ := b4C q1x; rw [E5.out] at k1; have Q1 := hQq q1x; have hz1 := bL q1x; have hz2 := bL Q2.out; have HB3 := hQq (HB2.out.trans hb3); have g0 := (HL.out.ext HB3.out).f.var; unfold senV at g0; clear q1x; clear hb3)
   | (go_at_call 88; refine (fuBooked a0 b0 e0 _ (ptsO 2 d.ats) 1 _ (HL.out.ext HB3.out) (HO2.out.1.ext EP3.out) (oS2 _) (by decide)).mono ?_; rintro e w4 ⟨rfl, hb4⟩; rw [HBK.out, errV_18]; unfold senV; have EP4 := hQq (Ext.trans EP3.out hb4); clear r0 r1 r2 r3 fz k0 k1 k2 k3 hz1 hz2 g0; have q2 : w4.heap[w.heap.size + 1]? = some (.cells #[.slice none 0 0, .bool false, .slice none 0 0, .slice none 0 0] 55 (0, 0)) := bX hb4 Q2.out; obtain ⟨r0, r1, r2, r3⟩ := b4C q2; have fz : ∀ j, w4.frozen? ⟨w.heap.size + 1, j, none⟩ = false := fun j => bT q2 j; have Q2 := hQq q2; clear q2; have q1x := bX hb4 Q1.out; obtain ⟨k0, k1, k2, k3⟩ := b4C q1x; rw [E5.out] at k1; have Q1 := hQq q1x; have hz1 := bL q1x; have hz2 := bL Q2.out; have HB4 := hQq (HB3.out.trans hb4); have g0 := (HL.out.ext HB4.out).f.var; unfold senV at g0; clear q1x; clear hb4)
   | (go_at_call 85; refine (fuNumB a0 b0 e0 _ (HL.out.ext HB4.out)).mono ?_; rintro e wn ⟨rfl, rfl⟩)
   | fail)
  refine nW (P := fun W => bodyPost _ _ _ _ _ W) _ ?_
  intro W2 hW2
  obtain ⟨hq, hx, hc⟩ := set4 Q2.out (by omega) HB4.out hW2
  refine bodyPost_ret (v := .tuple #[.agg #[.slice none 0 0, .bool false, .slice none 0 0, .slice none 0 0], .int .i64 (-1), .int .i64 (18)]) (by simp [results, Tryz.f31, go_sem, bC hq 0, bC hq 1, bC hq 2, bC hq 3]) rfl ?_
  exact ⟨⟨_, by rw [HX.out.2.1, HX.out.2.2], by rw [HX.out.1]; exact zDir_in _ _⟩, hx⟩
 case false =>
 have ENL := hQq e5
 have HBK : Hid (bookE (ptsO 2 d.ats) 1 = 0) := hQq (by rw [one_book, e5]; rfl)
 clear e5
 by_cases e6 : ftE (ptsO 2 d.ats) = 0
 case neg =>
  have HX := hQq (fr_of (frT_turn E1.out E2.out E3.out E4.out ENL.out (.inl e6)))
  have Q6 : Hid (ftE (ptsO 2 d.ats) = 6) := hQq ((ft_err _).resolve_left e6)
  clear e6
  go_enter Tryz.func31, Tryz.ntmps31
  go_wp2_with (first
   | (go_at_call 78; refine (brCheckDir B _ _ d (HD.out.ext ((eA _ _).trans (eA _ _))) HSM.out).mono ?_; rintro e w1 ⟨rfl, hb1⟩; have q2 : w1.heap[w.heap.size + 1]? = some (.cells #[.slice none 0 0, .bool false, .slice none 0 0, .slice none 0 0] 55 (0, 0)) := bX hb1 (blk_at (by simp)); obtain ⟨r0, r1, r2, r3⟩ := b4C q2; have fz : ∀ j, w1.frozen? ⟨w.heap.size + 1, j, none⟩ = false := fun j => bT q2 j; have Q2 := hQq q2; clear q2; have q1 : w1.heap[w.heap.size]? = some (.cells #[.slice a3 d.ats.length cap3, .bool d.opq, .slice a4 d.red.length cap4, .slice a5 d.ens.length cap5] 55 (0, 0)) := bX hb1 (bA (bN w _)); have k0 := bC q1 0; have k1 := bC q1 1; rw [E5.out] at k1; have k2 := bC q1 2; have k3 := bC q1 3; have Q1 := hQq q1; have hz1 := bL q1; have hz2 := bL Q2.out; clear q1; have HB1 := hQq (((eA _ _).trans (eA _ _)).trans hb1); have g0 := (HL.out.ext HB1.out).f.var; unfold senV at g0; clear hb1)
   | (go_at_call 86; refine (escPartsT 2 _ d.ats _ (HL.out.o.ext HB1.out).laid ((HA.out.ext okA HB1.out).attrs) HSM.out.ats).mono ?_; rintro e w2 ⟨⟨v1, v2, rfl, ho1, ho2⟩, hb2⟩; rw [E3.out]; obtain ⟨a7, cap7, rfl, -, -⟩ := ho1.1; obtain ⟨a2, c2', rfl, -, -⟩ := ho2.1; have HO1 := hQq ho1; have HO2 := hQq ho2; clear r0 r1 r2 r3 fz k0 k1 k2 k3 hz1 hz2 g0; have q2 : w2.heap[w.heap.size + 1]? = some (.cells #[.slice none 0 0, .bool false, .slice none 0 0, .slice none 0 0] 55 (0, 0)) := bX hb2 Q2.out; obtain ⟨r0, r1, r2, r3⟩ := b4C q2; have fz : ∀ j, w2.frozen? ⟨w.heap.size + 1, j, none⟩ = false := fun j => bT q2 j; have Q2 := hQq q2; clear q2; have q1x := bX hb2 Q1.out; obtain ⟨k0, k1, k2, k3⟩ := b4C q1x; rw [E5.out] at k1; have Q1 := hQq q1x; have hz1 := bL q1x; have hz2 := bL Q2.out; have HB2 := hQq (HB1.out.trans hb2); have g0 := (HL.out.ext HB2.out).f.var; unfold senV at g0; clear q1x; clear hb2 ho1 ho2)
   | (go_at_call 87; refine (fuGet _ (ptsO 2 d.ats) whW _ HO2.out.1 (oS2 _)).mono ?_; rintro e w3 ⟨rfl, hb3⟩; rw [E4.out]; have EP3 := hQq hb3; clear r0 r1 r2 r3 fz k0 k1 k2 k3 hz1 hz2 g0; have q2 : w3.heap[w.heap.size + 1]? = some (.cells #[.slice none 0 0, .bool false, .slice none 0 0, .slice none 0 0] 55 (0, 0)) := bX hb3 Q2.out; obtain ⟨r0, r1, r2, r3⟩ := b4C q2; have fz : ∀ j, w3.frozen? ⟨w.heap.size + 1, j, none⟩ = false := fun j => bT q2 j; have Q2 := hQq q2; clear q2; have q1x := bX hb3 Q1.out; obtain ⟨k0, k1, k2, k3⟩ := b4C q1x; rw [E5.out] at k1; have Q1 := hQq q1x; have hz1 := bL q1x; have hz2 := bL Q2.out; have HB3 := hQq (HB2.out.trans hb3); have g0 := (HL.out.ext HB3.out).f.var; unfold senV at g0; clear q1x; clear hb3)
   | (go_at_call 88; refine (fuBooked a0 b0 e0 _ (ptsO 2 d.ats) 1 _ (HL.out.ext HB3.out) (HO2.out.1.ext EP3.out) (oS2 _) (by decide)).mono ?_; rintro e w4 ⟨rfl, hb4⟩; rw [HBK.out, errV_0]; have EP4 := hQq (Ext.trans EP3.out hb4); clear r0 r1 r2 r3 fz k0 k1 k2 k3 hz1 hz2 g0; have q2 : w4.heap[w.heap.size + 1]? = some (.cells #[.slice none 0 0, .bool false, .slice none 0 0, .slice none 0 0] 55 (0, 0)) := bX hb4 Q2.out; obtain ⟨r0, r1, r2, r3⟩ := b4C q2; have fz : ∀ j, w4.frozen? ⟨w.heap.size + 1, j, none⟩ = false := fun j => bT q2 j; have Q2 := hQq q2; clear q2; have q1x := bX hb4 Q1.out; obtain ⟨k0, k1, k2, k3⟩ := b4C q1x; rw [E5.out] at k1; have Q1 := hQq q1x; have hz1 := bL q1x; have hz2 := bL Q2.out; have HB4 := hQq (HB3.out.trans hb4); have g0 := (HL.out.ext HB4.out).f.var; unfold senV at g0; clear q1x; clear hb4)
   | (go_at_call 89; refine (fuTurned a0 b0 e0 _ (ptsO 2 d.ats) _ (HL.out.ext HB4.out) (HO2.out.1.ext EP4.out) (oS2 _) HTZ.out).mono ?_; rintro e w5 ⟨⟨a9, cap9, rfl, hs9⟩, hb5⟩; rw [Q6.out, errV_6]; unfold senV; have EP5 := hQq (Ext.trans EP4.out hb5); have HS9 := hQq hs9; clear r0 r1 r2 r3 fz k0 k1 k2 k3 hz1 hz2 g0; have q2 : w5.heap[w.heap.size + 1]? = some (.cells #[.slice none 0 0, .bool false, .slice none 0 0, .slice none 0 0] 55 (0, 0)) := bX hb5 Q2.out; obtain ⟨r0, r1, r2, r3⟩ := b4C q2; have fz : ∀ j, w5.frozen? ⟨w.heap.size + 1, j, none⟩ = false := fun j => bT q2 j; have Q2 := hQq q2; clear q2; have q1x := bX hb5 Q1.out; obtain ⟨k0, k1, k2, k3⟩ := b4C q1x; rw [E5.out] at k1; have Q1 := hQq q1x; have hz1 := bL q1x; have hz2 := bL Q2.out; have HB5 := hQq (HB4.out.trans hb5); have g0 := (HL.out.ext HB5.out).f.var; unfold senV at g0; clear q1x; clear hb5 hs9)
   | (go_at_call 85; refine (fuNumF a0 b0 e0 _ (HL.out.ext HB5.out)).mono ?_; rintro e wn ⟨rfl, rfl⟩)
   | fail)
  refine nW (P := fun W => bodyPost _ _ _ _ _ W) _ ?_
  intro W2 hW2
  obtain ⟨hq, hx, hc⟩ := set4 Q2.out (by omega) HB5.out hW2
  refine bodyPost_ret (v := .tuple #[.agg #[.slice none 0 0, .bool false, .slice none 0 0, .slice none 0 0], .int .i64 (-1), .int .i64 (6)]) (by simp [results, Tryz.f31, go_sem, bC hq 0, bC hq 1, bC hq 2, bC hq 3]) rfl ?_
  exact ⟨⟨_, by rw [HX.out.2.1, HX.out.2.2], by rw [HX.out.1]; exact zDir_in _ _⟩, hx⟩
 have E6' := hQq e6
 obtain ⟨o, ho⟩ : ∃ o, ftO (ptsO 2 d.ats) = o := ⟨_, rfl⟩
 obtain ⟨hh, hhh⟩ : ∃ hh, ftH (ptsO 2 d.ats) = hh := ⟨_, rfl⟩
 have HOQ := hQq ho; have HHQ := hQq hhh
 clear e6 ho hhh
 by_cases e7 : o = true /\ 0 < (ftR (ptsO 2 d.ats)).length
 case pos =>
  have HX := hQq (fr_of (frT_turn E1.out E2.out E3.out E4.out ENL.out (.inr (by rw [HOQ.out]; exact e7))))
  obtain ⟨rfl, e8⟩ := e7
  have q8 := lenP e8
  have q8n : decide (0 < (ftR (ptsO 2 d.ats)).length) = true := decide_eq_true e8
  clear e8
  go_enter Tryz.func31, Tryz.ntmps31
  go_wp2_with (first
   | (go_at_call 78; refine (brCheckDir B _ _ d (HD.out.ext ((eA _ _).trans (eA _ _))) HSM.out).mono ?_; rintro e w1 ⟨rfl, hb1⟩; have q2 : w1.heap[w.heap.size + 1]? = some (.cells #[.slice none 0 0, .bool false, .slice none 0 0, .slice none 0 0] 55 (0, 0)) := bX hb1 (blk_at (by simp)); obtain ⟨r0, r1, r2, r3⟩ := b4C q2; have fz : ∀ j, w1.frozen? ⟨w.heap.size + 1, j, none⟩ = false := fun j => bT q2 j; have Q2 := hQq q2; clear q2; have q1 : w1.heap[w.heap.size]? = some (.cells #[.slice a3 d.ats.length cap3, .bool d.opq, .slice a4 d.red.length cap4, .slice a5 d.ens.length cap5] 55 (0, 0)) := bX hb1 (bA (bN w _)); have k0 := bC q1 0; have k1 := bC q1 1; rw [E5.out] at k1; have k2 := bC q1 2; have k3 := bC q1 3; have Q1 := hQq q1; have hz1 := bL q1; have hz2 := bL Q2.out; clear q1; have HB1 := hQq (((eA _ _).trans (eA _ _)).trans hb1); have g0 := (HL.out.ext HB1.out).f.var; unfold senV at g0; clear hb1)
   | (go_at_call 86; refine (escPartsT 2 _ d.ats _ (HL.out.o.ext HB1.out).laid ((HA.out.ext okA HB1.out).attrs) HSM.out.ats).mono ?_; rintro e w2 ⟨⟨v1, v2, rfl, ho1, ho2⟩, hb2⟩; rw [E3.out]; obtain ⟨a7, cap7, rfl, -, -⟩ := ho1.1; obtain ⟨a2, c2', rfl, -, -⟩ := ho2.1; have HO1 := hQq ho1; have HO2 := hQq ho2; clear r0 r1 r2 r3 fz k0 k1 k2 k3 hz1 hz2 g0; have q2 : w2.heap[w.heap.size + 1]? = some (.cells #[.slice none 0 0, .bool false, .slice none 0 0, .slice none 0 0] 55 (0, 0)) := bX hb2 Q2.out; obtain ⟨r0, r1, r2, r3⟩ := b4C q2; have fz : ∀ j, w2.frozen? ⟨w.heap.size + 1, j, none⟩ = false := fun j => bT q2 j; have Q2 := hQq q2; clear q2; have q1x := bX hb2 Q1.out; obtain ⟨k0, k1, k2, k3⟩ := b4C q1x; rw [E5.out] at k1; have Q1 := hQq q1x; have hz1 := bL q1x; have hz2 := bL Q2.out; have HB2 := hQq (HB1.out.trans hb2); have g0 := (HL.out.ext HB2.out).f.var; unfold senV at g0; clear q1x; clear hb2 ho1 ho2)
   | (go_at_call 87; refine (fuGet _ (ptsO 2 d.ats) whW _ HO2.out.1 (oS2 _)).mono ?_; rintro e w3 ⟨rfl, hb3⟩; rw [E4.out]; have EP3 := hQq hb3; clear r0 r1 r2 r3 fz k0 k1 k2 k3 hz1 hz2 g0; have q2 : w3.heap[w.heap.size + 1]? = some (.cells #[.slice none 0 0, .bool false, .slice none 0 0, .slice none 0 0] 55 (0, 0)) := bX hb3 Q2.out; obtain ⟨r0, r1, r2, r3⟩ := b4C q2; have fz : ∀ j, w3.frozen? ⟨w.heap.size + 1, j, none⟩ = false := fun j => bT q2 j; have Q2 := hQq q2; clear q2; have q1x := bX hb3 Q1.out; obtain ⟨k0, k1, k2, k3⟩ := b4C q1x; rw [E5.out] at k1; have Q1 := hQq q1x; have hz1 := bL q1x; have hz2 := bL Q2.out; have HB3 := hQq (HB2.out.trans hb3); have g0 := (HL.out.ext HB3.out).f.var; unfold senV at g0; clear q1x; clear hb3)
   | (go_at_call 88; refine (fuBooked a0 b0 e0 _ (ptsO 2 d.ats) 1 _ (HL.out.ext HB3.out) (HO2.out.1.ext EP3.out) (oS2 _) (by decide)).mono ?_; rintro e w4 ⟨rfl, hb4⟩; rw [HBK.out, errV_0]; have EP4 := hQq (Ext.trans EP3.out hb4); clear r0 r1 r2 r3 fz k0 k1 k2 k3 hz1 hz2 g0; have q2 : w4.heap[w.heap.size + 1]? = some (.cells #[.slice none 0 0, .bool false, .slice none 0 0, .slice none 0 0] 55 (0, 0)) := bX hb4 Q2.out; obtain ⟨r0, r1, r2, r3⟩ := b4C q2; have fz : ∀ j, w4.frozen? ⟨w.heap.size + 1, j, none⟩ = false := fun j => bT q2 j; have Q2 := hQq q2; clear q2; have q1x := bX hb4 Q1.out; obtain ⟨k0, k1, k2, k3⟩ := b4C q1x; rw [E5.out] at k1; have Q1 := hQq q1x; have hz1 := bL q1x; have hz2 := bL Q2.out; have HB4 := hQq (HB3.out.trans hb4); have g0 := (HL.out.ext HB4.out).f.var; unfold senV at g0; clear q1x; clear hb4)
   | (go_at_call 89; refine (fuTurned a0 b0 e0 _ (ptsO 2 d.ats) _ (HL.out.ext HB4.out) (HO2.out.1.ext EP4.out) (oS2 _) HTZ.out).mono ?_; rintro e w5 ⟨⟨a9, cap9, rfl, hs9⟩, hb5⟩; rw [E6'.out, errV_0, HOQ.out]; have EP5 := hQq (Ext.trans EP4.out hb5); have HS9 := hQq hs9; clear r0 r1 r2 r3 fz k0 k1 k2 k3 hz1 hz2 g0; have q2 : w5.heap[w.heap.size + 1]? = some (.cells #[.slice none 0 0, .bool false, .slice none 0 0, .slice none 0 0] 55 (0, 0)) := bX hb5 Q2.out; obtain ⟨r0, r1, r2, r3⟩ := b4C q2; have fz : ∀ j, w5.frozen? ⟨w.heap.size + 1, j, none⟩ = false := fun j => bT q2 j; have Q2 := hQq q2; clear q2; have q1x := bX hb5 Q1.out; obtain ⟨k0, k1, k2, k3⟩ := b4C q1x; rw [E5.out] at k1; have Q1 := hQq q1x; have hz1 := bL q1x; have hz2 := bL Q2.out; have HB5 := hQq (HB4.out.trans hb5); have g0 := (HL.out.ext HB5.out).f.var; unfold senV at g0; clear q1x; clear hb5 hs9)
   | (go_at_call 85; refine (fuNumF a0 b0 e0 _ (HL.out.ext HB5.out)).mono ?_; rintro e wn ⟨rfl, rfl⟩)
   | fail)
  refine nW (P := fun W => bodyPost _ _ _ _ _ W) _ ?_
  intro W2 hW2
  obtain ⟨hq, hx, hc⟩ := set4 Q2.out (by omega) HB5.out hW2
  refine bodyPost_ret (v := .tuple #[.agg #[.slice none 0 0, .bool false, .slice none 0 0, .slice none 0 0], .int .i64 (-1), .int .i64 (6)]) (by simp [results, Tryz.f31, go_sem, bC hq 0, bC hq 1, bC hq 2, bC hq 3]) rfl ?_
  exact ⟨⟨_, by rw [HX.out.2.1, HX.out.2.2], by rw [HX.out.1]; exact zDir_in _ _⟩, hx⟩
 have E6 : Hid (¬ (ftE (ptsO 2 d.ats) ≠ 0 \/ (ftO (ptsO 2 d.ats) = true /\ 0 < (ftR (ptsO 2 d.ats)).length))) := hQq (by
  rintro (h | h)
  ·exact h E6'.out
  ·rw [HOQ.out] at h; exact e7 h)
 go_enter Tryz.func31, Tryz.ntmps31
 go_upto_region 16 with (first
   | (go_at_call 78; refine (brCheckDir B _ _ d (HD.out.ext ((eA _ _).trans (eA _ _))) HSM.out).mono ?_; rintro e w1 ⟨rfl, hb1⟩; have q2 : w1.heap[w.heap.size + 1]? = some (.cells #[.slice none 0 0, .bool false, .slice none 0 0, .slice none 0 0] 55 (0, 0)) := bX hb1 (blk_at (by simp)); obtain ⟨r0, r1, r2, r3⟩ := b4C q2; have fz : ∀ j, w1.frozen? ⟨w.heap.size + 1, j, none⟩ = false := fun j => bT q2 j; have Q2 := hQq q2; clear q2; have q1 : w1.heap[w.heap.size]? = some (.cells #[.slice a3 d.ats.length cap3, .bool d.opq, .slice a4 d.red.length cap4, .slice a5 d.ens.length cap5] 55 (0, 0)) := bX hb1 (bA (bN w _)); have k0 := bC q1 0; have k1 := bC q1 1; rw [E5.out] at k1; have k2 := bC q1 2; have k3 := bC q1 3; have Q1 := hQq q1; have hz1 := bL q1; have hz2 := bL Q2.out; clear q1; have HB1 := hQq (((eA _ _).trans (eA _ _)).trans hb1); have g0 := (HL.out.ext HB1.out).f.var; unfold senV at g0; clear hb1)
   | (go_at_call 86; refine (escPartsT 2 _ d.ats _ (HL.out.o.ext HB1.out).laid ((HA.out.ext okA HB1.out).attrs) HSM.out.ats).mono ?_; rintro e w2 ⟨⟨v1, v2, rfl, ho1, ho2⟩, hb2⟩; rw [E3.out]; obtain ⟨a7, cap7, rfl, -, -⟩ := ho1.1; obtain ⟨a2, c2', rfl, -, -⟩ := ho2.1; have HO1 := hQq ho1; have HO2 := hQq ho2; clear r0 r1 r2 r3 fz k0 k1 k2 k3 hz1 hz2 g0; have q2 : w2.heap[w.heap.size + 1]? = some (.cells #[.slice none 0 0, .bool false, .slice none 0 0, .slice none 0 0] 55 (0, 0)) := bX hb2 Q2.out; obtain ⟨r0, r1, r2, r3⟩ := b4C q2; have fz : ∀ j, w2.frozen? ⟨w.heap.size + 1, j, none⟩ = false := fun j => bT q2 j; have Q2 := hQq q2; clear q2; have q1x := bX hb2 Q1.out; obtain ⟨k0, k1, k2, k3⟩ := b4C q1x; rw [E5.out] at k1; have Q1 := hQq q1x; have hz1 := bL q1x; have hz2 := bL Q2.out; have HB2 := hQq (HB1.out.trans hb2); have g0 := (HL.out.ext HB2.out).f.var; unfold senV at g0; clear q1x; clear hb2 ho1 ho2)
   | (go_at_call 87; refine (fuGet _ (ptsO 2 d.ats) whW _ HO2.out.1 (oS2 _)).mono ?_; rintro e w3 ⟨rfl, hb3⟩; rw [E4.out]; have EP3 := hQq hb3; clear r0 r1 r2 r3 fz k0 k1 k2 k3 hz1 hz2 g0; have q2 : w3.heap[w.heap.size + 1]? = some (.cells #[.slice none 0 0, .bool false, .slice none 0 0, .slice none 0 0] 55 (0, 0)) := bX hb3 Q2.out; obtain ⟨r0, r1, r2, r3⟩ := b4C q2; have fz : ∀ j, w3.frozen? ⟨w.heap.size + 1, j, none⟩ = false := fun j => bT q2 j; have Q2 := hQq q2; clear q2; have q1x := bX hb3 Q1.out; obtain ⟨k0, k1, k2, k3⟩ := b4C q1x; rw [E5.out] at k1; have Q1 := hQq q1x; have hz1 := bL q1x; have hz2 := bL Q2.out; have HB3 := hQq (HB2.out.trans hb3); have g0 := (HL.out.ext HB3.out).f.var; unfold senV at g0; clear q1x; clear hb3)
   | (go_at_call 88; refine (fuBooked a0 b0 e0 _ (ptsO 2 d.ats) 1 _ (HL.out.ext HB3.out) (HO2.out.1.ext EP3.out) (oS2 _) (by decide)).mono ?_; rintro e w4 ⟨rfl, hb4⟩; rw [HBK.out, errV_0]; have EP4 := hQq (Ext.trans EP3.out hb4); clear r0 r1 r2 r3 fz k0 k1 k2 k3 hz1 hz2 g0; have q2 : w4.heap[w.heap.size + 1]? = some (.cells #[.slice none 0 0, .bool false, .slice none 0 0, .slice none 0 0] 55 (0, 0)) := bX hb4 Q2.out; obtain ⟨r0, r1, r2, r3⟩ := b4C q2; have fz : ∀ j, w4.frozen? ⟨w.heap.size + 1, j, none⟩ = false := fun j => bT q2 j; have Q2 := hQq q2; clear q2; have q1x := bX hb4 Q1.out; obtain ⟨k0, k1, k2, k3⟩ := b4C q1x; rw [E5.out] at k1; have Q1 := hQq q1x; have hz1 := bL q1x; have hz2 := bL Q2.out; have HB4 := hQq (HB3.out.trans hb4); have g0 := (HL.out.ext HB4.out).f.var; unfold senV at g0; clear q1x; clear hb4)
   | (go_at_call 89; refine (fuTurned a0 b0 e0 _ (ptsO 2 d.ats) _ (HL.out.ext HB4.out) (HO2.out.1.ext EP4.out) (oS2 _) HTZ.out).mono ?_; rintro e w5 ⟨⟨a9, cap9, rfl, hs9⟩, hb5⟩; rw [E6'.out, errV_0, HOQ.out, HHQ.out]; have EP5 := hQq (Ext.trans EP4.out hb5); have HS9 := hQq hs9; clear r0 r1 r2 r3 fz k0 k1 k2 k3 hz1 hz2 g0; have q2 : w5.heap[w.heap.size + 1]? = some (.cells #[.slice none 0 0, .bool false, .slice none 0 0, .slice none 0 0] 55 (0, 0)) := bX hb5 Q2.out; obtain ⟨r0, r1, r2, r3⟩ := b4C q2; have fz : ∀ j, w5.frozen? ⟨w.heap.size + 1, j, none⟩ = false := fun j => bT q2 j; have Q2 := hQq q2; clear q2; have q1x := bX hb5 Q1.out; obtain ⟨k0, k1, k2, k3⟩ := b4C q1x; rw [E5.out] at k1; have Q1 := hQq q1x; have hz1 := bL q1x; have hz2 := bL Q2.out; have HB5 := hQq (HB4.out.trans hb5); have g0 := (HL.out.ext HB5.out).f.var; unfold senV at g0; clear q1x; clear hb5 hs9)
   | fail)
 go_cut [87] (fun c wx => c = .bool false /\ w5 = wx)
 case first =>
  cases o
  case false => clear e7; go_wp2_with fail; go_meet; exact ⟨rfl, rfl⟩
  case true =>
   have q8 := lenZ (fun h => e7 ⟨rfl, h⟩)
   have q8n : decide (0 < (ftR (ptsO 2 d.ats)).length) = false := decide_eq_false (fun h => e7 ⟨rfl, h⟩)
   clear e7
   go_wp2_with fail; go_meet
   first
    | exact ⟨rfl, rfl⟩
    | exact ⟨by rw [q8n], rfl⟩
 case rest =>
 obtain ⟨rfl, rfl⟩ := hcut
 clear e7
 go_wp2_with fail
 have HBO : Hid (w.heap.size + 1 < w5.heap.size) := hQq (bL Q2.out)
 have HCH := hQq (fun x (hx : x ∈ d.ens) => small_chk (ens_chk E1.out hx))
 have HTN : Hid (∀ n e, gnT (rfE hh) d.ens = (n, e) -> e ≠ 0 -> frT d = (zDiN, n, e)) := hQq (fun n e h he => frT_ent E1.out E2.out E3.out E4.out ENL.out E6.out (by rw [HHQ.out]; exact h) he)
 have HST0 : Hid (ODSt w w5.heap.size #[.slice a3 d.ats.length cap3, .bool false, .slice a4 d.red.length cap4, .slice a5 d.ens.length cap5] (.slice a7 (ptsP 2 d.ats).length cap7) (ptsP 2 d.ats) o (.slice a9 (ftR (ptsO 2 d.ats)).length cap9) (ftR (ptsO 2 d.ats)) (.slice none 0 0) [] (w5.alloc (.cells #[.slice a7 (ptsP 2 d.ats).length cap7, .bool o, .slice a9 (ftR (ptsO 2 d.ats)).length cap9, .slice none 0 0] 55))) := hQq ⟨bA (by have h := Q1.out; rw [E5.out] at h; exact h), bA Q2.out, bN _ _, OwnL.nil _ _ _, (attT_in HO1.out).ext okA (Ext.trans EP5.out (eA _ _)), (HS9.out.mono okS (Nat.zero_le _)).ext okS (eA _ _), HB5.out.trans (eA _ _)⟩
 clear r0 r1 r2 r3 fz k0 k1 k2 k3 g0
 go_loopw [18, 98] (fun f i w' => ∃ (wi : World) (k : Nat) (ve : Value) (fb : Bool), wi = w' /\ k <= d.ens.length /\ f = .bool fb /\ fb = anyW ((d.ens.take k).map rfX) /\ i = .int .i64 k /\ (∀ j, j < k -> rfE hh (getE d.ens j) = 0) /\ ODSt w w5.heap.size #[.slice a3 d.ats.length cap3, .bool false, .slice a4 d.red.length cap4, .slice a5 d.ens.length cap5] (.slice a7 (ptsP 2 d.ats).length cap7) (ptsP 2 d.ats) o (.slice a9 (ftR (ptsO 2 d.ats)).length cap9) (ftR (ptsO 2 d.ats)) ve ((d.ens.take k).map rfX) wi) (fun _ i _ => d.ens.length - (intOf i).toNat)
 case atStart => exact ⟨_, 0, _, false, rfl, Nat.zero_le _, rfl, rfl, rfl, fun j hj => absurd hj (by omega), HST0.out⟩
 case round =>
  clear HST0
  obtain ⟨wi, k, ve, fb, rfl, hk, rfl, hfb, rfl, hok, hst⟩ := hrel
  obtain ⟨es, hes⟩ : ∃ es, es = (d.ens.take k).map rfX := ⟨_, rfl⟩
  rw [<- hes] at hst hfb
  have HES := hQq hes; have HFB := hQq hfb
  have HOK := hQq hok; have HST := hQq hst
  clear hes hfb
  obtain ⟨a8, cap8, rfl⟩ := hst.own.form
  obtain ⟨k0, k1, k2, k3⟩ := b4C HST.out.box
  obtain ⟨r0, r1, r2, r3⟩ := b4C HST.out.res
  have fz : ∀ j, wi.frozen? ⟨w.heap.size + 1, j, none⟩ = false := fun j => bT HST.out.res j
  have hb0 := bL HST.out.box
  clear hok hst
  by_cases hlt : k < d.ens.length
  case neg =>
   obtain rfl : k = d.ens.length := by omega
   have HTK : Hid (es = d.ens.map rfX) := hQq (by rw [HES.out, List.take_length])
   obtain ⟨o0, o1, o2, o3⟩ := b4C HST.out.out
   have g0 := (HL.out.ext HST.out.ext).f.var
   unfold senV at g0
   by_cases e9 : hh = true /\ fb = false
   case pos =>
    have HX := hQq (fr_of (frT_none E1.out E2.out E3.out E4.out ENL.out E6.out (by rw [HHQ.out, gnT_ok HOK.out]) (by rw [HHQ.out, <- HTK.out, <- HFB.out]; exact e9)))
    obtain ⟨rfl, rfl⟩ := e9
    go_wp2_with (first
   | (go_at_call 85; refine (fuNumF a0 b0 e0 _ (HL.out.ext HST.out.ext)).mono ?_; rintro e wn ⟨rfl, rfl⟩)
   | fail)
    refine nW (P := fun W => bodyPost _ _ _ _ _ W) _ ?_
    intro W2 hW2
    obtain ⟨hq, hx, hc⟩ := set4 HST.out.res (by omega) HST.out.ext hW2
    refine bodyPost_ret (v := .tuple #[.agg #[.slice none 0 0, .bool false, .slice none 0 0, .slice none 0 0], .int .i64 (-1), .int .i64 (6)]) (by simp [results, Tryz.f31, go_sem, bC hq 0, bC hq 1, bC hq 2, bC hq 3]) rfl ?_
    exact ⟨⟨_, by rw [HX.out.2.1, HX.out.2.2], by rw [HX.out.1]; exact zDir_in _ _⟩, hx⟩
   have HX := hQq (fr_of (frT_ok E1.out E2.out E3.out E4.out ENL.out E6.out (by rw [HHQ.out, gnT_ok HOK.out]) (by rw [HHQ.out, <- HTK.out, <- HFB.out]; exact e9)))
   have hcs : hh = false \/ (hh = true /\ fb = true) := by cases hh <;> cases fb <;> simp_all
   clear e9
   rcases hcs with rfl | ⟨rfl, rfl⟩
   all_goals
    go_wp2
    refine nW (P := fun W => bodyPost _ _ _ _ _ W) _ ?_
    intro W2 hW2
    obtain ⟨hq, hx, hc⟩ := set4 HST.out.res (by omega) HST.out.ext hW2
    refine bodyPost_ret (v := .tuple #[.agg #[.slice a7 (ptsP 2 d.ats).length cap7, .bool o, .slice a9 (ftR (ptsO 2 d.ats)).length cap9, .slice a8 es.length cap8], .int .i64 (0), .int .i64 (0)]) (by simp [results, Tryz.f31, go_sem, bC hq 0, bC hq 1, bC hq 2, bC hq 3]) rfl ?_
    exact ⟨⟨_, by rw [HX.out.2.1, HX.out.2.2], by rw [HX.out.1, HOQ.out]; exact ⟨_, _, _, rfl, HST.out.ats.chg okA (hcB (Nat.le_refl _) hc HST.out.res) (by decide) (by decide), HST.out.red.chg okS (hcB (Nat.le_refl _) hc HST.out.res) (by decide) (by decide), by have h := (HST.out.own.in okE).chg okE (hcB (Nat.le_refl _) hc HST.out.res) (by decide) (by decide); rw [<- HTK.out]; exact h⟩⟩, hx⟩
  obtain ⟨b, off, va, hex, hbx, hva, c0, c1, c2, c3, c4, c5, c6, c7, c8, c9, c10, c11⟩ := (HE.out.ext okE HST.out.ext).en k hlt
  cases hex
  have HVA := hQq (hva.mono okA hB)
  obtain ⟨a6, cap6, rfl⟩ := hva.form
  have HG := hQq (getE_at d.ens k hlt)
  have HMEM := hQq (List.getElem_mem hlt)
  have HTK := hQq (take_mapX (X := rfX) d.ens k hlt)
  rw [<- HES.out] at HTK
  have HFK := hQq (anyW_map (X := rfX) hlt)
  rw [<- HES.out, <- HFB.out] at HFK
  have HSX' := hQq (HCH.out _ (List.getElem_mem hlt)); have HNB' := hQq (HNS.out _ (List.getElem_mem hlt)); have HEN' := hQq (show entX d.opq (lastE d.ens k) (getE d.ens k) = 0 from (dirE_zero E1.out).2.2.2.2.2 k hlt)
  rw [HG.out] at HEN'
  generalize d.ens[k]'hlt = x at c0 c1 c2 c3 c4 c5 c6 c7 c8 c9 c10 c11 HVA HG HMEM HTK HFK HSX' HNB' HEN'
  have HSX := HSX'; have HNB : Hid (x.ns <= 9223372036854775807) := HNB'; have HEN := HEN'
  clear HSX' HNB' HEN'
  have HLN : Hid (es.length <= k) := hQq (by rw [HES.out, List.length_map, List.length_take]; omega)
  have j1 : ((k : Nat) : Int) < (d.ens.length : Int) := by omega
  have j0 : (0 : Int) <= (k : Int) := by omega
  have HNX : Hid (rfE hh x = 0 -> ∀ j, j < k + 1 -> rfE hh (getE d.ens j) = 0) := hQq (fun h j hj => by
   by_cases e : j = k
   ·subst e; rw [HG.out]; exact h
   ·exact HOK.out j (by omega))
  have HNE : Hid (∀ n, rfE hh x = n -> n ≠ 0 -> gnT (rfE hh) d.ens = ((k : Int), n)) := hQq (fun n hn h => by
   subst hn
   have := gnT_no (E := rfE hh) hlt HOK.out (by rw [HG.out]; exact h)
   rw [HG.out] at this; exact this)
  obtain ⟨y, hy⟩ : ∃ y, y = rfX x := ⟨_, rfl⟩
  have HY := hQq hy
  clear hva hy
  by_cases e4 : rfE hh x = 0
  case neg =>
   have HNN := hQq (HNE.out (rfE hh x) rfl e4)
   have HX := hQq (fr_of (HTN.out _ _ HNN.out e4))
   have q4 : (rfE hh x != 0) = true := bne_iff_ne.2 e4
   clear e4
   go_upto_region 24 with (go_at_call 90; go_loud (refine (fuNeutral a0 b0 e0 w.heap.size x _ hh _ (HL.out.ext (HST.out.ext.trans (eA _ _))) (HVA.out.ext okA (eA _ _)) HSX.out HNB.out (by have := HST.out.ext.size; simp; omega)).mono ?_; rintro e w4 ⟨⟨z, ay, k11, capy, rfl, hz⟩, hb4⟩; unfold deC; have HB4 : Hid (Ext wi w4) := hQq ((eA _ _).trans hb4); have hr2 := bX HB4.out HST.out.res; obtain ⟨r0, r1, r2, r3⟩ := b4C hr2; have fz : ∀ j, w4.frozen? ⟨w.heap.size + 1, j, none⟩ = false := fun j => bT hr2 j; have hrs := bL HST.out.res; clear hb4 hr2))
   refine nW (P := fun W => Code.wp _ _ _ _ W) _ ?_
   intro W hW
   have hW2 : W = w4.alloc (.cells #[.string z.nm, .int .i64 z.nd.dep, .string z.nd.nm, .int .i64 z.nd.kd, .slice ay k11 capy, .string z.nd.dat, .int .i64 z.nd.ma, .int .i64 z.nd.mi, .int .i64 z.nd.cl, .bool z.wh, .bool z.fi, .int .i64 z.ns] 98 (0, 0)) := hW
   have HSA : Hid (Ext wi W) := hQq (by rw [hW2]; exact HB4.out.trans (eA _ _))
   clear hW hW2 c0 c1 c2 c3 c4 c5 c6 c7 c8 c9 c10 c11 k0 k1 k2 k3 r0 r1 r2 r3 fz
   have hr4 := bX HSA.out HST.out.res
   obtain ⟨r0, r1, r2, r3⟩ := b4C hr4
   have fz : ∀ j, W.frozen? ⟨w.heap.size + 1, j, none⟩ = false := fun j => bT hr4 j
   have hrs4 := bL hr4
   have Q4 := hQq hr4
   clear hr4
   go_wp2
   refine nW (P := fun W => bodyPost _ _ _ _ _ W) _ ?_
   intro W2 hW2
   obtain ⟨hq, hx, hc⟩ := set4 Q4.out (by omega) (HST.out.ext.trans HSA.out) hW2
   refine bodyPost_ret (v := .tuple #[.agg #[.slice none 0 0, .bool false, .slice none 0 0, .slice none 0 0], .int .i64 k, .int .i64 (rfE hh x)]) (by simp [results, Tryz.f31, go_sem, bC hq 0, bC hq 1, bC hq 2, bC hq 3]) rfl ?_
   exact ⟨⟨_, by rw [HX.out.2.1, HX.out.2.2], by rw [HX.out.1]; exact zDir_in _ _⟩, hx⟩
  have q4 : (rfE hh x != 0) = false := bne_eq_false_iff_eq.2 e4
  have HN := hQq (HNX.out e4)
  have HE4 := hQq e4
  clear e4
  go_upto_region 26 with (go_at_call 90; go_loud (refine (fuNeutral a0 b0 e0 w.heap.size x _ hh _ (HL.out.ext (HST.out.ext.trans (eA _ _))) (HVA.out.ext okA (eA _ _)) HSX.out HNB.out (by have := HST.out.ext.size; simp; omega)).mono ?_; rintro e w4 ⟨⟨z, ay, k11, capy, rfl, hz⟩, hb4⟩; unfold deC; rw [<- HY.out] at hz; obtain ⟨hz1, rfl, ha4⟩ := hz HE4.out; obtain rfl : y = z := hz1.symm; have HA4 := hQq ha4; rw [HE4.out]; clear ha4 hz1; have HB4 : Hid (Ext wi w4) := hQq ((eA _ _).trans hb4); have hr2 := bX HB4.out HST.out.res; obtain ⟨r0, r1, r2, r3⟩ := b4C hr2; have fz : ∀ j, w4.frozen? ⟨w.heap.size + 1, j, none⟩ = false := fun j => bT hr2 j; have hrs := bL HST.out.res; clear hb4 hr2))
  refine nW (P := fun W => Code.wp _ _ _ _ W) _ ?_
  intro W hW
  have hW2 : W = w4.alloc (.cells #[.string y.nm, .int .i64 y.nd.dep, .string y.nd.nm, .int .i64 y.nd.kd, .slice ay y.nd.ats.length capy, .string y.nd.dat, .int .i64 y.nd.ma, .int .i64 y.nd.mi, .int .i64 y.nd.cl, .bool y.wh, .bool y.fi, .int .i64 y.ns] 98 (0, 0)) := hW
  have HXW := hQq (show Ext wi W from by rw [hW2]; exact HB4.out.trans (eA _ _))
  have HQW := hQq (show W.heap[w4.heap.size]? = some (.cells #[.string y.nm, .int .i64 y.nd.dep, .string y.nd.nm, .int .i64 y.nd.kd, .slice ay y.nd.ats.length capy, .string y.nd.dat, .int .i64 y.nd.ma, .int .i64 y.nd.mi, .int .i64 y.nd.cl, .bool y.wh, .bool y.fi, .int .i64 y.ns] 98 (0, 0)) from by rw [hW2]; exact bN _ _)
  have HVY := hQq (show AttIn w.heap.size W (.slice ay y.nd.ats.length capy) y.nd.ats from by rw [hW2]; exact HA4.out.ext okA (eA _ _))
  clear hW hW2 c0 c1 c2 c3 c4 c5 c6 c7 c8 c9 c10 c11 k0 k1 k2 k3 r0 r1 r2 r3 fz
  rw [<- HY.out] at HFK
  obtain ⟨yw, hyw⟩ : ∃ yw, y.wh = yw := ⟨_, rfl⟩
  have HYW := hQq hyw
  rw [hyw] at HFK
  clear hyw
  have y9 := bC HQW.out 9
  rw [HYW.out] at y9
  go_cut [18] (fun c wx => c = .bool (fb || yw) /\ W = wx)
  case first =>
   cases fb
   all_goals cases yw
   all_goals
    go_wp2_with fail
    go_meet
    exact ⟨rfl, rfl⟩
  case rest =>
  obtain ⟨rfl, rfl⟩ := hcut
  clear y9
  have o3 := bC (bX HXW.out HST.out.out) 3
  obtain ⟨z0, z1, z2, z3, z4, z5, z6, z7, z8, z9, z10, z11⟩ := b12C HQW.out
  go_wp2_with (at_builtin; go_loud (refine appL okE rfl (.tmp 120) (.tmp 122) rfl (.slice a8 es.length cap8) _ es [y] w _ (by rfl) (by rfl) (by exact (HST.out.up HXW.out).own.ext okE (eA _ _)) (by exact listIn_new okE _ y [.string y.nm, .int .i64 y.nd.dep, .string y.nd.nm, .int .i64 y.nd.kd, .slice ay y.nd.ats.length capy, .string y.nd.dat, .int .i64 y.nd.ma, .int .i64 y.nd.mi, .int .i64 y.nd.cl, .bool y.wh, .bool y.fi, .int .i64 y.ns] _ (by first | rfl | simp) ⟨_, HVY.out, rfl⟩) (by exact (HST.out.up HXW.out).ext.trans (eA _ _)) (by exact ((HST.out.up HXW.out).ext.trans (eA _ _)).size) (by have := HLN.out; simp only [List.length_singleton]; omega) ?_; intro v6 w6 hap; have hou := ODSt.app ((HST.out.up HXW.out).up (eA _ _)) hap; have p3 := bC hou 3; have fp : ∀ j, w6.frozen? ⟨w5.heap.size, j, none⟩ = false := fun j => bT hou j; obtain ⟨a10, cap10, rfl⟩ := hap.own.form; rw [len_snoc] at hap; have HAP := hQq hap; clear hap hou))
  go_roundw
  case rel => exact ⟨_, k + 1, _, _, rfl, by omega, rfl, HFK.out.symm, by go_num, HN.out, by rw [HTK.out, <- HY.out]; exact ((HST.out.up HXW.out).up (eA _ _)).step HAP.out HBO.out⟩
  case measure => first | (simp [intOf]; done) | (simp [intOf]; omega)
end Go.Proofs.YtimpejaaeinplaaGreatDoor
