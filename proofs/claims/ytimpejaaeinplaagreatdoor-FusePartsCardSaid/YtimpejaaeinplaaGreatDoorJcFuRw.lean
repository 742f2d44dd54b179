/- FuRw FuGD FuNe -/
import Derived.Test.YtimpejaaeinplaaGreatDoorJI6
import Derived.Test.YtimpejaaeinplaaGreatDoorJcBsdK
import Derived.Test.YtimpejaaeinplaaGreatDoorJcOrG
namespace Go.Proofs.YtimpejaaeinplaaGreatDoor
open Go.RowKit
set_option maxRecDepth 100000 in
set_option maxHeartbeats 8000000 in
theorem fuRaw (a0 b0 c0 : Addr) (B : Nat) (x : DeN) (va : Value) (w : World) (hL : LaidF w a0 b0 c0) (hv : AttIn B w va x.nd.ats) (hm : Small x.nd.ats) (hn : x.ns <= 9223372036854775807) (hB : B <= w.heap.size) :
  Calls Tryz.prog 81 #[.agg (deC x va).toArray] w (EntX B w (wfX x) (wfE x)) := by
 have HA := hQq hv; have HM := hQq hm; have HN := hQq hn; have HL := hQq hL
 obtain ⟨a3, cap3, rfl⟩ := hv.form
 clear hv hm hn hL
 unfold deC
 cases hw : x.wh
 case true =>
  have HWE := hQq (wf_white hw)
  clear hw
  go_enter Tryz.func81, Tryz.ntmps81
  go_upto_region 6 with (go_at_call 52; refine (fuWhiteout _ (HL.out.o.ext ((eA _ _).trans (eA _ _)))).mono ?_; rintro e w3 ⟨⟨aw, cw, rfl, haw⟩, hb3⟩; unfold trV; have HAW := hQq haw; have QX := hQq (bX hb3 (bA (bN w (.cells #[.string x.nm, .int .i64 x.nd.dep, .string x.nd.nm, .int .i64 x.nd.kd, .slice a3 x.nd.ats.length cap3, .string x.nd.dat, .int .i64 x.nd.ma, .int .i64 x.nd.mi, .int .i64 x.nd.cl, .bool true, .bool x.fi, .int .i64 x.ns] 98 (0, 0))))); have QN := hQq (bX hb3 (blk_at (w := w.alloc (.cells #[.string x.nm, .int .i64 x.nd.dep, .string x.nd.nm, .int .i64 x.nd.kd, .slice a3 x.nd.ats.length cap3, .string x.nd.dat, .int .i64 x.nd.ma, .int .i64 x.nd.mi, .int .i64 x.nd.cl, .bool true, .bool x.fi, .int .i64 x.ns] 98 (0, 0))) (o := .cells #[.string ⟨#[]⟩, .int .i64 0, .string ⟨#[]⟩, .int .i64 0, .slice none 0 0, .string ⟨#[]⟩, .int .i64 0, .int .i64 0, .int .i64 0, .bool false, .bool false, .int .i64 0] 98 (0, 0)) (n := w.heap.size + 1) (by simp))); have HB3 := hQq (((eA _ _).trans (eA _ _)).trans hb3); clear hb3 haw; obtain ⟨c0, c1, c2, c3, c4, c5, c6, c7, c8, c9, c10, c11⟩ := b12C QX.out; have fx := fun j => bT QX.out j; have z1 := bL QX.out; have z2 := bL QN.out)
  refine nW (P := fun W => Code.wp _ _ _ _ W) _ ?_
  intro W hW
  have hW2 : W = setL (w3.setCell ⟨w.heap.size, 9, none⟩ (.bool false)) w.heap.size 1 [.int .i64 whN.dep, .string whN.nm, .int .i64 whN.kd, .slice aw 1 cw, .string whN.dat, .int .i64 whN.ma, .int .i64 whN.mi, .int .i64 whN.cl] := by rw [hW]; simp only [setL, Nat.reduceAdd]
  have q9 := bS (o := 9) QX.out (.bool false)
  have HQ := hQq (show W.heap[w.heap.size]? = some (.cells #[.string x.nm, .int .i64 0, .string ⟨#[]⟩, .int .i64 2, .slice aw 1 cw, .string ⟨#[]⟩, .int .i64 0, .int .i64 0, .int .i64 0, .bool false, .bool x.fi, .int .i64 x.ns] 98 (0, 0)) from by rw [hW2, setL_blk _ _ _ _ q9, set9c]; rfl)
  have HX := hQq (show Ext w W from by rw [hW2]; exact setL_below (Nat.le_refl _) _ _ _ (Below.setCell (p := ⟨w.heap.size, 9, none⟩) HB3.out (Nat.le_refl _) _))
  have HA9 := hQq (show AttIn B W (.slice aw 1 cw) whA from by rw [hW2]; exact ((attT_in HAW.out).chg okA (cellChg QX.out hB) (by decide) (by decide)).chg okA (setL_chgj hB q9 _) (by decide) (by decide))
  have HN9 := hQq (show W.heap[w.heap.size + 1]? = some (.cells #[.string ⟨#[]⟩, .int .i64 0, .string ⟨#[]⟩, .int .i64 0, .slice none 0 0, .string ⟨#[]⟩, .int .i64 0, .int .i64 0, .int .i64 0, .bool false, .bool false, .int .i64 0] 98 (0, 0)) from by rw [hW2]; exact setL_keep _ _ _ _ _ (bSn QN.out ⟨w.heap.size, 9, none⟩ _ (by show w.heap.size + 1 ≠ w.heap.size; omega)) (fun e => by injection e with e; omega))
  clear hW hW2 q9 c0 c1 c2 c3 c4 c5 c6 c7 c8 c9 c10 c11 fx z1 z2
  obtain ⟨c0, c1, c2, c3, c4, c5, c6, c7, c8, c9, c10, c11⟩ := b12C HQ.out; obtain ⟨r0, r1, r2, r3, r4, r5, r6, r7, r8, r9, r10, r11⟩ := b12C HN9.out; have fz := fun j => bT HN9.out j; have z1 := bL HQ.out; have z2 := bL HN9.out
  go_wp2
  refine nW (P := fun W => bodyPost _ _ _ _ _ W) _ ?_
  intro W2 hW2
  have hW3 : W2 = setL W (w.heap.size + 1) 0 [.string x.nm, .int .i64 0, .string ⟨#[]⟩, .int .i64 2, .slice aw 1 cw, .string ⟨#[]⟩, .int .i64 0, .int .i64 0, .int .i64 0, .bool false, .bool x.fi, .int .i64 x.ns] := hW2
  obtain ⟨hq, hx, hc⟩ := put12 (w := w) HN9.out (by omega) HX.out hW3
  refine bodyPost_ret (v := .tuple #[.agg #[.string x.nm, .int .i64 0, .string ⟨#[]⟩, .int .i64 2, .slice aw 1 cw, .string ⟨#[]⟩, .int .i64 0, .int .i64 0, .int .i64 0, .bool false, .bool x.fi, .int .i64 x.ns], .int .i64 0]) (by simp [results, Tryz.f81, go_sem, bC hq 0, bC hq 1, bC hq 2, bC hq 3, bC hq 4, bC hq 5, bC hq 6, bC hq 7, bC hq 8, bC hq 9, bC hq 10, bC hq 11]) rfl ?_
  exact ⟨⟨{ x with wh := false, nd := whN }, _, _, _, by rw [HWE.out.1]; rfl, fun _ => by rw [HWE.out.2]; exact ⟨rfl, rfl, HA9.out.chg okA (chgB (by omega) hc HN9.out) (by decide) (by decide)⟩⟩, hx⟩
 case false =>
 have HWH := hQq hw
 clear hw
 cases hf : x.fi
 case false =>
  have HWE := hQq (wf_rest HWH.out hf)
  have HFI := hQq hf
  clear hf
  go_enter Tryz.func81, Tryz.ntmps81
  go_wp2_with fail
  refine nW (P := fun W => bodyPost _ _ _ _ _ W) _ ?_
  intro W2 hW2
  have hW3 : W2 = (w.alloc (.cells #[.string x.nm, .int .i64 x.nd.dep, .string x.nd.nm, .int .i64 x.nd.kd, .slice a3 x.nd.ats.length cap3, .string x.nd.dat, .int .i64 x.nd.ma, .int .i64 x.nd.mi, .int .i64 x.nd.cl, .bool false, .bool false, .int .i64 x.ns] 98 (0, 0))).alloc (.cells #[.string x.nm, .int .i64 x.nd.dep, .string x.nd.nm, .int .i64 x.nd.kd, .slice a3 x.nd.ats.length cap3, .string x.nd.dat, .int .i64 x.nd.ma, .int .i64 x.nd.mi, .int .i64 x.nd.cl, .bool false, .bool false, .int .i64 x.ns] 98 (0, 0)) := hW2
  have hq : W2.heap[w.heap.size + 1]? = some (.cells #[.string x.nm, .int .i64 x.nd.dep, .string x.nd.nm, .int .i64 x.nd.kd, .slice a3 x.nd.ats.length cap3, .string x.nd.dat, .int .i64 x.nd.ma, .int .i64 x.nd.mi, .int .i64 x.nd.cl, .bool false, .bool false, .int .i64 x.ns] 98 (0, 0)) := by rw [hW3]; exact blk_at (by simp)
  have hx : Ext w W2 := by rw [hW3]; exact ((eA _ _).trans (eA _ _))
  refine bodyPost_ret (v := .tuple #[.agg #[.string x.nm, .int .i64 x.nd.dep, .string x.nd.nm, .int .i64 x.nd.kd, .slice a3 x.nd.ats.length cap3, .string x.nd.dat, .int .i64 x.nd.ma, .int .i64 x.nd.mi, .int .i64 x.nd.cl, .bool false, .bool false, .int .i64 x.ns], .int .i64 0]) (by simp [results, Tryz.f81, go_sem, bC hq 0, bC hq 1, bC hq 2, bC hq 3, bC hq 4, bC hq 5, bC hq 6, bC hq 7, bC hq 8, bC hq 9, bC hq 10, bC hq 11]) rfl ?_
  exact ⟨⟨x, _, _, _, by rw [HWE.out.1]; unfold deC; rw [HWH.out, HFI.out], fun _ => by rw [HWE.out.2]; exact ⟨rfl, rfl, HA.out.ext okA hx⟩⟩, hx⟩
 case true =>
 have HWE := hQq (wf_first HWH.out hf)
 have HFI := hQq hf
 clear hf
 go_enter Tryz.func81, Tryz.ntmps81
 go_upto_region 5 with fail
 refine nW (P := fun W => Code.wp _ _ _ _ W) _ ?_
 intro w3 hW
 have hb3 : Ext ((w.alloc (.cells #[.string x.nm, .int .i64 x.nd.dep, .string x.nd.nm, .int .i64 x.nd.kd, .slice a3 x.nd.ats.length cap3, .string x.nd.dat, .int .i64 x.nd.ma, .int .i64 x.nd.mi, .int .i64 x.nd.cl, .bool false, .bool true, .int .i64 x.ns] 98 (0, 0))).alloc (.cells #[.string ⟨#[]⟩, .int .i64 0, .string ⟨#[]⟩, .int .i64 0, .slice none 0 0, .string ⟨#[]⟩, .int .i64 0, .int .i64 0, .int .i64 0, .bool false, .bool false, .int .i64 0] 98 (0, 0))) w3 := by rw [hW]; exact bR _ _
 have QX := hQq (bX hb3 (bA (bN w (.cells #[.string x.nm, .int .i64 x.nd.dep, .string x.nd.nm, .int .i64 x.nd.kd, .slice a3 x.nd.ats.length cap3, .string x.nd.dat, .int .i64 x.nd.ma, .int .i64 x.nd.mi, .int .i64 x.nd.cl, .bool false, .bool true, .int .i64 x.ns] 98 (0, 0))))); have QN := hQq (bX hb3 (blk_at (w := w.alloc (.cells #[.string x.nm, .int .i64 x.nd.dep, .string x.nd.nm, .int .i64 x.nd.kd, .slice a3 x.nd.ats.length cap3, .string x.nd.dat, .int .i64 x.nd.ma, .int .i64 x.nd.mi, .int .i64 x.nd.cl, .bool false, .bool true, .int .i64 x.ns] 98 (0, 0))) (o := .cells #[.string ⟨#[]⟩, .int .i64 0, .string ⟨#[]⟩, .int .i64 0, .slice none 0 0, .string ⟨#[]⟩, .int .i64 0, .int .i64 0, .int .i64 0, .bool false, .bool false, .int .i64 0] 98 (0, 0)) (n := w.heap.size + 1) (by simp)))
 have HB3 : Hid (Ext w w3) := hQq (((eA _ _).trans (eA _ _)).trans hb3)
 clear hW hb3
 refine wp_region_box ((RbE w.heap.size)) (ebG w.heap.size (fun va => #[.string x.nm, .int .i64 x.nd.dep, .string x.nd.nm, .int .i64 x.nd.kd, va, .string x.nd.dat, .int .i64 x.nd.ma, .int .i64 x.nd.mi, .int .i64 x.nd.cl, .bool false, .bool true, .int .i64 x.ns]) (.slice a3 x.nd.ats.length cap3) (mwL 2 x.nd.ats (fuM false false [] x.ns))) (rwF w.heap.size (.slice a3 x.nd.ats.length cap3) x.ns (mwE 2 x.nd.ats (fuM false false [] x.ns)) (mwL 2 x.nd.ats (fuM false false [] x.ns))) 13 rfl (by kernel_rfl) (by kernel_rfl) (by kernel_rfl) (rbe_ext (Nat.le_of_lt (bL QX.out)) (eD w3)) (bX (eD w3) QX.out) (fun _ _ _ => RbE.trans) rwF_mono ?_ ?_
 ·intro i o a wx z ho hR hG hz hk hp
  have EX : Ext w wx := Below.trans HB3.out hR.below
  have fin := ebG_fin hG
  have HGH := hQq hG
  clear hG
  have n1 := eV (show a.eval (.tmp 1) = .pointer (some ⟨w.heap.size, 0, none⟩) from hk 1 (of_decide_eq_true (by kernel_rfl)))
  clear hk
  match i, ho, hz, hp with
  | 0, ho, hz, hp =>
   obtain rfl := oI ho
   clear ho hp hz
   unfold Oper.wp; go_simp
   exact ⟨_, rfl, rfl, (fin _ (bR _ _)).1, (fin _ (bR _ _)).2⟩
  | 1, ho, hz, hp =>
   obtain rfl := oI ho
   have p15 := eV (show a.eval (.tmp 15) = .pointer (some ⟨w.heap.size, 1, none⟩) from hp 0 _ 15 (by kernel_rfl) rfl rfl)
   clear ho hp hz
   unfold Oper.wp; go_simp
   exact ⟨_, rfl, rfl, (fin _ (bR _ _)).1, (fin _ (bR _ _)).2⟩
  | 2, ho, hz, hp =>
   obtain rfl := oI ho
   have p16 := eV (show a.eval (.tmp 16) = .pointer (some ⟨w.heap.size, 4, none⟩) from hp 1 _ 16 (by kernel_rfl) rfl rfl)
   obtain rfl : z = false := by
    cases z
    ·rfl
    ·exact absurd ((show edgeB _ 13 2 = true by kernel_rfl).symm.trans (hz rfl).2) (by decide)
   have d4 := bC HGH.out 4
   clear ho hp hz
   unfold Oper.wp; go_simp
   exact ⟨_, rfl, rfl, (fin _ (bR _ _)).1, (fin _ (bR _ _)).2⟩
  | 3, ho, hz, hp =>
   obtain rfl := oI ho
   clear ho hp hz
   unfold Oper.wp; go_simp
   exact ⟨_, rfl, rfl, (fin _ (bR _ _)).1, (fin _ (bR _ _)).2⟩
  | 4, ho, hz, hp =>
   obtain rfl := oI ho
   have p18 := eV (show a.eval (.tmp 18) = .pointer (some ⟨w.heap.size, 11, none⟩) from hp 3 _ 18 (by kernel_rfl) rfl rfl)
   obtain rfl : z = false := by
    cases z
    ·rfl
    ·exact absurd ((show edgeB _ 13 4 = true by kernel_rfl).symm.trans (hz rfl).2) (by decide)
   have d11 := bC HGH.out 11
   clear ho hp hz
   unfold Oper.wp; go_simp
   exact ⟨_, rfl, rfl, (fin _ (bR _ _)).1, (fin _ (bR _ _)).2⟩
  | 5, ho, hz, hp =>
   obtain rfl := oI ho
   have p19 := eV (show a.eval (.tmp 19) = .int .i64 x.ns from hp 4 _ 19 (by kernel_rfl) rfl rfl)
   clear ho hp hz
   unfold Oper.wp; go_simp
   refine (fuLink x.ns _ (HL.out.o.ext EX) HN.out).mono ?_
   rintro e w5 ⟨rfl, hb5⟩
   exact ⟨_, rfl, rfl, (fin _ hb5).1, (fin _ hb5).2⟩
  | 6, ho, hz, hp =>
   obtain rfl := oI ho
   have p20 := eV (show a.eval (.tmp 20) = .agg #[.string nlW, .string (linkS x.ns)] from hp 5 _ 20 (by kernel_rfl) rfl rfl)
   clear ho hp hz
   unfold Oper.wp; go_simp
   have h6 := fin _ (eA wx (.cells #[.string nlW, .string (linkS x.ns)] 45))
   exact ⟨_, rfl, ⟨_, _, rfl, atts_blk (bN wx _) rfl rfl, ebG_blk h6.2⟩, h6.1, h6.2⟩
  | 7, ho, hz, hp =>
   obtain rfl := oI ho
   have p17 := eV (show a.eval (.tmp 17) = .slice a3 x.nd.ats.length cap3 from hp 2 _ 17 (by kernel_rfl) rfl rfl)
   obtain ⟨ar, cr, e21, f21⟩ : ∃ ar cr, a.eval (.tmp 21) = .slice ar 1 cr /\ AttT wx (.slice ar 1 cr) [(nlW, linkS x.ns)] /\ ∃ cs, wx.heap[w.heap.size]? = some (.cells cs 98 (0, 0)) := hp 6 _ 21 (by kernel_rfl) rfl rfl
   have p21 := eV e21
   clear e21
   clear ho hp hz
   unfold Oper.wp; go_simp
   refine (fuWrit1 a0 b0 c0 _ _ x.nd.ats x.ns _ (HL.out.ext EX) ((HA.out.ext okA EX).attrs) f21.1.1 HM.out HN.out).mono ?_
   rintro e w5 ⟨⟨a5, c5, rfl, h5⟩, hb5⟩
   exact ⟨_, rfl, ⟨_, _, rfl, h5, ebG_blk (fin _ hb5).2⟩, (fin _ hb5).1, (fin _ hb5).2⟩
  | 8, ho, hz, hp =>
   obtain rfl := oI ho
   obtain ⟨ar, cr, e22, f22⟩ : ∃ ar cr, a.eval (.tmp 22) = .tuple #[.slice ar (mwL 2 x.nd.ats (fuM false false [] x.ns)).length cr, .int .i64 (mwE 2 x.nd.ats (fuM false false [] x.ns))] /\ AttT wx (.slice ar (mwL 2 x.nd.ats (fuM false false [] x.ns)).length cr) (mwL 2 x.nd.ats (fuM false false [] x.ns)) /\ ∃ cs, wx.heap[w.heap.size]? = some (.cells cs 98 (0, 0)) := hp 7 _ 22 (by kernel_rfl) rfl rfl
   have p22 := eV e22
   clear e22
   clear ho hp hz
   unfold Oper.wp; go_simp
   exact ⟨_, rfl, ⟨_, _, rfl, f22⟩, (fin _ (bR _ _)).1, (fin _ (bR _ _)).2⟩
  | 9, ho, hz, hp =>
   obtain rfl := oI ho
   obtain ⟨ar, cr, e14, f14⟩ : ∃ ar cr, a.eval (.tmp 14) = .tuple #[.slice ar (mwL 2 x.nd.ats (fuM false false [] x.ns)).length cr, .int .i64 (mwE 2 x.nd.ats (fuM false false [] x.ns))] /\ AttT wx (.slice ar (mwL 2 x.nd.ats (fuM false false [] x.ns)).length cr) (mwL 2 x.nd.ats (fuM false false [] x.ns)) /\ ∃ cs, wx.heap[w.heap.size]? = some (.cells cs 98 (0, 0)) := hp 8 _ 14 (by kernel_rfl) rfl rfl
   have p14 := eV e14
   clear e14
   clear ho hp hz
   unfold Oper.wp; go_simp
   exact ⟨_, rfl, ⟨_, _, rfl, f14⟩, (fin _ (bR _ _)).1, (fin _ (bR _ _)).2⟩
  | 10, ho, hz, hp =>
   obtain rfl := oI ho
   obtain ⟨ar, cr, e14, f14⟩ : ∃ ar cr, a.eval (.tmp 14) = .tuple #[.slice ar (mwL 2 x.nd.ats (fuM false false [] x.ns)).length cr, .int .i64 (mwE 2 x.nd.ats (fuM false false [] x.ns))] /\ AttT wx (.slice ar (mwL 2 x.nd.ats (fuM false false [] x.ns)).length cr) (mwL 2 x.nd.ats (fuM false false [] x.ns)) /\ ∃ cs, wx.heap[w.heap.size]? = some (.cells cs 98 (0, 0)) := hp 8 _ 14 (by kernel_rfl) rfl rfl
   have p14 := eV e14
   clear e14
   clear ho hp hz
   unfold Oper.wp; go_simp
   exact ⟨_, rfl, rfl, (fin _ (bR _ _)).1, (fin _ (bR _ _)).2⟩
  | 11, ho, hz, hp =>
   obtain rfl := oI ho
   clear ho hp hz
   unfold Oper.wp; go_simp
   exact ⟨_, rfl, rfl, (fin _ (bR _ _)).1, (fin _ (bR _ _)).2⟩
  | 12, ho, hz, hp =>
   obtain rfl := oI ho
   have p25 := eV (show a.eval (.tmp 25) = .pointer (some ⟨w.heap.size, 1, none⟩) from hp 11 _ 25 (by kernel_rfl) rfl rfl)
   clear ho hp hz
   unfold Oper.wp; go_simp
   exact ⟨_, rfl, rfl, (fin _ (bR _ _)).1, (fin _ (bR _ _)).2⟩
  | 13, ho, hz, hp =>
   obtain rfl := oI ho
   have p26 := eV (show a.eval (.tmp 26) = .pointer (some ⟨w.heap.size, 4, none⟩) from hp 12 _ 26 (by kernel_rfl) rfl rfl)
   obtain ⟨ar, cr, e23, f23⟩ : ∃ ar cr, a.eval (.tmp 23) = .slice ar (mwL 2 x.nd.ats (fuM false false [] x.ns)).length cr /\ AttT wx (.slice ar (mwL 2 x.nd.ats (fuM false false [] x.ns)).length cr) (mwL 2 x.nd.ats (fuM false false [] x.ns)) /\ ∃ cs, wx.heap[w.heap.size]? = some (.cells cs 98 (0, 0)) := hp 9 _ 23 (by kernel_rfl) rfl rfl
   have p23 := eV e23
   clear e23
   obtain rfl : z = false := by
    cases z
    ·rfl
    ·exact absurd rfl (hz rfl).1
   have d4 := bC HGH.out 4; have fz := fun j => bT HGH.out j; have z2 := bL HGH.out
   clear fin
   clear ho hp hz
   unfold Oper.wp; go_simp
   exact ⟨⟨undef, trivial⟩, rbe_set HGH.out _, _, _, ebEnd (mk := fun va => #[.string x.nm, .int .i64 x.nd.dep, .string x.nd.nm, .int .i64 x.nd.kd, va, .string x.nd.dat, .int .i64 x.nd.ma, .int .i64 x.nd.mi, .int .i64 x.nd.cl, .bool false, .bool true, .int .i64 x.ns]) (fun _ _ => rfl) HGH.out f23.1⟩
  | 14, ho, hz, hp =>
   obtain rfl := oI ho
   have p24 := eV (show a.eval (.tmp 24) = .int .i64 (mwE 2 x.nd.ats (fuM false false [] x.ns)) from hp 10 _ 24 (by kernel_rfl) rfl rfl)
   clear ho hp hz
   unfold Oper.wp; go_simp
   exact ⟨_, rfl, rfl, (fin _ (bR _ _)).1, (fin _ (bR _ _)).2⟩
  | i + 15, ho, _, _ => exact absurd (Array.getElem?_eq_some_iff.1 ho).1 (by simp)
 ·intro vs wx hR hG hf
  generalize hA : putsA _ _ _ = A1
  have p4 : vs 4 = .int .i64 (mwE 2 x.nd.ats (fuM false false [] x.ns)) := hf 14 _ 4 rfl rfl
  clear hf
  have hA2 := hA.symm.trans (congrArg (fun D => putsA _ D vs) (show dstL _ 15 = [15, 16, 17, 18, 19, 20, 21, 22, 14, 23, 24, 25, 26, 4] by kernel_rfl))
  rw [hA2]
  clear hA2 hA
  simp only [putsA, List.foldl, Act.put, List.setIfInBounds_toArray, List.set_cons_succ, List.set_cons_zero]
  rw [p4]
  obtain ⟨a9, capz, hq, ha⟩ := hG
  have HQ := hQq hq; have HA9 := hQq ha
  have HN9 := hQq (hR.keep _ _ QN.out (fun e => by injection e with e; omega))
  have HX : Hid (Ext w wx) := hQq (Below.trans HB3.out hR.below)
  clear hq ha hR
  obtain ⟨c0, c1, c2, c3, c4, c5, c6, c7, c8, c9, c10, c11⟩ := b12C HQ.out; obtain ⟨r0, r1, r2, r3, r4, r5, r6, r7, r8, r9, r10, r11⟩ := b12C HN9.out; have fz := fun j => bT HN9.out j; have z1 := bL HQ.out; have z2 := bL HN9.out
  go_wp2
  refine nW (P := fun W => bodyPost _ _ _ _ _ W) _ ?_
  intro W2 hW2
  have hW3 : W2 = setL wx (w.heap.size + 1) 0 [.string x.nm, .int .i64 x.nd.dep, .string x.nd.nm, .int .i64 x.nd.kd, .slice a9 (mwL 2 x.nd.ats (fuM false false [] x.ns)).length capz, .string x.nd.dat, .int .i64 x.nd.ma, .int .i64 x.nd.mi, .int .i64 x.nd.cl, .bool false, .bool true, .int .i64 x.ns] := hW2
  obtain ⟨hq, hx, hc⟩ := put12 (w := w) HN9.out (by omega) HX.out hW3
  refine bodyPost_ret (v := .tuple #[.agg #[.string x.nm, .int .i64 x.nd.dep, .string x.nd.nm, .int .i64 x.nd.kd, .slice a9 (mwL 2 x.nd.ats (fuM false false [] x.ns)).length capz, .string x.nd.dat, .int .i64 x.nd.ma, .int .i64 x.nd.mi, .int .i64 x.nd.cl, .bool false, .bool true, .int .i64 x.ns], .int .i64 (mwE 2 x.nd.ats (fuM false false [] x.ns))]) (by simp [results, Tryz.f81, go_sem, bC hq 0, bC hq 1, bC hq 2, bC hq 3, bC hq 4, bC hq 5, bC hq 6, bC hq 7, bC hq 8, bC hq 9, bC hq 10, bC hq 11]) rfl ?_
  exact ⟨⟨{ x with nd := { x.nd with ats := (mwL 2 x.nd.ats (fuM false false [] x.ns)) } }, _, _, _, by rw [HWE.out.1]; unfold deC; rw [HWH.out, HFI.out], fun _ => by rw [HWE.out.2]; exact ⟨rfl, rfl, (attT_in HA9.out).chg okA (chgB (by omega) hc HN9.out) (by decide) (by decide)⟩⟩, hx⟩
set_option maxRecDepth 100000 in
set_option maxHeartbeats 16000000 in
theorem fuEncodeDir (a0 b0 e0 : Addr) (B : Nat) (w : World) (v : Value) (d : DiN) (hL : LaidF w a0 b0 e0) (hd : DirIn B w v d) (hB : B <= w.heap.size) (hsm : SmallD d) (hns : NsOk d) :
  Calls Tryz.prog 28 #[v] w (DirP w.heap.size w (fcD d) (fcN d) (fcE d)) := by
 have HD := hQq hd; have HL := hQq hL
 obtain ⟨va, vr, ve, rfl, ha, hr, he⟩ := hd
 have HA := hQq ha; have HR := hQq hr; have HE := hQq he; have HSM := hQq hsm; have HNS := hQq hns
 obtain ⟨a3, cap3, rfl⟩ := ha.form
 obtain ⟨a4, cap4, rfl⟩ := hr.form
 obtain ⟨a5, cap5, rfl⟩ := he.form
 have hlen := hsm.len
 clear ha hr he hsm hns hL
 by_cases e1 : dirE d = 0
 case neg =>
  have HX := hQq (fc_of (fcT_dir e1))
  have q1 : (dirE d != 0) = true := bne_iff_ne.2 e1
  clear e1
  go_enter Tryz.func28, Tryz.ntmps28
  go_wp2_with (go_at_call 78; refine (brCheckDir B _ _ d (HD.out.ext ((eA _ _).trans (eA _ _))) HSM.out).mono ?_; rintro e w1 ⟨rfl, hb1⟩; have q2 : w1.heap[w.heap.size + 1]? = some (.cells #[.slice none 0 0, .bool false, .slice none 0 0, .slice none 0 0] 55 (0, 0)) := bX hb1 (blk_at (by simp)); obtain ⟨r0, r1, r2, r3⟩ := b4C q2; have fz : ∀ j, w1.frozen? ⟨w.heap.size + 1, j, none⟩ = false := fun j => bT q2 j; have Q2 := hQq q2; clear q2; have q1 : w1.heap[w.heap.size]? = some (.cells #[.slice a3 d.ats.length cap3, .bool d.opq, .slice a4 d.red.length cap4, .slice a5 d.ens.length cap5] 55 (0, 0)) := bX hb1 (bA (bN w _)); obtain ⟨k0, k1, k2, k3⟩ := b4C q1; have Q1 := hQq q1; have hz1 := bL q1; have hz2 := bL Q2.out; clear q1; have HB1 := hQq (((eA _ _).trans (eA _ _)).trans hb1); clear hb1)
  refine nW (P := fun W => bodyPost _ _ _ _ _ W) _ ?_
  intro W2 hW2
  obtain ⟨hq, hx, hc⟩ := set4 Q2.out (by omega) HB1.out hW2
  refine bodyPost_ret (v := .tuple #[.agg #[.slice none 0 0, .bool false, .slice none 0 0, .slice none 0 0], .int .i64 (dirN d), .int .i64 (dirE d)]) (by simp [results, Tryz.f28, go_sem, bC hq 0, bC hq 1, bC hq 2, bC hq 3]) rfl ?_
  exact ⟨⟨_, by rw [HX.out.2.1, HX.out.2.2], by rw [HX.out.1]; exact zDir_in _ _⟩, hx⟩
 have q1 : (dirE d != 0) = false := bne_eq_false_iff_eq.2 e1
 have E1 := hQq e1
 clear e1
 go_enter Tryz.func28, Tryz.ntmps28
 go_upto_region 5 with (first
  | (go_at_call 78; refine (brCheckDir B _ _ d (HD.out.ext ((eA _ _).trans (eA _ _))) HSM.out).mono ?_; rintro e w1 ⟨rfl, hb1⟩; have q2 : w1.heap[w.heap.size + 1]? = some (.cells #[.slice none 0 0, .bool false, .slice none 0 0, .slice none 0 0] 55 (0, 0)) := bX hb1 (blk_at (by simp)); obtain ⟨r0, r1, r2, r3⟩ := b4C q2; have fz : ∀ j, w1.frozen? ⟨w.heap.size + 1, j, none⟩ = false := fun j => bT q2 j; have Q2 := hQq q2; clear q2; have q1 : w1.heap[w.heap.size]? = some (.cells #[.slice a3 d.ats.length cap3, .bool d.opq, .slice a4 d.red.length cap4, .slice a5 d.ens.length cap5] 55 (0, 0)) := bX hb1 (bA (bN w _)); obtain ⟨k0, k1, k2, k3⟩ := b4C q1; have Q1 := hQq q1; have hz1 := bL q1; have hz2 := bL Q2.out; clear q1; have HB1 := hQq (((eA _ _).trans (eA _ _)).trans hb1); clear hb1)
  | (go_at_call 79; refine (fuHidesD B _ _ d.ens (HE.out.ext okE HB1.out) (by have := HSM.out.len; omega)).mono ?_; rintro e w2 ⟨rfl, hb2⟩; clear r0 r1 r2 r3 fz k0 k1 k2 k3 hz1 hz2; have q2 : w2.heap[w.heap.size + 1]? = some (.cells #[.slice none 0 0, .bool false, .slice none 0 0, .slice none 0 0] 55 (0, 0)) := bX hb2 Q2.out; obtain ⟨r0, r1, r2, r3⟩ := b4C q2; have fz : ∀ j, w2.frozen? ⟨w.heap.size + 1, j, none⟩ = false := fun j => bT q2 j; have Q2 := hQq q2; clear q2; have q1x := bX hb2 Q1.out; obtain ⟨k0, k1, k2, k3⟩ := b4C q1x; have Q1 := hQq q1x; have hz1 := bL q1x; have hz2 := bL Q2.out; clear q1x; have HB2 := hQq (HB1.out.trans hb2); clear hb2)
  | fail)
 have S1 := Q1
 go_cut [8, 9] (fun l e wx => ∃ W a7 cap7, W = wx /\ l = .slice a7 (mwL 2 d.ats (fuM d.opq (anyW d.ens) d.red 1)).length cap7 /\ e = .int .i64 (mwE 2 d.ats (fuM d.opq (anyW d.ens) d.red 1)) /\ AttT W (.slice a7 (mwL 2 d.ats (fuM d.opq (anyW d.ens) d.red 1)).length cap7) (mwL 2 d.ats (fuM d.opq (anyW d.ens) d.red 1)) /\ Ext w2 W)
 case first =>
  refine wp_region_box Ext (fun _ _ => True) (fegF w.heap.size (.slice a3 d.ats.length cap3) (.slice a4 d.red.length cap4) d.opq (anyW d.ens) d.red (mwE 2 d.ats (fuM d.opq (anyW d.ens) d.red 1)) (mwL 2 d.ats (fuM d.opq (anyW d.ens) d.red 1))) 0 rfl (by kernel_rfl) (by kernel_rfl) (by kernel_rfl) (eD _) trivial (fun _ _ _ => Ext.trans) fegF_mono ?_ ?_
  ·rename_i K1 hK1 J1 K2 hJ1 hK2
   clear hK1 hJ1 hK2 K1 J1
   intro i o a wx z ho hR hG hz hk hp
   have EX : Ext w2 wx := hR
   clear hG hz
   have n1 := eV (show a.eval (.tmp 1) = .pointer (some ⟨w.heap.size, 0, none⟩) from hk 1 (of_decide_eq_true (by kernel_rfl)))
   have n7 := eV (show a.eval (.tmp 7) = .bool (anyW d.ens) from hk 7 (of_decide_eq_true (by kernel_rfl)))
   clear hk
   match i, ho, hp with
   | 0, ho, hp =>
    obtain rfl := oI ho
    clear ho hp
    unfold Oper.wp; go_simp
    exact ⟨_, rfl, rfl, bR _ _⟩
   | 1, ho, hp =>
    obtain rfl := oI ho
    have p29 := eV (show a.eval (.tmp 29) = .pointer (some ⟨w.heap.size, 0, none⟩) from hp 0 _ 29 (by kernel_rfl) rfl rfl)
    have d0 := bC (bX EX S1.out) 0
    clear ho hp
    unfold Oper.wp; go_simp
    exact ⟨_, rfl, rfl, bR _ _⟩
   | 2, ho, hp =>
    obtain rfl := oI ho
    clear ho hp
    unfold Oper.wp; go_simp
    exact ⟨_, rfl, rfl, bR _ _⟩
   | 3, ho, hp =>
    obtain rfl := oI ho
    have p31 := eV (show a.eval (.tmp 31) = .pointer (some ⟨w.heap.size, 1, none⟩) from hp 2 _ 31 (by kernel_rfl) rfl rfl)
    have d1 := bC (bX EX S1.out) 1
    clear ho hp
    unfold Oper.wp; go_simp
    exact ⟨_, rfl, rfl, bR _ _⟩
   | 4, ho, hp =>
    obtain rfl := oI ho
    clear ho hp
    unfold Oper.wp; go_simp
    exact ⟨_, rfl, rfl, bR _ _⟩
   | 5, ho, hp =>
    obtain rfl := oI ho
    have p32 := eV (show a.eval (.tmp 32) = .bool d.opq from hp 3 _ 32 (by kernel_rfl) rfl rfl)
    have p33 := eV (show a.eval (.tmp 33) = .bool (anyW d.ens) from hp 4 _ 33 (by kernel_rfl) rfl rfl)
    clear ho hp
    unfold Oper.wp; go_simp
    refine (fuOpaque d.opq (anyW d.ens) _).mono ?_
    rintro e w5 ⟨rfl, hb5⟩
    exact ⟨_, rfl, rfl, hb5⟩
   | 6, ho, hp =>
    obtain rfl := oI ho
    clear ho hp
    unfold Oper.wp; go_simp
    exact ⟨_, rfl, rfl, bR _ _⟩
   | 7, ho, hp =>
    obtain rfl := oI ho
    have p35 := eV (show a.eval (.tmp 35) = .pointer (some ⟨w.heap.size, 2, none⟩) from hp 6 _ 35 (by kernel_rfl) rfl rfl)
    have d2 := bC (bX EX S1.out) 2
    clear ho hp
    unfold Oper.wp; go_simp
    exact ⟨_, rfl, rfl, bR _ _⟩
   | 8, ho, hp =>
    obtain rfl := oI ho
    have p36 := eV (show a.eval (.tmp 36) = .slice a4 d.red.length cap4 from hp 7 _ 36 (by kernel_rfl) rfl rfl)
    clear ho hp
    unfold Oper.wp; go_simp
    refine (fuRedirect _ d.red _ ((HR.out.ext okS (HB2.out.trans EX)).strs)).mono ?_
    rintro e w5 ⟨rfl, hb5⟩
    exact ⟨_, rfl, rfl, hb5⟩
   | 9, ho, hp =>
    obtain rfl := oI ho
    have p34 := eV (show a.eval (.tmp 34) = .agg #[.string opqW, .string (hidS d.opq (anyW d.ens))] from hp 5 _ 34 (by kernel_rfl) rfl rfl)
    have p37 := eV (show a.eval (.tmp 37) = .agg #[.string reW, .string (redS d.red)] from hp 8 _ 37 (by kernel_rfl) rfl rfl)
    clear ho hp
    unfold Oper.wp; go_simp
    exact ⟨_, rfl, ⟨_, _, rfl, atts_blk (bN wx (.cells #[.string opqW, .string (hidS d.opq (anyW d.ens)), .string reW, .string (redS d.red)] 45)) rfl rfl⟩, eA _ _⟩
   | 10, ho, hp =>
    obtain rfl := oI ho
    have p30 := eV (show a.eval (.tmp 30) = .slice a3 d.ats.length cap3 from hp 1 _ 30 (by kernel_rfl) rfl rfl)
    obtain ⟨ar, cr, e38, f38⟩ : ∃ ar cr, a.eval (.tmp 38) = .slice ar 2 cr /\ AttT wx (.slice ar 2 cr) [(opqW, hidS d.opq (anyW d.ens)), (reW, redS d.red)] := hp 9 _ 38 (by kernel_rfl) rfl rfl
    have p38 := eV e38
    clear e38
    clear ho hp
    unfold Oper.wp; go_simp
    refine (fuWrit2 a0 b0 e0 _ _ d.ats d.opq (anyW d.ens) d.red _ (HL.out.ext (HB2.out.trans EX)) ((HA.out.ext okA (HB2.out.trans EX)).attrs) f38.1 HSM.out.ats).mono ?_
    rintro e w5 ⟨⟨a5, c5, rfl, h5⟩, hb5⟩
    exact ⟨_, rfl, ⟨_, _, rfl, h5⟩, hb5⟩
   | 11, ho, hp =>
    obtain rfl := oI ho
    obtain ⟨ar, cr, e39, f39⟩ : ∃ ar cr, a.eval (.tmp 39) = .tuple #[.slice ar (mwL 2 d.ats (fuM d.opq (anyW d.ens) d.red 1)).length cr, .int .i64 (mwE 2 d.ats (fuM d.opq (anyW d.ens) d.red 1))] /\ AttT wx (.slice ar (mwL 2 d.ats (fuM d.opq (anyW d.ens) d.red 1)).length cr) (mwL 2 d.ats (fuM d.opq (anyW d.ens) d.red 1)) := hp 10 _ 39 (by kernel_rfl) rfl rfl
    have p39 := eV e39
    clear e39
    clear ho hp
    unfold Oper.wp; go_simp
    exact ⟨_, rfl, ⟨_, _, rfl, f39⟩, bR _ _⟩
   | 12, ho, hp =>
    obtain rfl := oI ho
    obtain ⟨ar, cr, e28, f28⟩ : ∃ ar cr, a.eval (.tmp 28) = .tuple #[.slice ar (mwL 2 d.ats (fuM d.opq (anyW d.ens) d.red 1)).length cr, .int .i64 (mwE 2 d.ats (fuM d.opq (anyW d.ens) d.red 1))] /\ AttT wx (.slice ar (mwL 2 d.ats (fuM d.opq (anyW d.ens) d.red 1)).length cr) (mwL 2 d.ats (fuM d.opq (anyW d.ens) d.red 1)) := hp 11 _ 28 (by kernel_rfl) rfl rfl
    have p28 := eV e28
    clear e28
    clear ho hp
    unfold Oper.wp; go_simp
    exact ⟨_, rfl, ⟨_, _, rfl, f28⟩, bR _ _⟩
   | 13, ho, hp =>
    obtain rfl := oI ho
    obtain ⟨ar, cr, e28, f28⟩ : ∃ ar cr, a.eval (.tmp 28) = .tuple #[.slice ar (mwL 2 d.ats (fuM d.opq (anyW d.ens) d.red 1)).length cr, .int .i64 (mwE 2 d.ats (fuM d.opq (anyW d.ens) d.red 1))] /\ AttT wx (.slice ar (mwL 2 d.ats (fuM d.opq (anyW d.ens) d.red 1)).length cr) (mwL 2 d.ats (fuM d.opq (anyW d.ens) d.red 1)) := hp 11 _ 28 (by kernel_rfl) rfl rfl
    have p28 := eV e28
    clear e28
    clear ho hp
    unfold Oper.wp; go_simp
    exact ⟨_, rfl, rfl, bR _ _⟩
   | 14, ho, hp =>
    obtain rfl := oI ho
    obtain ⟨ar, cr, e40, f40⟩ : ∃ ar cr, a.eval (.tmp 40) = .slice ar (mwL 2 d.ats (fuM d.opq (anyW d.ens) d.red 1)).length cr /\ AttT wx (.slice ar (mwL 2 d.ats (fuM d.opq (anyW d.ens) d.red 1)).length cr) (mwL 2 d.ats (fuM d.opq (anyW d.ens) d.red 1)) := hp 12 _ 40 (by kernel_rfl) rfl rfl
    have p40 := eV e40
    clear e40
    clear ho hp
    unfold Oper.wp; go_simp
    exact ⟨_, rfl, ⟨_, _, rfl, f40⟩, bR _ _⟩
   | 15, ho, hp =>
    obtain rfl := oI ho
    have p41 := eV (show a.eval (.tmp 41) = .int .i64 (mwE 2 d.ats (fuM d.opq (anyW d.ens) d.red 1)) from hp 13 _ 41 (by kernel_rfl) rfl rfl)
    clear ho hp
    unfold Oper.wp; go_simp
    exact ⟨_, rfl, rfl, bR _ _⟩
   | i + 16, ho, _ => exact absurd (Array.getElem?_eq_some_iff.1 ho).1 (by simp)
  ·rename_i K1 hK1 J1 K2 hJ1 hK2
   clear hK1 K1
   intro vs wx hR hG hf
   generalize hA : putsA _ _ _ = A1
   obtain ⟨ar, cr, p8, f8⟩ : ∃ ar cr, vs 8 = .slice ar (mwL 2 d.ats (fuM d.opq (anyW d.ens) d.red 1)).length cr /\ AttT wx (.slice ar (mwL 2 d.ats (fuM d.opq (anyW d.ens) d.red 1)).length cr) (mwL 2 d.ats (fuM d.opq (anyW d.ens) d.red 1)) := hf 14 _ 8 rfl rfl
   have p9 : vs 9 = .int .i64 (mwE 2 d.ats (fuM d.opq (anyW d.ens) d.red 1)) := hf 15 _ 9 rfl rfl
   clear hf
   have hA2 := hA.symm.trans (congrArg (fun D => putsA _ D vs) (show dstL _ 16 = [29, 30, 31, 32, 33, 34, 35, 36, 37, 38, 39, 28, 40, 41, 8, 9] by kernel_rfl))
   rw [hA2]
   refine hK2 _ _ ?_
   clear hK2 hA2 hA
   simp only [putsA, List.foldl, Act.put, List.setIfInBounds_toArray, List.set_cons_succ, List.set_cons_zero]
   go_meet
   exact ⟨_, _, _, rfl, p8, p9, f8, hR⟩
 case rest =>
 obtain ⟨w3, a7, cap7, rfl, rfl, rfl, hv3, hb3⟩ := hcut
 clear r0 r1 r2 r3 fz k0 k1 k2 k3 hz1 hz2; have q2 : w3.heap[w.heap.size + 1]? = some (.cells #[.slice none 0 0, .bool false, .slice none 0 0, .slice none 0 0] 55 (0, 0)) := bX hb3 Q2.out; obtain ⟨r0, r1, r2, r3⟩ := b4C q2; have fz : ∀ j, w3.frozen? ⟨w.heap.size + 1, j, none⟩ = false := fun j => bT q2 j; have Q2 := hQq q2; clear q2; have q1x := bX hb3 Q1.out; obtain ⟨k0, k1, k2, k3⟩ := b4C q1x; have Q1 := hQq q1x; have hz1 := bL q1x; have hz2 := bL Q2.out; clear q1x
 have HV3 := hQq hv3; have HB3 := hQq (HB2.out.trans hb3)
 clear hv3 hb3 S1
 by_cases e3 : (mwE 2 d.ats (fuM d.opq (anyW d.ens) d.red 1)) = 0
 case neg =>
  have HX := hQq (fc_of (fcT_ats E1.out e3))
  have q3 : ((mwE 2 d.ats (fuM d.opq (anyW d.ens) d.red 1)) != 0) = true := bne_iff_ne.2 e3
  clear e3
  go_wp2_with fail
  refine nW (P := fun W => bodyPost _ _ _ _ _ W) _ ?_
  intro W2 hW2
  obtain ⟨hq, hx, hc⟩ := set4 Q2.out (by omega) HB3.out hW2
  refine bodyPost_ret (v := .tuple #[.agg #[.slice none 0 0, .bool false, .slice none 0 0, .slice none 0 0], .int .i64 (-1), .int .i64 ((mwE 2 d.ats (fuM d.opq (anyW d.ens) d.red 1)))]) (by simp [results, Tryz.f28, go_sem, bC hq 0, bC hq 1, bC hq 2, bC hq 3]) rfl ?_
  exact ⟨⟨_, by rw [HX.out.2.1, HX.out.2.2], by rw [HX.out.1]; exact zDir_in _ _⟩, hx⟩
 have q3 : ((mwE 2 d.ats (fuM d.opq (anyW d.ens) d.red 1)) != 0) = false := bne_eq_false_iff_eq.2 e3
 have E3 := hQq e3
 clear e3
 go_wp2_with fail
 have HBO : Hid (w.heap.size + 1 < w3.heap.size) := hQq (bL Q2.out)
 have HCH := hQq (fun x (hx : x ∈ d.ens) => small_chk (ens_chk E1.out hx))
 have HST0 : Hid (ODSt w w3.heap.size #[.slice a3 d.ats.length cap3, .bool d.opq, .slice a4 d.red.length cap4, .slice a5 d.ens.length cap5] (.slice a7 (mwL 2 d.ats (fuM d.opq (anyW d.ens) d.red 1)).length cap7) (mwL 2 d.ats (fuM d.opq (anyW d.ens) d.red 1)) false (.slice none 0 0) [] (.slice none 0 0) [] (w3.alloc (.cells #[.slice a7 (mwL 2 d.ats (fuM d.opq (anyW d.ens) d.red 1)).length cap7, .bool false, .slice none 0 0, .slice none 0 0] 55))) := hQq ⟨bA Q1.out, bA Q2.out, bN _ _, OwnL.nil _ _ _, (attT_in HV3.out).ext okA (eA _ _), strIn_nil _ _ _, HB3.out.trans (eA _ _)⟩
 clear r0 r1 r2 r3 fz k0 k1 k2 k3
 go_loopw [51] (fun i w' => ∃ (wi : World) (k : Nat) (ve : Value), wi = w' /\ k <= d.ens.length /\ i = .int .i64 k /\ (∀ j, j < k -> wfE (getE d.ens j) = 0) /\ ODSt w w3.heap.size #[.slice a3 d.ats.length cap3, .bool d.opq, .slice a4 d.red.length cap4, .slice a5 d.ens.length cap5] (.slice a7 (mwL 2 d.ats (fuM d.opq (anyW d.ens) d.red 1)).length cap7) (mwL 2 d.ats (fuM d.opq (anyW d.ens) d.red 1)) false (.slice none 0 0) [] ve ((d.ens.take k).map wfX) wi) (fun i _ => d.ens.length - (intOf i).toNat)
 case atStart => exact ⟨_, 0, _, rfl, Nat.zero_le _, rfl, fun j hj => absurd hj (by omega), HST0.out⟩
 case round =>
  clear HST0
  obtain ⟨wi, k, ve, rfl, hk, rfl, hok, hst⟩ := hrel
  obtain ⟨es, hes⟩ : ∃ es, es = (d.ens.take k).map wfX := ⟨_, rfl⟩
  rw [<- hes] at hst
  have HES := hQq hes
  have HOK := hQq hok; have HST := hQq hst
  clear hes
  obtain ⟨a8, cap8, rfl⟩ := hst.own.form
  obtain ⟨k0, k1, k2, k3⟩ := b4C HST.out.box
  obtain ⟨r0, r1, r2, r3⟩ := b4C HST.out.res
  have fz : ∀ j, wi.frozen? ⟨w.heap.size + 1, j, none⟩ = false := fun j => bT HST.out.res j
  have hb0 := bL HST.out.box
  clear hok hst
  by_cases hlt : k < d.ens.length
  case neg =>
   obtain rfl : k = d.ens.length := by omega
   have HX := hQq (fc_of (fcT_ok E1.out E3.out (by rw [gnT_ok HOK.out])))
   obtain ⟨o0, o1, o2, o3⟩ := b4C HST.out.out
   have HTK : Hid (es = d.ens.map wfX) := hQq (by rw [HES.out, List.take_length])
   go_wp2
   refine nW (P := fun W => bodyPost _ _ _ _ _ W) _ ?_
   intro W2 hW2
   obtain ⟨hq, hx, hc⟩ := set4 HST.out.res (by omega) HST.out.ext hW2
   refine bodyPost_ret (v := .tuple #[.agg #[.slice a7 (mwL 2 d.ats (fuM d.opq (anyW d.ens) d.red 1)).length cap7, .bool false, .slice none 0 0, .slice a8 es.length cap8], .int .i64 (0), .int .i64 (0)]) (by simp [results, Tryz.f28, go_sem, bC hq 0, bC hq 1, bC hq 2, bC hq 3]) rfl ?_
   exact ⟨⟨_, by rw [HX.out.2.1, HX.out.2.2], by rw [HX.out.1]; exact ⟨_, _, _, rfl, HST.out.ats.chg okA (hcB (Nat.le_refl _) hc HST.out.res) (by decide) (by decide), strIn_nil _ _ _, by have h := (HST.out.own.in okE).chg okE (hcB (Nat.le_refl _) hc HST.out.res) (by decide) (by decide); rw [<- HTK.out]; exact h⟩⟩, hx⟩
  obtain ⟨b, off, va, hex, hbx, hva, c0, c1, c2, c3, c4, c5, c6, c7, c8, c9, c10, c11⟩ := (HE.out.ext okE HST.out.ext).en k hlt
  cases hex
  have HVA := hQq (hva.mono okA hB)
  obtain ⟨a6, cap6, rfl⟩ := hva.form
  have HG := hQq (getE_at d.ens k hlt)
  have HMEM := hQq (List.getElem_mem hlt)
  have HTK := hQq (take_mapX (X := wfX) d.ens k hlt)
  rw [<- HES.out] at HTK
  have HSX' := hQq (HCH.out _ (List.getElem_mem hlt)); have HNB' := hQq (HNS.out _ (List.getElem_mem hlt)); have HEN' := hQq (show entX d.opq (lastE d.ens k) (getE d.ens k) = 0 from (dirE_zero E1.out).2.2.2.2.2 k hlt)
  rw [HG.out] at HEN'
  generalize d.ens[k]'hlt = x at c0 c1 c2 c3 c4 c5 c6 c7 c8 c9 c10 c11 HVA HG HMEM HTK HSX' HNB' HEN'
  have HSX := HSX'; have HNB : Hid (x.ns <= 9223372036854775807) := HNB'; have HEN := HEN'
  clear HSX' HNB' HEN'
  have HLN : Hid (es.length <= k) := hQq (by rw [HES.out, List.length_map, List.length_take]; omega)
  have j1 : ((k : Nat) : Int) < (d.ens.length : Int) := by omega
  have j0 : (0 : Int) <= (k : Int) := by omega
  have HNX : Hid (wfE x = 0 -> ∀ j, j < k + 1 -> wfE (getE d.ens j) = 0) := hQq (fun h j hj => by
   by_cases e : j = k
   ·subst e; rw [HG.out]; exact h
   ·exact HOK.out j (by omega))
  have HNE : Hid (∀ n, wfE x = n -> n ≠ 0 -> gnT (wfE) d.ens = ((k : Int), n)) := hQq (fun n hn h => by
   subst hn
   have := gnT_no (E := wfE) hlt HOK.out (by rw [HG.out]; exact h)
   rw [HG.out] at this; exact this)
  obtain ⟨y, hy⟩ : ∃ y, y = wfX x := ⟨_, rfl⟩
  have HY := hQq hy
  clear hva hy
  by_cases e4 : wfE x = 0
  case neg =>
   have HNN := hQq (HNE.out (wfE x) rfl e4)
   have HX := hQq (fc_of (fcT_ent E1.out E3.out HNN.out e4))
   have q4 : (wfE x != 0) = true := bne_iff_ne.2 e4
   clear e4
   go_upto_region 13 with (go_at_call 81; go_loud (refine (fuRaw a0 b0 e0 w.heap.size x _ _ (HL.out.ext (HST.out.ext.trans (eA _ _))) (HVA.out.ext okA (eA _ _)) HSX.out HNB.out (by have := HST.out.ext.size; simp; omega)).mono ?_; rintro e w4 ⟨⟨z, ay, k11, capy, rfl, hz⟩, hb4⟩; unfold deC; have HB4 : Hid (Ext wi w4) := hQq ((eA _ _).trans hb4); have hr2 := bX HB4.out HST.out.res; obtain ⟨r0, r1, r2, r3⟩ := b4C hr2; have fz : ∀ j, w4.frozen? ⟨w.heap.size + 1, j, none⟩ = false := fun j => bT hr2 j; have hrs := bL HST.out.res; clear hb4 hr2))
   refine nW (P := fun W => Code.wp _ _ _ _ W) _ ?_
   intro W hW
   have hW2 : W = w4.alloc (.cells #[.string z.nm, .int .i64 z.nd.dep, .string z.nd.nm, .int .i64 z.nd.kd, .slice ay k11 capy, .string z.nd.dat, .int .i64 z.nd.ma, .int .i64 z.nd.mi, .int .i64 z.nd.cl, .bool z.wh, .bool z.fi, .int .i64 z.ns] 98 (0, 0)) := hW
   have HSA : Hid (Ext wi W) := hQq (by rw [hW2]; exact HB4.out.trans (eA _ _))
   clear hW hW2 c0 c1 c2 c3 c4 c5 c6 c7 c8 c9 c10 c11 k0 k1 k2 k3 r0 r1 r2 r3 fz
   have hr4 := bX HSA.out HST.out.res
   obtain ⟨r0, r1, r2, r3⟩ := b4C hr4
   have fz : ∀ j, W.frozen? ⟨w.heap.size + 1, j, none⟩ = false := fun j => bT hr4 j
   have hrs4 := bL hr4
   have Q4 := hQq hr4
   clear hr4
   go_wp2
   refine nW (P := fun W => bodyPost _ _ _ _ _ W) _ ?_
   intro W2 hW2
   obtain ⟨hq, hx, hc⟩ := set4 Q4.out (by omega) (HST.out.ext.trans HSA.out) hW2
   refine bodyPost_ret (v := .tuple #[.agg #[.slice none 0 0, .bool false, .slice none 0 0, .slice none 0 0], .int .i64 k, .int .i64 (wfE x)]) (by simp [results, Tryz.f28, go_sem, bC hq 0, bC hq 1, bC hq 2, bC hq 3]) rfl ?_
   exact ⟨⟨_, by rw [HX.out.2.1, HX.out.2.2], by rw [HX.out.1]; exact zDir_in _ _⟩, hx⟩
  have q4 : (wfE x != 0) = false := bne_eq_false_iff_eq.2 e4
  have HN := hQq (HNX.out e4)
  have HE4 := hQq e4
  clear e4
  go_upto_region 15 with (go_at_call 81; go_loud (refine (fuRaw a0 b0 e0 w.heap.size x _ _ (HL.out.ext (HST.out.ext.trans (eA _ _))) (HVA.out.ext okA (eA _ _)) HSX.out HNB.out (by have := HST.out.ext.size; simp; omega)).mono ?_; rintro e w4 ⟨⟨z, ay, k11, capy, rfl, hz⟩, hb4⟩; unfold deC; rw [<- HY.out] at hz; obtain ⟨hz1, rfl, ha4⟩ := hz HE4.out; obtain rfl : y = z := hz1.symm; have HA4 := hQq ha4; rw [HE4.out]; clear ha4 hz1; have HB4 : Hid (Ext wi w4) := hQq ((eA _ _).trans hb4); have hr2 := bX HB4.out HST.out.res; obtain ⟨r0, r1, r2, r3⟩ := b4C hr2; have fz : ∀ j, w4.frozen? ⟨w.heap.size + 1, j, none⟩ = false := fun j => bT hr2 j; have hrs := bL HST.out.res; clear hb4 hr2))
  refine nW (P := fun W => Code.wp _ _ _ _ W) _ ?_
  intro W hW
  have hW2 : W = w4.alloc (.cells #[.string y.nm, .int .i64 y.nd.dep, .string y.nd.nm, .int .i64 y.nd.kd, .slice ay y.nd.ats.length capy, .string y.nd.dat, .int .i64 y.nd.ma, .int .i64 y.nd.mi, .int .i64 y.nd.cl, .bool y.wh, .bool y.fi, .int .i64 y.ns] 98 (0, 0)) := hW
  have HXW := hQq (show Ext wi W from by rw [hW2]; exact HB4.out.trans (eA _ _))
  have HQW := hQq (show W.heap[w4.heap.size]? = some (.cells #[.string y.nm, .int .i64 y.nd.dep, .string y.nd.nm, .int .i64 y.nd.kd, .slice ay y.nd.ats.length capy, .string y.nd.dat, .int .i64 y.nd.ma, .int .i64 y.nd.mi, .int .i64 y.nd.cl, .bool y.wh, .bool y.fi, .int .i64 y.ns] 98 (0, 0)) from by rw [hW2]; exact bN _ _)
  have HVY := hQq (show AttIn w.heap.size W (.slice ay y.nd.ats.length capy) y.nd.ats from by rw [hW2]; exact HA4.out.ext okA (eA _ _))
  clear hW hW2 c0 c1 c2 c3 c4 c5 c6 c7 c8 c9 c10 c11 k0 k1 k2 k3 r0 r1 r2 r3 fz
  have o3 := bC (bX HXW.out HST.out.out) 3
  obtain ⟨z0, z1, z2, z3, z4, z5, z6, z7, z8, z9, z10, z11⟩ := b12C HQW.out
  go_wp2_with (at_builtin; go_loud (refine appL okE rfl (.tmp 67) (.tmp 69) rfl (.slice a8 es.length cap8) _ es [y] w _ (by rfl) (by rfl) (by exact (HST.out.up HXW.out).own.ext okE (eA _ _)) (by exact listIn_new okE _ y [.string y.nm, .int .i64 y.nd.dep, .string y.nd.nm, .int .i64 y.nd.kd, .slice ay y.nd.ats.length capy, .string y.nd.dat, .int .i64 y.nd.ma, .int .i64 y.nd.mi, .int .i64 y.nd.cl, .bool y.wh, .bool y.fi, .int .i64 y.ns] _ (by first | rfl | simp) ⟨_, HVY.out, rfl⟩) (by exact (HST.out.up HXW.out).ext.trans (eA _ _)) (by exact ((HST.out.up HXW.out).ext.trans (eA _ _)).size) (by have := HLN.out; simp only [List.length_singleton]; omega) ?_; intro v5 w5 hap; have hou := ODSt.app ((HST.out.up HXW.out).up (eA _ _)) hap; have p3 := bC hou 3; have fp : ∀ j, w5.frozen? ⟨w3.heap.size, j, none⟩ = false := fun j => bT hou j; obtain ⟨a10, cap10, rfl⟩ := hap.own.form; rw [len_snoc] at hap; have HAP := hQq hap; clear hap hou))
  go_roundw
  case rel => exact ⟨_, k + 1, _, rfl, by omega, by go_num, HN.out, by rw [HTK.out, <- HY.out]; exact ((HST.out.up HXW.out).up (eA _ _)).step HAP.out HBO.out⟩
  case measure => first | (simp [intOf]; done) | (simp [intOf]; omega)
set_option maxRecDepth 100000 in
set_option maxHeartbeats 16000000 in
theorem fuNeA (a0 b0 e0 : Addr) (B : Nat) (x : DeN) (va : Value) (h : Bool) (w : World) (hL : LaidF w a0 b0 e0) (hv : AttIn B w va x.nd.ats) (hm : Small x.nd.ats) (hn : x.ns <= 9223372036854775807) (_hB : B <= w.heap.size) (hw : x.wh = true) :
  Calls Tryz.prog 90 #[.agg (deC x va).toArray, .bool h] w (EntX B w (rfX x) (rfE h x)) := by
 have HA := hQq hv; have HM := hQq hm; have HN := hQq hn; have HL := hQq hL
 obtain ⟨a3, cap3, rfl⟩ := hv.form
 clear hv hm hn hL
 unfold deC
 have HWE : Hid (rfE h x = 6) := hQq (rf_bad hw)
 have HWH := hQq hw
 rw [hw]
 clear hw
 go_enter Tryz.func90, Tryz.ntmps90
 go_upto_region 1 with fail
 refine nW (P := fun W => Code.wp _ _ _ _ W) _ ?_
 intro w1 hW
 have hb1 : Ext ((w.alloc (.cells #[.string x.nm, .int .i64 x.nd.dep, .string x.nd.nm, .int .i64 x.nd.kd, .slice a3 x.nd.ats.length cap3, .string x.nd.dat, .int .i64 x.nd.ma, .int .i64 x.nd.mi, .int .i64 x.nd.cl, .bool true, .bool x.fi, .int .i64 x.ns] 98 (0, 0))).alloc (.cells #[.string ⟨#[]⟩, .int .i64 0, .string ⟨#[]⟩, .int .i64 0, .slice none 0 0, .string ⟨#[]⟩, .int .i64 0, .int .i64 0, .int .i64 0, .bool false, .bool false, .int .i64 0] 98 (0, 0))) w1 := by rw [hW]; exact bR _ _
 have QX1 := hQq (bX hb1 (bA (bN w (.cells #[.string x.nm, .int .i64 x.nd.dep, .string x.nd.nm, .int .i64 x.nd.kd, .slice a3 x.nd.ats.length cap3, .string x.nd.dat, .int .i64 x.nd.ma, .int .i64 x.nd.mi, .int .i64 x.nd.cl, .bool true, .bool x.fi, .int .i64 x.ns] 98 (0, 0))))); have QR1 := hQq (bX hb1 (blk_at (w := w.alloc (.cells #[.string x.nm, .int .i64 x.nd.dep, .string x.nd.nm, .int .i64 x.nd.kd, .slice a3 x.nd.ats.length cap3, .string x.nd.dat, .int .i64 x.nd.ma, .int .i64 x.nd.mi, .int .i64 x.nd.cl, .bool true, .bool x.fi, .int .i64 x.ns] 98 (0, 0))) (o := .cells #[.string ⟨#[]⟩, .int .i64 0, .string ⟨#[]⟩, .int .i64 0, .slice none 0 0, .string ⟨#[]⟩, .int .i64 0, .int .i64 0, .int .i64 0, .bool false, .bool false, .int .i64 0] 98 (0, 0)) (n := w.heap.size + 1) (by simp)))
 have EW1 : Hid (Ext w w1) := hQq (((eA _ _).trans (eA _ _)).trans hb1)
 clear hW hb1
 obtain ⟨c0, c1, c2, c3, c4, c5, c6, c7, c8, c9, c10, c11⟩ := b12C QX1.out; have z1 := bL QX1.out
 go_upto_region 2 with fail
 go_cut [5] (fun p wx => p = .int .i64 6 /\ wx.heap[w.heap.size + 1]? = some (.cells #[.string x.nm, .int .i64 x.nd.dep, .string x.nd.nm, .int .i64 x.nd.kd, .slice a3 x.nd.ats.length cap3, .string x.nd.dat, .int .i64 x.nd.ma, .int .i64 x.nd.mi, .int .i64 x.nd.cl, .bool true, .bool x.fi, .int .i64 x.ns] 98 (0, 0)) /\ Ext w wx)
 case first =>
  refine wp_region_inv3 (fderF (.agg #[.string x.nm, .int .i64 x.nd.dep, .string x.nd.nm, .int .i64 x.nd.kd, .slice a3 x.nd.ats.length cap3, .string x.nd.dat, .int .i64 x.nd.ma, .int .i64 x.nd.mi, .int .i64 x.nd.cl, .bool true, .bool x.fi, .int .i64 x.ns]) a0) 3 4 rfl (by kernel_rfl) (by kernel_rfl) fderF_mono ?_ ?_
  ·rename_i K1 hK1 J1 K2 hJ1 hK2
   clear hK1 hJ1 hK2 K1 J1
   intro j o a wx hj ho hE hk hp
   have n2 := eV (show a.eval (.tmp 2) = .pointer (some ⟨w.heap.size, 0, none⟩) from hk 2 (of_decide_eq_true (by kernel_rfl)))
   clear hk
   match j, hj, ho, hp with
   | 0, _, ho, hp =>
    obtain rfl := oI ho
    have qx := bX hE QX1.out
    obtain ⟨d0, d1, d2, d3, d4, d5, d6, d7, d8, d9, d10, d11⟩ := b12C qx
    clear ho hp
    unfold Oper.wp; go_simp; exact ⟨_, rfl, rfl, bR _ _⟩
   | 1, _, ho, hp =>
    obtain rfl := oI ho
    have g0 := (HL.out.ext (EW1.out.trans hE)).f.var
    unfold senV at g0
    clear ho hp
    unfold Oper.wp; go_simp; exact ⟨_, rfl, rfl, bR _ _⟩
   | 2, _, ho, hp =>
    obtain rfl := oI ho
    have p1 := eV (show a.eval (.tmp 19) = .iface 328 (.pointer (some a0)) from hp 1 _ 19 (by kernel_rfl) rfl rfl)
    clear ho hp
    unfold Oper.wp; go_simp
    refine (fuNumF a0 b0 e0 _ (HL.out.ext (EW1.out.trans hE))).mono ?_
    rintro e w5 ⟨rfl, rfl⟩
    exact ⟨_, rfl, rfl, bR _ _⟩
   | j + 3, h, _, _ => exact absurd h (by omega)
  ·rename_i K1 hK1 J1 K2 hJ1 hK2
   clear hK1 K1
   intro vs wx hE hf
   generalize hA : putsA _ _ _ = A1
   have pn : vs 18 = .agg #[.string x.nm, .int .i64 x.nd.dep, .string x.nd.nm, .int .i64 x.nd.kd, .slice a3 x.nd.ats.length cap3, .string x.nd.dat, .int .i64 x.nd.ma, .int .i64 x.nd.mi, .int .i64 x.nd.cl, .bool true, .bool x.fi, .int .i64 x.ns] := hf 0 _ 18 (by omega) rfl rfl
   have pe : vs 20 = .int .i64 6 := hf 2 _ 20 (by omega) rfl rfl
   clear hf
   have hA2 := hA.symm.trans (congrArg (fun D => putsA _ D vs) (show dstL _ 3 = [18, 19, 20] by kernel_rfl))
   have e6 := eV (show A1.eval (.tmp 4) = .pointer (some ⟨w.heap.size + 1, 0, none⟩) by rw [hA2, puts_eval _ _ _ _ (of_decide_eq_true (by kernel_rfl)), if_neg (by decide)]; rfl)
   have en := eV (show A1.eval (.tmp 18) = .agg #[.string x.nm, .int .i64 x.nd.dep, .string x.nd.nm, .int .i64 x.nd.kd, .slice a3 x.nd.ats.length cap3, .string x.nd.dat, .int .i64 x.nd.ma, .int .i64 x.nd.mi, .int .i64 x.nd.cl, .bool true, .bool x.fi, .int .i64 x.ns] by rw [hA2, puts_eval _ _ _ _ (of_decide_eq_true (by kernel_rfl)), if_pos (by decide), pn])
   have ee := eV (show A1.eval (.tmp 20) = .int .i64 6 by rw [hA2, puts_eval _ _ _ _ (of_decide_eq_true (by kernel_rfl)), if_pos (by decide), pe])
   have HA1 := hQq hA2
   clear hA2 hA pn pe
   have QR5 := hQq (bX hE QR1.out); have EX5 := hQq (EW1.out.trans hE)
   clear hE
   obtain ⟨r0, r1, r2, r3, r4, r5, r6, r7, r8, r9, r10, r11⟩ := b12C QR5.out; have fr := fun j => bT QR5.out j; have zr := bL QR5.out
   refine tail_cons rfl ?_
   unfold Oper.wp
   go_simp
   refine tail_cons rfl ?_
   unfold Oper.wp
   go_simp
   unfold tailWp
   rw [HA1.out]
   refine hK2 _ _ ?_
   clear e6 en ee hK2 fr zr r0 r1 r2 r3 r4 r5 r6 r7 r8 r9 r10 r11
   simp only [putsA, List.foldl, Act.put, List.setIfInBounds_toArray, List.set_cons_succ, List.set_cons_zero]
   go_meet
   exact ⟨rfl, (put12 QR5.out (by omega) EX5.out rfl).1, (put12 QR5.out (by omega) EX5.out rfl).2.1⟩
 case rest =>
  obtain ⟨rfl, hq, hx⟩ := hcut
  obtain ⟨r0, r1, r2, r3, r4, r5, r6, r7, r8, r9, r10, r11⟩ := b12C hq
  go_wp2_with fail
  refine bodyPost_ret (v := .tuple #[.agg #[.string x.nm, .int .i64 x.nd.dep, .string x.nd.nm, .int .i64 x.nd.kd, .slice a3 x.nd.ats.length cap3, .string x.nd.dat, .int .i64 x.nd.ma, .int .i64 x.nd.mi, .int .i64 x.nd.cl, .bool true, .bool x.fi, .int .i64 x.ns], .int .i64 6]) (by simp [results, Tryz.f90, go_sem, bC hq 0, bC hq 1, bC hq 2, bC hq 3, bC hq 4, bC hq 5, bC hq 6, bC hq 7, bC hq 8, bC hq 9, bC hq 10, bC hq 11]) rfl ?_
  exact ⟨⟨x, _, _, _, by rw [HWE.out]; unfold deC; rw [HWH.out], fun e => by rw [HWE.out] at e; cases e⟩, hx⟩
set_option maxRecDepth 100000 in
set_option maxHeartbeats 16000000 in
theorem fuNeB (a0 b0 e0 : Addr) (B : Nat) (x : DeN) (va : Value) (h : Bool) (w : World) (hL : LaidF w a0 b0 e0) (hv : AttIn B w va x.nd.ats) (hm : Small x.nd.ats) (hn : x.ns <= 9223372036854775807) (hB : B <= w.heap.size) (hw : x.wh = false) (hf : x.fi = false) :
  Calls Tryz.prog 90 #[.agg (deC x va).toArray, .bool h] w (EntX B w (rfX x) (rfE h x)) := by
 have HA := hQq hv; have HM := hQq hm; have HN := hQq hn; have HL := hQq hL
 obtain ⟨a3, cap3, rfl⟩ := hv.form
 clear hv hm hn hL
 unfold deC
 have HWE := hQq (rf_rest (o := h) hw hf)
 have HWH := hQq hw; have HFI := hQq hf
 rw [hw, hf]
 clear hw hf
 go_enter Tryz.func90, Tryz.ntmps90
 go_upto_region 1 with fail
 refine nW (P := fun W => Code.wp _ _ _ _ W) _ ?_
 intro w1 hW
 have hb1 : Ext ((w.alloc (.cells #[.string x.nm, .int .i64 x.nd.dep, .string x.nd.nm, .int .i64 x.nd.kd, .slice a3 x.nd.ats.length cap3, .string x.nd.dat, .int .i64 x.nd.ma, .int .i64 x.nd.mi, .int .i64 x.nd.cl, .bool false, .bool false, .int .i64 x.ns] 98 (0, 0))).alloc (.cells #[.string ⟨#[]⟩, .int .i64 0, .string ⟨#[]⟩, .int .i64 0, .slice none 0 0, .string ⟨#[]⟩, .int .i64 0, .int .i64 0, .int .i64 0, .bool false, .bool false, .int .i64 0] 98 (0, 0))) w1 := by rw [hW]; exact bR _ _
 have QX1 := hQq (bX hb1 (bA (bN w (.cells #[.string x.nm, .int .i64 x.nd.dep, .string x.nd.nm, .int .i64 x.nd.kd, .slice a3 x.nd.ats.length cap3, .string x.nd.dat, .int .i64 x.nd.ma, .int .i64 x.nd.mi, .int .i64 x.nd.cl, .bool false, .bool false, .int .i64 x.ns] 98 (0, 0))))); have QR1 := hQq (bX hb1 (blk_at (w := w.alloc (.cells #[.string x.nm, .int .i64 x.nd.dep, .string x.nd.nm, .int .i64 x.nd.kd, .slice a3 x.nd.ats.length cap3, .string x.nd.dat, .int .i64 x.nd.ma, .int .i64 x.nd.mi, .int .i64 x.nd.cl, .bool false, .bool false, .int .i64 x.ns] 98 (0, 0))) (o := .cells #[.string ⟨#[]⟩, .int .i64 0, .string ⟨#[]⟩, .int .i64 0, .slice none 0 0, .string ⟨#[]⟩, .int .i64 0, .int .i64 0, .int .i64 0, .bool false, .bool false, .int .i64 0] 98 (0, 0)) (n := w.heap.size + 1) (by simp)))
 have EW1 : Hid (Ext w w1) := hQq (((eA _ _).trans (eA _ _)).trans hb1)
 clear hW hb1
 obtain ⟨c0, c1, c2, c3, c4, c5, c6, c7, c8, c9, c10, c11⟩ := b12C QX1.out; have z1 := bL QX1.out
 obtain ⟨r0, r1, r2, r3, r4, r5, r6, r7, r8, r9, r10, r11⟩ := b12C QR1.out; have fr := fun j => bT QR1.out j; have zr := bL QR1.out
 go_wp2_with fail
 refine nW (P := fun W => bodyPost _ _ _ _ _ W) _ ?_
 intro W2 hW2
 have hW3 : W2 = setL w1 (w.heap.size + 1) 0 [.string x.nm, .int .i64 x.nd.dep, .string x.nd.nm, .int .i64 x.nd.kd, .slice a3 x.nd.ats.length cap3, .string x.nd.dat, .int .i64 x.nd.ma, .int .i64 x.nd.mi, .int .i64 x.nd.cl, .bool false, .bool false, .int .i64 x.ns] := hW2
 obtain ⟨hq, hx, hc⟩ := put12 (w := w) QR1.out (by omega) EW1.out hW3
 refine bodyPost_ret (v := .tuple #[.agg #[.string x.nm, .int .i64 x.nd.dep, .string x.nd.nm, .int .i64 x.nd.kd, .slice a3 x.nd.ats.length cap3, .string x.nd.dat, .int .i64 x.nd.ma, .int .i64 x.nd.mi, .int .i64 x.nd.cl, .bool false, .bool false, .int .i64 x.ns], .int .i64 0]) (by simp [results, Tryz.f90, go_sem, bC hq 0, bC hq 1, bC hq 2, bC hq 3, bC hq 4, bC hq 5, bC hq 6, bC hq 7, bC hq 8, bC hq 9, bC hq 10, bC hq 11]) rfl ?_
 exact ⟨⟨x, _, _, _, by rw [HWE.out.1]; unfold deC; rw [HWH.out, HFI.out], fun _ => by rw [HWE.out.2]; exact ⟨rfl, rfl, (HA.out.ext okA EW1.out).chg okA (chgB (by omega) hc QR1.out) (by decide) (by decide)⟩⟩, hx⟩
set_option maxRecDepth 100000 in
set_option maxHeartbeats 16000000 in
theorem fuNeC (a0 b0 e0 : Addr) (B : Nat) (x : DeN) (va : Value) (h : Bool) (w : World) (hL : LaidF w a0 b0 e0) (hv : AttIn B w va x.nd.ats) (hm : Small x.nd.ats) (hn : x.ns <= 9223372036854775807) (_hB : B <= w.heap.size) (hw : x.wh = false) (hf : x.fi = true) (hp : ptsE 2 x.nd.ats ≠ 0) :
  Calls Tryz.prog 90 #[.agg (deC x va).toArray, .bool h] w (EntX B w (rfX x) (rfE h x)) := by
 have HA := hQq hv; have HM := hQq hm; have HN := hQq hn; have HL := hQq hL
 obtain ⟨a3, cap3, rfl⟩ := hv.form
 clear hv hm hn hL
 unfold deC
 have HWE := hQq (rf_pts (o := h) hw hf hp)
 have HWH := hQq hw; have HFI := hQq hf; have HPN := hQq hp
 have q2 : (ptsE 2 x.nd.ats != 0) = true := bne_iff_ne.2 hp
 rw [hw, hf]
 clear hw hf hp
 go_enter Tryz.func90, Tryz.ntmps90
 go_upto_region 1 with fail
 refine nW (P := fun W => Code.wp _ _ _ _ W) _ ?_
 intro w1 hW
 have hb1 : Ext ((w.alloc (.cells #[.string x.nm, .int .i64 x.nd.dep, .string x.nd.nm, .int .i64 x.nd.kd, .slice a3 x.nd.ats.length cap3, .string x.nd.dat, .int .i64 x.nd.ma, .int .i64 x.nd.mi, .int .i64 x.nd.cl, .bool false, .bool true, .int .i64 x.ns] 98 (0, 0))).alloc (.cells #[.string ⟨#[]⟩, .int .i64 0, .string ⟨#[]⟩, .int .i64 0, .slice none 0 0, .string ⟨#[]⟩, .int .i64 0, .int .i64 0, .int .i64 0, .bool false, .bool false, .int .i64 0] 98 (0, 0))) w1 := by rw [hW]; exact bR _ _
 have QX1 := hQq (bX hb1 (bA (bN w (.cells #[.string x.nm, .int .i64 x.nd.dep, .string x.nd.nm, .int .i64 x.nd.kd, .slice a3 x.nd.ats.length cap3, .string x.nd.dat, .int .i64 x.nd.ma, .int .i64 x.nd.mi, .int .i64 x.nd.cl, .bool false, .bool true, .int .i64 x.ns] 98 (0, 0))))); have QR1 := hQq (bX hb1 (blk_at (w := w.alloc (.cells #[.string x.nm, .int .i64 x.nd.dep, .string x.nd.nm, .int .i64 x.nd.kd, .slice a3 x.nd.ats.length cap3, .string x.nd.dat, .int .i64 x.nd.ma, .int .i64 x.nd.mi, .int .i64 x.nd.cl, .bool false, .bool true, .int .i64 x.ns] 98 (0, 0))) (o := .cells #[.string ⟨#[]⟩, .int .i64 0, .string ⟨#[]⟩, .int .i64 0, .slice none 0 0, .string ⟨#[]⟩, .int .i64 0, .int .i64 0, .int .i64 0, .bool false, .bool false, .int .i64 0] 98 (0, 0)) (n := w.heap.size + 1) (by simp)))
 have EW1 : Hid (Ext w w1) := hQq (((eA _ _).trans (eA _ _)).trans hb1)
 clear hW hb1
 obtain ⟨c0, c1, c2, c3, c4, c5, c6, c7, c8, c9, c10, c11⟩ := b12C QX1.out; have z1 := bL QX1.out
 go_wp2_with fail
 refine (escPartsT 2 _ x.nd.ats _ (HL.out.o.ext EW1.out).laid ((HA.out.ext okA EW1.out).attrs) HM.out).mono ?_
 rintro e w2 ⟨⟨v1, v2, rfl, ho1, ho2⟩, hb2⟩
 skip
 have HO1 := hQq ho1; have HO2 := hQq ho2
 obtain ⟨a6, cap6, rfl, -, -⟩ := ho1.1
 have EW2 := hQq (EW1.out.trans hb2); have QR2 := hQq (bX hb2 QR1.out); have QX2 := hQq (bX hb2 QX1.out)
 clear ho1 ho2 hb2 QR1 QX1 c0 c1 c2 c3 c4 c5 c6 c7 c8 c9 c10 c11 z1
 obtain ⟨c0, c1, c2, c3, c4, c5, c6, c7, c8, c9, c10, c11⟩ := b12C QX2.out; have z1 := bL QX2.out
 obtain ⟨r0, r1, r2, r3, r4, r5, r6, r7, r8, r9, r10, r11⟩ := b12C QR2.out; have fr := fun j => bT QR2.out j; have zr := bL QR2.out
 go_wp2_with fail
 refine nW (P := fun W => bodyPost _ _ _ _ _ W) _ ?_
 intro W2 hW2
 have hW3 : W2 = setL w2 (w.heap.size + 1) 0 [.string x.nm, .int .i64 x.nd.dep, .string x.nd.nm, .int .i64 x.nd.kd, .slice a3 x.nd.ats.length cap3, .string x.nd.dat, .int .i64 x.nd.ma, .int .i64 x.nd.mi, .int .i64 x.nd.cl, .bool false, .bool true, .int .i64 x.ns] := hW2
 obtain ⟨hq, hx, hc⟩ := put12 (w := w) QR2.out (by omega) EW2.out hW3
 refine bodyPost_ret (v := .tuple #[.agg #[.string x.nm, .int .i64 x.nd.dep, .string x.nd.nm, .int .i64 x.nd.kd, .slice a3 x.nd.ats.length cap3, .string x.nd.dat, .int .i64 x.nd.ma, .int .i64 x.nd.mi, .int .i64 x.nd.cl, .bool false, .bool true, .int .i64 x.ns], .int .i64 (ptsE 2 x.nd.ats)]) (by simp [results, Tryz.f90, go_sem, bC hq 0, bC hq 1, bC hq 2, bC hq 3, bC hq 4, bC hq 5, bC hq 6, bC hq 7, bC hq 8, bC hq 9, bC hq 10, bC hq 11]) rfl ?_
 exact ⟨⟨x, _, _, _, by rw [HWE.out]; unfold deC; rw [HWH.out, HFI.out], fun e => by rw [HWE.out] at e; exact absurd e HPN.out⟩, hx⟩
end Go.Proofs.YtimpejaaeinplaaGreatDoor
