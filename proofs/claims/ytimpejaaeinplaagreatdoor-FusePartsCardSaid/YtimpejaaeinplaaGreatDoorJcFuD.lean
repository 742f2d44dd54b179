/- FuD -/
import Derived.Test.YtimpejaaeinplaaGreatDoorJI6
import Derived.Test.YtimpejaaeinplaaGreatDoorJSamB
import Derived.Test.YtimpejaaeinplaaGreatDoorJcFuIs
namespace Go.Proofs.YtimpejaaeinplaaGreatDoor
open Go.RowKit
set_option maxRecDepth 100000 in
set_option maxHeartbeats 16000000 in
theorem fuDecA (a0 b0 e0 : Addr) (B : Nat) (v : Value) (t : List TrN) (i : Nat) (w : World) (hL : LaidF w a0 b0 e0) (hv : TrIn B w v t) (hi : i < t.length) (hte : treeE t = 0) (hsm : ∀ k, k < t.length -> Small (getT t k).ats) (h5 : (getT t i).kd = 5) :
  Calls Tryz.prog 67 #[v, .int .i64 (i : Int), .int .i64 (manyT t (getT t i).cl)] w (FdecP w t i) := by
 obtain ⟨aa, cap, rfl⟩ := hv.form
 have HV := hQq hv
 obtain ⟨bb, off, va, hex, hbx, hva, c0, c1, c2, c3, c4, c5, c6, c7⟩ := hv.tr i hi
 cases hex
 have HVA := hQq hva.attrs
 obtain ⟨a3, cap3, rfl⟩ := hva.form
 have HGT := hQq (getT_at t i hi)
 have HSM := hQq (hsm i hi)
 have HSA := hQq hsm
 generalize t[i]'hi = x at c0 c1 c2 c3 c4 c5 c6 c7 HVA HGT
 rw [HGT.out] at HSM
 have j1 : ((i : Nat) : Int) < (t.length : Int) := by omega
 have j0 : (0 : Int) <= (i : Int) := by omega
 have HL := hQq hL
 have HI := hQq hi; have HTE := hQq hte; have HLE := hQq (show t.length <= 1000000 by have := (treeE_zero hte).2.1; omega)
 clear hv hva hsm hL hte
 rw [HGT.out] at h5 ⊢
 have HE6 : Hid (fdE t i = 6) := hQq (fd_white (by rw [HGT.out]; exact h5))
 have q1 : (x.kd == 5) = true := beq_iff_eq.2 h5
 clear h5
 generalize manyT t x.cl = M
 go_enter Tryz.func67, Tryz.ntmps67
 go_upto_region 3 with fail
 refine nW (P := fun W => Code.wp _ _ _ _ W) _ ?_
 intro W hW
 have hW2 : W = (((w.alloc (.cells #[.slice (some ⟨bb, off, none⟩) t.length cap] 25)).alloc (.cells #[.int .i64 0, .string ⟨#[]⟩, .int .i64 0, .slice none 0 0, .string ⟨#[]⟩, .int .i64 0, .int .i64 0, .int .i64 0, .bool false, .slice none 0 0] 41)).alloc (.cells #[.int .i64 x.dep, .string x.nm, .int .i64 x.kd, .slice a3 x.ats.length cap3, .string x.dat, .int .i64 x.ma, .int .i64 x.mi, .int .i64 x.cl] 43)).alloc (.cells #[.int .i64 x.dep, .string x.nm, .int .i64 x.kd, .slice none 0 0, .string x.dat, .int .i64 x.ma, .int .i64 x.mi, .int .i64 x.cl, .bool false, .slice none 0 0] 41) := hW
 have QB := hQq (show W.heap[w.heap.size]? = some (.cells #[.slice (some ⟨bb, off, none⟩) t.length cap] 25 (0, 0)) from by rw [hW2]; exact bA (bA (bA (bN w _))))
 have QR := hQq (show W.heap[w.heap.size + 1]? = some (.cells #[.int .i64 0, .string ⟨#[]⟩, .int .i64 0, .slice none 0 0, .string ⟨#[]⟩, .int .i64 0, .int .i64 0, .int .i64 0, .bool false, .slice none 0 0] 41 (0, 0)) from by rw [hW2]; exact bA (bA (blk_at (by simp))))
 have QX := hQq (show W.heap[w.heap.size + 2]? = some (.cells #[.int .i64 x.dep, .string x.nm, .int .i64 x.kd, .slice a3 x.ats.length cap3, .string x.dat, .int .i64 x.ma, .int .i64 x.mi, .int .i64 x.cl] 43 (0, 0)) from by rw [hW2]; exact bA (blk_at (by simp)))
 have QN := hQq (show W.heap[w.heap.size + 3]? = some (.cells #[.int .i64 x.dep, .string x.nm, .int .i64 x.kd, .slice none 0 0, .string x.dat, .int .i64 x.ma, .int .i64 x.mi, .int .i64 x.cl, .bool false, .slice none 0 0] 41 (0, 0)) from by rw [hW2]; exact blk_at (by simp))
 have EW := hQq (show Ext w W from by rw [hW2]; exact (((eA _ _).trans (eA _ _)).trans (eA _ _)).trans (eA _ _))
 clear hW hW2 c0 c1 c2 c3 c4 c5 c6 c7
 obtain ⟨cx0, cx1, cx2, cx3, cx4, cx5, cx6, cx7⟩ := b8C QX.out; have zx := bL QX.out
 go_upto_region 4 with fail
 clear cx0 cx1 cx2 cx3 cx4 cx5 cx6 cx7 zx
 go_cut [7] (fun p wx => p = .int .i64 6 /\ wx.heap[w.heap.size + 1]? = some (.cells #[.int .i64 x.dep, .string x.nm, .int .i64 x.kd, .slice none 0 0, .string x.dat, .int .i64 x.ma, .int .i64 x.mi, .int .i64 x.cl, .bool false, .slice none 0 0] 41 (0, 0)) /\ Ext w wx)
 case first =>
  refine wp_region_inv3 (fderF (.agg #[.int .i64 x.dep, .string x.nm, .int .i64 x.kd, .slice none 0 0, .string x.dat, .int .i64 x.ma, .int .i64 x.mi, .int .i64 x.cl, .bool false, .slice none 0 0]) a0) 3 4 rfl (by kernel_rfl) (by kernel_rfl) fderF_mono ?_ ?_
  ·rename_i K1 hK1 J1 K2 hJ1 hK2
   clear hK1 hJ1 hK2 K1 J1
   intro j o a wx hj ho hE hk hp
   have n9 := eV (show a.eval (.tmp 9) = .pointer (some ⟨w.heap.size + 3, 0, none⟩) from hk 9 (of_decide_eq_true (by kernel_rfl)))
   clear hk
   match j, hj, ho, hp with
   | 0, _, ho, hp =>
    obtain rfl := oI ho
    have qx := bX hE QN.out
    obtain ⟨d0, d1, d2, d3, d4, d5, d6, d7, d8, d9⟩ := b10C qx
    clear ho hp
    unfold Oper.wp; go_simp; exact ⟨_, rfl, rfl, bR _ _⟩
   | 1, _, ho, hp =>
    obtain rfl := oI ho
    have g0 := (HL.out.ext (EW.out.trans hE)).f.var
    unfold senV at g0
    clear ho hp
    unfold Oper.wp; go_simp; exact ⟨_, rfl, rfl, bR _ _⟩
   | 2, _, ho, hp =>
    obtain rfl := oI ho
    have p1 := eV (show a.eval (.tmp 47) = .iface 328 (.pointer (some a0)) from hp 1 _ 47 (by kernel_rfl) rfl rfl)
    clear ho hp
    unfold Oper.wp; go_simp
    refine (fuNumF a0 b0 e0 _ (HL.out.ext (EW.out.trans hE))).mono ?_
    rintro e w5 ⟨rfl, rfl⟩
    exact ⟨_, rfl, rfl, bR _ _⟩
   | j + 3, h, _, _ => exact absurd h (by omega)
  ·rename_i K1 hK1 J1 K2 hJ1 hK2
   clear hK1 K1
   intro vs wx hE hf
   generalize hA : putsA _ _ _ = A1
   have pn : vs 46 = .agg #[.int .i64 x.dep, .string x.nm, .int .i64 x.kd, .slice none 0 0, .string x.dat, .int .i64 x.ma, .int .i64 x.mi, .int .i64 x.cl, .bool false, .slice none 0 0] := hf 0 _ 46 (by omega) rfl rfl
   have pe : vs 48 = .int .i64 6 := hf 2 _ 48 (by omega) rfl rfl
   clear hf
   have hA2 := hA.symm.trans (congrArg (fun D => putsA _ D vs) (show dstL _ 3 = [46, 47, 48] by kernel_rfl))
   have e6 := eV (show A1.eval (.tmp 6) = .pointer (some ⟨w.heap.size + 1, 0, none⟩) by rw [hA2, puts_eval _ _ _ _ (of_decide_eq_true (by kernel_rfl)), if_neg (by decide)]; rfl)
   have en := eV (show A1.eval (.tmp 46) = .agg #[.int .i64 x.dep, .string x.nm, .int .i64 x.kd, .slice none 0 0, .string x.dat, .int .i64 x.ma, .int .i64 x.mi, .int .i64 x.cl, .bool false, .slice none 0 0] by rw [hA2, puts_eval _ _ _ _ (of_decide_eq_true (by kernel_rfl)), if_pos (by decide), pn])
   have ee := eV (show A1.eval (.tmp 48) = .int .i64 6 by rw [hA2, puts_eval _ _ _ _ (of_decide_eq_true (by kernel_rfl)), if_pos (by decide), pe])
   have HA := hQq hA2
   clear hA2 hA pn pe
   have QR5 := hQq (bX hE QR.out); have EX5 := hQq (EW.out.trans hE)
   clear hE
   obtain ⟨r0, r1, r2, r3, r4, r5, r6, r7, r8, r9⟩ := b10C QR5.out; have fr := fun j => bT QR5.out j; have zr := bL QR5.out
   refine tail_cons rfl ?_
   unfold Oper.wp
   go_simp
   refine tail_cons rfl ?_
   unfold Oper.wp
   go_simp
   unfold tailWp
   rw [HA.out]
   refine hK2 _ _ ?_
   clear e6 en ee hK2 fr zr r0 r1 r2 r3 r4 r5 r6 r7 r8 r9
   simp only [putsA, List.foldl, Act.put, List.setIfInBounds_toArray, List.set_cons_succ, List.set_cons_zero]
   go_meet
   exact ⟨rfl, (put10 QR5.out (by omega) EX5.out rfl).1, (put10 QR5.out (by omega) EX5.out rfl).2⟩
 case rest =>
  obtain ⟨rfl, hq, hx⟩ := hcut
  clear HVA
  obtain ⟨r0, r1, r2, r3, r4, r5, r6, r7, r8, r9⟩ := b10C hq
  go_wp2_with fail
  refine bodyPost_ret (v := .tuple #[.agg #[.int .i64 x.dep, .string x.nm, .int .i64 x.kd, .slice none 0 0, .string x.dat, .int .i64 x.ma, .int .i64 x.mi, .int .i64 x.cl, .bool false, .slice none 0 0], .int .i64 6]) (by simp [results, Tryz.f67, go_sem, bC hq 0, bC hq 1, bC hq 2, bC hq 3, bC hq 4, bC hq 5, bC hq 6, bC hq 7, bC hq 8, bC hq 9]) rfl ?_
  exact ⟨⟨⟨{ x with ats := [] }, false, []⟩, .slice none 0 0, .slice none 0 0, by rw [HE6.out], ⟨_, _, _, rfl⟩, ⟨_, _, _, rfl⟩, fun h => by rw [HE6.out] at h; cases h⟩, hx⟩
set_option maxRecDepth 100000 in
set_option maxHeartbeats 16000000 in
theorem fuDecB (a0 b0 e0 : Addr) (B : Nat) (v : Value) (t : List TrN) (i : Nat) (w : World) (hL : LaidF w a0 b0 e0) (hv : TrIn B w v t) (hi : i < t.length) (hte : treeE t = 0) (hsm : ∀ k, k < t.length -> Small (getT t k).ats) (h5 : (getT t i).kd ≠ 5) (hp : ptsE 2 (getT t i).ats ≠ 0) :
  Calls Tryz.prog 67 #[v, .int .i64 (i : Int), .int .i64 (manyT t (getT t i).cl)] w (FdecP w t i) := by
 obtain ⟨aa, cap, rfl⟩ := hv.form
 have HV := hQq hv
 obtain ⟨bb, off, va, hex, hbx, hva, c0, c1, c2, c3, c4, c5, c6, c7⟩ := hv.tr i hi
 cases hex
 have HVA := hQq hva.attrs
 obtain ⟨a3, cap3, rfl⟩ := hva.form
 have HGT := hQq (getT_at t i hi)
 have HSM := hQq (hsm i hi)
 have HSA := hQq hsm
 generalize t[i]'hi = x at c0 c1 c2 c3 c4 c5 c6 c7 HVA HGT
 rw [HGT.out] at HSM
 have j1 : ((i : Nat) : Int) < (t.length : Int) := by omega
 have j0 : (0 : Int) <= (i : Int) := by omega
 have HL := hQq hL
 have HI := hQq hi; have HTE := hQq hte; have HLE := hQq (show t.length <= 1000000 by have := (treeE_zero hte).2.1; omega)
 clear hv hva hsm hL hte
 rw [HGT.out] at h5 hp ⊢
 have HE6 : Hid (fdE t i = ptsE 2 x.ats) := hQq (by rw [fd_parts (by rw [HGT.out]; exact h5) (by rw [HGT.out]; exact hp), HGT.out])
 have HPN := hQq hp
 have q1 : (x.kd == 5) = false := nB h5
 have q2 : (ptsE 2 x.ats != 0) = true := bne_iff_ne.2 hp
 clear h5 hp
 generalize manyT t x.cl = M
 go_enter Tryz.func67, Tryz.ntmps67
 go_upto_region 3 with fail
 refine nW (P := fun W => Code.wp _ _ _ _ W) _ ?_
 intro W hW
 have hW2 : W = (((w.alloc (.cells #[.slice (some ⟨bb, off, none⟩) t.length cap] 25)).alloc (.cells #[.int .i64 0, .string ⟨#[]⟩, .int .i64 0, .slice none 0 0, .string ⟨#[]⟩, .int .i64 0, .int .i64 0, .int .i64 0, .bool false, .slice none 0 0] 41)).alloc (.cells #[.int .i64 x.dep, .string x.nm, .int .i64 x.kd, .slice a3 x.ats.length cap3, .string x.dat, .int .i64 x.ma, .int .i64 x.mi, .int .i64 x.cl] 43)).alloc (.cells #[.int .i64 x.dep, .string x.nm, .int .i64 x.kd, .slice none 0 0, .string x.dat, .int .i64 x.ma, .int .i64 x.mi, .int .i64 x.cl, .bool false, .slice none 0 0] 41) := hW
 have QB := hQq (show W.heap[w.heap.size]? = some (.cells #[.slice (some ⟨bb, off, none⟩) t.length cap] 25 (0, 0)) from by rw [hW2]; exact bA (bA (bA (bN w _))))
 have QR := hQq (show W.heap[w.heap.size + 1]? = some (.cells #[.int .i64 0, .string ⟨#[]⟩, .int .i64 0, .slice none 0 0, .string ⟨#[]⟩, .int .i64 0, .int .i64 0, .int .i64 0, .bool false, .slice none 0 0] 41 (0, 0)) from by rw [hW2]; exact bA (bA (blk_at (by simp))))
 have QX := hQq (show W.heap[w.heap.size + 2]? = some (.cells #[.int .i64 x.dep, .string x.nm, .int .i64 x.kd, .slice a3 x.ats.length cap3, .string x.dat, .int .i64 x.ma, .int .i64 x.mi, .int .i64 x.cl] 43 (0, 0)) from by rw [hW2]; exact bA (blk_at (by simp)))
 have QN := hQq (show W.heap[w.heap.size + 3]? = some (.cells #[.int .i64 x.dep, .string x.nm, .int .i64 x.kd, .slice none 0 0, .string x.dat, .int .i64 x.ma, .int .i64 x.mi, .int .i64 x.cl, .bool false, .slice none 0 0] 41 (0, 0)) from by rw [hW2]; exact blk_at (by simp))
 have EW := hQq (show Ext w W from by rw [hW2]; exact (((eA _ _).trans (eA _ _)).trans (eA _ _)).trans (eA _ _))
 clear hW hW2 c0 c1 c2 c3 c4 c5 c6 c7
 obtain ⟨cx0, cx1, cx2, cx3, cx4, cx5, cx6, cx7⟩ := b8C QX.out; have zx := bL QX.out
 go_wp2_with fail
 refine (escPartsT 2 _ x.ats _ (HL.out.o.ext EW.out).laid (HVA.out.ext EW.out) HSM.out).mono ?_
 rintro e w1 ⟨⟨v1, v2, rfl, ho1, ho2⟩, hb1⟩
 have HO1 := hQq ho1; have HO2 := hQq ho2
 obtain ⟨a6, cap6, rfl, -, -⟩ := ho1.1
 have EW1 := hQq (EW.out.trans hb1); have QB1 := hQq (bX hb1 QB.out); have QR1 := hQq (bX hb1 QR.out); have QX1 := hQq (bX hb1 QX.out); have QN1 := hQq (bX hb1 QN.out)
 clear ho1 ho2 hb1 QB QR QX QN
 clear cx0 cx1 cx2 cx3 cx4 cx5 cx6 cx7 zx
 obtain ⟨d0, d1, d2, d3, d4, d5, d6, d7, d8, d9⟩ := b10C QN1.out; have zn := bL QN1.out
 obtain ⟨r0, r1, r2, r3, r4, r5, r6, r7, r8, r9⟩ := b10C QR1.out; have fr := fun j => bT QR1.out j; have zr := bL QR1.out
 go_wp2_with fail
 refine nW (P := fun W => bodyPost _ _ _ _ _ W) _ ?_
 intro W2 hW2
 have hW3 : W2 = setL w1 (w.heap.size + 1) 0 [.int .i64 x.dep, .string x.nm, .int .i64 x.kd, .slice none 0 0, .string x.dat, .int .i64 x.ma, .int .i64 x.mi, .int .i64 x.cl, .bool false, .slice none 0 0] := hW2
 obtain ⟨hq, hx⟩ := put10 (w := w) QR1.out (by omega) EW1.out hW3
 refine bodyPost_ret (v := .tuple #[.agg #[.int .i64 x.dep, .string x.nm, .int .i64 x.kd, .slice none 0 0, .string x.dat, .int .i64 x.ma, .int .i64 x.mi, .int .i64 x.cl, .bool false, .slice none 0 0], .int .i64 (ptsE 2 x.ats)]) (by simp [results, Tryz.f67, go_sem, bC hq 0, bC hq 1, bC hq 2, bC hq 3, bC hq 4, bC hq 5, bC hq 6, bC hq 7, bC hq 8, bC hq 9]) rfl ?_
 exact ⟨⟨⟨{ x with ats := [] }, false, []⟩, .slice none 0 0, .slice none 0 0, by rw [HE6.out], ⟨_, _, _, rfl⟩, ⟨_, _, _, rfl⟩, fun h => by rw [HE6.out] at h; exact absurd h HPN.out⟩, hx⟩
set_option maxRecDepth 100000 in
set_option maxHeartbeats 16000000 in
theorem fuDecC (a0 b0 e0 : Addr) (B : Nat) (v : Value) (t : List TrN) (i : Nat) (w : World) (hL : LaidF w a0 b0 e0) (hv : TrIn B w v t) (hi : i < t.length) (hte : treeE t = 0) (hsm : ∀ k, k < t.length -> Small (getT t k).ats) (h5 : (getT t i).kd ≠ 5) (hp : ptsE 2 (getT t i).ats = 0) (hw : whtB (getT t i) = true) (hh : hidB (getT t i) (manyT t (getT t i).cl) = true) :
  Calls Tryz.prog 67 #[v, .int .i64 (i : Int), .int .i64 (manyT t (getT t i).cl)] w (FdecP w t i) := by
 obtain ⟨aa, cap, rfl⟩ := hv.form
 have HV := hQq hv
 obtain ⟨bb, off, va, hex, hbx, hva, c0, c1, c2, c3, c4, c5, c6, c7⟩ := hv.tr i hi
 cases hex
 have HVA := hQq hva.attrs
 obtain ⟨a3, cap3, rfl⟩ := hva.form
 have HGT := hQq (getT_at t i hi)
 have HSM := hQq (hsm i hi)
 have HSA := hQq hsm
 generalize t[i]'hi = x at c0 c1 c2 c3 c4 c5 c6 c7 HVA HGT
 rw [HGT.out] at HSM
 have j1 : ((i : Nat) : Int) < (t.length : Int) := by omega
 have j0 : (0 : Int) <= (i : Int) := by omega
 have HL := hQq hL
 have HI := hQq hi; have HTE := hQq hte; have HLE := hQq (show t.length <= 1000000 by have := (treeE_zero hte).2.1; omega)
 clear hv hva hsm hL hte
 rw [HGT.out] at h5 hp hw hh ⊢
 have q1 : (x.kd == 5) = false := nB h5
 have HPZ := hQq hp
 have q2 : (ptsE 2 x.ats != 0) = false := bne_eq_false_iff_eq.2 hp
 have HWT : Hid (isM (ptsO 2 x.ats) whW = true) := hQq hw
 have fge := fuGetE
 have HE0 : Hid (fdE t i = 0) := hQq (by rw [fd_hid (by rw [HGT.out]; exact h5) (by rw [HGT.out]; exact hp) (by rw [HGT.out]; exact hw), HGT.out, if_pos hh])
 have HX0 : Hid (fdX t i = ⟨⟨x.dep, x.nm, 5, [], ⟨#[]⟩, 0, 0, 0⟩, false, []⟩) := hQq (by rw [fd_wx (by rw [HGT.out]; exact hw), HGT.out])
 have HHB := hQq hh
 clear h5 hp hw hh
 generalize manyT t x.cl = M at HHB
 go_enter Tryz.func67, Tryz.ntmps67
 go_upto_region 3 with fail
 refine nW (P := fun W => Code.wp _ _ _ _ W) _ ?_
 intro W hW
 have hW2 : W = (((w.alloc (.cells #[.slice (some ⟨bb, off, none⟩) t.length cap] 25)).alloc (.cells #[.int .i64 0, .string ⟨#[]⟩, .int .i64 0, .slice none 0 0, .string ⟨#[]⟩, .int .i64 0, .int .i64 0, .int .i64 0, .bool false, .slice none 0 0] 41)).alloc (.cells #[.int .i64 x.dep, .string x.nm, .int .i64 x.kd, .slice a3 x.ats.length cap3, .string x.dat, .int .i64 x.ma, .int .i64 x.mi, .int .i64 x.cl] 43)).alloc (.cells #[.int .i64 x.dep, .string x.nm, .int .i64 x.kd, .slice none 0 0, .string x.dat, .int .i64 x.ma, .int .i64 x.mi, .int .i64 x.cl, .bool false, .slice none 0 0] 41) := hW
 have QB := hQq (show W.heap[w.heap.size]? = some (.cells #[.slice (some ⟨bb, off, none⟩) t.length cap] 25 (0, 0)) from by rw [hW2]; exact bA (bA (bA (bN w _))))
 have QR := hQq (show W.heap[w.heap.size + 1]? = some (.cells #[.int .i64 0, .string ⟨#[]⟩, .int .i64 0, .slice none 0 0, .string ⟨#[]⟩, .int .i64 0, .int .i64 0, .int .i64 0, .bool false, .slice none 0 0] 41 (0, 0)) from by rw [hW2]; exact bA (bA (blk_at (by simp))))
 have QX := hQq (show W.heap[w.heap.size + 2]? = some (.cells #[.int .i64 x.dep, .string x.nm, .int .i64 x.kd, .slice a3 x.ats.length cap3, .string x.dat, .int .i64 x.ma, .int .i64 x.mi, .int .i64 x.cl] 43 (0, 0)) from by rw [hW2]; exact bA (blk_at (by simp)))
 have QN := hQq (show W.heap[w.heap.size + 3]? = some (.cells #[.int .i64 x.dep, .string x.nm, .int .i64 x.kd, .slice none 0 0, .string x.dat, .int .i64 x.ma, .int .i64 x.mi, .int .i64 x.cl, .bool false, .slice none 0 0] 41 (0, 0)) from by rw [hW2]; exact blk_at (by simp))
 have EW := hQq (show Ext w W from by rw [hW2]; exact (((eA _ _).trans (eA _ _)).trans (eA _ _)).trans (eA _ _))
 clear hW hW2 c0 c1 c2 c3 c4 c5 c6 c7
 obtain ⟨cx0, cx1, cx2, cx3, cx4, cx5, cx6, cx7⟩ := b8C QX.out; have zx := bL QX.out
 go_wp2_with fail
 refine (escPartsT 2 _ x.ats _ (HL.out.o.ext EW.out).laid (HVA.out.ext EW.out) HSM.out).mono ?_
 rintro e w1 ⟨⟨v1, v2, rfl, ho1, ho2⟩, hb1⟩
 have HO1 := hQq ho1; have HO2 := hQq ho2
 obtain ⟨a6, cap6, rfl, -, -⟩ := ho1.1
 have EW1 := hQq (EW.out.trans hb1); have QB1 := hQq (bX hb1 QB.out); have QR1 := hQq (bX hb1 QR.out); have QX1 := hQq (bX hb1 QX.out); have QN1 := hQq (bX hb1 QN.out)
 clear ho1 ho2 hb1 QB QR QX QN
 clear cx0 cx1 cx2 cx3 cx4 cx5 cx6 cx7 zx
 go_wp2_with fail
 refine (fuGet _ (ptsO 2 x.ats) whW _ (HO2.out.1) (oS2 _)).mono ?_
 rintro e w2 ⟨rfl, hb⟩
 rw [HWT.out]
 have EW2 := hQq (EW1.out.trans hb); have QB2 := hQq (bX hb QB1.out); have QR2 := hQq (bX hb QR1.out); have QX2 := hQq (bX hb QX1.out); have QN2 := hQq (bX hb QN1.out)
 have EP2 := hQq (hb)
 clear hb QB1 QR1 QX1 QN1
 obtain ⟨cx0, cx1, cx2, cx3, cx4, cx5, cx6, cx7⟩ := b8C QX2.out; have zx := bL QX2.out
 go_wp2_with fail
 refine (fuHidden x _ _ _ M _ ⟨_, _, _, rfl⟩ ⟨_, _, rfl⟩ (HO2.out.1.ext EP2.out)).mono ?_
 rintro e w3 ⟨rfl, hb⟩
 rw [HHB.out]
 have EW3 := hQq (EW2.out.trans hb); have QR3 := hQq (bX hb QR2.out); have QX3 := hQq (bX hb QX2.out); have QN3 := hQq (bX hb QN2.out)
 clear hb cx0 cx1 cx2 cx3 cx4 cx5 cx6 cx7 zx
 obtain ⟨cx0, cx1, cx2, cx3, cx4, cx5, cx6, cx7⟩ := b8C QX3.out; have zx := bL QX3.out
 obtain ⟨r0, r1, r2, r3, r4, r5, r6, r7, r8, r9⟩ := b10C QR3.out; have fr := fun j => bT QR3.out j; have zr := bL QR3.out
 go_wp2_with fail
 refine nW (P := fun W => bodyPost _ _ _ _ _ W) _ ?_
 intro W2 hW2
 have hW3 : W2 = setL w3 (w.heap.size + 1) 0 [.int .i64 x.dep, .string x.nm, .int .i64 5, .slice none 0 0, .string ⟨#[]⟩, .int .i64 0, .int .i64 0, .int .i64 0, .bool false, .slice none 0 0] := hW2
 obtain ⟨hq, hx⟩ := put10 (w := w) QR3.out (by omega) EW3.out hW3
 refine bodyPost_ret (v := .tuple #[.agg #[.int .i64 x.dep, .string x.nm, .int .i64 5, .slice none 0 0, .string ⟨#[]⟩, .int .i64 0, .int .i64 0, .int .i64 0, .bool false, .slice none 0 0], .int .i64 0]) (by simp [results, Tryz.f67, go_sem, bC hq 0, bC hq 1, bC hq 2, bC hq 3, bC hq 4, bC hq 5, bC hq 6, bC hq 7, bC hq 8, bC hq 9]) rfl ?_
 exact ⟨⟨⟨⟨x.dep, x.nm, 5, [], ⟨#[]⟩, 0, 0, 0⟩, false, []⟩, .slice none 0 0, .slice none 0 0, by rw [HE0.out], ⟨_, _, _, rfl⟩, ⟨_, _, _, rfl⟩, fun _ => ⟨HX0.out.symm, AttT.nil _ _ _ (aA.nil _ _ _), strIn_nil _ _ _⟩⟩, hx⟩
set_option maxRecDepth 100000 in
set_option maxHeartbeats 16000000 in
theorem fuDecN (a0 b0 e0 : Addr) (B : Nat) (v : Value) (t : List TrN) (i : Nat) (w : World) (hL : LaidF w a0 b0 e0) (hv : TrIn B w v t) (hi : i < t.length) (hte : treeE t = 0) (hsm : ∀ k, k < t.length -> Small (getT t k).ats) (h5 : (getT t i).kd ≠ 5) (hp : ptsE 2 (getT t i).ats = 0) (hw : whtB (getT t i) = true) (hh : hidB (getT t i) (manyT t (getT t i).cl) = false) :
  Calls Tryz.prog 67 #[v, .int .i64 (i : Int), .int .i64 (manyT t (getT t i).cl)] w (FdecP w t i) := by
 obtain ⟨aa, cap, rfl⟩ := hv.form
 have HV := hQq hv
 obtain ⟨bb, off, va, hex, hbx, hva, c0, c1, c2, c3, c4, c5, c6, c7⟩ := hv.tr i hi
 cases hex
 have HVA := hQq hva.attrs
 obtain ⟨a3, cap3, rfl⟩ := hva.form
 have HGT := hQq (getT_at t i hi)
 have HSM := hQq (hsm i hi)
 have HSA := hQq hsm
 generalize t[i]'hi = x at c0 c1 c2 c3 c4 c5 c6 c7 HVA HGT
 rw [HGT.out] at HSM
 have j1 : ((i : Nat) : Int) < (t.length : Int) := by omega
 have j0 : (0 : Int) <= (i : Int) := by omega
 have HL := hQq hL
 have HI := hQq hi; have HTE := hQq hte; have HLE := hQq (show t.length <= 1000000 by have := (treeE_zero hte).2.1; omega)
 clear hv hva hsm hL hte
 rw [HGT.out] at h5 hp hw hh ⊢
 have q1 : (x.kd == 5) = false := nB h5
 have HPZ := hQq hp
 have q2 : (ptsE 2 x.ats != 0) = false := bne_eq_false_iff_eq.2 hp
 have HWT : Hid (isM (ptsO 2 x.ats) whW = true) := hQq hw
 have fge := fuGetE
 have HE6 : Hid (fdE t i = 6) := hQq (by rw [fd_hid (by rw [HGT.out]; exact h5) (by rw [HGT.out]; exact hp) (by rw [HGT.out]; exact hw), HGT.out, if_neg (by rw [hh]; exact Bool.false_ne_true)])
 have HHB := hQq hh
 clear h5 hp hw hh
 generalize manyT t x.cl = M at HHB
 go_enter Tryz.func67, Tryz.ntmps67
 go_upto_region 3 with fail
 refine nW (P := fun W => Code.wp _ _ _ _ W) _ ?_
 intro W hW
 have hW2 : W = (((w.alloc (.cells #[.slice (some ⟨bb, off, none⟩) t.length cap] 25)).alloc (.cells #[.int .i64 0, .string ⟨#[]⟩, .int .i64 0, .slice none 0 0, .string ⟨#[]⟩, .int .i64 0, .int .i64 0, .int .i64 0, .bool false, .slice none 0 0] 41)).alloc (.cells #[.int .i64 x.dep, .string x.nm, .int .i64 x.kd, .slice a3 x.ats.length cap3, .string x.dat, .int .i64 x.ma, .int .i64 x.mi, .int .i64 x.cl] 43)).alloc (.cells #[.int .i64 x.dep, .string x.nm, .int .i64 x.kd, .slice none 0 0, .string x.dat, .int .i64 x.ma, .int .i64 x.mi, .int .i64 x.cl, .bool false, .slice none 0 0] 41) := hW
 have QB := hQq (show W.heap[w.heap.size]? = some (.cells #[.slice (some ⟨bb, off, none⟩) t.length cap] 25 (0, 0)) from by rw [hW2]; exact bA (bA (bA (bN w _))))
 have QR := hQq (show W.heap[w.heap.size + 1]? = some (.cells #[.int .i64 0, .string ⟨#[]⟩, .int .i64 0, .slice none 0 0, .string ⟨#[]⟩, .int .i64 0, .int .i64 0, .int .i64 0, .bool false, .slice none 0 0] 41 (0, 0)) from by rw [hW2]; exact bA (bA (blk_at (by simp))))
 have QX := hQq (show W.heap[w.heap.size + 2]? = some (.cells #[.int .i64 x.dep, .string x.nm, .int .i64 x.kd, .slice a3 x.ats.length cap3, .string x.dat, .int .i64 x.ma, .int .i64 x.mi, .int .i64 x.cl] 43 (0, 0)) from by rw [hW2]; exact bA (blk_at (by simp)))
 have QN := hQq (show W.heap[w.heap.size + 3]? = some (.cells #[.int .i64 x.dep, .string x.nm, .int .i64 x.kd, .slice none 0 0, .string x.dat, .int .i64 x.ma, .int .i64 x.mi, .int .i64 x.cl, .bool false, .slice none 0 0] 41 (0, 0)) from by rw [hW2]; exact blk_at (by simp))
 have EW := hQq (show Ext w W from by rw [hW2]; exact (((eA _ _).trans (eA _ _)).trans (eA _ _)).trans (eA _ _))
 clear hW hW2 c0 c1 c2 c3 c4 c5 c6 c7
 obtain ⟨cx0, cx1, cx2, cx3, cx4, cx5, cx6, cx7⟩ := b8C QX.out; have zx := bL QX.out
 go_wp2_with fail
 refine (escPartsT 2 _ x.ats _ (HL.out.o.ext EW.out).laid (HVA.out.ext EW.out) HSM.out).mono ?_
 rintro e w1 ⟨⟨v1, v2, rfl, ho1, ho2⟩, hb1⟩
 have HO1 := hQq ho1; have HO2 := hQq ho2
 obtain ⟨a6, cap6, rfl, -, -⟩ := ho1.1
 have EW1 := hQq (EW.out.trans hb1); have QB1 := hQq (bX hb1 QB.out); have QR1 := hQq (bX hb1 QR.out); have QX1 := hQq (bX hb1 QX.out); have QN1 := hQq (bX hb1 QN.out)
 clear ho1 ho2 hb1 QB QR QX QN
 clear cx0 cx1 cx2 cx3 cx4 cx5 cx6 cx7 zx
 go_wp2_with fail
 refine (fuGet _ (ptsO 2 x.ats) whW _ (HO2.out.1) (oS2 _)).mono ?_
 rintro e w2 ⟨rfl, hb⟩
 rw [HWT.out]
 have EW2 := hQq (EW1.out.trans hb); have QB2 := hQq (bX hb QB1.out); have QR2 := hQq (bX hb QR1.out); have QX2 := hQq (bX hb QX1.out); have QN2 := hQq (bX hb QN1.out)
 have EP2 := hQq (hb)
 clear hb QB1 QR1 QX1 QN1
 obtain ⟨cx0, cx1, cx2, cx3, cx4, cx5, cx6, cx7⟩ := b8C QX2.out; have zx := bL QX2.out
 go_wp2_with fail
 refine (fuHidden x _ _ _ M _ ⟨_, _, _, rfl⟩ ⟨_, _, rfl⟩ (HO2.out.1.ext EP2.out)).mono ?_
 rintro e w3 ⟨rfl, hb⟩
 rw [HHB.out]
 have EW3 := hQq (EW2.out.trans hb); have QR3 := hQq (bX hb QR2.out); have QX3 := hQq (bX hb QX2.out); have QN3 := hQq (bX hb QN2.out)
 clear hb cx0 cx1 cx2 cx3 cx4 cx5 cx6 cx7 zx
 go_upto_region 12 with fail
 go_cut [7] (fun p wx => p = .int .i64 6 /\ wx.heap[w.heap.size + 1]? = some (.cells #[.int .i64 x.dep, .string x.nm, .int .i64 x.kd, .slice none 0 0, .string x.dat, .int .i64 x.ma, .int .i64 x.mi, .int .i64 x.cl, .bool false, .slice none 0 0] 41 (0, 0)) /\ Ext w wx)
 case first =>
  refine wp_region_inv3 (fderF (.agg #[.int .i64 x.dep, .string x.nm, .int .i64 x.kd, .slice none 0 0, .string x.dat, .int .i64 x.ma, .int .i64 x.mi, .int .i64 x.cl, .bool false, .slice none 0 0]) a0) 3 4 rfl (by kernel_rfl) (by kernel_rfl) fderF_mono ?_ ?_
  ·rename_i K1 hK1 J1 K2 hJ1 hK2
   clear hK1 hJ1 hK2 K1 J1
   intro j o a wx hj ho hE hk hp
   have n9 := eV (show a.eval (.tmp 9) = .pointer (some ⟨w.heap.size + 3, 0, none⟩) from hk 9 (of_decide_eq_true (by kernel_rfl)))
   clear hk
   match j, hj, ho, hp with
   | 0, _, ho, hp =>
    obtain rfl := oI ho
    have qx := bX hE QN3.out
    obtain ⟨d0, d1, d2, d3, d4, d5, d6, d7, d8, d9⟩ := b10C qx
    clear ho hp
    unfold Oper.wp; go_simp; exact ⟨_, rfl, rfl, bR _ _⟩
   | 1, _, ho, hp =>
    obtain rfl := oI ho
    have g0 := (HL.out.ext (EW3.out.trans hE)).f.var
    unfold senV at g0
    clear ho hp
    unfold Oper.wp; go_simp; exact ⟨_, rfl, rfl, bR _ _⟩
   | 2, _, ho, hp =>
    obtain rfl := oI ho
    have p1 := eV (show a.eval (.tmp 75) = .iface 328 (.pointer (some a0)) from hp 1 _ 75 (by kernel_rfl) rfl rfl)
    clear ho hp
    unfold Oper.wp; go_simp
    refine (fuNumF a0 b0 e0 _ (HL.out.ext (EW3.out.trans hE))).mono ?_
    rintro e w5 ⟨rfl, rfl⟩
    exact ⟨_, rfl, rfl, bR _ _⟩
   | j + 3, h, _, _ => exact absurd h (by omega)
  ·rename_i K1 hK1 J1 K2 hJ1 hK2
   clear hK1 K1
   intro vs wx hE hf
   generalize hA : putsA _ _ _ = A1
   have pn : vs 74 = .agg #[.int .i64 x.dep, .string x.nm, .int .i64 x.kd, .slice none 0 0, .string x.dat, .int .i64 x.ma, .int .i64 x.mi, .int .i64 x.cl, .bool false, .slice none 0 0] := hf 0 _ 74 (by omega) rfl rfl
   have pe : vs 76 = .int .i64 6 := hf 2 _ 76 (by omega) rfl rfl
   clear hf
   have hA2 := hA.symm.trans (congrArg (fun D => putsA _ D vs) (show dstL _ 3 = [74, 75, 76] by kernel_rfl))
   have e6 := eV (show A1.eval (.tmp 6) = .pointer (some ⟨w.heap.size + 1, 0, none⟩) by rw [hA2, puts_eval _ _ _ _ (of_decide_eq_true (by kernel_rfl)), if_neg (by decide)]; rfl)
   have en := eV (show A1.eval (.tmp 74) = .agg #[.int .i64 x.dep, .string x.nm, .int .i64 x.kd, .slice none 0 0, .string x.dat, .int .i64 x.ma, .int .i64 x.mi, .int .i64 x.cl, .bool false, .slice none 0 0] by rw [hA2, puts_eval _ _ _ _ (of_decide_eq_true (by kernel_rfl)), if_pos (by decide), pn])
   have ee := eV (show A1.eval (.tmp 76) = .int .i64 6 by rw [hA2, puts_eval _ _ _ _ (of_decide_eq_true (by kernel_rfl)), if_pos (by decide), pe])
   have HA := hQq hA2
   clear hA2 hA pn pe
   have QR5 := hQq (bX hE QR3.out); have EX5 := hQq (EW3.out.trans hE)
   clear hE
   obtain ⟨r0, r1, r2, r3, r4, r5, r6, r7, r8, r9⟩ := b10C QR5.out; have fr := fun j => bT QR5.out j; have zr := bL QR5.out
   refine tail_cons rfl ?_
   unfold Oper.wp
   go_simp
   refine tail_cons rfl ?_
   unfold Oper.wp
   go_simp
   unfold tailWp
   rw [HA.out]
   refine hK2 _ _ ?_
   clear e6 en ee hK2 fr zr r0 r1 r2 r3 r4 r5 r6 r7 r8 r9
   simp only [putsA, List.foldl, Act.put, List.setIfInBounds_toArray, List.set_cons_succ, List.set_cons_zero]
   go_meet
   exact ⟨rfl, (put10 QR5.out (by omega) EX5.out rfl).1, (put10 QR5.out (by omega) EX5.out rfl).2⟩
 case rest =>
  obtain ⟨rfl, hq, hx⟩ := hcut
  clear HVA
  obtain ⟨r0, r1, r2, r3, r4, r5, r6, r7, r8, r9⟩ := b10C hq
  go_wp2_with fail
  refine bodyPost_ret (v := .tuple #[.agg #[.int .i64 x.dep, .string x.nm, .int .i64 x.kd, .slice none 0 0, .string x.dat, .int .i64 x.ma, .int .i64 x.mi, .int .i64 x.cl, .bool false, .slice none 0 0], .int .i64 6]) (by simp [results, Tryz.f67, go_sem, bC hq 0, bC hq 1, bC hq 2, bC hq 3, bC hq 4, bC hq 5, bC hq 6, bC hq 7, bC hq 8, bC hq 9]) rfl ?_
  exact ⟨⟨⟨{ x with ats := [] }, false, []⟩, .slice none 0 0, .slice none 0 0, by rw [HE6.out], ⟨_, _, _, rfl⟩, ⟨_, _, _, rfl⟩, fun h => by rw [HE6.out] at h; cases h⟩, hx⟩
end Go.Proofs.YtimpejaaeinplaaGreatDoor
