/- FuE FuDf -/
import Derived.Test.YtimpejaaeinplaaGreatDoorJI6
import Derived.Test.YtimpejaaeinplaaGreatDoorJSamB
import Derived.Test.YtimpejaaeinplaaGreatDoorJcFuIs
namespace Go.Proofs.YtimpejaaeinplaaGreatDoor
open Go.RowKit
set_option maxRecDepth 100000 in
set_option maxHeartbeats 16000000 in
theorem fuEncode (a0 b0 c0 : Addr) (B : Nat) (w : World) (v : Value) (b : List BrN) (hL : LaidF w a0 b0 c0) (hb : BrIn B w v b) (hsm : SmallB b) :
  Calls Tryz.prog 13 #[v] w (FencP w b) := by
 obtain ⟨aa, cap, rfl⟩ := hb.form
 have HV := hQq hb; have HL := hQq hL; have HSM := hQq hsm
 have hlen := hsm.len
 clear hb hL hsm
 have HB0 := hQq (eA w (.cells #[.slice aa b.length cap] 22))
 have HQ0 := hQq (bN w (.cells #[.slice aa b.length cap] 22 (0, 0)))
 by_cases he : brEr b = 0
 case neg =>
  have HR := hQq (fe_of (gen_br (E := feE b) (X := feX b) he))
  have q1 : (brEr b != 0) = true := bne_iff_ne.2 he
  clear he
  go_enter Tryz.func13, Tryz.ntmps13
  go_wp2_with (go_at_call 49; refine (brCheck B _ _ b (HV.out.ext okB HB0.out) HSM.out).mono ?_; rintro e w1 ⟨rfl, hb1⟩; have HB1 := hQq (Ext.trans HB0.out hb1); clear hb1)
  go_ret3
  exact ⟨⟨w.heap.size, none, 0, 0, Nat.le_refl _, by rw [HR.out.2.1, HR.out.2.2]; rfl, by rw [HR.out.1]; exact OwnL.nil _ _ _⟩, HB1.out⟩
 have HE0 := hQq he
 have HSA := hQq (fun k hk => small_br he (k := k) hk)
 have q1 : (brEr b != 0) = false := bne_eq_false_iff_eq.2 he
 have HPL := hQq (plT_len b)
 clear he
 go_enter Tryz.func13, Tryz.ntmps13
 go_wp2_with (first
  | (go_at_call 49; refine (brCheck B _ _ b (HV.out.ext okB HB0.out) HSM.out).mono ?_; rintro e w1 ⟨rfl, hb1⟩; have HB1 := hQq (Ext.trans HB0.out hb1); have HQ1 := hQq (bX hb1 HQ0.out); have bx1 := bC HQ1.out 0; clear hb1)
  | (go_at_call 50; refine (brTree B _ _ b (HV.out.ext okB HB1.out) hlen HSM.out.ats).mono ?_; rintro e w2 ⟨⟨a5, cap5, rfl, ho⟩, hb2⟩; have HO := hQq ho; have HB2 := hQq (Ext.trans HB1.out hb2); have HQ2 := hQq (bX hb2 HQ1.out); clear ho hb2)
  | (go_at_call 51; refine (fuNames w1.heap.size _ (plT b) _ (HO.out.in okT) (by rw [HPL.out]; omega)).mono ?_; rintro e w3 ⟨⟨bm, nm, rfl, hm, hbm⟩, hb3⟩; have HM := hQq hm; have HT3 := hQq ((HO.out.in okT).ext okT hb3); have HB3 := hQq (Ext.trans HB2.out hb3); have HV3 := hQq (HV.out.ext okB HB3.out); have HQ3 := hQq (bX hb3 HQ2.out); clear hm hbm hb3)
  | fail)
 clear HQ0 HQ1 HQ2 bx1
 go_loopw [2, 28] (fun o c w' => ∃ (wi : World) (k : Nat), wi = w' /\ k <= b.length /\ c = .int .i64 k /\ OwnL cdT w3.heap.size wi o ((List.range k).map (feX b)) /\ (∀ j, j < k -> feE b j = 0) /\ Ext w3 wi) (fun _ c _ => b.length - (intOf c).toNat)
 case atStart => exact ⟨_, 0, rfl, Nat.zero_le _, rfl, OwnL.nil _ _ _, fun j hj => absurd hj (by omega), bR _ _⟩
 case round =>
  obtain ⟨wi, k, rfl, hk, rfl, ho, hok, hE⟩ := hrel
  have HO5 := hQq ho; have HE := hQq hE; have HOK := hQq hok
  obtain ⟨a7, cap7, rfl⟩ := ho.form
  have HQK : Hid (((List.range k).map (feX b)).length = k) := hQq (by simp)
  clear hok ho
  rw [HQK.out] at HO5 ⊢
  by_cases hlt : k < b.length
  case neg =>
   obtain rfl : k = b.length := by omega
   have HR := hQq (fe_of (gen_ok (E := feE b) (X := feX b) HE0.out HOK.out))
   clear hE
   go_wp2
   go_ret3
   exact ⟨⟨w3.heap.size, _, _, _, HB3.out.size, by rw [HR.out.2.1, HR.out.2.2]; rfl, by rw [HR.out.1]; exact HO5.out⟩, HB3.out.trans HE.out⟩
  have HVI := hQq (HV3.out.ext okB HE.out)
  have HTI := hQq (HT3.out.ext okT HE.out)
  have HQI := hQq (bX HE.out HQ3.out)
  obtain ⟨bb, off, va, vr, hex, hbx, hva, hvr, c0, c1, c2, c3, c4, c5, c6, c7, c8, c9⟩ := HVI.out.br k hlt
  cases hex
  have HBX := hQq hbx
  obtain ⟨tb, toff, ta, htx, htb, hta, t0, t1, t2, t3, t4, t5, t6, t7⟩ := HTI.out.tr k (by rw [HPL.out]; exact hlt)
  cases htx
  obtain ⟨a4, cap4, rfl⟩ := hvr.form
  obtain ⟨a3, cap3, rfl⟩ := hta.form
  have hxk : ∀ h', (plT b)[k]'h' = (b[k]'hlt).toTrN := fun h' => by simp [plT]
  rw [hxk] at hta t0 t1 t2 t3 t4 t5 t6 t7
  have HG := hQq (getB_at b k hlt)
  have HSX := hQq (HSA.out k hlt)
  have HRX := hQq (HSM.out.red _ (List.getElem_mem hlt))
  have HTS : Hid ((List.range (k + 1)).map (feX b) = (List.range k).map (feX b) ++ [feX b k]) := hQq (by rw [List.range_succ, List.map_append]; rfl)
  have HVR := hQq hvr; have HTA := hQq hta
  have HLT := hQq hlt
  clear c0 c1 c2 c3 c4 c5 c6 c7 hva hvr hta hxk
  generalize b[k]'hlt = x at c8 c9 t0 t1 t2 t3 t4 t5 t6 t7 HVR HTA HG HSX HRX
  have j1 : ((k : Nat) : Int) < (b.length : Int) := by omega
  have j0 : (0 : Int) <= (k : Int) := by omega
  clear hE
  by_cases h5 : x.kd = 5
  ·have q2 : (x.kd == 5) = true := beq_iff_eq.2 h5
   have HW := hQq (fe_white HG.out h5)
   have HN : Hid (∀ j, j < k + 1 -> feE b j = 0) := hQq (fun j hj => by
    by_cases e : j = k
    ·subst e; exact HW.out.1
    ·exact HOK.out j (by omega))
   clear h5
   go_upto_region 11 with (go_at_call 52; refine (fuWhiteout _ (HL.out.o.ext (HB3.out.trans (HE.out.trans (eA _ _))))).mono ?_; rintro e w4 ⟨⟨aw, cw, rfl, haw⟩, hb4⟩; unfold trV; have HAW := hQq haw; have HXB := hQq (bX hb4 (bN wi (.cells #[.int .i64 x.dep, .string x.nm, .int .i64 x.kd, .slice a3 x.ats.length cap3, .string x.dat, .int .i64 x.ma, .int .i64 x.mi, .int .i64 x.cl] 43 (0, 0)))); have HB4 := hQq ((eA wi _).trans hb4); clear hb4 haw)
   refine nW (P := fun W => Code.wp _ _ _ _ W) _ ?_
   intro W hW
   have hW2 : W = w4.alloc (.cells #[.int .i64 0, .string ⟨#[]⟩, .int .i64 2, .slice aw 1 cw, .string ⟨#[]⟩, .int .i64 0, .int .i64 0, .int .i64 0] 43 (0, 0)) := hW
   have HX := hQq (show W.heap[wi.heap.size]? = some (.cells #[.int .i64 x.dep, .string x.nm, .int .i64 x.kd, .slice a3 x.ats.length cap3, .string x.dat, .int .i64 x.ma, .int .i64 x.mi, .int .i64 x.cl] 43 (0, 0)) from by rw [hW2]; exact bA HXB.out)
   have HY := hQq (show W.heap[w4.heap.size]? = some (.cells #[.int .i64 0, .string ⟨#[]⟩, .int .i64 2, .slice aw 1 cw, .string ⟨#[]⟩, .int .i64 0, .int .i64 0, .int .i64 0] 43 (0, 0)) from by rw [hW2]; exact bN w4 _)
   have EW := hQq (show Ext wi W from by rw [hW2]; exact HB4.out.trans (eA _ _))
   have AW := hQq (show AttT W (.slice aw 1 cw) whA from by rw [hW2]; exact HAW.out.ext (eA _ _))
   clear hW hW2
   have y0 : W.cell? ⟨wi.heap.size, 0, none⟩ = some (.int .i64 x.dep) := bC HX.out 0
   have y1 : W.cell? ⟨wi.heap.size, 1, none⟩ = some (.string x.nm) := bC HX.out 1
   have z0 : W.cell? ⟨w4.heap.size, 0, none⟩ = some (.int .i64 0) := bC HY.out 0
   have z1 : W.cell? ⟨w4.heap.size, 1, none⟩ = some (.string ⟨#[]⟩) := bC HY.out 1
   have fz : ∀ j, W.frozen? ⟨w4.heap.size, j, none⟩ = false := fun j => bT HY.out j
   have sz : w4.heap.size < W.heap.size := bL HY.out
   have sx : wi.heap.size < W.heap.size := bL HX.out
   go_region
   refine nW (P := fun W => Exit.then _ _ _ _ W) _ ?_
   intro W5 hW5
   have h6 : (W.setCell ⟨w4.heap.size, 0, none⟩ (.int .i64 x.dep)).heap[w4.heap.size]? = some (.cells #[.int .i64 x.dep, .string ⟨#[]⟩, .int .i64 2, .slice aw 1 cw, .string ⟨#[]⟩, .int .i64 0, .int .i64 0, .int .i64 0] 43 (0, 0)) := bS HY.out _
   have HY5 := hQq (show W5.heap[w4.heap.size]? = some (.cells #[.int .i64 x.dep, .string x.nm, .int .i64 2, .slice aw 1 cw, .string ⟨#[]⟩, .int .i64 0, .int .i64 0, .int .i64 0] 43 (0, 0)) from by rw [hW5]; exact bX (eD _) (bS h6 _))
   have EW5 := hQq (show Ext wi W5 from by rw [hW5]; exact Ext.trans ((EW.out.setCell (p := ⟨w4.heap.size, 0, none⟩) (by show wi.heap.size <= w4.heap.size; exact HB4.out.size) _).setCell (p := ⟨w4.heap.size, 1, none⟩) (by show wi.heap.size <= w4.heap.size; exact HB4.out.size) _) (eD _))
   have AW5 := hQq (show AttT W5 (.slice aw 1 cw) whA from by rw [hW5]; exact (attT_keep AW.out (fun b o h hne => bSn (bSn h _ _ (fun e => hne (by rw [e]))) _ _ (fun e => hne (by rw [e]))) (by simp [World.setCell]) HY.out (by decide)).ext (eD _))
   clear hW5 h6 y0 y1 z0 z1 fz sz sx HX HY EW AW
   obtain ⟨y0, y1, y2, y3, y4, y5, y6, y7⟩ := b8C HY5.out
   go_wp2_with (at_builtin; refine appL okT rfl (.tmp 43) (.tmp 45) rfl _ _ ((List.range k).map (feX b)) [feX b k] w3 _ rfl rfl (by exact HO5.out.ext okT (EW5.out.trans (eA _ _))) (by refine listIn_new okT _ (feX b k) _ _ rfl ?_; rw [HW.out.2]; exact ⟨_, attT_in AW5.out, rfl⟩) (by exact (HE.out.trans EW5.out).trans (eA _ _)) (by have := ((HE.out.trans EW5.out).trans (eA _ (.cells #[] 0))).size; simp at this ⊢; omega) (by rw [HQK.out]; simp; omega) ?_; intro v5 w5 ha; have HA := hQq ha; clear ha)
   go_roundw
   case rel => exact ⟨_, k + 1, rfl, by omega, by go_num, by rw [HTS.out]; exact HA.out.own, HN.out, HA.out.below⟩
   case measure => first | (simp [intOf]; done) | (simp [intOf]; omega)
  have q2 : (x.kd == 5) = false := nB h5
  have HND := hQq (fe_node HG.out h5)
  clear h5
  have hM := many_bd (plT b) x.cl
  rw [HPL.out] at hM
  have HLK := hQq (fun W (hW : Ext w3 W) => ((HM.out.ext hW).look keyInt mapT_count (zeroInt _) x.cl false))
  have HMM := hQq (mnF_look (plT b) x.cl)
  generalize hMg : manyT (plT b) x.cl = M at HND hM HMM
  have HMB : Hid (M <= 1000000) := hQq (by omega)
  clear hM hMg
  have bxi := bC HQI.out 0; have bxl := bL HQI.out
  go_upto_region 14 with (go_at_call 53; refine (fuHides B _ w.heap.size k _ b (HVI.out.ext okB (eA _ _)) (bC (bX (eA _ _) HQI.out) 0) (bL (bX (eA _ _) HQI.out)) HLT.out (by have := HSM.out.len; omega) HE0.out).mono ?_; rintro e w4 ⟨rfl, hb4⟩; have HXB := hQq (bX hb4 (bN wi (.cells #[.int .i64 x.dep, .string x.nm, .int .i64 x.kd, .slice a3 x.ats.length cap3, .string x.dat, .int .i64 x.ma, .int .i64 x.mi, .int .i64 x.cl] 43 (0, 0)))); have HB4 := hQq ((eA wi _).trans hb4); clear hb4)
  go_cut [4] (fun p wx => p = .int .i64 (mwE 2 x.ats (fuM x.opq (hdB b k) x.red M)) /\ ∃ a' c', wx.heap[wi.heap.size]? = some (.cells #[.int .i64 x.dep, .string x.nm, .int .i64 x.kd, .slice a' (mwL 2 x.ats (fuM x.opq (hdB b k) x.red M)).length c', .string x.dat, .int .i64 x.ma, .int .i64 x.mi, .int .i64 x.cl] 43 (0, 0)) /\ AttT wx (.slice a' (mwL 2 x.ats (fuM x.opq (hdB b k) x.red M)).length c') (mwL 2 x.ats (fuM x.opq (hdB b k) x.red M)) /\ Ext wi wx)
  case first =>
   refine wp_region_box (RbR wi.heap.size) (oencG wi.heap.size x.toTrN (.slice a3 x.ats.length cap3) (mwL 2 x.ats (fuM x.opq (hdB b k) x.red M))) (fencF wi.heap.size bb (off + k * 10) k bm (.slice a3 x.ats.length cap3) (.slice a4 x.red.length cap4) (.slice (some ⟨bb, off, none⟩) b.length cap) x.opq (hdB b k) x.red x.cl M (mwE 2 x.ats (fuM x.opq (hdB b k) x.red M)) (mwL 2 x.ats (fuM x.opq (hdB b k) x.red M))) 26 rfl (by kernel_rfl) (by kernel_rfl) (by kernel_rfl) (rb_ext (Nat.le_of_lt (bL HXB.out)) (eD w4)) (bX (eD w4) HXB.out) (fun _ _ _ => RbR.trans) fencF_mono ?_ ?_
   ·rename_i K1 hK1 J1 K2 hJ1 hK2
    clear hK1 hJ1 hK2 K1 J1
    intro i o a wx z ho hR hG hz hk hp
    have EX : Ext wi wx := Below.trans HB4.out hR.below
    have fin := oencG_fin hG
    have HGH := hQq hG
    clear hG
    have n1 := eV (show a.eval (.tmp 1) = .pointer (some ⟨w.heap.size, 0, none⟩) from hk 1 (of_decide_eq_true (by kernel_rfl)))
    have n8 := eV (show a.eval (.tmp 8) = .map (some bm) from hk 8 (of_decide_eq_true (by kernel_rfl)))
    have n9 := eV (show a.eval (.tmp 9) = .int .i64 k from hk 9 (of_decide_eq_true (by kernel_rfl)))
    have n10 := eV (show a.eval (.tmp 10) = .pointer (some ⟨wi.heap.size, 0, none⟩) from hk 10 (of_decide_eq_true (by kernel_rfl)))
    have n12 := eV (show a.eval (.tmp 12) = .bool (hdB b k) from hk 12 (of_decide_eq_true (by kernel_rfl)))
    clear hk
    match i, ho, hz, hp with
    | 0, ho, hz, hp =>
     obtain rfl := oI ho
     clear ho hp hz
     unfold Oper.wp; go_simp; exact ⟨_, rfl, rfl, (fin _ (bR _ _)).1, (fin _ (bR _ _)).2⟩
    | 1, ho, hz, hp =>
     obtain rfl := oI ho
     have p54 := eV (show a.eval (.tmp 54) = .pointer (some ⟨wi.heap.size, 3, none⟩) from hp 0 _ 54 (by kernel_rfl) rfl rfl)
     obtain rfl : z = false := by
      cases z
      ·rfl
      ·exact absurd ((show edgeB _ 26 1 = true by kernel_rfl).symm.trans (hz rfl).2) (by decide)
     have d3 := bC HGH.out 3
     clear ho hp hz
     unfold Oper.wp; go_simp; exact ⟨_, rfl, rfl, (fin _ (bR _ _)).1, (fin _ (bR _ _)).2⟩
    | 2, ho, hz, hp =>
     obtain rfl := oI ho
     have bxx := bC (bX EX HQI.out) 0
     clear ho hp hz
     unfold Oper.wp; go_simp; exact ⟨_, rfl, rfl, (fin _ (bR _ _)).1, (fin _ (bR _ _)).2⟩
    | 3, ho, hz, hp =>
     obtain rfl := oI ho
     clear ho hp hz
     unfold Oper.wp; go_simp; exact ⟨_, rfl, rfl, (fin _ (bR _ _)).1, (fin _ (bR _ _)).2⟩
    | 4, ho, hz, hp =>
     obtain rfl := oI ho
     have p56 := eV (show a.eval (.tmp 56) = .slice (some ⟨bb, off, none⟩) b.length cap from hp 2 _ 56 (by kernel_rfl) rfl rfl)
     have p57 := eV (show a.eval (.tmp 57) = .int .i64 k from hp 3 _ 57 (by kernel_rfl) rfl rfl)
     clear ho hp hz
     unfold Oper.wp; go_simp; exact ⟨_, rfl, rfl, (fin _ (bR _ _)).1, (fin _ (bR _ _)).2⟩
    | 5, ho, hz, hp =>
     obtain rfl := oI ho
     have p58 := eV (show a.eval (.tmp 58) = .pointer (some ⟨bb, off + k * 10, none⟩) from hp 4 _ 58 (by kernel_rfl) rfl rfl)
     clear ho hp hz
     unfold Oper.wp; go_simp; exact ⟨_, rfl, rfl, (fin _ (bR _ _)).1, (fin _ (bR _ _)).2⟩
    | 6, ho, hz, hp =>
     obtain rfl := oI ho
     have p59 := eV (show a.eval (.tmp 59) = .pointer (some ⟨bb, off + k * 10 + 8, none⟩) from hp 5 _ 59 (by kernel_rfl) rfl rfl)
     have c := (eC EX HBX.out).trans c8
     clear ho hp hz
     unfold Oper.wp; go_simp; exact ⟨_, rfl, rfl, (fin _ (bR _ _)).1, (fin _ (bR _ _)).2⟩
    | 7, ho, hz, hp =>
     obtain rfl := oI ho
     clear ho hp hz
     unfold Oper.wp; go_simp; exact ⟨_, rfl, rfl, (fin _ (bR _ _)).1, (fin _ (bR _ _)).2⟩
    | 8, ho, hz, hp =>
     obtain rfl := oI ho
     have p60 := eV (show a.eval (.tmp 60) = .bool x.opq from hp 6 _ 60 (by kernel_rfl) rfl rfl)
     have p61 := eV (show a.eval (.tmp 61) = .bool (hdB b k) from hp 7 _ 61 (by kernel_rfl) rfl rfl)
     clear ho hp hz
     unfold Oper.wp; go_simp
     refine (fuOpaque x.opq (hdB b k) _).mono ?_
     rintro e w5 ⟨rfl, hb5⟩
     exact ⟨_, rfl, rfl, (fin _ hb5).1, (fin _ hb5).2⟩
    | 9, ho, hz, hp =>
     obtain rfl := oI ho
     have bxx := bC (bX EX HQI.out) 0
     clear ho hp hz
     unfold Oper.wp; go_simp; exact ⟨_, rfl, rfl, (fin _ (bR _ _)).1, (fin _ (bR _ _)).2⟩
    | 10, ho, hz, hp =>
     obtain rfl := oI ho
     clear ho hp hz
     unfold Oper.wp; go_simp; exact ⟨_, rfl, rfl, (fin _ (bR _ _)).1, (fin _ (bR _ _)).2⟩
    | 11, ho, hz, hp =>
     obtain rfl := oI ho
     have p63 := eV (show a.eval (.tmp 63) = .slice (some ⟨bb, off, none⟩) b.length cap from hp 9 _ 63 (by kernel_rfl) rfl rfl)
     have p64 := eV (show a.eval (.tmp 64) = .int .i64 k from hp 10 _ 64 (by kernel_rfl) rfl rfl)
     clear ho hp hz
     unfold Oper.wp; go_simp; exact ⟨_, rfl, rfl, (fin _ (bR _ _)).1, (fin _ (bR _ _)).2⟩
    | 12, ho, hz, hp =>
     obtain rfl := oI ho
     have p65 := eV (show a.eval (.tmp 65) = .pointer (some ⟨bb, off + k * 10, none⟩) from hp 11 _ 65 (by kernel_rfl) rfl rfl)
     clear ho hp hz
     unfold Oper.wp; go_simp; exact ⟨_, rfl, rfl, (fin _ (bR _ _)).1, (fin _ (bR _ _)).2⟩
    | 13, ho, hz, hp =>
     obtain rfl := oI ho
     have p66 := eV (show a.eval (.tmp 66) = .pointer (some ⟨bb, off + k * 10 + 9, none⟩) from hp 12 _ 66 (by kernel_rfl) rfl rfl)
     have c := (eC EX HBX.out).trans c9
     clear ho hp hz
     unfold Oper.wp; go_simp; exact ⟨_, rfl, rfl, (fin _ (bR _ _)).1, (fin _ (bR _ _)).2⟩
    | 14, ho, hz, hp =>
     obtain rfl := oI ho
     have p67 := eV (show a.eval (.tmp 67) = .slice a4 x.red.length cap4 from hp 13 _ 67 (by kernel_rfl) rfl rfl)
     clear ho hp hz
     unfold Oper.wp; go_simp
     refine (fuRedirect _ x.red _ ((HVR.out.ext okS EX).strs)).mono ?_
     rintro e w5 ⟨rfl, hb5⟩
     exact ⟨_, rfl, rfl, (fin _ hb5).1, (fin _ hb5).2⟩
    | 15, ho, hz, hp =>
     obtain rfl := oI ho
     clear ho hp hz
     unfold Oper.wp; go_simp; exact ⟨_, rfl, rfl, (fin _ (bR _ _)).1, (fin _ (bR _ _)).2⟩
    | 16, ho, hz, hp =>
     obtain rfl := oI ho
     clear ho hp hz
     unfold Oper.wp; go_simp; exact ⟨_, rfl, rfl, (fin _ (bR _ _)).1, (fin _ (bR _ _)).2⟩
    | 17, ho, hz, hp =>
     obtain rfl := oI ho
     have p70 := eV (show a.eval (.tmp 70) = .pointer (some ⟨wi.heap.size, 7, none⟩) from hp 16 _ 70 (by kernel_rfl) rfl rfl)
     obtain rfl : z = false := by
      cases z
      ·rfl
      ·exact absurd ((show edgeB _ 26 17 = true by kernel_rfl).symm.trans (hz rfl).2) (by decide)
     have d7 := bC HGH.out 7
     clear ho hp hz
     unfold Oper.wp; go_simp; exact ⟨_, rfl, rfl, (fin _ (bR _ _)).1, (fin _ (bR _ _)).2⟩
    | 18, ho, hz, hp =>
     obtain rfl := oI ho
     have p69 := eV (show a.eval (.tmp 69) = .map (some bm) from hp 15 _ 69 (by kernel_rfl) rfl rfl)
     have p71 := eV (show a.eval (.tmp 71) = .int .i64 x.cl from hp 17 _ 71 (by kernel_rfl) rfl rfl)
     clear ho hp hz
     have lk := HLK.out wx (HE.out.trans EX)
     rw [if_neg Bool.false_ne_true, HMM.out] at lk
     unfold kI at lk
     unfold Oper.wp; go_simp; exact ⟨_, rfl, rfl, (fin _ (bR _ _)).1, (fin _ (bR _ _)).2⟩
    | 19, ho, hz, hp =>
     obtain rfl := oI ho
     have p72 := eV (show a.eval (.tmp 72) = .int .i64 M from hp 18 _ 72 (by kernel_rfl) rfl rfl)
     clear ho hp hz
     unfold Oper.wp; go_simp
     refine (fuLink M _ (HL.out.o.ext (HB3.out.trans (HE.out.trans EX))) (by have := HMB.out; omega)).mono ?_
     rintro e w5 ⟨rfl, hb5⟩
     exact ⟨_, rfl, rfl, (fin _ hb5).1, (fin _ hb5).2⟩
    | 20, ho, hz, hp =>
     obtain rfl := oI ho
     have p62 := eV (show a.eval (.tmp 62) = .agg #[.string opqW, .string (hidS x.opq (hdB b k))] from hp 8 _ 62 (by kernel_rfl) rfl rfl)
     have p68 := eV (show a.eval (.tmp 68) = .agg #[.string reW, .string (redS x.red)] from hp 14 _ 68 (by kernel_rfl) rfl rfl)
     have p73 := eV (show a.eval (.tmp 73) = .agg #[.string nlW, .string (linkS M)] from hp 19 _ 73 (by kernel_rfl) rfl rfl)
     clear ho hp hz
     unfold Oper.wp; go_simp
     have h6 := fin _ (eA wx (.cells #[.string opqW, .string (hidS x.opq (hdB b k)), .string reW, .string (redS x.red), .string nlW, .string (linkS M)] 45))
     exact ⟨_, rfl, ⟨_, _, rfl, atts_blk (bN wx _) rfl rfl, oencG_blk h6.2⟩, h6.1, h6.2⟩
    | 21, ho, hz, hp =>
     obtain rfl := oI ho
     have p55 := eV (show a.eval (.tmp 55) = .slice a3 x.ats.length cap3 from hp 1 _ 55 (by kernel_rfl) rfl rfl)
     obtain ⟨am, cm, h2, h3, -⟩ : ∃ a' c', a.eval (.tmp 74) = .slice a' 3 c' /\ AttT wx (.slice a' 3 c') (fuM x.opq (hdB b k) x.red M) /\ ∃ cs, wx.heap[wi.heap.size]? = some (.cells cs 43 (0, 0)) := hp 20 _ 74 (by kernel_rfl) rfl rfl
     have p74 := eV h2
     clear h2
     clear ho hp hz
     unfold Oper.wp; go_simp
     refine (fuWritten a0 b0 c0 _ _ x.ats (fuM x.opq (hdB b k) x.red M) _ (HL.out.ext (HB3.out.trans (HE.out.trans EX))) ((HTA.out.ext okA EX).attrs) h3.1 HSX.out (fuM_ok _ _ _ _) (fuM_size _ _ _ (by have := HMB.out; omega)) (by show 0 < 3; omega) (by show 3 <= 1000; omega)).mono ?_
     rintro e w5 ⟨⟨v5, rfl, h5⟩, hb5⟩
     obtain ⟨a6, c6, rfl, -, -⟩ := h5.1
     exact ⟨_, rfl, ⟨_, _, rfl, h5, oencG_blk (fin _ hb5).2⟩, (fin _ hb5).1, (fin _ hb5).2⟩
    | 22, ho, hz, hp =>
     obtain rfl := oI ho
     obtain ⟨ar, cr, h2, h3⟩ : ∃ ar cr, a.eval (.tmp 75) = .tuple #[.slice ar (mwL 2 x.ats (fuM x.opq (hdB b k) x.red M)).length cr, .int .i64 (mwE 2 x.ats (fuM x.opq (hdB b k) x.red M))] /\ AttT wx (.slice ar (mwL 2 x.ats (fuM x.opq (hdB b k) x.red M)).length cr) (mwL 2 x.ats (fuM x.opq (hdB b k) x.red M)) /\ ∃ cs, wx.heap[wi.heap.size]? = some (.cells cs 43 (0, 0)) := hp 21 _ 75 (by kernel_rfl) rfl rfl
     have p1 := eV h2
     clear h2
     clear ho hp hz
     unfold Oper.wp; go_simp; exact ⟨_, rfl, ⟨_, _, rfl, h3⟩, (fin _ (bR _ _)).1, (fin _ (bR _ _)).2⟩
    | 23, ho, hz, hp =>
     obtain rfl := oI ho
     obtain ⟨ar, cr, h2, h3⟩ : ∃ ar cr, a.eval (.tmp 53) = .tuple #[.slice ar (mwL 2 x.ats (fuM x.opq (hdB b k) x.red M)).length cr, .int .i64 (mwE 2 x.ats (fuM x.opq (hdB b k) x.red M))] /\ AttT wx (.slice ar (mwL 2 x.ats (fuM x.opq (hdB b k) x.red M)).length cr) (mwL 2 x.ats (fuM x.opq (hdB b k) x.red M)) /\ ∃ cs, wx.heap[wi.heap.size]? = some (.cells cs 43 (0, 0)) := hp 22 _ 53 (by kernel_rfl) rfl rfl
     have p1 := eV h2
     clear h2
     clear ho hp hz
     unfold Oper.wp; go_simp; exact ⟨_, rfl, ⟨_, _, rfl, h3⟩, (fin _ (bR _ _)).1, (fin _ (bR _ _)).2⟩
    | 24, ho, hz, hp =>
     obtain rfl := oI ho
     obtain ⟨ar, cr, h2, h3⟩ : ∃ ar cr, a.eval (.tmp 53) = .tuple #[.slice ar (mwL 2 x.ats (fuM x.opq (hdB b k) x.red M)).length cr, .int .i64 (mwE 2 x.ats (fuM x.opq (hdB b k) x.red M))] /\ AttT wx (.slice ar (mwL 2 x.ats (fuM x.opq (hdB b k) x.red M)).length cr) (mwL 2 x.ats (fuM x.opq (hdB b k) x.red M)) /\ ∃ cs, wx.heap[wi.heap.size]? = some (.cells cs 43 (0, 0)) := hp 22 _ 53 (by kernel_rfl) rfl rfl
     have p1 := eV h2
     clear h2
     clear ho hp hz
     unfold Oper.wp; go_simp; exact ⟨_, rfl, rfl, (fin _ (bR _ _)).1, (fin _ (bR _ _)).2⟩
    | 25, ho, hz, hp =>
     obtain rfl := oI ho
     clear ho hp hz
     unfold Oper.wp; go_simp; exact ⟨_, rfl, rfl, (fin _ (bR _ _)).1, (fin _ (bR _ _)).2⟩
    | 26, ho, hz, hp =>
     obtain rfl := oI ho
     obtain ⟨ar, cr, h2, h3, -⟩ : ∃ ar cr, a.eval (.tmp 76) = .slice ar (mwL 2 x.ats (fuM x.opq (hdB b k) x.red M)).length cr /\ AttT wx (.slice ar (mwL 2 x.ats (fuM x.opq (hdB b k) x.red M)).length cr) (mwL 2 x.ats (fuM x.opq (hdB b k) x.red M)) /\ ∃ cs, wx.heap[wi.heap.size]? = some (.cells cs 43 (0, 0)) := hp 23 _ 76 (by kernel_rfl) rfl rfl
     have p76 := eV h2
     have p78 := eV (show a.eval (.tmp 78) = .pointer (some ⟨wi.heap.size, 3, none⟩) from hp 25 _ 78 (by kernel_rfl) rfl rfl)
     clear h2
     obtain rfl : z = false := by
      cases z
      ·rfl
      ·exact absurd rfl (hz rfl).1
     clear ho hp hz fin
     have d3 := bC HGH.out 3; have fz := fun j => bT HGH.out j; have z2 := bL HGH.out
     unfold Oper.wp; go_simp
     exact ⟨⟨undef, trivial⟩, rb_set HGH.out _, ar, cr, (encEnd HGH.out EX h3).1, (encEnd HGH.out EX h3).2.1⟩
    | 27, ho, hz, hp =>
     obtain rfl := oI ho
     have p77 := eV (show a.eval (.tmp 77) = .int .i64 (mwE 2 x.ats (fuM x.opq (hdB b k) x.red M)) from hp 24 _ 77 (by kernel_rfl) rfl rfl)
     clear ho hp hz
     unfold Oper.wp; go_simp; exact ⟨_, rfl, rfl, (fin _ (bR _ _)).1, (fin _ (bR _ _)).2⟩
    | i + 28, ho, _, _ => exact absurd (Array.getElem?_eq_some_iff.1 ho).1 (by simp)
   ·rename_i K1 hK1 J1 K2 hJ1 hK2
    clear hK1 K1
    intro vs wx hR hG hf
    generalize hA : putsA _ _ _ = A1
    have p4 : vs 4 = .int .i64 (mwE 2 x.ats (fuM x.opq (hdB b k) x.red M)) := hf 27 _ 4 rfl rfl
    clear hf
    have hA2 := hA.symm.trans (congrArg (fun D => putsA _ D vs) (show dstL _ 28 = [54, 55, 56, 57, 58, 59, 60, 61, 62, 63, 64, 65, 66, 67, 68, 69, 70, 71, 72, 73, 74, 75, 53, 76, 77, 78, 4] by kernel_rfl))
    have EX : Ext wi wx := Below.trans HB4.out hR.below
    obtain ⟨ar, cr, hq, ha⟩ := hG
    rw [hA2]
    refine hK2 _ _ ?_
    clear hK2 hA2 hA
    simp only [putsA, List.foldl, Act.put, List.setIfInBounds_toArray, List.set_cons_succ, List.set_cons_zero]
    go_meet
    exact ⟨p4, ar, cr, hq, ha, EX⟩
  case rest =>
   obtain ⟨rfl, a8, c8', hq, ha, hEx⟩ := hcut
   have QB := hQq hq; have AB := hQq ha; have EB := hQq hEx
   clear hq ha hEx
   obtain ⟨y0, y1, y2, y3, y4, y5, y6, y7⟩ := b8C QB.out
   by_cases hw : (mwE 2 x.ats (fuM x.opq (hdB b k) x.red M)) = 0
   ·have q3 : ((mwE 2 x.ats (fuM x.opq (hdB b k) x.red M)) != 0) = false := bne_eq_false_iff_eq.2 hw
    have HN : Hid (∀ j, j < k + 1 -> feE b j = 0) := hQq (fun j hj => by
     by_cases e : j = k
     ·subst e; rw [HND.out.1]; exact hw
     ·exact HOK.out j (by omega))
    clear hw
    go_wp2_with (at_builtin; refine appL okT rfl (.tmp 83) (.tmp 85) rfl _ _ ((List.range k).map (feX b)) [feX b k] w3 _ rfl rfl (by exact HO5.out.ext okT (EB.out.trans (eA _ _))) (by refine listIn_new okT _ (feX b k) _ _ rfl ?_; rw [HND.out.2]; exact ⟨_, attT_in AB.out, rfl⟩) (by exact (HE.out.trans EB.out).trans (eA _ _)) (by have := ((HE.out.trans EB.out).trans (eA _ (.cells #[] 0))).size; simp at this ⊢; omega) (by rw [HQK.out]; simp; omega) ?_; intro v5 w5 ha; have HA := hQq ha; clear ha)
    go_roundw
    case rel => exact ⟨_, k + 1, rfl, by omega, by go_num, by rw [HTS.out]; exact HA.out.own, HN.out, HA.out.below⟩
    case measure => first | (simp [intOf]; done) | (simp [intOf]; omega)
   ·have q3 : ((mwE 2 x.ats (fuM x.opq (hdB b k) x.red M)) != 0) = true := bne_iff_ne.2 hw
    have HR := hQq (fe_of (gen_node (E := feE b) (X := feX b) HE0.out hlt HOK.out (by rw [HND.out.1]; exact hw)))
    clear hw
    go_wp2
    go_ret3
    exact ⟨⟨w.heap.size, none, 0, 0, Nat.le_refl _, by rw [HR.out.2.1, HR.out.2.2, HND.out.1]; rfl, by rw [HR.out.1]; exact OwnL.nil _ _ _⟩, HB3.out.trans (HE.out.trans EB.out)⟩
theorem fuCan (a0 b0 c0 : Addr) (B : Nat) (w : World) (v : Value) (b : List BrN) (hL : LaidF w a0 b0 c0) (hb : BrIn B w v b) (hsm : SmallB b) :
  RetB Tryz.prog 15 #[v] w (.tuple #[.int .i64 (feN b), .int .i64 (feF b)]) := by
 unfold RetB
 have HV := hQq hb; have HL := hQq hL; have HSM := hQq hsm
 clear hb hL hsm
 go_enter Tryz.func15, Tryz.ntmps15
 go_wp2_with (go_at_call 13; refine (fuEncode a0 b0 c0 B _ _ b HL.out HV.out HSM.out).mono ?_; rintro e w1 ⟨⟨B', a, n, c, _, rfl, _⟩, hb1⟩; have HB1 := hQq hb1; clear hb1)
 go_ret2
 exact ⟨rfl, HB1.out⟩
set_option maxRecDepth 100000 in
set_option maxHeartbeats 16000000 in
theorem fuDecF (a0 b0 e0 : Addr) (B : Nat) (v : Value) (t : List TrN) (i : Nat) (w : World) (hL : LaidF w a0 b0 e0) (hv : TrIn B w v t) (hi : i < t.length) (hte : treeE t = 0) (hsm : ∀ k, k < t.length -> Small (getT t k).ats) (h5 : (getT t i).kd ≠ 5) (hp : ptsE 2 (getT t i).ats = 0) (hw : whtB (getT t i) = false) (hn : manyT t (getT t i).cl <= 1000000) :
  Calls Tryz.prog 67 #[v, .int .i64 (i : Int), .int .i64 (manyT t (getT t i).cl)] w (FdecP w t i) := by
 obtain ⟨aa, cap, rfl⟩ := hv.form
 have HV := hQq hv
 obtain ⟨bb, off, va, hex, hbx, hva, c0, c1, c2, c3, c4, c5, c6, c7⟩ := hv.tr i hi
 cases hex
 have HVA := hQq hva.attrs
 obtain ⟨a3, cap3, rfl⟩ := hva.form
 have HGT := hQq (getT_at t i hi)
 have HSM := hQq (hsm i hi)
 have HSA := hQq hsm
 generalize t[i]'hi = x at c0 c1 c2 c3 c4 c5 c6 c7 HVA HGT
 rw [HGT.out] at HSM
 have j1 : ((i : Nat) : Int) < (t.length : Int) := by omega
 have j0 : (0 : Int) <= (i : Int) := by omega
 have HL := hQq hL
 have HI := hQq hi; have HTE := hQq hte; have HLE := hQq (show t.length <= 1000000 by have := (treeE_zero hte).2.1; omega)
 clear hv hva hsm hL hte
 rw [HGT.out] at h5 hp hw ⊢
 have q1 : (x.kd == 5) = false := nB h5
 have HPZ := hQq hp
 have q2 : (ptsE 2 x.ats != 0) = false := bne_eq_false_iff_eq.2 hp
 have HWT : Hid (isM (ptsO 2 x.ats) whW = false) := hQq hw
 have fge := fuGetE
 have HFE := hQq (ft_err (ptsO 2 x.ats))
 obtain ⟨o, ho⟩ : ∃ o, isM (ptsO 2 x.ats) opqW = o := ⟨_, rfl⟩
 obtain ⟨r, hr⟩ : ∃ r, isM (ptsO 2 x.ats) reW = r := ⟨_, rfl⟩
 obtain ⟨s0, hs0⟩ : ∃ s, ftO (ptsO 2 x.ats) = s := ⟨_, rfl⟩
 obtain ⟨h0, hh0⟩ : ∃ h, ftH (ptsO 2 x.ats) = h := ⟨_, rfl⟩
 obtain ⟨am, ham⟩ : ∃ a, hdT t i = a := ⟨_, rfl⟩
 obtain ⟨k1, hk1⟩ : ∃ k, (x.kd != 1) = k := ⟨_, rfl⟩
 obtain ⟨i0, hi0⟩ : ∃ k, ((i : Int) == 0) = k := ⟨_, rfl⟩
 obtain ⟨e1, he1⟩ : ∃ e, (ftE (ptsO 2 x.ats) != 0) = e := ⟨_, rfl⟩
 obtain ⟨ve, hve⟩ : ∃ v, errV a0 b0 e0 (ftE (ptsO 2 x.ats)) = v := ⟨_, rfl⟩
 obtain ⟨z, hz⟩ : ∃ z, z = (e1 || ((o || r) && k1) || (r && i0)) := ⟨_, rfl⟩
 obtain ⟨y, hy⟩ : ∃ y, y = (!k1 && (!s0 && (h0 != am))) := ⟨_, rfl⟩
 have HVC : Hid ((e1 = false /\ ve = .nilIface) \/ (e1 = true /\ ve = .iface 328 (.pointer (some a0)))) := hQq (by
  rcases HFE.out with e | e
  ·rw [e] at he1 hve; exact .inl ⟨he1.symm, hve.symm⟩
  ·rw [e] at he1 hve; exact .inr ⟨he1.symm, hve.symm⟩)
 have HFB : Hid (z = true ↔ fbT t i) := hQq (by
  unfold fbT
  rw [HGT.out, ho, hr, hz, <- he1, <- hk1, <- hi0]
  simp only [Bool.or_eq_true, Bool.and_eq_true, bne_iff_ne, beq_iff_eq, ne_eq, or_assoc]
  constructor
  ·rintro (h | h | h)
   ·exact .inl h
   ·exact .inr (.inl h)
   ·exact .inr (.inr ⟨h.1, by omega⟩)
  ·rintro (h | h | h)
   ·exact .inl h
   ·exact .inr (.inl h)
   ·exact .inr (.inr ⟨h.1, by omega⟩))
 have HYB : Hid (y = true ↔ (x.kd = 1 /\ ftO (ptsO 2 x.ats) = false /\ ftH (ptsO 2 x.ats) ≠ hdT t i)) := hQq (by
  rw [hs0, hh0, ham, hy, <- hk1]
  cases s0 <;> simp)
 have HD6 : Hid (z = true -> fdE t i = 6) := hQq (fun h => fd_form (by rw [HGT.out]; exact h5) (by rw [HGT.out]; exact hp) (by rw [HGT.out]; exact hw) (HFB.out.1 h))
 have HH6 : Hid (z = false -> y = true -> fdE t i = 6) := hQq (fun h h2 => fd_hides (by rw [HGT.out]; exact h5) (by rw [HGT.out]; exact hp) (by rw [HGT.out]; exact hw) (fun hf => by rw [HFB.out.2 hf] at h; cases h) (by rw [HGT.out]; exact HYB.out.1 h2))
 have HBK : Hid (z = false -> y = false -> fdE t i = bookE (ptsO 2 x.ats) (manyT t x.cl)) := hQq (fun h h2 => by
  rw [fd_book (by rw [HGT.out]; exact h5) (by rw [HGT.out]; exact hp) (by rw [HGT.out]; exact hw) (fun hf => by rw [HFB.out.2 hf] at h; cases h) (by rw [HGT.out]; intro hf; rw [HYB.out.2 hf] at h2; cases h2), HGT.out])
 have HX0 : Hid (fdX t i = ⟨{ x with ats := ptsP 2 x.ats }, s0, ftR (ptsO 2 x.ats)⟩) := hQq (by rw [fd_node (by rw [HGT.out]; exact hw), HGT.out, hs0])
 have kq : (x.kd == 1) = !k1 := by rw [<- hk1]; simp [bne]
 have HOP := hQq ho; have HRE := hQq hr; have HS0 := hQq hs0; have HH0 := hQq hh0; have HAM := hQq ham; have HVE := hQq hve; have HZ := hQq hz; have HY := hQq hy
 have HTZ : Hid ((valM (ptsO 2 x.ats) reW).size <= 1000000) := hQq (valM_size2 HSM.out)
 have HMB := hQq hn
 rw [HGT.out] at HMB
 clear h5 hp hw ho hr hs0 hh0 ham he1 hve hz hy HFB HYB HFE hn
 generalize manyT t x.cl = M at HBK HMB
 go_enter Tryz.func67, Tryz.ntmps67
 go_upto_region 3 with fail
 refine nW (P := fun W => Code.wp _ _ _ _ W) _ ?_
 intro W hW
 have hW2 : W = (((w.alloc (.cells #[.slice (some ⟨bb, off, none⟩) t.length cap] 25)).alloc (.cells #[.int .i64 0, .string ⟨#[]⟩, .int .i64 0, .slice none 0 0, .string ⟨#[]⟩, .int .i64 0, .int .i64 0, .int .i64 0, .bool false, .slice none 0 0] 41)).alloc (.cells #[.int .i64 x.dep, .string x.nm, .int .i64 x.kd, .slice a3 x.ats.length cap3, .string x.dat, .int .i64 x.ma, .int .i64 x.mi, .int .i64 x.cl] 43)).alloc (.cells #[.int .i64 x.dep, .string x.nm, .int .i64 x.kd, .slice none 0 0, .string x.dat, .int .i64 x.ma, .int .i64 x.mi, .int .i64 x.cl, .bool false, .slice none 0 0] 41) := hW
 have QB := hQq (show W.heap[w.heap.size]? = some (.cells #[.slice (some ⟨bb, off, none⟩) t.length cap] 25 (0, 0)) from by rw [hW2]; exact bA (bA (bA (bN w _))))
 have QR := hQq (show W.heap[w.heap.size + 1]? = some (.cells #[.int .i64 0, .string ⟨#[]⟩, .int .i64 0, .slice none 0 0, .string ⟨#[]⟩, .int .i64 0, .int .i64 0, .int .i64 0, .bool false, .slice none 0 0] 41 (0, 0)) from by rw [hW2]; exact bA (bA (blk_at (by simp))))
 have QX := hQq (show W.heap[w.heap.size + 2]? = some (.cells #[.int .i64 x.dep, .string x.nm, .int .i64 x.kd, .slice a3 x.ats.length cap3, .string x.dat, .int .i64 x.ma, .int .i64 x.mi, .int .i64 x.cl] 43 (0, 0)) from by rw [hW2]; exact bA (blk_at (by simp)))
 have QN := hQq (show W.heap[w.heap.size + 3]? = some (.cells #[.int .i64 x.dep, .string x.nm, .int .i64 x.kd, .slice none 0 0, .string x.dat, .int .i64 x.ma, .int .i64 x.mi, .int .i64 x.cl, .bool false, .slice none 0 0] 41 (0, 0)) from by rw [hW2]; exact blk_at (by simp))
 have EW := hQq (show Ext w W from by rw [hW2]; exact (((eA _ _).trans (eA _ _)).trans (eA _ _)).trans (eA _ _))
 clear hW hW2 c0 c1 c2 c3 c4 c5 c6 c7
 obtain ⟨cx0, cx1, cx2, cx3, cx4, cx5, cx6, cx7⟩ := b8C QX.out; have zx := bL QX.out
 go_wp2_with fail
 refine (escPartsT 2 _ x.ats _ (HL.out.o.ext EW.out).laid (HVA.out.ext EW.out) HSM.out).mono ?_
 rintro e w1 ⟨⟨v1, v2, rfl, ho1, ho2⟩, hb1⟩
 have HO1 := hQq ho1; have HO2 := hQq ho2
 obtain ⟨a6, cap6, rfl, -, -⟩ := ho1.1
 have EW1 := hQq (EW.out.trans hb1); have QB1 := hQq (bX hb1 QB.out); have QR1 := hQq (bX hb1 QR.out); have QX1 := hQq (bX hb1 QX.out); have QN1 := hQq (bX hb1 QN.out)
 clear ho1 ho2 hb1 QB QR QX QN
 clear cx0 cx1 cx2 cx3 cx4 cx5 cx6 cx7 zx
 go_wp2_with fail
 refine (fuGet _ (ptsO 2 x.ats) whW _ (HO2.out.1) (oS2 _)).mono ?_
 rintro e w2 ⟨rfl, hb⟩
 rw [HWT.out]
 have EW2 := hQq (EW1.out.trans hb); have QB2 := hQq (bX hb QB1.out); have QR2 := hQq (bX hb QR1.out); have QX2 := hQq (bX hb QX1.out); have QN2 := hQq (bX hb QN1.out)
 have EP2 := hQq (hb)
 clear hb QB1 QR1 QX1 QN1
 go_wp2_with fail
 refine (fuGet _ (ptsO 2 x.ats) opqW _ (HO2.out.1.ext EP2.out) (oS2 _)).mono ?_
 rintro e w3 ⟨rfl, hb⟩
 rw [HOP.out]
 have EW3 := hQq (EW2.out.trans hb); have QB3 := hQq (bX hb QB2.out); have QR3 := hQq (bX hb QR2.out); have QX3 := hQq (bX hb QX2.out); have QN3 := hQq (bX hb QN2.out)
 have EP3 := hQq (Ext.trans EP2.out hb)
 clear hb QB2 QR2 QX2 QN2
 go_wp2_with fail
 refine (fuGet _ (ptsO 2 x.ats) reW _ (HO2.out.1.ext EP3.out) (oS2 _)).mono ?_
 rintro e w4 ⟨rfl, hb⟩
 rw [HRE.out]
 have EW4 := hQq (EW3.out.trans hb); have QB4 := hQq (bX hb QB3.out); have QR4 := hQq (bX hb QR3.out); have QX4 := hQq (bX hb QX3.out); have QN4 := hQq (bX hb QN3.out)
 have EP4 := hQq (Ext.trans EP3.out hb)
 clear hb QB3 QR3 QX3 QN3
 go_wp2_with fail
 refine (fuTurned a0 b0 e0 _ (ptsO 2 x.ats) _ (HL.out.ext EW4.out) (HO2.out.1.ext EP4.out) (oS2 _) HTZ.out).mono ?_
 rintro e w5 ⟨⟨a7, cap7, rfl, hs5⟩, hb⟩
 rw [HS0.out, HH0.out, HVE.out]
 have HS5 := hQq hs5
 have EW5 := hQq (EW4.out.trans hb); have QB5 := hQq (bX hb QB4.out); have QR5' := hQq (bX hb QR4.out); have QX5 := hQq (bX hb QX4.out); have QN5 := hQq (bX hb QN4.out)
 have EP5 := hQq (Ext.trans EP4.out hb)
 clear hb hs5 QB4 QR4 QX4 QN4
 obtain ⟨cx0, cx1, cx2, cx3, cx4, cx5, cx6, cx7⟩ := b8C QX5.out; have zx := bL QX5.out
 have k2 := hk1
 go_upto_region 17 with fail
 go_cut [118] (fun s wx => s = .bool z /\ w5 = wx)
 case first =>
  rcases HVC.out with ⟨h1, h2⟩ | ⟨h1, h2⟩
  ·subst h1 h2
   cases o <;> cases r <;> cases k1 <;> cases i0
   all_goals
    go_wp2_with fail
    go_meet
    exact ⟨by rw [HZ.out]; rfl, rfl⟩
  ·subst h1 h2
   go_wp2_with fail
   go_meet
   exact ⟨by rw [HZ.out]; rfl, rfl⟩
 case rest =>
 obtain ⟨rfl, rfl⟩ := hcut
 clear HVC HVE
 have HZZ : Hid (∃ q, z = q) := hQq ⟨_, rfl⟩
 cases z
 case true =>
  have HE6 := hQq (HD6.out rfl)
  go_upto_region 18 with fail
  go_cut [7] (fun p wx => p = .int .i64 6 /\ wx.heap[w.heap.size + 1]? = some (.cells #[.int .i64 x.dep, .string x.nm, .int .i64 x.kd, .slice none 0 0, .string x.dat, .int .i64 x.ma, .int .i64 x.mi, .int .i64 x.cl, .bool false, .slice none 0 0] 41 (0, 0)) /\ Ext w wx)
  case first =>
   refine wp_region_inv3 (fderF (.agg #[.int .i64 x.dep, .string x.nm, .int .i64 x.kd, .slice none 0 0, .string x.dat, .int .i64 x.ma, .int .i64 x.mi, .int .i64 x.cl, .bool false, .slice none 0 0]) a0) 3 4 rfl (by kernel_rfl) (by kernel_rfl) fderF_mono ?_ ?_
   ·rename_i K1 hK1 J1 K2 hJ1 hK2
    clear hK1 hJ1 hK2 K1 J1
    intro j o a wx hj ho hE hk hp
    have n9 := eV (show a.eval (.tmp 9) = .pointer (some ⟨w.heap.size + 3, 0, none⟩) from hk 9 (of_decide_eq_true (by kernel_rfl)))
    clear hk
    match j, hj, ho, hp with
    | 0, _, ho, hp =>
     obtain rfl := oI ho
     have qx := bX hE QN5.out
     obtain ⟨d0, d1, d2, d3, d4, d5, d6, d7, d8, d9⟩ := b10C qx
     clear ho hp
     unfold Oper.wp; go_simp; exact ⟨_, rfl, rfl, bR _ _⟩
    | 1, _, ho, hp =>
     obtain rfl := oI ho
     have g0 := (HL.out.ext (EW5.out.trans hE)).f.var
     unfold senV at g0
     clear ho hp
     unfold Oper.wp; go_simp; exact ⟨_, rfl, rfl, bR _ _⟩
    | 2, _, ho, hp =>
     obtain rfl := oI ho
     have p1 := eV (show a.eval (.tmp 120) = .iface 328 (.pointer (some a0)) from hp 1 _ 120 (by kernel_rfl) rfl rfl)
     clear ho hp
     unfold Oper.wp; go_simp
     refine (fuNumF a0 b0 e0 _ (HL.out.ext (EW5.out.trans hE))).mono ?_
     rintro e w5 ⟨rfl, rfl⟩
     exact ⟨_, rfl, rfl, bR _ _⟩
    | j + 3, h, _, _ => exact absurd h (by omega)
   ·rename_i K1 hK1 J1 K2 hJ1 hK2
    clear hK1 K1
    intro vs wx hE hf
    generalize hA : putsA _ _ _ = A1
    have pn : vs 119 = .agg #[.int .i64 x.dep, .string x.nm, .int .i64 x.kd, .slice none 0 0, .string x.dat, .int .i64 x.ma, .int .i64 x.mi, .int .i64 x.cl, .bool false, .slice none 0 0] := hf 0 _ 119 (by omega) rfl rfl
    have pe : vs 121 = .int .i64 6 := hf 2 _ 121 (by omega) rfl rfl
    clear hf
    have hA2 := hA.symm.trans (congrArg (fun D => putsA _ D vs) (show dstL _ 3 = [119, 120, 121] by kernel_rfl))
    have e6 := eV (show A1.eval (.tmp 6) = .pointer (some ⟨w.heap.size + 1, 0, none⟩) by rw [hA2, puts_eval _ _ _ _ (of_decide_eq_true (by kernel_rfl)), if_neg (by decide)]; rfl)
    have en := eV (show A1.eval (.tmp 119) = .agg #[.int .i64 x.dep, .string x.nm, .int .i64 x.kd, .slice none 0 0, .string x.dat, .int .i64 x.ma, .int .i64 x.mi, .int .i64 x.cl, .bool false, .slice none 0 0] by rw [hA2, puts_eval _ _ _ _ (of_decide_eq_true (by kernel_rfl)), if_pos (by decide), pn])
    have ee := eV (show A1.eval (.tmp 121) = .int .i64 6 by rw [hA2, puts_eval _ _ _ _ (of_decide_eq_true (by kernel_rfl)), if_pos (by decide), pe])
    have HA := hQq hA2
    clear hA2 hA pn pe
    have QR5 := hQq (bX hE QR5'.out); have EX5 := hQq (EW5.out.trans hE)
    clear hE
    obtain ⟨r0, r1, r2, r3, r4, r5, r6, r7, r8, r9⟩ := b10C QR5.out; have fr := fun j => bT QR5.out j; have zr := bL QR5.out
    refine tail_cons rfl ?_
    unfold Oper.wp
    go_simp
    refine tail_cons rfl ?_
    unfold Oper.wp
    go_simp
    unfold tailWp
    rw [HA.out]
    refine hK2 _ _ ?_
    clear e6 en ee hK2 fr zr r0 r1 r2 r3 r4 r5 r6 r7 r8 r9
    simp only [putsA, List.foldl, Act.put, List.setIfInBounds_toArray, List.set_cons_succ, List.set_cons_zero]
    go_meet
    exact ⟨rfl, (put10 QR5.out (by omega) EX5.out rfl).1, (put10 QR5.out (by omega) EX5.out rfl).2⟩
  case rest =>
   obtain ⟨rfl, hq, hx⟩ := hcut
   clear HVA
   obtain ⟨r0, r1, r2, r3, r4, r5, r6, r7, r8, r9⟩ := b10C hq
   go_wp2_with fail
   refine bodyPost_ret (v := .tuple #[.agg #[.int .i64 x.dep, .string x.nm, .int .i64 x.kd, .slice none 0 0, .string x.dat, .int .i64 x.ma, .int .i64 x.mi, .int .i64 x.cl, .bool false, .slice none 0 0], .int .i64 6]) (by simp [results, Tryz.f67, go_sem, bC hq 0, bC hq 1, bC hq 2, bC hq 3, bC hq 4, bC hq 5, bC hq 6, bC hq 7, bC hq 8, bC hq 9]) rfl ?_
   exact ⟨⟨⟨{ x with ats := [] }, false, []⟩, .slice none 0 0, .slice none 0 0, by rw [HE6.out], ⟨_, _, _, rfl⟩, ⟨_, _, _, rfl⟩, fun h => by rw [HE6.out] at h; cases h⟩, hx⟩
 case false =>
 go_upto_region 19 with fail
 go_cut [138] (fun s wx => s = .bool y /\ Ext w5 wx)
 case first =>
  cases k1
  case true =>
   go_wp2_with fail
   go_meet
   exact ⟨by rw [HY.out]; rfl, bR _ _⟩
  case false =>
   cases s0
   case true =>
    go_wp2_with fail
    go_meet
    exact ⟨by rw [HY.out]; rfl, bR _ _⟩
   case false =>
    have bq := bC QB5.out 0; have bz := bL QB5.out
    go_wp2_with fail
    refine (fuHidesT B _ w.heap.size i _ t (HL.out.o.ext EW5.out) (HV.out.ext okT EW5.out) (bC QB5.out 0) (bL QB5.out) HI.out HLE.out HTE.out HSA.out).mono ?_
    rintro e w6 ⟨rfl, hb6⟩
    rw [HAM.out]
    have HB6 := hQq hb6
    clear hb6 HAM
    cases h0 <;> cases am
    all_goals
     go_wp2_with fail
     go_meet
     exact ⟨by rw [HY.out]; rfl, HB6.out⟩
 case rest =>
 obtain ⟨rfl, hx6⟩ := hcut
 have EW6 := hQq (EW5.out.trans hx6); have QR6 := hQq (bX hx6 QR5'.out); have QN6 := hQq (bX hx6 QN5.out); have EP6 := hQq (Ext.trans EP5.out hx6); have HS6 := hQq (HS5.out.ext okS hx6)
 clear hx6 QR5' QN5 QX5 QB5 HY HS5 HAM cx0 cx1 cx2 cx3 cx4 cx5 cx6 cx7 zx
 cases y
 case true =>
  have HE6 := hQq (HH6.out rfl rfl)
  go_upto_region 20 with fail
  go_cut [7] (fun p wx => p = .int .i64 6 /\ wx.heap[w.heap.size + 1]? = some (.cells #[.int .i64 x.dep, .string x.nm, .int .i64 x.kd, .slice none 0 0, .string x.dat, .int .i64 x.ma, .int .i64 x.mi, .int .i64 x.cl, .bool false, .slice none 0 0] 41 (0, 0)) /\ Ext w wx)
  case first =>
   refine wp_region_inv3 (fderF (.agg #[.int .i64 x.dep, .string x.nm, .int .i64 x.kd, .slice none 0 0, .string x.dat, .int .i64 x.ma, .int .i64 x.mi, .int .i64 x.cl, .bool false, .slice none 0 0]) a0) 3 4 rfl (by kernel_rfl) (by kernel_rfl) fderF_mono ?_ ?_
   ·rename_i K1 hK1 J1 K2 hJ1 hK2
    clear hK1 hJ1 hK2 K1 J1
    intro j o a wx hj ho hE hk hp
    have n9 := eV (show a.eval (.tmp 9) = .pointer (some ⟨w.heap.size + 3, 0, none⟩) from hk 9 (of_decide_eq_true (by kernel_rfl)))
    clear hk
    match j, hj, ho, hp with
    | 0, _, ho, hp =>
     obtain rfl := oI ho
     have qx := bX hE QN6.out
     obtain ⟨d0, d1, d2, d3, d4, d5, d6, d7, d8, d9⟩ := b10C qx
     clear ho hp
     unfold Oper.wp; go_simp; exact ⟨_, rfl, rfl, bR _ _⟩
    | 1, _, ho, hp =>
     obtain rfl := oI ho
     have g0 := (HL.out.ext (EW6.out.trans hE)).f.var
     unfold senV at g0
     clear ho hp
     unfold Oper.wp; go_simp; exact ⟨_, rfl, rfl, bR _ _⟩
    | 2, _, ho, hp =>
     obtain rfl := oI ho
     have p1 := eV (show a.eval (.tmp 140) = .iface 328 (.pointer (some a0)) from hp 1 _ 140 (by kernel_rfl) rfl rfl)
     clear ho hp
     unfold Oper.wp; go_simp
     refine (fuNumF a0 b0 e0 _ (HL.out.ext (EW6.out.trans hE))).mono ?_
     rintro e w5 ⟨rfl, rfl⟩
     exact ⟨_, rfl, rfl, bR _ _⟩
    | j + 3, h, _, _ => exact absurd h (by omega)
   ·rename_i K1 hK1 J1 K2 hJ1 hK2
    clear hK1 K1
    intro vs wx hE hf
    generalize hA : putsA _ _ _ = A1
    have pn : vs 139 = .agg #[.int .i64 x.dep, .string x.nm, .int .i64 x.kd, .slice none 0 0, .string x.dat, .int .i64 x.ma, .int .i64 x.mi, .int .i64 x.cl, .bool false, .slice none 0 0] := hf 0 _ 139 (by omega) rfl rfl
    have pe : vs 141 = .int .i64 6 := hf 2 _ 141 (by omega) rfl rfl
    clear hf
    have hA2 := hA.symm.trans (congrArg (fun D => putsA _ D vs) (show dstL _ 3 = [139, 140, 141] by kernel_rfl))
    have e6 := eV (show A1.eval (.tmp 6) = .pointer (some ⟨w.heap.size + 1, 0, none⟩) by rw [hA2, puts_eval _ _ _ _ (of_decide_eq_true (by kernel_rfl)), if_neg (by decide)]; rfl)
    have en := eV (show A1.eval (.tmp 139) = .agg #[.int .i64 x.dep, .string x.nm, .int .i64 x.kd, .slice none 0 0, .string x.dat, .int .i64 x.ma, .int .i64 x.mi, .int .i64 x.cl, .bool false, .slice none 0 0] by rw [hA2, puts_eval _ _ _ _ (of_decide_eq_true (by kernel_rfl)), if_pos (by decide), pn])
    have ee := eV (show A1.eval (.tmp 141) = .int .i64 6 by rw [hA2, puts_eval _ _ _ _ (of_decide_eq_true (by kernel_rfl)), if_pos (by decide), pe])
    have HA := hQq hA2
    clear hA2 hA pn pe
    have QR5 := hQq (bX hE QR6.out); have EX5 := hQq (EW6.out.trans hE)
    clear hE
    obtain ⟨r0, r1, r2, r3, r4, r5, r6, r7, r8, r9⟩ := b10C QR5.out; have fr := fun j => bT QR5.out j; have zr := bL QR5.out
    refine tail_cons rfl ?_
    unfold Oper.wp
    go_simp
    refine tail_cons rfl ?_
    unfold Oper.wp
    go_simp
    unfold tailWp
    rw [HA.out]
    refine hK2 _ _ ?_
    clear e6 en ee hK2 fr zr r0 r1 r2 r3 r4 r5 r6 r7 r8 r9
    simp only [putsA, List.foldl, Act.put, List.setIfInBounds_toArray, List.set_cons_succ, List.set_cons_zero]
    go_meet
    exact ⟨rfl, (put10 QR5.out (by omega) EX5.out rfl).1, (put10 QR5.out (by omega) EX5.out rfl).2⟩
  case rest =>
   obtain ⟨rfl, hq, hx⟩ := hcut
   clear HVA
   obtain ⟨r0, r1, r2, r3, r4, r5, r6, r7, r8, r9⟩ := b10C hq
   go_wp2_with fail
   refine bodyPost_ret (v := .tuple #[.agg #[.int .i64 x.dep, .string x.nm, .int .i64 x.kd, .slice none 0 0, .string x.dat, .int .i64 x.ma, .int .i64 x.mi, .int .i64 x.cl, .bool false, .slice none 0 0], .int .i64 6]) (by simp [results, Tryz.f67, go_sem, bC hq 0, bC hq 1, bC hq 2, bC hq 3, bC hq 4, bC hq 5, bC hq 6, bC hq 7, bC hq 8, bC hq 9]) rfl ?_
   exact ⟨⟨⟨{ x with ats := [] }, false, []⟩, .slice none 0 0, .slice none 0 0, by rw [HE6.out], ⟨_, _, _, rfl⟩, ⟨_, _, _, rfl⟩, fun h => by rw [HE6.out] at h; cases h⟩, hx⟩
 case false =>
 obtain ⟨d0, d1, d2, d3, d4, d5, d6, d7, d8, d9⟩ := b10C QN6.out; have zn := bL QN6.out; have fzn := fun j => bT QN6.out j
 go_upto_region 22 with fail
 refine nW (P := fun W => Code.wp _ _ _ _ W) _ ?_
 intro W7 hW
 obtain ⟨q7, x7, kp7, sz7⟩ := puts3 (w := w) (y3 := .slice a6 (ptsP 2 x.ats).length cap6) (y8 := .bool s0) (y9 := .slice a7 (ftR (ptsO 2 x.ats)).length cap7) QN6.out (by omega) EW6.out hW
 have QN7 := hQq q7; have EW7 := hQq x7
 have AP7 := hQq (attT_keep (HO1.out.ext EP6.out) kp7 (Nat.le_of_eq sz7.symm) QN6.out (by decide))
 have AO7 := hQq (attT_keep (HO2.out.ext EP6.out) kp7 (Nat.le_of_eq sz7.symm) QN6.out (by decide))
 have SR7 := hQq (strIn_keep HS6.out kp7 (Nat.le_of_eq sz7.symm) QN6.out)
 have QR7 := hQq (kp7 _ _ QR6.out (fun e => by injection e with e; omega))
 clear hW q7 x7 kp7 sz7 QN6 QR6 HS6 HO1 HO2 d0 d1 d2 d3 d4 d5 d6 d7 d8 d9 zn fzn
 go_cut [7] (fun p wx => p = .int .i64 (bookE (ptsO 2 x.ats) M) /\ wx.heap[w.heap.size + 1]? = some (.cells #[.int .i64 x.dep, .string x.nm, .int .i64 x.kd, .slice a6 (ptsP 2 x.ats).length cap6, .string x.dat, .int .i64 x.ma, .int .i64 x.mi, .int .i64 x.cl, .bool s0, .slice a7 (ftR (ptsO 2 x.ats)).length cap7] 41 (0, 0)) /\ Ext w wx /\ AttT wx (.slice a6 (ptsP 2 x.ats).length cap6) (ptsP 2 x.ats) /\ StrIn 0 wx (.slice a7 (ftR (ptsO 2 x.ats)).length cap7) (ftR (ptsO 2 x.ats)))
 case first =>
  refine wp_region_inv3 (fdboF (.agg #[.int .i64 x.dep, .string x.nm, .int .i64 x.kd, .slice a6 (ptsP 2 x.ats).length cap6, .string x.dat, .int .i64 x.ma, .int .i64 x.mi, .int .i64 x.cl, .bool s0, .slice a7 (ftR (ptsO 2 x.ats)).length cap7]) v2 M (errV a0 b0 e0 (bookE (ptsO 2 x.ats) M)) (bookE (ptsO 2 x.ats) M)) 5 6 rfl (by kernel_rfl) (by kernel_rfl) fdboF_mono ?_ ?_
  ·rename_i K1 hK1 J1 K2 hJ1 hK2
   clear hK1 hJ1 hK2 K1 J1
   intro j o a wx hj ho hE hk hp
   have n9 := eV (show a.eval (.tmp 9) = .pointer (some ⟨w.heap.size + 3, 0, none⟩) from hk 9 (of_decide_eq_true (by kernel_rfl)))
   have n11 := eV (show a.eval (.tmp 11) = v2 from hk 11 (of_decide_eq_true (by kernel_rfl)))
   have n2 := eV (show a.eval (.tmp 2) = .int .i64 M from hk 2 (of_decide_eq_true (by kernel_rfl)))
   clear hk
   match j, hj, ho, hp with
   | 0, _, ho, hp =>
    obtain rfl := oI ho
    have qx := bX hE QN7.out
    obtain ⟨d0, d1, d2, d3, d4, d5, d6, d7, d8, d9⟩ := b10C qx
    clear ho hp
    unfold Oper.wp; go_simp; exact ⟨_, rfl, rfl, bR _ _⟩
   | 1, _, ho, hp =>
    obtain rfl := oI ho
    clear ho hp
    unfold Oper.wp; go_simp; exact ⟨_, rfl, rfl, bR _ _⟩
   | 2, _, ho, hp =>
    obtain rfl := oI ho
    clear ho hp
    unfold Oper.wp; go_simp; exact ⟨_, rfl, rfl, bR _ _⟩
   | 3, _, ho, hp =>
    obtain rfl := oI ho
    have p1 := eV (show a.eval (.tmp 149) = v2 from hp 1 _ 149 (by kernel_rfl) rfl rfl)
    have p2 := eV (show a.eval (.tmp 150) = .int .i64 M from hp 2 _ 150 (by kernel_rfl) rfl rfl)
    clear ho hp
    unfold Oper.wp; go_simp
    refine (fuBooked a0 b0 e0 _ (ptsO 2 x.ats) M _ (HL.out.ext (EW7.out.trans hE)) (AO7.out.1.ext hE) (oS2 _) (by have := HMB.out; omega)).mono ?_
    rintro e w8 ⟨rfl, hb8⟩
    exact ⟨_, rfl, rfl, hb8⟩
   | 4, _, ho, hp =>
    obtain rfl := oI ho
    have p1 := eV (show a.eval (.tmp 151) = errV a0 b0 e0 (bookE (ptsO 2 x.ats) M) from hp 3 _ 151 (by kernel_rfl) rfl rfl)
    clear ho hp
    unfold Oper.wp; go_simp
    refine (fuNumber a0 b0 e0 _ _ (HL.out.ext (EW7.out.trans hE)) (book_err _ _)).mono ?_
    rintro e w8 ⟨rfl, rfl⟩
    exact ⟨_, rfl, rfl, bR _ _⟩
   | j + 5, h, _, _ => exact absurd h (by omega)
  ·rename_i K1 hK1 J1 K2 hJ1 hK2
   clear hK1 K1
   intro vs wx hE hf
   generalize hA : putsA _ _ _ = A1
   have pn : vs 148 = .agg #[.int .i64 x.dep, .string x.nm, .int .i64 x.kd, .slice a6 (ptsP 2 x.ats).length cap6, .string x.dat, .int .i64 x.ma, .int .i64 x.mi, .int .i64 x.cl, .bool s0, .slice a7 (ftR (ptsO 2 x.ats)).length cap7] := hf 0 _ 148 (by omega) rfl rfl
   have pe : vs 152 = .int .i64 (bookE (ptsO 2 x.ats) M) := hf 4 _ 152 (by omega) rfl rfl
   clear hf
   have hA2 := hA.symm.trans (congrArg (fun D => putsA _ D vs) (show dstL _ 5 = [148, 149, 150, 151, 152] by kernel_rfl))
   have e6 := eV (show A1.eval (.tmp 6) = .pointer (some ⟨w.heap.size + 1, 0, none⟩) by rw [hA2, puts_eval _ _ _ _ (of_decide_eq_true (by kernel_rfl)), if_neg (by decide)]; rfl)
   have en := eV (show A1.eval (.tmp 148) = .agg #[.int .i64 x.dep, .string x.nm, .int .i64 x.kd, .slice a6 (ptsP 2 x.ats).length cap6, .string x.dat, .int .i64 x.ma, .int .i64 x.mi, .int .i64 x.cl, .bool s0, .slice a7 (ftR (ptsO 2 x.ats)).length cap7] by rw [hA2, puts_eval _ _ _ _ (of_decide_eq_true (by kernel_rfl)), if_pos (by decide), pn])
   have ee := eV (show A1.eval (.tmp 152) = .int .i64 (bookE (ptsO 2 x.ats) M) by rw [hA2, puts_eval _ _ _ _ (of_decide_eq_true (by kernel_rfl)), if_pos (by decide), pe])
   have HA := hQq hA2
   clear hA2 hA pn pe
   have QR5 := hQq (bX hE QR7.out); have EX5 := hQq (EW7.out.trans hE); have AX5 := hQq (AP7.out.ext hE); have SX5 := hQq (SR7.out.ext okS hE)
   clear hE
   obtain ⟨r0, r1, r2, r3, r4, r5, r6, r7, r8, r9⟩ := b10C QR5.out; have fr := fun j => bT QR5.out j; have zr := bL QR5.out
   refine tail_cons rfl ?_
   unfold Oper.wp
   go_simp
   refine tail_cons rfl ?_
   unfold Oper.wp
   go_simp
   unfold tailWp
   rw [HA.out]
   refine hK2 _ _ ?_
   clear e6 en ee hK2 fr zr r0 r1 r2 r3 r4 r5 r6 r7 r8 r9
   simp only [putsA, List.foldl, Act.put, List.setIfInBounds_toArray, List.set_cons_succ, List.set_cons_zero]
   go_meet
   exact ⟨rfl, fdEnd QR5.out (by omega) EX5.out AX5.out SX5.out⟩
 case rest =>
  obtain ⟨rfl, hq, hx, ha, hs⟩ := hcut
  have AF := hQq ha; have SF := hQq hs
  clear ha hs HVA
  obtain ⟨r0, r1, r2, r3, r4, r5, r6, r7, r8, r9⟩ := b10C hq
  go_wp2_with fail
  refine bodyPost_ret (v := .tuple #[.agg #[.int .i64 x.dep, .string x.nm, .int .i64 x.kd, .slice a6 (ptsP 2 x.ats).length cap6, .string x.dat, .int .i64 x.ma, .int .i64 x.mi, .int .i64 x.cl, .bool s0, .slice a7 (ftR (ptsO 2 x.ats)).length cap7], .int .i64 (bookE (ptsO 2 x.ats) M)]) (by simp [results, Tryz.f67, go_sem, bC hq 0, bC hq 1, bC hq 2, bC hq 3, bC hq 4, bC hq 5, bC hq 6, bC hq 7, bC hq 8, bC hq 9]) rfl ?_
  have HE := hQq (HBK.out (by first | rfl | trivial) (by first | rfl | trivial))
  exact ⟨⟨⟨{ x with ats := ptsP 2 x.ats }, s0, ftR (ptsO 2 x.ats)⟩, _, _, by rw [HE.out], ⟨_, _, _, rfl⟩, ⟨_, _, _, rfl⟩, fun _ => ⟨HX0.out.symm, AF.out, SF.out⟩⟩, hx⟩
end Go.Proofs.YtimpejaaeinplaaGreatDoor
