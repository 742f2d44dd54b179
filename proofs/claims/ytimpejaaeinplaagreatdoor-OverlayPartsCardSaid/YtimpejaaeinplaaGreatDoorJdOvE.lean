/- OvE AwkO -/
import Derived.Test.YtimpejaaeinplaaGreatDoorJI5
import Derived.Test.YtimpejaaeinplaaGreatDoorJdFarO
namespace Go.Proofs.YtimpejaaeinplaaGreatDoor
open Go.RowKit
set_option maxRecDepth 100000 in
set_option maxHeartbeats 8000000 in
theorem ovEncode (B : Nat) (w : World) (v : Value) (b : List BrN) (hL : LaidO w) (hb : BrIn B w v b) (hsm : SmallB b) :
  Calls Tryz.prog 39 #[v] w (OencP w b) := by
 obtain ⟨aa, cap, rfl⟩ := hb.form
 have HV := hQq hb; have HL := hQq hL; have HSM := hQq hsm
 have hlen := hsm.len
 clear hb hL hsm
 by_cases he : brEr b = 0
 case neg =>
  have HR := hQq (oe_of (gen_br (E := oeE b) (X := oeX b) he))
  have q1 : (brEr b != 0) = true := bne_iff_ne.2 he
  clear he
  go_enter Tryz.func39, Tryz.ntmps39
  go_wp2_with (go_at_call 49; refine (brCheck B _ _ b HV.out HSM.out).mono ?_; rintro e w1 ⟨rfl, hb1⟩; have HB1 := hQq hb1; clear hb1)
  go_ret3
  exact ⟨⟨w.heap.size, none, 0, 0, Nat.le_refl _, by rw [HR.out.2.1, HR.out.2.2]; rfl, by rw [HR.out.1]; exact OwnL.nil _ _ _⟩, HB1.out⟩
 have HE0 := hQq he
 have HSA := hQq (fun k hk => small_br he (k := k) hk)
 have q1 : (brEr b != 0) = false := bne_eq_false_iff_eq.2 he
 have HPL := hQq (plT_len b)
 clear he
 go_enter Tryz.func39, Tryz.ntmps39
 go_wp2_with (first
  | (go_at_call 49; refine (brCheck B _ _ b HV.out HSM.out).mono ?_; rintro e w1 ⟨rfl, hb1⟩; have HB1 := hQq hb1; clear hb1)
  | (go_at_call 50; refine (brTree B _ _ b (HV.out.ext okB HB1.out) hlen HSM.out.ats).mono ?_; rintro e w2 ⟨⟨a5, cap5, rfl, ho⟩, hb2⟩; have HO := hQq ho; have HB2 := hQq (Ext.trans HB1.out hb2); clear ho hb2)
  | (go_at_call 107; refine (ovNames w1.heap.size _ (plT b) _ (HO.out.in okT) (by rw [HPL.out]; omega)).mono ?_; rintro e w3 ⟨⟨bm, nm, rfl, hm, hbm⟩, hb3⟩; have HM := hQq hm; have HT3 := hQq ((HO.out.in okT).ext okT hb3); have HB3 := hQq (Ext.trans HB2.out hb3); have HV3 := hQq (HV.out.ext okB HB3.out); clear hm hbm hb3))
 go_loopw [2, 26] (fun o c w' => ∃ (wi : World) (k : Nat), wi = w' /\ k <= b.length /\ c = .int .i64 k /\ OwnL cdT w3.heap.size wi o ((List.range k).map (oeX b)) /\ (∀ j, j < k -> oeE b j = 0) /\ Ext w3 wi) (fun _ c _ => b.length - (intOf c).toNat)
 case atStart => exact ⟨_, 0, rfl, Nat.zero_le _, rfl, OwnL.nil _ _ _, fun j hj => absurd hj (by omega), bR _ _⟩
 case round =>
  obtain ⟨wi, k, rfl, hk, rfl, ho, hok, hE⟩ := hrel
  have HO5 := hQq ho; have HE := hQq hE; have HOK := hQq hok
  obtain ⟨a7, cap7, rfl⟩ := ho.form
  have HQK : Hid (((List.range k).map (oeX b)).length = k) := hQq (by simp)
  clear hok ho
  rw [HQK.out] at HO5 ⊢
  by_cases hlt : k < b.length
  case neg =>
   obtain rfl : k = b.length := by omega
   have HR := hQq (oe_of (gen_ok (E := oeE b) (X := oeX b) HE0.out HOK.out))
   clear hE
   go_wp2
   go_ret3
   exact ⟨⟨w3.heap.size, _, _, _, HB3.out.size, by rw [HR.out.2.1, HR.out.2.2]; rfl, by rw [HR.out.1]; exact HO5.out⟩, HB3.out.trans HE.out⟩
  have HVI := hQq (HV3.out.ext okB HE.out)
  have HTI := hQq (HT3.out.ext okT HE.out)
  obtain ⟨bb, off, va, vr, hex, hbx, hva, hvr, c0, c1, c2, c3, c4, c5, c6, c7, c8, c9⟩ := HVI.out.br k hlt
  cases hex
  have HBX := hQq hbx
  obtain ⟨tb, toff, ta, htx, htb, hta, t0, t1, t2, t3, t4, t5, t6, t7⟩ := HTI.out.tr k (by rw [HPL.out]; exact hlt)
  cases htx
  obtain ⟨a4, cap4, rfl⟩ := hvr.form
  obtain ⟨a3, cap3, rfl⟩ := hta.form
  have hxk : ∀ h', (plT b)[k]'h' = (b[k]'hlt).toTrN := fun h' => by simp [plT]
  rw [hxk] at hta t0 t1 t2 t3 t4 t5 t6 t7
  have HG := hQq (getB_at b k hlt)
  have HSX := hQq (HSA.out k hlt)
  have HRX := hQq (HSM.out.red _ (List.getElem_mem hlt))
  have HTS : Hid ((List.range (k + 1)).map (oeX b) = (List.range k).map (oeX b) ++ [oeX b k]) := hQq (by rw [List.range_succ, List.map_append]; rfl)
  have HVR := hQq hvr; have HTA := hQq hta
  clear c0 c1 c2 c3 c4 c5 c6 c7 hva hvr hta hxk
  generalize b[k]'hlt = x at c8 c9 t0 t1 t2 t3 t4 t5 t6 t7 HVR HTA HG HSX HRX
  have j1 : ((k : Nat) : Int) < (b.length : Int) := by omega
  have j0 : (0 : Int) <= (k : Int) := by omega
  clear hE
  by_cases h5 : x.kd = 5
  ·have q2 : (x.kd == 5) = true := beq_iff_eq.2 h5
   have HW := hQq (oe_white HG.out h5)
   have HN : Hid (∀ j, j < k + 1 -> oeE b j = 0) := hQq (fun j hj => by
    by_cases e : j = k
    ·subst e; exact HW.out.1
    ·exact HOK.out j (by omega))
   clear h5
   go_upto_region 16 with fail
   refine nW (P := fun W => Code.wp _ _ _ _ W) _ ?_
   intro W hW
   have hW2 : W = wi.alloc (.cells #[.int .i64 x.dep, .string x.nm, .int .i64 4, .slice none 0 0, .string ⟨#[]⟩, .int .i64 0, .int .i64 0, .int .i64 0] 43 (0, 0)) := hW
   have HXW := hQq (show Ext wi W from by rw [hW2]; exact eA _ _)
   have HQW := hQq (show W.heap[wi.heap.size]? = some (.cells #[.int .i64 x.dep, .string x.nm, .int .i64 4, .slice none 0 0, .string ⟨#[]⟩, .int .i64 0, .int .i64 0, .int .i64 0] 43 (0, 0)) from by rw [hW2]; exact bN wi _)
   clear hW hW2
   obtain ⟨y0, y1, y2, y3, y4, y5, y6, y7⟩ := b8C HQW.out
   go_wp2_with (at_builtin; refine appL okT rfl (.tmp 70) (.tmp 72) rfl _ _ ((List.range k).map (oeX b)) [oeX b k] w3 _ rfl rfl (by exact HO5.out.ext okT (HXW.out.trans (eA _ _))) (by refine listIn_new okT _ (oeX b k) _ _ rfl ?_; rw [HW.out.2]; exact ⟨_, attIn_nil _ _ 0, rfl⟩) (by exact (HE.out.trans HXW.out).trans (eA _ _)) (by have := ((HE.out.trans HXW.out).trans (eA W (.cells #[] 0))).size; simp at this ⊢; omega) (by rw [HQK.out]; simp; omega) ?_; intro v5 w5 ha; have HA := hQq ha; clear ha)
   go_roundw
   case rel => exact ⟨_, k + 1, rfl, by omega, by go_num, by rw [HTS.out]; exact HA.out.own, HN.out, HA.out.below⟩
   case measure => first | (simp [intOf]; done) | (simp [intOf]; omega)
  have q2 : (x.kd == 5) = false := nB h5
  have h5' := h5
  clear h5
  by_cases hz : zeroB x.toTrN = true
  ·have HEE := hQq (oe_dev HG.out h5' hz)
   have HZB := hQq hz
   have HR := hQq (oe_of (gen_node (E := oeE b) (X := oeX b) HE0.out hlt HOK.out (by rw [HEE.out]; decide)))
   clear hz h5'
   go_wp2_with (go_at_call 108; refine (ovZero x.toTrN _ ⟨_, _, _, rfl⟩ _).mono ?_; rintro e w4 ⟨rfl, hb4⟩; rw [HZB.out]; have HXB := hQq (bX hb4 (bN wi (.cells #[.int .i64 x.dep, .string x.nm, .int .i64 x.kd, .slice a3 x.ats.length cap3, .string x.dat, .int .i64 x.ma, .int .i64 x.mi, .int .i64 x.cl] 43 (0, 0)))); have HB4 := hQq ((eA wi _).trans hb4); clear hb4; obtain ⟨y0, y1, y2, y3, y4, y5, y6, y7⟩ := b8C HXB.out)
   go_ret3
   exact ⟨⟨w.heap.size, none, 0, 0, Nat.le_refl _, by rw [HR.out.2.1, HR.out.2.2, HEE.out]; rfl, by rw [HR.out.1]; exact OwnL.nil _ _ _⟩, HB3.out.trans (HE.out.trans HB4.out)⟩
  have hz' : zeroB x.toTrN = false := by
   cases h : zeroB x.toTrN
   ·rfl
   ·exact absurd h hz
  have HND := hQq (oe_node HG.out h5' hz')
  have HZB := hQq hz'
  clear hz hz' h5'
  have hM := many_bd (plT b) x.cl
  rw [HPL.out] at hM
  have HLK := hQq (fun W (hW : Ext w3 W) => ((HM.out.ext hW).look keyInt mapT_count (zeroInt _) x.cl false))
  have HMM := hQq (mnF_look (plT b) x.cl)
  generalize hMg : manyT (plT b) x.cl = M at HND hM HMM
  have HMB : Hid (M <= 1000000) := hQq (by omega)
  clear hM hMg
  go_upto_region 9 with (go_at_call 108; refine (ovZero x.toTrN _ ⟨_, _, _, rfl⟩ _).mono ?_; rintro e w4 ⟨rfl, hb4⟩; rw [HZB.out]; have HXB := hQq (bX hb4 (bN wi (.cells #[.int .i64 x.dep, .string x.nm, .int .i64 x.kd, .slice a3 x.ats.length cap3, .string x.dat, .int .i64 x.ma, .int .i64 x.mi, .int .i64 x.cl] 43 (0, 0)))); have HB4 := hQq ((eA wi _).trans hb4); clear hb4; obtain ⟨y0, y1, y2, y3, y4, y5, y6, y7⟩ := b8C HXB.out)
  go_cut [4] (fun p wx => p = .int .i64 (mwE 1 x.ats (ovM x.opq x.red M)) /\ ∃ a' c', wx.heap[wi.heap.size]? = some (.cells #[.int .i64 x.dep, .string x.nm, .int .i64 x.kd, .slice a' (mwL 1 x.ats (ovM x.opq x.red M)).length c', .string x.dat, .int .i64 x.ma, .int .i64 x.mi, .int .i64 x.cl] 43 (0, 0)) /\ AttT wx (.slice a' (mwL 1 x.ats (ovM x.opq x.red M)).length c') (mwL 1 x.ats (ovM x.opq x.red M)) /\ Ext wi wx)
  case first =>
   refine wp_region_box (RbR wi.heap.size) (oencG wi.heap.size x.toTrN (.slice a3 x.ats.length cap3) (mwL 1 x.ats (ovM x.opq x.red M))) (oencF wi.heap.size bb (off + k * 10) k bm (.slice a3 x.ats.length cap3) (.slice a4 x.red.length cap4) (.slice (some ⟨bb, off, none⟩) b.length cap) x.opq x.cl M (mksV (optS x.opq) (redS x.red) (linkS M)) (mwE 1 x.ats (ovM x.opq x.red M)) (mwL 1 x.ats (ovM x.opq x.red M))) 22 rfl (by kernel_rfl) (by kernel_rfl) (by kernel_rfl) (rb_ext (Nat.le_of_lt (bL HXB.out)) (eD w4)) (bX (eD w4) HXB.out) (fun _ _ _ => RbR.trans) oencF_mono ?_ ?_
   ·rename_i K1 hK1 J1 K2 hJ1 hK2
    clear hK1 hJ1 hK2 K1 J1
    intro i o a wx z ho hR hG hz hk hp
    have EX : Ext wi wx := Below.trans HB4.out hR.below
    have fin := oencG_fin hG
    have HGH := hQq hG
    clear hG
    have n0 := eV (show a.eval (.tmp 0) = .slice (some ⟨bb, off, none⟩) b.length cap from hk 0 (of_decide_eq_true (by kernel_rfl)))
    have n8 := eV (show a.eval (.tmp 8) = .map (some bm) from hk 8 (of_decide_eq_true (by kernel_rfl)))
    have n9 := eV (show a.eval (.tmp 9) = .int .i64 k from hk 9 (of_decide_eq_true (by kernel_rfl)))
    have n10 := eV (show a.eval (.tmp 10) = .pointer (some ⟨wi.heap.size, 0, none⟩) from hk 10 (of_decide_eq_true (by kernel_rfl)))
    clear hk
    match i, ho, hz, hp with
    | 0, ho, hz, hp =>
     obtain rfl := oI ho
     clear ho hp hz
     unfold Oper.wp; go_simp; exact ⟨_, rfl, rfl, (fin _ (bR _ _)).1, (fin _ (bR _ _)).2⟩
    | 1, ho, hz, hp =>
     obtain rfl := oI ho
     have p32 := eV (show a.eval (.tmp 32) = .pointer (some ⟨wi.heap.size, 3, none⟩) from hp 0 _ 32 (by kernel_rfl) rfl rfl)
     obtain rfl : z = false := by
      cases z
      ·rfl
      ·exact absurd ((show edgeB _ 22 1 = true by kernel_rfl).symm.trans (hz rfl).2) (by decide)
     clear ho hp hz
     have d3 := bC HGH.out 3; have d7 := bC HGH.out 7
     unfold Oper.wp; go_simp; exact ⟨_, rfl, rfl, (fin _ (bR _ _)).1, (fin _ (bR _ _)).2⟩
    | 2, ho, hz, hp =>
     obtain rfl := oI ho
     clear ho hp hz
     unfold Oper.wp; go_simp; exact ⟨_, rfl, rfl, (fin _ (bR _ _)).1, (fin _ (bR _ _)).2⟩
    | 3, ho, hz, hp =>
     obtain rfl := oI ho
     clear ho hp hz
     unfold Oper.wp; go_simp; exact ⟨_, rfl, rfl, (fin _ (bR _ _)).1, (fin _ (bR _ _)).2⟩
    | 4, ho, hz, hp =>
     obtain rfl := oI ho
     have p34 := eV (show a.eval (.tmp 34) = .slice (some ⟨bb, off, none⟩) b.length cap from hp 2 _ 34 (by kernel_rfl) rfl rfl)
     have p35 := eV (show a.eval (.tmp 35) = .int .i64 k from hp 3 _ 35 (by kernel_rfl) rfl rfl)
     clear ho hp hz
     unfold Oper.wp; go_simp; exact ⟨_, rfl, rfl, (fin _ (bR _ _)).1, (fin _ (bR _ _)).2⟩
    | 5, ho, hz, hp =>
     obtain rfl := oI ho
     have p36 := eV (show a.eval (.tmp 36) = .pointer (some ⟨bb, off + k * 10, none⟩) from hp 4 _ 36 (by kernel_rfl) rfl rfl)
     clear ho hp hz
     unfold Oper.wp; go_simp; exact ⟨_, rfl, rfl, (fin _ (bR _ _)).1, (fin _ (bR _ _)).2⟩
    | 6, ho, hz, hp =>
     obtain rfl := oI ho
     have p37 := eV (show a.eval (.tmp 37) = .pointer (some ⟨bb, off + k * 10 + 8, none⟩) from hp 5 _ 37 (by kernel_rfl) rfl rfl)
     clear ho hp hz
     have c := (eC EX HBX.out).trans c8
     unfold Oper.wp; go_simp; exact ⟨_, rfl, rfl, (fin _ (bR _ _)).1, (fin _ (bR _ _)).2⟩
    | 7, ho, hz, hp =>
     obtain rfl := oI ho
     clear ho hp hz
     unfold Oper.wp; go_simp; exact ⟨_, rfl, rfl, (fin _ (bR _ _)).1, (fin _ (bR _ _)).2⟩
    | 8, ho, hz, hp =>
     obtain rfl := oI ho
     clear ho hp hz
     unfold Oper.wp; go_simp; exact ⟨_, rfl, rfl, (fin _ (bR _ _)).1, (fin _ (bR _ _)).2⟩
    | 9, ho, hz, hp =>
     obtain rfl := oI ho
     have p39 := eV (show a.eval (.tmp 39) = .slice (some ⟨bb, off, none⟩) b.length cap from hp 7 _ 39 (by kernel_rfl) rfl rfl)
     have p40 := eV (show a.eval (.tmp 40) = .int .i64 k from hp 8 _ 40 (by kernel_rfl) rfl rfl)
     clear ho hp hz
     unfold Oper.wp; go_simp; exact ⟨_, rfl, rfl, (fin _ (bR _ _)).1, (fin _ (bR _ _)).2⟩
    | 10, ho, hz, hp =>
     obtain rfl := oI ho
     have p41 := eV (show a.eval (.tmp 41) = .pointer (some ⟨bb, off + k * 10, none⟩) from hp 9 _ 41 (by kernel_rfl) rfl rfl)
     clear ho hp hz
     unfold Oper.wp; go_simp; exact ⟨_, rfl, rfl, (fin _ (bR _ _)).1, (fin _ (bR _ _)).2⟩
    | 11, ho, hz, hp =>
     obtain rfl := oI ho
     have p42 := eV (show a.eval (.tmp 42) = .pointer (some ⟨bb, off + k * 10 + 9, none⟩) from hp 10 _ 42 (by kernel_rfl) rfl rfl)
     clear ho hp hz
     have c := (eC EX HBX.out).trans c9
     unfold Oper.wp; go_simp; exact ⟨_, rfl, rfl, (fin _ (bR _ _)).1, (fin _ (bR _ _)).2⟩
    | 12, ho, hz, hp =>
     obtain rfl := oI ho
     clear ho hp hz
     unfold Oper.wp; go_simp; exact ⟨_, rfl, rfl, (fin _ (bR _ _)).1, (fin _ (bR _ _)).2⟩
    | 13, ho, hz, hp =>
     obtain rfl := oI ho
     clear ho hp hz
     unfold Oper.wp; go_simp; exact ⟨_, rfl, rfl, (fin _ (bR _ _)).1, (fin _ (bR _ _)).2⟩
    | 14, ho, hz, hp =>
     obtain rfl := oI ho
     have p45 := eV (show a.eval (.tmp 45) = .pointer (some ⟨wi.heap.size, 7, none⟩) from hp 13 _ 45 (by kernel_rfl) rfl rfl)
     obtain rfl : z = false := by
      cases z
      ·rfl
      ·exact absurd ((show edgeB _ 22 14 = true by kernel_rfl).symm.trans (hz rfl).2) (by decide)
     clear ho hp hz
     have d3 := bC HGH.out 3; have d7 := bC HGH.out 7
     unfold Oper.wp; go_simp; exact ⟨_, rfl, rfl, (fin _ (bR _ _)).1, (fin _ (bR _ _)).2⟩
    | 15, ho, hz, hp =>
     obtain rfl := oI ho
     have p44 := eV (show a.eval (.tmp 44) = .map (some bm) from hp 12 _ 44 (by kernel_rfl) rfl rfl)
     have p46 := eV (show a.eval (.tmp 46) = .int .i64 x.cl from hp 14 _ 46 (by kernel_rfl) rfl rfl)
     clear ho hp hz
     have lk := HLK.out wx (HE.out.trans EX)
     rw [if_neg Bool.false_ne_true, HMM.out] at lk
     unfold kI at lk
     unfold Oper.wp; go_simp; exact ⟨_, rfl, rfl, (fin _ (bR _ _)).1, (fin _ (bR _ _)).2⟩
    | 16, ho, hz, hp =>
     obtain rfl := oI ho
     have p38 := eV (show a.eval (.tmp 38) = .bool x.opq from hp 6 _ 38 (by kernel_rfl) rfl rfl)
     have p43 := eV (show a.eval (.tmp 43) = .slice a4 x.red.length cap4 from hp 11 _ 43 (by kernel_rfl) rfl rfl)
     have p47 := eV (show a.eval (.tmp 47) = .int .i64 M from hp 15 _ 47 (by kernel_rfl) rfl rfl)
     clear ho hp hz
     unfold Oper.wp; go_simp
     refine (ovOf x.opq _ x.red M _ (HL.out.ext (HB3.out.trans (HE.out.trans EX))) ((HVR.out.ext okS EX).strs) HMB.out (by have := HRX.out.1; omega)).mono ?_
     rintro e w5 ⟨rfl, hb5⟩
     exact ⟨_, rfl, rfl, (fin _ hb5).1, (fin _ hb5).2⟩
    | 17, ho, hz, hp =>
     obtain rfl := oI ho
     have p33 := eV (show a.eval (.tmp 33) = .slice a3 x.ats.length cap3 from hp 1 _ 33 (by kernel_rfl) rfl rfl)
     have p48 := eV (show a.eval (.tmp 48) = mksV (optS x.opq) (redS x.red) (linkS M) from hp 16 _ 48 (by kernel_rfl) rfl rfl)
     clear ho hp hz
     unfold Oper.wp; go_simp
     refine (ovWrite _ x.ats _ _ _ _ (HL.out.ext (HB3.out.trans (HE.out.trans EX))) ((HTA.out.ext okA EX).attrs) HSX.out (optS_size _) (redS_size _) (linkS_size (by have := HMB.out; omega))).mono ?_
     rintro e w5 ⟨⟨v5, rfl, h5⟩, hb5⟩
     obtain ⟨a6, c6, rfl, -, -⟩ := h5.1
     exact ⟨_, rfl, ⟨_, _, rfl, h5, oencG_blk (fin _ hb5).2⟩, (fin _ hb5).1, (fin _ hb5).2⟩
    | 18, ho, hz, hp =>
     obtain rfl := oI ho
     obtain ⟨ar, cr, h2, h3⟩ : ∃ ar cr, a.eval (.tmp 49) = .tuple #[.slice ar (mwL 1 x.ats (ovM x.opq x.red M)).length cr, .int .i64 (mwE 1 x.ats (ovM x.opq x.red M))] /\ AttT wx (.slice ar (mwL 1 x.ats (ovM x.opq x.red M)).length cr) (mwL 1 x.ats (ovM x.opq x.red M)) /\ ∃ cs, wx.heap[wi.heap.size]? = some (.cells cs 43 (0, 0)) := hp 17 _ 49 (by kernel_rfl) rfl rfl
     have p1 := eV h2
     clear h2
     clear ho hp hz
     unfold Oper.wp; go_simp; exact ⟨_, rfl, ⟨_, _, rfl, h3⟩, (fin _ (bR _ _)).1, (fin _ (bR _ _)).2⟩
    | 19, ho, hz, hp =>
     obtain rfl := oI ho
     obtain ⟨ar, cr, h2, h3⟩ : ∃ ar cr, a.eval (.tmp 31) = .tuple #[.slice ar (mwL 1 x.ats (ovM x.opq x.red M)).length cr, .int .i64 (mwE 1 x.ats (ovM x.opq x.red M))] /\ AttT wx (.slice ar (mwL 1 x.ats (ovM x.opq x.red M)).length cr) (mwL 1 x.ats (ovM x.opq x.red M)) /\ ∃ cs, wx.heap[wi.heap.size]? = some (.cells cs 43 (0, 0)) := hp 18 _ 31 (by kernel_rfl) rfl rfl
     have p1 := eV h2
     clear h2
     clear ho hp hz
     unfold Oper.wp; go_simp; exact ⟨_, rfl, ⟨_, _, rfl, h3⟩, (fin _ (bR _ _)).1, (fin _ (bR _ _)).2⟩
    | 20, ho, hz, hp =>
     obtain rfl := oI ho
     obtain ⟨ar, cr, h2, h3⟩ : ∃ ar cr, a.eval (.tmp 31) = .tuple #[.slice ar (mwL 1 x.ats (ovM x.opq x.red M)).length cr, .int .i64 (mwE 1 x.ats (ovM x.opq x.red M))] /\ AttT wx (.slice ar (mwL 1 x.ats (ovM x.opq x.red M)).length cr) (mwL 1 x.ats (ovM x.opq x.red M)) /\ ∃ cs, wx.heap[wi.heap.size]? = some (.cells cs 43 (0, 0)) := hp 18 _ 31 (by kernel_rfl) rfl rfl
     have p1 := eV h2
     clear h2
     clear ho hp hz
     unfold Oper.wp; go_simp; exact ⟨_, rfl, rfl, (fin _ (bR _ _)).1, (fin _ (bR _ _)).2⟩
    | 21, ho, hz, hp =>
     obtain rfl := oI ho
     clear ho hp hz
     unfold Oper.wp; go_simp; exact ⟨_, rfl, rfl, (fin _ (bR _ _)).1, (fin _ (bR _ _)).2⟩
    | 22, ho, hz, hp =>
     obtain rfl := oI ho
     obtain ⟨ar, cr, h2, h3, -⟩ : ∃ ar cr, a.eval (.tmp 50) = .slice ar (mwL 1 x.ats (ovM x.opq x.red M)).length cr /\ AttT wx (.slice ar (mwL 1 x.ats (ovM x.opq x.red M)).length cr) (mwL 1 x.ats (ovM x.opq x.red M)) /\ ∃ cs, wx.heap[wi.heap.size]? = some (.cells cs 43 (0, 0)) := hp 19 _ 50 (by kernel_rfl) rfl rfl
     have p50 := eV h2
     have p52 := eV (show a.eval (.tmp 52) = .pointer (some ⟨wi.heap.size, 3, none⟩) from hp 21 _ 52 (by kernel_rfl) rfl rfl)
     clear h2
     obtain rfl : z = false := by
      cases z
      ·rfl
      ·exact absurd rfl (hz rfl).1
     clear ho hp hz fin
     have d3 := bC HGH.out 3; have fz := fun j => bT HGH.out j; have z2 := bL HGH.out
     unfold Oper.wp; go_simp
     exact ⟨⟨undef, trivial⟩, rb_set HGH.out _, ar, cr, (encEnd HGH.out EX h3).1, (encEnd HGH.out EX h3).2.1⟩
    | 23, ho, hz, hp =>
     obtain rfl := oI ho
     have p51 := eV (show a.eval (.tmp 51) = .int .i64 (mwE 1 x.ats (ovM x.opq x.red M)) from hp 20 _ 51 (by kernel_rfl) rfl rfl)
     clear ho hp hz
     unfold Oper.wp; go_simp; exact ⟨_, rfl, rfl, (fin _ (bR _ _)).1, (fin _ (bR _ _)).2⟩
    | i + 24, ho, _, _ => exact absurd (Array.getElem?_eq_some_iff.1 ho).1 (by simp)
   ·rename_i K1 hK1 J1 K2 hJ1 hK2
    clear hK1 K1
    intro vs wx hR hG hf
    generalize hA : putsA _ _ _ = A1
    have p4 : vs 4 = .int .i64 (mwE 1 x.ats (ovM x.opq x.red M)) := hf 23 _ 4 rfl rfl
    clear hf
    have hA2 := hA.symm.trans (congrArg (fun D => putsA _ D vs) (show dstL _ 24 = [32, 33, 34, 35, 36, 37, 38, 39, 40, 41, 42, 43, 44, 45, 46, 47, 48, 49, 31, 50, 51, 52, 4] by kernel_rfl))
    have EX : Ext wi wx := Below.trans HB4.out hR.below
    obtain ⟨ar, cr, hq, ha⟩ := hG
    rw [hA2]
    refine hK2 _ _ ?_
    clear hK2 hA2 hA
    simp only [putsA, List.foldl, Act.put, List.setIfInBounds_toArray, List.set_cons_succ, List.set_cons_zero]
    go_meet
    exact ⟨p4, ar, cr, hq, ha, EX⟩
  case rest =>
   obtain ⟨rfl, a8, c8', hq, ha, hEx⟩ := hcut
   have QB := hQq hq; have AB := hQq ha; have EB := hQq hEx
   clear hq ha hEx
   obtain ⟨y0, y1, y2, y3, y4, y5, y6, y7⟩ := b8C QB.out
   by_cases hw : (mwE 1 x.ats (ovM x.opq x.red M)) = 0
   ·have q3 : ((mwE 1 x.ats (ovM x.opq x.red M)) != 0) = false := bne_eq_false_iff_eq.2 hw
    have HN : Hid (∀ j, j < k + 1 -> oeE b j = 0) := hQq (fun j hj => by
     by_cases e : j = k
     ·subst e; rw [HND.out.1]; exact hw
     ·exact HOK.out j (by omega))
    clear hw
    go_wp2_with (at_builtin; refine appL okT rfl (.tmp 70) (.tmp 72) rfl _ _ ((List.range k).map (oeX b)) [oeX b k] w3 _ rfl rfl (by exact HO5.out.ext okT (EB.out.trans (eA _ _))) (by refine listIn_new okT _ (oeX b k) _ _ rfl ?_; rw [HND.out.2]; exact ⟨_, attT_in AB.out, rfl⟩) (by exact (HE.out.trans EB.out).trans (eA _ _)) (by have := ((HE.out.trans EB.out).trans (eA _ (.cells #[] 0))).size; simp at this ⊢; omega) (by rw [HQK.out]; simp; omega) ?_; intro v5 w5 ha; have HA := hQq ha; clear ha)
    go_roundw
    case rel => exact ⟨_, k + 1, rfl, by omega, by go_num, by rw [HTS.out]; exact HA.out.own, HN.out, HA.out.below⟩
    case measure => first | (simp [intOf]; done) | (simp [intOf]; omega)
   ·have q3 : ((mwE 1 x.ats (ovM x.opq x.red M)) != 0) = true := bne_iff_ne.2 hw
    have HR := hQq (oe_of (gen_node (E := oeE b) (X := oeX b) HE0.out hlt HOK.out (by rw [HND.out.1]; exact hw)))
    clear hw
    go_wp2
    go_ret3
    exact ⟨⟨w.heap.size, none, 0, 0, Nat.le_refl _, by rw [HR.out.2.1, HR.out.2.2, HND.out.1]; rfl, by rw [HR.out.1]; exact OwnL.nil _ _ _⟩, HB3.out.trans (HE.out.trans EB.out)⟩
theorem ovCan (B : Nat) (w : World) (v : Value) (b : List BrN) (hL : LaidO w) (hb : BrIn B w v b) (hsm : SmallB b) :
  RetB Tryz.prog 106 #[v] w (.tuple #[.int .i64 (oeN b), .int .i64 (oeF b)]) := by
 unfold RetB
 have HV := hQq hb; have HL := hQq hL; have HSM := hQq hsm
 clear hb hL hsm
 go_enter Tryz.func106, Tryz.ntmps106
 go_wp2_with (go_at_call 39; refine (ovEncode B _ _ b HL.out HV.out HSM.out).mono ?_; rintro e w1 ⟨⟨B', a, n, c, _, rfl, _⟩, hb1⟩; have HB1 := hQq hb1; clear hb1)
 go_ret2
 exact ⟨rfl, HB1.out⟩
theorem law21one (n v : ByteArray) (w : World) : Calls Tryz.prog 104 #[.string n, .string v] w fun e w' => e = .returned (.slice (some ⟨w.heap.size, 0, none⟩) 1 1) /\ w' = w.alloc (.cells #[.string n, .string v] 45) := by
 go_enter Tryz.func104, Tryz.ntmps104
 go_wp2
 go_ret
 exact ⟨rfl, rfl⟩
set_option maxRecDepth 100000 in
set_option maxHeartbeats 4000000 in
theorem law21Example (w : World) : Calls Tryz.prog 101 #[] w (NewL cdB w 6 exO) := by
 go_enter Tryz.func101, Tryz.ntmps101
 go_wp2
 go_ret
 have hn : ∀ W : World, AttIn w.heap.size W (.slice none 0 0) [] := fun W => attIn_nil _ _ _
 have hz : ∀ W : World, StrIn w.heap.size W (.slice none 0 0) [] := fun W => ListIn.nil _ _ _ _
 have hs : ((w.alloc (.cells #[.string ⟨#[116, 114, 117, 115, 116, 101, 100, 46, 111, 118, 101, 114, 108, 97, 121, 46, 120]⟩, .string ⟨#[]⟩] 45)).alloc (.cells #[.string ⟨#[111, 108, 100]⟩] 9)).heap.size = w.heap.size + 1 + 1 := by simp
 refine ⟨⟨_, _, rfl, ⟨[brC (getB exO 0) (.slice (some ⟨w.heap.size, 0, none⟩) 1 1) (.slice none 0 0), brC (getB exO 1) (.slice none 0 0) (.slice none 0 0), brC (getB exO 2) (.slice none 0 0) (.slice none 0 0), brC (getB exO 3) (.slice none 0 0) (.slice (some ⟨w.heap.size + 1, 0, none⟩) 1 1), brC (getB exO 4) (.slice none 0 0) (.slice none 0 0), brC (getB exO 5) (.slice none 0 0) (.slice none 0 0)], rfl, fun k h h' => ?_, ?_⟩, by omega, by simp⟩, ((eA _ _).trans (eA _ _)).trans (eA _ _)⟩
 ·match k, h with
  | 0, _ => exact ⟨_, _, one_in w _ _ _ _ rfl ((eA _ _).trans (eA _ _)) _, hz _, rfl⟩
  | 1, _ => exact ⟨_, _, hn _, hz _, rfl⟩
  | 2, _ => exact ⟨_, _, hn _, hz _, rfl⟩
  | 3, _ => exact ⟨_, _, hn _, (listIn_new okS (w.alloc (.cells #[.string ⟨#[116, 114, 117, 115, 116, 101, 100, 46, 111, 118, 101, 114, 108, 97, 121, 46, 120]⟩, .string ⟨#[]⟩] 45)) (ofL [111, 108, 100]) [.string ⟨#[111, 108, 100]⟩] _ (by simp) rfl).ext okS (eA _ _), rfl⟩
  | 4, _ => exact ⟨_, _, hn _, hz _, rfl⟩
  | 5, _ => exact ⟨_, _, hn _, hz _, rfl⟩
 ·have h := World.ownsRow_lit (base := w.heap.size) (e := 41) (size := 10) ((w.alloc (.cells #[.string ⟨#[116, 114, 117, 115, 116, 101, 100, 46, 111, 118, 101, 114, 108, 97, 121, 46, 120]⟩, .string ⟨#[]⟩] 45)).alloc (.cells #[.string ⟨#[111, 108, 100]⟩] 9)) ([brC (getB exO 0) (.slice (some ⟨w.heap.size, 0, none⟩) 1 1) (.slice none 0 0), brC (getB exO 1) (.slice none 0 0) (.slice none 0 0), brC (getB exO 2) (.slice none 0 0) (.slice none 0 0), brC (getB exO 3) (.slice none 0 0) (.slice (some ⟨w.heap.size + 1, 0, none⟩) 1 1), brC (getB exO 4) (.slice none 0 0) (.slice none 0 0), brC (getB exO 5) (.slice none 0 0) (.slice none 0 0)].flatten.toArray) 6 (by rw [hs]; omega) (by unfold maxLen; omega) rfl
  rw [hs] at h
  exact h
set_option maxRecDepth 100000 in
set_option maxHeartbeats 4000000 in
theorem law21Raw (w : World) : Calls Tryz.prog 103 #[] w (NewL cdT w 6 rawO) := by
 go_enter Tryz.func103, Tryz.ntmps103
 go_wp2_with (go_at_call 104; refine (law21one _ _ _).mono ?_; rintro e w' ⟨rfl, rfl⟩)
 go_ret
 have hs : (((((w.alloc (.cells #[.string ⟨#[116, 114, 117, 115, 116, 101, 100, 46, 111, 118, 101, 114, 108, 97, 121, 46, 111, 118, 101, 114, 108, 97, 121, 46, 120]⟩, .string ⟨#[]⟩] 45)).alloc (.cells #[.string ⟨#[116, 114, 117, 115, 116, 101, 100, 46, 111, 118, 101, 114, 108, 97, 121, 46, 111, 112, 97, 113, 117, 101]⟩, .string ⟨#[121]⟩] 45)).alloc (.cells #[.string ⟨#[116, 114, 117, 115, 116, 101, 100, 46, 111, 118, 101, 114, 108, 97, 121, 46, 110, 108, 105, 110, 107]⟩, .string ⟨#[50]⟩] 45)).alloc (.cells #[.string ⟨#[116, 114, 117, 115, 116, 101, 100, 46, 111, 118, 101, 114, 108, 97, 121, 46, 114, 101, 100, 105, 114, 101, 99, 116]⟩, .string ⟨#[47, 111, 108, 100]⟩] 45)).alloc (.cells #[.string ⟨#[116, 114, 117, 115, 116, 101, 100, 46, 111, 118, 101, 114, 108, 97, 121, 46, 110, 108, 105, 110, 107]⟩, .string ⟨#[50]⟩] 45)).heap.size = w.heap.size + 1 + 1 + 1 + 1 + 1 := by simp
 refine ⟨⟨_, _, rfl, ⟨[trC (getT rawO 0) (.slice (some ⟨w.heap.size, 0, none⟩) 1 1), trC (getT rawO 1) (.slice (some ⟨w.heap.size + 1, 0, none⟩) 1 1), trC (getT rawO 2) (.slice (some ⟨w.heap.size + 1 + 1, 0, none⟩) 1 1), trC (getT rawO 3) (.slice (some ⟨w.heap.size + 1 + 1 + 1, 0, none⟩) 1 1), trC (getT rawO 4) (.slice (some ⟨w.heap.size + 1 + 1 + 1 + 1, 0, none⟩) 1 1), trC (getT rawO 5) (.slice none 0 0)], rfl, fun k h h' => ?_, ?_⟩, by omega, by simp⟩, ((((((eA _ _).trans (eA _ _)).trans (eA _ _)).trans (eA _ _)).trans (eA _ _)).trans (eA _ _))⟩
 ·match k, h with
  | 0, _ => exact ⟨_, one_in w _ _ _ _ (by simp) (((((eA _ _).trans (eA _ _)).trans (eA _ _)).trans (eA _ _)).trans (eA _ _)) _, rfl⟩
  | 1, _ => exact ⟨_, one_in (w.alloc (.cells #[.string ⟨#[116, 114, 117, 115, 116, 101, 100, 46, 111, 118, 101, 114, 108, 97, 121, 46, 111, 118, 101, 114, 108, 97, 121, 46, 120]⟩, .string ⟨#[]⟩] 45)) _ _ _ _ (by simp) ((((eA _ _).trans (eA _ _)).trans (eA _ _)).trans (eA _ _)) _, rfl⟩
  | 2, _ => exact ⟨_, one_in ((w.alloc (.cells #[.string ⟨#[116, 114, 117, 115, 116, 101, 100, 46, 111, 118, 101, 114, 108, 97, 121, 46, 111, 118, 101, 114, 108, 97, 121, 46, 120]⟩, .string ⟨#[]⟩] 45)).alloc (.cells #[.string ⟨#[116, 114, 117, 115, 116, 101, 100, 46, 111, 118, 101, 114, 108, 97, 121, 46, 111, 112, 97, 113, 117, 101]⟩, .string ⟨#[121]⟩] 45)) _ _ _ _ (by simp) (((eA _ _).trans (eA _ _)).trans (eA _ _)) _, rfl⟩
  | 3, _ => exact ⟨_, one_in (((w.alloc (.cells #[.string ⟨#[116, 114, 117, 115, 116, 101, 100, 46, 111, 118, 101, 114, 108, 97, 121, 46, 111, 118, 101, 114, 108, 97, 121, 46, 120]⟩, .string ⟨#[]⟩] 45)).alloc (.cells #[.string ⟨#[116, 114, 117, 115, 116, 101, 100, 46, 111, 118, 101, 114, 108, 97, 121, 46, 111, 112, 97, 113, 117, 101]⟩, .string ⟨#[121]⟩] 45)).alloc (.cells #[.string ⟨#[116, 114, 117, 115, 116, 101, 100, 46, 111, 118, 101, 114, 108, 97, 121, 46, 110, 108, 105, 110, 107]⟩, .string ⟨#[50]⟩] 45)) _ _ _ _ (by simp) ((eA _ _).trans (eA _ _)) _, rfl⟩
  | 4, _ => exact ⟨_, one_in ((((w.alloc (.cells #[.string ⟨#[116, 114, 117, 115, 116, 101, 100, 46, 111, 118, 101, 114, 108, 97, 121, 46, 111, 118, 101, 114, 108, 97, 121, 46, 120]⟩, .string ⟨#[]⟩] 45)).alloc (.cells #[.string ⟨#[116, 114, 117, 115, 116, 101, 100, 46, 111, 118, 101, 114, 108, 97, 121, 46, 111, 112, 97, 113, 117, 101]⟩, .string ⟨#[121]⟩] 45)).alloc (.cells #[.string ⟨#[116, 114, 117, 115, 116, 101, 100, 46, 111, 118, 101, 114, 108, 97, 121, 46, 110, 108, 105, 110, 107]⟩, .string ⟨#[50]⟩] 45)).alloc (.cells #[.string ⟨#[116, 114, 117, 115, 116, 101, 100, 46, 111, 118, 101, 114, 108, 97, 121, 46, 114, 101, 100, 105, 114, 101, 99, 116]⟩, .string ⟨#[47, 111, 108, 100]⟩] 45)) _ _ _ _ (by simp) (eA _ _) _, rfl⟩
  | 5, _ => exact ⟨_, attIn_nil _ _ _, rfl⟩
 ·have h := World.ownsRow_lit (base := w.heap.size) (e := 43) (size := 8) (((((w.alloc (.cells #[.string ⟨#[116, 114, 117, 115, 116, 101, 100, 46, 111, 118, 101, 114, 108, 97, 121, 46, 111, 118, 101, 114, 108, 97, 121, 46, 120]⟩, .string ⟨#[]⟩] 45)).alloc (.cells #[.string ⟨#[116, 114, 117, 115, 116, 101, 100, 46, 111, 118, 101, 114, 108, 97, 121, 46, 111, 112, 97, 113, 117, 101]⟩, .string ⟨#[121]⟩] 45)).alloc (.cells #[.string ⟨#[116, 114, 117, 115, 116, 101, 100, 46, 111, 118, 101, 114, 108, 97, 121, 46, 110, 108, 105, 110, 107]⟩, .string ⟨#[50]⟩] 45)).alloc (.cells #[.string ⟨#[116, 114, 117, 115, 116, 101, 100, 46, 111, 118, 101, 114, 108, 97, 121, 46, 114, 101, 100, 105, 114, 101, 99, 116]⟩, .string ⟨#[47, 111, 108, 100]⟩] 45)).alloc (.cells #[.string ⟨#[116, 114, 117, 115, 116, 101, 100, 46, 111, 118, 101, 114, 108, 97, 121, 46, 110, 108, 105, 110, 107]⟩, .string ⟨#[50]⟩] 45)) ([trC (getT rawO 0) (.slice (some ⟨w.heap.size, 0, none⟩) 1 1), trC (getT rawO 1) (.slice (some ⟨w.heap.size + 1, 0, none⟩) 1 1), trC (getT rawO 2) (.slice (some ⟨w.heap.size + 1 + 1, 0, none⟩) 1 1), trC (getT rawO 3) (.slice (some ⟨w.heap.size + 1 + 1 + 1, 0, none⟩) 1 1), trC (getT rawO 4) (.slice (some ⟨w.heap.size + 1 + 1 + 1 + 1, 0, none⟩) 1 1), trC (getT rawO 5) (.slice none 0 0)].flatten.toArray) 6 (by rw [hs]; omega) (by unfold maxLen; omega) rfl
  rw [hs] at h
  exact h
set_option maxRecDepth 100000 in
set_option maxHeartbeats 8000000 in
theorem law21awake (w : World) (hL : LaidO w) : RetB Tryz.prog 38 #[] w (.bool true) := by
  unfold RetB
  have HL := hQq hL; clear hL
  have HEN := hQq (oe_of exO_enc); have HDE := hQq (od_of rawO_dec); have HDN := hQq (od_of rawN_dec); have HDP := hQq (od_of rawP_dec); have HED := hQq (oe_of exD_enc)
  go_enter Tryz.func38, Tryz.ntmps38
  go_wp2_with fail
  refine (law21Example w).mono ?_
  rintro e w1 ⟨⟨g1, c1, rfl, ho1, hg1, hh1⟩, hb1⟩
  have HO1 := hQq ho1; have B1 := hQq hb1
  clear ho1 hg1 hh1 hb1
  go_wp2_with fail
  refine (ovEncode w.heap.size _ _ exO (HL.out.ext B1.out) (HO1.out.in okB) exO_small).mono ?_
  rintro e w2 ⟨⟨Bq, a2, n2, c2, hBq, rfl, ho2⟩, hb2⟩
  rw [HEN.out.2.1, HEN.out.2.2]
  rw [HEN.out.1] at ho2
  obtain ⟨g2, rfl, hg2, hh2, hn2⟩ := ho2.addr (by decide)
  obtain rfl : n2 = 6 := hn2
  have HO2 := hQq ho2; have B2 := hQq (Ext.trans B1.out hb2)
  clear ho2 hb2 hg2 hh2
  go_wp2_with fail
  refine (law21Raw w2).mono ?_
  rintro e w3 ⟨⟨g3, c3, rfl, ho3, hg3, hh3⟩, hb3⟩
  have HO3 := hQq ho3; have B3 := hQq (Ext.trans B2.out hb3); have HO23 := hQq (HO2.out.ext okT hb3)
  clear ho3 hb3 hg3 hh3
  go_wp2_with fail
  refine (ovDecode w2.heap.size _ _ rawO (HL.out.ext B3.out) (HO3.out.in okT) rawO_small).mono ?_
  rintro e w4 ⟨⟨Br, a4, n4, c4, hBr, rfl, ho4⟩, hb4⟩
  rw [HDE.out.2.1, HDE.out.2.2]
  rw [HDE.out.1] at ho4
  obtain ⟨g4, rfl, hg4, hh4, hn4⟩ := ho4.addr (by decide)
  obtain rfl : n4 = 6 := hn4
  have HO4 := hQq ho4; have B4 := hQq (Ext.trans B3.out hb4); have HO24 := hQq (HO23.out.ext okT hb4); have HBr := hQq (Nat.le_of_lt (Nat.lt_of_le_of_lt hg4 hh4))
  clear ho4 hb4 hg4 hh4
  go_wp2_with fail
  refine (law21Raw w4).mono ?_
  rintro e w5 ⟨⟨g5, c5, rfl, ho5, hg5, hh5⟩, hb5⟩
  have HO5 := hQq ho5; have B5 := hQq (Ext.trans B4.out hb5); have HO25 := hQq (HO24.out.ext okT hb5); have HO45 := hQq (HO4.out.ext okB hb5); have HS45 := hQq hb5.size
  clear ho5 hb5 hg5 hh5
  go_wp2_with fail
  refine (refSameList _ _ _ _ rawO rawO _ (HO25.out.in okT) (HO5.out.in okT) (by decide) (by decide)).mono ?_
  rintro e w6 ⟨rfl, hb6⟩
  rw [sameTB_yes (a := rawO) rfl]
  have B6 := hQq (Ext.trans B5.out hb6); have HO46 := hQq (HO45.out.ext okB hb6); have HS46 := hQq (Nat.le_trans HS45.out hb6.size)
  clear hb6
  go_wp2_with fail
  refine (law21Example w6).mono ?_
  rintro e w7 ⟨⟨g7, c7, rfl, ho7, hg7, hh7⟩, hb7⟩
  have HO7 := hQq ho7; have B7 := hQq (Ext.trans B6.out hb7); have HO47 := hQq (HO46.out.ext okB hb7); have HS47 := hQq (Nat.le_trans HS46.out hb7.size); have HS67 := hQq hb7.size
  clear ho7 hb7 hg7 hh7
  go_wp2_with fail
  refine (refBrSame Br w6.heap.size _ _ exO _ (HO47.out.in okB) (HO7.out.in okB) (Nat.le_trans HBr.out HS47.out) HS67.out (by decide) (by decide) (by decide)).mono ?_
  rintro e w8 ⟨rfl, hb8⟩
  have B8 := hQq (Ext.trans B7.out hb8)
  clear hb8
  go_wp2_with fail
  refine (law21Raw w8).mono ?_
  rintro e w9 ⟨⟨g9, c9, rfl, ho9, hg9, hh9⟩, hb9⟩
  have B9 := hQq (Ext.trans B8.out hb9)
  have HX : Hid (OwnL cdT w8.heap.size (w9.alloc (.cells #[.string ⟨#[116, 114, 117, 115, 116, 101, 100, 46, 111, 118, 101, 114, 108, 97, 121, 46, 110, 108, 105, 110, 107]⟩, .string ⟨#[51]⟩] 45)) (.slice (some ⟨g9, 0, none⟩) 6 c9) rawO) := hQq (ho9.ext okT (eA _ _))
  have HQ := hQq (fun B => one_in w9 _ _ _ _ rfl (bR _ (w9.alloc (.cells #[.string ⟨#[116, 114, 117, 115, 116, 101, 100, 46, 111, 118, 101, 114, 108, 97, 121, 46, 110, 108, 105, 110, 107]⟩, .string ⟨#[51]⟩] 45))) B)
  obtain ⟨u1, hu1, -⟩ := at_ats HX.out 2 (by decide)
  have f1 := HX.out.frozen (2 * 8 + 3)
  have HG9 := hQq hg9; have HH9 := hQq (Nat.lt_of_lt_of_le hh9 (eA w9 (.cells #[.string ⟨#[116, 114, 117, 115, 116, 101, 100, 46, 111, 118, 101, 114, 108, 97, 121, 46, 110, 108, 105, 110, 107]⟩, .string ⟨#[51]⟩] 45)).size); have HS89 := hQq hb9.size; have HH8 := hQq hh9; have E9 := hQq hb9
  clear ho9 hb9 hg9 hh9
  go_upto_region 7 with (go_at_call 104; refine (law21one _ _ _).mono ?_; rintro e w' ⟨rfl, rfl⟩)
  refine nW (P := fun W => Code.wp _ _ _ _ W) _ ?_
  intro W hW
  have HS1 : Hid (OwnL cdT w8.heap.size W (.slice (some ⟨g9, 0, none⟩) 6 c9) (rawO.set 2 ⟨2, (ofL [102]), 2, [((ofL [116, 114, 117, 115, 116, 101, 100, 46, 111, 118, 101, 114, 108, 97, 121, 46, 110, 108, 105, 110, 107]), (ofL [51]))], (ofL [49]), 0, 0, 1⟩)) := hQq (by
    rw [hW]
    first
    | exact put_ats HX.out (k := 2) (by decide) rfl (HQ.out _)
    | (have h := put_ats HX.out (k := 2) (by decide) rfl (HQ.out _)
       rw [World.setCell_alloc_past _ _ _ _ HH8.out] at h
       exact h))
  have E10 : Hid (Ext w8 W) := hQq (by
    rw [hW]
    first
    | exact Below.setCell (p := ⟨g9, 2 * 8 + 3, none⟩) (E9.out.trans (eA _ _)) HG9.out _
    | exact Below.alloc (Below.setCell (p := ⟨g9, 2 * 8 + 3, none⟩) E9.out HG9.out _) (by simp; exact E9.out.size) _)
  clear hu1 f1 u1 hW
  obtain ⟨u2, hu2, hv2⟩ := at_ats HS1.out 2 (by decide)
  obtain ⟨u4, hu4, -⟩ := at_ats HS1.out 4 (by decide)
  obtain ⟨a2', c2', rfl⟩ := hv2.form
  have HV2 := hQq hv2
  have f4 := HS1.out.frozen (4 * 8 + 3)
  clear hv2
  go_upto_region 8 with fail
  refine nW (P := fun W => Code.wp _ _ _ _ W) _ ?_
  intro W4 hW4
  have HS2 : Hid (OwnL cdT w8.heap.size W4 (.slice (some ⟨g9, 0, none⟩) 6 c9) rawN) := hQq (by rw [hW4]; exact put_ats HS1.out (k := 4) (by decide) rfl HV2.out)
  have E11 : Hid (Ext w8 W4) := hQq (by rw [hW4]; exact Below.setCell (p := ⟨g9, 4 * 8 + 3, none⟩) E10.out HG9.out _)
  clear hW4 hu2 hu4 f4
  go_wp2_with fail
  refine (ovGood w8.heap.size _ _ rawN (HL.out.ext (B8.out.trans E11.out)) (HS2.out.in okT) rawN_small).mono ?_
  rintro e w10 ⟨rfl, hb10⟩
  rw [HDN.out.2.1, HDN.out.2.2]
  have B10 := hQq (Ext.trans (B8.out.trans E11.out) hb10)
  clear hb10
  go_wp2_with fail
  refine (law21Raw w10).mono ?_
  rintro e w11 ⟨⟨g11, c11, rfl, ho11, hg11, hh11⟩, hb11⟩
  have E12 := hQq hb11; have HH11 := hQq hh11; have HG11 := hQq hg11
  have HX2 : Hid (OwnL cdT w10.heap.size (w11.alloc (.cells #[.string ⟨#[116, 114, 117, 115, 116, 101, 100, 46, 111, 118, 101, 114, 108, 97, 121, 46, 111, 112, 97, 113, 117, 101]⟩, .string ⟨#[110]⟩] 45)) (.slice (some ⟨g11, 0, none⟩) 6 c11) rawO) := hQq (ho11.ext okT (eA _ _))
  have HQ2 := hQq (fun B => one_in w11 _ _ _ _ rfl (bR _ (w11.alloc (.cells #[.string ⟨#[116, 114, 117, 115, 116, 101, 100, 46, 111, 118, 101, 114, 108, 97, 121, 46, 111, 112, 97, 113, 117, 101]⟩, .string ⟨#[110]⟩] 45))) B)
  obtain ⟨u1, hu1, -⟩ := at_ats HX2.out 1 (by decide)
  have f1 := HX2.out.frozen (1 * 8 + 3)
  clear ho11 hb11 hg11 hh11
  go_upto_region 11 with (go_at_call 104; refine (law21one _ _ _).mono ?_; rintro e w' ⟨rfl, rfl⟩)
  refine nW (P := fun W => Code.wp _ _ _ _ W) _ ?_
  intro W6 hW6
  have HS3 : Hid (OwnL cdT w10.heap.size W6 (.slice (some ⟨g11, 0, none⟩) 6 c11) rawP) := hQq (by
    rw [hW6]
    first
    | exact put_ats HX2.out (k := 1) (by decide) rfl (HQ2.out _)
    | (have h := put_ats HX2.out (k := 1) (by decide) rfl (HQ2.out _)
       rw [World.setCell_alloc_past _ _ _ _ HH11.out] at h
       exact h))
  have E13 : Hid (Ext w10 W6) := hQq (by
    rw [hW6]
    first
    | exact Below.setCell (p := ⟨g11, 1 * 8 + 3, none⟩) (E12.out.trans (eA _ _)) HG11.out _
    | exact Below.alloc (Below.setCell (p := ⟨g11, 1 * 8 + 3, none⟩) E12.out HG11.out _) (by simp; exact E12.out.size) _)
  clear hu1 f1 hW6
  go_wp2_with fail
  refine (ovGood w10.heap.size _ _ rawP (HL.out.ext (B10.out.trans E13.out)) (HS3.out.in okT) rawP_small).mono ?_
  rintro e w12 ⟨rfl, hb12⟩
  rw [HDP.out.2.1, HDP.out.2.2]
  have B12 := hQq (Ext.trans (B10.out.trans E13.out) hb12)
  clear hb12
  go_wp2_with fail
  refine (law21Example w12).mono ?_
  rintro e w13 ⟨⟨g13, c13, rfl, ho13, hg13, hh13⟩, hb13⟩
  have HO13 := hQq ho13; have E14 := hQq hb13; have HG13 := hQq hg13
  have k5 := at_kd HO13.out 5 (by decide)
  have f5 := HO13.out.frozen (5 * 10 + 2)
  clear ho13 hb13 hg13 hh13
  go_upto_region 14 with fail
  refine nW (P := fun W => Code.wp _ _ _ _ W) _ ?_
  intro W8 hW8
  have HS4 : Hid (OwnL cdB w12.heap.size W8 (.slice (some ⟨g13, 0, none⟩) 6 c13) exD) := hQq (by rw [hW8]; exact put_kd HO13.out (k := 5) (by decide) rfl)
  have E15 : Hid (Ext w12 W8) := hQq (by rw [hW8]; exact Below.setCell (p := ⟨g13, 5 * 10 + 2, none⟩) E14.out HG13.out _)
  clear hW8 k5 f5
  go_wp2_with fail
  refine (ovCan w12.heap.size _ _ exD (HL.out.ext (B12.out.trans E15.out)) (HS4.out.in okB) exD_small).mono ?_
  rintro e w14 ⟨rfl, hb14⟩
  rw [HED.out.2.1, HED.out.2.2]
  have B14 := hQq (Ext.trans (B12.out.trans E15.out) hb14)
  clear hb14
  go_wp2
  go_ret
  exact ⟨rfl, B14.out⟩
end Go.Proofs.YtimpejaaeinplaaGreatDoor
