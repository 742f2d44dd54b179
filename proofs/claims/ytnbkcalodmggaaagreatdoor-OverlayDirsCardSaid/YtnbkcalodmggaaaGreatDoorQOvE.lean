/- OvE -/
import Derived.Test.YtnbkcalodmggaaaGreatDoorQI5
import Derived.Test.YtnbkcalodmggaaaGreatDoorQWlkR
import Derived.Test.YtnbkcalodmggaaaGreatDoorQOvW
namespace Go.Proofs.YtnbkcalodmggaaaGreatDoor
open Go.RowKit

set_option maxRecDepth 100000 in
set_option maxHeartbeats 8000000 in
theorem ovEncode (B : Nat) (w : World) (v : Value) (b : List BrN) (hL : LaidO w) (hb : BrIn B w v b) (hsm : SmallB b) :
    Calls Tryz.prog 45 #[v] w (OencP w b) := by
  obtain ⟨aa, cap, rfl⟩ := hb.form
  have HV := hQq hb; have HL := hQq hL; have HSM := hQq hsm
  have hlen := hsm.len
  clear hb hL hsm
  by_cases he : brEr b = 0
  case neg =>
    have HR := hQq (oe_of (gen_br (E := oeE b) (X := oeX b) he))
    have q1 : (brEr b != 0) = true := bne_iff_ne.2 he
    clear he
    go_enter Tryz.func45, Tryz.ntmps45
    go_wp2_with (go_at_call 53; refine (brCheck B _ _ b HV.out HSM.out).mono ?_; rintro e w1 ⟨rfl, hb1⟩; have HB1 := hQq hb1; clear hb1)
    go_ret3
    exact ⟨⟨w.heap.size, none, 0, 0, Nat.le_refl _, by rw [HR.out.2.1, HR.out.2.2]; rfl, by rw [HR.out.1]; exact OwnL.nil _ _ _⟩, HB1.out⟩
  have HE0 := hQq he
  have HSA := hQq (fun k hk => small_br he (k := k) hk)
  have q1 : (brEr b != 0) = false := bne_eq_false_iff_eq.2 he
  have HPL := hQq (plT_len b)
  clear he
  go_enter Tryz.func45, Tryz.ntmps45
  go_wp2_with (first
    | (go_at_call 53; refine (brCheck B _ _ b HV.out HSM.out).mono ?_; rintro e w1 ⟨rfl, hb1⟩; have HB1 := hQq hb1; clear hb1)
    | (go_at_call 54; refine (brTree B _ _ b (HV.out.ext okB HB1.out) hlen HSM.out.ats).mono ?_; rintro e w2 ⟨⟨a5, cap5, rfl, ho⟩, hb2⟩; have HO := hQq ho; have HB2 := hQq (Ext.trans HB1.out hb2); clear ho hb2)
    | (go_at_call 122; refine (ovNames w1.heap.size _ (plT b) _ (HO.out.in okT) (by rw [HPL.out]; omega)).mono ?_; rintro e w3 ⟨⟨bm, nm, rfl, hm, hbm⟩, hb3⟩; have HM := hQq hm; have HT3 := hQq ((HO.out.in okT).ext okT hb3); have HB3 := hQq (Ext.trans HB2.out hb3); have HV3 := hQq (HV.out.ext okB HB3.out); clear hm hbm hb3))
  go_loopw [2, 26] (fun o c w' => ∃ (wi : World) (k : Nat), wi = w' /\ k <= b.length /\ c = .int .i64 k /\ OwnL cdT w3.heap.size wi o ((List.range k).map (oeX b)) /\ (∀ j, j < k -> oeE b j = 0) /\ Ext w3 wi) (fun _ c _ => b.length - (intOf c).toNat)
  case atStart => exact ⟨_, 0, rfl, Nat.zero_le _, rfl, OwnL.nil _ _ _, fun j hj => absurd hj (by omega), Below.refl _ _⟩
  case round =>
    obtain ⟨wi, k, rfl, hk, rfl, ho, hok, hE⟩ := hrel
    have HO5 := hQq ho; have HE := hQq hE; have HOK := hQq hok
    obtain ⟨a7, cap7, rfl⟩ := ho.form
    have HQK : Hid (((List.range k).map (oeX b)).length = k) := hQq (by simp)
    clear hok ho
    rw [HQK.out] at HO5 ⊢
    by_cases hlt : k < b.length
    case neg =>
      obtain rfl : k = b.length := by omega
      have HR := hQq (oe_of (gen_ok (E := oeE b) (X := oeX b) HE0.out HOK.out))
      clear hE
      go_wp2
      go_ret3
      exact ⟨⟨w3.heap.size, _, _, _, HB3.out.size, by rw [HR.out.2.1, HR.out.2.2]; rfl, by rw [HR.out.1]; exact HO5.out⟩, HB3.out.trans HE.out⟩
    have HVI := hQq (HV3.out.ext okB HE.out)
    have HTI := hQq (HT3.out.ext okT HE.out)
    obtain ⟨bb, off, va, vr, hex, hbx, hva, hvr, c0, c1, c2, c3, c4, c5, c6, c7, c8, c9⟩ := HVI.out.br k hlt
    cases hex
    have HBX := hQq hbx
    obtain ⟨tb, toff, ta, htx, htb, hta, t0, t1, t2, t3, t4, t5, t6, t7⟩ := HTI.out.tr k (by rw [HPL.out]; exact hlt)
    cases htx
    obtain ⟨a4, cap4, rfl⟩ := hvr.form
    obtain ⟨a3, cap3, rfl⟩ := hta.form
    have hxk : ∀ h', (plT b)[k]'h' = (b[k]'hlt).toTrN := fun h' => by simp [plT]
    rw [hxk] at hta t0 t1 t2 t3 t4 t5 t6 t7
    have HG := hQq (getB_at b k hlt)
    have HSX := hQq (HSA.out k hlt)
    have HRX := hQq (HSM.out.red _ (List.getElem_mem hlt))
    have HTS : Hid ((List.range (k + 1)).map (oeX b) = (List.range k).map (oeX b) ++ [oeX b k]) := hQq (by rw [List.range_succ, List.map_append]; rfl)
    have HVR := hQq hvr; have HTA := hQq hta
    clear c0 c1 c2 c3 c4 c5 c6 c7 hva hvr hta hxk
    generalize b[k]'hlt = x at c8 c9 t0 t1 t2 t3 t4 t5 t6 t7 HVR HTA HG HSX HRX
    have j1 : ((k : Nat) : Int) < (b.length : Int) := by omega
    have j0 : (0 : Int) <= (k : Int) := by omega
    clear hE
    by_cases h5 : x.kd = 5
    · have q2 : (x.kd == 5) = true := beq_iff_eq.2 h5
      have HW := hQq (oe_white HG.out h5)
      have HN : Hid (∀ j, j < k + 1 -> oeE b j = 0) := hQq (fun j hj => by
        by_cases e : j = k
        · subst e; exact HW.out.1
        · exact HOK.out j (by omega))
      clear h5
      go_upto_region 16 with fail
      refine nW (P := fun W => Code.wp _ _ _ _ W) _ ?_
      intro W hW
      have hW2 : W = wi.alloc (.cells #[.int .i64 x.dep, .string x.nm, .int .i64 4, .slice none 0 0, .string ⟨#[]⟩, .int .i64 0, .int .i64 0, .int .i64 0] 43 (0, 0)) := hW
      have HXW := hQq (show Ext wi W from by rw [hW2]; exact eA _ _)
      have HQW := hQq (show W.heap[wi.heap.size]? = some (.cells #[.int .i64 x.dep, .string x.nm, .int .i64 4, .slice none 0 0, .string ⟨#[]⟩, .int .i64 0, .int .i64 0, .int .i64 0] 43 (0, 0)) from by rw [hW2]; exact bN wi _)
      clear hW hW2
      have y0 := bC HQW.out 0; have y1 := bC HQW.out 1; have y2 := bC HQW.out 2; have y3 := bC HQW.out 3; have y4 := bC HQW.out 4; have y5 := bC HQW.out 5; have y6 := bC HQW.out 6; have y7 := bC HQW.out 7
      go_wp2_with (at_builtin; refine appL okT rfl (.tmp 70) (.tmp 72) rfl _ _ ((List.range k).map (oeX b)) [oeX b k] w3 _ rfl rfl (by exact HO5.out.ext okT (HXW.out.trans (eA _ _))) (by refine listIn_new okT _ (oeX b k) _ _ rfl ?_; rw [HW.out.2]; exact ⟨_, attIn_nil _ _ 0, rfl⟩) (by exact (HE.out.trans HXW.out).trans (eA _ _)) (by have := ((HE.out.trans HXW.out).trans (eA W (.cells #[] 0))).size; simp at this ⊢; omega) (by rw [HQK.out]; simp; omega) ?_; intro v5 w5 ha; have HA := hQq ha; clear ha)
      go_roundw
      case rel => exact ⟨_, k + 1, rfl, by omega, by go_num, by rw [HTS.out]; exact HA.out.own, HN.out, HA.out.below⟩
      case measure => first | (simp [intOf]; done) | (simp [intOf]; omega)
    have q2 : (x.kd == 5) = false := beq_eq_false_iff_ne.2 h5
    have h5' := h5
    clear h5
    by_cases hz : zeroB x.toTrN = true
    · have HEE := hQq (oe_dev HG.out h5' hz)
      have HZB := hQq hz
      have HR := hQq (oe_of (gen_node (E := oeE b) (X := oeX b) HE0.out hlt HOK.out (by rw [HEE.out]; decide)))
      clear hz h5'
      go_wp2_with (go_at_call 123; refine (ovZero x.toTrN _ ⟨_, _, _, rfl⟩ _).mono ?_; rintro e w4 ⟨rfl, hb4⟩; rw [HZB.out]; have HXB := hQq (bX hb4 (bN wi (.cells #[.int .i64 x.dep, .string x.nm, .int .i64 x.kd, .slice a3 x.ats.length cap3, .string x.dat, .int .i64 x.ma, .int .i64 x.mi, .int .i64 x.cl] 43 (0, 0)))); have HB4 := hQq ((eA wi _).trans hb4); clear hb4; have y0 := bC HXB.out 0; have y1 := bC HXB.out 1; have y2 := bC HXB.out 2; have y3 := bC HXB.out 3; have y4 := bC HXB.out 4; have y5 := bC HXB.out 5; have y6 := bC HXB.out 6; have y7 := bC HXB.out 7)
      go_ret3
      exact ⟨⟨w.heap.size, none, 0, 0, Nat.le_refl _, by rw [HR.out.2.1, HR.out.2.2, HEE.out]; rfl, by rw [HR.out.1]; exact OwnL.nil _ _ _⟩, HB3.out.trans (HE.out.trans HB4.out)⟩
    have hz' : zeroB x.toTrN = false := by
      cases h : zeroB x.toTrN
      · rfl
      · exact absurd h hz
    have HND := hQq (oe_node HG.out h5' hz')
    have HZB := hQq hz'
    clear hz hz' h5'
    have hM := many_bd (plT b) x.cl
    rw [HPL.out] at hM
    have HLK := hQq (fun W (hW : Ext w3 W) => ((HM.out.ext hW).look keyInt mapT_count (zeroInt _) x.cl false))
    have HMM := hQq (mnF_look (plT b) x.cl)
    generalize hMg : manyT (plT b) x.cl = M at HND hM HMM
    have HMB : Hid (M <= 1000000) := hQq (by omega)
    clear hM hMg
    go_upto_region 9 with (go_at_call 123; refine (ovZero x.toTrN _ ⟨_, _, _, rfl⟩ _).mono ?_; rintro e w4 ⟨rfl, hb4⟩; rw [HZB.out]; have HXB := hQq (bX hb4 (bN wi (.cells #[.int .i64 x.dep, .string x.nm, .int .i64 x.kd, .slice a3 x.ats.length cap3, .string x.dat, .int .i64 x.ma, .int .i64 x.mi, .int .i64 x.cl] 43 (0, 0)))); have HB4 := hQq ((eA wi _).trans hb4); clear hb4; have y0 := bC HXB.out 0; have y1 := bC HXB.out 1; have y2 := bC HXB.out 2; have y3 := bC HXB.out 3; have y4 := bC HXB.out 4; have y5 := bC HXB.out 5; have y6 := bC HXB.out 6; have y7 := bC HXB.out 7)
    go_cut [4] (fun p wx => p = .int .i64 (mwE 1 x.ats (ovM x.opq x.red M)) /\ ∃ a' c', wx.heap[wi.heap.size]? = some (.cells #[.int .i64 x.dep, .string x.nm, .int .i64 x.kd, .slice a' (mwL 1 x.ats (ovM x.opq x.red M)).length c', .string x.dat, .int .i64 x.ma, .int .i64 x.mi, .int .i64 x.cl] 43 (0, 0)) /\ AttT wx (.slice a' (mwL 1 x.ats (ovM x.opq x.red M)).length c') (mwL 1 x.ats (ovM x.opq x.red M)) /\ Ext wi wx)
    case first =>
      refine wp_region_box (RbR wi.heap.size) (oencG wi.heap.size x.toTrN (.slice a3 x.ats.length cap3) (mwL 1 x.ats (ovM x.opq x.red M))) (oencF wi.heap.size bb (off + k * 10) k bm (.slice a3 x.ats.length cap3) (.slice a4 x.red.length cap4) (.slice (some ⟨bb, off, none⟩) b.length cap) x.opq x.cl M (mksV (optS x.opq) (redS x.red) (linkS M)) (mwE 1 x.ats (ovM x.opq x.red M)) (mwL 1 x.ats (ovM x.opq x.red M))) 22 rfl (by kernel_rfl) (by kernel_rfl) (by kernel_rfl) (rb_ext (Nat.le_of_lt (blk_lt HXB.out)) (eD w4)) (bX (eD w4) HXB.out) (fun _ _ _ => RbR.trans) oencF_mono ?_ ?_
      · rename_i K1 hK1 J1 K2 hJ1 hK2
        clear hK1 hJ1 hK2 K1 J1
        intro i o a wx z ho hR hG hz hk hp
        have EX : Ext wi wx := Below.trans HB4.out hR.below
        have fin := oencG_fin hG
        have HGH := hQq hG
        clear hG
        have n0 := evalTo (show a.eval (.tmp 0) = .slice (some ⟨bb, off, none⟩) b.length cap from hk 0 (of_decide_eq_true (by kernel_rfl)))
        have n8 := evalTo (show a.eval (.tmp 8) = .map (some bm) from hk 8 (of_decide_eq_true (by kernel_rfl)))
        have n9 := evalTo (show a.eval (.tmp 9) = .int .i64 k from hk 9 (of_decide_eq_true (by kernel_rfl)))
        have n10 := evalTo (show a.eval (.tmp 10) = .pointer (some ⟨wi.heap.size, 0, none⟩) from hk 10 (of_decide_eq_true (by kernel_rfl)))
        clear hk
        match i, ho, hz, hp with
        | 0, ho, hz, hp =>
          obtain rfl := Option.some.inj ho
          clear ho hp hz
          unfold Oper.wp; go_simp; exact ⟨_, rfl, rfl, (fin _ (Below.refl _ _)).1, (fin _ (Below.refl _ _)).2⟩
        | 1, ho, hz, hp =>
          obtain rfl := Option.some.inj ho
          have p32 := evalTo (show a.eval (.tmp 32) = .pointer (some ⟨wi.heap.size, 3, none⟩) from hp 0 _ 32 (by kernel_rfl) rfl rfl)
          obtain rfl : z = false := by
            cases z
            · rfl
            · exact absurd ((show edgeB _ 22 1 = true by kernel_rfl).symm.trans (hz rfl).2) (by decide)
          clear ho hp hz
          have d3 := bC HGH.out 3; have d7 := bC HGH.out 7
          unfold Oper.wp; go_simp; exact ⟨_, rfl, rfl, (fin _ (Below.refl _ _)).1, (fin _ (Below.refl _ _)).2⟩
        | 2, ho, hz, hp =>
          obtain rfl := Option.some.inj ho
          clear ho hp hz
          unfold Oper.wp; go_simp; exact ⟨_, rfl, rfl, (fin _ (Below.refl _ _)).1, (fin _ (Below.refl _ _)).2⟩
        | 3, ho, hz, hp =>
          obtain rfl := Option.some.inj ho
          clear ho hp hz
          unfold Oper.wp; go_simp; exact ⟨_, rfl, rfl, (fin _ (Below.refl _ _)).1, (fin _ (Below.refl _ _)).2⟩
        | 4, ho, hz, hp =>
          obtain rfl := Option.some.inj ho
          have p34 := evalTo (show a.eval (.tmp 34) = .slice (some ⟨bb, off, none⟩) b.length cap from hp 2 _ 34 (by kernel_rfl) rfl rfl)
          have p35 := evalTo (show a.eval (.tmp 35) = .int .i64 k from hp 3 _ 35 (by kernel_rfl) rfl rfl)
          clear ho hp hz
          unfold Oper.wp; go_simp; exact ⟨_, rfl, rfl, (fin _ (Below.refl _ _)).1, (fin _ (Below.refl _ _)).2⟩
        | 5, ho, hz, hp =>
          obtain rfl := Option.some.inj ho
          have p36 := evalTo (show a.eval (.tmp 36) = .pointer (some ⟨bb, off + k * 10, none⟩) from hp 4 _ 36 (by kernel_rfl) rfl rfl)
          clear ho hp hz
          unfold Oper.wp; go_simp; exact ⟨_, rfl, rfl, (fin _ (Below.refl _ _)).1, (fin _ (Below.refl _ _)).2⟩
        | 6, ho, hz, hp =>
          obtain rfl := Option.some.inj ho
          have p37 := evalTo (show a.eval (.tmp 37) = .pointer (some ⟨bb, off + k * 10 + 8, none⟩) from hp 5 _ 37 (by kernel_rfl) rfl rfl)
          clear ho hp hz
          have c := (ext_cell EX HBX.out).trans c8
          unfold Oper.wp; go_simp; exact ⟨_, rfl, rfl, (fin _ (Below.refl _ _)).1, (fin _ (Below.refl _ _)).2⟩
        | 7, ho, hz, hp =>
          obtain rfl := Option.some.inj ho
          clear ho hp hz
          unfold Oper.wp; go_simp; exact ⟨_, rfl, rfl, (fin _ (Below.refl _ _)).1, (fin _ (Below.refl _ _)).2⟩
        | 8, ho, hz, hp =>
          obtain rfl := Option.some.inj ho
          clear ho hp hz
          unfold Oper.wp; go_simp; exact ⟨_, rfl, rfl, (fin _ (Below.refl _ _)).1, (fin _ (Below.refl _ _)).2⟩
        | 9, ho, hz, hp =>
          obtain rfl := Option.some.inj ho
          have p39 := evalTo (show a.eval (.tmp 39) = .slice (some ⟨bb, off, none⟩) b.length cap from hp 7 _ 39 (by kernel_rfl) rfl rfl)
          have p40 := evalTo (show a.eval (.tmp 40) = .int .i64 k from hp 8 _ 40 (by kernel_rfl) rfl rfl)
          clear ho hp hz
          unfold Oper.wp; go_simp; exact ⟨_, rfl, rfl, (fin _ (Below.refl _ _)).1, (fin _ (Below.refl _ _)).2⟩
        | 10, ho, hz, hp =>
          obtain rfl := Option.some.inj ho
          have p41 := evalTo (show a.eval (.tmp 41) = .pointer (some ⟨bb, off + k * 10, none⟩) from hp 9 _ 41 (by kernel_rfl) rfl rfl)
          clear ho hp hz
          unfold Oper.wp; go_simp; exact ⟨_, rfl, rfl, (fin _ (Below.refl _ _)).1, (fin _ (Below.refl _ _)).2⟩
        | 11, ho, hz, hp =>
          obtain rfl := Option.some.inj ho
          have p42 := evalTo (show a.eval (.tmp 42) = .pointer (some ⟨bb, off + k * 10 + 9, none⟩) from hp 10 _ 42 (by kernel_rfl) rfl rfl)
          clear ho hp hz
          have c := (ext_cell EX HBX.out).trans c9
          unfold Oper.wp; go_simp; exact ⟨_, rfl, rfl, (fin _ (Below.refl _ _)).1, (fin _ (Below.refl _ _)).2⟩
        | 12, ho, hz, hp =>
          obtain rfl := Option.some.inj ho
          clear ho hp hz
          unfold Oper.wp; go_simp; exact ⟨_, rfl, rfl, (fin _ (Below.refl _ _)).1, (fin _ (Below.refl _ _)).2⟩
        | 13, ho, hz, hp =>
          obtain rfl := Option.some.inj ho
          clear ho hp hz
          unfold Oper.wp; go_simp; exact ⟨_, rfl, rfl, (fin _ (Below.refl _ _)).1, (fin _ (Below.refl _ _)).2⟩
        | 14, ho, hz, hp =>
          obtain rfl := Option.some.inj ho
          have p45 := evalTo (show a.eval (.tmp 45) = .pointer (some ⟨wi.heap.size, 7, none⟩) from hp 13 _ 45 (by kernel_rfl) rfl rfl)
          obtain rfl : z = false := by
            cases z
            · rfl
            · exact absurd ((show edgeB _ 22 14 = true by kernel_rfl).symm.trans (hz rfl).2) (by decide)
          clear ho hp hz
          have d3 := bC HGH.out 3; have d7 := bC HGH.out 7
          unfold Oper.wp; go_simp; exact ⟨_, rfl, rfl, (fin _ (Below.refl _ _)).1, (fin _ (Below.refl _ _)).2⟩
        | 15, ho, hz, hp =>
          obtain rfl := Option.some.inj ho
          have p44 := evalTo (show a.eval (.tmp 44) = .map (some bm) from hp 12 _ 44 (by kernel_rfl) rfl rfl)
          have p46 := evalTo (show a.eval (.tmp 46) = .int .i64 x.cl from hp 14 _ 46 (by kernel_rfl) rfl rfl)
          clear ho hp hz
          have lk := HLK.out wx (HE.out.trans EX)
          rw [if_neg Bool.false_ne_true, HMM.out] at lk
          unfold kI at lk
          unfold Oper.wp; go_simp; exact ⟨_, rfl, rfl, (fin _ (Below.refl _ _)).1, (fin _ (Below.refl _ _)).2⟩
        | 16, ho, hz, hp =>
          obtain rfl := Option.some.inj ho
          have p38 := evalTo (show a.eval (.tmp 38) = .bool x.opq from hp 6 _ 38 (by kernel_rfl) rfl rfl)
          have p43 := evalTo (show a.eval (.tmp 43) = .slice a4 x.red.length cap4 from hp 11 _ 43 (by kernel_rfl) rfl rfl)
          have p47 := evalTo (show a.eval (.tmp 47) = .int .i64 M from hp 15 _ 47 (by kernel_rfl) rfl rfl)
          clear ho hp hz
          unfold Oper.wp; go_simp
          refine (ovOf x.opq _ x.red M _ (HL.out.ext (HB3.out.trans (HE.out.trans EX))) ((HVR.out.ext okS EX).strs) HMB.out (by have := HRX.out.1; omega)).mono ?_
          rintro e w5 ⟨rfl, hb5⟩
          exact ⟨_, rfl, rfl, (fin _ hb5).1, (fin _ hb5).2⟩
        | 17, ho, hz, hp =>
          obtain rfl := Option.some.inj ho
          have p33 := evalTo (show a.eval (.tmp 33) = .slice a3 x.ats.length cap3 from hp 1 _ 33 (by kernel_rfl) rfl rfl)
          have p48 := evalTo (show a.eval (.tmp 48) = mksV (optS x.opq) (redS x.red) (linkS M) from hp 16 _ 48 (by kernel_rfl) rfl rfl)
          clear ho hp hz
          unfold Oper.wp; go_simp
          refine (ovWrite _ x.ats _ _ _ _ (HL.out.ext (HB3.out.trans (HE.out.trans EX))) ((HTA.out.ext okA EX).attrs) HSX.out (optS_size _) (redS_size _) (linkS_size (by have := HMB.out; omega))).mono ?_
          rintro e w5 ⟨⟨v5, rfl, h5⟩, hb5⟩
          obtain ⟨a6, c6, rfl, -, -⟩ := h5.1
          exact ⟨_, rfl, ⟨_, _, rfl, h5, oencG_blk (fin _ hb5).2⟩, (fin _ hb5).1, (fin _ hb5).2⟩
        | 18, ho, hz, hp =>
          obtain rfl := Option.some.inj ho
          obtain ⟨ar, cr, h2, h3⟩ : ∃ ar cr, a.eval (.tmp 49) = .tuple #[.slice ar (mwL 1 x.ats (ovM x.opq x.red M)).length cr, .int .i64 (mwE 1 x.ats (ovM x.opq x.red M))] /\ AttT wx (.slice ar (mwL 1 x.ats (ovM x.opq x.red M)).length cr) (mwL 1 x.ats (ovM x.opq x.red M)) /\ ∃ cs, wx.heap[wi.heap.size]? = some (.cells cs 43 (0, 0)) := hp 17 _ 49 (by kernel_rfl) rfl rfl
          have p1 := evalTo h2
          clear h2
          clear ho hp hz
          unfold Oper.wp; go_simp; exact ⟨_, rfl, ⟨_, _, rfl, h3⟩, (fin _ (Below.refl _ _)).1, (fin _ (Below.refl _ _)).2⟩
        | 19, ho, hz, hp =>
          obtain rfl := Option.some.inj ho
          obtain ⟨ar, cr, h2, h3⟩ : ∃ ar cr, a.eval (.tmp 31) = .tuple #[.slice ar (mwL 1 x.ats (ovM x.opq x.red M)).length cr, .int .i64 (mwE 1 x.ats (ovM x.opq x.red M))] /\ AttT wx (.slice ar (mwL 1 x.ats (ovM x.opq x.red M)).length cr) (mwL 1 x.ats (ovM x.opq x.red M)) /\ ∃ cs, wx.heap[wi.heap.size]? = some (.cells cs 43 (0, 0)) := hp 18 _ 31 (by kernel_rfl) rfl rfl
          have p1 := evalTo h2
          clear h2
          clear ho hp hz
          unfold Oper.wp; go_simp; exact ⟨_, rfl, ⟨_, _, rfl, h3⟩, (fin _ (Below.refl _ _)).1, (fin _ (Below.refl _ _)).2⟩
        | 20, ho, hz, hp =>
          obtain rfl := Option.some.inj ho
          obtain ⟨ar, cr, h2, h3⟩ : ∃ ar cr, a.eval (.tmp 31) = .tuple #[.slice ar (mwL 1 x.ats (ovM x.opq x.red M)).length cr, .int .i64 (mwE 1 x.ats (ovM x.opq x.red M))] /\ AttT wx (.slice ar (mwL 1 x.ats (ovM x.opq x.red M)).length cr) (mwL 1 x.ats (ovM x.opq x.red M)) /\ ∃ cs, wx.heap[wi.heap.size]? = some (.cells cs 43 (0, 0)) := hp 18 _ 31 (by kernel_rfl) rfl rfl
          have p1 := evalTo h2
          clear h2
          clear ho hp hz
          unfold Oper.wp; go_simp; exact ⟨_, rfl, rfl, (fin _ (Below.refl _ _)).1, (fin _ (Below.refl _ _)).2⟩
        | 21, ho, hz, hp =>
          obtain rfl := Option.some.inj ho
          clear ho hp hz
          unfold Oper.wp; go_simp; exact ⟨_, rfl, rfl, (fin _ (Below.refl _ _)).1, (fin _ (Below.refl _ _)).2⟩
        | 22, ho, hz, hp =>
          obtain rfl := Option.some.inj ho
          obtain ⟨ar, cr, h2, h3, -⟩ : ∃ ar cr, a.eval (.tmp 50) = .slice ar (mwL 1 x.ats (ovM x.opq x.red M)).length cr /\ AttT wx (.slice ar (mwL 1 x.ats (ovM x.opq x.red M)).length cr) (mwL 1 x.ats (ovM x.opq x.red M)) /\ ∃ cs, wx.heap[wi.heap.size]? = some (.cells cs 43 (0, 0)) := hp 19 _ 50 (by kernel_rfl) rfl rfl
          have p50 := evalTo h2
          have p52 := evalTo (show a.eval (.tmp 52) = .pointer (some ⟨wi.heap.size, 3, none⟩) from hp 21 _ 52 (by kernel_rfl) rfl rfl)
          clear h2
          obtain rfl : z = false := by
            cases z
            · rfl
            · exact absurd rfl (hz rfl).1
          clear ho hp hz fin
          have d3 := bC HGH.out 3; have fz := fun j => bT HGH.out j; have z2 := blk_lt HGH.out
          unfold Oper.wp; go_simp
          exact ⟨⟨undef, trivial⟩, rb_set HGH.out _, ar, cr, (encEnd HGH.out EX h3).1, (encEnd HGH.out EX h3).2.1⟩
        | 23, ho, hz, hp =>
          obtain rfl := Option.some.inj ho
          have p51 := evalTo (show a.eval (.tmp 51) = .int .i64 (mwE 1 x.ats (ovM x.opq x.red M)) from hp 20 _ 51 (by kernel_rfl) rfl rfl)
          clear ho hp hz
          unfold Oper.wp; go_simp; exact ⟨_, rfl, rfl, (fin _ (Below.refl _ _)).1, (fin _ (Below.refl _ _)).2⟩
        | i + 24, ho, _, _ => exact absurd (Array.getElem?_eq_some_iff.1 ho).1 (by simp)
      · rename_i K1 hK1 J1 K2 hJ1 hK2
        clear hK1 K1
        intro vs wx hR hG hf
        generalize hA : putsA _ _ _ = A1
        have p4 : vs 4 = .int .i64 (mwE 1 x.ats (ovM x.opq x.red M)) := hf 23 _ 4 rfl rfl
        clear hf
        have hA2 := hA.symm.trans (congrArg (fun D => putsA _ D vs) (show dstL _ 24 = [32, 33, 34, 35, 36, 37, 38, 39, 40, 41, 42, 43, 44, 45, 46, 47, 48, 49, 31, 50, 51, 52, 4] by kernel_rfl))
        have EX : Ext wi wx := Below.trans HB4.out hR.below
        obtain ⟨ar, cr, hq, ha⟩ := hG
        rw [hA2]
        refine hK2 _ _ ?_
        clear hK2 hA2 hA
        simp only [putsA, List.foldl, Act.put, List.setIfInBounds_toArray, List.set_cons_succ, List.set_cons_zero]
        go_meet
        exact ⟨p4, ar, cr, hq, ha, EX⟩
    case rest =>
      obtain ⟨rfl, a8, c8', hq, ha, hEx⟩ := hcut
      have QB := hQq hq; have AB := hQq ha; have EB := hQq hEx
      clear hq ha hEx
      have y0 := bC QB.out 0; have y1 := bC QB.out 1; have y2 := bC QB.out 2; have y3 := bC QB.out 3; have y4 := bC QB.out 4; have y5 := bC QB.out 5; have y6 := bC QB.out 6; have y7 := bC QB.out 7
      by_cases hw : (mwE 1 x.ats (ovM x.opq x.red M)) = 0
      · have q3 : ((mwE 1 x.ats (ovM x.opq x.red M)) != 0) = false := bne_eq_false_iff_eq.2 hw
        have HN : Hid (∀ j, j < k + 1 -> oeE b j = 0) := hQq (fun j hj => by
          by_cases e : j = k
          · subst e; rw [HND.out.1]; exact hw
          · exact HOK.out j (by omega))
        clear hw
        go_wp2_with (at_builtin; refine appL okT rfl (.tmp 70) (.tmp 72) rfl _ _ ((List.range k).map (oeX b)) [oeX b k] w3 _ rfl rfl (by exact HO5.out.ext okT (EB.out.trans (eA _ _))) (by refine listIn_new okT _ (oeX b k) _ _ rfl ?_; rw [HND.out.2]; exact ⟨_, attT_in AB.out, rfl⟩) (by exact (HE.out.trans EB.out).trans (eA _ _)) (by have := ((HE.out.trans EB.out).trans (eA _ (.cells #[] 0))).size; simp at this ⊢; omega) (by rw [HQK.out]; simp; omega) ?_; intro v5 w5 ha; have HA := hQq ha; clear ha)
        go_roundw
        case rel => exact ⟨_, k + 1, rfl, by omega, by go_num, by rw [HTS.out]; exact HA.out.own, HN.out, HA.out.below⟩
        case measure => first | (simp [intOf]; done) | (simp [intOf]; omega)
      · have q3 : ((mwE 1 x.ats (ovM x.opq x.red M)) != 0) = true := bne_iff_ne.2 hw
        have HR := hQq (oe_of (gen_node (E := oeE b) (X := oeX b) HE0.out hlt HOK.out (by rw [HND.out.1]; exact hw)))
        clear hw
        go_wp2
        go_ret3
        exact ⟨⟨w.heap.size, none, 0, 0, Nat.le_refl _, by rw [HR.out.2.1, HR.out.2.2, HND.out.1]; rfl, by rw [HR.out.1]; exact OwnL.nil _ _ _⟩, HB3.out.trans (HE.out.trans EB.out)⟩
theorem ovCan (B : Nat) (w : World) (v : Value) (b : List BrN) (hL : LaidO w) (hb : BrIn B w v b) (hsm : SmallB b) :
    RetB Tryz.prog 110 #[v] w (.tuple #[.int .i64 (oeN b), .int .i64 (oeF b)]) := by
  unfold RetB
  have HV := hQq hb; have HL := hQq hL; have HSM := hQq hsm
  clear hb hL hsm
  go_enter Tryz.func110, Tryz.ntmps110
  go_wp2_with (go_at_call 45; refine (ovEncode B _ _ b HL.out HV.out HSM.out).mono ?_; rintro e w1 ⟨⟨B', a, n, c, _, rfl, _⟩, hb1⟩; have HB1 := hQq hb1; clear hb1)
  go_ret2
  exact ⟨rfl, HB1.out⟩
end Go.Proofs.YtnbkcalodmggaaaGreatDoor
