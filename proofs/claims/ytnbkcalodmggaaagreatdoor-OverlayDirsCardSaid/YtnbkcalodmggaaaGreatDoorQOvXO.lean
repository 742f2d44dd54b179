/- OvXO OvD -/
import Derived.Test.YtnbkcalodmggaaaGreatDoorQI5
import Derived.Test.YtnbkcalodmggaaaGreatDoorQWlkR
import Derived.Test.YtnbkcalodmggaaaGreatDoorQOvW
namespace Go.Proofs.YtnbkcalodmggaaaGreatDoor
open Go.RowKit

set_option maxRecDepth 100000 in
set_option maxHeartbeats 100000000 in
theorem neutG (x : TrN) (va : Value) (rt : Bool) (n : Int) (w : World) (hL : LaidO w) (hv : AttrsAt w va x.ats) (hm : Small x.ats) (hz : zeroB x = false) (hw : x.kd ≠ 5) (hp : ptsE 1 x.ats = 0) (hn : n <= 1000000) (ht : turnE (ptsO 1 x.ats) = 0) (hc : (isM (ptsO 1 x.ats) opqW = false /\ isM (ptsO 1 x.ats) reW = false /\ rt = true /\ True) \/ (isM (ptsO 1 x.ats) opqW = false /\ isM (ptsO 1 x.ats) reW = false /\ rt = false /\ True) \/ (isM (ptsO 1 x.ats) opqW = true /\ isM (ptsO 1 x.ats) reW = false /\ rt = true /\ x.kd = 1) \/ (isM (ptsO 1 x.ats) opqW = true /\ isM (ptsO 1 x.ats) reW = false /\ rt = false /\ x.kd = 1) \/ (isM (ptsO 1 x.ats) opqW = true /\ isM (ptsO 1 x.ats) reW = true /\ rt = false /\ x.kd = 1) \/ (isM (ptsO 1 x.ats) opqW = false /\ isM (ptsO 1 x.ats) reW = true /\ rt = false /\ x.kd = 1)) :
    Calls Tryz.prog 168 #[trV x va, .bool rt, .int .i64 n] w (NeutP w x rt n) := by
  obtain ⟨ho, hr, hrt, hk⟩ | ⟨ho, hr, hrt, hk⟩ | ⟨ho, hr, hrt, hk⟩ | ⟨ho, hr, hrt, hk⟩ | ⟨ho, hr, hrt, hk⟩ | ⟨ho, hr, hrt, hk⟩ := hc
  all_goals
    have HE : Hid (ndE x rt n = bookE (ptsO 1 x.ats) n) := hQq (by unfold ndE; rw [if_neg (by rw [hz]; exact Bool.false_ne_true), if_neg hw, if_neg (by rw [hp]; exact fun h => h rfl), if_neg (by rw [ho, hr]; simp [ht, hk, hrt])])
    have HX : Hid (ndX x = ⟨{ x with ats := ptsP 1 x.ats }, turnO (ptsO 1 x.ats), turnR (ptsO 1 x.ats)⟩) := hQq (by unfold ndX; rw [if_neg (by rw [hz]; exact Bool.false_ne_true)])
    have HN := hQq hn
    have HT0 := hQq ht; have HOP := hQq ho; have HRE := hQq hr
    subst hrt
    try have q4 : (x.kd != 1) = false := bne_eq_false_iff_eq.2 hk
    clear ht ho hr hk
    clear hn
    obtain ⟨a3, cap3, rfl, hcap, hc⟩ := hv
    have HV := hQq (show AttrsAt w (.slice a3 x.ats.length cap3) x.ats from ⟨a3, cap3, rfl, hcap, hc⟩)
    have HL := hQq hL; have HM := hQq hm
    have HZ := hQq hz
    have q1 : (x.kd == 5) = false := beq_eq_false_iff_ne.2 hw
    have HPZ := hQq hp
    have HTZ : Hid ((valM (ptsO 1 x.ats) reW).size <= 1000000) := hQq (valM_size hm)
    clear hcap hc hL hm hz hw hp
    unfold trV
    go_enter Tryz.func168, Tryz.ntmps168
    go_wp2_with fail
    refine (ovZero x _ ⟨_, _, _, rfl⟩ _).mono ?_
    rintro e w1 ⟨rfl, hb1⟩
    rw [HZ.out]
    have QX : Hid (w1.heap[w.heap.size]? = some (.cells #[.int .i64 x.dep, .string x.nm, .int .i64 x.kd, .slice a3 x.ats.length cap3, .string x.dat, .int .i64 x.ma, .int .i64 x.mi, .int .i64 x.cl] 43 (0, 0))) := hQq (bX hb1 (bA (bN w _)))
    have QN : Hid (w1.heap[w.heap.size + 1]? = some (.cells #[.int .i64 x.dep, .string x.nm, .int .i64 x.kd, .slice none 0 0, .string x.dat, .int .i64 x.ma, .int .i64 x.mi, .int .i64 x.cl, .bool false, .slice none 0 0] 41 (0, 0))) := hQq (bX hb1 (blk_at (by simp)))
    have E1 : Hid (Ext w w1) := hQq (((eA _ _).trans (eA _ _)).trans hb1)
    clear hb1
    have c0 := bC QX.out 0; have c1 := bC QX.out 1; have c2 := bC QX.out 2; have c3 := bC QX.out 3; have c4 := bC QX.out 4; have c5 := bC QX.out 5; have c6 := bC QX.out 6; have c7 := bC QX.out 7; have d0 := bC QN.out 0; have d1 := bC QN.out 1; have d2 := bC QN.out 2; have d3 := bC QN.out 3; have d4 := bC QN.out 4; have d5 := bC QN.out 5; have d6 := bC QN.out 6; have d7 := bC QN.out 7; have d8 := bC QN.out 8; have d9 := bC QN.out 9; have fz := fun j => bT QN.out j; have z1 := blk_lt QX.out; have z2 := blk_lt QN.out
    go_wp2_with fail
    refine (ovRead _ x.ats _ (HL.out.ext E1.out) (HV.out.ext E1.out) HM.out).mono ?_
    rintro e w2 ⟨⟨v2, bm, nm2, rfl, ho2, hm2, hbm⟩, hb2⟩
    rw [HPZ.out]
    have HO2 := hQq ho2; have HM2 := hQq hm2; obtain ⟨a6, cap6, rfl, -, -⟩ := ho2.1
    have HBM : Hid (w.heap.size + 1 < bm) := hQq (by have := blk_lt QN.out; omega)
    have QX2 := hQq (bX hb2 QX.out); have QN2 := hQq (bX hb2 QN.out); have E2 := hQq (E1.out.trans hb2)
    clear ho2 hm2 hbm hb2 c0 c1 c2 c3 c4 c5 c6 c7 d0 d1 d2 d3 d4 d5 d6 d7 d8 d9 fz z1 z2
    have c0 := bC QX2.out 0; have c1 := bC QX2.out 1; have c2 := bC QX2.out 2; have c3 := bC QX2.out 3; have c4 := bC QX2.out 4; have c5 := bC QX2.out 5; have c6 := bC QX2.out 6; have c7 := bC QX2.out 7; have d0 := bC QN2.out 0; have d1 := bC QN2.out 1; have d2 := bC QN2.out 2; have d3 := bC QN2.out 3; have d4 := bC QN2.out 4; have d5 := bC QN2.out 5; have d6 := bC QN2.out 6; have d7 := bC QN2.out 7; have d8 := bC QN2.out 8; have d9 := bC QN2.out 9; have fz := fun j => bT QN2.out j; have z1 := blk_lt QX2.out; have z2 := blk_lt QN2.out
    go_wp2_with fail
    refine (ovTurn (ptsO 1 x.ats) bm nm2 _ (HL.out.ext (E2.out.trans (eA _ _))) (HM2.out.ext (eA _ _)) HTZ.out).mono ?_
    rintro e w3 ⟨⟨a7, cap7, rfl, ho3⟩, hb3⟩
    have HO3 := hQq ho3
    have QX3 := hQq (bX hb3 (bA QX2.out)); have QN3 := hQq (bX hb3 (bA QN2.out)); have QM3 := hQq (bX hb3 (bN w2 _)); have ZN : Hid (w.heap.size + 1 < w2.heap.size) := hQq (blk_lt QN2.out); have E3 := hQq (E2.out.trans ((eA _ _).trans hb3)); have F3 := hQq (Ext.trans (eA _ _) hb3)
    have lkO := thM_lookO (HM2.out.ext (Ext.trans (eA _ _) hb3)); have lkR := thM_lookR (HM2.out.ext (Ext.trans (eA _ _) hb3))
    clear ho3 hb3 c0 c1 c2 c3 c4 c5 c6 c7 d0 d1 d2 d3 d4 d5 d6 d7 d8 d9 fz z1 z2
    have c0 := bC QX3.out 0; have c1 := bC QX3.out 1; have c2 := bC QX3.out 2; have c3 := bC QX3.out 3; have c4 := bC QX3.out 4; have c5 := bC QX3.out 5; have c6 := bC QX3.out 6; have c7 := bC QX3.out 7; have d0 := bC QN3.out 0; have d1 := bC QN3.out 1; have d2 := bC QN3.out 2; have d3 := bC QN3.out 3; have d4 := bC QN3.out 4; have d5 := bC QN3.out 5; have d6 := bC QN3.out 6; have d7 := bC QN3.out 7; have d8 := bC QN3.out 8; have d9 := bC QN3.out 9; have fz := fun j => bT QN3.out j; have z1 := blk_lt QX3.out; have z2 := blk_lt QN3.out
    rw [HOP.out] at lkO
    rw [HRE.out] at lkR
    rw [HT0.out]
    go_upto_region 17 with fail
    refine nW (P := fun W => Code.wp _ _ _ _ W) _ ?_
    intro W hW
    obtain ⟨hq, hx, hkb, hsz⟩ := puts3 (w := w) QN3.out (by omega) E3.out hW
    have QW := hQq hq; have EW := hQq hx
    have MW : Hid (W.heap[w2.heap.size]? = some _) := hQq (hkb _ _ QM3.out (fun e => by have h2 : w.heap.size + 1 = w2.heap.size := Option.some.inj e; have := ZN.out; omega))
    have HW := hQq ((HM2.out.ext F3.out).keepB (fun o h => hkb _ o h (fun e => by have h2 : w.heap.size + 1 = bm := Option.some.inj e; have := HBM.out; omega)))
    have AW := hQq (attT_keep (HO2.out.ext F3.out) hkb (Nat.le_of_eq hsz.symm) QN3.out (by decide))
    have SW := hQq (strIn_keep HO3.out hkb (Nat.le_of_eq hsz.symm) QN3.out)
    clear hq hx hkb hsz hW lkO lkR c0 c1 c2 c3 c4 c5 c6 c7 d0 d1 d2 d3 d4 d5 d6 d7 d8 d9 fz z1 z2
    go_cut [7] (fun p wx => p = .int .i64 (bookE (ptsO 1 x.ats) n) /\ wx.heap[w.heap.size + 1]? = some (.cells #[.int .i64 x.dep, .string x.nm, .int .i64 x.kd, .slice a6 (ptsP 1 x.ats).length cap6, .string x.dat, .int .i64 x.ma, .int .i64 x.mi, .int .i64 x.cl, .bool (turnO (ptsO 1 x.ats)), .slice a7 (turnR (ptsO 1 x.ats)).length cap7] 41 (0, 0)) /\ Ext w wx /\ AttT wx (.slice a6 (ptsP 1 x.ats).length cap6) (ptsP 1 x.ats) /\ StrIn 0 wx (.slice a7 (turnR (ptsO 1 x.ats)).length cap7) (turnR (ptsO 1 x.ats)))
    case first =>
      refine wp_region_inv3 (neuF x (.slice a6 (ptsP 1 x.ats).length cap6) (.slice a7 (turnR (ptsO 1 x.ats)).length cap7) (turnO (ptsO 1 x.ats)) (valM (ptsO 1 x.ats) opqW) (valM (ptsO 1 x.ats) reW) (valM (ptsO 1 x.ats) nlW) bm n (bookE (ptsO 1 x.ats) n)) 5 6 rfl (by kernel_rfl) (by kernel_rfl) neuF_mono ?_ ?_
      · rename_i K1 hK1 J1 K2 hJ1 hK2
        clear hK1 hJ1 hK2 K1 J1
        intro i o a wx hi ho hE hk hp
        have n6 := evalTo (show a.eval (.tmp 6) = .pointer (some ⟨w.heap.size + 1, 0, none⟩) from hk 6 (of_decide_eq_true (by kernel_rfl)))
        have n9 := evalTo (show a.eval (.tmp 9) = .pointer (some ⟨w2.heap.size, 0, none⟩) from hk 9 (of_decide_eq_true (by kernel_rfl)))
        have n10 := evalTo (show a.eval (.tmp 10) = .map (some bm) from hk 10 (of_decide_eq_true (by kernel_rfl)))
        have n2 := evalTo (show a.eval (.tmp 2) = .int .i64 n from hk 2 (of_decide_eq_true (by kernel_rfl)))
        clear hk
        match i, hi, ho, hp with
        | 0, _, ho, hp =>
          obtain rfl := Option.some.inj ho
          have qx := bX hE QW.out
          have d0 := bC qx 0; have d1 := bC qx 1; have d2 := bC qx 2; have d3 := bC qx 3; have d4 := bC qx 4; have d5 := bC qx 5; have d6 := bC qx 6; have d7 := bC qx 7; have d8 := bC qx 8; have d9 := bC qx 9
          clear ho hp
          unfold Oper.wp; go_simp; exact ⟨_, rfl, rfl, Below.refl _ _⟩
        | 1, _, ho, hp =>
          obtain rfl := Option.some.inj ho
          have qx := bX hE MW.out
          have d0 := bC qx 0; have d1 := bC qx 1; have d2 := bC qx 2
          clear ho hp
          unfold Oper.wp; go_simp; exact ⟨_, rfl, rfl, Below.refl _ _⟩
        | 2, _, ho, hp =>
          obtain rfl := Option.some.inj ho
          clear ho hp
          unfold Oper.wp; go_simp; exact ⟨_, rfl, rfl, Below.refl _ _⟩
        | 3, _, ho, hp =>
          obtain rfl := Option.some.inj ho
          clear ho hp
          unfold Oper.wp; go_simp; exact ⟨_, rfl, rfl, Below.refl _ _⟩
        | 4, _, ho, hp =>
          obtain rfl := Option.some.inj ho
          have p1 := evalTo (show a.eval (.tmp 97) = mksV (valM (ptsO 1 x.ats) opqW) (valM (ptsO 1 x.ats) reW) (valM (ptsO 1 x.ats) nlW) from hp 1 _ 97 (by kernel_rfl) rfl rfl)
          have p2 := evalTo (show a.eval (.tmp 98) = .map (some bm) from hp 2 _ 98 (by kernel_rfl) rfl rfl)
          have p3 := evalTo (show a.eval (.tmp 99) = .int .i64 n from hp 3 _ 99 (by kernel_rfl) rfl rfl)
          clear ho hp
          unfold Oper.wp; go_simp
          refine (ovBook (ptsO 1 x.ats) bm nm2 n _ (HL.out.ext (EW.out.trans hE)) (HW.out.ext hE) HN.out).mono ?_
          rintro e w5 ⟨rfl, hb5⟩
          exact ⟨_, rfl, rfl, hb5⟩
        | i + 5, h, _, _ => exact absurd h (by omega)
      · rename_i K1 hK1 J1 K2 hJ1 hK2
        clear hK1 K1
        intro vs wx hE hf
        generalize hA : putsA _ _ _ = A1
        have p96 : vs 96 = .agg #[.int .i64 x.dep, .string x.nm, .int .i64 x.kd, .slice a6 (ptsP 1 x.ats).length cap6, .string x.dat, .int .i64 x.ma, .int .i64 x.mi, .int .i64 x.cl, .bool (turnO (ptsO 1 x.ats)), .slice a7 (turnR (ptsO 1 x.ats)).length cap7] := hf 0 _ 96 (by omega) rfl rfl
        have p100 : vs 100 = .int .i64 (bookE (ptsO 1 x.ats) n) := hf 4 _ 100 (by omega) rfl rfl
        clear hf
        have hA2 := hA.symm.trans (congrArg (fun D => putsA _ D vs) (show dstL _ 5 = [96, 97, 98, 99, 100] by kernel_rfl))
        have e6 := evalTo (show A1.eval (.tmp 6) = .pointer (some ⟨w.heap.size + 1, 0, none⟩) by rw [hA2, puts_eval _ _ _ _ (of_decide_eq_true (by kernel_rfl)), if_neg (by decide)]; rfl)
        have e96 := evalTo (show A1.eval (.tmp 96) = .agg #[.int .i64 x.dep, .string x.nm, .int .i64 x.kd, .slice a6 (ptsP 1 x.ats).length cap6, .string x.dat, .int .i64 x.ma, .int .i64 x.mi, .int .i64 x.cl, .bool (turnO (ptsO 1 x.ats)), .slice a7 (turnR (ptsO 1 x.ats)).length cap7] by rw [hA2, puts_eval _ _ _ _ (of_decide_eq_true (by kernel_rfl)), if_pos (by decide), p96])
        have e100 := evalTo (show A1.eval (.tmp 100) = .int .i64 (bookE (ptsO 1 x.ats) n) by rw [hA2, puts_eval _ _ _ _ (of_decide_eq_true (by kernel_rfl)), if_pos (by decide), p100])
        have HA := hQq hA2
        clear hA2 hA p96 p100
        have QX5 := hQq (bX hE QW.out); have EX5 := hQq (EW.out.trans hE); have AX5 := hQq (AW.out.ext hE); have SX5 := hQq (SW.out.ext okS hE)
        clear hE
        have d0 := bC QX5.out 0; have d1 := bC QX5.out 1; have d2 := bC QX5.out 2; have d3 := bC QX5.out 3; have d4 := bC QX5.out 4; have d5 := bC QX5.out 5; have d6 := bC QX5.out 6; have d7 := bC QX5.out 7; have d8 := bC QX5.out 8; have d9 := bC QX5.out 9; have fz := fun j => bT QX5.out j; have z2 := blk_lt QX5.out
        refine tail_cons rfl ?_
        unfold Oper.wp
        go_simp
        refine tail_cons rfl ?_
        unfold Oper.wp
        go_simp
        unfold tailWp
        rw [HA.out]
        refine hK2 _ _ ?_
        clear e6 e96 e100 hK2 fz z2 d0 d1 d2 d3 d4 d5 d6 d7 d8 d9
        simp only [putsA, List.foldl, Act.put, List.setIfInBounds_toArray, List.set_cons_succ, List.set_cons_zero]
        go_meet
        exact ⟨rfl, neuEnd QX5.out (by omega) EX5.out AX5.out SX5.out⟩
    case rest =>
      obtain ⟨rfl, hq, hx, ha, hs⟩ := hcut
      have QF := hQq hq; have XF := hQq hx; have AF := hQq ha; have SF := hQq hs
      clear hq hx ha hs
      have d0 := bC QF.out 0; have d1 := bC QF.out 1; have d2 := bC QF.out 2; have d3 := bC QF.out 3; have d4 := bC QF.out 4; have d5 := bC QF.out 5; have d6 := bC QF.out 6; have d7 := bC QF.out 7; have d8 := bC QF.out 8; have d9 := bC QF.out 9
      go_wp2_with fail
      refine bodyPost_ret (v := .tuple #[.agg #[.int .i64 x.dep, .string x.nm, .int .i64 x.kd, .slice a6 (ptsP 1 x.ats).length cap6, .string x.dat, .int .i64 x.ma, .int .i64 x.mi, .int .i64 x.cl, .bool (turnO (ptsO 1 x.ats)), .slice a7 (turnR (ptsO 1 x.ats)).length cap7], .int .i64 (bookE (ptsO 1 x.ats) n)]) (by simp [results, Tryz.f168, go_sem, bC QF.out 0, bC QF.out 1, bC QF.out 2, bC QF.out 3, bC QF.out 4, bC QF.out 5, bC QF.out 6, bC QF.out 7, bC QF.out 8, bC QF.out 9]) rfl ?_
      exact ⟨⟨ndX x, _, _, by rw [HE.out, HX.out], ⟨_, _, _, rfl⟩, ⟨_, _, _, rfl⟩, fun _ => ⟨rfl, by rw [HX.out]; exact AF.out, by rw [HX.out]; exact SF.out⟩⟩, XF.out⟩
theorem ovNeutral (x : TrN) (va : Value) (rt : Bool) (n : Int) (w : World) (hL : LaidO w) (hv : AttrsAt w va x.ats) (hm : Small x.ats) (hk : kindE x = 0) (hn : n <= 1000000) :
    Calls Tryz.prog 168 #[trV x va, .bool rt, .int .i64 n] w (NeutP w x rt n) := by
  by_cases hs : zeroB x = true \/ x.kd = 5 \/ ptsE 1 x.ats ≠ 0
  · exact neutE x va rt n w hL hv hm hk hs
  · have hz : zeroB x = false := by
      cases h : zeroB x
      · rfl
      · exact absurd (.inl h) hs
    have hw : x.kd ≠ 5 := fun e => hs (.inr (.inl e))
    have hp : ptsE 1 x.ats = 0 := Decidable.not_not.1 fun e => hs (.inr (.inr e))
    by_cases ht : turnE (ptsO 1 x.ats) = 0
    · cases ho : isM (ptsO 1 x.ats) opqW <;> cases hr : isM (ptsO 1 x.ats) reW <;> cases rt
      · exact neutG x va _ n w hL hv hm hz hw hp hn ht (.inr (.inl ⟨ho, hr, rfl, trivial⟩))
      · exact neutG x va _ n w hL hv hm hz hw hp hn ht (.inl ⟨ho, hr, rfl, trivial⟩)
      · by_cases hk1 : x.kd = 1
        · exact neutG x va _ n w hL hv hm hz hw hp hn ht (.inr (.inr (.inr (.inr (.inr ⟨ho, hr, rfl, hk1⟩)))))
        · exact neutF x va _ n w hL hv hm hz hw hp hn (.inr (.inr (.inr (.inl ⟨ht, ho, hr, hk1⟩))))
      · by_cases hk1 : x.kd = 1
        · exact neutF x va _ n w hL hv hm hz hw hp hn (.inr (.inr (.inr (.inr (.inr ⟨ht, ho, hr, hk1, rfl⟩)))))
        · exact neutF x va _ n w hL hv hm hz hw hp hn (.inr (.inr (.inr (.inl ⟨ht, ho, hr, hk1⟩))))
      · by_cases hk1 : x.kd = 1
        · exact neutG x va _ n w hL hv hm hz hw hp hn ht (.inr (.inr (.inr (.inl ⟨ho, hr, rfl, hk1⟩))))
        · exact neutF x va _ n w hL hv hm hz hw hp hn (.inr (.inr (.inl ⟨ht, ho, hk1⟩)))
      · by_cases hk1 : x.kd = 1
        · exact neutG x va _ n w hL hv hm hz hw hp hn ht (.inr (.inr (.inl ⟨ho, hr, rfl, hk1⟩)))
        · exact neutF x va _ n w hL hv hm hz hw hp hn (.inr (.inr (.inl ⟨ht, ho, hk1⟩)))
      · by_cases hk1 : x.kd = 1
        · exact neutG x va _ n w hL hv hm hz hw hp hn ht (.inr (.inr (.inr (.inr (.inl ⟨ho, hr, rfl, hk1⟩)))))
        · exact neutF x va _ n w hL hv hm hz hw hp hn (.inr (.inr (.inl ⟨ht, ho, hk1⟩)))
      · by_cases hk1 : x.kd = 1
        · exact neutF x va _ n w hL hv hm hz hw hp hn (.inr (.inr (.inr (.inr (.inl ⟨ht, ho, hr, hk1, rfl⟩)))))
        · exact neutF x va _ n w hL hv hm hz hw hp hn (.inr (.inr (.inl ⟨ht, ho, hk1⟩)))
    · cases ho : isM (ptsO 1 x.ats) opqW
      · exact neutF x va rt n w hL hv hm hz hw hp hn (.inr (.inl ⟨ht, ho⟩))
      · exact neutF x va rt n w hL hv hm hz hw hp hn (.inl ⟨ht, ho⟩)
end Go.Proofs.YtnbkcalodmggaaaGreatDoor
namespace Go.Proofs.YtnbkcalodmggaaaGreatDoor
open Go.RowKit

set_option maxRecDepth 100000 in
set_option maxHeartbeats 16000000 in
theorem ovDecode (B : Nat) (w : World) (v : Value) (t : List TrN) (hL : LaidO w) (hv : TrIn B w v t) (hsm : SmallT t) :
    Calls Tryz.prog 106 #[v] w (OdecP w t) := by
  obtain ⟨aa, cap, rfl⟩ := hv.form
  have HV := hQq hv; have HL := hQq hL; have HSM := hQq hsm
  clear hv hL hsm
  by_cases he : treeE t = 0
  case neg =>
    have HR := hQq (od_of (gend_tree (E := odE t) (X := odX t) he))
    have q1 : (treeE t != 0) = true := bne_iff_ne.2 he
    clear he
    go_enter Tryz.func106, Tryz.ntmps106
    go_wp2_with (go_at_call 70; refine (treeCheck B _ t _ HV.out HSM.out).mono ?_; rintro e w1 ⟨rfl, hb1⟩; have HB1 := hQq hb1; clear hb1)
    go_ret3
    exact ⟨⟨w.heap.size, none, 0, 0, Nat.le_refl _, by rw [HR.out.2.1, HR.out.2.2]; rfl, by rw [HR.out.1]; exact OwnL.nil _ _ _⟩, HB1.out⟩
  have HE0 := hQq he
  have HCH := hQq (fun k hk => getT_chk he (k := k) hk)
  have HKD := hQq (fun k hk => getT_kind he (k := k) hk)
  have hlen := (treeE_zero he).2.1
  have HSD := hQq (od_small he HSM.out)
  have q1 : (treeE t != 0) = false := bne_eq_false_iff_eq.2 he
  clear he
  go_enter Tryz.func106, Tryz.ntmps106
  go_wp2_with (first
    | (go_at_call 70; refine (treeCheck B _ t _ HV.out HSM.out).mono ?_; rintro e w1 ⟨rfl, hb1⟩; have HB1 := hQq hb1; clear hb1)
    | (go_at_call 122; refine (ovNames B _ t _ (HV.out.ext okT HB1.out) (by omega)).mono ?_; rintro e w3 ⟨⟨bm, nm, rfl, hm, hbm⟩, hb3⟩; have HM := hQq hm; have HBM := hQq hbm; have HB3 := hQq (Ext.trans HB1.out hb3); clear hm hbm hb3))
  go_loopw [2, 27] (fun o c w' => ∃ (wi : World) (k : Nat), wi = w' /\ k <= t.length /\ c = .int .i64 k /\ OwnL cdB w3.heap.size wi o ((List.range k).map (odX t)) /\ (∀ j, j < k -> odE t j = 0) /\ Ext w3 wi) (fun _ c _ => t.length - (intOf c).toNat)
  case atStart => exact ⟨_, 0, rfl, Nat.zero_le _, rfl, OwnL.nil _ _ _, fun j hj => absurd hj (by omega), Below.refl _ _⟩
  case round =>
    obtain ⟨wi, k, rfl, hk, rfl, ho, hok, hE⟩ := hrel
    have HO := hQq ho; have HE := hQq hE; have HOK := hQq hok
    obtain ⟨a5, cap5, rfl⟩ := ho.form
    have HQK : Hid (((List.range k).map (odX t)).length = k) := hQq (by simp)
    clear hok ho
    rw [HQK.out] at HO ⊢
    by_cases hlt : k < t.length
    case neg =>
      obtain rfl : k = t.length := by omega
      clear hE
      by_cases hb : brEr ((List.range t.length).map (odX t)) = 0
      · have HR := hQq (od_of (gend_ok (E := odE t) (X := odX t) HE0.out HOK.out hb))
        have q3 : (brEr ((List.range t.length).map (odX t)) != 0) = false := bne_eq_false_iff_eq.2 hb
        clear hb
        go_wp2_with (go_at_call 53; refine (brCheck w3.heap.size _ _ ((List.range t.length).map (odX t)) (by have h := HO.out.in okB; exact h) HSD.out).mono ?_; rintro e w2 ⟨rfl, hb2⟩; have HB2 := hQq hb2; clear hb2)
        go_ret3
        exact ⟨⟨w3.heap.size, _, _, _, HB3.out.size, by rw [HR.out.2.1, HR.out.2.2]; rfl, by rw [HR.out.1]; exact HO.out.ext okB HB2.out⟩, HB3.out.trans (HE.out.trans HB2.out)⟩
      · have HR := hQq (od_of (gend_br (E := odE t) (X := odX t) HE0.out HOK.out hb))
        have q3 : (brEr ((List.range t.length).map (odX t)) != 0) = true := bne_iff_ne.2 hb
        clear hb
        go_wp2_with (go_at_call 53; refine (brCheck w3.heap.size _ _ ((List.range t.length).map (odX t)) (by have h := HO.out.in okB; exact h) HSD.out).mono ?_; rintro e w2 ⟨rfl, hb2⟩; have HB2 := hQq hb2; clear hb2)
        go_ret3
        exact ⟨⟨w3.heap.size, none, 0, 0, HB3.out.size, by rw [HR.out.2.1, HR.out.2.2]; rfl, by rw [HR.out.1]; exact OwnL.nil _ _ _⟩, HB3.out.trans (HE.out.trans HB2.out)⟩
    obtain ⟨bb, off, va, hex, hbx, hva, c0, c1, c2, c3, c4, c5, c6, c7⟩ := (HV.out.ext okT (HB3.out.trans HE.out)).tr k hlt
    cases hex
    obtain ⟨a3, cap3, rfl⟩ := hva.form
    have HVA := hQq hva.attrs
    have HG := hQq (getT_at t k hlt)
    have hch := HCH.out k hlt
    have hkd := HKD.out k hlt
    rw [getT_at t k hlt] at hch hkd
    have HSX := hQq (small_chk hch); have HKX := hQq hkd
    have HTS : Hid ((List.range (k + 1)).map (odX t) = (List.range k).map (odX t) ++ [odX t k]) := hQq (by rw [List.range_succ, List.map_append]; rfl)
    have HXE : Hid (odX t k = ndX (t[k]'hlt)) := hQq (by rw [odX_nd, getT_at t k hlt])
    have HEE : Hid (odE t k = ndE (t[k]'hlt) ((k : Int) == 0) (manyT t (t[k]'hlt).cl)) := hQq (by
      rw [odE_nd, getT_at t k hlt]
      congr 1
      rw [Bool.eq_iff_iff]; simp)
    generalize t[k]'hlt = x at c0 c1 c2 c3 c4 c5 c6 c7 HVA HG HSX HKX HXE HEE
    have j1 : ((k : Nat) : Int) < (t.length : Int) := by omega
    have j0 : (0 : Int) <= (k : Int) := by omega
    have hM := many_bd t x.cl
    have HMM := hQq (mnF_look t x.cl)
    generalize hMg : manyT t x.cl = M at HEE hM HMM
    have HMB : Hid (M <= 1000000) := hQq (by omega)
    clear hM hMg hva hE hch hkd
    by_cases hz : ndE x ((k : Int) == 0) M = 0
    · have HN : Hid (∀ j, j < k + 1 -> odE t j = 0) := hQq (fun j hj => by
        by_cases e : j = k
        · subst e; rw [HEE.out]; exact hz
        · exact HOK.out j (by omega))
      have q2 : (ndE x ((k : Int) == 0) M != 0) = false := bne_eq_false_iff_eq.2 hz
      have HZ := hQq hz
      clear hz
      go_wp2_with (first
        | (at_lookup; refine wl_look rfl (.tmp 36) (.tmp 38) 70 false rfl 3 3 keyInt mapT_count (.int .i64 0) zeroInt rfl (HM.out.ext (HE.out.trans (eA _ _))) x.cl rfl ?_; rw [if_neg Bool.false_ne_true, HMM.out])
        | (go_at_call 168; refine (ovNeutral x _ ((k : Int) == 0) M _ (HL.out.ext (HB3.out.trans (HE.out.trans (eA _ _)))) (HVA.out.ext (eA _ _)) HSX.out HKX.out HMB.out).mono ?_; rintro e w4 ⟨⟨y, ya, yr, rfl, ⟨a6, n6, c6', rfl⟩, ⟨a7, n7, c7', rfl⟩, hok⟩, hb4⟩; obtain ⟨hy1, hy2, hy3⟩ := hok HZ.out; have HY1 := hQq hy1; have HY2 := hQq hy2; have HY3 := hQq hy3; have HB4 := hQq ((eA _ _).trans hb4); clear hok hb4 hy1 hy2 hy3)
        | (at_builtin; refine appL okB rfl (.tmp 47) (.tmp 49) rfl _ _ ((List.range k).map (odX t)) [odX t k] w3 _ rfl rfl (by exact HO.out.ext okB ((HB4.out.trans (eA _ _)).trans (eA _ _))) (by refine listIn_new okB _ (odX t k) _ _ (by simp) ?_; rw [HXE.out, <- HY1.out]; exact ⟨_, _, attT_in (HY2.out.ext (eA _ _)), (HY3.out.mono okS (Nat.zero_le _)).ext okS (eA _ _), rfl⟩) (by exact ((HE.out.trans HB4.out).trans (eA _ _)).trans (eA _ _)) (by have := (((HE.out.trans HB4.out).trans (eA w4 (.cells #[] 0))).trans (eA _ (.cells #[] 0))).size; simp at this ⊢; omega) (by rw [HQK.out]; simp; omega) ?_; intro v5 w5 ha; have HA := hQq ha; clear ha)
        | fail)
      go_roundw
      case rel => exact ⟨_, k + 1, rfl, by omega, by go_num, by rw [HTS.out]; exact HA.out.own, HN.out, HA.out.below⟩
      case measure => first | (simp [intOf]; done) | (simp [intOf]; omega)
    · have HR := hQq (od_of (gend_node (E := odE t) (X := odX t) HE0.out hlt HOK.out (by rw [HEE.out]; exact hz)))
      have q2 : (ndE x ((k : Int) == 0) M != 0) = true := bne_iff_ne.2 hz
      clear hz
      go_wp2_with (first
        | (at_lookup; refine wl_look rfl (.tmp 36) (.tmp 38) 70 false rfl 3 3 keyInt mapT_count (.int .i64 0) zeroInt rfl (HM.out.ext (HE.out.trans (eA _ _))) x.cl rfl ?_; rw [if_neg Bool.false_ne_true, HMM.out])
        | (go_at_call 168; refine (ovNeutral x _ ((k : Int) == 0) M _ (HL.out.ext (HB3.out.trans (HE.out.trans (eA _ _)))) (HVA.out.ext (eA _ _)) HSX.out HKX.out HMB.out).mono ?_; rintro e w4 ⟨⟨y, ya, yr, rfl, ⟨a6, n6, c6', rfl⟩, ⟨a7, n7, c7', rfl⟩, hok⟩, hb4⟩; have HB4 := hQq ((eA _ _).trans hb4); clear hok hb4)
        | fail)
      go_ret3
      exact ⟨⟨w3.heap.size, none, 0, 0, HB3.out.size, by rw [HR.out.2.1, HR.out.2.2, HEE.out]; rfl, by rw [HR.out.1]; exact OwnL.nil _ _ _⟩, HB3.out.trans (HE.out.trans (HB4.out.trans (eA _ _)))⟩
theorem ovGood (B : Nat) (w : World) (v : Value) (t : List TrN) (hL : LaidO w) (hv : TrIn B w v t) (hsm : SmallT t) :
    RetB Tryz.prog 109 #[v] w (.tuple #[.int .i64 (odN t), .int .i64 (odF t)]) := by
  unfold RetB
  have HV := hQq hv; have HL := hQq hL; have HSM := hQq hsm
  clear hv hL hsm
  go_enter Tryz.func109, Tryz.ntmps109
  go_wp2_with (go_at_call 106; refine (ovDecode B _ _ t HL.out HV.out HSM.out).mono ?_; rintro e w1 ⟨⟨B', a, n, c, _, rfl, _⟩, hb1⟩; have HB1 := hQq hb1; clear hb1)
  go_ret2
  exact ⟨rfl, HB1.out⟩
end Go.Proofs.YtnbkcalodmggaaaGreatDoor
