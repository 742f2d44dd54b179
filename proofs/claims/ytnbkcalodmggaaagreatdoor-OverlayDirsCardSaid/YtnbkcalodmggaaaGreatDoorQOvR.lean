/- OvR OvB -/
import Derived.Test.YtnbkcalodmggaaaGreatDoorQI5
import Derived.Test.YtnbkcalodmggaaaGreatDoorQRBox
import Derived.Test.YtnbkcalodmggaaaGreatDoorQFarB
namespace Go.Proofs.YtnbkcalodmggaaaGreatDoor
open Go.RowKit

set_option maxRecDepth 100000 in
set_option maxHeartbeats 8000000 in
theorem ovRead (v : Value) (l : List Attr) (w : World) (hL : LaidO w) (hv : AttrsAt w v l) (hm : Small l) :
    Calls Tryz.prog 172 #[v] w (ReadP w l) := by
  have HL := hQq hL; have HV := hQq hv; have HM := hQq hm
  clear hL hv hm
  have hmm := @run_makeMap Tryz.prog
  go_enter Tryz.func172, Tryz.ntmps172
  go_wp2_with (go_at_call 90; refine (escPartsT 1 _ l _ (HL.out.ext (eA _ _)).laid (HV.out.ext (eA _ _)) HM.out).mono ?_; rintro e w1 ⟨⟨v1, v2, rfl, ho1, ho2⟩, hb⟩; have HO1 := hQq ho1; have HO2 := hQq ho2; obtain ⟨a2, c2, rfl, -, -⟩ := ho2.1; have HB := hQq ((eA _ _).trans hb); have QB := hQq (bX hb (bN w (.cells #[.string ⟨#[]⟩, .string ⟨#[]⟩, .string ⟨#[]⟩] 135 (0, 0)))); clear ho1 ho2 hb)
  have HD := hQq (dist_own l)
  have HOW := hQq (fun a (ha : a ∈ ptsO 1 l) => pts_own1 ha)
  have HLE : Hid ((ptsO 1 l).length <= 6) := hQq (own_len l)
  have HRP : Hid (∀ e w', (∃ v' b n, e = .returned (.tuple #[v', mksV (valM (ptsO 1 l) opqW) (valM (ptsO 1 l) reW) (valM (ptsO 1 l) nlW), .map (some b), .int .i64 (ptsE 1 l)]) /\ AttT w' v' (ptsP 1 l) /\ MapAt kS w' b n (thM (ptsO 1 l)) /\ w.heap.size <= b) -> Ext w w' -> ReadP w l e w') := hQq (fun e w' h1 h2 => ⟨h1, h2⟩)
  generalize hown : ptsO 1 l = own at HO2 HD HOW HLE HRP ⊢
  clear hown
  have hle := HLE.out
  have HLT : Hid (w.heap.size < w1.heap.size) := hQq (by have := HB.out.size; have h2 := blk_lt QB.out; omega)
  go_loopw [18] (fun i w' => ∃ (wi : World) (k : Nat), wi = w' /\ k <= own.length /\ i = .int .i64 k /\ RdSt w w1 own k wi) (fun i _ => own.length - (intOf i).toNat)
  case atStart => exact ⟨_, 0, rfl, Nat.zero_le _, rfl, ⟨bA QB.out, ⟨0, by rw [List.take_zero, thM_nil]; exact mapAt_made _ _⟩, fun b o hb _ => bA hb, by simp, HB.out.trans (eA _ _)⟩⟩
  case round =>
    obtain ⟨wi, k, rfl, hk, rfl, hst⟩ := hrel
    have HST := hQq hst
    obtain ⟨n, hm⟩ := hst.map
    have HM := hQq hm
    have HA2 := hQq (attT_keep HO2.out hst.keep (Nat.le_of_lt hst.size) QB.out (by decide))
    clear hst hm
    by_cases hlt : k < own.length
    case neg =>
      obtain rfl : k = own.length := by omega
      have HA1 := hQq (attT_keep HO1.out HST.out.keep (Nat.le_of_lt HST.out.size) QB.out (by decide))
      have HQ := hQq HST.out.marks
      rw [List.take_length] at HQ HM
      obtain ⟨m0, m1, m2⟩ := mkA3_cells own
      have y0 := (bC HQ.out 0).trans m0; have y1 := (bC HQ.out 1).trans m1; have y2 := (bC HQ.out 2).trans m2; have fz := fun j => bT HQ.out j; have z := blk_lt HQ.out
      clear m0 m1 m2
      go_wp2
      go_region
      all_goals
        go_wp2
        refine nW (P := fun W => bodyPost _ _ _ _ _ W) _ ?_
        intro W2 hW2
        have hW3 : W2 = (setL wi w.heap.size 0 [.string (valM own opqW), .string (valM own reW), .string (valM own nlW)]).drew := hW2
        obtain ⟨hq0, hx0⟩ := put3 (w := w) (W2 := setL wi w.heap.size 0 [.string (valM own opqW), .string (valM own reW), .string (valM own nlW)]) HQ.out (Nat.le_refl _) HST.out.ext rfl
        have hkp : KeepBut (some w.heap.size) wi W2 := by rw [hW3]; exact fun b o hb hne => bX (eD _) (setL_keep _ wi 0 b o hb hne)
        have hx : Ext w W2 := by rw [hW3]; exact hx0.trans (eD _)
        have hq := bX (eD _) hq0
        rw [<- hW3] at hq
        have hsz : wi.heap.size <= W2.heap.size := by rw [hW3]; exact Nat.le_of_eq (setL_size [.string (valM own opqW), .string (valM own reW), .string (valM own nlW)] wi 0).symm
        refine bodyPost_ret (v := .tuple #[v1, mksV (valM own opqW) (valM own reW) (valM own nlW), .map (some w1.heap.size), .int .i64 (ptsE 1 l)]) (by simp [results, Tryz.f172, go_sem, bC hq 0, bC hq 1, bC hq 2]) rfl ?_
        exact HRP.out _ _ ⟨v1, w1.heap.size, n, rfl, attT_keep HA1.out hkp hsz HQ.out (by decide), HM.out.keep hkp (fun e => by have := HLT.out; injection e with e; omega), Nat.le_of_lt HLT.out⟩ hx
    obtain ⟨a', cap', e', _, hc⟩ := HA2.out.1
    cases e'
    obtain ⟨b, off, rfl, hbs, c0, c1⟩ := hc k hlt
    have HDT := hQq (dist_take HD.out k hlt)
    have HOK := HOW.out _ (List.getElem_mem hlt)
    have HTK := hQq (own_take hlt)
    generalize own[k]'hlt = x at c0 c1 HDT HOK HTK
    obtain ⟨n1, n2⟩ := x
    have HS := hQq (mkA3_snoc HDT.out)
    have j1 : ((k : Nat) : Int) < (own.length : Int) := by omega
    have j0 : (0 : Int) <= (k : Int) := by omega
    clear hc
    have HOK : n1 = opqW \/ n1 = reW \/ n1 = nlW := HOK
    rcases HOK with rfl | rfl | rfl
    · have g0 : (opqW.toList == ([111, 112, 97, 113, 117, 101] : List UInt8)) = true := by rw [toList_L]; decide
      go_wp2_with (first
        | (at_mapUpdate; refine wl_store rfl (.tmp 22) (.tmp 24) (.const (.bool true)) 137 rfl _ _ keyString mapT_met rfl (by exact HM.out.ext (eA _ _)) opqW (.bool true) rfl rfl ?_; intro w4 hm4 hg4; have HM4 := hQq hm4; have HG4 := hQq hg4; obtain ⟨q4, qx⟩ := HST.out.at4 HLT.out hg4; have QM := hQq q4; have QX := hQq qx; obtain ⟨m0, m1, m2⟩ := mkA3_cells (own.take k); have y0 := (bC QM.out 0).trans m0; have y1 := (bC QM.out 1).trans m1; have y2 := (bC QM.out 2).trans m2; have fz := fun j => bT QM.out j; have zm := blk_lt QM.out; have x0 := bC QX.out 0; have x1 := bC QX.out 1; clear hm4 hg4 q4 qx m0 m1 m2)
        | fail)
      go_roundw
      case rel => exact ⟨_, k + 1, rfl, by omega, by go_num, HST.out.step HLT.out HTK.out (HS.out.1 rfl) HM4.out HG4.out⟩
      case measure => first | (simp [intOf]; done) | (simp [intOf]; omega)
    · have g0 : (reW.toList == ([111, 112, 97, 113, 117, 101] : List UInt8)) = false := by rw [toList_L]; decide
      have g1 : (reW.toList == ([114, 101, 100, 105, 114, 101, 99, 116] : List UInt8)) = true := by rw [toList_L]; decide
      go_wp2_with (first
        | (at_mapUpdate; refine wl_store rfl (.tmp 22) (.tmp 24) (.const (.bool true)) 137 rfl _ _ keyString mapT_met rfl (by exact HM.out.ext (eA _ _)) reW (.bool true) rfl rfl ?_; intro w4 hm4 hg4; have HM4 := hQq hm4; have HG4 := hQq hg4; obtain ⟨q4, qx⟩ := HST.out.at4 HLT.out hg4; have QM := hQq q4; have QX := hQq qx; obtain ⟨m0, m1, m2⟩ := mkA3_cells (own.take k); have y0 := (bC QM.out 0).trans m0; have y1 := (bC QM.out 1).trans m1; have y2 := (bC QM.out 2).trans m2; have fz := fun j => bT QM.out j; have zm := blk_lt QM.out; have x0 := bC QX.out 0; have x1 := bC QX.out 1; clear hm4 hg4 q4 qx m0 m1 m2)
        | fail)
      go_roundw
      case rel => exact ⟨_, k + 1, rfl, by omega, by go_num, HST.out.step HLT.out HTK.out (HS.out.2.1 rfl) HM4.out HG4.out⟩
      case measure => first | (simp [intOf]; done) | (simp [intOf]; omega)
    · have g0 : (nlW.toList == ([111, 112, 97, 113, 117, 101] : List UInt8)) = false := by rw [toList_L]; decide
      have g1 : (nlW.toList == ([114, 101, 100, 105, 114, 101, 99, 116] : List UInt8)) = false := by rw [toList_L]; decide
      have g2 : (nlW.toList == ([110, 108, 105, 110, 107] : List UInt8)) = true := by rw [toList_L]; decide
      go_wp2_with (first
        | (at_mapUpdate; refine wl_store rfl (.tmp 22) (.tmp 24) (.const (.bool true)) 137 rfl _ _ keyString mapT_met rfl (by exact HM.out.ext (eA _ _)) nlW (.bool true) rfl rfl ?_; intro w4 hm4 hg4; have HM4 := hQq hm4; have HG4 := hQq hg4; obtain ⟨q4, qx⟩ := HST.out.at4 HLT.out hg4; have QM := hQq q4; have QX := hQq qx; obtain ⟨m0, m1, m2⟩ := mkA3_cells (own.take k); have y0 := (bC QM.out 0).trans m0; have y1 := (bC QM.out 1).trans m1; have y2 := (bC QM.out 2).trans m2; have fz := fun j => bT QM.out j; have zm := blk_lt QM.out; have x0 := bC QX.out 0; have x1 := bC QX.out 1; clear hm4 hg4 q4 qx m0 m1 m2)
        | fail)
      go_roundw
      case rel => exact ⟨_, k + 1, rfl, by omega, by go_num, HST.out.step HLT.out HTK.out (HS.out.2.2 rfl) HM4.out HG4.out⟩
      case measure => first | (simp [intOf]; done) | (simp [intOf]; omega)
end Go.Proofs.YtnbkcalodmggaaaGreatDoor
namespace Go.Proofs.YtnbkcalodmggaaaGreatDoor
open Go.RowKit

set_option maxRecDepth 100000 in
set_option maxHeartbeats 8000000 in
theorem ovBookX (own : List Attr) (b nn : Nat) (n : Int) (w : World) (hL : LaidO w) (hm : MapAt kS w b nn (thM own)) (hn : n <= 9223372036854775807) :
    RetB Tryz.prog 212 #[mksV (valM own opqW) (valM own reW) (valM own nlW), .map (some b), .int .i64 n] w (.int .i64 (bookE own n)) := by
  unfold RetB
  have HL := hQq hL; have HM := hQq hm
  have HBE := hQq (bookB own n)
  clear hL hm
  unfold mksV
  generalize valM own opqW = o
  generalize valM own reW = r
  generalize hv : valM own nlW = s at HBE ⊢
  clear hv
  have HT : Hid (∃ T, T = !(s.toList == (linkS n).toList)) := hQq ⟨_, rfl⟩
  obtain ⟨T, hT⟩ := HT.out
  have HB2 : Hid (bookE own n = if (T || (isM own nlW != decide (1 < n))) = true then 18 else 0) := hQq (by
    rw [HBE.out, hT]
    cases s.toList == (linkS n).toList
    · rfl
    · cases isM own nlW <;> by_cases h : 1 < n <;> simp [h])
  have HTT := hQq hT
  obtain ⟨z, hz⟩ : ∃ z, z = (T || (isM own nlW != decide (1 < n))) := ⟨_, rfl⟩
  rw [HB2.out, <- hz]
  have HZ := hQq hz
  clear hT HT HBE hz
  go_enter Tryz.func212, Tryz.ntmps212
  go_upto_region 2 with fail
  refine nW (P := fun W => Code.wp _ _ _ _ W) _ ?_
  intro W hW
  have HW : Hid (W.heap[w.heap.size]? = some (.cells #[.string ⟨#[]⟩, .string ⟨#[]⟩, .string s] 135 (0, 0))) := hQq (by rw [hW]; exact bN _ _)
  have HE : Hid (Ext w W) := hQq (by rw [hW]; exact eA _ _)
  clear hW
  go_cut [20] (fun p wx => p = .bool z /\ Ext W wx)
  case first =>
    refine wp_region_invG (bkF T s n b (isM own nlW)) 11 11 rfl (by kernel_rfl) (by kernel_rfl) bkF_mono ?_ ?_
    · rename_i K1 hK1 J1 K2 hJ1 hK2
      clear hK1 hJ1 hK2 K1 J1
      intro i o a wx hi ho hE hk hp
      have n0 := evalTo (show a.eval (.tmp 1) = .map (some b) from hk 1 (of_decide_eq_true (by kernel_rfl)))
      have n1 := evalTo (show a.eval (.tmp 2) = .int .i64 n from hk 2 (of_decide_eq_true (by kernel_rfl)))
      have n2 := evalTo (show a.eval (.tmp 3) = .pointer (some ⟨w.heap.size, 0, none⟩) from hk 3 (of_decide_eq_true (by kernel_rfl)))
      clear hk
      match i, hi, ho, hp with
      | 0, _, ho, hp =>
        obtain rfl := Option.some.inj ho
        have c0 := bC (bX hE HW.out) 0; have c1 := bC (bX hE HW.out) 1; have c2 := bC (bX hE HW.out) 2
        clear ho hp
        rw [if_pos (show Region.wanted _ _ = true from rfl)]
        unfold Oper.wp; go_simp; exact ⟨_, rfl, rfl, Below.refl _ _⟩
      | 1, _, ho, hp =>
        obtain rfl := Option.some.inj ho
        clear ho hp
        rw [if_pos (show Region.wanted _ _ = true from rfl)]
        unfold Oper.wp; go_simp; exact ⟨_, rfl, rfl, Below.refl _ _⟩
      | 2, _, ho, hp =>
        obtain rfl := Option.some.inj ho
        have p1 := evalTo (show a.eval (.tmp 10) = .int .i64 n from hp 1 _ 10 (by kernel_rfl) rfl rfl)
        clear ho hp
        rw [if_pos (show Region.wanted _ _ = true from rfl)]
        unfold Oper.wp; go_simp
        refine (ovLinkX n _ (HL.out.ext (HE.out.trans hE)) hn).mono ?_
        rintro e w3 ⟨rfl, hb3⟩
        exact ⟨_, rfl, rfl, hb3⟩
      | 3, _, ho, hp =>
        obtain rfl := Option.some.inj ho
        have p1 := evalTo (show a.eval (.tmp 11) = .string (linkS n) from hp 2 _ 11 (by kernel_rfl) rfl rfl)
        clear ho hp
        rw [if_pos (show Region.wanted _ _ = true from rfl)]
        unfold Oper.wp; go_simp; exact ⟨_, rfl, rfl, Below.refl _ _⟩
      | 4, _, ho, hp =>
        obtain rfl := Option.some.inj ho
        have p1 := evalTo (show a.eval (.tmp 9) = .agg #[.string ⟨#[]⟩, .string ⟨#[]⟩, .string s] from hp 0 _ 9 (by kernel_rfl) rfl rfl)
        have p2 := evalTo (show a.eval (.tmp 12) = .agg #[.string ⟨#[]⟩, .string ⟨#[]⟩, .string (linkS n)] from hp 3 _ 12 (by kernel_rfl) rfl rfl)
        clear ho hp
        rw [if_pos (show Region.wanted _ _ = true from rfl)]
        unfold Oper.wp; go_simp
        have ht := HTT.out
        by_cases e : s.toList = (linkS n).toList
        · rw [if_pos e]
          have HTF := hQq (show T = false by rw [ht, e]; simp)
          clear ht
          go_simp
          exact ⟨_, rfl, by rw [HTF.out]; rfl, Below.refl _ _⟩
        · rw [if_neg e]
          have HTF := hQq (show T = true by rw [ht]; simp [e])
          clear ht
          go_simp
          exact ⟨_, rfl, by rw [HTF.out]; rfl, Below.refl _ _⟩
      | 5, _, ho, hp =>
        obtain rfl := Option.some.inj ho
        have p1 := evalTo (show a.eval (.tmp 13) = .bool T from hp 4 _ 13 (by kernel_rfl) rfl rfl)
        clear ho hp
        rw [if_pos (show Region.wanted _ _ = true from rfl)]
        unfold Oper.wp; go_simp; exact ⟨_, rfl, rfl, Below.refl _ _⟩
      | 6, _, ho, hp =>
        obtain rfl := Option.some.inj ho
        have h5 : a.eval (.tmp 14) = .bool T := hp 5 _ 14 (by kernel_rfl) rfl rfl
        clear ho hp
        cases T with
        | true =>
          rw [want_is (g := 5) (t := false) (d := 14) ?_ ?_ h5, if_neg (by decide)]
          · exact (if_pos rfl).symm
          · rfl
          · rfl
        | false =>
          rw [want_is (g := 5) (t := false) (d := 14) ?_ ?_ h5, if_pos (by decide)]
          rotate_left
          · rfl
          · rfl
          clear h5
          unfold Oper.wp; go_simp; exact ⟨_, rfl, (if_neg Bool.false_ne_true).symm, Below.refl _ _⟩
      | 7, _, ho, hp =>
        obtain rfl := Option.some.inj ho
        have h5 : a.eval (.tmp 14) = .bool T := hp 5 _ 14 (by kernel_rfl) rfl rfl
        have f0 : a.eval (.tmp 15) = if T = true then undef else .map (some b) := hp 6 _ 15 (by kernel_rfl) rfl rfl
        clear ho hp
        cases T with
        | true =>
          rw [want_is (g := 5) (t := false) (d := 14) ?_ ?_ h5, if_neg (by decide)]
          · exact (if_pos rfl).symm
          · rfl
          · rfl
        | false =>
          rw [want_is (g := 5) (t := false) (d := 14) ?_ ?_ h5, if_pos (by decide)]
          rotate_left
          · rfl
          · rfl
          clear h5
          replace f0 := evalTo f0
          rw [if_neg Bool.false_ne_true] at f0
          have hlk := thM_lookN (HM.out.ext (HE.out.trans hE))
          unfold Oper.wp; go_simp; exact ⟨_, rfl, (if_neg Bool.false_ne_true).symm, Below.refl _ _⟩
      | 8, _, ho, hp =>
        obtain rfl := Option.some.inj ho
        have h5 : a.eval (.tmp 14) = .bool T := hp 5 _ 14 (by kernel_rfl) rfl rfl
        clear ho hp
        cases T with
        | true =>
          rw [want_is (g := 5) (t := false) (d := 14) ?_ ?_ h5, if_neg (by decide)]
          · exact (if_pos rfl).symm
          · rfl
          · rfl
        | false =>
          rw [want_is (g := 5) (t := false) (d := 14) ?_ ?_ h5, if_pos (by decide)]
          rotate_left
          · rfl
          · rfl
          clear h5
          unfold Oper.wp; go_simp; exact ⟨_, rfl, (if_neg Bool.false_ne_true).symm, Below.refl _ _⟩
      | 9, _, ho, hp =>
        obtain rfl := Option.some.inj ho
        have h5 : a.eval (.tmp 14) = .bool T := hp 5 _ 14 (by kernel_rfl) rfl rfl
        have f0 : a.eval (.tmp 17) = if T = true then undef else .int .i64 n := hp 8 _ 17 (by kernel_rfl) rfl rfl
        clear ho hp
        cases T with
        | true =>
          rw [want_is (g := 5) (t := false) (d := 14) ?_ ?_ h5, if_neg (by decide)]
          · exact (if_pos rfl).symm
          · rfl
          · rfl
        | false =>
          rw [want_is (g := 5) (t := false) (d := 14) ?_ ?_ h5, if_pos (by decide)]
          rotate_left
          · rfl
          · rfl
          clear h5
          replace f0 := evalTo f0
          rw [if_neg Bool.false_ne_true] at f0
          unfold Oper.wp; go_simp; exact ⟨_, rfl, (if_neg Bool.false_ne_true).symm, Below.refl _ _⟩
      | 10, _, ho, hp =>
        obtain rfl := Option.some.inj ho
        have h5 : a.eval (.tmp 14) = .bool T := hp 5 _ 14 (by kernel_rfl) rfl rfl
        have f0 : a.eval (.tmp 16) = if T = true then undef else .bool (isM own nlW) := hp 7 _ 16 (by kernel_rfl) rfl rfl
        have f1 : a.eval (.tmp 18) = if T = true then undef else .bool (decide (1 < n)) := hp 9 _ 18 (by kernel_rfl) rfl rfl
        clear ho hp
        cases T with
        | true =>
          rw [want_is (g := 5) (t := false) (d := 14) ?_ ?_ h5, if_neg (by decide)]
          · exact (if_pos rfl).symm
          · rfl
          · rfl
        | false =>
          rw [want_is (g := 5) (t := false) (d := 14) ?_ ?_ h5, if_pos (by decide)]
          rotate_left
          · rfl
          · rfl
          clear h5
          replace f0 := evalTo f0
          rw [if_neg Bool.false_ne_true] at f0
          replace f1 := evalTo f1
          rw [if_neg Bool.false_ne_true] at f1
          unfold Oper.wp; go_simp; exact ⟨_, rfl, (if_neg Bool.false_ne_true).symm, Below.refl _ _⟩
      | i + 11, h, _, _ => exact absurd h (by omega)
    · rename_i K1 hK1 J1 K2 hJ1 hK2
      clear hK1 K1
      intro vs wx hE hf
      generalize hA : putsA _ _ _ = A1
      have p14 : vs 14 = .bool T := hf 5 _ 14 (by omega) rfl rfl
      have p19 : vs 19 = if T = true then undef else .bool (isM own nlW != decide (1 < n)) := hf 10 _ 19 (by omega) rfl rfl
      clear hf
      have hA2 := hA.symm.trans (congrArg (fun D => putsA _ D vs) (show dstL _ 11 = [9, 10, 11, 12, 13, 14, 15, 16, 17, 18, 19] by kernel_rfl))
      cases T
      · rw [if_neg Bool.false_ne_true] at p19
        have e14 := evalTo (show A1.eval (.tmp 14) = .bool false by rw [hA2, puts_eval _ _ _ _ (of_decide_eq_true (by kernel_rfl)), if_pos (by decide), p14])
        have e19 := evalTo (show A1.eval (.tmp 19) = .bool (isM own nlW != decide (1 < n)) by rw [hA2, puts_eval _ _ _ _ (of_decide_eq_true (by kernel_rfl)), if_pos (by decide), p19])
        have HA := hQq hA2
        clear hA2 hA p14 p19
        refine tail_cons rfl ?_
        unfold Oper.wp
        go_simp
        unfold tailWp
        rw [HA.out]
        refine hK2 _ _ ?_
        clear e14 e19 hK2
        simp only [putsA, List.foldl, Act.put, List.setIfInBounds_toArray, List.set_cons_succ, List.set_cons_zero]
        go_meet
        exact ⟨by rw [HZ.out, Bool.false_or], hE⟩
      · rw [if_pos rfl] at p19
        have e14 := evalTo (show A1.eval (.tmp 14) = .bool true by rw [hA2, puts_eval _ _ _ _ (of_decide_eq_true (by kernel_rfl)), if_pos (by decide), p14])
        have e19 := evalTo (show A1.eval (.tmp 19) = undef by rw [hA2, puts_eval _ _ _ _ (of_decide_eq_true (by kernel_rfl)), if_pos (by decide), p19])
        have HA := hQq hA2
        clear hA2 hA p14 p19
        refine tail_cons rfl ?_
        unfold Oper.wp
        go_simp
        unfold tailWp
        rw [HA.out]
        refine hK2 _ _ ?_
        clear e14 e19 hK2
        simp only [putsA, List.foldl, Act.put, List.setIfInBounds_toArray, List.set_cons_succ, List.set_cons_zero]
        go_meet
        exact ⟨by rw [HZ.out, Bool.true_or], hE⟩
  case rest =>
    obtain ⟨rfl, hx⟩ := hcut
    have HX := hQq hx
    clear hx HZ HTT HB2
    cases z
    · go_wp2
      go_ret
      exact ⟨rfl, HE.out.trans HX.out⟩
    · go_wp2
      go_ret
      exact ⟨rfl, HE.out.trans HX.out⟩
theorem ovBook (own : List Attr) (b nn : Nat) (n : Int) (w : World) (hL : LaidO w) (hm : MapAt kS w b nn (thM own)) (hn : n <= 1000000) :
    RetB Tryz.prog 212 #[mksV (valM own opqW) (valM own reW) (valM own nlW), .map (some b), .int .i64 n] w (.int .i64 (bookE own n)) := ovBookX own b nn n w hL hm (by omega)
end Go.Proofs.YtnbkcalodmggaaaGreatDoor
