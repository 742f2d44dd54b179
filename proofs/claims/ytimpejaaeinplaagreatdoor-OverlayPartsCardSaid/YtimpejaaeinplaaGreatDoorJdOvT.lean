/- OvT OvB OvN OvX OvXF OvS OvI OvPD -/
import Derived.Test.YtimpejaaeinplaaGreatDoorJI5
import Derived.Test.YtimpejaaeinplaaGreatDoorJdRInG
import Derived.Test.YtimpejaaeinplaaGreatDoorJdGenP
namespace Go.Proofs.YtimpejaaeinplaaGreatDoor
open Go.RowKit
theorem thM_lookup {w : World} {b n : Nat} {own : List Attr} (h : MapAt kS w b n (thM own)) (k : ByteArray) : (Instr.lookup 134 (.map (some b)) (.string k) false).run Tryz.prog w = .ok (.bool (isM own k)) w := by
 have := h.look keyString mapT_met (zeroBool _) k false
 rw [if_neg Bool.false_ne_true, thM_look] at this
 exact this
theorem thM_lookO {w : World} {b n : Nat} {own : List Attr} (h : MapAt kS w b n (thM own)) : (Instr.lookup 134 (.map (some b)) (.string ⟨#[111, 112, 97, 113, 117, 101]⟩) false).run Tryz.prog w = .ok (.bool (isM own opqW)) w := thM_lookup h opqW
theorem thM_lookR {w : World} {b n : Nat} {own : List Attr} (h : MapAt kS w b n (thM own)) : (Instr.lookup 134 (.map (some b)) (.string ⟨#[114, 101, 100, 105, 114, 101, 99, 116]⟩) false).run Tryz.prog w = .ok (.bool (isM own reW)) w := thM_lookup h reW
theorem thM_lookN {w : World} {b n : Nat} {own : List Attr} (h : MapAt kS w b n (thM own)) : (Instr.lookup 134 (.map (some b)) (.string ⟨#[110, 108, 105, 110, 107]⟩) false).run Tryz.prog w = .ok (.bool (isM own nlW)) w := thM_lookup h nlW
def TurnP (w : World) (own : List Attr) (e : Ending) (w' : World) : Prop := (∃ a cap, e = .returned (.tuple #[.bool (turnO own), .slice a (turnR own).length cap, .int .i64 (turnE own)]) /\ StrIn 0 w' (.slice a (turnR own).length cap) (turnR own)) /\ Ext w w'
set_option maxRecDepth 100000 in
set_option maxHeartbeats 4000000 in
theorem ovTurn (own : List Attr) (b n : Nat) (w : World) (hL : LaidO w) (hm : MapAt kS w b n (thM own)) (hz : (valM own reW).size <= 1000000) :
  Calls Tryz.prog 161 #[mksV (valM own opqW) (valM own reW) (valM own nlW), .map (some b)] w (TurnP w own) := by
 have HL := hQq hL; have HM := hQq (hm.ext (eA w (.cells #[.string (valM own opqW), .string (valM own reW), .string (valM own nlW)] 129)))
 have hk1 := thM_lookO HM.out
 have hk2 := thM_lookR HM.out
 have HZ := hQq hz
 clear hL hm hz
 unfold mksV
 by_cases hq : isM own opqW = true /\ valM own opqW ≠ yW
 ·have HR := hQq (turn_of (turn_opq hq.1 hq.2))
  have q1 : ((valM own opqW).toList == ([121] : List UInt8)) = false := nB (fun e => hq.2 (L_inj (by rw [<- tL, e]; rfl)))
  rw [hq.1] at hk1
  clear hq
  go_enter Tryz.func161, Tryz.ntmps161
  go_wp2
  go_ret3
  exact ⟨⟨none, 0, by rw [HR.out.1, HR.out.2.1, HR.out.2.2]; rfl, by rw [HR.out.2.1]; exact strIn_nil _ _ _⟩, eA _ _⟩
 cases hr : isM own reW with
 | false =>
  have HR := hQq (turn_of (turn_no hq hr))
  rw [hr] at hk2
  cases ho : isM own opqW with
  | false =>
   rw [ho] at hk1 HR
   clear hq hr ho
   go_enter Tryz.func161, Tryz.ntmps161
   go_wp2
   go_ret3
   exact ⟨⟨none, 0, by rw [HR.out.1, HR.out.2.1, HR.out.2.2]; rfl, by rw [HR.out.2.1]; exact strIn_nil _ _ _⟩, eA _ _⟩
  | true =>
   have q1 : ((valM own opqW).toList == ([121] : List UInt8)) = true := by rw [Decidable.not_not.1 (fun e => hq ⟨ho, e⟩), tL]; rfl
   rw [ho] at hk1 HR
   clear hq hr ho
   go_enter Tryz.func161, Tryz.ntmps161
   go_wp2
   go_ret3
   exact ⟨⟨none, 0, by rw [HR.out.1, HR.out.2.1, HR.out.2.2]; rfl, by rw [HR.out.2.1]; exact strIn_nil _ _ _⟩, eA _ _⟩
 | true =>
  rw [hr] at hk2
  by_cases hb : parE (valM own reW) ≠ 0 \/ parL (valM own reW) = []
  ·have HR := hQq (turn_of (turn_bad hq hr hb))
   have HBD := hQq hb
   cases ho : isM own opqW with
   | false =>
    rw [ho] at hk1
    by_cases hpe : parE (valM own reW) = 0
    ·have HLZ : Hid (parL (valM own reW) = []) := hQq (HBD.out.resolve_left (fun e => e hpe))
     have HPE := hQq hpe
     clear hq hr ho hb hpe
     go_enter Tryz.func161, Tryz.ntmps161
     go_wp2_with (go_at_call 149; refine (pathsParse (valM own reW) _ (HL.out.ext (eA _ _)) HZ.out).mono ?_; rw [HLZ.out, HPE.out]; rintro e w1 ⟨⟨a1, c1, rfl, -⟩, hb1⟩; have HB := hQq ((eA _ _).trans hb1); clear hb1)
     go_ret3
     exact ⟨⟨none, 0, by rw [HR.out.1, HR.out.2.1, HR.out.2.2]; rfl, by rw [HR.out.2.1]; exact strIn_nil _ _ _⟩, HB.out⟩
    ·have q3 : (parE (valM own reW) != 0) = true := bne_iff_ne.2 hpe
     clear hq hr ho hb hpe
     go_enter Tryz.func161, Tryz.ntmps161
     go_wp2_with (go_at_call 149; refine (pathsParse (valM own reW) _ (HL.out.ext (eA _ _)) HZ.out).mono ?_; rintro e w1 ⟨⟨a1, c1, rfl, -⟩, hb1⟩; have HB := hQq ((eA _ _).trans hb1); clear hb1)
     go_ret3
     exact ⟨⟨none, 0, by rw [HR.out.1, HR.out.2.1, HR.out.2.2]; rfl, by rw [HR.out.2.1]; exact strIn_nil _ _ _⟩, HB.out⟩
   | true =>
    have q1 : ((valM own opqW).toList == ([121] : List UInt8)) = true := by rw [Decidable.not_not.1 (fun e => hq ⟨ho, e⟩), tL]; rfl
    rw [ho] at hk1
    by_cases hpe : parE (valM own reW) = 0
    ·have HLZ : Hid (parL (valM own reW) = []) := hQq (HBD.out.resolve_left (fun e => e hpe))
     have HPE := hQq hpe
     clear hq hr ho hb hpe
     go_enter Tryz.func161, Tryz.ntmps161
     go_wp2_with (go_at_call 149; refine (pathsParse (valM own reW) _ (HL.out.ext (eA _ _)) HZ.out).mono ?_; rw [HLZ.out, HPE.out]; rintro e w1 ⟨⟨a1, c1, rfl, -⟩, hb1⟩; have HB := hQq ((eA _ _).trans hb1); clear hb1)
     go_ret3
     exact ⟨⟨none, 0, by rw [HR.out.1, HR.out.2.1, HR.out.2.2]; rfl, by rw [HR.out.2.1]; exact strIn_nil _ _ _⟩, HB.out⟩
    ·have q3 : (parE (valM own reW) != 0) = true := bne_iff_ne.2 hpe
     clear hq hr ho hb hpe
     go_enter Tryz.func161, Tryz.ntmps161
     go_wp2_with (go_at_call 149; refine (pathsParse (valM own reW) _ (HL.out.ext (eA _ _)) HZ.out).mono ?_; rintro e w1 ⟨⟨a1, c1, rfl, -⟩, hb1⟩; have HB := hQq ((eA _ _).trans hb1); clear hb1)
     go_ret3
     exact ⟨⟨none, 0, by rw [HR.out.1, HR.out.2.1, HR.out.2.2]; rfl, by rw [HR.out.2.1]; exact strIn_nil _ _ _⟩, HB.out⟩
  ·have HR := hQq (turn_of (turn_led hq hr hb))
   have HPE : Hid (parE (valM own reW) = 0) := hQq (Decidable.not_not.1 fun e => hb (.inl e))
   have hln : 0 < (parL (valM own reW)).length := by
    cases e : parL (valM own reW) with
    | nil => exact absurd (.inr e) hb
    | cons _ _ => simp
   have q4 : (((parL (valM own reW)).length : Int) == 0) = false := nB (by omega)
   cases ho : isM own opqW with
   | false =>
    have HOT := hQq ho
    rw [ho] at hk1 HR
    clear hq hr ho hb
    go_enter Tryz.func161, Tryz.ntmps161
    go_wp2_with (go_at_call 149; refine (pathsParse (valM own reW) _ (HL.out.ext (eA _ _)) HZ.out).mono ?_; rw [HPE.out]; rintro e w1 ⟨⟨a1, c1, rfl, ho1⟩, hb1⟩; have HO := hQq ho1; have HB := hQq ((eA _ _).trans hb1); have hk3 := thM_lookO (HM.out.ext hb1); rw [HOT.out] at hk3; clear hb1 ho1)
    go_ret3
    exact ⟨⟨a1, c1, by rw [HR.out.1, HR.out.2.1, HR.out.2.2]; rfl, by rw [HR.out.2.1]; exact HO.out⟩, HB.out⟩
   | true =>
    have q1 : ((valM own opqW).toList == ([121] : List UInt8)) = true := by rw [Decidable.not_not.1 (fun e => hq ⟨ho, e⟩), tL]; rfl
    have HOT := hQq ho
    rw [ho] at hk1 HR
    clear hq hr ho hb
    go_enter Tryz.func161, Tryz.ntmps161
    go_wp2_with (go_at_call 149; refine (pathsParse (valM own reW) _ (HL.out.ext (eA _ _)) HZ.out).mono ?_; rw [HPE.out]; rintro e w1 ⟨⟨a1, c1, rfl, ho1⟩, hb1⟩; have HO := hQq ho1; have HB := hQq ((eA _ _).trans hb1); have hk3 := thM_lookO (HM.out.ext hb1); rw [HOT.out] at hk3; clear hb1 ho1)
    go_ret3
    exact ⟨⟨a1, c1, by rw [HR.out.1, HR.out.2.1, HR.out.2.2]; rfl, by rw [HR.out.2.1]; exact HO.out⟩, HB.out⟩
set_option maxRecDepth 100000 in
set_option maxHeartbeats 8000000 in
theorem ovBookX (own : List Attr) (b nn : Nat) (n : Int) (w : World) (hL : LaidO w) (hm : MapAt kS w b nn (thM own)) (hn : n <= 9223372036854775807) :
  RetB Tryz.prog 199 #[mksV (valM own opqW) (valM own reW) (valM own nlW), .map (some b), .int .i64 n] w (.int .i64 (bookE own n)) := by
 unfold RetB
 have HL := hQq hL; have HM := hQq hm
 have HBE := hQq (bookB own n)
 clear hL hm
 unfold mksV
 generalize valM own opqW = o
 generalize valM own reW = r
 generalize hv : valM own nlW = s at HBE ⊢
 clear hv
 have HT : Hid (∃ T, T = !(s.toList == (linkS n).toList)) := hQq ⟨_, rfl⟩
 obtain ⟨T, hT⟩ := HT.out
 have HB2 : Hid (bookE own n = if (T || (isM own nlW != decide (1 < n))) = true then 18 else 0) := hQq (by
  rw [HBE.out, hT]
  cases s.toList == (linkS n).toList
  ·rfl
  ·cases isM own nlW <;> by_cases h : 1 < n <;> simp [h])
 have HTT := hQq hT
 obtain ⟨z, hz⟩ : ∃ z, z = (T || (isM own nlW != decide (1 < n))) := ⟨_, rfl⟩
 rw [HB2.out, <- hz]
 have HZ := hQq hz
 clear hT HT HBE hz
 go_enter Tryz.func199, Tryz.ntmps199
 go_upto_region 2 with fail
 refine nW (P := fun W => Code.wp _ _ _ _ W) _ ?_
 intro W hW
 have HW : Hid (W.heap[w.heap.size]? = some (.cells #[.string ⟨#[]⟩, .string ⟨#[]⟩, .string s] 129 (0, 0))) := hQq (by rw [hW]; exact bN _ _)
 have HE : Hid (Ext w W) := hQq (by rw [hW]; exact eA _ _)
 clear hW
 go_cut [20] (fun p wx => p = .bool z /\ Ext W wx)
 case first =>
  refine wp_region_invG (bkF T s n b (isM own nlW)) 11 11 rfl (by kernel_rfl) (by kernel_rfl) bkF_mono ?_ ?_
  ·rename_i K1 hK1 J1 K2 hJ1 hK2
   clear hK1 hJ1 hK2 K1 J1
   intro i o a wx hi ho hE hk hp
   have n0 := eV (show a.eval (.tmp 1) = .map (some b) from hk 1 (of_decide_eq_true (by kernel_rfl)))
   have n1 := eV (show a.eval (.tmp 2) = .int .i64 n from hk 2 (of_decide_eq_true (by kernel_rfl)))
   have n2 := eV (show a.eval (.tmp 3) = .pointer (some ⟨w.heap.size, 0, none⟩) from hk 3 (of_decide_eq_true (by kernel_rfl)))
   clear hk
   match i, hi, ho, hp with
   | 0, _, ho, hp =>
    obtain rfl := oI ho
    obtain ⟨c0, c1, c2⟩ := b3C (bX hE HW.out)
    clear ho hp
    rw [if_pos (show Region.wanted _ _ = true from rfl)]
    unfold Oper.wp; go_simp; exact ⟨_, rfl, rfl, bR _ _⟩
   | 1, _, ho, hp =>
    obtain rfl := oI ho
    clear ho hp
    rw [if_pos (show Region.wanted _ _ = true from rfl)]
    unfold Oper.wp; go_simp; exact ⟨_, rfl, rfl, bR _ _⟩
   | 2, _, ho, hp =>
    obtain rfl := oI ho
    have p1 := eV (show a.eval (.tmp 10) = .int .i64 n from hp 1 _ 10 (by kernel_rfl) rfl rfl)
    clear ho hp
    rw [if_pos (show Region.wanted _ _ = true from rfl)]
    unfold Oper.wp; go_simp
    refine (ovLinkX n _ (HL.out.ext (HE.out.trans hE)) hn).mono ?_
    rintro e w3 ⟨rfl, hb3⟩
    exact ⟨_, rfl, rfl, hb3⟩
   | 3, _, ho, hp =>
    obtain rfl := oI ho
    have p1 := eV (show a.eval (.tmp 11) = .string (linkS n) from hp 2 _ 11 (by kernel_rfl) rfl rfl)
    clear ho hp
    rw [if_pos (show Region.wanted _ _ = true from rfl)]
    unfold Oper.wp; go_simp; exact ⟨_, rfl, rfl, bR _ _⟩
   | 4, _, ho, hp =>
    obtain rfl := oI ho
    have p1 := eV (show a.eval (.tmp 9) = .agg #[.string ⟨#[]⟩, .string ⟨#[]⟩, .string s] from hp 0 _ 9 (by kernel_rfl) rfl rfl)
    have p2 := eV (show a.eval (.tmp 12) = .agg #[.string ⟨#[]⟩, .string ⟨#[]⟩, .string (linkS n)] from hp 3 _ 12 (by kernel_rfl) rfl rfl)
    clear ho hp
    rw [if_pos (show Region.wanted _ _ = true from rfl)]
    unfold Oper.wp; go_simp
    have ht := HTT.out
    by_cases e : s.toList = (linkS n).toList
    ·rw [if_pos e]
     have HTF := hQq (show T = false by rw [ht, e]; simp)
     clear ht
     go_simp
     exact ⟨_, rfl, by rw [HTF.out]; rfl, bR _ _⟩
    ·rw [if_neg e]
     have HTF := hQq (show T = true by rw [ht]; simp [e])
     clear ht
     go_simp
     exact ⟨_, rfl, by rw [HTF.out]; rfl, bR _ _⟩
   | 5, _, ho, hp =>
    obtain rfl := oI ho
    have p1 := eV (show a.eval (.tmp 13) = .bool T from hp 4 _ 13 (by kernel_rfl) rfl rfl)
    clear ho hp
    rw [if_pos (show Region.wanted _ _ = true from rfl)]
    unfold Oper.wp; go_simp; exact ⟨_, rfl, rfl, bR _ _⟩
   | 6, _, ho, hp =>
    obtain rfl := oI ho
    have h5 : a.eval (.tmp 14) = .bool T := hp 5 _ 14 (by kernel_rfl) rfl rfl
    clear ho hp
    cases T with
    | true =>
     rw [want_is (g := 5) (t := false) (d := 14) ?_ ?_ h5, if_neg (by decide)]
     ·exact (if_pos rfl).symm
     ·rfl
     ·rfl
    | false =>
     rw [want_is (g := 5) (t := false) (d := 14) ?_ ?_ h5, if_pos (by decide)]
     rotate_left
     ·rfl
     ·rfl
     clear h5
     unfold Oper.wp; go_simp; exact ⟨_, rfl, (if_neg Bool.false_ne_true).symm, bR _ _⟩
   | 7, _, ho, hp =>
    obtain rfl := oI ho
    have h5 : a.eval (.tmp 14) = .bool T := hp 5 _ 14 (by kernel_rfl) rfl rfl
    have f0 : a.eval (.tmp 15) = if T = true then undef else .map (some b) := hp 6 _ 15 (by kernel_rfl) rfl rfl
    clear ho hp
    cases T with
    | true =>
     rw [want_is (g := 5) (t := false) (d := 14) ?_ ?_ h5, if_neg (by decide)]
     ·exact (if_pos rfl).symm
     ·rfl
     ·rfl
    | false =>
     rw [want_is (g := 5) (t := false) (d := 14) ?_ ?_ h5, if_pos (by decide)]
     rotate_left
     ·rfl
     ·rfl
     clear h5
     replace f0 := eV f0
     rw [if_neg Bool.false_ne_true] at f0
     have hlk := thM_lookN (HM.out.ext (HE.out.trans hE))
     unfold Oper.wp; go_simp; exact ⟨_, rfl, (if_neg Bool.false_ne_true).symm, bR _ _⟩
   | 8, _, ho, hp =>
    obtain rfl := oI ho
    have h5 : a.eval (.tmp 14) = .bool T := hp 5 _ 14 (by kernel_rfl) rfl rfl
    clear ho hp
    cases T with
    | true =>
     rw [want_is (g := 5) (t := false) (d := 14) ?_ ?_ h5, if_neg (by decide)]
     ·exact (if_pos rfl).symm
     ·rfl
     ·rfl
    | false =>
     rw [want_is (g := 5) (t := false) (d := 14) ?_ ?_ h5, if_pos (by decide)]
     rotate_left
     ·rfl
     ·rfl
     clear h5
     unfold Oper.wp; go_simp; exact ⟨_, rfl, (if_neg Bool.false_ne_true).symm, bR _ _⟩
   | 9, _, ho, hp =>
    obtain rfl := oI ho
    have h5 : a.eval (.tmp 14) = .bool T := hp 5 _ 14 (by kernel_rfl) rfl rfl
    have f0 : a.eval (.tmp 17) = if T = true then undef else .int .i64 n := hp 8 _ 17 (by kernel_rfl) rfl rfl
    clear ho hp
    cases T with
    | true =>
     rw [want_is (g := 5) (t := false) (d := 14) ?_ ?_ h5, if_neg (by decide)]
     ·exact (if_pos rfl).symm
     ·rfl
     ·rfl
    | false =>
     rw [want_is (g := 5) (t := false) (d := 14) ?_ ?_ h5, if_pos (by decide)]
     rotate_left
     ·rfl
     ·rfl
     clear h5
     replace f0 := eV f0
     rw [if_neg Bool.false_ne_true] at f0
     unfold Oper.wp; go_simp; exact ⟨_, rfl, (if_neg Bool.false_ne_true).symm, bR _ _⟩
   | 10, _, ho, hp =>
    obtain rfl := oI ho
    have h5 : a.eval (.tmp 14) = .bool T := hp 5 _ 14 (by kernel_rfl) rfl rfl
    have f0 : a.eval (.tmp 16) = if T = true then undef else .bool (isM own nlW) := hp 7 _ 16 (by kernel_rfl) rfl rfl
    have f1 : a.eval (.tmp 18) = if T = true then undef else .bool (decide (1 < n)) := hp 9 _ 18 (by kernel_rfl) rfl rfl
    clear ho hp
    cases T with
    | true =>
     rw [want_is (g := 5) (t := false) (d := 14) ?_ ?_ h5, if_neg (by decide)]
     ·exact (if_pos rfl).symm
     ·rfl
     ·rfl
    | false =>
     rw [want_is (g := 5) (t := false) (d := 14) ?_ ?_ h5, if_pos (by decide)]
     rotate_left
     ·rfl
     ·rfl
     clear h5
     replace f0 := eV f0
     rw [if_neg Bool.false_ne_true] at f0
     replace f1 := eV f1
     rw [if_neg Bool.false_ne_true] at f1
     unfold Oper.wp; go_simp; exact ⟨_, rfl, (if_neg Bool.false_ne_true).symm, bR _ _⟩
   | i + 11, h, _, _ => exact absurd h (by omega)
  ·rename_i K1 hK1 J1 K2 hJ1 hK2
   clear hK1 K1
   intro vs wx hE hf
   generalize hA : putsA _ _ _ = A1
   have p14 : vs 14 = .bool T := hf 5 _ 14 (by omega) rfl rfl
   have p19 : vs 19 = if T = true then undef else .bool (isM own nlW != decide (1 < n)) := hf 10 _ 19 (by omega) rfl rfl
   clear hf
   have hA2 := hA.symm.trans (congrArg (fun D => putsA _ D vs) (show dstL _ 11 = [9, 10, 11, 12, 13, 14, 15, 16, 17, 18, 19] by kernel_rfl))
   cases T
   ·rw [if_neg Bool.false_ne_true] at p19
    have e14 := eV (show A1.eval (.tmp 14) = .bool false by rw [hA2, puts_eval _ _ _ _ (of_decide_eq_true (by kernel_rfl)), if_pos (by decide), p14])
    have e19 := eV (show A1.eval (.tmp 19) = .bool (isM own nlW != decide (1 < n)) by rw [hA2, puts_eval _ _ _ _ (of_decide_eq_true (by kernel_rfl)), if_pos (by decide), p19])
    have HA := hQq hA2
    clear hA2 hA p14 p19
    refine tail_cons rfl ?_
    unfold Oper.wp
    go_simp
    unfold tailWp
    rw [HA.out]
    refine hK2 _ _ ?_
    clear e14 e19 hK2
    simp only [putsA, List.foldl, Act.put, List.setIfInBounds_toArray, List.set_cons_succ, List.set_cons_zero]
    go_meet
    exact ⟨by rw [HZ.out, Bool.false_or], hE⟩
   ·rw [if_pos rfl] at p19
    have e14 := eV (show A1.eval (.tmp 14) = .bool true by rw [hA2, puts_eval _ _ _ _ (of_decide_eq_true (by kernel_rfl)), if_pos (by decide), p14])
    have e19 := eV (show A1.eval (.tmp 19) = undef by rw [hA2, puts_eval _ _ _ _ (of_decide_eq_true (by kernel_rfl)), if_pos (by decide), p19])
    have HA := hQq hA2
    clear hA2 hA p14 p19
    refine tail_cons rfl ?_
    unfold Oper.wp
    go_simp
    unfold tailWp
    rw [HA.out]
    refine hK2 _ _ ?_
    clear e14 e19 hK2
    simp only [putsA, List.foldl, Act.put, List.setIfInBounds_toArray, List.set_cons_succ, List.set_cons_zero]
    go_meet
    exact ⟨by rw [HZ.out, Bool.true_or], hE⟩
 case rest =>
  obtain ⟨rfl, hx⟩ := hcut
  have HX := hQq hx
  clear hx HZ HTT HB2
  cases z
  ·go_wp2
   go_ret
   exact ⟨rfl, HE.out.trans HX.out⟩
  ·go_wp2
   go_ret
   exact ⟨rfl, HE.out.trans HX.out⟩
theorem ovBook (own : List Attr) (b nn : Nat) (n : Int) (w : World) (hL : LaidO w) (hm : MapAt kS w b nn (thM own)) (hn : n <= 1000000) :
 RetB Tryz.prog 199 #[mksV (valM own opqW) (valM own reW) (valM own nlW), .map (some b), .int .i64 n] w (.int .i64 (bookE own n)) := ovBookX own b nn n w hL hm (by omega)
set_option maxRecDepth 100000 in
set_option maxHeartbeats 4000000 in
theorem ovNames (B : Nat) (v : Value) (t : List TrN) (w : World) (hv : TrIn B w v t) (hl : t.length <= 1000000) :
  Calls Tryz.prog 107 #[v] w (NamesP w t) := by
 obtain ⟨a, cap, rfl⟩ := hv.form
 have HV := hQq hv; clear hv
 have hmm := @run_makeMap Tryz.prog
 go_enter Tryz.func107, Tryz.ntmps107
 go_wp2
 go_loopw [9] (fun i w' => ∃ (wi : World) (k n : Nat), wi = w' /\ k <= t.length /\ i = .int .i64 k /\ MapAt kI wi w.heap.size n (nmF t k) /\ Ext w wi) (fun i _ => t.length - (intOf i).toNat)
 case atStart => exact ⟨_, 0, 0, rfl, Nat.zero_le _, rfl, by rw [nmF_zero]; exact mapAt_made _ _, eA _ _⟩
 case round =>
  obtain ⟨wi, k, n, rfl, hk, rfl, hm, hE⟩ := hrel
  have HM := hQq hm; have HE := hQq hE
  clear hm hE
  have hcl := fun c => countC_le t c k
  by_cases hlt : k < t.length
  ·obtain ⟨b, off, va, hex, hb, hva, c0, c1, c2, c3, c4, c5, c6, c7⟩ := (HV.out.ext okT HE.out).tr k hlt
   cases hex
   obtain ⟨a3, cap3, rfl⟩ := hva.form
   have HG := hQq (getT_at t k hlt)
   have HS := hQq (nmF_step t k)
   generalize t[k]'hlt = x at c0 c1 c2 c3 c4 c5 c6 c7 HG
   rw [HG.out] at HS
   have hc := hcl x.cl
   have j1 : ((k : Nat) : Int) < (t.length : Int) := by omega
   have j0 : (0 : Int) <= (k : Int) := by omega
   have y0 : (0 : Int) <= (countC t x.cl k : Int) := by omega
   have y1 : (countC t x.cl k : Int) <= 1000000 := by omega
   clear hva hcl
   go_wp2_with (first
    | (at_lookup; refine wl_look rfl (.tmp 13) (.tmp 15) 70 false rfl 3 3 keyInt mapT_count (.int .i64 0) zeroInt rfl (HM.out.ext (eA _ _)) x.cl rfl ?_; rw [if_neg Bool.false_ne_true, nmF_look])
    | (at_mapUpdate; refine wl_store rfl (.tmp 13) (.tmp 15) (.tmp 17) 70 rfl _ _ keyInt mapT_count rfl (by exact HM.out.ext (eA _ _)) x.cl (.int .i64 ((countC t x.cl k : Int) + 1)) rfl rfl ?_; intro w4 hm4 hg4; have HM4 := hQq hm4; have HG4 := hQq hg4; clear hm4 hg4)
    | fail)
   rw [<- HS.out] at HM4
   have HE4 : Hid (Ext w w4) := hQq (Below.grown (HE.out.trans (eA _ _)) HG4.out (by have := HE.out.size; simp; omega) (fun g hg => by cases hg; exact Nat.le_refl _))
   go_roundw
   case rel => exact ⟨_, k + 1, _, rfl, by omega, by go_num, HM4.out, HE4.out⟩
   case measure => first | (simp [intOf]; done) | (simp [intOf]; omega)
  ·obtain rfl : k = t.length := by omega
   clear hcl
   go_wp2_with (at_mapUpdate; refine wl_store rfl (.tmp 19) (.const (.int .i64 0)) (.const (.int .i64 1)) 70 rfl _ _ keyInt mapT_count rfl (by exact HM.out) 0 (.int .i64 1) rfl rfl ?_; intro w4 hm4 hg4; have HM4 := hQq hm4; have HG4 := hQq hg4; clear hm4 hg4)
   have HE4 : Hid (Ext w w4) := hQq (Below.grown HE.out HG4.out HE.out.size (fun g hg => by cases hg; exact Nat.le_refl _))
   go_ret
   exact ⟨⟨_, _, rfl, HM4.out, Nat.le_refl _⟩, HE4.out⟩
theorem odE_nd (t : List TrN) (i : Nat) : odE t i = ndE (getT t i) (decide (i = 0)) (manyT t (getT t i).cl) := by
 unfold odE ndE
 simp only [decide_eq_true_eq]
theorem odX_nd (t : List TrN) (i : Nat) : odX t i = ndX (getT t i) := rfl
theorem zero_node {x : TrN} (h : zeroB x = true) (hk : kindE x = 0) (h2 : ¬ (x.ats ≠ [] \/ x.cl ≠ 0)) : ndX x = ⟨{ x with kd := 5 }, false, []⟩ := by
 obtain ⟨h3, h4, h5⟩ := zeroB_iff.1 h
 have hd := kind_char hk h3
 have ha : x.ats = [] := Decidable.not_not.1 fun e => h2 (.inl e)
 have hc : x.cl = 0 := Decidable.not_not.1 fun e => h2 (.inr e)
 unfold ndX
 rw [if_pos h]
 obtain ⟨dep, nm, kd, ats, dat, ma, mi, cl⟩ := x
 simp only at ha hc hd h3 h4 h5
 subst ha hc hd h4 h5
 rfl
theorem put10a {w w1 W2 : World} {b : Nat} {o : Obj} {t : TypeId} {x0 x1 x2 x3 x4 x5 x6 x7 x8 x9 y0 y1 y2 y3 y4 y5 y6 y7 y8 y9 : Value} (hq : w1.heap[b]? = some (.cells #[x0, x1, x2, x3, x4, x5, x6, x7, x8, x9] t (0, 0))) (hb : w.heap.size <= b) (he : Ext w w1) (hW : W2 = (setL w1 b 0 [y0, y1, y2, y3, y4, y5, y6, y7, y8, y9]).alloc o) :
  W2.heap[b]? = some (.cells #[y0, y1, y2, y3, y4, y5, y6, y7, y8, y9] t (0, 0)) /\ Ext w W2 := by
 obtain ⟨h1, h2⟩ := put10 hq hb he rfl
 subst hW
 exact ⟨bA h1, h2.trans (eA _ _)⟩
set_option maxRecDepth 100000 in
set_option maxHeartbeats 100000000 in
theorem neutF (x : TrN) (va : Value) (rt : Bool) (n : Int) (w : World) (hL : LaidO w) (hv : aA w va x.ats) (hm : Small x.ats) (hz : zeroB x = false) (hw : x.kd ≠ 5) (hp : ptsE 1 x.ats = 0) (_hn : n <= 1000000) (hc : (turnE (ptsO 1 x.ats) ≠ 0 /\ isM (ptsO 1 x.ats) opqW = true) \/ (turnE (ptsO 1 x.ats) ≠ 0 /\ isM (ptsO 1 x.ats) opqW = false) \/ (turnE (ptsO 1 x.ats) = 0 /\ isM (ptsO 1 x.ats) opqW = true /\ x.kd ≠ 1) \/ (turnE (ptsO 1 x.ats) = 0 /\ isM (ptsO 1 x.ats) opqW = false /\ isM (ptsO 1 x.ats) reW = true /\ x.kd ≠ 1) \/ (turnE (ptsO 1 x.ats) = 0 /\ isM (ptsO 1 x.ats) opqW = true /\ isM (ptsO 1 x.ats) reW = true /\ x.kd = 1 /\ rt = true) \/ (turnE (ptsO 1 x.ats) = 0 /\ isM (ptsO 1 x.ats) opqW = false /\ isM (ptsO 1 x.ats) reW = true /\ x.kd = 1 /\ rt = true)) :
  Calls Tryz.prog 157 #[trV x va, .bool rt, .int .i64 n] w (NeutP w x rt n) := by
 obtain ⟨ht, ho⟩ | ⟨ht, ho⟩ | ⟨ht, ho, hk⟩ | ⟨ht, ho, hr, hk⟩ | ⟨ht, ho, hr, hk, hrt⟩ | ⟨ht, ho, hr, hk, hrt⟩ := hc
 all_goals
  have HE : Hid (ndE x rt n = 6) := hQq (by unfold ndE; rw [if_neg (by rw [hz]; exact Bool.false_ne_true), if_neg hw, if_neg (by rw [hp]; exact fun h => h rfl), if_pos (by first | exact .inl ht | exact .inr (.inl ⟨by rw [ho]; rfl, hk⟩) | exact .inr (.inl ⟨by rw [ho, hr]; rfl, hk⟩) | exact .inr (.inr ⟨hrt, hr⟩))])
  first | have q3 : (turnE (ptsO 1 x.ats) != 0) = true := bne_iff_ne.2 ht | have HT0 := hQq ht
  have HOP := hQq ho
  try have HRE := hQq hr
  try first | have q4 : (x.kd != 1) = true := bne_iff_ne.2 hk | have q4 : (x.kd != 1) = false := bne_eq_false_iff_eq.2 hk
  try subst hrt
  try clear hk
  try clear hr
  clear ht ho
  obtain ⟨a3, cap3, rfl, hcap, hc⟩ := hv
  have HV := hQq (show aA w (.slice a3 x.ats.length cap3) x.ats from ⟨a3, cap3, rfl, hcap, hc⟩)
  have HL := hQq hL; have HM := hQq hm
  have HZ := hQq hz
  have q1 : (x.kd == 5) = false := nB hw
  have HPZ := hQq hp
  have HTZ : Hid ((valM (ptsO 1 x.ats) reW).size <= 1000000) := hQq (valM_size hm)
  clear hcap hc hL hm hz hw hp
  unfold trV
  go_enter Tryz.func157, Tryz.ntmps157
  go_wp2_with fail
  refine (ovZero x _ ⟨_, _, _, rfl⟩ _).mono ?_
  rintro e w1 ⟨rfl, hb1⟩
  rw [HZ.out]
  have QX : Hid (w1.heap[w.heap.size]? = some (.cells #[.int .i64 x.dep, .string x.nm, .int .i64 x.kd, .slice a3 x.ats.length cap3, .string x.dat, .int .i64 x.ma, .int .i64 x.mi, .int .i64 x.cl] 43 (0, 0))) := hQq (bX hb1 (bA (bN w _)))
  have QN : Hid (w1.heap[w.heap.size + 1]? = some (.cells #[.int .i64 x.dep, .string x.nm, .int .i64 x.kd, .slice none 0 0, .string x.dat, .int .i64 x.ma, .int .i64 x.mi, .int .i64 x.cl, .bool false, .slice none 0 0] 41 (0, 0))) := hQq (bX hb1 (blk_at (by simp)))
  have E1 : Hid (Ext w w1) := hQq (((eA _ _).trans (eA _ _)).trans hb1)
  clear hb1
  obtain ⟨c0, c1, c2, c3, c4, c5, c6, c7⟩ := b8C QX.out; obtain ⟨d0, d1, d2, d3, d4, d5, d6, d7, d8, d9⟩ := b10C QN.out; have fz := fun j => bT QN.out j; have z1 := bL QX.out; have z2 := bL QN.out
  go_wp2_with fail
  refine (ovRead _ x.ats _ (HL.out.ext E1.out) (HV.out.ext E1.out) HM.out).mono ?_
  rintro e w2 ⟨⟨v2, bm, nm2, rfl, ho2, hm2, hbm⟩, hb2⟩
  rw [HPZ.out]
  have HO2 := hQq ho2; have HM2 := hQq hm2; obtain ⟨a6, cap6, rfl, -, -⟩ := ho2.1
  have QX2 := hQq (bX hb2 QX.out); have QN2 := hQq (bX hb2 QN.out); have E2 := hQq (E1.out.trans hb2)
  clear ho2 hm2 hbm hb2 c0 c1 c2 c3 c4 c5 c6 c7 d0 d1 d2 d3 d4 d5 d6 d7 d8 d9 fz z1 z2
  obtain ⟨c0, c1, c2, c3, c4, c5, c6, c7⟩ := b8C QX2.out; obtain ⟨d0, d1, d2, d3, d4, d5, d6, d7, d8, d9⟩ := b10C QN2.out; have fz := fun j => bT QN2.out j; have z1 := bL QX2.out; have z2 := bL QN2.out
  go_wp2_with fail
  refine (ovTurn (ptsO 1 x.ats) bm nm2 _ (HL.out.ext (E2.out.trans (eA _ _))) (HM2.out.ext (eA _ _)) HTZ.out).mono ?_
  rintro e w3 ⟨⟨a7, cap7, rfl, ho3⟩, hb3⟩
  have HO3 := hQq ho3
  have QX3 := hQq (bX hb3 (bA QX2.out)); have QN3 := hQq (bX hb3 (bA QN2.out)); have QM3 := hQq (bX hb3 (bN w2 _)); have E3 := hQq (E2.out.trans ((eA _ _).trans hb3)); have F3 := hQq (Ext.trans (eA _ _) hb3)
  have lkO := thM_lookO (HM2.out.ext (Ext.trans (eA _ _) hb3)); have lkR := thM_lookR (HM2.out.ext (Ext.trans (eA _ _) hb3))
  clear ho3 hb3 c0 c1 c2 c3 c4 c5 c6 c7 d0 d1 d2 d3 d4 d5 d6 d7 d8 d9 fz z1 z2
  obtain ⟨c0, c1, c2, c3, c4, c5, c6, c7⟩ := b8C QX3.out; obtain ⟨d0, d1, d2, d3, d4, d5, d6, d7, d8, d9⟩ := b10C QN3.out; have fz := fun j => bT QN3.out j; have z1 := bL QX3.out; have z2 := bL QN3.out
  rw [HOP.out] at lkO
  try rw [HRE.out] at lkR
  try rw [HT0.out]
  go_wp2_with fail
  refine nW (P := fun W => bodyPost _ _ _ _ _ W) _ ?_
  intro W2 hW2
  have hW3 : W2 = setL w3 (w.heap.size + 1) 0 [.int .i64 x.dep, .string x.nm, .int .i64 x.kd, .slice none 0 0, .string x.dat, .int .i64 x.ma, .int .i64 x.mi, .int .i64 x.cl, .bool false, .slice none 0 0] := hW2
  obtain ⟨hq, hx⟩ := put10 (w := w) QN3.out (by omega) E3.out hW3
  refine bodyPost_ret (v := .tuple #[.agg #[.int .i64 x.dep, .string x.nm, .int .i64 x.kd, .slice none 0 0, .string x.dat, .int .i64 x.ma, .int .i64 x.mi, .int .i64 x.cl, .bool false, .slice none 0 0], .int .i64 6]) (by simp [results, Tryz.f157, go_sem, bC hq 0, bC hq 1, bC hq 2, bC hq 3, bC hq 4, bC hq 5, bC hq 6, bC hq 7, bC hq 8, bC hq 9]) rfl ?_
  exact ⟨⟨⟨{ x with ats := [] }, false, []⟩, .slice none 0 0, .slice none 0 0, by rw [HE.out], ⟨_, _, _, rfl⟩, ⟨_, _, _, rfl⟩, fun h => by rw [HE.out] at h; cases h⟩, hx⟩
theorem oe_parts {b : List BrN} (h : oeF b = 0) : brEr b = 0 /\ (∀ j, j < b.length -> oeE b j = 0) /\ oeL b = (List.range b.length).map (oeX b) /\ oeN b = 0 := by
 obtain ⟨h1, h2, h3⟩ := gen_zero h
 exact ⟨h1, h2, (oe_of h3).1, (oe_of h3).2.1⟩
theorem oe_says {b : List BrN} (h : oeF b = 0) {i : Nat} (hi : i < b.length) : SayOk (getB b i) (oeX b i) := by
 obtain ⟨h1, h2, _⟩ := oe_parts h
 have hk := br_kind h1 hi
 by_cases h5 : (getB b i).kd = 5
 ·obtain ⟨_, k2, k3, k4, k5⟩ := kind_white hk h5
  rw [(oe_white rfl h5).2]
  exact ⟨rfl, rfl, (bytes_nil k2).symm, k3.symm, k4.symm, k5.symm, .inl ⟨h5, rfl, rfl, rfl⟩⟩
 ·obtain ⟨hz, _⟩ := oe_zero (h2 i hi) h5
  rw [(oe_node rfl h5 hz).2]
  refine ⟨rfl, rfl, rfl, rfl, rfl, rfl, .inr ⟨h5, rfl, fun e => ?_⟩⟩
  rw [Bool.eq_false_iff] at hz
  exact hz (zeroB_iff.2 e)
def weE (x : DeN) : Int := if x.wh = true then 0 else if zeroB x.nd = true then 16 else if x.fi = true then mwE 1 x.nd.ats (ovM false [] x.ns) else 0
def weX (x : DeN) : DeN :=
 if x.wh = true then { x with wh := false, nd := kdN 4 }
 else if x.fi = true then { x with nd := { x.nd with ats := mwL 1 x.nd.ats (ovM false [] x.ns) } } else x
section
variable {x : DeN}
theorem we_white (h : x.wh = true) : weE x = 0 /\ weX x = { x with wh := false, nd := kdN 4 } := ⟨if_pos h, if_pos h⟩
theorem we_dev (h : x.wh = false) (h2 : zeroB x.nd = true) : weE x = 16 := by unfold weE; rw [if_neg (by simp [h]), if_pos h2]
theorem we_first (h : x.wh = false) (h2 : zeroB x.nd = false) (h3 : x.fi = true) : weE x = mwE 1 x.nd.ats (ovM false [] x.ns) /\ weX x = { x with nd := { x.nd with ats := mwL 1 x.nd.ats (ovM false [] x.ns) } } := by
 constructor
 ·unfold weE; rw [if_neg (by simp [h]), if_neg (by simp [h2]), if_pos h3]
 ·unfold weX; rw [if_neg (by simp [h]), if_pos h3]
theorem we_rest (h : x.wh = false) (h2 : zeroB x.nd = false) (h3 : x.fi = false) : weE x = 0 /\ weX x = x := by
 constructor
 ·unfold weE; rw [if_neg (by simp [h]), if_neg (by simp [h2]), if_neg (by simp [h3])]
 ·unfold weX; rw [if_neg (by simp [h]), if_neg (by simp [h3])]
end
def owE (l : List Attr) (n : Int) : Int := if ptsE 1 l ≠ 0 then ptsE 1 l else if (isM (ptsO 1 l) opqW || isM (ptsO 1 l) reW) = true then 6 else bookE (ptsO 1 l) n
theorem ow_pts {l : List Attr} {n : Int} (h : ptsE 1 l ≠ 0) : owE l n = ptsE 1 l := if_pos h
theorem ow_mark {l : List Attr} {n : Int} (h : ptsE 1 l = 0) (h2 : (isM (ptsO 1 l) opqW || isM (ptsO 1 l) reW) = true) : owE l n = 6 := by unfold owE; rw [if_neg (by simp [h]), if_pos h2]
theorem ow_book {l : List Attr} {n : Int} (h : ptsE 1 l = 0) (h2 : (isM (ptsO 1 l) opqW || isM (ptsO 1 l) reW) = false) : owE l n = bookE (ptsO 1 l) n := by unfold owE; rw [if_neg (by simp [h]), if_neg (by simp [h2])]
def rdE (o : Bool) (x : DeN) : Int := if zbE o x then 6 else if zeroB x.nd = true then 0 else if x.fi = true then owE x.nd.ats x.ns else 0
def rdX (x : DeN) : DeN :=
 if zeroB x.nd = true then { x with wh := true, nd := kdN 5 }
 else if x.fi = true then { x with nd := { x.nd with ats := ptsP 1 x.nd.ats } } else x
section
variable {o : Bool} {x : DeN}
theorem rd_bad (h : zbE o x) : rdE o x = 6 := if_pos h
theorem rd_zero (h : ¬ zbE o x) (h2 : zeroB x.nd = true) : rdE o x = 0 /\ rdX x = { x with wh := true, nd := kdN 5 } := by
 constructor
 ·unfold rdE; rw [if_neg h, if_pos h2]
 ·unfold rdX; rw [if_pos h2]
theorem rd_first (h : ¬ zbE o x) (h2 : zeroB x.nd = false) (h3 : x.fi = true) : rdE o x = owE x.nd.ats x.ns /\ rdX x = { x with nd := { x.nd with ats := ptsP 1 x.nd.ats } } := by
 constructor
 ·unfold rdE; rw [if_neg h, if_neg (by simp [h2]), if_pos h3]
 ·unfold rdX; rw [if_neg (by simp [h2]), if_pos h3]
theorem rd_rest (h : ¬ zbE o x) (h2 : zeroB x.nd = false) (h3 : x.fi = false) : rdE o x = 0 /\ rdX x = x := by
 constructor
 ·unfold rdE; rw [if_neg h, if_neg (by simp [h2]), if_neg (by simp [h3])]
 ·unfold rdX; rw [if_neg (by simp [h2]), if_neg (by simp [h3])]
end
def ocT (d : DiN) : DiN × Int × Int :=
 if dirE d ≠ 0 then (zDiN, dirN d, dirE d)
 else if mwE 1 d.ats (ovM d.opq d.red 1) ≠ 0 then (zDiN, -1, mwE 1 d.ats (ovM d.opq d.red 1))
 else if (gnT weE d.ens).2 ≠ 0 then (zDiN, (gnT weE d.ens).1, (gnT weE d.ens).2)
 else (⟨mwL 1 d.ats (ovM d.opq d.red 1), false, [], d.ens.map weX⟩, 0, 0)
def ocD (d : DiN) : DiN := (ocT d).1
def ocN (d : DiN) : Int := (ocT d).2.1
def ocE (d : DiN) : Int := (ocT d).2.2
theorem oc_of {d : DiN} {x : DiN} {y z : Int} (h : ocT d = (x, y, z)) : ocD d = x /\ ocN d = y /\ ocE d = z := by unfold ocD ocN ocE; rw [h]; exact ⟨rfl, rfl, rfl⟩
theorem ocT_dir {d : DiN} (h : dirE d ≠ 0) : ocT d = (zDiN, dirN d, dirE d) := if_pos h
theorem ocT_ats {d : DiN} (h : dirE d = 0) (h2 : mwE 1 d.ats (ovM d.opq d.red 1) ≠ 0) : ocT d = (zDiN, -1, mwE 1 d.ats (ovM d.opq d.red 1)) := by unfold ocT; rw [if_neg (by simp [h]), if_pos h2]
theorem ocT_ent {d : DiN} (h : dirE d = 0) (h2 : mwE 1 d.ats (ovM d.opq d.red 1) = 0) {n e : Int} (h3 : gnT weE d.ens = (n, e)) (he : e ≠ 0) : ocT d = (zDiN, n, e) := by unfold ocT; rw [if_neg (by simp [h]), if_neg (by simp [h2]), h3, if_pos he]
theorem ocT_ok {d : DiN} (h : dirE d = 0) (h2 : mwE 1 d.ats (ovM d.opq d.red 1) = 0) (h3 : (gnT weE d.ens).2 = 0) : ocT d = (⟨mwL 1 d.ats (ovM d.opq d.red 1), false, [], d.ens.map weX⟩, 0, 0) := by unfold ocT; rw [if_neg (by simp [h]), if_neg (by simp [h2]), if_neg (by simp [h3])]
theorem oc_zero {d : DiN} (h : ocE d = 0) : dirE d = 0 /\ mwE 1 d.ats (ovM d.opq d.red 1) = 0 /\ (∀ j, j < d.ens.length -> weE (getE d.ens j) = 0) /\ ocT d = (⟨mwL 1 d.ats (ovM d.opq d.red 1), false, [], d.ens.map weX⟩, 0, 0) := by
 by_cases h1 : dirE d = 0
 case neg => rw [(oc_of (ocT_dir h1)).2.2] at h; exact absurd h h1
 by_cases h2 : mwE 1 d.ats (ovM d.opq d.red 1) = 0
 case neg => rw [(oc_of (ocT_ats h1 h2)).2.2] at h; exact absurd h h2
 by_cases h3 : (gnT weE d.ens).2 = 0
 case neg => rw [(oc_of (ocT_ent h1 h2 (n := (gnT weE d.ens).1) (e := (gnT weE d.ens).2) rfl h3)).2.2] at h; exact absurd h h3
 exact ⟨h1, h2, (gnT_zero h3).2, ocT_ok h1 h2 h3⟩
def drT (d : DiN) : DiN × Int × Int :=
 if dirE d ≠ 0 then (zDiN, dirN d, dirE d)
 else if d.opq = true \/ 0 < d.red.length then (zDiN, -1, 6)
 else if ptsE 1 d.ats ≠ 0 then (zDiN, -1, ptsE 1 d.ats)
 else if isM (ptsO 1 d.ats) nlW = true then (zDiN, -1, 18)
 else if turnE (ptsO 1 d.ats) ≠ 0 \/ (turnO (ptsO 1 d.ats) = true /\ 0 < (turnR (ptsO 1 d.ats)).length) then (zDiN, -1, 6)
 else if (gnT (rdE (turnO (ptsO 1 d.ats))) d.ens).2 ≠ 0 then (zDiN, (gnT (rdE (turnO (ptsO 1 d.ats))) d.ens).1, (gnT (rdE (turnO (ptsO 1 d.ats))) d.ens).2)
 else (⟨ptsP 1 d.ats, turnO (ptsO 1 d.ats), turnR (ptsO 1 d.ats), d.ens.map rdX⟩, 0, 0)
def drD (d : DiN) : DiN := (drT d).1
def drN (d : DiN) : Int := (drT d).2.1
def drE (d : DiN) : Int := (drT d).2.2
theorem dr_of {d : DiN} {x : DiN} {y z : Int} (h : drT d = (x, y, z)) : drD d = x /\ drN d = y /\ drE d = z := by unfold drD drN drE; rw [h]; exact ⟨rfl, rfl, rfl⟩
section
variable {d : DiN}
theorem drT_dir (h : dirE d ≠ 0) : drT d = (zDiN, dirN d, dirE d) := if_pos h
theorem drT_mark (h : dirE d = 0) (h1 : d.opq = true \/ 0 < d.red.length) : drT d = (zDiN, -1, 6) := by unfold drT; rw [if_neg (by simp [h]), if_pos h1]
theorem drT_pts (h : dirE d = 0) (h1 : ¬ (d.opq = true \/ 0 < d.red.length)) (h2 : ptsE 1 d.ats ≠ 0) : drT d = (zDiN, -1, ptsE 1 d.ats) := by unfold drT; rw [if_neg (by simp [h]), if_neg h1, if_pos h2]
theorem drT_link (h : dirE d = 0) (h1 : ¬ (d.opq = true \/ 0 < d.red.length)) (h2 : ptsE 1 d.ats = 0) (h3 : isM (ptsO 1 d.ats) nlW = true) : drT d = (zDiN, -1, 18) := by unfold drT; rw [if_neg (by simp [h]), if_neg h1, if_neg (by simp [h2]), if_pos h3]
theorem drT_turn (h : dirE d = 0) (h1 : ¬ (d.opq = true \/ 0 < d.red.length)) (h2 : ptsE 1 d.ats = 0) (h3 : isM (ptsO 1 d.ats) nlW = false) (h4 : turnE (ptsO 1 d.ats) ≠ 0 \/ (turnO (ptsO 1 d.ats) = true /\ 0 < (turnR (ptsO 1 d.ats)).length)) : drT d = (zDiN, -1, 6) := by
 unfold drT; rw [if_neg (by simp [h]), if_neg h1, if_neg (by simp [h2]), if_neg (by simp [h3]), if_pos h4]
theorem drT_ent (h : dirE d = 0) (h1 : ¬ (d.opq = true \/ 0 < d.red.length)) (h2 : ptsE 1 d.ats = 0) (h3 : isM (ptsO 1 d.ats) nlW = false) (h4 : ¬ (turnE (ptsO 1 d.ats) ≠ 0 \/ (turnO (ptsO 1 d.ats) = true /\ 0 < (turnR (ptsO 1 d.ats)).length))) {n e : Int} (h5 : gnT (rdE (turnO (ptsO 1 d.ats))) d.ens = (n, e)) (he : e ≠ 0) : drT d = (zDiN, n, e) := by
 unfold drT; rw [if_neg (by simp [h]), if_neg h1, if_neg (by simp [h2]), if_neg (by simp [h3]), if_neg h4, h5, if_pos he]
theorem drT_ok (h : dirE d = 0) (h1 : ¬ (d.opq = true \/ 0 < d.red.length)) (h2 : ptsE 1 d.ats = 0) (h3 : isM (ptsO 1 d.ats) nlW = false) (h4 : ¬ (turnE (ptsO 1 d.ats) ≠ 0 \/ (turnO (ptsO 1 d.ats) = true /\ 0 < (turnR (ptsO 1 d.ats)).length))) (h5 : (gnT (rdE (turnO (ptsO 1 d.ats))) d.ens).2 = 0) : drT d = (⟨ptsP 1 d.ats, turnO (ptsO 1 d.ats), turnR (ptsO 1 d.ats), d.ens.map rdX⟩, 0, 0) := by
 unfold drT; rw [if_neg (by simp [h]), if_neg h1, if_neg (by simp [h2]), if_neg (by simp [h3]), if_neg h4, if_neg (by simp [h5])]
end
theorem mw_bare {n : Int} (hn : n < 2) (h : mwE 1 [] (ovM false [] n) = 0) : mwL 1 [] (ovM false [] n) = [] := by
 rw [(mw_zero h).2.2]
 show setM 1 (setM 1 (setM 1 (atsL 1 []) (opqW, optS false)) (reW, redS [])) (nlW, linkS n) = []
 rw [setM_no (show (linkS n).size = 0 by rw [link_one hn]; rfl), setM_no (show (redS []).size = 0 by rfl), setM_no (show (optS false).size = 0 by rfl)]
 decide
theorem mw_own {l : List Attr} {o : Bool} {r : List ByteArray} {n : Int} (h : mwE 1 l (ovM o r n) = 0) (hr : 0 < r.length -> pathE r = 0) :
  ptsE 1 (mwL 1 l (ovM o r n)) = 0 /\ ptsP 1 (mwL 1 l (ovM o r n)) = l /\ turnT (ptsO 1 (mwL 1 l (ovM o r n))) = (o, r, 0) /\ isM (ptsO 1 (mwL 1 l (ovM o r n))) opqW = o /\ isM (ptsO 1 (mwL 1 l (ovM o r n))) reW = decide (0 < r.length) /\ bookE (ptsO 1 (mwL 1 l (ovM o r n))) n = 0 := by
 obtain ⟨p1, p2, p3⟩ := pts_mw h (ovM_ok o r n)
 have hgm := fun k => getM_perm (ovM_ok o r n).full.1 (srtA_perm _) k
 obtain ⟨g1, g2, g3⟩ := ov_get o r n
 rw [<- hgm, <- p3] at g1 g2 g3
 obtain ⟨t1, t2, t3⟩ := turn_ov g1 g2 hr
 exact ⟨p1, p2, t1, t2, t3, book_ov g3⟩
theorem we_back {o : Bool} {z : ByteArray} {x : DeN} (h : entX o z x = 0) (h2 : weE x = 0) : entX false z (weX x) = 0 /\ rdE o (weX x) = 0 /\ rdX (weX x) = x /\ (weX x).nm = x.nm := by
 obtain ⟨_, _, _, p4, p5, p6, p7, p8, p9, _⟩ := ent_parts h
 obtain ⟨k1, k2⟩ := ent_kind h
 obtain ⟨m1, m2⟩ := ent_marks h
 have hsk := solo_kind p6
 cases hw : x.wh with
 | true =>
  have h5 : x.nd.kd = 5 := by rw [hw] at k1; exact beq_iff_eq.1 k1.symm
  have ho := k2 h5
  have hc : x.nd.cl = 0 := by have := (m2 h5).1; omega
  have hns : x.ns = 1 := by omega
  have hnd := nd_ext p4 p5 h5 hsk hc
  rw [(we_white hw).2]
  have hz : zeroB (kdN 4) = true := by decide
  have hb : ¬ zbE o { x with wh := false, nd := kdN 4 } := by
   rintro (e | ⟨_, e⟩)
   ·cases e
   ·rcases e with e | e | e
    ·exact e rfl
    ·have e : 1 < x.ns := e; omega
    ·rw [ho] at e; cases e
  obtain ⟨r1, r2⟩ := rd_zero hb hz
  refine ⟨entX_put h rfl rfl rfl rfl (show (⟨#[]⟩ : ByteArray).toList = [] by rw [tL]; rfl) hc.symm (solo_keep p6 ?_ (show kindE (soloN (kdN 4)) = 0 by unfold kindE soloN kdN; simp) (show chkE [] = 0 by decide)) rfl (fun e => absurd e (show ¬ (4 : Int) = 1 by decide)) (fun e => absurd e (show ¬ (4 : Int) = 5 by decide)), r1, ?_, rfl⟩
  ·show (4 : Int) = 1 ↔ _; omega
  ·rw [r2]
   obtain ⟨nm, nd, wh, fi, ns⟩ := x
   simp only at *
   subst hw hnd
   rfl
 | false =>
  have h5 : x.nd.kd ≠ 5 := fun e => by rw [hw, e] at k1; cases k1
  have hz : zeroB x.nd = false := by
   cases e : zeroB x.nd with
   | false => rfl
   | true => rw [we_dev hw e] at h2; cases h2
  have hb : ∀ y : DeN, y.wh = false -> zeroB y.nd = false -> ¬ zbE o y := fun y e1 e2 => by
   rintro (e | ⟨e, _⟩)
   ·rw [e1] at e; cases e
   ·rw [e2] at e; cases e
  cases hf : x.fi with
  | false =>
   rw [(we_rest hw hz hf).2]
   obtain ⟨r1, r2⟩ := rd_rest (hb x hw hz) hz hf
   exact ⟨entX_put h rfl rfl rfl p4 p5 rfl p6 k1 m1 (fun e => absurd e h5), r1, r2, rfl⟩
  | true =>
   obtain ⟨e1, e2⟩ := we_first hw hz hf
   rw [e1] at h2
   rw [e2]
   obtain ⟨q1, q2, _, q4, q5, q6⟩ := mw_own h2 (fun e => absurd e (by decide))
   have hz' : zeroB { x.nd with ats := mwL 1 x.nd.ats (ovM false [] x.ns) } = false := hz
   obtain ⟨r1, r2⟩ := rd_first (o := o) (x := { x with nd := { x.nd with ats := mwL 1 x.nd.ats (ovM false [] x.ns) } }) (hb _ hw hz') hz' hf
   refine ⟨entX_put h rfl rfl rfl p4 p5 rfl (solo_keep p6 Iff.rfl (kind_ats hsk h5) (mw_chk h2)) k1 (fun e => ?_) (fun e => absurd e h5), ?_, ?_, rfl⟩
   ·obtain ⟨a1, a2⟩ := m1 e
    refine ⟨?_, a2⟩
    show mwL 1 x.nd.ats _ = []
    rw [a1] at h2 ⊢
    exact mw_bare (by omega) h2
   ·rw [r1, ow_book q1 (by rw [q4, q5]; rfl)]; exact q6
   ·rw [r2]
    show (⟨x.nm, { x.nd with ats := ptsP 1 (mwL 1 x.nd.ats (ovM false [] x.ns)) }, x.wh, x.fi, x.ns⟩ : DeN) = x
    rw [q2]
theorem oc_back {d : DiN} (h : ocE d = 0) : dirE (ocD d) = 0 /\ drT (ocD d) = (d, 0, 0) := by
 obtain ⟨h1, h2, h3, h4⟩ := oc_zero h
 rw [(oc_of h4).1]
 obtain ⟨_, c1, c2, c3, c4, c5⟩ := dirE_zero h1
 have hb := fun j (hj : j < d.ens.length) => we_back (c5 j hj) (h3 j hj)
 have hd : dirE (⟨mwL 1 d.ats (ovM d.opq d.red 1), false, [], d.ens.map weX⟩ : DiN) = 0 := by
  refine (dir_of (dirT_ok (d := ⟨mwL 1 d.ats (ovM d.opq d.red 1), false, [], d.ens.map weX⟩) (mw_chk h2) (by rintro ⟨e, _⟩; cases e) (show pathE [] = 0 by decide) (by show ¬ 24 < (d.ens.map weX).length; rw [List.length_map]; omega) fun j hj => ?_)).2
  have hj : j < d.ens.length := by have hj : j < (d.ens.map weX).length := hj; rwa [List.length_map] at hj
  show entX false (lastE (d.ens.map weX) j) (getE (d.ens.map weX) j) = 0
  rw [lastE_map (fun k hk => (hb k hk).2.2.2) hj, getE_map hj]
  exact (hb j hj).1
 refine ⟨hd, ?_⟩
 obtain ⟨q1, q2, q3, q4, q5, q6⟩ := mw_own h2 (fun _ => c3)
 obtain ⟨t1, t2, t3⟩ := turn_of q3
 have hl : isM (ptsO 1 (mwL 1 d.ats (ovM d.opq d.red 1))) nlW = false := by
  rw [one_book] at q6
  cases e : isM (ptsO 1 (mwL 1 d.ats (ovM d.opq d.red 1))) nlW with
  | false => rfl
  | true => rw [e] at q6; cases q6
 have := drT_ok (d := ⟨mwL 1 d.ats (ovM d.opq d.red 1), false, [], d.ens.map weX⟩) hd (by rintro (e | e); cases e; exact absurd e (show ¬ 0 < ([] : List ByteArray).length by decide)) q1 hl (by
  show ¬ (turnE (ptsO 1 (mwL 1 d.ats (ovM d.opq d.red 1))) ≠ 0 \/ (turnO (ptsO 1 (mwL 1 d.ats (ovM d.opq d.red 1))) = true /\ 0 < (turnR (ptsO 1 (mwL 1 d.ats (ovM d.opq d.red 1)))).length))
  rw [t1, t2, t3]
  rintro (e | e)
  ·exact e rfl
  ·exact c2 e) (by
  show (gnT (rdE (turnO (ptsO 1 (mwL 1 d.ats (ovM d.opq d.red 1))))) (d.ens.map weX)).2 = 0
  rw [t1, gnT_ok fun j hj => ?_]
  rw [List.length_map] at hj
  rw [getE_map hj]
  exact (hb j hj).2.1)
 rw [this]
 show ((⟨ptsP 1 (mwL 1 d.ats (ovM d.opq d.red 1)), turnO (ptsO 1 (mwL 1 d.ats (ovM d.opq d.red 1))), turnR (ptsO 1 (mwL 1 d.ats (ovM d.opq d.red 1))), (d.ens.map weX).map rdX⟩ : DiN), (0 : Int), (0 : Int)) = (d, 0, 0)
 have he : (d.ens.map weX).map rdX = d.ens := by
  rw [List.map_map]
  refine List.ext_getElem (by simp) fun j a1 a2 => ?_
  have := (hb j a2).2.2.1
  rw [getE_at _ _ a2] at this
  simpa using this
 rw [q2, t1, t2, he]
theorem oe_raw {b : List BrN} (h : oeF b = 0) : (oeL b).length = b.length /\ (∀ i, i < b.length -> getB (rawB (oeL b)) i = rawX (oeX b i)) /\ (∀ k, (getT (oeL b) k).dep = (getT (plT b) k).dep) /\ (∀ k, (getT (oeL b) k).cl = (getT (plT b) k).cl) := by
 obtain ⟨h1, h2, h3, _⟩ := oe_parts h
 have hlen : (oeL b).length = b.length := by rw [h3]; simp
 have hg : ∀ i, i < b.length -> getT (oeL b) i = oeX b i := fun i hi => by rw [h3]; exact getT_range hi
 have h0 : ∀ k, ¬ k < b.length -> getT (oeL b) k = zTrN /\ getT (plT b) k = zTrN := fun k hk => by
  constructor
  ·unfold getT; rw [List.getD, List.getElem?_eq_none (by omega)]; rfl
  ·unfold getT; rw [List.getD, List.getElem?_eq_none (by rw [plT_len]; omega)]; rfl
 refine ⟨hlen, fun i hi => ?_, fun k => ?_, fun k => ?_⟩
 ·have : getB (rawB (oeL b)) i = rawX (getT (oeL b) i) := getT_map (oeL b) (by omega) rawX
  rw [this, hg i hi]
 ·by_cases hk : k < b.length
  ·rw [hg k hk, getT_plT b k hk]; exact (oe_says h hk).dep
  ·rw [(h0 k hk).1, (h0 k hk).2]
 ·by_cases hk : k < b.length
  ·rw [hg k hk, getT_plT b k hk]; exact (oe_says h hk).cl
  ·rw [(h0 k hk).1, (h0 k hk).2]
theorem oe_ent {b : List BrN} (h : oeF b = 0) {n i : Nat} (hi : i < b.length) {neu : List DeN} {q : Nat} (hq : q < neu.length) (hn : getE neu q = entD b n i) :
  weE (entD b n i) = 0 /\ weX (entD b n i) = leftX neu q (entD (rawB (oeL b)) n i) := by
 obtain ⟨h1, h2, _, _⟩ := oe_parts h
 obtain ⟨hl, hg, hd, hc⟩ := oe_raw h
 have hr : entD (rawB (oeL b)) n i = ⟨(getB b i).nm, nodX (oeX b i), (oeX b i).kd == 5, firstB b n i, (namesL b i).length⟩ := by
  unfold entD
  rw [rawB_names hl hc, rawB_first hl hd hc, hg i hi]
  show DeN.mk (oeX b i).nm _ _ _ _ = _
  rw [(oe_says h hi).nm]; rfl
 have hk := br_kind h1 hi
 rw [hr]
 by_cases h5 : (getB b i).kd = 5
 ·have hw : (entD b n i).wh = true := beq_iff_eq.2 h5
  refine ⟨(we_white hw).1, ?_⟩
  rw [(we_white hw).2, (oe_white rfl h5).2]
  unfold leftX
  rw [hn]
  have e1 : nodX (⟨(getB b i).dep, (getB b i).nm, 4, [], ⟨#[]⟩, 0, 0, 0⟩ : TrN) = kdN 4 := by unfold nodX; rw [if_neg (by show ¬ (4 : Int) = 1; decide)]; rfl
  rw [e1]
  have e2 : (entD b n i).nd.ats = [] := by
   show (nodX (getB b i).toTrN).ats = []
   unfold nodX
   rw [if_neg (by show ¬ (getB b i).kd = 1; omega)]
   exact (kind_white hk h5).1
  split
  ·rw [e2]; rfl
  ·rfl
 ·obtain ⟨hz, hm⟩ := oe_zero (h2 i hi) h5
  obtain ⟨_, e2⟩ := oe_node rfl h5 hz
  have hw : (entD b n i).wh = false := nB h5
  have hz2 : zeroB (entD b n i).nd = false := by
   show zeroB (nodX (getB b i).toTrN) = false
   unfold nodX
   split
   ·decide
   ·exact hz
  rw [names_many hi] at hm e2
  rw [e2]
  have hkd : (({ (getB b i).toTrN with ats := mwL 1 (getB b i).ats (ovM (getB b i).opq (getB b i).red ((namesL b i).length : Int)) } : TrN).kd == 5) = ((getB b i).kd == 5) := rfl
  rw [hkd]
  by_cases h1k : (getB b i).kd = 1
  ·have hcl : (getB b i).cl = 0 := kind_dir hk h1k
   have hns : ((namesL b i).length : Int) = 1 := by rw [<- names_many hi, hcl]; rfl
   have hn1 : (entD b n i).nd = rootN := by show nodX (getB b i).toTrN = rootN; unfold nodX; rw [if_pos h1k]
   have hn2 : nodX ({ (getB b i).toTrN with ats := mwL 1 (getB b i).ats (ovM (getB b i).opq (getB b i).red ((namesL b i).length : Int)) } : TrN) = rootN := by unfold nodX; rw [if_pos h1k]
   have hm0 : mwE 1 [] (ovM false [] 1) = 0 := by kernel_rfl
   have hl0 : mwL 1 [] (ovM false [] 1) = [] := mw_bare (by decide) hm0
   have e3 : weX (entD b n i) = entD b n i := by
    cases hf : (entD b n i).fi with
    | false => exact (we_rest hw hz2 hf).2
    | true =>
     rw [(we_first hw hz2 hf).2]
     have : (entD b n i).ns = 1 := hns
     rw [this, hn1]
     show DeN.mk _ { rootN with ats := mwL 1 [] (ovM false [] 1) } _ _ _ = _
     rw [hl0]
     show DeN.mk _ rootN _ _ _ = _
     rw [<- hn1, <- this]
   refine ⟨?_, ?_⟩
   ·cases hf : (entD b n i).fi with
    | false => exact (we_rest hw hz2 hf).1
    | true =>
     rw [(we_first hw hz2 hf).1]
     have : (entD b n i).ns = 1 := hns
     rw [this, hn1]; exact hm0
   ·rw [e3, hn2]
    unfold leftX
    rw [hn, hn1]
    have : entD b n i = ⟨(getB b i).nm, rootN, (getB b i).kd == 5, firstB b n i, (namesL b i).length⟩ := by rw [<- hn1]; rfl
    split
    ·rw [this]
    ·rw [this]
  ·obtain ⟨m1, m2⟩ := marks_bare ((brEr_zero h1).2.2 i hi) h1k
   rw [m1, m2] at hm ⊢
   have hn1 : (entD b n i).nd = { (getB b i).toTrN with dep := 0, nm := ⟨#[]⟩ } := by show nodX (getB b i).toTrN = _; unfold nodX; rw [if_neg h1k]
   have hn2 : nodX ({ (getB b i).toTrN with ats := mwL 1 (getB b i).ats (ovM false [] ((namesL b i).length : Int)) } : TrN) = { (getB b i).toTrN with dep := 0, nm := ⟨#[]⟩, ats := mwL 1 (getB b i).ats (ovM false [] ((namesL b i).length : Int)) } := by unfold nodX; rw [if_neg h1k]
   rw [hn2]
   unfold leftX
   rw [hn, hn1]
   cases hf : (entD b n i).fi with
   | false =>
    obtain ⟨f1, f2⟩ := we_rest hw hz2 hf
    refine ⟨f1, ?_⟩
    have hf' : firstB b n i = false := hf
    rw [f2, hf', if_pos ⟨rfl, hq⟩]
    show entD b n i = DeN.mk _ _ _ _ _
    have : entD b n i = ⟨(getB b i).nm, (entD b n i).nd, (getB b i).kd == 5, firstB b n i, (namesL b i).length⟩ := rfl
    rw [this, hn1, hf']
   | true =>
    obtain ⟨f1, f2⟩ := we_first hw hz2 hf
    have hf' : firstB b n i = true := hf
    rw [f1, f2, hf', if_neg (by rintro ⟨e, _⟩; cases e), hn1]
    refine ⟨hm, ?_⟩
    show DeN.mk _ _ _ (firstB b n i) _ = _
    rw [hf']; rfl
theorem oparts_enc {b : List BrN} (h : oeF b = 0) {n : Nat} (hn : n < b.length) (hk : (getB b n).kd = 1) :
  ocT (dirD b n) = (leftD (dirD (rawB (oeL b)) n) (dirD b n), 0, 0) := by
 obtain ⟨h1, h2, _, _⟩ := oe_parts h
 obtain ⟨hl, hg, hd, hc⟩ := oe_raw h
 have h5 : (getB b n).kd ≠ 5 := by omega
 obtain ⟨hz, hm⟩ := oe_zero (h2 n hn) h5
 obtain ⟨_, e2⟩ := oe_node rfl h5 hz
 have hcl : (getB b n).cl = 0 := kind_dir (br_kind h1 hn) hk
 have hma : manyT (plT b) (getB b n).cl = 1 := by rw [hcl]; rfl
 rw [hma] at hm e2
 have hlen : (dirD b n).ens.length = (kidsL b n).length := by show ((kidsL b n).map _).length = _; rw [List.length_map]
 have hge : ∀ q, q < (kidsL b n).length -> ∃ i, i < b.length /\ (kidsL b n)[q]? = some i /\ getE (dirD b n).ens q = entD b n i := fun q hq => by
  have hi : (kidsL b n)[q]? = some ((kidsL b n)[q]'hq) := List.getElem?_eq_getElem hq
  refine ⟨_, List.mem_range.1 (List.mem_filter.1 (List.getElem_mem hq)).1, hi, ?_⟩
  show ((kidsL b n).map (entD b n)).getD q zDeN = _
  simp [List.getD, hi]
 rw [ocT_ok (dirD_ok h1 hn hk) hm (by
  rw [gnT_ok fun q hq => ?_]
  rw [hlen] at hq
  obtain ⟨i, hi, _, hx⟩ := hge q hq
  rw [hx]
  exact (oe_ent h hi (by rw [hlen]; exact hq) hx).1)]
 have e3 : (dirD b n).ens.map weX = leftL (dirD (rawB (oeL b)) n).ens (dirD b n).ens := by
  unfold leftL
  have hk2 : (dirD (rawB (oeL b)) n).ens = (kidsL b n).map (entD (rawB (oeL b)) n) := by show (kidsL _ n).map _ = _; rw [rawB_kids hl hd]
  rw [hk2]
  refine List.ext_getElem (by simp [hlen]) fun q a1 a2 => ?_
  have hq : q < (kidsL b n).length := by rw [List.length_map, hlen] at a1; exact a1
  obtain ⟨i, hi, hki, hx⟩ := hge q hq
  have e1 : ((dirD b n).ens.map weX)[q]'a1 = weX (getE (dirD b n).ens q) := by
   rw [List.getElem_map, getE_at _ _ (by rw [hlen]; exact hq)]
  rw [e1, hx, (oe_ent h hi (by rw [hlen]; exact hq) hx).2]
  simp only [List.getElem_map, List.getElem_range]
  congr 1
  show _ = ((kidsL b n).map (entD (rawB (oeL b)) n)).getD q zDeN
  simp [List.getD, hki]
 have e4 : (getB (rawB (oeL b)) n).ats = mwL 1 (getB b n).ats (ovM (getB b n).opq (getB b n).red 1) := by rw [hg n hn, e2]; rfl
 have e5 : (getB (rawB (oeL b)) n).opq = false /\ (getB (rawB (oeL b)) n).red = [] := by rw [hg n hn]; exact ⟨rfl, rfl⟩
 rw [e3]
 show ((⟨mwL 1 (getB b n).ats (ovM (getB b n).opq (getB b n).red 1), false, [], _⟩ : DiN), (0 : Int), (0 : Int)) = ((⟨(getB (rawB (oeL b)) n).ats, (getB (rawB (oeL b)) n).opq, (getB (rawB (oeL b)) n).red, _⟩ : DiN), 0, 0)
 rw [e4, e5.1, e5.2]
end Go.Proofs.YtimpejaaeinplaaGreatDoor
