/- FrWh FrT -/
import Derived.Test.YtimpejaaeinplaaGreatDoorJI6
import Derived.Test.YtimpejaaeinplaaGreatDoorJfOrP
import Derived.Test.YtimpejaaeinplaaGreatDoorJfOrA
import Derived.Test.YtimpejaaeinplaaGreatDoorJcFuIs
namespace Go.Proofs.YtimpejaaeinplaaGreatDoor
open Go.RowKit
theorem frWhiteout (w : World) : Calls Tryz.prog 60 #[] w fun e w' => (∃ a c, e = .returned (trV whN (.slice a 1 c)) /\ AttT w' (.slice a 1 c) whA) /\ Ext w w' := by
 have HS : Hid (setM 2 [] (whW, yW) = whA) := hQq (by decide +kernel)
 unfold trV
 go_enter Tryz.func60, Tryz.ntmps60
 go_wp2_with (go_at_call 122; refine (frAdd _ [] whW yW _ (AttT.nil _ _ _ (aA.nil _ _ _)) (by decide) (by decide)).mono ?_; rintro e w2 ⟨⟨v2, rfl, ho⟩, hb⟩; rw [HS.out] at ho; have HO := hQq ho; obtain ⟨a2, c2, rfl, -, -⟩ := ho.1; have HB := hQq ((eA _ _).trans hb); have Q0 := hQq (bX hb (bN w _)); obtain ⟨y0, y1, y2, y3, y4, y5, y6, y7⟩ := b8C Q0.out; have fz := fun j => bT Q0.out j; have z := bL Q0.out; clear hb ho)
 refine nW (P := fun W => bodyPost _ _ _ _ _ W) _ ?_
 intro W2 hW2
 have hW3 : W2 = setL w2 w.heap.size 0 [.int .i64 0, .string ⟨#[]⟩, .int .i64 2, .slice a2 1 c2, .string ⟨#[]⟩, .int .i64 0, .int .i64 0, .int .i64 0] := hW2
 have hq : W2.heap[w.heap.size]? = some (.cells #[.int .i64 0, .string ⟨#[]⟩, .int .i64 2, .slice a2 1 c2, .string ⟨#[]⟩, .int .i64 0, .int .i64 0, .int .i64 0] 43 (0, 0)) := by rw [hW3, setL_blk _ _ _ _ Q0.out, set8]
 have hx : Ext w W2 := by rw [hW3]; exact setL_below (Nat.le_refl _) _ _ _ HB.out
 have ha : AttT W2 (.slice a2 1 c2) whA := by rw [hW3]; exact attT_keep HO.out (setL_keep _ _ _) (Nat.le_of_eq (setL_size _ _ _).symm) Q0.out (by decide)
 clear hW2 hW3
 refine bodyPost_ret (v := .agg #[.int .i64 0, .string ⟨#[]⟩, .int .i64 2, .slice a2 1 c2, .string ⟨#[]⟩, .int .i64 0, .int .i64 0, .int .i64 0]) (by simp [results, Tryz.f60, go_sem, bC hq 0, bC hq 1, bC hq 2, bC hq 3, bC hq 4, bC hq 5, bC hq 6, bC hq 7]) rfl ?_
 exact ⟨⟨_, _, rfl, ha⟩, hx⟩
theorem frValueO (v : Value) (own : List Attr) (w : World) (hv : aA w v own) (hl : own.length <= 1000000) : Ret Tryz.prog 92 #[v, .string ⟨#[111, 112, 97, 113, 117, 101]⟩] w (.tuple #[.string (valM own opqW), .bool (isM own opqW)]) := frValue v own opqW w hv hl
theorem frValueR (v : Value) (own : List Attr) (w : World) (hv : aA w v own) (hl : own.length <= 1000000) : Ret Tryz.prog 92 #[v, .string ⟨#[114, 101, 100, 105, 114, 101, 99, 116]⟩] w (.tuple #[.string (valM own reW), .bool (isM own reW)]) := frValue v own reW w hv hl
theorem frValueN (v : Value) (own : List Attr) (w : World) (hv : aA w v own) (hl : own.length <= 1000000) : Ret Tryz.prog 92 #[v, .string ⟨#[110, 108, 105, 110, 107]⟩] w (.tuple #[.string (valM own nlW), .bool (isM own nlW)]) := frValue v own nlW w hv hl
theorem frValueW (v : Value) (own : List Attr) (w : World) (hv : aA w v own) (hl : own.length <= 1000000) : Ret Tryz.prog 92 #[v, .string ⟨#[119, 104, 105, 116, 101, 111, 117, 116]⟩] w (.tuple #[.string (valM own whW), .bool (isM own whW)]) := frValue v own whW w hv hl
def FrturnP (w : World) (own : List Attr) (e : Ending) (w' : World) : Prop := (∃ q a n cap, e = .returned (.tuple #[.bool q, .slice a n cap, .bool (ftE own == 0)]) /\ (ftE own = 0 -> q = ftO own /\ n = (ftR own).length /\ StrIn 0 w' (.slice a n cap) (ftR own))) /\ Ext w w'
theorem own_one {own : List Attr} (h : own.length = 1) (h2 : isM own whW = true) : ∃ a, own = [a] /\ valM own whW = a.2 := by
 match own, h with
 | [a], _ =>
  refine ⟨a, rfl, ?_⟩
  unfold isM at h2
  unfold valM
  cases hg : getM [a] whW with
  | none => rw [hg] at h2; cases h2
  | some v =>
   have hm := getM_some hg
   rw [List.mem_singleton] at hm
   rw [<- hm]; rfl
set_option maxRecDepth 100000 in
set_option maxHeartbeats 4000000 in
theorem frTurned (v : Value) (own : List Attr) (w : World) (hv : aA w v own) (hl : own.length <= 1000000) (hz : (valM own reW).size <= 900000) :
  Calls Tryz.prog 94 #[v] w (FrturnP w own) := by
 have HV := hQq hv; have HZ := hQq hz; have HLN := hQq hl
 clear hv hz hl
 by_cases hq : isM own opqW = true /\ valM own opqW ≠ yW /\ valM own opqW ≠ xW
 ·have HR := hQq (ft_of (ft_opq hq.1 hq.2.1 hq.2.2))
  have q1 : ((valM own opqW).toList == ([121] : List UInt8)) = false := nB (fun e => hq.2.1 (L_inj (by rw [<- tL, e]; rfl)))
  have q2 : ((valM own opqW).toList == ([120] : List UInt8)) = false := nB (fun e => hq.2.2 (L_inj (by rw [<- tL, e]; rfl)))
  have HO := hQq hq.1
  clear hq
  go_enter Tryz.func94, Tryz.ntmps94
  go_wp2_with (go_at_call 92; refine (frValueO _ own _ HV.out HLN.out).mono ?_; rintro e w' ⟨rfl, rfl⟩; rw [HO.out])
  go_ret3
  exact ⟨⟨false, none, 0, 0, by rw [HR.out.2.2.2]; rfl, fun h => by rw [HR.out.2.2.2] at h; cases h⟩, bR _ _⟩
 obtain ⟨i, y, x, hi, q1, q1x, hd, -, hcs⟩ := ft_cases hq
 have HOO := hQq hi; have HDY := hQq hd
 clear hi hd
 cases hr : isM own reW with
 | false =>
  have HR := hQq (ft_of (ft_no hq hr))
  have HRR := hQq hr
  clear hq hr
  rcases hcs with ⟨rfl, rfl, rfl⟩ | ⟨rfl, rfl, rfl⟩ | ⟨rfl, rfl, rfl⟩
  all_goals
   go_enter Tryz.func94, Tryz.ntmps94
   go_wp2_with fail
   refine (frValueO _ own _ HV.out HLN.out).mono ?_
   rintro e w' ⟨rfl, rfl⟩
   rw [HOO.out]
   go_wp2_with fail
   refine (frValueR _ own _ HV.out HLN.out).mono ?_
   rintro e w' ⟨rfl, rfl⟩
   rw [HRR.out]
   go_wp2
   go_ret3
   exact ⟨⟨_, none, 0, 0, by rw [HR.out.2.2.2]; rfl, fun _ => ⟨by rw [HR.out.1, HDY.out], by rw [HR.out.2.2.1]; rfl, by rw [HR.out.2.2.1]; exact strIn_nil _ _ _⟩⟩, bR _ _⟩
 | true =>
  have HRR := hQq hr
  by_cases hb : parE (valM own reW) ≠ 0 \/ parL (valM own reW) = []
  ·have HR := hQq (ft_of (ft_bad hq hr hb))
   have HB := hQq hb
   clear hq hr hb
   by_cases he : parE (valM own reW) = 0
   ·have q2 : (parE (valM own reW) == 0) = true := beq_iff_eq.2 he
    have HN : Hid (parL (valM own reW) = []) := hQq (HB.out.resolve_left fun e => e he)
    clear he
    rcases hcs with ⟨rfl, rfl, rfl⟩ | ⟨rfl, rfl, rfl⟩ | ⟨rfl, rfl, rfl⟩
    all_goals
     go_enter Tryz.func94, Tryz.ntmps94
     go_wp2_with fail
     refine (frValueO _ own _ HV.out HLN.out).mono ?_
     rintro e w' ⟨rfl, rfl⟩
     rw [HOO.out]
     go_wp2_with fail
     refine (frValueR _ own _ HV.out HLN.out).mono ?_
     rintro e w' ⟨rfl, rfl⟩
     rw [HRR.out]
     go_wp2_with fail
     refine (refParse _ _ HZ.out).mono ?_
     rintro e w2 ⟨⟨a, cap, rfl, _⟩, hb2⟩
     rw [HN.out]
     have HB2 := hQq hb2
     clear hb2
     go_wp2
     go_ret3
     exact ⟨⟨_, _, _, _, by rw [HR.out.2.2.2]; rfl, fun h => by rw [HR.out.2.2.2] at h; cases h⟩, HB2.out⟩
   ·have q2 : (parE (valM own reW) == 0) = false := nB he
    clear he
    rcases hcs with ⟨rfl, rfl, rfl⟩ | ⟨rfl, rfl, rfl⟩ | ⟨rfl, rfl, rfl⟩
    all_goals
     go_enter Tryz.func94, Tryz.ntmps94
     go_wp2_with fail
     refine (frValueO _ own _ HV.out HLN.out).mono ?_
     rintro e w' ⟨rfl, rfl⟩
     rw [HOO.out]
     go_wp2_with fail
     refine (frValueR _ own _ HV.out HLN.out).mono ?_
     rintro e w' ⟨rfl, rfl⟩
     rw [HRR.out]
     go_wp2_with fail
     refine (refParse _ _ HZ.out).mono ?_
     rintro e w2 ⟨⟨a, cap, rfl, _⟩, hb2⟩
     have HB2 := hQq hb2
     clear hb2
     go_wp2
     go_ret3
     exact ⟨⟨_, _, _, _, by rw [HR.out.2.2.2]; rfl, fun h => by rw [HR.out.2.2.2] at h; cases h⟩, HB2.out⟩
  ·have HR := hQq (ft_of (ft_led hq hr hb))
   have q2 : (parE (valM own reW) == 0) = true := beq_iff_eq.2 (Decidable.not_not.1 fun e => hb (.inl e))
   have q3 : 0 < (parL (valM own reW)).length := by
    cases e : parL (valM own reW) with
    | nil => exact absurd (.inr e) hb
    | cons _ _ => simp
   have q4 := lenP q3
   clear hq hr hb
   rcases hcs with ⟨rfl, rfl, rfl⟩ | ⟨rfl, rfl, rfl⟩ | ⟨rfl, rfl, rfl⟩
   all_goals
    go_enter Tryz.func94, Tryz.ntmps94
    go_wp2_with fail
    refine (frValueO _ own _ HV.out HLN.out).mono ?_
    rintro e w' ⟨rfl, rfl⟩
    rw [HOO.out]
    go_wp2_with fail
    refine (frValueR _ own _ HV.out HLN.out).mono ?_
    rintro e w' ⟨rfl, rfl⟩
    rw [HRR.out]
    go_wp2_with fail
    refine (refParse _ _ HZ.out).mono ?_
    rintro e w2 ⟨⟨a, cap, rfl, ho2⟩, hb2⟩
    have HO2 := hQq ho2
    have HB2 := hQq hb2
    clear hb2 ho2
    go_wp2
    go_ret3
    exact ⟨⟨_, _, _, _, by rw [HR.out.2.2.2]; rfl, fun _ => ⟨by rw [HR.out.1, HDY.out], by rw [HR.out.2.2.1], by rw [HR.out.2.2.1]; exact HO2.out⟩⟩, HB2.out⟩
set_option maxRecDepth 100000 in
set_option maxHeartbeats 4000000 in
theorem frBooked (v : Value) (own : List Attr) (n : Int) (w : World) (hv : aA w v own) (hl : own.length <= 1000000) (hn : n <= 9223372036854775807) :
  RetB Tryz.prog 93 #[v, .int .i64 n] w (.int .i64 (bookE own n)) := by
 unfold RetB
 have HV := hQq hv; have HLN := hQq hl; have HN := hQq hn
 clear hv hl hn
 by_cases h1 : 1 < n
 ·have q0 : decide (1 < n) = true := decide_eq_true h1
  have HDG : Hid (linkS n = decB n.toNat) := hQq (linkS_dec h1)
  cases hi : isM own nlW with
  | false =>
   have HI := hQq hi
   have HB : Hid (bookE own n = 18) := hQq (book_no fun e => by rw [hi, q0] at e; exact absurd e.1 (by decide))
   clear hi
   go_enter Tryz.func93, Tryz.ntmps93
   go_wp2_with (go_at_call 92; refine (frValueN _ own _ HV.out HLN.out).mono ?_; rintro e w' ⟨rfl, rfl⟩; rw [HI.out])
   go_ret
   exact ⟨by rw [HB.out]; rfl, bR _ _⟩
  | true =>
   have HI := hQq hi
   have HH : Hid (bookE own n = if valM own nlW = linkS n then 0 else 18) := hQq (by
    by_cases e : valM own nlW = linkS n
    ·rw [if_pos e]; exact book_ok (by rw [hi, q0]) e
    ·rw [if_neg e]; exact book_no fun x => e x.2)
   clear hi
   by_cases he : valM own nlW = linkS n
   ·have HB : Hid (bookE own n = 0) := hQq (by rw [HH.out, if_pos he])
    have q1 : ((valM own nlW).toList == (decB n.toNat).toList) = true := beq_iff_eq.2 (by rw [he, HDG.out])
    clear he HH
    go_enter Tryz.func93, Tryz.ntmps93
    go_wp2_with fail
    refine (frValueN _ own _ HV.out HLN.out).mono ?_
    rintro e w' ⟨rfl, rfl⟩
    rw [HI.out]
    go_wp2_with fail
    refine (refDigitsI n _ (by omega) HN.out).mono ?_
    rintro e w4 ⟨rfl, hb4⟩
    have HB4 := hQq hb4
    clear hb4
    go_wp2
    go_ret
    exact ⟨by rw [HB.out]; rfl, HB4.out⟩
   ·have HB : Hid (bookE own n = 18) := hQq (by rw [HH.out, if_neg he])
    have q1 : ((valM own nlW).toList == (decB n.toNat).toList) = false := nB (fun e => he (L_inj (by rw [HDG.out, <- tL, <- tL]; exact e)))
    clear he HH
    go_enter Tryz.func93, Tryz.ntmps93
    go_wp2_with fail
    refine (frValueN _ own _ HV.out HLN.out).mono ?_
    rintro e w' ⟨rfl, rfl⟩
    rw [HI.out]
    go_wp2_with fail
    refine (refDigitsI n _ (by omega) HN.out).mono ?_
    rintro e w4 ⟨rfl, hb4⟩
    have HB4 := hQq hb4
    clear hb4
    go_wp2
    go_ret
    exact ⟨by rw [HB.out]; rfl, HB4.out⟩
 ·have q0 : decide (1 < n) = false := decide_eq_false h1
  cases hi : isM own nlW with
  | false =>
   have HI := hQq hi
   have HB : Hid (bookE own n = 0) := hQq (book_ok (by rw [hi, q0]) (by rw [isM_none hi, link_one (by omega)]))
   clear hi
   go_enter Tryz.func93, Tryz.ntmps93
   go_wp2_with (go_at_call 92; refine (frValueN _ own _ HV.out HLN.out).mono ?_; rintro e w' ⟨rfl, rfl⟩; rw [HI.out])
   go_ret
   exact ⟨by rw [HB.out]; rfl, bR _ _⟩
  | true =>
   have HI := hQq hi
   have HB : Hid (bookE own n = 18) := hQq (book_no fun e => by rw [hi, q0] at e; exact absurd e.1 (by decide))
   clear hi
   go_enter Tryz.func93, Tryz.ntmps93
   go_wp2_with (go_at_call 92; refine (frValueN _ own _ HV.out HLN.out).mono ?_; rintro e w' ⟨rfl, rfl⟩; rw [HI.out])
   go_ret
   exact ⟨by rw [HB.out]; rfl, bR _ _⟩
theorem frWhite (x : TrN) (va : Value) (w : World) (hv : aA w va x.ats) (hm : Small x.ats) :
  RetB Tryz.prog 154 #[trV x va] w (.bool (whtB x)) := by
 unfold RetB
 have HV := hQq hv; have HM := hQq hm
 obtain ⟨a3, c3, rfl, -, -⟩ := hv
 clear hm
 unfold trV
 go_enter Tryz.func154, Tryz.ntmps154
 go_wp2_with fail
 refine (refPartsT 2 _ x.ats _ (HV.out.ext (eA _ _)) HM.out).mono ?_
 rintro e w1 ⟨⟨v1, v2, rfl, ho1, ho2⟩, hb1⟩
 have HO2 := hQq ho2
 have HB := hQq ((eA _ _).trans hb1)
 clear ho1 ho2 hb1
 go_wp2_with fail
 refine (frValueW _ (ptsO 2 x.ats) _ HO2.out.1 (oS2 _)).mono ?_
 rintro e w2 ⟨rfl, rfl⟩
 go_wp2
 go_ret
 exact ⟨rfl, HB.out⟩
set_option maxRecDepth 100000 in
set_option maxHeartbeats 16000000 in
theorem frHidden (x : TrN) (va : Value) (n : Int) (w : World) (hv : aA w va x.ats) (hm : Small x.ats) (ht : whtB x = true) (h1 : 1 <= n) :
  RetB Tryz.prog 155 #[trV x va, .int .i64 n] w (.bool (hidB x n)) := by
 unfold RetB
 have HV := hQq hv; have HM := hQq hm
 obtain ⟨a3, c3, rfl, -, -⟩ := hv
 clear hm
 unfold trV hidB
 have e2 : (x.dat.size == 0) = x.dat.toList.isEmpty := by
  rw [Bool.eq_iff_iff, beq_iff_eq, List.isEmpty_iff, size_L, <- tL, List.length_eq_zero_iff]
 have e3 : ((ptsP 2 x.ats).length == 0) = (((ptsP 2 x.ats).length : Int) == 0) := by
  rw [Bool.eq_iff_iff, beq_iff_eq, beq_iff_eq]; omega
 have e4 : ((ptsO 2 x.ats).length == 1) = (((ptsO 2 x.ats).length : Int) == 1) := by
  rw [Bool.eq_iff_iff, beq_iff_eq, beq_iff_eq]; omega
 have e6 : decide (n < 2) = (n == 1) := by
  rw [Bool.eq_iff_iff, beq_iff_eq, decide_eq_true_eq]; omega
 rw [e2, e3, e4, e6]
 have HT : Hid (isM (ptsO 2 x.ats) whW = true) := hQq ht
 clear e2 e3 e4 e6 h1 ht
 by_cases hl : (ptsO 2 x.ats).length = 1
 ·obtain ⟨a, ho, hva⟩ := own_one hl HT.out
  have e5 : decide (valM (ptsO 2 x.ats) whW = yW) = (a.2.toList == ([121] : List UInt8)) := by
   rw [hva, Bool.eq_iff_iff, beq_iff_eq, decide_eq_true_eq, tL]
   exact ⟨fun e => by rw [e]; rfl, fun e => L_inj e⟩
  have e4 : (((ptsO 2 x.ats).length : Int) == 1) = true := beq_iff_eq.2 (by omega)
  rw [e5, e4]
  have HOA := hQq ho
  clear e5 e4 ho hva hl
  generalize hP : (ptsP 2 x.ats).length = np
  refine and6 _ (x.kd == 2) x.dat.toList.isEmpty ((np : Int) == 0) true (a.2.toList == ([121] : List UInt8)) (n == 1) ?_ ?_ ?_ ?_ ?_ ?_
  any_goals (first | (intros; contradiction) | skip)
  all_goals
   intros
   go_enter Tryz.func155, Tryz.ntmps155
   go_wp2_with fail
   refine (refPartsT 2 _ x.ats _ (HV.out.ext (eA _ _)) HM.out).mono ?_
   rintro e w1 ⟨⟨v1, v2, rfl, ho1, ho2⟩, hb1⟩
   have HB := hQq ((eA _ _).trans hb1)
   have Q0 := hQq (bX hb1 (bN w (.cells #[.int .i64 x.dep, .string x.nm, .int .i64 x.kd, .slice a3 x.ats.length c3, .string x.dat, .int .i64 x.ma, .int .i64 x.mi, .int .i64 x.cl] 43 (0, 0))))
   obtain ⟨a4, c4, rfl, -, -⟩ := ho1.1
   rw [hP]
   rw [HOA.out] at ho2
   obtain ⟨a5, c5, rfl, -, hc⟩ := ho2.1
   obtain ⟨b, off, rfl, hbs, g1, g2⟩ := hc 0 (by simp)
   have g1 : w1.cell? ⟨b, off, none⟩ = some (.string a.1) := g1
   have g2 : w1.cell? ⟨b, off + 1, none⟩ = some (.string a.2) := g2
   have y2 := bC Q0.out 2; have y4 := bC Q0.out 4; have z := bL Q0.out
   clear hb1 ho1 ho2 hc
   go_wp2
   go_ret
   refine ⟨?_, HB.out⟩
   (simp only [*, Bool.true_and, Bool.false_and]; try rfl)
 ·have e4 : (((ptsO 2 x.ats).length : Int) == 1) = false := nB (by omega)
  have e5 : ∀ b, ((((ptsO 2 x.ats).length : Int) == 1) && b) = false := fun b => by rw [e4]; rfl
  rw [e5]
  clear e5 hl
  generalize hP : (ptsP 2 x.ats).length = np
  generalize hO : (ptsO 2 x.ats).length = no at e4
  refine and6 _ (x.kd == 2) x.dat.toList.isEmpty ((np : Int) == 0) true true true ?_ ?_ ?_ ?_ ?_ ?_
  any_goals (first | (intros; contradiction) | skip)
  all_goals
   intros
   go_enter Tryz.func155, Tryz.ntmps155
   go_wp2_with fail
   refine (refPartsT 2 _ x.ats _ (HV.out.ext (eA _ _)) HM.out).mono ?_
   rintro e w1 ⟨⟨v1, v2, rfl, ho1, ho2⟩, hb1⟩
   have HB := hQq ((eA _ _).trans hb1)
   have Q0 := hQq (bX hb1 (bN w (.cells #[.int .i64 x.dep, .string x.nm, .int .i64 x.kd, .slice a3 x.ats.length c3, .string x.dat, .int .i64 x.ma, .int .i64 x.mi, .int .i64 x.cl] 43 (0, 0))))
   obtain ⟨a4, c4, rfl, -, -⟩ := ho1.1
   obtain ⟨a5, c5, rfl, -, -⟩ := ho2.1
   rw [hP, hO]
   have y2 := bC Q0.out 2; have y4 := bC Q0.out 4; have z := bL Q0.out
   clear hb1 ho1 ho2
   go_wp2
   go_ret
   refine ⟨?_, HB.out⟩
   (simp only [*, Bool.and_false]; try rfl)
end Go.Proofs.YtimpejaaeinplaaGreatDoor
