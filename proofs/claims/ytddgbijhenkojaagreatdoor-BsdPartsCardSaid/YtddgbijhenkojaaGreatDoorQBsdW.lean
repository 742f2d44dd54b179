/- bsd.write, bsd.read, and the reference's. -/
/- bsd.read, and the reference's. -/
import Derived.Test.YtddgbijhenkojaaGreatDoorQBsdP
import Derived.Test.YtddgbijhenkojaaGreatDoorQSetW
import Derived.Test.YtddgbijhenkojaaGreatDoorQSrt
import Derived.Test.YtddgbijhenkojaaGreatDoorQRefL
namespace Go.Proofs.YtddgbijhenkojaaGreatDoor
open Go.RowKit

theorem size_of_chk {l : List Attr} (h : chkE l = 0) : ∀ a ∈ l, a.1.size ≤ 40 ∧ a.2.size ≤ 200 := by
  intro a ha
  obtain ⟨h1, h2⟩ := alone_key ((chk_parts h).2.1 a ha)
  have := keyE_len h1
  rw [← size_L] at this
  exact ⟨this, h2⟩
theorem bsdWrite (v : Value) (l : List Attr) (o : Bool) (w : World) (hL : Laid w) (hv : AttrsAt w v l) (hm : Small l) :
    Calls Tryz.prog 23 #[v, .bool o] w fun e w' => (∃ v', e = .returned (.tuple #[v', .int .i64 (bwE l o)]) ∧ AttT w' v' (bwL l o)) ∧ Ext w w' := by
  have HL := Lib.hid hL; have HV := Lib.hid hv; have HM := Lib.hid hm
  clear hL hv hm
  by_cases h : atsE 4 l ≠ 0 ∨ o = false
  · obtain ⟨e1, e2⟩ := bw_of (bw_plain h)
    rw [e1, e2]
    clear e1 e2
    by_cases h1 : atsE 4 l = 0
    · obtain rfl : o = false := h.resolve_left (fun e => e h1)
      rw [h1]
      have H1 := Lib.hid h1
      clear h h1
      go_enter Tryz.func23, Tryz.ntmps23
      go_wp2_with (go_at_call 48; refine (escAttrsT 4 _ l _ HL.out HV.out HM.out).mono ?_; rintro e w1 ⟨⟨v1, rfl, ho⟩, hb⟩; rw [H1.out]; have HO := Lib.hid ho; have HB := Lib.hid hb; clear ho hb)
      go_ret2
      exact ⟨⟨_, rfl, HO.out⟩, HB.out⟩
    · have q1 : (atsE 4 l != 0) = true := bne_iff_ne.2 h1
      clear h h1
      go_enter Tryz.func23, Tryz.ntmps23
      go_wp2_with (go_at_call 48; refine (escAttrsT 4 _ l _ HL.out HV.out HM.out).mono ?_; rintro e w1 ⟨⟨v1, rfl, ho⟩, hb⟩; have HO := Lib.hid ho; have HB := Lib.hid hb; clear ho hb)
      go_ret2
      exact ⟨⟨_, rfl, HO.out⟩, HB.out⟩
  have h1 : atsE 4 l = 0 := Decidable.not_not.1 (fun e => h (.inl e))
  obtain rfl : o = true := by
    cases o with
    | true => rfl
    | false => exact absurd (.inr rfl) h
  have H1 := Lib.hid h1
  obtain ⟨n, hn4, _, _, _, hc, he⟩ := ats_in h1
  rw [← he] at hc
  have HC := Lib.hid hc
  have HS := Lib.hid (size_of_chk hc)
  have HN := Lib.hid (ats_no_mark h1)
  have HK := Lib.hid (bw_chk h1)
  have hsz : mkA.1.size ≤ 1000000 ∧ mkA.2.size ≤ 1000000 := by
    show mkB.size ≤ _ ∧ (0 : Nat) ≤ _
    rw [mkB_val]; decide
  have HSZ := Lib.hid hsz
  have HMR := Lib.hid mrE_opq
  cases hf : spF (atsL 4 l) mkA
  · obtain ⟨e1, e2⟩ := bw_of (bw_ok h1 (HK.out.2 hf))
    have HP : Hid (spE (atsL 4 l) mkA = 0 ∧ spL (atsL 4 l) mkA = putA (atsL 4 l) mkA) := Lib.hid ⟨by unfold spE; rw [hf]; rfl, by unfold spL; rw [hf]; rfl⟩
    rw [e1, e2]
    clear h h1 hn4 hc he hsz hf e1 e2
    go_enter Tryz.func23, Tryz.ntmps23
    go_wp2_with (first
      | (go_at_call 48; refine (escAttrsT 4 _ l _ HL.out HV.out HM.out).mono ?_; rintro e w1 ⟨⟨v1, rfl, ho⟩, hb⟩; rw [H1.out]; have HO := Lib.hid ho; have HB := Lib.hid hb; clear ho hb)
      | (go_at_call 49; refine (escMark 4 opqW _ (HL.out.ext HB.out) (by decide)).mono ?_; rintro e w2 ⟨rfl, hb⟩; have HB2 := Lib.hid (Ext.trans HB.out hb); have HO2 := Lib.hid (HO.out.ext hb); clear hb)
      | (go_at_call 50; refine (attrsSet _ (atsL 4 l) mkA _ HO2.out.1 (fun a ha => by have := HS.out a ha; omega) HC.out mkA_alone HSZ.out HN.out).mono ?_; rintro e w3 ⟨⟨v3, rfl, ho⟩, hb⟩; rw [HP.out.1]; rw [HP.out.2] at ho; have HO3 := Lib.hid ho; have HB3 := Lib.hid (Ext.trans HB2.out hb); clear ho hb))
    go_ret2
    exact ⟨⟨_, rfl, HO3.out⟩, HB3.out⟩
  · obtain ⟨e1, e2⟩ := bw_of (bw_no h1 (fun e => by rw [HK.out.1 e] at hf; cases hf))
    have HP : Hid (spE (atsL 4 l) mkA = 5 ∧ spL (atsL 4 l) mkA = []) := Lib.hid ⟨by unfold spE; rw [hf]; rfl, by unfold spL; rw [hf]; rfl⟩
    rw [e1, e2]
    clear h h1 hn4 hc he hsz hf e1 e2
    go_enter Tryz.func23, Tryz.ntmps23
    go_wp2_with (first
      | (go_at_call 48; refine (escAttrsT 4 _ l _ HL.out HV.out HM.out).mono ?_; rintro e w1 ⟨⟨v1, rfl, ho⟩, hb⟩; rw [H1.out]; have HO := Lib.hid ho; have HB := Lib.hid hb; clear ho hb)
      | (go_at_call 49; refine (escMark 4 opqW _ (HL.out.ext HB.out) (by decide)).mono ?_; rintro e w2 ⟨rfl, hb⟩; have HB2 := Lib.hid (Ext.trans HB.out hb); have HO2 := Lib.hid (HO.out.ext hb); clear hb)
      | (go_at_call 50; refine (attrsSet _ (atsL 4 l) mkA _ HO2.out.1 (fun a ha => by have := HS.out a ha; omega) HC.out mkA_alone HSZ.out HN.out).mono ?_; rintro e w3 ⟨⟨v3, rfl, ho⟩, hb⟩; rw [HP.out.1]; have HB3 := Lib.hid (Ext.trans HB2.out hb); clear ho hb))
    go_ret2
    exact ⟨⟨_, rfl, AttT.nil _ _ _ (AttrsAt.nil _ _ _)⟩, HB3.out⟩
theorem refBsdWrite (v : Value) (l : List Attr) (o : Bool) (w : World) (hv : AttrsAt w v l) (hm : Small l) :
    Calls Tryz.prog 27 #[v, .bool o] w fun e w' => (∃ v', e = .returned (.tuple #[v', .int .i64 (bwE l o)]) ∧ AttT w' v' (bwL l o)) ∧ Ext w w' := by
  have HV := Lib.hid hv; have HM := Lib.hid hm
  clear hv hm
  by_cases h : atsE 4 l ≠ 0 ∨ o = false
  · obtain ⟨e1, e2⟩ := bw_of (bw_plain h)
    rw [e1, e2]
    clear e1 e2
    by_cases h1 : atsE 4 l = 0
    · obtain rfl : o = false := h.resolve_left (fun e => e h1)
      rw [h1]
      have H1 := Lib.hid h1
      clear h h1
      go_enter Tryz.func27, Tryz.ntmps27
      go_wp2_with (go_at_call 55; refine (refAttrsT 4 _ l _ HV.out HM.out).mono ?_; rintro e w1 ⟨⟨v1, rfl, ho⟩, hb⟩; rw [H1.out]; have HO := Lib.hid ho; have HB := Lib.hid hb; clear ho hb)
      go_ret2
      exact ⟨⟨_, rfl, HO.out⟩, HB.out⟩
    · have q1 : (atsE 4 l != 0) = true := bne_iff_ne.2 h1
      clear h h1
      go_enter Tryz.func27, Tryz.ntmps27
      go_wp2_with (go_at_call 55; refine (refAttrsT 4 _ l _ HV.out HM.out).mono ?_; rintro e w1 ⟨⟨v1, rfl, ho⟩, hb⟩; have HO := Lib.hid ho; have HB := Lib.hid hb; clear ho hb)
      go_ret2
      exact ⟨⟨_, rfl, HO.out⟩, HB.out⟩
  have h1 : atsE 4 l = 0 := Decidable.not_not.1 (fun e => h (.inl e))
  obtain rfl : o = true := by
    cases o with
    | true => rfl
    | false => exact absurd (.inr rfl) h
  have H1 := Lib.hid h1
  obtain ⟨n, hn4, _, _, _, hc, he⟩ := ats_in h1
  rw [← he] at hc
  have HS := Lib.hid (size_of_chk hc)
  have HL6 : Hid ((atsL 4 l).length ≤ 100) := Lib.hid (by have := (chk_parts hc).1; omega)
  have HPS : Hid (∀ a ∈ putA (atsL 4 l) mkA, a.1.size ≤ 1000000 ∧ a.2.size ≤ 1000000) := Lib.hid (fun a ha => by
    rcases List.mem_cons.1 ((putA_perm (atsL 4 l) mkA).mem_iff.1 ha) with rfl | ha
    · show mkB.size ≤ _ ∧ (0 : Nat) ≤ _
      rw [mkB_val]; decide
    · have := HS.out a ha; omega)
  by_cases hk : chkE (putA (atsL 4 l) mkA) = 0
  · obtain ⟨e1, e2⟩ := bw_of (bw_ok h1 hk)
    have q2 : (chkE (putA (atsL 4 l) mkA) != 0) = false := bne_eq_false_iff_eq.2 hk
    rw [e1, e2]
    clear h h1 hn4 hc he hk e1 e2
    go_enter Tryz.func27, Tryz.ntmps27
    go_wp2_with (first
      | (go_at_call 55; refine (refAttrsT 4 _ l _ HV.out HM.out).mono ?_; rintro e w1 ⟨⟨v1, rfl, ho⟩, hb⟩; rw [H1.out]; have HO := Lib.hid ho; have HB := Lib.hid hb; clear ho hb)
      | (go_at_call 56; refine (refMark 4 opqW _ (by decide)).mono ?_; rintro e w2 ⟨rfl, hb⟩; have HB2 := Lib.hid (Ext.trans HB.out hb); have HO2 := Lib.hid (HO.out.ext hb); clear hb)
      | (go_at_call 57; refine (refPutT _ (atsL 4 l) mkA _ HO2.out.1 HL6.out).mono ?_; rintro e w3 ⟨⟨v3, rfl, ho⟩, hb⟩; have HO3 := Lib.hid ho; have HB3 := Lib.hid (Ext.trans HB2.out hb); clear ho hb)
      | (go_at_call 52; refine (refCheck _ (putA (atsL 4 l) mkA) _ HO3.out.1 HPS.out).mono ?_; rintro e w4 ⟨rfl, hb⟩; have HB4 := Lib.hid (Ext.trans HB3.out hb); have HO4 := Lib.hid (HO3.out.ext hb); clear hb))
    go_ret2
    exact ⟨⟨_, rfl, HO4.out⟩, HB4.out⟩
  · obtain ⟨e1, e2⟩ := bw_of (bw_no h1 hk)
    have q2 : (chkE (putA (atsL 4 l) mkA) != 0) = true := bne_iff_ne.2 hk
    rw [e1, e2]
    clear h h1 hn4 hc he hk e1 e2
    go_enter Tryz.func27, Tryz.ntmps27
    go_wp2_with (first
      | (go_at_call 55; refine (refAttrsT 4 _ l _ HV.out HM.out).mono ?_; rintro e w1 ⟨⟨v1, rfl, ho⟩, hb⟩; rw [H1.out]; have HO := Lib.hid ho; have HB := Lib.hid hb; clear ho hb)
      | (go_at_call 56; refine (refMark 4 opqW _ (by decide)).mono ?_; rintro e w2 ⟨rfl, hb⟩; have HB2 := Lib.hid (Ext.trans HB.out hb); have HO2 := Lib.hid (HO.out.ext hb); clear hb)
      | (go_at_call 57; refine (refPutT _ (atsL 4 l) mkA _ HO2.out.1 HL6.out).mono ?_; rintro e w3 ⟨⟨v3, rfl, ho⟩, hb⟩; have HO3 := Lib.hid ho; have HB3 := Lib.hid (Ext.trans HB2.out hb); clear ho hb)
      | (go_at_call 52; refine (refCheck _ (putA (atsL 4 l) mkA) _ HO3.out.1 HPS.out).mono ?_; rintro e w4 ⟨rfl, hb⟩; have HB4 := Lib.hid (Ext.trans HB3.out hb); have HO4 := Lib.hid (HO3.out.ext hb); clear hb))
    go_ret2
    exact ⟨⟨_, rfl, AttT.nil _ _ _ (AttrsAt.nil _ _ _)⟩, HB4.out⟩
end Go.Proofs.YtddgbijhenkojaaGreatDoor

namespace Go.Proofs.YtddgbijhenkojaaGreatDoor
open Go.RowKit

set_option maxRecDepth 100000 in
theorem bsdRead (v : Value) (l : List Attr) (w : World) (hL : Laid w) (hv : AttrsAt w v l) (hm : Small l) :
    Calls Tryz.prog 31 #[v] w fun e w' => (∃ v', e = .returned (.tuple #[v', .bool (bdO l), .int .i64 (bdE l)]) ∧ AttT w' v' (bdP l)) ∧ Ext w w' := by
  have HL := Lib.hid hL; have HV := Lib.hid hv; have HM := Lib.hid hm
  clear hL hv hm
  by_cases h : ptsE 4 l = 0
  case neg =>
    obtain ⟨e1, e2, e3⟩ := bd_of (bd_err h)
    rw [e1, e2, e3]
    have q1 : (ptsE 4 l != 0) = true := bne_iff_ne.2 h
    clear h e1 e2 e3
    go_enter Tryz.func31, Tryz.ntmps31
    go_wp2_with (go_at_call 59; refine (escPartsT 4 _ l _ HL.out HV.out HM.out).mono ?_; rintro e w1 ⟨⟨v1, v2, rfl, ho1, ho2⟩, hb⟩; have HB := Lib.hid hb; clear ho1 ho2 hb)
    go_ret3
    exact ⟨⟨_, rfl, AttT.nil _ _ _ (AttrsAt.nil _ _ _)⟩, HB.out⟩
  have H0 := Lib.hid h
  have hone := ptsO_one (l := l)
  cases ho : ptsO 4 l with
  | nil =>
    obtain ⟨e1, e2, e3⟩ := bd_of (bd_ok h (by rw [ho]; rfl))
    rw [e1, e2, e3, ho]
    have HO := Lib.hid ho
    clear h hone ho e1 e2 e3
    go_enter Tryz.func31, Tryz.ntmps31
    go_wp2_with (go_at_call 59; refine (escPartsT 4 _ l _ HL.out HV.out HM.out).mono ?_; rintro e w1 ⟨⟨v1, v2, rfl, ho1, ho2⟩, hb⟩; rw [HO.out] at ho2; rw [H0.out]; obtain ⟨a2, c2, rfl, _, _⟩ := ho2.1; have HO1 := Lib.hid ho1; have HB := Lib.hid hb; clear ho1 hb)
    refine wp_loop_rounds 1 ?_
    rw [rounds_succ]
    go_wp2
    go_ret3
    exact ⟨⟨_, rfl, HO1.out⟩, HB.out⟩
  | cons y r =>
    obtain rfl : r = [] := by
      rw [ho] at hone
      cases r with
      | nil => rfl
      | cons _ _ => simp at hone
    have HO := Lib.hid ho
    cases hy : y.2.toList.isEmpty
    · have hv2 : valB (ptsO 4 l) = true := by
        rw [ho]; unfold valB
        simp only [List.any_cons, List.any_nil, Bool.or_false]
        rw [size_L, ← toList_L]
        cases e : y.2.toList with
        | nil => rw [e] at hy; cases hy
        | cons a b => rfl
      obtain ⟨e1, e2, e3⟩ := bd_of (bd_val h hv2)
      rw [e1, e2, e3]
      clear h hone ho e1 e2 e3 hv2
      go_enter Tryz.func31, Tryz.ntmps31
      go_wp2_with (go_at_call 59; refine (escPartsT 4 _ l _ HL.out HV.out HM.out).mono ?_; rintro e w1 ⟨⟨v1, v2, rfl, ho1, ho2⟩, hb⟩; rw [HO.out] at ho2; rw [H0.out]; obtain ⟨a2, cc2, rfl, _, hc2⟩ := ho2.1; obtain ⟨b2, o2, rfl, hb2, k1, k2⟩ := hc2 0 (by simp); have HO1 := Lib.hid ho1; have HB := Lib.hid hb; have k1 : w1.cell? ⟨b2, o2, none⟩ = some (.string y.1) := k1; have k2 : w1.cell? ⟨b2, o2 + 1, none⟩ = some (.string y.2) := k2; clear ho1 hb ho2 hc2)
      refine wp_loop_rounds 1 ?_
      rw [rounds_succ]
      go_wp2
      go_ret3
      exact ⟨⟨_, rfl, AttT.nil _ _ _ (AttrsAt.nil _ _ _)⟩, HB.out.trans (ext_alloc _ _)⟩
    · have hv2 : valB (ptsO 4 l) = false := by
        rw [ho]; unfold valB
        simp only [List.any_cons, List.any_nil, Bool.or_false]
        rw [size_L, ← toList_L]
        cases e : y.2.toList with
        | nil => rfl
        | cons a b => rw [e] at hy; cases hy
      obtain ⟨e1, e2, e3⟩ := bd_of (bd_ok h hv2)
      rw [e1, e2, e3, ho]
      clear h hone ho e1 e2 e3 hv2
      go_enter Tryz.func31, Tryz.ntmps31
      go_wp2_with (go_at_call 59; refine (escPartsT 4 _ l _ HL.out HV.out HM.out).mono ?_; rintro e w1 ⟨⟨v1, v2, rfl, ho1, ho2⟩, hb⟩; rw [HO.out] at ho2; rw [H0.out]; obtain ⟨a2, cc2, rfl, _, hc2⟩ := ho2.1; obtain ⟨b2, o2, rfl, hb2, k1, k2⟩ := hc2 0 (by simp); have HO1 := Lib.hid ho1; have HB := Lib.hid hb; have k1 : w1.cell? ⟨b2, o2, none⟩ = some (.string y.1) := k1; have k2 : w1.cell? ⟨b2, o2 + 1, none⟩ = some (.string y.2) := k2; clear ho1 hb ho2 hc2)
      refine wp_loop_rounds 2 ?_
      rw [rounds_succ]
      go_wp2
      rw [rounds_succ]
      go_wp2
      go_ret3
      exact ⟨⟨_, rfl, HO1.out.ext (ext_alloc _ _)⟩, HB.out.trans (ext_alloc _ _)⟩
theorem refBsdRead (v : Value) (l : List Attr) (w : World) (hv : AttrsAt w v l) (hm : Small l) :
    Calls Tryz.prog 33 #[v] w fun e w' => (∃ v', e = .returned (.tuple #[v', .bool (bdO l), .int .i64 (bdE l)]) ∧ AttT w' v' (bdP l)) ∧ Ext w w' := by
  have HV := Lib.hid hv; have HM := Lib.hid hm
  clear hv hm
  by_cases h : ptsE 4 l = 0
  case neg =>
    obtain ⟨e1, e2, e3⟩ := bd_of (bd_err h)
    rw [e1, e2, e3]
    have q1 : (ptsE 4 l != 0) = true := bne_iff_ne.2 h
    clear h e1 e2 e3
    go_enter Tryz.func33, Tryz.ntmps33
    go_wp2_with (go_at_call 60; refine (refPartsT 4 _ l _ HV.out HM.out).mono ?_; rintro e w1 ⟨⟨v1, v2, rfl, ho1, ho2⟩, hb⟩; have HB := Lib.hid hb; clear ho1 ho2 hb)
    go_ret3
    exact ⟨⟨_, rfl, AttT.nil _ _ _ (AttrsAt.nil _ _ _)⟩, HB.out⟩
  have H0 := Lib.hid h
  have hone := ptsO_one (l := l)
  cases ho : ptsO 4 l with
  | nil =>
    obtain ⟨e1, e2, e3⟩ := bd_of (bd_ok h (by rw [ho]; rfl))
    rw [e1, e2, e3, ho]
    have HO := Lib.hid ho
    clear h hone ho e1 e2 e3
    go_enter Tryz.func33, Tryz.ntmps33
    go_wp2_with (go_at_call 60; refine (refPartsT 4 _ l _ HV.out HM.out).mono ?_; rintro e w1 ⟨⟨v1, v2, rfl, ho1, ho2⟩, hb⟩; rw [HO.out] at ho2; rw [H0.out]; obtain ⟨a2, c2, rfl, _, _⟩ := ho2.1; have HO1 := Lib.hid ho1; have HB := Lib.hid hb; clear ho1 hb)
    go_ret3
    exact ⟨⟨_, rfl, HO1.out⟩, HB.out⟩
  | cons y r =>
    obtain rfl : r = [] := by
      rw [ho] at hone
      cases r with
      | nil => rfl
      | cons _ _ => simp at hone
    have HO := Lib.hid ho
    cases hy : y.2.toList.isEmpty
    · have hv2 : valB (ptsO 4 l) = true := by
        rw [ho]; unfold valB
        simp only [List.any_cons, List.any_nil, Bool.or_false]
        rw [size_L, ← toList_L]
        cases e : y.2.toList with
        | nil => rw [e] at hy; cases hy
        | cons a b => rfl
      obtain ⟨e1, e2, e3⟩ := bd_of (bd_val h hv2)
      rw [e1, e2, e3]
      clear h hone ho e1 e2 e3 hv2
      go_enter Tryz.func33, Tryz.ntmps33
      go_wp2_with (go_at_call 60; refine (refPartsT 4 _ l _ HV.out HM.out).mono ?_; rintro e w1 ⟨⟨v1, v2, rfl, ho1, ho2⟩, hb⟩; rw [HO.out] at ho2; rw [H0.out]; obtain ⟨a2, cc2, rfl, _, hc2⟩ := ho2.1; obtain ⟨b2, o2, rfl, hb2, k1, k2⟩ := hc2 0 (by simp); have HO1 := Lib.hid ho1; have HB := Lib.hid hb; have k1 : w1.cell? ⟨b2, o2, none⟩ = some (.string y.1) := k1; have k2 : w1.cell? ⟨b2, o2 + 1, none⟩ = some (.string y.2) := k2; clear ho1 hb ho2 hc2)
      go_ret3
      exact ⟨⟨_, rfl, AttT.nil _ _ _ (AttrsAt.nil _ _ _)⟩, HB.out⟩
    · have hv2 : valB (ptsO 4 l) = false := by
        rw [ho]; unfold valB
        simp only [List.any_cons, List.any_nil, Bool.or_false]
        rw [size_L, ← toList_L]
        cases e : y.2.toList with
        | nil => rfl
        | cons a b => rw [e] at hy; cases hy
      obtain ⟨e1, e2, e3⟩ := bd_of (bd_ok h hv2)
      rw [e1, e2, e3, ho]
      clear h hone ho e1 e2 e3 hv2
      go_enter Tryz.func33, Tryz.ntmps33
      go_wp2_with (go_at_call 60; refine (refPartsT 4 _ l _ HV.out HM.out).mono ?_; rintro e w1 ⟨⟨v1, v2, rfl, ho1, ho2⟩, hb⟩; rw [HO.out] at ho2; rw [H0.out]; obtain ⟨a2, cc2, rfl, _, hc2⟩ := ho2.1; obtain ⟨b2, o2, rfl, hb2, k1, k2⟩ := hc2 0 (by simp); have HO1 := Lib.hid ho1; have HB := Lib.hid hb; have k1 : w1.cell? ⟨b2, o2, none⟩ = some (.string y.1) := k1; have k2 : w1.cell? ⟨b2, o2 + 1, none⟩ = some (.string y.2) := k2; clear ho1 hb ho2 hc2)
      go_ret3
      exact ⟨⟨_, rfl, HO1.out⟩, HB.out⟩
end Go.Proofs.YtddgbijhenkojaaGreatDoor
