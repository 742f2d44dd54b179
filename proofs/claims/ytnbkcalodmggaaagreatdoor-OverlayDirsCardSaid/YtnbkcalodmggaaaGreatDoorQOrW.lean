/- OrW AwkO -/
import Derived.Test.YtnbkcalodmggaaaGreatDoorQI6
import Derived.Test.YtnbkcalodmggaaaGreatDoorQOrB
import Derived.Test.YtnbkcalodmggaaaGreatDoorQOvXO
import Derived.Test.YtnbkcalodmggaaaGreatDoorQOvE
namespace Go.Proofs.YtnbkcalodmggaaaGreatDoor
open Go.RowKit

theorem refAdd (v : Value) (l : List Attr) (k s : ByteArray) (w : World) (hv : AttT w v l) (hl : l.length <= 100) (hk : k.size <= 1000000) :
    Calls Tryz.prog 170 #[v, .string k, .string s] w fun e w' => (∃ v', e = .returned v' /\ AttT w' v' (setM 1 l (k, s))) /\ Ext w w' := by
  have HV := hQq hv
  obtain ⟨a, cap, rfl, _, _⟩ := hv.1
  clear hv
  cases h : s.toList.isEmpty with
  | true =>
    have HS : Hid (setM 1 l (k, s) = l) := hQq (setM_no (by
      show s.size = 0
      rw [size_L, <- toList_L]; exact List.length_eq_zero_iff.2 (List.isEmpty_iff.1 h)))
    rw [HS.out]
    go_enter Tryz.func170, Tryz.ntmps170
    go_wp2
    go_ret
    exact ⟨⟨_, rfl, HV.out⟩, Below.refl _ _⟩
  | false =>
    have HS : Hid (setM 1 l (k, s) = putA l (mkX 1 (k, s))) := hQq (setM_yes (fun e => by
      have e : s.size = 0 := e
      rw [size_L, <- toList_L] at e
      rw [List.length_eq_zero_iff.1 e] at h; cases h))
    rw [HS.out]
    go_enter Tryz.func170, Tryz.ntmps170
    go_wp2_with (first
      | (go_at_call 188; refine (refMark 1 k _ hk).mono ?_; rintro e w1 ⟨rfl, hb⟩; have HB := hQq hb; clear hb)
      | (go_at_call 164; refine (refPutT _ l (mkX 1 (k, s)) _ (HV.out.ext HB.out).1 hl).mono ?_; rintro e w2 ⟨⟨v2, rfl, ho⟩, hb⟩; have HO := hQq ho; have HB2 := hQq (Ext.trans HB.out hb); clear ho hb)
      | fail)
    go_ret
    exact ⟨⟨_, rfl, HO.out⟩, HB2.out⟩
set_option maxRecDepth 100000 in
set_option maxHeartbeats 4000000 in
theorem refOvWriteX (v : Value) (l : List Attr) (o r : ByteArray) (n : Int) (w : World) (hv : AttrsAt w v l) (hm : Small l) (hn : n <= 9223372036854775807) (ho : o.size <= 200) (hr : r.size <= 200) :
    Calls Tryz.prog 114 #[v, .agg #[.string o, .string r, .int .i64 n]] w fun e w' => (∃ v', e = .returned (.tuple #[v', .int .i64 (mwE 1 l (mk3 o r (linkS n)))]) /\ AttT w' v' (mwL 1 l (mk3 o r (linkS n)))) /\ Ext w w' := by
  have HV := hQq hv; have HM := hQq hm
  clear hv hm
  by_cases h1 : atsE 1 l = 0
  case neg =>
    obtain ⟨e1, e2⟩ := mw_of (mw_ats (ms := mk3 o r (linkS n)) h1)
    rw [e1, e2]
    have q1 : (atsE 1 l != 0) = true := bne_iff_ne.2 h1
    clear h1 e1 e2
    go_enter Tryz.func114, Tryz.ntmps114
    go_wp2_with (go_at_call 136; refine (refAttrsT 1 _ l _ (HV.out.ext (eA _ _)) HM.out).mono ?_; rintro e w1 ⟨⟨v1, rfl, ho⟩, hb⟩; have HB := hQq ((eA _ _).trans hb); clear ho hb)
    go_ret2
    exact ⟨⟨_, rfl, AttT.nil _ _ _ (AttrsAt.nil _ _ _)⟩, HB.out⟩
  have H1 := hQq h1
  have HL6 : Hid ((atsL 1 l).length <= 6) := hQq (chk_parts (ats_sorted h1).2).1
  have HE3 : Hid (setsM 1 (atsL 1 l) (mk3 o r (linkS n)) = setM 1 (setM 1 (setM 1 (atsL 1 l) (opqW, o)) (reW, r)) (nlW, linkS n)) := hQq rfl
  have HPS : Hid (∀ a ∈ setsM 1 (atsL 1 l) (mk3 o r (linkS n)), a.1.size <= 1000000 /\ a.2.size <= 1000000) := hQq (fun a ha => by
    rcases List.mem_append.1 ((setsM_perm 1 _ (atsL 1 l)).mem_iff.1 ha) with ha | ha
    · obtain ⟨m, hmm, rfl⟩ := List.mem_map.1 ha
      have hmm := (List.mem_filter.1 hmm).1
      have h2 := mk_size ((mk3_ok o r (linkS n)).2 m hmm)
      have h3 := mk3_size ho hr (linkS_size (n := n) (by omega)) m hmm
      show (mrS 1 m.1).size <= _ /\ m.2.size <= _
      omega
    · exact chk_sizes (ats_sorted h1).2 a ha)
  have hs1 := setM_len 1 (atsL 1 l) (opqW, o)
  have hs2 := setM_len 1 (setM 1 (atsL 1 l) (opqW, o)) (reW, r)
  have HLA : Hid ((setM 1 (atsL 1 l) (opqW, o)).length <= 100) := hQq (by have := HL6.out; omega)
  have HLB : Hid ((setM 1 (setM 1 (atsL 1 l) (opqW, o)) (reW, r)).length <= 100) := hQq (by have := HL6.out; omega)
  have HLC : Hid ((atsL 1 l).length <= 100) := hQq (by have := HL6.out; omega)
  clear hs1 hs2
  rw [HE3.out] at HPS
  have HK := hQq (fun (h : chkE (setsM 1 (atsL 1 l) (mk3 o r (linkS n))) = 0) => mw_of (mw_ok h1 h))
  have HK2 := hQq (fun (h : chkE (setsM 1 (atsL 1 l) (mk3 o r (linkS n))) ≠ 0) => mw_of (mw_bad h1 h))
  rw [HE3.out] at HK HK2
  clear h1
  obtain ⟨X2, hX2⟩ : ∃ X2, X2 = setM 1 (setM 1 (atsL 1 l) (opqW, o)) (reW, r) := ⟨_, rfl⟩
  rw [<- hX2] at HK HK2 HPS HLB
  have HX2 := hQq hX2
  clear hX2
  obtain ⟨X3, hX3⟩ : ∃ X3, X3 = setM 1 X2 (nlW, linkS n) := ⟨_, rfl⟩
  rw [<- hX3] at HK HK2 HPS
  have HX3 := hQq hX3
  clear hX3
  by_cases hn1 : 1 < n
  · by_cases hk : chkE X3 = 0
    · have HR := hQq (HK.out hk)
      have q2 : (chkE X3 != 0) = false := bne_eq_false_iff_eq.2 hk
      have HDG : Hid (linkS n = decB n.toNat) := hQq (linkS_dec hn1)
      have hnt : ((n.toNat : Nat) : Int) = n := by omega
      clear hk
      go_enter Tryz.func114, Tryz.ntmps114
      go_upto_region 4 with (go_at_call 136; refine (refAttrsT 1 _ l _ (HV.out.ext (eA _ _)) HM.out).mono ?_; rintro e w1 ⟨⟨v1, rfl, ho⟩, hb⟩; rw [H1.out]; have HO := hQq ho; obtain ⟨a1, c1, rfl, -, -⟩ := ho.1; have HB := hQq ((eA _ _).trans hb); have QB := hQq (bX hb (bN w (.cells #[.string o, .string r, .int .i64 n] 130 (0, 0)))); clear ho hb)
      have k0 := bC QB.out 0; have k1 := bC QB.out 1; have k2 := bC QB.out 2
      go_region_held3 (fun w' => w'.cell? ⟨w.heap.size, 0, none⟩ = some (.string o) /\ w'.cell? ⟨w.heap.size, 1, none⟩ = some (.string r) /\ w'.cell? ⟨w.heap.size, 2, none⟩ = some (.int .i64 n)) (first | go_keep | exact ⟨by assumption, by assumption, by assumption⟩)
        (first
          | (go_at_call 170; (with_reducible show Calls _ _ #[.slice a1 (atsL 1 l).length c1, _, _] _ _); refine (refAdd _ (atsL 1 l) opqW o _ (by first | exact HO.out.ext (eD _) | exact HO.out) HLC.out (by decide)).mono ?_; rintro e w2 ⟨⟨v2, rfl, ho2⟩, hb2⟩; have HO2 := hQq ho2; obtain ⟨a2, c2, rfl, -, -⟩ := ho2.1; have HB2 : Hid (Ext w1 w2) := hQq (by first | exact (eD _).trans hb2 | exact hb2); have d0 := bC (bX HB2.out QB.out) 0; have d1 := bC (bX HB2.out QB.out) 1; have d2 := bC (bX HB2.out QB.out) 2; clear ho2 hb2)
          | (go_at_call 170; refine (refAdd _ (setM 1 (atsL 1 l) (opqW, o)) reW r _ (by first | exact HO2.out.ext (eD _) | exact HO2.out) HLA.out (by decide)).mono ?_; rintro e w3 ⟨⟨v3, rfl, ho3⟩, hb3⟩; rw [<- HX2.out] at ho3; have HO3 := hQq ho3; obtain ⟨a3, c3, rfl, -, -⟩ := ho3.1; have HB3 : Hid (Ext w1 w3) := hQq (by first | exact (HB2.out.trans (eD _)).trans hb3 | exact HB2.out.trans hb3); have e0 := bC (bX HB3.out QB.out) 0; have e1 := bC (bX HB3.out QB.out) 1; have e2 := bC (bX HB3.out QB.out) 2; clear ho3 hb3)
          | fail)
      go_wp2_with (first
        | (go_at_call 25; refine (refDigitsI n _ (by omega) hn).mono ?_; rintro e w4 ⟨rfl, hb4⟩; have HB4 := hQq (HB3.out.trans hb4); have HO4 := hQq (HO3.out.ext hb4); clear hb4)
        | (go_at_call 170; refine (refAdd _ X2 nlW _ _ HO4.out HLB.out (by decide)).mono ?_; rw [<- HDG.out, <- HX3.out]; rintro e w5 ⟨⟨v5, rfl, ho5⟩, hb5⟩; have HO5 := hQq ho5; have HB5 := hQq (HB4.out.trans hb5); clear ho5 hb5)
        | (go_at_call 75; refine (refCheck _ X3 _ HO5.out.1 HPS.out).mono ?_; rintro e w6 ⟨rfl, hb6⟩; have HB6 := hQq (HB5.out.trans hb6); have HO6 := hQq (HO5.out.ext hb6); clear hb6)
        | fail)
      go_ret2
      exact ⟨⟨_, by rw [HR.out.2]; rfl, by rw [HR.out.1]; exact HO6.out⟩, HB.out.trans HB6.out⟩
    · have HR := hQq (HK2.out hk)
      have q2 : (chkE X3 != 0) = true := bne_iff_ne.2 hk
      have HDG : Hid (linkS n = decB n.toNat) := hQq (linkS_dec hn1)
      have hnt : ((n.toNat : Nat) : Int) = n := by omega
      clear hk
      go_enter Tryz.func114, Tryz.ntmps114
      go_upto_region 4 with (go_at_call 136; refine (refAttrsT 1 _ l _ (HV.out.ext (eA _ _)) HM.out).mono ?_; rintro e w1 ⟨⟨v1, rfl, ho⟩, hb⟩; rw [H1.out]; have HO := hQq ho; obtain ⟨a1, c1, rfl, -, -⟩ := ho.1; have HB := hQq ((eA _ _).trans hb); have QB := hQq (bX hb (bN w (.cells #[.string o, .string r, .int .i64 n] 130 (0, 0)))); clear ho hb)
      have k0 := bC QB.out 0; have k1 := bC QB.out 1; have k2 := bC QB.out 2
      go_region_held3 (fun w' => w'.cell? ⟨w.heap.size, 0, none⟩ = some (.string o) /\ w'.cell? ⟨w.heap.size, 1, none⟩ = some (.string r) /\ w'.cell? ⟨w.heap.size, 2, none⟩ = some (.int .i64 n)) (first | go_keep | exact ⟨by assumption, by assumption, by assumption⟩)
        (first
          | (go_at_call 170; (with_reducible show Calls _ _ #[.slice a1 (atsL 1 l).length c1, _, _] _ _); refine (refAdd _ (atsL 1 l) opqW o _ (by first | exact HO.out.ext (eD _) | exact HO.out) HLC.out (by decide)).mono ?_; rintro e w2 ⟨⟨v2, rfl, ho2⟩, hb2⟩; have HO2 := hQq ho2; obtain ⟨a2, c2, rfl, -, -⟩ := ho2.1; have HB2 : Hid (Ext w1 w2) := hQq (by first | exact (eD _).trans hb2 | exact hb2); have d0 := bC (bX HB2.out QB.out) 0; have d1 := bC (bX HB2.out QB.out) 1; have d2 := bC (bX HB2.out QB.out) 2; clear ho2 hb2)
          | (go_at_call 170; refine (refAdd _ (setM 1 (atsL 1 l) (opqW, o)) reW r _ (by first | exact HO2.out.ext (eD _) | exact HO2.out) HLA.out (by decide)).mono ?_; rintro e w3 ⟨⟨v3, rfl, ho3⟩, hb3⟩; rw [<- HX2.out] at ho3; have HO3 := hQq ho3; obtain ⟨a3, c3, rfl, -, -⟩ := ho3.1; have HB3 : Hid (Ext w1 w3) := hQq (by first | exact (HB2.out.trans (eD _)).trans hb3 | exact HB2.out.trans hb3); have e0 := bC (bX HB3.out QB.out) 0; have e1 := bC (bX HB3.out QB.out) 1; have e2 := bC (bX HB3.out QB.out) 2; clear ho3 hb3)
          | fail)
      go_wp2_with (first
        | (go_at_call 25; refine (refDigitsI n _ (by omega) hn).mono ?_; rintro e w4 ⟨rfl, hb4⟩; have HB4 := hQq (HB3.out.trans hb4); have HO4 := hQq (HO3.out.ext hb4); clear hb4)
        | (go_at_call 170; refine (refAdd _ X2 nlW _ _ HO4.out HLB.out (by decide)).mono ?_; rw [<- HDG.out, <- HX3.out]; rintro e w5 ⟨⟨v5, rfl, ho5⟩, hb5⟩; have HO5 := hQq ho5; have HB5 := hQq (HB4.out.trans hb5); clear ho5 hb5)
        | (go_at_call 75; refine (refCheck _ X3 _ HO5.out.1 HPS.out).mono ?_; rintro e w6 ⟨rfl, hb6⟩; have HB6 := hQq (HB5.out.trans hb6); have HO6 := hQq (HO5.out.ext hb6); clear hb6)
        | fail)
      go_ret2
      exact ⟨⟨_, by rw [HR.out.2]; rfl, by rw [HR.out.1]; exact AttT.nil _ _ _ (AttrsAt.nil _ _ _)⟩, HB.out.trans HB6.out⟩
  · by_cases hk : chkE X3 = 0
    · have HR := hQq (HK.out hk)
      have q2 : (chkE X3 != 0) = false := bne_eq_false_iff_eq.2 hk
      have HNL : Hid (X3 = X2) := hQq (by rw [HX3.out]; exact setM_no ((link_size n).2 (by omega)))
      clear hk
      go_enter Tryz.func114, Tryz.ntmps114
      go_upto_region 4 with (go_at_call 136; refine (refAttrsT 1 _ l _ (HV.out.ext (eA _ _)) HM.out).mono ?_; rintro e w1 ⟨⟨v1, rfl, ho⟩, hb⟩; rw [H1.out]; have HO := hQq ho; obtain ⟨a1, c1, rfl, -, -⟩ := ho.1; have HB := hQq ((eA _ _).trans hb); have QB := hQq (bX hb (bN w (.cells #[.string o, .string r, .int .i64 n] 130 (0, 0)))); clear ho hb)
      have k0 := bC QB.out 0; have k1 := bC QB.out 1; have k2 := bC QB.out 2
      go_region_held3 (fun w' => w'.cell? ⟨w.heap.size, 0, none⟩ = some (.string o) /\ w'.cell? ⟨w.heap.size, 1, none⟩ = some (.string r) /\ w'.cell? ⟨w.heap.size, 2, none⟩ = some (.int .i64 n)) (first | go_keep | exact ⟨by assumption, by assumption, by assumption⟩)
        (first
          | (go_at_call 170; (with_reducible show Calls _ _ #[.slice a1 (atsL 1 l).length c1, _, _] _ _); refine (refAdd _ (atsL 1 l) opqW o _ (by first | exact HO.out.ext (eD _) | exact HO.out) HLC.out (by decide)).mono ?_; rintro e w2 ⟨⟨v2, rfl, ho2⟩, hb2⟩; have HO2 := hQq ho2; obtain ⟨a2, c2, rfl, -, -⟩ := ho2.1; have HB2 : Hid (Ext w1 w2) := hQq (by first | exact (eD _).trans hb2 | exact hb2); have d0 := bC (bX HB2.out QB.out) 0; have d1 := bC (bX HB2.out QB.out) 1; have d2 := bC (bX HB2.out QB.out) 2; clear ho2 hb2)
          | (go_at_call 170; refine (refAdd _ (setM 1 (atsL 1 l) (opqW, o)) reW r _ (by first | exact HO2.out.ext (eD _) | exact HO2.out) HLA.out (by decide)).mono ?_; rintro e w3 ⟨⟨v3, rfl, ho3⟩, hb3⟩; rw [<- HX2.out] at ho3; have HO3 := hQq ho3; obtain ⟨a3, c3, rfl, -, -⟩ := ho3.1; have HB3 : Hid (Ext w1 w3) := hQq (by first | exact (HB2.out.trans (eD _)).trans hb3 | exact HB2.out.trans hb3); have e0 := bC (bX HB3.out QB.out) 0; have e1 := bC (bX HB3.out QB.out) 1; have e2 := bC (bX HB3.out QB.out) 2; clear ho3 hb3)
          | fail)
      go_wp2_with (first
        | (go_at_call 75; refine (refCheck _ X2 _ HO3.out.1 (by rw [<- HNL.out]; exact HPS.out)).mono ?_; rw [<- HNL.out]; rintro e w6 ⟨rfl, hb6⟩; have HB6 := hQq (HB3.out.trans hb6); have HO6 := hQq (HO3.out.ext hb6); rw [<- HNL.out] at HO6; clear hb6)
        | fail)
      go_ret2
      exact ⟨⟨_, by rw [HR.out.2]; rfl, by rw [HR.out.1]; exact HO6.out⟩, HB.out.trans HB6.out⟩
    · have HR := hQq (HK2.out hk)
      have q2 : (chkE X3 != 0) = true := bne_iff_ne.2 hk
      have HNL : Hid (X3 = X2) := hQq (by rw [HX3.out]; exact setM_no ((link_size n).2 (by omega)))
      clear hk
      go_enter Tryz.func114, Tryz.ntmps114
      go_upto_region 4 with (go_at_call 136; refine (refAttrsT 1 _ l _ (HV.out.ext (eA _ _)) HM.out).mono ?_; rintro e w1 ⟨⟨v1, rfl, ho⟩, hb⟩; rw [H1.out]; have HO := hQq ho; obtain ⟨a1, c1, rfl, -, -⟩ := ho.1; have HB := hQq ((eA _ _).trans hb); have QB := hQq (bX hb (bN w (.cells #[.string o, .string r, .int .i64 n] 130 (0, 0)))); clear ho hb)
      have k0 := bC QB.out 0; have k1 := bC QB.out 1; have k2 := bC QB.out 2
      go_region_held3 (fun w' => w'.cell? ⟨w.heap.size, 0, none⟩ = some (.string o) /\ w'.cell? ⟨w.heap.size, 1, none⟩ = some (.string r) /\ w'.cell? ⟨w.heap.size, 2, none⟩ = some (.int .i64 n)) (first | go_keep | exact ⟨by assumption, by assumption, by assumption⟩)
        (first
          | (go_at_call 170; (with_reducible show Calls _ _ #[.slice a1 (atsL 1 l).length c1, _, _] _ _); refine (refAdd _ (atsL 1 l) opqW o _ (by first | exact HO.out.ext (eD _) | exact HO.out) HLC.out (by decide)).mono ?_; rintro e w2 ⟨⟨v2, rfl, ho2⟩, hb2⟩; have HO2 := hQq ho2; obtain ⟨a2, c2, rfl, -, -⟩ := ho2.1; have HB2 : Hid (Ext w1 w2) := hQq (by first | exact (eD _).trans hb2 | exact hb2); have d0 := bC (bX HB2.out QB.out) 0; have d1 := bC (bX HB2.out QB.out) 1; have d2 := bC (bX HB2.out QB.out) 2; clear ho2 hb2)
          | (go_at_call 170; refine (refAdd _ (setM 1 (atsL 1 l) (opqW, o)) reW r _ (by first | exact HO2.out.ext (eD _) | exact HO2.out) HLA.out (by decide)).mono ?_; rintro e w3 ⟨⟨v3, rfl, ho3⟩, hb3⟩; rw [<- HX2.out] at ho3; have HO3 := hQq ho3; obtain ⟨a3, c3, rfl, -, -⟩ := ho3.1; have HB3 : Hid (Ext w1 w3) := hQq (by first | exact (HB2.out.trans (eD _)).trans hb3 | exact HB2.out.trans hb3); have e0 := bC (bX HB3.out QB.out) 0; have e1 := bC (bX HB3.out QB.out) 1; have e2 := bC (bX HB3.out QB.out) 2; clear ho3 hb3)
          | fail)
      go_wp2_with (first
        | (go_at_call 75; refine (refCheck _ X2 _ HO3.out.1 (by rw [<- HNL.out]; exact HPS.out)).mono ?_; rw [<- HNL.out]; rintro e w6 ⟨rfl, hb6⟩; have HB6 := hQq (HB3.out.trans hb6); have HO6 := hQq (HO3.out.ext hb6); rw [<- HNL.out] at HO6; clear hb6)
        | fail)
      go_ret2
      exact ⟨⟨_, by rw [HR.out.2]; rfl, by rw [HR.out.1]; exact AttT.nil _ _ _ (AttrsAt.nil _ _ _)⟩, HB.out.trans HB6.out⟩
end Go.Proofs.YtnbkcalodmggaaaGreatDoor
namespace Go.Proofs.YtnbkcalodmggaaaGreatDoor
open Go.RowKit

def exO : List BrN :=
  [⟨⟨0, ⟨#[]⟩, 1, [((ofL [116, 114, 117, 115, 116, 101, 100, 46, 111, 118, 101, 114, 108, 97, 121, 46, 120]), ⟨#[]⟩)], ⟨#[]⟩, 0, 0, 0⟩, false, []⟩,
   ⟨⟨1, (ofL [97]), 1, [], ⟨#[]⟩, 0, 0, 0⟩, true, []⟩,
   ⟨⟨2, (ofL [102]), 2, [], (ofL [49]), 0, 0, 1⟩, false, []⟩,
   ⟨⟨1, (ofL [100]), 1, [], ⟨#[]⟩, 0, 0, 0⟩, false, [(ofL [111, 108, 100])]⟩,
   ⟨⟨2, (ofL [103]), 2, [], (ofL [49]), 0, 0, 1⟩, false, []⟩,
   ⟨⟨2, (ofL [119]), 5, [], ⟨#[]⟩, 0, 0, 0⟩, false, []⟩]
def rawO : List TrN :=
  [⟨0, ⟨#[]⟩, 1, [((ofL [116, 114, 117, 115, 116, 101, 100, 46, 111, 118, 101, 114, 108, 97, 121, 46, 111, 118, 101, 114, 108, 97, 121, 46, 120]), ⟨#[]⟩)], ⟨#[]⟩, 0, 0, 0⟩,
   ⟨1, (ofL [97]), 1, [((ofL [116, 114, 117, 115, 116, 101, 100, 46, 111, 118, 101, 114, 108, 97, 121, 46, 111, 112, 97, 113, 117, 101]), (ofL [121]))], ⟨#[]⟩, 0, 0, 0⟩,
   ⟨2, (ofL [102]), 2, [((ofL [116, 114, 117, 115, 116, 101, 100, 46, 111, 118, 101, 114, 108, 97, 121, 46, 110, 108, 105, 110, 107]), (ofL [50]))], (ofL [49]), 0, 0, 1⟩,
   ⟨1, (ofL [100]), 1, [((ofL [116, 114, 117, 115, 116, 101, 100, 46, 111, 118, 101, 114, 108, 97, 121, 46, 114, 101, 100, 105, 114, 101, 99, 116]), (ofL [47, 111, 108, 100]))], ⟨#[]⟩, 0, 0, 0⟩,
   ⟨2, (ofL [103]), 2, [((ofL [116, 114, 117, 115, 116, 101, 100, 46, 111, 118, 101, 114, 108, 97, 121, 46, 110, 108, 105, 110, 107]), (ofL [50]))], (ofL [49]), 0, 0, 1⟩,
   ⟨2, (ofL [119]), 4, [], ⟨#[]⟩, 0, 0, 0⟩]
def rawN : List TrN := (rawO.set 2 ⟨2, (ofL [102]), 2, [((ofL [116, 114, 117, 115, 116, 101, 100, 46, 111, 118, 101, 114, 108, 97, 121, 46, 110, 108, 105, 110, 107]), (ofL [51]))], (ofL [49]), 0, 0, 1⟩).set 4 ⟨2, (ofL [103]), 2, [((ofL [116, 114, 117, 115, 116, 101, 100, 46, 111, 118, 101, 114, 108, 97, 121, 46, 110, 108, 105, 110, 107]), (ofL [51]))], (ofL [49]), 0, 0, 1⟩
def rawP : List TrN := rawO.set 1 ⟨1, (ofL [97]), 1, [((ofL [116, 114, 117, 115, 116, 101, 100, 46, 111, 118, 101, 114, 108, 97, 121, 46, 111, 112, 97, 113, 117, 101]), (ofL [110]))], ⟨#[]⟩, 0, 0, 0⟩
def exD : List BrN := exO.set 5 ⟨⟨2, (ofL [119]), 4, [], ⟨#[]⟩, 0, 0, 0⟩, false, []⟩
set_option maxRecDepth 100000 in
theorem exO_enc : oeT exO = (rawO, 0, 0) := by kernel_rfl
set_option maxRecDepth 100000 in
theorem rawO_dec : odT rawO = (exO, 0, 0) := by kernel_rfl
set_option maxRecDepth 100000 in
theorem rawN_dec : odT rawN = ([], 2, 18) := by kernel_rfl
set_option maxRecDepth 100000 in
theorem rawP_dec : odT rawP = ([], 1, 6) := by kernel_rfl
set_option maxRecDepth 100000 in
theorem exD_enc : oeT exD = ([], 5, 16) := by kernel_rfl
theorem exO_small : SmallB exO := by
  refine ⟨?_, ?_, ?_, by decide⟩
  · unfold SmallT; decide
  · decide
  · decide
theorem exD_small : SmallB exD := by
  refine ⟨?_, ?_, ?_, by decide⟩
  · unfold SmallT; decide
  · decide
  · decide
theorem rawO_small : SmallT rawO := by unfold SmallT; decide
theorem rawN_small : SmallT rawN := by unfold SmallT; decide
theorem rawP_small : SmallT rawP := by unfold SmallT; decide
theorem one_in (W w' : World) (n v : ByteArray) (k : Nat) (hk : k = W.heap.size) (he : Ext (W.alloc (.cells #[.string n, .string v] 45)) w') (B : Nat) : AttIn B w' (.slice (some ⟨k, 0, none⟩) 1 1) [(n, v)] :=
  (listIn_new okA W (n, v) [.string n, .string v] k hk rfl).ext okA he
def NewL {α : Type} (C : Cd α) (w : World) (n : Nat) (l : List α) (e : Ending) (w' : World) : Prop := (∃ g c, e = .returned (.slice (some ⟨g, 0, none⟩) n c) /\ OwnL C w.heap.size w' (.slice (some ⟨g, 0, none⟩) n c) l /\ w.heap.size <= g /\ g < w'.heap.size) /\ Ext w w'

theorem put_ats {B : Nat} {w : World} {g c k : Nat} {l : List TrN} {x : TrN} {u : Value} {a : List Attr} (h : OwnL cdT B w (.slice (some ⟨g, 0, none⟩) l.length c) l) (hk : k < l.length) (hx : l[k]'hk = x) (ha : AttIn B w u a) :
    OwnL cdT B (w.setCell ⟨g, k * 8 + 3, none⟩ u) (.slice (some ⟨g, 0, none⟩) l.length c) (l.set k { x with ats := a }) :=
  (h.store okT k hk 3 (by decide) u { x with ats := a } (fun cs hr => by
    obtain ⟨va, _, rfl⟩ := hr
    rw [hx]; exact ⟨u, ha, rfl⟩)).1
theorem put_kd {B : Nat} {w : World} {g c k : Nat} {l : List BrN} {x : BrN} {n : Int} (h : OwnL cdB B w (.slice (some ⟨g, 0, none⟩) l.length c) l) (hk : k < l.length) (hx : l[k]'hk = x) :
    OwnL cdB B (w.setCell ⟨g, k * 10 + 2, none⟩ (.int .i64 n)) (.slice (some ⟨g, 0, none⟩) l.length c) (l.set k { x with kd := n }) :=
  (h.store okB k hk 2 (by decide) _ { x with kd := n } (fun cs hr => by
    subst hx
    obtain ⟨va, vr, h1, h2, rfl⟩ := hr
    exact ⟨va, vr, h1, h2, rfl⟩)).1
theorem at_ats {B : Nat} {w : World} {g n c : Nat} {l : List TrN} (h : OwnL cdT B w (.slice (some ⟨g, 0, none⟩) n c) l) (k : Nat) (hk : k < l.length) : ∃ u, w.cell? ⟨g, k * 8 + 3, none⟩ = some u /\ AttIn B w u (l[k]'hk).ats := by
  obtain ⟨b, off, va, e, _, h1, _, _, _, h3, _⟩ := (h.in okT).tr k hk
  cases e
  rw [Nat.zero_add] at h3
  exact ⟨va, h3, h1⟩
theorem at_kd {B : Nat} {w : World} {g n c : Nat} {l : List BrN} (h : OwnL cdB B w (.slice (some ⟨g, 0, none⟩) n c) l) (k : Nat) (hk : k < l.length) : w.cell? ⟨g, k * 10 + 2, none⟩ = some (.int .i64 (l[k]'hk).kd) := by
  obtain ⟨b, off, va, vr, e, _, _, _, _, _, h3, _⟩ := (h.in okB).br k hk
  cases e
  rw [Nat.zero_add] at h3
  exact h3
end Go.Proofs.YtnbkcalodmggaaaGreatDoor
namespace Go.Proofs.YtnbkcalodmggaaaGreatDoor
open Go.RowKit

theorem law21one (n v : ByteArray) (w : World) : Calls Tryz.prog 108 #[.string n, .string v] w fun e w' => e = .returned (.slice (some ⟨w.heap.size, 0, none⟩) 1 1) /\ w' = w.alloc (.cells #[.string n, .string v] 45) := by
  go_enter Tryz.func108, Tryz.ntmps108
  go_wp2
  go_ret
  exact ⟨rfl, rfl⟩
set_option maxRecDepth 100000 in
set_option maxHeartbeats 4000000 in
theorem law21Example (w : World) : Calls Tryz.prog 105 #[] w (NewL cdB w 6 exO) := by
  go_enter Tryz.func105, Tryz.ntmps105
  go_wp2
  go_ret
  have hn : ∀ W : World, AttIn w.heap.size W (.slice none 0 0) [] := fun W => attIn_nil _ _ _
  have hz : ∀ W : World, StrIn w.heap.size W (.slice none 0 0) [] := fun W => ListIn.nil _ _ _ _
  have hs : ((w.alloc (.cells #[.string ⟨#[116, 114, 117, 115, 116, 101, 100, 46, 111, 118, 101, 114, 108, 97, 121, 46, 120]⟩, .string ⟨#[]⟩] 45)).alloc (.cells #[.string ⟨#[111, 108, 100]⟩] 9)).heap.size = w.heap.size + 1 + 1 := by simp
  refine ⟨⟨_, _, rfl, ⟨[brC (getB exO 0) (.slice (some ⟨w.heap.size, 0, none⟩) 1 1) (.slice none 0 0), brC (getB exO 1) (.slice none 0 0) (.slice none 0 0), brC (getB exO 2) (.slice none 0 0) (.slice none 0 0), brC (getB exO 3) (.slice none 0 0) (.slice (some ⟨w.heap.size + 1, 0, none⟩) 1 1), brC (getB exO 4) (.slice none 0 0) (.slice none 0 0), brC (getB exO 5) (.slice none 0 0) (.slice none 0 0)], rfl, fun k h h' => ?_, ?_⟩, by omega, by simp⟩, ((eA _ _).trans (eA _ _)).trans (eA _ _)⟩
  · match k, h with
    | 0, _ => exact ⟨_, _, one_in w _ _ _ _ rfl ((eA _ _).trans (eA _ _)) _, hz _, rfl⟩
    | 1, _ => exact ⟨_, _, hn _, hz _, rfl⟩
    | 2, _ => exact ⟨_, _, hn _, hz _, rfl⟩
    | 3, _ => exact ⟨_, _, hn _, (listIn_new okS (w.alloc (.cells #[.string ⟨#[116, 114, 117, 115, 116, 101, 100, 46, 111, 118, 101, 114, 108, 97, 121, 46, 120]⟩, .string ⟨#[]⟩] 45)) (ofL [111, 108, 100]) [.string ⟨#[111, 108, 100]⟩] _ (by simp) rfl).ext okS (eA _ _), rfl⟩
    | 4, _ => exact ⟨_, _, hn _, hz _, rfl⟩
    | 5, _ => exact ⟨_, _, hn _, hz _, rfl⟩
  · have h := World.ownsRow_lit (base := w.heap.size) (e := 41) (size := 10) ((w.alloc (.cells #[.string ⟨#[116, 114, 117, 115, 116, 101, 100, 46, 111, 118, 101, 114, 108, 97, 121, 46, 120]⟩, .string ⟨#[]⟩] 45)).alloc (.cells #[.string ⟨#[111, 108, 100]⟩] 9)) ([brC (getB exO 0) (.slice (some ⟨w.heap.size, 0, none⟩) 1 1) (.slice none 0 0), brC (getB exO 1) (.slice none 0 0) (.slice none 0 0), brC (getB exO 2) (.slice none 0 0) (.slice none 0 0), brC (getB exO 3) (.slice none 0 0) (.slice (some ⟨w.heap.size + 1, 0, none⟩) 1 1), brC (getB exO 4) (.slice none 0 0) (.slice none 0 0), brC (getB exO 5) (.slice none 0 0) (.slice none 0 0)].flatten.toArray) 6 (by rw [hs]; omega) (by unfold maxLen; omega) rfl
    rw [hs] at h
    exact h
set_option maxRecDepth 100000 in
set_option maxHeartbeats 4000000 in
theorem law21Raw (w : World) : Calls Tryz.prog 107 #[] w (NewL cdT w 6 rawO) := by
  go_enter Tryz.func107, Tryz.ntmps107
  go_wp2_with (go_at_call 108; refine (law21one _ _ _).mono ?_; rintro e w' ⟨rfl, rfl⟩)
  go_ret
  have hs : (((((w.alloc (.cells #[.string ⟨#[116, 114, 117, 115, 116, 101, 100, 46, 111, 118, 101, 114, 108, 97, 121, 46, 111, 118, 101, 114, 108, 97, 121, 46, 120]⟩, .string ⟨#[]⟩] 45)).alloc (.cells #[.string ⟨#[116, 114, 117, 115, 116, 101, 100, 46, 111, 118, 101, 114, 108, 97, 121, 46, 111, 112, 97, 113, 117, 101]⟩, .string ⟨#[121]⟩] 45)).alloc (.cells #[.string ⟨#[116, 114, 117, 115, 116, 101, 100, 46, 111, 118, 101, 114, 108, 97, 121, 46, 110, 108, 105, 110, 107]⟩, .string ⟨#[50]⟩] 45)).alloc (.cells #[.string ⟨#[116, 114, 117, 115, 116, 101, 100, 46, 111, 118, 101, 114, 108, 97, 121, 46, 114, 101, 100, 105, 114, 101, 99, 116]⟩, .string ⟨#[47, 111, 108, 100]⟩] 45)).alloc (.cells #[.string ⟨#[116, 114, 117, 115, 116, 101, 100, 46, 111, 118, 101, 114, 108, 97, 121, 46, 110, 108, 105, 110, 107]⟩, .string ⟨#[50]⟩] 45)).heap.size = w.heap.size + 1 + 1 + 1 + 1 + 1 := by simp
  refine ⟨⟨_, _, rfl, ⟨[trC (getT rawO 0) (.slice (some ⟨w.heap.size, 0, none⟩) 1 1), trC (getT rawO 1) (.slice (some ⟨w.heap.size + 1, 0, none⟩) 1 1), trC (getT rawO 2) (.slice (some ⟨w.heap.size + 1 + 1, 0, none⟩) 1 1), trC (getT rawO 3) (.slice (some ⟨w.heap.size + 1 + 1 + 1, 0, none⟩) 1 1), trC (getT rawO 4) (.slice (some ⟨w.heap.size + 1 + 1 + 1 + 1, 0, none⟩) 1 1), trC (getT rawO 5) (.slice none 0 0)], rfl, fun k h h' => ?_, ?_⟩, by omega, by simp⟩, ((((((eA _ _).trans (eA _ _)).trans (eA _ _)).trans (eA _ _)).trans (eA _ _)).trans (eA _ _))⟩
  · match k, h with
    | 0, _ => exact ⟨_, one_in w _ _ _ _ (by simp) (((((eA _ _).trans (eA _ _)).trans (eA _ _)).trans (eA _ _)).trans (eA _ _)) _, rfl⟩
    | 1, _ => exact ⟨_, one_in (w.alloc (.cells #[.string ⟨#[116, 114, 117, 115, 116, 101, 100, 46, 111, 118, 101, 114, 108, 97, 121, 46, 111, 118, 101, 114, 108, 97, 121, 46, 120]⟩, .string ⟨#[]⟩] 45)) _ _ _ _ (by simp) ((((eA _ _).trans (eA _ _)).trans (eA _ _)).trans (eA _ _)) _, rfl⟩
    | 2, _ => exact ⟨_, one_in ((w.alloc (.cells #[.string ⟨#[116, 114, 117, 115, 116, 101, 100, 46, 111, 118, 101, 114, 108, 97, 121, 46, 111, 118, 101, 114, 108, 97, 121, 46, 120]⟩, .string ⟨#[]⟩] 45)).alloc (.cells #[.string ⟨#[116, 114, 117, 115, 116, 101, 100, 46, 111, 118, 101, 114, 108, 97, 121, 46, 111, 112, 97, 113, 117, 101]⟩, .string ⟨#[121]⟩] 45)) _ _ _ _ (by simp) (((eA _ _).trans (eA _ _)).trans (eA _ _)) _, rfl⟩
    | 3, _ => exact ⟨_, one_in (((w.alloc (.cells #[.string ⟨#[116, 114, 117, 115, 116, 101, 100, 46, 111, 118, 101, 114, 108, 97, 121, 46, 111, 118, 101, 114, 108, 97, 121, 46, 120]⟩, .string ⟨#[]⟩] 45)).alloc (.cells #[.string ⟨#[116, 114, 117, 115, 116, 101, 100, 46, 111, 118, 101, 114, 108, 97, 121, 46, 111, 112, 97, 113, 117, 101]⟩, .string ⟨#[121]⟩] 45)).alloc (.cells #[.string ⟨#[116, 114, 117, 115, 116, 101, 100, 46, 111, 118, 101, 114, 108, 97, 121, 46, 110, 108, 105, 110, 107]⟩, .string ⟨#[50]⟩] 45)) _ _ _ _ (by simp) ((eA _ _).trans (eA _ _)) _, rfl⟩
    | 4, _ => exact ⟨_, one_in ((((w.alloc (.cells #[.string ⟨#[116, 114, 117, 115, 116, 101, 100, 46, 111, 118, 101, 114, 108, 97, 121, 46, 111, 118, 101, 114, 108, 97, 121, 46, 120]⟩, .string ⟨#[]⟩] 45)).alloc (.cells #[.string ⟨#[116, 114, 117, 115, 116, 101, 100, 46, 111, 118, 101, 114, 108, 97, 121, 46, 111, 112, 97, 113, 117, 101]⟩, .string ⟨#[121]⟩] 45)).alloc (.cells #[.string ⟨#[116, 114, 117, 115, 116, 101, 100, 46, 111, 118, 101, 114, 108, 97, 121, 46, 110, 108, 105, 110, 107]⟩, .string ⟨#[50]⟩] 45)).alloc (.cells #[.string ⟨#[116, 114, 117, 115, 116, 101, 100, 46, 111, 118, 101, 114, 108, 97, 121, 46, 114, 101, 100, 105, 114, 101, 99, 116]⟩, .string ⟨#[47, 111, 108, 100]⟩] 45)) _ _ _ _ (by simp) (eA _ _) _, rfl⟩
    | 5, _ => exact ⟨_, attIn_nil _ _ _, rfl⟩
  · have h := World.ownsRow_lit (base := w.heap.size) (e := 43) (size := 8) (((((w.alloc (.cells #[.string ⟨#[116, 114, 117, 115, 116, 101, 100, 46, 111, 118, 101, 114, 108, 97, 121, 46, 111, 118, 101, 114, 108, 97, 121, 46, 120]⟩, .string ⟨#[]⟩] 45)).alloc (.cells #[.string ⟨#[116, 114, 117, 115, 116, 101, 100, 46, 111, 118, 101, 114, 108, 97, 121, 46, 111, 112, 97, 113, 117, 101]⟩, .string ⟨#[121]⟩] 45)).alloc (.cells #[.string ⟨#[116, 114, 117, 115, 116, 101, 100, 46, 111, 118, 101, 114, 108, 97, 121, 46, 110, 108, 105, 110, 107]⟩, .string ⟨#[50]⟩] 45)).alloc (.cells #[.string ⟨#[116, 114, 117, 115, 116, 101, 100, 46, 111, 118, 101, 114, 108, 97, 121, 46, 114, 101, 100, 105, 114, 101, 99, 116]⟩, .string ⟨#[47, 111, 108, 100]⟩] 45)).alloc (.cells #[.string ⟨#[116, 114, 117, 115, 116, 101, 100, 46, 111, 118, 101, 114, 108, 97, 121, 46, 110, 108, 105, 110, 107]⟩, .string ⟨#[50]⟩] 45)) ([trC (getT rawO 0) (.slice (some ⟨w.heap.size, 0, none⟩) 1 1), trC (getT rawO 1) (.slice (some ⟨w.heap.size + 1, 0, none⟩) 1 1), trC (getT rawO 2) (.slice (some ⟨w.heap.size + 1 + 1, 0, none⟩) 1 1), trC (getT rawO 3) (.slice (some ⟨w.heap.size + 1 + 1 + 1, 0, none⟩) 1 1), trC (getT rawO 4) (.slice (some ⟨w.heap.size + 1 + 1 + 1 + 1, 0, none⟩) 1 1), trC (getT rawO 5) (.slice none 0 0)].flatten.toArray) 6 (by rw [hs]; omega) (by unfold maxLen; omega) rfl
    rw [hs] at h
    exact h
set_option maxRecDepth 100000 in
set_option maxHeartbeats 8000000 in
theorem law21awake (w : World) (hL : LaidO w) : RetB Tryz.prog 39 #[] w (.bool true) := by
  unfold RetB
  have HL := hQq hL; clear hL
  have HEN := hQq (oe_of exO_enc); have HDE := hQq (od_of rawO_dec); have HDN := hQq (od_of rawN_dec); have HDP := hQq (od_of rawP_dec); have HED := hQq (oe_of exD_enc)
  go_enter Tryz.func39, Tryz.ntmps39
  go_wp2_with fail
  refine (law21Example w).mono ?_
  rintro e w1 ⟨⟨g1, c1, rfl, ho1, hg1, hh1⟩, hb1⟩
  have HO1 := hQq ho1; have B1 := hQq hb1
  clear ho1 hg1 hh1 hb1
  go_wp2_with fail
  refine (ovEncode w.heap.size _ _ exO (HL.out.ext B1.out) (HO1.out.in okB) exO_small).mono ?_
  rintro e w2 ⟨⟨Bq, a2, n2, c2, hBq, rfl, ho2⟩, hb2⟩
  rw [HEN.out.2.1, HEN.out.2.2]
  rw [HEN.out.1] at ho2
  obtain ⟨g2, rfl, hg2, hh2, hn2⟩ := ho2.addr (by decide)
  obtain rfl : n2 = 6 := hn2
  have HO2 := hQq ho2; have B2 := hQq (Ext.trans B1.out hb2)
  clear ho2 hb2 hg2 hh2
  go_wp2_with fail
  refine (law21Raw w2).mono ?_
  rintro e w3 ⟨⟨g3, c3, rfl, ho3, hg3, hh3⟩, hb3⟩
  have HO3 := hQq ho3; have B3 := hQq (Ext.trans B2.out hb3); have HO23 := hQq (HO2.out.ext okT hb3)
  clear ho3 hb3 hg3 hh3
  go_wp2_with fail
  refine (ovDecode w2.heap.size _ _ rawO (HL.out.ext B3.out) (HO3.out.in okT) rawO_small).mono ?_
  rintro e w4 ⟨⟨Br, a4, n4, c4, hBr, rfl, ho4⟩, hb4⟩
  rw [HDE.out.2.1, HDE.out.2.2]
  rw [HDE.out.1] at ho4
  obtain ⟨g4, rfl, hg4, hh4, hn4⟩ := ho4.addr (by decide)
  obtain rfl : n4 = 6 := hn4
  have HO4 := hQq ho4; have B4 := hQq (Ext.trans B3.out hb4); have HO24 := hQq (HO23.out.ext okT hb4); have HBr := hQq (Nat.le_of_lt (Nat.lt_of_le_of_lt hg4 hh4))
  clear ho4 hb4 hg4 hh4
  go_wp2_with fail
  refine (law21Raw w4).mono ?_
  rintro e w5 ⟨⟨g5, c5, rfl, ho5, hg5, hh5⟩, hb5⟩
  have HO5 := hQq ho5; have B5 := hQq (Ext.trans B4.out hb5); have HO25 := hQq (HO24.out.ext okT hb5); have HO45 := hQq (HO4.out.ext okB hb5); have HS45 := hQq hb5.size
  clear ho5 hb5 hg5 hh5
  go_wp2_with fail
  refine (refSameList _ _ _ _ rawO rawO _ (HO25.out.in okT) (HO5.out.in okT) (by decide) (by decide)).mono ?_
  rintro e w6 ⟨rfl, hb6⟩
  rw [sameTB_yes (a := rawO) rfl]
  have B6 := hQq (Ext.trans B5.out hb6); have HO46 := hQq (HO45.out.ext okB hb6); have HS46 := hQq (Nat.le_trans HS45.out hb6.size)
  clear hb6
  go_wp2_with fail
  refine (law21Example w6).mono ?_
  rintro e w7 ⟨⟨g7, c7, rfl, ho7, hg7, hh7⟩, hb7⟩
  have HO7 := hQq ho7; have B7 := hQq (Ext.trans B6.out hb7); have HO47 := hQq (HO46.out.ext okB hb7); have HS47 := hQq (Nat.le_trans HS46.out hb7.size); have HS67 := hQq hb7.size
  clear ho7 hb7 hg7 hh7
  go_wp2_with fail
  refine (refBrSame Br w6.heap.size _ _ exO _ (HO47.out.in okB) (HO7.out.in okB) (Nat.le_trans HBr.out HS47.out) HS67.out (by decide) (by decide) (by decide)).mono ?_
  rintro e w8 ⟨rfl, hb8⟩
  have B8 := hQq (Ext.trans B7.out hb8)
  clear hb8
  go_wp2_with fail
  refine (law21Raw w8).mono ?_
  rintro e w9 ⟨⟨g9, c9, rfl, ho9, hg9, hh9⟩, hb9⟩
  have B9 := hQq (Ext.trans B8.out hb9)
  have HX : Hid (OwnL cdT w8.heap.size (w9.alloc (.cells #[.string ⟨#[116, 114, 117, 115, 116, 101, 100, 46, 111, 118, 101, 114, 108, 97, 121, 46, 110, 108, 105, 110, 107]⟩, .string ⟨#[51]⟩] 45)) (.slice (some ⟨g9, 0, none⟩) 6 c9) rawO) := hQq (ho9.ext okT (eA _ _))
  have HQ := hQq (fun B => one_in w9 _ _ _ _ rfl (Below.refl _ (w9.alloc (.cells #[.string ⟨#[116, 114, 117, 115, 116, 101, 100, 46, 111, 118, 101, 114, 108, 97, 121, 46, 110, 108, 105, 110, 107]⟩, .string ⟨#[51]⟩] 45))) B)
  obtain ⟨u1, hu1, -⟩ := at_ats HX.out 2 (by decide)
  have f1 := HX.out.frozen (2 * 8 + 3)
  have HG9 := hQq hg9; have HH9 := hQq (Nat.lt_of_lt_of_le hh9 (eA w9 (.cells #[.string ⟨#[116, 114, 117, 115, 116, 101, 100, 46, 111, 118, 101, 114, 108, 97, 121, 46, 110, 108, 105, 110, 107]⟩, .string ⟨#[51]⟩] 45)).size); have HS89 := hQq hb9.size; have HH8 := hQq hh9; have E9 := hQq hb9
  clear ho9 hb9 hg9 hh9
  go_upto_region 7 with (go_at_call 108; refine (law21one _ _ _).mono ?_; rintro e w' ⟨rfl, rfl⟩)
  refine nW (P := fun W => Code.wp _ _ _ _ W) _ ?_
  intro W hW
  have HS1 : Hid (OwnL cdT w8.heap.size W (.slice (some ⟨g9, 0, none⟩) 6 c9) (rawO.set 2 ⟨2, (ofL [102]), 2, [((ofL [116, 114, 117, 115, 116, 101, 100, 46, 111, 118, 101, 114, 108, 97, 121, 46, 110, 108, 105, 110, 107]), (ofL [51]))], (ofL [49]), 0, 0, 1⟩)) := hQq (by
    rw [hW]
    first
    | exact put_ats HX.out (k := 2) (by decide) rfl (HQ.out _)
    | (have h := put_ats HX.out (k := 2) (by decide) rfl (HQ.out _)
       rw [World.setCell_alloc_past _ _ _ _ HH8.out] at h
       exact h))
  have E10 : Hid (Ext w8 W) := hQq (by
    rw [hW]
    first
    | exact Below.setCell (p := ⟨g9, 2 * 8 + 3, none⟩) (E9.out.trans (eA _ _)) HG9.out _
    | exact Below.alloc (Below.setCell (p := ⟨g9, 2 * 8 + 3, none⟩) E9.out HG9.out _) (by simp; exact E9.out.size) _)
  clear hu1 f1 u1 hW
  obtain ⟨u2, hu2, hv2⟩ := at_ats HS1.out 2 (by decide)
  obtain ⟨u4, hu4, -⟩ := at_ats HS1.out 4 (by decide)
  obtain ⟨a2', c2', rfl⟩ := hv2.form
  have HV2 := hQq hv2
  have f4 := HS1.out.frozen (4 * 8 + 3)
  clear hv2
  go_upto_region 8 with fail
  refine nW (P := fun W => Code.wp _ _ _ _ W) _ ?_
  intro W4 hW4
  have HS2 : Hid (OwnL cdT w8.heap.size W4 (.slice (some ⟨g9, 0, none⟩) 6 c9) rawN) := hQq (by rw [hW4]; exact put_ats HS1.out (k := 4) (by decide) rfl HV2.out)
  have E11 : Hid (Ext w8 W4) := hQq (by rw [hW4]; exact Below.setCell (p := ⟨g9, 4 * 8 + 3, none⟩) E10.out HG9.out _)
  clear hW4 hu2 hu4 f4
  go_wp2_with fail
  refine (ovGood w8.heap.size _ _ rawN (HL.out.ext (B8.out.trans E11.out)) (HS2.out.in okT) rawN_small).mono ?_
  rintro e w10 ⟨rfl, hb10⟩
  rw [HDN.out.2.1, HDN.out.2.2]
  have B10 := hQq (Ext.trans (B8.out.trans E11.out) hb10)
  clear hb10
  go_wp2_with fail
  refine (law21Raw w10).mono ?_
  rintro e w11 ⟨⟨g11, c11, rfl, ho11, hg11, hh11⟩, hb11⟩
  have E12 := hQq hb11; have HH11 := hQq hh11; have HG11 := hQq hg11
  have HX2 : Hid (OwnL cdT w10.heap.size (w11.alloc (.cells #[.string ⟨#[116, 114, 117, 115, 116, 101, 100, 46, 111, 118, 101, 114, 108, 97, 121, 46, 111, 112, 97, 113, 117, 101]⟩, .string ⟨#[110]⟩] 45)) (.slice (some ⟨g11, 0, none⟩) 6 c11) rawO) := hQq (ho11.ext okT (eA _ _))
  have HQ2 := hQq (fun B => one_in w11 _ _ _ _ rfl (Below.refl _ (w11.alloc (.cells #[.string ⟨#[116, 114, 117, 115, 116, 101, 100, 46, 111, 118, 101, 114, 108, 97, 121, 46, 111, 112, 97, 113, 117, 101]⟩, .string ⟨#[110]⟩] 45))) B)
  obtain ⟨u1, hu1, -⟩ := at_ats HX2.out 1 (by decide)
  have f1 := HX2.out.frozen (1 * 8 + 3)
  clear ho11 hb11 hg11 hh11
  go_upto_region 11 with (go_at_call 108; refine (law21one _ _ _).mono ?_; rintro e w' ⟨rfl, rfl⟩)
  refine nW (P := fun W => Code.wp _ _ _ _ W) _ ?_
  intro W6 hW6
  have HS3 : Hid (OwnL cdT w10.heap.size W6 (.slice (some ⟨g11, 0, none⟩) 6 c11) rawP) := hQq (by
    rw [hW6]
    first
    | exact put_ats HX2.out (k := 1) (by decide) rfl (HQ2.out _)
    | (have h := put_ats HX2.out (k := 1) (by decide) rfl (HQ2.out _)
       rw [World.setCell_alloc_past _ _ _ _ HH11.out] at h
       exact h))
  have E13 : Hid (Ext w10 W6) := hQq (by
    rw [hW6]
    first
    | exact Below.setCell (p := ⟨g11, 1 * 8 + 3, none⟩) (E12.out.trans (eA _ _)) HG11.out _
    | exact Below.alloc (Below.setCell (p := ⟨g11, 1 * 8 + 3, none⟩) E12.out HG11.out _) (by simp; exact E12.out.size) _)
  clear hu1 f1 hW6
  go_wp2_with fail
  refine (ovGood w10.heap.size _ _ rawP (HL.out.ext (B10.out.trans E13.out)) (HS3.out.in okT) rawP_small).mono ?_
  rintro e w12 ⟨rfl, hb12⟩
  rw [HDP.out.2.1, HDP.out.2.2]
  have B12 := hQq (Ext.trans (B10.out.trans E13.out) hb12)
  clear hb12
  go_wp2_with fail
  refine (law21Example w12).mono ?_
  rintro e w13 ⟨⟨g13, c13, rfl, ho13, hg13, hh13⟩, hb13⟩
  have HO13 := hQq ho13; have E14 := hQq hb13; have HG13 := hQq hg13
  have k5 := at_kd HO13.out 5 (by decide)
  have f5 := HO13.out.frozen (5 * 10 + 2)
  clear ho13 hb13 hg13 hh13
  go_upto_region 14 with fail
  refine nW (P := fun W => Code.wp _ _ _ _ W) _ ?_
  intro W8 hW8
  have HS4 : Hid (OwnL cdB w12.heap.size W8 (.slice (some ⟨g13, 0, none⟩) 6 c13) exD) := hQq (by rw [hW8]; exact put_kd HO13.out (k := 5) (by decide) rfl)
  have E15 : Hid (Ext w12 W8) := hQq (by rw [hW8]; exact Below.setCell (p := ⟨g13, 5 * 10 + 2, none⟩) E14.out HG13.out _)
  clear hW8 k5 f5
  go_wp2_with fail
  refine (ovCan w12.heap.size _ _ exD (HL.out.ext (B12.out.trans E15.out)) (HS4.out.in okB) exD_small).mono ?_
  rintro e w14 ⟨rfl, hb14⟩
  rw [HED.out.2.1, HED.out.2.2]
  have B14 := hQq (Ext.trans (B12.out.trans E15.out) hb14)
  clear hb14
  go_wp2
  go_ret
  exact ⟨rfl, B14.out⟩
end Go.Proofs.YtnbkcalodmggaaaGreatDoor
