/- OvW OvX OvXF -/
import Derived.Test.YtnbkcalodmggaaaGreatDoorQI5
import Derived.Test.YtnbkcalodmggaaaGreatDoorQSetW
import Derived.Test.YtnbkcalodmggaaaGreatDoorQOvR
import Derived.Test.YtnbkcalodmggaaaGreatDoorQFarO
namespace Go.Proofs.YtnbkcalodmggaaaGreatDoor
open Go.RowKit

set_option maxRecDepth 100000 in
set_option maxHeartbeats 4000000 in
theorem ovWrite (v : Value) (l : List Attr) (o r n : ByteArray) (w : World) (hL : LaidO w) (hv : AttrsAt w v l) (hm : Small l) (ho : o.size <= 200) (hr : r.size <= 200) (hn : n.size <= 200) :
    Calls Tryz.prog 124 #[v, mksV o r n] w fun e w' => (∃ v', e = .returned (.tuple #[v', .int .i64 (mwE 1 l (mk3 o r n))]) /\ AttT w' v' (mwL 1 l (mk3 o r n))) /\ Ext w w' := by
  have HL := hQq hL; have HV := hQq hv; have HM := hQq hm
  have HMS := hQq (mk3_size ho hr hn)
  clear hL hv hm ho hr hn
  unfold mksV
  by_cases h1 : atsE 1 l = 0
  case neg =>
    obtain ⟨e1, e2⟩ := mw_of (mw_ats (ms := mk3 o r n) h1)
    rw [e1, e2]
    have q1 : (atsE 1 l != 0) = true := bne_iff_ne.2 h1
    clear h1 e1 e2
    go_enter Tryz.func124, Tryz.ntmps124
    go_wp2_with (go_at_call 131; refine (escAttrsT 1 _ l _ (HL.out.ext (eA _ _)).laid (HV.out.ext (eA _ _)) HM.out).mono ?_; rintro e w1 ⟨⟨v1, rfl, ho⟩, hb⟩; have HB := hQq ((eA _ _).trans hb); clear ho hb)
    go_ret2
    exact ⟨⟨_, rfl, AttT.nil _ _ _ (AttrsAt.nil _ _ _)⟩, HB.out⟩
  have H1 := hQq h1
  have HEND := hQq (fun (h : chkE (setsM 1 (atsL 1 l) (mk3 o r n)) = 0) => mw_of (mw_ok h1 h))
  have HBAD := hQq (fun (h : chkE (setsM 1 (atsL 1 l) (mk3 o r n)) ≠ 0) => mw_of (mw_bad h1 h))
  have HSTEP := hQq (fun (k : Nat) (hk : k < (mk3 o r n).length) hc => mw_step h1 (mk3_ok o r n) HMS.out hk hc)
  have HC0 := hQq (ats_sorted h1).2
  clear h1
  go_enter Tryz.func124, Tryz.ntmps124
  go_wp2_with (go_at_call 131; refine (escAttrsT 1 _ l _ (HL.out.ext (eA _ _)).laid (HV.out.ext (eA _ _)) HM.out).mono ?_; rintro e w1 ⟨⟨v1, rfl, ho⟩, hb⟩; rw [H1.out]; have HO := hQq ho; have HB := hQq ((eA _ _).trans hb); have QB := hQq (bX hb (bN w (.cells #[.string o, .string r, .string n] 135 (0, 0)))); have y0 := bC QB.out 0; have y1 := bC QB.out 1; have y2 := bC QB.out 2; clear ho hb)
  clear y0 y1 y2
  go_loopw [6, 29] (fun out i w' => ∃ (wi : World) (k : Nat), wi = w' /\ k <= 3 /\ i = .int .i64 k /\ AttT wi out (setsM 1 (atsL 1 l) ((mk3 o r n).take k)) /\ chkE (setsM 1 (atsL 1 l) ((mk3 o r n).take k)) = 0 /\ wi.heap[w1.heap.size]? = some (.cells (mksC o r n) 45 (0, 0)) /\ Ext w wi) (fun _ i _ => 3 - (intOf i).toNat)
  case atStart => exact ⟨_, 0, rfl, Nat.zero_le _, rfl, HO.out.ext (eA _ _), HC0.out, bN _ _, HB.out.trans (eA _ _)⟩
  case round =>
    obtain ⟨wi, k, rfl, hk, rfl, ho, hc, hq, hE⟩ := hrel
    have HOI := hQq ho; have HCI := hQq hc; have HQ := hQq hq; have HE := hQq hE
    obtain ⟨a5, c5, rfl, _, _⟩ := ho.1
    clear hc hq hE ho
    by_cases hlt : k < 3
    case neg =>
      obtain rfl : k = 3 := by omega
      have HR := hQq (HEND.out HCI.out)
      go_wp2
      go_ret2
      exact ⟨⟨_, by rw [HR.out.2]; rfl, by rw [HR.out.1]; exact HOI.out⟩, HE.out⟩
    obtain ⟨m1, m2⟩ := mksC_at (o := o) (r := r) (n := n) hlt
    have HS := hQq (HSTEP.out k hlt HCI.out)
    have hmk : MkOk 1 ((mk3 o r n)[k]'hlt).1 := (mk3_ok o r n).2 _ (List.getElem_mem hlt)
    have hms := HMS.out _ (List.getElem_mem (l := mk3 o r n) hlt)
    have hm1 := mk3_word (o := o) (r := r) (n := n) hlt
    generalize (mk3 o r n)[k]'hlt = m at m1 m2 HS hmk hms hm1
    have c0 : wi.cell? ⟨w1.heap.size, k * 2, none⟩ = some (.string m.1) := by rw [bC HQ.out]; exact m1
    have c1 : wi.cell? ⟨w1.heap.size, k * 2 + 1, none⟩ = some (.string m.2) := by rw [bC HQ.out]; exact m2
    have hmz : m.1.size <= 1000000 := hm1
    have j1 : ((k : Nat) : Int) < 3 := by omega
    have j0 : (0 : Int) <= (k : Int) := by omega
    clear m1 m2
    cases hz : m.2.toList.isEmpty
    case true =>
      have HT : Hid (setsM 1 (atsL 1 l) ((mk3 o r n).take (k + 1)) = setsM 1 (atsL 1 l) ((mk3 o r n).take k)) := hQq (HS.out.skip (by
        rw [size_L, <- toList_L]
        exact List.length_eq_zero_iff.2 (List.isEmpty_iff.1 hz)))
      go_wp2
      go_roundw
      case rel => exact ⟨_, k + 1, rfl, by omega, by go_num, by rw [HT.out]; exact HOI.out.ext (eA _ _), by rw [HT.out]; exact HCI.out, bA HQ.out, HE.out.trans (eA _ _)⟩
      case measure => first | (simp [intOf]; done) | (simp [intOf]; omega)
    have HNZ : Hid (m.2.size ≠ 0) := hQq (fun e => by
      rw [size_L, <- toList_L] at e
      rw [List.length_eq_zero_iff.1 e] at hz; cases hz)
    have HMK := hQq hmk
    cases hf : spF (setsM 1 (atsL 1 l) ((mk3 o r n).take k)) (mkX 1 m)
    case false =>
      have HG := hQq (HS.out.good HNZ.out hf)
      clear hf hmk
      go_wp2_with (first
        | (go_at_call 130; refine (escMark 1 m.1 _ (HL.out.ext (HE.out.trans (eA _ _))).laid hmz).mono ?_; rintro e w2 ⟨rfl, hb2⟩; rw [HMK.out.mr]; have HB2 := hQq ((eA _ _).trans hb2); have QX := hQq (bX hb2 (bN wi (.cells #[.string m.1, .string m.2] 45 (0, 0)))); have x0 := bC QX.out 0; have x1 := bC QX.out 1; have f0 : w2.frozen? ⟨wi.heap.size, 0, none⟩ = false := bT QX.out 0; have z0 := blk_lt QX.out; have HE3 : Hid (Ext wi (w2.setCell ⟨wi.heap.size, 0, none⟩ (.string (mrS 1 m.1)))) := hQq (Below.setCell (p := ⟨wi.heap.size, 0, none⟩) HB2.out (Nat.le_refl _) _); clear hb2)
        | (go_at_call 132; refine (attrsSet _ (setsM 1 (atsL 1 l) ((mk3 o r n).take k)) (mkX 1 m) _ (HOI.out.ext HE3.out).1 (chk_sizes HCI.out) HCI.out HS.out.alone HS.out.sizes HS.out.new).mono ?_; rintro e w3 ⟨⟨v3, rfl, ho3⟩, hb3⟩; rw [HG.out.2.1] at ho3; rw [HG.out.2.2]; have HO3 := hQq ho3; have HB3 := hQq (HE3.out.trans hb3); clear ho3 hb3)
        | fail)
      go_roundw
      case rel => exact ⟨_, k + 1, rfl, by omega, by go_num, HO3.out, HG.out.1, bX HB3.out HQ.out, HE.out.trans HB3.out⟩
      case measure => first | (simp [intOf]; done) | (simp [intOf]; omega)
    · have HG := hQq (HS.out.bad HNZ.out hf)
      have HR := hQq (HBAD.out HG.out.1)
      clear hf hmk
      go_wp2_with (first
        | (go_at_call 130; refine (escMark 1 m.1 _ (HL.out.ext (HE.out.trans (eA _ _))).laid hmz).mono ?_; rintro e w2 ⟨rfl, hb2⟩; rw [HMK.out.mr]; have HB2 := hQq ((eA _ _).trans hb2); have QX := hQq (bX hb2 (bN wi (.cells #[.string m.1, .string m.2] 45 (0, 0)))); have x0 := bC QX.out 0; have x1 := bC QX.out 1; have f0 : w2.frozen? ⟨wi.heap.size, 0, none⟩ = false := bT QX.out 0; have z0 := blk_lt QX.out; have HE3 : Hid (Ext wi (w2.setCell ⟨wi.heap.size, 0, none⟩ (.string (mrS 1 m.1)))) := hQq (Below.setCell (p := ⟨wi.heap.size, 0, none⟩) HB2.out (Nat.le_refl _) _); clear hb2)
        | (go_at_call 132; refine (attrsSet _ (setsM 1 (atsL 1 l) ((mk3 o r n).take k)) (mkX 1 m) _ (HOI.out.ext HE3.out).1 (chk_sizes HCI.out) HCI.out HS.out.alone HS.out.sizes HS.out.new).mono ?_; rintro e w3 ⟨⟨v3, rfl, ho3⟩, hb3⟩; rw [HG.out.2]; have HB3 := hQq (HE3.out.trans hb3); clear ho3 hb3)
        | fail)
      go_ret2
      exact ⟨⟨_, by rw [HR.out.2]; rfl, by rw [HR.out.1]; exact AttT.nil _ _ _ (AttrsAt.nil _ _ _)⟩, HE.out.trans HB3.out⟩
end Go.Proofs.YtnbkcalodmggaaaGreatDoor
namespace Go.Proofs.YtnbkcalodmggaaaGreatDoor
open Go.RowKit

set_option maxRecDepth 100000 in
set_option maxHeartbeats 8000000 in
theorem neutE (x : TrN) (va : Value) (rt : Bool) (n : Int) (w : World) (hL : LaidO w) (hv : AttrsAt w va x.ats) (hm : Small x.ats) (hk : kindE x = 0) (hs : zeroB x = true \/ x.kd = 5 \/ ptsE 1 x.ats ≠ 0) :
    Calls Tryz.prog 168 #[trV x va, .bool rt, .int .i64 n] w (NeutP w x rt n) := by
  obtain ⟨a3, cap3, rfl, hcap, hc⟩ := hv
  have HV := hQq (show AttrsAt w (.slice a3 x.ats.length cap3) x.ats from ⟨a3, cap3, rfl, hcap, hc⟩)
  have HL := hQq hL; have HM := hQq hm; have HK := hQq hk
  clear hcap hc hL hm hk
  unfold trV
  cases hz : zeroB x with
  | true =>
    have HZ := hQq hz
    by_cases hb : x.ats ≠ [] \/ x.cl ≠ 0
    · have HE : Hid (ndE x rt n = 6) := hQq (by unfold ndE; rw [if_pos hz, if_pos hb])
      have HBD := hQq hb
      by_cases hl : 0 < x.ats.length
      · have hl' := lenP hl
        clear hb hz
        go_enter Tryz.func168, Tryz.ntmps168
        go_wp2_with fail
        refine (ovZero x _ ⟨_, _, _, rfl⟩ _).mono ?_
        rintro e w1 ⟨rfl, hb1⟩
        rw [HZ.out]
        have QX : Hid (w1.heap[w.heap.size]? = some (.cells #[.int .i64 x.dep, .string x.nm, .int .i64 x.kd, .slice a3 x.ats.length cap3, .string x.dat, .int .i64 x.ma, .int .i64 x.mi, .int .i64 x.cl] 43 (0, 0))) := hQq (bX hb1 (bA (bN w _)))
        have QN : Hid (w1.heap[w.heap.size + 1]? = some (.cells #[.int .i64 x.dep, .string x.nm, .int .i64 x.kd, .slice none 0 0, .string x.dat, .int .i64 x.ma, .int .i64 x.mi, .int .i64 x.cl, .bool false, .slice none 0 0] 41 (0, 0))) := hQq (bX hb1 (blk_at (by simp)))
        have E1 : Hid (Ext w w1) := hQq (((eA _ _).trans (eA _ _)).trans hb1)
        clear hb1
        have c0 := bC QX.out 0; have c1 := bC QX.out 1; have c2 := bC QX.out 2; have c3 := bC QX.out 3; have c4 := bC QX.out 4; have c5 := bC QX.out 5; have c6 := bC QX.out 6; have c7 := bC QX.out 7; have d0 := bC QN.out 0; have d1 := bC QN.out 1; have d2 := bC QN.out 2; have d3 := bC QN.out 3; have d4 := bC QN.out 4; have d5 := bC QN.out 5; have d6 := bC QN.out 6; have d7 := bC QN.out 7; have d8 := bC QN.out 8; have d9 := bC QN.out 9; have fz := fun j => bT QN.out j; have z1 := blk_lt QX.out; have z2 := blk_lt QN.out
        go_wp2_with fail
        refine nW (P := fun W => bodyPost _ _ _ _ _ W) _ ?_
        intro W2 hW2
        have hW3 : W2 = setL (w1.setCell ⟨w.heap.size + 1, 2, none⟩ (.int .i64 5)) (w.heap.size + 1) 0 [.int .i64 x.dep, .string x.nm, .int .i64 5, .slice none 0 0, .string x.dat, .int .i64 x.ma, .int .i64 x.mi, .int .i64 x.cl, .bool false, .slice none 0 0] := hW2
        obtain ⟨hq, hx⟩ := put10 (w := w) (show (w1.setCell ⟨w.heap.size + 1, 2, none⟩ (.int .i64 5)).heap[w.heap.size + 1]? = some (.cells #[.int .i64 x.dep, .string x.nm, .int .i64 5, .slice none 0 0, .string x.dat, .int .i64 x.ma, .int .i64 x.mi, .int .i64 x.cl, .bool false, .slice none 0 0] 41 (0, 0)) from bS QN.out _) (by omega) (Below.setCell (p := ⟨w.heap.size + 1, 2, none⟩) E1.out (by show w.heap.size <= w.heap.size + 1; omega) _) hW3
        refine bodyPost_ret (v := .tuple #[.agg #[.int .i64 x.dep, .string x.nm, .int .i64 5, .slice none 0 0, .string x.dat, .int .i64 x.ma, .int .i64 x.mi, .int .i64 x.cl, .bool false, .slice none 0 0], .int .i64 6]) (by simp [results, Tryz.f168, go_sem, bC hq 0, bC hq 1, bC hq 2, bC hq 3, bC hq 4, bC hq 5, bC hq 6, bC hq 7, bC hq 8, bC hq 9]) rfl ?_
        exact ⟨⟨⟨{ x with ats := [], kd := 5 }, false, []⟩, .slice none 0 0, .slice none 0 0, by rw [HE.out], ⟨_, _, _, rfl⟩, ⟨_, _, _, rfl⟩, fun h => by rw [HE.out] at h; cases h⟩, hx⟩
      · have hl' := lenZ hl
        have q1 : (x.cl != 0) = true := bne_iff_ne.2 (HBD.out.resolve_left fun e => e (List.length_eq_zero_iff.1 (by omega)))
        clear hb hz
        go_enter Tryz.func168, Tryz.ntmps168
        go_wp2_with fail
        refine (ovZero x _ ⟨_, _, _, rfl⟩ _).mono ?_
        rintro e w1 ⟨rfl, hb1⟩
        rw [HZ.out]
        have QX : Hid (w1.heap[w.heap.size]? = some (.cells #[.int .i64 x.dep, .string x.nm, .int .i64 x.kd, .slice a3 x.ats.length cap3, .string x.dat, .int .i64 x.ma, .int .i64 x.mi, .int .i64 x.cl] 43 (0, 0))) := hQq (bX hb1 (bA (bN w _)))
        have QN : Hid (w1.heap[w.heap.size + 1]? = some (.cells #[.int .i64 x.dep, .string x.nm, .int .i64 x.kd, .slice none 0 0, .string x.dat, .int .i64 x.ma, .int .i64 x.mi, .int .i64 x.cl, .bool false, .slice none 0 0] 41 (0, 0))) := hQq (bX hb1 (blk_at (by simp)))
        have E1 : Hid (Ext w w1) := hQq (((eA _ _).trans (eA _ _)).trans hb1)
        clear hb1
        have c0 := bC QX.out 0; have c1 := bC QX.out 1; have c2 := bC QX.out 2; have c3 := bC QX.out 3; have c4 := bC QX.out 4; have c5 := bC QX.out 5; have c6 := bC QX.out 6; have c7 := bC QX.out 7; have d0 := bC QN.out 0; have d1 := bC QN.out 1; have d2 := bC QN.out 2; have d3 := bC QN.out 3; have d4 := bC QN.out 4; have d5 := bC QN.out 5; have d6 := bC QN.out 6; have d7 := bC QN.out 7; have d8 := bC QN.out 8; have d9 := bC QN.out 9; have fz := fun j => bT QN.out j; have z1 := blk_lt QX.out; have z2 := blk_lt QN.out
        go_wp2_with fail
        refine nW (P := fun W => bodyPost _ _ _ _ _ W) _ ?_
        intro W2 hW2
        have hW3 : W2 = setL (w1.setCell ⟨w.heap.size + 1, 2, none⟩ (.int .i64 5)) (w.heap.size + 1) 0 [.int .i64 x.dep, .string x.nm, .int .i64 5, .slice none 0 0, .string x.dat, .int .i64 x.ma, .int .i64 x.mi, .int .i64 x.cl, .bool false, .slice none 0 0] := hW2
        obtain ⟨hq, hx⟩ := put10 (w := w) (show (w1.setCell ⟨w.heap.size + 1, 2, none⟩ (.int .i64 5)).heap[w.heap.size + 1]? = some (.cells #[.int .i64 x.dep, .string x.nm, .int .i64 5, .slice none 0 0, .string x.dat, .int .i64 x.ma, .int .i64 x.mi, .int .i64 x.cl, .bool false, .slice none 0 0] 41 (0, 0)) from bS QN.out _) (by omega) (Below.setCell (p := ⟨w.heap.size + 1, 2, none⟩) E1.out (by show w.heap.size <= w.heap.size + 1; omega) _) hW3
        refine bodyPost_ret (v := .tuple #[.agg #[.int .i64 x.dep, .string x.nm, .int .i64 5, .slice none 0 0, .string x.dat, .int .i64 x.ma, .int .i64 x.mi, .int .i64 x.cl, .bool false, .slice none 0 0], .int .i64 6]) (by simp [results, Tryz.f168, go_sem, bC hq 0, bC hq 1, bC hq 2, bC hq 3, bC hq 4, bC hq 5, bC hq 6, bC hq 7, bC hq 8, bC hq 9]) rfl ?_
        exact ⟨⟨⟨{ x with ats := [], kd := 5 }, false, []⟩, .slice none 0 0, .slice none 0 0, by rw [HE.out], ⟨_, _, _, rfl⟩, ⟨_, _, _, rfl⟩, fun h => by rw [HE.out] at h; cases h⟩, hx⟩
    · have HE : Hid (ndE x rt n = 0) := hQq (by unfold ndE; rw [if_pos hz, if_neg hb])
      have HNX := hQq (zero_node hz HK.out hb)
      have hl' := lenZ (n := x.ats.length) (fun h => hb (.inl (fun e => by rw [e] at h; exact absurd h (by decide))))
      have q1 : (x.cl != 0) = false := bne_eq_false_iff_eq.2 (Decidable.not_not.1 fun e => hb (.inr e))
      have HA0 : Hid (x.ats = []) := hQq (Decidable.not_not.1 fun e => hb (.inl e))
      clear hb hz
      go_enter Tryz.func168, Tryz.ntmps168
      go_wp2_with fail
      refine (ovZero x _ ⟨_, _, _, rfl⟩ _).mono ?_
      rintro e w1 ⟨rfl, hb1⟩
      rw [HZ.out]
      have QX : Hid (w1.heap[w.heap.size]? = some (.cells #[.int .i64 x.dep, .string x.nm, .int .i64 x.kd, .slice a3 x.ats.length cap3, .string x.dat, .int .i64 x.ma, .int .i64 x.mi, .int .i64 x.cl] 43 (0, 0))) := hQq (bX hb1 (bA (bN w _)))
      have QN : Hid (w1.heap[w.heap.size + 1]? = some (.cells #[.int .i64 x.dep, .string x.nm, .int .i64 x.kd, .slice none 0 0, .string x.dat, .int .i64 x.ma, .int .i64 x.mi, .int .i64 x.cl, .bool false, .slice none 0 0] 41 (0, 0))) := hQq (bX hb1 (blk_at (by simp)))
      have E1 : Hid (Ext w w1) := hQq (((eA _ _).trans (eA _ _)).trans hb1)
      clear hb1
      have c0 := bC QX.out 0; have c1 := bC QX.out 1; have c2 := bC QX.out 2; have c3 := bC QX.out 3; have c4 := bC QX.out 4; have c5 := bC QX.out 5; have c6 := bC QX.out 6; have c7 := bC QX.out 7; have d0 := bC QN.out 0; have d1 := bC QN.out 1; have d2 := bC QN.out 2; have d3 := bC QN.out 3; have d4 := bC QN.out 4; have d5 := bC QN.out 5; have d6 := bC QN.out 6; have d7 := bC QN.out 7; have d8 := bC QN.out 8; have d9 := bC QN.out 9; have fz := fun j => bT QN.out j; have z1 := blk_lt QX.out; have z2 := blk_lt QN.out
      go_wp2_with fail
      refine nW (P := fun W => bodyPost _ _ _ _ _ W) _ ?_
      intro W2 hW2
      have hW3 : W2 = setL (w1.setCell ⟨w.heap.size + 1, 2, none⟩ (.int .i64 5)) (w.heap.size + 1) 0 [.int .i64 x.dep, .string x.nm, .int .i64 5, .slice none 0 0, .string x.dat, .int .i64 x.ma, .int .i64 x.mi, .int .i64 x.cl, .bool false, .slice none 0 0] := hW2
      obtain ⟨hq, hx⟩ := put10 (w := w) (show (w1.setCell ⟨w.heap.size + 1, 2, none⟩ (.int .i64 5)).heap[w.heap.size + 1]? = some (.cells #[.int .i64 x.dep, .string x.nm, .int .i64 5, .slice none 0 0, .string x.dat, .int .i64 x.ma, .int .i64 x.mi, .int .i64 x.cl, .bool false, .slice none 0 0] 41 (0, 0)) from bS QN.out _) (by omega) (Below.setCell (p := ⟨w.heap.size + 1, 2, none⟩) E1.out (by show w.heap.size <= w.heap.size + 1; omega) _) hW3
      refine bodyPost_ret (v := .tuple #[.agg #[.int .i64 x.dep, .string x.nm, .int .i64 5, .slice none 0 0, .string x.dat, .int .i64 x.ma, .int .i64 x.mi, .int .i64 x.cl, .bool false, .slice none 0 0], .int .i64 0]) (by simp [results, Tryz.f168, go_sem, bC hq 0, bC hq 1, bC hq 2, bC hq 3, bC hq 4, bC hq 5, bC hq 6, bC hq 7, bC hq 8, bC hq 9]) rfl ?_
      refine ⟨⟨⟨{ x with kd := 5 }, false, []⟩, .slice none 0 0, .slice none 0 0, by rw [HE.out], ⟨_, _, _, rfl⟩, ⟨_, _, _, rfl⟩, fun _ => ⟨HNX.out.symm, ?_, strIn_nil _ _ _⟩⟩, hx⟩
      show AttT W2 (.slice none 0 0) x.ats
      rw [HA0.out]; exact AttT.nil _ _ _ (AttrsAt.nil _ _ _)
  | false =>
    have HZ := hQq hz
    by_cases hw : x.kd = 5
    · have HE : Hid (ndE x rt n = 6) := hQq (by unfold ndE; rw [if_neg (by rw [hz]; exact Bool.false_ne_true), if_pos hw])
      have q1 : (x.kd == 5) = true := beq_iff_eq.2 hw
      clear hw hz
      go_enter Tryz.func168, Tryz.ntmps168
      go_wp2_with fail
      refine (ovZero x _ ⟨_, _, _, rfl⟩ _).mono ?_
      rintro e w1 ⟨rfl, hb1⟩
      rw [HZ.out]
      have QX : Hid (w1.heap[w.heap.size]? = some (.cells #[.int .i64 x.dep, .string x.nm, .int .i64 x.kd, .slice a3 x.ats.length cap3, .string x.dat, .int .i64 x.ma, .int .i64 x.mi, .int .i64 x.cl] 43 (0, 0))) := hQq (bX hb1 (bA (bN w _)))
      have QN : Hid (w1.heap[w.heap.size + 1]? = some (.cells #[.int .i64 x.dep, .string x.nm, .int .i64 x.kd, .slice none 0 0, .string x.dat, .int .i64 x.ma, .int .i64 x.mi, .int .i64 x.cl, .bool false, .slice none 0 0] 41 (0, 0))) := hQq (bX hb1 (blk_at (by simp)))
      have E1 : Hid (Ext w w1) := hQq (((eA _ _).trans (eA _ _)).trans hb1)
      clear hb1
      have c0 := bC QX.out 0; have c1 := bC QX.out 1; have c2 := bC QX.out 2; have c3 := bC QX.out 3; have c4 := bC QX.out 4; have c5 := bC QX.out 5; have c6 := bC QX.out 6; have c7 := bC QX.out 7; have d0 := bC QN.out 0; have d1 := bC QN.out 1; have d2 := bC QN.out 2; have d3 := bC QN.out 3; have d4 := bC QN.out 4; have d5 := bC QN.out 5; have d6 := bC QN.out 6; have d7 := bC QN.out 7; have d8 := bC QN.out 8; have d9 := bC QN.out 9; have fz := fun j => bT QN.out j; have z1 := blk_lt QX.out; have z2 := blk_lt QN.out
      go_wp2_with fail
      refine nW (P := fun W => bodyPost _ _ _ _ _ W) _ ?_
      intro W2 hW2
      have hW3 : W2 = setL w1 (w.heap.size + 1) 0 [.int .i64 x.dep, .string x.nm, .int .i64 x.kd, .slice none 0 0, .string x.dat, .int .i64 x.ma, .int .i64 x.mi, .int .i64 x.cl, .bool false, .slice none 0 0] := hW2
      obtain ⟨hq, hx⟩ := put10 (w := w) QN.out (by omega) E1.out hW3
      refine bodyPost_ret (v := .tuple #[.agg #[.int .i64 x.dep, .string x.nm, .int .i64 x.kd, .slice none 0 0, .string x.dat, .int .i64 x.ma, .int .i64 x.mi, .int .i64 x.cl, .bool false, .slice none 0 0], .int .i64 6]) (by simp [results, Tryz.f168, go_sem, bC hq 0, bC hq 1, bC hq 2, bC hq 3, bC hq 4, bC hq 5, bC hq 6, bC hq 7, bC hq 8, bC hq 9]) rfl ?_
      exact ⟨⟨⟨{ x with ats := [] }, false, []⟩, .slice none 0 0, .slice none 0 0, by rw [HE.out], ⟨_, _, _, rfl⟩, ⟨_, _, _, rfl⟩, fun h => by rw [HE.out] at h; cases h⟩, hx⟩
    have q1 : (x.kd == 5) = false := beq_eq_false_iff_ne.2 hw
    by_cases hp : ptsE 1 x.ats = 0
    case neg =>
      have HE : Hid (ndE x rt n = ptsE 1 x.ats) := hQq (by unfold ndE; rw [if_neg (by rw [hz]; exact Bool.false_ne_true), if_neg hw, if_pos hp])
      have HPN := hQq hp
      have q2 : (ptsE 1 x.ats != 0) = true := bne_iff_ne.2 hp
      clear hp hw hz
      go_enter Tryz.func168, Tryz.ntmps168
      go_wp2_with fail
      refine (ovZero x _ ⟨_, _, _, rfl⟩ _).mono ?_
      rintro e w1 ⟨rfl, hb1⟩
      rw [HZ.out]
      have QX : Hid (w1.heap[w.heap.size]? = some (.cells #[.int .i64 x.dep, .string x.nm, .int .i64 x.kd, .slice a3 x.ats.length cap3, .string x.dat, .int .i64 x.ma, .int .i64 x.mi, .int .i64 x.cl] 43 (0, 0))) := hQq (bX hb1 (bA (bN w _)))
      have QN : Hid (w1.heap[w.heap.size + 1]? = some (.cells #[.int .i64 x.dep, .string x.nm, .int .i64 x.kd, .slice none 0 0, .string x.dat, .int .i64 x.ma, .int .i64 x.mi, .int .i64 x.cl, .bool false, .slice none 0 0] 41 (0, 0))) := hQq (bX hb1 (blk_at (by simp)))
      have E1 : Hid (Ext w w1) := hQq (((eA _ _).trans (eA _ _)).trans hb1)
      clear hb1
      have c0 := bC QX.out 0; have c1 := bC QX.out 1; have c2 := bC QX.out 2; have c3 := bC QX.out 3; have c4 := bC QX.out 4; have c5 := bC QX.out 5; have c6 := bC QX.out 6; have c7 := bC QX.out 7; have d0 := bC QN.out 0; have d1 := bC QN.out 1; have d2 := bC QN.out 2; have d3 := bC QN.out 3; have d4 := bC QN.out 4; have d5 := bC QN.out 5; have d6 := bC QN.out 6; have d7 := bC QN.out 7; have d8 := bC QN.out 8; have d9 := bC QN.out 9; have fz := fun j => bT QN.out j; have z1 := blk_lt QX.out; have z2 := blk_lt QN.out
      go_wp2_with fail
      refine (ovRead _ x.ats _ (HL.out.ext E1.out) (HV.out.ext E1.out) HM.out).mono ?_
      rintro e w2 ⟨⟨v2, bm, nm2, rfl, ho2, hm2, hbm⟩, hb2⟩
      have HO2 := hQq ho2; have HM2 := hQq hm2; obtain ⟨a6, cap6, rfl, -, -⟩ := ho2.1
      have QX2 := hQq (bX hb2 QX.out); have QN2 := hQq (bX hb2 QN.out); have E2 := hQq (E1.out.trans hb2)
      clear ho2 hm2 hbm hb2 c0 c1 c2 c3 c4 c5 c6 c7 d0 d1 d2 d3 d4 d5 d6 d7 d8 d9 fz z1 z2
      have c0 := bC QX2.out 0; have c1 := bC QX2.out 1; have c2 := bC QX2.out 2; have c3 := bC QX2.out 3; have c4 := bC QX2.out 4; have c5 := bC QX2.out 5; have c6 := bC QX2.out 6; have c7 := bC QX2.out 7; have d0 := bC QN2.out 0; have d1 := bC QN2.out 1; have d2 := bC QN2.out 2; have d3 := bC QN2.out 3; have d4 := bC QN2.out 4; have d5 := bC QN2.out 5; have d6 := bC QN2.out 6; have d7 := bC QN2.out 7; have d8 := bC QN2.out 8; have d9 := bC QN2.out 9; have fz := fun j => bT QN2.out j; have z1 := blk_lt QX2.out; have z2 := blk_lt QN2.out
      go_wp2_with fail
      refine nW (P := fun W => bodyPost _ _ _ _ _ W) _ ?_
      intro W2 hW2
      have hW3 : W2 = (setL w2 (w.heap.size + 1) 0 [.int .i64 x.dep, .string x.nm, .int .i64 x.kd, .slice none 0 0, .string x.dat, .int .i64 x.ma, .int .i64 x.mi, .int .i64 x.cl, .bool false, .slice none 0 0]).alloc (.cells #[.string (valM (ptsO 1 x.ats) opqW), .string (valM (ptsO 1 x.ats) reW), .string (valM (ptsO 1 x.ats) nlW)] 135) := hW2
      obtain ⟨hq, hx⟩ := put10a (w := w) QN2.out (by omega) E2.out hW3
      refine bodyPost_ret (v := .tuple #[.agg #[.int .i64 x.dep, .string x.nm, .int .i64 x.kd, .slice none 0 0, .string x.dat, .int .i64 x.ma, .int .i64 x.mi, .int .i64 x.cl, .bool false, .slice none 0 0], .int .i64 (ptsE 1 x.ats)]) (by simp [results, Tryz.f168, go_sem, bC hq 0, bC hq 1, bC hq 2, bC hq 3, bC hq 4, bC hq 5, bC hq 6, bC hq 7, bC hq 8, bC hq 9]) rfl ?_
      exact ⟨⟨⟨{ x with ats := [] }, false, []⟩, .slice none 0 0, .slice none 0 0, by rw [HE.out], ⟨_, _, _, rfl⟩, ⟨_, _, _, rfl⟩, fun h => by rw [HE.out] at h; exact absurd h HPN.out⟩, hx⟩
    rcases hs with h | h | h
    · rw [hz] at h; cases h
    · exact absurd h hw
    · exact absurd hp h
end Go.Proofs.YtnbkcalodmggaaaGreatDoor
namespace Go.Proofs.YtnbkcalodmggaaaGreatDoor
open Go.RowKit

set_option maxRecDepth 100000 in
set_option maxHeartbeats 100000000 in
theorem neutF (x : TrN) (va : Value) (rt : Bool) (n : Int) (w : World) (hL : LaidO w) (hv : AttrsAt w va x.ats) (hm : Small x.ats) (hz : zeroB x = false) (hw : x.kd ≠ 5) (hp : ptsE 1 x.ats = 0) (_hn : n <= 1000000) (hc : (turnE (ptsO 1 x.ats) ≠ 0 /\ isM (ptsO 1 x.ats) opqW = true) \/ (turnE (ptsO 1 x.ats) ≠ 0 /\ isM (ptsO 1 x.ats) opqW = false) \/ (turnE (ptsO 1 x.ats) = 0 /\ isM (ptsO 1 x.ats) opqW = true /\ x.kd ≠ 1) \/ (turnE (ptsO 1 x.ats) = 0 /\ isM (ptsO 1 x.ats) opqW = false /\ isM (ptsO 1 x.ats) reW = true /\ x.kd ≠ 1) \/ (turnE (ptsO 1 x.ats) = 0 /\ isM (ptsO 1 x.ats) opqW = true /\ isM (ptsO 1 x.ats) reW = true /\ x.kd = 1 /\ rt = true) \/ (turnE (ptsO 1 x.ats) = 0 /\ isM (ptsO 1 x.ats) opqW = false /\ isM (ptsO 1 x.ats) reW = true /\ x.kd = 1 /\ rt = true)) :
    Calls Tryz.prog 168 #[trV x va, .bool rt, .int .i64 n] w (NeutP w x rt n) := by
  obtain ⟨ht, ho⟩ | ⟨ht, ho⟩ | ⟨ht, ho, hk⟩ | ⟨ht, ho, hr, hk⟩ | ⟨ht, ho, hr, hk, hrt⟩ | ⟨ht, ho, hr, hk, hrt⟩ := hc
  all_goals
    have HE : Hid (ndE x rt n = 6) := hQq (by unfold ndE; rw [if_neg (by rw [hz]; exact Bool.false_ne_true), if_neg hw, if_neg (by rw [hp]; exact fun h => h rfl), if_pos (by first | exact .inl ht | exact .inr (.inl ⟨by rw [ho]; rfl, hk⟩) | exact .inr (.inl ⟨by rw [ho, hr]; rfl, hk⟩) | exact .inr (.inr ⟨hrt, hr⟩))])
    first | have q3 : (turnE (ptsO 1 x.ats) != 0) = true := bne_iff_ne.2 ht | have HT0 := hQq ht
    have HOP := hQq ho
    try have HRE := hQq hr
    try first | have q4 : (x.kd != 1) = true := bne_iff_ne.2 hk | have q4 : (x.kd != 1) = false := bne_eq_false_iff_eq.2 hk
    try subst hrt
    try clear hk
    try clear hr
    clear ht ho
    obtain ⟨a3, cap3, rfl, hcap, hc⟩ := hv
    have HV := hQq (show AttrsAt w (.slice a3 x.ats.length cap3) x.ats from ⟨a3, cap3, rfl, hcap, hc⟩)
    have HL := hQq hL; have HM := hQq hm
    have HZ := hQq hz
    have q1 : (x.kd == 5) = false := beq_eq_false_iff_ne.2 hw
    have HPZ := hQq hp
    have HTZ : Hid ((valM (ptsO 1 x.ats) reW).size <= 1000000) := hQq (valM_size hm)
    clear hcap hc hL hm hz hw hp
    unfold trV
    go_enter Tryz.func168, Tryz.ntmps168
    go_wp2_with fail
    refine (ovZero x _ ⟨_, _, _, rfl⟩ _).mono ?_
    rintro e w1 ⟨rfl, hb1⟩
    rw [HZ.out]
    have QX : Hid (w1.heap[w.heap.size]? = some (.cells #[.int .i64 x.dep, .string x.nm, .int .i64 x.kd, .slice a3 x.ats.length cap3, .string x.dat, .int .i64 x.ma, .int .i64 x.mi, .int .i64 x.cl] 43 (0, 0))) := hQq (bX hb1 (bA (bN w _)))
    have QN : Hid (w1.heap[w.heap.size + 1]? = some (.cells #[.int .i64 x.dep, .string x.nm, .int .i64 x.kd, .slice none 0 0, .string x.dat, .int .i64 x.ma, .int .i64 x.mi, .int .i64 x.cl, .bool false, .slice none 0 0] 41 (0, 0))) := hQq (bX hb1 (blk_at (by simp)))
    have E1 : Hid (Ext w w1) := hQq (((eA _ _).trans (eA _ _)).trans hb1)
    clear hb1
    have c0 := bC QX.out 0; have c1 := bC QX.out 1; have c2 := bC QX.out 2; have c3 := bC QX.out 3; have c4 := bC QX.out 4; have c5 := bC QX.out 5; have c6 := bC QX.out 6; have c7 := bC QX.out 7; have d0 := bC QN.out 0; have d1 := bC QN.out 1; have d2 := bC QN.out 2; have d3 := bC QN.out 3; have d4 := bC QN.out 4; have d5 := bC QN.out 5; have d6 := bC QN.out 6; have d7 := bC QN.out 7; have d8 := bC QN.out 8; have d9 := bC QN.out 9; have fz := fun j => bT QN.out j; have z1 := blk_lt QX.out; have z2 := blk_lt QN.out
    go_wp2_with fail
    refine (ovRead _ x.ats _ (HL.out.ext E1.out) (HV.out.ext E1.out) HM.out).mono ?_
    rintro e w2 ⟨⟨v2, bm, nm2, rfl, ho2, hm2, hbm⟩, hb2⟩
    rw [HPZ.out]
    have HO2 := hQq ho2; have HM2 := hQq hm2; obtain ⟨a6, cap6, rfl, -, -⟩ := ho2.1
    have QX2 := hQq (bX hb2 QX.out); have QN2 := hQq (bX hb2 QN.out); have E2 := hQq (E1.out.trans hb2)
    clear ho2 hm2 hbm hb2 c0 c1 c2 c3 c4 c5 c6 c7 d0 d1 d2 d3 d4 d5 d6 d7 d8 d9 fz z1 z2
    have c0 := bC QX2.out 0; have c1 := bC QX2.out 1; have c2 := bC QX2.out 2; have c3 := bC QX2.out 3; have c4 := bC QX2.out 4; have c5 := bC QX2.out 5; have c6 := bC QX2.out 6; have c7 := bC QX2.out 7; have d0 := bC QN2.out 0; have d1 := bC QN2.out 1; have d2 := bC QN2.out 2; have d3 := bC QN2.out 3; have d4 := bC QN2.out 4; have d5 := bC QN2.out 5; have d6 := bC QN2.out 6; have d7 := bC QN2.out 7; have d8 := bC QN2.out 8; have d9 := bC QN2.out 9; have fz := fun j => bT QN2.out j; have z1 := blk_lt QX2.out; have z2 := blk_lt QN2.out
    go_wp2_with fail
    refine (ovTurn (ptsO 1 x.ats) bm nm2 _ (HL.out.ext (E2.out.trans (eA _ _))) (HM2.out.ext (eA _ _)) HTZ.out).mono ?_
    rintro e w3 ⟨⟨a7, cap7, rfl, ho3⟩, hb3⟩
    have HO3 := hQq ho3
    have QX3 := hQq (bX hb3 (bA QX2.out)); have QN3 := hQq (bX hb3 (bA QN2.out)); have QM3 := hQq (bX hb3 (bN w2 _)); have E3 := hQq (E2.out.trans ((eA _ _).trans hb3)); have F3 := hQq (Ext.trans (eA _ _) hb3)
    have lkO := thM_lookO (HM2.out.ext (Ext.trans (eA _ _) hb3)); have lkR := thM_lookR (HM2.out.ext (Ext.trans (eA _ _) hb3))
    clear ho3 hb3 c0 c1 c2 c3 c4 c5 c6 c7 d0 d1 d2 d3 d4 d5 d6 d7 d8 d9 fz z1 z2
    have c0 := bC QX3.out 0; have c1 := bC QX3.out 1; have c2 := bC QX3.out 2; have c3 := bC QX3.out 3; have c4 := bC QX3.out 4; have c5 := bC QX3.out 5; have c6 := bC QX3.out 6; have c7 := bC QX3.out 7; have d0 := bC QN3.out 0; have d1 := bC QN3.out 1; have d2 := bC QN3.out 2; have d3 := bC QN3.out 3; have d4 := bC QN3.out 4; have d5 := bC QN3.out 5; have d6 := bC QN3.out 6; have d7 := bC QN3.out 7; have d8 := bC QN3.out 8; have d9 := bC QN3.out 9; have fz := fun j => bT QN3.out j; have z1 := blk_lt QX3.out; have z2 := blk_lt QN3.out
    rw [HOP.out] at lkO
    try rw [HRE.out] at lkR
    try rw [HT0.out]
    go_wp2_with fail
    refine nW (P := fun W => bodyPost _ _ _ _ _ W) _ ?_
    intro W2 hW2
    have hW3 : W2 = setL w3 (w.heap.size + 1) 0 [.int .i64 x.dep, .string x.nm, .int .i64 x.kd, .slice none 0 0, .string x.dat, .int .i64 x.ma, .int .i64 x.mi, .int .i64 x.cl, .bool false, .slice none 0 0] := hW2
    obtain ⟨hq, hx⟩ := put10 (w := w) QN3.out (by omega) E3.out hW3
    refine bodyPost_ret (v := .tuple #[.agg #[.int .i64 x.dep, .string x.nm, .int .i64 x.kd, .slice none 0 0, .string x.dat, .int .i64 x.ma, .int .i64 x.mi, .int .i64 x.cl, .bool false, .slice none 0 0], .int .i64 6]) (by simp [results, Tryz.f168, go_sem, bC hq 0, bC hq 1, bC hq 2, bC hq 3, bC hq 4, bC hq 5, bC hq 6, bC hq 7, bC hq 8, bC hq 9]) rfl ?_
    exact ⟨⟨⟨{ x with ats := [] }, false, []⟩, .slice none 0 0, .slice none 0 0, by rw [HE.out], ⟨_, _, _, rfl⟩, ⟨_, _, _, rfl⟩, fun h => by rw [HE.out] at h; cases h⟩, hx⟩
end Go.Proofs.YtnbkcalodmggaaaGreatDoor
