/- WideO OvHO WideR OvHM SamD -/
import Derived.Test.YtnbkcalodmggaaaGreatDoorQI5
import Derived.Test.YtnbkcalodmggaaaGreatDoorQOvR
import Derived.Test.YtnbkcalodmggaaaGreatDoorQBsdJ
namespace Go.Proofs.YtnbkcalodmggaaaGreatDoor
open Go.RowKit

structure WideP (d : DiN) : Prop where
  len : d.ens.length <= 40
  ats : Few 400 d.ats
  red : d.red.length <= 12 /\ ∀ s ∈ d.red, s.size <= 500
  ens : ∀ j (hj : j < d.ens.length), (d.ens[j]'hj).nm.size <= 500 /\ Few 400 (d.ens[j]'hj).nd.ats
theorem wide_small {d : DiN} (h : WideP d) : SmallD d where
  ats := fun a ha => by have := h.ats.2 a ha; omega
  atl := by have := h.ats.1; omega
  red := fun s hs => Nat.le_trans (h.red.2 s hs) (by decide)
  ens := fun x hx => by
    obtain ⟨j, hj, rfl⟩ := List.getElem_of_mem hx
    obtain ⟨h4, h5⟩ := h.ens j hj
    exact ⟨by omega, fun a ha => by have := h5.2 a ha; omega, by have := h5.1; omega⟩
  len := by have := h.len; omega
def BdD (d : DiN) : Prop := d.ats.length <= 1000000 /\ d.red.length <= 1000000 /\ d.ens.length <= 1000 /\ ∀ x ∈ d.ens, x.nd.ats.length <= 1000000
theorem bd_zero : BdD zDiN := ⟨by decide, by decide, by decide, fun x hx => by cases hx⟩
theorem bd_oc {d : DiN} (hs : SmallD d) : BdD (ocD d) := by
  by_cases h : ocE d = 0
  case neg => rw [oc_err h]; exact bd_zero
  obtain ⟨h1, h2, h3, h4⟩ := oc_zero h
  rw [(oc_of h4).1]
  have hc := chk_parts (mw_chk h2)
  refine ⟨by show (mwL 1 d.ats _).length <= _; omega, Nat.zero_le _, by show (d.ens.map weX).length <= _; rw [List.length_map]; exact hs.len, fun x hx => ?_⟩
  obtain ⟨y, hy, rfl⟩ := List.mem_map.1 hx
  obtain ⟨j, hj, rfl⟩ := List.getElem_of_mem hy
  have hw := h3 j hj
  rw [getE_at _ _ hj] at hw
  have hl := (hs.ens _ hy).2.2
  generalize d.ens[j]'hj = x at hw hl
  cases hwh : x.wh with
  | true => rw [(we_white hwh).2]; exact Nat.zero_le _
  | false =>
    have hz : zeroB x.nd = false := by
      cases e : zeroB x.nd with
      | false => rfl
      | true => rw [we_dev hwh e] at hw; cases hw
    cases hf : x.fi with
    | false => rw [(we_rest hwh hz hf).2]; omega
    | true =>
      obtain ⟨e1, e2⟩ := we_first hwh hz hf
      rw [e1] at hw
      rw [e2]
      have := (chk_parts (mw_chk hw)).1
      show (mwL 1 x.nd.ats _).length <= _
      omega
end Go.Proofs.YtnbkcalodmggaaaGreatDoor
namespace Go.Proofs.YtnbkcalodmggaaaGreatDoor
open Go.RowKit

set_option maxRecDepth 100000 in
set_option maxHeartbeats 8000000 in
theorem law21wide (B : Nat) (v : Value) (d : DiN) (w : World) (hd : DirIn B w v d) : Calls Tryz.prog 38 #[v] w (BoolE (WideP d) w) := by
  obtain ⟨va, vr, ve, rfl, ha, hr, he⟩ := hd
  have HA := hQq ha.attrs; have HR := hQq hr.strs; have HE := hQq he
  obtain ⟨a3, cap3, rfl⟩ := ha.form
  obtain ⟨a4, cap4, rfl⟩ := hr.form
  obtain ⟨a5, cap5, rfl⟩ := he.form
  clear ha hr he
  have HLG := hQq (fun W (h : Ext w W) => law21long _ d.ats W (HA.out.ext h))
  have HPT := hQq (fun W (h : Ext w W) => law21path _ d.red W (HR.out.ext h))
  by_cases h40 : 40 < d.ens.length
  case pos =>
    have q1 : decide ((40 : Int) < (d.ens.length : Int)) = true := decide_eq_true (by omega)
    have q1n : decide (40 < d.ens.length) = true := decide_eq_true h40
    go_enter Tryz.func38, Tryz.ntmps38
    go_wp2
    go_ret
    exact ⟨_, rfl, (fun h => by cases h), eA _ _⟩
  have q1 : decide ((40 : Int) < (d.ens.length : Int)) = false := decide_eq_false (by omega)
  have q1n : decide (40 < d.ens.length) = false := decide_eq_false h40
  have HN40 := hQq h40
  go_enter Tryz.func38, Tryz.ntmps38
  go_wp2_with fail
  refine (HLG.out _ (eA _ _)).mono ?_
  rintro e w1 ⟨r, rfl, hfew, rfl⟩
  cases r
  case true =>
    clear hfew
    go_wp2_with fail
    go_ret
    exact ⟨_, rfl, (fun h => by cases h), eA _ _⟩
  have HFA := hQq (hfew rfl)
  clear hfew
  go_wp2_with fail
  refine (HPT.out _ (eA _ _)).mono ?_
  rintro e w1 ⟨r, rfl, hpath, rfl⟩
  cases r
  case true =>
    clear hpath
    go_wp2_with fail
    go_ret
    exact ⟨_, rfl, (fun h => by cases h), eA _ _⟩
  have HFR := hQq (hpath rfl)
  clear hpath
  have QB : Hid ((w.alloc (.cells #[.slice a3 d.ats.length cap3, .bool d.opq, .slice a4 d.red.length cap4, .slice a5 d.ens.length cap5] 55)).heap[w.heap.size]? = some (.cells #[.slice a3 d.ats.length cap3, .bool d.opq, .slice a4 d.red.length cap4, .slice a5 d.ens.length cap5] 55 (0, 0))) := hQq (bN _ _)
  have HW : Hid (Ext w (w.alloc (.cells #[.slice a3 d.ats.length cap3, .bool d.opq, .slice a4 d.red.length cap4, .slice a5 d.ens.length cap5] 55))) := hQq (eA _ _)
  go_wp2_with fail
  go_loopw [3] (fun i w' => ∃ (wi : World) (k : Nat), wi = w' /\ k <= d.ens.length /\ i = .int .i64 k /\ (∀ j (_ : j < k) (hj : j < d.ens.length), (d.ens[j]'hj).nm.size <= 500 /\ Few 400 (d.ens[j]'hj).nd.ats) /\ Ext (w.alloc (.cells #[.slice a3 d.ats.length cap3, .bool d.opq, .slice a4 d.red.length cap4, .slice a5 d.ens.length cap5] 55)) wi) (fun i _ => d.ens.length - (intOf i).toNat)
  case atStart => exact ⟨_, 0, rfl, Nat.zero_le _, rfl, fun j hj => absurd hj (by omega), Below.refl _ _⟩
  case round =>
    obtain ⟨wi, k, rfl, hk, rfl, hok, hE⟩ := hrel
    have HOK := hQq hok; have HI := hQq (HW.out.trans hE)
    have QI := hQq (bX hE QB.out)
    have k0 := bC QI.out 0; have k1 := bC QI.out 1; have k2 := bC QI.out 2; have k3 := bC QI.out 3
    have HEI := hQq hE
    clear hok hE
    by_cases hlt : k < d.ens.length
    case neg =>
      obtain rfl : k = d.ens.length := by omega
      go_wp2
      go_ret
      exact ⟨_, rfl, (fun _ => ⟨by have := HN40.out; omega, HFA.out, HFR.out, fun j hj => HOK.out j hj hj⟩), HI.out⟩
    obtain ⟨b, off, vx, hex, hbx, hva, c0, c1, c2, c3, c4, c5, c6, c7, c8, c9, c10, c11⟩ := (HE.out.ext okE HI.out).en k hlt
    cases hex
    have HVA := hQq hva.attrs
    obtain ⟨a6, cap6, rfl⟩ := hva.form
    have HG : Hid (∀ x, x = d.ens[k]'hlt -> x.nm.size <= 500 -> Few 400 x.nd.ats -> ∀ j (_ : j < k + 1) (hj : j < d.ens.length), (d.ens[j]'hj).nm.size <= 500 /\ Few 400 (d.ens[j]'hj).nd.ats) := hQq (fun x hx h1 h2 j hj hjl => by
      by_cases e : j = k
      · subst e; rw [<- hx]; exact ⟨h1, h2⟩
      · exact HOK.out j (by omega) hjl)
    obtain ⟨x, hx⟩ : ∃ x, x = d.ens[k]'hlt := ⟨_, rfl⟩
    rw [<- hx] at c0 c1 c2 c3 c4 c5 c6 c7 c8 c9 c10 c11 HVA
    have HX := hQq hx
    have HLX := hQq (fun W (h : Ext wi W) => law21long _ x.nd.ats W (HVA.out.ext h))
    have j1 : ((k : Nat) : Int) < (d.ens.length : Int) := by omega
    have j0 : (0 : Int) <= (k : Int) := by omega
    clear hx hva
    by_cases g1 : 500 < x.nm.size
    case pos =>
      have g1' : decide ((500 : Int) < (x.nm.size : Int)) = true := decide_eq_true (by omega)
      have g1n : decide (500 < x.nm.size) = true := decide_eq_true g1
      go_wp2
      go_ret
      exact ⟨_, rfl, (fun h => by cases h), HI.out.trans (eA _ _)⟩
    have g1' : decide ((500 : Int) < (x.nm.size : Int)) = false := decide_eq_false (by omega)
    have g1n : decide (500 < x.nm.size) = false := decide_eq_false g1
    have HN1 : Hid (x.nm.size <= 500) := hQq (by omega)
    clear g1
    go_wp2_with fail
    refine (HLX.out _ (eA _ _)).mono ?_
    rintro e w4 ⟨r, rfl, hr, rfl⟩
    cases r
    case true =>
      clear hr
      go_wp2_with fail
      go_ret
      exact ⟨_, rfl, (fun h => by cases h), HI.out.trans (eA _ _)⟩
    have HFX := hQq (hr rfl)
    clear hr
    by_cases g2 : 500 < x.nd.dat.size
    case pos =>
      have g2' : decide ((500 : Int) < (x.nd.dat.size : Int)) = true := decide_eq_true (by omega)
      have g2n : decide (500 < x.nd.dat.size) = true := decide_eq_true g2
      go_wp2
      go_ret
      exact ⟨_, rfl, (fun h => by cases h), HI.out.trans (eA _ _)⟩
    have g2' : decide ((500 : Int) < (x.nd.dat.size : Int)) = false := decide_eq_false (by omega)
    have g2n : decide (500 < x.nd.dat.size) = false := decide_eq_false g2
    clear g2
    go_wp2
    go_roundw
    case rel => exact ⟨_, k + 1, rfl, by omega, by go_num, HG.out x HX.out HN1.out HFX.out, HEI.out.trans (eA _ _)⟩
    case measure => first | (simp [intOf]; done) | (simp [intOf]; omega)
end Go.Proofs.YtnbkcalodmggaaaGreatDoor
namespace Go.Proofs.YtnbkcalodmggaaaGreatDoor
open Go.RowKit

theorem dr_zero {d : DiN} (h : drE d = 0) : drN d = 0 /\ dirE d = 0 /\ drD d = ⟨ptsP 1 d.ats, turnO (ptsO 1 d.ats), turnR (ptsO 1 d.ats), d.ens.map rdX⟩ := by
  by_cases h1 : dirE d = 0
  case neg => rw [(dr_of (drT_dir h1)).2.2] at h; exact absurd h h1
  by_cases h2 : d.opq = true \/ 0 < d.red.length
  case pos => rw [(dr_of (drT_mark h1 h2)).2.2] at h; cases h
  by_cases h3 : ptsE 1 d.ats = 0
  case neg => rw [(dr_of (drT_pts h1 h2 h3)).2.2] at h; exact absurd h h3
  cases h4 : isM (ptsO 1 d.ats) nlW with
  | true => rw [(dr_of (drT_link h1 h2 h3 h4)).2.2] at h; cases h
  | false =>
    by_cases h5 : turnE (ptsO 1 d.ats) ≠ 0 \/ (turnO (ptsO 1 d.ats) = true /\ 0 < (turnR (ptsO 1 d.ats)).length)
    case pos => rw [(dr_of (drT_turn h1 h2 h3 h4 h5)).2.2] at h; cases h
    by_cases h6 : (gnT (rdE (turnO (ptsO 1 d.ats))) d.ens).2 = 0
    case neg => rw [(dr_of (drT_ent h1 h2 h3 h4 h5 (n := (gnT (rdE (turnO (ptsO 1 d.ats))) d.ens).1) (e := (gnT (rdE (turnO (ptsO 1 d.ats))) d.ens).2) rfl h6)).2.2] at h; exact absurd h h6
    have := dr_of (drT_ok h1 h2 h3 h4 h5 h6)
    exact ⟨this.2.1, h1, this.1⟩
theorem dr_err {d : DiN} (h : drE d ≠ 0) : drD d = zDiN := by
  by_cases h1 : dirE d = 0
  case neg => exact (dr_of (drT_dir h1)).1
  by_cases h2 : d.opq = true \/ 0 < d.red.length
  case pos => exact (dr_of (drT_mark h1 h2)).1
  by_cases h3 : ptsE 1 d.ats = 0
  case neg => exact (dr_of (drT_pts h1 h2 h3)).1
  cases h4 : isM (ptsO 1 d.ats) nlW with
  | true => exact (dr_of (drT_link h1 h2 h3 h4)).1
  | false =>
    by_cases h5 : turnE (ptsO 1 d.ats) ≠ 0 \/ (turnO (ptsO 1 d.ats) = true /\ 0 < (turnR (ptsO 1 d.ats)).length)
    case pos => exact (dr_of (drT_turn h1 h2 h3 h4 h5)).1
    by_cases h6 : (gnT (rdE (turnO (ptsO 1 d.ats))) d.ens).2 = 0
    case neg => exact (dr_of (drT_ent h1 h2 h3 h4 h5 (n := (gnT (rdE (turnO (ptsO 1 d.ats))) d.ens).1) (e := (gnT (rdE (turnO (ptsO 1 d.ats))) d.ens).2) rfl h6)).1
    exact absurd (dr_of (drT_ok h1 h2 h3 h4 h5 h6)).2.2 h
end Go.Proofs.YtnbkcalodmggaaaGreatDoor
namespace Go.Proofs.YtnbkcalodmggaaaGreatDoor
open Go.RowKit

set_option maxRecDepth 100000 in
set_option maxHeartbeats 8000000 in
theorem ovOwn (v : Value) (l : List Attr) (n : Int) (w : World) (hL : LaidO w) (hv : AttrsAt w v l) (hm : Small l) (hn : n <= 9223372036854775807) :
    Calls Tryz.prog 174 #[v, .int .i64 n] w fun e w' => (∃ a k c, e = .returned (.tuple #[.slice a k c, .int .i64 (owE l n)]) /\ (owE l n = 0 -> AttT w' (.slice a k c) (ptsP 1 l))) /\ Ext w w' := by
  have HL := hQq hL; have HV := hQq hv; have HM := hQq hm; have HN := hQq hn
  clear hL hv hm hn
  by_cases h1 : ptsE 1 l = 0
  case neg =>
    have HW := hQq (ow_pts (n := n) h1)
    have H1 := hQq h1
    have q1 : (ptsE 1 l != 0) = true := bne_iff_ne.2 h1
    clear h1
    go_enter Tryz.func174, Tryz.ntmps174
    go_wp2_with (go_at_call 172; refine (ovRead _ l _ HL.out HV.out HM.out).mono ?_; rintro e w1 ⟨⟨v1, bm, n1, rfl, ho, hmp, hbm⟩, hx⟩; obtain ⟨a1, c1, rfl, -, -⟩ := ho.1; have HO := hQq ho; have HX := hQq hx; have HMP := hQq (hmp.ext (eA w1 (.cells #[.string (valM (ptsO 1 l) opqW), .string (valM (ptsO 1 l) reW), .string (valM (ptsO 1 l) nlW)] 135))); have lkO := thM_lookO HMP.out; have lkR := thM_lookR HMP.out; clear ho hmp hbm hx)
    go_ret2
    exact ⟨⟨_, _, _, by rw [HW.out]; rfl, fun h => absurd (HW.out.symm.trans h) H1.out⟩, HX.out.trans (eA _ _)⟩
  have H1 := hQq h1
  cases ho : isM (ptsO 1 l) opqW with
  | true =>
    have HW := hQq (ow_mark (n := n) h1 (by rw [ho, Bool.true_or]))
    have HOP := hQq ho
    clear ho h1
    go_enter Tryz.func174, Tryz.ntmps174
    go_wp2_with (go_at_call 172; refine (ovRead _ l _ HL.out HV.out HM.out).mono ?_; rintro e w1 ⟨⟨v1, bm, n1, rfl, ho, hmp, hbm⟩, hx⟩; obtain ⟨a1, c1, rfl, -, -⟩ := ho.1; have HO := hQq ho; have HX := hQq hx; have HMP := hQq (hmp.ext (eA w1 (.cells #[.string (valM (ptsO 1 l) opqW), .string (valM (ptsO 1 l) reW), .string (valM (ptsO 1 l) nlW)] 135))); have lkO := thM_lookO HMP.out; have lkR := thM_lookR HMP.out; rw [HOP.out] at lkO; rw [H1.out]; clear ho hmp hbm hx)
    go_ret2
    exact ⟨⟨_, _, _, by rw [HW.out]; rfl, fun h => by rw [HW.out] at h; cases h⟩, HX.out.trans (eA _ _)⟩
  | false =>
    cases hr : isM (ptsO 1 l) reW with
    | true =>
      have HW := hQq (ow_mark (n := n) h1 (by rw [hr, Bool.or_true]))
      have HOP := hQq ho; have HRE := hQq hr
      clear ho hr h1
      go_enter Tryz.func174, Tryz.ntmps174
      go_wp2_with (go_at_call 172; refine (ovRead _ l _ HL.out HV.out HM.out).mono ?_; rintro e w1 ⟨⟨v1, bm, n1, rfl, ho, hmp, hbm⟩, hx⟩; obtain ⟨a1, c1, rfl, -, -⟩ := ho.1; have HO := hQq ho; have HX := hQq hx; have HMP := hQq (hmp.ext (eA w1 (.cells #[.string (valM (ptsO 1 l) opqW), .string (valM (ptsO 1 l) reW), .string (valM (ptsO 1 l) nlW)] 135))); have lkO := thM_lookO HMP.out; have lkR := thM_lookR HMP.out; rw [HOP.out] at lkO; rw [HRE.out] at lkR; rw [H1.out]; clear ho hmp hbm hx)
      go_ret2
      exact ⟨⟨_, _, _, by rw [HW.out]; rfl, fun h => by rw [HW.out] at h; cases h⟩, HX.out.trans (eA _ _)⟩
    | false =>
      have HW := hQq (ow_book (n := n) h1 (by rw [ho, hr]; rfl))
      have HOP := hQq ho; have HRE := hQq hr
      clear ho hr h1
      go_enter Tryz.func174, Tryz.ntmps174
      go_wp2_with (first
        | (go_at_call 172; refine (ovRead _ l _ HL.out HV.out HM.out).mono ?_; rintro e w1 ⟨⟨v1, bm, n1, rfl, ho, hmp, hbm⟩, hx⟩; obtain ⟨a1, c1, rfl, -, -⟩ := ho.1; have HO := hQq ho; have HX := hQq hx; have HMP := hQq (hmp.ext (eA w1 (.cells #[.string (valM (ptsO 1 l) opqW), .string (valM (ptsO 1 l) reW), .string (valM (ptsO 1 l) nlW)] 135))); have lkO := thM_lookO HMP.out; have lkR := thM_lookR HMP.out; rw [HOP.out] at lkO; rw [HRE.out] at lkR; rw [H1.out]; clear ho hmp hbm hx)
        | (go_at_call 212; refine (ovBookX (ptsO 1 l) bm n1 n _ (HL.out.ext (HX.out.trans (eA _ _))) HMP.out HN.out).mono ?_; rintro e w2 ⟨rfl, hb2⟩; have HB2 : Hid (Ext w1 w2) := hQq ((eA _ _).trans hb2); clear hb2)
        | fail)
      go_ret2
      exact ⟨⟨_, _, _, by rw [HW.out]; rfl, fun _ => HO.out.ext HB2.out⟩, HX.out.trans HB2.out⟩
end Go.Proofs.YtnbkcalodmggaaaGreatDoor
namespace Go.Proofs.YtnbkcalodmggaaaGreatDoor
open Go.RowKit

theorem bd_dr {d : DiN} (hs : SmallD d) : BdD (drD d) := by
  by_cases h : drE d = 0
  case neg => rw [dr_err h]; exact bd_zero
  obtain ⟨_, h1, h2⟩ := dr_zero h
  rw [h2]
  obtain ⟨p1, _⟩ := ptsP_small (d := 1) (by decide) (dirE_zero h1).2.1
  obtain ⟨r1, _⟩ := turnR_small (ptsO 1 d.ats)
  refine ⟨by show (ptsP 1 d.ats).length <= _; omega, by show (turnR _).length <= _; omega, by show (d.ens.map rdX).length <= _; rw [List.length_map]; exact hs.len, fun x hx => ?_⟩
  obtain ⟨y, hy, rfl⟩ := List.mem_map.1 hx
  have hl := (hs.ens _ hy).2.2
  have hc := ens_chk h1 hy
  unfold rdX
  split
  · exact Nat.zero_le _
  · split
    · obtain ⟨q1, _⟩ := ptsP_small (d := 1) (by decide) hc
      show (ptsP 1 y.nd.ats).length <= _
      omega
    · omega
end Go.Proofs.YtnbkcalodmggaaaGreatDoor
namespace Go.Proofs.YtnbkcalodmggaaaGreatDoor
open Go.RowKit

theorem setB9 (c0 c1 c2 c3 c4 c5 c6 c7 c8 c9 c10 c11 v y1 y2 y3 y4 y5 y6 y7 y8 : Value) : setA (#[c0, c1, c2, c3, c4, c5, c6, c7, c8, c9, c10, c11].setIfInBounds 9 v) 1 [y1, y2, y3, y4, y5, y6, y7, y8] = #[c0, y1, y2, y3, y4, y5, y6, y7, y8, v, c10, c11] := by
  simp only [setA, List.setIfInBounds_toArray, List.set_cons_zero, List.set_cons_succ]

end Go.Proofs.YtnbkcalodmggaaaGreatDoor
namespace Go.Proofs.YtnbkcalodmggaaaGreatDoor
open Go.RowKit

set_option maxRecDepth 100000 in
set_option maxHeartbeats 32000000 in
theorem ovDecodeDirM (B : Nat) (w : World) (v : Value) (d : DiN) (hL : LaidO w) (hd : DirIn B w v d) (hB : B <= w.heap.size) (hsm : SmallD d) (hns : NsOk d)
    (e1 : dirE d = 0) (e2 : ¬ (d.opq = true \/ 0 < d.red.length)) (e3 : ptsE 1 d.ats = 0) (e4 : isM (ptsO 1 d.ats) nlW = false) (e5 : ¬ (turnE (ptsO 1 d.ats) ≠ 0 \/ (turnO (ptsO 1 d.ats) = true /\ 0 < (turnR (ptsO 1 d.ats)).length))) :
    Calls Tryz.prog 116 #[v] w (FltP w (drD d) (drN d) (drE d)) := by
  have HD := hQq hd
  obtain ⟨va, vr, ve, rfl, ha, hr, he⟩ := hd
  have HA := hQq ha; have HR := hQq hr; have HE := hQq he; have HSM := hQq hsm; have HL := hQq hL; have HNS := hQq hns
  obtain ⟨a3, cap3, rfl⟩ := ha.form
  obtain ⟨a4, cap4, rfl⟩ := hr.form
  obtain ⟨a5, cap5, rfl⟩ := he.form
  have hlen := hsm.len
  clear ha hr he hsm hL hns
  have q1 : (dirE d != 0) = false := bne_eq_false_iff_eq.2 e1
  have E1 := hQq e1; have E2 := hQq e2; have E3 := hQq e3; have E4 := hQq e4; have E6 := hQq e5
  have E5 : Hid (d.opq = false) := hQq (Bool.eq_false_iff.2 fun h => e2 (.inl h))
  have q5 : ¬ 0 < d.red.length := fun h => e2 (.inr h)
  have q2 := lenZ q5
  have HTZ : Hid ((valM (ptsO 1 d.ats) reW).size <= 1000000) := hQq (valM_size HSM.out.ats)
  clear e1 e2 e3 e4
  obtain ⟨o, ho⟩ : ∃ o, turnO (ptsO 1 d.ats) = o := ⟨_, rfl⟩
  have HOQ := hQq ho
  obtain ⟨te, hte⟩ : ∃ te, turnE (ptsO 1 d.ats) = te := ⟨_, rfl⟩
  have HTE := hQq hte
  rw [ho, hte] at e5
  have e6 := e5
  clear ho hte e5
  go_enter Tryz.func116, Tryz.ntmps116
  go_upto_region 12 with (first
      | (go_at_call 82; refine (brCheckDir B _ _ d (HD.out.ext ((eA _ _).trans (eA _ _))) HSM.out).mono ?_; rintro e w1 ⟨rfl, hb1⟩; have q2 : w1.heap[w.heap.size + 1]? = some (.cells #[.slice none 0 0, .bool false, .slice none 0 0, .slice none 0 0] 55 (0, 0)) := bX hb1 (blk_at (by simp)); have r0 := bC q2 0; have r1 := bC q2 1; have r2 := bC q2 2; have r3 := bC q2 3; have fz : ∀ j, w1.frozen? ⟨w.heap.size + 1, j, none⟩ = false := fun j => bT q2 j; have Q2 := hQq q2; clear q2; have q1 : w1.heap[w.heap.size]? = some (.cells #[.slice a3 d.ats.length cap3, .bool d.opq, .slice a4 d.red.length cap4, .slice a5 d.ens.length cap5] 55 (0, 0)) := bX hb1 (bA (bN w _)); have k0 := bC q1 0; have k1 := bC q1 1; rw [E5.out] at k1; have k2 := bC q1 2; have k3 := bC q1 3; have Q1 := hQq q1; clear q1; have HB1 := hQq (((eA _ _).trans (eA _ _)).trans hb1); clear hb1)
      | (go_at_call 172; refine (ovRead _ d.ats _ (HL.out.ext HB1.out) ((HA.out.ext okA HB1.out).attrs) HSM.out.ats).mono ?_; rintro e w3 ⟨⟨v3, bm, n3, rfl, hv3, hmp, hbm⟩, hb3⟩; obtain ⟨a7, cap7, rfl, -, -⟩ := hv3.1; clear r0 r1 r2 r3 fz k0 k1 k2 k3; have q2 : w3.heap[w.heap.size + 1]? = some (.cells #[.slice none 0 0, .bool false, .slice none 0 0, .slice none 0 0] 55 (0, 0)) := bX hb3 Q2.out; have r0 := bC q2 0; have r1 := bC q2 1; have r2 := bC q2 2; have r3 := bC q2 3; have fz : ∀ j, w3.frozen? ⟨w.heap.size + 1, j, none⟩ = false := fun j => bT q2 j; have Q2 := hQq q2; clear q2; have q1x := bX hb3 Q1.out; have k0 := bC q1x 0; have k1 := bC q1x 1; have k2 := bC q1x 2; have k3 := bC q1x 3; have R1 := hQq q1x; have hz1 := blk_lt q1x; have hz2 := blk_lt Q2.out; have HV3 := hQq hv3; have HMP := hQq (hmp.ext (eA w3 (.cells #[.string (valM (ptsO 1 d.ats) opqW), .string (valM (ptsO 1 d.ats) reW), .string (valM (ptsO 1 d.ats) nlW)] 135))); have lkN := thM_lookN HMP.out; have HB3 := hQq (HB1.out.trans hb3); rw [E5.out] at k1; rw [E4.out] at lkN; rw [E3.out]; clear hv3 hmp hbm hb3 q1x)
      | (go_at_call 173; refine (ovTurn (ptsO 1 d.ats) bm n3 _ (HL.out.ext (HB3.out.trans (eA _ _))) HMP.out HTZ.out).mono ?_; rintro e w4 ⟨⟨a8, cap8, rfl, ho4⟩, hb4⟩; have HR4 := hQq ho4; have HB4 : Hid (Ext w3 w4) := hQq ((eA _ _).trans hb4); clear r0 r1 r2 r3 fz k0 k1 k2 k3 lkN hz1 hz2; have q2 : w4.heap[w.heap.size + 1]? = some (.cells #[.slice none 0 0, .bool false, .slice none 0 0, .slice none 0 0] 55 (0, 0)) := bX HB4.out Q2.out; have r0 := bC q2 0; have r1 := bC q2 1; have r2 := bC q2 2; have r3 := bC q2 3; have fz : ∀ j, w4.frozen? ⟨w.heap.size + 1, j, none⟩ = false := fun j => bT q2 j; have Q2 := hQq q2; clear q2; have q1y := bX HB4.out R1.out; have k0 := bC q1y 0; have k1 := bC q1y 1; have k2 := bC q1y 2; have k3 := bC q1y 3; have S1 := hQq q1y; have hz1 := blk_lt q1y; have hz2 := blk_lt Q2.out; rw [HOQ.out, HTE.out]; rw [E5.out] at k1; clear ho4 hb4 q1y)
      | fail)
  have q7 : (te != 0) = false := bne_eq_false_iff_eq.2 (Decidable.not_not.1 fun h => e6 (.inl h))
  go_cut [74] (fun s wx => s = .bool false /\ w4 = wx)
  case first =>
    cases o
    case false => clear e6; go_wp2_with fail; go_meet; exact ⟨rfl, rfl⟩
    case true =>
      have q8 := lenZ (fun h => e6 (.inr ⟨rfl, h⟩))
      have q9 : decide (0 < (turnR (ptsO 1 d.ats)).length) = false := decide_eq_false (fun h => e6 (.inr ⟨rfl, h⟩))
      clear e6
      go_wp2_with fail; go_meet
      first
        | exact ⟨rfl, rfl⟩
        | exact ⟨by rw [q9], rfl⟩
  case rest =>
  obtain ⟨rfl, rfl⟩ := hcut
  clear e6 q7
  go_wp2_with fail
  have HBO : Hid (w.heap.size + 1 < w4.heap.size) := hQq (blk_lt Q2.out)
  have HCH := hQq (fun x (hx : x ∈ d.ens) => small_chk (ens_chk E1.out hx))
  have HST0 : Hid (ODSt w w4.heap.size #[.slice a3 d.ats.length cap3, .bool false, .slice a4 d.red.length cap4, .slice a5 d.ens.length cap5] (.slice a7 (ptsP 1 d.ats).length cap7) (ptsP 1 d.ats) o (.slice a8 (turnR (ptsO 1 d.ats)).length cap8) (turnR (ptsO 1 d.ats)) (.slice none 0 0) [] (w4.alloc (.cells #[.slice a7 (ptsP 1 d.ats).length cap7, .bool o, .slice a8 (turnR (ptsO 1 d.ats)).length cap8, .slice none 0 0] 55))) := hQq ⟨bA (by have h := S1.out; rw [E5.out] at h; exact h), bA Q2.out, bN _ _, OwnL.nil _ _ _, (attT_in HV3.out).ext okA (HB4.out.trans (eA _ _)), (HR4.out.mono okS (Nat.zero_le _)).ext okS (eA _ _), HB3.out.trans (HB4.out.trans (eA _ _))⟩
  clear r0 r1 r2 r3 fz k0 k1 k2 k3
  go_loopw [85] (fun i w' => ∃ (wi : World) (k : Nat) (ve : Value), wi = w' /\ k <= d.ens.length /\ i = .int .i64 k /\ (∀ j, j < k -> rdE o (getE d.ens j) = 0) /\ ODSt w w4.heap.size #[.slice a3 d.ats.length cap3, .bool false, .slice a4 d.red.length cap4, .slice a5 d.ens.length cap5] (.slice a7 (ptsP 1 d.ats).length cap7) (ptsP 1 d.ats) o (.slice a8 (turnR (ptsO 1 d.ats)).length cap8) (turnR (ptsO 1 d.ats)) ve ((d.ens.take k).map rdX) wi) (fun i _ => d.ens.length - (intOf i).toNat)
  case atStart => exact ⟨_, 0, _, rfl, Nat.zero_le _, rfl, fun j hj => absurd hj (by omega), HST0.out⟩
  case round =>
    clear HST0
    obtain ⟨wi, k, ve, rfl, hk, rfl, hok, hst⟩ := hrel
    obtain ⟨es, hes⟩ : ∃ es, es = (d.ens.take k).map rdX := ⟨_, rfl⟩
    rw [<- hes] at hst
    have HES := hQq hes
    have HOK := hQq hok; have HST := hQq hst
    clear hes
    obtain ⟨a6e, cap6e, rfl⟩ := hst.own.form
    clear hok hst
    by_cases hlt : k < d.ens.length
    case neg =>
      obtain rfl : k = d.ens.length := by omega
      have HX := hQq (dr_of (drT_ok E1.out E2.out E3.out E4.out E6.out (by rw [HOQ.out, gnT_ok HOK.out])))
      have o0 := bC HST.out.out 0; have o1 := bC HST.out.out 1; have o2 := bC HST.out.out 2; have o3 := bC HST.out.out 3
      have r0 := bC HST.out.res 0; have r1 := bC HST.out.res 1; have r2 := bC HST.out.res 2; have r3 := bC HST.out.res 3
      have fz : ∀ j, wi.frozen? ⟨w.heap.size + 1, j, none⟩ = false := fun j => bT HST.out.res j
      have HTK : Hid (es = d.ens.map rdX) := hQq (by rw [HES.out, List.take_length])
      go_wp2
      refine nW (P := fun W => bodyPost _ _ _ _ _ W) _ ?_
      intro W2 hW2
      obtain ⟨hq, hx, hc⟩ := set4 HST.out.res (by omega) HST.out.ext hW2
      refine bodyPost_ret (v := .tuple #[.agg #[.slice a7 (ptsP 1 d.ats).length cap7, .bool o, .slice a8 (turnR (ptsO 1 d.ats)).length cap8, .slice a6e es.length cap6e], .nilIface]) (by simp [results, Tryz.f116, go_sem, bC hq 0, bC hq 1, bC hq 2, bC hq 3]) rfl ?_
      refine ⟨⟨_, _, _, _, _, _, _, _, _, _, _, rfl, .inl ⟨HX.out.2.2, rfl, ?_⟩⟩, hx⟩
      rw [HX.out.1, HOQ.out]
      exact ⟨_, _, _, rfl, HST.out.ats.chg okA (hcB (Nat.le_refl _) hc HST.out.res) (by decide) (by decide), HST.out.red.chg okS (hcB (Nat.le_refl _) hc HST.out.res) (by decide) (by decide), by have h := (HST.out.own.in okE).chg okE (hcB (Nat.le_refl _) hc HST.out.res) (by decide) (by decide); rw [<- HTK.out]; exact h⟩
    obtain ⟨b, off, va, hex, hbx, hva, c0, c1, c2, c3, c4, c5, c6, c7, c8, c9, c10, c11⟩ := (HE.out.ext okE HST.out.ext).en k hlt
    cases hex
    have HVA := hQq (hva.mono okA hB)
    have HVS := hQq hva.attrs
    obtain ⟨a6, cap6, rfl⟩ := hva.form
    have HG := hQq (getE_at d.ens k hlt)
    have HMEM := hQq (List.getElem_mem hlt)
    have HTK := hQq (take_mapX (X := rdX) d.ens k hlt)
    rw [<- HES.out] at HTK
    generalize d.ens[k]'hlt = x at c0 c1 c2 c3 c4 c5 c6 c7 c8 c9 c10 c11 HVA HVS HG HMEM HTK
    have HLN : Hid (es.length <= k) := hQq (by rw [HES.out, List.length_map, List.length_take]; omega)
    have j1 : ((k : Nat) : Int) < (d.ens.length : Int) := by omega
    have j0 : (0 : Int) <= (k : Int) := by omega
    have HNX : Hid (rdE o x = 0 -> ∀ j, j < k + 1 -> rdE o (getE d.ens j) = 0) := hQq (fun h j hj => by
      by_cases e : j = k
      · subst e; rw [HG.out]; exact h
      · exact HOK.out j (by omega))
    have HNE : Hid (∀ n, rdE o x = n -> n ≠ 0 -> drT d = (zDiN, (k : Int), n)) := hQq (fun n hn h => by
      subst hn
      have := gnT_no (E := rdE o) hlt HOK.out (by rw [HG.out]; exact h)
      rw [HG.out] at this
      exact drT_ent E1.out E2.out E3.out E4.out E6.out (by rw [HOQ.out]; exact this) h)
    obtain ⟨y, hy⟩ : ∃ y, y = rdX x := ⟨_, rfl⟩
    have HY := hQq hy
    have hsz := blk_lt HST.out.res
    obtain ⟨zb, hzb0⟩ : ∃ zb, zeroB x.nd = zb := ⟨_, rfl⟩
    have HZ0 := hQq hzb0
    clear hva hy hzb0
    go_upto_region 19 with (go_at_call 123; refine (ovZero x.nd _ ⟨_, _, _, rfl⟩ _).mono ?_; rintro e w5 ⟨rfl, hb5⟩; rw [HZ0.out]; have Q12 := hQq (bX hb5 (bN wi _)); have HB5 : Hid (Ext wi w5) := hQq (Ext.trans (eA _ _) hb5); clear hb5)
    clear c0 c1 c2 c3 c4 c5 c6 c7 c8 c9 c10 c11
    have Q12' : Hid (w5.heap[wi.heap.size]? = some (.cells #[.string x.nm, .int .i64 x.nd.dep, .string x.nd.nm, .int .i64 x.nd.kd, .slice a6 x.nd.ats.length cap6, .string x.nd.dat, .int .i64 x.nd.ma, .int .i64 x.nd.mi, .int .i64 x.nd.cl, .bool x.wh, .bool x.fi, .int .i64 x.ns] 98 (0, 0))) := Q12
    clear Q12
    have z0 := bC Q12'.out 0; have z1 := bC Q12'.out 1; have z2 := bC Q12'.out 2; have z3 := bC Q12'.out 3; have z4 := bC Q12'.out 4; have z5 := bC Q12'.out 5; have z6 := bC Q12'.out 6; have z7 := bC Q12'.out 7; have z8 := bC Q12'.out 8; have z9 := bC Q12'.out 9; have z10 := bC Q12'.out 10; have z11 := bC Q12'.out 11
    have f5 : ∀ j, w5.frozen? ⟨wi.heap.size, j, none⟩ = false := fun j => bT Q12'.out j
    have hz5 := blk_lt Q12'.out
    have hbx5 := bX HB5.out HST.out.box
    have k0 := bC hbx5 0; have k1 := bC hbx5 1; have k2 := bC hbx5 2; have k3 := bC hbx5 3
    have hrs5 := bX HB5.out HST.out.res
    have r0 := bC hrs5 0; have r1 := bC hrs5 1; have r2 := bC hrs5 2; have r3 := bC hrs5 3
    have fz : ∀ j, w5.frozen? ⟨w.heap.size + 1, j, none⟩ = false := fun j => bT hrs5 j
    have Q5 := hQq hrs5
    clear hbx5 hrs5
    go_cut [112] (fun s wx => s = .bool (decide (zbE o x)) /\ w5 = wx)
    case first =>
      by_cases g1 : x.wh = true
      case pos =>
        have hd : decide (zbE o x) = true := decide_eq_true (.inl g1)
        have HDD := hQq hd
        rw [g1] at z9; clear g1 hd
        go_wp2_with fail; go_meet; exact ⟨by rw [HDD.out], rfl⟩
      have g1' : x.wh = false := Bool.eq_false_iff.2 g1
      rw [g1'] at z9
      cases zb
      case false =>
        have g2 := HZ0.out
        have hd : decide (zbE o x) = false := decide_eq_false (by rintro (h | ⟨h, _⟩); exact g1 h; rw [g2] at h; cases h)
        have HDD := hQq hd
        clear g1 g1' hd g2
        go_wp2_with fail; go_meet; exact ⟨by rw [HDD.out], rfl⟩
      have g2 := HZ0.out
      by_cases g3 : 0 < x.nd.ats.length
      case pos =>
        have hd : decide (zbE o x) = true := decide_eq_true (.inr ⟨g2, .inl (fun h => by rw [h] at g3; exact absurd g3 (by decide))⟩)
        have g3' := lenP g3
        have g3n : decide (0 < x.nd.ats.length) = true := decide_eq_true g3
        have HDD := hQq hd
        clear g1 g1' hd g3 g2
        go_wp2_with fail; go_meet; exact ⟨by rw [HDD.out], rfl⟩
      have g3' := lenZ g3
      have g3n : decide (0 < x.nd.ats.length) = false := decide_eq_false g3
      by_cases g4 : 1 < x.ns
      case pos =>
        have hd : decide (zbE o x) = true := decide_eq_true (.inr ⟨g2, .inr (.inl g4)⟩)
        have g4' : decide (1 < x.ns) = true := decide_eq_true g4
        have HDD := hQq hd
        clear g1 g1' hd g3 g4 g2
        go_wp2_with fail; go_meet; exact ⟨by rw [HDD.out], rfl⟩
      have g4' : decide (1 < x.ns) = false := decide_eq_false g4
      cases o
      case false =>
        have hd : decide (zbE false x) = false := decide_eq_false (by
          rintro (h | ⟨_, h | h | h⟩)
          · exact g1 h
          · exact h (List.length_eq_zero_iff.1 (by omega))
          · exact g4 h
          · cases h)
        have HDD := hQq hd
        clear g1 g1' hd g3 g4 g2
        go_wp2_with fail; go_meet; exact ⟨by rw [HDD.out], rfl⟩
      case true =>
        have hd : decide (zbE true x) = true := decide_eq_true (.inr ⟨g2, .inr (.inr rfl)⟩)
        have HDD := hQq hd
        clear g1 g1' hd g3 g4 g2
        go_wp2_with fail; go_meet; exact ⟨by rw [HDD.out], rfl⟩
    case rest =>
    obtain ⟨rfl, rfl⟩ := hcut
    by_cases hzb : zbE o x
    case pos =>
      have HX := hQq (dr_of (HNE.out 6 (rd_bad hzb) (by decide)))
      have hd : decide (zbE o x) = true := decide_eq_true hzb
      rw [hd]
      clear hzb hd
      go_wp2
      refine nW (P := fun W => bodyPost _ _ _ _ _ W) _ ?_
      intro W2 hW2
      obtain ⟨hq, hx, hc⟩ := set4 Q5.out (by omega) (HST.out.ext.trans HB5.out) hW2
      refine bodyPost_ret (v := .tuple #[.agg #[.slice a3 d.ats.length cap3, .bool false, .slice a4 d.red.length cap4, .slice (some ⟨b, off, none⟩) d.ens.length cap5], fltV ((k : Int)) (6)]) (by simp [results, Tryz.f116, go_sem, bC hq 0, bC hq 1, bC hq 2, bC hq 3]) rfl ?_
      exact ⟨⟨_, _, _, _, _, _, _, _, _, _, _, rfl, .inr ⟨by rw [HX.out.2.2]; exact (by decide), by rw [HX.out.2.1, HX.out.2.2]⟩⟩, hx⟩
    have hd : decide (zbE o x) = false := decide_eq_false hzb
    have HZB := hQq hzb
    rw [hd]
    clear hzb hd
    cases zb
    case true =>
      have HWE := hQq (rd_zero HZB.out HZ0.out)
      have HN := hQq (HNX.out HWE.out.1)
      go_upto_region 27 with fail
      refine nW (P := fun W => Code.wp _ _ _ _ W) _ ?_
      intro W hW
      have hW2 : W = setL (w5.setCell ⟨wi.heap.size, 9, none⟩ (.bool true)) wi.heap.size 1 [.int .i64 0, .string ⟨#[]⟩, .int .i64 5, .slice none 0 0, .string ⟨#[]⟩, .int .i64 0, .int .i64 0, .int .i64 0] := by rw [hW]; simp only [setL, Nat.reduceAdd]
      have HXW := hQq (show Ext wi W from by rw [hW2]; exact setL_below (Nat.le_refl _) _ _ _ (Below.setCell (p := ⟨wi.heap.size, 9, none⟩) HB5.out (Nat.le_refl _) _))
      obtain ⟨ay, capy, hqy, hvy⟩ : ∃ ay capy, W.heap[wi.heap.size]? = some (.cells #[.string y.nm, .int .i64 y.nd.dep, .string y.nd.nm, .int .i64 y.nd.kd, .slice ay y.nd.ats.length capy, .string y.nd.dat, .int .i64 y.nd.ma, .int .i64 y.nd.mi, .int .i64 y.nd.cl, .bool y.wh, .bool y.fi, .int .i64 y.ns] 98 (0, 0)) /\ AttIn w.heap.size W (.slice ay y.nd.ats.length capy) y.nd.ats := by
        rw [HY.out, HWE.out.2]
        exact ⟨none, 0, by rw [hW2, setL_blk _ _ _ _ (bS Q12'.out _), setB9]; rfl, attIn_nil _ _ _⟩
      have HQW := hQq hqy; have HVY := hQq hvy
      clear hW hW2 hqy hvy z0 z1 z2 z3 z4 z5 z6 z7 z8 z9 z10 z11 k0 k1 k2 k3 r0 r1 r2 r3 fz f5
      have o3 := bC (bX HXW.out HST.out.out) 3
      have z0 := bC HQW.out 0; have z1 := bC HQW.out 1; have z2 := bC HQW.out 2; have z3 := bC HQW.out 3; have z4 := bC HQW.out 4; have z5 := bC HQW.out 5; have z6 := bC HQW.out 6; have z7 := bC HQW.out 7; have z8 := bC HQW.out 8; have z9 := bC HQW.out 9; have z10 := bC HQW.out 10; have z11 := bC HQW.out 11
      go_wp2_with (at_builtin; go_loud (refine appL okE rfl (.tmp 144) (.tmp 146) rfl (.slice a6e es.length cap6e) _ es [y] w _ (by rfl) (by rfl) (by exact (HST.out.up HXW.out).own.ext okE (eA _ _)) (by exact listIn_new okE _ y [.string y.nm, .int .i64 y.nd.dep, .string y.nd.nm, .int .i64 y.nd.kd, .slice ay y.nd.ats.length capy, .string y.nd.dat, .int .i64 y.nd.ma, .int .i64 y.nd.mi, .int .i64 y.nd.cl, .bool y.wh, .bool y.fi, .int .i64 y.ns] _ (by first | rfl | simp) ⟨_, HVY.out, rfl⟩) (by exact (HST.out.up HXW.out).ext.trans (eA _ _)) (by exact ((HST.out.up HXW.out).ext.trans (eA _ _)).size) (by have := HLN.out; simp only [List.length_singleton]; omega) ?_; intro v5 w5 hap; have hou := ODSt.app ((HST.out.up HXW.out).up (eA _ _)) hap; have p3 := bC hou 3; have fp : ∀ j, w5.frozen? ⟨w4.heap.size, j, none⟩ = false := fun j => bT hou j; obtain ⟨a10, cap10, rfl⟩ := hap.own.form; rw [len_snoc] at hap; have HAP := hQq hap; clear hap hou))
      go_roundw
      case rel => exact ⟨_, k + 1, _, rfl, by omega, by go_num, HN.out, by rw [HTK.out, <- HY.out]; exact ((HST.out.up HXW.out).up (eA _ _)).step HAP.out HBO.out⟩
      case measure => first | (simp [intOf]; done) | (simp [intOf]; omega)
    case false =>
    have HZ := HZ0
    cases hfi : x.fi
    case false =>
      have HWE := hQq (rd_rest HZB.out HZ.out hfi)
      have HN := hQq (HNX.out HWE.out.1)
      rw [hfi] at z10
      clear hfi
      go_upto_region 27 with fail
      have HXW := HB5
      obtain ⟨ay, capy, hqy, hvy⟩ : ∃ ay capy, w5.heap[wi.heap.size]? = some (.cells #[.string y.nm, .int .i64 y.nd.dep, .string y.nd.nm, .int .i64 y.nd.kd, .slice ay y.nd.ats.length capy, .string y.nd.dat, .int .i64 y.nd.ma, .int .i64 y.nd.mi, .int .i64 y.nd.cl, .bool y.wh, .bool y.fi, .int .i64 y.ns] 98 (0, 0)) /\ AttIn w.heap.size w5 (.slice ay y.nd.ats.length capy) y.nd.ats := by
        rw [HY.out, HWE.out.2]
        exact ⟨_, _, Q12'.out, HVA.out.ext okA HB5.out⟩
      have HQW := hQq hqy; have HVY := hQq hvy
      clear hqy hvy z0 z1 z2 z3 z4 z5 z6 z7 z8 z9 z10 z11 k0 k1 k2 k3 r0 r1 r2 r3 fz f5
      have o3 := bC (bX HXW.out HST.out.out) 3
      have z0 := bC HQW.out 0; have z1 := bC HQW.out 1; have z2 := bC HQW.out 2; have z3 := bC HQW.out 3; have z4 := bC HQW.out 4; have z5 := bC HQW.out 5; have z6 := bC HQW.out 6; have z7 := bC HQW.out 7; have z8 := bC HQW.out 8; have z9 := bC HQW.out 9; have z10 := bC HQW.out 10; have z11 := bC HQW.out 11
      go_wp2_with (at_builtin; go_loud (refine appL okE rfl (.tmp 144) (.tmp 146) rfl (.slice a6e es.length cap6e) _ es [y] w _ (by rfl) (by rfl) (by exact (HST.out.up HXW.out).own.ext okE (eA _ _)) (by exact listIn_new okE _ y [.string y.nm, .int .i64 y.nd.dep, .string y.nd.nm, .int .i64 y.nd.kd, .slice ay y.nd.ats.length capy, .string y.nd.dat, .int .i64 y.nd.ma, .int .i64 y.nd.mi, .int .i64 y.nd.cl, .bool y.wh, .bool y.fi, .int .i64 y.ns] _ (by first | rfl | simp) ⟨_, HVY.out, rfl⟩) (by exact (HST.out.up HXW.out).ext.trans (eA _ _)) (by exact ((HST.out.up HXW.out).ext.trans (eA _ _)).size) (by have := HLN.out; simp only [List.length_singleton]; omega) ?_; intro v5 w5 hap; have hou := ODSt.app ((HST.out.up HXW.out).up (eA _ _)) hap; have p3 := bC hou 3; have fp : ∀ j, w5.frozen? ⟨w4.heap.size, j, none⟩ = false := fun j => bT hou j; obtain ⟨a10, cap10, rfl⟩ := hap.own.form; rw [len_snoc] at hap; have HAP := hQq hap; clear hap hou))
      go_roundw
      case rel => exact ⟨_, k + 1, _, rfl, by omega, by go_num, HN.out, by rw [HTK.out, <- HY.out]; exact ((HST.out.up HXW.out).up (eA _ _)).step HAP.out HBO.out⟩
      case measure => first | (simp [intOf]; done) | (simp [intOf]; omega)
    case true =>
    rw [hfi] at z10
    have HWE := hQq (rd_first HZB.out HZ.out hfi)
    have HSX := hQq (HCH.out x HMEM.out)
    have HNB : Hid (x.ns <= 9223372036854775807) := hQq (HNS.out x HMEM.out)
    clear hfi
    go_upto_region 25 with (go_at_call 174; refine (ovOwn _ x.nd.ats x.ns _ (HL.out.ext (HST.out.ext.trans HB5.out)) (HVS.out.ext HB5.out) HSX.out HNB.out).mono ?_; rintro e w6 ⟨⟨a9, k9, c9, rfl, ho6⟩, hb6⟩; have HO6 := hQq ho6; have Q6 := hQq (bX hb6 Q12'.out); have x4 := bC Q6.out 4; have f6 : ∀ j, w6.frozen? ⟨wi.heap.size, j, none⟩ = false := fun j => bT Q6.out j; have l6 := blk_lt Q6.out; have HB6 : Hid (Ext wi w6) := hQq (HB5.out.trans hb6); clear ho6 hb6)
    refine nW (P := fun W => Code.wp _ _ _ _ W) _ ?_
    intro W hW
    have hW2 : W = w6.setCell ⟨wi.heap.size, 4, none⟩ (.slice a9 k9 c9) := hW
    have HXW := hQq (show Ext wi W from by rw [hW2]; exact Below.setCell (p := ⟨wi.heap.size, 4, none⟩) HB6.out (Nat.le_refl _) _)
    have HQ9 : Hid (W.heap[wi.heap.size]? = some (.cells #[.string x.nm, .int .i64 x.nd.dep, .string x.nd.nm, .int .i64 x.nd.kd, .slice a9 k9 c9, .string x.nd.dat, .int .i64 x.nd.ma, .int .i64 x.nd.mi, .int .i64 x.nd.cl, .bool x.wh, .bool x.fi, .int .i64 x.ns] 98 (0, 0))) := hQq (by rw [hW2]; exact bS Q6.out _)
    have HC9 : Hid (Chg w.heap.size 98 (some wi.heap.size) w6 W) := hQq (by rw [hW2]; exact cellChg Q6.out (by have := HST.out.ext.size; omega))
    clear hW hW2 z0 z1 z2 z3 z4 z5 z6 z7 z8 z9 z10 z11 k0 k1 k2 k3 r0 r1 r2 r3 fz f5 f6 x4
    by_cases e9 : owE x.nd.ats x.ns = 0
    case neg =>
      have HX := hQq (dr_of (HNE.out (owE x.nd.ats x.ns) HWE.out.1 e9))
      have q9 : (owE x.nd.ats x.ns != 0) = true := bne_iff_ne.2 e9
      have E9 := hQq e9
      clear e9
      have hbx4 := bX HXW.out HST.out.box
      have k0 := bC hbx4 0; have k1 := bC hbx4 1; have k2 := bC hbx4 2; have k3 := bC hbx4 3
      have hrs4 := bX HXW.out HST.out.res
      have r0 := bC hrs4 0; have r1 := bC hrs4 1; have r2 := bC hrs4 2; have r3 := bC hrs4 3
      have fz : ∀ j, W.frozen? ⟨w.heap.size + 1, j, none⟩ = false := fun j => bT hrs4 j
      have Q4 := hQq hrs4
      clear hbx4 hrs4
      go_wp2
      refine nW (P := fun W => bodyPost _ _ _ _ _ W) _ ?_
      intro W2 hW2
      obtain ⟨hq, hx, hc⟩ := set4 Q4.out (by omega) (HST.out.ext.trans HXW.out) hW2
      refine bodyPost_ret (v := .tuple #[.agg #[.slice a3 d.ats.length cap3, .bool false, .slice a4 d.red.length cap4, .slice (some ⟨b, off, none⟩) d.ens.length cap5], fltV ((k : Int)) (owE x.nd.ats x.ns)]) (by simp [results, Tryz.f116, go_sem, bC hq 0, bC hq 1, bC hq 2, bC hq 3]) rfl ?_
      exact ⟨⟨_, _, _, _, _, _, _, _, _, _, _, rfl, .inr ⟨by rw [HX.out.2.2]; exact E9.out, by rw [HX.out.2.1, HX.out.2.2]⟩⟩, hx⟩
    have q9 : (owE x.nd.ats x.ns != 0) = false := bne_eq_false_iff_eq.2 e9
    have HN := hQq (HNX.out (HWE.out.1.trans e9))
    have HA6 := HO6.out e9
    obtain ⟨a9', c9', he9, -, -⟩ := HA6.1
    obtain ⟨rfl, rfl, rfl⟩ : a9 = a9' /\ k9 = (ptsP 1 x.nd.ats).length /\ c9 = c9' := by injection he9 with h1 h2 h3; exact ⟨h1, h2, h3⟩
    obtain ⟨ay, capy, hqy, hvy⟩ : ∃ ay capy, W.heap[wi.heap.size]? = some (.cells #[.string y.nm, .int .i64 y.nd.dep, .string y.nd.nm, .int .i64 y.nd.kd, .slice ay y.nd.ats.length capy, .string y.nd.dat, .int .i64 y.nd.ma, .int .i64 y.nd.mi, .int .i64 y.nd.cl, .bool y.wh, .bool y.fi, .int .i64 y.ns] 98 (0, 0)) /\ AttIn w.heap.size W (.slice ay y.nd.ats.length capy) y.nd.ats := by
      rw [HY.out, HWE.out.2]
      exact ⟨_, _, HQ9.out, (attT_in HA6).chg okA HC9.out (by decide) (by decide)⟩
    have HQW := hQq hqy; have HVY := hQq hvy
    clear e9 he9 HA6 hqy hvy HO6 Q6
    go_upto_region 27 with fail
    have o3 := bC (bX HXW.out HST.out.out) 3
    have z0 := bC HQW.out 0; have z1 := bC HQW.out 1; have z2 := bC HQW.out 2; have z3 := bC HQW.out 3; have z4 := bC HQW.out 4; have z5 := bC HQW.out 5; have z6 := bC HQW.out 6; have z7 := bC HQW.out 7; have z8 := bC HQW.out 8; have z9 := bC HQW.out 9; have z10 := bC HQW.out 10; have z11 := bC HQW.out 11
    go_wp2_with (at_builtin; go_loud (refine appL okE rfl (.tmp 144) (.tmp 146) rfl (.slice a6e es.length cap6e) _ es [y] w _ (by rfl) (by rfl) (by exact (HST.out.up HXW.out).own.ext okE (eA _ _)) (by exact listIn_new okE _ y [.string y.nm, .int .i64 y.nd.dep, .string y.nd.nm, .int .i64 y.nd.kd, .slice ay y.nd.ats.length capy, .string y.nd.dat, .int .i64 y.nd.ma, .int .i64 y.nd.mi, .int .i64 y.nd.cl, .bool y.wh, .bool y.fi, .int .i64 y.ns] _ (by first | rfl | simp) ⟨_, HVY.out, rfl⟩) (by exact (HST.out.up HXW.out).ext.trans (eA _ _)) (by exact ((HST.out.up HXW.out).ext.trans (eA _ _)).size) (by have := HLN.out; simp only [List.length_singleton]; omega) ?_; intro v5 w5 hap; have hou := ODSt.app ((HST.out.up HXW.out).up (eA _ _)) hap; have p3 := bC hou 3; have fp : ∀ j, w5.frozen? ⟨w4.heap.size, j, none⟩ = false := fun j => bT hou j; obtain ⟨a10, cap10, rfl⟩ := hap.own.form; rw [len_snoc] at hap; have HAP := hQq hap; clear hap hou))
    go_roundw
    case rel => exact ⟨_, k + 1, _, rfl, by omega, by go_num, HN.out, by rw [HTK.out, <- HY.out]; exact ((HST.out.up HXW.out).up (eA _ _)).step HAP.out HBO.out⟩
    case measure => first | (simp [intOf]; done) | (simp [intOf]; omega)
end Go.Proofs.YtnbkcalodmggaaaGreatDoor
namespace Go.Proofs.YtnbkcalodmggaaaGreatDoor
open Go.RowKit

theorem sameAtsD (u v : Value) (l : List Attr) (w : World) {B : Nat} (hu : AttIn B w u l) (hv : AttIn B w v l) (hl : l.length <= 1000000) :
    RetB Tryz.prog 88 #[u, v] w (.bool true) := by
  have := refSameA u v l l w hu.attrs hv.attrs hl
  rw [show decide (l = l) = true from decide_eq_true rfl] at this
  exact this
end Go.Proofs.YtnbkcalodmggaaaGreatDoor
