/- BrnE BrnG BrnH BrnI BrnJ BrnX DirP DirB -/
import Derived.Test.YtimpejaaeinplaaGreatDoorJI3
import Derived.Test.YtimpejaaeinplaaGreatDoorJChkC
namespace Go.Proofs.YtimpejaaeinplaaGreatDoor
open Go.RowKit
set_option maxRecDepth 100000 in
set_option maxHeartbeats 4000000 in
theorem refAbove (B : Nat) (w : World) (v : Value) (b : List BrN) (i : Nat) (hb : BrIn B w v b) (hl : b.length <= 1000) (hi : i < b.length) :
  RetB Tryz.prog 98 #[v, .int .i64 i] w (.int .i64 (abv (plT b) i)) := by
 unfold RetB
 obtain ⟨aa, cap, rfl⟩ := hb.form
 have HV := hQq hb; clear hb
 have j1 : ((i : Nat) : Int) < (b.length : Int) := by omega
 have j0 : (0 : Int) <= (i : Int) := by omega
 have jw : IntKind.i64.wrap ((i : Int) - 1) = (i : Int) - 1 := IntWalk.i64_in _ (by omega)
 obtain ⟨bi, offi, vai, vri, hei, hbi, _, _, di, _⟩ := HV.out.br i hi
 have HGI := hQq ((getT_plT b i hi).trans (congrArg BrN.toTrN (getB_at b i hi)))
 go_enter Tryz.func98, Tryz.ntmps98
 go_wp2
 go_loopw [5] (fun o w' => ∃ (wi : World) (k : Nat) (e : Int), wi = w' /\ k <= i /\ o = .int .i64 e /\ e = (k : Int) - 1 /\ abvE (plT b) (getT (plT b) i).dep k = abv (plT b) i /\ Ext w wi) (fun o _ => (intOf o + 1).toNat)
 case atStart => exact ⟨_, i, _, rfl, Nat.le_refl _, by go_num, rfl, rfl, bR _ _⟩
 case round =>
  obtain ⟨wi, k, e, rfl, hk, rfl, he, ha, hE⟩ := hrel
  have HA := hQq ha; have HE := hQq hE
  clear ha
  cases k with
  | zero =>
   obtain rfl : e = -1 := by omega
   clear he hE
   go_wp2
   go_ret
   exact ⟨by rw [<- HA.out]; rfl, HE.out⟩
  | succ k =>
   obtain rfl : e = (k : Int) := by omega
   clear he
   have hkb : k < b.length := by omega
   obtain ⟨bb, off, va, vr, hex, hbx, _, _, dk, _⟩ := HV.out.br k hkb
   cases hei
   cases hex
   have HGK := hQq ((getT_plT b k hkb).trans (congrArg BrN.toTrN (getB_at b k hkb)))
   have ck : wi.cell? _ = _ := (eC hE hbx).trans dk
   have ci : wi.cell? _ = _ := (eC hE hbi).trans di
   have k1 : ((k : Nat) : Int) < (b.length : Int) := by omega
   have k0 : (0 : Int) <= (k : Int) := by omega
   have kw : IntKind.i64.wrap ((k : Int) - 1) = (k : Int) - 1 := IntWalk.i64_in _ (by omega)
   clear hE dk di
   by_cases hd : (b[k]'hkb).dep < (b[i]'hi).dep
   ·have HR : Hid (abvE (plT b) (getT (plT b) i).dep (k + 1) = k) := hQq (by unfold abvE; rw [HGI.out, HGK.out, if_pos hd])
    go_wp2
    go_quiet (fail)
    go_wp2
    go_ret
    exact ⟨by rw [<- HA.out, HR.out]; rfl, HE.out.trans (eDn _ _)⟩
   ·have HR : Hid (abvE (plT b) (getT (plT b) i).dep (k + 1) = abvE (plT b) (getT (plT b) i).dep k) := hQq (by rw [abvE.eq_2, HGI.out, HGK.out, if_neg hd])
    have hd' : decide ((b[k]'hkb).dep < (b[i]'hi).dep) = false := decide_eq_false hd
    go_wp2
    go_quiet (fail)
    go_wp2
    go_roundw
    case rel => exact ⟨_, k, _, rfl, by omega, by go_num, rfl, by rw [<- HR.out]; exact HA.out, HE.out.trans (eDn _ _)⟩
    case measure => first | (simp [intOf]; done) | (simp [intOf]; omega)
set_option maxRecDepth 100000 in
set_option maxHeartbeats 8000000 in
theorem refPath (t : List TrN) (hl : t.length <= 1000) (hok : AllOk t t.length) : ∀ (i B : Nat) (w : World) (v : Value), TrIn B w v t -> i < t.length ->
  Calls Tryz.prog 136 #[v, .int .i64 i] w (OwnP cdS w (pathT t i)) := by
 intro i
 induction i using Nat.strongRecOn with
 | ind i ih =>
 intro B w v hv hi
 obtain ⟨aa, cap, rfl⟩ := hv.form
 have HV := hQq hv; clear hv
 have IH := hQq ih; clear ih
 by_cases h0 : i = 0
 ·subst h0
  go_enter Tryz.func136, Tryz.ntmps136
  go_wp2
  go_ret
  exact ⟨⟨_, _, _, rfl, OwnL.nil _ _ _⟩, bR _ _⟩
 have h0' : ((i : Int) == 0) = false := nB (by omega)
 have j1 : ((i : Nat) : Int) < (t.length : Int) := by omega
 have j0 : (0 : Int) <= (i : Int) := by omega
 have jw : IntKind.i64.wrap ((i : Int) - 1) = (i : Int) - 1 := IntWalk.i64_in _ (by omega)
 have HGE := hQq (abv_ge hok hi h0)
 have HPS := hQq (pathT_succ t i h0)
 obtain ⟨bi, offi, vai, hei, hbi, _, di, ni, _⟩ := HV.out.tr i hi
 have HGI := hQq (getT_at t i hi)
 have HNI := hQq ni
 cases hei
 go_enter Tryz.func136, Tryz.ntmps136
 go_wp2
 go_loopw [5] (fun o w' => ∃ (wi : World) (k : Nat), wi = w' /\ k < i /\ o = .int .i64 k /\ abvE t (getT t i).dep (k + 1) = abv t i /\ Ext w wi) (fun o _ => (intOf o + 1).toNat)
 case atStart =>
  obtain ⟨i', rfl⟩ : ∃ i', i = i' + 1 := ⟨i - 1, by omega⟩
  exact ⟨_, i', rfl, by omega, by go_num, rfl, bR _ _⟩
 case round =>
  obtain ⟨wi, k, rfl, hk, rfl, ha, hE⟩ := hrel
  have HA := hQq ha; have HE := hQq hE
  clear ha
  have hkb : k < t.length := by omega
  obtain ⟨bb, off, va, hex, hbx, _, dk, _⟩ := HV.out.tr k hkb
  cases hex
  have HGK := hQq (getT_at t k hkb)
  have ck : wi.cell? _ = _ := (eC hE hbx).trans dk
  have ci : wi.cell? _ = _ := (eC hE hbi).trans di
  have cn : wi.cell? _ = _ := (eC hE hbi).trans ni
  have k1 : ((k : Nat) : Int) < (t.length : Int) := by omega
  have k0 : (0 : Int) <= (k : Int) := by omega
  have kw : IntKind.i64.wrap ((k : Int) - 1) = (k : Int) - 1 := IntWalk.i64_in _ (by omega)
  clear hE dk di ni
  by_cases hd : (t[k]'hkb).dep < (t[i]'hi).dep
  case neg =>
   have hR : abvE t (getT t i).dep (k + 1) = abvE t (getT t i).dep k := by rw [abvE.eq_2, HGI.out, HGK.out, if_neg hd]
   have hkz : k ≠ 0 := by
    rintro rfl
    have h1 := HGE.out
    rw [<- HA.out, hR] at h1
    exact absurd h1 (by show ¬ (0 : Int) <= -1; decide)
   obtain ⟨k, rfl⟩ : ∃ k', k = k' + 1 := ⟨k - 1, by omega⟩
   have HR := hQq hR; clear hR
   have hd' : decide ((t[i]'hi).dep <= (t[k + 1]'hkb).dep) = true := decide_eq_true (by omega)
   go_wp2
   go_quiet (fail)
   go_wp2
   go_roundw
   case rel => exact ⟨_, k, rfl, by omega, by go_num, by rw [<- HR.out]; exact HA.out, HE.out.trans (eDn _ _)⟩
   case measure => first | (simp [intOf]; done) | (simp [intOf]; omega)
  have HR : Hid ((k : Int) = abv t i) := hQq (by rw [<- HA.out]; unfold abvE; rw [HGI.out, HGK.out, if_pos hd])
  have hd' : decide ((t[i]'hi).dep <= (t[k]'hkb).dep) = false := decide_eq_false (by omega)
  go_wp2
  go_quiet (fail)
  go_wp2
  refine nW (P := fun W => Code.wp _ _ _ _ W) _ ?_
  intro W hW
  have HEW : Hid (Ext w W) := hQq (by rw [hW]; exact HE.out.trans (by first | exact eDn _ _ | exact eD _))
  clear hW ck ci cn
  have hcn : W.cell? ⟨bi, offi + i * 8 + 1, none⟩ = some (.string (t[i]'hi).nm) := (eC HEW.out hbi).trans HNI.out
  have HL : Hid ((pathT t k).length <= 1000) := hQq (by have := pathT_len t k; omega)
  have HPK : Hid (pathT t i = pathT t k ++ [(t[i]'hi).nm]) := hQq (by rw [HPS.out, <- HR.out, HGI.out]; rfl)
  go_region_held3 (fun w' => w'.cell? ⟨bi, offi + i * 8 + 1, none⟩ = some (.string (t[i]'hi).nm)) (first | go_keep | skip)
   (first
    | (go_at_call 136; refine (IH.out k hk B _ _ (by first | exact HV.out.ext okT (HEW.out.trans (eD _)) | exact HV.out.ext okT (HEW.out.trans ((eA _ _).trans (eD _)))) hkb).mono ?_; rintro e w1 ⟨⟨a1, n1, cap1, rfl, ho⟩, hb1⟩; have HB1 := hQq hb1; have HO1 := hQq ho; have HE1 : Hid (Ext W w1) := hQq (by first | exact (eD _).trans hb1 | exact ((eA _ _).trans (eD _)).trans hb1); have HO2 : Hid (OwnL cdS w.heap.size w1 (.slice a1 n1 cap1) (pathT t k)) := hQq (OwnL.le (B' := w.heap.size) ho okS (fun _ _ _ h => h) (by have := HEW.out.size; simp; omega)); have cn1 : w1.cell? ⟨bi, offi + i * 8 + 1, none⟩ = some (.string (t[i]'hi).nm) := (eC (HEW.out.trans HE1.out) hbi).trans HNI.out; clear hb1 ho)
    | (refine wp_appL okS (.tmp 25) (.tmp 31) (by rfl) (.slice a1 n1 cap1) _ (pathT t k) [(t[i]'hi).nm] w _ (by rfl) (by rfl) (by first | exact HO2.out | exact HO2.out.ext okS (eA _ _)) (by first | exact listIn_new okS _ (t[i]'hi).nm [.string (t[i]'hi).nm] _ rfl rfl | exact ((listIn_new okS W (t[i]'hi).nm [.string (t[i]'hi).nm] _ rfl rfl).ext okS (eD _)).ext okS HB1.out) (by first | exact HEW.out.trans HE1.out | exact (HEW.out.trans HE1.out).trans (eA _ _)) (by have := HEW.out.size; have := HE1.out.size; first | omega | (simp; omega)) (by have := HL.out; simp; omega) ?_; intro v5 w3 ha; have HAP := hQq ha; clear ha; have cn3 : w3.cell? ⟨bi, offi + i * 8 + 1, none⟩ = some (.string (t[i]'hi).nm) := (eC HAP.out.below hbi).trans HNI.out)
    | fail)
  all_goals
   go_wp2
   obtain ⟨a6, cap6, rfl⟩ := HAP.out.own.form
   go_ret
   exact ⟨⟨_, _, _, rfl, by rw [HPK.out]; exact HAP.out.own⟩, HAP.out.below⟩
theorem seenR_first {b : List BrN} {r : List ByteArray} : ∀ {n k : Nat}, k < n -> r = (getB b k).red -> seenR b r n = true
 | n + 1, k, hk, h => by
  unfold seenR
  by_cases e : k = n
  ·subst e; rw [decide_eq_true h, Bool.or_true]
  ·rw [seenR_first (by omega) h, Bool.true_or]
set_option maxRecDepth 100000 in
set_option maxHeartbeats 16000000 in
theorem refMarks0 (B : Nat) (w : World) (v : Value) (b : List BrN) (i : Nat) (hb : BrIn B w v b) (_hB : B <= w.heap.size) (hsm : SmallB b) (hok : AllOk (plT b) (plT b).length) (hi : i < b.length) (hled : ¬ 0 < (getB b i).red.length) :
  RetB Tryz.prog 75 #[v, .int .i64 i] w (.int .i64 (marksE b i)) := by
 unfold RetB
 obtain ⟨aa, cap, rfl⟩ := hb.form
 have HV := hQq hb; clear hb
 have HSM := hQq hsm; have HOK := hQq hok
 have hlen := hsm.len
 clear hsm hok
 obtain ⟨bi, offi, vai, vri, hei, hbi, hva, hvr, xx⟩ := HV.out.br i hi
 cases hei
 have HG := hQq (getB_at b i hi)
 rw [getB_at b i hi] at hled
 have HRL := hQq (HSM.out.red _ (List.getElem_mem hi))
 obtain ⟨a3, cap3, rfl⟩ := hva.form
 obtain ⟨a4, cap4, rfl⟩ := hvr.form
 have HVR := hQq hvr
 generalize b[i]'hi = x at HG HRL HVR hva xx hled
 obtain ⟨c0, c1, c2, c3, c4, c5, c6, c7, c8, c9⟩ := xx
 have j1 : ((i : Nat) : Int) < (b.length : Int) := by omega
 have j0 : (0 : Int) <= (i : Int) := by omega
 clear hva hvr
 have hled' := lenZ hled
 by_cases hk : x.opq = true /\ x.kd ≠ 1
 ·have HR := hQq (marks_kind HG.out (.inl ⟨.inl hk.1, hk.2⟩))
  have q1 : (x.kd != 1) = true := bne_iff_ne.2 hk.2
  have q2 := hk.1
  rw [q2] at c8
  clear hk
  go_enter Tryz.func75, Tryz.ntmps75
  go_wp2
  go_ret
  exact ⟨by rw [HR.out]; rfl, eA _ _⟩
 have HR := hQq (marks_under HG.out hk hled)
 have HC8 := hQq c8
 have HU0 : Hid ((x.kd == 5) = false -> underB b i = false) := hQq (fun h => by unfold underB; rw [HG.out, h]; rfl)
 have HU1 : Hid (¬ 0 <= abv (plT b) i -> underB b i = false) := hQq (fun h => by unfold underB; rw [decide_eq_false h]; simp)
 have HU2 : Hid ((x.kd == 5) = true -> ∀ m : Nat, abv (plT b) i = m -> underB b i = (getB b m).opq) := hQq (fun h m e => by unfold underB; rw [HG.out, h, e, decide_eq_true (by omega)]; simp)
 cases hop : x.opq <;> cases hz : ((i : Int) == 0) <;> cases h5 : (x.kd == 5)
 all_goals rw [hop] at c8
 all_goals
  have q1 : x.opq = true -> (x.kd != 1) = false := fun e => by
   by_cases e1 : x.kd = 1
   ·exact bne_eq_false_iff_eq.2 e1
   ·exact absurd ⟨e, e1⟩ hk
 case' false.false.false | false.true.false | true.false.false | true.true.false =>
  have HU := hQq (HU0.out h5)
  obtain ⟨A, hA⟩ : ∃ A, abv (plT b) i = A := ⟨_, rfl⟩
  have HAB := hQq hA
  have HM : ∃ (m : Nat) (om : Bool), w.cell? ⟨bi, offi + m * 10 + 8, none⟩ = some (.bool om) := ⟨i, _, c8⟩
  obtain ⟨m, om, hmc⟩ := HM
  have m1 : (0 : Int) <= (i : Int) := j0
  have m2 : (0 : Int) <= (i : Int) := j0
  clear hA
 case' true.false.true | true.true.true =>
  exfalso
  have := q1 hop
  rw [bne_eq_false_iff_eq] at this; rw [beq_iff_eq] at h5; omega
 case' false.false.true | false.true.true =>
  have hbd := abv_bd (plT b) i
  by_cases hge : 0 <= abv (plT b) i
  case' neg =>
   have HU := hQq (HU1.out hge)
   have hA : abv (plT b) i = -1 := by omega
   obtain ⟨A, hA⟩ : ∃ A, abv (plT b) i = A := ⟨_, rfl⟩
   obtain rfl : A = -1 := by omega
   have HAB := hQq hA
   have HM : ∃ (m : Nat) (om : Bool), w.cell? ⟨bi, offi + m * 10 + 8, none⟩ = some (.bool om) := ⟨i, _, c8⟩
   obtain ⟨m, om, hmc⟩ := HM
   have m1 : (0 : Int) <= (i : Int) := j0
   have m2 : (0 : Int) <= (i : Int) := j0
   clear hA hge hbd
  case' pos =>
   obtain ⟨m, hm⟩ : ∃ m : Nat, abv (plT b) i = m := ⟨(abv (plT b) i).toNat, by omega⟩
   have hmb : m < b.length := by omega
   obtain ⟨bm, offm, vam, vrm, hem, hbm, _, _, _, _, _, _, _, _, _, _, d8, _⟩ := HV.out.br m hmb
   cases hem
   have HU := hQq (HU2.out h5 m hm)
   rw [getB_at b m hmb] at HU
   have HAB := hQq hm
   have m1 : (0 : Int) <= (m : Int) := by omega
   have m2 : (m : Int) < (b.length : Int) := by omega
   cases hom : (b[m]'hmb).opq
   all_goals
    rw [hom] at HU d8
    have hmc := d8
    clear hm hge hbd d8
 all_goals
  try have q2 := q1 hop
  clear hk q1 hop
  go_enter Tryz.func75, Tryz.ntmps75
  go_wp2_with (go_at_call 98; refine (refAbove B _ _ b i (HV.out.ext okB (eA _ _)) hlen hi).mono ?_; rintro e w1 ⟨rfl, hb1⟩; rw [HAB.out]; have HB1 : Hid (Ext w w1) := hQq (Ext.trans (eA _ _) hb1); have X1 := hQq (bX hb1 (bN w _)); clear hb1; have y2 := bC X1.out 2; have y8 := (eC HB1.out hbi).trans hmc)
  go_ret
  exact ⟨by rw [HR.out, HU.out]; rfl, HB1.out⟩
set_option maxRecDepth 100000 in
set_option maxHeartbeats 16000000 in
theorem refMarks1 (B : Nat) (w : World) (v : Value) (b : List BrN) (i : Nat) (hb : BrIn B w v b) (hB : B <= w.heap.size) (hsm : SmallB b) (hok : AllOk (plT b) (plT b).length) (hi : i < b.length) (hled : 0 < (getB b i).red.length) :
  RetB Tryz.prog 75 #[v, .int .i64 i] w (.int .i64 (marksE b i)) := by
 unfold RetB
 obtain ⟨aa, cap, rfl⟩ := hb.form
 have HV := hQq hb; clear hb
 have HSM := hQq hsm; have HOK := hQq hok
 have hlen := hsm.len
 clear hsm hok
 obtain ⟨bi, offi, vai, vri, hei, hbi, hva, hvr, xx⟩ := HV.out.br i hi
 cases hei
 have HG := hQq (getB_at b i hi)
 rw [getB_at b i hi] at hled
 have HRL := hQq (HSM.out.red _ (List.getElem_mem hi))
 obtain ⟨a3, cap3, rfl⟩ := hva.form
 obtain ⟨a4, cap4, rfl⟩ := hvr.form
 have HVR := hQq hvr
 generalize b[i]'hi = x at HG HRL HVR hva xx hled
 obtain ⟨c0, c1, c2, c3, c4, c5, c6, c7, c8, c9⟩ := xx
 have j1 : ((i : Nat) : Int) < (b.length : Int) := by omega
 have j0 : (0 : Int) <= (i : Int) := by omega
 clear hva hvr
 have hled' := lenP hled
 by_cases hk1 : x.kd = 1
 case neg =>
  have HR := hQq (marks_kind HG.out (.inl ⟨.inr hled, hk1⟩))
  have q1 : (x.kd != 1) = true := bne_iff_ne.2 hk1
  clear hk1
  cases hop : x.opq
  all_goals
   rw [hop] at c8
   go_enter Tryz.func75, Tryz.ntmps75
   go_wp2
   go_ret
   exact ⟨by rw [HR.out]; rfl, eA _ _⟩
 have q1 : (x.kd != 1) = false := bne_eq_false_iff_eq.2 hk1
 by_cases hi0 : i = 0
 ·have HR := hQq (marks_kind HG.out (.inr ⟨hi0, hled⟩))
  have hz : ((i : Int) == 0) = true := beq_iff_eq.2 (by omega)
  clear hi0 hk1
  cases hop : x.opq
  all_goals
   rw [hop] at c8
   go_enter Tryz.func75, Tryz.ntmps75
   go_wp2
   go_ret
   exact ⟨by rw [HR.out]; rfl, eA _ _⟩
 have hz : ((i : Int) == 0) = false := nB (by omega)
 cases hop : x.opq
 case true =>
  have HR := hQq (marks_both HG.out hk1 hi0 hop hled)
  rw [hop] at c8
  clear hk1 hi0
  go_enter Tryz.func75, Tryz.ntmps75
  go_wp2
  go_ret
  exact ⟨by rw [HR.out]; rfl, eA _ _⟩
 have HC := hQq (And.intro hk1 (And.intro hi0 (And.intro hop hled)))
 rw [hop] at c8
 have HP0 : Hid (∀ o, StrsAt (w.alloc o) (.slice a4 x.red.length cap4) x.red) := hQq (fun o => strs_ext HVR.out (eA _ _))
 by_cases hpe : pathE x.red = 0
 case neg =>
  have HR := hQq (marks_path HG.out hk1 hi0 hop hled hpe)
  have q2 : (pathE x.red != 0) = true := bne_iff_ne.2 hpe
  clear hk1 hi0 hop hpe
  go_enter Tryz.func75, Tryz.ntmps75
  go_wp2_with (go_at_call 135; refine (refPathCheck _ x.red _ (HP0.out _) HRL.out.2).mono ?_; rintro e w1 ⟨rfl, rfl⟩)
  go_ret
  exact ⟨by rw [HR.out]; rfl, eA _ _⟩
 have q2 : (pathE x.red != 0) = false := bne_eq_false_iff_eq.2 hpe
 have HPE := hQq hpe
 clear hk1 hi0 hop hpe
 go_enter Tryz.func75, Tryz.ntmps75
 go_wp2_with (go_at_call 135; refine (refPathCheck _ x.red _ (HP0.out _) HRL.out.2).mono ?_; rintro e w1 ⟨rfl, rfl⟩)
 refine nW (P := fun W => Code.wp _ _ _ _ W) _ ?_
 intro W hW
 have HXB : Hid (W.heap[w.heap.size]? = some (.cells #[.int .i64 x.dep, .string x.nm, .int .i64 x.kd, .slice a3 x.ats.length cap3, .string x.dat, .int .i64 x.ma, .int .i64 x.mi, .int .i64 x.cl, .bool false, .slice a4 x.red.length cap4] 41 (0, 0))) := hQq (by rw [hW]; exact bN w _)
 have HE : Hid (Ext w W) := hQq (by rw [hW]; exact eA _ _)
 clear hW c0 c1 c2 c3 c4 c5 c6 c7 c8 c9
 have y9 : W.cell? ⟨w.heap.size, 9, none⟩ = some (.slice a4 x.red.length cap4) := bC HXB.out 9
 have HPL : Hid ((plT b).length <= 1000) := hQq (by rw [plT_len]; exact hlen)
 by_cases heq : x.red = pathT (plT b) i
 ·have HR := hQq (marks_self HG.out HC.out.1 HC.out.2.1 HC.out.2.2.1 HC.out.2.2.2 HPE.out heq)
  have HQ := hQq (decide_eq_true heq)
  clear heq
  go_region_held3 (fun w' => w'.cell? ⟨w.heap.size, 9, none⟩ = some (.slice a4 x.red.length cap4)) (first | go_keep | skip)
   (first
    | (go_at_call 45; refine (refTree B _ _ b (by first | exact HV.out.ext okB (HE.out.trans (eD _)) | exact HV.out.ext okB (HE.out.trans (eDn _ _))) (by have := HE.out.size; simp; omega) hlen HSM.out.ats).mono ?_; rintro e w1 ⟨⟨a5, cap5, rfl, ho⟩, hb1⟩; have HO1 := hQq ho; have HB1 : Hid (Ext W w1) := hQq (by first | exact (eD _).trans hb1 | exact (eDn _ _).trans hb1); have z9 : w1.cell? ⟨w.heap.size, 9, none⟩ = some (.slice a4 x.red.length cap4) := bC (bX HB1.out HXB.out) 9; clear ho hb1)
    | (go_at_call 136; refine (refPath (plT b) HPL.out HOK.out i _ _ _ (HO1.out.in okT) (by rw [plT_len]; exact hi)).mono ?_; rintro e w2 ⟨⟨a6, n6, cap6, rfl, ho⟩, hb2⟩; have HO2 := hQq ho; have HB2 : Hid (Ext W w2) := hQq (HB1.out.trans hb2); have z9 : w2.cell? ⟨w.heap.size, 9, none⟩ = some (.slice a4 x.red.length cap4) := bC (bX HB2.out HXB.out) 9; clear ho hb2)
    | (go_at_call 74; refine (refSameS _ _ x.red (pathT (plT b) i) _ (strs_ext HVR.out (HE.out.trans HB2.out)) (HO2.out.in okS).strs (by have := HRL.out.1; omega)).mono ?_; rintro e w3 ⟨rfl, hb3⟩; rw [HQ.out]; have HB4 : Hid (Ext W w3) := hQq (HB2.out.trans hb3); have HB3 : Hid (Ext w w3) := hQq (HE.out.trans HB4.out); have z9 : w3.cell? ⟨w.heap.size, 9, none⟩ = some (.slice a4 x.red.length cap4) := bC (bX HB4.out HXB.out) 9; clear hb3)
    | fail)
  all_goals
   go_wp2
   go_ret
   exact ⟨by rw [HR.out]; rfl, HB3.out⟩
 have HNE := hQq heq
 have HQ := hQq (decide_eq_false heq)
 clear heq
 go_region_held3 (fun w' => w'.cell? ⟨w.heap.size, 9, none⟩ = some (.slice a4 x.red.length cap4)) (first | go_keep | skip)
  (first
    | (go_at_call 45; refine (refTree B _ _ b (by first | exact HV.out.ext okB (HE.out.trans (eD _)) | exact HV.out.ext okB (HE.out.trans (eDn _ _))) (by have := HE.out.size; simp; omega) hlen HSM.out.ats).mono ?_; rintro e w1 ⟨⟨a5, cap5, rfl, ho⟩, hb1⟩; have HO1 := hQq ho; have HB1 : Hid (Ext W w1) := hQq (by first | exact (eD _).trans hb1 | exact (eDn _ _).trans hb1); have z9 : w1.cell? ⟨w.heap.size, 9, none⟩ = some (.slice a4 x.red.length cap4) := bC (bX HB1.out HXB.out) 9; clear ho hb1)
    | (go_at_call 136; refine (refPath (plT b) HPL.out HOK.out i _ _ _ (HO1.out.in okT) (by rw [plT_len]; exact hi)).mono ?_; rintro e w2 ⟨⟨a6, n6, cap6, rfl, ho⟩, hb2⟩; have HO2 := hQq ho; have HB2 : Hid (Ext W w2) := hQq (HB1.out.trans hb2); have z9 : w2.cell? ⟨w.heap.size, 9, none⟩ = some (.slice a4 x.red.length cap4) := bC (bX HB2.out HXB.out) 9; clear ho hb2)
    | (go_at_call 74; refine (refSameS _ _ x.red (pathT (plT b) i) _ (strs_ext HVR.out (HE.out.trans HB2.out)) (HO2.out.in okS).strs (by have := HRL.out.1; omega)).mono ?_; rintro e w3 ⟨rfl, hb3⟩; rw [HQ.out]; have HB4 : Hid (Ext W w3) := hQq (HB2.out.trans hb3); have HB3 : Hid (Ext w w3) := hQq (HE.out.trans HB4.out); have z9 : w3.cell? ⟨w.heap.size, 9, none⟩ = some (.slice a4 x.red.length cap4) := bC (bX HB4.out HXB.out) 9; clear hb3)
    | fail)
 go_wp2
 have q5 : (x.kd == 5) = false := by rw [HC.out.1]; rfl
 clear z9 y9
 go_loopw [7] (fun o w' => ∃ (wi : World) (k : Nat), wi = w' /\ k <= i /\ o = .int .i64 k /\ seenR b x.red k = false /\ Ext W wi) (fun o _ => i - (intOf o).toNat)
 case atStart => exact ⟨_, 0, rfl, Nat.zero_le _, rfl, rfl, HB4.out⟩
 case round =>
  clear HB3 HB4 HB2 HB1 HO1 HO2
  obtain ⟨wi, k, rfl, hk, rfl, hs, hb⟩ := hrel
  have HS := hQq hs; have HB := hQq hb
  clear hs hb
  have HWI : Hid (Ext w wi) := hQq (HE.out.trans HB.out)
  by_cases hlt : k < i
  case neg =>
   obtain rfl : k = i := by omega
   have HR := hQq (marks_led HG.out HC.out.1 HC.out.2.1 HC.out.2.2.1 HC.out.2.2.2 HPE.out HNE.out HS.out)
   go_wp2_with (go_at_call 98; refine (refAbove B _ _ b k (HV.out.ext okB HWI.out) hlen hi).mono ?_; rintro e w1 ⟨rfl, hb1⟩; have HB1 : Hid (Ext W w1) := hQq (Ext.trans HB.out hb1); clear hb1; have y2 : w1.cell? ⟨w.heap.size, 2, none⟩ = some (.int .i64 x.kd) := bC (bX HB1.out HXB.out) 2)
   go_ret
   exact ⟨by rw [HR.out]; rfl, HE.out.trans HB1.out⟩
  have hkb : k < b.length := by omega
  obtain ⟨bk, offk, vak, vrk, hek, hbk, _, hvrk, _, _, _, _, _, _, _, _, _, d9⟩ := HV.out.br k hkb
  cases hek
  obtain ⟨ak, capk, rfl⟩ := hvrk.form
  have HVK := hQq hvrk
  have HGK := hQq (getB_at b k hkb)
  generalize b[k]'hkb = y at HVK HGK d9
  have HD9 := hQq d9
  clear hvrk d9
  have y9 : wi.cell? ⟨w.heap.size, 9, none⟩ = some (.slice a4 x.red.length cap4) := bC (bX HB.out HXB.out) 9
  have x9 : wi.cell? ⟨bi, offi + k * 10 + 9, none⟩ = some (.slice ak y.red.length capk) := (eC HWI.out hbi).trans HD9.out
  have k1 : ((k : Nat) : Int) < (b.length : Int) := by omega
  have k0 : (0 : Int) <= (k : Int) := by omega
  have k2 : ((k : Nat) : Int) < (i : Int) := by omega
  by_cases he : x.red = y.red
  ·have HR := hQq (marks_seen HG.out HC.out.1 HC.out.2.1 HC.out.2.2.1 HC.out.2.2.2 HPE.out HNE.out (seenR_first hlt (by rw [HGK.out]; exact he)))
   have HQ2 := hQq (decide_eq_true he)
   clear he
   go_wp2
   go_region_held3 (fun w' => w'.cell? ⟨w.heap.size, 9, none⟩ = some (.slice a4 x.red.length cap4) /\ w'.cell? ⟨bi, offi + k * 10 + 9, none⟩ = some (.slice ak y.red.length capk)) (first | go_keep | skip)
    (first
     | (go_at_call 74; refine (refSameS _ _ x.red y.red _ (by first | exact strs_ext HVR.out (HWI.out.trans (eD _)) | exact strs_ext HVR.out (HWI.out.trans (eDn _ _))) (by first | exact strs_ext HVK.out (HWI.out.trans (eD _)) | exact strs_ext HVK.out (HWI.out.trans (eDn _ _))) (by have := HRL.out.1; omega)).mono ?_; rintro e w3 ⟨rfl, hb3⟩; rw [HQ2.out]; have HB5 : Hid (Ext W w3) := hQq (by first | exact (HB.out.trans (eD _)).trans hb3 | exact (HB.out.trans (eDn _ _)).trans hb3); have z9 : w3.cell? ⟨w.heap.size, 9, none⟩ = some (.slice a4 x.red.length cap4) := bC (bX HB5.out HXB.out) 9; have t9 : w3.cell? ⟨bi, offi + k * 10 + 9, none⟩ = some (.slice ak y.red.length capk) := (eC (HE.out.trans HB5.out) hbi).trans HD9.out; clear hb3)
     | fail)
   all_goals
    go_wp2
    go_ret
    exact ⟨by rw [HR.out]; rfl, HE.out.trans HB5.out⟩
  ·have HN : Hid (seenR b x.red (k + 1) = false) := hQq (by rw [seenR.eq_2, HS.out, HGK.out, decide_eq_false he]; rfl)
   have HQ2 := hQq (decide_eq_false he)
   clear he
   go_wp2
   go_region_held3 (fun w' => w'.cell? ⟨w.heap.size, 9, none⟩ = some (.slice a4 x.red.length cap4) /\ w'.cell? ⟨bi, offi + k * 10 + 9, none⟩ = some (.slice ak y.red.length capk)) (first | go_keep | skip)
    (first
     | (go_at_call 74; refine (refSameS _ _ x.red y.red _ (by first | exact strs_ext HVR.out (HWI.out.trans (eD _)) | exact strs_ext HVR.out (HWI.out.trans (eDn _ _))) (by first | exact strs_ext HVK.out (HWI.out.trans (eD _)) | exact strs_ext HVK.out (HWI.out.trans (eDn _ _))) (by have := HRL.out.1; omega)).mono ?_; rintro e w3 ⟨rfl, hb3⟩; rw [HQ2.out]; have HB5 : Hid (Ext W w3) := hQq (by first | exact (HB.out.trans (eD _)).trans hb3 | exact (HB.out.trans (eDn _ _)).trans hb3); have z9 : w3.cell? ⟨w.heap.size, 9, none⟩ = some (.slice a4 x.red.length cap4) := bC (bX HB5.out HXB.out) 9; have t9 : w3.cell? ⟨bi, offi + k * 10 + 9, none⟩ = some (.slice ak y.red.length capk) := (eC (HE.out.trans HB5.out) hbi).trans HD9.out; clear hb3)
     | fail)
   go_wp2
   go_roundw
   case rel => exact ⟨_, k + 1, rfl, by omega, by go_num, HN.out, HB5.out⟩
   case measure => first | (simp [intOf]; done) | (simp [intOf]; omega)
set_option maxRecDepth 100000 in
theorem refMarks19 (B : Nat) (w : World) (v : Value) (b : List BrN) (i : Nat) (hb : BrIn B w v b) (hB : B <= w.heap.size) (hsm : SmallB b) (hok : AllOk (plT b) (plT b).length) (hi : i < b.length) :
  RetB Tryz.prog 75 #[v, .int .i64 i] w (.int .i64 (marksE b i)) := by
 by_cases h : 0 < (getB b i).red.length
 ·exact refMarks1 B w v b i hb hB hsm hok hi h
 ·exact refMarks0 B w v b i hb hB hsm hok hi h
set_option maxRecDepth 100000 in
set_option maxHeartbeats 8000000 in
theorem refBrCheck (B : Nat) (w : World) (v : Value) (b : List BrN) (hb : BrIn B w v b) (hB : B <= w.heap.size) (hsm : SmallB b) :
  RetB Tryz.prog 21 #[v] w (.tuple #[.int .i64 (brNo b), .int .i64 (brEr b)]) := by
 unfold RetB
 obtain ⟨aa, cap, rfl⟩ := hb.form
 have HV := hQq hb; clear hb
 have HSM := hQq hsm
 have hlen := hsm.len
 clear hsm
 by_cases ht : treeE (plT b) = 0
 case neg =>
  have HR := hQq (br_of (brT_tree ht))
  have q1 : (treeE (plT b) != 0) = true := bne_iff_ne.2 ht
  clear ht
  go_enter Tryz.func21, Tryz.ntmps21
  go_wp2_with (first | (go_at_call 45; refine (refTree B _ _ b HV.out hB hlen HSM.out.ats).mono ?_; rintro e w1 ⟨⟨a5, cap5, rfl, ho⟩, hb1⟩; have HO1 := hQq ho; have HB1 := hQq hb1; clear ho hb1) | (go_at_call 19; refine (refTreeCheck _ _ (plT b) _ (HO1.out.in okT) HSM.out.tree).mono ?_; rintro e w2 ⟨rfl, hb2⟩; have HB2 := hQq (Ext.trans HB1.out hb2); clear hb2))
  go_ret2
  exact ⟨by rw [HR.out.1, HR.out.2]; rfl, HB2.out⟩
 have HT := hQq ht
 have HZ := hQq (treeE_zero ht)
 have q1 : (treeE (plT b) != 0) = false := bne_eq_false_iff_eq.2 ht
 clear ht
 go_enter Tryz.func21, Tryz.ntmps21
 go_wp2_with (first | (go_at_call 45; refine (refTree B _ _ b HV.out hB hlen HSM.out.ats).mono ?_; rintro e w1 ⟨⟨a5, cap5, rfl, ho⟩, hb1⟩; have HO1 := hQq ho; have HB1 := hQq hb1; clear ho hb1) | (go_at_call 19; refine (refTreeCheck _ _ (plT b) _ (HO1.out.in okT) HSM.out.tree).mono ?_; rintro e w2 ⟨rfl, hb2⟩; have HB2 := hQq (Ext.trans HB1.out hb2); clear hb2))
 go_loopw [5, 6] (fun _ i w' => ∃ (wi : World) (k : Nat), wi = w' /\ k <= b.length /\ i = .int .i64 k /\ (∀ j, j < k -> marksE b j = 0) /\ Ext w wi) (fun _ i _ => b.length - (intOf i).toNat)
 case atStart => exact ⟨_, 0, rfl, Nat.zero_le _, rfl, fun j hj => absurd hj (by omega), HB2.out⟩
 case round =>
  clear HB2 HO1 HB1
  obtain ⟨wi, k, rfl, hk, rfl, hp, hE⟩ := hrel
  have HP := hQq hp; have HE := hQq hE
  clear hp hE
  by_cases hlt : k < b.length
  case neg =>
   obtain rfl : k = b.length := by omega
   have HR := hQq (br_of (brT_ok HT.out HP.out))
   go_wp2
   go_ret2
   exact ⟨by rw [HR.out.1, HR.out.2]; rfl, HE.out⟩
  have j1 : ((k : Nat) : Int) < (b.length : Int) := by omega
  have j0 : (0 : Int) <= (k : Int) := by omega
  by_cases he : marksE b k = 0
  case neg =>
   have HR := hQq (br_of (brT_mark HT.out hlt HP.out he))
   have q2 : (marksE b k != 0) = true := bne_iff_ne.2 he
   clear he
   go_wp2_with (go_at_call 75; refine (refMarks19 B _ _ b k (HV.out.ext okB HE.out) (Nat.le_trans hB HE.out.size) HSM.out HZ.out.2.2.1 hlt).mono ?_; rintro e w3 ⟨rfl, hb3⟩; have HB3 := hQq (Ext.trans HE.out hb3); clear hb3)
   go_ret2
   exact ⟨by rw [HR.out.1, HR.out.2]; rfl, HB3.out⟩
  have q2 : (marksE b k != 0) = false := bne_eq_false_iff_eq.2 he
  have HN : Hid (∀ j, j < k + 1 -> marksE b j = 0) := by
   intro j hj
   by_cases e : j = k
   ·subst e; exact he
   ·exact HP.out j (by omega)
  clear he
  go_wp2_with (go_at_call 75; refine (refMarks19 B _ _ b k (HV.out.ext okB HE.out) (Nat.le_trans hB HE.out.size) HSM.out HZ.out.2.2.1 hlt).mono ?_; rintro e w3 ⟨rfl, hb3⟩; have HB3 := hQq (Ext.trans HE.out hb3); clear hb3)
  go_roundw
  case rel => exact ⟨_, k + 1, rfl, by omega, by go_num, HN.out, HB3.out⟩
  case measure => first | (simp [intOf]; done) | (simp [intOf]; omega)
section
variable {P : Program} {α : Type} {C : Cd α} {B B' : Nat} {w w' : World} {v : Value} {l : List α}
theorem run_appLX (K : CdOk P C) (ty : TypeId) (v x : Value) (l1 l2 : List α) (w : World) (h1 : OwnL C B w v l1) (h2 : ListIn C B w x l2) (hB : B <= w.heap.size) (hl : l1.length + l2.length <= 1000000000000000000) (hby : (l1.length + l2.length) * C.bytes <= 140737488355328) :
  ∃ v' w', (Builtin.append_ #[C.t, C.t] ty #[v, x]).run P w = .ok v' w' /\ OwnL C B w' v' (l1 ++ l2) /\ w.grownBy w' v.ownBlock /\ (v'.ownBlock = v.ownBlock \/ v'.ownBlock = some w.heap.size) /\ Chg B C.e v.ownBlock w w' := by
 obtain ⟨i, hi, hz, h3, h4⟩ := K.sl.info
 have hrow := h1.row rfl
 obtain ⟨a, cap, rfl, hcap, hn, hc⟩ := h2
 obtain ⟨css, hcl, hR, ho⟩ := h1
 have hlen := OwnL.lens K hcl hR
 cases a with
 | none =>
  obtain rfl : l2 = [] := by
   cases l2 with
   | nil => rfl
   | cons y r => obtain ⟨b, off, cs, h0, _⟩ := hc 0 (by simp); cases h0
  refine ⟨v, w, ?_, by rw [List.append_nil]; exact ⟨css, hcl, hR, ho⟩, ⟨rfl, rfl, rfl, Nat.le_refl _, fun _ _ _ => rfl⟩, .inl rfl, ⟨fun _ _ hb _ => hb, Nat.le_refl _, hrow⟩⟩
  rcases ho.2 with ⟨rfl, h0⟩ | ⟨g, cap', cur, rfl, _, _, hnc, _⟩
  ·simp [Builtin.append_, run_underlying K.sl.und, sizeOf, typeInfo, hi, Builtin.lenOf, Builtin.firstCells]
  ·simp [Builtin.append_, run_underlying K.sl.und, sizeOf, typeInfo, hi, Builtin.lenOf, Builtin.firstCells, hnc, storeCells]
 | some ad =>
  have hex : ∃ dss : List (List Value), dss.length = l2.length /\ ∀ k (h : k < l2.length) (h' : k < dss.length), C.R B w (l2[k]'h) (dss[k]'h') /\ ∀ j c, (dss[k]'h')[j]? = some c -> w.cell? (ad.add (k * C.n + j)) = some c := by
   have : ∀ m, m <= l2.length -> ∃ dss : List (List Value), dss.length = m /\ ∀ k (h : k < l2.length) (h' : k < dss.length), C.R B w (l2[k]'h) (dss[k]'h') /\ ∀ j c, (dss[k]'h')[j]? = some c -> w.cell? (ad.add (k * C.n + j)) = some c := by
    intro m
    induction m with
    | zero => intro _; exact ⟨[], rfl, fun k _ h' => absurd h' (by simp)⟩
    | succ m ih =>
     intro hm
     obtain ⟨dss, hd, hh⟩ := ih (by omega)
     obtain ⟨b, off, cs, h0, hb, hr, hrw⟩ := hc m (by omega)
     refine ⟨dss ++ [cs], by simp [hd], fun k h h' => ?_⟩
     rw [List.getElem_append]
     split
     ·exact hh k h _
     ·have hkm : k = m := by simp at h'; omega
      subst hkm
      simp only [List.getElem_singleton]
      refine ⟨hr, fun j c hj => ?_⟩
      cases h0
      rw [Addr.add_lit, <- Nat.add_assoc]; exact hrw j c hj
   exact this _ (Nat.le_refl _)
  obtain ⟨dss, hdl, hd⟩ := hex
  have hdlen : ∀ cs ∈ dss, cs.length = C.n := by
   intro cs hcs
   obtain ⟨k, hk, rfl⟩ := List.getElem_of_mem hcs
   exact K.len (hd k (by omega) hk).1
  have hcell : ∀ j u, dss.flatten[j]? = some u -> w.cell? (ad.add j) = some u := by
   intro j u hj
   have hp := K.sl.pos
   have hdm : j / C.n * C.n + j % C.n = j := by rw [Nat.mul_comm]; exact Nat.div_add_mod j C.n
   have hml := Nat.mod_lt j hp
   rw [<- hdm, flat_get hdlen _ _ hml] at hj
   rcases Nat.lt_or_ge (j / C.n) dss.length with hk | hk
   ·rw [List.getElem?_eq_getElem hk] at hj
    have := (hd (j / C.n) (by omega) hk).2 (j % C.n) u hj
    rwa [hdm] at this
   ·rw [List.getElem?_eq_none hk] at hj; cases hj
  have hone : ∀ u ∈ dss.flatten, u.oneCell' = true := by
   intro u hu
   obtain ⟨cs, hcs, hu⟩ := List.mem_flatten.1 hu
   obtain ⟨k, hk, rfl⟩ := List.getElem_of_mem hcs
   exact K.one (hd k (by omega) hk).1 u hu
  obtain ⟨v', w', hr, ho', hg, _, hlies⟩ := run_append_own_at (P := P) (w := w) B C.t ty C.e i _ C.n C.bytes K.sl.und hi hz h3 h4 K.sl.zs K.sl.pos v l1.length css.flatten ho ad l2.length cap dss.flatten (by rw [flat_length hdlen, hdl]) hcell hone (by unfold maxLen; omega) hby hB
  have hchg : Chg B C.e v.ownBlock w w' := ⟨keepBut_grown hg, hg.size, hrow⟩
  refine ⟨v', w', hr, ⟨css ++ dss, by simp [hcl, hdl], fun k hk hk' => K.chg ?_ hchg K.self, ?_⟩, hg, hlies, hchg⟩
  ·rw [List.getElem_append, List.getElem_append]
   by_cases hkl : k < l1.length
   ·rw [dif_pos hkl, dif_pos (by omega)]; exact hR k hkl (by omega)
   ·rw [dif_neg hkl, dif_neg (by omega)]
    have := (hd (k - l1.length) (by simp at hk; omega) (by simp at hk; omega)).1
    simp only [hcl]; exact this
  ·rw [List.length_append, List.flatten_append]; exact ho'
variable {o : Oper} {a : Act} {Kx : Act -> World -> Prop} {Q : Exit -> Act -> World -> Prop}
theorem wp_appLX (K : CdOk P C) (s x : Operand) (ho : o.op = .call { callee := .builtin .append, args := #[s, x], argTypes := #[C.t, C.t] })
  (v xv : Value) (l1 l2 : List α) (W0 w : World) (hs : a.eval s = v) (hx : a.eval x = xv) (h1 : OwnL C B w v l1) (h2 : ListIn C B w xv l2) (hb : Below B W0 w) (hB : B <= w.heap.size) (hl : l1.length + l2.length <= 1000000000000000000) (hby : (l1.length + l2.length) * C.bytes <= 140737488355328)
  (h : ∀ v' w', AppL C B v v' (l1 ++ l2) W0 w w' -> Kx (a.put o.dst v') w') : o.wp P a w Kx Q := by
 obtain ⟨v', w', hr, h3, h4, h5, h6⟩ := run_appLX K o.type v xv l1 l2 w h1 h2 hB hl hby
 unfold Oper.wp execOp
 simp only [ho, resolve, invoke, builtin, Sem.run_bind, Sem.run_pure, Result.andThen_ok, List.map_toArray, List.map_cons, List.map_nil, hs, hx, hr]
 exact h v' w' ⟨h3, below_chg hb h4 h1 hB, h6, h5⟩
end
set_option maxRecDepth 100000 in
set_option maxHeartbeats 8000000 in
theorem refNodeX (B : Nat) (w : World) (x : BrN) (va vr : Value) (hx : AttIn B w va x.ats) (hB : B <= w.heap.size) (hl : x.ats.length * 32 <= 140737488355328) (hr : ∃ a n cap, vr = .slice a n cap) :
  Calls Tryz.prog 97 #[brV x va vr] w (PlainP w x) := by
 obtain ⟨a4, n4, cap4, rfl⟩ := hr
 obtain ⟨a3, cap3, rfl⟩ := hx.form
 have HX := hQq hx
 clear hx
 unfold brV
 go_enter Tryz.func97, Tryz.ntmps97
 go_wp2
 refine nW (P := fun W => Code.wp _ _ _ _ W) _ ?_
 intro W hW
 have HXB : Hid (W.heap[w.heap.size]? = some (.cells #[.int .i64 x.dep, .string x.nm, .int .i64 x.kd, .slice a3 x.ats.length cap3, .string x.dat, .int .i64 x.ma, .int .i64 x.mi, .int .i64 x.cl, .bool x.opq, .slice a4 n4 cap4] 41 (0, 0))) := hQq (by rw [hW]; exact bA (bN w _))
 have HZB : Hid (W.heap[w.heap.size + 1]? = some (.cells #[.int .i64 0, .string ⟨#[]⟩, .int .i64 0, .slice none 0 0, .string ⟨#[]⟩, .int .i64 0, .int .i64 0, .int .i64 0] 43 (0, 0))) := hQq (by rw [hW]; exact blk_at (by simp))
 have HE : Hid (Ext w W) := hQq (by rw [hW]; exact (eA _ _).trans (eA _ _))
 clear hW
 have c0 : W.cell? ⟨w.heap.size, 0, none⟩ = some (.int .i64 x.dep) := bC HXB.out 0
 have c1 : W.cell? ⟨w.heap.size, 1, none⟩ = some (.string x.nm) := bC HXB.out 1
 have c2 : W.cell? ⟨w.heap.size, 2, none⟩ = some (.int .i64 x.kd) := bC HXB.out 2
 have c3 : W.cell? ⟨w.heap.size, 3, none⟩ = some (.slice a3 x.ats.length cap3) := bC HXB.out 3
 have c4 : W.cell? ⟨w.heap.size, 4, none⟩ = some (.string x.dat) := bC HXB.out 4
 have c5 : W.cell? ⟨w.heap.size, 5, none⟩ = some (.int .i64 x.ma) := bC HXB.out 5
 have c6 : W.cell? ⟨w.heap.size, 6, none⟩ = some (.int .i64 x.mi) := bC HXB.out 6
 have c7 : W.cell? ⟨w.heap.size, 7, none⟩ = some (.int .i64 x.cl) := bC HXB.out 7
 have fz : ∀ j, W.frozen? ⟨w.heap.size + 1, j, none⟩ = false := fun j => bT HZB.out j
 have HX1 : Hid (∀ o, AttIn W.heap.size (W.alloc o).drew (.slice a3 x.ats.length cap3) x.ats) := hQq (fun o => (HX.out.mono okA (Nat.le_trans hB HE.out.size)).ext okA ((HE.out.trans (eA _ _)).trans (eD _)))
 have HF1 : Hid (OwnL cdA W.heap.size (W.alloc (.cells #[] cdA.e)).drew (.slice (some ⟨W.heap.size, 0, none⟩) 0 0) []) := hQq ((OwnL.fresh cdA W).ext okA (eD _))
 have fzA : ∀ o j, (W.alloc o).drew.frozen? ⟨w.heap.size + 1, j, none⟩ = false := fun o j => bT (bX ((eA W o).trans (eD _)) HZB.out) j
 go_region_held3 (fun w' => w'.cell? ⟨w.heap.size, 0, none⟩ = some (.int .i64 x.dep) /\ w'.cell? ⟨w.heap.size, 1, none⟩ = some (.string x.nm) /\ w'.cell? ⟨w.heap.size, 2, none⟩ = some (.int .i64 x.kd) /\ w'.cell? ⟨w.heap.size, 3, none⟩ = some (.slice a3 x.ats.length cap3) /\ w'.cell? ⟨w.heap.size, 4, none⟩ = some (.string x.dat) /\ w'.cell? ⟨w.heap.size, 5, none⟩ = some (.int .i64 x.ma) /\ w'.cell? ⟨w.heap.size, 6, none⟩ = some (.int .i64 x.mi) /\ w'.cell? ⟨w.heap.size, 7, none⟩ = some (.int .i64 x.cl) /\ ∀ j, w'.frozen? ⟨w.heap.size + 1, j, none⟩ = false) (first | go_keep | skip)
  ((refine wp_appLX okA (.tmp 9) (.tmp 11) (by rfl) (.slice (some ⟨W.heap.size, 0, none⟩) 0 0) _ [] x.ats W _ (by rfl) (by rfl) (by exact HF1.out) (by exact HX1.out _) (by exact (eA _ _).trans (eD _)) (by simp) (by simp; omega) (by simp [cdA]; omega) ?_; intro v5 w3 ha; have HAP := hQq ha; clear ha; have HE3 : Hid (Ext W w3) := HAP.out.below; have X3 := hQq (blk_below HXB.out HE3.out); have Z3 := hQq (blk_below HZB.out HE3.out); obtain ⟨a5, cap5, rfl⟩ := HAP.out.own.form; have d0 : w3.cell? ⟨w.heap.size, 0, none⟩ = some (.int .i64 x.dep) := bC X3.out 0; have d1 : w3.cell? ⟨w.heap.size, 1, none⟩ = some (.string x.nm) := bC X3.out 1; have d2 : w3.cell? ⟨w.heap.size, 2, none⟩ = some (.int .i64 x.kd) := bC X3.out 2; have d3 : w3.cell? ⟨w.heap.size, 3, none⟩ = some (.slice a3 x.ats.length cap3) := bC X3.out 3; have d4 : w3.cell? ⟨w.heap.size, 4, none⟩ = some (.string x.dat) := bC X3.out 4; have d5 : w3.cell? ⟨w.heap.size, 5, none⟩ = some (.int .i64 x.ma) := bC X3.out 5; have d6 : w3.cell? ⟨w.heap.size, 6, none⟩ = some (.int .i64 x.mi) := bC X3.out 6; have d7 : w3.cell? ⟨w.heap.size, 7, none⟩ = some (.int .i64 x.cl) := bC X3.out 7; have fz3 : ∀ j, w3.frozen? ⟨w.heap.size + 1, j, none⟩ = false := fun j => bT Z3.out j; have r0 : w3.cell? ⟨w.heap.size + 1, 0, none⟩ = some (.int .i64 0) := bC Z3.out 0; have r1 : w3.cell? ⟨w.heap.size + 1, 1, none⟩ = some (.string ⟨#[]⟩) := bC Z3.out 1; have r2 : w3.cell? ⟨w.heap.size + 1, 2, none⟩ = some (.int .i64 0) := bC Z3.out 2; have r3 : w3.cell? ⟨w.heap.size + 1, 3, none⟩ = some (.slice none 0 0) := bC Z3.out 3; have r4 : w3.cell? ⟨w.heap.size + 1, 4, none⟩ = some (.string ⟨#[]⟩) := bC Z3.out 4; have r5 : w3.cell? ⟨w.heap.size + 1, 5, none⟩ = some (.int .i64 0) := bC Z3.out 5; have r6 : w3.cell? ⟨w.heap.size + 1, 6, none⟩ = some (.int .i64 0) := bC Z3.out 6; have r7 : w3.cell? ⟨w.heap.size + 1, 7, none⟩ = some (.int .i64 0) := bC Z3.out 7; have hsz : w.heap.size + 1 < w3.heap.size := bL Z3.out))
 refine nW (P := fun W => Exit.then _ _ _ _ W) _ ?_
 intro W2 hW2
 replace hW2 : W2 = setL w3 (w.heap.size + 1) 0 [.int .i64 x.dep, .string x.nm, .int .i64 x.kd, .slice a5 x.ats.length cap5, .string x.dat, .int .i64 x.ma, .int .i64 x.mi, .int .i64 x.cl] := hW2
 have HZ2 : Hid (W2.heap[w.heap.size + 1]? = some (.cells #[.int .i64 x.dep, .string x.nm, .int .i64 x.kd, .slice a5 x.ats.length cap5, .string x.dat, .int .i64 x.ma, .int .i64 x.mi, .int .i64 x.cl] 43 (0, 0))) := hQq (by rw [hW2, setL_blk _ _ _ _ Z3.out]; rfl)
 have HB2 : Hid (Ext w W2) := hQq (by rw [hW2]; exact setL_below (by omega) _ _ _ (HE.out.trans HE3.out))
 have HO : Hid (AttIn 0 w3 (.slice a5 x.ats.length cap5) x.ats) := hQq ((OwnL.le (B' := 0) HAP.out.own okA (fun _ _ _ h => h) (Nat.zero_le _)).in okA)
 have HA2 : Hid (AttIn 0 W2 (.slice a5 x.ats.length cap5) x.ats) := hQq (by rw [hW2]; exact HO.out.chg okA (setL_chg (by omega) Z3.out _) (by decide) (by decide))
 clear hW2 c0 c1 c2 c3 c4 c5 c6 c7 d0 d1 d2 d3 d4 d5 d6 d7 r0 r1 r2 r3 r4 r5 r6 r7
 have t0 : W2.cell? ⟨w.heap.size + 1, 0, none⟩ = some (.int .i64 x.dep) := bC HZ2.out 0
 have t1 : W2.cell? ⟨w.heap.size + 1, 1, none⟩ = some (.string x.nm) := bC HZ2.out 1
 have t2 : W2.cell? ⟨w.heap.size + 1, 2, none⟩ = some (.int .i64 x.kd) := bC HZ2.out 2
 have t3 : W2.cell? ⟨w.heap.size + 1, 3, none⟩ = some (.slice a5 x.ats.length cap5) := bC HZ2.out 3
 have t4 : W2.cell? ⟨w.heap.size + 1, 4, none⟩ = some (.string x.dat) := bC HZ2.out 4
 have t5 : W2.cell? ⟨w.heap.size + 1, 5, none⟩ = some (.int .i64 x.ma) := bC HZ2.out 5
 have t6 : W2.cell? ⟨w.heap.size + 1, 6, none⟩ = some (.int .i64 x.mi) := bC HZ2.out 6
 have t7 : W2.cell? ⟨w.heap.size + 1, 7, none⟩ = some (.int .i64 x.cl) := bC HZ2.out 7
 go_wp2
 refine bodyPost_ret (v := trV x.toTrN (.slice a5 x.ats.length cap5)) (by simp [results, Tryz.f97, go_sem, t0, t1, t2, t3, t4, t5, t6, t7]) rfl ?_
 exact ⟨⟨_, rfl, HA2.out⟩, HB2.out⟩
set_option maxRecDepth 100000 in
set_option maxHeartbeats 8000000 in
theorem refTreeX (B : Nat) (w : World) (v : Value) (b : List BrN) (hb : BrIn B w v b) (hB : B <= w.heap.size) (hl : b.length <= 1000) (hats : ∀ x ∈ b, x.ats.length * 32 <= 140737488355328) :
  Calls Tryz.prog 45 #[v] w (TreeP w b) := by
 obtain ⟨aa, cap, rfl⟩ := hb.form
 have HV := hQq hb; clear hb
 have HAT := hQq hats; clear hats
 go_enter Tryz.func45, Tryz.ntmps45
 go_wp2
 go_loopw [3, 4] (fun o i w' => ∃ (wi : World) (k : Nat), wi = w' /\ k <= b.length /\ i = .int .i64 k /\ OwnL cdT w.heap.size wi o (plT (b.take k)) /\ Ext w wi) (fun _ i _ => b.length - (intOf i).toNat)
 case atStart => exact ⟨_, 0, rfl, Nat.zero_le _, rfl, OwnL.nil _ _ _, bR _ _⟩
 case round =>
  obtain ⟨wi, k, rfl, hk, rfl, ho, hE⟩ := hrel
  have HO := hQq ho; have HE := hQq hE
  obtain ⟨a5, cap5, rfl⟩ := ho.form
  clear ho hE
  by_cases hlt : k < b.length
  case neg =>
   obtain rfl : k = b.length := by omega
   have HR : Hid (OwnL cdT w.heap.size wi (.slice a5 b.length cap5) (plT b)) := hQq (by have := HO.out; rw [plT_all, plT_len] at this; exact this)
   have hq : (plT (b.take b.length)).length = b.length := by rw [plT_all, plT_len]
   go_wp2
   go_ret
   exact ⟨⟨a5, cap5, by rw [hq]; rfl, HR.out⟩, HE.out⟩
  obtain ⟨bb, off, va, vr, hex, hbx, hva, hvr, xx⟩ := HV.out.br k hlt
  cases hex
  obtain ⟨c0, c1, c2, c3, c4, c5, c6, c7, c8, c9⟩ := cells10 HE.out hbx xx
  have HVA := hQq hva
  obtain ⟨a4, cap4, rfl⟩ := hvr.form
  obtain ⟨a3, cap3, rfl⟩ := hva.form
  have HL : Hid ((b[k]'hlt).ats.length * 32 <= 140737488355328) := HAT.out _ (List.getElem_mem hlt)
  have HS := hQq (plT_succ b k hlt)
  generalize b[k]'hlt = x at c0 c1 c2 c3 c4 c5 c6 c7 c8 c9 HVA HL HS
  have HW : Hid (w.heap.size <= wi.heap.size) := HE.out.size
  have j1 : ((k : Nat) : Int) < (b.length : Int) := by omega
  have j0 : (0 : Int) <= (k : Int) := by omega
  have hq : (plT (b.take k)).length = k := by rw [plT_len, List.length_take]; omega
  have HQ := hQq hq; clear hq
  clear xx hva hvr
  go_wp2_with (first | (go_at_call 97; refine (refNodeX B _ x _ _ (HVA.out.ext okA HE.out) (Nat.le_trans hB HW.out) HL.out ⟨_, _, _, rfl⟩).mono ?_; rintro e w1 ⟨⟨va1, rfl, hv1⟩, hb1⟩; have HV1 := hQq hv1; have HB1 := hQq hb1; clear hv1 hb1) | (at_builtin; refine appL okT rfl (.tmp 11) (.tmp 17) rfl _ _ (plT (b.take k)) [x.toTrN] w _ rfl rfl (by exact (HO.out.ext okT HB1.out).ext okT (eA _ _)) (by exact listIn_new okT _ x.toTrN (trC x.toTrN va1) _ rfl ⟨va1, HV1.out.mono okA (Nat.zero_le _), rfl⟩) (by exact (HE.out.trans HB1.out).trans (eA _ _)) (by have := HB1.out.size; have := HW.out; simp; omega) (by have := HQ.out; simp; omega) ?_; intro v2 w2 ha; have HA := hQq ha; clear ha))
  go_roundw
  case rel => exact ⟨_, k + 1, rfl, by omega, by go_num, by rw [HS.out]; exact HA.out.own, HA.out.below⟩
  case measure => first | (simp [intOf]; done) | (simp [intOf]; omega)
theorem lastE_zero (l : List DeN) : lastE l 0 = ⟨#[]⟩ := rfl
theorem solo_kind {x : TrN} (h : soloE x = 0) : kindE (soloN x) = 0 :=
 (node_parts ((treeE_zero h).2.2.1 1 (by simp))).2.2.1
/-! Entries of a filtered range. -/
theorem filt_take {p : Nat -> Bool} : ∀ {m q i : Nat}, ((List.range m).filter p)[q]? = some i -> p i = true /\ i < m /\ (List.range i).filter p = ((List.range m).filter p).take q
 | 0, q, i, h => by simp at h
 | m + 1, q, i, h => by
  rw [List.range_succ, List.filter_append] at h ⊢
  by_cases hq : q < ((List.range m).filter p).length
  ·rw [List.getElem?_append_left hq] at h
   obtain ⟨h1, h2, h3⟩ := filt_take h
   exact ⟨h1, by omega, by rw [h3, List.take_append_of_le_length (by omega)]⟩
  ·rw [List.getElem?_append_right (by omega)] at h
   by_cases hp : p m = true
   ·rw [List.filter_cons_of_pos hp] at h ⊢
    have hq2 : q - ((List.range m).filter p).length = 0 := by
     have := (List.getElem?_eq_some_iff.1 h).1
     simp at this; omega
    rw [hq2] at h
    simp at h
    subst h
    refine ⟨hp, by omega, ?_⟩
    rw [show q = ((List.range m).filter p).length by omega, List.take_left]
   ·rw [List.filter_cons_of_neg hp] at h
    simp at h
theorem filt_succ (p : Nat -> Bool) (m : Nat) : (List.range (m + 1)).filter p = (List.range m).filter p ++ (if p m = true then [m] else []) := by
 rw [List.range_succ, List.filter_append]
 by_cases hp : p m = true
 ·rw [List.filter_cons_of_pos hp, if_pos hp]; rfl
 ·rw [List.filter_cons_of_neg hp, if_neg hp]; rfl
def kidB (t : List TrN) (n i : Nat) : Bool := decide (abv t i = (n : Int))
def kidsT (t : List TrN) (n k : Nat) : List Nat := (List.range k).filter (kidB t n)
def kidsL (b : List BrN) (n : Nat) : List Nat := kidsT (plT b) n b.length
def classB (t : List TrN) (n i : Nat) : Bool := decide (i = n) || (decide ((getT t n).cl ≠ 0) && decide ((getT t i).cl = (getT t n).cl))
def namesT (t : List TrN) (n k : Nat) : List Nat := (List.range k).filter (classB t n)
def namesL (b : List BrN) (n : Nat) : List Nat := namesT (plT b) n b.length
def notB (t : List TrN) (n i k : Nat) : Bool := decide ((n : Int) < abv t k) || (decide (abv t k = (n : Int)) && decide (i <= k))
def firstB (b : List BrN) (n i : Nat) : Bool := (namesL b i).all (notB (plT b) n i)
def nodX (x : TrN) : TrN := if x.kd = 1 then rootN else { x with dep := 0, nm := ⟨#[]⟩ }
def entD (b : List BrN) (n i : Nat) : DeN := ⟨(getB b i).nm, nodX (getB b i).toTrN, (getB b i).kd == 5, firstB b n i, (namesL b i).length⟩
def dirD (b : List BrN) (n : Nat) : DiN := ⟨(getB b n).ats, (getB b n).opq, (getB b n).red, (kidsL b n).map (entD b n)⟩
/-! What is above a node of a right tree. -/
theorem abvE_spec {t : List TrN} {d : Int} : ∀ {m n : Nat}, abvE t d m = (n : Int) -> n < m /\ (getT t n).dep < d /\ ∀ k, n < k -> k < m -> d <= (getT t k).dep
 | 0, n, h => by unfold abvE at h; omega
 | m + 1, n, h => by
  unfold abvE at h
  by_cases e : (getT t m).dep < d
  ·rw [if_pos e] at h
   obtain rfl : m = n := by omega
   exact ⟨by omega, e, fun k h1 h2 => by omega⟩
  ·rw [if_neg e] at h
   obtain ⟨h1, h2, h3⟩ := abvE_spec h
   refine ⟨by omega, h2, fun k h4 h5 => ?_⟩
   by_cases e2 : k = m
   ·subst e2; omega
   ·exact h3 k h4 (by omega)
theorem abvE_of {t : List TrN} {d : Int} : ∀ {m n : Nat}, n < m -> (getT t n).dep < d -> (∀ k, n < k -> k < m -> d <= (getT t k).dep) -> abvE t d m = (n : Int)
 | m + 1, n, h1, h2, h3 => by
  unfold abvE
  by_cases e : n = m
  ·subst e; rw [if_pos h2]
  ·rw [if_neg (by have := h3 m (by omega) (by omega); omega)]
   exact abvE_of (by omega) h2 fun k h4 h5 => h3 k h4 (by omega)
theorem abv_kid {t : List TrN} {i n : Nat} (hok : AllOk t (i + 1)) (h : abv t i = (n : Int)) : n < i /\ (getT t i).dep = (getT t n).dep + 1 /\ (getT t n).kd = 1 /\ ∀ k, n < k -> k <= i -> (getT t i).dep <= (getT t k).dep := by
 obtain ⟨h1, h2, h3⟩ := abvE_spec h
 obtain ⟨s1, _⟩ := node_parts (hok (n + 1) (by omega))
 have h4 := ((shape_bd s1).2.2.2 (by omega)).2
 rw [Nat.add_sub_cancel] at h4
 have h5 : (getT t i).dep <= (getT t (n + 1)).dep := by
  by_cases e : n + 1 = i
  ·rw [e]; exact Int.le_refl _
  ·exact h3 (n + 1) (by omega) (by omega)
 unfold mostD at h4
 by_cases hk : (getT t n).kd = 1
 ·rw [if_pos hk] at h4
  refine ⟨h1, by omega, hk, fun k h6 h7 => ?_⟩
  by_cases e : k = i
  ·rw [e]; exact Int.le_refl _
  ·exact h3 k h6 (by omega)
 ·rw [if_neg hk] at h4; omega
theorem scan_kids {t : List TrN} {n : Nat} : ∀ {j : Nat}, AllOk t j -> j <= t.length -> n < j -> (∀ k, n < k -> k < j -> (getT t n).dep + 1 <= (getT t k).dep) ->
  (scan (revT t j) ((getT t n).dep + 1)).1 = (kidsT t n j).length /\ (scan (revT t j) ((getT t n).dep + 1)).2 = (kidsT t n j).getLast?.map fun k => (getT t k).nm
 | 0, _, _, h, _ => by omega
 | j + 1, hok, hl, hn, hd => by
  rw [revT_succ t j (by omega), <- getT_at t j (by omega)]
  have hs : kidsT t n (j + 1) = kidsT t n j ++ (if kidB t n j = true then [j] else []) := filt_succ _ _
  by_cases e : n = j
  ·subst e
   rw [scan_lt (by omega)]
   have h0 : ∀ m, m <= n -> kidsT t n m = [] := fun m hm => List.filter_eq_nil_iff.2 fun k hk => by
    have hk := List.mem_range.1 hk
    have := abv_bd t k
    unfold kidB
    rw [decide_eq_true_iff]; omega
   have hk : kidB t n n = false := by unfold kidB; have := abv_bd t n; rw [decide_eq_false_iff_not]; omega
   rw [hs, h0 n (Nat.le_refl _), hk]
   exact ⟨rfl, rfl⟩
  ·obtain ⟨h1, h2⟩ := scan_kids (j := j) (fun k hk => hok k (by omega)) (by omega) (by omega) (fun k h1 h2 => hd k h1 (by omega))
   have h3 := hd j (by omega) (by omega)
   by_cases e2 : (getT t j).dep = (getT t n).dep + 1
   ·have hk : kidB t n j = true := by
     unfold kidB
     rw [decide_eq_true_iff]
     exact abvE_of (by omega) (by omega) fun k h4 h5 => by have := hd k h4 (by omega); omega
    rw [scan_eq e2, hs, hk, h1]
    exact ⟨by simp, by simp⟩
   ·have hk : kidB t n j = false := by
     unfold kidB
     rw [decide_eq_false_iff_not]
     intro h
     have := (abv_kid hok h).2.1; omega
    rw [scan_gt (by omega), hs, hk, h1, h2]
    exact ⟨by simp, by simp⟩
theorem next_zero {m : Nat} {z : Option ByteArray} {nm : ByteArray} (hz : z = none -> m = 0) (h : nextE m z nm = 0) : m < 24 /\ ∀ x, z = some x -> ¬ nm = x /\ ¬ L nm < L x := by
 unfold nextE at h
 cases z with
 | none => exact ⟨by rw [hz rfl]; decide, fun x e => by cases e⟩
 | some x =>
  simp only at h
  by_cases h1 : x = nm
  ·rw [if_pos h1] at h; cases h
  rw [if_neg h1] at h
  by_cases h2 : L nm < L x
  ·rw [if_pos h2] at h; cases h
  rw [if_neg h2] at h
  by_cases h3 : 24 <= m
  ·rw [if_pos h3] at h; cases h
  exact ⟨by omega, fun y e => by cases e; exact ⟨fun e => h1 e.symm, h2⟩⟩
theorem kid_entry {t : List TrN} {n i : Nat} (hok : AllOk t t.length) (hi : i < t.length) (h : abv t i = (n : Int)) :
  nameE (L (getT t i).nm) = 0 /\ (kidsT t n i).length < 24 /\ ∀ k, (kidsT t n i).getLast? = some k -> ¬ (getT t i).nm = (getT t k).nm /\ ¬ L (getT t i).nm < L (getT t k).nm := by
 obtain ⟨h1, h2, h3, h4⟩ := abv_kid (fun j hj => hok j (by omega)) h
 obtain ⟨_, he, _⟩ := node_parts (hok i hi)
 have he := he (by omega)
 unfold entryE at he
 by_cases hn : nameE (L (getT t i).nm) ≠ 0
 ·rw [if_pos hn] at he; exact absurd he hn
 rw [if_neg hn] at he
 obtain ⟨s1, s2⟩ := scan_kids (t := t) (n := n) (j := i) (fun k hk => hok k (by omega)) (by omega) h1 (fun k h5 h6 => by have := h4 k h5 (by omega); omega)
 rw [h2, s1, s2] at he
 obtain ⟨e1, e2⟩ := next_zero (fun hz => by
  cases hg : (kidsT t n i).getLast? with
  | none => rw [List.getLast?_eq_none_iff.1 hg]; rfl
  | some k => rw [hg] at hz; cases hz) he
 exact ⟨by omega, e1, fun k hk => e2 _ (by rw [hk]; rfl)⟩
theorem kids_short {t : List TrN} {n : Nat} (hok : AllOk t t.length) : (kidsT t n t.length).length <= 24 := by
 by_cases h : (kidsT t n t.length).length <= 24
 ·exact h
 exfalso
 obtain ⟨i, hi⟩ : ∃ i, (kidsT t n t.length)[24]? = some i := ⟨_, List.getElem?_eq_getElem (by omega)⟩
 obtain ⟨h1, h2, h3⟩ := filt_take hi
 have := (kid_entry hok h2 (of_decide_eq_true h1)).2.1
 unfold kidsT at this h
 rw [h3, List.length_take] at this
 omega
/-! A node as the only entry of a root. -/
theorem kind_root : kindE rootN = 0 := by kernel_rfl
theorem shape_root (x : TrN) : shapeE [rootN, soloN x] 0 = 0 := by
 unfold shapeE
 rw [if_pos rfl, if_pos ⟨rfl, (by show (ByteArray.toList ⟨#[]⟩) = []; kernel_rfl), rfl⟩]
theorem kind_root1 : kindE (soloN rootN) = 0 := by kernel_rfl
theorem solo_ok {x : TrN} (hk : kindE (soloN x) = 0) (hc : chkE x.ats = 0) : soloE x = 0 := by
 unfold soloE
 refine (tree_of (treeT_ok (t := [rootN, soloN x]) (by simp) (by simp) ?_ ?_)).2
 ·intro j hj
  have hj : j < 2 := hj
  match j, hj with
  | 0, _ =>
   rw [nodeE_cls (t := [rootN, soloN x]) (i := 0) (x := rootN) rfl (shape_root x) (fun h => absurd rfl h) kind_root rfl]
   unfold clsE
   rw [if_neg (by unfold unlike; exact Bool.false_ne_true), if_neg]
   show ¬ ((0 : Int) < 0 \/ mostC [rootN, soloN x] 0 + 1 < 0)
   unfold mostC; omega
  | 1, _ =>
   have he : entryE [rootN, soloN x] 1 = 0 := by
    unfold entryE
    have h1 : nameE (L (getT [rootN, soloN x] 1).nm) = 0 := by show nameE (L soloW) = 0; decide
    rw [if_neg (by rw [h1]; decide)]
    have h2 : scan (revT [rootN, soloN x] 1) (getT [rootN, soloN x] 1).dep = (0, none) := scan_lt (by show (0 : Int) < 1; decide)
    rw [h2]; rfl
   have hs : shapeE [rootN, soloN x] 1 = 0 := by
    unfold shapeE
    rw [if_neg (by decide), if_neg, if_neg]
    ·show ¬ (8 : Int) < 1; decide
    ·show ¬ ((1 : Int) < 1 \/ mostD rootN < 1); decide
   rw [nodeE_cls (t := [rootN, soloN x]) (i := 1) (x := soloN x) rfl hs (fun _ => he) hk hc]
   unfold clsE
   have hu : unlike [rootN, soloN x] 1 1 = false := by
    unfold unlike unlike
    show (false || (decide ((0 : Int) < 0) && _ && _)) = false
    simp
   rw [if_neg (by rw [hu]; exact Bool.false_ne_true), if_neg]
   show ¬ ((0 : Int) < 0 \/ mostC [rootN, soloN x] 1 + 1 < 0)
   have : mostC [rootN, soloN x] 1 = 0 := rfl
   omega
 ·intro j hj
  have hj : j < 2 := hj
  match j, hj with
  | 0, _ => rfl
  | 1, _ => rfl
theorem kind_solo {x : TrN} (h : kindE x = 0) : kindE (soloN (nodX x)) = 0 := by
 unfold nodX
 by_cases hk : x.kd = 1
 ·rw [if_pos hk]; exact kind_root1
 ·rw [if_neg hk]
  unfold kindE soloN at *
  by_cases h0 : x.kd < 1 \/ 5 < x.kd
  ·rw [if_pos h0] at h; cases h
  rw [if_neg h0, if_neg hk] at h ⊢
  by_cases h2 : x.kd = 2
  ·rw [if_pos h2] at h ⊢; exact h
  rw [if_neg h2] at h ⊢
  by_cases h3 : x.kd = 3
  ·rw [if_pos h3] at h ⊢; exact h
  rw [if_neg h3] at h ⊢
  by_cases h4 : x.kd = 4
  ·rw [if_pos h4] at h ⊢; exact h
  rw [if_neg h4] at h ⊢
  split at h
  ·rename_i hh
   rw [if_pos ⟨hh.1, hh.2.1, hh.2.2.1, rfl, hh.2.2.2.2⟩]
  ·cases h
theorem kind_parts {x : TrN} (h : kindE x = 0) : (x.kd = 1 -> x.cl = 0) /\ (x.kd = 5 -> x.cl = 0 /\ x.ats = []) /\ 1 <= x.kd /\ x.kd <= 5 := by
 unfold kindE at h
 by_cases h0 : x.kd < 1 \/ 5 < x.kd
 ·rw [if_pos h0] at h; cases h
 rw [if_neg h0] at h
 refine ⟨fun h1 => ?_, fun h5 => ?_, by omega, by omega⟩
 ·rw [if_pos h1] at h
  split at h
  ·rename_i hh; exact hh.2.2.2
  ·cases h
 ·rw [if_neg (by omega), if_neg (by omega), if_neg (by omega), if_neg (by omega)] at h
  split at h
  ·rename_i hh; exact ⟨hh.2.2.2.1, List.length_eq_zero_iff.1 hh.2.2.2.2⟩
  ·cases h
/-! The names of a node. -/
theorem names_count {t : List TrN} {i : Nat} (hi : i < t.length) (hc : (getT t i).cl ≠ 0) : ∀ k, k <= t.length -> (namesT t i k).length = countC t (getT t i).cl k
 | 0, _ => rfl
 | k + 1, hk => by
  unfold namesT
  rw [filt_succ, List.length_append]
  have ih := names_count hi hc k (by omega)
  unfold namesT at ih
  rw [ih, show countC t (getT t i).cl (k + 1) = countC t (getT t i).cl k + (if (getT t k).cl = (getT t i).cl then 1 else 0) from rfl]
  have : classB t i k = decide ((getT t k).cl = (getT t i).cl) := by
   unfold classB
   by_cases e : k = i
   ·subst e; simp
   ·simp [e, hc]
  rw [this]
  by_cases e : (getT t k).cl = (getT t i).cl
  ·rw [if_pos e, if_pos (decide_eq_true e)]; rfl
  ·rw [if_neg e, if_neg (by rw [decide_eq_false e]; exact Bool.false_ne_true)]; rfl
theorem names_self {t : List TrN} {i : Nat} (hi : i < t.length) : i ∈ namesT t i t.length := List.mem_filter.2 ⟨List.mem_range.2 hi, by unfold classB; simp⟩
theorem names_alone {t : List TrN} {i : Nat} (hi : i < t.length) (hc : (getT t i).cl = 0) : namesT t i t.length = [i] := by
 unfold namesT
 have : ∀ k, classB t i k = decide (k = i) := fun k => by unfold classB; simp [hc]
 rw [List.filter_congr (q := fun k => decide (k = i)) fun k _ => this k]
 have h : ∀ m, (List.range m).filter (fun k => decide (k = i)) = if i < m then [i] else [] := by
  intro m
  induction m with
  | zero => rfl
  | succ m ih =>
   rw [filt_succ, ih]
   by_cases e : m = i
   ·subst e; simp
   ·by_cases e2 : i < m
    ·rw [if_pos e2, if_pos (show i < m + 1 by omega), decide_eq_false e]; rfl
    ·rw [if_neg e2, if_neg (show ¬ i < m + 1 by omega), decide_eq_false e]; rfl
 rw [h, if_pos hi]
theorem dirD_ok {b : List BrN} (hb : brEr b = 0) {n : Nat} (hn : n < b.length) (_hk : (getB b n).kd = 1) : dirE (dirD b n) = 0 := by
 obtain ⟨h0, _, hm⟩ := brEr_zero hb
 obtain ⟨_, _, hok, _, hlone⟩ := treeE_zero h0
 have hlen : (plT b).length = b.length := plT_len b
 have hG : ∀ j, j < b.length -> getT (plT b) j = (getB b j).toTrN := fun j hj => getT_plT b j hj
 have hmn := hm n hn
 have hno : ¬ ((getB b n).opq = true /\ 0 < (getB b n).red.length) := by
  intro h
  unfold marksE at hmn
  split at hmn
  ·cases hmn
  ·cases hmn
 have hpa : pathE (getB b n).red = 0 := by
  by_cases e : 0 < (getB b n).red.length
  ·unfold marksE at hmn
   split at hmn
   ·cases hmn
   ·by_cases e2 : pathE (getB b n).red = 0
    ·exact e2
    ·rw [if_pos ⟨e, e2⟩] at hmn; exact hmn
  ·rw [List.length_eq_zero_iff.1 (show (getB b n).red.length = 0 by omega)]; rfl
 have hc : chkE (getB b n).ats = 0 := by
  have := (node_parts (hok n (by omega))).2.2.2.1
  rw [hG n hn] at this; exact this
 refine (dir_of (dirT_ok (d := dirD b n) hc hno hpa ?_ ?_)).2
 ·show ¬ 24 < ((kidsL b n).map (entD b n)).length
  rw [List.length_map]
  have := kids_short (n := n) hok
  unfold kidsL
  rw [<- hlen]; omega
 intro q hq
 have hq : q < ((kidsL b n).map (entD b n)).length := hq
 rw [List.length_map] at hq
 obtain ⟨i, hi⟩ : ∃ i, (kidsL b n)[q]? = some i := ⟨_, List.getElem?_eq_getElem hq⟩
 obtain ⟨hp, hil, htk⟩ := filt_take hi
 have hp : abv (plT b) i = (n : Int) := of_decide_eq_true hp
 have hge : getE (dirD b n).ens q = entD b n i := by
  show ((kidsL b n).map (entD b n)).getD q zDeN = _
  simp [List.getD, hi]
 obtain ⟨e1, e2, e3⟩ := kid_entry hok (by rw [hlen]; exact hil) hp
 rw [hG i hil] at e1 e3
 obtain ⟨_, _, hki, hci, hcl⟩ := node_parts (hok i (by omega))
 rw [hG i hil] at hki hci
 obtain ⟨p1, p5, _⟩ := kind_parts hki
 have hsolo : soloE (nodX (getB b i).toTrN) = 0 := by
  refine solo_ok (kind_solo hki) ?_
  unfold nodX
  split
  ·decide
  ·exact hci
 have hcl0 : 0 <= (getB b i).toTrN.cl := by have := (cls_bd hcl).1; rwa [hG i hil] at this
 have hncl : (nodX (getB b i).toTrN).cl = (getB b i).toTrN.cl := by
  unfold nodX
  split
  ·rename_i h1; exact (p1 h1).symm
  ·rfl
 have hnm : ∀ j, j ≠ 0 -> q = j -> lastE (dirD b n).ens q = (getB b ((kidsL b n).getD (q - 1) 0)).nm := by
  rintro j hj rfl
  unfold lastE
  rw [if_neg hj]
  show (((kidsL b n).map (entD b n)).getD (q - 1) zDeN).nm = _
  have : q - 1 < (kidsL b n).length := by omega
  simp [List.getD, this, entD]
 have hlast : ¬ (getB b i).nm = lastE (dirD b n).ens q /\ ¬ L (getB b i).nm < L (lastE (dirD b n).ens q) := by
  by_cases h0 : q = 0
  ·subst h0
   rw [lastE_zero]
   refine ⟨fun e => ?_, fun e => absurd e (List.not_lt_nil _)⟩
   have e1 : nameE (L (getB b i).nm) = 0 := e1
   rw [e] at e1
   cases e1
  ·rw [hnm q h0 rfl]
   have hg : (kidsT (plT b) n i).getLast? = some ((kidsL b n).getD (q - 1) 0) := by
    unfold kidsT
    rw [htk, List.getLast?_eq_getElem?]
    have hle : (List.take q (kidsL b n)).length = q := by rw [List.length_take]; omega
    show (List.take q (kidsL b n))[(List.take q (kidsL b n)).length - 1]? = _
    rw [hle, List.getElem?_take, if_pos (by omega), List.getElem?_eq_getElem (by omega)]
    simp [List.getD, show q - 1 < (kidsL b n).length by omega]
   have h5 := e3 _ hg
   have hkl : (kidsL b n).getD (q - 1) 0 < b.length := by
    obtain ⟨k, hk⟩ : ∃ k, (kidsL b n)[q - 1]? = some k := ⟨_, List.getElem?_eq_getElem (by omega)⟩
    have := (filt_take hk).2.1
    simp [List.getD, hk, this]
   rw [hG _ hkl] at h5
   exact h5
 have hrest : restX (getB b n).opq (entD b n i) = 0 := by
  have hns : (entD b n i).ns = ((namesL b i).length : Int) := rfl
  have hmem : i ∈ namesL b i := by unfold namesL; rw [<- hlen]; exact names_self (by rw [hlen]; exact hil)
  have hpos : 0 < (namesL b i).length := List.length_pos_of_mem hmem
  have hnc : (entD b n i).nd.cl = (getB b i).toTrN.cl := hncl
  have hone : (getB b i).toTrN.cl <= 0 -> (namesL b i).length = 1 := fun h => by
   unfold namesL
   rw [<- hlen, names_alone (by rw [hlen]; exact hil) (by rw [hG i hil]; omega)]; rfl
  have hmany : 0 < (getB b i).toTrN.cl -> 1 < (namesL b i).length := fun h => by
   have h1 := hlone i (by omega)
   unfold loneB at h1
   rw [hG i hil, decide_eq_true h, Bool.true_and] at h1
   have h2 := names_count (t := plT b) (i := i) (by omega) (by rw [hG i hil]; omega) b.length (by omega)
   rw [hG i hil] at h2
   have h3 : countC (plT b) (getB b i).toTrN.cl (plT b).length ≠ 1 := bne_iff_ne.1 (by rw [bne, h1]; rfl)
   unfold namesL at hpos ⊢
   rw [hlen] at h3
   omega
  unfold restX
  rw [hns, hnc, if_neg (by
   rintro (h | ⟨h, h2⟩ | ⟨h, h2⟩)
   ·omega
   ·have := hmany h; omega
   ·have := hone h; omega), if_neg (by omega), if_neg]
  unfold markB
  have hkd : (entD b n i).nd.kd = (getB b i).toTrN.kd := by
   show (nodX _).kd = _
   unfold nodX
   split
   ·rename_i h; exact h.symm
   ·rfl
  have hwh : (entD b n i).wh = ((getB b i).toTrN.kd == 5) := rfl
  have hu : (getB b i).toTrN.kd = 5 -> (getB b n).opq = false := fun h5 => by
   have hmi := hm i hil
   by_cases hcase : ¬ ((getB b i).opq = true /\ (getB b i).kd ≠ 1) /\ ¬ 0 < (getB b i).red.length
   ·rw [marks_under rfl hcase.1 hcase.2] at hmi
    cases ho : (getB b n).opq with
    | false => rfl
    | true =>
     rw [if_pos] at hmi
     ·cases hmi
     unfold underB
     have h5 : ((getB b i).kd == 5) = true := beq_iff_eq.2 h5
     rw [h5, hp, decide_eq_true (by omega)]
     show (true && true && (getB b n).opq) = true
     rw [ho]; rfl
   ·exfalso
    unfold marksE at hmi
    rw [if_pos] at hmi
    ·cases hmi
    left
    have h5 : (getB b i).kd = 5 := h5
    refine ⟨?_, by omega⟩
    by_cases e : (getB b i).opq = true
    ·exact .inl e
    ·refine .inr (Decidable.not_not.1 fun e2 => hcase ⟨fun h => e h.1, e2⟩)
  have hfi : (namesL b i).length = 1 -> (entD b n i).fi = true := fun h1 => by
   show (namesL b i).all _ = true
   obtain ⟨k, hk⟩ := List.length_eq_one_iff.1 h1
   rw [hk] at hmem ⊢
   obtain rfl : i = k := by simpa using hmem
   unfold notB
   simp [hp]
  have hns' : ((entD b n i).ns == 1) = decide ((namesL b i).length = 1) := by
   rw [hns]
   by_cases e : (namesL b i).length = 1
   ·rw [e]; rfl
   ·rw [decide_eq_false e]; exact nB (by omega)
  rw [hkd, hwh, hnc, hns']
  have t1 : (((getB b i).toTrN.kd == 1) && (decide (0 < (entD b n i).nd.ats.length) || decide (0 < (getB b i).toTrN.cl))) = false := by
   by_cases h1 : (getB b i).toTrN.kd = 1
   ·have ha : (entD b n i).nd.ats = [] := by show (nodX _).ats = []; unfold nodX; rw [if_pos h1]; rfl
    rw [ha, p1 h1]; simp
   ·rw [nB h1]; rfl
  have t2 : (((getB b i).toTrN.kd == 5) && (decide (0 < (getB b i).toTrN.cl) || (getB b n).opq)) = false := by
   by_cases h1 : (getB b i).toTrN.kd = 5
   ·rw [(p5 h1).1, hu h1]; simp
   ·rw [nB h1]; rfl
  have t3 : (!(entD b n i).fi && decide ((namesL b i).length = 1)) = false := by
   by_cases e : (namesL b i).length = 1
   ·rw [hfi e]; rfl
   ·rw [decide_eq_false e, Bool.and_false]
  rw [t1, t2, t3]
  simp
 show entX (getB b n).opq (lastE (dirD b n).ens q) (getE (dirD b n).ens q) = 0
 rw [hge]
 have hx0 : (nodX (getB b i).toTrN).dep = 0 /\ (nodX (getB b i).toTrN).nm.toList = [] := by
  unfold nodX
  have he : ByteArray.toList ⟨#[]⟩ = [] := by kernel_rfl
  split
  ·exact ⟨rfl, he⟩
  ·exact ⟨rfl, he⟩
 rw [entX_rest (x := entD b n i) e1 hlast.1 hlast.2 hx0.1 hx0.2 hsolo]
 exact hrest
end Go.Proofs.YtimpejaaeinplaaGreatDoor
