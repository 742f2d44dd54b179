/- limewashref19.marks. -/
/- limewashref19.marks, where there is a redirect. -/
/- limewashref19.Check. -/
/- slices.Clone of strings. -/
import Derived.Test.YtiliglpolcpnbaaGreatDoorQBrnC
namespace Go.Proofs.YtiliglpolcpnbaaGreatDoor
open Go.RowKit

def seenR (b : List BrN) (r : List ByteArray) : Nat → Bool
  | 0 => false
  | k + 1 => seenR b r k || decide (r = (getB b k).red)
def underB (b : List BrN) (i : Nat) : Bool := (getB b i).kd == 5 && decide (0 ≤ abv (plT b) i) && (getB b (abv (plT b) i).toNat).opq
/-- What is wrong with the marks of a node. -/
def marksE (b : List BrN) (i : Nat) : Int :=
  if (((getB b i).opq = true ∨ 0 < (getB b i).red.length) ∧ (getB b i).kd ≠ 1) ∨ (i = 0 ∧ 0 < (getB b i).red.length) then 14
  else if (getB b i).opq = true ∧ 0 < (getB b i).red.length then 6
  else if 0 < (getB b i).red.length ∧ pathE (getB b i).red ≠ 0 then pathE (getB b i).red
  else if 0 < (getB b i).red.length ∧ (getB b i).red = pathT (plT b) i then 6
  else if 0 < (getB b i).red.length ∧ seenR b (getB b i).red i = true then 8
  else if underB b i = true then 6 else 0
section
variable {b : List BrN} {i : Nat} {x : BrN} (hg : getB b i = x)
include hg
theorem marks_kind (h : ((x.opq = true ∨ 0 < x.red.length) ∧ x.kd ≠ 1) ∨ (i = 0 ∧ 0 < x.red.length)) : marksE b i = 14 := by subst hg; exact if_pos h
theorem marks_both (h1 : x.kd = 1) (h2 : i ≠ 0) (h3 : x.opq = true) (h4 : 0 < x.red.length) : marksE b i = 6 := by
  subst hg; unfold marksE; rw [if_neg (fun h => h.elim (fun h => h.2 h1) (fun h => h2 h.1)), if_pos ⟨h3, h4⟩]
theorem marks_path (h1 : x.kd = 1) (h2 : i ≠ 0) (h3 : x.opq = false) (h4 : 0 < x.red.length) (h : pathE x.red ≠ 0) : marksE b i = pathE x.red := by
  subst hg; unfold marksE; rw [if_neg (fun h => h.elim (fun h => h.2 h1) (fun h => h2 h.1)), if_neg (by simp [h3]), if_pos ⟨h4, h⟩]
theorem marks_self (h1 : x.kd = 1) (h2 : i ≠ 0) (h3 : x.opq = false) (h4 : 0 < x.red.length) (h5 : pathE x.red = 0) (h : x.red = pathT (plT b) i) : marksE b i = 6 := by
  subst hg; unfold marksE; rw [if_neg (fun h => h.elim (fun h => h.2 h1) (fun h => h2 h.1)), if_neg (by simp [h3]), if_neg (fun h => h.2 h5), if_pos ⟨h4, h⟩]
theorem marks_seen (h1 : x.kd = 1) (h2 : i ≠ 0) (h3 : x.opq = false) (h4 : 0 < x.red.length) (h5 : pathE x.red = 0) (h6 : x.red ≠ pathT (plT b) i) (h : seenR b x.red i = true) : marksE b i = 8 := by
  subst hg; unfold marksE; rw [if_neg (fun h => h.elim (fun h => h.2 h1) (fun h => h2 h.1)), if_neg (by simp [h3]), if_neg (fun h => h.2 h5), if_neg (fun h => h6 h.2), if_pos ⟨h4, h⟩]
theorem marks_led (h1 : x.kd = 1) (h2 : i ≠ 0) (h3 : x.opq = false) (h4 : 0 < x.red.length) (h5 : pathE x.red = 0) (h6 : x.red ≠ pathT (plT b) i) (h : seenR b x.red i = false) : marksE b i = 0 := by
  subst hg; unfold marksE; rw [if_neg (fun h => h.elim (fun h => h.2 h1) (fun h => h2 h.1)), if_neg (by simp [h3]), if_neg (fun h => h.2 h5), if_neg (fun h => h6 h.2), if_neg (fun e => by rw [h] at e; cases e.2), if_neg (by unfold underB; rw [h1]; simp)]
theorem marks_under (h1 : ¬ (x.opq = true ∧ x.kd ≠ 1)) (h4 : ¬ 0 < x.red.length) : marksE b i = if underB b i = true then 6 else 0 := by
  subst hg; unfold marksE
  rw [if_neg (fun h => h.elim (fun h => h.1.elim (fun e => h1 ⟨e, h.2⟩) h4) (fun h => h4 h.2)), if_neg (fun h => h4 h.2), if_neg (fun h => h4 h.1), if_neg (fun h => h4 h.1), if_neg (fun h => h4 h.1)]
end
theorem seenR_first {b : List BrN} {r : List ByteArray} : ∀ {n k : Nat}, k < n → r = (getB b k).red → seenR b r n = true
  | n + 1, k, hk, h => by
    unfold seenR
    by_cases e : k = n
    · subst e; rw [decide_eq_true h, Bool.or_true]
    · rw [seenR_first (by omega) h, Bool.true_or]
/-- A branch whose strings are not too long to be walked over. -/
structure SmallB (b : List BrN) : Prop where
  tree : SmallT (plT b)
  ats : ∀ x ∈ b, x.ats.length ≤ 1000
  red : ∀ x ∈ b, x.red.length ≤ 1000 ∧ ∀ s ∈ x.red, s.size ≤ 1000000
  len : b.length ≤ 1000
theorem strs_ext {B : Nat} {w w' : World} {v : Value} {l : List ByteArray} (h : StrIn B w v l) (he : Ext w w') : StrsAt w' v l := (h.ext okS he).strs
theorem lenZ {n : Nat} (h : ¬ 0 < n) : decide ((0 : Int) < (n : Int)) = false := decide_eq_false (by omega)
theorem lenP {n : Nat} (h : 0 < n) : decide ((0 : Int) < (n : Int)) = true := decide_eq_true (by omega)
set_option maxRecDepth 100000 in
set_option maxHeartbeats 16000000 in
theorem refMarks0 (B : Nat) (w : World) (v : Value) (b : List BrN) (i : Nat) (hb : BrIn B w v b) (_hB : B ≤ w.heap.size) (hsm : SmallB b) (hok : AllOk (plT b) (plT b).length) (hi : i < b.length) (hled : ¬ 0 < (getB b i).red.length) :
    RetB Tryz.prog 64 #[v, .int .i64 i] w (.int .i64 (marksE b i)) := by
  unfold RetB
  obtain ⟨aa, cap, rfl⟩ := hb.form
  have HV := Lib.hid hb; clear hb
  have HSM := Lib.hid hsm; have HOK := Lib.hid hok
  have hlen := hsm.len
  clear hsm hok
  obtain ⟨bi, offi, vai, vri, hei, hbi, hva, hvr, xx⟩ := HV.out.br i hi
  cases hei
  have HG := Lib.hid (getB_at b i hi)
  rw [getB_at b i hi] at hled
  have HRL := Lib.hid (HSM.out.red _ (List.getElem_mem hi))
  obtain ⟨a3, cap3, rfl⟩ := hva.form
  obtain ⟨a4, cap4, rfl⟩ := hvr.form
  have HVR := Lib.hid hvr
  generalize b[i]'hi = x at HG HRL HVR hva xx hled
  obtain ⟨c0, c1, c2, c3, c4, c5, c6, c7, c8, c9⟩ := xx
  have j1 : ((i : Nat) : Int) < (b.length : Int) := by omega
  have j0 : (0 : Int) ≤ (i : Int) := by omega
  clear hva hvr
  have hled' := lenZ hled
  by_cases hk : x.opq = true ∧ x.kd ≠ 1
  · have HR := Lib.hid (marks_kind HG.out (.inl ⟨.inl hk.1, hk.2⟩))
    have q1 : (x.kd != 1) = true := bne_iff_ne.2 hk.2
    have q2 := hk.1
    rw [q2] at c8
    clear hk
    go_enter Tryz.func64, Tryz.ntmps64
    go_wp2
    go_ret
    exact ⟨by rw [HR.out]; rfl, ext_alloc _ _⟩
  have HR := Lib.hid (marks_under HG.out hk hled)
  have HC8 := Lib.hid c8
  have HU0 : Hid ((x.kd == 5) = false → underB b i = false) := Lib.hid (fun h => by unfold underB; rw [HG.out, h]; rfl)
  have HU1 : Hid (¬ 0 ≤ abv (plT b) i → underB b i = false) := Lib.hid (fun h => by unfold underB; rw [decide_eq_false h]; simp)
  have HU2 : Hid ((x.kd == 5) = true → ∀ m : Nat, abv (plT b) i = m → underB b i = (getB b m).opq) := Lib.hid (fun h m e => by unfold underB; rw [HG.out, h, e, decide_eq_true (by omega)]; simp)
  cases hop : x.opq <;> cases hz : ((i : Int) == 0) <;> cases h5 : (x.kd == 5)
  all_goals rw [hop] at c8
  all_goals
    have q1 : x.opq = true → (x.kd != 1) = false := fun e => by
      by_cases e1 : x.kd = 1
      · exact bne_eq_false_iff_eq.2 e1
      · exact absurd ⟨e, e1⟩ hk
  case' false.false.false | false.true.false | true.false.false | true.true.false =>
    have HU := Lib.hid (HU0.out h5)
    obtain ⟨A, hA⟩ : ∃ A, abv (plT b) i = A := ⟨_, rfl⟩
    have HAB := Lib.hid hA
    have HM : ∃ (m : Nat) (om : Bool), w.cell? ⟨bi, offi + m * 10 + 8, none⟩ = some (.bool om) := ⟨i, _, c8⟩
    obtain ⟨m, om, hmc⟩ := HM
    have m1 : (0 : Int) ≤ (i : Int) := j0
    have m2 : (0 : Int) ≤ (i : Int) := j0
    clear hA
  case' true.false.true | true.true.true =>
    exfalso
    have := q1 hop
    rw [bne_eq_false_iff_eq] at this; rw [beq_iff_eq] at h5; omega
  case' false.false.true | false.true.true =>
    have hbd := abv_bd (plT b) i
    by_cases hge : 0 ≤ abv (plT b) i
    case' neg =>
      have HU := Lib.hid (HU1.out hge)
      have hA : abv (plT b) i = -1 := by omega
      obtain ⟨A, hA⟩ : ∃ A, abv (plT b) i = A := ⟨_, rfl⟩
      obtain rfl : A = -1 := by omega
      have HAB := Lib.hid hA
      have HM : ∃ (m : Nat) (om : Bool), w.cell? ⟨bi, offi + m * 10 + 8, none⟩ = some (.bool om) := ⟨i, _, c8⟩
      obtain ⟨m, om, hmc⟩ := HM
      have m1 : (0 : Int) ≤ (i : Int) := j0
      have m2 : (0 : Int) ≤ (i : Int) := j0
      clear hA hge hbd
    case' pos =>
      obtain ⟨m, hm⟩ : ∃ m : Nat, abv (plT b) i = m := ⟨(abv (plT b) i).toNat, by omega⟩
      have hmb : m < b.length := by omega
      obtain ⟨bm, offm, vam, vrm, hem, hbm, _, _, _, _, _, _, _, _, _, _, d8, _⟩ := HV.out.br m hmb
      cases hem
      have HU := Lib.hid (HU2.out h5 m hm)
      rw [getB_at b m hmb] at HU
      have HAB := Lib.hid hm
      have m1 : (0 : Int) ≤ (m : Int) := by omega
      have m2 : (m : Int) < (b.length : Int) := by omega
      cases hom : (b[m]'hmb).opq
      all_goals
        rw [hom] at HU d8
        have hmc := d8
        clear hm hge hbd d8
  all_goals
    try have q2 := q1 hop
    clear hk q1 hop
    go_enter Tryz.func64, Tryz.ntmps64
    go_wp2_with (go_at_call 80; refine (refAbove B _ _ b i (HV.out.ext okB (ext_alloc _ _)) hlen hi).mono ?_; rintro e w1 ⟨rfl, hb1⟩; rw [HAB.out]; have HB1 : Hid (Ext w w1) := Lib.hid (Ext.trans (ext_alloc _ _) hb1); have X1 := Lib.hid (blk_ext hb1 (blk_new w _)); clear hb1; have y2 := blk_cell X1.out 2; have y8 := (ext_cell HB1.out hbi).trans hmc)
    go_ret
    exact ⟨by rw [HR.out, HU.out]; rfl, HB1.out⟩
end Go.Proofs.YtiliglpolcpnbaaGreatDoor

namespace Go.Proofs.YtiliglpolcpnbaaGreatDoor
open Go.RowKit

set_option maxRecDepth 100000 in
set_option maxHeartbeats 16000000 in
theorem refMarks1 (B : Nat) (w : World) (v : Value) (b : List BrN) (i : Nat) (hb : BrIn B w v b) (hB : B ≤ w.heap.size) (hsm : SmallB b) (hok : AllOk (plT b) (plT b).length) (hi : i < b.length) (hled : 0 < (getB b i).red.length) :
    RetB Tryz.prog 64 #[v, .int .i64 i] w (.int .i64 (marksE b i)) := by
  unfold RetB
  obtain ⟨aa, cap, rfl⟩ := hb.form
  have HV := Lib.hid hb; clear hb
  have HSM := Lib.hid hsm; have HOK := Lib.hid hok
  have hlen := hsm.len
  clear hsm hok
  obtain ⟨bi, offi, vai, vri, hei, hbi, hva, hvr, xx⟩ := HV.out.br i hi
  cases hei
  have HG := Lib.hid (getB_at b i hi)
  rw [getB_at b i hi] at hled
  have HRL := Lib.hid (HSM.out.red _ (List.getElem_mem hi))
  obtain ⟨a3, cap3, rfl⟩ := hva.form
  obtain ⟨a4, cap4, rfl⟩ := hvr.form
  have HVR := Lib.hid hvr
  generalize b[i]'hi = x at HG HRL HVR hva xx hled
  obtain ⟨c0, c1, c2, c3, c4, c5, c6, c7, c8, c9⟩ := xx
  have j1 : ((i : Nat) : Int) < (b.length : Int) := by omega
  have j0 : (0 : Int) ≤ (i : Int) := by omega
  clear hva hvr
  have hled' := lenP hled
  by_cases hk1 : x.kd = 1
  case neg =>
    have HR := Lib.hid (marks_kind HG.out (.inl ⟨.inr hled, hk1⟩))
    have q1 : (x.kd != 1) = true := bne_iff_ne.2 hk1
    clear hk1
    cases hop : x.opq
    all_goals
      rw [hop] at c8
      go_enter Tryz.func64, Tryz.ntmps64
      go_wp2
      go_ret
      exact ⟨by rw [HR.out]; rfl, ext_alloc _ _⟩
  have q1 : (x.kd != 1) = false := bne_eq_false_iff_eq.2 hk1
  by_cases hi0 : i = 0
  · have HR := Lib.hid (marks_kind HG.out (.inr ⟨hi0, hled⟩))
    have hz : ((i : Int) == 0) = true := beq_iff_eq.2 (by omega)
    clear hi0 hk1
    cases hop : x.opq
    all_goals
      rw [hop] at c8
      go_enter Tryz.func64, Tryz.ntmps64
      go_wp2
      go_ret
      exact ⟨by rw [HR.out]; rfl, ext_alloc _ _⟩
  have hz : ((i : Int) == 0) = false := beq_eq_false_iff_ne.2 (by omega)
  cases hop : x.opq
  case true =>
    have HR := Lib.hid (marks_both HG.out hk1 hi0 hop hled)
    rw [hop] at c8
    clear hk1 hi0
    go_enter Tryz.func64, Tryz.ntmps64
    go_wp2
    go_ret
    exact ⟨by rw [HR.out]; rfl, ext_alloc _ _⟩
  have HC := Lib.hid (And.intro hk1 (And.intro hi0 (And.intro hop hled)))
  rw [hop] at c8
  have HP0 : Hid (∀ o, StrsAt (w.alloc o) (.slice a4 x.red.length cap4) x.red) := Lib.hid (fun o => strs_ext HVR.out (ext_alloc _ _))
  by_cases hpe : pathE x.red = 0
  case neg =>
    have HR := Lib.hid (marks_path HG.out hk1 hi0 hop hled hpe)
    have q2 : (pathE x.red != 0) = true := bne_iff_ne.2 hpe
    clear hk1 hi0 hop hpe
    go_enter Tryz.func64, Tryz.ntmps64
    go_wp2_with (go_at_call 101; refine (refPathCheck _ x.red _ (HP0.out _) HRL.out.2).mono ?_; rintro e w1 ⟨rfl, rfl⟩)
    go_ret
    exact ⟨by rw [HR.out]; rfl, ext_alloc _ _⟩
  have q2 : (pathE x.red != 0) = false := bne_eq_false_iff_eq.2 hpe
  have HPE := Lib.hid hpe
  clear hk1 hi0 hop hpe
  go_enter Tryz.func64, Tryz.ntmps64
  go_wp2_with (go_at_call 101; refine (refPathCheck _ x.red _ (HP0.out _) HRL.out.2).mono ?_; rintro e w1 ⟨rfl, rfl⟩)
  refine name_world (P := fun W => Code.wp _ _ _ _ W) _ ?_
  intro W hW
  have HXB : Hid (W.heap[w.heap.size]? = some (.cells #[.int .i64 x.dep, .string x.nm, .int .i64 x.kd, .slice a3 x.ats.length cap3, .string x.dat, .int .i64 x.ma, .int .i64 x.mi, .int .i64 x.cl, .bool false, .slice a4 x.red.length cap4] 41 (0, 0))) := Lib.hid (by rw [hW]; exact blk_new w _)
  have HE : Hid (Ext w W) := Lib.hid (by rw [hW]; exact ext_alloc _ _)
  clear hW c0 c1 c2 c3 c4 c5 c6 c7 c8 c9
  have y9 : W.cell? ⟨w.heap.size, 9, none⟩ = some (.slice a4 x.red.length cap4) := blk_cell HXB.out 9
  have HPL : Hid ((plT b).length ≤ 1000) := Lib.hid (by rw [plT_len]; exact hlen)
  by_cases heq : x.red = pathT (plT b) i
  · have HR := Lib.hid (marks_self HG.out HC.out.1 HC.out.2.1 HC.out.2.2.1 HC.out.2.2.2 HPE.out heq)
    have HQ := Lib.hid (decide_eq_true heq)
    clear heq
    go_region_held3 (fun w' => w'.cell? ⟨w.heap.size, 9, none⟩ = some (.slice a4 x.red.length cap4)) (first | go_keep | skip)
      (first
        | (go_at_call 38; refine (refTree B _ _ b (by first | exact HV.out.ext okB (HE.out.trans (ext_drew _)) | exact HV.out.ext okB (HE.out.trans (ext_drewN _ _))) (by have := HE.out.size; simp; omega) hlen HSM.out.ats).mono ?_; rintro e w1 ⟨⟨a5, cap5, rfl, ho⟩, hb1⟩; have HO1 := Lib.hid ho; have HB1 : Hid (Ext W w1) := Lib.hid (by first | exact (ext_drew _).trans hb1 | exact (ext_drewN _ _).trans hb1); have z9 : w1.cell? ⟨w.heap.size, 9, none⟩ = some (.slice a4 x.red.length cap4) := blk_cell (blk_ext HB1.out HXB.out) 9; clear ho hb1)
        | (go_at_call 102; refine (refPath (plT b) HPL.out HOK.out i _ _ _ (HO1.out.in okT) (by rw [plT_len]; exact hi)).mono ?_; rintro e w2 ⟨⟨a6, n6, cap6, rfl, ho⟩, hb2⟩; have HO2 := Lib.hid ho; have HB2 : Hid (Ext W w2) := Lib.hid (HB1.out.trans hb2); have z9 : w2.cell? ⟨w.heap.size, 9, none⟩ = some (.slice a4 x.red.length cap4) := blk_cell (blk_ext HB2.out HXB.out) 9; clear ho hb2)
        | (go_at_call 57; refine (refSameS _ _ x.red (pathT (plT b) i) _ (strs_ext HVR.out (HE.out.trans HB2.out)) (HO2.out.in okS).strs (by have := HRL.out.1; omega)).mono ?_; rintro e w3 ⟨rfl, hb3⟩; rw [HQ.out]; have HB4 : Hid (Ext W w3) := Lib.hid (HB2.out.trans hb3); have HB3 : Hid (Ext w w3) := Lib.hid (HE.out.trans HB4.out); have z9 : w3.cell? ⟨w.heap.size, 9, none⟩ = some (.slice a4 x.red.length cap4) := blk_cell (blk_ext HB4.out HXB.out) 9; clear hb3)
        | fail)
    all_goals
      go_wp2
      go_ret
      exact ⟨by rw [HR.out]; rfl, HB3.out⟩
  have HNE := Lib.hid heq
  have HQ := Lib.hid (decide_eq_false heq)
  clear heq
  go_region_held3 (fun w' => w'.cell? ⟨w.heap.size, 9, none⟩ = some (.slice a4 x.red.length cap4)) (first | go_keep | skip)
    (first
        | (go_at_call 38; refine (refTree B _ _ b (by first | exact HV.out.ext okB (HE.out.trans (ext_drew _)) | exact HV.out.ext okB (HE.out.trans (ext_drewN _ _))) (by have := HE.out.size; simp; omega) hlen HSM.out.ats).mono ?_; rintro e w1 ⟨⟨a5, cap5, rfl, ho⟩, hb1⟩; have HO1 := Lib.hid ho; have HB1 : Hid (Ext W w1) := Lib.hid (by first | exact (ext_drew _).trans hb1 | exact (ext_drewN _ _).trans hb1); have z9 : w1.cell? ⟨w.heap.size, 9, none⟩ = some (.slice a4 x.red.length cap4) := blk_cell (blk_ext HB1.out HXB.out) 9; clear ho hb1)
        | (go_at_call 102; refine (refPath (plT b) HPL.out HOK.out i _ _ _ (HO1.out.in okT) (by rw [plT_len]; exact hi)).mono ?_; rintro e w2 ⟨⟨a6, n6, cap6, rfl, ho⟩, hb2⟩; have HO2 := Lib.hid ho; have HB2 : Hid (Ext W w2) := Lib.hid (HB1.out.trans hb2); have z9 : w2.cell? ⟨w.heap.size, 9, none⟩ = some (.slice a4 x.red.length cap4) := blk_cell (blk_ext HB2.out HXB.out) 9; clear ho hb2)
        | (go_at_call 57; refine (refSameS _ _ x.red (pathT (plT b) i) _ (strs_ext HVR.out (HE.out.trans HB2.out)) (HO2.out.in okS).strs (by have := HRL.out.1; omega)).mono ?_; rintro e w3 ⟨rfl, hb3⟩; rw [HQ.out]; have HB4 : Hid (Ext W w3) := Lib.hid (HB2.out.trans hb3); have HB3 : Hid (Ext w w3) := Lib.hid (HE.out.trans HB4.out); have z9 : w3.cell? ⟨w.heap.size, 9, none⟩ = some (.slice a4 x.red.length cap4) := blk_cell (blk_ext HB4.out HXB.out) 9; clear hb3)
        | fail)
  go_wp2
  have q5 : (x.kd == 5) = false := by rw [HC.out.1]; rfl
  clear z9 y9
  go_loopw [7] (fun o w' => ∃ (wi : World) (k : Nat), wi = w' ∧ k ≤ i ∧ o = .int .i64 k ∧ seenR b x.red k = false ∧ Ext W wi) (fun o _ => i - (intOf o).toNat)
  case atStart => exact ⟨_, 0, rfl, Nat.zero_le _, rfl, rfl, HB4.out⟩
  case round =>
    clear HB3 HB4 HB2 HB1 HO1 HO2
    obtain ⟨wi, k, rfl, hk, rfl, hs, hb⟩ := hrel
    have HS := Lib.hid hs; have HB := Lib.hid hb
    clear hs hb
    have HWI : Hid (Ext w wi) := Lib.hid (HE.out.trans HB.out)
    by_cases hlt : k < i
    case neg =>
      obtain rfl : k = i := by omega
      have HR := Lib.hid (marks_led HG.out HC.out.1 HC.out.2.1 HC.out.2.2.1 HC.out.2.2.2 HPE.out HNE.out HS.out)
      go_wp2_with (go_at_call 80; refine (refAbove B _ _ b k (HV.out.ext okB HWI.out) hlen hi).mono ?_; rintro e w1 ⟨rfl, hb1⟩; have HB1 : Hid (Ext W w1) := Lib.hid (Ext.trans HB.out hb1); clear hb1; have y2 : w1.cell? ⟨w.heap.size, 2, none⟩ = some (.int .i64 x.kd) := blk_cell (blk_ext HB1.out HXB.out) 2)
      go_ret
      exact ⟨by rw [HR.out]; rfl, HE.out.trans HB1.out⟩
    have hkb : k < b.length := by omega
    obtain ⟨bk, offk, vak, vrk, hek, hbk, _, hvrk, _, _, _, _, _, _, _, _, _, d9⟩ := HV.out.br k hkb
    cases hek
    obtain ⟨ak, capk, rfl⟩ := hvrk.form
    have HVK := Lib.hid hvrk
    have HGK := Lib.hid (getB_at b k hkb)
    generalize b[k]'hkb = y at HVK HGK d9
    have HD9 := Lib.hid d9
    clear hvrk d9
    have y9 : wi.cell? ⟨w.heap.size, 9, none⟩ = some (.slice a4 x.red.length cap4) := blk_cell (blk_ext HB.out HXB.out) 9
    have x9 : wi.cell? ⟨bi, offi + k * 10 + 9, none⟩ = some (.slice ak y.red.length capk) := (ext_cell HWI.out hbi).trans HD9.out
    have k1 : ((k : Nat) : Int) < (b.length : Int) := by omega
    have k0 : (0 : Int) ≤ (k : Int) := by omega
    have k2 : ((k : Nat) : Int) < (i : Int) := by omega
    by_cases he : x.red = y.red
    · have HR := Lib.hid (marks_seen HG.out HC.out.1 HC.out.2.1 HC.out.2.2.1 HC.out.2.2.2 HPE.out HNE.out (seenR_first hlt (by rw [HGK.out]; exact he)))
      have HQ2 := Lib.hid (decide_eq_true he)
      clear he
      go_wp2
      go_region_held3 (fun w' => w'.cell? ⟨w.heap.size, 9, none⟩ = some (.slice a4 x.red.length cap4) ∧ w'.cell? ⟨bi, offi + k * 10 + 9, none⟩ = some (.slice ak y.red.length capk)) (first | go_keep | skip)
        (first
          | (go_at_call 57; refine (refSameS _ _ x.red y.red _ (by first | exact strs_ext HVR.out (HWI.out.trans (ext_drew _)) | exact strs_ext HVR.out (HWI.out.trans (ext_drewN _ _))) (by first | exact strs_ext HVK.out (HWI.out.trans (ext_drew _)) | exact strs_ext HVK.out (HWI.out.trans (ext_drewN _ _))) (by have := HRL.out.1; omega)).mono ?_; rintro e w3 ⟨rfl, hb3⟩; rw [HQ2.out]; have HB5 : Hid (Ext W w3) := Lib.hid (by first | exact (HB.out.trans (ext_drew _)).trans hb3 | exact (HB.out.trans (ext_drewN _ _)).trans hb3); have z9 : w3.cell? ⟨w.heap.size, 9, none⟩ = some (.slice a4 x.red.length cap4) := blk_cell (blk_ext HB5.out HXB.out) 9; have t9 : w3.cell? ⟨bi, offi + k * 10 + 9, none⟩ = some (.slice ak y.red.length capk) := (ext_cell (HE.out.trans HB5.out) hbi).trans HD9.out; clear hb3)
          | fail)
      all_goals
        go_wp2
        go_ret
        exact ⟨by rw [HR.out]; rfl, HE.out.trans HB5.out⟩
    · have HN : Hid (seenR b x.red (k + 1) = false) := Lib.hid (by rw [seenR.eq_2, HS.out, HGK.out, decide_eq_false he]; rfl)
      have HQ2 := Lib.hid (decide_eq_false he)
      clear he
      go_wp2
      go_region_held3 (fun w' => w'.cell? ⟨w.heap.size, 9, none⟩ = some (.slice a4 x.red.length cap4) ∧ w'.cell? ⟨bi, offi + k * 10 + 9, none⟩ = some (.slice ak y.red.length capk)) (first | go_keep | skip)
        (first
          | (go_at_call 57; refine (refSameS _ _ x.red y.red _ (by first | exact strs_ext HVR.out (HWI.out.trans (ext_drew _)) | exact strs_ext HVR.out (HWI.out.trans (ext_drewN _ _))) (by first | exact strs_ext HVK.out (HWI.out.trans (ext_drew _)) | exact strs_ext HVK.out (HWI.out.trans (ext_drewN _ _))) (by have := HRL.out.1; omega)).mono ?_; rintro e w3 ⟨rfl, hb3⟩; rw [HQ2.out]; have HB5 : Hid (Ext W w3) := Lib.hid (by first | exact (HB.out.trans (ext_drew _)).trans hb3 | exact (HB.out.trans (ext_drewN _ _)).trans hb3); have z9 : w3.cell? ⟨w.heap.size, 9, none⟩ = some (.slice a4 x.red.length cap4) := blk_cell (blk_ext HB5.out HXB.out) 9; have t9 : w3.cell? ⟨bi, offi + k * 10 + 9, none⟩ = some (.slice ak y.red.length capk) := (ext_cell (HE.out.trans HB5.out) hbi).trans HD9.out; clear hb3)
          | fail)
      go_wp2
      go_roundw
      case rel => exact ⟨_, k + 1, rfl, by omega, by go_num, HN.out, HB5.out⟩
      case measure => first | (simp [intOf]; done) | (simp [intOf]; omega)
set_option maxRecDepth 100000 in
theorem refMarks19 (B : Nat) (w : World) (v : Value) (b : List BrN) (i : Nat) (hb : BrIn B w v b) (hB : B ≤ w.heap.size) (hsm : SmallB b) (hok : AllOk (plT b) (plT b).length) (hi : i < b.length) :
    RetB Tryz.prog 64 #[v, .int .i64 i] w (.int .i64 (marksE b i)) := by
  by_cases h : 0 < (getB b i).red.length
  · exact refMarks1 B w v b i hb hB hsm hok hi h
  · exact refMarks0 B w v b i hb hB hsm hok hi h
end Go.Proofs.YtiliglpolcpnbaaGreatDoor

namespace Go.Proofs.YtiliglpolcpnbaaGreatDoor
open Go.RowKit

theorem findB_none_iff {p : Nat → Bool} : ∀ (n a : Nat), findB p a n = none → ∀ j, a ≤ j → j < a + n → p j = false
  | 0, a, _, j, h1, h2 => by omega
  | n + 1, a, h, j, h1, h2 => by
    unfold findB at h
    by_cases e : p a = true
    · rw [if_pos e] at h; cases h
    · rw [if_neg e] at h
      by_cases e2 : j = a
      · subst e2; exact Bool.eq_false_iff.2 e
      · exact findB_none_iff n (a + 1) h j (by omega) (by omega)
theorem findB_mem {p : Nat → Bool} : ∀ (n a i : Nat), findB p a n = some i → p i = true ∧ a ≤ i ∧ i < a + n
  | 0, _, _, h => by cases h
  | n + 1, a, i, h => by
    unfold findB at h
    by_cases e : p a = true
    · rw [if_pos e] at h; cases h; exact ⟨e, Nat.le_refl _, by omega⟩
    · rw [if_neg e] at h
      have := findB_mem n (a + 1) i h
      exact ⟨this.1, by omega, by omega⟩
/-- A tree in which nothing is wrong. -/
theorem treeE_zero {t : List TrN} (h : treeE t = 0) : t.length ≠ 0 ∧ t.length ≤ 120 ∧ AllOk t t.length ∧ treeN t = 0 ∧ ∀ j, j < t.length → loneB t j = false := by
  unfold treeE treeN at *
  unfold treeT at *
  by_cases h0 : t.length = 0
  · rw [if_pos h0] at h; cases h
  rw [if_neg h0] at h ⊢
  by_cases h1 : 120 < t.length
  · rw [if_pos h1] at h; cases h
  rw [if_neg h1] at h ⊢
  cases hf : findB (badB t) 0 t.length with
  | some i =>
    rw [hf] at h
    have := (findB_mem _ _ _ hf).1
    exact absurd h (bne_iff_ne.1 this)
  | none =>
    rw [hf] at h
    cases hg : findB (loneB t) 0 t.length with
    | some i => rw [hg] at h; cases h
    | none =>
      refine ⟨h0, by omega, fun j hj => ?_, rfl, fun j hj => findB_none_iff _ _ hg j (Nat.zero_le _) (by omega)⟩
      have := findB_none_iff _ _ hf j (Nat.zero_le _) (by omega)
      exact bne_eq_false_iff_eq.1 this
def badM (b : List BrN) (i : Nat) : Bool := marksE b i != 0
/-- What is wrong in a branch: the node, and the error. -/
def brT (b : List BrN) : Int × Int :=
  if treeE (plT b) ≠ 0 then (treeN (plT b), treeE (plT b)) else match findB (badM b) 0 b.length with
    | some i => (i, marksE b i)
    | none => (0, 0)
def brNo (b : List BrN) : Int := (brT b).1
def brEr (b : List BrN) : Int := (brT b).2
theorem br_of {b : List BrN} {x y : Int} (h : brT b = (x, y)) : brNo b = x ∧ brEr b = y := by unfold brNo brEr; rw [h]; exact ⟨rfl, rfl⟩
theorem brT_tree {b : List BrN} (h : treeE (plT b) ≠ 0) : brT b = (treeN (plT b), treeE (plT b)) := if_pos h
theorem brT_mark {b : List BrN} (h : treeE (plT b) = 0) {i : Nat} (hi : i < b.length) (hl : ∀ j, j < i → marksE b j = 0) (he : marksE b i ≠ 0) : brT b = ((i : Int), marksE b i) := by
  unfold brT; rw [if_neg (by omega), findB_some b.length 0 i (Nat.zero_le _) (by omega) (fun j _ hj => by unfold badM; rw [hl j hj]; rfl) (show badM b i = true from bne_iff_ne.2 he)]
theorem brT_ok {b : List BrN} (h : treeE (plT b) = 0) (hl : ∀ j, j < b.length → marksE b j = 0) : brT b = (0, 0) := by
  unfold brT; rw [if_neg (by omega), findB_none b.length 0 (fun j _ hj => by unfold badM; rw [hl j (by omega)]; rfl)]
/-- A branch in which nothing is wrong. -/
theorem brEr_zero {b : List BrN} (h : brEr b = 0) : treeE (plT b) = 0 ∧ brNo b = 0 ∧ ∀ j, j < b.length → marksE b j = 0 := by
  unfold brEr brNo brT at *
  by_cases h0 : treeE (plT b) ≠ 0
  · rw [if_pos h0] at h; exact absurd h h0
  rw [if_neg h0] at h ⊢
  cases hf : findB (badM b) 0 b.length with
  | some i =>
    rw [hf] at h
    exact absurd h (bne_iff_ne.1 (findB_mem _ _ _ hf).1)
  | none => exact ⟨by omega, rfl, fun j hj => bne_eq_false_iff_eq.1 (findB_none_iff _ _ hf j (Nat.zero_le _) (by omega))⟩
set_option maxRecDepth 100000 in
set_option maxHeartbeats 8000000 in
theorem refBrCheck (B : Nat) (w : World) (v : Value) (b : List BrN) (hb : BrIn B w v b) (hB : B ≤ w.heap.size) (hsm : SmallB b) :
    RetB Tryz.prog 23 #[v] w (.tuple #[.int .i64 (brNo b), .int .i64 (brEr b)]) := by
  unfold RetB
  obtain ⟨aa, cap, rfl⟩ := hb.form
  have HV := Lib.hid hb; clear hb
  have HSM := Lib.hid hsm
  have hlen := hsm.len
  clear hsm
  by_cases ht : treeE (plT b) = 0
  case neg =>
    have HR := Lib.hid (br_of (brT_tree ht))
    have q1 : (treeE (plT b) != 0) = true := bne_iff_ne.2 ht
    clear ht
    go_enter Tryz.func23, Tryz.ntmps23
    go_wp2_with (first | (go_at_call 38; refine (refTree B _ _ b HV.out hB hlen HSM.out.ats).mono ?_; rintro e w1 ⟨⟨a5, cap5, rfl, ho⟩, hb1⟩; have HO1 := Lib.hid ho; have HB1 := Lib.hid hb1; clear ho hb1) | (go_at_call 22; refine (refTreeCheck _ _ (plT b) _ (HO1.out.in okT) HSM.out.tree).mono ?_; rintro e w2 ⟨rfl, hb2⟩; have HB2 := Lib.hid (Ext.trans HB1.out hb2); clear hb2))
    go_ret2
    exact ⟨by rw [HR.out.1, HR.out.2]; rfl, HB2.out⟩
  have HT := Lib.hid ht
  have HZ := Lib.hid (treeE_zero ht)
  have q1 : (treeE (plT b) != 0) = false := bne_eq_false_iff_eq.2 ht
  clear ht
  go_enter Tryz.func23, Tryz.ntmps23
  go_wp2_with (first | (go_at_call 38; refine (refTree B _ _ b HV.out hB hlen HSM.out.ats).mono ?_; rintro e w1 ⟨⟨a5, cap5, rfl, ho⟩, hb1⟩; have HO1 := Lib.hid ho; have HB1 := Lib.hid hb1; clear ho hb1) | (go_at_call 22; refine (refTreeCheck _ _ (plT b) _ (HO1.out.in okT) HSM.out.tree).mono ?_; rintro e w2 ⟨rfl, hb2⟩; have HB2 := Lib.hid (Ext.trans HB1.out hb2); clear hb2))
  go_loopw [5, 6] (fun _ i w' => ∃ (wi : World) (k : Nat), wi = w' ∧ k ≤ b.length ∧ i = .int .i64 k ∧ (∀ j, j < k → marksE b j = 0) ∧ Ext w wi) (fun _ i _ => b.length - (intOf i).toNat)
  case atStart => exact ⟨_, 0, rfl, Nat.zero_le _, rfl, fun j hj => absurd hj (by omega), HB2.out⟩
  case round =>
    clear HB2 HO1 HB1
    obtain ⟨wi, k, rfl, hk, rfl, hp, hE⟩ := hrel
    have HP := Lib.hid hp; have HE := Lib.hid hE
    clear hp hE
    by_cases hlt : k < b.length
    case neg =>
      obtain rfl : k = b.length := by omega
      have HR := Lib.hid (br_of (brT_ok HT.out HP.out))
      go_wp2
      go_ret2
      exact ⟨by rw [HR.out.1, HR.out.2]; rfl, HE.out⟩
    have j1 : ((k : Nat) : Int) < (b.length : Int) := by omega
    have j0 : (0 : Int) ≤ (k : Int) := by omega
    by_cases he : marksE b k = 0
    case neg =>
      have HR := Lib.hid (br_of (brT_mark HT.out hlt HP.out he))
      have q2 : (marksE b k != 0) = true := bne_iff_ne.2 he
      clear he
      go_wp2_with (go_at_call 64; refine (refMarks19 B _ _ b k (HV.out.ext okB HE.out) (Nat.le_trans hB HE.out.size) HSM.out HZ.out.2.2.1 hlt).mono ?_; rintro e w3 ⟨rfl, hb3⟩; have HB3 := Lib.hid (Ext.trans HE.out hb3); clear hb3)
      go_ret2
      exact ⟨by rw [HR.out.1, HR.out.2]; rfl, HB3.out⟩
    have q2 : (marksE b k != 0) = false := bne_eq_false_iff_eq.2 he
    have HN : Hid (∀ j, j < k + 1 → marksE b j = 0) := by
      intro j hj
      by_cases e : j = k
      · subst e; exact he
      · exact HP.out j (by omega)
    clear he
    go_wp2_with (go_at_call 64; refine (refMarks19 B _ _ b k (HV.out.ext okB HE.out) (Nat.le_trans hB HE.out.size) HSM.out HZ.out.2.2.1 hlt).mono ?_; rintro e w3 ⟨rfl, hb3⟩; have HB3 := Lib.hid (Ext.trans HE.out hb3); clear hb3)
    go_roundw
    case rel => exact ⟨_, k + 1, rfl, by omega, by go_num, HN.out, HB3.out⟩
    case measure => first | (simp [intOf]; done) | (simp [intOf]; omega)
end Go.Proofs.YtiliglpolcpnbaaGreatDoor

namespace Go.Proofs.YtiliglpolcpnbaaGreatDoor
open Go.RowKit

theorem ListIn.zero {α : Type} {C : Cd α} {B : Nat} {w : World} {v : Value} {l : List α} (h : ListIn C B w v l) (hv : ∃ n cap, v = .slice none n cap) : l = [] := by
  obtain ⟨a, cap, rfl, _, _, hc⟩ := h
  obtain ⟨n', cap', he⟩ := hv
  cases he
  cases l with
  | nil => rfl
  | cons y r => obtain ⟨b, off, cs, h0, _⟩ := hc 0 (by simp); cases h0
set_option maxRecDepth 100000 in
set_option maxHeartbeats 4000000 in
theorem slCloneS (B : Nat) (v : Value) (l : List ByteArray) (w : World) (hv : StrIn B w v l) (hB : B ≤ w.heap.size) (hl : l.length ≤ 1000) :
    Calls Tryz.prog 112 #[v] w (OwnP cdS w l) := by
  obtain ⟨a, cap, rfl⟩ := hv.form
  have HV := Lib.hid hv; clear hv
  cases a with
  | none =>
    have := HV.out.zero ⟨_, _, rfl⟩
    subst this
    have hnil := fun wx => Lib.run_eql_slice_nil (P := Tryz.prog) wx 39 9 none 0 cap 0 0 okS.sl.und
    go_enter Tryz.func112, Tryz.ntmps112
    go_wp2
    go_ret
    exact ⟨⟨_, _, _, rfl, OwnL.nil _ _ _⟩, Below.refl _ _⟩
  | some ad =>
    have hnil := fun wx => Lib.run_eql_slice_nil (P := Tryz.prog) wx 39 9 (some ad) l.length cap 0 0 okS.sl.und
    go_enter Tryz.func112, Tryz.ntmps112
    go_wp2_with (at_builtin; refine appL okS rfl (.tmp 5) (.tmp 6) rfl _ _ [] l w (w.alloc (.cells #[] 9)) rfl rfl (OwnL.fresh cdS w) ((HV.out.mono okS hB).ext okS (ext_alloc _ _)) (ext_alloc _ _) (by simp) (by simp; omega) ?_; intro v1 w1 ha; have HA := Lib.hid ha; clear ha)
    obtain ⟨a6, cap6, rfl⟩ := HA.out.own.form
    go_ret
    exact ⟨⟨_, _, _, rfl, HA.out.own⟩, HA.out.below⟩
end Go.Proofs.YtiliglpolcpnbaaGreatDoor
