/- bsd.EncodeDir. -/
/- limewashref24.EncodeDir, DecodeDir. -/
import Derived.Test.YtddgbijhenkojaaGreatDoorQBsdI
import Derived.Test.YtddgbijhenkojaaGreatDoorQDirR
import Derived.Test.YtddgbijhenkojaaGreatDoorQBsdG
namespace Go.Proofs.YtddgbijhenkojaaGreatDoor
open Go.RowKit

/-- A directory, a number and an error. -/
def DirP (B : Nat) (w : World) (d : DiN) (n er : Int) (e : Ending) (w' : World) : Prop := (∃ v', e = .returned (.tuple #[v', .int .i64 n, .int .i64 er]) ∧ DirIn B w' v' d) ∧ Ext w w'
theorem zDir_in (B : Nat) (w : World) : DirIn B w (.agg #[.slice none 0 0, .bool false, .slice none 0 0, .slice none 0 0]) zDiN := ⟨_, _, _, rfl, attIn_nil _ _ _, strIn_nil _ _ _, ListIn.nil _ _ _ _⟩
theorem ens_chk {d : DiN} (h : dirE d = 0) {x : DeN} (hx : x ∈ d.ens) : chkE x.nd.ats = 0 := by
  obtain ⟨j, hj, rfl⟩ := List.mem_iff_getElem.1 hx
  have := (dirE_zero h).2.2.2.2.2 j hj
  unfold entE at this
  rw [getE_at d.ens j hj] at this
  exact ent_chk this
set_option maxRecDepth 100000 in
theorem encDir1 (v : Value) (l : List Attr) (w : World) (hL : Laid w) (hv : AttrsAt w v l) (hm : Small l) :
    Calls Tryz.prog 25 #[v] w fun e w' => (∃ v', e = .returned (.tuple #[v', .int .i64 (wrF l).2]) ∧ AttT w' v' (wrF l).1) ∧ Ext w w' := by
  have HL := Lib.hid hL; have HV := Lib.hid hv; have HM := Lib.hid hm
  clear hL hv hm
  go_enter Tryz.func25, Tryz.ntmps25
  go_wp2_with (go_at_call 23; refine (bsdWrite _ l false _ HL.out HV.out HM.out).mono ?_; rintro e w1 ⟨⟨v1, rfl, ho1⟩, hb⟩; have HO := Lib.hid ho1; have HB := Lib.hid hb; clear ho1 hb)
  go_ret2
  exact ⟨⟨_, rfl, HO.out⟩, HB.out⟩
theorem set4 {w w1 W2 : World} {b : Nat} {t : TypeId} {x0 x1 x2 x3 y0 y1 y2 y3 : Value} (hq : w1.heap[b]? = some (.cells #[x0, x1, x2, x3] t (0, 0))) (hb : w.heap.size ≤ b) (he : Ext w w1) (hW : W2 = setL w1 b 0 [y0, y1, y2, y3]) :
    W2.heap[b]? = some (.cells #[y0, y1, y2, y3] t (0, 0)) ∧ Ext w W2 ∧ Chg 0 t (some b) w1 W2 := by
  subst hW
  exact ⟨by rw [setL_blk _ _ _ _ hq]; rfl, setL_below hb _ _ _ he, setL_chg (Nat.zero_le _) hq _⟩
theorem hcB {B b : Nat} {w w' : World} {t : TypeId} {c : Array Value} (hB : B ≤ b) (h : Chg 0 t (some (b + 1)) w w') (hq : w.heap[b + 1]? = some (.cells c t (0, 0))) : Chg B t (some (b + 1)) w w' := ⟨h.keep, h.size, fun g hg => by cases hg; exact ⟨by omega, _, _, hq⟩⟩
theorem strNo {B : Nat} {w : World} {v : Value} {d : DiN} (h : StrIn B w v d.red) (h2 : ¬ (d.opq = true ∨ 0 < d.red.length)) : StrIn B w v [] := by
  have : d.red = [] := List.length_eq_zero_iff.1 (by have : ¬ 0 < d.red.length := fun e => h2 (.inr e)
                                                     omega)
  rwa [this] at h
set_option maxRecDepth 100000 in
theorem decDir1 (v : Value) (l : List Attr) (w : World) (hL : Laid w) (hv : AttrsAt w v l) (hm : Small l) :
    Calls Tryz.prog 32 #[v] w fun e w' => (∃ v', e = .returned (.tuple #[v', .int .i64 (rdF l).2]) ∧ AttT w' v' (rdF l).1) ∧ Ext w w' := by
  have HL := Lib.hid hL; have HV := Lib.hid hv; have HM := Lib.hid hm
  clear hL hv hm
  by_cases h : bdE l = 0
  case neg =>
    have HR : Hid (rdF l = (bdP l, bdE l)) := Lib.hid (by unfold rdF; rw [if_neg (fun e => h e.1)])
    have q1 : (bdE l == 0) = false := beq_eq_false_iff_ne.2 h
    clear h
    go_enter Tryz.func32, Tryz.ntmps32
    go_wp2_with (go_at_call 31; refine (bsdRead _ l _ HL.out HV.out HM.out).mono ?_; rintro e w1 ⟨⟨v1, rfl, ho1⟩, hb⟩; have HO := Lib.hid ho1; have HB := Lib.hid hb; clear ho1 hb)
    go_ret2
    exact ⟨⟨_, by rw [HR.out]; rfl, by rw [HR.out]; exact HO.out⟩, HB.out⟩
  have q1 : (bdE l == 0) = true := beq_iff_eq.2 h
  cases ho : bdO l
  case false =>
    have HR : Hid (rdF l = (bdP l, bdE l)) := Lib.hid (by unfold rdF; rw [if_neg (fun e => by rw [ho] at e; cases e.2)])
    clear h
    go_enter Tryz.func32, Tryz.ntmps32
    go_wp2_with (go_at_call 31; refine (bsdRead _ l _ HL.out HV.out HM.out).mono ?_; rintro e w1 ⟨⟨v1, rfl, ho1⟩, hb⟩; have HO := Lib.hid ho1; have HB := Lib.hid hb; clear ho1 hb)
    go_ret2
    exact ⟨⟨_, by rw [HR.out]; rfl, by rw [HR.out]; exact HO.out⟩, HB.out⟩
  case true =>
    have HR : Hid (rdF l = ([], 6)) := Lib.hid (by unfold rdF; rw [if_pos ⟨h, ho⟩])
    clear h
    go_enter Tryz.func32, Tryz.ntmps32
    go_wp2_with (go_at_call 31; refine (bsdRead _ l _ HL.out HV.out HM.out).mono ?_; rintro e w1 ⟨⟨v1, rfl, ho1⟩, hb⟩; have HO := Lib.hid ho1; have HB := Lib.hid hb; clear ho1 hb)
    go_ret2
    exact ⟨⟨_, by rw [HR.out]; rfl, by rw [HR.out]; exact AttT.nil _ _ _ (AttrsAt.nil _ _ _)⟩, HB.out⟩
set_option maxRecDepth 100000 in
set_option maxHeartbeats 16000000 in
theorem bsdEncodeDir (B : Nat) (w : World) (v : Value) (d : DiN) (hL : Laid w) (hd : DirIn B w v d) (hB : B ≤ w.heap.size) (hsm : SmallD d) :
    Calls Tryz.prog 8 #[v] w (DirP B w (dncD d) (dncN d) (dncE d)) := by
  have HD := Lib.hid hd
  obtain ⟨va, vr, ve, rfl, ha, hr, he⟩ := hd
  have HA := Lib.hid ha; have HR := Lib.hid hr; have HE := Lib.hid he; have HSM := Lib.hid hsm; have HL := Lib.hid hL
  obtain ⟨a3, cap3, rfl⟩ := ha.form
  obtain ⟨a4, cap4, rfl⟩ := hr.form
  obtain ⟨a5, cap5, rfl⟩ := he.form
  have hlen := hsm.len
  clear ha hr he hsm hL
  by_cases e1 : dirE d = 0
  case neg =>
    have HX := Lib.hid (dnc_of (dncT_dir e1))
    have q1 : (dirE d != 0) = true := bne_iff_ne.2 e1
    clear e1
    go_enter Tryz.func8, Tryz.ntmps8
    go_wp2_with (go_at_call 22; refine (brCheckDir B _ _ d (HD.out.ext ((ext_alloc _ _).trans (ext_alloc _ _))) HSM.out).mono ?_; rintro e w1 ⟨rfl, hb1⟩; have q2 : w1.heap[w.heap.size + 1]? = some (.cells #[.slice none 0 0, .bool false, .slice none 0 0, .slice none 0 0] 26 (0, 0)) := blk_ext hb1 (blk_at (by simp)); have r0 := blk_cell q2 0; have r1 := blk_cell q2 1; have r2 := blk_cell q2 2; have r3 := blk_cell q2 3; have fz : ∀ j, w1.frozen? ⟨w.heap.size + 1, j, none⟩ = false := fun j => blk_thaw q2 j; have Q2 := Lib.hid q2; clear q2; have q1 : w1.heap[w.heap.size]? = some (.cells #[.slice a3 d.ats.length cap3, .bool d.opq, .slice a4 d.red.length cap4, .slice a5 d.ens.length cap5] 26 (0, 0)) := blk_ext hb1 (blk_alloc (blk_new w _)); have k0 := blk_cell q1 0; have k1 := blk_cell q1 1; have k2 := blk_cell q1 2; have k3 := blk_cell q1 3; have Q1 := Lib.hid q1; clear q1; have HB1 := Lib.hid (((ext_alloc _ _).trans (ext_alloc _ _)).trans hb1); clear hb1)
    refine name_world (P := fun W => bodyPost _ _ _ _ _ W) _ ?_
    intro W2 hW2
    obtain ⟨hq, hx, hc⟩ := set4 Q2.out (by omega) HB1.out hW2
    refine bodyPost_ret (v := .tuple #[.agg #[.slice none 0 0, .bool false, .slice none 0 0, .slice none 0 0], .int .i64 (dirN d), .int .i64 (dirE d)]) (by simp [results, Tryz.f8, go_sem, blk_cell hq 0, blk_cell hq 1, blk_cell hq 2, blk_cell hq 3]) rfl ?_
    exact ⟨⟨_, by rw [HX.out.2.1, HX.out.2.2], by rw [HX.out.1]; exact zDir_in _ _⟩, hx⟩
  have q1 : (dirE d != 0) = false := bne_eq_false_iff_eq.2 e1
  have E1 := Lib.hid e1
  clear e1
  by_cases e2 : 0 < d.red.length
  case pos =>
    have HX := Lib.hid (dnc_of (dncT_red E1.out e2))
    have q2 := lenP e2
    go_enter Tryz.func8, Tryz.ntmps8
    go_wp2_with (go_at_call 22; refine (brCheckDir B _ _ d (HD.out.ext ((ext_alloc _ _).trans (ext_alloc _ _))) HSM.out).mono ?_; rintro e w1 ⟨rfl, hb1⟩; have q2 : w1.heap[w.heap.size + 1]? = some (.cells #[.slice none 0 0, .bool false, .slice none 0 0, .slice none 0 0] 26 (0, 0)) := blk_ext hb1 (blk_at (by simp)); have r0 := blk_cell q2 0; have r1 := blk_cell q2 1; have r2 := blk_cell q2 2; have r3 := blk_cell q2 3; have fz : ∀ j, w1.frozen? ⟨w.heap.size + 1, j, none⟩ = false := fun j => blk_thaw q2 j; have Q2 := Lib.hid q2; clear q2; have q1 : w1.heap[w.heap.size]? = some (.cells #[.slice a3 d.ats.length cap3, .bool d.opq, .slice a4 d.red.length cap4, .slice a5 d.ens.length cap5] 26 (0, 0)) := blk_ext hb1 (blk_alloc (blk_new w _)); have k0 := blk_cell q1 0; have k1 := blk_cell q1 1; have k2 := blk_cell q1 2; have k3 := blk_cell q1 3; have Q1 := Lib.hid q1; clear q1; have HB1 := Lib.hid (((ext_alloc _ _).trans (ext_alloc _ _)).trans hb1); clear hb1)
    refine name_world (P := fun W => bodyPost _ _ _ _ _ W) _ ?_
    intro W2 hW2
    obtain ⟨hq, hx, hc⟩ := set4 Q2.out (by omega) HB1.out hW2
    refine bodyPost_ret (v := .tuple #[.agg #[.slice none 0 0, .bool false, .slice none 0 0, .slice none 0 0], .int .i64 (-1), .int .i64 (15)]) (by simp [results, Tryz.f8, go_sem, blk_cell hq 0, blk_cell hq 1, blk_cell hq 2, blk_cell hq 3]) rfl ?_
    exact ⟨⟨_, by rw [HX.out.2.1, HX.out.2.2], by rw [HX.out.1]; exact zDir_in _ _⟩, hx⟩
  have q2 := lenZ e2
  have E2 := Lib.hid e2
  by_cases e3 : bwE d.ats d.opq = 0
  case neg =>
    have HX := Lib.hid (dnc_of (dncT_ats E1.out E2.out e3))
    have q3 : (bwE d.ats d.opq != 0) = true := bne_iff_ne.2 e3
    clear e3
    go_enter Tryz.func8, Tryz.ntmps8
    go_wp2_with (first | (go_at_call 22; refine (brCheckDir B _ _ d (HD.out.ext ((ext_alloc _ _).trans (ext_alloc _ _))) HSM.out).mono ?_; rintro e w1 ⟨rfl, hb1⟩; have q2 : w1.heap[w.heap.size + 1]? = some (.cells #[.slice none 0 0, .bool false, .slice none 0 0, .slice none 0 0] 26 (0, 0)) := blk_ext hb1 (blk_at (by simp)); have r0 := blk_cell q2 0; have r1 := blk_cell q2 1; have r2 := blk_cell q2 2; have r3 := blk_cell q2 3; have fz : ∀ j, w1.frozen? ⟨w.heap.size + 1, j, none⟩ = false := fun j => blk_thaw q2 j; have Q2 := Lib.hid q2; clear q2; have q1 : w1.heap[w.heap.size]? = some (.cells #[.slice a3 d.ats.length cap3, .bool d.opq, .slice a4 d.red.length cap4, .slice a5 d.ens.length cap5] 26 (0, 0)) := blk_ext hb1 (blk_alloc (blk_new w _)); have k0 := blk_cell q1 0; have k1 := blk_cell q1 1; have k2 := blk_cell q1 2; have k3 := blk_cell q1 3; have Q1 := Lib.hid q1; clear q1; have HB1 := Lib.hid (((ext_alloc _ _).trans (ext_alloc _ _)).trans hb1); clear hb1) | (go_at_call 23; refine (bsdWrite _ d.ats d.opq _ (HL.out.ext HB1.out) ((HA.out.ext okA HB1.out).attrs) HSM.out.ats).mono ?_; rintro e w3 ⟨⟨v3, rfl, hv3⟩, hb3⟩; obtain ⟨a7, cap7, rfl, -, -⟩ := hv3.1; clear r0 r1 r2 r3 fz; have q2 : w3.heap[w.heap.size + 1]? = some (.cells #[.slice none 0 0, .bool false, .slice none 0 0, .slice none 0 0] 26 (0, 0)) := blk_ext hb3 Q2.out; have r0 := blk_cell q2 0; have r1 := blk_cell q2 1; have r2 := blk_cell q2 2; have r3 := blk_cell q2 3; have fz : ∀ j, w3.frozen? ⟨w.heap.size + 1, j, none⟩ = false := fun j => blk_thaw q2 j; have Q2 := Lib.hid q2; clear q2; have q1 := blk_ext hb3 Q1.out; have y0 := blk_cell q1 0; have y1 := blk_cell q1 1; have y2 := blk_cell q1 2; have y3 := blk_cell q1 3; have fy : ∀ j, w3.frozen? ⟨w.heap.size, j, none⟩ = false := fun j => blk_thaw q1 j; have R1 := Lib.hid q1; clear q1 k0 k1 k2 k3; have HV3 := Lib.hid hv3; have HB3 := Lib.hid (HB1.out.trans hb3); clear hv3 hb3))
    refine name_world (P := fun W => bodyPost _ _ _ _ _ W) _ ?_
    intro W2 hW2
    obtain ⟨hq, hx, hc⟩ := set4 Q2.out (by omega) HB3.out hW2
    refine bodyPost_ret (v := .tuple #[.agg #[.slice none 0 0, .bool false, .slice none 0 0, .slice none 0 0], .int .i64 (-1), .int .i64 (bwE d.ats d.opq)]) (by simp [results, Tryz.f8, go_sem, blk_cell hq 0, blk_cell hq 1, blk_cell hq 2, blk_cell hq 3]) rfl ?_
    exact ⟨⟨_, by rw [HX.out.2.1, HX.out.2.2], by rw [HX.out.1]; exact zDir_in _ _⟩, hx⟩
  have q3 : (bwE d.ats d.opq != 0) = false := bne_eq_false_iff_eq.2 e3
  have E3 := Lib.hid e3
  clear e3
  go_enter Tryz.func8, Tryz.ntmps8
  go_wp2_with (first | (go_at_call 22; refine (brCheckDir B _ _ d (HD.out.ext ((ext_alloc _ _).trans (ext_alloc _ _))) HSM.out).mono ?_; rintro e w1 ⟨rfl, hb1⟩; have q2 : w1.heap[w.heap.size + 1]? = some (.cells #[.slice none 0 0, .bool false, .slice none 0 0, .slice none 0 0] 26 (0, 0)) := blk_ext hb1 (blk_at (by simp)); have r0 := blk_cell q2 0; have r1 := blk_cell q2 1; have r2 := blk_cell q2 2; have r3 := blk_cell q2 3; have fz : ∀ j, w1.frozen? ⟨w.heap.size + 1, j, none⟩ = false := fun j => blk_thaw q2 j; have Q2 := Lib.hid q2; clear q2; have q1 : w1.heap[w.heap.size]? = some (.cells #[.slice a3 d.ats.length cap3, .bool d.opq, .slice a4 d.red.length cap4, .slice a5 d.ens.length cap5] 26 (0, 0)) := blk_ext hb1 (blk_alloc (blk_new w _)); have k0 := blk_cell q1 0; have k1 := blk_cell q1 1; have k2 := blk_cell q1 2; have k3 := blk_cell q1 3; have Q1 := Lib.hid q1; clear q1; have HB1 := Lib.hid (((ext_alloc _ _).trans (ext_alloc _ _)).trans hb1); clear hb1) | (go_at_call 23; refine (bsdWrite _ d.ats d.opq _ (HL.out.ext HB1.out) ((HA.out.ext okA HB1.out).attrs) HSM.out.ats).mono ?_; rintro e w3 ⟨⟨v3, rfl, hv3⟩, hb3⟩; obtain ⟨a7, cap7, rfl, -, -⟩ := hv3.1; clear r0 r1 r2 r3 fz; have q2 : w3.heap[w.heap.size + 1]? = some (.cells #[.slice none 0 0, .bool false, .slice none 0 0, .slice none 0 0] 26 (0, 0)) := blk_ext hb3 Q2.out; have r0 := blk_cell q2 0; have r1 := blk_cell q2 1; have r2 := blk_cell q2 2; have r3 := blk_cell q2 3; have fz : ∀ j, w3.frozen? ⟨w.heap.size + 1, j, none⟩ = false := fun j => blk_thaw q2 j; have Q2 := Lib.hid q2; clear q2; have q1 := blk_ext hb3 Q1.out; have y0 := blk_cell q1 0; have y1 := blk_cell q1 1; have y2 := blk_cell q1 2; have y3 := blk_cell q1 3; have fy : ∀ j, w3.frozen? ⟨w.heap.size, j, none⟩ = false := fun j => blk_thaw q1 j; have R1 := Lib.hid q1; clear q1 k0 k1 k2 k3; have HV3 := Lib.hid hv3; have HB3 := Lib.hid (HB1.out.trans hb3); clear hv3 hb3) | fail)
  refine name_world (P := fun W => Calls _ _ _ W _) _ ?_
  intro W hW
  replace hW : W = setL w3 w.heap.size 0 [.slice a7 (bwL d.ats d.opq).length cap7, .bool false, .slice none 0 0] := hW
  have QB : Hid (W.heap[w.heap.size]? = some (.cells #[.slice a7 (bwL d.ats d.opq).length cap7, .bool false, .slice none 0 0, .slice a5 d.ens.length cap5] 26 (0, 0))) := Lib.hid (by rw [hW, setL_blk _ _ _ _ R1.out]; rfl)
  have QR : Hid (W.heap[w.heap.size + 1]? = some (.cells #[.slice none 0 0, .bool false, .slice none 0 0, .slice none 0 0] 26 (0, 0))) := Lib.hid (by rw [hW]; exact setL_keep _ _ _ _ _ Q2.out (fun e => by injection e with e; omega))
  have HW : Hid (Ext w W) := Lib.hid (by rw [hW]; exact setL_below (Nat.le_refl _) _ _ _ HB3.out)
  have HCW : Hid (Chg B 26 (some w.heap.size) w3 W) := Lib.hid (by rw [hW]; exact setL_chg hB R1.out _)
  have HAL : Hid (AttIn B W (.slice a7 (bwL d.ats d.opq).length cap7) (bwL d.ats d.opq)) := Lib.hid ((attT_in HV3.out).chg okA HCW.out (by decide) (by decide))
  clear hW r0 r1 r2 r3 fz y0 y1 y2 y3 fy
  have HCH := Lib.hid (fun x (hx : x ∈ d.ens) => small_chk (ens_chk E1.out hx))
  refine (bsdEntries w W B w.heap.size _ _ _ _ d.opq d.ens 25 wrF HW.out QB.out (Nat.le_refl _) (HE.out.ext okE HW.out) hB hlen (enters_of Tryz.func25 (by kernel_rfl) rfl) (fun V u x hx hV hu => encDir1 u x.nd.ats V (HL.out.ext hV) hu (HCH.out x hx))).mono ?_
  rintro e w4 ⟨rfl, hp⟩
  have HP := Lib.hid hp
  obtain ⟨ve', hbx, hen⟩ := hp.dir
  have BX := Lib.hid hbx; have EN := Lib.hid hen
  have hq4 : w4.heap[w.heap.size + 1]? = some (.cells #[.slice none 0 0, .bool false, .slice none 0 0, .slice none 0 0] 26 (0, 0)) := hp.keep _ _ QR.out (fun e => by injection e with e; omega)
  have r0 := blk_cell hq4 0; have r1 := blk_cell hq4 1; have r2 := blk_cell hq4 2; have r3 := blk_cell hq4 3
  have fz : ∀ j, w4.frozen? ⟨w.heap.size + 1, j, none⟩ = false := fun j => blk_thaw hq4 j
  have Q4 := Lib.hid hq4
  have HX4 : Hid (Ext w w4) := Lib.hid hp.ext
  have y0 := blk_cell hbx 0; have y1 := blk_cell hbx 1; have y2 := blk_cell hbx 2; have y3 := blk_cell hbx 3
  clear hp hbx hen hq4
  by_cases e4 : (chT d.opq wrF d.ens).2 = 0
  case neg =>
    have HX := Lib.hid (dnc_of (dncT_ent E1.out E2.out E3.out e4))
    have q4 : ((chT d.opq wrF d.ens).2 != 0) = true := bne_iff_ne.2 e4
    clear e4
    go_wp2
    refine name_world (P := fun W => bodyPost _ _ _ _ _ W) _ ?_
    intro W2 hW2
    obtain ⟨hq, hx, hc⟩ := set4 Q4.out (by omega) HX4.out hW2
    refine bodyPost_ret (v := .tuple #[.agg #[.slice none 0 0, .bool false, .slice none 0 0, .slice none 0 0], .int .i64 ((chT d.opq wrF d.ens).1), .int .i64 ((chT d.opq wrF d.ens).2)]) (by simp [results, Tryz.f8, go_sem, blk_cell hq 0, blk_cell hq 1, blk_cell hq 2, blk_cell hq 3]) rfl ?_
    exact ⟨⟨_, by rw [HX.out.2.1, HX.out.2.2], by rw [HX.out.1]; exact zDir_in _ _⟩, hx⟩
  have HX := Lib.hid (dnc_of (dncT_ok E1.out E2.out E3.out e4))
  have q4 : ((chT d.opq wrF d.ens).2 != 0) = false := bne_eq_false_iff_eq.2 e4
  have HCE : Hid (Chg B 26 (some w.heap.size) W w4) := Lib.hid ⟨HP.out.keep, HP.out.size, fun g hg => by cases hg; exact ⟨hB, _, _, QB.out⟩⟩
  have HA4 : Hid (AttIn B w4 (.slice a7 (bwL d.ats d.opq).length cap7) (bwL d.ats d.opq)) := Lib.hid (HAL.out.chg okA HCE.out (by decide) (by decide))
  have HE4 := Lib.hid (EN.out e4)
  obtain ⟨a9, cap9, rfl⟩ := HE4.out.form
  clear e4
  go_wp2
  refine name_world (P := fun W => bodyPost _ _ _ _ _ W) _ ?_
  intro W2 hW2
  obtain ⟨hq, hx, hc⟩ := set4 Q4.out (by omega) HX4.out hW2
  refine bodyPost_ret (v := .tuple #[.agg #[.slice a7 (bwL d.ats d.opq).length cap7, .bool false, .slice none 0 0, .slice a9 (d.ens.map (chX wrF)).length cap9], .int .i64 (0), .int .i64 (0)]) (by simp [results, Tryz.f8, go_sem, blk_cell hq 0, blk_cell hq 1, blk_cell hq 2, blk_cell hq 3]) rfl ?_
  exact ⟨⟨_, by rw [HX.out.2.1, HX.out.2.2], by rw [HX.out.1]; exact ⟨_, _, _, rfl, HA4.out.chg okA (hcB hB hc Q4.out) (by decide) (by decide), strIn_nil _ _ _, HE4.out.chg okE (hcB hB hc Q4.out) (by decide) (by decide)⟩⟩, hx⟩
set_option maxRecDepth 100000 in
set_option maxHeartbeats 16000000 in
theorem bsdDecodeDir (B : Nat) (w : World) (v : Value) (d : DiN) (hL : Laid w) (hd : DirIn B w v d) (hB : B ≤ w.heap.size) (hsm : SmallD d) :
    Calls Tryz.prog 11 #[v] w (DirP B w (ddcD d) (ddcN d) (ddcE d)) := by
  have HD := Lib.hid hd
  obtain ⟨va, vr, ve, rfl, ha, hr, he⟩ := hd
  have HA := Lib.hid ha; have HR := Lib.hid hr; have HE := Lib.hid he; have HSM := Lib.hid hsm; have HL := Lib.hid hL
  obtain ⟨a3, cap3, rfl⟩ := ha.form
  obtain ⟨a4, cap4, rfl⟩ := hr.form
  obtain ⟨a5, cap5, rfl⟩ := he.form
  have hlen := hsm.len
  clear ha hr he hsm hL
  by_cases e1 : dirE d = 0
  case neg =>
    have HX := Lib.hid (ddc_of (ddcT_dir e1))
    have q1 : (dirE d != 0) = true := bne_iff_ne.2 e1
    clear e1
    go_enter Tryz.func11, Tryz.ntmps11
    go_wp2_with (go_at_call 22; refine (brCheckDir B _ _ d (HD.out.ext ((ext_alloc _ _).trans (ext_alloc _ _))) HSM.out).mono ?_; rintro e w1 ⟨rfl, hb1⟩; have q2 : w1.heap[w.heap.size + 1]? = some (.cells #[.slice none 0 0, .bool false, .slice none 0 0, .slice none 0 0] 26 (0, 0)) := blk_ext hb1 (blk_at (by simp)); have r0 := blk_cell q2 0; have r1 := blk_cell q2 1; have r2 := blk_cell q2 2; have r3 := blk_cell q2 3; have fz : ∀ j, w1.frozen? ⟨w.heap.size + 1, j, none⟩ = false := fun j => blk_thaw q2 j; have Q2 := Lib.hid q2; clear q2; have q1 : w1.heap[w.heap.size]? = some (.cells #[.slice a3 d.ats.length cap3, .bool d.opq, .slice a4 d.red.length cap4, .slice a5 d.ens.length cap5] 26 (0, 0)) := blk_ext hb1 (blk_alloc (blk_new w _)); have k0 := blk_cell q1 0; have k1 := blk_cell q1 1; have k2 := blk_cell q1 2; have k3 := blk_cell q1 3; have Q1 := Lib.hid q1; clear q1; have HB1 := Lib.hid (((ext_alloc _ _).trans (ext_alloc _ _)).trans hb1); clear hb1)
    refine name_world (P := fun W => bodyPost _ _ _ _ _ W) _ ?_
    intro W2 hW2
    obtain ⟨hq, hx, hc⟩ := set4 Q2.out (by omega) HB1.out hW2
    refine bodyPost_ret (v := .tuple #[.agg #[.slice none 0 0, .bool false, .slice none 0 0, .slice none 0 0], .int .i64 (dirN d), .int .i64 (dirE d)]) (by simp [results, Tryz.f11, go_sem, blk_cell hq 0, blk_cell hq 1, blk_cell hq 2, blk_cell hq 3]) rfl ?_
    exact ⟨⟨_, by rw [HX.out.2.1, HX.out.2.2], by rw [HX.out.1]; exact zDir_in _ _⟩, hx⟩
  have q1 : (dirE d != 0) = false := bne_eq_false_iff_eq.2 e1
  have E1 := Lib.hid e1
  clear e1
  by_cases e2 : d.opq = true ∨ 0 < d.red.length
  case pos =>
    have HX := Lib.hid (ddc_of (ddcT_mark E1.out e2))
    by_cases e3 : d.opq = true
    case pos =>
      have E3 := Lib.hid e3
      clear e2 e3
      go_enter Tryz.func11, Tryz.ntmps11
      go_wp2_with (go_at_call 22; refine (brCheckDir B _ _ d (HD.out.ext ((ext_alloc _ _).trans (ext_alloc _ _))) HSM.out).mono ?_; rintro e w1 ⟨rfl, hb1⟩; have q2 : w1.heap[w.heap.size + 1]? = some (.cells #[.slice none 0 0, .bool false, .slice none 0 0, .slice none 0 0] 26 (0, 0)) := blk_ext hb1 (blk_at (by simp)); have r0 := blk_cell q2 0; have r1 := blk_cell q2 1; have r2 := blk_cell q2 2; have r3 := blk_cell q2 3; have fz : ∀ j, w1.frozen? ⟨w.heap.size + 1, j, none⟩ = false := fun j => blk_thaw q2 j; have Q2 := Lib.hid q2; clear q2; have q1 : w1.heap[w.heap.size]? = some (.cells #[.slice a3 d.ats.length cap3, .bool d.opq, .slice a4 d.red.length cap4, .slice a5 d.ens.length cap5] 26 (0, 0)) := blk_ext hb1 (blk_alloc (blk_new w _)); have k0 := blk_cell q1 0; have k1 := blk_cell q1 1; rw [E3.out] at k1; have k2 := blk_cell q1 2; have k3 := blk_cell q1 3; have Q1 := Lib.hid q1; clear q1; have HB1 := Lib.hid (((ext_alloc _ _).trans (ext_alloc _ _)).trans hb1); clear hb1)
      refine name_world (P := fun W => bodyPost _ _ _ _ _ W) _ ?_
      intro W2 hW2
      obtain ⟨hq, hx, hc⟩ := set4 Q2.out (by omega) HB1.out hW2
      refine bodyPost_ret (v := .tuple #[.agg #[.slice none 0 0, .bool false, .slice none 0 0, .slice none 0 0], .int .i64 (-1), .int .i64 (6)]) (by simp [results, Tryz.f11, go_sem, blk_cell hq 0, blk_cell hq 1, blk_cell hq 2, blk_cell hq 3]) rfl ?_
      exact ⟨⟨_, by rw [HX.out.2.1, HX.out.2.2], by rw [HX.out.1]; exact zDir_in _ _⟩, hx⟩
    have e4 : 0 < d.red.length := e2.resolve_left e3
    have e5 : d.opq = false := Bool.eq_false_iff.2 e3
    have q2 := lenP e4
    have E5 := Lib.hid e5
    clear e2 e3 e5
    go_enter Tryz.func11, Tryz.ntmps11
    go_wp2_with (go_at_call 22; refine (brCheckDir B _ _ d (HD.out.ext ((ext_alloc _ _).trans (ext_alloc _ _))) HSM.out).mono ?_; rintro e w1 ⟨rfl, hb1⟩; have q2 : w1.heap[w.heap.size + 1]? = some (.cells #[.slice none 0 0, .bool false, .slice none 0 0, .slice none 0 0] 26 (0, 0)) := blk_ext hb1 (blk_at (by simp)); have r0 := blk_cell q2 0; have r1 := blk_cell q2 1; have r2 := blk_cell q2 2; have r3 := blk_cell q2 3; have fz : ∀ j, w1.frozen? ⟨w.heap.size + 1, j, none⟩ = false := fun j => blk_thaw q2 j; have Q2 := Lib.hid q2; clear q2; have q1 : w1.heap[w.heap.size]? = some (.cells #[.slice a3 d.ats.length cap3, .bool d.opq, .slice a4 d.red.length cap4, .slice a5 d.ens.length cap5] 26 (0, 0)) := blk_ext hb1 (blk_alloc (blk_new w _)); have k0 := blk_cell q1 0; have k1 := blk_cell q1 1; rw [E5.out] at k1; have k2 := blk_cell q1 2; have k3 := blk_cell q1 3; have Q1 := Lib.hid q1; clear q1; have HB1 := Lib.hid (((ext_alloc _ _).trans (ext_alloc _ _)).trans hb1); clear hb1)
    refine name_world (P := fun W => bodyPost _ _ _ _ _ W) _ ?_
    intro W2 hW2
    obtain ⟨hq, hx, hc⟩ := set4 Q2.out (by omega) HB1.out hW2
    refine bodyPost_ret (v := .tuple #[.agg #[.slice none 0 0, .bool false, .slice none 0 0, .slice none 0 0], .int .i64 (-1), .int .i64 (6)]) (by simp [results, Tryz.f11, go_sem, blk_cell hq 0, blk_cell hq 1, blk_cell hq 2, blk_cell hq 3]) rfl ?_
    exact ⟨⟨_, by rw [HX.out.2.1, HX.out.2.2], by rw [HX.out.1]; exact zDir_in _ _⟩, hx⟩
  have E2 := Lib.hid e2
  have E5 : Hid (d.opq = false) := Lib.hid (Bool.eq_false_iff.2 fun h => e2 (.inl h))
  have q5 : ¬ 0 < d.red.length := fun h => e2 (.inr h)
  have q2 := lenZ q5
  clear e2
  by_cases e3 : bdE d.ats = 0
  case neg =>
    have HX := Lib.hid (ddc_of (ddcT_ats E1.out E2.out e3))
    have q3 : (bdE d.ats != 0) = true := bne_iff_ne.2 e3
    clear e3
    go_enter Tryz.func11, Tryz.ntmps11
    go_wp2_with (first | (go_at_call 22; refine (brCheckDir B _ _ d (HD.out.ext ((ext_alloc _ _).trans (ext_alloc _ _))) HSM.out).mono ?_; rintro e w1 ⟨rfl, hb1⟩; have q2 : w1.heap[w.heap.size + 1]? = some (.cells #[.slice none 0 0, .bool false, .slice none 0 0, .slice none 0 0] 26 (0, 0)) := blk_ext hb1 (blk_at (by simp)); have r0 := blk_cell q2 0; have r1 := blk_cell q2 1; have r2 := blk_cell q2 2; have r3 := blk_cell q2 3; have fz : ∀ j, w1.frozen? ⟨w.heap.size + 1, j, none⟩ = false := fun j => blk_thaw q2 j; have Q2 := Lib.hid q2; clear q2; have q1 : w1.heap[w.heap.size]? = some (.cells #[.slice a3 d.ats.length cap3, .bool d.opq, .slice a4 d.red.length cap4, .slice a5 d.ens.length cap5] 26 (0, 0)) := blk_ext hb1 (blk_alloc (blk_new w _)); have k0 := blk_cell q1 0; have k1 := blk_cell q1 1; rw [E5.out] at k1; have k2 := blk_cell q1 2; have k3 := blk_cell q1 3; have Q1 := Lib.hid q1; clear q1; have HB1 := Lib.hid (((ext_alloc _ _).trans (ext_alloc _ _)).trans hb1); clear hb1) | (go_at_call 31; refine (bsdRead _ d.ats _ (HL.out.ext HB1.out) ((HA.out.ext okA HB1.out).attrs) HSM.out.ats).mono ?_; rintro e w3 ⟨⟨v3, rfl, hv3⟩, hb3⟩; obtain ⟨a7, cap7, rfl, -, -⟩ := hv3.1; clear r0 r1 r2 r3 fz; have q2 : w3.heap[w.heap.size + 1]? = some (.cells #[.slice none 0 0, .bool false, .slice none 0 0, .slice none 0 0] 26 (0, 0)) := blk_ext hb3 Q2.out; have r0 := blk_cell q2 0; have r1 := blk_cell q2 1; have r2 := blk_cell q2 2; have r3 := blk_cell q2 3; have fz : ∀ j, w3.frozen? ⟨w.heap.size + 1, j, none⟩ = false := fun j => blk_thaw q2 j; have Q2 := Lib.hid q2; clear q2; have q1 := blk_ext hb3 Q1.out; have y0 := blk_cell q1 0; have y1 := blk_cell q1 1; have y2 := blk_cell q1 2; have y3 := blk_cell q1 3; have fy : ∀ j, w3.frozen? ⟨w.heap.size, j, none⟩ = false := fun j => blk_thaw q1 j; have R1 := Lib.hid q1; clear q1 k0 k1 k2 k3; have HV3 := Lib.hid hv3; have HB3 := Lib.hid (HB1.out.trans hb3); clear hv3 hb3))
    refine name_world (P := fun W => bodyPost _ _ _ _ _ W) _ ?_
    intro W2 hW2
    obtain ⟨hq, hx, hc⟩ := set4 Q2.out (by omega) HB3.out hW2
    refine bodyPost_ret (v := .tuple #[.agg #[.slice none 0 0, .bool false, .slice none 0 0, .slice none 0 0], .int .i64 (-1), .int .i64 (bdE d.ats)]) (by simp [results, Tryz.f11, go_sem, blk_cell hq 0, blk_cell hq 1, blk_cell hq 2, blk_cell hq 3]) rfl ?_
    exact ⟨⟨_, by rw [HX.out.2.1, HX.out.2.2], by rw [HX.out.1]; exact zDir_in _ _⟩, hx⟩
  have q3 : (bdE d.ats != 0) = false := bne_eq_false_iff_eq.2 e3
  have E3 := Lib.hid e3
  clear e3
  go_enter Tryz.func11, Tryz.ntmps11
  go_wp2_with (first | (go_at_call 22; refine (brCheckDir B _ _ d (HD.out.ext ((ext_alloc _ _).trans (ext_alloc _ _))) HSM.out).mono ?_; rintro e w1 ⟨rfl, hb1⟩; have q2 : w1.heap[w.heap.size + 1]? = some (.cells #[.slice none 0 0, .bool false, .slice none 0 0, .slice none 0 0] 26 (0, 0)) := blk_ext hb1 (blk_at (by simp)); have r0 := blk_cell q2 0; have r1 := blk_cell q2 1; have r2 := blk_cell q2 2; have r3 := blk_cell q2 3; have fz : ∀ j, w1.frozen? ⟨w.heap.size + 1, j, none⟩ = false := fun j => blk_thaw q2 j; have Q2 := Lib.hid q2; clear q2; have q1 : w1.heap[w.heap.size]? = some (.cells #[.slice a3 d.ats.length cap3, .bool d.opq, .slice a4 d.red.length cap4, .slice a5 d.ens.length cap5] 26 (0, 0)) := blk_ext hb1 (blk_alloc (blk_new w _)); have k0 := blk_cell q1 0; have k1 := blk_cell q1 1; rw [E5.out] at k1; have k2 := blk_cell q1 2; have k3 := blk_cell q1 3; have Q1 := Lib.hid q1; clear q1; have HB1 := Lib.hid (((ext_alloc _ _).trans (ext_alloc _ _)).trans hb1); clear hb1) | (go_at_call 31; refine (bsdRead _ d.ats _ (HL.out.ext HB1.out) ((HA.out.ext okA HB1.out).attrs) HSM.out.ats).mono ?_; rintro e w3 ⟨⟨v3, rfl, hv3⟩, hb3⟩; obtain ⟨a7, cap7, rfl, -, -⟩ := hv3.1; clear r0 r1 r2 r3 fz; have q2 : w3.heap[w.heap.size + 1]? = some (.cells #[.slice none 0 0, .bool false, .slice none 0 0, .slice none 0 0] 26 (0, 0)) := blk_ext hb3 Q2.out; have r0 := blk_cell q2 0; have r1 := blk_cell q2 1; have r2 := blk_cell q2 2; have r3 := blk_cell q2 3; have fz : ∀ j, w3.frozen? ⟨w.heap.size + 1, j, none⟩ = false := fun j => blk_thaw q2 j; have Q2 := Lib.hid q2; clear q2; have q1 := blk_ext hb3 Q1.out; have y0 := blk_cell q1 0; have y1 := blk_cell q1 1; have y2 := blk_cell q1 2; have y3 := blk_cell q1 3; have fy : ∀ j, w3.frozen? ⟨w.heap.size, j, none⟩ = false := fun j => blk_thaw q1 j; have R1 := Lib.hid q1; clear q1 k0 k1 k2 k3; have HV3 := Lib.hid hv3; have HB3 := Lib.hid (HB1.out.trans hb3); clear hv3 hb3) | fail)
  refine name_world (P := fun W => Calls _ _ _ W _) _ ?_
  intro W hW
  replace hW : W = setL w3 w.heap.size 0 [.slice a7 (bdP d.ats).length cap7, .bool (bdO d.ats)] := hW
  have QB : Hid (W.heap[w.heap.size]? = some (.cells #[.slice a7 (bdP d.ats).length cap7, .bool (bdO d.ats), .slice a4 d.red.length cap4, .slice a5 d.ens.length cap5] 26 (0, 0))) := Lib.hid (by rw [hW, setL_blk _ _ _ _ R1.out]; rfl)
  have QR : Hid (W.heap[w.heap.size + 1]? = some (.cells #[.slice none 0 0, .bool false, .slice none 0 0, .slice none 0 0] 26 (0, 0))) := Lib.hid (by rw [hW]; exact setL_keep _ _ _ _ _ Q2.out (fun e => by injection e with e; omega))
  have HW : Hid (Ext w W) := Lib.hid (by rw [hW]; exact setL_below (Nat.le_refl _) _ _ _ HB3.out)
  have HCW : Hid (Chg B 26 (some w.heap.size) w3 W) := Lib.hid (by rw [hW]; exact setL_chg hB R1.out _)
  have HAL : Hid (AttIn B W (.slice a7 (bdP d.ats).length cap7) (bdP d.ats)) := Lib.hid ((attT_in HV3.out).chg okA HCW.out (by decide) (by decide))
  clear hW r0 r1 r2 r3 fz y0 y1 y2 y3 fy
  have HCH := Lib.hid (fun x (hx : x ∈ d.ens) => small_chk (ens_chk E1.out hx))
  refine (bsdEntries w W B w.heap.size _ _ _ _ (bdO d.ats) d.ens 32 rdF HW.out QB.out (Nat.le_refl _) (HE.out.ext okE HW.out) hB hlen (enters_of Tryz.func32 (by kernel_rfl) rfl) (fun V u x hx hV hu => decDir1 u x.nd.ats V (HL.out.ext hV) hu (HCH.out x hx))).mono ?_
  rintro e w4 ⟨rfl, hp⟩
  have HP := Lib.hid hp
  obtain ⟨ve', hbx, hen⟩ := hp.dir
  have BX := Lib.hid hbx; have EN := Lib.hid hen
  have hq4 : w4.heap[w.heap.size + 1]? = some (.cells #[.slice none 0 0, .bool false, .slice none 0 0, .slice none 0 0] 26 (0, 0)) := hp.keep _ _ QR.out (fun e => by injection e with e; omega)
  have r0 := blk_cell hq4 0; have r1 := blk_cell hq4 1; have r2 := blk_cell hq4 2; have r3 := blk_cell hq4 3
  have fz : ∀ j, w4.frozen? ⟨w.heap.size + 1, j, none⟩ = false := fun j => blk_thaw hq4 j
  have Q4 := Lib.hid hq4
  have HX4 : Hid (Ext w w4) := Lib.hid hp.ext
  have y0 := blk_cell hbx 0; have y1 := blk_cell hbx 1; have y2 := blk_cell hbx 2; have y3 := blk_cell hbx 3
  clear hp hbx hen hq4
  by_cases e4 : (chT (bdO d.ats) rdF d.ens).2 = 0
  case neg =>
    have HX := Lib.hid (ddc_of (ddcT_ent E1.out E2.out E3.out e4))
    have q4 : ((chT (bdO d.ats) rdF d.ens).2 != 0) = true := bne_iff_ne.2 e4
    clear e4
    go_wp2
    refine name_world (P := fun W => bodyPost _ _ _ _ _ W) _ ?_
    intro W2 hW2
    obtain ⟨hq, hx, hc⟩ := set4 Q4.out (by omega) HX4.out hW2
    refine bodyPost_ret (v := .tuple #[.agg #[.slice none 0 0, .bool false, .slice none 0 0, .slice none 0 0], .int .i64 ((chT (bdO d.ats) rdF d.ens).1), .int .i64 ((chT (bdO d.ats) rdF d.ens).2)]) (by simp [results, Tryz.f11, go_sem, blk_cell hq 0, blk_cell hq 1, blk_cell hq 2, blk_cell hq 3]) rfl ?_
    exact ⟨⟨_, by rw [HX.out.2.1, HX.out.2.2], by rw [HX.out.1]; exact zDir_in _ _⟩, hx⟩
  have HX := Lib.hid (ddc_of (ddcT_ok E1.out E2.out E3.out e4))
  have q4 : ((chT (bdO d.ats) rdF d.ens).2 != 0) = false := bne_eq_false_iff_eq.2 e4
  have HCE : Hid (Chg B 26 (some w.heap.size) W w4) := Lib.hid ⟨HP.out.keep, HP.out.size, fun g hg => by cases hg; exact ⟨hB, _, _, QB.out⟩⟩
  have HA4 : Hid (AttIn B w4 (.slice a7 (bdP d.ats).length cap7) (bdP d.ats)) := Lib.hid (HAL.out.chg okA HCE.out (by decide) (by decide))
  have HE4 := Lib.hid (EN.out e4)
  obtain ⟨a9, cap9, rfl⟩ := HE4.out.form
  clear e4
  go_wp2
  refine name_world (P := fun W => bodyPost _ _ _ _ _ W) _ ?_
  intro W2 hW2
  obtain ⟨hq, hx, hc⟩ := set4 Q4.out (by omega) HX4.out hW2
  refine bodyPost_ret (v := .tuple #[.agg #[.slice a7 (bdP d.ats).length cap7, .bool (bdO d.ats), .slice a4 d.red.length cap4, .slice a9 (d.ens.map (chX rdF)).length cap9], .int .i64 (0), .int .i64 (0)]) (by simp [results, Tryz.f11, go_sem, blk_cell hq 0, blk_cell hq 1, blk_cell hq 2, blk_cell hq 3]) rfl ?_
  exact ⟨⟨_, by rw [HX.out.2.1, HX.out.2.2], by rw [HX.out.1]; exact ⟨_, _, _, rfl, HA4.out.chg okA (hcB hB hc Q4.out) (by decide) (by decide), strNo ((HR.out.ext okS HX4.out).chg okS (hcB hB hc Q4.out) (by decide) (by decide)) E2.out, HE4.out.chg okE (hcB hB hc Q4.out) (by decide) (by decide)⟩⟩, hx⟩
end Go.Proofs.YtddgbijhenkojaaGreatDoor

namespace Go.Proofs.YtddgbijhenkojaaGreatDoor
open Go.RowKit

/-- A directory that is put together in a struct of its own. -/
structure RDSt (w : World) (bo : Nat) (bx : Array Value) (lv : Value) (ls : List Attr) (o : Bool) (ve : Value) (es : List DeN) (W : World) : Prop where
  box : W.heap[w.heap.size]? = some (.cells bx 26 (0, 0))
  res : W.heap[w.heap.size + 1]? = some (.cells #[.slice none 0 0, .bool false, .slice none 0 0, .slice none 0 0] 26 (0, 0))
  out : W.heap[bo]? = some (.cells #[lv, .bool o, .slice none 0 0, ve] 26 (0, 0))
  own : OwnL cdE w.heap.size W ve es
  ats : AttIn w.heap.size W lv ls
  ext : Ext w W
theorem RDSt.up {w W V : World} {bo : Nat} {bx : Array Value} {lv ve : Value} {ls : List Attr} {o : Bool} {es : List DeN} (h : RDSt w bo bx lv ls o ve es W) (he : Ext W V) : RDSt w bo bx lv ls o ve es V :=
  ⟨blk_ext he h.box, blk_ext he h.res, blk_ext he h.out, h.own.ext okE he, h.ats.ext okA he, h.ext.trans he⟩
theorem not_row {B : Nat} {W : World} {ve : Value} {es : List DeN} (h : OwnL cdE B W ve es) {b : Nat} {c : Array Value} {f : Nat × Nat} (hb : W.heap[b]? = some (.cells c 26 f)) : ve.ownBlock ≠ some b := by
  intro e
  obtain ⟨_, c', f', h2⟩ := h.row rfl b e
  rw [hb] at h2
  injection h2 with h2
  injection h2 with _ h3 _
  revert h3; decide
theorem RDSt.app {w W W' : World} {bo : Nat} {bx : Array Value} {lv ve ve' : Value} {ls : List Attr} {o : Bool} {es es' : List DeN} (h : RDSt w bo bx lv ls o ve es W) (ha : AppL cdE w.heap.size ve ve' es' w W W') :
    W'.heap[bo]? = some (.cells #[lv, .bool o, .slice none 0 0, ve] 26 (0, 0)) := ha.chg.keep _ _ h.out (not_row h.own h.out)
theorem RDSt.step {w W W' : World} {bo : Nat} {bx : Array Value} {lv ve ve' : Value} {ls : List Attr} {o : Bool} {es es' : List DeN} (h : RDSt w bo bx lv ls o ve es W) (ha : AppL cdE w.heap.size ve ve' es' w W W') (hb : w.heap.size + 1 < bo) :
    RDSt w bo bx lv ls o ve' es' (W'.setCell ⟨bo, 3, none⟩ ve') := by
  have hout := h.app ha
  have hc : Chg w.heap.size 26 (some bo) W' (W'.setCell ⟨bo, 3, none⟩ ve') := ⟨fun b o hb hne => blk_setCell_ne hb _ _ (fun e => hne (by rw [e])), by simp [World.setCell], fun g hg => by cases hg; exact ⟨by omega, _, _, hout⟩⟩
  refine ⟨?_, ?_, blk_setCell hout _, ha.own.other okE hc (by decide) (by decide), (h.ats.chg okA ha.chg (by decide) (by decide)).chg okA hc (by decide) (by decide), Below.setCell (p := ⟨bo, 3, none⟩) ha.below (by show w.heap.size ≤ bo; omega) _⟩
  · exact blk_setCell_ne (ha.chg.keep _ _ h.box (not_row h.own h.box)) _ _ (by show w.heap.size ≠ bo; omega)
  · exact blk_setCell_ne (ha.chg.keep _ _ h.res (not_row h.own h.res)) _ _ (by show w.heap.size + 1 ≠ bo; omega)
theorem take_chX {F : List Attr → List Attr × Int} (l : List DeN) (k : Nat) (h : k < l.length) : (l.take (k + 1)).map (chX F) = (l.take k).map (chX F) ++ [chX F (l[k]'h)] := by
  rw [List.take_succ_eq_append_getElem h, List.map_append]; rfl
theorem cellChg {B b o : Nat} {w : World} {c : Array Value} {t : TypeId} {f : Nat × Nat} {v : Value} (hb : w.heap[b]? = some (.cells c t f)) (hB : B ≤ b) : Chg B t (some b) w (w.setCell ⟨b, o, none⟩ v) :=
  ⟨fun _ _ h hne => blk_setCell_ne h _ _ (fun e => hne (by rw [e])), by simp [World.setCell], fun g hg => by cases hg; exact ⟨hB, _, _, hb⟩⟩
theorem len_snoc {α : Type} (l : List α) (x : α) : (l ++ [x]).length = l.length + 1 := by simp
set_option maxRecDepth 100000 in
set_option maxHeartbeats 16000000 in
theorem refBsdEncodeDir (B : Nat) (w : World) (v : Value) (d : DiN) (hd : DirIn B w v d) (hB : B ≤ w.heap.size) (hsm : SmallD d) :
    Calls Tryz.prog 9 #[v] w (DirP w.heap.size w (dncD d) (dncN d) (dncE d)) := by
  have HD := Lib.hid hd
  obtain ⟨va, vr, ve, rfl, ha, hr, he⟩ := hd
  have HA := Lib.hid ha; have HR := Lib.hid hr; have HE := Lib.hid he; have HSM := Lib.hid hsm;
  obtain ⟨a3, cap3, rfl⟩ := ha.form
  obtain ⟨a4, cap4, rfl⟩ := hr.form
  obtain ⟨a5, cap5, rfl⟩ := he.form
  have hlen := hsm.len
  clear ha hr he hsm
  by_cases e1 : dirE d = 0
  case neg =>
    have HX := Lib.hid (dnc_of (dncT_dir e1))
    have q1 : (dirE d != 0) = true := bne_iff_ne.2 e1
    clear e1
    go_enter Tryz.func9, Tryz.ntmps9
    go_wp2_with (go_at_call 26; refine (refCheckDir B _ _ d (HD.out.ext ((ext_alloc _ _).trans (ext_alloc _ _))) HSM.out).mono ?_; rintro e w1 ⟨rfl, hb1⟩; have q2 : w1.heap[w.heap.size + 1]? = some (.cells #[.slice none 0 0, .bool false, .slice none 0 0, .slice none 0 0] 26 (0, 0)) := blk_ext hb1 (blk_at (by simp)); have r0 := blk_cell q2 0; have r1 := blk_cell q2 1; have r2 := blk_cell q2 2; have r3 := blk_cell q2 3; have fz : ∀ j, w1.frozen? ⟨w.heap.size + 1, j, none⟩ = false := fun j => blk_thaw q2 j; have Q2 := Lib.hid q2; clear q2; have q1 : w1.heap[w.heap.size]? = some (.cells #[.slice a3 d.ats.length cap3, .bool d.opq, .slice a4 d.red.length cap4, .slice a5 d.ens.length cap5] 26 (0, 0)) := blk_ext hb1 (blk_alloc (blk_new w _)); have k0 := blk_cell q1 0; have k1 := blk_cell q1 1; have k2 := blk_cell q1 2; have k3 := blk_cell q1 3; have Q1 := Lib.hid q1; clear q1; have HB1 := Lib.hid (((ext_alloc _ _).trans (ext_alloc _ _)).trans hb1); clear hb1)
    refine name_world (P := fun W => bodyPost _ _ _ _ _ W) _ ?_
    intro W2 hW2
    obtain ⟨hq, hx, hc⟩ := set4 Q2.out (by omega) HB1.out hW2
    refine bodyPost_ret (v := .tuple #[.agg #[.slice none 0 0, .bool false, .slice none 0 0, .slice none 0 0], .int .i64 (dirN d), .int .i64 (dirE d)]) (by simp [results, Tryz.f9, go_sem, blk_cell hq 0, blk_cell hq 1, blk_cell hq 2, blk_cell hq 3]) rfl ?_
    exact ⟨⟨_, by rw [HX.out.2.1, HX.out.2.2], by rw [HX.out.1]; exact zDir_in _ _⟩, hx⟩
  have q1 : (dirE d != 0) = false := bne_eq_false_iff_eq.2 e1
  have E1 := Lib.hid e1
  clear e1
  by_cases e2 : 0 < d.red.length
  case pos =>
    have HX := Lib.hid (dnc_of (dncT_red E1.out e2))
    have q2 := lenP e2
    go_enter Tryz.func9, Tryz.ntmps9
    go_wp2_with (go_at_call 26; refine (refCheckDir B _ _ d (HD.out.ext ((ext_alloc _ _).trans (ext_alloc _ _))) HSM.out).mono ?_; rintro e w1 ⟨rfl, hb1⟩; have q2 : w1.heap[w.heap.size + 1]? = some (.cells #[.slice none 0 0, .bool false, .slice none 0 0, .slice none 0 0] 26 (0, 0)) := blk_ext hb1 (blk_at (by simp)); have r0 := blk_cell q2 0; have r1 := blk_cell q2 1; have r2 := blk_cell q2 2; have r3 := blk_cell q2 3; have fz : ∀ j, w1.frozen? ⟨w.heap.size + 1, j, none⟩ = false := fun j => blk_thaw q2 j; have Q2 := Lib.hid q2; clear q2; have q1 : w1.heap[w.heap.size]? = some (.cells #[.slice a3 d.ats.length cap3, .bool d.opq, .slice a4 d.red.length cap4, .slice a5 d.ens.length cap5] 26 (0, 0)) := blk_ext hb1 (blk_alloc (blk_new w _)); have k0 := blk_cell q1 0; have k1 := blk_cell q1 1; have k2 := blk_cell q1 2; have k3 := blk_cell q1 3; have Q1 := Lib.hid q1; clear q1; have HB1 := Lib.hid (((ext_alloc _ _).trans (ext_alloc _ _)).trans hb1); clear hb1)
    refine name_world (P := fun W => bodyPost _ _ _ _ _ W) _ ?_
    intro W2 hW2
    obtain ⟨hq, hx, hc⟩ := set4 Q2.out (by omega) HB1.out hW2
    refine bodyPost_ret (v := .tuple #[.agg #[.slice none 0 0, .bool false, .slice none 0 0, .slice none 0 0], .int .i64 (-1), .int .i64 (15)]) (by simp [results, Tryz.f9, go_sem, blk_cell hq 0, blk_cell hq 1, blk_cell hq 2, blk_cell hq 3]) rfl ?_
    exact ⟨⟨_, by rw [HX.out.2.1, HX.out.2.2], by rw [HX.out.1]; exact zDir_in _ _⟩, hx⟩
  have q2 := lenZ e2
  have E2 := Lib.hid e2
  by_cases e3 : bwE d.ats d.opq = 0
  case neg =>
    have HX := Lib.hid (dnc_of (dncT_ats E1.out E2.out e3))
    have q3 : (bwE d.ats d.opq != 0) = true := bne_iff_ne.2 e3
    clear e3
    go_enter Tryz.func9, Tryz.ntmps9
    go_wp2_with (first | (go_at_call 26; refine (refCheckDir B _ _ d (HD.out.ext ((ext_alloc _ _).trans (ext_alloc _ _))) HSM.out).mono ?_; rintro e w1 ⟨rfl, hb1⟩; have q2 : w1.heap[w.heap.size + 1]? = some (.cells #[.slice none 0 0, .bool false, .slice none 0 0, .slice none 0 0] 26 (0, 0)) := blk_ext hb1 (blk_at (by simp)); have r0 := blk_cell q2 0; have r1 := blk_cell q2 1; have r2 := blk_cell q2 2; have r3 := blk_cell q2 3; have fz : ∀ j, w1.frozen? ⟨w.heap.size + 1, j, none⟩ = false := fun j => blk_thaw q2 j; have Q2 := Lib.hid q2; clear q2; have q1 : w1.heap[w.heap.size]? = some (.cells #[.slice a3 d.ats.length cap3, .bool d.opq, .slice a4 d.red.length cap4, .slice a5 d.ens.length cap5] 26 (0, 0)) := blk_ext hb1 (blk_alloc (blk_new w _)); have k0 := blk_cell q1 0; have k1 := blk_cell q1 1; have k2 := blk_cell q1 2; have k3 := blk_cell q1 3; have Q1 := Lib.hid q1; clear q1; have HB1 := Lib.hid (((ext_alloc _ _).trans (ext_alloc _ _)).trans hb1); clear hb1) | (go_at_call 27; refine (refBsdWrite _ d.ats d.opq _ ((HA.out.ext okA HB1.out).attrs) HSM.out.ats).mono ?_; rintro e w3 ⟨⟨v3, rfl, hv3⟩, hb3⟩; obtain ⟨a7, cap7, rfl, -, -⟩ := hv3.1; clear r0 r1 r2 r3 fz; have q2 : w3.heap[w.heap.size + 1]? = some (.cells #[.slice none 0 0, .bool false, .slice none 0 0, .slice none 0 0] 26 (0, 0)) := blk_ext hb3 Q2.out; have r0 := blk_cell q2 0; have r1 := blk_cell q2 1; have r2 := blk_cell q2 2; have r3 := blk_cell q2 3; have fz : ∀ j, w3.frozen? ⟨w.heap.size + 1, j, none⟩ = false := fun j => blk_thaw q2 j; have Q2 := Lib.hid q2; clear q2; have q1 := blk_ext hb3 Q1.out; have y3 := blk_cell q1 3; have R1 := Lib.hid q1; clear q1 k0 k1 k2 k3; have HV3 := Lib.hid hv3; have HB3 := Lib.hid (HB1.out.trans hb3); clear hv3 hb3))
    refine name_world (P := fun W => bodyPost _ _ _ _ _ W) _ ?_
    intro W2 hW2
    obtain ⟨hq, hx, hc⟩ := set4 Q2.out (by omega) HB3.out hW2
    refine bodyPost_ret (v := .tuple #[.agg #[.slice none 0 0, .bool false, .slice none 0 0, .slice none 0 0], .int .i64 (-1), .int .i64 (bwE d.ats d.opq)]) (by simp [results, Tryz.f9, go_sem, blk_cell hq 0, blk_cell hq 1, blk_cell hq 2, blk_cell hq 3]) rfl ?_
    exact ⟨⟨_, by rw [HX.out.2.1, HX.out.2.2], by rw [HX.out.1]; exact zDir_in _ _⟩, hx⟩
  have q3 : (bwE d.ats d.opq != 0) = false := bne_eq_false_iff_eq.2 e3
  have E3 := Lib.hid e3
  clear e3
  go_enter Tryz.func9, Tryz.ntmps9
  go_wp2_with (first | (go_at_call 26; refine (refCheckDir B _ _ d (HD.out.ext ((ext_alloc _ _).trans (ext_alloc _ _))) HSM.out).mono ?_; rintro e w1 ⟨rfl, hb1⟩; have q2 : w1.heap[w.heap.size + 1]? = some (.cells #[.slice none 0 0, .bool false, .slice none 0 0, .slice none 0 0] 26 (0, 0)) := blk_ext hb1 (blk_at (by simp)); have r0 := blk_cell q2 0; have r1 := blk_cell q2 1; have r2 := blk_cell q2 2; have r3 := blk_cell q2 3; have fz : ∀ j, w1.frozen? ⟨w.heap.size + 1, j, none⟩ = false := fun j => blk_thaw q2 j; have Q2 := Lib.hid q2; clear q2; have q1 : w1.heap[w.heap.size]? = some (.cells #[.slice a3 d.ats.length cap3, .bool d.opq, .slice a4 d.red.length cap4, .slice a5 d.ens.length cap5] 26 (0, 0)) := blk_ext hb1 (blk_alloc (blk_new w _)); have k0 := blk_cell q1 0; have k1 := blk_cell q1 1; have k2 := blk_cell q1 2; have k3 := blk_cell q1 3; have Q1 := Lib.hid q1; clear q1; have HB1 := Lib.hid (((ext_alloc _ _).trans (ext_alloc _ _)).trans hb1); clear hb1) | (go_at_call 27; refine (refBsdWrite _ d.ats d.opq _ ((HA.out.ext okA HB1.out).attrs) HSM.out.ats).mono ?_; rintro e w3 ⟨⟨v3, rfl, hv3⟩, hb3⟩; obtain ⟨a7, cap7, rfl, -, -⟩ := hv3.1; clear r0 r1 r2 r3 fz; have q2 : w3.heap[w.heap.size + 1]? = some (.cells #[.slice none 0 0, .bool false, .slice none 0 0, .slice none 0 0] 26 (0, 0)) := blk_ext hb3 Q2.out; have r0 := blk_cell q2 0; have r1 := blk_cell q2 1; have r2 := blk_cell q2 2; have r3 := blk_cell q2 3; have fz : ∀ j, w3.frozen? ⟨w.heap.size + 1, j, none⟩ = false := fun j => blk_thaw q2 j; have Q2 := Lib.hid q2; clear q2; have q1 := blk_ext hb3 Q1.out; have y3 := blk_cell q1 3; have R1 := Lib.hid q1; clear q1 k0 k1 k2 k3; have HV3 := Lib.hid hv3; have HB3 := Lib.hid (HB1.out.trans hb3); clear hv3 hb3) | fail)
  have HBO : Hid (w.heap.size + 1 < w3.heap.size) := Lib.hid (blk_lt Q2.out)
  have HCH := Lib.hid (fun x (hx : x ∈ d.ens) => small_chk (ens_chk E1.out hx))
  have HST0 : Hid (RDSt w w3.heap.size #[.slice a3 d.ats.length cap3, .bool d.opq, .slice a4 d.red.length cap4, .slice a5 d.ens.length cap5] (.slice a7 (bwL d.ats d.opq).length cap7) (bwL d.ats d.opq) false (.slice none 0 0) [] (w3.alloc (.cells #[.slice a7 (bwL d.ats d.opq).length cap7, .bool false, .slice none 0 0, .slice none 0 0] 26))) := Lib.hid ⟨blk_alloc R1.out, blk_alloc Q2.out, blk_new _ _, OwnL.nil _ _ _, (attT_in HV3.out).ext okA (ext_alloc _ _), HB3.out.trans (ext_alloc _ _)⟩
  clear r0 r1 r2 r3 fz y3
  go_loopw [6, 9] (fun c i w' => ∃ (wi : World) (k : Nat) (ve : Value), wi = w' ∧ k ≤ d.ens.length ∧ c = .int .i64 0 ∧ i = .int .i64 k ∧ (∀ j, j < k → chE d.opq wrF (getE d.ens j) = 0) ∧ RDSt w w3.heap.size #[.slice a3 d.ats.length cap3, .bool d.opq, .slice a4 d.red.length cap4, .slice a5 d.ens.length cap5] (.slice a7 (bwL d.ats d.opq).length cap7) (bwL d.ats d.opq) false ve ((d.ens.take k).map (chX wrF)) wi) (fun _ i _ => d.ens.length - (intOf i).toNat)
  case atStart => exact ⟨_, 0, _, rfl, Nat.zero_le _, by rw [E3.out], rfl, fun j hj => absurd hj (by omega), HST0.out⟩
  case round =>
    clear HST0
    obtain ⟨wi, k, ve, rfl, hk, rfl, rfl, hok, hst⟩ := hrel
    obtain ⟨es, hes⟩ : ∃ es, es = (d.ens.take k).map (chX wrF) := ⟨_, rfl⟩
    rw [← hes] at hst
    have HES := Lib.hid hes
    have HOK := Lib.hid hok; have HST := Lib.hid hst
    clear hes
    obtain ⟨a8, cap8, rfl⟩ := hst.own.form
    have k3 := blk_cell HST.out.box 3
    clear hok hst
    by_cases hlt : k < d.ens.length
    case neg =>
      obtain rfl : k = d.ens.length := by omega
      have HX := Lib.hid (dnc_of (dncT_ok E1.out E2.out E3.out (by rw [chT_ok HOK.out])))
      have o0 := blk_cell HST.out.out 0; have o1 := blk_cell HST.out.out 1; have o2 := blk_cell HST.out.out 2; have o3 := blk_cell HST.out.out 3
      have r0 := blk_cell HST.out.res 0; have r1 := blk_cell HST.out.res 1; have r2 := blk_cell HST.out.res 2; have r3 := blk_cell HST.out.res 3
      have fz : ∀ j, wi.frozen? ⟨w.heap.size + 1, j, none⟩ = false := fun j => blk_thaw HST.out.res j
      have HTK : Hid (es = d.ens.map (chX wrF)) := Lib.hid (by rw [HES.out, List.take_length])
      go_wp2
      refine name_world (P := fun W => bodyPost _ _ _ _ _ W) _ ?_
      intro W2 hW2
      obtain ⟨hq, hx, hc⟩ := set4 HST.out.res (by omega) HST.out.ext hW2
      refine bodyPost_ret (v := .tuple #[.agg #[.slice a7 (bwL d.ats d.opq).length cap7, .bool false, .slice none 0 0, .slice a8 es.length cap8], .int .i64 (0), .int .i64 (0)]) (by simp [results, Tryz.f9, go_sem, blk_cell hq 0, blk_cell hq 1, blk_cell hq 2, blk_cell hq 3]) rfl ?_
      exact ⟨⟨_, by rw [HX.out.2.1, HX.out.2.2], by rw [HX.out.1]; exact ⟨_, _, _, rfl, HST.out.ats.chg okA (hcB (Nat.le_refl _) hc HST.out.res) (by decide) (by decide), strIn_nil _ _ _, by have h := (HST.out.own.in okE).chg okE (hcB (Nat.le_refl _) hc HST.out.res) (by decide) (by decide); rw [← HTK.out]; exact h⟩⟩, hx⟩
    obtain ⟨b, off, va, hex, hbx, hva, c0, c1, c2, c3, c4, c5, c6, c7, c8, c9, c10, c11⟩ := (HE.out.ext okE HST.out.ext).en k hlt
    cases hex
    have HVA := Lib.hid (hva.mono okA hB)
    have HVS := Lib.hid hva.attrs
    obtain ⟨a6, cap6, rfl⟩ := hva.form
    have HG := Lib.hid (getE_at d.ens k hlt)
    have HMEM := Lib.hid (List.getElem_mem hlt)
    have HTK := Lib.hid (take_chX (F := wrF) d.ens k hlt)
    rw [← HES.out] at HTK
    generalize d.ens[k]'hlt = x at c0 c1 c2 c3 c4 c5 c6 c7 c8 c9 c10 c11 HVA HVS HG HMEM HTK
    have HLN : Hid (es.length ≤ k) := Lib.hid (by rw [HES.out, List.length_map, List.length_take]; omega)
    have j1 : ((k : Nat) : Int) < (d.ens.length : Int) := by omega
    have j0 : (0 : Int) ≤ (k : Int) := by omega
    have HNE : Hid (∀ n, chE d.opq wrF x = n → n ≠ 0 → chT d.opq wrF d.ens = ((k : Int), n)) := Lib.hid (fun n hn h => by
      subst hn
      have := chT_no (o := d.opq) (F := wrF) hlt HOK.out (by rw [HG.out]; exact h)
      rw [HG.out] at this; exact this)
    have HNX : Hid (chE d.opq wrF x = 0 → ∀ j, j < k + 1 → chE d.opq wrF (getE d.ens j) = 0) := Lib.hid (fun h j hj => by
      by_cases e : j = k
      · subst e; rw [HG.out]; exact h
      · exact HOK.out j (by omega))
    clear hva
    have o3 := blk_cell HST.out.out 3
    have hsz := blk_lt HST.out.out
    have HWH : Hid (chE d.opq wrF x = if x.fi = true then bwE x.nd.ats false else 0) := Lib.hid (by
      unfold chE
      rw [if_neg]
      · rfl
      · rintro ⟨h1, h2⟩
        have := (dirE_zero E1.out).2.2.2.2.2 k hlt
        unfold entE at this
        rw [HG.out] at this
        rw [ent_white this h2] at h1; cases h1)
    cases hfi : x.fi
    case false =>
      rw [hfi] at c10
      have HN := Lib.hid (HNX.out (by rw [HWH.out, hfi]; rfl))
      have HCX : Hid (chX wrF x = x) := Lib.hid (by unfold chX; rw [if_neg (by rw [hfi]; exact Bool.false_ne_true)])
      have HFI := Lib.hid hfi
      clear hfi
      go_wp2_with (at_builtin; go_loud (refine appL okE rfl (.tmp 69) (.tmp 71) rfl (.slice a8 es.length cap8) _ es [x] w _ (by rfl) (by rfl) (by exact (HST.out.up (ext_alloc _ _)).own.ext okE (ext_alloc _ _)) (by exact listIn_new okE _ (x) [.string x.nm, .int .i64 x.nd.dep, .string x.nd.nm, .int .i64 x.nd.kd, .slice a6 x.nd.ats.length cap6, .string x.nd.dat, .int .i64 x.nd.ma, .int .i64 x.nd.mi, .int .i64 x.nd.cl, .bool x.wh, .bool false, .int .i64 x.ns] _ (by first | rfl | simp) ⟨_, HVA.out.ext okA (ext_alloc _ _), by unfold deC; rw [HFI.out]⟩) (by exact (HST.out.up (ext_alloc _ _)).ext.trans (ext_alloc _ _)) (by exact ((HST.out.up (ext_alloc _ _)).ext.trans (ext_alloc _ _)).size) (by have := HLN.out; simp only [List.length_singleton]; omega) ?_; intro v5 w5 hap; have hou := RDSt.app ((HST.out.up (ext_alloc _ _)).up (ext_alloc _ _)) hap; have p3 := blk_cell hou 3; have fp : ∀ j, w5.frozen? ⟨w3.heap.size, j, none⟩ = false := fun j => blk_thaw hou j; obtain ⟨a9, cap9, rfl⟩ := hap.own.form; rw [len_snoc] at hap; have HAP := Lib.hid hap; clear hap hou))
      go_roundw
      case rel => exact ⟨_, k + 1, _, rfl, by omega, rfl, by go_num, HN.out, by rw [HTK.out, HCX.out]; exact ((HST.out.up (ext_alloc _ _)).up (ext_alloc _ _)).step HAP.out HBO.out⟩
      case measure => first | (simp [intOf]; done) | (simp [intOf]; omega)
    rw [hfi] at c10
    have HFI := Lib.hid hfi
    have HCX : Hid (chX wrF x = { x with nd := { x.nd with ats := bwL x.nd.ats false } }) := Lib.hid (by unfold chX; rw [if_pos hfi]; rfl)
    replace HWH : Hid (chE d.opq wrF x = bwE x.nd.ats false) := Lib.hid (by rw [HWH.out, if_pos hfi])
    have HSX := Lib.hid (HCH.out x HMEM.out)
    clear hfi
    by_cases e4 : bwE x.nd.ats false = 0
    case neg =>
      have q4 : (bwE x.nd.ats false != 0) = true := bne_iff_ne.2 e4
      have HX := Lib.hid (dnc_of (dncT_ent E1.out E2.out E3.out (by rw [HNE.out _ HWH.out e4]; exact e4)))
      have HNN := Lib.hid (HNE.out _ HWH.out e4)
      rw [HNN.out] at HX
      clear e4
      go_wp2_with (go_at_call 27; go_loud (refine (refBsdWrite _ x.nd.ats false _ (HVS.out.ext (ext_alloc _ _)) HSX.out).mono ?_; rintro e w4 ⟨⟨v4, rfl, hv4⟩, hb4⟩; obtain ⟨a11, cap11, rfl, -, -⟩ := hv4.1; have q12 := blk_ext hb4 (blk_new wi _); have z0 := blk_cell q12 0; have z1 := blk_cell q12 1; have z2 := blk_cell q12 2; have z3 := blk_cell q12 3; have z4 := blk_cell q12 4; have z5 := blk_cell q12 5; have z6 := blk_cell q12 6; have z7 := blk_cell q12 7; have z8 := blk_cell q12 8; have z9 := blk_cell q12 9; have z10 := blk_cell q12 10; have z11 := blk_cell q12 11; have fx : ∀ j, w4.frozen? ⟨wi.heap.size, j, none⟩ = false := fun j => blk_thaw q12 j; have hsx := blk_lt q12; have HB4 : Hid (Ext wi w4) := Lib.hid ((ext_alloc _ _).trans hb4); have hr2 := blk_ext HB4.out HST.out.res; have r0 := blk_cell hr2 0; have r1 := blk_cell hr2 1; have r2 := blk_cell hr2 2; have r3 := blk_cell hr2 3; have fz : ∀ j, w4.frozen? ⟨w.heap.size + 1, j, none⟩ = false := fun j => blk_thaw hr2 j; have hrs := blk_lt HST.out.res; clear q12 hb4 hv4 hr2))
      refine name_world (P := fun W => bodyPost _ _ _ _ _ W) _ ?_
      intro W2 hW2
      have HSA : Hid (Ext wi (w4.setCell ⟨wi.heap.size, 4, none⟩ (.slice a11 (bwL x.nd.ats false).length cap11))) := Lib.hid (Below.setCell (p := ⟨wi.heap.size, 4, none⟩) HB4.out (Nat.le_refl _) _)
      obtain ⟨hq, hx, hc⟩ := set4 (blk_ext HSA.out HST.out.res) (by omega) (HST.out.ext.trans HSA.out) hW2
      refine bodyPost_ret (v := .tuple #[.agg #[.slice none 0 0, .bool false, .slice none 0 0, .slice none 0 0], .int .i64 k, .int .i64 (bwE x.nd.ats false)]) (by simp [results, Tryz.f9, go_sem, blk_cell hq 0, blk_cell hq 1, blk_cell hq 2, blk_cell hq 3]) rfl ?_
      exact ⟨⟨_, by rw [HX.out.2.1, HX.out.2.2], by rw [HX.out.1]; exact zDir_in _ _⟩, hx⟩
    have q4 : (bwE x.nd.ats false != 0) = false := bne_eq_false_iff_eq.2 e4
    have HN := Lib.hid (HNX.out (by rw [HWH.out]; exact e4))
    have HE4 := Lib.hid e4
    clear e4
    go_wp2_with (first
      | (go_at_call 27; go_loud (refine (refBsdWrite _ x.nd.ats false _ (HVS.out.ext (ext_alloc _ _)) HSX.out).mono ?_; rintro e w4 ⟨⟨v4, rfl, hv4⟩, hb4⟩; rw [HE4.out]; obtain ⟨a11, cap11, rfl, -, -⟩ := hv4.1; have q12 := blk_ext hb4 (blk_new wi _); have z0 := blk_cell q12 0; have z1 := blk_cell q12 1; have z2 := blk_cell q12 2; have z3 := blk_cell q12 3; have z4 := blk_cell q12 4; have z5 := blk_cell q12 5; have z6 := blk_cell q12 6; have z7 := blk_cell q12 7; have z8 := blk_cell q12 8; have z9 := blk_cell q12 9; have z10 := blk_cell q12 10; have z11 := blk_cell q12 11; have fx : ∀ j, w4.frozen? ⟨wi.heap.size, j, none⟩ = false := fun j => blk_thaw q12 j; have hsx := blk_lt q12; have HB4 : Hid (Ext wi w4) := Lib.hid ((ext_alloc _ _).trans hb4); have u3' := blk_cell (blk_ext HB4.out HST.out.out) 3; have HSA : Hid (Ext wi (w4.setCell ⟨wi.heap.size, 4, none⟩ (.slice a11 (bwL x.nd.ats false).length cap11))) := Lib.hid (Below.setCell (p := ⟨wi.heap.size, 4, none⟩) HB4.out (Nat.le_refl _) _); have HV4 : Hid (AttIn w.heap.size (w4.setCell ⟨wi.heap.size, 4, none⟩ (.slice a11 (bwL x.nd.ats false).length cap11)) (.slice a11 (bwL x.nd.ats false).length cap11) (bwL x.nd.ats false)) := Lib.hid ((attT_in hv4).chg okA (cellChg q12 (by have := HST.out.ext.size; omega)) (by decide) (by decide)); clear q12 hb4 hv4))
      | (at_builtin; go_loud (refine appL okE rfl (.tmp 69) (.tmp 71) rfl (.slice a8 es.length cap8) _ es [{ x with nd := { x.nd with ats := bwL x.nd.ats false } }] w _ (by rfl) (by rfl) (by exact (HST.out.up HSA.out).own.ext okE (ext_alloc _ _)) (by exact listIn_new okE _ ({ x with nd := { x.nd with ats := bwL x.nd.ats false } }) [.string x.nm, .int .i64 x.nd.dep, .string x.nd.nm, .int .i64 x.nd.kd, .slice a11 (bwL x.nd.ats false).length cap11, .string x.nd.dat, .int .i64 x.nd.ma, .int .i64 x.nd.mi, .int .i64 x.nd.cl, .bool x.wh, .bool true, .int .i64 x.ns] _ (by first | rfl | simp) ⟨_, HV4.out, by unfold deC; rw [HFI.out]⟩) (by exact (HST.out.up HSA.out).ext.trans (ext_alloc _ _)) (by exact ((HST.out.up HSA.out).ext.trans (ext_alloc _ _)).size) (by have := HLN.out; simp only [List.length_singleton]; omega) ?_; intro v5 w5 hap; have hou := RDSt.app ((HST.out.up HSA.out).up (ext_alloc _ _)) hap; have p3 := blk_cell hou 3; have fp : ∀ j, w5.frozen? ⟨w3.heap.size, j, none⟩ = false := fun j => blk_thaw hou j; obtain ⟨a9, cap9, rfl⟩ := hap.own.form; rw [len_snoc] at hap; have HAP := Lib.hid hap; clear hap hou)))
    go_roundw
    case rel => exact ⟨_, k + 1, _, rfl, by omega, rfl, by go_num, HN.out, by rw [HTK.out, HCX.out]; exact ((HST.out.up HSA.out).up (ext_alloc _ _)).step HAP.out HBO.out⟩
    case measure => first | (simp [intOf]; done) | (simp [intOf]; omega)
end Go.Proofs.YtddgbijhenkojaaGreatDoor
