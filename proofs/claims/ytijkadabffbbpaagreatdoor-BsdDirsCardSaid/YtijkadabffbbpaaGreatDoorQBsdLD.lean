/- limewashref24.DecodeDir. -/
import Derived.Test.YtijkadabffbbpaaGreatDoorQBsdK
namespace Go.Proofs.YtijkadabffbbpaaGreatDoor
open Go.RowKit

set_option maxRecDepth 100000 in
set_option maxHeartbeats 16000000 in
theorem refBsdDecodeDir (B : Nat) (w : World) (v : Value) (d : DiN) (hd : DirIn B w v d) (hB : B ≤ w.heap.size) (hsm : SmallD d) :
    Calls Tryz.prog 12 #[v] w (DirP w.heap.size w (ddcD d) (ddcN d) (ddcE d)) := by
  have HD := Lib.hid hd
  obtain ⟨va, vr, ve, rfl, ha, hr, he⟩ := hd
  have HA := Lib.hid ha; have HR := Lib.hid hr; have HE := Lib.hid he; have HSM := Lib.hid hsm;
  obtain ⟨a3, cap3, rfl⟩ := ha.form
  obtain ⟨a4, cap4, rfl⟩ := hr.form
  obtain ⟨a5, cap5, rfl⟩ := he.form
  have hlen := hsm.len
  clear ha hr he hsm
  by_cases e1 : dirE d = 0
  case neg =>
    have HX := Lib.hid (ddc_of (ddcT_dir e1))
    have q1 : (dirE d != 0) = true := bne_iff_ne.2 e1
    clear e1
    go_enter Tryz.func12, Tryz.ntmps12
    go_wp2_with (go_at_call 26; refine (refCheckDir B _ _ d (HD.out.ext ((ext_alloc _ _).trans (ext_alloc _ _))) HSM.out).mono ?_; rintro e w1 ⟨rfl, hb1⟩; have q2 : w1.heap[w.heap.size + 1]? = some (.cells #[.slice none 0 0, .bool false, .slice none 0 0, .slice none 0 0] 26 (0, 0)) := blk_ext hb1 (blk_at (by simp)); have r0 := blk_cell q2 0; have r1 := blk_cell q2 1; have r2 := blk_cell q2 2; have r3 := blk_cell q2 3; have fz : ∀ j, w1.frozen? ⟨w.heap.size + 1, j, none⟩ = false := fun j => blk_thaw q2 j; have Q2 := Lib.hid q2; clear q2; have q1 : w1.heap[w.heap.size]? = some (.cells #[.slice a3 d.ats.length cap3, .bool d.opq, .slice a4 d.red.length cap4, .slice a5 d.ens.length cap5] 26 (0, 0)) := blk_ext hb1 (blk_alloc (blk_new w _)); have k0 := blk_cell q1 0; have k1 := blk_cell q1 1; have k2 := blk_cell q1 2; have k3 := blk_cell q1 3; have Q1 := Lib.hid q1; clear q1; have HB1 := Lib.hid (((ext_alloc _ _).trans (ext_alloc _ _)).trans hb1); clear hb1)
    refine name_world (P := fun W => bodyPost _ _ _ _ _ W) _ ?_
    intro W2 hW2
    obtain ⟨hq, hx, hc⟩ := set4 Q2.out (by omega) HB1.out hW2
    refine bodyPost_ret (v := .tuple #[.agg #[.slice none 0 0, .bool false, .slice none 0 0, .slice none 0 0], .int .i64 (dirN d), .int .i64 (dirE d)]) (by simp [results, Tryz.f12, go_sem, blk_cell hq 0, blk_cell hq 1, blk_cell hq 2, blk_cell hq 3]) rfl ?_
    exact ⟨⟨_, by rw [HX.out.2.1, HX.out.2.2], by rw [HX.out.1]; exact zDir_in _ _⟩, hx⟩
  have q1 : (dirE d != 0) = false := bne_eq_false_iff_eq.2 e1
  have E1 := Lib.hid e1
  clear e1
  by_cases e2 : d.opq = true ∨ 0 < d.red.length
  case pos =>
    have HX := Lib.hid (ddc_of (ddcT_mark E1.out e2))
    by_cases e3 : d.opq = true
    case pos =>
      have E3 := Lib.hid e3
      clear e2 e3
      go_enter Tryz.func12, Tryz.ntmps12
      go_wp2_with (go_at_call 26; refine (refCheckDir B _ _ d (HD.out.ext ((ext_alloc _ _).trans (ext_alloc _ _))) HSM.out).mono ?_; rintro e w1 ⟨rfl, hb1⟩; have q2 : w1.heap[w.heap.size + 1]? = some (.cells #[.slice none 0 0, .bool false, .slice none 0 0, .slice none 0 0] 26 (0, 0)) := blk_ext hb1 (blk_at (by simp)); have r0 := blk_cell q2 0; have r1 := blk_cell q2 1; have r2 := blk_cell q2 2; have r3 := blk_cell q2 3; have fz : ∀ j, w1.frozen? ⟨w.heap.size + 1, j, none⟩ = false := fun j => blk_thaw q2 j; have Q2 := Lib.hid q2; clear q2; have q1 : w1.heap[w.heap.size]? = some (.cells #[.slice a3 d.ats.length cap3, .bool d.opq, .slice a4 d.red.length cap4, .slice a5 d.ens.length cap5] 26 (0, 0)) := blk_ext hb1 (blk_alloc (blk_new w _)); have k0 := blk_cell q1 0; have k1 := blk_cell q1 1; rw [E3.out] at k1; have k2 := blk_cell q1 2; have k3 := blk_cell q1 3; have Q1 := Lib.hid q1; clear q1; have HB1 := Lib.hid (((ext_alloc _ _).trans (ext_alloc _ _)).trans hb1); clear hb1)
      refine name_world (P := fun W => bodyPost _ _ _ _ _ W) _ ?_
      intro W2 hW2
      obtain ⟨hq, hx, hc⟩ := set4 Q2.out (by omega) HB1.out hW2
      refine bodyPost_ret (v := .tuple #[.agg #[.slice none 0 0, .bool false, .slice none 0 0, .slice none 0 0], .int .i64 (-1), .int .i64 (6)]) (by simp [results, Tryz.f12, go_sem, blk_cell hq 0, blk_cell hq 1, blk_cell hq 2, blk_cell hq 3]) rfl ?_
      exact ⟨⟨_, by rw [HX.out.2.1, HX.out.2.2], by rw [HX.out.1]; exact zDir_in _ _⟩, hx⟩
    have e4 : 0 < d.red.length := e2.resolve_left e3
    have e5 : d.opq = false := Bool.eq_false_iff.2 e3
    have q2 := lenP e4
    have E5 := Lib.hid e5
    clear e2 e3 e5
    go_enter Tryz.func12, Tryz.ntmps12
    go_wp2_with (go_at_call 26; refine (refCheckDir B _ _ d (HD.out.ext ((ext_alloc _ _).trans (ext_alloc _ _))) HSM.out).mono ?_; rintro e w1 ⟨rfl, hb1⟩; have q2 : w1.heap[w.heap.size + 1]? = some (.cells #[.slice none 0 0, .bool false, .slice none 0 0, .slice none 0 0] 26 (0, 0)) := blk_ext hb1 (blk_at (by simp)); have r0 := blk_cell q2 0; have r1 := blk_cell q2 1; have r2 := blk_cell q2 2; have r3 := blk_cell q2 3; have fz : ∀ j, w1.frozen? ⟨w.heap.size + 1, j, none⟩ = false := fun j => blk_thaw q2 j; have Q2 := Lib.hid q2; clear q2; have q1 : w1.heap[w.heap.size]? = some (.cells #[.slice a3 d.ats.length cap3, .bool d.opq, .slice a4 d.red.length cap4, .slice a5 d.ens.length cap5] 26 (0, 0)) := blk_ext hb1 (blk_alloc (blk_new w _)); have k0 := blk_cell q1 0; have k1 := blk_cell q1 1; rw [E5.out] at k1; have k2 := blk_cell q1 2; have k3 := blk_cell q1 3; have Q1 := Lib.hid q1; clear q1; have HB1 := Lib.hid (((ext_alloc _ _).trans (ext_alloc _ _)).trans hb1); clear hb1)
    refine name_world (P := fun W => bodyPost _ _ _ _ _ W) _ ?_
    intro W2 hW2
    obtain ⟨hq, hx, hc⟩ := set4 Q2.out (by omega) HB1.out hW2
    refine bodyPost_ret (v := .tuple #[.agg #[.slice none 0 0, .bool false, .slice none 0 0, .slice none 0 0], .int .i64 (-1), .int .i64 (6)]) (by simp [results, Tryz.f12, go_sem, blk_cell hq 0, blk_cell hq 1, blk_cell hq 2, blk_cell hq 3]) rfl ?_
    exact ⟨⟨_, by rw [HX.out.2.1, HX.out.2.2], by rw [HX.out.1]; exact zDir_in _ _⟩, hx⟩
  have E2 := Lib.hid e2
  have E5 : Hid (d.opq = false) := Lib.hid (Bool.eq_false_iff.2 fun h => e2 (.inl h))
  have q5 : ¬ 0 < d.red.length := fun h => e2 (.inr h)
  have q2 := lenZ q5
  clear e2
  obtain ⟨o, ho⟩ : ∃ o, bdO d.ats = o := ⟨_, rfl⟩
  have HOQ := Lib.hid ho
  clear ho
  by_cases e3 : bdE d.ats = 0
  case neg =>
    have HX := Lib.hid (ddc_of (ddcT_ats E1.out E2.out e3))
    have q3 : (bdE d.ats != 0) = true := bne_iff_ne.2 e3
    clear e3
    go_enter Tryz.func12, Tryz.ntmps12
    go_wp2_with (first | (go_at_call 26; refine (refCheckDir B _ _ d (HD.out.ext ((ext_alloc _ _).trans (ext_alloc _ _))) HSM.out).mono ?_; rintro e w1 ⟨rfl, hb1⟩; have q2 : w1.heap[w.heap.size + 1]? = some (.cells #[.slice none 0 0, .bool false, .slice none 0 0, .slice none 0 0] 26 (0, 0)) := blk_ext hb1 (blk_at (by simp)); have r0 := blk_cell q2 0; have r1 := blk_cell q2 1; have r2 := blk_cell q2 2; have r3 := blk_cell q2 3; have fz : ∀ j, w1.frozen? ⟨w.heap.size + 1, j, none⟩ = false := fun j => blk_thaw q2 j; have Q2 := Lib.hid q2; clear q2; have q1 : w1.heap[w.heap.size]? = some (.cells #[.slice a3 d.ats.length cap3, .bool d.opq, .slice a4 d.red.length cap4, .slice a5 d.ens.length cap5] 26 (0, 0)) := blk_ext hb1 (blk_alloc (blk_new w _)); have k0 := blk_cell q1 0; have k1 := blk_cell q1 1; rw [E5.out] at k1; have k2 := blk_cell q1 2; have k3 := blk_cell q1 3; have Q1 := Lib.hid q1; clear q1; have HB1 := Lib.hid (((ext_alloc _ _).trans (ext_alloc _ _)).trans hb1); clear hb1) | (go_at_call 33; refine (refBsdRead _ d.ats _ ((HA.out.ext okA HB1.out).attrs) HSM.out.ats).mono ?_; rintro e w3 ⟨⟨v3, rfl, hv3⟩, hb3⟩; rw [HOQ.out]; obtain ⟨a7, cap7, rfl, -, -⟩ := hv3.1; clear r0 r1 r2 r3 fz; have q2 : w3.heap[w.heap.size + 1]? = some (.cells #[.slice none 0 0, .bool false, .slice none 0 0, .slice none 0 0] 26 (0, 0)) := blk_ext hb3 Q2.out; have r0 := blk_cell q2 0; have r1 := blk_cell q2 1; have r2 := blk_cell q2 2; have r3 := blk_cell q2 3; have fz : ∀ j, w3.frozen? ⟨w.heap.size + 1, j, none⟩ = false := fun j => blk_thaw q2 j; have Q2 := Lib.hid q2; clear q2; have q1 := blk_ext hb3 Q1.out; have y3 := blk_cell q1 3; have R1 := Lib.hid q1; clear q1 k0 k1 k2 k3; have HV3 := Lib.hid hv3; have HB3 := Lib.hid (HB1.out.trans hb3); clear hv3 hb3))
    refine name_world (P := fun W => bodyPost _ _ _ _ _ W) _ ?_
    intro W2 hW2
    obtain ⟨hq, hx, hc⟩ := set4 Q2.out (by omega) HB3.out hW2
    refine bodyPost_ret (v := .tuple #[.agg #[.slice none 0 0, .bool false, .slice none 0 0, .slice none 0 0], .int .i64 (-1), .int .i64 (bdE d.ats)]) (by simp [results, Tryz.f12, go_sem, blk_cell hq 0, blk_cell hq 1, blk_cell hq 2, blk_cell hq 3]) rfl ?_
    exact ⟨⟨_, by rw [HX.out.2.1, HX.out.2.2], by rw [HX.out.1]; exact zDir_in _ _⟩, hx⟩
  have q3 : (bdE d.ats != 0) = false := bne_eq_false_iff_eq.2 e3
  have E3 := Lib.hid e3
  clear e3
  go_enter Tryz.func12, Tryz.ntmps12
  go_wp2_with (first | (go_at_call 26; refine (refCheckDir B _ _ d (HD.out.ext ((ext_alloc _ _).trans (ext_alloc _ _))) HSM.out).mono ?_; rintro e w1 ⟨rfl, hb1⟩; have q2 : w1.heap[w.heap.size + 1]? = some (.cells #[.slice none 0 0, .bool false, .slice none 0 0, .slice none 0 0] 26 (0, 0)) := blk_ext hb1 (blk_at (by simp)); have r0 := blk_cell q2 0; have r1 := blk_cell q2 1; have r2 := blk_cell q2 2; have r3 := blk_cell q2 3; have fz : ∀ j, w1.frozen? ⟨w.heap.size + 1, j, none⟩ = false := fun j => blk_thaw q2 j; have Q2 := Lib.hid q2; clear q2; have q1 : w1.heap[w.heap.size]? = some (.cells #[.slice a3 d.ats.length cap3, .bool d.opq, .slice a4 d.red.length cap4, .slice a5 d.ens.length cap5] 26 (0, 0)) := blk_ext hb1 (blk_alloc (blk_new w _)); have k0 := blk_cell q1 0; have k1 := blk_cell q1 1; rw [E5.out] at k1; have k2 := blk_cell q1 2; have k3 := blk_cell q1 3; have Q1 := Lib.hid q1; clear q1; have HB1 := Lib.hid (((ext_alloc _ _).trans (ext_alloc _ _)).trans hb1); clear hb1) | (go_at_call 33; refine (refBsdRead _ d.ats _ ((HA.out.ext okA HB1.out).attrs) HSM.out.ats).mono ?_; rintro e w3 ⟨⟨v3, rfl, hv3⟩, hb3⟩; rw [HOQ.out]; obtain ⟨a7, cap7, rfl, -, -⟩ := hv3.1; clear r0 r1 r2 r3 fz; have q2 : w3.heap[w.heap.size + 1]? = some (.cells #[.slice none 0 0, .bool false, .slice none 0 0, .slice none 0 0] 26 (0, 0)) := blk_ext hb3 Q2.out; have r0 := blk_cell q2 0; have r1 := blk_cell q2 1; have r2 := blk_cell q2 2; have r3 := blk_cell q2 3; have fz : ∀ j, w3.frozen? ⟨w.heap.size + 1, j, none⟩ = false := fun j => blk_thaw q2 j; have Q2 := Lib.hid q2; clear q2; have q1 := blk_ext hb3 Q1.out; have y3 := blk_cell q1 3; have R1 := Lib.hid q1; clear q1 k0 k1 k2 k3; have HV3 := Lib.hid hv3; have HB3 := Lib.hid (HB1.out.trans hb3); clear hv3 hb3) | fail)
  have HBO : Hid (w.heap.size + 1 < w3.heap.size) := Lib.hid (blk_lt Q2.out)
  have HCH := Lib.hid (fun x (hx : x ∈ d.ens) => small_chk (ens_chk E1.out hx))
  have HST0 : Hid (RDSt w w3.heap.size #[.slice a3 d.ats.length cap3, .bool d.opq, .slice a4 d.red.length cap4, .slice a5 d.ens.length cap5] (.slice a7 (bdP d.ats).length cap7) (bdP d.ats) o (.slice none 0 0) [] (w3.alloc (.cells #[.slice a7 (bdP d.ats).length cap7, .bool o, .slice none 0 0, .slice none 0 0] 26))) := Lib.hid ⟨blk_alloc R1.out, blk_alloc Q2.out, blk_new _ _, OwnL.nil _ _ _, (attT_in HV3.out).ext okA (ext_alloc _ _), HB3.out.trans (ext_alloc _ _)⟩
  clear r0 r1 r2 r3 fz y3
  go_loopw [10] (fun i w' => ∃ (wi : World) (k : Nat) (ve : Value), wi = w' ∧ k ≤ d.ens.length ∧ i = .int .i64 k ∧ (∀ j, j < k → chE o rdF (getE d.ens j) = 0) ∧ RDSt w w3.heap.size #[.slice a3 d.ats.length cap3, .bool d.opq, .slice a4 d.red.length cap4, .slice a5 d.ens.length cap5] (.slice a7 (bdP d.ats).length cap7) (bdP d.ats) o ve ((d.ens.take k).map (chX rdF)) wi) (fun i _ => d.ens.length - (intOf i).toNat)
  case atStart => exact ⟨_, 0, _, rfl, Nat.zero_le _, rfl, fun j hj => absurd hj (by omega), HST0.out⟩
  case round =>
    clear HST0
    obtain ⟨wi, k, ve, rfl, hk, rfl, hok, hst⟩ := hrel
    obtain ⟨es, hes⟩ : ∃ es, es = (d.ens.take k).map (chX rdF) := ⟨_, rfl⟩
    rw [← hes] at hst
    have HES := Lib.hid hes
    have HOK := Lib.hid hok; have HST := Lib.hid hst
    clear hes
    obtain ⟨a8, cap8, rfl⟩ := hst.own.form
    have k3 := blk_cell HST.out.box 3
    clear hok hst
    by_cases hlt : k < d.ens.length
    case neg =>
      obtain rfl : k = d.ens.length := by omega
      have HX := Lib.hid (ddc_of (ddcT_ok E1.out E2.out E3.out (by rw [HOQ.out, chT_ok HOK.out])))
      have o0 := blk_cell HST.out.out 0; have o1 := blk_cell HST.out.out 1; have o2 := blk_cell HST.out.out 2; have o3 := blk_cell HST.out.out 3
      have r0 := blk_cell HST.out.res 0; have r1 := blk_cell HST.out.res 1; have r2 := blk_cell HST.out.res 2; have r3 := blk_cell HST.out.res 3
      have fz : ∀ j, wi.frozen? ⟨w.heap.size + 1, j, none⟩ = false := fun j => blk_thaw HST.out.res j
      have HTK : Hid (es = d.ens.map (chX rdF)) := Lib.hid (by rw [HES.out, List.take_length])
      go_wp2
      refine name_world (P := fun W => bodyPost _ _ _ _ _ W) _ ?_
      intro W2 hW2
      obtain ⟨hq, hx, hc⟩ := set4 HST.out.res (by omega) HST.out.ext hW2
      refine bodyPost_ret (v := .tuple #[.agg #[.slice a7 (bdP d.ats).length cap7, .bool o, .slice none 0 0, .slice a8 es.length cap8], .int .i64 (0), .int .i64 (0)]) (by simp [results, Tryz.f12, go_sem, blk_cell hq 0, blk_cell hq 1, blk_cell hq 2, blk_cell hq 3]) rfl ?_
      exact ⟨⟨_, by rw [HX.out.2.1, HX.out.2.2], by rw [HX.out.1, HOQ.out]; exact ⟨_, _, _, rfl, HST.out.ats.chg okA (hcB (Nat.le_refl _) hc HST.out.res) (by decide) (by decide), strIn_nil _ _ _, by have h := (HST.out.own.in okE).chg okE (hcB (Nat.le_refl _) hc HST.out.res) (by decide) (by decide); rw [← HTK.out]; exact h⟩⟩, hx⟩
    obtain ⟨b, off, va, hex, hbx, hva, c0, c1, c2, c3, c4, c5, c6, c7, c8, c9, c10, c11⟩ := (HE.out.ext okE HST.out.ext).en k hlt
    cases hex
    have HVA := Lib.hid (hva.mono okA hB)
    have HVS := Lib.hid hva.attrs
    obtain ⟨a6, cap6, rfl⟩ := hva.form
    have HG := Lib.hid (getE_at d.ens k hlt)
    have HMEM := Lib.hid (List.getElem_mem hlt)
    have HTK := Lib.hid (take_chX (F := rdF) d.ens k hlt)
    rw [← HES.out] at HTK
    generalize d.ens[k]'hlt = x at c0 c1 c2 c3 c4 c5 c6 c7 c8 c9 c10 c11 HVA HVS HG HMEM HTK
    have HLN : Hid (es.length ≤ k) := Lib.hid (by rw [HES.out, List.length_map, List.length_take]; omega)
    have j1 : ((k : Nat) : Int) < (d.ens.length : Int) := by omega
    have j0 : (0 : Int) ≤ (k : Int) := by omega
    have HNE : Hid (∀ n, chE o rdF x = n → n ≠ 0 → chT o rdF d.ens = ((k : Int), n)) := Lib.hid (fun n hn h => by
      subst hn
      have := chT_no (o := o) (F := rdF) hlt HOK.out (by rw [HG.out]; exact h)
      rw [HG.out] at this; exact this)
    have HNX : Hid (chE o rdF x = 0 → ∀ j, j < k + 1 → chE o rdF (getE d.ens j) = 0) := Lib.hid (fun h j hj => by
      by_cases e : j = k
      · subst e; rw [HG.out]; exact h
      · exact HOK.out j (by omega))
    clear hva
    have o3 := blk_cell HST.out.out 3
    have hsz := blk_lt HST.out.out
    have HSX := Lib.hid (HCH.out x HMEM.out)
    have hrs0 := blk_lt HST.out.res
    by_cases hwo : x.wh = true ∧ o = true
    case pos =>
      have HNN := Lib.hid (HNE.out (6) (by unfold chE; rw [if_pos hwo]) (by decide))
      have HX := Lib.hid (ddc_of (ddcT_ent E1.out E2.out E3.out (by rw [HOQ.out, HNN.out]; exact (show ((6) : Int) ≠ 0 from by decide))))
      rw [HOQ.out, HNN.out] at HX
      obtain ⟨g1, g2⟩ := hwo
      rw [g1] at c9
      subst g2
      clear g1
      cases hfi : x.fi
      case false =>
        rw [hfi] at c10
        clear hfi
        have r0 := blk_cell HST.out.res 0; have r1 := blk_cell HST.out.res 1; have r2 := blk_cell HST.out.res 2; have r3 := blk_cell HST.out.res 3
        have fz : ∀ j, wi.frozen? ⟨w.heap.size + 1, j, none⟩ = false := fun j => blk_thaw HST.out.res j
        go_wp2
        refine name_world (P := fun W => bodyPost _ _ _ _ _ W) _ ?_
        intro W2 hW2
        obtain ⟨hq', hx', -⟩ := set4 (W2 := setL wi (w.heap.size + 1) 0 [.slice none 0 0, .bool false, .slice none 0 0, .slice none 0 0]) HST.out.res (by omega) HST.out.ext rfl
        have hq : W2.heap[w.heap.size + 1]? = some (.cells #[.slice none 0 0, .bool false, .slice none 0 0, .slice none 0 0] 26 (0, 0)) := by rw [hW2]; exact blk_alloc hq'
        have hx : Ext w W2 := by rw [hW2]; exact hx'.trans (ext_alloc _ _)
        refine bodyPost_ret (v := .tuple #[.agg #[.slice none 0 0, .bool false, .slice none 0 0, .slice none 0 0], .int .i64 k, .int .i64 6]) (by simp [results, Tryz.f12, go_sem, blk_cell hq 0, blk_cell hq 1, blk_cell hq 2, blk_cell hq 3]) rfl ?_
        exact ⟨⟨_, by rw [HX.out.2.1, HX.out.2.2], by rw [HX.out.1]; exact zDir_in _ _⟩, hx⟩
      rw [hfi] at c10
      clear hfi
      go_wp2_with (go_at_call 33; go_loud (refine (refBsdRead _ x.nd.ats _ (HVS.out.ext (ext_alloc _ _)) HSX.out).mono ?_; rintro e w4 ⟨⟨v4, rfl, hv4⟩, hb4⟩; obtain ⟨a11, cap11, rfl, -, -⟩ := hv4.1; have q12 := blk_ext hb4 (blk_new wi _); have z0 := blk_cell q12 0; have z1 := blk_cell q12 1; have z2 := blk_cell q12 2; have z3 := blk_cell q12 3; have z4 := blk_cell q12 4; have z5 := blk_cell q12 5; have z6 := blk_cell q12 6; have z7 := blk_cell q12 7; have z8 := blk_cell q12 8; have z9 := blk_cell q12 9; have z10 := blk_cell q12 10; have z11 := blk_cell q12 11; have fx : ∀ j, w4.frozen? ⟨wi.heap.size, j, none⟩ = false := fun j => blk_thaw q12 j; have hsx := blk_lt q12; have HB4 : Hid (Ext wi w4) := Lib.hid ((ext_alloc _ _).trans hb4); have Q12 := Lib.hid q12; have HV4 := Lib.hid hv4; have hr2 := blk_ext HB4.out HST.out.res; have r0 := blk_cell hr2 0; have r1 := blk_cell hr2 1; have r2 := blk_cell hr2 2; have r3 := blk_cell hr2 3; have fz : ∀ j, w4.frozen? ⟨w.heap.size + 1, j, none⟩ = false := fun j => blk_thaw hr2 j; have hrs := blk_lt HST.out.res; clear hr2; clear q12 hb4 hv4))
      refine name_world (P := fun W => bodyPost _ _ _ _ _ W) _ ?_
      intro W2 hW2
      have HSA : Hid (Ext wi (w4.setCell ⟨wi.heap.size, 4, none⟩ (.slice a11 (bdP x.nd.ats).length cap11))) := Lib.hid (Below.setCell (p := ⟨wi.heap.size, 4, none⟩) HB4.out (Nat.le_refl _) _)
      obtain ⟨hq, hx, hc⟩ := set4 (blk_ext HSA.out HST.out.res) (by omega) (HST.out.ext.trans HSA.out) hW2
      refine bodyPost_ret (v := .tuple #[.agg #[.slice none 0 0, .bool false, .slice none 0 0, .slice none 0 0], .int .i64 k, .int .i64 (6)]) (by simp [results, Tryz.f12, go_sem, blk_cell hq 0, blk_cell hq 1, blk_cell hq 2, blk_cell hq 3]) rfl ?_
      exact ⟨⟨_, by rw [HX.out.2.1, HX.out.2.2], by rw [HX.out.1]; exact zDir_in _ _⟩, hx⟩
    have HW : Hid (∀ n, (if x.fi = true then (rdF x.nd.ats).2 else 0) = n → chE o rdF x = n) := Lib.hid (fun n h => by unfold chE; rw [if_neg hwo]; exact h)
    cases hfi : x.fi
    case false =>
      rw [hfi] at c10
      have HFI := Lib.hid hfi
      have HN := Lib.hid (HNX.out (HW.out 0 (by rw [hfi]; rfl)))
      have HCX : Hid (chX rdF x = x) := Lib.hid (by unfold chX; rw [if_neg (by rw [hfi]; exact Bool.false_ne_true)])
      clear hfi
      go_upto_region 17 with fail
      go_cut [82] (fun s wx => s = .bool false ∧ wx = wi.alloc (.cells #[.string x.nm, .int .i64 x.nd.dep, .string x.nd.nm, .int .i64 x.nd.kd, .slice a6 x.nd.ats.length cap6, .string x.nd.dat, .int .i64 x.nd.ma, .int .i64 x.nd.mi, .int .i64 x.nd.cl, .bool x.wh, .bool false, .int .i64 x.ns] 32))
      case first =>
        by_cases g1 : x.wh = true
        case neg => have g3 := Bool.eq_false_iff.2 g1; go_wp2_with fail; go_meet; exact ⟨rfl, by rw [g3]⟩
        case pos =>
          have e2 : o = false := Bool.eq_false_iff.2 fun e => hwo ⟨g1, e⟩
          subst e2
          go_wp2_with fail; go_meet; exact ⟨rfl, by rw [g1]⟩
      case rest =>
      obtain ⟨rfl, rfl⟩ := hcut
      clear hwo
      go_wp2_with (at_builtin; go_loud (refine appL okE rfl (.tmp 92) (.tmp 94) rfl (.slice a8 es.length cap8) _ es [x] w _ (by rfl) (by rfl) (by exact (HST.out.up (ext_alloc _ _)).own.ext okE (ext_alloc _ _)) (by exact listIn_new okE _ (x) [.string x.nm, .int .i64 x.nd.dep, .string x.nd.nm, .int .i64 x.nd.kd, .slice a6 x.nd.ats.length cap6, .string x.nd.dat, .int .i64 x.nd.ma, .int .i64 x.nd.mi, .int .i64 x.nd.cl, .bool x.wh, .bool false, .int .i64 x.ns] _ (by first | rfl | simp) ⟨_, HVA.out.ext okA (ext_alloc _ _), by unfold deC; rw [HFI.out]⟩) (by exact (HST.out.up (ext_alloc _ _)).ext.trans (ext_alloc _ _)) (by exact ((HST.out.up (ext_alloc _ _)).ext.trans (ext_alloc _ _)).size) (by have := HLN.out; simp only [List.length_singleton]; omega) ?_; intro v5 w5 hap; have hou := RDSt.app ((HST.out.up (ext_alloc _ _)).up (ext_alloc _ _)) hap; have p3 := blk_cell hou 3; have fp : ∀ j, w5.frozen? ⟨w3.heap.size, j, none⟩ = false := fun j => blk_thaw hou j; obtain ⟨a9, cap9, rfl⟩ := hap.own.form; rw [len_snoc] at hap; have HAP := Lib.hid hap; clear hap hou))
      go_roundw
      case rel => exact ⟨_, k + 1, _, rfl, by omega, by go_num, HN.out, by rw [HTK.out, HCX.out]; exact ((HST.out.up (ext_alloc _ _)).up (ext_alloc _ _)).step HAP.out HBO.out⟩
      case measure => first | (simp [intOf]; done) | (simp [intOf]; omega)
    rw [hfi] at c10
    have HFI := Lib.hid hfi
    replace HW : Hid (∀ n, (rdF x.nd.ats).2 = n → chE o rdF x = n) := Lib.hid (fun n h => HW.out n (by rw [hfi]; exact h))
    have HCX : Hid (chX rdF x = { x with nd := { x.nd with ats := (rdF x.nd.ats).1 } }) := Lib.hid (by unfold chX; rw [if_pos hfi])
    clear hfi
    by_cases e5 : bdE x.nd.ats = 0
    case neg =>
      have HNN := Lib.hid (HNE.out (bdE x.nd.ats) (HW.out _ (by unfold rdF; rw [if_neg (fun h => e5 h.1)])) (e5))
      have HX := Lib.hid (ddc_of (ddcT_ent E1.out E2.out E3.out (by rw [HOQ.out, HNN.out]; exact (show ((bdE x.nd.ats) : Int) ≠ 0 from e5))))
      rw [HOQ.out, HNN.out] at HX
      have s1 : (bdE x.nd.ats == 0) = false := beq_eq_false_iff_ne.2 e5
      have s2 : (bdE x.nd.ats != 0) = true := bne_iff_ne.2 e5
      clear e5
      go_upto_region 17 with (go_at_call 33; go_loud (refine (refBsdRead _ x.nd.ats _ (HVS.out.ext (ext_alloc _ _)) HSX.out).mono ?_; rintro e w4 ⟨⟨v4, rfl, hv4⟩, hb4⟩; obtain ⟨a11, cap11, rfl, -, -⟩ := hv4.1; have q12 := blk_ext hb4 (blk_new wi _); have z0 := blk_cell q12 0; have z1 := blk_cell q12 1; have z2 := blk_cell q12 2; have z3 := blk_cell q12 3; have z4 := blk_cell q12 4; have z5 := blk_cell q12 5; have z6 := blk_cell q12 6; have z7 := blk_cell q12 7; have z8 := blk_cell q12 8; have z9 := blk_cell q12 9; have z10 := blk_cell q12 10; have z11 := blk_cell q12 11; have fx : ∀ j, w4.frozen? ⟨wi.heap.size, j, none⟩ = false := fun j => blk_thaw q12 j; have hsx := blk_lt q12; have HB4 : Hid (Ext wi w4) := Lib.hid ((ext_alloc _ _).trans hb4); have Q12 := Lib.hid q12; have HV4 := Lib.hid hv4; clear q12 hb4 hv4))
      go_cut [82] (fun s wx => s = .bool false ∧ wx = w4)
      case first =>
        by_cases g1 : x.wh = true
        case neg => have g3 := Bool.eq_false_iff.2 g1; rw [g3] at z9; go_wp2_with fail; go_meet; exact ⟨rfl, rfl⟩
        case pos =>
          have e2 : o = false := Bool.eq_false_iff.2 fun e => hwo ⟨g1, e⟩
          rw [g1] at z9
          subst e2
          go_wp2_with fail; go_meet; exact ⟨rfl, rfl⟩
      case rest =>
      obtain ⟨rfl, rfl⟩ := hcut
      clear hwo
      have hr2 := blk_ext HB4.out HST.out.res
      have r0 := blk_cell hr2 0
      have r1 := blk_cell hr2 1
      have r2 := blk_cell hr2 2
      have r3 := blk_cell hr2 3
      have fz : ∀ j, wc.frozen? ⟨w.heap.size + 1, j, none⟩ = false := fun j => blk_thaw hr2 j
      have hrs := blk_lt HST.out.res
      clear hr2
      go_wp2
      refine name_world (P := fun W => bodyPost _ _ _ _ _ W) _ ?_
      intro W2 hW2
      have HSA : Hid (Ext wi (wc.setCell ⟨wi.heap.size, 4, none⟩ (.slice a11 (bdP x.nd.ats).length cap11))) := Lib.hid (Below.setCell (p := ⟨wi.heap.size, 4, none⟩) HB4.out (Nat.le_refl _) _)
      obtain ⟨hq, hx, hc⟩ := set4 (blk_ext HSA.out HST.out.res) (by omega) (HST.out.ext.trans HSA.out) hW2
      refine bodyPost_ret (v := .tuple #[.agg #[.slice none 0 0, .bool false, .slice none 0 0, .slice none 0 0], .int .i64 k, .int .i64 (bdE x.nd.ats)]) (by simp [results, Tryz.f12, go_sem, blk_cell hq 0, blk_cell hq 1, blk_cell hq 2, blk_cell hq 3]) rfl ?_
      exact ⟨⟨_, by rw [HX.out.2.1, HX.out.2.2], by rw [HX.out.1]; exact zDir_in _ _⟩, hx⟩
    have s1 : (bdE x.nd.ats == 0) = true := beq_iff_eq.2 e5
    have S5 := Lib.hid e5
    cases hb : bdO x.nd.ats
    case true =>
      have HNN := Lib.hid (HNE.out (6) (HW.out _ (by unfold rdF; rw [if_pos ⟨e5, hb⟩])) (by decide))
      have HX := Lib.hid (ddc_of (ddcT_ent E1.out E2.out E3.out (by rw [HOQ.out, HNN.out]; exact (show ((6) : Int) ≠ 0 from by decide))))
      rw [HOQ.out, HNN.out] at HX
      have HB := Lib.hid hb
      clear hb e5
      go_upto_region 17 with (go_at_call 33; go_loud (refine (refBsdRead _ x.nd.ats _ (HVS.out.ext (ext_alloc _ _)) HSX.out).mono ?_; rintro e w4 ⟨⟨v4, rfl, hv4⟩, hb4⟩; rw [HB.out]; obtain ⟨a11, cap11, rfl, -, -⟩ := hv4.1; have q12 := blk_ext hb4 (blk_new wi _); have z0 := blk_cell q12 0; have z1 := blk_cell q12 1; have z2 := blk_cell q12 2; have z3 := blk_cell q12 3; have z4 := blk_cell q12 4; have z5 := blk_cell q12 5; have z6 := blk_cell q12 6; have z7 := blk_cell q12 7; have z8 := blk_cell q12 8; have z9 := blk_cell q12 9; have z10 := blk_cell q12 10; have z11 := blk_cell q12 11; have fx : ∀ j, w4.frozen? ⟨wi.heap.size, j, none⟩ = false := fun j => blk_thaw q12 j; have hsx := blk_lt q12; have HB4 : Hid (Ext wi w4) := Lib.hid ((ext_alloc _ _).trans hb4); have Q12 := Lib.hid q12; have HV4 := Lib.hid hv4; clear q12 hb4 hv4))
      go_cut [82] (fun s wx => s = .bool true ∧ wx = w4)
      case first =>
        by_cases g1 : x.wh = true
        case neg => have g3 := Bool.eq_false_iff.2 g1; rw [g3] at z9; go_wp2_with fail; go_meet; exact ⟨rfl, rfl⟩
        case pos =>
          have e2 : o = false := Bool.eq_false_iff.2 fun e => hwo ⟨g1, e⟩
          rw [g1] at z9
          subst e2
          go_wp2_with fail; go_meet; exact ⟨rfl, rfl⟩
      case rest =>
      obtain ⟨rfl, rfl⟩ := hcut
      clear hwo
      have hr2 := blk_ext HB4.out HST.out.res
      have r0 := blk_cell hr2 0
      have r1 := blk_cell hr2 1
      have r2 := blk_cell hr2 2
      have r3 := blk_cell hr2 3
      have fz : ∀ j, wc.frozen? ⟨w.heap.size + 1, j, none⟩ = false := fun j => blk_thaw hr2 j
      have hrs := blk_lt HST.out.res
      clear hr2
      go_wp2
      refine name_world (P := fun W => bodyPost _ _ _ _ _ W) _ ?_
      intro W2 hW2
      have HSA : Hid (Ext wi (wc.setCell ⟨wi.heap.size, 4, none⟩ (.slice a11 (bdP x.nd.ats).length cap11))) := Lib.hid (Below.setCell (p := ⟨wi.heap.size, 4, none⟩) HB4.out (Nat.le_refl _) _)
      obtain ⟨hq, hx, hc⟩ := set4 (blk_ext HSA.out HST.out.res) (by omega) (HST.out.ext.trans HSA.out) hW2
      refine bodyPost_ret (v := .tuple #[.agg #[.slice none 0 0, .bool false, .slice none 0 0, .slice none 0 0], .int .i64 k, .int .i64 (6)]) (by simp [results, Tryz.f12, go_sem, blk_cell hq 0, blk_cell hq 1, blk_cell hq 2, blk_cell hq 3]) rfl ?_
      exact ⟨⟨_, by rw [HX.out.2.1, HX.out.2.2], by rw [HX.out.1]; exact zDir_in _ _⟩, hx⟩
    have HN := Lib.hid (HNX.out (HW.out 0 (by unfold rdF; rw [if_neg (fun h => by rw [hb] at h; cases h.2)]; exact e5)))
    replace HCX : Hid (chX rdF x = { x with nd := { x.nd with ats := bdP x.nd.ats } }) := Lib.hid (by rw [HCX.out]; unfold rdF; rw [if_neg (fun h => by rw [hb] at h; cases h.2)])
    have HB := Lib.hid hb
    clear hb e5
    go_upto_region 17 with (go_at_call 33; go_loud (refine (refBsdRead _ x.nd.ats _ (HVS.out.ext (ext_alloc _ _)) HSX.out).mono ?_; rintro e w4 ⟨⟨v4, rfl, hv4⟩, hb4⟩; rw [HB.out, S5.out]; obtain ⟨a11, cap11, rfl, -, -⟩ := hv4.1; have q12 := blk_ext hb4 (blk_new wi _); have z0 := blk_cell q12 0; have z1 := blk_cell q12 1; have z2 := blk_cell q12 2; have z3 := blk_cell q12 3; have z4 := blk_cell q12 4; have z5 := blk_cell q12 5; have z6 := blk_cell q12 6; have z7 := blk_cell q12 7; have z8 := blk_cell q12 8; have z9 := blk_cell q12 9; have z10 := blk_cell q12 10; have z11 := blk_cell q12 11; have fx : ∀ j, w4.frozen? ⟨wi.heap.size, j, none⟩ = false := fun j => blk_thaw q12 j; have hsx := blk_lt q12; have HB4 : Hid (Ext wi w4) := Lib.hid ((ext_alloc _ _).trans hb4); have Q12 := Lib.hid q12; have HV4 := Lib.hid hv4; clear q12 hb4 hv4))
    go_cut [82] (fun s wx => s = .bool false ∧ wx = w4)
    case first =>
      by_cases g1 : x.wh = true
      case neg => have g3 := Bool.eq_false_iff.2 g1; rw [g3] at z9; go_wp2_with fail; go_meet; exact ⟨rfl, rfl⟩
      case pos =>
        have e2 : o = false := Bool.eq_false_iff.2 fun e => hwo ⟨g1, e⟩
        rw [g1] at z9
        subst e2
        go_wp2_with fail; go_meet; exact ⟨rfl, rfl⟩
    case rest =>
    obtain ⟨rfl, rfl⟩ := hcut
    clear hwo s1
    have HSA : Hid (Ext wi (wc.setCell ⟨wi.heap.size, 4, none⟩ (.slice a11 (bdP x.nd.ats).length cap11))) := Lib.hid (Below.setCell (p := ⟨wi.heap.size, 4, none⟩) HB4.out (Nat.le_refl _) _)
    have HV5 : Hid (AttIn w.heap.size (wc.setCell ⟨wi.heap.size, 4, none⟩ (.slice a11 (bdP x.nd.ats).length cap11)) (.slice a11 (bdP x.nd.ats).length cap11) (bdP x.nd.ats)) := Lib.hid ((attT_in HV4.out).chg okA (cellChg Q12.out (by have := HST.out.ext.size; omega)) (by decide) (by decide))
    have u3' := blk_cell (blk_ext HB4.out HST.out.out) 3
    go_wp2_with (at_builtin; go_loud (refine appL okE rfl (.tmp 92) (.tmp 94) rfl (.slice a8 es.length cap8) _ es [{ x with nd := { x.nd with ats := bdP x.nd.ats } }] w _ (by rfl) (by rfl) (by exact (HST.out.up HSA.out).own.ext okE (ext_alloc _ _)) (by exact listIn_new okE _ ({ x with nd := { x.nd with ats := bdP x.nd.ats } }) [.string x.nm, .int .i64 x.nd.dep, .string x.nd.nm, .int .i64 x.nd.kd, .slice a11 (bdP x.nd.ats).length cap11, .string x.nd.dat, .int .i64 x.nd.ma, .int .i64 x.nd.mi, .int .i64 x.nd.cl, .bool x.wh, .bool true, .int .i64 x.ns] _ (by first | rfl | simp) ⟨_, HV5.out, by unfold deC; rw [HFI.out]⟩) (by exact (HST.out.up HSA.out).ext.trans (ext_alloc _ _)) (by exact ((HST.out.up HSA.out).ext.trans (ext_alloc _ _)).size) (by have := HLN.out; simp only [List.length_singleton]; omega) ?_; intro v5 w5 hap; have hou := RDSt.app ((HST.out.up HSA.out).up (ext_alloc _ _)) hap; have p3 := blk_cell hou 3; have fp : ∀ j, w5.frozen? ⟨w3.heap.size, j, none⟩ = false := fun j => blk_thaw hou j; obtain ⟨a9, cap9, rfl⟩ := hap.own.form; rw [len_snoc] at hap; have HAP := Lib.hid hap; clear hap hou))
    go_roundw
    case rel => exact ⟨_, k + 1, _, rfl, by omega, by go_num, HN.out, by rw [HTK.out, HCX.out]; exact ((HST.out.up HSA.out).up (ext_alloc _ _)).step HAP.out HBO.out⟩
    case measure => first | (simp [intOf]; done) | (simp [intOf]; omega)
end Go.Proofs.YtijkadabffbbpaaGreatDoor
