/- WlkR -/
import Derived.Test.YtimpejaaeinplaaGreatDoorQI5
import Derived.Test.YtimpejaaeinplaaGreatDoorQWlkB
import Derived.Test.YtimpejaaeinplaaGreatDoorQWlkR
namespace Go.Proofs.YtimpejaaeinplaaGreatDoor
open Go.RowKit Go.Shelf
attribute [local go_sem] Oper.semAt_some

set_option maxRecDepth 100000 in
set_option maxHeartbeats 8000000 in
theorem brCheck0 (B : Nat) (w : World) (v : Value) (b : List BrN) (hb : BrIn B w v b) (hsm : SmallB b) (ht : treeE (plT b) ≠ 0) :
    RetB Tryz.prog 49 #[v] w (.tuple #[.int .i64 (brNo b), .int .i64 (brEr b)]) := by
  unfold RetB
  obtain ⟨aa, cap, rfl⟩ := hb.form
  have HV := hQq (hb.ext okB (brW0_ext w (.slice aa b.length cap))); clear hb
  have HSM := hQq hsm
  have hlen := hsm.len
  clear hsm
  have HW := hQq (brW0_ext w (.slice aa b.length cap))
  have HK := hQq (brW0_blk w (.slice aa b.length cap))
  unfold brW0 at HV HW HK
  have HR := hQq (br_of (brT_tree ht))
  have q1 : (treeE (plT b) != 0) = true := bne_iff_ne.2 ht
  clear ht
  go_enter Tryz.func49, Tryz.ntmps49
  go_wp2_with (first
    | (go_at_call 50; refine (brTree B _ _ b HV.out hlen HSM.out.ats).mono ?_; rintro e w1 ⟨⟨a5, cap5, rfl, ho⟩, hb1⟩; have HO1 := hQq ho; have HB1 := hQq hb1; clear ho hb1)
    | (go_at_call 66; refine (treeCheck _ _ (plT b) _ (HO1.out.in okT) HSM.out.tree).mono ?_; rintro e w2 ⟨rfl, hb2⟩; have HB2 := hQq (Ext.trans HB1.out hb2); have e1 := hQq (bX HB2.out HK.out.2.1); have e2 := hQq (bX HB2.out HK.out.2.2.1); have c1 : w2.cell? ⟨w.heap.size + 1, 0, none⟩ = some (.int .i64 0) := bC e1.out 0; have c2 : w2.cell? ⟨w.heap.size + 1 + 1, 0, none⟩ = some (.int .i64 0) := bC e2.out 0; have f1 : w2.frozen? ⟨w.heap.size + 1, 0, none⟩ = false := (by simp [World.frozen?, e1.out]); have f2 : w2.frozen? ⟨w.heap.size + 1 + 1, 0, none⟩ = false := (by simp [World.frozen?, e2.out]); clear hb2))
  obtain ⟨d1, d2, d3⟩ := stored2 (HW.out.trans HB2.out) c1 c2 (.int .i64 (treeN (plT b))) (.int .i64 (treeE (plT b)))
  refine bodyPost_ret (v := .tuple #[.int .i64 (treeN (plT b)), .int .i64 (treeE (plT b))]) (by simp [results, Tryz.f49, go_sem, d1, d2]) rfl ?_
  exact ⟨by rw [HR.out.1, HR.out.2], d3⟩
set_option maxRecDepth 100000 in
set_option maxHeartbeats 16000000 in
theorem brCheck1 (B : Nat) (w : World) (v : Value) (b : List BrN) (hb : BrIn B w v b) (hsm : SmallB b) (ht : treeE (plT b) = 0) :
    RetB Tryz.prog 49 #[v] w (.tuple #[.int .i64 (brNo b), .int .i64 (brEr b)]) := by
  unfold RetB
  obtain ⟨aa, cap, rfl⟩ := hb.form
  have HVw := hQq hb
  have HV := hQq (hb.ext okB (brW0_ext w (.slice aa b.length cap))); clear hb
  have HSM := hQq hsm
  have hlen := hsm.len
  clear hsm
  have HW := hQq (brW0_ext w (.slice aa b.length cap))
  have HK := hQq (brW0_blk w (.slice aa b.length cap))
  unfold brW0 at HV HW HK
  have HT := hQq ht
  have HZ := hQq (treeE_zero ht)
  have q1 : (treeE (plT b) != 0) = false := bne_eq_false_iff_eq.2 ht
  clear ht
  have hmm := @run_makeMap Tryz.prog
  refine (callsIn_wide (n := 8)).1 ?_
  refine callsIn_of_wp_marks Tryz.func49 rfl trivial ?_ rfl
  refine wpIn_wide.2 ?_
  simp only [Tryz.ntmps49, List.size_toArray, List.length_cons, List.length_nil, Nat.reduceAdd, Nat.reduceSub, Array.replicate_succ, Array.replicate_zero, List.push_toArray, List.append_toArray, List.nil_append, List.cons_append]
  go_wp2_with (first
    | (go_at_call 50; refine (brTree B _ _ b HV.out hlen HSM.out.ats).mono ?_; rintro e w1 ⟨⟨a5, cap5, rfl, ho⟩, hb1⟩; have HO1 := hQq ho; have HB1 := hQq hb1; clear ho hb1)
    | (go_at_call 66; refine (treeCheck _ _ (plT b) _ (HO1.out.in okT) HSM.out.tree).mono ?_; rintro e w2 ⟨rfl, hb2⟩; have HB2 := hQq (Ext.trans HB1.out hb2); have e0 := hQq (bX HB2.out HK.out.1); have e1 := hQq (bX HB2.out HK.out.2.1); have e2 := hQq (bX HB2.out HK.out.2.2.1); have HS2 := hQq (Nat.le_trans (Nat.le_of_eq HK.out.2.2.2.symm) HB2.out.size); have c0 : w2.cell? ⟨w.heap.size, 0, none⟩ = some (.slice aa b.length cap) := bC e0.out 0; have hbl : w.heap.size < w2.heap.size := blk_lt e0.out; clear hb2)
    | (go_at_call 114; refine (brWalk _ _ _ _).mono ?_; rintro e w3 ⟨rfl, rfl⟩))
  refine nW (P := fun W => Code.wp _ _ _ _ W) _ ?_
  intro W0 hW0
  have HS0 : Hid (W0.heap.size = w2.heap.size + 3) := hQq (by rw [hW0]; simp)
  have HE0 : Hid (Ext w W0) := hQq (by rw [hW0]; exact HW.out.trans (HB2.out.trans (((eA _ _).trans (eA _ _)).trans (eA _ _))))
  have HE2 : Hid (Ext w2 W0) := hQq (by rw [hW0]; exact ((eA _ _).trans (eA _ _)).trans (eA _ _))
  have HM0 : Hid (MapAt kS W0 w2.heap.size 0 (fun _ => none)) := hQq (by rw [hW0]; exact ((mapAt_made w2 kS).ext (eA _ _)).ext (eA _ _))
  have HM1 : Hid (W0.heap[w2.heap.size + 1]? = some (.cells #[.map (some w2.heap.size)] 134 (0, 0))) := hQq (by rw [hW0]; exact bA (blk_at (by simp)))
  have HM2 : Hid (W0.cell? ⟨w2.heap.size + 1 + 1, 0, none⟩ = some (.slice aa b.length cap)) := hQq (by rw [hW0]; exact bC (blk_at (by simp)) 0)
  clear hW0 c0 hmm
  have hsz := HS0.out
  have HWS : Hid (w.heap.size + 3 <= w2.heap.size) := HS2
  refine (wpIn_wide (n := 8)).1 ?_
  refine wpIn_rangeH (w := W0) (w0 := W0) rfl (by omega) (gf := 163) (lb := #[.pointer (some ⟨w2.heap.size + 1 + 1, 0, none⟩)]) rfl trivial (enters_of Tryz.func163 (by kernel_rfl) rfl)
    (walk_seq 7 (by omega) B w W0 _ b (w2.heap.size + 1 + 1) HVw.out (Kc.of_ext HE0.out) HM2.out (by omega) hlen HZ.out.2.2.1) Kc.trans (fun W l o o' hl ho hc => Kc.put ho hc) (Below.refl _ _) (fun _ => rfl) okPl_put
    (fun pre W => BrI w W0 w2.heap.size b pre.length W) (fun c _ W => c = .ret /\ BrX w b W)
    (fun s W W' h hx => h.ab (by omega) HE0.out.size hx) (fun c s W W' h hx => ⟨h.1, h.2.ab (by have := HWS.out; omega) hx⟩)
    ⟨fun j hj => absurd hj (by simp), ⟨_, _, HM0.out, met_zero b⟩, Kc.refl _ _ _, HE0.out⟩
    (brAx w w2.heap.size b) (brAx_put w w2.heap.size b) ?assign ?body ?done ?stop
  case assign =>
    intro l pre x W K hi hok hK
    unfold encPl
    gi_wp2
    exact hK _ _ (eA _ _) (Kc.of_ext (eA _ _)) ⟨W.heap.size, [_, undef, undef, undef, _, _, undef, undef, undef, _, _, _, _, _, _, _, _, _, _, _, _, _, _, _, _, _, _, _, _, _, _, _, _, _, _, _, _, _, _, _, _, _, _, _, _, _, _, _, _, _, _, _, _, _, _, _, _, _, _, _, _, _, _, _, _, _, _, _, _, _, _, _, _, _, _, _, _, _, _, _, _, _, _, _, _, _, _, _, _, _, _, _, _, _, _, _, _], bN W _, rfl⟩ ⟨hok.1, hok.2.ext okS (eA _ _)⟩
  case body =>
    rintro l pre x a2 W hI hlt hok ⟨Bx, M, hBx, rfl⟩
    obtain ⟨xi, xa, xn, xc⟩ := x
    obtain ⟨hxi, hxs⟩ := hok
    dsimp only at hxi hxs hBx ⊢
    subst hxi
    have HPI : Hid (∀ y : PlI, (pre ++ [y]).length = pre.length + 1) := hQq (fun y => by simp)
    generalize pre.length = k at hI hlt hBx hxs HPI ⊢
    have HI := hQq hI; have HXS := hQq hxs; have HBX := hQq hBx
    have d0 := hQq (hI.kc.keep _ _ _ _ (.inr (Nat.zero_le _)) (bX HE2.out e0.out))
    have d1 := hQq (hI.kc.keep _ _ _ _ (.inr (Nat.zero_le _)) (bX HE2.out e1.out))
    have d2 := hQq (hI.kc.keep _ _ _ _ (.inr (Nat.zero_le _)) (bX HE2.out e2.out))
    have d3 := hQq (hI.kc.keep _ _ _ _ (.inr (Nat.zero_le _)) HM1.out)
    have HVI := hQq (brIn_kc HVw.out ((Kc.of_ext HE0.out).trans hI.kc))
    have p0 : W.cell? ⟨w.heap.size, 0, none⟩ = some (.slice aa b.length cap) := bC d0.out 0
    have p1 : W.cell? ⟨w.heap.size + 1, 0, none⟩ = some (.int .i64 0) := bC d1.out 0
    have p2 : W.cell? ⟨w.heap.size + 1 + 1, 0, none⟩ = some (.int .i64 0) := bC d2.out 0
    have p3 : W.cell? ⟨w2.heap.size + 1, 0, none⟩ = some (.map (some w2.heap.size)) := bC d3.out 0
    have p4 : W.cell? ⟨Bx, 0, none⟩ = some (.int .i64 (abv (plT b) k)) := bC hBx 0
    have p5 : W.cell? ⟨Bx, 1, none⟩ = some (.slice xa xn xc) := bC hBx 1
    have f1 : W.frozen? ⟨w.heap.size + 1, 0, none⟩ = false := by simp [World.frozen?, d1.out]
    have f2 : W.frozen? ⟨w.heap.size + 1 + 1, 0, none⟩ = false := by simp [World.frozen?, d2.out]
    have z0 := blk_lt d0.out; have z1 := blk_lt d1.out; have z2 := blk_lt d2.out; have z3 := blk_lt d3.out; have z4 := blk_lt hBx
    obtain ⟨bb, off, va, vr, hex, hbb, hva, hvr, xx⟩ := HVI.out.br k hlt
    cases hex
    obtain ⟨c0, c1, c2, c3, c4, c5, c6, c7, c8, c9⟩ := xx
    obtain ⟨a4, cap4, rfl⟩ := hvr.form
    obtain ⟨a3, cap3, rfl⟩ := hva.form
    have HG := hQq (getB_at b k hlt)
    have HVR := hQq hvr
    have HRL := hQq (HSM.out.red _ (List.getElem_mem hlt))
    generalize b[k]'hlt = x at c0 c1 c2 c3 c4 c5 c6 c7 c8 c9 HG HVR HRL
    have j1 : ((k : Nat) : Int) < (b.length : Int) := by omega
    have j0 : (0 : Int) <= (k : Int) := by omega
    clear hva hvr hI hBx hxs
    by_cases hled : 0 < x.red.length
    case neg =>
      have hled' := lenZ hled
      have HLE := hQq hled
      by_cases hw : x.opq = true /\ x.kd ≠ 1
      · have HR := hQq (br_of (brT_mark HT.out hlt HI.out.ok (by rw [marks_kind HG.out (.inl ⟨.inl hw.1, hw.2⟩)]; decide)))
        have HM := hQq (marks_kind HG.out (.inl ⟨.inl hw.1, hw.2⟩))
        have q1 : (x.kd != 1) = true := bne_iff_ne.2 hw.2
        rw [hw.1] at c8
        clear hw hled
        gi_wp2
        have HX := brX_of HI.out.ext d1.out d2.out (by rw [HM.out] at HR; exact HR.out)
        exact ⟨((HX.2).trans (KeepsOthers.alloc _ _)).from _, rfl, HX.1.alloc _⟩
      have HW' := hQq hw
      have q1 : x.opq = true -> (x.kd != 1) = false := fun h => bne_eq_false_iff_eq.2 (Decidable.not_not.1 (fun e => hw ⟨h, e⟩))
      have HMU := hQq (marks_under HG.out hw hled)
      have HGL : Hid (¬ 0 < (getB b k).red.length) := hQq (by rw [HG.out]; exact hled)
      by_cases hk5 : x.kd = 5
      case neg =>
        have q5 : (x.kd == 5) = false := beq_eq_false_iff_ne.2 hk5
        have HM : Hid (marksE b k = 0) := hQq (by rw [HMU.out, if_neg]; unfold underB; rw [HG.out, q5]; simp)
        clear hk5 hw hled
        cases ho : x.opq
        · rw [ho] at c8
          clear q1
          by_cases hz : k = 0
          · have q0 : ((k : Int) == 0) = true := beq_iff_eq.2 (by omega)
            clear hz
            gi_wp2
            exact ⟨(KeepsOthers.alloc _ _).from _, Kc.of_ext (eA _ _), by show BrI w W0 _ b (pre ++ [_]).length _; rw [HPI.out]; exact HI.out.skip HM.out HGL.out (eA _ _)⟩
          · have q0 : ((k : Int) == 0) = false := beq_eq_false_iff_ne.2 (by omega)
            clear hz
            gi_wp2
            exact ⟨(KeepsOthers.alloc _ _).from _, Kc.of_ext (eA _ _), by show BrI w W0 _ b (pre ++ [_]).length _; rw [HPI.out]; exact HI.out.skip HM.out HGL.out (eA _ _)⟩
        · rw [ho] at c8
          have q2 := q1 ho
          clear q1
          by_cases hz : k = 0
          · have q0 : ((k : Int) == 0) = true := beq_iff_eq.2 (by omega)
            clear hz
            gi_wp2
            exact ⟨(KeepsOthers.alloc _ _).from _, Kc.of_ext (eA _ _), by show BrI w W0 _ b (pre ++ [_]).length _; rw [HPI.out]; exact HI.out.skip HM.out HGL.out (eA _ _)⟩
          · have q0 : ((k : Int) == 0) = false := beq_eq_false_iff_ne.2 (by omega)
            clear hz
            gi_wp2
            exact ⟨(KeepsOthers.alloc _ _).from _, Kc.of_ext (eA _ _), by show BrI w W0 _ b (pre ++ [_]).length _; rw [HPI.out]; exact HI.out.skip HM.out HGL.out (eA _ _)⟩
      have q5 : (x.kd == 5) = true := beq_iff_eq.2 hk5
      have ho : x.opq = false := by
        cases ho : x.opq with
        | false => rfl
        | true => exact absurd ⟨ho, by rw [hk5]; decide⟩ hw
      have hkn : k ≠ 0 := by
        rintro rfl
        obtain ⟨s0, _⟩ := node_parts (HZ.out.2.2.1 0 (by rw [plT_len]; exact hlt))
        have h1 := ((shape_bd s0).2.2.1 rfl).2
        rw [getT_plT b 0 hlt, HG.out] at h1
        have h1 : x.kd = 1 := h1
        rw [hk5] at h1; cases h1
      have hav := abv_bd (plT b) k
      have hag := abv_ge HZ.out.2.2.1 (i := k) (by rw [plT_len]; exact hlt) hkn
      have q0 : ((k : Int) == 0) = false := beq_eq_false_iff_ne.2 (by omega)
      rw [ho] at c8
      obtain ⟨m, hm⟩ : ∃ m : Nat, abv (plT b) k = m := ⟨(abv (plT b) k).toNat, by omega⟩
      have HUN := hQq (show underB b k = (getB b m).opq from by unfold underB; rw [HG.out, q5, hm, Int.toNat_natCast, decide_eq_true (by omega)]; rfl)
      rw [hm] at p4
      have hmb : m < b.length := by omega
      obtain ⟨bm', off', vam, vrm, hexm, hbbm, _, _, _, _, _, _, _, _, _, _, m8, _⟩ := HVI.out.br m hmb
      cases hexm
      rw [<- getB_at b m hmb] at m8
      have j2 : ((m : Nat) : Int) < (b.length : Int) := by omega
      have j3 : (0 : Int) <= (m : Int) := by omega
      clear hk5 hkn hav hag hm hw hled q1 ho
      cases hjo : (getB b m).opq
      · rw [hjo] at m8
        have HM : Hid (marksE b k = 0) := hQq (by rw [HMU.out, HUN.out, hjo]; rfl)
        clear hjo
        gi_wp2
        exact ⟨(KeepsOthers.alloc _ _).from _, Kc.of_ext (eA _ _), by show BrI w W0 _ b (pre ++ [_]).length _; rw [HPI.out]; exact HI.out.skip HM.out HGL.out (eA _ _)⟩
      · rw [hjo] at m8
        have HM : Hid (marksE b k = 6) := hQq (by rw [HMU.out, HUN.out, hjo]; rfl)
        have HR := hQq (br_of (brT_mark HT.out hlt HI.out.ok (by rw [HM.out]; decide)))
        clear hjo
        gi_wp2
        have HX := brX_of HI.out.ext d1.out d2.out (by rw [HM.out] at HR; exact HR.out)
        exact ⟨((HX.2).trans (KeepsOthers.alloc _ _)).from _, rfl, HX.1.alloc _⟩
    have hled' := lenP hled
    by_cases hk1 : x.kd = 1
    case neg =>
      have HM := hQq (marks_kind HG.out (.inl ⟨.inr hled, hk1⟩))
      have HR := hQq (br_of (brT_mark HT.out hlt HI.out.ok (by rw [HM.out]; decide)))
      have q1 : (x.kd != 1) = true := bne_iff_ne.2 hk1
      clear hk1
      cases ho : x.opq
      all_goals
        rw [ho] at c8
        clear ho
        gi_wp2
        have HX := brX_of HI.out.ext d1.out d2.out (by rw [HM.out] at HR; exact HR.out)
        exact ⟨((HX.2).trans (KeepsOthers.alloc _ _)).from _, rfl, HX.1.alloc _⟩
    have q1 : (x.kd != 1) = false := bne_eq_false_iff_eq.2 hk1
    have q5 : (x.kd == 5) = false := by rw [hk1]; rfl
    by_cases hz : k = 0
    · have HM := hQq (marks_kind HG.out (.inr ⟨hz, hled⟩))
      have HR := hQq (br_of (brT_mark HT.out hlt HI.out.ok (by rw [HM.out]; decide)))
      have q0 : ((k : Int) == 0) = true := beq_iff_eq.2 (by omega)
      clear hk1 hz
      cases ho : x.opq
      all_goals
        rw [ho] at c8
        clear ho
        gi_wp2
        have HX := brX_of HI.out.ext d1.out d2.out (by rw [HM.out] at HR; exact HR.out)
        exact ⟨((HX.2).trans (KeepsOthers.alloc _ _)).from _, rfl, HX.1.alloc _⟩
    have q0 : ((k : Int) == 0) = false := beq_eq_false_iff_ne.2 (by omega)
    cases ho : x.opq
    case true =>
      have HM := hQq (marks_both HG.out hk1 hz ho hled)
      have HR := hQq (br_of (brT_mark HT.out hlt HI.out.ok (by rw [HM.out]; decide)))
      rw [ho] at c8
      clear hk1 hz ho
      gi_wp2
      have HX := brX_of HI.out.ext d1.out d2.out (by rw [HM.out] at HR; exact HR.out)
      exact ⟨((HX.2).trans (KeepsOthers.alloc _ _)).from _, rfl, HX.1.alloc _⟩
    have HC := hQq (And.intro hk1 (And.intro hz (And.intro ho hled)))
    rw [ho] at c8
    clear hk1 hz ho
    have hln : 1 <= 8 - 1 - 1 := by omega
    by_cases hpe : pathE x.red = 0
    case neg =>
      have HM := hQq (marks_path HG.out HC.out.1 HC.out.2.1 HC.out.2.2.1 HC.out.2.2.2 hpe)
      have HR := hQq (br_of (brT_mark HT.out hlt HI.out.ok (by rw [HM.out]; exact hpe)))
      have q2 : (pathE x.red != 0) = true := bne_iff_ne.2 hpe
      clear hpe
      gi_wp2_with (refine ⟨trivial, ?_⟩; gi_at_call 115; refine (CallsIn.inRound l (callsIn_wide.2 (pathsPrint _ _ x.red (strs_ext HVR.out (eA _ _))))).mono ?_; rintro e V ⟨rfl, hb1⟩; have HE := hQq ((eA W _).trans hb1); have v1 : V.cell? ⟨w.heap.size + 1, 0, none⟩ = some (.int .i64 0) := bC (bX HE.out d1.out) 0; have v2 : V.cell? ⟨w.heap.size + 1 + 1, 0, none⟩ = some (.int .i64 0) := bC (bX HE.out d2.out) 0; have g1 : V.frozen? ⟨w.heap.size + 1, 0, none⟩ = false := (by simp [World.frozen?, bX HE.out d1.out]); have g2 : V.frozen? ⟨w.heap.size + 1 + 1, 0, none⟩ = false := (by simp [World.frozen?, bX HE.out d2.out]); clear hb1)
      have HX := brX_of (HI.out.ext.trans HE.out) (bX HE.out d1.out) (bX HE.out d2.out) (by rw [HM.out] at HR; exact HR.out)
      exact ⟨((ko_ext HE.out).trans HX.2).from _, rfl, HX.1⟩
    have q2 : (pathE x.red != 0) = false := bne_eq_false_iff_eq.2 hpe
    have HPE := hQq hpe
    have HPS : Hid (prS x.red = textP x.red) := hQq (if_pos hpe)
    have HXS := hQq HXS.out.strs
    clear hpe
    by_cases heq : x.red = pathT (plT b) k
    · have HM := hQq (marks_self HG.out HC.out.1 HC.out.2.1 HC.out.2.2.1 HC.out.2.2.2 HPE.out heq)
      have HR := hQq (br_of (brT_mark HT.out hlt HI.out.ok (by rw [HM.out]; decide)))
      have HQ := hQq (decide_eq_true heq)
      clear heq
      gi_wp2_with (first
        | (refine ⟨trivial, ?_⟩; gi_at_call 115; refine (CallsIn.inRound l (callsIn_wide.2 (pathsPrint _ _ x.red (strs_ext HVR.out (eA _ _))))).mono ?_; rintro e V ⟨rfl, hb1⟩; have HE := hQq ((eA W _).trans hb1); have HXB : Hid (V.heap[W.heap.size]? = some (.cells #[.int .i64 x.dep, .string x.nm, .int .i64 x.kd, .slice a3 x.ats.length cap3, .string x.dat, .int .i64 x.ma, .int .i64 x.mi, .int .i64 x.cl, .bool false, .slice a4 x.red.length cap4] 41 (0, 0))) := hQq (bX hb1 (bN W _)); rw [HPS.out]; have y9 : V.cell? ⟨W.heap.size, 9, none⟩ = some (.slice a4 x.red.length cap4) := bC HXB.out 9; have y1 : V.cell? ⟨Bx, 1, none⟩ = some (.slice xa xn xc) := bC (bX HE.out HBX.out) 1; clear hb1)
        | (refine ⟨trivial, ?_⟩; gi_at_call 116; refine (CallsIn.inRound l (callsIn_wide.2 (slEqualS _ _ x.red (pathT (plT b) k) V (strs_ext HVR.out HE.out) (HXS.out.ext HE.out) (by have := HRL.out.1; omega)))).mono ?_; rintro e U ⟨rfl, hb2⟩; have HE3 := hQq (HE.out.trans hb2); rw [HQ.out]; have v1 : U.cell? ⟨w.heap.size + 1, 0, none⟩ = some (.int .i64 0) := bC (bX HE3.out d1.out) 0; have v2 : U.cell? ⟨w.heap.size + 1 + 1, 0, none⟩ = some (.int .i64 0) := bC (bX HE3.out d2.out) 0; have g1 : U.frozen? ⟨w.heap.size + 1, 0, none⟩ = false := (by simp [World.frozen?, bX HE3.out d1.out]); have g2 : U.frozen? ⟨w.heap.size + 1 + 1, 0, none⟩ = false := (by simp [World.frozen?, bX HE3.out d2.out]); clear hb2))
      have HX := brX_of (HI.out.ext.trans HE3.out) (bX HE3.out d1.out) (bX HE3.out d2.out) (by rw [HM.out] at HR; exact HR.out)
      exact ⟨((ko_ext HE3.out).trans HX.2).from _, rfl, HX.1⟩
    have HNE := hQq heq
    have HQ := hQq (decide_eq_false heq)
    clear heq
    obtain ⟨nm, Fm, hma, hmo⟩ := HI.out.met
    have HMO := hQq hmo
    have HBM : Hid (w2.heap.size < W.heap.size) := hQq (by have := HI.out.kc.size; omega)
    have HLK0 := met_look hmo HPE.out HC.out.2.2.2
    cases hsn : seenR b x.red k
    case true =>
      have HM := hQq (marks_seen HG.out HC.out.1 HC.out.2.1 HC.out.2.2.1 HC.out.2.2.2 HPE.out HNE.out hsn)
      have HR := hQq (br_of (brT_mark HT.out hlt HI.out.ok (by rw [HM.out]; decide)))
      have HLK : Hid ((Fm (textP x.red)).getD (.bool false) = .bool true) := hQq (by rw [HLK0, hsn])
      have HMA := hQq hma
      clear hsn HLK0 hmo hma
      gi_wp2_with (first
        | (refine ⟨trivial, ?_⟩; gi_at_call 115; refine (CallsIn.inRound l (callsIn_wide.2 (pathsPrint _ _ x.red (strs_ext HVR.out (eA _ _))))).mono ?_; rintro e V ⟨rfl, hb1⟩; have HE := hQq ((eA W _).trans hb1); have HXB : Hid (V.heap[W.heap.size]? = some (.cells #[.int .i64 x.dep, .string x.nm, .int .i64 x.kd, .slice a3 x.ats.length cap3, .string x.dat, .int .i64 x.ma, .int .i64 x.mi, .int .i64 x.cl, .bool false, .slice a4 x.red.length cap4] 41 (0, 0))) := hQq (bX hb1 (bN W _)); rw [HPS.out]; have y9 : V.cell? ⟨W.heap.size, 9, none⟩ = some (.slice a4 x.red.length cap4) := bC HXB.out 9; have y1 : V.cell? ⟨Bx, 1, none⟩ = some (.slice xa xn xc) := bC (bX HE.out HBX.out) 1; clear hb1)
        | (refine ⟨trivial, ?_⟩; gi_at_call 116; refine (CallsIn.inRound l (callsIn_wide.2 (slEqualS _ _ x.red (pathT (plT b) k) V (strs_ext HVR.out HE.out) (HXS.out.ext HE.out) (by have := HRL.out.1; omega)))).mono ?_; rintro e U ⟨rfl, hb2⟩; have HE3 := hQq (HE.out.trans hb2); rw [HQ.out]; have v1 : U.cell? ⟨w.heap.size + 1, 0, none⟩ = some (.int .i64 0) := bC (bX HE3.out d1.out) 0; have v2 : U.cell? ⟨w.heap.size + 1 + 1, 0, none⟩ = some (.int .i64 0) := bC (bX HE3.out d2.out) 0; have g1 : U.frozen? ⟨w.heap.size + 1, 0, none⟩ = false := (by simp [World.frozen?, bX HE3.out d1.out]); have g2 : U.frozen? ⟨w.heap.size + 1 + 1, 0, none⟩ = false := (by simp [World.frozen?, bX HE3.out d2.out]); have v3 : U.cell? ⟨w2.heap.size + 1, 0, none⟩ = some (.map (some w2.heap.size)) := bC (bX HE3.out d3.out) 0; have HX2 : Hid (U.heap[W.heap.size]? = some (.cells #[.int .i64 x.dep, .string x.nm, .int .i64 x.kd, .slice a3 x.ats.length cap3, .string x.dat, .int .i64 x.ma, .int .i64 x.mi, .int .i64 x.cl, .bool false, .slice a4 x.red.length cap4] 41 (0, 0))) := hQq (bX hb2 HXB.out); have HMU := hQq (HMA.out.ext HE3.out); clear hb2)
        | (gi_at_lookup; refine wlIn_look rfl (.tmp 79) (.tmp 80) 134 false rfl 9 4 keyString mapT_met (.bool false) zeroBool rfl HMU.out (textP x.red) rfl ?_; rw [if_neg Bool.false_ne_true, HLK.out]))
      have HX := brX_of (HI.out.ext.trans HE3.out) (bX HE3.out d1.out) (bX HE3.out d2.out) (by rw [HM.out] at HR; exact HR.out)
      exact ⟨((ko_ext HE3.out).trans HX.2).from _, rfl, HX.1⟩
    have HM := hQq (marks_led HG.out HC.out.1 HC.out.2.1 HC.out.2.2.1 HC.out.2.2.2 HPE.out HNE.out hsn)
    have HLK : Hid ((Fm (textP x.red)).getD (.bool false) = .bool false) := hQq (by rw [HLK0, hsn])
    have HMA := hQq hma
    clear hsn HLK0 hmo hma
    gi_wp2_with (first
      | (refine ⟨trivial, ?_⟩; gi_at_call 115; refine (CallsIn.inRound l (callsIn_wide.2 (pathsPrint _ _ x.red (strs_ext HVR.out (eA _ _))))).mono ?_; rintro e V ⟨rfl, hb1⟩; have HE := hQq ((eA W _).trans hb1); have HXB : Hid (V.heap[W.heap.size]? = some (.cells #[.int .i64 x.dep, .string x.nm, .int .i64 x.kd, .slice a3 x.ats.length cap3, .string x.dat, .int .i64 x.ma, .int .i64 x.mi, .int .i64 x.cl, .bool false, .slice a4 x.red.length cap4] 41 (0, 0))) := hQq (bX hb1 (bN W _)); rw [HPS.out]; have y9 : V.cell? ⟨W.heap.size, 9, none⟩ = some (.slice a4 x.red.length cap4) := bC HXB.out 9; have y1 : V.cell? ⟨Bx, 1, none⟩ = some (.slice xa xn xc) := bC (bX HE.out HBX.out) 1; clear hb1)
      | (refine ⟨trivial, ?_⟩; gi_at_call 116; refine (CallsIn.inRound l (callsIn_wide.2 (slEqualS _ _ x.red (pathT (plT b) k) V (strs_ext HVR.out HE.out) (HXS.out.ext HE.out) (by have := HRL.out.1; omega)))).mono ?_; rintro e U ⟨rfl, hb2⟩; have HE3 := hQq (HE.out.trans hb2); rw [HQ.out]; have v3 : U.cell? ⟨w2.heap.size + 1, 0, none⟩ = some (.map (some w2.heap.size)) := bC (bX HE3.out d3.out) 0; have HX2 : Hid (U.heap[W.heap.size]? = some (.cells #[.int .i64 x.dep, .string x.nm, .int .i64 x.kd, .slice a3 x.ats.length cap3, .string x.dat, .int .i64 x.ma, .int .i64 x.mi, .int .i64 x.cl, .bool false, .slice a4 x.red.length cap4] 41 (0, 0))) := hQq (bX hb2 HXB.out); have HMU := hQq (HMA.out.ext HE3.out); clear hb2)
      | (gi_at_lookup; refine wlIn_look rfl (.tmp 79) (.tmp 80) 134 false rfl 9 4 keyString mapT_met (.bool false) zeroBool rfl HMU.out (textP x.red) rfl ?_; rw [if_neg Bool.false_ne_true, HLK.out])
      | (gi_at_mapUpdate; refine wlIn_store rfl (.tmp 83) (.tmp 84) (.const (.bool true)) 134 rfl 9 4 keyString mapT_met rfl HMU.out (textP x.red) (.bool true) rfl rfl ?_; intro U3 hm3 hg3; have HM3 := hQq hm3; have HG3 := hQq hg3; have y2 : U3.cell? ⟨W.heap.size, 2, none⟩ = some (.int .i64 x.kd) := bC (blk_grown hg3 HX2.out (fun e => by injection e with e; have := HBM.out; omega)) 2; clear hm3 hg3))
    have HGP : Hid (pathE (getB b k).red = 0) := hQq (by rw [HG.out]; exact HPE.out)
    obtain ⟨es3, cl3, hb3, _⟩ := HMU.out
    refine ⟨((ko_ext HE3.out).from _).trans (KeepsFrom.of_grownBy HG3.out (fun j e => by cases e; omega)), (Kc.of_ext HE3.out).trans ?_, ?_⟩
    · have h := kc_map hb3 HG3.out
      exact ⟨h.size, fun j cs e f _ => h.keep j cs e f (.inr (Nat.zero_le _))⟩
    · show BrI w W0 _ b (pre ++ [_]).length _
      rw [HPI.out]
      exact HI.out.led HM.out HGP.out (by have := HWS.out; omega) HE3.out HMU.out HMO.out HG3.out (by rw [HG.out]; exact HM3.out)
  case done =>
    intro D xs W hD hS hI hdf
    have d1 := hQq (hI.kc.keep _ _ _ _ (.inr (Nat.zero_le _)) (bX HE2.out e1.out))
    have d2 := hQq (hI.kc.keep _ _ _ _ (.inr (Nat.zero_le _)) (bX HE2.out e2.out))
    have HI := hQq hI
    have HS := hQq hS
    have HD := hQq hdf; have HDL := hQq hD
    have c1 : W.cell? ⟨w.heap.size + 1, 0, none⟩ = some (.int .i64 0) := bC d1.out 0
    have c2 : W.cell? ⟨w.heap.size + 1 + 1, 0, none⟩ = some (.int .i64 0) := bC d2.out 0
    have f1 : W.frozen? ⟨w.heap.size + 1, 0, none⟩ = false := by simp [World.frozen?, d1.out]
    have f2 : W.frozen? ⟨w.heap.size + 1 + 1, 0, none⟩ = false := by simp [World.frozen?, d2.out]
    clear hI hS hdf hD
    go_wp2
    obtain ⟨g1, g2, g3⟩ := stored2 HI.out.ext c1 c2 (.int .i64 0) (.int .i64 0)
    have hK' := (KeepsOthers.setCell (W.setCell ⟨w.heap.size + 1, 0, none⟩ (.int .i64 0)) ⟨w.heap.size + 1 + 1, 0, none⟩ (.int .i64 0)).same D _ ((KeepsOthers.setCell W ⟨w.heap.size + 1, 0, none⟩ (.int .i64 0)).same D _ HD.out rfl) rfl
    refine ⟨by simp, .inl ⟨_, _, rfl, run_takeDeferred hK', ?_⟩⟩
    have g4 := cell_kept g1 (grownBy_putObj' _ D (.deferred none)) (fun r e => by cases e; exact ⟨_, hK', rfl⟩)
    have g5 := cell_kept g2 (grownBy_putObj' _ D (.deferred none)) (fun r e => by cases e; exact ⟨_, hK', rfl⟩)
    have HR := br_of (brT_ok HT.out (by have h := HI.out.ok; rw [HS.out] at h; exact h))
    refine ⟨.tuple #[.int .i64 0, .int .i64 0], ?_, by rw [HR.1, HR.2], Below.trans g3 (below_put hK' (Nat.le_trans HE0.out.size HDL.out))⟩
    simp [results, Tryz.f49, go_sem, g4, g5]
  case stop =>
    rintro D c pre W hD _ ⟨rfl, hx⟩ hdf
    have HDL := hQq hD; have HX := hQq hx; have HD := hQq hdf
    clear hD hx hdf
    refine wpIn_wide.2 ?_
    go_wp2
    have g1 : W.cell? ⟨w.heap.size + 1, 0, none⟩ = some (.int .i64 (brNo b)) := bC HX.out.no 0
    have g2 : W.cell? ⟨w.heap.size + 1 + 1, 0, none⟩ = some (.int .i64 (brEr b)) := bC HX.out.er 0
    refine ⟨by simp, .inl ⟨_, _, rfl, run_takeDeferred HD.out, ?_⟩⟩
    have g4 := cell_kept g1 (grownBy_putObj' _ D (.deferred none)) (fun r e => by cases e; exact ⟨_, HD.out, rfl⟩)
    have g5 := cell_kept g2 (grownBy_putObj' _ D (.deferred none)) (fun r e => by cases e; exact ⟨_, HD.out, rfl⟩)
    refine ⟨.tuple #[.int .i64 (brNo b), .int .i64 (brEr b)], ?_, rfl, Below.trans HX.out.ext (below_put HD.out (Nat.le_trans HE0.out.size HDL.out))⟩
    simp [results, Tryz.f49, go_sem, g4, g5]
theorem brCheck (B : Nat) (w : World) (v : Value) (b : List BrN) (hb : BrIn B w v b) (hsm : SmallB b) :
    RetB Tryz.prog 49 #[v] w (.tuple #[.int .i64 (brNo b), .int .i64 (brEr b)]) := by
  by_cases h : treeE (plT b) = 0
  · exact brCheck1 B w v b hb hsm h
  · exact brCheck0 B w v b hb hsm h
end Go.Proofs.YtimpejaaeinplaaGreatDoor
