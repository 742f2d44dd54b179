/- branch.Check. -/
/- bsd.Encode. -/
/- limewashref24.Encode. -/
import Derived.Test.YtiliglpolcpnbaaGreatDoorQPthP
import Derived.Test.YtiliglpolcpnbaaGreatDoorQMapW
import Derived.Test.YtiliglpolcpnbaaGreatDoorQBsdW
namespace Go.Proofs.YtiliglpolcpnbaaGreatDoor
open Go.RowKit Go.Shelf
attribute [local go_sem] Oper.semAt_some

theorem keyString : KeyT Tryz.prog 9 kS := keyT_str (by kernel_rfl)
theorem mapT_met : Tryz.prog.underlying 115 = some (.map 9 4) := Tryz.underlying115
theorem zeroBool (w : World) : (zeroValue 4).run Tryz.prog w = .ok (.bool false) w := by kernel_rfl
/-- The world in which branch.Check's body begins. -/
def brW0 (w : World) (v : Value) : World := ((w.alloc (.cells #[v] 22 (0, 0))).alloc (.cells #[.int .i64 0] 3 (0, 0))).alloc (.cells #[.int .i64 0] 26 (0, 0))
theorem brW0_ext (w : World) (v : Value) : Ext w (brW0 w v) := ((ext_alloc _ _).trans (ext_alloc _ _)).trans (ext_alloc _ _)
theorem brW0_blk (w : World) (v : Value) : (brW0 w v).heap[w.heap.size]? = some (.cells #[v] 22 (0, 0)) ∧ (brW0 w v).heap[w.heap.size + 1]? = some (.cells #[.int .i64 0] 3 (0, 0)) ∧ (brW0 w v).heap[w.heap.size + 2]? = some (.cells #[.int .i64 0] 26 (0, 0)) ∧ (brW0 w v).heap.size = w.heap.size + 3 := by
  unfold brW0
  exact ⟨blk_alloc (blk_alloc (blk_new w _)), blk_alloc (blk_at (by simp)), blk_at (by simp), by simp⟩
set_option maxRecDepth 100000 in
set_option maxHeartbeats 8000000 in
theorem brCheck0 (B : Nat) (w : World) (v : Value) (b : List BrN) (hb : BrIn B w v b) (hsm : SmallB b) (ht : treeE (plT b) ≠ 0) :
    RetB Tryz.prog 42 #[v] w (.tuple #[.int .i64 (brNo b), .int .i64 (brEr b)]) := by
  unfold RetB
  obtain ⟨aa, cap, rfl⟩ := hb.form
  have HV := Lib.hid (hb.ext okB (brW0_ext w (.slice aa b.length cap))); clear hb
  have HSM := Lib.hid hsm
  have hlen := hsm.len
  clear hsm
  have HW := Lib.hid (brW0_ext w (.slice aa b.length cap))
  have HK := Lib.hid (brW0_blk w (.slice aa b.length cap))
  unfold brW0 at HV HW HK
  have HR := Lib.hid (br_of (brT_tree ht))
  have q1 : (treeE (plT b) != 0) = true := bne_iff_ne.2 ht
  clear ht
  go_enter Tryz.func42, Tryz.ntmps42
  go_wp2_with (first
    | (go_at_call 43; refine (brTree B _ _ b HV.out hlen HSM.out.ats).mono ?_; rintro e w1 ⟨⟨a5, cap5, rfl, ho⟩, hb1⟩; have HO1 := Lib.hid ho; have HB1 := Lib.hid hb1; clear ho hb1)
    | (go_at_call 54; refine (treeCheck _ _ (plT b) _ (HO1.out.in okT) HSM.out.tree).mono ?_; rintro e w2 ⟨rfl, hb2⟩; have HB2 := Lib.hid (Ext.trans HB1.out hb2); have e1 := Lib.hid (blk_ext HB2.out HK.out.2.1); have e2 := Lib.hid (blk_ext HB2.out HK.out.2.2.1); have c1 : w2.cell? ⟨w.heap.size + 1, 0, none⟩ = some (.int .i64 0) := blk_cell e1.out 0; have c2 : w2.cell? ⟨w.heap.size + 1 + 1, 0, none⟩ = some (.int .i64 0) := blk_cell e2.out 0; have f1 : w2.frozen? ⟨w.heap.size + 1, 0, none⟩ = false := (by simp [World.frozen?, e1.out]); have f2 : w2.frozen? ⟨w.heap.size + 1 + 1, 0, none⟩ = false := (by simp [World.frozen?, e2.out]); clear hb2))
  obtain ⟨d1, d2, d3⟩ := stored2 (HW.out.trans HB2.out) c1 c2 (.int .i64 (treeN (plT b))) (.int .i64 (treeE (plT b)))
  refine bodyPost_ret (v := .tuple #[.int .i64 (treeN (plT b)), .int .i64 (treeE (plT b))]) (by simp [results, Tryz.f42, go_sem, d1, d2]) rfl ?_
  exact ⟨by rw [HR.out.1, HR.out.2], d3⟩
/-- The k-th one of some values. -/
def nthV (M : List Value) (k : Nat) : Value := M.getD k undef
/-- The frame behind the assignment to the loop's variables. -/
def brAx (w : World) (bm : Nat) (b : List BrN) (x : PlI) (a : Act) (W : World) : Prop := ∃ (Bx : Nat) (M : List Value), W.heap[Bx]? = some (.cells #[.int .i64 (abv (plT b) x.i), .slice x.a x.n x.cap] 120 (0, 0)) ∧ a = { tmps := #[nthV M 0, .pointer (some ⟨w.heap.size, 0, none⟩), .pointer (some ⟨w.heap.size + 1, 0, none⟩), .pointer (some ⟨w.heap.size + 1 + 1, 0, none⟩), nthV M 4, nthV M 5, .pointer (some ⟨bm + 1, 0, none⟩), .int .i64 x.i, .pointer (some ⟨Bx, 0, none⟩), nthV M 9, nthV M 10, nthV M 11, nthV M 12, nthV M 13, nthV M 14, nthV M 15, nthV M 16, nthV M 17, nthV M 18, nthV M 19, nthV M 20, nthV M 21, nthV M 22, nthV M 23, nthV M 24, nthV M 25, nthV M 26, nthV M 27, nthV M 28, nthV M 29, nthV M 30, nthV M 31, nthV M 32, nthV M 33, nthV M 34, nthV M 35, nthV M 36, nthV M 37, nthV M 38, nthV M 39, nthV M 40, nthV M 41, nthV M 42, nthV M 43, nthV M 44, nthV M 45, nthV M 46, nthV M 47, nthV M 48, nthV M 49, nthV M 50, nthV M 51, nthV M 52, nthV M 53, nthV M 54, nthV M 55, nthV M 56, nthV M 57, nthV M 58, nthV M 59, nthV M 60, nthV M 61, nthV M 62, nthV M 63, nthV M 64, nthV M 65, nthV M 66, nthV M 67, nthV M 68, nthV M 69, nthV M 70, nthV M 71, nthV M 72, nthV M 73, nthV M 74, nthV M 75, nthV M 76, nthV M 77, nthV M 78, nthV M 79, nthV M 80, nthV M 81, nthV M 82, nthV M 83, nthV M 84, nthV M 85, nthV M 86, nthV M 87, nthV M 88, nthV M 89, nthV M 90, nthV M 91, nthV M 92, nthV M 93, nthV M 94, nthV M 95, nthV M 96], defers := [] }
theorem brAx_put (w : World) (bm : Nat) (b : List BrN) (x : PlI) (a : Act) (W : World) (l : Nat) (o o' : Obj) (h : W.heap[l]? = some o) (hc : o.isCells = false) (hx : brAx w bm b x a W) : brAx w bm b x a (W.putObj l o') := by
  obtain ⟨Bx, M, h1, h2⟩ := hx
  refine ⟨Bx, M, (World.putObj_heap_other ?_).trans h1, h2⟩
  rintro rfl; rw [h] at h1; cases h1; cases hc
set_option maxRecDepth 100000 in
set_option maxHeartbeats 16000000 in
theorem brCheck1 (B : Nat) (w : World) (v : Value) (b : List BrN) (hb : BrIn B w v b) (hsm : SmallB b) (ht : treeE (plT b) = 0) :
    RetB Tryz.prog 42 #[v] w (.tuple #[.int .i64 (brNo b), .int .i64 (brEr b)]) := by
  unfold RetB
  obtain ⟨aa, cap, rfl⟩ := hb.form
  have HVw := Lib.hid hb
  have HV := Lib.hid (hb.ext okB (brW0_ext w (.slice aa b.length cap))); clear hb
  have HSM := Lib.hid hsm
  have hlen := hsm.len
  clear hsm
  have HW := Lib.hid (brW0_ext w (.slice aa b.length cap))
  have HK := Lib.hid (brW0_blk w (.slice aa b.length cap))
  unfold brW0 at HV HW HK
  have HT := Lib.hid ht
  have HZ := Lib.hid (treeE_zero ht)
  have q1 : (treeE (plT b) != 0) = false := bne_eq_false_iff_eq.2 ht
  clear ht
  have hmm := @run_makeMap Tryz.prog
  refine (callsIn_wide (n := 8)).1 ?_
  refine callsIn_of_wp_marks Tryz.func42 rfl trivial ?_ rfl
  refine wpIn_wide.2 ?_
  simp only [Tryz.ntmps42, List.size_toArray, List.length_cons, List.length_nil, Nat.reduceAdd, Nat.reduceSub, Array.replicate_succ, Array.replicate_zero, List.push_toArray, List.append_toArray, List.nil_append, List.cons_append]
  go_wp2_with (first
    | (go_at_call 43; refine (brTree B _ _ b HV.out hlen HSM.out.ats).mono ?_; rintro e w1 ⟨⟨a5, cap5, rfl, ho⟩, hb1⟩; have HO1 := Lib.hid ho; have HB1 := Lib.hid hb1; clear ho hb1)
    | (go_at_call 54; refine (treeCheck _ _ (plT b) _ (HO1.out.in okT) HSM.out.tree).mono ?_; rintro e w2 ⟨rfl, hb2⟩; have HB2 := Lib.hid (Ext.trans HB1.out hb2); have e0 := Lib.hid (blk_ext HB2.out HK.out.1); have e1 := Lib.hid (blk_ext HB2.out HK.out.2.1); have e2 := Lib.hid (blk_ext HB2.out HK.out.2.2.1); have HS2 := Lib.hid (Nat.le_trans (Nat.le_of_eq HK.out.2.2.2.symm) HB2.out.size); have c0 : w2.cell? ⟨w.heap.size, 0, none⟩ = some (.slice aa b.length cap) := blk_cell e0.out 0; have hbl : w.heap.size < w2.heap.size := blk_lt e0.out; clear hb2)
    | (go_at_call 81; refine (brWalk _ _ _ _).mono ?_; rintro e w3 ⟨rfl, rfl⟩))
  refine name_world (P := fun W => Code.wp _ _ _ _ W) _ ?_
  intro W0 hW0
  have HS0 : Hid (W0.heap.size = w2.heap.size + 3) := Lib.hid (by rw [hW0]; simp)
  have HE0 : Hid (Ext w W0) := Lib.hid (by rw [hW0]; exact HW.out.trans (HB2.out.trans (((ext_alloc _ _).trans (ext_alloc _ _)).trans (ext_alloc _ _))))
  have HE2 : Hid (Ext w2 W0) := Lib.hid (by rw [hW0]; exact ((ext_alloc _ _).trans (ext_alloc _ _)).trans (ext_alloc _ _))
  have HM0 : Hid (MapAt kS W0 w2.heap.size 0 (fun _ => none)) := Lib.hid (by rw [hW0]; exact ((mapAt_made w2 kS).ext (ext_alloc _ _)).ext (ext_alloc _ _))
  have HM1 : Hid (W0.heap[w2.heap.size + 1]? = some (.cells #[.map (some w2.heap.size)] 115 (0, 0))) := Lib.hid (by rw [hW0]; exact blk_alloc (blk_at (by simp)))
  have HM2 : Hid (W0.cell? ⟨w2.heap.size + 1 + 1, 0, none⟩ = some (.slice aa b.length cap)) := Lib.hid (by rw [hW0]; exact blk_cell (blk_at (by simp)) 0)
  clear hW0 c0 hmm
  have hsz := HS0.out
  have HWS : Hid (w.heap.size + 3 ≤ w2.heap.size) := HS2
  refine (wpIn_wide (n := 8)).1 ?_
  refine wpIn_rangeH (w := W0) (w0 := W0) rfl (by omega) (gf := 111) (lb := #[.pointer (some ⟨w2.heap.size + 1 + 1, 0, none⟩)]) rfl trivial (enters_of Tryz.func111 (by kernel_rfl) rfl)
    (walk_seq 7 (by omega) B w W0 _ b (w2.heap.size + 1 + 1) HVw.out (Kc.of_ext HE0.out) HM2.out (by omega) hlen HZ.out.2.2.1) Kc.trans (fun W l o o' hl ho hc => Kc.put ho hc) (Below.refl _ _) (fun _ => rfl) okPl_put
    (fun pre W => BrI w W0 w2.heap.size b pre.length W) (fun c _ W => c = .ret ∧ BrX w b W)
    (fun s W W' h hx => h.ab (by omega) HE0.out.size hx) (fun c s W W' h hx => ⟨h.1, h.2.ab (by have := HWS.out; omega) hx⟩)
    ⟨fun j hj => absurd hj (by simp), ⟨_, _, HM0.out, met_zero b⟩, Kc.refl _ _ _, HE0.out⟩
    (brAx w w2.heap.size b) (brAx_put w w2.heap.size b) ?assign ?body ?done ?stop
  case assign =>
    intro l pre x W K hi hok hK
    unfold encPl
    gi_wp2
    exact hK _ _ (ext_alloc _ _) (Kc.of_ext (ext_alloc _ _)) ⟨W.heap.size, [_, undef, undef, undef, _, _, undef, undef, undef, _, _, _, _, _, _, _, _, _, _, _, _, _, _, _, _, _, _, _, _, _, _, _, _, _, _, _, _, _, _, _, _, _, _, _, _, _, _, _, _, _, _, _, _, _, _, _, _, _, _, _, _, _, _, _, _, _, _, _, _, _, _, _, _, _, _, _, _, _, _, _, _, _, _, _, _, _, _, _, _, _, _, _, _, _, _, _, _], blk_new W _, rfl⟩ ⟨hok.1, hok.2.ext okS (ext_alloc _ _)⟩
  case body =>
    rintro l pre x a2 W hI hlt hok ⟨Bx, M, hBx, rfl⟩
    obtain ⟨xi, xa, xn, xc⟩ := x
    obtain ⟨hxi, hxs⟩ := hok
    dsimp only at hxi hxs hBx ⊢
    subst hxi
    have HPI : Hid (∀ y : PlI, (pre ++ [y]).length = pre.length + 1) := Lib.hid (fun y => by simp)
    generalize pre.length = k at hI hlt hBx hxs HPI ⊢
    have HI := Lib.hid hI; have HXS := Lib.hid hxs; have HBX := Lib.hid hBx
    have d0 := Lib.hid (hI.kc.keep _ _ _ _ (.inr (Nat.zero_le _)) (blk_ext HE2.out e0.out))
    have d1 := Lib.hid (hI.kc.keep _ _ _ _ (.inr (Nat.zero_le _)) (blk_ext HE2.out e1.out))
    have d2 := Lib.hid (hI.kc.keep _ _ _ _ (.inr (Nat.zero_le _)) (blk_ext HE2.out e2.out))
    have d3 := Lib.hid (hI.kc.keep _ _ _ _ (.inr (Nat.zero_le _)) HM1.out)
    have HVI := Lib.hid (brIn_kc HVw.out ((Kc.of_ext HE0.out).trans hI.kc))
    have p0 : W.cell? ⟨w.heap.size, 0, none⟩ = some (.slice aa b.length cap) := blk_cell d0.out 0
    have p1 : W.cell? ⟨w.heap.size + 1, 0, none⟩ = some (.int .i64 0) := blk_cell d1.out 0
    have p2 : W.cell? ⟨w.heap.size + 1 + 1, 0, none⟩ = some (.int .i64 0) := blk_cell d2.out 0
    have p3 : W.cell? ⟨w2.heap.size + 1, 0, none⟩ = some (.map (some w2.heap.size)) := blk_cell d3.out 0
    have p4 : W.cell? ⟨Bx, 0, none⟩ = some (.int .i64 (abv (plT b) k)) := blk_cell hBx 0
    have p5 : W.cell? ⟨Bx, 1, none⟩ = some (.slice xa xn xc) := blk_cell hBx 1
    have f1 : W.frozen? ⟨w.heap.size + 1, 0, none⟩ = false := by simp [World.frozen?, d1.out]
    have f2 : W.frozen? ⟨w.heap.size + 1 + 1, 0, none⟩ = false := by simp [World.frozen?, d2.out]
    have z0 := blk_lt d0.out; have z1 := blk_lt d1.out; have z2 := blk_lt d2.out; have z3 := blk_lt d3.out; have z4 := blk_lt hBx
    obtain ⟨bb, off, va, vr, hex, hbb, hva, hvr, xx⟩ := HVI.out.br k hlt
    cases hex
    obtain ⟨c0, c1, c2, c3, c4, c5, c6, c7, c8, c9⟩ := xx
    obtain ⟨a4, cap4, rfl⟩ := hvr.form
    obtain ⟨a3, cap3, rfl⟩ := hva.form
    have HG := Lib.hid (getB_at b k hlt)
    have HVR := Lib.hid hvr
    have HRL := Lib.hid (HSM.out.red _ (List.getElem_mem hlt))
    generalize b[k]'hlt = x at c0 c1 c2 c3 c4 c5 c6 c7 c8 c9 HG HVR HRL
    have j1 : ((k : Nat) : Int) < (b.length : Int) := by omega
    have j0 : (0 : Int) ≤ (k : Int) := by omega
    clear hva hvr hI hBx hxs
    by_cases hled : 0 < x.red.length
    case neg =>
      have hled' := lenZ hled
      have HLE := Lib.hid hled
      by_cases hw : x.opq = true ∧ x.kd ≠ 1
      · have HR := Lib.hid (br_of (brT_mark HT.out hlt HI.out.ok (by rw [marks_kind HG.out (.inl ⟨.inl hw.1, hw.2⟩)]; decide)))
        have HM := Lib.hid (marks_kind HG.out (.inl ⟨.inl hw.1, hw.2⟩))
        have q1 : (x.kd != 1) = true := bne_iff_ne.2 hw.2
        rw [hw.1] at c8
        clear hw hled
        gi_wp2
        have HX := brX_of HI.out.ext d1.out d2.out (by rw [HM.out] at HR; exact HR.out)
        exact ⟨((HX.2).trans (KeepsOthers.alloc _ _)).from _, rfl, HX.1.alloc _⟩
      have HW' := Lib.hid hw
      have q1 : x.opq = true → (x.kd != 1) = false := fun h => bne_eq_false_iff_eq.2 (Decidable.not_not.1 (fun e => hw ⟨h, e⟩))
      have HMU := Lib.hid (marks_under HG.out hw hled)
      have HGL : Hid (¬ 0 < (getB b k).red.length) := Lib.hid (by rw [HG.out]; exact hled)
      by_cases hk5 : x.kd = 5
      case neg =>
        have q5 : (x.kd == 5) = false := beq_eq_false_iff_ne.2 hk5
        have HM : Hid (marksE b k = 0) := Lib.hid (by rw [HMU.out, if_neg]; unfold underB; rw [HG.out, q5]; simp)
        clear hk5 hw hled
        cases ho : x.opq
        · rw [ho] at c8
          clear q1
          by_cases hz : k = 0
          · have q0 : ((k : Int) == 0) = true := beq_iff_eq.2 (by omega)
            clear hz
            gi_wp2
            exact ⟨(KeepsOthers.alloc _ _).from _, Kc.of_ext (ext_alloc _ _), by show BrI w W0 _ b (pre ++ [_]).length _; rw [HPI.out]; exact HI.out.skip HM.out HGL.out (ext_alloc _ _)⟩
          · have q0 : ((k : Int) == 0) = false := beq_eq_false_iff_ne.2 (by omega)
            clear hz
            gi_wp2
            exact ⟨(KeepsOthers.alloc _ _).from _, Kc.of_ext (ext_alloc _ _), by show BrI w W0 _ b (pre ++ [_]).length _; rw [HPI.out]; exact HI.out.skip HM.out HGL.out (ext_alloc _ _)⟩
        · rw [ho] at c8
          have q2 := q1 ho
          clear q1
          by_cases hz : k = 0
          · have q0 : ((k : Int) == 0) = true := beq_iff_eq.2 (by omega)
            clear hz
            gi_wp2
            exact ⟨(KeepsOthers.alloc _ _).from _, Kc.of_ext (ext_alloc _ _), by show BrI w W0 _ b (pre ++ [_]).length _; rw [HPI.out]; exact HI.out.skip HM.out HGL.out (ext_alloc _ _)⟩
          · have q0 : ((k : Int) == 0) = false := beq_eq_false_iff_ne.2 (by omega)
            clear hz
            gi_wp2
            exact ⟨(KeepsOthers.alloc _ _).from _, Kc.of_ext (ext_alloc _ _), by show BrI w W0 _ b (pre ++ [_]).length _; rw [HPI.out]; exact HI.out.skip HM.out HGL.out (ext_alloc _ _)⟩
      have q5 : (x.kd == 5) = true := beq_iff_eq.2 hk5
      have ho : x.opq = false := by
        cases ho : x.opq with
        | false => rfl
        | true => exact absurd ⟨ho, by rw [hk5]; decide⟩ hw
      have hkn : k ≠ 0 := by
        rintro rfl
        obtain ⟨s0, _⟩ := node_parts (HZ.out.2.2.1 0 (by rw [plT_len]; exact hlt))
        have h1 := ((shape_bd s0).2.2.1 rfl).2
        rw [getT_plT b 0 hlt, HG.out] at h1
        have h1 : x.kd = 1 := h1
        rw [hk5] at h1; cases h1
      have hav := abv_bd (plT b) k
      have hag := abv_ge HZ.out.2.2.1 (i := k) (by rw [plT_len]; exact hlt) hkn
      have q0 : ((k : Int) == 0) = false := beq_eq_false_iff_ne.2 (by omega)
      rw [ho] at c8
      obtain ⟨m, hm⟩ : ∃ m : Nat, abv (plT b) k = m := ⟨(abv (plT b) k).toNat, by omega⟩
      have HUN := Lib.hid (show underB b k = (getB b m).opq from by unfold underB; rw [HG.out, q5, hm, Int.toNat_natCast, decide_eq_true (by omega)]; rfl)
      rw [hm] at p4
      have hmb : m < b.length := by omega
      obtain ⟨bm', off', vam, vrm, hexm, hbbm, _, _, _, _, _, _, _, _, _, _, m8, _⟩ := HVI.out.br m hmb
      cases hexm
      rw [← getB_at b m hmb] at m8
      have j2 : ((m : Nat) : Int) < (b.length : Int) := by omega
      have j3 : (0 : Int) ≤ (m : Int) := by omega
      clear hk5 hkn hav hag hm hw hled q1 ho
      cases hjo : (getB b m).opq
      · rw [hjo] at m8
        have HM : Hid (marksE b k = 0) := Lib.hid (by rw [HMU.out, HUN.out, hjo]; rfl)
        clear hjo
        gi_wp2
        exact ⟨(KeepsOthers.alloc _ _).from _, Kc.of_ext (ext_alloc _ _), by show BrI w W0 _ b (pre ++ [_]).length _; rw [HPI.out]; exact HI.out.skip HM.out HGL.out (ext_alloc _ _)⟩
      · rw [hjo] at m8
        have HM : Hid (marksE b k = 6) := Lib.hid (by rw [HMU.out, HUN.out, hjo]; rfl)
        have HR := Lib.hid (br_of (brT_mark HT.out hlt HI.out.ok (by rw [HM.out]; decide)))
        clear hjo
        gi_wp2
        have HX := brX_of HI.out.ext d1.out d2.out (by rw [HM.out] at HR; exact HR.out)
        exact ⟨((HX.2).trans (KeepsOthers.alloc _ _)).from _, rfl, HX.1.alloc _⟩
    have hled' := lenP hled
    by_cases hk1 : x.kd = 1
    case neg =>
      have HM := Lib.hid (marks_kind HG.out (.inl ⟨.inr hled, hk1⟩))
      have HR := Lib.hid (br_of (brT_mark HT.out hlt HI.out.ok (by rw [HM.out]; decide)))
      have q1 : (x.kd != 1) = true := bne_iff_ne.2 hk1
      clear hk1
      cases ho : x.opq
      all_goals
        rw [ho] at c8
        clear ho
        gi_wp2
        have HX := brX_of HI.out.ext d1.out d2.out (by rw [HM.out] at HR; exact HR.out)
        exact ⟨((HX.2).trans (KeepsOthers.alloc _ _)).from _, rfl, HX.1.alloc _⟩
    have q1 : (x.kd != 1) = false := bne_eq_false_iff_eq.2 hk1
    have q5 : (x.kd == 5) = false := by rw [hk1]; rfl
    by_cases hz : k = 0
    · have HM := Lib.hid (marks_kind HG.out (.inr ⟨hz, hled⟩))
      have HR := Lib.hid (br_of (brT_mark HT.out hlt HI.out.ok (by rw [HM.out]; decide)))
      have q0 : ((k : Int) == 0) = true := beq_iff_eq.2 (by omega)
      clear hk1 hz
      cases ho : x.opq
      all_goals
        rw [ho] at c8
        clear ho
        gi_wp2
        have HX := brX_of HI.out.ext d1.out d2.out (by rw [HM.out] at HR; exact HR.out)
        exact ⟨((HX.2).trans (KeepsOthers.alloc _ _)).from _, rfl, HX.1.alloc _⟩
    have q0 : ((k : Int) == 0) = false := beq_eq_false_iff_ne.2 (by omega)
    cases ho : x.opq
    case true =>
      have HM := Lib.hid (marks_both HG.out hk1 hz ho hled)
      have HR := Lib.hid (br_of (brT_mark HT.out hlt HI.out.ok (by rw [HM.out]; decide)))
      rw [ho] at c8
      clear hk1 hz ho
      gi_wp2
      have HX := brX_of HI.out.ext d1.out d2.out (by rw [HM.out] at HR; exact HR.out)
      exact ⟨((HX.2).trans (KeepsOthers.alloc _ _)).from _, rfl, HX.1.alloc _⟩
    have HC := Lib.hid (And.intro hk1 (And.intro hz (And.intro ho hled)))
    rw [ho] at c8
    clear hk1 hz ho
    have hln : 1 ≤ 8 - 1 - 1 := by omega
    by_cases hpe : pathE x.red = 0
    case neg =>
      have HM := Lib.hid (marks_path HG.out HC.out.1 HC.out.2.1 HC.out.2.2.1 HC.out.2.2.2 hpe)
      have HR := Lib.hid (br_of (brT_mark HT.out hlt HI.out.ok (by rw [HM.out]; exact hpe)))
      have q2 : (pathE x.red != 0) = true := bne_iff_ne.2 hpe
      clear hpe
      gi_wp2_with (refine ⟨trivial, ?_⟩; gi_at_call 82; refine (CallsIn.inRound l (callsIn_wide.2 (pathsPrint _ _ x.red (strs_ext HVR.out (ext_alloc _ _))))).mono ?_; rintro e V ⟨rfl, hb1⟩; have HE := Lib.hid ((ext_alloc W _).trans hb1); have v1 : V.cell? ⟨w.heap.size + 1, 0, none⟩ = some (.int .i64 0) := blk_cell (blk_ext HE.out d1.out) 0; have v2 : V.cell? ⟨w.heap.size + 1 + 1, 0, none⟩ = some (.int .i64 0) := blk_cell (blk_ext HE.out d2.out) 0; have g1 : V.frozen? ⟨w.heap.size + 1, 0, none⟩ = false := (by simp [World.frozen?, blk_ext HE.out d1.out]); have g2 : V.frozen? ⟨w.heap.size + 1 + 1, 0, none⟩ = false := (by simp [World.frozen?, blk_ext HE.out d2.out]); clear hb1)
      have HX := brX_of (HI.out.ext.trans HE.out) (blk_ext HE.out d1.out) (blk_ext HE.out d2.out) (by rw [HM.out] at HR; exact HR.out)
      exact ⟨((ko_ext HE.out).trans HX.2).from _, rfl, HX.1⟩
    have q2 : (pathE x.red != 0) = false := bne_eq_false_iff_eq.2 hpe
    have HPE := Lib.hid hpe
    have HPS : Hid (prS x.red = textP x.red) := Lib.hid (if_pos hpe)
    have HXS := Lib.hid HXS.out.strs
    clear hpe
    by_cases heq : x.red = pathT (plT b) k
    · have HM := Lib.hid (marks_self HG.out HC.out.1 HC.out.2.1 HC.out.2.2.1 HC.out.2.2.2 HPE.out heq)
      have HR := Lib.hid (br_of (brT_mark HT.out hlt HI.out.ok (by rw [HM.out]; decide)))
      have HQ := Lib.hid (decide_eq_true heq)
      clear heq
      gi_wp2_with (first
        | (refine ⟨trivial, ?_⟩; gi_at_call 82; refine (CallsIn.inRound l (callsIn_wide.2 (pathsPrint _ _ x.red (strs_ext HVR.out (ext_alloc _ _))))).mono ?_; rintro e V ⟨rfl, hb1⟩; have HE := Lib.hid ((ext_alloc W _).trans hb1); have HXB : Hid (V.heap[W.heap.size]? = some (.cells #[.int .i64 x.dep, .string x.nm, .int .i64 x.kd, .slice a3 x.ats.length cap3, .string x.dat, .int .i64 x.ma, .int .i64 x.mi, .int .i64 x.cl, .bool false, .slice a4 x.red.length cap4] 41 (0, 0))) := Lib.hid (blk_ext hb1 (blk_new W _)); rw [HPS.out]; have y9 : V.cell? ⟨W.heap.size, 9, none⟩ = some (.slice a4 x.red.length cap4) := blk_cell HXB.out 9; have y1 : V.cell? ⟨Bx, 1, none⟩ = some (.slice xa xn xc) := blk_cell (blk_ext HE.out HBX.out) 1; clear hb1)
        | (refine ⟨trivial, ?_⟩; gi_at_call 83; refine (CallsIn.inRound l (callsIn_wide.2 (slEqualS _ _ x.red (pathT (plT b) k) V (strs_ext HVR.out HE.out) (HXS.out.ext HE.out) (by have := HRL.out.1; omega)))).mono ?_; rintro e U ⟨rfl, hb2⟩; have HE3 := Lib.hid (HE.out.trans hb2); rw [HQ.out]; have v1 : U.cell? ⟨w.heap.size + 1, 0, none⟩ = some (.int .i64 0) := blk_cell (blk_ext HE3.out d1.out) 0; have v2 : U.cell? ⟨w.heap.size + 1 + 1, 0, none⟩ = some (.int .i64 0) := blk_cell (blk_ext HE3.out d2.out) 0; have g1 : U.frozen? ⟨w.heap.size + 1, 0, none⟩ = false := (by simp [World.frozen?, blk_ext HE3.out d1.out]); have g2 : U.frozen? ⟨w.heap.size + 1 + 1, 0, none⟩ = false := (by simp [World.frozen?, blk_ext HE3.out d2.out]); clear hb2))
      have HX := brX_of (HI.out.ext.trans HE3.out) (blk_ext HE3.out d1.out) (blk_ext HE3.out d2.out) (by rw [HM.out] at HR; exact HR.out)
      exact ⟨((ko_ext HE3.out).trans HX.2).from _, rfl, HX.1⟩
    have HNE := Lib.hid heq
    have HQ := Lib.hid (decide_eq_false heq)
    clear heq
    obtain ⟨nm, Fm, hma, hmo⟩ := HI.out.met
    have HMO := Lib.hid hmo
    have HBM : Hid (w2.heap.size < W.heap.size) := Lib.hid (by have := HI.out.kc.size; omega)
    have HLK0 := met_look hmo HPE.out HC.out.2.2.2
    cases hsn : seenR b x.red k
    case true =>
      have HM := Lib.hid (marks_seen HG.out HC.out.1 HC.out.2.1 HC.out.2.2.1 HC.out.2.2.2 HPE.out HNE.out hsn)
      have HR := Lib.hid (br_of (brT_mark HT.out hlt HI.out.ok (by rw [HM.out]; decide)))
      have HLK : Hid ((Fm (textP x.red)).getD (.bool false) = .bool true) := Lib.hid (by rw [HLK0, hsn])
      have HMA := Lib.hid hma
      clear hsn HLK0 hmo hma
      gi_wp2_with (first
        | (refine ⟨trivial, ?_⟩; gi_at_call 82; refine (CallsIn.inRound l (callsIn_wide.2 (pathsPrint _ _ x.red (strs_ext HVR.out (ext_alloc _ _))))).mono ?_; rintro e V ⟨rfl, hb1⟩; have HE := Lib.hid ((ext_alloc W _).trans hb1); have HXB : Hid (V.heap[W.heap.size]? = some (.cells #[.int .i64 x.dep, .string x.nm, .int .i64 x.kd, .slice a3 x.ats.length cap3, .string x.dat, .int .i64 x.ma, .int .i64 x.mi, .int .i64 x.cl, .bool false, .slice a4 x.red.length cap4] 41 (0, 0))) := Lib.hid (blk_ext hb1 (blk_new W _)); rw [HPS.out]; have y9 : V.cell? ⟨W.heap.size, 9, none⟩ = some (.slice a4 x.red.length cap4) := blk_cell HXB.out 9; have y1 : V.cell? ⟨Bx, 1, none⟩ = some (.slice xa xn xc) := blk_cell (blk_ext HE.out HBX.out) 1; clear hb1)
        | (refine ⟨trivial, ?_⟩; gi_at_call 83; refine (CallsIn.inRound l (callsIn_wide.2 (slEqualS _ _ x.red (pathT (plT b) k) V (strs_ext HVR.out HE.out) (HXS.out.ext HE.out) (by have := HRL.out.1; omega)))).mono ?_; rintro e U ⟨rfl, hb2⟩; have HE3 := Lib.hid (HE.out.trans hb2); rw [HQ.out]; have v1 : U.cell? ⟨w.heap.size + 1, 0, none⟩ = some (.int .i64 0) := blk_cell (blk_ext HE3.out d1.out) 0; have v2 : U.cell? ⟨w.heap.size + 1 + 1, 0, none⟩ = some (.int .i64 0) := blk_cell (blk_ext HE3.out d2.out) 0; have g1 : U.frozen? ⟨w.heap.size + 1, 0, none⟩ = false := (by simp [World.frozen?, blk_ext HE3.out d1.out]); have g2 : U.frozen? ⟨w.heap.size + 1 + 1, 0, none⟩ = false := (by simp [World.frozen?, blk_ext HE3.out d2.out]); have v3 : U.cell? ⟨w2.heap.size + 1, 0, none⟩ = some (.map (some w2.heap.size)) := blk_cell (blk_ext HE3.out d3.out) 0; have HX2 : Hid (U.heap[W.heap.size]? = some (.cells #[.int .i64 x.dep, .string x.nm, .int .i64 x.kd, .slice a3 x.ats.length cap3, .string x.dat, .int .i64 x.ma, .int .i64 x.mi, .int .i64 x.cl, .bool false, .slice a4 x.red.length cap4] 41 (0, 0))) := Lib.hid (blk_ext hb2 HXB.out); have HMU := Lib.hid (HMA.out.ext HE3.out); clear hb2)
        | (gi_at_lookup; refine wlIn_look rfl (.tmp 79) (.tmp 80) 115 false rfl 9 4 keyString mapT_met (.bool false) zeroBool rfl HMU.out (textP x.red) rfl ?_; rw [if_neg Bool.false_ne_true, HLK.out]))
      have HX := brX_of (HI.out.ext.trans HE3.out) (blk_ext HE3.out d1.out) (blk_ext HE3.out d2.out) (by rw [HM.out] at HR; exact HR.out)
      exact ⟨((ko_ext HE3.out).trans HX.2).from _, rfl, HX.1⟩
    have HM := Lib.hid (marks_led HG.out HC.out.1 HC.out.2.1 HC.out.2.2.1 HC.out.2.2.2 HPE.out HNE.out hsn)
    have HLK : Hid ((Fm (textP x.red)).getD (.bool false) = .bool false) := Lib.hid (by rw [HLK0, hsn])
    have HMA := Lib.hid hma
    clear hsn HLK0 hmo hma
    gi_wp2_with (first
      | (refine ⟨trivial, ?_⟩; gi_at_call 82; refine (CallsIn.inRound l (callsIn_wide.2 (pathsPrint _ _ x.red (strs_ext HVR.out (ext_alloc _ _))))).mono ?_; rintro e V ⟨rfl, hb1⟩; have HE := Lib.hid ((ext_alloc W _).trans hb1); have HXB : Hid (V.heap[W.heap.size]? = some (.cells #[.int .i64 x.dep, .string x.nm, .int .i64 x.kd, .slice a3 x.ats.length cap3, .string x.dat, .int .i64 x.ma, .int .i64 x.mi, .int .i64 x.cl, .bool false, .slice a4 x.red.length cap4] 41 (0, 0))) := Lib.hid (blk_ext hb1 (blk_new W _)); rw [HPS.out]; have y9 : V.cell? ⟨W.heap.size, 9, none⟩ = some (.slice a4 x.red.length cap4) := blk_cell HXB.out 9; have y1 : V.cell? ⟨Bx, 1, none⟩ = some (.slice xa xn xc) := blk_cell (blk_ext HE.out HBX.out) 1; clear hb1)
      | (refine ⟨trivial, ?_⟩; gi_at_call 83; refine (CallsIn.inRound l (callsIn_wide.2 (slEqualS _ _ x.red (pathT (plT b) k) V (strs_ext HVR.out HE.out) (HXS.out.ext HE.out) (by have := HRL.out.1; omega)))).mono ?_; rintro e U ⟨rfl, hb2⟩; have HE3 := Lib.hid (HE.out.trans hb2); rw [HQ.out]; have v3 : U.cell? ⟨w2.heap.size + 1, 0, none⟩ = some (.map (some w2.heap.size)) := blk_cell (blk_ext HE3.out d3.out) 0; have HX2 : Hid (U.heap[W.heap.size]? = some (.cells #[.int .i64 x.dep, .string x.nm, .int .i64 x.kd, .slice a3 x.ats.length cap3, .string x.dat, .int .i64 x.ma, .int .i64 x.mi, .int .i64 x.cl, .bool false, .slice a4 x.red.length cap4] 41 (0, 0))) := Lib.hid (blk_ext hb2 HXB.out); have HMU := Lib.hid (HMA.out.ext HE3.out); clear hb2)
      | (gi_at_lookup; refine wlIn_look rfl (.tmp 79) (.tmp 80) 115 false rfl 9 4 keyString mapT_met (.bool false) zeroBool rfl HMU.out (textP x.red) rfl ?_; rw [if_neg Bool.false_ne_true, HLK.out])
      | (gi_at_mapUpdate; refine wlIn_store rfl (.tmp 83) (.tmp 84) (.const (.bool true)) 115 rfl 9 4 keyString mapT_met rfl HMU.out (textP x.red) (.bool true) rfl rfl ?_; intro U3 hm3 hg3; have HM3 := Lib.hid hm3; have HG3 := Lib.hid hg3; have y2 : U3.cell? ⟨W.heap.size, 2, none⟩ = some (.int .i64 x.kd) := blk_cell (blk_grown hg3 HX2.out (fun e => by injection e with e; have := HBM.out; omega)) 2; clear hm3 hg3))
    have HGP : Hid (pathE (getB b k).red = 0) := Lib.hid (by rw [HG.out]; exact HPE.out)
    obtain ⟨es3, cl3, hb3, _⟩ := HMU.out
    refine ⟨((ko_ext HE3.out).from _).trans (KeepsFrom.of_grownBy HG3.out (fun j e => by cases e; omega)), (Kc.of_ext HE3.out).trans ?_, ?_⟩
    · have h := kc_map hb3 HG3.out
      exact ⟨h.size, fun j cs e f _ => h.keep j cs e f (.inr (Nat.zero_le _))⟩
    · show BrI w W0 _ b (pre ++ [_]).length _
      rw [HPI.out]
      exact HI.out.led HM.out HGP.out (by have := HWS.out; omega) HE3.out HMU.out HMO.out HG3.out (by rw [HG.out]; exact HM3.out)
  case done =>
    intro D xs W hD hS hI hdf
    have d1 := Lib.hid (hI.kc.keep _ _ _ _ (.inr (Nat.zero_le _)) (blk_ext HE2.out e1.out))
    have d2 := Lib.hid (hI.kc.keep _ _ _ _ (.inr (Nat.zero_le _)) (blk_ext HE2.out e2.out))
    have HI := Lib.hid hI
    have HS := Lib.hid hS
    have HD := Lib.hid hdf; have HDL := Lib.hid hD
    have c1 : W.cell? ⟨w.heap.size + 1, 0, none⟩ = some (.int .i64 0) := blk_cell d1.out 0
    have c2 : W.cell? ⟨w.heap.size + 1 + 1, 0, none⟩ = some (.int .i64 0) := blk_cell d2.out 0
    have f1 : W.frozen? ⟨w.heap.size + 1, 0, none⟩ = false := by simp [World.frozen?, d1.out]
    have f2 : W.frozen? ⟨w.heap.size + 1 + 1, 0, none⟩ = false := by simp [World.frozen?, d2.out]
    clear hI hS hdf hD
    go_wp2
    obtain ⟨g1, g2, g3⟩ := stored2 HI.out.ext c1 c2 (.int .i64 0) (.int .i64 0)
    have hK' := (KeepsOthers.setCell (W.setCell ⟨w.heap.size + 1, 0, none⟩ (.int .i64 0)) ⟨w.heap.size + 1 + 1, 0, none⟩ (.int .i64 0)).same D _ ((KeepsOthers.setCell W ⟨w.heap.size + 1, 0, none⟩ (.int .i64 0)).same D _ HD.out rfl) rfl
    refine ⟨by simp, .inl ⟨_, _, rfl, run_takeDeferred hK', ?_⟩⟩
    have g4 := cell_kept g1 (grownBy_putObj' _ D (.deferred none)) (fun r e => by cases e; exact ⟨_, hK', rfl⟩)
    have g5 := cell_kept g2 (grownBy_putObj' _ D (.deferred none)) (fun r e => by cases e; exact ⟨_, hK', rfl⟩)
    have HR := br_of (brT_ok HT.out (by have h := HI.out.ok; rw [HS.out] at h; exact h))
    refine ⟨.tuple #[.int .i64 0, .int .i64 0], ?_, by rw [HR.1, HR.2], Below.trans g3 (below_put hK' (Nat.le_trans HE0.out.size HDL.out))⟩
    simp [results, Tryz.f42, go_sem, g4, g5]
  case stop =>
    rintro D c pre W hD _ ⟨rfl, hx⟩ hdf
    have HDL := Lib.hid hD; have HX := Lib.hid hx; have HD := Lib.hid hdf
    clear hD hx hdf
    refine wpIn_wide.2 ?_
    go_wp2
    have g1 : W.cell? ⟨w.heap.size + 1, 0, none⟩ = some (.int .i64 (brNo b)) := blk_cell HX.out.no 0
    have g2 : W.cell? ⟨w.heap.size + 1 + 1, 0, none⟩ = some (.int .i64 (brEr b)) := blk_cell HX.out.er 0
    refine ⟨by simp, .inl ⟨_, _, rfl, run_takeDeferred HD.out, ?_⟩⟩
    have g4 := cell_kept g1 (grownBy_putObj' _ D (.deferred none)) (fun r e => by cases e; exact ⟨_, HD.out, rfl⟩)
    have g5 := cell_kept g2 (grownBy_putObj' _ D (.deferred none)) (fun r e => by cases e; exact ⟨_, HD.out, rfl⟩)
    refine ⟨.tuple #[.int .i64 (brNo b), .int .i64 (brEr b)], ?_, rfl, Below.trans HX.out.ext (below_put HD.out (Nat.le_trans HE0.out.size HDL.out))⟩
    simp [results, Tryz.f42, go_sem, g4, g5]
theorem brCheck (B : Nat) (w : World) (v : Value) (b : List BrN) (hb : BrIn B w v b) (hsm : SmallB b) :
    RetB Tryz.prog 42 #[v] w (.tuple #[.int .i64 (brNo b), .int .i64 (brEr b)]) := by
  by_cases h : treeE (plT b) = 0
  · exact brCheck1 B w v b hb hsm h
  · exact brCheck0 B w v b hb hsm h
end Go.Proofs.YtiliglpolcpnbaaGreatDoor

namespace Go.Proofs.YtiliglpolcpnbaaGreatDoor
open Go.RowKit

section
variable {α β : Type} (f g : α → β) (l : List α)
/-- The first elements by one function, the others by another one. -/
def mixM (k : Nat) : List β := (l.take k).map f ++ (l.drop k).map g
theorem mix_zero : mixM f g l 0 = l.map g := by simp [mixM]
theorem mix_len (k : Nat) : (mixM f g l k).length = l.length := by unfold mixM; simp; omega
theorem mix_end : mixM f g l l.length = l.map f := by simp [mixM]
theorem mix_get (k : Nat) (h : k < l.length) (h' : k < (mixM f g l k).length) : (mixM f g l k)[k]'h' = g (l[k]'h) := by
  apply Option.some_inj.1
  rw [← List.getElem?_eq_getElem]
  unfold mixM
  rw [List.getElem?_append_right (by simp; omega)]
  simp [Nat.min_eq_left (Nat.le_of_lt h), h]
theorem mix_set (k : Nat) (h : k < l.length) : (mixM f g l k).set k (f (l[k]'h)) = mixM f g l (k + 1) := by
  unfold mixM
  rw [List.set_append_right _ _ (by simp; omega), List.take_succ_eq_append_getElem h, List.map_append, List.append_assoc, List.drop_eq_getElem_cons h]
  simp only [List.length_map, List.length_take, Nat.min_eq_left (Nat.le_of_lt h), Nat.sub_self, List.map_cons, List.set_cons_zero, List.map_nil, List.singleton_append]
end
theorem small_br {b : List BrN} (h : brEr b = 0) {k : Nat} (hk : k < b.length) : Small (b[k]'hk).ats := by
  have hz := treeE_zero (brEr_zero h).1
  obtain ⟨_, _, _, hc, _⟩ := node_parts (hz.2.2.1 k (by rw [plT_len]; exact hk))
  rw [getT_plT b k hk, getB_at b k hk] at hc
  intro a ha
  have := size_of_chk hc a ha
  omega
theorem attT_in {B : Nat} {w : World} {v : Value} {l : List Attr} (h : AttT w v l) : AttIn B w v l := attIn_of h.1 fun _ b hb => .inr (h.2 b hb)
end Go.Proofs.YtiliglpolcpnbaaGreatDoor

namespace Go.Proofs.YtiliglpolcpnbaaGreatDoor
open Go.RowKit
end Go.Proofs.YtiliglpolcpnbaaGreatDoor
