/- OvG OvHO OvHM OvHF OvGE OvHE LeftO -/
import Derived.Test.YtimpejaaeinplaaGreatDoorJI6
import Derived.Test.YtimpejaaeinplaaGreatDoorJbDirN
import Derived.Test.YtimpejaaeinplaaGreatDoorJdOvAs
import Derived.Test.YtimpejaaeinplaaGreatDoorJaLeftO
import Derived.Test.YtimpejaaeinplaaGreatDoorJdOvT
namespace Go.Proofs.YtimpejaaeinplaaGreatDoor
open Go.RowKit
def FltP (w : World) (d : DiN) (n er : Int) (e : Ending) (w' : World) : Prop :=
 (∃ a0 n0 c0 o a1 n1 c1 a2 n2 c2 ev, e = .returned (.tuple #[.agg #[.slice a0 n0 c0, .bool o, .slice a1 n1 c1, .slice a2 n2 c2], ev]) /\
  ((er = 0 /\ ev = .nilIface /\ DirIn w.heap.size w' (.agg #[.slice a0 n0 c0, .bool o, .slice a1 n1 c1, .slice a2 n2 c2]) d) \/ (er ≠ 0 /\ ev = fltV n er))) /\ Ext w w'
theorem oc_no {d : DiN} (h : ocE d = 0) : ocN d = 0 := by rw [(oc_of (oc_zero h).2.2.2).2.1]
theorem oc_err {d : DiN} (h : ocE d ≠ 0) : ocD d = zDiN := by
 by_cases h1 : dirE d = 0
 case neg => exact (oc_of (ocT_dir h1)).1
 by_cases h2 : mwE 1 d.ats (ovM d.opq d.red 1) = 0
 case neg => exact (oc_of (ocT_ats h1 h2)).1
 by_cases h3 : (gnT weE d.ens).2 = 0
 case neg => exact (oc_of (ocT_ent h1 h2 (n := (gnT weE d.ens).1) (e := (gnT weE d.ens).2) rfl h3)).1
 exact absurd (oc_of (ocT_ok h1 h2 h3)).2.2 h
def ebF (g : Nat) (va : Value) (n : Int) (mk : Value) (e : Int) (l : List Attr) : Nat -> Value -> World -> Prop
 | 0, v, _ => v = .pointer (some ⟨g, 1, none⟩)
 | 1, v, _ => v = .pointer (some ⟨g, 4, none⟩)
 | 2, v, _ => v = va
 | 3, v, _ => v = .pointer (some ⟨g, 11, none⟩)
 | 4, v, _ => v = .int .i64 n
 | 5, v, _ => v = mk
 | 6, v, w => ∃ a c, v = .tuple #[.slice a l.length c, .int .i64 e] /\ AttT w (.slice a l.length c) l /\ ∃ cs, w.heap[g]? = some (.cells cs 98 (0, 0))
 | 7, v, w => ∃ a c, v = .tuple #[.slice a l.length c, .int .i64 e] /\ AttT w (.slice a l.length c) l /\ ∃ cs, w.heap[g]? = some (.cells cs 98 (0, 0))
 | 8, v, w => ∃ a c, v = .slice a l.length c /\ AttT w (.slice a l.length c) l /\ ∃ cs, w.heap[g]? = some (.cells cs 98 (0, 0))
 | 9, v, _ => v = .int .i64 e
 | 10, v, _ => v = .pointer (some ⟨g, 1, none⟩)
 | 11, v, _ => v = .pointer (some ⟨g, 4, none⟩)
 | 13, v, _ => v = .int .i64 e
 | _, _, _ => True
theorem ebF_mono {g : Nat} {va : Value} {n : Int} {mk : Value} {e : Int} {l : List Attr} : ∀ (i : Nat) (v : Value) (w w' : World), ebF g va n mk e l i v w -> RbE g w w' -> ebF g va n mk e l i v w' := by
 intro i v w w' h he
 match i, h with
 | 0, h => exact h
 | 1, h => exact h
 | 2, h => exact h
 | 3, h => exact h
 | 4, h => exact h
 | 5, h => exact h
 | 6, ⟨a, c, h, h2, cs, h3⟩ => exact ⟨a, c, h, attT_keep h2 he.keep he.below.size h3 (by decide), he.typed ⟨cs, h3⟩⟩
 | 7, ⟨a, c, h, h2, cs, h3⟩ => exact ⟨a, c, h, attT_keep h2 he.keep he.below.size h3 (by decide), he.typed ⟨cs, h3⟩⟩
 | 8, ⟨a, c, h, h2, cs, h3⟩ => exact ⟨a, c, h, attT_keep h2 he.keep he.below.size h3 (by decide), he.typed ⟨cs, h3⟩⟩
 | 9, h => exact h
 | 10, h => exact h
 | 11, h => exact h
 | 12, _ => trivial
 | 13, h => exact h
 | i + 14, _ => trivial
theorem put4a {w w1 W2 : World} {b : Nat} {o : Obj} {t : TypeId} {x0 x1 x2 x3 y0 y1 y2 y3 : Value} (hq : w1.heap[b]? = some (.cells #[x0, x1, x2, x3] t (0, 0))) (hb : w.heap.size <= b) (he : Ext w w1) (hW : W2 = (setL w1 b 0 [y0, y1, y2, y3]).alloc o) :
  W2.heap[b]? = some (.cells #[y0, y1, y2, y3] t (0, 0)) /\ Ext w W2 := by
 obtain ⟨h1, h2, _⟩ := set4 (y0 := y0) (y1 := y1) (y2 := y2) (y3 := y3) hq hb he rfl
 subst hW
 exact ⟨bA h1, h2.trans (eA _ _)⟩
theorem red_len {d : DiN} (h : dirE d = 0) : d.red.length <= 1000 := by
 have := (pathE_zero (dirE_zero h).2.2.2.1).1
 omega
theorem flt_err {w w' : World} {d : DiN} {n er : Int} {ev v : Value} (h : (er = 0 /\ ev = .nilIface /\ DirIn w.heap.size w' v d) \/ (er ≠ 0 /\ ev = fltV n er)) (he : er ≠ 0) : ev = fltV n er := by
 rcases h with h | h
 ·exact absurd h.1 he
 ·exact h.2
theorem flt_ok {w w' : World} {d : DiN} {n er : Int} {ev v : Value} (h : (er = 0 /\ ev = .nilIface /\ DirIn w.heap.size w' v d) \/ (er ≠ 0 /\ ev = fltV n er)) (he : er = 0) : ev = .nilIface /\ DirIn w.heap.size w' v d := by
 rcases h with h | h
 ·exact h.2
 ·exact absurd he h.1
theorem dr_zero {d : DiN} (h : drE d = 0) : drN d = 0 /\ dirE d = 0 /\ drD d = ⟨ptsP 1 d.ats, turnO (ptsO 1 d.ats), turnR (ptsO 1 d.ats), d.ens.map rdX⟩ := by
 by_cases h1 : dirE d = 0
 case neg => rw [(dr_of (drT_dir h1)).2.2] at h; exact absurd h h1
 by_cases h2 : d.opq = true \/ 0 < d.red.length
 case pos => rw [(dr_of (drT_mark h1 h2)).2.2] at h; cases h
 by_cases h3 : ptsE 1 d.ats = 0
 case neg => rw [(dr_of (drT_pts h1 h2 h3)).2.2] at h; exact absurd h h3
 cases h4 : isM (ptsO 1 d.ats) nlW with
 | true => rw [(dr_of (drT_link h1 h2 h3 h4)).2.2] at h; cases h
 | false =>
  by_cases h5 : turnE (ptsO 1 d.ats) ≠ 0 \/ (turnO (ptsO 1 d.ats) = true /\ 0 < (turnR (ptsO 1 d.ats)).length)
  case pos => rw [(dr_of (drT_turn h1 h2 h3 h4 h5)).2.2] at h; cases h
  by_cases h6 : (gnT (rdE (turnO (ptsO 1 d.ats))) d.ens).2 = 0
  case neg => rw [(dr_of (drT_ent h1 h2 h3 h4 h5 (n := (gnT (rdE (turnO (ptsO 1 d.ats))) d.ens).1) (e := (gnT (rdE (turnO (ptsO 1 d.ats))) d.ens).2) rfl h6)).2.2] at h; exact absurd h h6
  have := dr_of (drT_ok h1 h2 h3 h4 h5 h6)
  exact ⟨this.2.1, h1, this.1⟩
theorem dr_err {d : DiN} (h : drE d ≠ 0) : drD d = zDiN := by
 by_cases h1 : dirE d = 0
 case neg => exact (dr_of (drT_dir h1)).1
 by_cases h2 : d.opq = true \/ 0 < d.red.length
 case pos => exact (dr_of (drT_mark h1 h2)).1
 by_cases h3 : ptsE 1 d.ats = 0
 case neg => exact (dr_of (drT_pts h1 h2 h3)).1
 cases h4 : isM (ptsO 1 d.ats) nlW with
 | true => exact (dr_of (drT_link h1 h2 h3 h4)).1
 | false =>
  by_cases h5 : turnE (ptsO 1 d.ats) ≠ 0 \/ (turnO (ptsO 1 d.ats) = true /\ 0 < (turnR (ptsO 1 d.ats)).length)
  case pos => exact (dr_of (drT_turn h1 h2 h3 h4 h5)).1
  by_cases h6 : (gnT (rdE (turnO (ptsO 1 d.ats))) d.ens).2 = 0
  case neg => exact (dr_of (drT_ent h1 h2 h3 h4 h5 (n := (gnT (rdE (turnO (ptsO 1 d.ats))) d.ens).1) (e := (gnT (rdE (turnO (ptsO 1 d.ats))) d.ens).2) rfl h6)).1
  exact absurd (dr_of (drT_ok h1 h2 h3 h4 h5 h6)).2.2 h
set_option maxRecDepth 100000 in
set_option maxHeartbeats 8000000 in
theorem ovOwn (v : Value) (l : List Attr) (n : Int) (w : World) (hL : LaidO w) (hv : aA w v l) (hm : Small l) (hn : n <= 9223372036854775807) :
  Calls Tryz.prog 162 #[v, .int .i64 n] w fun e w' => (∃ a k c, e = .returned (.tuple #[.slice a k c, .int .i64 (owE l n)]) /\ (owE l n = 0 -> AttT w' (.slice a k c) (ptsP 1 l))) /\ Ext w w' := by
 have HL := hQq hL; have HV := hQq hv; have HM := hQq hm; have HN := hQq hn
 clear hL hv hm hn
 by_cases h1 : ptsE 1 l = 0
 case neg =>
  have HW := hQq (ow_pts (n := n) h1)
  have H1 := hQq h1
  have q1 : (ptsE 1 l != 0) = true := bne_iff_ne.2 h1
  clear h1
  go_enter Tryz.func162, Tryz.ntmps162
  go_wp2_with (go_at_call 160; refine (ovRead _ l _ HL.out HV.out HM.out).mono ?_; rintro e w1 ⟨⟨v1, bm, n1, rfl, ho, hmp, hbm⟩, hx⟩; obtain ⟨a1, c1, rfl, -, -⟩ := ho.1; have HO := hQq ho; have HX := hQq hx; have HMP := hQq (hmp.ext (eA w1 (.cells #[.string (valM (ptsO 1 l) opqW), .string (valM (ptsO 1 l) reW), .string (valM (ptsO 1 l) nlW)] 129))); have lkO := thM_lookO HMP.out; have lkR := thM_lookR HMP.out; clear ho hmp hbm hx)
  go_ret2
  exact ⟨⟨_, _, _, by rw [HW.out]; rfl, fun h => absurd (HW.out.symm.trans h) H1.out⟩, HX.out.trans (eA _ _)⟩
 have H1 := hQq h1
 cases ho : isM (ptsO 1 l) opqW with
 | true =>
  have HW := hQq (ow_mark (n := n) h1 (by rw [ho, Bool.true_or]))
  have HOP := hQq ho
  clear ho h1
  go_enter Tryz.func162, Tryz.ntmps162
  go_wp2_with (go_at_call 160; refine (ovRead _ l _ HL.out HV.out HM.out).mono ?_; rintro e w1 ⟨⟨v1, bm, n1, rfl, ho, hmp, hbm⟩, hx⟩; obtain ⟨a1, c1, rfl, -, -⟩ := ho.1; have HO := hQq ho; have HX := hQq hx; have HMP := hQq (hmp.ext (eA w1 (.cells #[.string (valM (ptsO 1 l) opqW), .string (valM (ptsO 1 l) reW), .string (valM (ptsO 1 l) nlW)] 129))); have lkO := thM_lookO HMP.out; have lkR := thM_lookR HMP.out; rw [HOP.out] at lkO; rw [H1.out]; clear ho hmp hbm hx)
  go_ret2
  exact ⟨⟨_, _, _, by rw [HW.out]; rfl, fun h => by rw [HW.out] at h; cases h⟩, HX.out.trans (eA _ _)⟩
 | false =>
  cases hr : isM (ptsO 1 l) reW with
  | true =>
   have HW := hQq (ow_mark (n := n) h1 (by rw [hr, Bool.or_true]))
   have HOP := hQq ho; have HRE := hQq hr
   clear ho hr h1
   go_enter Tryz.func162, Tryz.ntmps162
   go_wp2_with (go_at_call 160; refine (ovRead _ l _ HL.out HV.out HM.out).mono ?_; rintro e w1 ⟨⟨v1, bm, n1, rfl, ho, hmp, hbm⟩, hx⟩; obtain ⟨a1, c1, rfl, -, -⟩ := ho.1; have HO := hQq ho; have HX := hQq hx; have HMP := hQq (hmp.ext (eA w1 (.cells #[.string (valM (ptsO 1 l) opqW), .string (valM (ptsO 1 l) reW), .string (valM (ptsO 1 l) nlW)] 129))); have lkO := thM_lookO HMP.out; have lkR := thM_lookR HMP.out; rw [HOP.out] at lkO; rw [HRE.out] at lkR; rw [H1.out]; clear ho hmp hbm hx)
   go_ret2
   exact ⟨⟨_, _, _, by rw [HW.out]; rfl, fun h => by rw [HW.out] at h; cases h⟩, HX.out.trans (eA _ _)⟩
  | false =>
   have HW := hQq (ow_book (n := n) h1 (by rw [ho, hr]; rfl))
   have HOP := hQq ho; have HRE := hQq hr
   clear ho hr h1
   go_enter Tryz.func162, Tryz.ntmps162
   go_wp2_with (first
    | (go_at_call 160; refine (ovRead _ l _ HL.out HV.out HM.out).mono ?_; rintro e w1 ⟨⟨v1, bm, n1, rfl, ho, hmp, hbm⟩, hx⟩; obtain ⟨a1, c1, rfl, -, -⟩ := ho.1; have HO := hQq ho; have HX := hQq hx; have HMP := hQq (hmp.ext (eA w1 (.cells #[.string (valM (ptsO 1 l) opqW), .string (valM (ptsO 1 l) reW), .string (valM (ptsO 1 l) nlW)] 129))); have lkO := thM_lookO HMP.out; have lkR := thM_lookR HMP.out; rw [HOP.out] at lkO; rw [HRE.out] at lkR; rw [H1.out]; clear ho hmp hbm hx)
    | (go_at_call 199; refine (ovBookX (ptsO 1 l) bm n1 n _ (HL.out.ext (HX.out.trans (eA _ _))) HMP.out HN.out).mono ?_; rintro e w2 ⟨rfl, hb2⟩; have HB2 : Hid (Ext w1 w2) := hQq ((eA _ _).trans hb2); clear hb2)
    | fail)
   go_ret2
   exact ⟨⟨_, _, _, by rw [HW.out]; rfl, fun _ => HO.out.ext HB2.out⟩, HX.out.trans HB2.out⟩
theorem setB9 (c0 c1 c2 c3 c4 c5 c6 c7 c8 c9 c10 c11 v y1 y2 y3 y4 y5 y6 y7 y8 : Value) : setA (#[c0, c1, c2, c3, c4, c5, c6, c7, c8, c9, c10, c11].setIfInBounds 9 v) 1 [y1, y2, y3, y4, y5, y6, y7, y8] = #[c0, y1, y2, y3, y4, y5, y6, y7, y8, v, c10, c11] := by
 simp only [setA, List.setIfInBounds_toArray, List.set_cons_zero, List.set_cons_succ]
set_option maxRecDepth 100000 in
set_option maxHeartbeats 32000000 in
theorem ovDecodeDirM (B : Nat) (w : World) (v : Value) (d : DiN) (hL : LaidO w) (hd : DirIn B w v d) (hB : B <= w.heap.size) (hsm : SmallD d) (hns : NsOk d)
  (e1 : dirE d = 0) (e2 : ¬ (d.opq = true \/ 0 < d.red.length)) (e3 : ptsE 1 d.ats = 0) (e4 : isM (ptsO 1 d.ats) nlW = false) (e5 : ¬ (turnE (ptsO 1 d.ats) ≠ 0 \/ (turnO (ptsO 1 d.ats) = true /\ 0 < (turnR (ptsO 1 d.ats)).length))) :
  Calls Tryz.prog 113 #[v] w (FltP w (drD d) (drN d) (drE d)) := by
 have HD := hQq hd
 obtain ⟨va, vr, ve, rfl, ha, hr, he⟩ := hd
 have HA := hQq ha; have HR := hQq hr; have HE := hQq he; have HSM := hQq hsm; have HL := hQq hL; have HNS := hQq hns
 obtain ⟨a3, cap3, rfl⟩ := ha.form
 obtain ⟨a4, cap4, rfl⟩ := hr.form
 obtain ⟨a5, cap5, rfl⟩ := he.form
 have hlen := hsm.len
 clear ha hr he hsm hL hns
 have q1 : (dirE d != 0) = false := bne_eq_false_iff_eq.2 e1
 have E1 := hQq e1; have E2 := hQq e2; have E3 := hQq e3; have E4 := hQq e4; have E6 := hQq e5
 have E5 : Hid (d.opq = false) := hQq (Bool.eq_false_iff.2 fun h => e2 (.inl h))
 have q5 : ¬ 0 < d.red.length := fun h => e2 (.inr h)
 have q2 := lenZ q5
 have HTZ : Hid ((valM (ptsO 1 d.ats) reW).size <= 1000000) := hQq (valM_size HSM.out.ats)
 clear e1 e2 e3 e4
 obtain ⟨o, ho⟩ : ∃ o, turnO (ptsO 1 d.ats) = o := ⟨_, rfl⟩
 have HOQ := hQq ho
 obtain ⟨te, hte⟩ : ∃ te, turnE (ptsO 1 d.ats) = te := ⟨_, rfl⟩
 have HTE := hQq hte
 rw [ho, hte] at e5
 have e6 := e5
 clear ho hte e5
 go_enter Tryz.func113, Tryz.ntmps113
 go_upto_region 12 with (first
   | (go_at_call 78; refine (brCheckDir B _ _ d (HD.out.ext ((eA _ _).trans (eA _ _))) HSM.out).mono ?_; rintro e w1 ⟨rfl, hb1⟩; have q2 : w1.heap[w.heap.size + 1]? = some (.cells #[.slice none 0 0, .bool false, .slice none 0 0, .slice none 0 0] 55 (0, 0)) := bX hb1 (blk_at (by simp)); obtain ⟨r0, r1, r2, r3⟩ := b4C q2; have fz : ∀ j, w1.frozen? ⟨w.heap.size + 1, j, none⟩ = false := fun j => bT q2 j; have Q2 := hQq q2; clear q2; have q1 : w1.heap[w.heap.size]? = some (.cells #[.slice a3 d.ats.length cap3, .bool d.opq, .slice a4 d.red.length cap4, .slice a5 d.ens.length cap5] 55 (0, 0)) := bX hb1 (bA (bN w _)); have k0 := bC q1 0; have k1 := bC q1 1; rw [E5.out] at k1; have k2 := bC q1 2; have k3 := bC q1 3; have Q1 := hQq q1; clear q1; have HB1 := hQq (((eA _ _).trans (eA _ _)).trans hb1); clear hb1)
   | (go_at_call 160; refine (ovRead _ d.ats _ (HL.out.ext HB1.out) ((HA.out.ext okA HB1.out).attrs) HSM.out.ats).mono ?_; rintro e w3 ⟨⟨v3, bm, n3, rfl, hv3, hmp, hbm⟩, hb3⟩; obtain ⟨a7, cap7, rfl, -, -⟩ := hv3.1; clear r0 r1 r2 r3 fz k0 k1 k2 k3; have q2 : w3.heap[w.heap.size + 1]? = some (.cells #[.slice none 0 0, .bool false, .slice none 0 0, .slice none 0 0] 55 (0, 0)) := bX hb3 Q2.out; obtain ⟨r0, r1, r2, r3⟩ := b4C q2; have fz : ∀ j, w3.frozen? ⟨w.heap.size + 1, j, none⟩ = false := fun j => bT q2 j; have Q2 := hQq q2; clear q2; have q1x := bX hb3 Q1.out; obtain ⟨k0, k1, k2, k3⟩ := b4C q1x; have R1 := hQq q1x; have hz1 := bL q1x; have hz2 := bL Q2.out; have HV3 := hQq hv3; have HMP := hQq (hmp.ext (eA w3 (.cells #[.string (valM (ptsO 1 d.ats) opqW), .string (valM (ptsO 1 d.ats) reW), .string (valM (ptsO 1 d.ats) nlW)] 129))); have lkN := thM_lookN HMP.out; have HB3 := hQq (HB1.out.trans hb3); rw [E5.out] at k1; rw [E4.out] at lkN; rw [E3.out]; clear hv3 hmp hbm hb3 q1x)
   | (go_at_call 161; refine (ovTurn (ptsO 1 d.ats) bm n3 _ (HL.out.ext (HB3.out.trans (eA _ _))) HMP.out HTZ.out).mono ?_; rintro e w4 ⟨⟨a8, cap8, rfl, ho4⟩, hb4⟩; have HR4 := hQq ho4; have HB4 : Hid (Ext w3 w4) := hQq ((eA _ _).trans hb4); clear r0 r1 r2 r3 fz k0 k1 k2 k3 lkN hz1 hz2; have q2 : w4.heap[w.heap.size + 1]? = some (.cells #[.slice none 0 0, .bool false, .slice none 0 0, .slice none 0 0] 55 (0, 0)) := bX HB4.out Q2.out; obtain ⟨r0, r1, r2, r3⟩ := b4C q2; have fz : ∀ j, w4.frozen? ⟨w.heap.size + 1, j, none⟩ = false := fun j => bT q2 j; have Q2 := hQq q2; clear q2; have q1y := bX HB4.out R1.out; obtain ⟨k0, k1, k2, k3⟩ := b4C q1y; have S1 := hQq q1y; have hz1 := bL q1y; have hz2 := bL Q2.out; rw [HOQ.out, HTE.out]; rw [E5.out] at k1; clear ho4 hb4 q1y)
   | fail)
 have q7 : (te != 0) = false := bne_eq_false_iff_eq.2 (Decidable.not_not.1 fun h => e6 (.inl h))
 go_cut [74] (fun s wx => s = .bool false /\ w4 = wx)
 case first =>
  cases o
  case false => clear e6; go_wp2_with fail; go_meet; exact ⟨rfl, rfl⟩
  case true =>
   have q8 := lenZ (fun h => e6 (.inr ⟨rfl, h⟩))
   have q9 : decide (0 < (turnR (ptsO 1 d.ats)).length) = false := decide_eq_false (fun h => e6 (.inr ⟨rfl, h⟩))
   clear e6
   go_wp2_with fail; go_meet
   first
    | exact ⟨rfl, rfl⟩
    | exact ⟨by rw [q9], rfl⟩
 case rest =>
 obtain ⟨rfl, rfl⟩ := hcut
 clear e6 q7
 go_wp2_with fail
 have HBO : Hid (w.heap.size + 1 < w4.heap.size) := hQq (bL Q2.out)
 have HCH := hQq (fun x (hx : x ∈ d.ens) => small_chk (ens_chk E1.out hx))
 have HST0 : Hid (ODSt w w4.heap.size #[.slice a3 d.ats.length cap3, .bool false, .slice a4 d.red.length cap4, .slice a5 d.ens.length cap5] (.slice a7 (ptsP 1 d.ats).length cap7) (ptsP 1 d.ats) o (.slice a8 (turnR (ptsO 1 d.ats)).length cap8) (turnR (ptsO 1 d.ats)) (.slice none 0 0) [] (w4.alloc (.cells #[.slice a7 (ptsP 1 d.ats).length cap7, .bool o, .slice a8 (turnR (ptsO 1 d.ats)).length cap8, .slice none 0 0] 55))) := hQq ⟨bA (by have h := S1.out; rw [E5.out] at h; exact h), bA Q2.out, bN _ _, OwnL.nil _ _ _, (attT_in HV3.out).ext okA (HB4.out.trans (eA _ _)), (HR4.out.mono okS (Nat.zero_le _)).ext okS (eA _ _), HB3.out.trans (HB4.out.trans (eA _ _))⟩
 clear r0 r1 r2 r3 fz k0 k1 k2 k3
 go_loopw [85] (fun i w' => ∃ (wi : World) (k : Nat) (ve : Value), wi = w' /\ k <= d.ens.length /\ i = .int .i64 k /\ (∀ j, j < k -> rdE o (getE d.ens j) = 0) /\ ODSt w w4.heap.size #[.slice a3 d.ats.length cap3, .bool false, .slice a4 d.red.length cap4, .slice a5 d.ens.length cap5] (.slice a7 (ptsP 1 d.ats).length cap7) (ptsP 1 d.ats) o (.slice a8 (turnR (ptsO 1 d.ats)).length cap8) (turnR (ptsO 1 d.ats)) ve ((d.ens.take k).map rdX) wi) (fun i _ => d.ens.length - (intOf i).toNat)
 case atStart => exact ⟨_, 0, _, rfl, Nat.zero_le _, rfl, fun j hj => absurd hj (by omega), HST0.out⟩
 case round =>
  clear HST0
  obtain ⟨wi, k, ve, rfl, hk, rfl, hok, hst⟩ := hrel
  obtain ⟨es, hes⟩ : ∃ es, es = (d.ens.take k).map rdX := ⟨_, rfl⟩
  rw [<- hes] at hst
  have HES := hQq hes
  have HOK := hQq hok; have HST := hQq hst
  clear hes
  obtain ⟨a6e, cap6e, rfl⟩ := hst.own.form
  clear hok hst
  by_cases hlt : k < d.ens.length
  case neg =>
   obtain rfl : k = d.ens.length := by omega
   have HX := hQq (dr_of (drT_ok E1.out E2.out E3.out E4.out E6.out (by rw [HOQ.out, gnT_ok HOK.out])))
   obtain ⟨o0, o1, o2, o3⟩ := b4C HST.out.out
   obtain ⟨r0, r1, r2, r3⟩ := b4C HST.out.res
   have fz : ∀ j, wi.frozen? ⟨w.heap.size + 1, j, none⟩ = false := fun j => bT HST.out.res j
   have HTK : Hid (es = d.ens.map rdX) := hQq (by rw [HES.out, List.take_length])
   go_wp2
   refine nW (P := fun W => bodyPost _ _ _ _ _ W) _ ?_
   intro W2 hW2
   obtain ⟨hq, hx, hc⟩ := set4 HST.out.res (by omega) HST.out.ext hW2
   refine bodyPost_ret (v := .tuple #[.agg #[.slice a7 (ptsP 1 d.ats).length cap7, .bool o, .slice a8 (turnR (ptsO 1 d.ats)).length cap8, .slice a6e es.length cap6e], .nilIface]) (by simp [results, Tryz.f113, go_sem, bC hq 0, bC hq 1, bC hq 2, bC hq 3]) rfl ?_
   refine ⟨⟨_, _, _, _, _, _, _, _, _, _, _, rfl, .inl ⟨HX.out.2.2, rfl, ?_⟩⟩, hx⟩
   rw [HX.out.1, HOQ.out]
   exact ⟨_, _, _, rfl, HST.out.ats.chg okA (hcB (Nat.le_refl _) hc HST.out.res) (by decide) (by decide), HST.out.red.chg okS (hcB (Nat.le_refl _) hc HST.out.res) (by decide) (by decide), by have h := (HST.out.own.in okE).chg okE (hcB (Nat.le_refl _) hc HST.out.res) (by decide) (by decide); rw [<- HTK.out]; exact h⟩
  obtain ⟨b, off, va, hex, hbx, hva, c0, c1, c2, c3, c4, c5, c6, c7, c8, c9, c10, c11⟩ := (HE.out.ext okE HST.out.ext).en k hlt
  cases hex
  have HVA := hQq (hva.mono okA hB)
  have HVS := hQq hva.attrs
  obtain ⟨a6, cap6, rfl⟩ := hva.form
  have HG := hQq (getE_at d.ens k hlt)
  have HMEM := hQq (List.getElem_mem hlt)
  have HTK := hQq (take_mapX (X := rdX) d.ens k hlt)
  rw [<- HES.out] at HTK
  generalize d.ens[k]'hlt = x at c0 c1 c2 c3 c4 c5 c6 c7 c8 c9 c10 c11 HVA HVS HG HMEM HTK
  have HLN : Hid (es.length <= k) := hQq (by rw [HES.out, List.length_map, List.length_take]; omega)
  have j1 : ((k : Nat) : Int) < (d.ens.length : Int) := by omega
  have j0 : (0 : Int) <= (k : Int) := by omega
  have HNX : Hid (rdE o x = 0 -> ∀ j, j < k + 1 -> rdE o (getE d.ens j) = 0) := hQq (fun h j hj => by
   by_cases e : j = k
   ·subst e; rw [HG.out]; exact h
   ·exact HOK.out j (by omega))
  have HNE : Hid (∀ n, rdE o x = n -> n ≠ 0 -> drT d = (zDiN, (k : Int), n)) := hQq (fun n hn h => by
   subst hn
   have := gnT_no (E := rdE o) hlt HOK.out (by rw [HG.out]; exact h)
   rw [HG.out] at this
   exact drT_ent E1.out E2.out E3.out E4.out E6.out (by rw [HOQ.out]; exact this) h)
  obtain ⟨y, hy⟩ : ∃ y, y = rdX x := ⟨_, rfl⟩
  have HY := hQq hy
  have hsz := bL HST.out.res
  obtain ⟨zb, hzb0⟩ : ∃ zb, zeroB x.nd = zb := ⟨_, rfl⟩
  have HZ0 := hQq hzb0
  clear hva hy hzb0
  go_upto_region 19 with (go_at_call 108; refine (ovZero x.nd _ ⟨_, _, _, rfl⟩ _).mono ?_; rintro e w5 ⟨rfl, hb5⟩; rw [HZ0.out]; have Q12 := hQq (bX hb5 (bN wi _)); have HB5 : Hid (Ext wi w5) := hQq (Ext.trans (eA _ _) hb5); clear hb5)
  clear c0 c1 c2 c3 c4 c5 c6 c7 c8 c9 c10 c11
  have Q12' : Hid (w5.heap[wi.heap.size]? = some (.cells #[.string x.nm, .int .i64 x.nd.dep, .string x.nd.nm, .int .i64 x.nd.kd, .slice a6 x.nd.ats.length cap6, .string x.nd.dat, .int .i64 x.nd.ma, .int .i64 x.nd.mi, .int .i64 x.nd.cl, .bool x.wh, .bool x.fi, .int .i64 x.ns] 98 (0, 0))) := Q12
  clear Q12
  obtain ⟨z0, z1, z2, z3, z4, z5, z6, z7, z8, z9, z10, z11⟩ := b12C Q12'.out
  have f5 : ∀ j, w5.frozen? ⟨wi.heap.size, j, none⟩ = false := fun j => bT Q12'.out j
  have hz5 := bL Q12'.out
  have hbx5 := bX HB5.out HST.out.box
  obtain ⟨k0, k1, k2, k3⟩ := b4C hbx5
  have hrs5 := bX HB5.out HST.out.res
  obtain ⟨r0, r1, r2, r3⟩ := b4C hrs5
  have fz : ∀ j, w5.frozen? ⟨w.heap.size + 1, j, none⟩ = false := fun j => bT hrs5 j
  have Q5 := hQq hrs5
  clear hbx5 hrs5
  go_cut [112] (fun s wx => s = .bool (decide (zbE o x)) /\ w5 = wx)
  case first =>
   by_cases g1 : x.wh = true
   case pos =>
    have hd : decide (zbE o x) = true := decide_eq_true (.inl g1)
    have HDD := hQq hd
    rw [g1] at z9; clear g1 hd
    go_wp2_with fail; go_meet; exact ⟨by rw [HDD.out], rfl⟩
   have g1' : x.wh = false := Bool.eq_false_iff.2 g1
   rw [g1'] at z9
   cases zb
   case false =>
    have g2 := HZ0.out
    have hd : decide (zbE o x) = false := decide_eq_false (by rintro (h | ⟨h, _⟩); exact g1 h; rw [g2] at h; cases h)
    have HDD := hQq hd
    clear g1 g1' hd g2
    go_wp2_with fail; go_meet; exact ⟨by rw [HDD.out], rfl⟩
   have g2 := HZ0.out
   by_cases g3 : 0 < x.nd.ats.length
   case pos =>
    have hd : decide (zbE o x) = true := decide_eq_true (.inr ⟨g2, .inl (fun h => by rw [h] at g3; exact absurd g3 (by decide))⟩)
    have g3' := lenP g3
    have g3n : decide (0 < x.nd.ats.length) = true := decide_eq_true g3
    have HDD := hQq hd
    clear g1 g1' hd g3 g2
    go_wp2_with fail; go_meet; exact ⟨by rw [HDD.out], rfl⟩
   have g3' := lenZ g3
   have g3n : decide (0 < x.nd.ats.length) = false := decide_eq_false g3
   by_cases g4 : 1 < x.ns
   case pos =>
    have hd : decide (zbE o x) = true := decide_eq_true (.inr ⟨g2, .inr (.inl g4)⟩)
    have g4' : decide (1 < x.ns) = true := decide_eq_true g4
    have HDD := hQq hd
    clear g1 g1' hd g3 g4 g2
    go_wp2_with fail; go_meet; exact ⟨by rw [HDD.out], rfl⟩
   have g4' : decide (1 < x.ns) = false := decide_eq_false g4
   cases o
   case false =>
    have hd : decide (zbE false x) = false := decide_eq_false (by
     rintro (h | ⟨_, h | h | h⟩)
     ·exact g1 h
     ·exact h (List.length_eq_zero_iff.1 (by omega))
     ·exact g4 h
     ·cases h)
    have HDD := hQq hd
    clear g1 g1' hd g3 g4 g2
    go_wp2_with fail; go_meet; exact ⟨by rw [HDD.out], rfl⟩
   case true =>
    have hd : decide (zbE true x) = true := decide_eq_true (.inr ⟨g2, .inr (.inr rfl)⟩)
    have HDD := hQq hd
    clear g1 g1' hd g3 g4 g2
    go_wp2_with fail; go_meet; exact ⟨by rw [HDD.out], rfl⟩
  case rest =>
  obtain ⟨rfl, rfl⟩ := hcut
  by_cases hzb : zbE o x
  case pos =>
   have HX := hQq (dr_of (HNE.out 6 (rd_bad hzb) (by decide)))
   have hd : decide (zbE o x) = true := decide_eq_true hzb
   rw [hd]
   clear hzb hd
   go_wp2
   refine nW (P := fun W => bodyPost _ _ _ _ _ W) _ ?_
   intro W2 hW2
   obtain ⟨hq, hx, hc⟩ := set4 Q5.out (by omega) (HST.out.ext.trans HB5.out) hW2
   refine bodyPost_ret (v := .tuple #[.agg #[.slice a3 d.ats.length cap3, .bool false, .slice a4 d.red.length cap4, .slice (some ⟨b, off, none⟩) d.ens.length cap5], fltV ((k : Int)) (6)]) (by simp [results, Tryz.f113, go_sem, bC hq 0, bC hq 1, bC hq 2, bC hq 3]) rfl ?_
   exact ⟨⟨_, _, _, _, _, _, _, _, _, _, _, rfl, .inr ⟨by rw [HX.out.2.2]; exact (by decide), by rw [HX.out.2.1, HX.out.2.2]⟩⟩, hx⟩
  have hd : decide (zbE o x) = false := decide_eq_false hzb
  have HZB := hQq hzb
  rw [hd]
  clear hzb hd
  cases zb
  case true =>
   have HWE := hQq (rd_zero HZB.out HZ0.out)
   have HN := hQq (HNX.out HWE.out.1)
   go_upto_region 27 with fail
   refine nW (P := fun W => Code.wp _ _ _ _ W) _ ?_
   intro W hW
   have hW2 : W = setL (w5.setCell ⟨wi.heap.size, 9, none⟩ (.bool true)) wi.heap.size 1 [.int .i64 0, .string ⟨#[]⟩, .int .i64 5, .slice none 0 0, .string ⟨#[]⟩, .int .i64 0, .int .i64 0, .int .i64 0] := by rw [hW]; simp only [setL, Nat.reduceAdd]
   have HXW := hQq (show Ext wi W from by rw [hW2]; exact setL_below (Nat.le_refl _) _ _ _ (Below.setCell (p := ⟨wi.heap.size, 9, none⟩) HB5.out (Nat.le_refl _) _))
   obtain ⟨ay, capy, hqy, hvy⟩ : ∃ ay capy, W.heap[wi.heap.size]? = some (.cells #[.string y.nm, .int .i64 y.nd.dep, .string y.nd.nm, .int .i64 y.nd.kd, .slice ay y.nd.ats.length capy, .string y.nd.dat, .int .i64 y.nd.ma, .int .i64 y.nd.mi, .int .i64 y.nd.cl, .bool y.wh, .bool y.fi, .int .i64 y.ns] 98 (0, 0)) /\ AttIn w.heap.size W (.slice ay y.nd.ats.length capy) y.nd.ats := by
    rw [HY.out, HWE.out.2]
    exact ⟨none, 0, by rw [hW2, setL_blk _ _ _ _ (bS Q12'.out _), setB9]; rfl, attIn_nil _ _ _⟩
   have HQW := hQq hqy; have HVY := hQq hvy
   clear hW hW2 hqy hvy z0 z1 z2 z3 z4 z5 z6 z7 z8 z9 z10 z11 k0 k1 k2 k3 r0 r1 r2 r3 fz f5
   have o3 := bC (bX HXW.out HST.out.out) 3
   obtain ⟨z0, z1, z2, z3, z4, z5, z6, z7, z8, z9, z10, z11⟩ := b12C HQW.out
   go_wp2_with (at_builtin; go_loud (refine appL okE rfl (.tmp 144) (.tmp 146) rfl (.slice a6e es.length cap6e) _ es [y] w _ (by rfl) (by rfl) (by exact (HST.out.up HXW.out).own.ext okE (eA _ _)) (by exact listIn_new okE _ y [.string y.nm, .int .i64 y.nd.dep, .string y.nd.nm, .int .i64 y.nd.kd, .slice ay y.nd.ats.length capy, .string y.nd.dat, .int .i64 y.nd.ma, .int .i64 y.nd.mi, .int .i64 y.nd.cl, .bool y.wh, .bool y.fi, .int .i64 y.ns] _ (by first | rfl | simp) ⟨_, HVY.out, rfl⟩) (by exact (HST.out.up HXW.out).ext.trans (eA _ _)) (by exact ((HST.out.up HXW.out).ext.trans (eA _ _)).size) (by have := HLN.out; simp only [List.length_singleton]; omega) ?_; intro v5 w5 hap; have hou := ODSt.app ((HST.out.up HXW.out).up (eA _ _)) hap; have p3 := bC hou 3; have fp : ∀ j, w5.frozen? ⟨w4.heap.size, j, none⟩ = false := fun j => bT hou j; obtain ⟨a10, cap10, rfl⟩ := hap.own.form; rw [len_snoc] at hap; have HAP := hQq hap; clear hap hou))
   go_roundw
   case rel => exact ⟨_, k + 1, _, rfl, by omega, by go_num, HN.out, by rw [HTK.out, <- HY.out]; exact ((HST.out.up HXW.out).up (eA _ _)).step HAP.out HBO.out⟩
   case measure => first | (simp [intOf]; done) | (simp [intOf]; omega)
  case false =>
  have HZ := HZ0
  cases hfi : x.fi
  case false =>
   have HWE := hQq (rd_rest HZB.out HZ.out hfi)
   have HN := hQq (HNX.out HWE.out.1)
   rw [hfi] at z10
   clear hfi
   go_upto_region 27 with fail
   have HXW := HB5
   obtain ⟨ay, capy, hqy, hvy⟩ : ∃ ay capy, w5.heap[wi.heap.size]? = some (.cells #[.string y.nm, .int .i64 y.nd.dep, .string y.nd.nm, .int .i64 y.nd.kd, .slice ay y.nd.ats.length capy, .string y.nd.dat, .int .i64 y.nd.ma, .int .i64 y.nd.mi, .int .i64 y.nd.cl, .bool y.wh, .bool y.fi, .int .i64 y.ns] 98 (0, 0)) /\ AttIn w.heap.size w5 (.slice ay y.nd.ats.length capy) y.nd.ats := by
    rw [HY.out, HWE.out.2]
    exact ⟨_, _, Q12'.out, HVA.out.ext okA HB5.out⟩
   have HQW := hQq hqy; have HVY := hQq hvy
   clear hqy hvy z0 z1 z2 z3 z4 z5 z6 z7 z8 z9 z10 z11 k0 k1 k2 k3 r0 r1 r2 r3 fz f5
   have o3 := bC (bX HXW.out HST.out.out) 3
   obtain ⟨z0, z1, z2, z3, z4, z5, z6, z7, z8, z9, z10, z11⟩ := b12C HQW.out
   go_wp2_with (at_builtin; go_loud (refine appL okE rfl (.tmp 144) (.tmp 146) rfl (.slice a6e es.length cap6e) _ es [y] w _ (by rfl) (by rfl) (by exact (HST.out.up HXW.out).own.ext okE (eA _ _)) (by exact listIn_new okE _ y [.string y.nm, .int .i64 y.nd.dep, .string y.nd.nm, .int .i64 y.nd.kd, .slice ay y.nd.ats.length capy, .string y.nd.dat, .int .i64 y.nd.ma, .int .i64 y.nd.mi, .int .i64 y.nd.cl, .bool y.wh, .bool y.fi, .int .i64 y.ns] _ (by first | rfl | simp) ⟨_, HVY.out, rfl⟩) (by exact (HST.out.up HXW.out).ext.trans (eA _ _)) (by exact ((HST.out.up HXW.out).ext.trans (eA _ _)).size) (by have := HLN.out; simp only [List.length_singleton]; omega) ?_; intro v5 w5 hap; have hou := ODSt.app ((HST.out.up HXW.out).up (eA _ _)) hap; have p3 := bC hou 3; have fp : ∀ j, w5.frozen? ⟨w4.heap.size, j, none⟩ = false := fun j => bT hou j; obtain ⟨a10, cap10, rfl⟩ := hap.own.form; rw [len_snoc] at hap; have HAP := hQq hap; clear hap hou))
   go_roundw
   case rel => exact ⟨_, k + 1, _, rfl, by omega, by go_num, HN.out, by rw [HTK.out, <- HY.out]; exact ((HST.out.up HXW.out).up (eA _ _)).step HAP.out HBO.out⟩
   case measure => first | (simp [intOf]; done) | (simp [intOf]; omega)
  case true =>
  rw [hfi] at z10
  have HWE := hQq (rd_first HZB.out HZ.out hfi)
  have HSX := hQq (HCH.out x HMEM.out)
  have HNB : Hid (x.ns <= 9223372036854775807) := hQq (HNS.out x HMEM.out)
  clear hfi
  go_upto_region 25 with (go_at_call 162; refine (ovOwn _ x.nd.ats x.ns _ (HL.out.ext (HST.out.ext.trans HB5.out)) (HVS.out.ext HB5.out) HSX.out HNB.out).mono ?_; rintro e w6 ⟨⟨a9, k9, c9, rfl, ho6⟩, hb6⟩; have HO6 := hQq ho6; have Q6 := hQq (bX hb6 Q12'.out); have x4 := bC Q6.out 4; have f6 : ∀ j, w6.frozen? ⟨wi.heap.size, j, none⟩ = false := fun j => bT Q6.out j; have l6 := bL Q6.out; have HB6 : Hid (Ext wi w6) := hQq (HB5.out.trans hb6); clear ho6 hb6)
  refine nW (P := fun W => Code.wp _ _ _ _ W) _ ?_
  intro W hW
  have hW2 : W = w6.setCell ⟨wi.heap.size, 4, none⟩ (.slice a9 k9 c9) := hW
  have HXW := hQq (show Ext wi W from by rw [hW2]; exact Below.setCell (p := ⟨wi.heap.size, 4, none⟩) HB6.out (Nat.le_refl _) _)
  have HQ9 : Hid (W.heap[wi.heap.size]? = some (.cells #[.string x.nm, .int .i64 x.nd.dep, .string x.nd.nm, .int .i64 x.nd.kd, .slice a9 k9 c9, .string x.nd.dat, .int .i64 x.nd.ma, .int .i64 x.nd.mi, .int .i64 x.nd.cl, .bool x.wh, .bool x.fi, .int .i64 x.ns] 98 (0, 0))) := hQq (by rw [hW2]; exact bS Q6.out _)
  have HC9 : Hid (Chg w.heap.size 98 (some wi.heap.size) w6 W) := hQq (by rw [hW2]; exact cellChg Q6.out (by have := HST.out.ext.size; omega))
  clear hW hW2 z0 z1 z2 z3 z4 z5 z6 z7 z8 z9 z10 z11 k0 k1 k2 k3 r0 r1 r2 r3 fz f5 f6 x4
  by_cases e9 : owE x.nd.ats x.ns = 0
  case neg =>
   have HX := hQq (dr_of (HNE.out (owE x.nd.ats x.ns) HWE.out.1 e9))
   have q9 : (owE x.nd.ats x.ns != 0) = true := bne_iff_ne.2 e9
   have E9 := hQq e9
   clear e9
   have hbx4 := bX HXW.out HST.out.box
   obtain ⟨k0, k1, k2, k3⟩ := b4C hbx4
   have hrs4 := bX HXW.out HST.out.res
   obtain ⟨r0, r1, r2, r3⟩ := b4C hrs4
   have fz : ∀ j, W.frozen? ⟨w.heap.size + 1, j, none⟩ = false := fun j => bT hrs4 j
   have Q4 := hQq hrs4
   clear hbx4 hrs4
   go_wp2
   refine nW (P := fun W => bodyPost _ _ _ _ _ W) _ ?_
   intro W2 hW2
   obtain ⟨hq, hx, hc⟩ := set4 Q4.out (by omega) (HST.out.ext.trans HXW.out) hW2
   refine bodyPost_ret (v := .tuple #[.agg #[.slice a3 d.ats.length cap3, .bool false, .slice a4 d.red.length cap4, .slice (some ⟨b, off, none⟩) d.ens.length cap5], fltV ((k : Int)) (owE x.nd.ats x.ns)]) (by simp [results, Tryz.f113, go_sem, bC hq 0, bC hq 1, bC hq 2, bC hq 3]) rfl ?_
   exact ⟨⟨_, _, _, _, _, _, _, _, _, _, _, rfl, .inr ⟨by rw [HX.out.2.2]; exact E9.out, by rw [HX.out.2.1, HX.out.2.2]⟩⟩, hx⟩
  have q9 : (owE x.nd.ats x.ns != 0) = false := bne_eq_false_iff_eq.2 e9
  have HN := hQq (HNX.out (HWE.out.1.trans e9))
  have HA6 := HO6.out e9
  obtain ⟨a9', c9', he9, -, -⟩ := HA6.1
  obtain ⟨rfl, rfl, rfl⟩ : a9 = a9' /\ k9 = (ptsP 1 x.nd.ats).length /\ c9 = c9' := by injection he9 with h1 h2 h3; exact ⟨h1, h2, h3⟩
  obtain ⟨ay, capy, hqy, hvy⟩ : ∃ ay capy, W.heap[wi.heap.size]? = some (.cells #[.string y.nm, .int .i64 y.nd.dep, .string y.nd.nm, .int .i64 y.nd.kd, .slice ay y.nd.ats.length capy, .string y.nd.dat, .int .i64 y.nd.ma, .int .i64 y.nd.mi, .int .i64 y.nd.cl, .bool y.wh, .bool y.fi, .int .i64 y.ns] 98 (0, 0)) /\ AttIn w.heap.size W (.slice ay y.nd.ats.length capy) y.nd.ats := by
   rw [HY.out, HWE.out.2]
   exact ⟨_, _, HQ9.out, (attT_in HA6).chg okA HC9.out (by decide) (by decide)⟩
  have HQW := hQq hqy; have HVY := hQq hvy
  clear e9 he9 HA6 hqy hvy HO6 Q6
  go_upto_region 27 with fail
  have o3 := bC (bX HXW.out HST.out.out) 3
  obtain ⟨z0, z1, z2, z3, z4, z5, z6, z7, z8, z9, z10, z11⟩ := b12C HQW.out
  go_wp2_with (at_builtin; go_loud (refine appL okE rfl (.tmp 144) (.tmp 146) rfl (.slice a6e es.length cap6e) _ es [y] w _ (by rfl) (by rfl) (by exact (HST.out.up HXW.out).own.ext okE (eA _ _)) (by exact listIn_new okE _ y [.string y.nm, .int .i64 y.nd.dep, .string y.nd.nm, .int .i64 y.nd.kd, .slice ay y.nd.ats.length capy, .string y.nd.dat, .int .i64 y.nd.ma, .int .i64 y.nd.mi, .int .i64 y.nd.cl, .bool y.wh, .bool y.fi, .int .i64 y.ns] _ (by first | rfl | simp) ⟨_, HVY.out, rfl⟩) (by exact (HST.out.up HXW.out).ext.trans (eA _ _)) (by exact ((HST.out.up HXW.out).ext.trans (eA _ _)).size) (by have := HLN.out; simp only [List.length_singleton]; omega) ?_; intro v5 w5 hap; have hou := ODSt.app ((HST.out.up HXW.out).up (eA _ _)) hap; have p3 := bC hou 3; have fp : ∀ j, w5.frozen? ⟨w4.heap.size, j, none⟩ = false := fun j => bT hou j; obtain ⟨a10, cap10, rfl⟩ := hap.own.form; rw [len_snoc] at hap; have HAP := hQq hap; clear hap hou))
  go_roundw
  case rel => exact ⟨_, k + 1, _, rfl, by omega, by go_num, HN.out, by rw [HTK.out, <- HY.out]; exact ((HST.out.up HXW.out).up (eA _ _)).step HAP.out HBO.out⟩
  case measure => first | (simp [intOf]; done) | (simp [intOf]; omega)
set_option maxRecDepth 100000 in
set_option maxHeartbeats 16000000 in
theorem ovDecodeDir0 (B : Nat) (w : World) (v : Value) (d : DiN) (hL : LaidO w) (hd : DirIn B w v d) (_hB : B <= w.heap.size) (hsm : SmallD d) (hns : NsOk d) (hE : ¬ (dirE d = 0 /\ ¬ (d.opq = true \/ 0 < d.red.length) /\ ptsE 1 d.ats = 0 /\ isM (ptsO 1 d.ats) nlW = false /\ ¬ (turnE (ptsO 1 d.ats) ≠ 0 \/ (turnO (ptsO 1 d.ats) = true /\ 0 < (turnR (ptsO 1 d.ats)).length)))) :
  Calls Tryz.prog 113 #[v] w (FltP w (drD d) (drN d) (drE d)) := by
 have HD := hQq hd
 obtain ⟨va, vr, ve, rfl, ha, hr, he⟩ := hd
 have HA := hQq ha; have HR := hQq hr; have HE := hQq he; have HSM := hQq hsm; have HL := hQq hL; have HNS := hQq hns
 obtain ⟨a3, cap3, rfl⟩ := ha.form
 obtain ⟨a4, cap4, rfl⟩ := hr.form
 obtain ⟨a5, cap5, rfl⟩ := he.form
 have hlen := hsm.len
 clear ha hr he hsm hL hns
 by_cases e1 : dirE d = 0
 case neg =>
  have HX := hQq (dr_of (drT_dir e1))
  have q1 : (dirE d != 0) = true := bne_iff_ne.2 e1
  have E1 := hQq e1
  clear e1
  go_enter Tryz.func113, Tryz.ntmps113
  go_wp2_with (go_at_call 78; refine (brCheckDir B _ _ d (HD.out.ext ((eA _ _).trans (eA _ _))) HSM.out).mono ?_; rintro e w1 ⟨rfl, hb1⟩; have q2 : w1.heap[w.heap.size + 1]? = some (.cells #[.slice none 0 0, .bool false, .slice none 0 0, .slice none 0 0] 55 (0, 0)) := bX hb1 (blk_at (by simp)); obtain ⟨r0, r1, r2, r3⟩ := b4C q2; have fz : ∀ j, w1.frozen? ⟨w.heap.size + 1, j, none⟩ = false := fun j => bT q2 j; have Q2 := hQq q2; clear q2; have q1 : w1.heap[w.heap.size]? = some (.cells #[.slice a3 d.ats.length cap3, .bool d.opq, .slice a4 d.red.length cap4, .slice a5 d.ens.length cap5] 55 (0, 0)) := bX hb1 (bA (bN w _)); obtain ⟨k0, k1, k2, k3⟩ := b4C q1; have Q1 := hQq q1; clear q1; have HB1 := hQq (((eA _ _).trans (eA _ _)).trans hb1); clear hb1)
  refine nW (P := fun W => bodyPost _ _ _ _ _ W) _ ?_
  intro W2 hW2
  obtain ⟨hq, hx, hc⟩ := set4 Q2.out (by omega) HB1.out hW2
  refine bodyPost_ret (v := .tuple #[.agg #[.slice a3 d.ats.length cap3, .bool d.opq, .slice a4 d.red.length cap4, .slice a5 d.ens.length cap5], fltV (dirN d) (dirE d)]) (by simp [results, Tryz.f113, go_sem, bC hq 0, bC hq 1, bC hq 2, bC hq 3]) rfl ?_
  exact ⟨⟨_, _, _, _, _, _, _, _, _, _, _, rfl, .inr ⟨by rw [HX.out.2.2]; exact E1.out, by rw [HX.out.2.1, HX.out.2.2]⟩⟩, hx⟩
 have q1 : (dirE d != 0) = false := bne_eq_false_iff_eq.2 e1
 have E1 := hQq e1
 clear e1
 by_cases e2 : d.opq = true \/ 0 < d.red.length
 case pos =>
  have HX := hQq (dr_of (drT_mark E1.out e2))
  by_cases e3 : d.opq = true
  case pos =>
   have E3 := hQq e3
   clear e2 e3
   go_enter Tryz.func113, Tryz.ntmps113
   go_wp2_with (go_at_call 78; refine (brCheckDir B _ _ d (HD.out.ext ((eA _ _).trans (eA _ _))) HSM.out).mono ?_; rintro e w1 ⟨rfl, hb1⟩; have q2 : w1.heap[w.heap.size + 1]? = some (.cells #[.slice none 0 0, .bool false, .slice none 0 0, .slice none 0 0] 55 (0, 0)) := bX hb1 (blk_at (by simp)); obtain ⟨r0, r1, r2, r3⟩ := b4C q2; have fz : ∀ j, w1.frozen? ⟨w.heap.size + 1, j, none⟩ = false := fun j => bT q2 j; have Q2 := hQq q2; clear q2; have q1 : w1.heap[w.heap.size]? = some (.cells #[.slice a3 d.ats.length cap3, .bool d.opq, .slice a4 d.red.length cap4, .slice a5 d.ens.length cap5] 55 (0, 0)) := bX hb1 (bA (bN w _)); have k0 := bC q1 0; have k1 := bC q1 1; rw [E3.out] at k1; have k2 := bC q1 2; have k3 := bC q1 3; have Q1 := hQq q1; clear q1; have HB1 := hQq (((eA _ _).trans (eA _ _)).trans hb1); clear hb1)
   refine nW (P := fun W => bodyPost _ _ _ _ _ W) _ ?_
   intro W2 hW2
   obtain ⟨hq, hx, hc⟩ := set4 Q2.out (by omega) HB1.out hW2
   refine bodyPost_ret (v := .tuple #[.agg #[.slice a3 d.ats.length cap3, .bool true, .slice a4 d.red.length cap4, .slice a5 d.ens.length cap5], fltV (-1) (6)]) (by simp [results, Tryz.f113, go_sem, bC hq 0, bC hq 1, bC hq 2, bC hq 3]) rfl ?_
   exact ⟨⟨_, _, _, _, _, _, _, _, _, _, _, rfl, .inr ⟨by rw [HX.out.2.2]; exact (by decide), by rw [HX.out.2.1, HX.out.2.2]⟩⟩, hx⟩
  have e4 : 0 < d.red.length := e2.resolve_left e3
  have e5 : d.opq = false := Bool.eq_false_iff.2 e3
  have q2 := lenP e4
  have E5 := hQq e5
  clear e2 e3 e5
  go_enter Tryz.func113, Tryz.ntmps113
  go_wp2_with (go_at_call 78; refine (brCheckDir B _ _ d (HD.out.ext ((eA _ _).trans (eA _ _))) HSM.out).mono ?_; rintro e w1 ⟨rfl, hb1⟩; have q2 : w1.heap[w.heap.size + 1]? = some (.cells #[.slice none 0 0, .bool false, .slice none 0 0, .slice none 0 0] 55 (0, 0)) := bX hb1 (blk_at (by simp)); obtain ⟨r0, r1, r2, r3⟩ := b4C q2; have fz : ∀ j, w1.frozen? ⟨w.heap.size + 1, j, none⟩ = false := fun j => bT q2 j; have Q2 := hQq q2; clear q2; have q1 : w1.heap[w.heap.size]? = some (.cells #[.slice a3 d.ats.length cap3, .bool d.opq, .slice a4 d.red.length cap4, .slice a5 d.ens.length cap5] 55 (0, 0)) := bX hb1 (bA (bN w _)); have k0 := bC q1 0; have k1 := bC q1 1; rw [E5.out] at k1; have k2 := bC q1 2; have k3 := bC q1 3; have Q1 := hQq q1; clear q1; have HB1 := hQq (((eA _ _).trans (eA _ _)).trans hb1); clear hb1)
  refine nW (P := fun W => bodyPost _ _ _ _ _ W) _ ?_
  intro W2 hW2
  obtain ⟨hq, hx, hc⟩ := set4 Q2.out (by omega) HB1.out hW2
  refine bodyPost_ret (v := .tuple #[.agg #[.slice a3 d.ats.length cap3, .bool false, .slice a4 d.red.length cap4, .slice a5 d.ens.length cap5], fltV (-1) (6)]) (by simp [results, Tryz.f113, go_sem, bC hq 0, bC hq 1, bC hq 2, bC hq 3]) rfl ?_
  exact ⟨⟨_, _, _, _, _, _, _, _, _, _, _, rfl, .inr ⟨by rw [HX.out.2.2]; exact (by decide), by rw [HX.out.2.1, HX.out.2.2]⟩⟩, hx⟩
 have E2 := hQq e2
 have E5 : Hid (d.opq = false) := hQq (Bool.eq_false_iff.2 fun h => e2 (.inl h))
 have q5 : ¬ 0 < d.red.length := fun h => e2 (.inr h)
 have q2 := lenZ q5
 clear e2
 by_cases e3 : ptsE 1 d.ats = 0
 case neg =>
  have HX := hQq (dr_of (drT_pts E1.out E2.out e3))
  have q3 : (ptsE 1 d.ats != 0) = true := bne_iff_ne.2 e3
  have E3 := hQq e3
  clear e3
  go_enter Tryz.func113, Tryz.ntmps113
  go_wp2_with (first
   | (go_at_call 78; refine (brCheckDir B _ _ d (HD.out.ext ((eA _ _).trans (eA _ _))) HSM.out).mono ?_; rintro e w1 ⟨rfl, hb1⟩; have q2 : w1.heap[w.heap.size + 1]? = some (.cells #[.slice none 0 0, .bool false, .slice none 0 0, .slice none 0 0] 55 (0, 0)) := bX hb1 (blk_at (by simp)); obtain ⟨r0, r1, r2, r3⟩ := b4C q2; have fz : ∀ j, w1.frozen? ⟨w.heap.size + 1, j, none⟩ = false := fun j => bT q2 j; have Q2 := hQq q2; clear q2; have q1 : w1.heap[w.heap.size]? = some (.cells #[.slice a3 d.ats.length cap3, .bool d.opq, .slice a4 d.red.length cap4, .slice a5 d.ens.length cap5] 55 (0, 0)) := bX hb1 (bA (bN w _)); have k0 := bC q1 0; have k1 := bC q1 1; rw [E5.out] at k1; have k2 := bC q1 2; have k3 := bC q1 3; have Q1 := hQq q1; clear q1; have HB1 := hQq (((eA _ _).trans (eA _ _)).trans hb1); clear hb1)
   | (go_at_call 160; refine (ovRead _ d.ats _ (HL.out.ext HB1.out) ((HA.out.ext okA HB1.out).attrs) HSM.out.ats).mono ?_; rintro e w3 ⟨⟨v3, bm, n3, rfl, hv3, hmp, hbm⟩, hb3⟩; obtain ⟨a7, cap7, rfl, -, -⟩ := hv3.1; clear r0 r1 r2 r3 fz k0 k1 k2 k3; have q2 : w3.heap[w.heap.size + 1]? = some (.cells #[.slice none 0 0, .bool false, .slice none 0 0, .slice none 0 0] 55 (0, 0)) := bX hb3 Q2.out; obtain ⟨r0, r1, r2, r3⟩ := b4C q2; have fz : ∀ j, w3.frozen? ⟨w.heap.size + 1, j, none⟩ = false := fun j => bT q2 j; have Q2 := hQq q2; clear q2; have q1x := bX hb3 Q1.out; obtain ⟨k0, k1, k2, k3⟩ := b4C q1x; have R1 := hQq q1x; have hz1 := bL q1x; have hz2 := bL Q2.out; have HV3 := hQq hv3; have HMP := hQq (hmp.ext (eA w3 (.cells #[.string (valM (ptsO 1 d.ats) opqW), .string (valM (ptsO 1 d.ats) reW), .string (valM (ptsO 1 d.ats) nlW)] 129))); have lkN := thM_lookN HMP.out; have HB3 := hQq (HB1.out.trans hb3); rw [E5.out] at k1; clear hv3 hmp hbm hb3 q1x)
   | fail)
  refine nW (P := fun W => bodyPost _ _ _ _ _ W) _ ?_
  intro W2 hW2
  have hW3 : W2 = (setL w3 (w.heap.size + 1) 0 [.slice a3 d.ats.length cap3, .bool false, .slice a4 d.red.length cap4, .slice a5 d.ens.length cap5]).alloc (.cells #[.string (valM (ptsO 1 d.ats) opqW), .string (valM (ptsO 1 d.ats) reW), .string (valM (ptsO 1 d.ats) nlW)] 129) := hW2
  obtain ⟨hq, hx⟩ := put4a (w := w) Q2.out (by omega) HB3.out hW3
  refine bodyPost_ret (v := .tuple #[.agg #[.slice a3 d.ats.length cap3, .bool false, .slice a4 d.red.length cap4, .slice a5 d.ens.length cap5], fltV (-1) (ptsE 1 d.ats)]) (by simp [results, Tryz.f113, go_sem, bC hq 0, bC hq 1, bC hq 2, bC hq 3]) rfl ?_
  exact ⟨⟨_, _, _, _, _, _, _, _, _, _, _, rfl, .inr ⟨by rw [HX.out.2.2]; exact E3.out, by rw [HX.out.2.1, HX.out.2.2]⟩⟩, hx⟩
 have E3 := hQq e3
 clear e3
 cases e4 : isM (ptsO 1 d.ats) nlW
 case true =>
  have HX := hQq (dr_of (drT_link E1.out E2.out E3.out e4))
  have E4 := hQq e4
  clear e4
  go_enter Tryz.func113, Tryz.ntmps113
  go_wp2_with (first
   | (go_at_call 78; refine (brCheckDir B _ _ d (HD.out.ext ((eA _ _).trans (eA _ _))) HSM.out).mono ?_; rintro e w1 ⟨rfl, hb1⟩; have q2 : w1.heap[w.heap.size + 1]? = some (.cells #[.slice none 0 0, .bool false, .slice none 0 0, .slice none 0 0] 55 (0, 0)) := bX hb1 (blk_at (by simp)); obtain ⟨r0, r1, r2, r3⟩ := b4C q2; have fz : ∀ j, w1.frozen? ⟨w.heap.size + 1, j, none⟩ = false := fun j => bT q2 j; have Q2 := hQq q2; clear q2; have q1 : w1.heap[w.heap.size]? = some (.cells #[.slice a3 d.ats.length cap3, .bool d.opq, .slice a4 d.red.length cap4, .slice a5 d.ens.length cap5] 55 (0, 0)) := bX hb1 (bA (bN w _)); have k0 := bC q1 0; have k1 := bC q1 1; rw [E5.out] at k1; have k2 := bC q1 2; have k3 := bC q1 3; have Q1 := hQq q1; clear q1; have HB1 := hQq (((eA _ _).trans (eA _ _)).trans hb1); clear hb1)
   | (go_at_call 160; refine (ovRead _ d.ats _ (HL.out.ext HB1.out) ((HA.out.ext okA HB1.out).attrs) HSM.out.ats).mono ?_; rintro e w3 ⟨⟨v3, bm, n3, rfl, hv3, hmp, hbm⟩, hb3⟩; obtain ⟨a7, cap7, rfl, -, -⟩ := hv3.1; clear r0 r1 r2 r3 fz k0 k1 k2 k3; have q2 : w3.heap[w.heap.size + 1]? = some (.cells #[.slice none 0 0, .bool false, .slice none 0 0, .slice none 0 0] 55 (0, 0)) := bX hb3 Q2.out; obtain ⟨r0, r1, r2, r3⟩ := b4C q2; have fz : ∀ j, w3.frozen? ⟨w.heap.size + 1, j, none⟩ = false := fun j => bT q2 j; have Q2 := hQq q2; clear q2; have q1x := bX hb3 Q1.out; obtain ⟨k0, k1, k2, k3⟩ := b4C q1x; have R1 := hQq q1x; have hz1 := bL q1x; have hz2 := bL Q2.out; have HV3 := hQq hv3; have HMP := hQq (hmp.ext (eA w3 (.cells #[.string (valM (ptsO 1 d.ats) opqW), .string (valM (ptsO 1 d.ats) reW), .string (valM (ptsO 1 d.ats) nlW)] 129))); have lkN := thM_lookN HMP.out; have HB3 := hQq (HB1.out.trans hb3); rw [E5.out] at k1; rw [E4.out] at lkN; rw [E3.out]; clear hv3 hmp hbm hb3 q1x)
   | fail)
  refine nW (P := fun W => bodyPost _ _ _ _ _ W) _ ?_
  intro W2 hW2
  have hW3 : W2 = (setL w3 (w.heap.size + 1) 0 [.slice a3 d.ats.length cap3, .bool false, .slice a4 d.red.length cap4, .slice a5 d.ens.length cap5]).alloc (.cells #[.string (valM (ptsO 1 d.ats) opqW), .string (valM (ptsO 1 d.ats) reW), .string (valM (ptsO 1 d.ats) nlW)] 129) := hW2
  obtain ⟨hq, hx⟩ := put4a (w := w) Q2.out (by omega) HB3.out hW3
  refine bodyPost_ret (v := .tuple #[.agg #[.slice a3 d.ats.length cap3, .bool false, .slice a4 d.red.length cap4, .slice a5 d.ens.length cap5], fltV (-1) (18)]) (by simp [results, Tryz.f113, go_sem, bC hq 0, bC hq 1, bC hq 2, bC hq 3]) rfl ?_
  exact ⟨⟨_, _, _, _, _, _, _, _, _, _, _, rfl, .inr ⟨by rw [HX.out.2.2]; exact (by decide), by rw [HX.out.2.1, HX.out.2.2]⟩⟩, hx⟩
 case false =>
 have E4 := hQq e4
 have HTZ : Hid ((valM (ptsO 1 d.ats) reW).size <= 1000000) := hQq (valM_size HSM.out.ats)
 clear e4
 obtain ⟨o, ho⟩ : ∃ o, turnO (ptsO 1 d.ats) = o := ⟨_, rfl⟩
 have HOQ := hQq ho
 obtain ⟨te, hte⟩ : ∃ te, turnE (ptsO 1 d.ats) = te := ⟨_, rfl⟩
 have HTE := hQq hte
 clear ho hte
 go_enter Tryz.func113, Tryz.ntmps113
 go_upto_region 12 with (first
   | (go_at_call 78; refine (brCheckDir B _ _ d (HD.out.ext ((eA _ _).trans (eA _ _))) HSM.out).mono ?_; rintro e w1 ⟨rfl, hb1⟩; have q2 : w1.heap[w.heap.size + 1]? = some (.cells #[.slice none 0 0, .bool false, .slice none 0 0, .slice none 0 0] 55 (0, 0)) := bX hb1 (blk_at (by simp)); obtain ⟨r0, r1, r2, r3⟩ := b4C q2; have fz : ∀ j, w1.frozen? ⟨w.heap.size + 1, j, none⟩ = false := fun j => bT q2 j; have Q2 := hQq q2; clear q2; have q1 : w1.heap[w.heap.size]? = some (.cells #[.slice a3 d.ats.length cap3, .bool d.opq, .slice a4 d.red.length cap4, .slice a5 d.ens.length cap5] 55 (0, 0)) := bX hb1 (bA (bN w _)); have k0 := bC q1 0; have k1 := bC q1 1; rw [E5.out] at k1; have k2 := bC q1 2; have k3 := bC q1 3; have Q1 := hQq q1; clear q1; have HB1 := hQq (((eA _ _).trans (eA _ _)).trans hb1); clear hb1)
   | (go_at_call 160; refine (ovRead _ d.ats _ (HL.out.ext HB1.out) ((HA.out.ext okA HB1.out).attrs) HSM.out.ats).mono ?_; rintro e w3 ⟨⟨v3, bm, n3, rfl, hv3, hmp, hbm⟩, hb3⟩; obtain ⟨a7, cap7, rfl, -, -⟩ := hv3.1; clear r0 r1 r2 r3 fz k0 k1 k2 k3; have q2 : w3.heap[w.heap.size + 1]? = some (.cells #[.slice none 0 0, .bool false, .slice none 0 0, .slice none 0 0] 55 (0, 0)) := bX hb3 Q2.out; obtain ⟨r0, r1, r2, r3⟩ := b4C q2; have fz : ∀ j, w3.frozen? ⟨w.heap.size + 1, j, none⟩ = false := fun j => bT q2 j; have Q2 := hQq q2; clear q2; have q1x := bX hb3 Q1.out; obtain ⟨k0, k1, k2, k3⟩ := b4C q1x; have R1 := hQq q1x; have hz1 := bL q1x; have hz2 := bL Q2.out; have HV3 := hQq hv3; have HMP := hQq (hmp.ext (eA w3 (.cells #[.string (valM (ptsO 1 d.ats) opqW), .string (valM (ptsO 1 d.ats) reW), .string (valM (ptsO 1 d.ats) nlW)] 129))); have lkN := thM_lookN HMP.out; have HB3 := hQq (HB1.out.trans hb3); rw [E5.out] at k1; rw [E4.out] at lkN; rw [E3.out]; clear hv3 hmp hbm hb3 q1x)
   | (go_at_call 161; refine (ovTurn (ptsO 1 d.ats) bm n3 _ (HL.out.ext (HB3.out.trans (eA _ _))) HMP.out HTZ.out).mono ?_; rintro e w4 ⟨⟨a8, cap8, rfl, ho4⟩, hb4⟩; have HR4 := hQq ho4; have HB4 : Hid (Ext w3 w4) := hQq ((eA _ _).trans hb4); clear r0 r1 r2 r3 fz k0 k1 k2 k3 lkN hz1 hz2; have q2 : w4.heap[w.heap.size + 1]? = some (.cells #[.slice none 0 0, .bool false, .slice none 0 0, .slice none 0 0] 55 (0, 0)) := bX HB4.out Q2.out; obtain ⟨r0, r1, r2, r3⟩ := b4C q2; have fz : ∀ j, w4.frozen? ⟨w.heap.size + 1, j, none⟩ = false := fun j => bT q2 j; have Q2 := hQq q2; clear q2; have q1y := bX HB4.out R1.out; obtain ⟨k0, k1, k2, k3⟩ := b4C q1y; have S1 := hQq q1y; have hz1 := bL q1y; have hz2 := bL Q2.out; rw [HOQ.out, HTE.out]; rw [E5.out] at k1; clear ho4 hb4 q1y)
   | fail)
 by_cases e6 : te ≠ 0 \/ (o = true /\ 0 < (turnR (ptsO 1 d.ats)).length)
 case pos =>
  have HX := hQq (dr_of (drT_turn E1.out E2.out E3.out E4.out (by rw [HTE.out, HOQ.out]; exact e6)))
  by_cases e7 : te = 0
  case neg =>
   have q7 : (te != 0) = true := bne_iff_ne.2 e7
   clear e6 e7
   go_wp2
   refine nW (P := fun W => bodyPost _ _ _ _ _ W) _ ?_
   intro W2 hW2
   obtain ⟨hq, hx, hc⟩ := set4 Q2.out (by omega) (HB3.out.trans HB4.out) hW2
   refine bodyPost_ret (v := .tuple #[.agg #[.slice a3 d.ats.length cap3, .bool false, .slice a4 d.red.length cap4, .slice a5 d.ens.length cap5], fltV (-1) (6)]) (by simp [results, Tryz.f113, go_sem, bC hq 0, bC hq 1, bC hq 2, bC hq 3]) rfl ?_
   exact ⟨⟨_, _, _, _, _, _, _, _, _, _, _, rfl, .inr ⟨by rw [HX.out.2.2]; exact (by decide), by rw [HX.out.2.1, HX.out.2.2]⟩⟩, hx⟩
  obtain ⟨e8, e9⟩ := e6.resolve_left (fun h => h e7)
  have q7 : (te != 0) = false := bne_eq_false_iff_eq.2 e7
  have q8 := lenP e9
  have q9 : decide (0 < (turnR (ptsO 1 d.ats)).length) = true := decide_eq_true e9
  subst e8
  clear e6 e7 e9
  go_wp2
  refine nW (P := fun W => bodyPost _ _ _ _ _ W) _ ?_
  intro W2 hW2
  obtain ⟨hq, hx, hc⟩ := set4 Q2.out (by omega) (HB3.out.trans HB4.out) hW2
  refine bodyPost_ret (v := .tuple #[.agg #[.slice a3 d.ats.length cap3, .bool false, .slice a4 d.red.length cap4, .slice a5 d.ens.length cap5], fltV (-1) (6)]) (by simp [results, Tryz.f113, go_sem, bC hq 0, bC hq 1, bC hq 2, bC hq 3]) rfl ?_
  exact ⟨⟨_, _, _, _, _, _, _, _, _, _, _, rfl, .inr ⟨by rw [HX.out.2.2]; exact (by decide), by rw [HX.out.2.1, HX.out.2.2]⟩⟩, hx⟩
 exact absurd ⟨E1.out, E2.out, E3.out, E4.out, by rw [HTE.out, HOQ.out]; exact e6⟩ hE
def DirX (w : World) (d : DiN) (n er : Int) (e : Ending) (w' : World) : Prop := (∃ v' B', e = .returned (.tuple #[v', .int .i64 n, .int .i64 er]) /\ DirIn B' w' v' d /\ w.heap.size <= B' /\ B' <= w'.heap.size) /\ Ext w w'
theorem ovDecodeDir1 (B : Nat) (w : World) (v : Value) (d : DiN) (hL : LaidO w) (hd : DirIn B w v d) (hB : B <= w.heap.size) (hsm : SmallD d) (hns : NsOk d) :
  Calls Tryz.prog 113 #[v] w (FltP w (drD d) (drN d) (drE d)) := by
 by_cases h : dirE d = 0 /\ ¬ (d.opq = true \/ 0 < d.red.length) /\ ptsE 1 d.ats = 0 /\ isM (ptsO 1 d.ats) nlW = false /\ ¬ (turnE (ptsO 1 d.ats) ≠ 0 \/ (turnO (ptsO 1 d.ats) = true /\ 0 < (turnR (ptsO 1 d.ats)).length))
 ·exact ovDecodeDirM B w v d hL hd hB hsm hns h.1 h.2.1 h.2.2.1 h.2.2.2.1 h.2.2.2.2
 ·exact ovDecodeDir0 B w v d hL hd hB hsm hns h
set_option maxRecDepth 100000 in
set_option maxHeartbeats 16000000 in
theorem ovDecodeDir (B : Nat) (w : World) (v : Value) (d : DiN) (hL : LaidO w) (hT : ErrT w) (hd : DirIn B w v d) (hB : B <= w.heap.size) (hsm : SmallD d) (hns : NsOk d) :
  Calls Tryz.prog 42 #[v] w (DirX w (drD d) (drN d) (drE d)) := by
 have HD := hQq hd
 obtain ⟨va, vr, ve, rfl, ha, hr, he⟩ := hd
 have HSM := hQq hsm; have HL := hQq hL; have HNS := hQq hns; have HT := hQq hT
 obtain ⟨a3, cap3, rfl⟩ := ha.form
 obtain ⟨a4, cap4, rfl⟩ := hr.form
 obtain ⟨a5, cap5, rfl⟩ := he.form
 clear ha hr he hsm hL hns hT
 by_cases e1 : drE d = 0
 case neg =>
  have HX := hQq (dr_err e1)
  have E1 := hQq e1
  clear e1
  go_enter Tryz.func42, Tryz.ntmps42
  go_wp2_with (first
   | (go_at_call 113; refine (ovDecodeDir1 B _ _ d (HL.out.ext ((eA _ _).trans (eA _ _))) (HD.out.ext ((eA _ _).trans (eA _ _))) (by simp; omega) HSM.out HNS.out).mono ?_; rintro e w1 ⟨⟨b0, n0, c0, o, b1, n1, c1, b2, n2, c2, ev, rfl, hev⟩, hb1⟩; have q2 : w1.heap[w.heap.size + 1]? = some (.cells #[.slice none 0 0, .bool false, .slice none 0 0, .slice none 0 0] 55 (0, 0)) := bX hb1 (blk_at (by simp)); have Q2 := hQq q2; obtain ⟨r0, r1, r2, r3⟩ := b4C q2; have fz : ∀ j, w1.frozen? ⟨w.heap.size + 1, j, none⟩ = false := fun j => bT q2 j; have HB1 := hQq (((eA _ _).trans (eA _ _)).trans hb1); have hs1 := bL q2; clear hb1 q2; have HEV := hQq hev; clear hev; obtain rfl := flt_err HEV.out E1.out; clear HEV)
   | (go_at_call 112; refine (ovAnswer _ _ _ (HT.out.ext (HB1.out.trans (eA _ _)))).mono ?_; rintro e w2 ⟨rfl, hb2⟩; clear r0 r1 r2 r3 fz; have HB2 : Hid (Ext w1 w2) := hQq ((eA _ _).trans hb2); have q3 := bX HB2.out Q2.out; have Q3 := hQq q3; obtain ⟨r0, r1, r2, r3⟩ := b4C q3; have fz : ∀ j, w2.frozen? ⟨w.heap.size + 1, j, none⟩ = false := fun j => bT q3 j; clear q3 hb2))
  refine nW (P := fun W => bodyPost _ _ _ _ _ W) _ ?_
  intro W2 hW2
  obtain ⟨hq, hx, hc⟩ := set4 Q3.out (by omega) (HB1.out.trans HB2.out) hW2
  refine bodyPost_ret (v := .tuple #[.agg #[.slice none 0 0, .bool false, .slice none 0 0, .slice none 0 0], .int .i64 (drN d), .int .i64 (drE d)]) (by simp [results, Tryz.f42, go_sem, bC hq 0, bC hq 1, bC hq 2, bC hq 3]) rfl ?_
  exact ⟨⟨_, w.heap.size, rfl, by rw [HX.out]; exact zDir_in _ _, Nat.le_refl _, hx.size⟩, hx⟩
 have HX := hQq (dr_zero e1).1
 have E1 := hQq e1
 clear e1
 go_enter Tryz.func42, Tryz.ntmps42
 go_wp2_with (go_at_call 113; refine (ovDecodeDir1 B _ _ d (HL.out.ext ((eA _ _).trans (eA _ _))) (HD.out.ext ((eA _ _).trans (eA _ _))) (by simp; omega) HSM.out HNS.out).mono ?_; rintro e w1 ⟨⟨b0, n0, c0, o, b1, n1, c1, b2, n2, c2, ev, rfl, hev⟩, hb1⟩; have q2 : w1.heap[w.heap.size + 1]? = some (.cells #[.slice none 0 0, .bool false, .slice none 0 0, .slice none 0 0] 55 (0, 0)) := bX hb1 (blk_at (by simp)); have Q2 := hQq q2; obtain ⟨r0, r1, r2, r3⟩ := b4C q2; have fz : ∀ j, w1.frozen? ⟨w.heap.size + 1, j, none⟩ = false := fun j => bT q2 j; have HB1 := hQq (((eA _ _).trans (eA _ _)).trans hb1); have hs1 := bL q2; clear hb1 q2; have HEV := hQq hev; clear hev; obtain ⟨rfl, hdi⟩ := flt_ok HEV.out E1.out; have HDI := hQq hdi; clear HEV hdi)
 refine nW (P := fun W => bodyPost _ _ _ _ _ W) _ ?_
 intro W2 hW2
 have hW3 : W2 = (setL w1 (w.heap.size + 1) 0 [.slice b0 n0 c0, .bool o, .slice b1 n1 c1, .slice b2 n2 c2]).alloc (.cells #[.slice b0 n0 c0, .bool o, .slice b1 n1 c1, .slice b2 n2 c2] 55 (0, 0)) := hW2
 obtain ⟨hq, hx⟩ := put4a (w := w) Q2.out (by omega) HB1.out hW3
 obtain ⟨-, -, hc⟩ := set4 (y0 := .slice b0 n0 c0) (y1 := .bool o) (y2 := .slice b1 n1 c1) (y3 := .slice b2 n2 c2) Q2.out (by omega) HB1.out rfl
 refine bodyPost_ret (v := .tuple #[.agg #[.slice b0 n0 c0, .bool o, .slice b1 n1 c1, .slice b2 n2 c2], .int .i64 0, .int .i64 0]) (by simp [results, Tryz.f42, go_sem, bC hq 0, bC hq 1, bC hq 2, bC hq 3]) rfl ?_
 exact ⟨⟨_, _, by rw [HX.out, E1.out], by rw [hW3]; exact (HDI.out.keepX (setL_keep _ _ _) (Nat.le_of_eq (setL_size _ _ _).symm) (no_str Q2.out)).ext (eA _ _), by simp; omega, by rw [hW3]; have := bL Q2.out; simp [setL_size]; omega⟩, hx⟩
set_option maxRecDepth 100000 in
set_option maxHeartbeats 16000000 in
theorem law21left (B B2 : Nat) (w : World) (u v : Value) (d n : DiN) (hu : DirIn B w u d) (hv : DirIn B2 w v n) (hB : B <= w.heap.size) (hB2 : B2 <= w.heap.size) (hl : d.ens.length <= 1000) :
  Calls Tryz.prog 43 #[u, v] w fun e w' => (∃ v' B', e = .returned v' /\ DirIn B' w' v' (leftD d n) /\ w.heap.size <= B' /\ B' <= w'.heap.size) /\ Ext w w' := by
 obtain ⟨va, vr, ve, rfl, ha, hr, he⟩ := hu
 obtain ⟨vb, vs, vf, rfl, hb, hs, hf⟩ := hv
 have HA := hQq (ha.mono okA hB); have HR := hQq (hr.mono okS hB); have HE := hQq he; have HF := hQq hf
 obtain ⟨a3, cap3, rfl⟩ := ha.form
 obtain ⟨a4, cap4, rfl⟩ := hr.form
 obtain ⟨a5, cap5, rfl⟩ := he.form
 obtain ⟨b3, dap3, rfl⟩ := hb.form
 obtain ⟨b4, dap4, rfl⟩ := hs.form
 obtain ⟨b5, dap5, rfl⟩ := hf.form
 clear ha hr he hb hs hf
 go_enter Tryz.func43, Tryz.ntmps43
 go_upto_region 3 with fail
 refine nW (P := fun W => Code.wp _ _ _ _ W) _ ?_
 intro W0 hW0
 have HST0 : Hid (LeSt w #[.slice a3 d.ats.length cap3, .bool d.opq, .slice a4 d.red.length cap4, .slice a5 d.ens.length cap5] #[.slice b3 n.ats.length dap3, .bool n.opq, .slice b4 n.red.length dap4, .slice b5 n.ens.length dap5] (.slice a3 d.ats.length cap3) d.ats d.opq (.slice a4 d.red.length cap4) d.red (.slice none 0 0) [] W0) := hQq (by
  have e : Ext w W0 := by rw [hW0]; exact (((eA _ _).trans (eA _ _)).trans (eA _ _)).trans (eA _ _)
  refine ⟨?_, ?_, ?_, ?_, OwnL.nil _ _ _, HA.out.ext okA e, HR.out.ext okS e, e⟩
  ·rw [hW0]; exact bA (bA (bA (bN w _)))
  ·rw [hW0]; exact bA (bA (blk_at (by simp)))
  ·rw [hW0]; exact bA (blk_at (by simp))
  ·rw [hW0]; exact blk_at (by simp))
 clear hW0
 go_wp2_with fail
 go_loopw [6] (fun i w' => ∃ (wi : World) (k : Nat) (ve : Value), wi = w' /\ k <= d.ens.length /\ i = .int .i64 k /\ LeSt w #[.slice a3 d.ats.length cap3, .bool d.opq, .slice a4 d.red.length cap4, .slice a5 d.ens.length cap5] #[.slice b3 n.ats.length dap3, .bool n.opq, .slice b4 n.red.length dap4, .slice b5 n.ens.length dap5] (.slice a3 d.ats.length cap3) d.ats d.opq (.slice a4 d.red.length cap4) d.red ve ((List.range k).map (fun i => leftX n.ens i (getE d.ens i))) wi) (fun i _ => d.ens.length - (intOf i).toNat)
 case atStart => exact ⟨_, 0, _, rfl, Nat.zero_le _, by go_num, HST0.out⟩
 case round =>
  clear HST0
  obtain ⟨wi, k, ve, rfl, hk, rfl, hst⟩ := hrel
  obtain ⟨es, hes⟩ : ∃ es, es = (List.range k).map (fun i => leftX n.ens i (getE d.ens i)) := ⟨_, rfl⟩
  rw [<- hes] at hst
  have HES := hQq hes; have HST := hQq hst
  clear hes
  obtain ⟨a8, cap8, rfl⟩ := hst.own.form
  clear hst
  obtain ⟨k0, k1, k2, k3⟩ := b4C HST.out.box
  have n3 := bC HST.out.neu 3
  obtain ⟨o0, o1, o2, o3⟩ := b4C HST.out.out
  have hsz := bL HST.out.out; have hsn := bL HST.out.neu
  by_cases hlt : k < d.ens.length
  case neg =>
   obtain rfl : k = d.ens.length := by omega
   obtain ⟨r0, r1, r2, r3⟩ := b4C HST.out.res
   have fz : ∀ j, wi.frozen? ⟨w.heap.size + 2, j, none⟩ = false := fun j => bT HST.out.res j
   have HTK : Hid (es = leftL d.ens n.ens) := hQq HES.out
   go_wp2
   refine nW (P := fun W => bodyPost _ _ _ _ _ W) _ ?_
   intro W2 hW2
   obtain ⟨hq, hx, hc⟩ := set4 HST.out.res (by omega) HST.out.ext hW2
   refine bodyPost_ret (v := .agg #[.slice a3 d.ats.length cap3, .bool d.opq, .slice a4 d.red.length cap4, .slice a8 es.length cap8]) (by simp [results, Tryz.f43, go_sem, bC hq 0, bC hq 1, bC hq 2, bC hq 3]) rfl ?_
   refine ⟨⟨_, w.heap.size, rfl, ?_, Nat.le_refl _, hx.size⟩, hx⟩
   exact ⟨_, _, _, rfl, HST.out.ats.chg okA (hcB (Nat.le_succ _) hc HST.out.res) (by decide) (by decide), HST.out.red.chg okS (hcB (Nat.le_succ _) hc HST.out.res) (by decide) (by decide), by have h := (HST.out.own.in okE).chg okE (hcB (Nat.le_succ _) hc HST.out.res) (by decide) (by decide); rw [show (leftD d n).ens = es from HTK.out.symm]; exact h⟩
  obtain ⟨b, off, va, hex, hbx, hva, c0, c1, c2, c3, c4, c5, c6, c7, c8, c9, c10, c11⟩ := (HE.out.ext okE HST.out.ext).en k hlt
  cases hex
  have HVA := hQq (hva.mono okA hB)
  obtain ⟨a6, cap6, rfl⟩ := hva.form
  have HTK := hQq (left_snoc d.ens n.ens k)
  rw [<- HES.out, getE_at d.ens k hlt] at HTK
  have HLN : Hid (es.length <= k) := hQq (by rw [HES.out, List.length_map, List.length_range]; omega)
  generalize d.ens[k]'hlt = x at c0 c1 c2 c3 c4 c5 c6 c7 c8 c9 c10 c11 HVA HTK
  have j1 : ((k : Nat) : Int) < (d.ens.length : Int) := by omega
  have j0 : (0 : Int) <= (k : Int) := by omega
  obtain ⟨y, hy⟩ : ∃ y, y = leftX n.ens k x := ⟨_, rfl⟩
  rw [<- hy] at HTK
  have HY := hQq hy
  clear hva hy
  have hcase : x.fi = true \/ (x.fi = false /\ k < n.ens.length) \/ (x.fi = false /\ ¬ k < n.ens.length) := by
   cases x.fi
   ·by_cases e : k < n.ens.length
    ·exact .inr (.inl ⟨rfl, e⟩)
    ·exact .inr (.inr ⟨rfl, e⟩)
   ·exact .inl rfl
  rcases hcase with hfi | ⟨hfi, hkn⟩ | ⟨hfi, hkn⟩
  case' inl =>
   rw [hfi] at c10
   have HFI := hQq hfi
   clear hfi
   go_upto_region 9 with fail
   refine nW (P := fun W => Code.wp _ _ _ _ W) _ ?_
   intro W hW
   have hW2 : W = wi.alloc (.cells #[.string x.nm, .int .i64 x.nd.dep, .string x.nd.nm, .int .i64 x.nd.kd, .slice a6 x.nd.ats.length cap6, .string x.nd.dat, .int .i64 x.nd.ma, .int .i64 x.nd.mi, .int .i64 x.nd.cl, .bool x.wh, .bool true, .int .i64 x.ns] 98 (0, 0)) := hW
   have HXW := hQq (show Ext wi W from by rw [hW2]; exact eA _ _)
   obtain ⟨ay, capy, hqy, hvy⟩ : ∃ ay capy, W.heap[wi.heap.size]? = some (.cells #[.string y.nm, .int .i64 y.nd.dep, .string y.nd.nm, .int .i64 y.nd.kd, .slice ay y.nd.ats.length capy, .string y.nd.dat, .int .i64 y.nd.ma, .int .i64 y.nd.mi, .int .i64 y.nd.cl, .bool y.wh, .bool y.fi, .int .i64 y.ns] 98 (0, 0)) /\ AttIn w.heap.size W (.slice ay y.nd.ats.length capy) y.nd.ats := by
    rw [hW2, HY.out]
    unfold leftX
    rw [if_neg (by rw [HFI.out]; rintro ⟨e, _⟩; cases e)]
    exact ⟨_, _, by rw [HFI.out]; exact bN wi _, HVA.out.ext okA (eA _ _)⟩
   clear HFI
  case' inr.inl =>
   rw [hfi] at c10
   have HFI := hQq hfi
   obtain ⟨bn, ofn, vn, hexn, hbn, hvn, -, -, -, -, e4, -, -, -, -, -, -, -⟩ := (HF.out.ext okE HST.out.ext).en k hkn
   cases hexn
   have HVN := hQq (hvn.mono okA hB2)
   obtain ⟨a9, cap9, rfl⟩ := hvn.form
   have HGN := hQq (getE_at n.ens k hkn)
   generalize n.ens[k]'hkn = z at e4 HVN HGN
   have j2 : ((k : Nat) : Int) < (n.ens.length : Int) := by omega
   have HKN := hQq hkn
   clear hfi hvn
   go_upto_region 9 with fail
   refine nW (P := fun W => Code.wp _ _ _ _ W) _ ?_
   intro W hW
   have hW2 : W = wi.alloc (.cells #[.string x.nm, .int .i64 x.nd.dep, .string x.nd.nm, .int .i64 x.nd.kd, .slice a9 z.nd.ats.length cap9, .string x.nd.dat, .int .i64 x.nd.ma, .int .i64 x.nd.mi, .int .i64 x.nd.cl, .bool x.wh, .bool false, .int .i64 x.ns] 98 (0, 0)) := hW
   have HXW := hQq (show Ext wi W from by rw [hW2]; exact eA _ _)
   obtain ⟨ay, capy, hqy, hvy⟩ : ∃ ay capy, W.heap[wi.heap.size]? = some (.cells #[.string y.nm, .int .i64 y.nd.dep, .string y.nd.nm, .int .i64 y.nd.kd, .slice ay y.nd.ats.length capy, .string y.nd.dat, .int .i64 y.nd.ma, .int .i64 y.nd.mi, .int .i64 y.nd.cl, .bool y.wh, .bool y.fi, .int .i64 y.ns] 98 (0, 0)) /\ AttIn w.heap.size W (.slice ay y.nd.ats.length capy) y.nd.ats := by
    rw [hW2, HY.out]
    unfold leftX
    rw [if_pos ⟨HFI.out, HKN.out⟩, HGN.out]
    exact ⟨_, _, by rw [HFI.out]; exact bN wi _, HVN.out.ext okA (eA _ _)⟩
   clear HFI HVN HGN HKN hkn j2 e4
  case' inr.inr =>
   rw [hfi] at c10
   have HFI := hQq hfi
   have j2 : ¬ ((k : Nat) : Int) < (n.ens.length : Int) := by omega
   have HKN := hQq hkn
   clear hfi
   go_upto_region 9 with fail
   refine nW (P := fun W => Code.wp _ _ _ _ W) _ ?_
   intro W hW
   have hW2 : W = wi.alloc (.cells #[.string x.nm, .int .i64 x.nd.dep, .string x.nd.nm, .int .i64 x.nd.kd, .slice a6 x.nd.ats.length cap6, .string x.nd.dat, .int .i64 x.nd.ma, .int .i64 x.nd.mi, .int .i64 x.nd.cl, .bool x.wh, .bool false, .int .i64 x.ns] 98 (0, 0)) := hW
   have HXW := hQq (show Ext wi W from by rw [hW2]; exact eA _ _)
   obtain ⟨ay, capy, hqy, hvy⟩ : ∃ ay capy, W.heap[wi.heap.size]? = some (.cells #[.string y.nm, .int .i64 y.nd.dep, .string y.nd.nm, .int .i64 y.nd.kd, .slice ay y.nd.ats.length capy, .string y.nd.dat, .int .i64 y.nd.ma, .int .i64 y.nd.mi, .int .i64 y.nd.cl, .bool y.wh, .bool y.fi, .int .i64 y.ns] 98 (0, 0)) /\ AttIn w.heap.size W (.slice ay y.nd.ats.length capy) y.nd.ats := by
    rw [hW2, HY.out]
    unfold leftX
    rw [if_neg (by rintro ⟨_, e⟩; exact HKN.out e)]
    exact ⟨_, _, by rw [HFI.out]; exact bN wi _, HVA.out.ext okA (eA _ _)⟩
   clear HFI HKN hkn j2
  all_goals
   have HQW := hQq hqy; have HVY := hQq hvy
   clear hW hW2 hqy hvy c0 c1 c2 c3 c4 c5 c6 c7 c8 c9 c10 c11 k0 k1 k2 k3 n3 o0 o1 o2 o3
   have o3 := bC (bX HXW.out HST.out.out) 3
   obtain ⟨z0, z1, z2, z3, z4, z5, z6, z7, z8, z9, z10, z11⟩ := b12C HQW.out
   go_wp2_with (at_builtin; go_loud (refine appL okE rfl (.tmp 42) (.tmp 44) rfl (.slice a8 es.length cap8) _ es [y] w _ (by rfl) (by rfl) (by exact (HST.out.up HXW.out).own.ext okE (eA _ _)) (by exact listIn_new okE _ y [.string y.nm, .int .i64 y.nd.dep, .string y.nd.nm, .int .i64 y.nd.kd, .slice ay y.nd.ats.length capy, .string y.nd.dat, .int .i64 y.nd.ma, .int .i64 y.nd.mi, .int .i64 y.nd.cl, .bool y.wh, .bool y.fi, .int .i64 y.ns] _ (by first | rfl | simp) ⟨_, HVY.out, rfl⟩) (by exact (HST.out.up HXW.out).ext.trans (eA _ _)) (by exact ((HST.out.up HXW.out).ext.trans (eA _ _)).size) (by have := HLN.out; simp only [List.length_singleton]; omega) ?_; intro v5 w5 hap; have hou := LeSt.app ((HST.out.up HXW.out).up (eA _ _)) hap; have p3 := bC hou 3; have fp : ∀ j, w5.frozen? ⟨w.heap.size + 3, j, none⟩ = false := fun j => bT hou j; obtain ⟨a10, cap10, rfl⟩ := hap.own.form; rw [len_snoc] at hap; have HAP := hQq hap; clear hap hou))
   go_roundw
   case rel => exact ⟨_, k + 1, _, rfl, by omega, by go_num, by rw [HTK.out]; exact ((HST.out.up HXW.out).up (eA _ _)).step HAP.out⟩
   case measure => first | (simp [intOf]; done) | (simp [intOf]; omega)
end Go.Proofs.YtimpejaaeinplaaGreatDoor
