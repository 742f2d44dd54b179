/- FuseDirs is proved: for every directory the law returns true; a larger directory is answered by the fixed calls alone. -/
import Derived.Test.YtimpejaaeinplaaGreatDoorJI6
import Derived.Test.YtimpejaaeinplaaGreatDoorJbDirN
import Derived.Test.YtimpejaaeinplaaGreatDoorJfOpenA
import Derived.Test.YtimpejaaeinplaaGreatDoorJcFuNeD
import Derived.Test.YtimpejaaeinplaaGreatDoorJfOrG
namespace Go.Proofs.YtimpejaaeinplaaGreatDoor.lwFuseDirs
open Go.ChangeShapes Go.WideShapes Go.ChangeAt Go.RowKit
open Go.ChangeMaps (open_string shut_string)
set_option maxHeartbeats 16000000 in
set_option maxRecDepth 100000 in
theorem walk (a0 b0 c0 : Addr) (v : Value) (d : DiN) (w : World) (hv : DirIn w.heap.size w v d) (hns : NsOk d) (hL : LaidF w a0 b0 c0) : RetB Tryz.prog 8 #[v] w (.bool true) := by
 unfold RetB
 have HD := hQq hv; have HL := hQq hL; have HNS := hQq hns
 obtain ⟨va, vr, ve, rfl, ha, hr, he⟩ := hv
 obtain ⟨a3, cap3, rfl⟩ := ha.form
 obtain ⟨a4, cap4, rfl⟩ := hr.form
 obtain ⟨a5, cap5, rfl⟩ := he.form
 clear ha hr he hL hns
 go_enter Tryz.func8, Tryz.ntmps8
 go_wp2_with fail
 refine (law22wide w.heap.size _ d _ (HD.out.ext (eA _ _))).mono ?_
 rintro e wi ⟨r, rfl, hwide, hb0⟩
 have HI : Hid (Ext w wi) := hQq ((eA _ _).trans hb0)
 cases r
 case true =>
  clear hwide hb0
  go_wp2_with (go_at_call 12; refine (law22awake a0 b0 c0 _ (HL.out.ext HI.out)).mono ?_; rintro e w9 ⟨rfl, hb9⟩; have HB9 := hQq hb9; clear hb9)
  go_ret
  exact ⟨rfl, HI.out.trans HB9.out⟩
 have SMD := hQq (wide_small (hwide rfl))
 have BD1 := hQq (bd_fc SMD.out); have BD2 := hQq (bd_fr SMD.out)
 have QI : Hid (wi.heap[w.heap.size]? = some (.cells #[.slice a3 d.ats.length cap3, .bool d.opq, .slice a4 d.red.length cap4, .slice a5 d.ens.length cap5] 55 (0, 0))) := hQq (bX hb0 (bN _ _))
 clear hwide hb0
 obtain ⟨k0, k1, k2, k3⟩ := b4C QI.out
 go_wp2_with fail
 refine (fuEncodeDir a0 b0 c0 w.heap.size wi _ d (HL.out.ext HI.out) (HD.out.ext HI.out) HI.out.size SMD.out HNS.out).mono ?_
 rintro e w1 ⟨⟨v1, rfl, hd1⟩, hb1⟩
 have HD1 := hQq hd1
 obtain ⟨x1, y1, z1, rfl, i1, j1, l1⟩ := hd1
 obtain ⟨p1, q1, rfl⟩ := i1.form; obtain ⟨r1, s1, rfl⟩ := j1.form; obtain ⟨t1, u1, rfl⟩ := l1.form
 clear i1 j1 l1
 have QB1 := hQq (bX hb1 QI.out); have H1 := hQq (Ext.trans HI.out hb1)
 clear k0 k1 k2 k3 hb1
 obtain ⟨k0, k1, k2, k3⟩ := b4C QB1.out; have hs1 := bL QB1.out
 go_wp2_with fail
 refine nW (P := fun W => Calls _ _ _ W _) _ ?_
 intro V1 hV1
 have QA1 : Hid (V1.heap[w1.heap.size]? = some (.cells #[.slice p1 (fcD d).ats.length q1, .bool (fcD d).opq, .slice r1 (fcD d).red.length s1, .slice t1 (fcD d).ens.length u1] 55 (0, 0))) := hQq (by rw [hV1]; exact bN _ _)
 have QV1 : Hid (V1.heap[w.heap.size]? = some (.cells #[.slice a3 d.ats.length cap3, .bool d.opq, .slice a4 d.red.length cap4, .slice a5 d.ens.length cap5] 55 (0, 0))) := hQq (by rw [hV1]; exact bA QB1.out)
 have HV1 : Hid (Ext w V1) := hQq (by rw [hV1]; exact H1.out.trans (eA _ _))
 replace HD1 : Hid (DirIn wi.heap.size V1 _ (fcD d)) := hQq (by rw [hV1]; exact HD1.out.ext (eA _ _))
 clear hV1 k0 k1 k2 k3
 refine (frEncodeDir w.heap.size V1 _ d (HD.out.ext HV1.out) HV1.out.size SMD.out HNS.out).mono ?_
 rintro e w2 ⟨⟨v2, rfl, hd2⟩, hb2⟩
 have HD2 := hQq hd2
 obtain ⟨x2, y2, z2, rfl, i2, j2, l2⟩ := hd2
 obtain ⟨p2, q2, rfl⟩ := i2.form; obtain ⟨r2, s2, rfl⟩ := j2.form; obtain ⟨t2, u2, rfl⟩ := l2.form
 clear i2 j2 l2
 have QB2 := hQq (bX hb2 QV1.out); have QA2 := hQq (bX hb2 QA1.out); have H2 := hQq (Ext.trans HV1.out hb2)
 replace HD1 := hQq (HD1.out.ext hb2)
 clear hb2
 obtain ⟨m0, m1, m2, m3⟩ := b4C QA2.out; have hs2 := bL QA2.out
 go_wp2_with fail
 refine nW (P := fun W => Calls _ _ _ W _) _ ?_
 intro V2 hV2
 have QC2 : Hid (V2.heap[w2.heap.size]? = some (.cells #[.slice p2 (fcD d).ats.length q2, .bool (fcD d).opq, .slice r2 (fcD d).red.length s2, .slice t2 (fcD d).ens.length u2] 55 (0, 0))) := hQq (by rw [hV2]; exact bN _ _)
 have QV2 : Hid (V2.heap[w.heap.size]? = some (.cells #[.slice a3 d.ats.length cap3, .bool d.opq, .slice a4 d.red.length cap4, .slice a5 d.ens.length cap5] 55 (0, 0))) := hQq (by rw [hV2]; exact bA QB2.out)
 have QW2 : Hid (V2.heap[w1.heap.size]? = some (.cells #[.slice p1 (fcD d).ats.length q1, .bool (fcD d).opq, .slice r1 (fcD d).red.length s1, .slice t1 (fcD d).ens.length u1] 55 (0, 0))) := hQq (by rw [hV2]; exact bA QA2.out)
 have HV2 : Hid (Ext w V2) := hQq (by rw [hV2]; exact H2.out.trans (eA _ _))
 have HS2 := hQq (show Ext w2 V2 by rw [hV2]; exact eA _ _)
 clear hV2 m0 m1 m2 m3
 refine (refDirSame _ _ _ _ (fcD d) V2 (HD1.out.ext HS2.out) (HD2.out.ext HS2.out) BD1.out.1 BD1.out.2.1 BD1.out.2.2.1 BD1.out.2.2.2).mono ?_
 rintro e w3 ⟨rfl, hb3⟩
 have QB3 := hQq (bX hb3 QV2.out); have QA3 := hQq (bX hb3 QW2.out); have QC3 := hQq (bX hb3 QC2.out); have H3 := hQq (Ext.trans HV2.out hb3)
 clear hb3
 obtain ⟨k0, k1, k2, k3⟩ := b4C QB3.out
 have n1 : (fcN d != fcN d) = false := bne_self_eq_false _; have n2 : (fcE d != fcE d) = false := bne_self_eq_false _
 go_wp2_with fail
 refine (fuDecodeDir a0 b0 c0 w.heap.size w3 _ d (HL.out.ext H3.out) (HD.out.ext H3.out) H3.out.size SMD.out HNS.out).mono ?_
 rintro e w4 ⟨⟨v4, rfl, hd4⟩, hb4⟩
 have HD4 := hQq hd4
 obtain ⟨x4, y4, z4, rfl, i4, j4, l4⟩ := hd4
 obtain ⟨p4, q4, rfl⟩ := i4.form; obtain ⟨r4, s4, rfl⟩ := j4.form; obtain ⟨t4, u4, rfl⟩ := l4.form
 clear i4 j4 l4
 have QB4 := hQq (bX hb4 QB3.out); have QA4 := hQq (bX hb4 QA3.out); have QC4 := hQq (bX hb4 QC3.out); have H4 := hQq (Ext.trans H3.out hb4)
 clear k0 k1 k2 k3 hb4 n1 n2
 obtain ⟨k0, k1, k2, k3⟩ := b4C QB4.out; obtain ⟨m0, m1, m2, m3⟩ := b4C QA4.out; have fm := fun j => bT QA4.out j; have hs4 := bL QC4.out
 go_wp2_with fail
 refine nW (P := fun W => Calls _ _ _ W _) _ ?_
 intro V4 hV4
 replace hV4 : V4 = setL w4 w1.heap.size 0 [.slice p4 (frD d).ats.length q4, .bool (frD d).opq, .slice r4 (frD d).red.length s4, .slice t4 (frD d).ens.length u4] := hV4
 have QA5 : Hid (V4.heap[w1.heap.size]? = some (.cells #[.slice p4 (frD d).ats.length q4, .bool (frD d).opq, .slice r4 (frD d).red.length s4, .slice t4 (frD d).ens.length u4] 55 (0, 0))) := hQq (by rw [hV4, setL_blk _ _ _ _ QA4.out]; rfl)
 have QB5 : Hid (V4.heap[w.heap.size]? = some (.cells #[.slice a3 d.ats.length cap3, .bool d.opq, .slice a4 d.red.length cap4, .slice a5 d.ens.length cap5] 55 (0, 0))) := hQq (by rw [hV4]; exact setL_keep _ _ _ _ _ QB4.out (fun e => by injection e with e; omega))
 have QC5 : Hid (V4.heap[w2.heap.size]? = some (.cells #[.slice p2 (fcD d).ats.length q2, .bool (fcD d).opq, .slice r2 (fcD d).red.length s2, .slice t2 (fcD d).ens.length u2] 55 (0, 0))) := hQq (by rw [hV4]; exact setL_keep _ _ _ _ _ QC4.out (fun e => by injection e with e; omega))
 have HV4 : Hid (Ext w V4) := hQq (by rw [hV4]; exact setL_below (by omega) _ _ _ H4.out)
 replace HD4 : Hid (DirIn w3.heap.size V4 _ (frD d)) := hQq (by rw [hV4]; exact HD4.out.keepX (setL_keep _ _ _) (Nat.le_of_eq (setL_size _ _ _).symm) (no_str QA4.out))
 clear hV4 k0 k1 k2 k3 m0 m1 m2 m3 fm
 refine (frDecodeDir w.heap.size V4 _ d (HD.out.ext HV4.out) HV4.out.size SMD.out HNS.out).mono ?_
 rintro e w5 ⟨⟨v5, rfl, hd5⟩, hb5⟩
 have HD5 := hQq hd5
 obtain ⟨x5, y5, z5, rfl, i5, j5, l5⟩ := hd5
 obtain ⟨p5, q5, rfl⟩ := i5.form; obtain ⟨r5, s5, rfl⟩ := j5.form; obtain ⟨t5, u5, rfl⟩ := l5.form
 clear i5 j5 l5
 have QA6 := hQq (bX hb5 QA5.out); have QC6 := hQq (bX hb5 QC5.out); have H5 := hQq (Ext.trans HV4.out hb5)
 replace HD4 := hQq (HD4.out.ext hb5)
 clear hb5
 obtain ⟨m0, m1, m2, m3⟩ := b4C QA6.out; obtain ⟨o0, o1, o2, o3⟩ := b4C QC6.out; have fo := fun j => bT QC6.out j
 go_wp2_with fail
 refine nW (P := fun W => Calls _ _ _ W _) _ ?_
 intro V5 hV5
 replace hV5 : V5 = setL w5 w2.heap.size 0 [.slice p5 (frD d).ats.length q5, .bool (frD d).opq, .slice r5 (frD d).red.length s5, .slice t5 (frD d).ens.length u5] := hV5
 have HV5 : Hid (Ext w V5) := hQq (by rw [hV5]; exact setL_below (by omega) _ _ _ H5.out)
 have HK5 := hQq (show KeepBut (some w2.heap.size) w5 V5 by rw [hV5]; exact setL_keep _ _ _); have HZ5 := hQq (show w5.heap.size <= V5.heap.size by rw [hV5]; exact Nat.le_of_eq (setL_size _ _ _).symm)
 clear hV5 m0 m1 m2 m3 o0 o1 o2 o3 fo
 refine (refDirSame _ _ _ _ (frD d) V5 (HD4.out.keepX HK5.out HZ5.out (no_str QC6.out)) (HD5.out.keepX HK5.out HZ5.out (no_str QC6.out)) BD2.out.1 BD2.out.2.1 BD2.out.2.2.1 BD2.out.2.2.2).mono ?_
 rintro e w6 ⟨rfl, hb6⟩
 have H6 := hQq (Ext.trans HV5.out hb6)
 clear hb6
 have n1 : (frN d == frN d) = true := beq_self_eq_true _; have n2 : (frE d == frE d) = true := beq_self_eq_true _
 go_wp2_with (go_at_call 12; refine (law22awake a0 b0 c0 _ (HL.out.ext H6.out)).mono ?_; rintro e w9 ⟨rfl, hb9⟩; have HB9 := hQq hb9; clear hb9)
 go_ret
 exact ⟨rfl, H6.out.trans HB9.out⟩
set_option maxRecDepth 100000 in
theorem contract (H : Type) (enc : TypeId × Value -> H) (W : World) (base : Nat) (args : Array Value) (ds gs : List (DataW H)) (before : List MemPlace)
  (hval : ∀ (j : Nat) t v, Tryz.f8.params[j]? = some t -> args[j]? = some v -> Value.okWide Tryz.prog W .any base t v)
  (hW : DataW.Whole enc Tryz.prog Tryz.f8.params.toList Rows.fuseDirsSpec.vars false W args.toList ds gs before) (_hz : (DataW.weightsEach Tryz.prog (Tryz.f8.params.toList ++ (OpenSpec.ofChange Rows.fuseDirsSpec).bare.plain.varTypes Tryz.prog) (ds ++ gs)).all (· <= reachBytes) = true) (hL : laidMetH Tryz.prog Rows.fuseDirsRow.laid W) (hS : W.ShapedOpen Tryz.prog) :
  Calls Tryz.prog 8 args W fun e W' => ∃ v, e = .returned v /\ Rows.fuseDirsSpec.post enc Tryz.prog Tryz.f8 false true false false W args v W' := by
 have hW' := hW
 obtain ⟨p, q, hA0, hV, rfl, hfz, hnd⟩ := hW
 have hA : DataW.TrodAll enc Tryz.prog W 0 (fun _ => true) true Tryz.f8.params.toList args.toList ds p := hA0
 rw [Tryz.params8] at hA hval
 obtain ⟨v0, vs0, d0, ds0, p0, q0, hargs, rfl, rfl, h0, r0⟩ := trodAll_cons hA
 obtain ⟨rfl, rfl, rfl⟩ := trodAll_nil r0
 obtain rfl : args = #[v0] := by cases args; simp_all
 obtain ⟨x0, w0, -, z0⟩ := open_dirX (hval 0 55 v0 rfl rfl) h0
 obtain ⟨a0, b0, c0, hF⟩ := laidF_of hL hS
 refine (walk a0 b0 c0 v0 x0 W w0 z0 hF).mono fun e W' ⟨he, hb⟩ => ?_
 subst he
 exact ⟨_, rfl, law_post hW' rfl rfl rfl (by intro t ht; rw [Tryz.params8] at ht; simp at ht; subst ht; exact ⟨by kernel_rfl, of_decide_eq_true (by kernel_rfl)⟩) hb⟩
theorem reads (os : Os) {H : Type} (enc : TypeId × Value -> H) : ∃ places, DataW.whole enc Tryz.prog ((laidWorldF os).forCall (fun _ _ => 0) ⟨#[], (#[.agg #[.slice none 0 0, .bool false, .slice none 0 0, .slice none 0 0]] : Array Value), []⟩).memory Tryz.f8.params.toList Rows.fuseDirsSpec.vars false (#[.agg #[.slice none 0 0, .bool false, .slice none 0 0, .slice none 0 0]] : Array Value).toList 8 = some ([.agg [.nil, .lit (.bool false), .nil, .nil]], [], places) :=
 ⟨[], by kernel_rfl⟩
set_option maxRecDepth 100000 in
theorem lifted (os : Os) (started : os.Started) (H : Type) (enc : TypeId × Value -> H) (F : Stop.Interp) :
  ReturnsInHanded {} Tryz.checked os 8 .any ((OpenSpec.ofChange Rows.fuseDirsSpec).preRow enc Tryz.prog Tryz.f8 Rows.fuseDirsRow.domain false Rows.fuseDirsRow.laid) (((OpenSpec.ofChange Rows.fuseDirsSpec).at F).post enc Tryz.prog Tryz.f8 false true false false) := by
 obtain ⟨places, hx⟩ := reads os enc
 refine returnsInHanded_of_row (C := Tryz.checked) (s := OpenSpec.ofChange Rows.fuseDirsSpec) own started (by kernel_rfl) Tryz.func8
  (witness_row_atRef (enc := enc) (C := Tryz.checked) false (laidWorldF os) (#[.agg #[.slice none 0 0, .bool false, .slice none 0 0, .slice none 0 0]] : Array Value) rfl (by kernel_rfl) (by kernel_rfl) (by kernel_rfl)
   (OpenSpec.preRow_of_cond 8 hx (by kernel_rfl) (fun k hk => by cases hk) (by kernel_rfl) (laidF_met os _))) ?_
 intro W base args ds gs before hval hW _ _ hz hL hS _
 exact contract H enc W base args ds gs before hval hW hz hL hS
theorem j0 : (Rows.fuseDirsRow.wf (OpenSpec.ofChange Rows.fuseDirsSpec)) = true := by kernel_rfl
theorem j1 : (laidOutB Tryz.prog) = true := laidOut
theorem j2 : (mapsRowed Tryz.prog) = true := jMaps
theorem j3 : (Tryz.f8.params.all (Tryz.prog.readableRec ·)) = true := by kernel_rfl
theorem j4 : (namedTie Tryz.prog Rows.fuseDirsRow.named Rows.fuseDirsSpec.vars) = true := by kernel_rfl
theorem j5 : ((Rows.fuseDirsRow.stops == [])) = true := by kernel_rfl
theorem j6 : ((Tryz.prog.stops == [])) = true := jStops
theorem j7 : ((Rows.fuseDirsRow.knobs == [])) = true := by kernel_rfl
theorem j8 : ((Tryz.prog.stopKnobs == [])) = true := jKnobs
theorem j9 : ((Rows.fuseDirsRow.inPlace == Tryz.prog.inPlace 8)) = true := by kernel_rfl
theorem j10 : ((Rows.fuseDirsRow.unfollowed == Tryz.prog.unfollowed 8)) = true := by kernel_rfl
theorem j11 : ((Rows.fuseDirsRow.recurses == Tryz.prog.recurses 8)) = true := by kernel_rfl
theorem j12 : ((Rows.fuseDirsRow.named == Tryz.prog.varsNamed 8)) = true := by kernel_rfl
theorem j13 : ((Rows.fuseDirsRow.maps == (Tryz.f8.params.toList ++ Rows.fuseDirsSpec.plain.varTypes Tryz.prog).any (Tryz.prog.mapsRec ·))) = true := by kernel_rfl
theorem j14 : ((Rows.fuseDirsRow.ifaces == (Tryz.f8.params.toList ++ Rows.fuseDirsSpec.plain.varTypes Tryz.prog).any (Tryz.prog.ifacesRec ·))) = true := by kernel_rfl
theorem j15 : ((Rows.fuseDirsRow.mapsOut == Tryz.prog.mapsAmong Tryz.f8.resultTypes.toList)) = true := by kernel_rfl
theorem j16 : ((Rows.fuseDirsRow.loops == (Tryz.f8.params.toList ++ Rows.fuseDirsSpec.plain.varTypes Tryz.prog).any (Tryz.prog.loopsFrom ·))) = true := by kernel_rfl
theorem j17 : ((Rows.fuseDirsRow.wideKeys == (Tryz.f8.params.toList ++ Rows.fuseDirsSpec.plain.varTypes Tryz.prog ++ Tryz.f8.resultTypes.toList).any (Tryz.prog.wideKeysFrom ·))) = true := by kernel_rfl
theorem j18 : (Rows.fuseDirsSpec.vars.all (Tryz.prog.varReadable ·)) = true := by kernel_rfl
theorem j19 : (Tryz.f8.resultTypes.all (fun t => Tryz.prog.readableRec t && decide (t < Tryz.prog.types.size))) = true := by kernel_rfl
theorem j20 : ((Rows.fuseDirsRow.ifacesOut == Tryz.f8.resultTypes.toList.any (Tryz.prog.ifacesRec ·))) = true := by kernel_rfl
theorem j21 : ((Rows.fuseDirsRow.loopsOut == Tryz.f8.resultTypes.toList.any (Tryz.prog.loopsFrom ·))) = true := by kernel_rfl
theorem j22 : ((Rows.fuseDirsRow.plainKeys == Tryz.prog.plainKeys)) = true := jPlain
theorem j23 : (Rows.fuseDirsRow.shortTexts.isNone) = true := by kernel_rfl
theorem j24 : (Tryz.prog.stopsHeard) = true := jHeard
theorem j25 : (Tryz.prog.mayEnter) = true := jEnter
theorem j26 : ((Rows.fuseDirsRow.lifted == Tryz.prog.liftsFinal)) = true := jLifts
theorem j27 : ((Tryz.prog.make == some Rows.fuseDirsRow.make)) = true := jMake
theorem j28 : ((Rows.fuseDirsRow.kinds == (if Rows.fuseDirsRow.domain.isEmpty then [] else Tryz.f8.params.toList.map fun t => match Tryz.prog.underlying t with | some (.int k) => some k | _ => none))) = true := by kernel_rfl
theorem j29 : ((Rows.fuseDirsRow.pinned == Rows.fuseDirsRow.pinnedBy)) = true := by kernel_rfl
theorem j30 : ((Rows.fuseDirsRow.veiled == (Tryz.f8.params.toList ++ Rows.fuseDirsSpec.plain.varTypes Tryz.prog ++ Tryz.f8.resultTypes.toList).any (Tryz.prog.veiledRec ·))) = true := by kernel_rfl
theorem j31 : (Rows.fuseDirsRow.veiledFits Tryz.prog Tryz.f8.params.toList (Tryz.f8.params.toList ++ Rows.fuseDirsSpec.plain.varTypes Tryz.prog ++ Tryz.f8.resultTypes.toList)) = true := by kernel_rfl
set_option maxRecDepth 100000 in
theorem facts : joinedFacts Tryz.prog 8 Tryz.f8 Rows.fuseDirsSpec Rows.fuseDirsRow = true := by
 unfold joinedFacts
 simp only [Bool.and_eq_true]
 exact ⟨⟨⟨⟨⟨⟨⟨⟨⟨⟨⟨⟨⟨⟨⟨⟨⟨⟨⟨⟨⟨⟨⟨⟨⟨⟨⟨⟨⟨⟨⟨j0, j1⟩, j2⟩, j3⟩, j4⟩, j5⟩, j6⟩, j7⟩, j8⟩, j9⟩, j10⟩, j11⟩, j12⟩, j13⟩, j14⟩, j15⟩, j16⟩, j17⟩, j18⟩, j19⟩, j20⟩, j21⟩, j22⟩, j23⟩, j24⟩, j25⟩, j26⟩, j27⟩, j28⟩, j29⟩, j30⟩, j31⟩
set_option maxRecDepth 100000 in
theorem said : Rows.FuseDirsSaid :=
 OpenClaim.holds_of_cond 8 Tryz.f8 rfl rfl rfl rfl rfl rfl rfl ⟨rfl, rfl, rfl, rfl, rfl⟩ rfl rfl rfl rfl rfl (by kernel_rfl) Tryz.func8 facts
  (of_decide_eq_true (by kernel_rfl)) (by unfold Func.isWrapper; rw [if_neg (of_decide_eq_false (by kernel_rfl))]; exact ⟨rfl, rfl⟩)
  (fun os started H enc _ F => by rw [OpenClaim.pre_eq_preRow]; exact lifted os started H enc F)
theorem plain (f : FuncId) (fn : Func) (hf : Tryz.pinned.checked.prog.funcNamed Rows.fuseDirsRow.func = some f) (hfn : Tryz.pinned.checked.prog.funcs[f]? = some fn) :
  true = Tryz.pinned.checked.prog.looks [] /\ ∀ (j : Nat) t, fn.params[j]? = some t -> Tryz.pinned.checked.prog.wantsStandIn t = false := by
 obtain rfl : f = 8 := oI ((show Tryz.prog.funcNamed Rows.fuseDirsRow.func = some 8 by kernel_rfl).symm.trans hf) |>.symm
 obtain rfl : fn = Tryz.f8 := (oI (Tryz.func8.symm.trans hfn)).symm
 refine ⟨by kernel_rfl, fun j t ht => ?_⟩
 rw [Tryz.params8] at ht
 have hm := Array.mem_of_getElem? ht
 simp at hm
 subst hm
 exact (show Tryz.prog.wantsStandIn 55 = false by kernel_rfl)
theorem card : Rows.FuseDirsCardSaid :=
 Claim7.holds_tied_plain_at .later [] _ _ _ _ said (fun _ h => by cases h) (by kernel_rfl) (fun _ h => by cases h) fuseDirs_row_tie rfl ⟨rfl, rfl⟩ (by kernel_rfl) rfl plain (by kernel_rfl)
#print axioms card
end Go.Proofs.YtimpejaaeinplaaGreatDoor.lwFuseDirs
