/- BsdBack is proved: for every branch and every tree the law returns true; larger ones are answered by the fixed calls alone. -/
import Derived.Test.YtdnfjabkikgjfaaGreatDoorQBsdY
import Derived.Test.YtdnfjabkikgjfaaGreatDoorQFrame
import Derived.Test.YtdnfjabkikgjfaaGreatDoorQOpenA
namespace Go.Proofs.YtdnfjabkikgjfaaGreatDoor.lwBsdBack
open Go.ChangeShapes Go.WideShapes Go.ChangeAt Go.RowKit
open Go.ChangeMaps (open_string shut_string)

set_option maxHeartbeats 16000000 in
set_option maxRecDepth 100000 in
theorem walk (v : Value) (b : List BrN) (u : Value) (t : List TrN) (w : World) (hv : BrIn w.heap.size w v b) (hu : TrIn w.heap.size w u t) (hL : Laid w) : RetB Tryz.prog 6 #[v, u] w (.bool true) := by
  unfold RetB
  obtain ⟨aa, cap, rfl⟩ := hv.form
  obtain ⟨ba, cap2, rfl⟩ := hu.form
  have HVB := Lib.hid hv; have HVT := Lib.hid hu; have HL := Lib.hid hL
  clear hv hu hL
  go_enter Tryz.func6, Tryz.ntmps6
  go_wp2_with fail
  refine (law24far w.heap.size _ b _ HVB.out).mono ?_
  rintro e w0 ⟨r, rfl, hr, rfl⟩
  cases r
  case true =>
    clear hr
    go_wp2_with (go_at_call 10; refine (law24awake _ HL.out).mono ?_; rintro e w1 ⟨rfl, hb⟩)
    go_ret
    exact ⟨rfl, hb⟩
  have hf := hr rfl
  have HSB := Lib.hid (fewB_small hf)
  have HFB : Hid (b.length ≤ 1000 ∧ (∀ x ∈ b, x.ats.length ≤ 1000) ∧ ∀ x ∈ b, x.red.length ≤ 1000) := Lib.hid ⟨by have := hf.len; omega, fun x hx => by have := (hf.ok x hx).1.1; omega, fun x hx => by have := (hf.ok x hx).2.2.2.1; omega⟩
  clear hr hf
  go_wp2_with fail
  refine (law24large w.heap.size _ t _ HVT.out).mono ?_
  rintro e w0 ⟨r, rfl, hr, rfl⟩
  cases r
  case true =>
    clear hr
    go_wp2_with (go_at_call 10; refine (law24awake _ HL.out).mono ?_; rintro e w1 ⟨rfl, hb⟩)
    go_ret
    exact ⟨rfl, hb⟩
  have hf := hr rfl
  have HST := Lib.hid (fewT_small hf)
  have HFT := Lib.hid hf
  clear hr hf
  by_cases hE : encF b = 0
  · have HE := Lib.hid hE
    clear hE
    go_wp2_with fail
    refine (encZ w.heap.size _ _ b HE.out HL.out HVB.out HSB.out).mono ?_
    rintro e w1 ⟨⟨B1, a1, n1, c1, rfl, ho1⟩, hb1⟩
    have HO1 := Lib.hid ho1; have HB1 := Lib.hid hb1
    clear ho1 hb1
    go_wp2_with fail
    refine (decBack B1 _ _ b HE.out (HL.out.ext HB1.out) (HO1.out.in okT) HSB.out).mono ?_
    rintro e w2 ⟨⟨a2, n2, c2, rfl, ho2⟩, hb2⟩
    have HO2 := Lib.hid ho2; have HT2 := Lib.hid ((HO1.out.in okT).ext okT hb2); have HB2 := Lib.hid (Ext.trans HB1.out hb2); have HS1 := Lib.hid hb2.size
    clear ho2 hb2 HO1
    go_wp2_with fail
    refine (goodBack B1 _ _ b HE.out (HL.out.ext HB2.out) HT2.out HSB.out).mono ?_
    rintro e w3 ⟨rfl, hb3⟩
    have HO3 := Lib.hid (HO2.out.ext okB hb3); have HT3 := Lib.hid (HT2.out.ext okT hb3); have HB3 := Lib.hid (Ext.trans HB2.out hb3); have HS2 := Lib.hid (Nat.le_trans HS1.out hb3.size)
    clear hb3 HO2 HT2
    go_wp2_with fail
    refine (treeBack B1 _ _ b HE.out HT3.out HSB.out).mono ?_
    rintro e w4 ⟨rfl, hb4⟩
    have HO4 := Lib.hid (HO3.out.ext okB hb4); have HB4 := Lib.hid (Ext.trans HB3.out hb4); have HS3 := Lib.hid (Nat.le_trans HS2.out hb4.size)
    clear hb4 HO3 HT3
    go_wp2_with fail
    refine (refBrSame w.heap.size w1.heap.size _ _ b _ (HVB.out.ext okB HB4.out) (HO4.out.in okB) HB4.out.size HS3.out HFB.out.1 HFB.out.2.1 HFB.out.2.2).mono ?_
    rintro e w5 ⟨rfl, hb5⟩
    have HX := Lib.hid (Ext.trans HB4.out hb5)
    clear hb5 HO4
    by_cases hD : decF t = 0
    · have HD := Lib.hid hD
      clear hD
      go_wp2_with fail
      refine (decZ w.heap.size _ _ t HD.out (HL.out.ext HX.out) (HVT.out.ext okT HX.out) HST.out).mono ?_
      rintro e w6 ⟨⟨a6, n6, c6, rfl, ho6⟩, hb6⟩
      have HO6 := Lib.hid ho6; have HB6 := Lib.hid (Ext.trans HX.out hb6); have HS6 := Lib.hid hb6.size
      clear ho6 hb6
      go_wp2_with fail
      refine (encBack _ _ _ t HD.out (HL.out.ext HB6.out) (HO6.out.in okB) HST.out).mono ?_
      rintro e w7 ⟨⟨B7, a7, n7, c7, rfl, ho7⟩, hb7⟩
      have HO7 := Lib.hid ho7; have HC7 := Lib.hid ((HO6.out.in okB).ext okB hb7); have HB7 := Lib.hid (Ext.trans HB6.out hb7); have HS7 := Lib.hid (Nat.le_trans HS6.out hb7.size)
      clear ho7 hb7 HO6
      go_wp2_with fail
      refine (canBack _ _ _ t HD.out (HL.out.ext HB7.out) HC7.out HST.out).mono ?_
      rintro e w8 ⟨rfl, hb8⟩
      have HO8 := Lib.hid (HO7.out.ext okT hb8); have HC8 := Lib.hid (HC7.out.ext okB hb8); have HB8 := Lib.hid (Ext.trans HB7.out hb8); have HS8 := Lib.hid (Nat.le_trans HS7.out hb8.size)
      clear hb8 HO7 HC7
      go_wp2_with fail
      refine (brBack _ _ _ t HD.out HC8.out HS8.out HST.out).mono ?_
      rintro e w9 ⟨rfl, hb9⟩
      have HO9 := Lib.hid (HO8.out.ext okT hb9); have HB9 := Lib.hid (Ext.trans HB8.out hb9)
      clear hb9 HO8 HC8
      go_wp2_with fail
      refine (sameBack w.heap.size B7 _ _ t _ (HVT.out.ext okT HB9.out) (HO9.out.in okT) HFT.out).mono ?_
      rintro e wa ⟨rfl, hba⟩
      have HY := Lib.hid (Ext.trans HB9.out hba)
      clear hba HO9
      go_wp2_with (go_at_call 10; refine (law24awake _ (HL.out.ext HY.out)).mono ?_; rintro e wb ⟨rfl, hb⟩)
      go_ret
      exact ⟨rfl, Ext.trans HY.out hb⟩
    · have hqd : (decF t == 0) = false := beq_eq_false_iff_ne.2 hD
      clear hD
      go_wp2_with fail
      refine (bsdDecode w.heap.size _ _ t (HL.out.ext HX.out) (HVT.out.ext okT HX.out) HST.out).mono ?_
      rintro e w6 ⟨⟨a6, n6, c6, rfl, ho6⟩, hb6⟩
      have HY := Lib.hid (Ext.trans HX.out hb6)
      clear ho6 hb6
      go_wp2_with (go_at_call 10; refine (law24awake _ (HL.out.ext HY.out)).mono ?_; rintro e wb ⟨rfl, hb⟩)
      go_ret
      exact ⟨rfl, Ext.trans HY.out hb⟩
  · have hqe : (encF b == 0) = false := beq_eq_false_iff_ne.2 hE
    clear hE
    go_wp2_with fail
    refine (bsdEncode w.heap.size _ _ b HL.out HVB.out HSB.out).mono ?_
    rintro e w1 ⟨⟨B1, a1, n1, c1, hB1, rfl, ho1⟩, hb1⟩
    have HX := Lib.hid hb1
    clear ho1 hb1 hB1
    by_cases hD : decF t = 0
    · have HD := Lib.hid hD
      clear hD
      go_wp2_with fail
      refine (decZ w.heap.size _ _ t HD.out (HL.out.ext HX.out) (HVT.out.ext okT HX.out) HST.out).mono ?_
      rintro e w6 ⟨⟨a6, n6, c6, rfl, ho6⟩, hb6⟩
      have HO6 := Lib.hid ho6; have HB6 := Lib.hid (Ext.trans HX.out hb6); have HS6 := Lib.hid hb6.size
      clear ho6 hb6
      go_wp2_with fail
      refine (encBack _ _ _ t HD.out (HL.out.ext HB6.out) (HO6.out.in okB) HST.out).mono ?_
      rintro e w7 ⟨⟨B7, a7, n7, c7, rfl, ho7⟩, hb7⟩
      have HO7 := Lib.hid ho7; have HC7 := Lib.hid ((HO6.out.in okB).ext okB hb7); have HB7 := Lib.hid (Ext.trans HB6.out hb7); have HS7 := Lib.hid (Nat.le_trans HS6.out hb7.size)
      clear ho7 hb7 HO6
      go_wp2_with fail
      refine (canBack _ _ _ t HD.out (HL.out.ext HB7.out) HC7.out HST.out).mono ?_
      rintro e w8 ⟨rfl, hb8⟩
      have HO8 := Lib.hid (HO7.out.ext okT hb8); have HC8 := Lib.hid (HC7.out.ext okB hb8); have HB8 := Lib.hid (Ext.trans HB7.out hb8); have HS8 := Lib.hid (Nat.le_trans HS7.out hb8.size)
      clear hb8 HO7 HC7
      go_wp2_with fail
      refine (brBack _ _ _ t HD.out HC8.out HS8.out HST.out).mono ?_
      rintro e w9 ⟨rfl, hb9⟩
      have HO9 := Lib.hid (HO8.out.ext okT hb9); have HB9 := Lib.hid (Ext.trans HB8.out hb9)
      clear hb9 HO8 HC8
      go_wp2_with fail
      refine (sameBack w.heap.size B7 _ _ t _ (HVT.out.ext okT HB9.out) (HO9.out.in okT) HFT.out).mono ?_
      rintro e wa ⟨rfl, hba⟩
      have HY := Lib.hid (Ext.trans HB9.out hba)
      clear hba HO9
      go_wp2_with (go_at_call 10; refine (law24awake _ (HL.out.ext HY.out)).mono ?_; rintro e wb ⟨rfl, hb⟩)
      go_ret
      exact ⟨rfl, Ext.trans HY.out hb⟩
    · have hqd : (decF t == 0) = false := beq_eq_false_iff_ne.2 hD
      clear hD
      go_wp2_with fail
      refine (bsdDecode w.heap.size _ _ t (HL.out.ext HX.out) (HVT.out.ext okT HX.out) HST.out).mono ?_
      rintro e w6 ⟨⟨a6, n6, c6, rfl, ho6⟩, hb6⟩
      have HY := Lib.hid (Ext.trans HX.out hb6)
      clear ho6 hb6
      go_wp2_with (go_at_call 10; refine (law24awake _ (HL.out.ext HY.out)).mono ?_; rintro e wb ⟨rfl, hb⟩)
      go_ret
      exact ⟨rfl, Ext.trans HY.out hb⟩
set_option maxRecDepth 100000 in
theorem contract (H : Type) (enc : TypeId × Value → H) (W : World) (base : Nat) (args : Array Value) (ds gs : List (DataW H)) (before : List MemPlace)
    (hval : ∀ (j : Nat) t v, Tryz.f6.params[j]? = some t → args[j]? = some v → Value.okWide Tryz.prog W .any base t v)
    (hW : DataW.Whole enc Tryz.prog Tryz.f6.params.toList Rows.bsdBackSpec.vars false W args.toList ds gs before) (hL : laidMetH Tryz.prog Rows.bsdBackRow.laid W) :
    Calls Tryz.prog 6 args W fun e W' => ∃ v, e = .returned v ∧ Rows.bsdBackSpec.post enc Tryz.prog Tryz.f6 false true false false W args v W' := by
  have hW' := hW
  obtain ⟨p, q, hA0, hV, rfl, hfz, hnd⟩ := hW
  have hA : DataW.TrodAll enc Tryz.prog W 0 (fun _ => true) true Tryz.f6.params.toList args.toList ds p := hA0
  rw [Tryz.params6] at hA hval
  obtain ⟨v0, vs0, d0, ds0, p0, q0, hargs, rfl, rfl, h0, r0⟩ := trodAll_cons hA
  obtain ⟨v1, vs1, d1, ds1, p1, q1, rfl, rfl, rfl, h1, r1⟩ := trodAll_cons r0
  obtain ⟨rfl, rfl, rfl⟩ := trodAll_nil r1
  obtain rfl : args = #[v0, v1] := by cases args; simp_all
  obtain ⟨x0, w0⟩ := open_nodes (hval 0 22 v0 rfl rfl) h0
  obtain ⟨x1, w1⟩ := open_trees (hval 1 25 v1 rfl rfl) h1
  refine (walk v0 x0 v1 x1 W w0 w1 (laid_of hL)).mono fun e W' ⟨he, hb⟩ => ?_
  subst he
  exact ⟨_, rfl, law_post hW' rfl rfl rfl (by intro t ht; rw [Tryz.params6] at ht; simp at ht; rcases ht with rfl | rfl <;> exact ⟨by kernel_rfl, of_decide_eq_true (by kernel_rfl)⟩) hb⟩
theorem reads (os : Os) {H : Type} (enc : TypeId × Value → H) : ∃ places, DataW.whole enc Tryz.prog ((laidWorld os).forCall (fun _ _ => 0) ⟨#[], (#[.slice none 0 0, .slice none 0 0] : Array Value), []⟩).memory Tryz.f6.params.toList Rows.bsdBackSpec.vars false (#[.slice none 0 0, .slice none 0 0] : Array Value).toList 8 = some ([.nil, .nil], [], places) :=
  ⟨[], by kernel_rfl⟩
set_option maxRecDepth 100000 in
theorem lifted (os : Os) (started : os.Started) (H : Type) (enc : TypeId × Value → H) (F : Stop.Interp) :
    ReturnsInHanded {} Tryz.checked os 6 .any ((OpenSpec.ofChange Rows.bsdBackSpec).preRow enc Tryz.prog Tryz.f6 Rows.bsdBackRow.domain false Rows.bsdBackRow.laid) (((OpenSpec.ofChange Rows.bsdBackSpec).at F).post enc Tryz.prog Tryz.f6 false true false false) := by
  obtain ⟨places, hx⟩ := reads os enc
  refine returnsInHanded_of_row (C := Tryz.checked) (s := OpenSpec.ofChange Rows.bsdBackSpec) own started (by kernel_rfl) Tryz.func6
    (witness_row_atRef (enc := enc) (C := Tryz.checked) false (laidWorld os) (#[.slice none 0 0, .slice none 0 0] : Array Value) rfl (by kernel_rfl) (by kernel_rfl) (by kernel_rfl)
      (OpenSpec.preRow_of_cond 8 hx (by kernel_rfl) (fun k hk => by cases hk) (by kernel_rfl) (laid_met os _))) ?_
  intro W base args ds gs before hval hW _ _ _ hL _ _
  exact contract H enc W base args ds gs before hval hW hL
theorem said : Rows.BsdBackSaid :=
  OpenClaim.holds_of_cond 6 Tryz.f6 rfl rfl rfl rfl rfl rfl rfl ⟨rfl, rfl, rfl, rfl, rfl⟩ rfl rfl rfl rfl rfl (by kernel_rfl) Tryz.func6 (by kernel_rfl)
    (of_decide_eq_true (by kernel_rfl)) (by unfold Func.isWrapper; rw [if_neg (of_decide_eq_false (by kernel_rfl))]; exact ⟨rfl, rfl⟩)
    (fun os started H enc _ F => by rw [OpenClaim.pre_eq_preRow]; exact lifted os started H enc F)
theorem plain (f : FuncId) (fn : Func) (hf : Tryz.pinned.checked.prog.funcNamed Rows.bsdBackRow.func = some f) (hfn : Tryz.pinned.checked.prog.funcs[f]? = some fn) :
    false = Tryz.pinned.checked.prog.looks [] ∧ ∀ (j : Nat) t, fn.params[j]? = some t → Tryz.pinned.checked.prog.wantsStandIn t = false := by
  obtain rfl : f = 6 := Option.some.inj ((show Tryz.prog.funcNamed Rows.bsdBackRow.func = some 6 by kernel_rfl).symm.trans hf) |>.symm
  obtain rfl : fn = Tryz.f6 := (Option.some.inj (Tryz.func6.symm.trans hfn)).symm
  refine ⟨by kernel_rfl, fun j t ht => ?_⟩
  rw [Tryz.params6] at ht
  have hm := Array.mem_of_getElem? ht
  simp at hm
  rcases hm with rfl | rfl
  · exact (show Tryz.prog.wantsStandIn 22 = false by kernel_rfl)
  · exact (show Tryz.prog.wantsStandIn 25 = false by kernel_rfl)
theorem card : Rows.BsdBackCardSaid :=
  Claim7.holds_tied_plain_at .later [] _ _ _ _ said (fun _ h => by cases h) (by kernel_rfl) (fun _ h => by cases h) bsdBack_row_tie rfl ⟨rfl, rfl⟩ (by kernel_rfl) rfl plain (by kernel_rfl)
#print axioms card
end Go.Proofs.YtdnfjabkikgjfaaGreatDoor.lwBsdBack
