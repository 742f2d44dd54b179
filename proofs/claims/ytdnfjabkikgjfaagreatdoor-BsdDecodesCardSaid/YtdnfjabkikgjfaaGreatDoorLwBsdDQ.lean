/- BsdDecodes is proved: for every tree the law returns true; a larger tree is answered by the fixed calls alone. -/
import Derived.Test.YtdnfjabkikgjfaaGreatDoorQAwkB
import Derived.Test.YtdnfjabkikgjfaaGreatDoorQFrame
import Derived.Test.YtdnfjabkikgjfaaGreatDoorQOpenA
namespace Go.Proofs.YtdnfjabkikgjfaaGreatDoor.lwBsdDecodes
open Go.ChangeShapes Go.WideShapes Go.ChangeAt Go.RowKit
open Go.ChangeMaps (open_string shut_string)

set_option maxHeartbeats 4000000 in
set_option maxRecDepth 100000 in
theorem walk (v : Value) (t : List TrN) (w : World) (hv : TrIn w.heap.size w v t) (hL : Laid w) : RetB Tryz.prog 5 #[v] w (.bool true) := by
  unfold RetB
  obtain ⟨aa, cap, rfl⟩ := hv.form
  have HV := Lib.hid hv; have HL := Lib.hid hL
  clear hv hL
  go_enter Tryz.func5, Tryz.ntmps5
  go_wp2_with fail
  refine (law24large w.heap.size _ t _ HV.out).mono ?_
  rintro e w0 ⟨r, rfl, hr, rfl⟩
  cases r
  case true =>
    clear hr
    go_wp2_with (go_at_call 10; refine (law24awake _ HL.out).mono ?_; rintro e w1 ⟨rfl, hb⟩)
    go_ret
    exact ⟨rfl, hb⟩
  have hf := hr rfl
  have HSM := Lib.hid (fewT_small hf)
  have HBD := Lib.hid (decL_bd hf)
  clear hr hf
  go_wp2_with fail
  refine (bsdDecode w.heap.size _ _ t HL.out HV.out HSM.out).mono ?_
  rintro e w1 ⟨⟨a1, n1, c1, rfl, ho1⟩, hb1⟩
  have HO1 := Lib.hid ho1; have HB1 := Lib.hid hb1
  clear ho1 hb1
  go_wp2_with fail
  refine (refBsdDecode w.heap.size _ _ t (HV.out.ext okT HB1.out) HSM.out).mono ?_
  rintro e w2 ⟨⟨a2, n2, c2, rfl, ho2⟩, hb2⟩
  have HO2 := Lib.hid ho2; have HO12 := Lib.hid (HO1.out.ext okB hb2); have HB2 := Lib.hid (Ext.trans HB1.out hb2); have HS12 := Lib.hid hb2.size
  clear ho2 hb2
  go_wp2_with fail
  refine (bsdGood w.heap.size _ _ t (HL.out.ext HB2.out) (HV.out.ext okT HB2.out) HSM.out).mono ?_
  rintro e w3 ⟨rfl, hb3⟩
  have HO13 := Lib.hid (HO12.out.ext okB hb3); have HO23 := Lib.hid (HO2.out.ext okB hb3); have HB3 := Lib.hid (Ext.trans HB2.out hb3); have HS13 := Lib.hid (Nat.le_trans HS12.out hb3.size)
  clear hb3
  go_wp2_with fail
  refine (refBrSame w.heap.size w1.heap.size _ _ (decL t) _ (HO13.out.in okB) (HO23.out.in okB) HB3.out.size HS13.out HBD.out.1 HBD.out.2.1 HBD.out.2.2).mono ?_
  rintro e w4 ⟨rfl, hb4⟩
  have HB4 := Lib.hid (Ext.trans HB3.out hb4)
  clear hb4
  go_wp2_with (go_at_call 10; refine (law24awake _ (HL.out.ext HB4.out)).mono ?_; rintro e w5 ⟨rfl, hb⟩)
  go_ret
  exact ⟨rfl, Ext.trans HB4.out hb⟩
set_option maxRecDepth 100000 in
theorem contract (H : Type) (enc : TypeId × Value → H) (W : World) (base : Nat) (args : Array Value) (ds gs : List (DataW H)) (before : List MemPlace)
    (hval : ∀ (j : Nat) t v, Tryz.f5.params[j]? = some t → args[j]? = some v → Value.okWide Tryz.prog W .any base t v)
    (hW : DataW.Whole enc Tryz.prog Tryz.f5.params.toList Rows.bsdDecodesSpec.vars false W args.toList ds gs before) (hL : laidMetH Tryz.prog Rows.bsdDecodesRow.laid W) :
    Calls Tryz.prog 5 args W fun e W' => ∃ v, e = .returned v ∧ Rows.bsdDecodesSpec.post enc Tryz.prog Tryz.f5 false true false false W args v W' := by
  have hW' := hW
  obtain ⟨p, q, hA0, hV, rfl, hfz, hnd⟩ := hW
  have hA : DataW.TrodAll enc Tryz.prog W 0 (fun _ => true) true Tryz.f5.params.toList args.toList ds p := hA0
  rw [Tryz.params5] at hA hval
  obtain ⟨v0, vs0, d0, ds0, p0, q0, hargs, rfl, rfl, h0, r0⟩ := trodAll_cons hA
  obtain ⟨rfl, rfl, rfl⟩ := trodAll_nil r0
  obtain rfl : args = #[v0] := by cases args; simp_all
  obtain ⟨x0, w0⟩ := open_trees (hval 0 25 v0 rfl rfl) h0
  refine (walk v0 x0 W w0 (laid_of hL)).mono fun e W' ⟨he, hb⟩ => ?_
  subst he
  exact ⟨_, rfl, law_post hW' rfl rfl rfl (by intro t ht; rw [Tryz.params5] at ht; simp at ht; subst ht; exact ⟨by kernel_rfl, of_decide_eq_true (by kernel_rfl)⟩) hb⟩
theorem reads (os : Os) {H : Type} (enc : TypeId × Value → H) : ∃ places, DataW.whole enc Tryz.prog ((laidWorld os).forCall (fun _ _ => 0) ⟨#[], (#[.slice none 0 0] : Array Value), []⟩).memory Tryz.f5.params.toList Rows.bsdDecodesSpec.vars false (#[.slice none 0 0] : Array Value).toList 8 = some ([.nil], [], places) :=
  ⟨[], by kernel_rfl⟩
set_option maxRecDepth 100000 in
theorem lifted (os : Os) (started : os.Started) (H : Type) (enc : TypeId × Value → H) (F : Stop.Interp) :
    ReturnsInHanded {} Tryz.checked os 5 .any ((OpenSpec.ofChange Rows.bsdDecodesSpec).preRow enc Tryz.prog Tryz.f5 Rows.bsdDecodesRow.domain false Rows.bsdDecodesRow.laid) (((OpenSpec.ofChange Rows.bsdDecodesSpec).at F).post enc Tryz.prog Tryz.f5 false true false false) := by
  obtain ⟨places, hx⟩ := reads os enc
  refine returnsInHanded_of_row (C := Tryz.checked) (s := OpenSpec.ofChange Rows.bsdDecodesSpec) own started (by kernel_rfl) Tryz.func5
    (witness_row_atRef (enc := enc) (C := Tryz.checked) false (laidWorld os) (#[.slice none 0 0] : Array Value) rfl (by kernel_rfl) (by kernel_rfl) (by kernel_rfl)
      (OpenSpec.preRow_of_cond 8 hx (by kernel_rfl) (fun k hk => by cases hk) (by kernel_rfl) (laid_met os _))) ?_
  intro W base args ds gs before hval hW _ _ _ hL _ _
  exact contract H enc W base args ds gs before hval hW hL
theorem said : Rows.BsdDecodesSaid :=
  OpenClaim.holds_of_cond 5 Tryz.f5 rfl rfl rfl rfl rfl rfl rfl ⟨rfl, rfl, rfl, rfl, rfl⟩ rfl rfl rfl rfl rfl (by kernel_rfl) Tryz.func5 (by kernel_rfl)
    (of_decide_eq_true (by kernel_rfl)) (by unfold Func.isWrapper; rw [if_neg (of_decide_eq_false (by kernel_rfl))]; exact ⟨rfl, rfl⟩)
    (fun os started H enc _ F => by rw [OpenClaim.pre_eq_preRow]; exact lifted os started H enc F)
theorem plain (f : FuncId) (fn : Func) (hf : Tryz.pinned.checked.prog.funcNamed Rows.bsdDecodesRow.func = some f) (hfn : Tryz.pinned.checked.prog.funcs[f]? = some fn) :
    false = Tryz.pinned.checked.prog.looks [] ∧ ∀ (j : Nat) t, fn.params[j]? = some t → Tryz.pinned.checked.prog.wantsStandIn t = false := by
  obtain rfl : f = 5 := Option.some.inj ((show Tryz.prog.funcNamed Rows.bsdDecodesRow.func = some 5 by kernel_rfl).symm.trans hf) |>.symm
  obtain rfl : fn = Tryz.f5 := (Option.some.inj (Tryz.func5.symm.trans hfn)).symm
  refine ⟨by kernel_rfl, fun j t ht => ?_⟩
  rw [Tryz.params5] at ht
  have hm := Array.mem_of_getElem? ht
  simp at hm
  subst hm
  exact (show Tryz.prog.wantsStandIn 25 = false by kernel_rfl)
theorem card : Rows.BsdDecodesCardSaid :=
  Claim7.holds_tied_plain_at .later [] _ _ _ _ said (fun _ h => by cases h) (by kernel_rfl) (fun _ h => by cases h) bsdDecodes_row_tie rfl ⟨rfl, rfl⟩ (by kernel_rfl) rfl plain (by kernel_rfl)
#print axioms card
end Go.Proofs.YtdnfjabkikgjfaaGreatDoor.lwBsdDecodes
