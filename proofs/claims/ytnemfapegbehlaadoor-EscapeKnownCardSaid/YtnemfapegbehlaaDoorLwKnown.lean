/- EscapeKnown is proved: the examples of the document hold; the law takes no argument. -/
import Derived.Test.YtnemfapegbehlaaDoorShown
import Derived.Test.YtnemfapegbehlaaDoorFrame
namespace Go.Proofs.YtnemfapegbehlaaDoor.lwEscapeKnown
open Go.ChangeShapes Go.WideShapes Go.ChangeAt Go.RowKit
open Go.ChangeMaps (open_string shut_string)

theorem k1 : nmS 3 ⟨#[46, 119, 104, 46]⟩ = ⟨#[46, 119, 104, 46, 46, 119, 104, 46, 120]⟩ := by decide +kernel
theorem k2 : nmS 4 ⟨#[46, 119, 104, 46, 97]⟩ = ⟨#[46, 119, 104, 46, 97]⟩ := by decide +kernel
theorem k3 : nmS 3 ⟨#[46, 119, 104, 111]⟩ = ⟨#[46, 119, 104, 111]⟩ := by decide +kernel
theorem k4 : wtE 3 ⟨#[49, 50, 51, 52, 53, 54, 55, 56, 57, 48, 49, 50, 51, 52, 53, 54, 55, 56, 57, 48, 49]⟩ = 17 := by decide +kernel
theorem k5 : bkW 3 ⟨#[46, 119, 104, 46, 46, 119, 104, 46, 111, 112, 113]⟩ = 3 := by decide +kernel
theorem k6 : bkW 3 ⟨#[46, 119, 104, 46, 46, 119, 104, 46, 112, 108, 110, 107]⟩ = 4 := by decide +kernel
theorem k7 : bkE 3 ⟨#[46, 119, 104, 46]⟩ = 6 := by decide +kernel
theorem k8 : bkE 3 ⟨#[46, 119, 104, 46, 46, 46]⟩ = 6 := by decide +kernel
theorem k9 : bkE 3 ⟨#[46, 119, 104, 46, 46, 119, 104, 46, 121]⟩ = 6 := by decide +kernel
theorem k10 : bkS 3 ⟨#[46, 119, 104, 46, 46, 119, 104, 120]⟩ = ⟨#[46, 119, 104, 120]⟩ := by decide +kernel
theorem k11 : bkW 3 ⟨#[46, 119, 104, 46, 46, 119, 104, 120]⟩ = 2 := by decide +kernel
theorem k12 : mrE 1 ⟨#[119, 104, 105, 116, 101, 111, 117, 116]⟩ = 4 := by decide +kernel
theorem k13 : baE 1 ⟨#[116, 114, 117, 115, 116, 101, 100, 46, 111, 118, 101, 114, 108, 97, 121, 46, 120]⟩ = 6 := by decide +kernel
theorem k14 : baS 1 ⟨#[116, 114, 117, 115, 116, 101, 100, 46, 111, 118, 101, 114, 108, 97, 121, 46, 110, 108, 105, 110, 107]⟩ = ⟨#[110, 108, 105, 110, 107]⟩ := by decide +kernel
theorem k15 : baO 1 ⟨#[116, 114, 117, 115, 116, 101, 100, 46, 111, 118, 101, 114, 108, 97, 121, 46, 110, 108, 105, 110, 107]⟩ = true := by decide +kernel
theorem k16 : nmE 5 ⟨#[97]⟩ = 2 := by decide +kernel
set_option maxRecDepth 100000 in
set_option maxHeartbeats 2000000 in
theorem walk (w : World) (hL : Laid w) : RetB Tryd.prog 7 #[] w (.bool true) := by
  unfold RetB
  have HL := Lib.hid hL; clear hL
  have HB : Hid (Ext w w) := Below.refl _ _
  have e1 := k1
  have e2 := k2
  have e3 := k3
  have e4 := k4
  have e5 := k5
  have e6 := k6
  have e7 := k7
  have e8 := k8
  have e9 := k9
  have e10 := k10
  have e11 := k11
  have e12 := k12
  have e13 := k13
  have e14 := k14
  have e15 := k15
  have e16 := k16
  go_enter Tryd.func7, Tryd.ntmps7
  go_wp2_with (first
    | (go_at_call 11; refine (escName _ _ _ (by decide)).mono ?_; rintro e w1 ⟨rfl, hb⟩; replace HB := Lib.hid (Ext.trans HB.out hb); clear hb)
    | (go_at_call 13; refine (escWhite _ _ _ (by decide)).mono ?_; rintro e w1 ⟨rfl, hb⟩; replace HB := Lib.hid (Ext.trans HB.out hb); clear hb)
    | (go_at_call 15; refine (escBack _ _ _ (by decide)).mono ?_; rintro e w1 ⟨rfl, hb⟩; replace HB := Lib.hid (Ext.trans HB.out hb); clear hb)
    | (go_at_call 19; refine (escMark _ _ _ (HL.out.ext HB.out) (by decide)).mono ?_; rintro e w1 ⟨rfl, hb⟩; replace HB := Lib.hid (Ext.trans HB.out hb); clear hb)
    | (go_at_call 21; refine (escBackAttr _ _ _ (HL.out.ext HB.out) (by decide)).mono ?_; rintro e w1 ⟨rfl, hb⟩; replace HB := Lib.hid (Ext.trans HB.out hb); clear hb)
    | (go_at_call 10; refine (shown _ (HL.out.ext HB.out)).mono ?_; rintro e w1 ⟨rfl, hb⟩; replace HB := Lib.hid (Ext.trans HB.out hb); clear hb))
  go_ret
  exact ⟨rfl, HB.out⟩

set_option maxRecDepth 100000 in
theorem contract (H : Type) (enc : TypeId × Value → H) (W : World) (base : Nat) (args : Array Value) (ds gs : List (DataW H)) (before : List MemPlace)
    (hval : ∀ (j : Nat) t v, Tryd.f7.params[j]? = some t → args[j]? = some v → Value.okWide Tryd.prog W .any base t v)
    (hW : DataW.Whole enc Tryd.prog Tryd.f7.params.toList Rows.escapeKnownSpec.vars false W args.toList ds gs before) (hL : laidMetH Tryd.prog Rows.escapeKnownRow.laid W) :
    Calls Tryd.prog 7 args W fun e W' => ∃ v, e = .returned v ∧ Rows.escapeKnownSpec.post enc Tryd.prog Tryd.f7 false true false false W args v W' := by
  have hW' := hW
  obtain ⟨p, q, hA0, hV, rfl, hfz, hnd⟩ := hW
  have hA : DataW.TrodAll enc Tryd.prog W 0 (fun _ => true) true Tryd.f7.params.toList args.toList ds p := hA0
  rw [Tryd.params7] at hA hval
  obtain ⟨hargs, rfl, rfl⟩ := trodAll_nil hA
  obtain rfl : args = #[] := by cases args; simp_all
  refine (walk  W (laid_of hL)).mono fun e W' ⟨he, hb⟩ => ?_
  subst he
  exact ⟨_, rfl, law_post hW' rfl rfl rfl (by intro t ht; rw [Tryd.params7] at ht; simp at ht) hb⟩
theorem reads (os : Os) {H : Type} (enc : TypeId × Value → H) : ∃ places, DataW.whole enc Tryd.prog ((laidWorld os).forCall (fun _ _ => 0) ⟨#[], (#[] : Array Value), []⟩).memory Tryd.f7.params.toList Rows.escapeKnownSpec.vars false (#[] : Array Value).toList 8 = some ([], [], places) :=
  ⟨[], by kernel_rfl⟩
set_option maxRecDepth 100000 in
theorem lifted (os : Os) (started : os.Started) (H : Type) (enc : TypeId × Value → H) (F : Stop.Interp) :
    ReturnsInHanded {} Tryd.checked os 7 .any ((OpenSpec.ofChange Rows.escapeKnownSpec).preRow enc Tryd.prog Tryd.f7 Rows.escapeKnownRow.domain false Rows.escapeKnownRow.laid) (((OpenSpec.ofChange Rows.escapeKnownSpec).at F).post enc Tryd.prog Tryd.f7 false true false false) := by
  obtain ⟨places, hx⟩ := reads os enc
  refine returnsInHanded_of_row (C := Tryd.checked) (s := OpenSpec.ofChange Rows.escapeKnownSpec) own started (by kernel_rfl) Tryd.func7
    (witness_row_atRef (enc := enc) (C := Tryd.checked) false (laidWorld os) (#[] : Array Value) rfl (by kernel_rfl) (by kernel_rfl) (by kernel_rfl)
      (OpenSpec.preRow_of_cond 8 hx (by kernel_rfl) (fun k hk => by cases hk) (by kernel_rfl) (laid_met os _))) ?_
  intro W base args ds gs before hval hW _ _ _ hL _ _
  exact contract H enc W base args ds gs before hval hW hL
theorem said : Rows.EscapeKnownSaid :=
  OpenClaim.holds_of_cond 7 Tryd.f7 rfl rfl rfl rfl rfl rfl rfl ⟨rfl, rfl, rfl, rfl, rfl⟩ rfl rfl rfl rfl rfl (by kernel_rfl) Tryd.func7 (by kernel_rfl)
    (of_decide_eq_true (by kernel_rfl)) (by unfold Func.isWrapper; rw [if_neg (of_decide_eq_false (by kernel_rfl))]; exact ⟨rfl, rfl⟩)
    (fun os started H enc _ F => by rw [OpenClaim.pre_eq_preRow]; exact lifted os started H enc F)
theorem plain (f : FuncId) (fn : Func) (hf : Tryd.pinned.checked.prog.funcNamed Rows.escapeKnownRow.func = some f) (hfn : Tryd.pinned.checked.prog.funcs[f]? = some fn) :
    false = Tryd.pinned.checked.prog.looks [] ∧ ∀ (j : Nat) t, fn.params[j]? = some t → Tryd.pinned.checked.prog.wantsStandIn t = false := by
  obtain rfl : f = 7 := Option.some.inj ((show Tryd.prog.funcNamed Rows.escapeKnownRow.func = some 7 by kernel_rfl).symm.trans hf) |>.symm
  obtain rfl : fn = Tryd.f7 := (Option.some.inj (Tryd.func7.symm.trans hfn)).symm
  refine ⟨by kernel_rfl, fun j t ht => ?_⟩
  rw [Tryd.params7] at ht
  simp at ht
theorem card : Rows.EscapeKnownCardSaid :=
  Claim7.holds_tied_plain_at .later [] _ _ _ _ said (fun _ h => by cases h) (by kernel_rfl) (fun _ h => by cases h) escapeKnown_row_tie rfl ⟨rfl, rfl⟩ (by kernel_rfl) rfl plain (by kernel_rfl)
#print axioms card
end Go.Proofs.YtnemfapegbehlaaDoor.lwEscapeKnown
