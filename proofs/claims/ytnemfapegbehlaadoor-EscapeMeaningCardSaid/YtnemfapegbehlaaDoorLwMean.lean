/- EscapeMeaning is proved: for every dialect number and every string the law returns true; a string of more than 200 bytes is answered by the fixed calls alone. -/
import Derived.Test.YtnemfapegbehlaaDoorShown
import Derived.Test.YtnemfapegbehlaaDoorEscQ
import Derived.Test.YtnemfapegbehlaaDoorFrame
namespace Go.Proofs.YtnemfapegbehlaaDoor.lwEscapeMeaning
open Go.ChangeShapes Go.WideShapes Go.ChangeAt Go.RowKit
open Go.ChangeMaps (open_string shut_string)

/-- The four cases of a string that means something, and the one of a string that does not. -/
theorem cases5 (d : Int) (s : ByteArray) : ((bkE d s == 0) = false ∧ bkS d s = ⟨#[]⟩ ∧ bkW d s = 0) ∨
    (bkE d s = 0 ∧ bkW d s = 1 ∧ nmE d (bkS d s) = 0 ∧ nmS d (bkS d s) = s) ∨
    (bkE d s = 0 ∧ bkW d s = 2 ∧ d = 3 ∧ wtE d (bkS d s) = 0 ∧ wtS d (bkS d s) = s) ∨
    (bkE d s = 0 ∧ bkW d s = 3 ∧ d = 3 ∧ bkS d s = ⟨#[]⟩ ∧ s = ⟨#[46, 119, 104, 46, 46, 119, 104, 46, 111, 112, 113]⟩) ∨
    (bkE d s = 0 ∧ bkW d s = 4 ∧ d = 3 ∧ bkS d s = ⟨#[]⟩ ∧ s = ⟨#[46, 119, 104, 46, 46, 119, 104, 46, 112, 108, 110, 107]⟩) := by
  have e0 : L (bkS d s) = (backT d (L s)).1 := L_ofL _
  rcases back_means (d := d) (raw := L s) with ⟨h1, h2, h3⟩ | ⟨h1, h0, hm⟩
  · refine .inl ⟨beq_eq_false_iff_ne.2 h1, ?_, h3⟩
    apply L_inj; rw [e0, h2]; rfl
  · obtain ⟨hd, hn⟩ := askE_zero h0
    have hz := (nameE_zero hn).2.2.2.2
    rw [← e0] at hm
    rcases hm with ⟨w1, k1, k2⟩ | ⟨w1, rfl, k1, k2⟩ | ⟨w1, rfl, k1, k2⟩ | ⟨w1, rfl, k1, k2⟩
    · obtain ⟨f1, f2⟩ := nm_of k1 (by rw [k2]; exact hz)
      refine .inr (.inl ⟨h1, w1, f1, ?_⟩)
      rw [f2]; apply L_inj; rw [L_wrS]; exact k2
    · obtain ⟨f1, f2⟩ := wt_of k1 (by rw [k2]; exact hz)
      refine .inr (.inr (.inl ⟨h1, w1, rfl, f1, ?_⟩))
      rw [f2]; apply L_inj; rw [L_whS]; exact k2
    · exact .inr (.inr (.inr (.inl ⟨h1, w1, rfl, L_inj (by rw [k1]; rfl), L_inj k2⟩)))
    · exact .inr (.inr (.inr (.inr ⟨h1, w1, rfl, L_inj (by rw [k1]; rfl), L_inj k2⟩)))
theorem bkS_le (d : Int) (s : ByteArray) (hs : s.size ≤ 200) : (bkS d s).size ≤ 300 := by
  have e0 : (bkS d s).size = (backT d (L s)).1.length := size_ofL _
  rw [e0]
  have hl := size_L s
  have h4 : whL.length = 4 := rfl
  unfold backT
  repeat' split
  all_goals simp only [List.length_nil, List.length_append, List.length_drop]
  all_goals omega

set_option maxRecDepth 100000 in
set_option maxHeartbeats 2000000 in
theorem walk (d : Int) (s : ByteArray) (w : World) (hL : Laid w) : RetB Tryd.prog 6 #[.int .i64 d, .string s] w (.bool true) := by
  unfold RetB
  have HL := Lib.hid hL; clear hL
  by_cases hs : 200 < s.size
  · go_enter Tryd.func6, Tryd.ntmps6
    go_wp2_with (go_at_call 10; refine (shown _ HL.out).mono ?_; rintro e w1 ⟨rfl, hb⟩)
    go_ret
    exact ⟨rfl, hb⟩
  have hz := bkS_le d s (by omega)
  have HB : Hid (Ext w w) := Below.refl _ _
  rcases cases5 d s with ⟨a1, a2, a3⟩ | ⟨a1, a2, a3, a4⟩ | ⟨a1, a2, rfl, a3, a4⟩ | ⟨a1, a2, rfl, a3, a4⟩ | ⟨a1, a2, rfl, a3, a4⟩
  · go_enter Tryd.func6, Tryd.ntmps6
    go_wp2_with (first
      | (go_at_call 15; refine (escBack d s _ (by omega)).mono ?_; rintro e w1 ⟨rfl, hb⟩; replace HB := Lib.hid (Ext.trans HB.out hb); clear hb)
      | (go_at_call 10; refine (shown _ (HL.out.ext HB.out)).mono ?_; rintro e w1 ⟨rfl, hb⟩; replace HB := Lib.hid (Ext.trans HB.out hb); clear hb))
    go_ret
    exact ⟨rfl, HB.out⟩
  · go_enter Tryd.func6, Tryd.ntmps6
    go_wp2_with (first
      | (go_at_call 15; refine (escBack d s _ (by omega)).mono ?_; rintro e w1 ⟨rfl, hb⟩; replace HB := Lib.hid (Ext.trans HB.out hb); clear hb)
      | (go_at_call 11; refine (escName d _ _ (by omega)).mono ?_; rintro e w1 ⟨rfl, hb⟩; replace HB := Lib.hid (Ext.trans HB.out hb); clear hb)
      | (go_at_call 10; refine (shown _ (HL.out.ext HB.out)).mono ?_; rintro e w1 ⟨rfl, hb⟩; replace HB := Lib.hid (Ext.trans HB.out hb); clear hb))
    go_ret
    exact ⟨rfl, HB.out⟩
  · go_enter Tryd.func6, Tryd.ntmps6
    go_wp2_with (first
      | (go_at_call 15; refine (escBack 3 s _ (by omega)).mono ?_; rintro e w1 ⟨rfl, hb⟩; replace HB := Lib.hid (Ext.trans HB.out hb); clear hb)
      | (go_at_call 13; refine (escWhite 3 _ _ (by omega)).mono ?_; rintro e w1 ⟨rfl, hb⟩; replace HB := Lib.hid (Ext.trans HB.out hb); clear hb)
      | (go_at_call 10; refine (shown _ (HL.out.ext HB.out)).mono ?_; rintro e w1 ⟨rfl, hb⟩; replace HB := Lib.hid (Ext.trans HB.out hb); clear hb))
    go_ret
    exact ⟨rfl, HB.out⟩
  all_goals
    have a5 := escBack 3 s
    rw [a1, a2, a3] at a5
    subst a4
    have A5 := Lib.hid a5; clear a5 a1 a2 a3 hz hs
    go_enter Tryd.func6, Tryd.ntmps6
    go_wp2_with (first
      | (go_at_call 15; refine (A5.out _ (by decide)).mono ?_; rintro e w1 ⟨rfl, hb⟩; replace HB := Lib.hid (Ext.trans HB.out hb); clear hb)
      | (go_at_call 10; refine (shown _ (HL.out.ext HB.out)).mono ?_; rintro e w1 ⟨rfl, hb⟩; replace HB := Lib.hid (Ext.trans HB.out hb); clear hb))
    go_ret
    exact ⟨rfl, HB.out⟩

set_option maxRecDepth 100000 in
theorem contract (H : Type) (enc : TypeId × Value → H) (W : World) (base : Nat) (args : Array Value) (ds gs : List (DataW H)) (before : List MemPlace)
    (hval : ∀ (j : Nat) t v, Tryd.f6.params[j]? = some t → args[j]? = some v → Value.okWide Tryd.prog W .any base t v)
    (hW : DataW.Whole enc Tryd.prog Tryd.f6.params.toList Rows.escapeMeaningSpec.vars false W args.toList ds gs before) (hL : laidMetH Tryd.prog Rows.escapeMeaningRow.laid W) :
    Calls Tryd.prog 6 args W fun e W' => ∃ v, e = .returned v ∧ Rows.escapeMeaningSpec.post enc Tryd.prog Tryd.f6 false true false false W args v W' := by
  have hW' := hW
  obtain ⟨p, q, hA0, hV, rfl, hfz, hnd⟩ := hW
  have hA : DataW.TrodAll enc Tryd.prog W 0 (fun _ => true) true Tryd.f6.params.toList args.toList ds p := hA0
  rw [Tryd.params6] at hA hval
  obtain ⟨v0, vs0, d0, ds0, p0, q0, hargs, rfl, rfl, h0, r0⟩ := trodAll_cons hA
  obtain ⟨v1, vs1, d1, ds1, p1, q1, rfl, rfl, rfl, h1, r1⟩ := trodAll_cons r0
  obtain ⟨rfl, rfl, rfl⟩ := trodAll_nil r1
  obtain rfl : args = #[v0, v1] := by cases args; simp_all
  obtain ⟨x0, rfl, rfl, rfl, w0⟩ := open_int Tryd.underlying3 (hval 0 3 v0 rfl rfl) h0
  obtain ⟨x1, rfl, rfl, rfl, w1⟩ := open_string Tryd.underlying9 (hval 1 9 v1 rfl rfl) h1
  refine (walk x0 x1 W (laid_of hL)).mono fun e W' ⟨he, hb⟩ => ?_
  subst he
  exact ⟨_, rfl, law_post hW' rfl rfl rfl (by intro t ht; rw [Tryd.params6] at ht; simp at ht; rcases ht with rfl | rfl <;> exact ⟨by kernel_rfl, of_decide_eq_true (by kernel_rfl)⟩) hb⟩
theorem reads (os : Os) {H : Type} (enc : TypeId × Value → H) : ∃ places, DataW.whole enc Tryd.prog ((laidWorld os).forCall (fun _ _ => 0) ⟨#[], (#[.int .i64 0, .string ⟨#[]⟩] : Array Value), []⟩).memory Tryd.f6.params.toList Rows.escapeMeaningSpec.vars false (#[.int .i64 0, .string ⟨#[]⟩] : Array Value).toList 8 = some ([.lit (.int .i64 0), .lit (.string [])], [], places) :=
  ⟨[], by kernel_rfl⟩
set_option maxRecDepth 100000 in
theorem lifted (os : Os) (started : os.Started) (H : Type) (enc : TypeId × Value → H) (F : Stop.Interp) :
    ReturnsInHanded {} Tryd.checked os 6 .any ((OpenSpec.ofChange Rows.escapeMeaningSpec).preRow enc Tryd.prog Tryd.f6 Rows.escapeMeaningRow.domain false Rows.escapeMeaningRow.laid) (((OpenSpec.ofChange Rows.escapeMeaningSpec).at F).post enc Tryd.prog Tryd.f6 false true false false) := by
  obtain ⟨places, hx⟩ := reads os enc
  refine returnsInHanded_of_row (C := Tryd.checked) (s := OpenSpec.ofChange Rows.escapeMeaningSpec) own started (by kernel_rfl) Tryd.func6
    (witness_row_atRef (enc := enc) (C := Tryd.checked) false (laidWorld os) (#[.int .i64 0, .string ⟨#[]⟩] : Array Value) rfl (by kernel_rfl) (by kernel_rfl) (by kernel_rfl)
      (OpenSpec.preRow_of_cond 8 hx (by kernel_rfl) (fun k hk => by cases hk) (by kernel_rfl) (laid_met os _))) ?_
  intro W base args ds gs before hval hW _ _ _ hL _ _
  exact contract H enc W base args ds gs before hval hW hL
theorem said : Rows.EscapeMeaningSaid :=
  OpenClaim.holds_of_cond 6 Tryd.f6 rfl rfl rfl rfl rfl rfl rfl ⟨rfl, rfl, rfl, rfl, rfl⟩ rfl rfl rfl rfl rfl (by kernel_rfl) Tryd.func6 (by kernel_rfl)
    (of_decide_eq_true (by kernel_rfl)) (by unfold Func.isWrapper; rw [if_neg (of_decide_eq_false (by kernel_rfl))]; exact ⟨rfl, rfl⟩)
    (fun os started H enc _ F => by rw [OpenClaim.pre_eq_preRow]; exact lifted os started H enc F)
theorem plain (f : FuncId) (fn : Func) (hf : Tryd.pinned.checked.prog.funcNamed Rows.escapeMeaningRow.func = some f) (hfn : Tryd.pinned.checked.prog.funcs[f]? = some fn) :
    false = Tryd.pinned.checked.prog.looks [] ∧ ∀ (j : Nat) t, fn.params[j]? = some t → Tryd.pinned.checked.prog.wantsStandIn t = false := by
  obtain rfl : f = 6 := Option.some.inj ((show Tryd.prog.funcNamed Rows.escapeMeaningRow.func = some 6 by kernel_rfl).symm.trans hf) |>.symm
  obtain rfl : fn = Tryd.f6 := (Option.some.inj (Tryd.func6.symm.trans hfn)).symm
  refine ⟨by kernel_rfl, fun j t ht => ?_⟩
  rw [Tryd.params6] at ht
  have hm := Array.mem_of_getElem? ht
  simp at hm
  rcases hm with rfl | rfl
  · exact (show Tryd.prog.wantsStandIn 3 = false by kernel_rfl)
  · exact (show Tryd.prog.wantsStandIn 9 = false by kernel_rfl)
theorem card : Rows.EscapeMeaningCardSaid :=
  Claim7.holds_tied_plain_at .later [] _ _ _ _ said (fun _ h => by cases h) (by kernel_rfl) (fun _ h => by cases h) escapeMeaning_row_tie rfl ⟨rfl, rfl⟩ (by kernel_rfl) rfl plain (by kernel_rfl)
#print axioms card
end Go.Proofs.YtnemfapegbehlaaDoor.lwEscapeMeaning
