/- EscapeLists is proved: for every dialect number and every list of attributes the law returns true; a longer list is answered by the fixed calls alone. -/
import Derived.Test.YtnemfapegbehlaaDoorShown
import Derived.Test.YtnemfapegbehlaaDoorFrame
import Derived.Test.YtnemfapegbehlaaDoorEscT
import Derived.Test.YtnemfapegbehlaaDoorRefT
import Derived.Test.YtnemfapegbehlaaDoorRefL
import Derived.Test.YtnemfapegbehlaaDoorFar
import Derived.Test.YtnemfapegbehlaaDoorOpenA
namespace Go.Proofs.YtnemfapegbehlaaDoor.lwEscapeLists
open Go.ChangeShapes Go.WideShapes Go.ChangeAt Go.RowKit
open Go.ChangeMaps (open_string shut_string)

/-- Two slices that hold one list. -/
structure Twin (w : World) (u v : Value) : Prop where
  out : ∃ a, AttrsAt w u a ∧ AttrsAt w v a ∧ a.length ≤ 1000
theorem Twin.ext {w w' : World} {u v : Value} (h : Twin w u v) (he : Ext w w') : Twin w' u v := by
  obtain ⟨a, h1, h2, h3⟩ := h.out
  exact ⟨a, h1.ext he, h2.ext he, h3⟩
theorem sameTwin (u v : Value) (w : World) (h : Twin w u v) : RetB Tryd.prog 29 #[u, v] w (.bool true) := by
  obtain ⟨a, h1, h2, h3⟩ := h.out
  have h := refSame u v a a w h1 h2 h3 h3
  rwa [show decide (a = a) = true from decide_eq_true rfl] at h
set_option maxHeartbeats 1000000 in
set_option maxRecDepth 100000 in
theorem walk (d : Int) (v : Value) (l : List Attr) (w : World) (hv : AttrsAt w v l) (hL : Laid w) : RetB Tryd.prog 8 #[.int .i64 d, v] w (.bool true) := by
  unfold RetB
  have HL := Lib.hid hL; clear hL
  have HV := Lib.hid hv; clear hv
  cases hf : farB l
  case true =>
    go_enter Tryd.func8, Tryd.ntmps8
    go_wp2_with (first
      | (go_at_call 24; refine (lawFar v l _ HV.out).mono ?_; rintro e w1 ⟨rfl, rfl⟩; rw [hf])
      | (go_at_call 10; refine (shown _ HL.out).mono ?_; rintro e w1 ⟨rfl, hb⟩))
    go_ret
    exact ⟨rfl, hb⟩
  obtain ⟨hl, hs⟩ := farB_no hf
  have HS : Hid (Small l) := fun a ha => by have := hs a ha; omega
  have HN1 : Hid ((atsL d l).length ≤ 1000) := by
    show _ ≤ _
    unfold atsL
    split
    · split
      · rw [wantA_length]; omega
      · simp
    · simp
  have HN2 : Hid ((ptsP d l).length ≤ 1000) := by
    show _ ≤ _
    unfold ptsP
    split
    · rw [(srtA_perm _).length_eq]; have := plR_len d l; omega
    · simp
  have HN3 : Hid ((ptsO d l).length ≤ 1000) := by
    show _ ≤ _
    unfold ptsO
    split
    · rw [(srtA_perm _).length_eq]; have := owR_len d l; omega
    · simp
  have k0 : ∀ W, AttrsAt W v l → Ret Tryd.prog 24 #[v] W (.bool false) := fun W h => by rw [← hf]; exact lawFar v l W h
  have k1 := fun W (h1 : Laid W) (h2 : AttrsAt W v l) => escAttrs d v l W h1 h2 HS.out
  have k2 := fun W (h2 : AttrsAt W v l) => refAttrs d v l W h2 HS.out
  have k3 := fun W (h1 : Laid W) (h2 : AttrsAt W v l) => escParts d v l W h1 h2 HS.out
  have k4 := fun W (h2 : AttrsAt W v l) => refParts d v l W h2 HS.out
  clear hs hf HS
  generalize atsL d l = LA at k1 k2 HN1
  generalize atsE d l = ea at k1 k2
  generalize ptsP d l = LP at k3 k4 HN2
  generalize ptsO d l = LO at k3 k4 HN3
  generalize ptsE d l = ep at k3 k4
  have K0 := Lib.hid k0
  have K1 := Lib.hid k1
  have K2 := Lib.hid k2
  have K3 := Lib.hid k3
  have K4 := Lib.hid k4
  have HLn := Lib.hid hl
  clear k0 k1 k2 k3 k4 hl
  have HB : Hid (Ext w w) := Below.refl _ _
  go_enter Tryd.func8, Tryd.ntmps8
  go_wp2_with (first
    | (go_at_call 24; refine (K0.out _ HV.out).mono ?_; rintro e w1 ⟨rfl, rfl⟩)
    | (at_builtin; refine appA rfl (.tmp 19) (.tmp 20) rfl w.heap.size _ v [] l w (w.alloc (.cells #[] 42)) rfl rfl (OwnA.fresh w 0) (HV.out.ext (ext_alloc _ _)) (ext_alloc _ _) (by simp) (by have := HLn.out; simp; omega) ?_; intro vo w1 ha; have OW := Lib.hid ha.own.at; replace HB : Hid (Ext w w1) := ha.below; clear ha)
    | (go_at_call 25; refine (K1.out _ (HL.out.ext HB.out) (HV.out.ext HB.out)).mono ?_; rintro e w2 ⟨⟨va, rfl, hat⟩, hb⟩; replace OW := Lib.hid (OW.out.ext hb); have A1 := Lib.hid hat; replace HB := Lib.hid (Ext.trans HB.out hb); clear hb hat)
    | (go_at_call 26; refine (K2.out _ (HV.out.ext HB.out)).mono ?_; rintro e w3 ⟨⟨vb, rfl, hat⟩, hb⟩; replace OW := Lib.hid (OW.out.ext hb); replace A1 := Lib.hid (A1.out.ext hb); have A2 := Lib.hid hat; replace HB := Lib.hid (Ext.trans HB.out hb); clear hb hat)
    | (go_at_call 27; refine (K3.out _ (HL.out.ext HB.out) (HV.out.ext HB.out)).mono ?_; rintro e w4 ⟨⟨vc, vd, rfl, hat, hat2⟩, hb⟩; replace OW := Lib.hid (OW.out.ext hb); replace A1 := Lib.hid (A1.out.ext hb); replace A2 := Lib.hid (A2.out.ext hb); have P1 := Lib.hid hat; have O1 := Lib.hid hat2; replace HB := Lib.hid (Ext.trans HB.out hb); clear hb hat hat2)
    | (go_at_call 28; refine (K4.out _ (HV.out.ext HB.out)).mono ?_; rintro e w5 ⟨⟨ve, vf, rfl, hat, hat2⟩, hb⟩; replace OW := Lib.hid (OW.out.ext hb); replace A1 := Lib.hid (A1.out.ext hb); replace A2 := Lib.hid (A2.out.ext hb); replace P1 := Lib.hid (P1.out.ext hb); replace O1 := Lib.hid (O1.out.ext hb); have P2 := Lib.hid hat; have O2 := Lib.hid hat2; replace HB := Lib.hid (Ext.trans HB.out hb); have H5 : Hid (Ext w5 w5) := Below.refl _ _; have T1 : Hid (Twin w5 va vb) := ⟨LA, A1.out, A2.out, HN1.out⟩; have T2 : Hid (Twin w5 vc ve) := ⟨LP, P1.out, P2.out, HN2.out⟩; have T3 : Hid (Twin w5 vd vf) := ⟨LO, O1.out, O2.out, HN3.out⟩; have T4 : Hid (Twin w5 v vo) := ⟨l, HV.out.ext HB.out, OW.out, Nat.le_trans HLn.out (by decide)⟩; clear hb hat hat2)
    | (go_at_call 29; refine (sameTwin _ _ _ (by first | exact T1.out.ext H5.out | exact T2.out.ext H5.out | exact T3.out.ext H5.out | exact T4.out.ext H5.out)).mono ?_; rintro e w6 ⟨rfl, hb⟩; replace H5 := Lib.hid (Ext.trans H5.out hb); clear hb)
    | (go_at_call 10; refine (shown _ (HL.out.ext (Ext.trans HB.out H5.out))).mono ?_; rintro e w1 ⟨rfl, hb⟩; replace H5 := Lib.hid (Ext.trans H5.out hb); clear hb))
  go_ret
  exact ⟨rfl, Ext.trans HB.out H5.out⟩
set_option maxRecDepth 100000 in
theorem contract (H : Type) (enc : TypeId × Value → H) (W : World) (base : Nat) (args : Array Value) (ds gs : List (DataW H)) (before : List MemPlace)
    (hval : ∀ (j : Nat) t v, Tryd.f8.params[j]? = some t → args[j]? = some v → Value.okWide Tryd.prog W .any base t v)
    (hW : DataW.Whole enc Tryd.prog Tryd.f8.params.toList Rows.escapeListsSpec.vars false W args.toList ds gs before) (hL : laidMetH Tryd.prog Rows.escapeListsRow.laid W) :
    Calls Tryd.prog 8 args W fun e W' => ∃ v, e = .returned v ∧ Rows.escapeListsSpec.post enc Tryd.prog Tryd.f8 false true false false W args v W' := by
  have hW' := hW
  obtain ⟨p, q, hA0, hV, rfl, hfz, hnd⟩ := hW
  have hA : DataW.TrodAll enc Tryd.prog W 0 (fun _ => true) true Tryd.f8.params.toList args.toList ds p := hA0
  rw [Tryd.params8] at hA hval
  obtain ⟨v0, vs0, d0, ds0, p0, q0, hargs, rfl, rfl, h0, r0⟩ := trodAll_cons hA
  obtain ⟨v1, vs1, d1, ds1, p1, q1, rfl, rfl, rfl, h1, r1⟩ := trodAll_cons r0
  obtain ⟨rfl, rfl, rfl⟩ := trodAll_nil r1
  obtain rfl : args = #[v0, v1] := by cases args; simp_all
  obtain ⟨x0, rfl, rfl, rfl, w0⟩ := open_int Tryd.underlying3 (hval 0 3 v0 rfl rfl) h0
  obtain ⟨x1, w1⟩ := open_attrs (hval 1 33 v1 rfl rfl) h1
  refine (walk x0 v1 x1 W w1 (laid_of hL)).mono fun e W' ⟨he, hb⟩ => ?_
  subst he
  exact ⟨_, rfl, law_post hW' rfl rfl rfl (by intro t ht; rw [Tryd.params8] at ht; simp at ht; rcases ht with rfl | rfl <;> exact ⟨by kernel_rfl, of_decide_eq_true (by kernel_rfl)⟩) hb⟩
theorem reads (os : Os) {H : Type} (enc : TypeId × Value → H) : ∃ places, DataW.whole enc Tryd.prog ((laidWorld os).forCall (fun _ _ => 0) ⟨#[], (#[.int .i64 0, .slice none 0 0] : Array Value), []⟩).memory Tryd.f8.params.toList Rows.escapeListsSpec.vars false (#[.int .i64 0, .slice none 0 0] : Array Value).toList 8 = some ([.lit (.int .i64 0), .nil], [], places) :=
  ⟨[], by kernel_rfl⟩
set_option maxRecDepth 100000 in
theorem lifted (os : Os) (started : os.Started) (H : Type) (enc : TypeId × Value → H) (F : Stop.Interp) :
    ReturnsInHanded {} Tryd.checked os 8 .any ((OpenSpec.ofChange Rows.escapeListsSpec).preRow enc Tryd.prog Tryd.f8 Rows.escapeListsRow.domain false Rows.escapeListsRow.laid) (((OpenSpec.ofChange Rows.escapeListsSpec).at F).post enc Tryd.prog Tryd.f8 false true false false) := by
  obtain ⟨places, hx⟩ := reads os enc
  refine returnsInHanded_of_row (C := Tryd.checked) (s := OpenSpec.ofChange Rows.escapeListsSpec) own started (by kernel_rfl) Tryd.func8
    (witness_row_atRef (enc := enc) (C := Tryd.checked) false (laidWorld os) (#[.int .i64 0, .slice none 0 0] : Array Value) rfl (by kernel_rfl) (by kernel_rfl) (by kernel_rfl)
      (OpenSpec.preRow_of_cond 8 hx (by kernel_rfl) (fun k hk => by cases hk) (by kernel_rfl) (laid_met os _))) ?_
  intro W base args ds gs before hval hW _ _ _ hL _ _
  exact contract H enc W base args ds gs before hval hW hL
theorem said : Rows.EscapeListsSaid :=
  OpenClaim.holds_of_cond 8 Tryd.f8 rfl rfl rfl rfl rfl rfl rfl ⟨rfl, rfl, rfl, rfl, rfl⟩ rfl rfl rfl rfl rfl (by kernel_rfl) Tryd.func8 (by kernel_rfl)
    (of_decide_eq_true (by kernel_rfl)) (by unfold Func.isWrapper; rw [if_neg (of_decide_eq_false (by kernel_rfl))]; exact ⟨rfl, rfl⟩)
    (fun os started H enc _ F => by rw [OpenClaim.pre_eq_preRow]; exact lifted os started H enc F)
theorem plain (f : FuncId) (fn : Func) (hf : Tryd.pinned.checked.prog.funcNamed Rows.escapeListsRow.func = some f) (hfn : Tryd.pinned.checked.prog.funcs[f]? = some fn) :
    false = Tryd.pinned.checked.prog.looks [] ∧ ∀ (j : Nat) t, fn.params[j]? = some t → Tryd.pinned.checked.prog.wantsStandIn t = false := by
  obtain rfl : f = 8 := Option.some.inj ((show Tryd.prog.funcNamed Rows.escapeListsRow.func = some 8 by kernel_rfl).symm.trans hf) |>.symm
  obtain rfl : fn = Tryd.f8 := (Option.some.inj (Tryd.func8.symm.trans hfn)).symm
  refine ⟨by kernel_rfl, fun j t ht => ?_⟩
  rw [Tryd.params8] at ht
  have hm := Array.mem_of_getElem? ht
  simp at hm
  rcases hm with rfl | rfl
  · exact (show Tryd.prog.wantsStandIn 3 = false by kernel_rfl)
  · exact (show Tryd.prog.wantsStandIn 33 = false by kernel_rfl)
theorem card : Rows.EscapeListsCardSaid :=
  Claim7.holds_tied_plain_at .later [] _ _ _ _ said (fun _ h => by cases h) (by kernel_rfl) (fun _ h => by cases h) escapeLists_row_tie rfl ⟨rfl, rfl⟩ (by kernel_rfl) rfl plain (by kernel_rfl)
#print axioms card
end Go.Proofs.YtnemfapegbehlaaDoor.lwEscapeLists
