/- limewashref03.Parse: the pieces of a text between the slashes. -/
/- limewashref21.turned, booked. -/
import Derived.Test.YtiliglpolcpnbaaGreatDoorQParP
import Derived.Test.YtiliglpolcpnbaaGreatDoorQPthP
import Derived.Test.YtiliglpolcpnbaaGreatDoorQOrA
import Derived.Test.YtiliglpolcpnbaaGreatDoorQOvA
namespace Go.Proofs.YtiliglpolcpnbaaGreatDoor
open Go.RowKit

theorem cuts_mid {x : List UInt8} (h : (47 : UInt8) ∉ x) (r : List UInt8) : cutsL (x ++ 47 :: r) = x :: cutsL r := by
  induction x with
  | nil => exact cuts_slash r
  | cons c x ih =>
    simp only [List.mem_cons, not_or] at h
    rw [List.cons_append, cuts_ne (fun e => h.1 e.symm), ih h.2]; rfl
theorem cuts_end {x : List UInt8} (h : (47 : UInt8) ∉ x) : cutsL x = [x] := by
  induction x with
  | nil => rfl
  | cons c x ih =>
    simp only [List.mem_cons, not_or] at h
    rw [cuts_ne (fun e => h.1 e.symm), ih h.2]; rfl
theorem cuts_len (l : List UInt8) : (cutsL l).length ≤ l.length + 1 ∧ ∀ x ∈ cutsL l, x.length ≤ l.length := by
  induction l with
  | nil => exact ⟨Nat.le_refl _, fun x hx => by rw [List.mem_singleton.1 hx]; exact Nat.le_refl _⟩
  | cons c r ih =>
    obtain ⟨y, q, e⟩ := cuts_cons r
    rw [e] at ih
    by_cases h : c = 47
    · subst h
      rw [cuts_slash, e]
      refine ⟨by have := ih.1; simp only [List.length_cons] at this ⊢; omega, fun x hx => ?_⟩
      rcases List.mem_cons.1 hx with rfl | hx
      · exact Nat.zero_le _
      · have := ih.2 x hx; simp only [List.length_cons]; omega
    · rw [cuts_ne h, e]
      refine ⟨by have := ih.1; simp only [List.length_cons, List.tail_cons] at this ⊢; omega, fun x hx => ?_⟩
      rcases List.mem_cons.1 hx with rfl | hx
      · have := ih.2 y (by simp); simp only [List.headD_cons, List.length_cons]; omega
      · have := ih.2 x (by simpa using .inr hx); simp only [List.length_cons]; omega
/-- What the loop of Parse knows: the pieces so far, where the next one begins, and how far it has been looked at. -/
structure ParSt (s : ByteArray) (out : List ByteArray) (fr i : Nat) : Prop where
  lo : 1 ≤ i
  hi : i ≤ s.size + 1
  num : out.length + 1 ≤ i
  mid : i ≤ s.size → 1 ≤ fr ∧ fr ≤ i ∧ cutsB ((L s).drop 1) = out ++ cutsB ((L s).drop fr) ∧ (47 : UInt8) ∉ ((L s).drop fr).take (i - fr)
  fin : i = s.size + 1 → cutsB ((L s).drop 1) = out
theorem par_start {s : ByteArray} (h : 1 ≤ s.size) : ParSt s [] 1 1 := ⟨Nat.le_refl _, by omega, Nat.le_refl _, fun _ => ⟨Nat.le_refl _, Nat.le_refl _, rfl, by simp⟩, fun e => by omega⟩
theorem par_skip {s : ByteArray} {out : List ByteArray} {fr i : Nat} (h : ParSt s out fr i) (hi : i < s.size) (hc : s[i]'hi ≠ 47) : ParSt s out fr (i + 1) := by
  obtain ⟨h1, h2, h3, h4⟩ := h.mid (by omega)
  refine ⟨by omega, by omega, by have := h.num; omega, fun _ => ⟨h1, by omega, h3, ?_⟩, fun e => by omega⟩
  have hl : i < (L s).length := by rw [← size_L]; exact hi
  have hl2 : i - fr < ((L s).drop fr).length := by rw [List.length_drop]; omega
  rw [show i + 1 - fr = (i - fr) + 1 by omega, List.take_succ_eq_append_getElem hl2, List.mem_append, not_or]
  refine ⟨h4, fun e => hc ?_⟩
  rw [List.mem_singleton, List.getElem_drop] at e
  rw [getElem_L, e]
  congr 1; omega
theorem par_piece {s : ByteArray} {out : List ByteArray} {fr i : Nat} (h : ParSt s out fr i) (hi : i < s.size) (hc : s[i]'hi = 47) : ParSt s (out ++ [s.extract fr i]) (i + 1) (i + 1) := by
  obtain ⟨h1, h2, h3, h4⟩ := h.mid (by omega)
  have hl : i < (L s).length := by rw [← size_L]; exact hi
  have e : (L s).drop fr = ((L s).drop fr).take (i - fr) ++ 47 :: (L s).drop (i + 1) := by
    conv => lhs; rw [← List.take_append_drop (i - fr) ((L s).drop fr)]
    rw [List.drop_drop, show fr + (i - fr) = i by omega, List.drop_eq_getElem_cons hl, ← getElem_L s i hi, hc]
  refine ⟨by omega, by omega, by have := h.num; simp; omega, fun _ => ⟨by omega, Nat.le_refl _, ?_, by simp⟩, fun e => by omega⟩
  rw [h3]
  conv => lhs; rw [e]
  unfold cutsB
  rw [cuts_mid h4, List.map_cons, List.append_assoc]
  have : ofL (((L s).drop fr).take (i - fr)) = s.extract fr i := L_inj (by rw [L_ofL, L_extract])
  rw [this]; rfl
theorem par_last {s : ByteArray} {out : List ByteArray} {fr : Nat} (h : ParSt s out fr s.size) : ParSt s (out ++ [s.extract fr s.size]) (s.size + 1) (s.size + 1) := by
  obtain ⟨h1, h2, h3, h4⟩ := h.mid (Nat.le_refl _)
  refine ⟨by omega, Nat.le_refl _, by have := h.num; simp; omega, fun e => by omega, fun _ => ?_⟩
  rw [List.take_of_length_le (by rw [List.length_drop, ← size_L]; exact Nat.le_refl _)] at h4
  rw [h3]
  congr 1
  unfold cutsB
  rw [cuts_end h4]
  have : ofL ((L s).drop fr) = s.extract fr s.size := L_inj (by rw [L_ofL, L_drop])
  rw [List.map_cons, this]; rfl
theorem slash_no {c : UInt8} (h : c ≠ 47) : ((c.toNat : Int) == 47) = false ∧ ((c.toNat : Int) != 47) = true := by
  have : (c.toNat : Int) ≠ 47 := fun e => h (UInt8.toNat_inj.1 (by have : c.toNat = 47 := by omega
                                                                   rw [this]; rfl))
  exact ⟨beq_eq_false_iff_ne.2 this, bne_iff_ne.2 this⟩
theorem head_at {s : ByteArray} (h : 0 < s.size) : (L s).head? = some (s[0]'h) := by
  rw [getElem_L, List.head?_eq_getElem?, List.getElem?_eq_getElem]
set_option maxRecDepth 100000 in
set_option maxHeartbeats 4000000 in
theorem refParse (s : ByteArray) (w : World) (hs : s.size ≤ 900000) :
    Calls Tryz.prog 110 #[.string s] w fun e w' => (∃ a cap, e = .returned (.tuple #[.slice a (parL s).length cap, .int .i64 (parE s)]) ∧ StrIn 0 w' (.slice a (parL s).length cap) (parL s)) ∧ Ext w w' := by
  by_cases h0 : s.size = 0
  · have hl : L s = [] := List.length_eq_zero_iff.1 (by rw [← size_L]; exact h0)
    have HR := Lib.hid (par_of (par_form (s := s) (fun e => by rw [hl] at e; cases e)))
    have q1 : s.toList.isEmpty = true := by rw [toList_L, hl]; rfl
    clear h0 hl
    go_enter Tryz.func110, Tryz.ntmps110
    go_wp2
    go_ret2
    exact ⟨⟨none, 0, by rw [HR.out.1, HR.out.2]; rfl, by rw [HR.out.1]; exact strIn_nil _ _ _⟩, Below.refl _ _⟩
  have hp : 0 < s.size := by omega
  have hh := head_at hp
  have q1 : s.toList.isEmpty = false := by
    rw [toList_L]
    cases e : L s with
    | nil => have := size_L s; rw [e] at this; exact absurd this h0
    | cons _ _ => rfl
  clear h0
  by_cases h1 : s[0]'hp = 47
  case neg =>
    have HR := Lib.hid (par_of (par_form (s := s) (fun e => by rw [hh] at e; exact h1 (Option.some.inj e))))
    have q3 := (slash_no h1).2
    clear h1 hh
    go_enter Tryz.func110, Tryz.ntmps110
    go_wp2
    go_ret2
    exact ⟨⟨none, 0, by rw [HR.out.1, HR.out.2]; rfl, by rw [HR.out.1]; exact strIn_nil _ _ _⟩, Below.refl _ _⟩
  have hh' : (L s).head? = some 47 := by rw [hh, h1]
  have q3 : (((s[0]'hp).toNat : Int) != 47) = false := bne_eq_false_iff_eq.2 (by rw [h1]; rfl)
  clear hh
  have ht : (L s).tail = (L s).drop 1 := List.drop_one.symm
  by_cases h2 : (L s).tail = []
  · have HR := Lib.hid (par_of (par_root hh' h2))
    have q4 : (s.toList == ([47] : List UInt8)) = true := by
      rw [toList_L]
      cases e : L s with
      | nil => rw [e] at hh'; cases hh'
      | cons c r =>
        rw [e] at hh' h2
        obtain rfl : c = 47 := Option.some.inj hh'
        obtain rfl : r = [] := h2
        rfl
    clear h1 h2 hh' ht
    go_enter Tryz.func110, Tryz.ntmps110
    go_wp2
    go_ret2
    exact ⟨⟨none, 0, by rw [HR.out.1, HR.out.2]; rfl, by rw [HR.out.1]; exact strIn_nil _ _ _⟩, Below.refl _ _⟩
  have q4 : (s.toList == ([47] : List UInt8)) = false := beq_eq_false_iff_ne.2 (fun e => h2 (by rw [← toList_L, e]; rfl))
  have HSB : Hid (∀ x ∈ cutsB ((L s).drop 1), x.size ≤ longest) := Lib.hid (fun x hx => by
    unfold cutsB at hx
    obtain ⟨y, hy, rfl⟩ := List.mem_map.1 hx
    have := (cuts_len _).2 y hy
    rw [List.length_drop, ← size_L] at this
    rw [size_ofL]; unfold longest; omega)
  have HPO := Lib.hid (par_start (s := s) (by omega))
  have HHH := Lib.hid hh'; have HH2 := Lib.hid h2; have HTD := Lib.hid ht
  clear h1 h2 hh' ht
  go_enter Tryz.func110, Tryz.ntmps110
  go_wp2
  clear q1 q3 q4
  go_loopw [4, 5, 6] (fun o f i w' => ∃ (wi : World) (l : List ByteArray) (m k : Nat), wi = w' ∧ ParSt s l m k ∧ f = .int .i64 m ∧ i = .int .i64 k ∧ m ≤ 1000000 ∧ OwnL cdS w.heap.size wi o l ∧ Ext w wi) (fun _ _ i _ => s.size + 1 - (intOf i).toNat)
  case atStart => exact ⟨_, [], 1, 1, rfl, HPO.out, rfl, rfl, by decide, OwnL.nil _ _ _, Below.refl _ _⟩
  case round =>
    obtain ⟨wi, l, m, k, rfl, hst, rfl, rfl, hm, ho, hE⟩ := hrel
    have HST := Lib.hid hst; have HO := Lib.hid ho; have HE := Lib.hid hE
    have k1 := hst.lo; have k2 := hst.hi; have k3 := hst.num
    obtain ⟨a5, cap5, rfl⟩ := ho.form
    clear hst ho hE
    by_cases hlt : k < s.size
    · have hmid := HST.out.mid (by omega)
      have m1 := hmid.1; have m2 := hmid.2.1
      clear hmid
      by_cases hc : s[k]'hlt = 47
      · have HN := Lib.hid (par_piece HST.out hlt hc)
        have q5 : (((s[k]'hlt).toNat : Int) == 47) = true := beq_iff_eq.2 (by rw [hc]; rfl)
        have q6 : (((k : Nat) : Int) == (s.size : Int)) = false := beq_eq_false_iff_ne.2 (by omega)
        clear hc
        generalize hx : s.extract m k = x at HN
        go_wp2_with (at_builtin; refine appL okS rfl (.tmp 33) (.tmp 38) rfl _ _ l [x] w _ rfl rfl (by exact HO.out.ext okS (ext_alloc _ _)) (by rw [← hx]; exact listIn_new okS _ _ _ _ rfl rfl) (by exact HE.out.trans (ext_alloc _ _)) (by have := (HE.out.trans (ext_alloc wi (.cells #[] 0))).size; simp at this ⊢; omega) (by simp; omega) ?_; intro v5 w5 ha; have HA := Lib.hid ha; clear ha)
        go_roundw
        case rel => exact ⟨_, _, k + 1, k + 1, rfl, HN.out, by go_num, by go_num, by omega, HA.out.own, HA.out.below⟩
        case measure => first | (simp [intOf]; done) | (simp [intOf]; omega)
      · have HN := Lib.hid (par_skip HST.out hlt hc)
        have q5 := (slash_no hc).1
        have q6 : (((k : Nat) : Int) == (s.size : Int)) = false := beq_eq_false_iff_ne.2 (by omega)
        clear hc
        go_wp2
        go_roundw
        case rel => exact ⟨_, l, m, k + 1, rfl, HN.out, rfl, by go_num, hm, HO.out, HE.out⟩
        case measure => first | (simp [intOf]; done) | (simp [intOf]; omega)
    by_cases hq : k = s.size
    · subst hq
      have hmid := HST.out.mid (by omega)
      have m1 := hmid.1; have m2 := hmid.2.1
      clear hmid
      have HN := Lib.hid (par_last HST.out)
      generalize hx : s.extract m s.size = x at HN
      go_wp2_with (at_builtin; refine appL okS rfl (.tmp 33) (.tmp 38) rfl _ _ l [x] w _ rfl rfl (by exact HO.out.ext okS (ext_alloc _ _)) (by rw [← hx]; exact listIn_new okS _ _ _ _ rfl rfl) (by exact HE.out.trans (ext_alloc _ _)) (by have := (HE.out.trans (ext_alloc wi (.cells #[] 0))).size; simp at this ⊢; omega) (by simp; omega) ?_; intro v5 w5 ha; have HA := Lib.hid ha; clear ha)
      go_roundw
      case rel => exact ⟨_, _, s.size + 1, s.size + 1, rfl, HN.out, by go_num, by go_num, by omega, HA.out.own, HA.out.below⟩
      case measure => first | (simp [intOf]; done) | (simp [intOf]; omega)
    · have HL := Lib.hid (HST.out.fin (by omega))
      have HBD : Hid (∀ x ∈ l, x.size ≤ longest) := Lib.hid (by rw [← HL.out]; exact HSB.out)
      have HT2 : Hid (cutsB (L s).tail = l) := Lib.hid (by rw [HTD.out]; exact HL.out)
      by_cases h3 : pathE l = 0
      · have HR := Lib.hid (par_of (par_ok HHH.out HH2.out (by rw [HT2.out]; exact h3)))
        rw [HT2.out] at HR
        have q2 : (pathE l != 0) = false := bne_eq_false_iff_eq.2 h3
        clear h3
        go_wp2_with (go_at_call 101; refine (refPathCheckX _ l _ (HO.out.in okS).strs HBD.out).mono ?_; rintro e w2 ⟨rfl, rfl⟩)
        go_ret2
        exact ⟨⟨_, _, by rw [HR.out.1, HR.out.2]; rfl, by rw [HR.out.1]; exact strIn_of (HO.out.in okS).strs (Nb.own (by exact HO.out.choose_spec.2.2))⟩, HE.out⟩
      · have HR := Lib.hid (par_of (par_bad HHH.out HH2.out (by rw [HT2.out]; exact h3)))
        rw [HT2.out] at HR
        have q2 : (pathE l != 0) = true := bne_iff_ne.2 h3
        clear h3
        go_wp2_with (go_at_call 101; refine (refPathCheckX _ l _ (HO.out.in okS).strs HBD.out).mono ?_; rintro e w2 ⟨rfl, rfl⟩)
        go_ret2
        exact ⟨⟨none, 0, by rw [HR.out.1, HR.out.2]; rfl, by rw [HR.out.1]; exact strIn_nil _ _ _⟩, HE.out⟩
end Go.Proofs.YtiliglpolcpnbaaGreatDoor

namespace Go.Proofs.YtiliglpolcpnbaaGreatDoor
open Go.RowKit

theorem refValueO (v : Value) (own : List Attr) (w : World) (hv : AttrsAt w v own) (hl : own.length ≤ 1000000) : Ret Tryz.prog 76 #[v, .string ⟨#[111, 112, 97, 113, 117, 101]⟩] w (.tuple #[.string (valM own opqW), .bool (isM own opqW)]) := refValue v own opqW w hv hl
theorem refValueR (v : Value) (own : List Attr) (w : World) (hv : AttrsAt w v own) (hl : own.length ≤ 1000000) : Ret Tryz.prog 76 #[v, .string ⟨#[114, 101, 100, 105, 114, 101, 99, 116]⟩] w (.tuple #[.string (valM own reW), .bool (isM own reW)]) := refValue v own reW w hv hl
theorem refValueN (v : Value) (own : List Attr) (w : World) (hv : AttrsAt w v own) (hl : own.length ≤ 1000000) : Ret Tryz.prog 76 #[v, .string ⟨#[110, 108, 105, 110, 107]⟩] w (.tuple #[.string (valM own nlW), .bool (isM own nlW)]) := refValue v own nlW w hv hl
/-- What the reference's turned leaves. -/
def RturnP (w : World) (own : List Attr) (e : Ending) (w' : World) : Prop := (∃ q a n cap, e = .returned (.tuple #[.bool q, .slice a n cap, .bool (turnE own == 0)]) ∧ (turnE own = 0 → q = turnO own ∧ n = (turnR own).length ∧ StrIn 0 w' (.slice a n cap) (turnR own))) ∧ Ext w w'
set_option maxRecDepth 100000 in
set_option maxHeartbeats 4000000 in
theorem refTurned (v : Value) (own : List Attr) (w : World) (hv : AttrsAt w v own) (hl : own.length ≤ 1000000) (hz : (valM own reW).size ≤ 900000) :
    Calls Tryz.prog 75 #[v] w (RturnP w own) := by
  have HV := Lib.hid hv; have HZ := Lib.hid hz; have HLN := Lib.hid hl
  clear hv hz hl
  by_cases hq : isM own opqW = true ∧ valM own opqW ≠ yW
  · have HR := Lib.hid (turn_of (turn_opq hq.1 hq.2))
    have q1 : ((valM own opqW).toList == ([121] : List UInt8)) = false := beq_eq_false_iff_ne.2 (fun e => hq.2 (L_inj (by rw [← toList_L, e]; rfl)))
    have HO := Lib.hid hq.1
    clear hq
    go_enter Tryz.func75, Tryz.ntmps75
    go_wp2_with (go_at_call 76; refine (refValueO _ own _ HV.out HLN.out).mono ?_; rintro e w' ⟨rfl, rfl⟩; rw [HO.out])
    go_ret3
    exact ⟨⟨false, none, 0, 0, by rw [HR.out.2.2]; rfl, fun h => by rw [HR.out.2.2] at h; cases h⟩, Below.refl _ _⟩
  have HY : Hid (((valM own opqW).toList == ([121] : List UInt8)) = isM own opqW) := Lib.hid (by
    cases ho : isM own opqW with
    | false => rw [isM_none ho, toList_L]; rfl
    | true =>
      have : valM own opqW = yW := Decidable.not_not.1 fun e => hq ⟨ho, e⟩
      rw [this, toList_L]; rfl)
  have HO : Hid (∃ o, isM own opqW = o) := Lib.hid ⟨_, rfl⟩
  obtain ⟨o, ho⟩ := HO.out
  have q1 : ((valM own opqW).toList == ([121] : List UInt8)) = o := by rw [HY.out, ho]
  have HOO := Lib.hid ho
  cases hr : isM own reW with
  | false =>
    have HR := Lib.hid (turn_of (turn_no hq hr))
    have HRR := Lib.hid hr
    clear hq hr ho HY HO
    cases o
    all_goals
      go_enter Tryz.func75, Tryz.ntmps75
      go_wp2_with fail
      refine (refValueO _ own _ HV.out HLN.out).mono ?_
      rintro e w' ⟨rfl, rfl⟩
      rw [HOO.out]
      go_wp2_with fail
      refine (refValueR _ own _ HV.out HLN.out).mono ?_
      rintro e w' ⟨rfl, rfl⟩
      rw [HRR.out]
      go_wp2
      go_ret3
      exact ⟨⟨_, none, 0, 0, by rw [HR.out.2.2]; rfl, fun _ => ⟨by rw [HR.out.1, HOO.out], by rw [HR.out.2.1]; rfl, by rw [HR.out.2.1]; exact strIn_nil _ _ _⟩⟩, Below.refl _ _⟩
  | true =>
    have HRR := Lib.hid hr
    by_cases hb : parE (valM own reW) ≠ 0 ∨ parL (valM own reW) = []
    · have HR := Lib.hid (turn_of (turn_bad hq hr hb))
      have HB := Lib.hid hb
      clear hq hr ho HY HO hb
      by_cases he : parE (valM own reW) = 0
      · have q2 : (parE (valM own reW) == 0) = true := beq_iff_eq.2 he
        have HN : Hid (parL (valM own reW) = []) := Lib.hid (HB.out.resolve_left fun e => e he)
        clear he
        cases o
        all_goals
          go_enter Tryz.func75, Tryz.ntmps75
          go_wp2_with fail
          refine (refValueO _ own _ HV.out HLN.out).mono ?_
          rintro e w' ⟨rfl, rfl⟩
          rw [HOO.out]
          go_wp2_with fail
          refine (refValueR _ own _ HV.out HLN.out).mono ?_
          rintro e w' ⟨rfl, rfl⟩
          rw [HRR.out]
          go_wp2_with fail
          refine (refParse _ _ HZ.out).mono ?_
          rintro e w2 ⟨⟨a, cap, rfl, _⟩, hb2⟩
          rw [HN.out]
          have HB2 := Lib.hid hb2
          clear hb2
          go_wp2
          go_ret3
          exact ⟨⟨_, _, _, _, by rw [HR.out.2.2]; rfl, fun h => by rw [HR.out.2.2] at h; cases h⟩, HB2.out⟩
      · have q2 : (parE (valM own reW) == 0) = false := beq_eq_false_iff_ne.2 he
        clear he
        cases o
        all_goals
          go_enter Tryz.func75, Tryz.ntmps75
          go_wp2_with fail
          refine (refValueO _ own _ HV.out HLN.out).mono ?_
          rintro e w' ⟨rfl, rfl⟩
          rw [HOO.out]
          go_wp2_with fail
          refine (refValueR _ own _ HV.out HLN.out).mono ?_
          rintro e w' ⟨rfl, rfl⟩
          rw [HRR.out]
          go_wp2_with fail
          refine (refParse _ _ HZ.out).mono ?_
          rintro e w2 ⟨⟨a, cap, rfl, _⟩, hb2⟩
          have HB2 := Lib.hid hb2
          clear hb2
          go_wp2
          go_ret3
          exact ⟨⟨_, _, _, _, by rw [HR.out.2.2]; rfl, fun h => by rw [HR.out.2.2] at h; cases h⟩, HB2.out⟩
    · have HR := Lib.hid (turn_of (turn_led hq hr hb))
      have q2 : (parE (valM own reW) == 0) = true := beq_iff_eq.2 (Decidable.not_not.1 fun e => hb (.inl e))
      have q3 : 0 < (parL (valM own reW)).length := by
        cases e : parL (valM own reW) with
        | nil => exact absurd (.inr e) hb
        | cons _ _ => simp
      have q4 := lenP q3
      clear hq hr ho HY HO hb
      cases o
      all_goals
        go_enter Tryz.func75, Tryz.ntmps75
        go_wp2_with fail
        refine (refValueO _ own _ HV.out HLN.out).mono ?_
        rintro e w' ⟨rfl, rfl⟩
        rw [HOO.out]
        go_wp2_with fail
        refine (refValueR _ own _ HV.out HLN.out).mono ?_
        rintro e w' ⟨rfl, rfl⟩
        rw [HRR.out]
        go_wp2_with fail
        refine (refParse _ _ HZ.out).mono ?_
        rintro e w2 ⟨⟨a, cap, rfl, ho2⟩, hb2⟩
        have HO2 := Lib.hid ho2
        have HB2 := Lib.hid hb2
        clear ho2 hb2
        go_wp2
        go_ret3
        exact ⟨⟨_, _, _, _, by rw [HR.out.2.2]; rfl, fun _ => ⟨by rw [HR.out.1, HOO.out], by rw [HR.out.2.1], by rw [HR.out.2.1]; exact HO2.out⟩⟩, HB2.out⟩
set_option maxRecDepth 100000 in
set_option maxHeartbeats 4000000 in
theorem refBooked (v : Value) (own : List Attr) (n : Int) (w : World) (hv : AttrsAt w v own) (hl : own.length ≤ 1000000) (hn : n ≤ 1000000) :
    RetB Tryz.prog 74 #[v, .int .i64 n] w (.int .i64 (bookE own n)) := by
  unfold RetB
  have HV := Lib.hid hv; have HLN := Lib.hid hl; have HN := Lib.hid hn
  clear hv hl hn
  by_cases h1 : 1 < n
  · have q0 : decide (1 < n) = true := decide_eq_true h1
    have HDG : Hid (linkS n = decB n.toNat) := Lib.hid (linkS_dec h1)
    cases hi : isM own nlW with
    | false =>
      have HI := Lib.hid hi
      have HB : Hid (bookE own n = 18) := Lib.hid (book_no fun e => by rw [hi, q0] at e; exact absurd e.1 (by decide))
      clear hi
      go_enter Tryz.func74, Tryz.ntmps74
      go_wp2_with (go_at_call 76; refine (refValueN _ own _ HV.out HLN.out).mono ?_; rintro e w' ⟨rfl, rfl⟩; rw [HI.out])
      go_ret
      exact ⟨by rw [HB.out]; rfl, Below.refl _ _⟩
    | true =>
      have HI := Lib.hid hi
      have HH : Hid (bookE own n = if valM own nlW = linkS n then 0 else 18) := Lib.hid (by
        by_cases e : valM own nlW = linkS n
        · rw [if_pos e]; exact book_ok (by rw [hi, q0]) e
        · rw [if_neg e]; exact book_no fun x => e x.2)
      clear hi
      by_cases he : valM own nlW = linkS n
      · have HB : Hid (bookE own n = 0) := Lib.hid (by rw [HH.out, if_pos he])
        have q1 : ((valM own nlW).toList == (decB n.toNat).toList) = true := beq_iff_eq.2 (by rw [he, HDG.out])
        clear he HH
        go_enter Tryz.func74, Tryz.ntmps74
        go_wp2_with fail
        refine (refValueN _ own _ HV.out HLN.out).mono ?_
        rintro e w' ⟨rfl, rfl⟩
        rw [HI.out]
        go_wp2_with fail
        refine (refDigitsI n _ (by omega) HN.out).mono ?_
        rintro e w4 ⟨rfl, hb4⟩
        have HB4 := Lib.hid hb4
        clear hb4
        go_wp2
        go_ret
        exact ⟨by rw [HB.out]; rfl, HB4.out⟩
      · have HB : Hid (bookE own n = 18) := Lib.hid (by rw [HH.out, if_neg he])
        have q1 : ((valM own nlW).toList == (decB n.toNat).toList) = false := beq_eq_false_iff_ne.2 (fun e => he (L_inj (by rw [HDG.out, ← toList_L, ← toList_L]; exact e)))
        clear he HH
        go_enter Tryz.func74, Tryz.ntmps74
        go_wp2_with fail
        refine (refValueN _ own _ HV.out HLN.out).mono ?_
        rintro e w' ⟨rfl, rfl⟩
        rw [HI.out]
        go_wp2_with fail
        refine (refDigitsI n _ (by omega) HN.out).mono ?_
        rintro e w4 ⟨rfl, hb4⟩
        have HB4 := Lib.hid hb4
        clear hb4
        go_wp2
        go_ret
        exact ⟨by rw [HB.out]; rfl, HB4.out⟩
  · have q0 : decide (1 < n) = false := decide_eq_false h1
    cases hi : isM own nlW with
    | false =>
      have HI := Lib.hid hi
      have HB : Hid (bookE own n = 0) := Lib.hid (book_ok (by rw [hi, q0]) (by rw [isM_none hi, link_one (by omega)]))
      clear hi
      go_enter Tryz.func74, Tryz.ntmps74
      go_wp2_with (go_at_call 76; refine (refValueN _ own _ HV.out HLN.out).mono ?_; rintro e w' ⟨rfl, rfl⟩; rw [HI.out])
      go_ret
      exact ⟨by rw [HB.out]; rfl, Below.refl _ _⟩
    | true =>
      have HI := Lib.hid hi
      have HB : Hid (bookE own n = 18) := Lib.hid (book_no fun e => by rw [hi, q0] at e; exact absurd e.1 (by decide))
      clear hi
      go_enter Tryz.func74, Tryz.ntmps74
      go_wp2_with (go_at_call 76; refine (refValueN _ own _ HV.out HLN.out).mono ?_; rintro e w' ⟨rfl, rfl⟩; rw [HI.out])
      go_ret
      exact ⟨by rw [HB.out]; rfl, Below.refl _ _⟩
end Go.Proofs.YtiliglpolcpnbaaGreatDoor
