/- OrP -/
import Derived.Test.YtimpejaaeinplaaGreatDoorJI5
import Derived.Test.YtimpejaaeinplaaGreatDoorJfOwnA
import Derived.Test.YtimpejaaeinplaaGreatDoorJPthP
namespace Go.Proofs.YtimpejaaeinplaaGreatDoor
open Go.RowKit
theorem cuts_mid {x : List UInt8} (h : (47 : UInt8) ∉ x) (r : List UInt8) : cutsL (x ++ 47 :: r) = x :: cutsL r := by
 induction x with
 | nil => exact cuts_slash r
 | cons c x ih =>
  simp only [List.mem_cons, not_or] at h
  rw [List.cons_append, cuts_ne (fun e => h.1 e.symm), ih h.2]; rfl
theorem cuts_end {x : List UInt8} (h : (47 : UInt8) ∉ x) : cutsL x = [x] := by
 induction x with
 | nil => rfl
 | cons c x ih =>
  simp only [List.mem_cons, not_or] at h
  rw [cuts_ne (fun e => h.1 e.symm), ih h.2]; rfl
theorem cuts_len (l : List UInt8) : (cutsL l).length <= l.length + 1 /\ ∀ x ∈ cutsL l, x.length <= l.length := by
 induction l with
 | nil => exact ⟨Nat.le_refl _, fun x hx => by rw [List.mem_singleton.1 hx]; exact Nat.le_refl _⟩
 | cons c r ih =>
  obtain ⟨y, q, e⟩ := cuts_cons r
  rw [e] at ih
  by_cases h : c = 47
  ·subst h
   rw [cuts_slash, e]
   refine ⟨by have := ih.1; simp only [List.length_cons] at this ⊢; omega, fun x hx => ?_⟩
   rcases List.mem_cons.1 hx with rfl | hx
   ·exact Nat.zero_le _
   ·have := ih.2 x hx; simp only [List.length_cons]; omega
  ·rw [cuts_ne h, e]
   refine ⟨by have := ih.1; simp only [List.length_cons, List.tail_cons] at this ⊢; omega, fun x hx => ?_⟩
   rcases List.mem_cons.1 hx with rfl | hx
   ·have := ih.2 y (by simp); simp only [List.headD_cons, List.length_cons]; omega
   ·have := ih.2 x (by simpa using .inr hx); simp only [List.length_cons]; omega
theorem par_start {s : ByteArray} (h : 1 <= s.size) : ParSt s [] 1 1 := ⟨Nat.le_refl _, by omega, Nat.le_refl _, fun _ => ⟨Nat.le_refl _, Nat.le_refl _, rfl, by simp⟩, fun e => by omega⟩
theorem par_skip {s : ByteArray} {out : List ByteArray} {fr i : Nat} (h : ParSt s out fr i) (hi : i < s.size) (hc : s[i]'hi ≠ 47) : ParSt s out fr (i + 1) := by
 obtain ⟨h1, h2, h3, h4⟩ := h.mid (by omega)
 refine ⟨by omega, by omega, by have := h.num; omega, fun _ => ⟨h1, by omega, h3, ?_⟩, fun e => by omega⟩
 have hl : i < (L s).length := by rw [<- size_L]; exact hi
 have hl2 : i - fr < ((L s).drop fr).length := by rw [List.length_drop]; omega
 rw [show i + 1 - fr = (i - fr) + 1 by omega, List.take_succ_eq_append_getElem hl2, List.mem_append, not_or]
 refine ⟨h4, fun e => hc ?_⟩
 rw [List.mem_singleton, List.getElem_drop] at e
 rw [getElem_L, e]
 congr 1; omega
theorem par_piece {s : ByteArray} {out : List ByteArray} {fr i : Nat} (h : ParSt s out fr i) (hi : i < s.size) (hc : s[i]'hi = 47) : ParSt s (out ++ [s.extract fr i]) (i + 1) (i + 1) := by
 obtain ⟨h1, h2, h3, h4⟩ := h.mid (by omega)
 have hl : i < (L s).length := by rw [<- size_L]; exact hi
 have e : (L s).drop fr = ((L s).drop fr).take (i - fr) ++ 47 :: (L s).drop (i + 1) := by
  conv => lhs; rw [<- List.take_append_drop (i - fr) ((L s).drop fr)]
  rw [List.drop_drop, show fr + (i - fr) = i by omega, List.drop_eq_getElem_cons hl, <- getElem_L s i hi, hc]
 refine ⟨by omega, by omega, by have := h.num; simp; omega, fun _ => ⟨by omega, Nat.le_refl _, ?_, by simp⟩, fun e => by omega⟩
 rw [h3]
 conv => lhs; rw [e]
 unfold cutsB
 rw [cuts_mid h4, List.map_cons, List.append_assoc]
 have : ofL (((L s).drop fr).take (i - fr)) = s.extract fr i := L_inj (by rw [L_ofL, L_extract])
 rw [this]; rfl
theorem par_last {s : ByteArray} {out : List ByteArray} {fr : Nat} (h : ParSt s out fr s.size) : ParSt s (out ++ [s.extract fr s.size]) (s.size + 1) (s.size + 1) := by
 obtain ⟨h1, h2, h3, h4⟩ := h.mid (Nat.le_refl _)
 refine ⟨by omega, Nat.le_refl _, by have := h.num; simp; omega, fun e => by omega, fun _ => ?_⟩
 rw [List.take_of_length_le (by rw [List.length_drop, <- size_L]; exact Nat.le_refl _)] at h4
 rw [h3]
 congr 1
 unfold cutsB
 rw [cuts_end h4]
 have : ofL ((L s).drop fr) = s.extract fr s.size := L_inj (by rw [L_ofL, L_drop])
 rw [List.map_cons, this]; rfl
theorem slash_no {c : UInt8} (h : c ≠ 47) : ((c.toNat : Int) == 47) = false /\ ((c.toNat : Int) != 47) = true := by
  have : (c.toNat : Int) ≠ 47 := fun e => h (UInt8.toNat_inj.1 (by have : c.toNat = 47 := by omega
                                                                   rw [this]; rfl))
  exact ⟨nB this, bne_iff_ne.2 this⟩
theorem head_at {s : ByteArray} (h : 0 < s.size) : (L s).head? = some (s[0]'h) := by
 rw [getElem_L, List.head?_eq_getElem?, List.getElem?_eq_getElem]
set_option maxRecDepth 100000 in
set_option maxHeartbeats 4000000 in
theorem refParse (s : ByteArray) (w : World) (hs : s.size <= 900000) :
  Calls Tryz.prog 153 #[.string s] w fun e w' => (∃ a cap, e = .returned (.tuple #[.slice a (parL s).length cap, .int .i64 (parE s)]) /\ StrIn 0 w' (.slice a (parL s).length cap) (parL s)) /\ Ext w w' := by
 by_cases h0 : s.size = 0
 ·have hl : L s = [] := List.length_eq_zero_iff.1 (by rw [<- size_L]; exact h0)
  have HR := hQq (par_of (par_form (s := s) (fun e => by rw [hl] at e; cases e)))
  have q1 : s.toList.isEmpty = true := by rw [tL, hl]; rfl
  clear h0 hl
  go_enter Tryz.func153, Tryz.ntmps153
  go_wp2
  go_ret2
  exact ⟨⟨none, 0, by rw [HR.out.1, HR.out.2]; rfl, by rw [HR.out.1]; exact strIn_nil _ _ _⟩, bR _ _⟩
 have hp : 0 < s.size := by omega
 have hh := head_at hp
 have q1 : s.toList.isEmpty = false := by
  rw [tL]
  cases e : L s with
  | nil => have := size_L s; rw [e] at this; exact absurd this h0
  | cons _ _ => rfl
 clear h0
 by_cases h1 : s[0]'hp = 47
 case neg =>
  have HR := hQq (par_of (par_form (s := s) (fun e => by rw [hh] at e; exact h1 (oI e))))
  have q3 := (slash_no h1).2
  clear h1 hh
  go_enter Tryz.func153, Tryz.ntmps153
  go_wp2
  go_ret2
  exact ⟨⟨none, 0, by rw [HR.out.1, HR.out.2]; rfl, by rw [HR.out.1]; exact strIn_nil _ _ _⟩, bR _ _⟩
 have hh' : (L s).head? = some 47 := by rw [hh, h1]
 have q3 : (((s[0]'hp).toNat : Int) != 47) = false := bne_eq_false_iff_eq.2 (by rw [h1]; rfl)
 clear hh
 have ht : (L s).tail = (L s).drop 1 := List.drop_one.symm
 by_cases h2 : (L s).tail = []
 ·have HR := hQq (par_of (par_root hh' h2))
  have q4 : (s.toList == ([47] : List UInt8)) = true := by
   rw [tL]
   cases e : L s with
   | nil => rw [e] at hh'; cases hh'
   | cons c r =>
    rw [e] at hh' h2
    obtain rfl : c = 47 := oI hh'
    obtain rfl : r = [] := h2
    rfl
  clear h1 h2 hh' ht
  go_enter Tryz.func153, Tryz.ntmps153
  go_wp2
  go_ret2
  exact ⟨⟨none, 0, by rw [HR.out.1, HR.out.2]; rfl, by rw [HR.out.1]; exact strIn_nil _ _ _⟩, bR _ _⟩
 have q4 : (s.toList == ([47] : List UInt8)) = false := nB (fun e => h2 (by rw [<- tL, e]; rfl))
 have HSB : Hid (∀ x ∈ cutsB ((L s).drop 1), x.size <= longest) := hQq (fun x hx => by
  unfold cutsB at hx
  obtain ⟨y, hy, rfl⟩ := List.mem_map.1 hx
  have := (cuts_len _).2 y hy
  rw [List.length_drop, <- size_L] at this
  rw [size_ofL]; unfold longest; omega)
 have HPO := hQq (par_start (s := s) (by omega))
 have HHH := hQq hh'; have HH2 := hQq h2; have HTD := hQq ht
 clear h1 h2 hh' ht
 go_enter Tryz.func153, Tryz.ntmps153
 go_wp2
 clear q1 q3 q4
 go_loopw [4, 5, 6] (fun o f i w' => ∃ (wi : World) (l : List ByteArray) (m k : Nat), wi = w' /\ ParSt s l m k /\ f = .int .i64 m /\ i = .int .i64 k /\ m <= 1000000 /\ OwnL cdS w.heap.size wi o l /\ Ext w wi) (fun _ _ i _ => s.size + 1 - (intOf i).toNat)
 case atStart => exact ⟨_, [], 1, 1, rfl, HPO.out, rfl, rfl, by decide, OwnL.nil _ _ _, bR _ _⟩
 case round =>
  obtain ⟨wi, l, m, k, rfl, hst, rfl, rfl, hm, ho, hE⟩ := hrel
  have HST := hQq hst; have HO := hQq ho; have HE := hQq hE
  have k1 := hst.lo; have k2 := hst.hi; have k3 := hst.num
  obtain ⟨a5, cap5, rfl⟩ := ho.form
  clear hst ho hE
  by_cases hlt : k < s.size
  ·have hmid := HST.out.mid (by omega)
   have m1 := hmid.1; have m2 := hmid.2.1
   clear hmid
   by_cases hc : s[k]'hlt = 47
   ·have HN := hQq (par_piece HST.out hlt hc)
    have q5 : (((s[k]'hlt).toNat : Int) == 47) = true := beq_iff_eq.2 (by rw [hc]; rfl)
    have q6 : (((k : Nat) : Int) == (s.size : Int)) = false := nB (by omega)
    clear hc
    generalize hx : s.extract m k = x at HN
    go_wp2_with (at_builtin; refine appL okS rfl (.tmp 33) (.tmp 38) rfl _ _ l [x] w _ rfl rfl (by exact HO.out.ext okS (eA _ _)) (by rw [<- hx]; exact listIn_new okS _ _ _ _ rfl rfl) (by exact HE.out.trans (eA _ _)) (by have := (HE.out.trans (eA wi (.cells #[] 0))).size; simp at this ⊢; omega) (by simp; omega) ?_; intro v5 w5 ha; have HA := hQq ha; clear ha)
    go_roundw
    case rel => exact ⟨_, _, k + 1, k + 1, rfl, HN.out, by go_num, by go_num, by omega, HA.out.own, HA.out.below⟩
    case measure => first | (simp [intOf]; done) | (simp [intOf]; omega)
   ·have HN := hQq (par_skip HST.out hlt hc)
    have q5 := (slash_no hc).1
    have q6 : (((k : Nat) : Int) == (s.size : Int)) = false := nB (by omega)
    clear hc
    go_wp2
    go_roundw
    case rel => exact ⟨_, l, m, k + 1, rfl, HN.out, rfl, by go_num, hm, HO.out, HE.out⟩
    case measure => first | (simp [intOf]; done) | (simp [intOf]; omega)
  by_cases hq : k = s.size
  ·subst hq
   have hmid := HST.out.mid (by omega)
   have m1 := hmid.1; have m2 := hmid.2.1
   clear hmid
   have HN := hQq (par_last HST.out)
   generalize hx : s.extract m s.size = x at HN
   go_wp2_with (at_builtin; refine appL okS rfl (.tmp 33) (.tmp 38) rfl _ _ l [x] w _ rfl rfl (by exact HO.out.ext okS (eA _ _)) (by rw [<- hx]; exact listIn_new okS _ _ _ _ rfl rfl) (by exact HE.out.trans (eA _ _)) (by have := (HE.out.trans (eA wi (.cells #[] 0))).size; simp at this ⊢; omega) (by simp; omega) ?_; intro v5 w5 ha; have HA := hQq ha; clear ha)
   go_roundw
   case rel => exact ⟨_, _, s.size + 1, s.size + 1, rfl, HN.out, by go_num, by go_num, by omega, HA.out.own, HA.out.below⟩
   case measure => first | (simp [intOf]; done) | (simp [intOf]; omega)
  ·have HL := hQq (HST.out.fin (by omega))
   have HBD : Hid (∀ x ∈ l, x.size <= longest) := hQq (by rw [<- HL.out]; exact HSB.out)
   have HT2 : Hid (cutsB (L s).tail = l) := hQq (by rw [HTD.out]; exact HL.out)
   by_cases h3 : pathE l = 0
   ·have HR := hQq (par_of (par_ok HHH.out HH2.out (by rw [HT2.out]; exact h3)))
    rw [HT2.out] at HR
    have q2 : (pathE l != 0) = false := bne_eq_false_iff_eq.2 h3
    clear h3
    go_wp2_with (go_at_call 135; refine (refPathCheckX _ l _ (HO.out.in okS).strs HBD.out).mono ?_; rintro e w2 ⟨rfl, rfl⟩)
    go_ret2
    exact ⟨⟨_, _, by rw [HR.out.1, HR.out.2]; rfl, by rw [HR.out.1]; exact strIn_of (HO.out.in okS).strs (Nb.own (by exact HO.out.choose_spec.2.2))⟩, HE.out⟩
   ·have HR := hQq (par_of (par_bad HHH.out HH2.out (by rw [HT2.out]; exact h3)))
    rw [HT2.out] at HR
    have q2 : (pathE l != 0) = true := bne_iff_ne.2 h3
    clear h3
    go_wp2_with (go_at_call 135; refine (refPathCheckX _ l _ (HO.out.in okS).strs HBD.out).mono ?_; rintro e w2 ⟨rfl, rfl⟩)
    go_ret2
    exact ⟨⟨none, 0, by rw [HR.out.1, HR.out.2]; rfl, by rw [HR.out.1]; exact strIn_nil _ _ _⟩, HE.out⟩
end Go.Proofs.YtimpejaaeinplaaGreatDoor
