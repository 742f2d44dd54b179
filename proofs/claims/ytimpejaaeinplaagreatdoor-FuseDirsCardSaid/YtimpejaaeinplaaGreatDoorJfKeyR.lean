/- KeyR -/
import Derived.Test.YtimpejaaeinplaaGreatDoorJI1
import Derived.Test.YtimpejaaeinplaaGreatDoorJfKeys
import Derived.Test.YtimpejaaeinplaaGreatDoorJbKeyR
import Derived.Test.YtimpejaaeinplaaGreatDoorJKeyR
namespace Go.Proofs.YtimpejaaeinplaaGreatDoor
open Go.RowKit
theorem size_app (a b : ByteArray) : (a ++ b).size = a.size + b.size := by rw [size_L, L_append, List.length_append, size_L, size_L]
theorem mk_at {n k : Nat} (h : k < (mkW n).length) : L (((mkW n).map ofL)[k]'(by rw [List.length_map]; exact h)) = (mkW n)[k]'h := by simp [L_ofL]
theorem isMk_hit {n k : Nat} {s : ByteArray} (h : k < (mkW n).length) (he : (mkW n)[k]'h = L s) : isMk n s = true := by
 unfold isMk; rw [List.contains_iff_mem, <- he]; exact List.getElem_mem h
def NoMk (n k : Nat) (s : ByteArray) : Prop := ∀ j (h : j < (mkW n).length), j < k -> (mkW n)[j]'h ≠ L s
theorem mr_no {n : Nat} {s : ByteArray} (h1 : 1 <= n) (h4 : n <= 4) (h : isMk n s = false) : mrS n s = ⟨#[]⟩ /\ mrE n s = 4 := by
 have c : (1 : Int) <= n /\ (n : Int) <= 4 := by omega
 unfold mrS mrE; rw [Int.toNat_natCast]; simp [c, h]
theorem refAttr (n : Nat) (s : ByteArray) (w : World) (h1 : 1 <= n) (h4 : n <= 4) (hs : s.size <= 1000000) : RetB Tryz.prog 177 #[.int .i64 n, .string s] w (.string (waS n s)) := by
 unfold RetB
 obtain ⟨z1, z2⟩ := dP_le n (by omega)
 by_cases he : diaP n = []
 ·rw [waS_nil h1 h4 he]
  have he2 : (dP n).toList.isEmpty = true := by rw [tL]; unfold dP; rw [L_ofL, he]; rfl
  clear he
  go_enter Tryz.func177, Tryz.ntmps177
  go_wp2_with (first | (go_at_call 195; refine (refPrefix n _ h1 h4).mono ?_; rintro e w1 ⟨rfl, hb⟩; have HB := hQq hb; clear hb))
  go_ret
  exact ⟨rfl, HB.out⟩
 have he2 : (dP n).toList.isEmpty = false := by rw [tL]; unfold dP; rw [L_ofL]; simpa using he
 clear he
 cases hp : hasP s (dP n)
 ·rw [waS_plain hp]
  go_enter Tryz.func177, Tryz.ntmps177
  go_wp2_with (first | (go_at_call 195; refine (refPrefix n _ h1 h4).mono ?_; rintro e w1 ⟨rfl, hb⟩; have HB := hQq hb; clear hb) | (go_at_call 196; refine (refBegins _ _ _ hs).mono ?_; rintro e w' ⟨rfl, rfl⟩))
  go_ret
  exact ⟨rfl, HB.out⟩
 ·rw [show waS n s = dP n ++ dI n ++ s.extract (dP n).size s.size from if_pos hp]
  have hps := hasP_size hp
  have hes := extract_le s (dP n).size
  have r1 : ∀ w, (Op.stringOp .add (dP n) (dI n)).run Tryz.prog w = .ok (.string (dP n ++ dI n)) w := fun w => run_string_add_sum w _ _ (by omega)
  have r2 : ∀ w, (Op.stringOp .add (dP n ++ dI n) (s.extract (dP n).size s.size)).run Tryz.prog w = .ok (.string (dP n ++ dI n ++ s.extract (dP n).size s.size)) w := fun w => run_string_add_sum w _ _ (by rw [size_app]; omega)
  go_enter Tryz.func177, Tryz.ntmps177
  go_wp2_with (first | (go_at_call 195; refine (refPrefix n _ h1 h4).mono ?_; rintro e w1 ⟨rfl, hb⟩; have HB := hQq hb; clear hb) | (go_at_call 196; refine (refBegins _ _ _ hs).mono ?_; rintro e w' ⟨rfl, rfl⟩))
  go_region_held3 (fun w' => Ext w1 w') (first | exact Below.drew (bR _ _) | assumption | exact Ext.trans (by assumption) (by assumption))
   (first | (go_at_call 198; refine (refInfix n _ h1 h4).mono ?_; rintro e w2 ⟨rfl, hb2⟩))
  have HX : Hid (Ext w1 w2) := ‹Ext w1 w2›
  go_wp2
  go_ret
  exact ⟨rfl, Ext.trans HB.out HX.out⟩
theorem refMark (d : Int) (s : ByteArray) (w : World) (hs : s.size <= 1000000) : RetB Tryz.prog 175 #[.int .i64 d, .string s] w (.tuple #[.string (mrS d s), .int .i64 (mrE d s)]) := by
 unfold RetB
 by_cases h1 : 1 <= d /\ d <= 4
 case neg =>
  rw [show mrE d s = 2 from if_neg h1, show mrS d s = ⟨#[]⟩ from if_neg (by intro x; exact h1 x.1)]
  have h3 : decide (1 <= d /\ d <= 4) = false := decide_eq_false h1
  clear h1
  go_enter Tryz.func175, Tryz.ntmps175
  go_wp2_with (first | (go_at_call 193; refine (refDialect _ _).mono ?_; rintro e w' ⟨rfl, rfl⟩))
  go_ret2
  exact ⟨rfl, bR _ _⟩
 have h3 : decide (1 <= d /\ d <= 4) = true := decide_eq_true h1
 obtain ⟨n, rfl⟩ : ∃ n : Nat, d = n := ⟨d.toNat, by omega⟩
 obtain ⟨z1, z2⟩ := dP_le n (by omega)
 have hl := mkW_len n (by omega)
 go_enter Tryz.func175, Tryz.ntmps175
 go_wp2_with (first | (go_at_call 193; refine (refDialect _ _).mono ?_; rintro e w' ⟨rfl, rfl⟩) | (go_at_call 197; refine (refMarks n _ (by omega) (by omega)).mono ?_; rintro e w1 ⟨⟨v, rfl, ⟨a, cap, rfl, hcap, hc⟩⟩, hb⟩; have HB := hQq hb; clear hb; have HC := hQq hc; clear hc; rw [List.length_map]))
 clear h3
 go_loop [7] (fun i => ∃ k : Nat, k <= (mkW n).length /\ i = .int .i64 k /\ NoMk n k s) (fun i => (mkW n).length - (intOf i).toNat)
 case atStart => exact ⟨0, Nat.zero_le _, rfl, fun j hj h0 => absurd h0 (by omega)⟩
 case round =>
  obtain ⟨k, hk, rfl, hno⟩ := hrel
  have HN := hQq hno; clear hno
  by_cases hlt : k < (mkW n).length
  ·obtain ⟨b, off, rfl, hbs, h1⟩ := HC.out k (by rw [List.length_map]; exact hlt)
   have HE := hQq (mk_at hlt)
   generalize ((mkW n).map ofL)[k]'(by rw [List.length_map]; exact hlt) = x at h1 HE
   cases he : x.toList == s.toList
   ·have HN2 : Hid (NoMk n (k + 1) s) := by
     intro j hj hjk
     by_cases e : j = k
     ·subst e; rw [tL, tL] at he; rw [<- HE.out]; exact beq_eq_false_iff_ne.1 he
     ·exact HN.out j hj (by omega)
    go_wp2
    go_round
    case rel => exact ⟨k + 1, by omega, by go_num, HN2.out⟩
    case measure => simp [intOf]; omega
   ·have HM : Hid (isMk n s = true) := isMk_hit hlt (by rw [<- HE.out]; rw [tL, tL] at he; exact beq_iff_eq.1 he)
    go_wp2_with (first | (go_at_call 195; refine (refPrefix n _ (by omega) (by omega)).mono ?_; rintro e w2 ⟨rfl, hb2⟩; have HB2 := hQq hb2; clear hb2))
    go_ret2
    exact ⟨by obtain ⟨e1, e2⟩ := mr_yes (by omega) (by omega) HM.out; rw [e1, e2]; rfl, Ext.trans HB.out HB2.out⟩
  ·have HM : Hid (isMk n s = false) := isMk_none fun j hj => HN.out j hj (by omega)
   go_wp2
   go_ret2
   exact ⟨by obtain ⟨e1, e2⟩ := mr_no (by omega) (by omega) HM.out; rw [e1, e2]; rfl, HB.out⟩
set_option maxHeartbeats 1000000 in
theorem refBackAttr (d : Int) (s : ByteArray) (w : World) (hs : s.size <= 1000000) : RetB Tryz.prog 151 #[.int .i64 d, .string s] w (.tuple #[.string (baS d s), .bool (baO d s), .int .i64 (baE d s)]) := by
 unfold RetB
 by_cases h : kE d s = 0
 case neg =>
  obtain ⟨e1, e2, e3⟩ := ba_of (ba_err h)
  rw [e1, e2, e3]; clear e1 e2 e3
  have h1 : (kE d s != 0) = true := bne_iff_ne.2 h
  clear h
  go_enter Tryz.func151, Tryz.ntmps151
  go_wp2_with (first | (go_at_call 194; refine (refKeyE _ _ _ hs).mono ?_; rintro e w1 ⟨rfl, hb⟩; have HB := hQq hb; clear hb))
  go_ret3
  exact ⟨rfl, HB.out⟩
 have H := hQq h
 obtain ⟨n, rfl, h1, h4⟩ := kE_in h
 obtain ⟨z1, z2⟩ := dP_le n (by omega)
 by_cases he : diaP n = []
 ·obtain ⟨e1, e2, e3⟩ := ba_of (ba_plain h (.inr (by rw [Int.toNat_natCast]; exact he)))
  rw [e1, e2, e3]; clear e1 e2 e3
  have he2 : (dP n).toList.isEmpty = true := by rw [tL]; unfold dP; rw [L_ofL, he]; rfl
  clear he
  go_enter Tryz.func151, Tryz.ntmps151
  go_wp2_with (first | (go_at_call 194; refine (refKeyE _ _ _ hs).mono ?_; rintro e w1 ⟨rfl, hb⟩; have HB := hQq hb; clear hb) | (go_at_call 195; refine (refPrefix n _ h1 h4).mono ?_; rintro e w2 ⟨rfl, hb2⟩; have HB2 := hQq hb2; clear hb2))
  go_ret3
  exact ⟨rfl, Ext.trans HB.out HB2.out⟩
 have he2 : (dP n).toList.isEmpty = false := by rw [tL]; unfold dP; rw [L_ofL]; simpa using he
 have HE := hQq he; clear he
 cases hp : hasP s (dP n)
 ·obtain ⟨e1, e2, e3⟩ := ba_of (ba_plain h (.inl (by rw [Int.toNat_natCast]; exact hp)))
  rw [e1, e2, e3]; clear e1 e2 e3
  go_enter Tryz.func151, Tryz.ntmps151
  go_wp2_with (first | (go_at_call 194; refine (refKeyE _ _ _ hs).mono ?_; rintro e w1 ⟨rfl, hb⟩; have HB := hQq hb; clear hb) | (go_at_call 195; refine (refPrefix n _ h1 h4).mono ?_; rintro e w2 ⟨rfl, hb2⟩; have HB2 := hQq hb2; clear hb2) | (go_at_call 196; refine (refBegins _ _ _ hs).mono ?_; rintro e w' ⟨rfl, rfl⟩))
  go_ret3
  exact ⟨rfl, Ext.trans HB.out HB2.out⟩
 have hps := hasP_size hp
 have hes := extract_le s (dP n).size
 have HC0 : Hid (cutP s (dP n) = s.extract (dP n).size s.size) := by unfold cutP; rw [if_pos hp]; exact rfl
 have hl := mkW_len n (by omega)
 go_enter Tryz.func151, Tryz.ntmps151
 go_wp2_with (first | (go_at_call 194; refine (refKeyE _ _ _ hs).mono ?_; rintro e w1 ⟨rfl, hb⟩; have HB := hQq hb; clear hb) | (go_at_call 195; refine (refPrefix n _ h1 h4).mono ?_; rintro e w2 ⟨rfl, hb2⟩; have HB2 := hQq hb2; clear hb2) | (go_at_call 196; refine (refBegins _ _ _ hs).mono ?_; rintro e w' ⟨rfl, rfl⟩) | (go_at_call 197; refine (refMarks n _ (by omega) (by omega)).mono ?_; rintro e w3 ⟨⟨v, rfl, ⟨a, cap, rfl, hcap, hc⟩⟩, hb3⟩; have HB3 := hQq hb3; clear hb3; have HC := hQq hc; clear hc; rw [List.length_map]))
 go_loop [11] (fun i => ∃ k : Nat, k <= (mkW n).length /\ i = .int .i64 k /\ NoMk n k (s.extract (dP n).size s.size)) (fun i => (mkW n).length - (intOf i).toNat)
 case atStart => exact ⟨0, Nat.zero_le _, rfl, fun j hj h0 => absurd h0 (by omega)⟩
 case round =>
  obtain ⟨k, hk, rfl, hno⟩ := hrel
  have HN := hQq hno; clear hno
  by_cases hlt : k < (mkW n).length
  ·obtain ⟨b, off, rfl, hbs, h1⟩ := HC.out k (by rw [List.length_map]; exact hlt)
   have HE2 := hQq (mk_at hlt)
   generalize ((mkW n).map ofL)[k]'(by rw [List.length_map]; exact hlt) = x at h1 HE2
   cases he : x.toList == (s.extract (dP n).size s.size).toList
   ·have HN2 : Hid (NoMk n (k + 1) (s.extract (dP n).size s.size)) := by
     intro j hj hjk
     by_cases e : j = k
     ·subst e; rw [tL, tL] at he; rw [<- HE2.out]; exact beq_eq_false_iff_ne.1 he
     ·exact HN.out j hj (by omega)
    go_wp2
    go_round
    case rel => exact ⟨k + 1, by omega, by go_num, HN2.out⟩
    case measure => simp [intOf]; omega
   ·have HV := hQq (ba_of (ba_mark H.out (by rw [Int.toNat_natCast]; exact hp) (by rw [Int.toNat_natCast]; exact HE.out) (by rw [Int.toNat_natCast, HC0.out]; exact isMk_hit hlt (by rw [<- HE2.out]; rw [tL, tL] at he; exact beq_iff_eq.1 he))))
    go_wp2
    go_ret3
    exact ⟨by obtain ⟨e1, e2, e3⟩ := HV.out; rw [Int.toNat_natCast, HC0.out] at e1; rw [e1, e2, e3]; rfl, Ext.trans HB.out (Ext.trans HB2.out HB3.out)⟩
  ·have HM : Hid (isMk n (s.extract (dP n).size s.size) = false) := isMk_none fun j hj => HN.out j hj (by omega)
   cases hi : hasP (s.extract (dP n).size s.size) (dI n)
   ·have HV := hQq (ba_of (ba_form H.out (by rw [Int.toNat_natCast]; exact hp) (by rw [Int.toNat_natCast]; exact HE.out) (by rw [Int.toNat_natCast, HC0.out]; exact HM.out) (by rw [Int.toNat_natCast, HC0.out]; exact hi)))
    go_wp2_with (first | (go_at_call 198; refine (refInfix n _ (by omega) (by omega)).mono ?_; rintro e w4 ⟨rfl, hb4⟩; have HB3 := hQq (Ext.trans HB3.out hb4); clear hb4) | (go_at_call 196; refine (refBegins _ _ _ (by omega)).mono ?_; rintro e w' ⟨rfl, rfl⟩))
    go_ret3
    exact ⟨by obtain ⟨e1, e2, e3⟩ := HV.out; rw [e1, e2, e3]; rfl, Ext.trans HB.out (Ext.trans HB2.out HB3.out)⟩
   ·have HV := hQq (ba_of (ba_own H.out (by rw [Int.toNat_natCast]; exact hp) (by rw [Int.toNat_natCast]; exact HE.out) (by rw [Int.toNat_natCast, HC0.out]; exact HM.out) (by rw [Int.toNat_natCast, HC0.out]; exact hi)))
    have HC1 : Hid (cutP (s.extract (dP n).size s.size) (dI n) = (s.extract (dP n).size s.size).extract (dI n).size (s.extract (dP n).size s.size).size) := by unfold cutP; rw [if_pos hi]; exact rfl
    have hq := hasP_size hi
    have hq2 := extract_le (s.extract (dP n).size s.size) (dI n).size
    generalize s.extract (dP n).size s.size = r at *
    have r1 : ∀ w, (Op.stringOp .add (dP n) (r.extract (dI n).size r.size)).run Tryz.prog w = .ok (.string (dP n ++ r.extract (dI n).size r.size)) w := fun w => run_string_add_sum w _ _ (by omega)
    go_wp2_with (first | (go_at_call 198; refine (refInfix n _ (by omega) (by omega)).mono ?_; rintro e w4 ⟨rfl, hb4⟩; have HB3 := hQq (Ext.trans HB3.out hb4); clear hb4) | (go_at_call 196; refine (refBegins _ _ _ (by omega)).mono ?_; rintro e w' ⟨rfl, rfl⟩))
    go_ret3
    exact ⟨by obtain ⟨e1, e2, e3⟩ := HV.out; rw [Int.toNat_natCast, HC0.out, HC1.out] at e1; rw [e1, e2, e3]; rfl, Ext.trans HB.out (Ext.trans HB2.out HB3.out)⟩
end Go.Proofs.YtimpejaaeinplaaGreatDoor
