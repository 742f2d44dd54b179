/- Escape: names of attributes, read back; the reference's functions. -/
import Derived.Test.YtnemfapegbehlaaDoorKeys
namespace Go.Proofs.YtnemfapegbehlaaDoor
open Go.RowKit

/-- What BackAttr returns. -/
def baT (d : Int) (s : ByteArray) : ByteArray × Bool × Int :=
  if kE d s ≠ 0 then (⟨#[]⟩, false, kE d s)
  else if hasP s (dP d.toNat) = false ∨ diaP d.toNat = [] then (s, false, 0)
  else if isMk d.toNat (cutP s (dP d.toNat)) = true then (cutP s (dP d.toNat), true, 0)
  else if hasP (cutP s (dP d.toNat)) (dI d.toNat) = true then (dP d.toNat ++ cutP (cutP s (dP d.toNat)) (dI d.toNat), false, 0)
  else (⟨#[]⟩, false, 6)
def baS (d : Int) (s : ByteArray) : ByteArray := (baT d s).1
def baO (d : Int) (s : ByteArray) : Bool := (baT d s).2.1
def baE (d : Int) (s : ByteArray) : Int := (baT d s).2.2
theorem ba_of {d : Int} {s x : ByteArray} {y : Bool} {z : Int} (h : baT d s = (x, y, z)) : baS d s = x ∧ baO d s = y ∧ baE d s = z := by
  unfold baS baO baE; rw [h]; exact ⟨rfl, rfl, rfl⟩
theorem ba_err {d : Int} {s : ByteArray} (h : kE d s ≠ 0) : baT d s = (⟨#[]⟩, false, kE d s) := if_pos h
theorem ba_plain {d : Int} {s : ByteArray} (h : kE d s = 0) (h1 : hasP s (dP d.toNat) = false ∨ diaP d.toNat = []) : baT d s = (s, false, 0) := by
  unfold baT; rw [if_neg (by simpa using h), if_pos h1]
theorem ba_mark {d : Int} {s : ByteArray} (h : kE d s = 0) (h1 : hasP s (dP d.toNat) = true) (h2 : diaP d.toNat ≠ []) (h3 : isMk d.toNat (cutP s (dP d.toNat)) = true) : baT d s = (cutP s (dP d.toNat), true, 0) := by
  unfold baT; rw [if_neg (by simpa using h), if_neg (by simp [h1, h2]), if_pos h3]
theorem ba_own {d : Int} {s : ByteArray} (h : kE d s = 0) (h1 : hasP s (dP d.toNat) = true) (h2 : diaP d.toNat ≠ []) (h3 : isMk d.toNat (cutP s (dP d.toNat)) = false) (h4 : hasP (cutP s (dP d.toNat)) (dI d.toNat) = true) :
    baT d s = (dP d.toNat ++ cutP (cutP s (dP d.toNat)) (dI d.toNat), false, 0) := by
  unfold baT; rw [if_neg (by simpa using h), if_neg (by simp [h1, h2]), if_neg (by simp [h3]), if_pos h4]
theorem ba_form {d : Int} {s : ByteArray} (h : kE d s = 0) (h1 : hasP s (dP d.toNat) = true) (h2 : diaP d.toNat ≠ []) (h3 : isMk d.toNat (cutP s (dP d.toNat)) = false) (h4 : hasP (cutP s (dP d.toNat)) (dI d.toNat) = false) :
    baT d s = (⟨#[]⟩, false, 6) := by
  unfold baT; rw [if_neg (by simpa using h), if_neg (by simp [h1, h2]), if_neg (by simp [h3]), if_neg (by simp [h4])]

theorem escBackAttr (d : Int) (s : ByteArray) (w : World) (hL : Laid w) (hs : s.size ≤ 1000000) : RetB Tryd.prog 21 #[.int .i64 d, .string s] w (.tuple #[.string (baS d s), .bool (baO d s), .int .i64 (baE d s)]) := by
  unfold RetB
  have HL := Lib.hid hL; clear hL
  by_cases h : kE d s = 0
  case neg =>
    obtain ⟨e1, e2, e3⟩ := ba_of (ba_err h)
    rw [e1, e2, e3]; clear e1 e2 e3
    have h1 : (kE d s != 0) = true := bne_iff_ne.2 h
    clear h
    go_enter Tryd.func21, Tryd.ntmps21
    go_wp2_with (first | (go_at_call 43; refine (escCheckKey _ _ _ hs).mono ?_; rintro e w1 ⟨rfl, hb⟩; have HB := Lib.hid hb; clear hb))
    go_ret3
    exact ⟨rfl, HB.out⟩
  have H := Lib.hid h
  obtain ⟨n, rfl, h1, h4⟩ := kE_in h
  obtain ⟨z1, z2⟩ := dP_le n (by omega)
  have hz := cutP_le s (dP n)
  have hz2 := cutP_le (cutP s (dP n)) (dI n)
  cases hp : hasP s (dP n)
  · obtain ⟨e1, e2, e3⟩ := ba_of (ba_plain h (.inl (by rw [Int.toNat_natCast]; exact hp)))
    rw [e1, e2, e3]; clear e1 e2 e3
    go_enter Tryd.func21, Tryd.ntmps21
    go_wp2_with (first | (go_at_call 43; refine (escCheckKey _ _ _ hs).mono ?_; rintro e w1 ⟨rfl, hb⟩; obtain ⟨c0, c1, c2⟩ := (HL.out.ext hb).cells n (by omega); have HB := Lib.hid hb; clear hb) | (go_at_call 39; refine (cutPrefix _ _ _).mono ?_; rintro e w' ⟨rfl, rfl⟩))
    go_ret3
    exact ⟨rfl, Ext.trans HB.out (ext_alloc _ _)⟩
  by_cases he : diaP n = []
  · obtain ⟨e1, e2, e3⟩ := ba_of (ba_plain h (.inr (by rw [Int.toNat_natCast]; exact he)))
    rw [e1, e2, e3]; clear e1 e2 e3
    have he2 : (dP n).toList.isEmpty = true := by rw [toList_L]; unfold dP; rw [L_ofL, he]; rfl
    clear he
    go_enter Tryd.func21, Tryd.ntmps21
    go_wp2_with (first | (go_at_call 43; refine (escCheckKey _ _ _ hs).mono ?_; rintro e w1 ⟨rfl, hb⟩; obtain ⟨c0, c1, c2⟩ := (HL.out.ext hb).cells n (by omega); have HB := Lib.hid hb; clear hb) | (go_at_call 39; refine (cutPrefix _ _ _).mono ?_; rintro e w' ⟨rfl, rfl⟩))
    go_ret3
    exact ⟨rfl, Ext.trans HB.out (ext_alloc _ _)⟩
  have he2 : (dP n).toList.isEmpty = false := by rw [toList_L]; unfold dP; rw [L_ofL]; simpa using he
  cases hm : isMk n (cutP s (dP n))
  · cases hi : hasP (cutP s (dP n)) (dI n)
    · obtain ⟨e1, e2, e3⟩ := ba_of (ba_form h (by rw [Int.toNat_natCast]; exact hp) (by rw [Int.toNat_natCast]; exact he) (by rw [Int.toNat_natCast]; exact hm) (by rw [Int.toNat_natCast]; exact hi))
      rw [e1, e2, e3]; clear e1 e2 e3 he
      go_enter Tryd.func21, Tryd.ntmps21
      go_wp2_with (first | (go_at_call 43; refine (escCheckKey _ _ _ hs).mono ?_; rintro e w1 ⟨rfl, hb⟩; obtain ⟨c0, c1, c2⟩ := (HL.out.ext hb).cells n (by omega); have HB := Lib.hid hb; clear hb) | (go_at_call 39; refine (cutPrefix _ _ _).mono ?_; rintro e w' ⟨rfl, rfl⟩) | (go_at_call 47; refine (escIsMark n _ _ ((HL.out.ext HB.out).ext (ext_alloc _ _)) (by omega)).mono ?_; rintro e w2 ⟨rfl, hb2⟩; obtain ⟨hc, hf⟩ := bcell hb2; have HB2 := Lib.hid hb2; clear hb2))
      go_ret3
      exact ⟨rfl, Ext.trans HB.out (Ext.trans (ext_alloc _ _) HB2.out)⟩
    · obtain ⟨e1, e2, e3⟩ := ba_of (ba_own h (by rw [Int.toNat_natCast]; exact hp) (by rw [Int.toNat_natCast]; exact he) (by rw [Int.toNat_natCast]; exact hm) (by rw [Int.toNat_natCast]; exact hi))
      rw [e1, e2, e3, Int.toNat_natCast]; clear e1 e2 e3 he
      go_enter Tryd.func21, Tryd.ntmps21
      go_wp2_with (first | (go_at_call 43; refine (escCheckKey _ _ _ hs).mono ?_; rintro e w1 ⟨rfl, hb⟩; obtain ⟨c0, c1, c2⟩ := (HL.out.ext hb).cells n (by omega); have HB := Lib.hid hb; clear hb) | (go_at_call 39; refine (cutPrefix _ _ _).mono ?_; rintro e w' ⟨rfl, rfl⟩) | (go_at_call 47; refine (escIsMark n _ _ ((HL.out.ext HB.out).ext (ext_alloc _ _)) (by omega)).mono ?_; rintro e w2 ⟨rfl, hb2⟩; obtain ⟨hc, hf⟩ := bcell hb2; have HB2 := Lib.hid hb2; clear hb2))
      go_ret3
      exact ⟨rfl, Ext.trans HB.out (Ext.trans (ext_alloc _ _) HB2.out)⟩
  · obtain ⟨e1, e2, e3⟩ := ba_of (ba_mark h (by rw [Int.toNat_natCast]; exact hp) (by rw [Int.toNat_natCast]; exact he) (by rw [Int.toNat_natCast]; exact hm))
    rw [e1, e2, e3, Int.toNat_natCast]; clear e1 e2 e3 he
    go_enter Tryd.func21, Tryd.ntmps21
    go_wp2_with (first | (go_at_call 43; refine (escCheckKey _ _ _ hs).mono ?_; rintro e w1 ⟨rfl, hb⟩; obtain ⟨c0, c1, c2⟩ := (HL.out.ext hb).cells n (by omega); have HB := Lib.hid hb; clear hb) | (go_at_call 39; refine (cutPrefix _ _ _).mono ?_; rintro e w' ⟨rfl, rfl⟩) | (go_at_call 47; refine (escIsMark n _ _ ((HL.out.ext HB.out).ext (ext_alloc _ _)) (by omega)).mono ?_; rintro e w2 ⟨rfl, hb2⟩; obtain ⟨hc, hf⟩ := bcell hb2; have HB2 := Lib.hid hb2; clear hb2))
    go_ret3
    exact ⟨rfl, Ext.trans HB.out (Ext.trans (ext_alloc _ _) HB2.out)⟩

theorem four {n : Nat} (h1 : 1 ≤ n) (h4 : n ≤ 4) : n = 1 ∨ n = 2 ∨ n = 3 ∨ n = 4 := by omega
theorem refPrefix (n : Nat) (w : World) (h1 : 1 ≤ n) (h4 : n ≤ 4) : RetB Tryd.prog 50 #[.int .i64 n] w (.string (dP n)) := by
  unfold RetB
  rcases four h1 h4 with rfl | rfl | rfl | rfl
  all_goals
    clear h1 h4
    go_enter Tryd.func50, Tryd.ntmps50
    go_wp2
    go_ret
    exact ⟨rfl, ext_alloc _ _⟩
theorem refInfix (n : Nat) (w : World) (h1 : 1 ≤ n) (h4 : n ≤ 4) : RetB Tryd.prog 52 #[.int .i64 n] w (.string (dI n)) := by
  unfold RetB
  rcases four h1 h4 with rfl | rfl | rfl | rfl
  all_goals
    clear h1 h4
    go_enter Tryd.func52, Tryd.ntmps52
    go_wp2
    go_ret
    exact ⟨rfl, ext_alloc _ _⟩
/-- A slice of the marks. -/
def IsMarks (n : Nat) (e : Ending) (w' : World) : Prop := ∃ v, e = .returned v ∧ StrsAt w' v ((mkW n).map ofL)
theorem mkW1 : mkW 1 = [[110, 108, 105, 110, 107], [111, 112, 97, 113, 117, 101], [114, 101, 100, 105, 114, 101, 99, 116]] := by decide +kernel
theorem mkW2 : mkW 2 = [[110, 108, 105, 110, 107], [111, 112, 97, 113, 117, 101], [114, 101, 100, 105, 114, 101, 99, 116], [119, 104, 105, 116, 101, 111, 117, 116]] := by decide +kernel
theorem mkW3 : mkW 3 = [] := by decide +kernel
theorem mkW4 : mkW 4 = [[111, 112, 97, 113, 117, 101]] := by decide +kernel
theorem refMarks (n : Nat) (w : World) (h1 : 1 ≤ n) (h4 : n ≤ 4) : Calls Tryd.prog 49 #[.int .i64 n] w fun e w' => IsMarks n e w' ∧ Below w.heap.size w w' := by
  rcases four h1 h4 with rfl | rfl | rfl | rfl
  · have hA := strsAt_new w (mkW 1) 9
    have HA := Lib.hid hA; clear hA h1 h4
    go_enter Tryd.func49, Tryd.ntmps49
    go_wp2
    go_ret
    exact ⟨⟨_, rfl, by have := HA.out; rw [mkW1] at this; rw [mkW1]; exact this⟩, ext_alloc _ _⟩
  · have hA := strsAt_new w (mkW 2) 9
    have HA := Lib.hid hA; clear hA h1 h4
    go_enter Tryd.func49, Tryd.ntmps49
    go_wp2
    go_ret
    exact ⟨⟨_, rfl, by have := HA.out; rw [mkW2] at this; rw [mkW2]; exact this⟩, ext_alloc _ _⟩
  · clear h1 h4
    go_enter Tryd.func49, Tryd.ntmps49
    go_wp2
    go_ret
    exact ⟨⟨_, rfl, by rw [mkW3]; exact ⟨none, 0, rfl, Nat.le_refl _, fun k hk => absurd hk (by simp)⟩⟩, Below.refl _ _⟩
  · have hA := strsAt_new w (mkW 4) 9
    have HA := Lib.hid hA; clear hA h1 h4
    go_enter Tryd.func49, Tryd.ntmps49
    go_wp2
    go_ret
    exact ⟨⟨_, rfl, by have := HA.out; rw [mkW4] at this; rw [mkW4]; exact this⟩, ext_alloc _ _⟩
end Go.Proofs.YtnemfapegbehlaaDoor
