/- EscapeOnce is proved: for every dialect number and every two strings the law returns true; where a string has more than 200 bytes the fixed calls alone are made. -/
import Derived.Test.YtnemfapegbehlaaDoorShown
import Derived.Test.YtnemfapegbehlaaDoorEscQ
import Derived.Test.YtnemfapegbehlaaDoorFrame
namespace Go.Proofs.YtnemfapegbehlaaDoor.lwEscapeOnce
open Go.ChangeShapes Go.WideShapes Go.ChangeAt Go.RowKit
open Go.ChangeMaps (open_string shut_string)

theorem both_nm {d : Int} {a b : ByteArray} (h : nmE d a = 0) (k : nmE d b = 0) : ((nmS d a).toList == (nmS d b).toList) = (a.toList == b.toList) := by
  obtain ⟨_, h2, _⟩ := nm_zero h; obtain ⟨_, k2, _⟩ := nm_zero k
  rw [h2, k2, beq_L, beq_L, L_wrS, L_wrS, decide_eq_decide]
  exact ⟨wrL_inj, fun e => by rw [e]⟩
theorem both_wt {d : Int} {a b : ByteArray} (h : wtE d a = 0) (k : wtE d b = 0) : ((wtS d a).toList == (wtS d b).toList) = (a.toList == b.toList) := by
  obtain ⟨_, h2, _⟩ := wt_zero h; obtain ⟨_, k2, _⟩ := wt_zero k
  rw [h2, k2, beq_L, beq_L, L_whS, L_whS, decide_eq_decide]
  exact ⟨whtL_inj, fun e => by rw [e]⟩
theorem back_nm {d : Int} {a : ByteArray} (h : nmE d a = 0) : bkS d (nmS d a) = a ∧ bkW d (nmS d a) = 1 ∧ bkE d (nmS d a) = 0 := by
  obtain ⟨h1, h2, h3⟩ := nm_zero h
  rw [h2]
  obtain ⟨e1, e2, e3⟩ := bk_of (d := d) (s := wrS d a) (x := L a) (y := 1) (z := 0) (by rw [L_wrS]; exact back_wr h1 h3)
  exact ⟨e1, e2, e3⟩
theorem name_nm {d : Int} {a : ByteArray} (h : nmE d a = 0) : nameE (L (nmS d a)) = 0 ∧ (nmS d a).size ≤ 24 := by
  obtain ⟨h1, h2, h3⟩ := nm_zero h
  rw [h2, L_wrS, size_L, L_wrS]
  exact ⟨nameE_wr (askE_zero h1).2 h3, h3⟩
theorem back_wt {a : ByteArray} (h : wtE 3 a = 0) : bkS 3 (wtS 3 a) = a ∧ bkW 3 (wtS 3 a) = 2 ∧ bkE 3 (wtS 3 a) = 0 := by
  obtain ⟨h1, h2, h3⟩ := wt_zero h
  rw [h2]
  obtain ⟨e1, e2, e3⟩ := bk_of (d := 3) (s := whS 3 a) (x := L a) (y := 2) (z := 0) (by rw [L_whS]; exact back_wht h1 h3)
  exact ⟨e1, e2, e3⟩
theorem nm_ne_wt {a b : ByteArray} (h : nmE 3 b = 0) (k : wtE 3 a = 0) : ((nmS 3 b).toList == (wtS 3 a).toList) = false := by
  obtain ⟨_, h2, _⟩ := nm_zero h; obtain ⟨_, k2, _⟩ := wt_zero k
  rw [h2, k2, beq_L, L_wrS, L_whS]
  exact decide_eq_false wr_ne_wht
theorem wt_eq_nm {d : Int} (hd : d ≠ 3) (a : ByteArray) : wtS d a = nmS d a ∧ wtE d a = nmE d a := by
  have e : whS d a = wrS d a := by
    apply L_inj; rw [L_whS, L_wrS, wht_other hd, wr_other hd]
  unfold wtS nmS wtE nmE; rw [e]; exact ⟨rfl, rfl⟩
theorem size_wt {d : Int} {a : ByteArray} (h : wtE d a = 0) : (wtS d a).size ≤ 24 := by
  obtain ⟨h1, h2, h3⟩ := wt_zero h
  rw [h2, size_L, L_whS]; exact h3

/-- What is known of the name of one string. -/
theorem of_nm (d : Int) (a : ByteArray) : (nmE d a = 0 ∧ (bkS d (nmS d a) = a ∧ bkW d (nmS d a) = 1 ∧ bkE d (nmS d a) = 0) ∧ nameE (L (nmS d a)) = 0 ∧ (nmS d a).size ≤ 24) ∨ (nmE d a == 0) = false := by
  by_cases h : nmE d a = 0
  · exact .inl ⟨h, back_nm h, name_nm h⟩
  · exact .inr (beq_eq_false_iff_ne.2 h)
theorem of_wt (a : ByteArray) : (wtE 3 a = 0 ∧ (bkS 3 (wtS 3 a) = a ∧ bkW 3 (wtS 3 a) = 2 ∧ bkE 3 (wtS 3 a) = 0) ∧ (wtS 3 a).size ≤ 24) ∨ (wtE 3 a == 0) = false := by
  by_cases h : wtE 3 a = 0
  · exact .inl ⟨h, back_wt h, size_wt h⟩
  · exact .inr (beq_eq_false_iff_ne.2 h)

set_option maxRecDepth 100000 in
theorem walk0 (d : Int) (a b : ByteArray) (w : World) (hL : Laid w) (hs : 200 < a.size ∨ 200 < b.size) : RetB Tryd.prog 5 #[.int .i64 d, .string a, .string b] w (.bool true) := by
  unfold RetB
  have HL := Lib.hid hL; clear hL
  by_cases hs1 : 200 < a.size
  · go_enter Tryd.func5, Tryd.ntmps5
    go_wp2_with (go_at_call 10; refine (shown _ HL.out).mono ?_; rintro e w1 ⟨rfl, hb⟩)
    go_ret
    exact ⟨rfl, hb⟩
  · have hs2 : 200 < b.size := by omega
    clear hs
    go_enter Tryd.func5, Tryd.ntmps5
    go_wp2_with (go_at_call 10; refine (shown _ HL.out).mono ?_; rintro e w1 ⟨rfl, hb⟩)
    go_ret
    exact ⟨rfl, hb⟩
set_option maxRecDepth 100000 in
set_option maxHeartbeats 2000000 in
theorem walk1 (d : Int) (a b : ByteArray) (w : World) (hL : Laid w) (hs : a.size ≤ 200) (hs2 : b.size ≤ 200) (h3 : d ≠ 3) : RetB Tryd.prog 5 #[.int .i64 d, .string a, .string b] w (.bool true) := by
  unfold RetB
  have HL := Lib.hid hL; clear hL
  obtain ⟨q1, q2⟩ := wt_eq_nm h3 a
  obtain ⟨q3, q4⟩ := wt_eq_nm h3 b
  have h3' : (d == 3) = false := beq_eq_false_iff_ne.2 h3
  clear h3
  rcases of_nm d a with ⟨a1, ⟨a2, a3, a4⟩, a5, a6⟩ | a1 <;> rcases of_nm d b with ⟨b1, ⟨b2, b3, b4⟩, b5, b6⟩ | b1
  · have hx := both_nm a1 b1
    have HB : Hid (Ext w w) := Below.refl _ _
    go_enter Tryd.func5, Tryd.ntmps5
    go_wp2_with (first
        | (go_at_call 11; refine (escName d _ _ (by omega)).mono ?_; rintro e w1 ⟨rfl, hb⟩; replace HB := Lib.hid (Ext.trans HB.out hb); clear hb)
        | (go_at_call 13; refine (escWhite d _ _ (by omega)).mono ?_; rintro e w1 ⟨rfl, hb⟩; replace HB := Lib.hid (Ext.trans HB.out hb); clear hb)
        | (go_at_call 15; refine (escBack d _ _ (by omega)).mono ?_; rintro e w1 ⟨rfl, hb⟩; replace HB := Lib.hid (Ext.trans HB.out hb); clear hb)
        | (go_at_call 23; refine (refName _ _ (by omega)).mono ?_; rintro e w1 ⟨rfl, rfl⟩)
        | (go_at_call 10; refine (shown _ (HL.out.ext HB.out)).mono ?_; rintro e w1 ⟨rfl, hb⟩; replace HB := Lib.hid (Ext.trans HB.out hb); clear hb))
    go_ret
    exact ⟨rfl, HB.out⟩
  all_goals
    have HB : Hid (Ext w w) := Below.refl _ _
    go_enter Tryd.func5, Tryd.ntmps5
    go_wp2_with (first
        | (go_at_call 11; refine (escName d _ _ (by omega)).mono ?_; rintro e w1 ⟨rfl, hb⟩; replace HB := Lib.hid (Ext.trans HB.out hb); clear hb)
        | (go_at_call 13; refine (escWhite d _ _ (by omega)).mono ?_; rintro e w1 ⟨rfl, hb⟩; replace HB := Lib.hid (Ext.trans HB.out hb); clear hb)
        | (go_at_call 15; refine (escBack d _ _ (by omega)).mono ?_; rintro e w1 ⟨rfl, hb⟩; replace HB := Lib.hid (Ext.trans HB.out hb); clear hb)
        | (go_at_call 23; refine (refName _ _ (by omega)).mono ?_; rintro e w1 ⟨rfl, rfl⟩)
        | (go_at_call 10; refine (shown _ (HL.out.ext HB.out)).mono ?_; rintro e w1 ⟨rfl, hb⟩; replace HB := Lib.hid (Ext.trans HB.out hb); clear hb))
    go_ret
    exact ⟨rfl, HB.out⟩
/-- The case of Aufs, by what the four calls return. -/
def NmA (a : ByteArray) : Prop := nmE 3 a = 0 ∧ (bkS 3 (nmS 3 a) = a ∧ bkW 3 (nmS 3 a) = 1 ∧ bkE 3 (nmS 3 a) = 0) ∧ nameE (L (nmS 3 a)) = 0 ∧ (nmS 3 a).size ≤ 24
def WtA (a : ByteArray) : Prop := wtE 3 a = 0 ∧ (bkS 3 (wtS 3 a) = a ∧ bkW 3 (wtS 3 a) = 2 ∧ bkE 3 (wtS 3 a) = 0) ∧ (wtS 3 a).size ≤ 24
set_option maxRecDepth 100000 in
set_option maxHeartbeats 2000000 in
theorem walk_1111 (a b : ByteArray) (w : World) (hL : Laid w) (hs : a.size ≤ 200) (hs2 : b.size ≤ 200) (_hA : NmA a) (_hB : NmA b) (_hC : WtA a) (_hD : WtA b) : RetB Tryd.prog 5 #[.int .i64 3, .string a, .string b] w (.bool true) := by
  unfold RetB
  have HL := Lib.hid hL; clear hL
  have hx := both_nm _hA.1 _hB.1
  have hy := both_wt _hC.1 _hD.1
  have hz := nm_ne_wt _hA.1 _hC.1
  have hz2 := nm_ne_wt _hB.1 _hC.1
  obtain ⟨a1, ⟨a2, a3, a4⟩, a5, a6⟩ := _hA
  obtain ⟨b1, ⟨b2, b3, b4⟩, b5, b6⟩ := _hB
  obtain ⟨c1, ⟨c2, c3, c4⟩, c6⟩ := _hC
  obtain ⟨d1, ⟨d2, d3, d4⟩, d6⟩ := _hD
  have HB : Hid (Ext w w) := Below.refl _ _
  go_enter Tryd.func5, Tryd.ntmps5
  go_wp2_with (first
        | (go_at_call 11; refine (escName 3 _ _ (by omega)).mono ?_; rintro e w1 ⟨rfl, hb⟩; replace HB := Lib.hid (Ext.trans HB.out hb); clear hb)
        | (go_at_call 13; refine (escWhite 3 _ _ (by omega)).mono ?_; rintro e w1 ⟨rfl, hb⟩; replace HB := Lib.hid (Ext.trans HB.out hb); clear hb)
        | (go_at_call 15; refine (escBack 3 _ _ (by omega)).mono ?_; rintro e w1 ⟨rfl, hb⟩; replace HB := Lib.hid (Ext.trans HB.out hb); clear hb)
        | (go_at_call 23; refine (refName _ _ (by omega)).mono ?_; rintro e w1 ⟨rfl, rfl⟩)
        | (go_at_call 10; refine (shown _ (HL.out.ext HB.out)).mono ?_; rintro e w1 ⟨rfl, hb⟩; replace HB := Lib.hid (Ext.trans HB.out hb); clear hb))
  go_ret
  exact ⟨rfl, HB.out⟩
set_option maxRecDepth 100000 in
set_option maxHeartbeats 2000000 in
theorem walk_1110 (a b : ByteArray) (w : World) (hL : Laid w) (hs : a.size ≤ 200) (hs2 : b.size ≤ 200) (_hA : NmA a) (_hB : NmA b) (_hC : WtA a) (_hD : (wtE 3 b == 0) = false) : RetB Tryd.prog 5 #[.int .i64 3, .string a, .string b] w (.bool true) := by
  unfold RetB
  have HL := Lib.hid hL; clear hL
  have hx := both_nm _hA.1 _hB.1
  have hz := nm_ne_wt _hA.1 _hC.1
  have hz2 := nm_ne_wt _hB.1 _hC.1
  obtain ⟨a1, ⟨a2, a3, a4⟩, a5, a6⟩ := _hA
  obtain ⟨b1, ⟨b2, b3, b4⟩, b5, b6⟩ := _hB
  obtain ⟨c1, ⟨c2, c3, c4⟩, c6⟩ := _hC
  have HB : Hid (Ext w w) := Below.refl _ _
  go_enter Tryd.func5, Tryd.ntmps5
  go_wp2_with (first
        | (go_at_call 11; refine (escName 3 _ _ (by omega)).mono ?_; rintro e w1 ⟨rfl, hb⟩; replace HB := Lib.hid (Ext.trans HB.out hb); clear hb)
        | (go_at_call 13; refine (escWhite 3 _ _ (by omega)).mono ?_; rintro e w1 ⟨rfl, hb⟩; replace HB := Lib.hid (Ext.trans HB.out hb); clear hb)
        | (go_at_call 15; refine (escBack 3 _ _ (by omega)).mono ?_; rintro e w1 ⟨rfl, hb⟩; replace HB := Lib.hid (Ext.trans HB.out hb); clear hb)
        | (go_at_call 23; refine (refName _ _ (by omega)).mono ?_; rintro e w1 ⟨rfl, rfl⟩)
        | (go_at_call 10; refine (shown _ (HL.out.ext HB.out)).mono ?_; rintro e w1 ⟨rfl, hb⟩; replace HB := Lib.hid (Ext.trans HB.out hb); clear hb))
  go_ret
  exact ⟨rfl, HB.out⟩
set_option maxRecDepth 100000 in
set_option maxHeartbeats 2000000 in
theorem walk_1101 (a b : ByteArray) (w : World) (hL : Laid w) (hs : a.size ≤ 200) (hs2 : b.size ≤ 200) (_hA : NmA a) (_hB : NmA b) (_hC : (wtE 3 a == 0) = false) (_hD : WtA b) : RetB Tryd.prog 5 #[.int .i64 3, .string a, .string b] w (.bool true) := by
  unfold RetB
  have HL := Lib.hid hL; clear hL
  have hx := both_nm _hA.1 _hB.1
  obtain ⟨a1, ⟨a2, a3, a4⟩, a5, a6⟩ := _hA
  obtain ⟨b1, ⟨b2, b3, b4⟩, b5, b6⟩ := _hB
  obtain ⟨d1, ⟨d2, d3, d4⟩, d6⟩ := _hD
  have HB : Hid (Ext w w) := Below.refl _ _
  go_enter Tryd.func5, Tryd.ntmps5
  go_wp2_with (first
        | (go_at_call 11; refine (escName 3 _ _ (by omega)).mono ?_; rintro e w1 ⟨rfl, hb⟩; replace HB := Lib.hid (Ext.trans HB.out hb); clear hb)
        | (go_at_call 13; refine (escWhite 3 _ _ (by omega)).mono ?_; rintro e w1 ⟨rfl, hb⟩; replace HB := Lib.hid (Ext.trans HB.out hb); clear hb)
        | (go_at_call 15; refine (escBack 3 _ _ (by omega)).mono ?_; rintro e w1 ⟨rfl, hb⟩; replace HB := Lib.hid (Ext.trans HB.out hb); clear hb)
        | (go_at_call 23; refine (refName _ _ (by omega)).mono ?_; rintro e w1 ⟨rfl, rfl⟩)
        | (go_at_call 10; refine (shown _ (HL.out.ext HB.out)).mono ?_; rintro e w1 ⟨rfl, hb⟩; replace HB := Lib.hid (Ext.trans HB.out hb); clear hb))
  go_ret
  exact ⟨rfl, HB.out⟩
set_option maxRecDepth 100000 in
set_option maxHeartbeats 2000000 in
theorem walk_1100 (a b : ByteArray) (w : World) (hL : Laid w) (hs : a.size ≤ 200) (hs2 : b.size ≤ 200) (_hA : NmA a) (_hB : NmA b) (_hC : (wtE 3 a == 0) = false) (_hD : (wtE 3 b == 0) = false) : RetB Tryd.prog 5 #[.int .i64 3, .string a, .string b] w (.bool true) := by
  unfold RetB
  have HL := Lib.hid hL; clear hL
  have hx := both_nm _hA.1 _hB.1
  obtain ⟨a1, ⟨a2, a3, a4⟩, a5, a6⟩ := _hA
  obtain ⟨b1, ⟨b2, b3, b4⟩, b5, b6⟩ := _hB
  have HB : Hid (Ext w w) := Below.refl _ _
  go_enter Tryd.func5, Tryd.ntmps5
  go_wp2_with (first
        | (go_at_call 11; refine (escName 3 _ _ (by omega)).mono ?_; rintro e w1 ⟨rfl, hb⟩; replace HB := Lib.hid (Ext.trans HB.out hb); clear hb)
        | (go_at_call 13; refine (escWhite 3 _ _ (by omega)).mono ?_; rintro e w1 ⟨rfl, hb⟩; replace HB := Lib.hid (Ext.trans HB.out hb); clear hb)
        | (go_at_call 15; refine (escBack 3 _ _ (by omega)).mono ?_; rintro e w1 ⟨rfl, hb⟩; replace HB := Lib.hid (Ext.trans HB.out hb); clear hb)
        | (go_at_call 23; refine (refName _ _ (by omega)).mono ?_; rintro e w1 ⟨rfl, rfl⟩)
        | (go_at_call 10; refine (shown _ (HL.out.ext HB.out)).mono ?_; rintro e w1 ⟨rfl, hb⟩; replace HB := Lib.hid (Ext.trans HB.out hb); clear hb))
  go_ret
  exact ⟨rfl, HB.out⟩
set_option maxRecDepth 100000 in
set_option maxHeartbeats 2000000 in
theorem walk_1011 (a b : ByteArray) (w : World) (hL : Laid w) (hs : a.size ≤ 200) (hs2 : b.size ≤ 200) (_hA : NmA a) (_hB : (nmE 3 b == 0) = false) (_hC : WtA a) (_hD : WtA b) : RetB Tryd.prog 5 #[.int .i64 3, .string a, .string b] w (.bool true) := by
  unfold RetB
  have HL := Lib.hid hL; clear hL
  have hy := both_wt _hC.1 _hD.1
  have hz := nm_ne_wt _hA.1 _hC.1
  obtain ⟨a1, ⟨a2, a3, a4⟩, a5, a6⟩ := _hA
  obtain ⟨c1, ⟨c2, c3, c4⟩, c6⟩ := _hC
  obtain ⟨d1, ⟨d2, d3, d4⟩, d6⟩ := _hD
  have HB : Hid (Ext w w) := Below.refl _ _
  go_enter Tryd.func5, Tryd.ntmps5
  go_wp2_with (first
        | (go_at_call 11; refine (escName 3 _ _ (by omega)).mono ?_; rintro e w1 ⟨rfl, hb⟩; replace HB := Lib.hid (Ext.trans HB.out hb); clear hb)
        | (go_at_call 13; refine (escWhite 3 _ _ (by omega)).mono ?_; rintro e w1 ⟨rfl, hb⟩; replace HB := Lib.hid (Ext.trans HB.out hb); clear hb)
        | (go_at_call 15; refine (escBack 3 _ _ (by omega)).mono ?_; rintro e w1 ⟨rfl, hb⟩; replace HB := Lib.hid (Ext.trans HB.out hb); clear hb)
        | (go_at_call 23; refine (refName _ _ (by omega)).mono ?_; rintro e w1 ⟨rfl, rfl⟩)
        | (go_at_call 10; refine (shown _ (HL.out.ext HB.out)).mono ?_; rintro e w1 ⟨rfl, hb⟩; replace HB := Lib.hid (Ext.trans HB.out hb); clear hb))
  go_ret
  exact ⟨rfl, HB.out⟩
set_option maxRecDepth 100000 in
set_option maxHeartbeats 2000000 in
theorem walk_1010 (a b : ByteArray) (w : World) (hL : Laid w) (hs : a.size ≤ 200) (hs2 : b.size ≤ 200) (_hA : NmA a) (_hB : (nmE 3 b == 0) = false) (_hC : WtA a) (_hD : (wtE 3 b == 0) = false) : RetB Tryd.prog 5 #[.int .i64 3, .string a, .string b] w (.bool true) := by
  unfold RetB
  have HL := Lib.hid hL; clear hL
  have hz := nm_ne_wt _hA.1 _hC.1
  obtain ⟨a1, ⟨a2, a3, a4⟩, a5, a6⟩ := _hA
  obtain ⟨c1, ⟨c2, c3, c4⟩, c6⟩ := _hC
  have HB : Hid (Ext w w) := Below.refl _ _
  go_enter Tryd.func5, Tryd.ntmps5
  go_wp2_with (first
        | (go_at_call 11; refine (escName 3 _ _ (by omega)).mono ?_; rintro e w1 ⟨rfl, hb⟩; replace HB := Lib.hid (Ext.trans HB.out hb); clear hb)
        | (go_at_call 13; refine (escWhite 3 _ _ (by omega)).mono ?_; rintro e w1 ⟨rfl, hb⟩; replace HB := Lib.hid (Ext.trans HB.out hb); clear hb)
        | (go_at_call 15; refine (escBack 3 _ _ (by omega)).mono ?_; rintro e w1 ⟨rfl, hb⟩; replace HB := Lib.hid (Ext.trans HB.out hb); clear hb)
        | (go_at_call 23; refine (refName _ _ (by omega)).mono ?_; rintro e w1 ⟨rfl, rfl⟩)
        | (go_at_call 10; refine (shown _ (HL.out.ext HB.out)).mono ?_; rintro e w1 ⟨rfl, hb⟩; replace HB := Lib.hid (Ext.trans HB.out hb); clear hb))
  go_ret
  exact ⟨rfl, HB.out⟩
set_option maxRecDepth 100000 in
set_option maxHeartbeats 2000000 in
theorem walk_1001 (a b : ByteArray) (w : World) (hL : Laid w) (hs : a.size ≤ 200) (hs2 : b.size ≤ 200) (_hA : NmA a) (_hB : (nmE 3 b == 0) = false) (_hC : (wtE 3 a == 0) = false) (_hD : WtA b) : RetB Tryd.prog 5 #[.int .i64 3, .string a, .string b] w (.bool true) := by
  unfold RetB
  have HL := Lib.hid hL; clear hL
  obtain ⟨a1, ⟨a2, a3, a4⟩, a5, a6⟩ := _hA
  obtain ⟨d1, ⟨d2, d3, d4⟩, d6⟩ := _hD
  have HB : Hid (Ext w w) := Below.refl _ _
  go_enter Tryd.func5, Tryd.ntmps5
  go_wp2_with (first
        | (go_at_call 11; refine (escName 3 _ _ (by omega)).mono ?_; rintro e w1 ⟨rfl, hb⟩; replace HB := Lib.hid (Ext.trans HB.out hb); clear hb)
        | (go_at_call 13; refine (escWhite 3 _ _ (by omega)).mono ?_; rintro e w1 ⟨rfl, hb⟩; replace HB := Lib.hid (Ext.trans HB.out hb); clear hb)
        | (go_at_call 15; refine (escBack 3 _ _ (by omega)).mono ?_; rintro e w1 ⟨rfl, hb⟩; replace HB := Lib.hid (Ext.trans HB.out hb); clear hb)
        | (go_at_call 23; refine (refName _ _ (by omega)).mono ?_; rintro e w1 ⟨rfl, rfl⟩)
        | (go_at_call 10; refine (shown _ (HL.out.ext HB.out)).mono ?_; rintro e w1 ⟨rfl, hb⟩; replace HB := Lib.hid (Ext.trans HB.out hb); clear hb))
  go_ret
  exact ⟨rfl, HB.out⟩
set_option maxRecDepth 100000 in
set_option maxHeartbeats 2000000 in
theorem walk_1000 (a b : ByteArray) (w : World) (hL : Laid w) (hs : a.size ≤ 200) (hs2 : b.size ≤ 200) (_hA : NmA a) (_hB : (nmE 3 b == 0) = false) (_hC : (wtE 3 a == 0) = false) (_hD : (wtE 3 b == 0) = false) : RetB Tryd.prog 5 #[.int .i64 3, .string a, .string b] w (.bool true) := by
  unfold RetB
  have HL := Lib.hid hL; clear hL
  obtain ⟨a1, ⟨a2, a3, a4⟩, a5, a6⟩ := _hA
  have HB : Hid (Ext w w) := Below.refl _ _
  go_enter Tryd.func5, Tryd.ntmps5
  go_wp2_with (first
        | (go_at_call 11; refine (escName 3 _ _ (by omega)).mono ?_; rintro e w1 ⟨rfl, hb⟩; replace HB := Lib.hid (Ext.trans HB.out hb); clear hb)
        | (go_at_call 13; refine (escWhite 3 _ _ (by omega)).mono ?_; rintro e w1 ⟨rfl, hb⟩; replace HB := Lib.hid (Ext.trans HB.out hb); clear hb)
        | (go_at_call 15; refine (escBack 3 _ _ (by omega)).mono ?_; rintro e w1 ⟨rfl, hb⟩; replace HB := Lib.hid (Ext.trans HB.out hb); clear hb)
        | (go_at_call 23; refine (refName _ _ (by omega)).mono ?_; rintro e w1 ⟨rfl, rfl⟩)
        | (go_at_call 10; refine (shown _ (HL.out.ext HB.out)).mono ?_; rintro e w1 ⟨rfl, hb⟩; replace HB := Lib.hid (Ext.trans HB.out hb); clear hb))
  go_ret
  exact ⟨rfl, HB.out⟩
set_option maxRecDepth 100000 in
set_option maxHeartbeats 2000000 in
theorem walk_0111 (a b : ByteArray) (w : World) (hL : Laid w) (hs : a.size ≤ 200) (hs2 : b.size ≤ 200) (_hA : (nmE 3 a == 0) = false) (_hB : NmA b) (_hC : WtA a) (_hD : WtA b) : RetB Tryd.prog 5 #[.int .i64 3, .string a, .string b] w (.bool true) := by
  unfold RetB
  have HL := Lib.hid hL; clear hL
  have hy := both_wt _hC.1 _hD.1
  have hz2 := nm_ne_wt _hB.1 _hC.1
  obtain ⟨b1, ⟨b2, b3, b4⟩, b5, b6⟩ := _hB
  obtain ⟨c1, ⟨c2, c3, c4⟩, c6⟩ := _hC
  obtain ⟨d1, ⟨d2, d3, d4⟩, d6⟩ := _hD
  have HB : Hid (Ext w w) := Below.refl _ _
  go_enter Tryd.func5, Tryd.ntmps5
  go_wp2_with (first
        | (go_at_call 11; refine (escName 3 _ _ (by omega)).mono ?_; rintro e w1 ⟨rfl, hb⟩; replace HB := Lib.hid (Ext.trans HB.out hb); clear hb)
        | (go_at_call 13; refine (escWhite 3 _ _ (by omega)).mono ?_; rintro e w1 ⟨rfl, hb⟩; replace HB := Lib.hid (Ext.trans HB.out hb); clear hb)
        | (go_at_call 15; refine (escBack 3 _ _ (by omega)).mono ?_; rintro e w1 ⟨rfl, hb⟩; replace HB := Lib.hid (Ext.trans HB.out hb); clear hb)
        | (go_at_call 23; refine (refName _ _ (by omega)).mono ?_; rintro e w1 ⟨rfl, rfl⟩)
        | (go_at_call 10; refine (shown _ (HL.out.ext HB.out)).mono ?_; rintro e w1 ⟨rfl, hb⟩; replace HB := Lib.hid (Ext.trans HB.out hb); clear hb))
  go_ret
  exact ⟨rfl, HB.out⟩
set_option maxRecDepth 100000 in
set_option maxHeartbeats 2000000 in
theorem walk_0110 (a b : ByteArray) (w : World) (hL : Laid w) (hs : a.size ≤ 200) (hs2 : b.size ≤ 200) (_hA : (nmE 3 a == 0) = false) (_hB : NmA b) (_hC : WtA a) (_hD : (wtE 3 b == 0) = false) : RetB Tryd.prog 5 #[.int .i64 3, .string a, .string b] w (.bool true) := by
  unfold RetB
  have HL := Lib.hid hL; clear hL
  have hz2 := nm_ne_wt _hB.1 _hC.1
  obtain ⟨b1, ⟨b2, b3, b4⟩, b5, b6⟩ := _hB
  obtain ⟨c1, ⟨c2, c3, c4⟩, c6⟩ := _hC
  have HB : Hid (Ext w w) := Below.refl _ _
  go_enter Tryd.func5, Tryd.ntmps5
  go_wp2_with (first
        | (go_at_call 11; refine (escName 3 _ _ (by omega)).mono ?_; rintro e w1 ⟨rfl, hb⟩; replace HB := Lib.hid (Ext.trans HB.out hb); clear hb)
        | (go_at_call 13; refine (escWhite 3 _ _ (by omega)).mono ?_; rintro e w1 ⟨rfl, hb⟩; replace HB := Lib.hid (Ext.trans HB.out hb); clear hb)
        | (go_at_call 15; refine (escBack 3 _ _ (by omega)).mono ?_; rintro e w1 ⟨rfl, hb⟩; replace HB := Lib.hid (Ext.trans HB.out hb); clear hb)
        | (go_at_call 23; refine (refName _ _ (by omega)).mono ?_; rintro e w1 ⟨rfl, rfl⟩)
        | (go_at_call 10; refine (shown _ (HL.out.ext HB.out)).mono ?_; rintro e w1 ⟨rfl, hb⟩; replace HB := Lib.hid (Ext.trans HB.out hb); clear hb))
  go_ret
  exact ⟨rfl, HB.out⟩
set_option maxRecDepth 100000 in
set_option maxHeartbeats 2000000 in
theorem walk_0101 (a b : ByteArray) (w : World) (hL : Laid w) (hs : a.size ≤ 200) (hs2 : b.size ≤ 200) (_hA : (nmE 3 a == 0) = false) (_hB : NmA b) (_hC : (wtE 3 a == 0) = false) (_hD : WtA b) : RetB Tryd.prog 5 #[.int .i64 3, .string a, .string b] w (.bool true) := by
  unfold RetB
  have HL := Lib.hid hL; clear hL
  obtain ⟨b1, ⟨b2, b3, b4⟩, b5, b6⟩ := _hB
  obtain ⟨d1, ⟨d2, d3, d4⟩, d6⟩ := _hD
  have HB : Hid (Ext w w) := Below.refl _ _
  go_enter Tryd.func5, Tryd.ntmps5
  go_wp2_with (first
        | (go_at_call 11; refine (escName 3 _ _ (by omega)).mono ?_; rintro e w1 ⟨rfl, hb⟩; replace HB := Lib.hid (Ext.trans HB.out hb); clear hb)
        | (go_at_call 13; refine (escWhite 3 _ _ (by omega)).mono ?_; rintro e w1 ⟨rfl, hb⟩; replace HB := Lib.hid (Ext.trans HB.out hb); clear hb)
        | (go_at_call 15; refine (escBack 3 _ _ (by omega)).mono ?_; rintro e w1 ⟨rfl, hb⟩; replace HB := Lib.hid (Ext.trans HB.out hb); clear hb)
        | (go_at_call 23; refine (refName _ _ (by omega)).mono ?_; rintro e w1 ⟨rfl, rfl⟩)
        | (go_at_call 10; refine (shown _ (HL.out.ext HB.out)).mono ?_; rintro e w1 ⟨rfl, hb⟩; replace HB := Lib.hid (Ext.trans HB.out hb); clear hb))
  go_ret
  exact ⟨rfl, HB.out⟩
set_option maxRecDepth 100000 in
set_option maxHeartbeats 2000000 in
theorem walk_0100 (a b : ByteArray) (w : World) (hL : Laid w) (hs : a.size ≤ 200) (hs2 : b.size ≤ 200) (_hA : (nmE 3 a == 0) = false) (_hB : NmA b) (_hC : (wtE 3 a == 0) = false) (_hD : (wtE 3 b == 0) = false) : RetB Tryd.prog 5 #[.int .i64 3, .string a, .string b] w (.bool true) := by
  unfold RetB
  have HL := Lib.hid hL; clear hL
  obtain ⟨b1, ⟨b2, b3, b4⟩, b5, b6⟩ := _hB
  have HB : Hid (Ext w w) := Below.refl _ _
  go_enter Tryd.func5, Tryd.ntmps5
  go_wp2_with (first
        | (go_at_call 11; refine (escName 3 _ _ (by omega)).mono ?_; rintro e w1 ⟨rfl, hb⟩; replace HB := Lib.hid (Ext.trans HB.out hb); clear hb)
        | (go_at_call 13; refine (escWhite 3 _ _ (by omega)).mono ?_; rintro e w1 ⟨rfl, hb⟩; replace HB := Lib.hid (Ext.trans HB.out hb); clear hb)
        | (go_at_call 15; refine (escBack 3 _ _ (by omega)).mono ?_; rintro e w1 ⟨rfl, hb⟩; replace HB := Lib.hid (Ext.trans HB.out hb); clear hb)
        | (go_at_call 23; refine (refName _ _ (by omega)).mono ?_; rintro e w1 ⟨rfl, rfl⟩)
        | (go_at_call 10; refine (shown _ (HL.out.ext HB.out)).mono ?_; rintro e w1 ⟨rfl, hb⟩; replace HB := Lib.hid (Ext.trans HB.out hb); clear hb))
  go_ret
  exact ⟨rfl, HB.out⟩
set_option maxRecDepth 100000 in
set_option maxHeartbeats 2000000 in
theorem walk_0011 (a b : ByteArray) (w : World) (hL : Laid w) (hs : a.size ≤ 200) (hs2 : b.size ≤ 200) (_hA : (nmE 3 a == 0) = false) (_hB : (nmE 3 b == 0) = false) (_hC : WtA a) (_hD : WtA b) : RetB Tryd.prog 5 #[.int .i64 3, .string a, .string b] w (.bool true) := by
  unfold RetB
  have HL := Lib.hid hL; clear hL
  have hy := both_wt _hC.1 _hD.1
  obtain ⟨c1, ⟨c2, c3, c4⟩, c6⟩ := _hC
  obtain ⟨d1, ⟨d2, d3, d4⟩, d6⟩ := _hD
  have HB : Hid (Ext w w) := Below.refl _ _
  go_enter Tryd.func5, Tryd.ntmps5
  go_wp2_with (first
        | (go_at_call 11; refine (escName 3 _ _ (by omega)).mono ?_; rintro e w1 ⟨rfl, hb⟩; replace HB := Lib.hid (Ext.trans HB.out hb); clear hb)
        | (go_at_call 13; refine (escWhite 3 _ _ (by omega)).mono ?_; rintro e w1 ⟨rfl, hb⟩; replace HB := Lib.hid (Ext.trans HB.out hb); clear hb)
        | (go_at_call 15; refine (escBack 3 _ _ (by omega)).mono ?_; rintro e w1 ⟨rfl, hb⟩; replace HB := Lib.hid (Ext.trans HB.out hb); clear hb)
        | (go_at_call 23; refine (refName _ _ (by omega)).mono ?_; rintro e w1 ⟨rfl, rfl⟩)
        | (go_at_call 10; refine (shown _ (HL.out.ext HB.out)).mono ?_; rintro e w1 ⟨rfl, hb⟩; replace HB := Lib.hid (Ext.trans HB.out hb); clear hb))
  go_ret
  exact ⟨rfl, HB.out⟩
set_option maxRecDepth 100000 in
set_option maxHeartbeats 2000000 in
theorem walk_0010 (a b : ByteArray) (w : World) (hL : Laid w) (hs : a.size ≤ 200) (hs2 : b.size ≤ 200) (_hA : (nmE 3 a == 0) = false) (_hB : (nmE 3 b == 0) = false) (_hC : WtA a) (_hD : (wtE 3 b == 0) = false) : RetB Tryd.prog 5 #[.int .i64 3, .string a, .string b] w (.bool true) := by
  unfold RetB
  have HL := Lib.hid hL; clear hL
  obtain ⟨c1, ⟨c2, c3, c4⟩, c6⟩ := _hC
  have HB : Hid (Ext w w) := Below.refl _ _
  go_enter Tryd.func5, Tryd.ntmps5
  go_wp2_with (first
        | (go_at_call 11; refine (escName 3 _ _ (by omega)).mono ?_; rintro e w1 ⟨rfl, hb⟩; replace HB := Lib.hid (Ext.trans HB.out hb); clear hb)
        | (go_at_call 13; refine (escWhite 3 _ _ (by omega)).mono ?_; rintro e w1 ⟨rfl, hb⟩; replace HB := Lib.hid (Ext.trans HB.out hb); clear hb)
        | (go_at_call 15; refine (escBack 3 _ _ (by omega)).mono ?_; rintro e w1 ⟨rfl, hb⟩; replace HB := Lib.hid (Ext.trans HB.out hb); clear hb)
        | (go_at_call 23; refine (refName _ _ (by omega)).mono ?_; rintro e w1 ⟨rfl, rfl⟩)
        | (go_at_call 10; refine (shown _ (HL.out.ext HB.out)).mono ?_; rintro e w1 ⟨rfl, hb⟩; replace HB := Lib.hid (Ext.trans HB.out hb); clear hb))
  go_ret
  exact ⟨rfl, HB.out⟩
set_option maxRecDepth 100000 in
set_option maxHeartbeats 2000000 in
theorem walk_0001 (a b : ByteArray) (w : World) (hL : Laid w) (hs : a.size ≤ 200) (hs2 : b.size ≤ 200) (_hA : (nmE 3 a == 0) = false) (_hB : (nmE 3 b == 0) = false) (_hC : (wtE 3 a == 0) = false) (_hD : WtA b) : RetB Tryd.prog 5 #[.int .i64 3, .string a, .string b] w (.bool true) := by
  unfold RetB
  have HL := Lib.hid hL; clear hL
  obtain ⟨d1, ⟨d2, d3, d4⟩, d6⟩ := _hD
  have HB : Hid (Ext w w) := Below.refl _ _
  go_enter Tryd.func5, Tryd.ntmps5
  go_wp2_with (first
        | (go_at_call 11; refine (escName 3 _ _ (by omega)).mono ?_; rintro e w1 ⟨rfl, hb⟩; replace HB := Lib.hid (Ext.trans HB.out hb); clear hb)
        | (go_at_call 13; refine (escWhite 3 _ _ (by omega)).mono ?_; rintro e w1 ⟨rfl, hb⟩; replace HB := Lib.hid (Ext.trans HB.out hb); clear hb)
        | (go_at_call 15; refine (escBack 3 _ _ (by omega)).mono ?_; rintro e w1 ⟨rfl, hb⟩; replace HB := Lib.hid (Ext.trans HB.out hb); clear hb)
        | (go_at_call 23; refine (refName _ _ (by omega)).mono ?_; rintro e w1 ⟨rfl, rfl⟩)
        | (go_at_call 10; refine (shown _ (HL.out.ext HB.out)).mono ?_; rintro e w1 ⟨rfl, hb⟩; replace HB := Lib.hid (Ext.trans HB.out hb); clear hb))
  go_ret
  exact ⟨rfl, HB.out⟩
set_option maxRecDepth 100000 in
set_option maxHeartbeats 2000000 in
theorem walk_0000 (a b : ByteArray) (w : World) (hL : Laid w) (hs : a.size ≤ 200) (hs2 : b.size ≤ 200) (_hA : (nmE 3 a == 0) = false) (_hB : (nmE 3 b == 0) = false) (_hC : (wtE 3 a == 0) = false) (_hD : (wtE 3 b == 0) = false) : RetB Tryd.prog 5 #[.int .i64 3, .string a, .string b] w (.bool true) := by
  unfold RetB
  have HL := Lib.hid hL; clear hL
  have HB : Hid (Ext w w) := Below.refl _ _
  go_enter Tryd.func5, Tryd.ntmps5
  go_wp2_with (first
        | (go_at_call 11; refine (escName 3 _ _ (by omega)).mono ?_; rintro e w1 ⟨rfl, hb⟩; replace HB := Lib.hid (Ext.trans HB.out hb); clear hb)
        | (go_at_call 13; refine (escWhite 3 _ _ (by omega)).mono ?_; rintro e w1 ⟨rfl, hb⟩; replace HB := Lib.hid (Ext.trans HB.out hb); clear hb)
        | (go_at_call 15; refine (escBack 3 _ _ (by omega)).mono ?_; rintro e w1 ⟨rfl, hb⟩; replace HB := Lib.hid (Ext.trans HB.out hb); clear hb)
        | (go_at_call 23; refine (refName _ _ (by omega)).mono ?_; rintro e w1 ⟨rfl, rfl⟩)
        | (go_at_call 10; refine (shown _ (HL.out.ext HB.out)).mono ?_; rintro e w1 ⟨rfl, hb⟩; replace HB := Lib.hid (Ext.trans HB.out hb); clear hb))
  go_ret
  exact ⟨rfl, HB.out⟩
theorem walk (d : Int) (a b : ByteArray) (w : World) (hL : Laid w) : RetB Tryd.prog 5 #[.int .i64 d, .string a, .string b] w (.bool true) := by
  by_cases hs : 200 < a.size ∨ 200 < b.size
  · exact walk0 d a b w hL hs
  by_cases h3 : d = 3
  · subst h3
    have h1 : a.size ≤ 200 := by omega
    have h2 : b.size ≤ 200 := by omega
    rcases of_nm 3 a with hA | hA <;> rcases of_nm 3 b with hB | hB <;> rcases of_wt a with hC | hC <;> rcases of_wt b with hD | hD
    · exact walk_1111 a b w hL h1 h2 hA hB hC hD
    · exact walk_1110 a b w hL h1 h2 hA hB hC hD
    · exact walk_1101 a b w hL h1 h2 hA hB hC hD
    · exact walk_1100 a b w hL h1 h2 hA hB hC hD
    · exact walk_1011 a b w hL h1 h2 hA hB hC hD
    · exact walk_1010 a b w hL h1 h2 hA hB hC hD
    · exact walk_1001 a b w hL h1 h2 hA hB hC hD
    · exact walk_1000 a b w hL h1 h2 hA hB hC hD
    · exact walk_0111 a b w hL h1 h2 hA hB hC hD
    · exact walk_0110 a b w hL h1 h2 hA hB hC hD
    · exact walk_0101 a b w hL h1 h2 hA hB hC hD
    · exact walk_0100 a b w hL h1 h2 hA hB hC hD
    · exact walk_0011 a b w hL h1 h2 hA hB hC hD
    · exact walk_0010 a b w hL h1 h2 hA hB hC hD
    · exact walk_0001 a b w hL h1 h2 hA hB hC hD
    · exact walk_0000 a b w hL h1 h2 hA hB hC hD
  · exact walk1 d a b w hL (by omega) (by omega) h3
set_option maxRecDepth 100000 in
theorem contract (H : Type) (enc : TypeId × Value → H) (W : World) (base : Nat) (args : Array Value) (ds gs : List (DataW H)) (before : List MemPlace)
    (hval : ∀ (j : Nat) t v, Tryd.f5.params[j]? = some t → args[j]? = some v → Value.okWide Tryd.prog W .any base t v)
    (hW : DataW.Whole enc Tryd.prog Tryd.f5.params.toList Rows.escapeOnceSpec.vars false W args.toList ds gs before) (hL : laidMetH Tryd.prog Rows.escapeOnceRow.laid W) :
    Calls Tryd.prog 5 args W fun e W' => ∃ v, e = .returned v ∧ Rows.escapeOnceSpec.post enc Tryd.prog Tryd.f5 false true false false W args v W' := by
  have hW' := hW
  obtain ⟨p, q, hA0, hV, rfl, hfz, hnd⟩ := hW
  have hA : DataW.TrodAll enc Tryd.prog W 0 (fun _ => true) true Tryd.f5.params.toList args.toList ds p := hA0
  rw [Tryd.params5] at hA hval
  obtain ⟨v0, vs0, d0, ds0, p0, q0, hargs, rfl, rfl, h0, r0⟩ := trodAll_cons hA
  obtain ⟨v1, vs1, d1, ds1, p1, q1, rfl, rfl, rfl, h1, r1⟩ := trodAll_cons r0
  obtain ⟨v2, vs2, d2, ds2, p2, q2, rfl, rfl, rfl, h2, r2⟩ := trodAll_cons r1
  obtain ⟨rfl, rfl, rfl⟩ := trodAll_nil r2
  obtain rfl : args = #[v0, v1, v2] := by cases args; simp_all
  obtain ⟨x0, rfl, rfl, rfl, w0⟩ := open_int Tryd.underlying3 (hval 0 3 v0 rfl rfl) h0
  obtain ⟨x1, rfl, rfl, rfl, w1⟩ := open_string Tryd.underlying9 (hval 1 9 v1 rfl rfl) h1
  obtain ⟨x2, rfl, rfl, rfl, w2⟩ := open_string Tryd.underlying9 (hval 2 9 v2 rfl rfl) h2
  refine (walk x0 x1 x2 W (laid_of hL)).mono fun e W' ⟨he, hb⟩ => ?_
  subst he
  exact ⟨_, rfl, law_post hW' rfl rfl rfl (by intro t ht; rw [Tryd.params5] at ht; simp at ht; rcases ht with rfl | rfl <;> exact ⟨by kernel_rfl, of_decide_eq_true (by kernel_rfl)⟩) hb⟩
theorem reads (os : Os) {H : Type} (enc : TypeId × Value → H) : ∃ places, DataW.whole enc Tryd.prog ((laidWorld os).forCall (fun _ _ => 0) ⟨#[], (#[.int .i64 0, .string ⟨#[]⟩, .string ⟨#[]⟩] : Array Value), []⟩).memory Tryd.f5.params.toList Rows.escapeOnceSpec.vars false (#[.int .i64 0, .string ⟨#[]⟩, .string ⟨#[]⟩] : Array Value).toList 8 = some ([.lit (.int .i64 0), .lit (.string []), .lit (.string [])], [], places) :=
  ⟨[], by kernel_rfl⟩
set_option maxRecDepth 100000 in
theorem lifted (os : Os) (started : os.Started) (H : Type) (enc : TypeId × Value → H) (F : Stop.Interp) :
    ReturnsInHanded {} Tryd.checked os 5 .any ((OpenSpec.ofChange Rows.escapeOnceSpec).preRow enc Tryd.prog Tryd.f5 Rows.escapeOnceRow.domain false Rows.escapeOnceRow.laid) (((OpenSpec.ofChange Rows.escapeOnceSpec).at F).post enc Tryd.prog Tryd.f5 false true false false) := by
  obtain ⟨places, hx⟩ := reads os enc
  refine returnsInHanded_of_row (C := Tryd.checked) (s := OpenSpec.ofChange Rows.escapeOnceSpec) own started (by kernel_rfl) Tryd.func5
    (witness_row_atRef (enc := enc) (C := Tryd.checked) false (laidWorld os) (#[.int .i64 0, .string ⟨#[]⟩, .string ⟨#[]⟩] : Array Value) rfl (by kernel_rfl) (by kernel_rfl) (by kernel_rfl)
      (OpenSpec.preRow_of_cond 8 hx (by kernel_rfl) (fun k hk => by cases hk) (by kernel_rfl) (laid_met os _))) ?_
  intro W base args ds gs before hval hW _ _ _ hL _ _
  exact contract H enc W base args ds gs before hval hW hL
theorem said : Rows.EscapeOnceSaid :=
  OpenClaim.holds_of_cond 5 Tryd.f5 rfl rfl rfl rfl rfl rfl rfl ⟨rfl, rfl, rfl, rfl, rfl⟩ rfl rfl rfl rfl rfl (by kernel_rfl) Tryd.func5 (by kernel_rfl)
    (of_decide_eq_true (by kernel_rfl)) (by unfold Func.isWrapper; rw [if_neg (of_decide_eq_false (by kernel_rfl))]; exact ⟨rfl, rfl⟩)
    (fun os started H enc _ F => by rw [OpenClaim.pre_eq_preRow]; exact lifted os started H enc F)
theorem plain (f : FuncId) (fn : Func) (hf : Tryd.pinned.checked.prog.funcNamed Rows.escapeOnceRow.func = some f) (hfn : Tryd.pinned.checked.prog.funcs[f]? = some fn) :
    false = Tryd.pinned.checked.prog.looks [] ∧ ∀ (j : Nat) t, fn.params[j]? = some t → Tryd.pinned.checked.prog.wantsStandIn t = false := by
  obtain rfl : f = 5 := Option.some.inj ((show Tryd.prog.funcNamed Rows.escapeOnceRow.func = some 5 by kernel_rfl).symm.trans hf) |>.symm
  obtain rfl : fn = Tryd.f5 := (Option.some.inj (Tryd.func5.symm.trans hfn)).symm
  refine ⟨by kernel_rfl, fun j t ht => ?_⟩
  rw [Tryd.params5] at ht
  have hm := Array.mem_of_getElem? ht
  simp at hm
  rcases hm with rfl | rfl
  · exact (show Tryd.prog.wantsStandIn 3 = false by kernel_rfl)
  · exact (show Tryd.prog.wantsStandIn 9 = false by kernel_rfl)
theorem card : Rows.EscapeOnceCardSaid :=
  Claim7.holds_tied_plain_at .later [] _ _ _ _ said (fun _ h => by cases h) (by kernel_rfl) (fun _ h => by cases h) escapeOnce_row_tie rfl ⟨rfl, rfl⟩ (by kernel_rfl) rfl plain (by kernel_rfl)
#print axioms card
end Go.Proofs.YtnemfapegbehlaaDoor.lwEscapeOnce
