/- Paths' checks; equality of lists of strings and attributes, of nodes. -/
/- Kinds of nodes, and their fields. -/
import Derived.Test.YtiliglpolcpnbaaGreatDoorQCod
import Derived.Deep.RegionHeld3
import Derived.Deep.QuietTactic
import Derived.BigQuiet
namespace Go.Proofs.YtiliglpolcpnbaaGreatDoor
open Go.RowKit

def firstN : List ByteArray → Int
  | [] => 0
  | a :: r => if nameE (L a) ≠ 0 then nameE (L a) else firstN r
theorem firstN_append (l m : List ByteArray) (h : firstN l = 0) : firstN (l ++ m) = firstN m := by
  induction l with
  | nil => rfl
  | cons a r ih =>
    unfold firstN at h
    by_cases ha : nameE (L a) ≠ 0
    · rw [if_pos ha] at h; exact absurd h ha
    · rw [if_neg ha] at h; show (if nameE (L a) ≠ 0 then nameE (L a) else firstN (r ++ m)) = firstN m; rw [if_neg ha]; exact ih h
theorem firstN_step (l : List ByteArray) (k : Nat) (h : k < l.length) (h0 : firstN (l.take k) = 0) (ha : nameE (L (l[k]'h)) = 0) : firstN (l.take (k + 1)) = 0 := by
  rw [List.take_succ_eq_append_getElem h, firstN_append _ _ h0]; unfold firstN; rw [if_neg (by simpa using ha)]; rfl
theorem firstN_hit (l : List ByteArray) (k : Nat) (h : k < l.length) (h0 : firstN (l.take k) = 0) (ha : nameE (L (l[k]'h)) ≠ 0) : firstN l = nameE (L (l[k]'h)) := by
  have e : l = l.take k ++ l[k]'h :: l.drop (k + 1) := by simp
  have : firstN (l.take k ++ l[k]'h :: l.drop (k + 1)) = nameE (L (l[k]'h)) := by
    rw [firstN_append _ _ h0]; show (if nameE (L (l[k]'h)) ≠ 0 then nameE (L (l[k]'h)) else firstN (l.drop (k + 1))) = _; rw [if_pos ha]
  rw [← e] at this; exact this
/-- The error of a path. -/
def pathE (l : List ByteArray) : Int := if 8 < l.length then 3 else firstN l
theorem pathE_long {l : List ByteArray} (h : 8 < l.length) : pathE l = 3 := if_pos h
theorem pathE_of {l : List ByteArray} (h : ¬ 8 < l.length) : pathE l = firstN l := if_neg h
theorem refPathCheck (v : Value) (l : List ByteArray) (w : World) (hv : StrsAt w v l) (hm : ∀ s ∈ l, s.size ≤ 1000000) : Ret Tryz.prog 101 #[v] w (.int .i64 (pathE l)) := by
  unfold Ret
  obtain ⟨a, cap, rfl, hcap, hc⟩ := hv
  have HC := Lib.hid hc; clear hc
  have HM := Lib.hid hm; clear hm
  by_cases hl : 8 < l.length
  · rw [pathE_long hl]
    go_enter Tryz.func101, Tryz.ntmps101
    go_wp2
    go_ret
    exact ⟨rfl, rfl⟩
  rw [pathE_of hl]
  go_enter Tryz.func101, Tryz.ntmps101
  go_wp2
  go_loop [3] (fun i => ∃ k : Nat, k ≤ l.length ∧ i = .int .i64 k ∧ firstN (l.take k) = 0) (fun i => l.length - (intOf i).toNat)
  case atStart => exact ⟨0, Nat.zero_le _, rfl, rfl⟩
  case round =>
    obtain ⟨k, hk, rfl, hf⟩ := hrel
    have HF := Lib.hid hf; clear hf
    by_cases hlt : k < l.length
    · obtain ⟨b, off, rfl, hbs, h1⟩ := HC.out k hlt
      have hm1 := HM.out _ (List.getElem_mem hlt)
      by_cases he : nameE (L (l[k]'hlt)) = 0
      · have HN := Lib.hid (firstN_step l k hlt HF.out he)
        generalize l[k]'hlt = x at h1 hm1 he
        go_wp2_with (go_at_call 98; refine (refName _ _ hm1).mono ?_; rintro e w' ⟨rfl, rfl⟩)
        go_round
        case rel => exact ⟨k + 1, by omega, by go_num, HN.out⟩
        case measure => simp [intOf]; omega
      · have HN := Lib.hid (firstN_hit l k hlt HF.out he)
        have he1 : (nameE (L (l[k]'hlt)) != 0) = true := bne_iff_ne.2 he
        clear he
        generalize l[k]'hlt = x at h1 hm1 he1 HN
        go_wp2_with (go_at_call 98; refine (refName _ _ hm1).mono ?_; rintro e w' ⟨rfl, rfl⟩)
        go_ret
        exact ⟨by rw [HN.out]; rfl, rfl⟩
    · have HN : Hid (firstN l = 0) := by have := HF.out; rw [List.take_of_length_le (by omega)] at this; exact this
      go_wp2
      go_ret
      exact ⟨by rw [HN.out]; rfl, rfl⟩
theorem pathsCheck (v : Value) (l : List ByteArray) (w : World) (hv : StrsAt w v l) : RetB Tryz.prog 113 #[v] w (.int .i64 (pathE l)) := by
  unfold RetB
  obtain ⟨a, cap, rfl, hcap, hc⟩ := hv
  have HC := Lib.hid hc; clear hc
  by_cases hl : 8 < l.length
  · rw [pathE_long hl]
    go_enter Tryz.func113, Tryz.ntmps113
    go_wp2
    go_ret
    exact ⟨rfl, Below.refl _ _⟩
  rw [pathE_of hl]
  go_enter Tryz.func113, Tryz.ntmps113
  go_wp2
  go_loopw [11] (fun i w' => ∃ (wi : World) (k : Nat), wi = w' ∧ k ≤ l.length ∧ i = .int .i64 k ∧ firstN (l.take k) = 0 ∧ Ext w w') (fun i _ => l.length - (intOf i).toNat)
  case atStart => exact ⟨_, 0, rfl, Nat.zero_le _, rfl, rfl, Below.refl _ _⟩
  case round =>
    obtain ⟨wi, k, rfl, hk, rfl, hf, hb⟩ := hrel
    have HF := Lib.hid hf; clear hf
    by_cases hlt : k < l.length
    · obtain ⟨b, off, rfl, hbs, h1⟩ := HC.out k hlt
      replace h1 := (ext_cell hb hbs).trans h1
      have HB := Lib.hid hb; clear hb
      by_cases he : nameE (L (l[k]'hlt)) = 0
      · have HN := Lib.hid (firstN_step l k hlt HF.out he)
        generalize l[k]'hlt = x at h1 he
        go_wp2_with (go_at_call 137; refine (pathsName _ _).mono ?_; rintro e w' ⟨rfl, hb2⟩; have H2 := Lib.hid hb2; clear hb2)
        go_roundw
        case rel => exact ⟨_, k + 1, rfl, by omega, by go_num, HN.out, Ext.trans HB.out H2.out⟩
        case measure => simp [intOf]; omega
      · have HN := Lib.hid (firstN_hit l k hlt HF.out he)
        have he1 : (nameE (L (l[k]'hlt)) != 0) = true := bne_iff_ne.2 he
        clear he
        generalize l[k]'hlt = x at h1 he1 HN
        go_wp2_with (go_at_call 137; refine (pathsName _ _).mono ?_; rintro e w' ⟨rfl, hb2⟩; have H2 := Lib.hid hb2; clear hb2)
        go_ret
        exact ⟨by rw [HN.out]; rfl, Ext.trans HB.out H2.out⟩
    · have HN : Hid (firstN l = 0) := by have := HF.out; rw [List.take_of_length_le (by omega)] at this; exact this
      have HB := Lib.hid hb; clear hb
      go_wp2
      go_ret
      exact ⟨by rw [HN.out]; rfl, HB.out⟩

def SameL {α : Type} (a b : List α) (k : Nat) : Prop := ∀ j, j < k → a[j]? = b[j]?
theorem sameL_end {α : Type} {a b : List α} (hl : a.length = b.length) (h : SameL a b a.length) : a = b := by
  apply List.ext_getElem?
  intro i
  rcases Nat.lt_or_ge i a.length with hi | hi
  · exact h i hi
  · rw [List.getElem?_eq_none hi, List.getElem?_eq_none (by omega)]
set_option maxRecDepth 100000 in
theorem refSameS (u v : Value) (a b : List ByteArray) (w : World) (hu : StrsAt w u a) (hv : StrsAt w v b) (hl : a.length ≤ 1000000) :
    RetB Tryz.prog 57 #[u, v] w (.bool (decide (a = b))) := by
  unfold RetB
  obtain ⟨aa, cap, rfl, _, hc⟩ := hu
  obtain ⟨ba, cap2, rfl, _, hc2⟩ := hv
  have HC := Lib.hid hc; clear hc
  have HD := Lib.hid hc2; clear hc2
  by_cases hab : a.length = b.length
  · have e0 : (((a.length : Nat) : Int) != ((b.length : Nat) : Int)) = false := by rw [bne_eq_false_iff_eq]; omega
    go_enter Tryz.func57, Tryz.ntmps57
    go_wp2
    go_loopw [5] (fun i w' => ∃ (wi : World) (k : Nat), wi = w' ∧ k ≤ a.length ∧ i = .int .i64 k ∧ SameL a b k ∧ Ext w w') (fun i _ => a.length - (intOf i).toNat)
    case atStart => exact ⟨_, 0, rfl, Nat.zero_le _, rfl, fun j hj => absurd hj (by omega), Below.refl _ _⟩
    case round =>
      obtain ⟨wi, k, rfl, hk, rfl, hs, hb⟩ := hrel
      have HS := Lib.hid hs; clear hs
      by_cases hlt : k < a.length
      · obtain ⟨bb, off, rfl, hbs, c1⟩ := HC.out k hlt
        obtain ⟨bb2, off2, rfl, hbs2, d1⟩ := HD.out k (by omega)
        replace c1 := (ext_cell hb hbs).trans c1
        replace d1 := (ext_cell hb hbs2).trans d1
        have hx : a[k]? = some (a[k]'hlt) := List.getElem?_eq_getElem hlt
        have hy : b[k]? = some (b[k]'(by omega)) := List.getElem?_eq_getElem (by omega)
        generalize a[k]'hlt = x at c1 hx
        generalize b[k]'(by omega) = y at d1 hy
        have HX := Lib.hid hx; clear hx
        have HY := Lib.hid hy; clear hy
        have HB := Lib.hid hb; clear hb
        have j1 : ((k : Nat) : Int) < (a.length : Int) := by omega
        have j2 : ((k : Nat) : Int) < (b.length : Int) := by omega
        clear e0
        cases e1 : x.toList == y.toList
        · have he : ¬ x = y := fun e => by rw [e] at e1; simp at e1
          have HN := Lib.hid (show decide (a = b) = false from decide_eq_false fun e => he (by have h1 := HX.out; rw [e, HY.out] at h1; injection h1 with h1; exact h1.symm))
          clear he
          go_wp2
          go_quiet (fail)
          go_wp2
          go_ret
          exact ⟨by rw [HN.out]; rfl, Ext.trans HB.out (ext_drewN _ _)⟩
        · have he : x = y := L_inj (by rw [← toList_L, ← toList_L]; exact beq_iff_eq.1 e1)
          have hN : SameL a b (k + 1) := by
            intro j hj
            by_cases e : j = k
            · subst e; rw [HX.out, HY.out, he]
            · exact HS.out j (by omega)
          have HN := Lib.hid hN; clear hN he
          go_wp2
          go_quiet (fail)
          go_wp2
          go_roundw
          case rel => exact ⟨_, k + 1, rfl, by omega, by go_num, HN.out, Ext.trans HB.out (ext_drewN _ _)⟩
          case measure => simp [intOf]; omega
      · obtain rfl : k = a.length := by omega
        have HN := Lib.hid (show decide (a = b) = true from decide_eq_true (sameL_end hab HS.out))
        have HB := Lib.hid hb; clear hb
        go_wp2
        go_ret
        exact ⟨by rw [HN.out]; rfl, HB.out⟩
  · have e0 : (((a.length : Nat) : Int) != ((b.length : Nat) : Int)) = true := by rw [bne_iff_ne]; omega
    rw [show decide (a = b) = false from decide_eq_false fun e => hab (by rw [e])]
    go_enter Tryz.func57, Tryz.ntmps57
    go_wp2
    go_ret
    exact ⟨rfl, Below.refl _ _⟩
set_option maxRecDepth 100000 in
theorem slEqualS (u v : Value) (a b : List ByteArray) (w : World) (hu : StrsAt w u a) (hv : StrsAt w v b) (hl : a.length ≤ 1000000) :
    RetB Tryz.prog 83 #[u, v] w (.bool (decide (a = b))) := by
  unfold RetB
  obtain ⟨aa, cap, rfl, _, hc⟩ := hu
  obtain ⟨ba, cap2, rfl, _, hc2⟩ := hv
  have HC := Lib.hid hc; clear hc
  have HD := Lib.hid hc2; clear hc2
  by_cases hab : a.length = b.length
  · have e0 : (((a.length : Nat) : Int) != ((b.length : Nat) : Int)) = false := by rw [bne_eq_false_iff_eq]; omega
    go_enter Tryz.func83, Tryz.ntmps83
    go_wp2
    go_loopw [13] (fun i w' => ∃ (wi : World) (k : Nat), wi = w' ∧ k ≤ a.length ∧ i = .int .i64 k ∧ SameL a b k ∧ Ext w w') (fun i _ => a.length - (intOf i).toNat)
    case atStart => exact ⟨_, 0, rfl, Nat.zero_le _, rfl, fun j hj => absurd hj (by omega), Below.refl _ _⟩
    case round =>
      obtain ⟨wi, k, rfl, hk, rfl, hs, hb⟩ := hrel
      have HS := Lib.hid hs; clear hs
      by_cases hlt : k < a.length
      · obtain ⟨bb, off, rfl, hbs, c1⟩ := HC.out k hlt
        obtain ⟨bb2, off2, rfl, hbs2, d1⟩ := HD.out k (by omega)
        replace c1 := (ext_cell hb hbs).trans c1
        replace d1 := (ext_cell hb hbs2).trans d1
        have hx : a[k]? = some (a[k]'hlt) := List.getElem?_eq_getElem hlt
        have hy : b[k]? = some (b[k]'(by omega)) := List.getElem?_eq_getElem (by omega)
        generalize a[k]'hlt = x at c1 hx
        generalize b[k]'(by omega) = y at d1 hy
        have HX := Lib.hid hx; clear hx
        have HY := Lib.hid hy; clear hy
        have HB := Lib.hid hb; clear hb
        have j1 : ((k : Nat) : Int) < (a.length : Int) := by omega
        have j2 : ((k : Nat) : Int) < (b.length : Int) := by omega
        clear e0
        cases e1 : x.toList == y.toList
        · have he : ¬ x = y := fun e => by rw [e] at e1; simp at e1
          have HN := Lib.hid (show decide (a = b) = false from decide_eq_false fun e => he (by have h1 := HX.out; rw [e, HY.out] at h1; injection h1 with h1; exact h1.symm))
          clear he
          go_wp2
          go_quiet (fail)
          go_wp2
          go_ret
          exact ⟨by rw [HN.out]; rfl, Ext.trans HB.out (ext_drewN _ _)⟩
        · have he : x = y := L_inj (by rw [← toList_L, ← toList_L]; exact beq_iff_eq.1 e1)
          have hN : SameL a b (k + 1) := by
            intro j hj
            by_cases e : j = k
            · subst e; rw [HX.out, HY.out, he]
            · exact HS.out j (by omega)
          have HN := Lib.hid hN; clear hN he
          go_wp2
          go_quiet (fail)
          go_wp2
          go_roundw
          case rel => exact ⟨_, k + 1, rfl, by omega, by go_num, HN.out, Ext.trans HB.out (ext_drewN _ _)⟩
          case measure => simp [intOf]; omega
      · obtain rfl : k = a.length := by omega
        have HN := Lib.hid (show decide (a = b) = true from decide_eq_true (sameL_end hab HS.out))
        have HB := Lib.hid hb; clear hb
        go_wp2
        go_ret
        exact ⟨by rw [HN.out]; rfl, HB.out⟩
  · have e0 : (((a.length : Nat) : Int) != ((b.length : Nat) : Int)) = true := by rw [bne_iff_ne]; omega
    rw [show decide (a = b) = false from decide_eq_false fun e => hab (by rw [e])]
    go_enter Tryz.func83, Tryz.ntmps83
    go_wp2
    go_ret
    exact ⟨rfl, Below.refl _ _⟩
set_option maxRecDepth 100000 in
theorem refSameA (u v : Value) (a b : List Attr) (w : World) (hu : AttrsAt w u a) (hv : AttrsAt w v b) (hl : a.length ≤ 1000000) :
    RetB Tryz.prog 71 #[u, v] w (.bool (decide (a = b))) := by
  unfold RetB
  obtain ⟨aa, cap, rfl, _, hc⟩ := hu
  obtain ⟨ba, cap2, rfl, _, hc2⟩ := hv
  have HC := Lib.hid hc; clear hc
  have HD := Lib.hid hc2; clear hc2
  by_cases hab : a.length = b.length
  · have e0 : (((a.length : Nat) : Int) != ((b.length : Nat) : Int)) = false := by rw [bne_eq_false_iff_eq]; omega
    go_enter Tryz.func71, Tryz.ntmps71
    go_wp2
    go_loopw [5] (fun i w' => ∃ (wi : World) (k : Nat), wi = w' ∧ k ≤ a.length ∧ i = .int .i64 k ∧ SameL a b k ∧ Ext w w') (fun i _ => a.length - (intOf i).toNat)
    case atStart => exact ⟨_, 0, rfl, Nat.zero_le _, rfl, fun j hj => absurd hj (by omega), Below.refl _ _⟩
    case round =>
      obtain ⟨wi, k, rfl, hk, rfl, hs, hb⟩ := hrel
      have HS := Lib.hid hs; clear hs
      by_cases hlt : k < a.length
      · obtain ⟨bb, off, rfl, hbs, c1, c2⟩ := HC.out k hlt
        obtain ⟨bb2, off2, rfl, hbs2, d1, d2⟩ := HD.out k (by omega)
        replace c1 := (ext_cell hb hbs).trans c1
        replace c2 := (ext_cell hb hbs).trans c2
        replace d1 := (ext_cell hb hbs2).trans d1
        replace d2 := (ext_cell hb hbs2).trans d2
        have hx : a[k]? = some (a[k]'hlt) := List.getElem?_eq_getElem hlt
        have hy : b[k]? = some (b[k]'(by omega)) := List.getElem?_eq_getElem (by omega)
        generalize a[k]'hlt = x at c1 c2 hx
        generalize b[k]'(by omega) = y at d1 d2 hy
        have HX := Lib.hid hx; clear hx
        have HY := Lib.hid hy; clear hy
        have HB := Lib.hid hb; clear hb
        have j1 : ((k : Nat) : Int) < (a.length : Int) := by omega
        have j2 : ((k : Nat) : Int) < (b.length : Int) := by omega
        clear e0
        cases e1 : x.1.toList == y.1.toList
        · have he : ¬ x = y := fun e => by rw [e] at e1; simp at e1
          have HN := Lib.hid (show decide (a = b) = false from decide_eq_false fun e => he (by have h1 := HX.out; rw [e, HY.out] at h1; injection h1 with h1; exact h1.symm))
          clear he
          go_wp2
          go_quiet (fail)
          go_wp2
          go_ret
          exact ⟨by rw [HN.out]; rfl, Ext.trans HB.out (ext_drewN _ _)⟩
        cases e2 : x.2.toList == y.2.toList
        · have he : ¬ x = y := fun e => by rw [e] at e2; simp at e2
          have HN := Lib.hid (show decide (a = b) = false from decide_eq_false fun e => he (by have h1 := HX.out; rw [e, HY.out] at h1; injection h1 with h1; exact h1.symm))
          clear he
          go_wp2
          go_quiet (fail)
          go_wp2
          go_ret
          exact ⟨by rw [HN.out]; rfl, Ext.trans HB.out (ext_drewN _ _)⟩
        · have he : x = y := Prod.ext (L_inj (by rw [← toList_L, ← toList_L]; exact beq_iff_eq.1 e1)) (L_inj (by rw [← toList_L, ← toList_L]; exact beq_iff_eq.1 e2))
          have hN : SameL a b (k + 1) := by
            intro j hj
            by_cases e : j = k
            · subst e; rw [HX.out, HY.out, he]
            · exact HS.out j (by omega)
          have HN := Lib.hid hN; clear hN he
          go_wp2
          go_quiet (fail)
          go_wp2
          go_roundw
          case rel => exact ⟨_, k + 1, rfl, by omega, by go_num, HN.out, Ext.trans HB.out (ext_drewN _ _)⟩
          case measure => simp [intOf]; omega
      · obtain rfl : k = a.length := by omega
        have HN := Lib.hid (show decide (a = b) = true from decide_eq_true (sameL_end hab HS.out))
        have HB := Lib.hid hb; clear hb
        go_wp2
        go_ret
        exact ⟨by rw [HN.out]; rfl, HB.out⟩
  · have e0 : (((a.length : Nat) : Int) != ((b.length : Nat) : Int)) = true := by rw [bne_iff_ne]; omega
    rw [show decide (a = b) = false from decide_eq_false fun e => hab (by rw [e])]
    go_enter Tryz.func71, Tryz.ntmps71
    go_wp2
    go_ret
    exact ⟨rfl, Below.refl _ _⟩
set_option maxRecDepth 100000 in
theorem slEqualA (u v : Value) (a b : List Attr) (w : World) (hu : AttrsAt w u a) (hv : AttrsAt w v b) (hl : a.length ≤ 1000000) :
    RetB Tryz.prog 187 #[u, v] w (.bool (decide (a = b))) := by
  unfold RetB
  obtain ⟨aa, cap, rfl, _, hc⟩ := hu
  obtain ⟨ba, cap2, rfl, _, hc2⟩ := hv
  have HC := Lib.hid hc; clear hc
  have HD := Lib.hid hc2; clear hc2
  by_cases hab : a.length = b.length
  · have e0 : (((a.length : Nat) : Int) != ((b.length : Nat) : Int)) = false := by rw [bne_eq_false_iff_eq]; omega
    go_enter Tryz.func187, Tryz.ntmps187
    go_wp2
    go_loopw [13] (fun i w' => ∃ (wi : World) (k : Nat), wi = w' ∧ k ≤ a.length ∧ i = .int .i64 k ∧ SameL a b k ∧ Ext w w') (fun i _ => a.length - (intOf i).toNat)
    case atStart => exact ⟨_, 0, rfl, Nat.zero_le _, rfl, fun j hj => absurd hj (by omega), Below.refl _ _⟩
    case round =>
      obtain ⟨wi, k, rfl, hk, rfl, hs, hb⟩ := hrel
      have HS := Lib.hid hs; clear hs
      by_cases hlt : k < a.length
      · obtain ⟨bb, off, rfl, hbs, c1, c2⟩ := HC.out k hlt
        obtain ⟨bb2, off2, rfl, hbs2, d1, d2⟩ := HD.out k (by omega)
        replace c1 := (ext_cell hb hbs).trans c1
        replace c2 := (ext_cell hb hbs).trans c2
        replace d1 := (ext_cell hb hbs2).trans d1
        replace d2 := (ext_cell hb hbs2).trans d2
        have hx : a[k]? = some (a[k]'hlt) := List.getElem?_eq_getElem hlt
        have hy : b[k]? = some (b[k]'(by omega)) := List.getElem?_eq_getElem (by omega)
        generalize a[k]'hlt = x at c1 c2 hx
        generalize b[k]'(by omega) = y at d1 d2 hy
        have HX := Lib.hid hx; clear hx
        have HY := Lib.hid hy; clear hy
        have HB := Lib.hid hb; clear hb
        have j1 : ((k : Nat) : Int) < (a.length : Int) := by omega
        have j2 : ((k : Nat) : Int) < (b.length : Int) := by omega
        clear e0
        cases e1 : x.1.toList == y.1.toList
        · have he : ¬ x = y := fun e => by rw [e] at e1; simp at e1
          have HN := Lib.hid (show decide (a = b) = false from decide_eq_false fun e => he (by have h1 := HX.out; rw [e, HY.out] at h1; injection h1 with h1; exact h1.symm))
          clear he
          go_wp2
          go_quiet (fail)
          go_wp2
          go_ret
          exact ⟨by rw [HN.out]; rfl, Ext.trans HB.out (ext_drewN _ _)⟩
        cases e2 : x.2.toList == y.2.toList
        · have he : ¬ x = y := fun e => by rw [e] at e2; simp at e2
          have HN := Lib.hid (show decide (a = b) = false from decide_eq_false fun e => he (by have h1 := HX.out; rw [e, HY.out] at h1; injection h1 with h1; exact h1.symm))
          clear he
          go_wp2
          go_quiet (fail)
          go_wp2
          go_ret
          exact ⟨by rw [HN.out]; rfl, Ext.trans HB.out (ext_drewN _ _)⟩
        · have he : x = y := Prod.ext (L_inj (by rw [← toList_L, ← toList_L]; exact beq_iff_eq.1 e1)) (L_inj (by rw [← toList_L, ← toList_L]; exact beq_iff_eq.1 e2))
          have hN : SameL a b (k + 1) := by
            intro j hj
            by_cases e : j = k
            · subst e; rw [HX.out, HY.out, he]
            · exact HS.out j (by omega)
          have HN := Lib.hid hN; clear hN he
          go_wp2
          go_quiet (fail)
          go_wp2
          go_roundw
          case rel => exact ⟨_, k + 1, rfl, by omega, by go_num, HN.out, Ext.trans HB.out (ext_drewN _ _)⟩
          case measure => simp [intOf]; omega
      · obtain rfl : k = a.length := by omega
        have HN := Lib.hid (show decide (a = b) = true from decide_eq_true (sameL_end hab HS.out))
        have HB := Lib.hid hb; clear hb
        go_wp2
        go_ret
        exact ⟨by rw [HN.out]; rfl, HB.out⟩
  · have e0 : (((a.length : Nat) : Int) != ((b.length : Nat) : Int)) = true := by rw [bne_iff_ne]; omega
    rw [show decide (a = b) = false from decide_eq_false fun e => hab (by rw [e])]
    go_enter Tryz.func187, Tryz.ntmps187
    go_wp2
    go_ret
    exact ⟨rfl, Below.refl _ _⟩

/-- A node by value. -/
abbrev trV (x : TrN) (va : Value) : Value := .agg #[.int .i64 x.dep, .string x.nm, .int .i64 x.kd, va, .string x.dat, .int .i64 x.ma, .int .i64 x.mi, .int .i64 x.cl]
/-- Equal but for the depth, the name and the class. -/
def likeB (x y : TrN) : Bool := (x.kd == y.kd) && decide (x.ats = y.ats) && (x.dat.toList == y.dat.toList) && (x.ma == y.ma) && (x.mi == y.mi)
set_option maxRecDepth 100000 in
theorem refLike (x y : TrN) (va vb : Value) (w : World) (ha : AttrsAt w va x.ats) (hb : AttrsAt w vb y.ats) (hl : x.ats.length ≤ 1000000) :
    RetB Tryz.prog 52 #[trV x va, trV y vb] w (.bool (likeB x y)) := by
  unfold RetB trV
  have hA : ∀ W, Ext w W → RetB Tryz.prog 71 #[va, vb] W (.bool (decide (x.ats = y.ats))) := fun W he => refSameA va vb _ _ W (ha.ext he) (hb.ext he) hl
  have HW : Hid (Ext w ((w.alloc (.cells #[.int .i64 x.dep, .string x.nm, .int .i64 x.kd, va, .string x.dat, .int .i64 x.ma, .int .i64 x.mi, .int .i64 x.cl] 43)).alloc (.cells #[.int .i64 y.dep, .string y.nm, .int .i64 y.kd, vb, .string y.dat, .int .i64 y.ma, .int .i64 y.mi, .int .i64 y.cl] 43))) := (ext_alloc _ _).trans (ext_alloc _ _)
  clear ha hb
  unfold likeB
  have HH := Lib.hid hA; clear hA
  cases e0 : x.kd == y.kd
  · simp only [Bool.false_and]
    go_enter Tryz.func52, Tryz.ntmps52
    go_wp2
    go_ret
    exact ⟨by simp, HW.out⟩
  cases e1 : decide (x.ats = y.ats)
  · simp only [Bool.and_false, Bool.false_and]
    go_enter Tryz.func52, Tryz.ntmps52
    go_wp2_with (go_at_call 71; refine (HH.out _ HW.out).mono ?_; rintro e w' ⟨rfl, hb⟩; obtain ⟨hc, hf⟩ := bcell hb; have HB := Lib.hid hb; clear hb)
    go_ret
    exact ⟨by simp, Ext.trans HW.out HB.out⟩
  cases e2 : x.dat.toList == y.dat.toList
  · simp only [Bool.and_false, Bool.false_and]
    go_enter Tryz.func52, Tryz.ntmps52
    go_wp2_with (go_at_call 71; refine (HH.out _ HW.out).mono ?_; rintro e w' ⟨rfl, hb⟩; obtain ⟨hc, hf⟩ := bcell hb; have HB := Lib.hid hb; clear hb)
    go_ret
    exact ⟨by simp, Ext.trans HW.out HB.out⟩
  cases e3 : x.ma == y.ma
  · simp only [Bool.and_false, Bool.false_and]
    go_enter Tryz.func52, Tryz.ntmps52
    go_wp2_with (go_at_call 71; refine (HH.out _ HW.out).mono ?_; rintro e w' ⟨rfl, hb⟩; obtain ⟨hc, hf⟩ := bcell hb; have HB := Lib.hid hb; clear hb)
    go_ret
    exact ⟨by simp, Ext.trans HW.out HB.out⟩
  cases e4 : x.mi == y.mi
  · simp only [Bool.and_false]
    go_enter Tryz.func52, Tryz.ntmps52
    go_wp2_with (go_at_call 71; refine (HH.out _ HW.out).mono ?_; rintro e w' ⟨rfl, hb⟩; obtain ⟨hc, hf⟩ := bcell hb; have HB := Lib.hid hb; clear hb)
    go_ret
    exact ⟨by simp, Ext.trans HW.out HB.out⟩
  · simp only [Bool.and_true]
    go_enter Tryz.func52, Tryz.ntmps52
    go_wp2_with (go_at_call 71; refine (HH.out _ HW.out).mono ?_; rintro e w' ⟨rfl, hb⟩; obtain ⟨hc, hf⟩ := bcell hb; have HB := Lib.hid hb; clear hb)
    go_ret
    exact ⟨by simp, Ext.trans HW.out HB.out⟩
set_option maxRecDepth 100000 in
theorem treeLike (x y : TrN) (va vb : Value) (w : World) (ha : AttrsAt w va x.ats) (hb : AttrsAt w vb y.ats) (hl : x.ats.length ≤ 1000000) :
    RetB Tryz.prog 164 #[trV x va, trV y vb] w (.bool (likeB x y)) := by
  unfold RetB trV
  have hA : ∀ W, Ext w W → RetB Tryz.prog 187 #[va, vb] W (.bool (decide (x.ats = y.ats))) := fun W he => slEqualA va vb _ _ W (ha.ext he) (hb.ext he) hl
  have HW : Hid (Ext w ((w.alloc (.cells #[.int .i64 x.dep, .string x.nm, .int .i64 x.kd, va, .string x.dat, .int .i64 x.ma, .int .i64 x.mi, .int .i64 x.cl] 43)).alloc (.cells #[.int .i64 y.dep, .string y.nm, .int .i64 y.kd, vb, .string y.dat, .int .i64 y.ma, .int .i64 y.mi, .int .i64 y.cl] 43))) := (ext_alloc _ _).trans (ext_alloc _ _)
  clear ha hb
  unfold likeB
  have HH := Lib.hid hA; clear hA
  cases e0 : x.kd == y.kd
  · simp only [Bool.false_and]
    go_enter Tryz.func164, Tryz.ntmps164
    go_wp2
    go_ret
    exact ⟨by simp, HW.out⟩
  cases e1 : x.dat.toList == y.dat.toList
  · simp only [Bool.and_false, Bool.false_and]
    go_enter Tryz.func164, Tryz.ntmps164
    go_wp2
    go_ret
    exact ⟨by simp, HW.out⟩
  cases e2 : x.ma == y.ma
  · simp only [Bool.and_false, Bool.false_and]
    go_enter Tryz.func164, Tryz.ntmps164
    go_wp2
    go_ret
    exact ⟨by simp, HW.out⟩
  cases e3 : x.mi == y.mi
  · simp only [Bool.and_false]
    go_enter Tryz.func164, Tryz.ntmps164
    go_wp2
    go_ret
    exact ⟨by simp, HW.out⟩
  cases e4 : decide (x.ats = y.ats)
  · simp only [Bool.and_false, Bool.false_and]
    go_enter Tryz.func164, Tryz.ntmps164
    go_wp2_with (go_at_call 187; refine (HH.out _ HW.out).mono ?_; rintro e w' ⟨rfl, hb⟩; obtain ⟨hc, hf⟩ := bcell hb; have HB := Lib.hid hb; clear hb)
    go_ret
    exact ⟨by simp, Ext.trans HW.out HB.out⟩
  · simp only [Bool.and_true]
    go_enter Tryz.func164, Tryz.ntmps164
    go_wp2_with (go_at_call 187; refine (HH.out _ HW.out).mono ?_; rintro e w' ⟨rfl, hb⟩; obtain ⟨hc, hf⟩ := bcell hb; have HB := Lib.hid hb; clear hb)
    go_ret
    exact ⟨by simp, Ext.trans HW.out HB.out⟩
end Go.Proofs.YtiliglpolcpnbaaGreatDoor

namespace Go.Proofs.YtiliglpolcpnbaaGreatDoor
open Go.RowKit

/-- The error of the kind of a node, and of its fields. -/
def kindE (x : TrN) : Int :=
  if x.kd < 1 ∨ 5 < x.kd then 14
  else if x.kd = 1 then (if x.dat.toList = [] ∧ x.ma = 0 ∧ x.mi = 0 ∧ x.cl = 0 then 0 else 6)
  else if x.kd = 2 then (if x.ma = 0 ∧ x.mi = 0 then (if 384 < x.dat.size then 3 else 0) else 6)
  else if x.kd = 3 then (if ¬ x.dat.toList = [] ∧ x.ma = 0 ∧ x.mi = 0 then (if 200 < x.dat.size then 3 else 0) else 6)
  else if x.kd = 4 then (if x.dat.toList = [] then (if x.ma < 0 ∨ 255 < x.ma ∨ x.mi < 0 ∨ 255 < x.mi then 7 else 0) else 6)
  else (if x.dat.toList = [] ∧ x.ma = 0 ∧ x.mi = 0 ∧ x.cl = 0 ∧ x.ats.length = 0 then 0 else 6)
theorem empty_size {s : ByteArray} (h : s.toList = []) : s.size = 0 := by rw [toList_L] at h; rw [size_L, h]; rfl
set_option maxRecDepth 100000 in
set_option maxHeartbeats 1000000 in
theorem refKind (x : TrN) (va : Value) (w : World) (hv : ∃ a cap, va = .slice a x.ats.length cap) : RetB Tryz.prog 60 #[trV x va] w (.int .i64 (kindE x)) := by
  unfold RetB trV
  obtain ⟨aa, cap, rfl⟩ := hv
  by_cases k0 : x.kd < 1
  case pos =>
    have hr : kindE x = 14 := by unfold kindE; simp [k0]
    rw [hr]; clear hr
    go_enter Tryz.func60, Tryz.ntmps60
    go_wp2
    go_ret
    exact ⟨rfl, ext_alloc _ _⟩
  by_cases k6 : 5 < x.kd
  case pos =>
    have hr : kindE x = 14 := by unfold kindE; simp [k6]
    rw [hr]; clear hr
    go_enter Tryz.func60, Tryz.ntmps60
    go_wp2
    go_ret
    exact ⟨rfl, ext_alloc _ _⟩
  by_cases k : x.kd = 1
  case pos =>
    clear k0 k6
    by_cases hdat : x.dat.toList = []
    case pos =>
      have dat1 : x.dat.toList.isEmpty = true := by rw [hdat]; rfl
      have dat2 : x.dat.size = 0 := empty_size hdat
      by_cases hma : x.ma = 0
      case pos =>
        by_cases hmi : x.mi = 0
        case pos =>
          by_cases hcl : x.cl = 0
          case pos =>
            have hr : kindE x = 0 := by unfold kindE; simp [k, hdat, hma, hmi, hcl]
            rw [hr]; clear hr
            go_enter Tryz.func60, Tryz.ntmps60
            go_wp2
            go_ret
            exact ⟨rfl, ext_alloc _ _⟩
          case neg =>
            have cl1 : (x.cl == 0) = false := beq_eq_false_iff_ne.2 hcl
            have cl2 : (x.cl != 0) = true := bne_iff_ne.2 hcl
            have hr : kindE x = 6 := by unfold kindE; simp [k, hdat, hma, hmi, hcl]
            rw [hr]; clear hr
            go_enter Tryz.func60, Tryz.ntmps60
            go_wp2
            go_ret
            exact ⟨rfl, ext_alloc _ _⟩
        case neg =>
          have mi1 : (x.mi == 0) = false := beq_eq_false_iff_ne.2 hmi
          have mi2 : (x.mi != 0) = true := bne_iff_ne.2 hmi
          have hr : kindE x = 6 := by unfold kindE; simp [k, hdat, hma, hmi]
          rw [hr]; clear hr
          go_enter Tryz.func60, Tryz.ntmps60
          go_wp2
          go_ret
          exact ⟨rfl, ext_alloc _ _⟩
      case neg =>
        have ma1 : (x.ma == 0) = false := beq_eq_false_iff_ne.2 hma
        have ma2 : (x.ma != 0) = true := bne_iff_ne.2 hma
        have hr : kindE x = 6 := by unfold kindE; simp [k, hdat, hma]
        rw [hr]; clear hr
        go_enter Tryz.func60, Tryz.ntmps60
        go_wp2
        go_ret
        exact ⟨rfl, ext_alloc _ _⟩
    case neg =>
      have dat1 : x.dat.toList.isEmpty = false := by simpa using hdat
      have hr : kindE x = 6 := by unfold kindE; simp [k, hdat]
      rw [hr]; clear hr
      go_enter Tryz.func60, Tryz.ntmps60
      go_wp2
      go_ret
      exact ⟨rfl, ext_alloc _ _⟩
  case neg =>
  have n1 := k
  clear k
  by_cases k : x.kd = 2
  case pos =>
    clear k0 k6
    by_cases hma : x.ma = 0
    case pos =>
      by_cases hmi : x.mi = 0
      case pos =>
        by_cases z : 384 < x.dat.size
        case pos =>
          have hr : kindE x = 3 := by unfold kindE; simp [k, hma, hmi, z]
          rw [hr]; clear hr
          go_enter Tryz.func60, Tryz.ntmps60
          go_wp2
          go_ret
          exact ⟨rfl, ext_alloc _ _⟩
        case neg =>
          have hr : kindE x = 0 := by unfold kindE; simp [k, hma, hmi, z]
          rw [hr]; clear hr
          go_enter Tryz.func60, Tryz.ntmps60
          go_wp2
          go_ret
          exact ⟨rfl, ext_alloc _ _⟩
      case neg =>
        have mi1 : (x.mi == 0) = false := beq_eq_false_iff_ne.2 hmi
        have mi2 : (x.mi != 0) = true := bne_iff_ne.2 hmi
        have hr : kindE x = 6 := by unfold kindE; simp [k, hma, hmi]
        rw [hr]; clear hr
        go_enter Tryz.func60, Tryz.ntmps60
        go_wp2
        go_ret
        exact ⟨rfl, ext_alloc _ _⟩
    case neg =>
      have ma1 : (x.ma == 0) = false := beq_eq_false_iff_ne.2 hma
      have ma2 : (x.ma != 0) = true := bne_iff_ne.2 hma
      have hr : kindE x = 6 := by unfold kindE; simp [k, hma]
      rw [hr]; clear hr
      go_enter Tryz.func60, Tryz.ntmps60
      go_wp2
      go_ret
      exact ⟨rfl, ext_alloc _ _⟩
  case neg =>
  have n2 := k
  clear k
  by_cases k : x.kd = 3
  case pos =>
    clear k0 k6
    by_cases hma : x.ma = 0
    case pos =>
      by_cases hmi : x.mi = 0
      case pos =>
        by_cases hdat : x.dat.toList = []
        case pos =>
          have dat1 : x.dat.toList.isEmpty = true := by rw [hdat]; rfl
          have dat2 : x.dat.size = 0 := empty_size hdat
          have hr : kindE x = 6 := by unfold kindE; simp [k, hma, hmi, hdat]
          rw [hr]; clear hr
          go_enter Tryz.func60, Tryz.ntmps60
          go_wp2
          go_ret
          exact ⟨rfl, ext_alloc _ _⟩
        case neg =>
          have dat1 : x.dat.toList.isEmpty = false := by simpa using hdat
          by_cases z : 200 < x.dat.size
          case pos =>
            have hr : kindE x = 3 := by unfold kindE; simp [k, hma, hmi, hdat, z]
            rw [hr]; clear hr
            go_enter Tryz.func60, Tryz.ntmps60
            go_wp2
            go_ret
            exact ⟨rfl, ext_alloc _ _⟩
          case neg =>
            have hr : kindE x = 0 := by unfold kindE; simp [k, hma, hmi, hdat, z]
            rw [hr]; clear hr
            go_enter Tryz.func60, Tryz.ntmps60
            go_wp2
            go_ret
            exact ⟨rfl, ext_alloc _ _⟩
      case neg =>
        have mi1 : (x.mi == 0) = false := beq_eq_false_iff_ne.2 hmi
        have mi2 : (x.mi != 0) = true := bne_iff_ne.2 hmi
        have hr : kindE x = 6 := by unfold kindE; simp [k, hma, hmi]
        rw [hr]; clear hr
        go_enter Tryz.func60, Tryz.ntmps60
        go_wp2
        go_ret
        exact ⟨rfl, ext_alloc _ _⟩
    case neg =>
      have ma1 : (x.ma == 0) = false := beq_eq_false_iff_ne.2 hma
      have ma2 : (x.ma != 0) = true := bne_iff_ne.2 hma
      have hr : kindE x = 6 := by unfold kindE; simp [k, hma]
      rw [hr]; clear hr
      go_enter Tryz.func60, Tryz.ntmps60
      go_wp2
      go_ret
      exact ⟨rfl, ext_alloc _ _⟩
  case neg =>
  have n3 := k
  clear k
  by_cases k : x.kd = 4
  case pos =>
    clear k0 k6
    by_cases hdat : x.dat.toList = []
    case pos =>
      have dat1 : x.dat.toList.isEmpty = true := by rw [hdat]; rfl
      have dat2 : x.dat.size = 0 := empty_size hdat
      by_cases r1 : x.ma < 0
      case pos =>
        have hr : kindE x = 7 := by unfold kindE; simp [k, hdat, r1]
        rw [hr]; clear hr
        go_enter Tryz.func60, Tryz.ntmps60
        go_wp2
        go_ret
        exact ⟨rfl, ext_alloc _ _⟩
      case neg =>
        by_cases r2 : 255 < x.ma
        case pos =>
          have hr : kindE x = 7 := by unfold kindE; simp [k, hdat, r1, r2]
          rw [hr]; clear hr
          go_enter Tryz.func60, Tryz.ntmps60
          go_wp2
          go_ret
          exact ⟨rfl, ext_alloc _ _⟩
        case neg =>
          by_cases r3 : x.mi < 0
          case pos =>
            have hr : kindE x = 7 := by unfold kindE; simp [k, hdat, r1, r2, r3]
            rw [hr]; clear hr
            go_enter Tryz.func60, Tryz.ntmps60
            go_wp2
            go_ret
            exact ⟨rfl, ext_alloc _ _⟩
          case neg =>
            by_cases r4 : 255 < x.mi
            case pos =>
              have hr : kindE x = 7 := by unfold kindE; simp [k, hdat, r1, r2, r3, r4]
              rw [hr]; clear hr
              go_enter Tryz.func60, Tryz.ntmps60
              go_wp2
              go_ret
              exact ⟨rfl, ext_alloc _ _⟩
            case neg =>
              have hr : kindE x = 0 := by unfold kindE; simp [k, hdat, r1, r2, r3, r4]
              rw [hr]; clear hr
              go_enter Tryz.func60, Tryz.ntmps60
              go_wp2
              go_ret
              exact ⟨rfl, ext_alloc _ _⟩
    case neg =>
      have dat1 : x.dat.toList.isEmpty = false := by simpa using hdat
      have hr : kindE x = 6 := by unfold kindE; simp [k, hdat]
      rw [hr]; clear hr
      go_enter Tryz.func60, Tryz.ntmps60
      go_wp2
      go_ret
      exact ⟨rfl, ext_alloc _ _⟩
  case neg =>
  have n4 := k
  clear k
  have k : x.kd = 5 := by omega
  clear k0 k6 n1 n2 n3 n4
  by_cases hdat : x.dat.toList = []
  case pos =>
    have dat1 : x.dat.toList.isEmpty = true := by rw [hdat]; rfl
    have dat2 : x.dat.size = 0 := empty_size hdat
    by_cases hma : x.ma = 0
    case pos =>
      by_cases hmi : x.mi = 0
      case pos =>
        by_cases hats : x.ats.length = 0
        case pos =>
          by_cases hcl : x.cl = 0
          case pos =>
            have hr : kindE x = 0 := by unfold kindE; simp [k, hdat, hma, hmi, hats, hcl]
            rw [hr]; clear hr
            go_enter Tryz.func60, Tryz.ntmps60
            go_wp2
            go_ret
            exact ⟨rfl, ext_alloc _ _⟩
          case neg =>
            have cl1 : (x.cl == 0) = false := beq_eq_false_iff_ne.2 hcl
            have cl2 : (x.cl != 0) = true := bne_iff_ne.2 hcl
            have hr : kindE x = 6 := by unfold kindE; simp [k, hdat, hma, hmi, hats, hcl]
            rw [hr]; clear hr
            go_enter Tryz.func60, Tryz.ntmps60
            go_wp2
            go_ret
            exact ⟨rfl, ext_alloc _ _⟩
        case neg =>
          have ats1 : 0 < x.ats.length := by omega
          have hr : kindE x = 6 := by unfold kindE; simp [k, hdat, hma, hmi, hats]
          rw [hr]; clear hr
          go_enter Tryz.func60, Tryz.ntmps60
          go_wp2
          go_ret
          exact ⟨rfl, ext_alloc _ _⟩
      case neg =>
        have mi1 : (x.mi == 0) = false := beq_eq_false_iff_ne.2 hmi
        have mi2 : (x.mi != 0) = true := bne_iff_ne.2 hmi
        have hr : kindE x = 6 := by unfold kindE; simp [k, hdat, hma, hmi]
        rw [hr]; clear hr
        go_enter Tryz.func60, Tryz.ntmps60
        go_wp2
        go_ret
        exact ⟨rfl, ext_alloc _ _⟩
    case neg =>
      have ma1 : (x.ma == 0) = false := beq_eq_false_iff_ne.2 hma
      have ma2 : (x.ma != 0) = true := bne_iff_ne.2 hma
      have hr : kindE x = 6 := by unfold kindE; simp [k, hdat, hma]
      rw [hr]; clear hr
      go_enter Tryz.func60, Tryz.ntmps60
      go_wp2
      go_ret
      exact ⟨rfl, ext_alloc _ _⟩
  case neg =>
    have dat1 : x.dat.toList.isEmpty = false := by simpa using hdat
    have hr : kindE x = 6 := by unfold kindE; simp [k, hdat]
    rw [hr]; clear hr
    go_enter Tryz.func60, Tryz.ntmps60
    go_wp2
    go_ret
    exact ⟨rfl, ext_alloc _ _⟩
set_option maxRecDepth 100000 in
set_option maxHeartbeats 1000000 in
theorem treeFields (x : TrN) (va : Value) (w : World) (hv : ∃ a cap, va = .slice a x.ats.length cap) : RetB Tryz.prog 131 #[trV x va] w (.int .i64 (kindE x)) := by
  unfold RetB trV
  obtain ⟨aa, cap, rfl⟩ := hv
  by_cases k0 : x.kd < 1
  case pos =>
    have n1 : (x.kd == 1) = false := beq_eq_false_iff_ne.2 (by omega)
    have n2 : (x.kd == 2) = false := beq_eq_false_iff_ne.2 (by omega)
    have n3 : (x.kd == 3) = false := beq_eq_false_iff_ne.2 (by omega)
    have n4 : (x.kd == 4) = false := beq_eq_false_iff_ne.2 (by omega)
    have n5 : (x.kd == 5) = false := beq_eq_false_iff_ne.2 (by omega)
    by_cases hma : x.ma = 0
    case pos =>
      by_cases hmi : x.mi = 0
      case pos =>
        have hr : kindE x = 14 := by unfold kindE; simp [k0]
        rw [hr]; clear hr
        go_enter Tryz.func131, Tryz.ntmps131
        go_wp2
        go_ret
        exact ⟨rfl, ext_alloc _ _⟩
      case neg =>
        have mi1 : (x.mi == 0) = false := beq_eq_false_iff_ne.2 hmi
        have mi2 : (x.mi != 0) = true := bne_iff_ne.2 hmi
        have hr : kindE x = 14 := by unfold kindE; simp [k0]
        rw [hr]; clear hr
        go_enter Tryz.func131, Tryz.ntmps131
        go_wp2
        go_ret
        exact ⟨rfl, ext_alloc _ _⟩
    case neg =>
      have ma1 : (x.ma == 0) = false := beq_eq_false_iff_ne.2 hma
      have ma2 : (x.ma != 0) = true := bne_iff_ne.2 hma
      have hr : kindE x = 14 := by unfold kindE; simp [k0]
      rw [hr]; clear hr
      go_enter Tryz.func131, Tryz.ntmps131
      go_wp2
      go_ret
      exact ⟨rfl, ext_alloc _ _⟩
  by_cases k6 : 5 < x.kd
  case pos =>
    have n1 : (x.kd == 1) = false := beq_eq_false_iff_ne.2 (by omega)
    have n2 : (x.kd == 2) = false := beq_eq_false_iff_ne.2 (by omega)
    have n3 : (x.kd == 3) = false := beq_eq_false_iff_ne.2 (by omega)
    have n4 : (x.kd == 4) = false := beq_eq_false_iff_ne.2 (by omega)
    have n5 : (x.kd == 5) = false := beq_eq_false_iff_ne.2 (by omega)
    by_cases hma : x.ma = 0
    case pos =>
      by_cases hmi : x.mi = 0
      case pos =>
        have hr : kindE x = 14 := by unfold kindE; simp [k6]
        rw [hr]; clear hr
        go_enter Tryz.func131, Tryz.ntmps131
        go_wp2
        go_ret
        exact ⟨rfl, ext_alloc _ _⟩
      case neg =>
        have mi1 : (x.mi == 0) = false := beq_eq_false_iff_ne.2 hmi
        have mi2 : (x.mi != 0) = true := bne_iff_ne.2 hmi
        have hr : kindE x = 14 := by unfold kindE; simp [k6]
        rw [hr]; clear hr
        go_enter Tryz.func131, Tryz.ntmps131
        go_wp2
        go_ret
        exact ⟨rfl, ext_alloc _ _⟩
    case neg =>
      have ma1 : (x.ma == 0) = false := beq_eq_false_iff_ne.2 hma
      have ma2 : (x.ma != 0) = true := bne_iff_ne.2 hma
      have hr : kindE x = 14 := by unfold kindE; simp [k6]
      rw [hr]; clear hr
      go_enter Tryz.func131, Tryz.ntmps131
      go_wp2
      go_ret
      exact ⟨rfl, ext_alloc _ _⟩
  by_cases k : x.kd = 1
  case pos =>
    clear k0 k6
    by_cases hma : x.ma = 0
    case pos =>
      by_cases hmi : x.mi = 0
      case pos =>
        by_cases hdat : x.dat.toList = []
        case pos =>
          have dat1 : x.dat.toList.isEmpty = true := by rw [hdat]; rfl
          have dat2 : x.dat.size = 0 := empty_size hdat
          by_cases hcl : x.cl = 0
          case pos =>
            have hr : kindE x = 0 := by unfold kindE; simp [k, hma, hmi, hdat, hcl]
            rw [hr]; clear hr
            go_enter Tryz.func131, Tryz.ntmps131
            go_wp2
            go_ret
            exact ⟨rfl, ext_alloc _ _⟩
          case neg =>
            have cl1 : (x.cl == 0) = false := beq_eq_false_iff_ne.2 hcl
            have cl2 : (x.cl != 0) = true := bne_iff_ne.2 hcl
            have hr : kindE x = 6 := by unfold kindE; simp [k, hma, hmi, hdat, hcl]
            rw [hr]; clear hr
            go_enter Tryz.func131, Tryz.ntmps131
            go_wp2
            go_ret
            exact ⟨rfl, ext_alloc _ _⟩
        case neg =>
          have dat1 : x.dat.toList.isEmpty = false := by simpa using hdat
          have hr : kindE x = 6 := by unfold kindE; simp [k, hma, hmi, hdat]
          rw [hr]; clear hr
          go_enter Tryz.func131, Tryz.ntmps131
          go_wp2
          go_ret
          exact ⟨rfl, ext_alloc _ _⟩
      case neg =>
        have mi1 : (x.mi == 0) = false := beq_eq_false_iff_ne.2 hmi
        have mi2 : (x.mi != 0) = true := bne_iff_ne.2 hmi
        by_cases hdat : x.dat.toList = []
        case pos =>
          have dat1 : x.dat.toList.isEmpty = true := by rw [hdat]; rfl
          have dat2 : x.dat.size = 0 := empty_size hdat
          have hr : kindE x = 6 := by unfold kindE; simp [k, hma, hmi, hdat]
          rw [hr]; clear hr
          go_enter Tryz.func131, Tryz.ntmps131
          go_wp2
          go_ret
          exact ⟨rfl, ext_alloc _ _⟩
        case neg =>
          have dat1 : x.dat.toList.isEmpty = false := by simpa using hdat
          have hr : kindE x = 6 := by unfold kindE; simp [k, hma, hmi, hdat]
          rw [hr]; clear hr
          go_enter Tryz.func131, Tryz.ntmps131
          go_wp2
          go_ret
          exact ⟨rfl, ext_alloc _ _⟩
    case neg =>
      have ma1 : (x.ma == 0) = false := beq_eq_false_iff_ne.2 hma
      have ma2 : (x.ma != 0) = true := bne_iff_ne.2 hma
      by_cases hdat : x.dat.toList = []
      case pos =>
        have dat1 : x.dat.toList.isEmpty = true := by rw [hdat]; rfl
        have dat2 : x.dat.size = 0 := empty_size hdat
        have hr : kindE x = 6 := by unfold kindE; simp [k, hma, hdat]
        rw [hr]; clear hr
        go_enter Tryz.func131, Tryz.ntmps131
        go_wp2
        go_ret
        exact ⟨rfl, ext_alloc _ _⟩
      case neg =>
        have dat1 : x.dat.toList.isEmpty = false := by simpa using hdat
        have hr : kindE x = 6 := by unfold kindE; simp [k, hma, hdat]
        rw [hr]; clear hr
        go_enter Tryz.func131, Tryz.ntmps131
        go_wp2
        go_ret
        exact ⟨rfl, ext_alloc _ _⟩
  case neg =>
  have n1 := k
  clear k
  by_cases k : x.kd = 2
  case pos =>
    clear k0 k6
    by_cases hma : x.ma = 0
    case pos =>
      by_cases hmi : x.mi = 0
      case pos =>
        by_cases z : 384 < x.dat.size
        case pos =>
          have hr : kindE x = 3 := by unfold kindE; simp [k, hma, hmi, z]
          rw [hr]; clear hr
          go_enter Tryz.func131, Tryz.ntmps131
          go_wp2
          go_ret
          exact ⟨rfl, ext_alloc _ _⟩
        case neg =>
          have hr : kindE x = 0 := by unfold kindE; simp [k, hma, hmi, z]
          rw [hr]; clear hr
          go_enter Tryz.func131, Tryz.ntmps131
          go_wp2
          go_ret
          exact ⟨rfl, ext_alloc _ _⟩
      case neg =>
        have mi1 : (x.mi == 0) = false := beq_eq_false_iff_ne.2 hmi
        have mi2 : (x.mi != 0) = true := bne_iff_ne.2 hmi
        have hr : kindE x = 6 := by unfold kindE; simp [k, hma, hmi]
        rw [hr]; clear hr
        go_enter Tryz.func131, Tryz.ntmps131
        go_wp2
        go_ret
        exact ⟨rfl, ext_alloc _ _⟩
    case neg =>
      have ma1 : (x.ma == 0) = false := beq_eq_false_iff_ne.2 hma
      have ma2 : (x.ma != 0) = true := bne_iff_ne.2 hma
      have hr : kindE x = 6 := by unfold kindE; simp [k, hma]
      rw [hr]; clear hr
      go_enter Tryz.func131, Tryz.ntmps131
      go_wp2
      go_ret
      exact ⟨rfl, ext_alloc _ _⟩
  case neg =>
  have n2 := k
  clear k
  by_cases k : x.kd = 3
  case pos =>
    clear k0 k6
    by_cases hma : x.ma = 0
    case pos =>
      by_cases hmi : x.mi = 0
      case pos =>
        by_cases hdat : x.dat.toList = []
        case pos =>
          have dat1 : x.dat.toList.isEmpty = true := by rw [hdat]; rfl
          have dat2 : x.dat.size = 0 := empty_size hdat
          have hr : kindE x = 6 := by unfold kindE; simp [k, hma, hmi, hdat]
          rw [hr]; clear hr
          go_enter Tryz.func131, Tryz.ntmps131
          go_wp2
          go_ret
          exact ⟨rfl, ext_alloc _ _⟩
        case neg =>
          have dat1 : x.dat.toList.isEmpty = false := by simpa using hdat
          by_cases z : 200 < x.dat.size
          case pos =>
            have hr : kindE x = 3 := by unfold kindE; simp [k, hma, hmi, hdat, z]
            rw [hr]; clear hr
            go_enter Tryz.func131, Tryz.ntmps131
            go_wp2
            go_ret
            exact ⟨rfl, ext_alloc _ _⟩
          case neg =>
            have hr : kindE x = 0 := by unfold kindE; simp [k, hma, hmi, hdat, z]
            rw [hr]; clear hr
            go_enter Tryz.func131, Tryz.ntmps131
            go_wp2
            go_ret
            exact ⟨rfl, ext_alloc _ _⟩
      case neg =>
        have mi1 : (x.mi == 0) = false := beq_eq_false_iff_ne.2 hmi
        have mi2 : (x.mi != 0) = true := bne_iff_ne.2 hmi
        have hr : kindE x = 6 := by unfold kindE; simp [k, hma, hmi]
        rw [hr]; clear hr
        go_enter Tryz.func131, Tryz.ntmps131
        go_wp2
        go_ret
        exact ⟨rfl, ext_alloc _ _⟩
    case neg =>
      have ma1 : (x.ma == 0) = false := beq_eq_false_iff_ne.2 hma
      have ma2 : (x.ma != 0) = true := bne_iff_ne.2 hma
      have hr : kindE x = 6 := by unfold kindE; simp [k, hma]
      rw [hr]; clear hr
      go_enter Tryz.func131, Tryz.ntmps131
      go_wp2
      go_ret
      exact ⟨rfl, ext_alloc _ _⟩
  case neg =>
  have n3 := k
  clear k
  by_cases k : x.kd = 4
  case pos =>
    clear k0 k6
    by_cases hdat : x.dat.toList = []
    case pos =>
      have dat1 : x.dat.toList.isEmpty = true := by rw [hdat]; rfl
      have dat2 : x.dat.size = 0 := empty_size hdat
      by_cases hma : x.ma = 0
      case pos =>
        by_cases hmi : x.mi = 0
        case pos =>
          have hr : kindE x = 0 := by unfold kindE; simp [k, hdat, hma, hmi]
          rw [hr]; clear hr
          go_enter Tryz.func131, Tryz.ntmps131
          go_wp2
          go_ret
          exact ⟨rfl, ext_alloc _ _⟩
        case neg =>
          have mi1 : (x.mi == 0) = false := beq_eq_false_iff_ne.2 hmi
          have mi2 : (x.mi != 0) = true := bne_iff_ne.2 hmi
          by_cases r3 : x.mi < 0
          case pos =>
            have hr : kindE x = 7 := by unfold kindE; simp [k, hdat, hma, r3]
            rw [hr]; clear hr
            go_enter Tryz.func131, Tryz.ntmps131
            go_wp2
            go_ret
            exact ⟨rfl, ext_alloc _ _⟩
          case neg =>
            by_cases r4 : 255 < x.mi
            case pos =>
              have hr : kindE x = 7 := by unfold kindE; simp [k, hdat, hma, r3, r4]
              rw [hr]; clear hr
              go_enter Tryz.func131, Tryz.ntmps131
              go_wp2
              go_ret
              exact ⟨rfl, ext_alloc _ _⟩
            case neg =>
              have hr : kindE x = 0 := by unfold kindE; simp [k, hdat, hma, r3, r4]
              rw [hr]; clear hr
              go_enter Tryz.func131, Tryz.ntmps131
              go_wp2
              go_ret
              exact ⟨rfl, ext_alloc _ _⟩
      case neg =>
        have ma1 : (x.ma == 0) = false := beq_eq_false_iff_ne.2 hma
        have ma2 : (x.ma != 0) = true := bne_iff_ne.2 hma
        by_cases r1 : x.ma < 0
        case pos =>
          have hr : kindE x = 7 := by unfold kindE; simp [k, hdat, r1]
          rw [hr]; clear hr
          go_enter Tryz.func131, Tryz.ntmps131
          go_wp2
          go_ret
          exact ⟨rfl, ext_alloc _ _⟩
        case neg =>
          by_cases r2 : 255 < x.ma
          case pos =>
            have hr : kindE x = 7 := by unfold kindE; simp [k, hdat, r1, r2]
            rw [hr]; clear hr
            go_enter Tryz.func131, Tryz.ntmps131
            go_wp2
            go_ret
            exact ⟨rfl, ext_alloc _ _⟩
          case neg =>
            by_cases r3 : x.mi < 0
            case pos =>
              have hr : kindE x = 7 := by unfold kindE; simp [k, hdat, r1, r2, r3]
              rw [hr]; clear hr
              go_enter Tryz.func131, Tryz.ntmps131
              go_wp2
              go_ret
              exact ⟨rfl, ext_alloc _ _⟩
            case neg =>
              by_cases r4 : 255 < x.mi
              case pos =>
                have hr : kindE x = 7 := by unfold kindE; simp [k, hdat, r1, r2, r3, r4]
                rw [hr]; clear hr
                go_enter Tryz.func131, Tryz.ntmps131
                go_wp2
                go_ret
                exact ⟨rfl, ext_alloc _ _⟩
              case neg =>
                have hr : kindE x = 0 := by unfold kindE; simp [k, hdat, r1, r2, r3, r4]
                rw [hr]; clear hr
                go_enter Tryz.func131, Tryz.ntmps131
                go_wp2
                go_ret
                exact ⟨rfl, ext_alloc _ _⟩
    case neg =>
      have dat1 : x.dat.toList.isEmpty = false := by simpa using hdat
      by_cases hma : x.ma = 0
      case pos =>
        by_cases hmi : x.mi = 0
        case pos =>
          have hr : kindE x = 6 := by unfold kindE; simp [k, hdat]
          rw [hr]; clear hr
          go_enter Tryz.func131, Tryz.ntmps131
          go_wp2
          go_ret
          exact ⟨rfl, ext_alloc _ _⟩
        case neg =>
          have mi1 : (x.mi == 0) = false := beq_eq_false_iff_ne.2 hmi
          have mi2 : (x.mi != 0) = true := bne_iff_ne.2 hmi
          have hr : kindE x = 6 := by unfold kindE; simp [k, hdat]
          rw [hr]; clear hr
          go_enter Tryz.func131, Tryz.ntmps131
          go_wp2
          go_ret
          exact ⟨rfl, ext_alloc _ _⟩
      case neg =>
        have ma1 : (x.ma == 0) = false := beq_eq_false_iff_ne.2 hma
        have ma2 : (x.ma != 0) = true := bne_iff_ne.2 hma
        have hr : kindE x = 6 := by unfold kindE; simp [k, hdat]
        rw [hr]; clear hr
        go_enter Tryz.func131, Tryz.ntmps131
        go_wp2
        go_ret
        exact ⟨rfl, ext_alloc _ _⟩
  case neg =>
  have n4 := k
  clear k
  have k : x.kd = 5 := by omega
  clear k0 k6 n1 n2 n3 n4
  by_cases hma : x.ma = 0
  case pos =>
    by_cases hmi : x.mi = 0
    case pos =>
      by_cases hdat : x.dat.toList = []
      case pos =>
        have dat1 : x.dat.toList.isEmpty = true := by rw [hdat]; rfl
        have dat2 : x.dat.size = 0 := empty_size hdat
        by_cases hcl : x.cl = 0
        case pos =>
          by_cases hats : x.ats.length = 0
          case pos =>
            have hr : kindE x = 0 := by unfold kindE; simp [k, hma, hmi, hdat, hcl, hats]
            rw [hr]; clear hr
            go_enter Tryz.func131, Tryz.ntmps131
            go_wp2
            go_ret
            exact ⟨rfl, ext_alloc _ _⟩
          case neg =>
            have ats1 : 0 < x.ats.length := by omega
            have hr : kindE x = 6 := by unfold kindE; simp [k, hma, hmi, hdat, hcl, hats]
            rw [hr]; clear hr
            go_enter Tryz.func131, Tryz.ntmps131
            go_wp2
            go_ret
            exact ⟨rfl, ext_alloc _ _⟩
        case neg =>
          have cl1 : (x.cl == 0) = false := beq_eq_false_iff_ne.2 hcl
          have cl2 : (x.cl != 0) = true := bne_iff_ne.2 hcl
          have hr : kindE x = 6 := by unfold kindE; simp [k, hma, hmi, hdat, hcl]
          rw [hr]; clear hr
          go_enter Tryz.func131, Tryz.ntmps131
          go_wp2
          go_ret
          exact ⟨rfl, ext_alloc _ _⟩
      case neg =>
        have dat1 : x.dat.toList.isEmpty = false := by simpa using hdat
        have hr : kindE x = 6 := by unfold kindE; simp [k, hma, hmi, hdat]
        rw [hr]; clear hr
        go_enter Tryz.func131, Tryz.ntmps131
        go_wp2
        go_ret
        exact ⟨rfl, ext_alloc _ _⟩
    case neg =>
      have mi1 : (x.mi == 0) = false := beq_eq_false_iff_ne.2 hmi
      have mi2 : (x.mi != 0) = true := bne_iff_ne.2 hmi
      by_cases hdat : x.dat.toList = []
      case pos =>
        have dat1 : x.dat.toList.isEmpty = true := by rw [hdat]; rfl
        have dat2 : x.dat.size = 0 := empty_size hdat
        have hr : kindE x = 6 := by unfold kindE; simp [k, hma, hmi, hdat]
        rw [hr]; clear hr
        go_enter Tryz.func131, Tryz.ntmps131
        go_wp2
        go_ret
        exact ⟨rfl, ext_alloc _ _⟩
      case neg =>
        have dat1 : x.dat.toList.isEmpty = false := by simpa using hdat
        have hr : kindE x = 6 := by unfold kindE; simp [k, hma, hmi, hdat]
        rw [hr]; clear hr
        go_enter Tryz.func131, Tryz.ntmps131
        go_wp2
        go_ret
        exact ⟨rfl, ext_alloc _ _⟩
  case neg =>
    have ma1 : (x.ma == 0) = false := beq_eq_false_iff_ne.2 hma
    have ma2 : (x.ma != 0) = true := bne_iff_ne.2 hma
    by_cases hdat : x.dat.toList = []
    case pos =>
      have dat1 : x.dat.toList.isEmpty = true := by rw [hdat]; rfl
      have dat2 : x.dat.size = 0 := empty_size hdat
      have hr : kindE x = 6 := by unfold kindE; simp [k, hma, hdat]
      rw [hr]; clear hr
      go_enter Tryz.func131, Tryz.ntmps131
      go_wp2
      go_ret
      exact ⟨rfl, ext_alloc _ _⟩
    case neg =>
      have dat1 : x.dat.toList.isEmpty = false := by simpa using hdat
      have hr : kindE x = 6 := by unfold kindE; simp [k, hma, hdat]
      rw [hr]; clear hr
      go_enter Tryz.func131, Tryz.ntmps131
      go_wp2
      go_ret
      exact ⟨rfl, ext_alloc _ _⟩
end Go.Proofs.YtiliglpolcpnbaaGreatDoor
