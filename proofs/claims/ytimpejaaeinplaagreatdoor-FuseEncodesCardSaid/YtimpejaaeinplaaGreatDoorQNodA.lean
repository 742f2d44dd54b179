/- NodA -/
import Derived.Test.YtimpejaaeinplaaGreatDoorQI2
import Derived.Test.YtimpejaaeinplaaGreatDoorQOwnAx
namespace Go.Proofs.YtimpejaaeinplaaGreatDoor
open Go.RowKit

theorem refPathCheck (v : Value) (l : List ByteArray) (w : World) (hv : StrsAt w v l) (hm : ∀ s ∈ l, s.size <= 1000000) : Ret Tryz.prog 135 #[v] w (.int .i64 (pathE l)) := by
  unfold Ret
  obtain ⟨a, cap, rfl, hcap, hc⟩ := hv
  have HC := hQq hc; clear hc
  have HM := hQq hm; clear hm
  by_cases hl : 8 < l.length
  · rw [pathE_long hl]
    go_enter Tryz.func135, Tryz.ntmps135
    go_wp2
    go_ret
    exact ⟨rfl, rfl⟩
  rw [pathE_of hl]
  go_enter Tryz.func135, Tryz.ntmps135
  go_wp2
  go_loop [3] (fun i => ∃ k : Nat, k <= l.length /\ i = .int .i64 k /\ firstN (l.take k) = 0) (fun i => l.length - (intOf i).toNat)
  case atStart => exact ⟨0, Nat.zero_le _, rfl, rfl⟩
  case round =>
    obtain ⟨k, hk, rfl, hf⟩ := hrel
    have HF := hQq hf; clear hf
    by_cases hlt : k < l.length
    · obtain ⟨b, off, rfl, hbs, h1⟩ := HC.out k hlt
      have hm1 := HM.out _ (List.getElem_mem hlt)
      by_cases he : nameE (L (l[k]'hlt)) = 0
      · have HN := hQq (firstN_step l k hlt HF.out he)
        generalize l[k]'hlt = x at h1 hm1 he
        go_wp2_with (go_at_call 132; refine (refName _ _ hm1).mono ?_; rintro e w' ⟨rfl, rfl⟩)
        go_round
        case rel => exact ⟨k + 1, by omega, by go_num, HN.out⟩
        case measure => simp [intOf]; omega
      · have HN := hQq (firstN_hit l k hlt HF.out he)
        have he1 : (nameE (L (l[k]'hlt)) != 0) = true := bne_iff_ne.2 he
        clear he
        generalize l[k]'hlt = x at h1 hm1 he1 HN
        go_wp2_with (go_at_call 132; refine (refName _ _ hm1).mono ?_; rintro e w' ⟨rfl, rfl⟩)
        go_ret
        exact ⟨by rw [HN.out]; rfl, rfl⟩
    · have HN : Hid (firstN l = 0) := by have := HF.out; rw [List.take_of_length_le (by omega)] at this; exact this
      go_wp2
      go_ret
      exact ⟨by rw [HN.out]; rfl, rfl⟩
theorem pathsCheck (v : Value) (l : List ByteArray) (w : World) (hv : StrsAt w v l) : RetB Tryz.prog 138 #[v] w (.int .i64 (pathE l)) := by
  unfold RetB
  obtain ⟨a, cap, rfl, hcap, hc⟩ := hv
  have HC := hQq hc; clear hc
  by_cases hl : 8 < l.length
  · rw [pathE_long hl]
    go_enter Tryz.func138, Tryz.ntmps138
    go_wp2
    go_ret
    exact ⟨rfl, Below.refl _ _⟩
  rw [pathE_of hl]
  go_enter Tryz.func138, Tryz.ntmps138
  go_wp2
  go_loopw [11] (fun i w' => ∃ (wi : World) (k : Nat), wi = w' /\ k <= l.length /\ i = .int .i64 k /\ firstN (l.take k) = 0 /\ Ext w w') (fun i _ => l.length - (intOf i).toNat)
  case atStart => exact ⟨_, 0, rfl, Nat.zero_le _, rfl, rfl, Below.refl _ _⟩
  case round =>
    obtain ⟨wi, k, rfl, hk, rfl, hf, hb⟩ := hrel
    have HF := hQq hf; clear hf
    by_cases hlt : k < l.length
    · obtain ⟨b, off, rfl, hbs, h1⟩ := HC.out k hlt
      replace h1 := (ext_cell hb hbs).trans h1
      have HB := hQq hb; clear hb
      by_cases he : nameE (L (l[k]'hlt)) = 0
      · have HN := hQq (firstN_step l k hlt HF.out he)
        generalize l[k]'hlt = x at h1 he
        go_wp2_with (go_at_call 139; refine (pathsName _ _).mono ?_; rintro e w' ⟨rfl, hb2⟩; have H2 := hQq hb2; clear hb2)
        go_roundw
        case rel => exact ⟨_, k + 1, rfl, by omega, by go_num, HN.out, Ext.trans HB.out H2.out⟩
        case measure => simp [intOf]; omega
      · have HN := hQq (firstN_hit l k hlt HF.out he)
        have he1 : (nameE (L (l[k]'hlt)) != 0) = true := bne_iff_ne.2 he
        clear he
        generalize l[k]'hlt = x at h1 he1 HN
        go_wp2_with (go_at_call 139; refine (pathsName _ _).mono ?_; rintro e w' ⟨rfl, hb2⟩; have H2 := hQq hb2; clear hb2)
        go_ret
        exact ⟨by rw [HN.out]; rfl, Ext.trans HB.out H2.out⟩
    · have HN : Hid (firstN l = 0) := by have := HF.out; rw [List.take_of_length_le (by omega)] at this; exact this
      have HB := hQq hb; clear hb
      go_wp2
      go_ret
      exact ⟨by rw [HN.out]; rfl, HB.out⟩

set_option maxRecDepth 100000 in
theorem refSameS (u v : Value) (a b : List ByteArray) (w : World) (hu : StrsAt w u a) (hv : StrsAt w v b) (hl : a.length <= 1000000) :
    RetB Tryz.prog 74 #[u, v] w (.bool (decide (a = b))) := by
  unfold RetB
  obtain ⟨aa, cap, rfl, _, hc⟩ := hu
  obtain ⟨ba, cap2, rfl, _, hc2⟩ := hv
  have HC := hQq hc; clear hc
  have HD := hQq hc2; clear hc2
  by_cases hab : a.length = b.length
  · have e0 : (((a.length : Nat) : Int) != ((b.length : Nat) : Int)) = false := by rw [bne_eq_false_iff_eq]; omega
    go_enter Tryz.func74, Tryz.ntmps74
    go_wp2
    go_loopw [5] (fun i w' => ∃ (wi : World) (k : Nat), wi = w' /\ k <= a.length /\ i = .int .i64 k /\ SameL a b k /\ Ext w w') (fun i _ => a.length - (intOf i).toNat)
    case atStart => exact ⟨_, 0, rfl, Nat.zero_le _, rfl, fun j hj => absurd hj (by omega), Below.refl _ _⟩
    case round =>
      obtain ⟨wi, k, rfl, hk, rfl, hs, hb⟩ := hrel
      have HS := hQq hs; clear hs
      by_cases hlt : k < a.length
      · obtain ⟨bb, off, rfl, hbs, c1⟩ := HC.out k hlt
        obtain ⟨bb2, off2, rfl, hbs2, d1⟩ := HD.out k (by omega)
        replace c1 := (ext_cell hb hbs).trans c1
        replace d1 := (ext_cell hb hbs2).trans d1
        have hx : a[k]? = some (a[k]'hlt) := List.getElem?_eq_getElem hlt
        have hy : b[k]? = some (b[k]'(by omega)) := List.getElem?_eq_getElem (by omega)
        generalize a[k]'hlt = x at c1 hx
        generalize b[k]'(by omega) = y at d1 hy
        have HX := hQq hx; clear hx
        have HY := hQq hy; clear hy
        have HB := hQq hb; clear hb
        have j1 : ((k : Nat) : Int) < (a.length : Int) := by omega
        have j2 : ((k : Nat) : Int) < (b.length : Int) := by omega
        clear e0
        cases e1 : x.toList == y.toList
        · have he : ¬ x = y := fun e => by rw [e] at e1; simp at e1
          have HN := hQq (show decide (a = b) = false from decide_eq_false fun e => he (by have h1 := HX.out; rw [e, HY.out] at h1; injection h1 with h1; exact h1.symm))
          clear he
          go_wp2
          go_quiet (fail)
          go_wp2
          go_ret
          exact ⟨by rw [HN.out]; rfl, Ext.trans HB.out (eDn _ _)⟩
        · have he : x = y := L_inj (by rw [<- toList_L, <- toList_L]; exact beq_iff_eq.1 e1)
          have hN : SameL a b (k + 1) := by
            intro j hj
            by_cases e : j = k
            · subst e; rw [HX.out, HY.out, he]
            · exact HS.out j (by omega)
          have HN := hQq hN; clear hN he
          go_wp2
          go_quiet (fail)
          go_wp2
          go_roundw
          case rel => exact ⟨_, k + 1, rfl, by omega, by go_num, HN.out, Ext.trans HB.out (eDn _ _)⟩
          case measure => simp [intOf]; omega
      · obtain rfl : k = a.length := by omega
        have HN := hQq (show decide (a = b) = true from decide_eq_true (sameL_end hab HS.out))
        have HB := hQq hb; clear hb
        go_wp2
        go_ret
        exact ⟨by rw [HN.out]; rfl, HB.out⟩
  · have e0 : (((a.length : Nat) : Int) != ((b.length : Nat) : Int)) = true := by rw [bne_iff_ne]; omega
    rw [show decide (a = b) = false from decide_eq_false fun e => hab (by rw [e])]
    go_enter Tryz.func74, Tryz.ntmps74
    go_wp2
    go_ret
    exact ⟨rfl, Below.refl _ _⟩
set_option maxRecDepth 100000 in
theorem slEqualS (u v : Value) (a b : List ByteArray) (w : World) (hu : StrsAt w u a) (hv : StrsAt w v b) (hl : a.length <= 1000000) :
    RetB Tryz.prog 116 #[u, v] w (.bool (decide (a = b))) := by
  unfold RetB
  obtain ⟨aa, cap, rfl, _, hc⟩ := hu
  obtain ⟨ba, cap2, rfl, _, hc2⟩ := hv
  have HC := hQq hc; clear hc
  have HD := hQq hc2; clear hc2
  by_cases hab : a.length = b.length
  · have e0 : (((a.length : Nat) : Int) != ((b.length : Nat) : Int)) = false := by rw [bne_eq_false_iff_eq]; omega
    go_enter Tryz.func116, Tryz.ntmps116
    go_wp2
    go_loopw [13] (fun i w' => ∃ (wi : World) (k : Nat), wi = w' /\ k <= a.length /\ i = .int .i64 k /\ SameL a b k /\ Ext w w') (fun i _ => a.length - (intOf i).toNat)
    case atStart => exact ⟨_, 0, rfl, Nat.zero_le _, rfl, fun j hj => absurd hj (by omega), Below.refl _ _⟩
    case round =>
      obtain ⟨wi, k, rfl, hk, rfl, hs, hb⟩ := hrel
      have HS := hQq hs; clear hs
      by_cases hlt : k < a.length
      · obtain ⟨bb, off, rfl, hbs, c1⟩ := HC.out k hlt
        obtain ⟨bb2, off2, rfl, hbs2, d1⟩ := HD.out k (by omega)
        replace c1 := (ext_cell hb hbs).trans c1
        replace d1 := (ext_cell hb hbs2).trans d1
        have hx : a[k]? = some (a[k]'hlt) := List.getElem?_eq_getElem hlt
        have hy : b[k]? = some (b[k]'(by omega)) := List.getElem?_eq_getElem (by omega)
        generalize a[k]'hlt = x at c1 hx
        generalize b[k]'(by omega) = y at d1 hy
        have HX := hQq hx; clear hx
        have HY := hQq hy; clear hy
        have HB := hQq hb; clear hb
        have j1 : ((k : Nat) : Int) < (a.length : Int) := by omega
        have j2 : ((k : Nat) : Int) < (b.length : Int) := by omega
        clear e0
        cases e1 : x.toList == y.toList
        · have he : ¬ x = y := fun e => by rw [e] at e1; simp at e1
          have HN := hQq (show decide (a = b) = false from decide_eq_false fun e => he (by have h1 := HX.out; rw [e, HY.out] at h1; injection h1 with h1; exact h1.symm))
          clear he
          go_wp2
          go_quiet (fail)
          go_wp2
          go_ret
          exact ⟨by rw [HN.out]; rfl, Ext.trans HB.out (eDn _ _)⟩
        · have he : x = y := L_inj (by rw [<- toList_L, <- toList_L]; exact beq_iff_eq.1 e1)
          have hN : SameL a b (k + 1) := by
            intro j hj
            by_cases e : j = k
            · subst e; rw [HX.out, HY.out, he]
            · exact HS.out j (by omega)
          have HN := hQq hN; clear hN he
          go_wp2
          go_quiet (fail)
          go_wp2
          go_roundw
          case rel => exact ⟨_, k + 1, rfl, by omega, by go_num, HN.out, Ext.trans HB.out (eDn _ _)⟩
          case measure => simp [intOf]; omega
      · obtain rfl : k = a.length := by omega
        have HN := hQq (show decide (a = b) = true from decide_eq_true (sameL_end hab HS.out))
        have HB := hQq hb; clear hb
        go_wp2
        go_ret
        exact ⟨by rw [HN.out]; rfl, HB.out⟩
  · have e0 : (((a.length : Nat) : Int) != ((b.length : Nat) : Int)) = true := by rw [bne_iff_ne]; omega
    rw [show decide (a = b) = false from decide_eq_false fun e => hab (by rw [e])]
    go_enter Tryz.func116, Tryz.ntmps116
    go_wp2
    go_ret
    exact ⟨rfl, Below.refl _ _⟩
set_option maxRecDepth 100000 in
theorem refSameA (u v : Value) (a b : List Attr) (w : World) (hu : AttrsAt w u a) (hv : AttrsAt w v b) (hl : a.length <= 1000000) :
    RetB Tryz.prog 84 #[u, v] w (.bool (decide (a = b))) := by
  unfold RetB
  obtain ⟨aa, cap, rfl, _, hc⟩ := hu
  obtain ⟨ba, cap2, rfl, _, hc2⟩ := hv
  have HC := hQq hc; clear hc
  have HD := hQq hc2; clear hc2
  by_cases hab : a.length = b.length
  · have e0 : (((a.length : Nat) : Int) != ((b.length : Nat) : Int)) = false := by rw [bne_eq_false_iff_eq]; omega
    go_enter Tryz.func84, Tryz.ntmps84
    go_wp2
    go_loopw [5] (fun i w' => ∃ (wi : World) (k : Nat), wi = w' /\ k <= a.length /\ i = .int .i64 k /\ SameL a b k /\ Ext w w') (fun i _ => a.length - (intOf i).toNat)
    case atStart => exact ⟨_, 0, rfl, Nat.zero_le _, rfl, fun j hj => absurd hj (by omega), Below.refl _ _⟩
    case round =>
      obtain ⟨wi, k, rfl, hk, rfl, hs, hb⟩ := hrel
      have HS := hQq hs; clear hs
      by_cases hlt : k < a.length
      · obtain ⟨bb, off, rfl, hbs, c1, c2⟩ := HC.out k hlt
        obtain ⟨bb2, off2, rfl, hbs2, d1, d2⟩ := HD.out k (by omega)
        replace c1 := (ext_cell hb hbs).trans c1
        replace c2 := (ext_cell hb hbs).trans c2
        replace d1 := (ext_cell hb hbs2).trans d1
        replace d2 := (ext_cell hb hbs2).trans d2
        have hx : a[k]? = some (a[k]'hlt) := List.getElem?_eq_getElem hlt
        have hy : b[k]? = some (b[k]'(by omega)) := List.getElem?_eq_getElem (by omega)
        generalize a[k]'hlt = x at c1 c2 hx
        generalize b[k]'(by omega) = y at d1 d2 hy
        have HX := hQq hx; clear hx
        have HY := hQq hy; clear hy
        have HB := hQq hb; clear hb
        have j1 : ((k : Nat) : Int) < (a.length : Int) := by omega
        have j2 : ((k : Nat) : Int) < (b.length : Int) := by omega
        clear e0
        cases e1 : x.1.toList == y.1.toList
        · have he : ¬ x = y := fun e => by rw [e] at e1; simp at e1
          have HN := hQq (show decide (a = b) = false from decide_eq_false fun e => he (by have h1 := HX.out; rw [e, HY.out] at h1; injection h1 with h1; exact h1.symm))
          clear he
          go_wp2
          go_quiet (fail)
          go_wp2
          go_ret
          exact ⟨by rw [HN.out]; rfl, Ext.trans HB.out (eDn _ _)⟩
        cases e2 : x.2.toList == y.2.toList
        · have he : ¬ x = y := fun e => by rw [e] at e2; simp at e2
          have HN := hQq (show decide (a = b) = false from decide_eq_false fun e => he (by have h1 := HX.out; rw [e, HY.out] at h1; injection h1 with h1; exact h1.symm))
          clear he
          go_wp2
          go_quiet (fail)
          go_wp2
          go_ret
          exact ⟨by rw [HN.out]; rfl, Ext.trans HB.out (eDn _ _)⟩
        · have he : x = y := Prod.ext (L_inj (by rw [<- toList_L, <- toList_L]; exact beq_iff_eq.1 e1)) (L_inj (by rw [<- toList_L, <- toList_L]; exact beq_iff_eq.1 e2))
          have hN : SameL a b (k + 1) := by
            intro j hj
            by_cases e : j = k
            · subst e; rw [HX.out, HY.out, he]
            · exact HS.out j (by omega)
          have HN := hQq hN; clear hN he
          go_wp2
          go_quiet (fail)
          go_wp2
          go_roundw
          case rel => exact ⟨_, k + 1, rfl, by omega, by go_num, HN.out, Ext.trans HB.out (eDn _ _)⟩
          case measure => simp [intOf]; omega
      · obtain rfl : k = a.length := by omega
        have HN := hQq (show decide (a = b) = true from decide_eq_true (sameL_end hab HS.out))
        have HB := hQq hb; clear hb
        go_wp2
        go_ret
        exact ⟨by rw [HN.out]; rfl, HB.out⟩
  · have e0 : (((a.length : Nat) : Int) != ((b.length : Nat) : Int)) = true := by rw [bne_iff_ne]; omega
    rw [show decide (a = b) = false from decide_eq_false fun e => hab (by rw [e])]
    go_enter Tryz.func84, Tryz.ntmps84
    go_wp2
    go_ret
    exact ⟨rfl, Below.refl _ _⟩
set_option maxRecDepth 100000 in
theorem slEqualA (u v : Value) (a b : List Attr) (w : World) (hu : AttrsAt w u a) (hv : AttrsAt w v b) (hl : a.length <= 1000000) :
    RetB Tryz.prog 238 #[u, v] w (.bool (decide (a = b))) := by
  unfold RetB
  obtain ⟨aa, cap, rfl, _, hc⟩ := hu
  obtain ⟨ba, cap2, rfl, _, hc2⟩ := hv
  have HC := hQq hc; clear hc
  have HD := hQq hc2; clear hc2
  by_cases hab : a.length = b.length
  · have e0 : (((a.length : Nat) : Int) != ((b.length : Nat) : Int)) = false := by rw [bne_eq_false_iff_eq]; omega
    go_enter Tryz.func238, Tryz.ntmps238
    go_wp2
    go_loopw [13] (fun i w' => ∃ (wi : World) (k : Nat), wi = w' /\ k <= a.length /\ i = .int .i64 k /\ SameL a b k /\ Ext w w') (fun i _ => a.length - (intOf i).toNat)
    case atStart => exact ⟨_, 0, rfl, Nat.zero_le _, rfl, fun j hj => absurd hj (by omega), Below.refl _ _⟩
    case round =>
      obtain ⟨wi, k, rfl, hk, rfl, hs, hb⟩ := hrel
      have HS := hQq hs; clear hs
      by_cases hlt : k < a.length
      · obtain ⟨bb, off, rfl, hbs, c1, c2⟩ := HC.out k hlt
        obtain ⟨bb2, off2, rfl, hbs2, d1, d2⟩ := HD.out k (by omega)
        replace c1 := (ext_cell hb hbs).trans c1
        replace c2 := (ext_cell hb hbs).trans c2
        replace d1 := (ext_cell hb hbs2).trans d1
        replace d2 := (ext_cell hb hbs2).trans d2
        have hx : a[k]? = some (a[k]'hlt) := List.getElem?_eq_getElem hlt
        have hy : b[k]? = some (b[k]'(by omega)) := List.getElem?_eq_getElem (by omega)
        generalize a[k]'hlt = x at c1 c2 hx
        generalize b[k]'(by omega) = y at d1 d2 hy
        have HX := hQq hx; clear hx
        have HY := hQq hy; clear hy
        have HB := hQq hb; clear hb
        have j1 : ((k : Nat) : Int) < (a.length : Int) := by omega
        have j2 : ((k : Nat) : Int) < (b.length : Int) := by omega
        clear e0
        cases e1 : x.1.toList == y.1.toList
        · have he : ¬ x = y := fun e => by rw [e] at e1; simp at e1
          have HN := hQq (show decide (a = b) = false from decide_eq_false fun e => he (by have h1 := HX.out; rw [e, HY.out] at h1; injection h1 with h1; exact h1.symm))
          clear he
          go_wp2
          go_quiet (fail)
          go_wp2
          go_ret
          exact ⟨by rw [HN.out]; rfl, Ext.trans HB.out (eDn _ _)⟩
        cases e2 : x.2.toList == y.2.toList
        · have he : ¬ x = y := fun e => by rw [e] at e2; simp at e2
          have HN := hQq (show decide (a = b) = false from decide_eq_false fun e => he (by have h1 := HX.out; rw [e, HY.out] at h1; injection h1 with h1; exact h1.symm))
          clear he
          go_wp2
          go_quiet (fail)
          go_wp2
          go_ret
          exact ⟨by rw [HN.out]; rfl, Ext.trans HB.out (eDn _ _)⟩
        · have he : x = y := Prod.ext (L_inj (by rw [<- toList_L, <- toList_L]; exact beq_iff_eq.1 e1)) (L_inj (by rw [<- toList_L, <- toList_L]; exact beq_iff_eq.1 e2))
          have hN : SameL a b (k + 1) := by
            intro j hj
            by_cases e : j = k
            · subst e; rw [HX.out, HY.out, he]
            · exact HS.out j (by omega)
          have HN := hQq hN; clear hN he
          go_wp2
          go_quiet (fail)
          go_wp2
          go_roundw
          case rel => exact ⟨_, k + 1, rfl, by omega, by go_num, HN.out, Ext.trans HB.out (eDn _ _)⟩
          case measure => simp [intOf]; omega
      · obtain rfl : k = a.length := by omega
        have HN := hQq (show decide (a = b) = true from decide_eq_true (sameL_end hab HS.out))
        have HB := hQq hb; clear hb
        go_wp2
        go_ret
        exact ⟨by rw [HN.out]; rfl, HB.out⟩
  · have e0 : (((a.length : Nat) : Int) != ((b.length : Nat) : Int)) = true := by rw [bne_iff_ne]; omega
    rw [show decide (a = b) = false from decide_eq_false fun e => hab (by rw [e])]
    go_enter Tryz.func238, Tryz.ntmps238
    go_wp2
    go_ret
    exact ⟨rfl, Below.refl _ _⟩

set_option maxRecDepth 100000 in
theorem refLike (x y : TrN) (va vb : Value) (w : World) (ha : AttrsAt w va x.ats) (hb : AttrsAt w vb y.ats) (hl : x.ats.length <= 1000000) :
    RetB Tryz.prog 64 #[trV x va, trV y vb] w (.bool (likeB x y)) := by
  unfold RetB trV
  have hA : ∀ W, Ext w W -> RetB Tryz.prog 84 #[va, vb] W (.bool (decide (x.ats = y.ats))) := fun W he => refSameA va vb _ _ W (ha.ext he) (hb.ext he) hl
  have HW : Hid (Ext w ((w.alloc (.cells #[.int .i64 x.dep, .string x.nm, .int .i64 x.kd, va, .string x.dat, .int .i64 x.ma, .int .i64 x.mi, .int .i64 x.cl] 43)).alloc (.cells #[.int .i64 y.dep, .string y.nm, .int .i64 y.kd, vb, .string y.dat, .int .i64 y.ma, .int .i64 y.mi, .int .i64 y.cl] 43))) := (eA _ _).trans (eA _ _)
  clear ha hb
  unfold likeB
  have HH := hQq hA; clear hA
  cases e0 : x.kd == y.kd
  · simp only [Bool.false_and]
    go_enter Tryz.func64, Tryz.ntmps64
    go_wp2
    go_ret
    exact ⟨by simp, HW.out⟩
  cases e1 : decide (x.ats = y.ats)
  · simp only [Bool.and_false, Bool.false_and]
    go_enter Tryz.func64, Tryz.ntmps64
    go_wp2_with (go_at_call 84; refine (HH.out _ HW.out).mono ?_; rintro e w' ⟨rfl, hb⟩; obtain ⟨hc, hf⟩ := bcell hb; have HB := hQq hb; clear hb)
    go_ret
    exact ⟨by simp, Ext.trans HW.out HB.out⟩
  cases e2 : x.dat.toList == y.dat.toList
  · simp only [Bool.and_false, Bool.false_and]
    go_enter Tryz.func64, Tryz.ntmps64
    go_wp2_with (go_at_call 84; refine (HH.out _ HW.out).mono ?_; rintro e w' ⟨rfl, hb⟩; obtain ⟨hc, hf⟩ := bcell hb; have HB := hQq hb; clear hb)
    go_ret
    exact ⟨by simp, Ext.trans HW.out HB.out⟩
  cases e3 : x.ma == y.ma
  · simp only [Bool.and_false, Bool.false_and]
    go_enter Tryz.func64, Tryz.ntmps64
    go_wp2_with (go_at_call 84; refine (HH.out _ HW.out).mono ?_; rintro e w' ⟨rfl, hb⟩; obtain ⟨hc, hf⟩ := bcell hb; have HB := hQq hb; clear hb)
    go_ret
    exact ⟨by simp, Ext.trans HW.out HB.out⟩
  cases e4 : x.mi == y.mi
  · simp only [Bool.and_false]
    go_enter Tryz.func64, Tryz.ntmps64
    go_wp2_with (go_at_call 84; refine (HH.out _ HW.out).mono ?_; rintro e w' ⟨rfl, hb⟩; obtain ⟨hc, hf⟩ := bcell hb; have HB := hQq hb; clear hb)
    go_ret
    exact ⟨by simp, Ext.trans HW.out HB.out⟩
  · simp only [Bool.and_true]
    go_enter Tryz.func64, Tryz.ntmps64
    go_wp2_with (go_at_call 84; refine (HH.out _ HW.out).mono ?_; rintro e w' ⟨rfl, hb⟩; obtain ⟨hc, hf⟩ := bcell hb; have HB := hQq hb; clear hb)
    go_ret
    exact ⟨by simp, Ext.trans HW.out HB.out⟩
set_option maxRecDepth 100000 in
theorem treeLike (x y : TrN) (va vb : Value) (w : World) (ha : AttrsAt w va x.ats) (hb : AttrsAt w vb y.ats) (hl : x.ats.length <= 1000000) :
    RetB Tryz.prog 215 #[trV x va, trV y vb] w (.bool (likeB x y)) := by
  unfold RetB trV
  have hA : ∀ W, Ext w W -> RetB Tryz.prog 238 #[va, vb] W (.bool (decide (x.ats = y.ats))) := fun W he => slEqualA va vb _ _ W (ha.ext he) (hb.ext he) hl
  have HW : Hid (Ext w ((w.alloc (.cells #[.int .i64 x.dep, .string x.nm, .int .i64 x.kd, va, .string x.dat, .int .i64 x.ma, .int .i64 x.mi, .int .i64 x.cl] 43)).alloc (.cells #[.int .i64 y.dep, .string y.nm, .int .i64 y.kd, vb, .string y.dat, .int .i64 y.ma, .int .i64 y.mi, .int .i64 y.cl] 43))) := (eA _ _).trans (eA _ _)
  clear ha hb
  unfold likeB
  have HH := hQq hA; clear hA
  cases e0 : x.kd == y.kd
  · simp only [Bool.false_and]
    go_enter Tryz.func215, Tryz.ntmps215
    go_wp2
    go_ret
    exact ⟨by simp, HW.out⟩
  cases e1 : x.dat.toList == y.dat.toList
  · simp only [Bool.and_false, Bool.false_and]
    go_enter Tryz.func215, Tryz.ntmps215
    go_wp2
    go_ret
    exact ⟨by simp, HW.out⟩
  cases e2 : x.ma == y.ma
  · simp only [Bool.and_false, Bool.false_and]
    go_enter Tryz.func215, Tryz.ntmps215
    go_wp2
    go_ret
    exact ⟨by simp, HW.out⟩
  cases e3 : x.mi == y.mi
  · simp only [Bool.and_false]
    go_enter Tryz.func215, Tryz.ntmps215
    go_wp2
    go_ret
    exact ⟨by simp, HW.out⟩
  cases e4 : decide (x.ats = y.ats)
  · simp only [Bool.and_false, Bool.false_and]
    go_enter Tryz.func215, Tryz.ntmps215
    go_wp2_with (go_at_call 238; refine (HH.out _ HW.out).mono ?_; rintro e w' ⟨rfl, hb⟩; obtain ⟨hc, hf⟩ := bcell hb; have HB := hQq hb; clear hb)
    go_ret
    exact ⟨by simp, Ext.trans HW.out HB.out⟩
  · simp only [Bool.and_true]
    go_enter Tryz.func215, Tryz.ntmps215
    go_wp2_with (go_at_call 238; refine (HH.out _ HW.out).mono ?_; rintro e w' ⟨rfl, hb⟩; obtain ⟨hc, hf⟩ := bcell hb; have HB := hQq hb; clear hb)
    go_ret
    exact ⟨by simp, Ext.trans HW.out HB.out⟩
end Go.Proofs.YtimpejaaeinplaaGreatDoor
