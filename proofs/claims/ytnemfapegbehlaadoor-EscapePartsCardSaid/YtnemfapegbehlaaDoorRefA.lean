/- The reference's Same and Put. -/
import Derived.Test.YtnemfapegbehlaaDoorOwnA
import Derived.Deep.RegionHeld3
namespace Go.Proofs.YtnemfapegbehlaaDoor
open Go.RowKit

def SameK (a b : List Attr) (k : Nat) : Prop := ∀ j, j < k → a[j]? = b[j]?
theorem same_end {a b : List Attr} (hl : a.length = b.length) (h : SameK a b a.length) : a = b := by
  apply List.ext_getElem? ; intro i
  rcases Nat.lt_or_ge i a.length with hi | hi
  · exact h i hi
  · rw [List.getElem?_eq_none hi, List.getElem?_eq_none (by omega)]
set_option maxRecDepth 100000 in
theorem refSame (u v : Value) (a b : List Attr) (w : World) (hu : AttrsAt w u a) (hv : AttrsAt w v b) (hl : a.length ≤ 1000) (_hl2 : b.length ≤ 1000) :
    RetB Tryd.prog 29 #[u, v] w (.bool (decide (a = b))) := by
  unfold RetB
  obtain ⟨aa, cap, rfl, _, hc⟩ := hu
  obtain ⟨ba, cap2, rfl, _, hc2⟩ := hv
  have HC := Lib.hid hc; clear hc
  have HD := Lib.hid hc2; clear hc2
  by_cases hab : a.length = b.length
  · have e0 : (((a.length : Nat) : Int) != ((b.length : Nat) : Int)) = false := by rw [bne_eq_false_iff_eq]; omega
    go_enter Tryd.func29, Tryd.ntmps29
    go_wp2
    go_loopw [5] (fun i w' => ∃ (wi : World) (k : Nat), wi = w' ∧ k ≤ a.length ∧ i = .int .i64 k ∧ SameK a b k ∧ Ext w w') (fun i _ => a.length - (intOf i).toNat)
    case atStart => exact ⟨_, 0, rfl, Nat.zero_le _, rfl, fun j hj => absurd hj (by omega), Below.refl _ _⟩
    case round =>
      obtain ⟨wi, k, rfl, hk, rfl, hs, hb⟩ := hrel
      have HS := Lib.hid hs; clear hs
      by_cases hlt : k < a.length
      · obtain ⟨bb, off, rfl, hbs, c1, c2⟩ := HC.out k hlt
        obtain ⟨bb2, off2, rfl, hbs2, d1, d2⟩ := HD.out k (by omega)
        replace c1 := (ext_cell hb hbs).trans c1
        replace c2 := (ext_cell hb hbs).trans c2
        replace d1 := (ext_cell hb hbs2).trans d1
        replace d2 := (ext_cell hb hbs2).trans d2
        have hx : a[k]? = some (a[k]'hlt) := List.getElem?_eq_getElem hlt
        have hy : b[k]? = some (b[k]'(by omega)) := List.getElem?_eq_getElem (by omega)
        generalize a[k]'hlt = x at c1 c2 hx
        generalize b[k]'(by omega) = y at d1 d2 hy
        have HX := Lib.hid hx; clear hx
        have HY := Lib.hid hy; clear hy
        have HB := Lib.hid hb; clear hb
        have j1 : ((k : Nat) : Int) < (a.length : Int) := by omega
        have j2 : ((k : Nat) : Int) < (b.length : Int) := by omega
        clear e0
        cases e1 : x.1.toList == y.1.toList
        · have he : ¬ x = y := fun e => by rw [e] at e1; simp at e1
          have HN := Lib.hid (show decide (a = b) = false from decide_eq_false fun e => he (by have h1 := HX.out; rw [e, HY.out] at h1; injection h1 with h1; exact h1.symm))
          clear he
          go_wp2
          go_quiet (fail)
          go_wp2
          go_ret
          exact ⟨by rw [HN.out]; rfl, Ext.trans HB.out (ext_drewN _ _)⟩
        cases e2 : x.2.toList == y.2.toList
        · have he : ¬ x = y := fun e => by rw [e] at e2; simp at e2
          have HN := Lib.hid (show decide (a = b) = false from decide_eq_false fun e => he (by have h1 := HX.out; rw [e, HY.out] at h1; injection h1 with h1; exact h1.symm))
          clear he
          go_wp2
          go_quiet (fail)
          go_wp2
          go_ret
          exact ⟨by rw [HN.out]; rfl, Ext.trans HB.out (ext_drewN _ _)⟩
        · have he : x = y := Prod.ext (L_inj (by rw [← toList_L, ← toList_L]; exact beq_iff_eq.1 e1)) (L_inj (by rw [← toList_L, ← toList_L]; exact beq_iff_eq.1 e2))
          have hN : SameK a b (k + 1) := by
            intro j hj
            by_cases e : j = k
            · subst e; rw [HX.out, HY.out, he]
            · exact HS.out j (by omega)
          have HN := Lib.hid hN; clear hN he
          go_wp2
          go_quiet (fail)
          go_wp2
          go_roundw
          case rel => exact ⟨_, k + 1, rfl, by omega, by go_num, HN.out, Ext.trans HB.out (ext_drewN _ _)⟩
          case measure => simp [intOf]; omega
      · obtain rfl : k = a.length := by omega
        have HN := Lib.hid (show decide (a = b) = true from decide_eq_true (same_end hab HS.out))
        have HB := Lib.hid hb; clear hb
        go_wp2
        go_ret
        exact ⟨by rw [HN.out]; rfl, HB.out⟩
  · have e0 : (((a.length : Nat) : Int) != ((b.length : Nat) : Int)) = true := by rw [bne_iff_ne]; omega
    rw [show decide (a = b) = false from decide_eq_false fun e => hab (by rw [e])]
    go_enter Tryd.func29, Tryd.ntmps29
    go_wp2
    go_ret
    exact ⟨rfl, Below.refl _ _⟩
/-- Two slices that hold one list. -/
structure Twin (w : World) (u v : Value) : Prop where
  out : ∃ a, AttrsAt w u a ∧ AttrsAt w v a ∧ a.length ≤ 1000
theorem Twin.ext {w w' : World} {u v : Value} (h : Twin w u v) (he : Ext w w') : Twin w' u v := by
  obtain ⟨a, h1, h2, h3⟩ := h.out
  exact ⟨a, h1.ext he, h2.ext he, h3⟩
theorem sameTwin (u v : Value) (w : World) (h : Twin w u v) : RetB Tryd.prog 29 #[u, v] w (.bool true) := by
  obtain ⟨a, h1, h2, h3⟩ := h.out
  have h := refSame u v a a w h1 h2 h3 h3
  rwa [show decide (a = a) = true from decide_eq_true rfl] at h
end Go.Proofs.YtnemfapegbehlaaDoor
