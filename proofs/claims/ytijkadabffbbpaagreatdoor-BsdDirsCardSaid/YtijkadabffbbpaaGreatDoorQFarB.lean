/- Layer 24's far, large, long: whether an argument is more than is looked at. -/
import Derived.Test.YtijkadabffbbpaaGreatDoorQBsdE
namespace Go.Proofs.YtijkadabffbbpaaGreatDoor
open Go.RowKit

/-- The call returns a bool; false says something; the world is as it was. -/
def BoolP (P : Prop) (w : World) (e : Ending) (w' : World) : Prop := ∃ r : Bool, e = .returned (.bool r) ∧ (r = false → P) ∧ w = w'
def Few (n : Nat) (l : List Attr) : Prop := l.length ≤ 10 ∧ ∀ a ∈ l, a.1.size ≤ n ∧ a.2.size ≤ n
theorem few_of {l : List Attr} {k n : Nat} (hk : k = l.length) (hl : l.length ≤ 10) (h : ∀ j (_ : j < k) (hj : j < l.length), (l[j]'hj).1.size ≤ n ∧ (l[j]'hj).2.size ≤ n) : Few n l := by
  refine ⟨hl, fun a ha => ?_⟩
  obtain ⟨j, hj, rfl⟩ := List.getElem_of_mem ha
  exact h j (by omega) hj
theorem gtT {a b : Nat} (h : a < b) : decide ((a : Int) < (b : Int)) = true := decide_eq_true (by omega)
theorem gtF {a b : Nat} (h : ¬ a < b) : decide ((a : Int) < (b : Int)) = false := decide_eq_false (by omega)
set_option maxRecDepth 100000 in
theorem law24long (v : Value) (l : List Attr) (w : World) (hv : AttrsAt w v l) : Calls Tryz.prog 5 #[v] w (BoolP (Few 1000 l) w) := by
  obtain ⟨aa, cap, rfl, hcap, hc⟩ := hv
  have HC := Lib.hid hc; clear hc
  go_enter Tryz.func5, Tryz.ntmps5
  go_wp2
  go_loop [3] (fun i => ∃ k : Nat, i = .int .i64 k ∧ k ≤ l.length ∧ k ≤ 11 ∧ ∀ j (_ : j < k) (hj : j < l.length), (l[j]'hj).1.size ≤ 1000 ∧ (l[j]'hj).2.size ≤ 1000) (fun i => l.length - (intOf i).toNat)
  case atStart => exact ⟨0, rfl, Nat.zero_le _, Nat.zero_le _, fun j hj => absurd hj (by omega)⟩
  case round =>
    obtain ⟨k, rfl, hk, hk11, hs⟩ := hrel
    have HS := Lib.hid hs; clear hs
    by_cases hlt : k < l.length
    case neg =>
      obtain rfl : k = l.length := by omega
      by_cases h10 : 10 < l.length
      · go_wp2
        go_ret
        exact ⟨_, rfl, (fun h => by simp at h; omega), rfl⟩
      · go_wp2
        go_ret
        exact ⟨_, rfl, fun _ => few_of rfl (by omega) HS.out, rfl⟩
    by_cases h11 : k < 11
    case neg =>
      have q1 : decide ((k : Int) < 11) = false := decide_eq_false (by omega)
      have q2 : 10 < l.length := by omega
      go_wp2
      go_ret
      exact ⟨_, rfl, (fun h => by simp at h; omega), rfl⟩
    have q1 : decide ((k : Int) < 11) = true := decide_eq_true (by omega)
    obtain ⟨b, off, hex, hb, c1, c2⟩ := HC.out k hlt
    subst hex
    have HG : Hid (∀ x, x = l[k]'hlt → x.1.size ≤ 1000 ∧ x.2.size ≤ 1000 → ∀ j (_ : j < k + 1) (hj : j < l.length), (l[j]'hj).1.size ≤ 1000 ∧ (l[j]'hj).2.size ≤ 1000) := Lib.hid (fun x hx hs j hj hjl => by
      by_cases e : j = k
      · subst e; rw [← hx]; exact hs
      · exact HS.out j (by omega) hjl)
    obtain ⟨x, hx⟩ : ∃ x, x = l[k]'hlt := ⟨_, rfl⟩
    rw [← hx] at c1 c2
    have HX := Lib.hid hx
    clear hx
    by_cases g1 : 1000 < x.1.size
    · go_wp2
      go_ret
      exact ⟨_, rfl, (fun h => by cases h), rfl⟩
    by_cases g2 : 1000 < x.2.size
    · go_wp2
      go_ret
      exact ⟨_, rfl, (fun h => by cases h), rfl⟩
    go_wp2
    go_round
    case rel => exact ⟨k + 1, by go_num, by omega, by omega, HG.out x HX.out ⟨by omega, by omega⟩⟩
    case measure => first | (simp [intOf]; done) | (simp [intOf]; omega)
/-- A tree that is not too large. -/
structure FewT (n : Nat) (t : List TrN) : Prop where
  len : t.length ≤ 130
  ok : ∀ x ∈ t, Few n x.ats ∧ x.nm.size ≤ n ∧ x.dat.size ≤ n
set_option maxRecDepth 100000 in
set_option maxHeartbeats 1000000 in
theorem law24large (B : Nat) (v : Value) (t : List TrN) (w : World) (hv : TrIn B w v t) : Calls Tryz.prog 7 #[v] w (BoolP (FewT 1000 t) w) := by
  obtain ⟨aa, cap, rfl⟩ := hv.form
  have HV := Lib.hid hv; clear hv
  go_enter Tryz.func7, Tryz.ntmps7
  go_wp2
  go_loop [3] (fun i => ∃ k : Nat, i = .int .i64 k ∧ k ≤ t.length ∧ k ≤ 150 ∧ ∀ j (_ : j < k) (hj : j < t.length), Few 1000 (t[j]'hj).ats ∧ (t[j]'hj).nm.size ≤ 1000 ∧ (t[j]'hj).dat.size ≤ 1000) (fun i => t.length - (intOf i).toNat)
  case atStart => exact ⟨0, rfl, Nat.zero_le _, Nat.zero_le _, fun j hj => absurd hj (by omega)⟩
  case round =>
    obtain ⟨k, rfl, hk, hk11, hs⟩ := hrel
    have HS := Lib.hid hs; clear hs
    by_cases hlt : k < t.length
    case neg =>
      obtain rfl : k = t.length := by omega
      by_cases h10 : 130 < t.length
      · go_wp2
        go_ret
        exact ⟨_, rfl, (fun h => by simp at h; omega), rfl⟩
      · go_wp2
        go_ret
        exact ⟨_, rfl, (fun _ => ⟨by omega, fun x hx => by
          obtain ⟨j, hj, rfl⟩ := List.getElem_of_mem hx
          exact HS.out j hj hj⟩), rfl⟩
    by_cases h11 : k < 150
    case neg =>
      have q1 : decide ((k : Int) < 150) = false := decide_eq_false (by omega)
      have q2 : 130 < t.length := by omega
      go_wp2
      go_ret
      exact ⟨_, rfl, (fun h => by simp at h; omega), rfl⟩
    have q1 : decide ((k : Int) < 150) = true := decide_eq_true (by omega)
    obtain ⟨b, off, va, hex, hb, hva, c0, c1, c2, c3, c4, c5, c6, c7⟩ := HV.out.tr k hlt
    cases hex
    have HVA := Lib.hid hva.attrs
    have HG : Hid (∀ x, x = t[k]'hlt → Few 1000 x.ats ∧ x.nm.size ≤ 1000 ∧ x.dat.size ≤ 1000 → ∀ j (_ : j < k + 1) (hj : j < t.length), Few 1000 (t[j]'hj).ats ∧ (t[j]'hj).nm.size ≤ 1000 ∧ (t[j]'hj).dat.size ≤ 1000) := Lib.hid (fun x hx hs j hj hjl => by
      by_cases e : j = k
      · subst e; rw [← hx]; exact hs
      · exact HS.out j (by omega) hjl)
    obtain ⟨x, hx⟩ : ∃ x, x = t[k]'hlt := ⟨_, rfl⟩
    rw [← hx] at c0 c1 c2 c4 c5 c6 c7 HVA
    have HX := Lib.hid hx
    have j1 : ((k : Nat) : Int) < (t.length : Int) := by omega
    have j0 : (0 : Int) ≤ (k : Int) := by omega
    clear hx hva
    have HL := Lib.hid (law24long _ x.ats w HVA.out)
    by_cases g1 : 1000 < x.nm.size
    · go_wp2_with (go_at_call 5; refine HL.out.mono ?_; rintro e w1 ⟨r, rfl, _, rfl⟩)
      all_goals
        go_ret
        exact ⟨_, rfl, (fun h => by cases h), rfl⟩
    by_cases g2 : 1000 < x.dat.size
    · go_wp2_with (go_at_call 5; refine HL.out.mono ?_; rintro e w1 ⟨r, rfl, _, rfl⟩)
      all_goals
        go_ret
        exact ⟨_, rfl, (fun h => by cases h), rfl⟩
    go_wp2_with (go_at_call 5; refine HL.out.mono ?_; rintro e w1 ⟨r, rfl, hr, rfl⟩; have HR := Lib.hid hr; clear hr)
    · go_ret
      exact ⟨_, rfl, (fun h => by cases h), rfl⟩
    · go_round
      case rel => exact ⟨k + 1, by go_num, by omega, by omega, HG.out x HX.out ⟨HR.out (by first | assumption | exact Bool.eq_false_iff.2 (by assumption)), by omega, by omega⟩⟩
      case measure => first | (simp [intOf]; done) | (simp [intOf]; omega)
/-- A branch that is not too large. -/
structure FewB (n : Nat) (b : List BrN) : Prop where
  len : b.length ≤ 130
  ok : ∀ x ∈ b, Few n x.ats ∧ x.nm.size ≤ n ∧ x.dat.size ≤ n ∧ x.red.length ≤ 12 ∧ ∀ s ∈ x.red, s.size ≤ n
set_option maxRecDepth 100000 in
set_option maxHeartbeats 4000000 in
theorem law24far (B : Nat) (v : Value) (b : List BrN) (w : World) (hv : BrIn B w v b) : Calls Tryz.prog 13 #[v] w (BoolP (FewB 1000 b) w) := by
  obtain ⟨aa, cap, rfl⟩ := hv.form
  have HV := Lib.hid hv; clear hv
  by_cases hlong : 130 < b.length
  · go_enter Tryz.func13, Tryz.ntmps13
    go_wp2
    go_ret
    exact ⟨_, rfl, (fun h => by cases h), rfl⟩
  go_enter Tryz.func13, Tryz.ntmps13
  go_wp2
  go_loop [3, 4] (fun i _ => ∃ k : Nat, i = .int .i64 k ∧ k ≤ b.length ∧ ∀ j (_ : j < k) (hj : j < b.length), Few 1000 (b[j]'hj).ats ∧ (b[j]'hj).nm.size ≤ 1000 ∧ (b[j]'hj).dat.size ≤ 1000 ∧ (b[j]'hj).red.length ≤ 12 ∧ ∀ s ∈ (b[j]'hj).red, s.size ≤ 1000) (fun i _ => b.length - (intOf i).toNat)
  case atStart => exact ⟨0, rfl, Nat.zero_le _, fun j hj => absurd hj (by omega)⟩
  case round =>
    obtain ⟨k, rfl, hk, hs⟩ := hrel
    have HS := Lib.hid hs; clear hs
    by_cases hlt : k < b.length
    case neg =>
      obtain rfl : k = b.length := by omega
      go_wp2
      go_ret
      exact ⟨_, rfl, (fun _ => ⟨by omega, fun x hx => by
        obtain ⟨j, hj, rfl⟩ := List.getElem_of_mem hx
        exact HS.out j hj hj⟩), rfl⟩
    obtain ⟨bb, off, va, vr, hex, hb, hva, hvr, c0, c1, c2, c3, c4, c5, c6, c7, c8, c9⟩ := HV.out.br k hlt
    cases hex
    have HVA := Lib.hid hva.attrs
    have HVR := Lib.hid hvr.strs
    obtain ⟨a4, cap4, rfl⟩ := hvr.form
    have HG : Hid (∀ x, x = b[k]'hlt → Few 1000 x.ats ∧ x.nm.size ≤ 1000 ∧ x.dat.size ≤ 1000 ∧ x.red.length ≤ 12 ∧ (∀ s ∈ x.red, s.size ≤ 1000) → ∀ j (_ : j < k + 1) (hj : j < b.length), Few 1000 (b[j]'hj).ats ∧ (b[j]'hj).nm.size ≤ 1000 ∧ (b[j]'hj).dat.size ≤ 1000 ∧ (b[j]'hj).red.length ≤ 12 ∧ ∀ s ∈ (b[j]'hj).red, s.size ≤ 1000) := Lib.hid (fun x hx hs j hj hjl => by
      by_cases e : j = k
      · subst e; rw [← hx]; exact hs
      · exact HS.out j (by omega) hjl)
    have HX : Hid (∃ x, x = b[k]'hlt) := Lib.hid ⟨_, rfl⟩
    generalize hxx : b[k]'hlt = x at c0 c1 c2 c3 c4 c5 c6 c7 c8 c9 HVA HVR
    have HX := Lib.hid hxx.symm
    have j1 : ((k : Nat) : Int) < (b.length : Int) := by omega
    have j0 : (0 : Int) ≤ (k : Int) := by omega
    clear hxx hva hvr
    have HL := Lib.hid (law24long _ x.ats w HVA.out)
    by_cases hr12 : 12 < x.red.length
    · go_wp2
      go_ret
      exact ⟨_, rfl, (fun h => by cases h), rfl⟩
    go_wp2
    go_loop [4] (fun i => ∃ m : Nat, i = .int .i64 m ∧ m ≤ x.red.length ∧ ∀ j (_ : j < m) (hj : j < x.red.length), (x.red[j]'hj).size ≤ 1000) (fun i => x.red.length - (intOf i).toNat)
    case atStart => exact ⟨0, rfl, Nat.zero_le _, fun j hj => absurd hj (by omega)⟩
    case round =>
      obtain ⟨m, rfl, hm, hms⟩ := hrel
      have HMS := Lib.hid hms; clear hms
      by_cases hmt : m < x.red.length
      · obtain ⟨a', cap', he, _, hcs⟩ := HVR.out
        cases he
        obtain ⟨br, offr, hexr, hbr, y0⟩ := hcs m hmt
        subst hexr
        have HGM : Hid (∀ s, s = x.red[m]'hmt → s.size ≤ 1000 → ∀ j (_ : j < m + 1) (hj : j < x.red.length), (x.red[j]'hj).size ≤ 1000) := Lib.hid (fun s hx hs j hj hjl => by
          by_cases e : j = m
          · subst e; rw [← hx]; exact hs
          · exact HMS.out j (by omega) hjl)
        obtain ⟨s, hs⟩ : ∃ s, s = x.red[m]'hmt := ⟨_, rfl⟩
        rw [← hs] at y0
        have HSX := Lib.hid hs
        have m1 : ((m : Nat) : Int) < (x.red.length : Int) := by omega
        have m0 : (0 : Int) ≤ (m : Int) := by omega
        clear hs hcs
        by_cases g0 : 1000 < s.size
        · go_wp2
          go_ret
          exact ⟨_, rfl, (fun h => by cases h), rfl⟩
        go_wp2
        go_round
        case rel => exact ⟨m + 1, by go_num, by omega, HGM.out s HSX.out (by omega)⟩
        case measure => first | (simp [intOf]; done) | (simp [intOf]; omega)
      obtain rfl : m = x.red.length := by omega
      have HRS : Hid (∀ s ∈ x.red, s.size ≤ 1000) := Lib.hid (fun s hs => by
        obtain ⟨j, hj, rfl⟩ := List.getElem_of_mem hs
        exact HMS.out j hj hj)
      by_cases g1 : 1000 < x.nm.size
      · go_wp2_with (go_at_call 5; refine HL.out.mono ?_; rintro e w1 ⟨r, rfl, _, rfl⟩)
        all_goals
          go_ret
          exact ⟨_, rfl, (fun h => by cases h), rfl⟩
      by_cases g2 : 1000 < x.dat.size
      · go_wp2_with (go_at_call 5; refine HL.out.mono ?_; rintro e w1 ⟨r, rfl, _, rfl⟩)
        all_goals
          go_ret
          exact ⟨_, rfl, (fun h => by cases h), rfl⟩
      go_wp2_with (go_at_call 5; refine HL.out.mono ?_; rintro e w1 ⟨r, rfl, hr, rfl⟩; have HR := Lib.hid hr; clear hr)
      · go_ret
        exact ⟨_, rfl, (fun h => by cases h), rfl⟩
      · go_round
        case rel => exact ⟨k + 1, by go_num, by omega, HG.out x HX.out ⟨HR.out (by first | assumption | exact Bool.eq_false_iff.2 (by assumption)), by omega, by omega, by omega, HRS.out⟩⟩
        case measure => first | (simp [intOf]; done) | (simp [intOf]; omega)
end Go.Proofs.YtijkadabffbbpaaGreatDoor
