/- Layer 24's far, large, long: whether an argument is more than is looked at. -/
/- Layer 24's example and awake. -/
/- Layer 24's laws: bounds of what is returned. -/
import Derived.Test.YtddgbijhenkojaaGreatDoorQBsdE
import Derived.Test.YtddgbijhenkojaaGreatDoorQBsdH
import Derived.Test.YtddgbijhenkojaaGreatDoorQSamB
namespace Go.Proofs.YtddgbijhenkojaaGreatDoor
open Go.RowKit

/-- The call returns a bool; false says something; the world is as it was. -/
def BoolP (P : Prop) (w : World) (e : Ending) (w' : World) : Prop := ∃ r : Bool, e = .returned (.bool r) ∧ (r = false → P) ∧ w = w'
def Few (n : Nat) (l : List Attr) : Prop := l.length ≤ 10 ∧ ∀ a ∈ l, a.1.size ≤ n ∧ a.2.size ≤ n
theorem few_of {l : List Attr} {k n : Nat} (hk : k = l.length) (hl : l.length ≤ 10) (h : ∀ j (_ : j < k) (hj : j < l.length), (l[j]'hj).1.size ≤ n ∧ (l[j]'hj).2.size ≤ n) : Few n l := by
  refine ⟨hl, fun a ha => ?_⟩
  obtain ⟨j, hj, rfl⟩ := List.getElem_of_mem ha
  exact h j (by omega) hj
theorem gtT {a b : Nat} (h : a < b) : decide ((a : Int) < (b : Int)) = true := decide_eq_true (by omega)
theorem gtF {a b : Nat} (h : ¬ a < b) : decide ((a : Int) < (b : Int)) = false := decide_eq_false (by omega)
set_option maxRecDepth 100000 in
theorem law24long (v : Value) (l : List Attr) (w : World) (hv : AttrsAt w v l) : Calls Tryz.prog 5 #[v] w (BoolP (Few 1000 l) w) := by
  obtain ⟨aa, cap, rfl, hcap, hc⟩ := hv
  have HC := Lib.hid hc; clear hc
  go_enter Tryz.func5, Tryz.ntmps5
  go_wp2
  go_loop [3] (fun i => ∃ k : Nat, i = .int .i64 k ∧ k ≤ l.length ∧ k ≤ 11 ∧ ∀ j (_ : j < k) (hj : j < l.length), (l[j]'hj).1.size ≤ 1000 ∧ (l[j]'hj).2.size ≤ 1000) (fun i => l.length - (intOf i).toNat)
  case atStart => exact ⟨0, rfl, Nat.zero_le _, Nat.zero_le _, fun j hj => absurd hj (by omega)⟩
  case round =>
    obtain ⟨k, rfl, hk, hk11, hs⟩ := hrel
    have HS := Lib.hid hs; clear hs
    by_cases hlt : k < l.length
    case neg =>
      obtain rfl : k = l.length := by omega
      by_cases h10 : 10 < l.length
      · go_wp2
        go_ret
        exact ⟨_, rfl, (fun h => by simp at h; omega), rfl⟩
      · go_wp2
        go_ret
        exact ⟨_, rfl, fun _ => few_of rfl (by omega) HS.out, rfl⟩
    by_cases h11 : k < 11
    case neg =>
      have q1 : decide ((k : Int) < 11) = false := decide_eq_false (by omega)
      have q2 : 10 < l.length := by omega
      go_wp2
      go_ret
      exact ⟨_, rfl, (fun h => by simp at h; omega), rfl⟩
    have q1 : decide ((k : Int) < 11) = true := decide_eq_true (by omega)
    obtain ⟨b, off, hex, hb, c1, c2⟩ := HC.out k hlt
    subst hex
    have HG : Hid (∀ x, x = l[k]'hlt → x.1.size ≤ 1000 ∧ x.2.size ≤ 1000 → ∀ j (_ : j < k + 1) (hj : j < l.length), (l[j]'hj).1.size ≤ 1000 ∧ (l[j]'hj).2.size ≤ 1000) := Lib.hid (fun x hx hs j hj hjl => by
      by_cases e : j = k
      · subst e; rw [← hx]; exact hs
      · exact HS.out j (by omega) hjl)
    obtain ⟨x, hx⟩ : ∃ x, x = l[k]'hlt := ⟨_, rfl⟩
    rw [← hx] at c1 c2
    have HX := Lib.hid hx
    clear hx
    by_cases g1 : 1000 < x.1.size
    · go_wp2
      go_ret
      exact ⟨_, rfl, (fun h => by cases h), rfl⟩
    by_cases g2 : 1000 < x.2.size
    · go_wp2
      go_ret
      exact ⟨_, rfl, (fun h => by cases h), rfl⟩
    go_wp2
    go_round
    case rel => exact ⟨k + 1, by go_num, by omega, by omega, HG.out x HX.out ⟨by omega, by omega⟩⟩
    case measure => first | (simp [intOf]; done) | (simp [intOf]; omega)
/-- A tree that is not too large. -/
structure FewT (n : Nat) (t : List TrN) : Prop where
  len : t.length ≤ 130
  ok : ∀ x ∈ t, Few n x.ats ∧ x.nm.size ≤ n ∧ x.dat.size ≤ n
set_option maxRecDepth 100000 in
set_option maxHeartbeats 1000000 in
theorem law24large (B : Nat) (v : Value) (t : List TrN) (w : World) (hv : TrIn B w v t) : Calls Tryz.prog 7 #[v] w (BoolP (FewT 1000 t) w) := by
  obtain ⟨aa, cap, rfl⟩ := hv.form
  have HV := Lib.hid hv; clear hv
  go_enter Tryz.func7, Tryz.ntmps7
  go_wp2
  go_loop [3] (fun i => ∃ k : Nat, i = .int .i64 k ∧ k ≤ t.length ∧ k ≤ 150 ∧ ∀ j (_ : j < k) (hj : j < t.length), Few 1000 (t[j]'hj).ats ∧ (t[j]'hj).nm.size ≤ 1000 ∧ (t[j]'hj).dat.size ≤ 1000) (fun i => t.length - (intOf i).toNat)
  case atStart => exact ⟨0, rfl, Nat.zero_le _, Nat.zero_le _, fun j hj => absurd hj (by omega)⟩
  case round =>
    obtain ⟨k, rfl, hk, hk11, hs⟩ := hrel
    have HS := Lib.hid hs; clear hs
    by_cases hlt : k < t.length
    case neg =>
      obtain rfl : k = t.length := by omega
      by_cases h10 : 130 < t.length
      · go_wp2
        go_ret
        exact ⟨_, rfl, (fun h => by simp at h; omega), rfl⟩
      · go_wp2
        go_ret
        exact ⟨_, rfl, (fun _ => ⟨by omega, fun x hx => by
          obtain ⟨j, hj, rfl⟩ := List.getElem_of_mem hx
          exact HS.out j hj hj⟩), rfl⟩
    by_cases h11 : k < 150
    case neg =>
      have q1 : decide ((k : Int) < 150) = false := decide_eq_false (by omega)
      have q2 : 130 < t.length := by omega
      go_wp2
      go_ret
      exact ⟨_, rfl, (fun h => by simp at h; omega), rfl⟩
    have q1 : decide ((k : Int) < 150) = true := decide_eq_true (by omega)
    obtain ⟨b, off, va, hex, hb, hva, c0, c1, c2, c3, c4, c5, c6, c7⟩ := HV.out.tr k hlt
    cases hex
    have HVA := Lib.hid hva.attrs
    have HG : Hid (∀ x, x = t[k]'hlt → Few 1000 x.ats ∧ x.nm.size ≤ 1000 ∧ x.dat.size ≤ 1000 → ∀ j (_ : j < k + 1) (hj : j < t.length), Few 1000 (t[j]'hj).ats ∧ (t[j]'hj).nm.size ≤ 1000 ∧ (t[j]'hj).dat.size ≤ 1000) := Lib.hid (fun x hx hs j hj hjl => by
      by_cases e : j = k
      · subst e; rw [← hx]; exact hs
      · exact HS.out j (by omega) hjl)
    obtain ⟨x, hx⟩ : ∃ x, x = t[k]'hlt := ⟨_, rfl⟩
    rw [← hx] at c0 c1 c2 c4 c5 c6 c7 HVA
    have HX := Lib.hid hx
    have j1 : ((k : Nat) : Int) < (t.length : Int) := by omega
    have j0 : (0 : Int) ≤ (k : Int) := by omega
    clear hx hva
    have HL := Lib.hid (law24long _ x.ats w HVA.out)
    by_cases g1 : 1000 < x.nm.size
    · go_wp2_with (go_at_call 5; refine HL.out.mono ?_; rintro e w1 ⟨r, rfl, _, rfl⟩)
      all_goals
        go_ret
        exact ⟨_, rfl, (fun h => by cases h), rfl⟩
    by_cases g2 : 1000 < x.dat.size
    · go_wp2_with (go_at_call 5; refine HL.out.mono ?_; rintro e w1 ⟨r, rfl, _, rfl⟩)
      all_goals
        go_ret
        exact ⟨_, rfl, (fun h => by cases h), rfl⟩
    go_wp2_with (go_at_call 5; refine HL.out.mono ?_; rintro e w1 ⟨r, rfl, hr, rfl⟩; have HR := Lib.hid hr; clear hr)
    · go_ret
      exact ⟨_, rfl, (fun h => by cases h), rfl⟩
    · go_round
      case rel => exact ⟨k + 1, by go_num, by omega, by omega, HG.out x HX.out ⟨HR.out (by first | assumption | exact Bool.eq_false_iff.2 (by assumption)), by omega, by omega⟩⟩
      case measure => first | (simp [intOf]; done) | (simp [intOf]; omega)
/-- A branch that is not too large. -/
structure FewB (n : Nat) (b : List BrN) : Prop where
  len : b.length ≤ 130
  ok : ∀ x ∈ b, Few n x.ats ∧ x.nm.size ≤ n ∧ x.dat.size ≤ n ∧ x.red.length ≤ 12 ∧ ∀ s ∈ x.red, s.size ≤ n
set_option maxRecDepth 100000 in
set_option maxHeartbeats 4000000 in
theorem law24far (B : Nat) (v : Value) (b : List BrN) (w : World) (hv : BrIn B w v b) : Calls Tryz.prog 13 #[v] w (BoolP (FewB 1000 b) w) := by
  obtain ⟨aa, cap, rfl⟩ := hv.form
  have HV := Lib.hid hv; clear hv
  by_cases hlong : 130 < b.length
  · go_enter Tryz.func13, Tryz.ntmps13
    go_wp2
    go_ret
    exact ⟨_, rfl, (fun h => by cases h), rfl⟩
  go_enter Tryz.func13, Tryz.ntmps13
  go_wp2
  go_loop [3, 4] (fun i _ => ∃ k : Nat, i = .int .i64 k ∧ k ≤ b.length ∧ ∀ j (_ : j < k) (hj : j < b.length), Few 1000 (b[j]'hj).ats ∧ (b[j]'hj).nm.size ≤ 1000 ∧ (b[j]'hj).dat.size ≤ 1000 ∧ (b[j]'hj).red.length ≤ 12 ∧ ∀ s ∈ (b[j]'hj).red, s.size ≤ 1000) (fun i _ => b.length - (intOf i).toNat)
  case atStart => exact ⟨0, rfl, Nat.zero_le _, fun j hj => absurd hj (by omega)⟩
  case round =>
    obtain ⟨k, rfl, hk, hs⟩ := hrel
    have HS := Lib.hid hs; clear hs
    by_cases hlt : k < b.length
    case neg =>
      obtain rfl : k = b.length := by omega
      go_wp2
      go_ret
      exact ⟨_, rfl, (fun _ => ⟨by omega, fun x hx => by
        obtain ⟨j, hj, rfl⟩ := List.getElem_of_mem hx
        exact HS.out j hj hj⟩), rfl⟩
    obtain ⟨bb, off, va, vr, hex, hb, hva, hvr, c0, c1, c2, c3, c4, c5, c6, c7, c8, c9⟩ := HV.out.br k hlt
    cases hex
    have HVA := Lib.hid hva.attrs
    have HVR := Lib.hid hvr.strs
    obtain ⟨a4, cap4, rfl⟩ := hvr.form
    have HG : Hid (∀ x, x = b[k]'hlt → Few 1000 x.ats ∧ x.nm.size ≤ 1000 ∧ x.dat.size ≤ 1000 ∧ x.red.length ≤ 12 ∧ (∀ s ∈ x.red, s.size ≤ 1000) → ∀ j (_ : j < k + 1) (hj : j < b.length), Few 1000 (b[j]'hj).ats ∧ (b[j]'hj).nm.size ≤ 1000 ∧ (b[j]'hj).dat.size ≤ 1000 ∧ (b[j]'hj).red.length ≤ 12 ∧ ∀ s ∈ (b[j]'hj).red, s.size ≤ 1000) := Lib.hid (fun x hx hs j hj hjl => by
      by_cases e : j = k
      · subst e; rw [← hx]; exact hs
      · exact HS.out j (by omega) hjl)
    have HX : Hid (∃ x, x = b[k]'hlt) := Lib.hid ⟨_, rfl⟩
    generalize hxx : b[k]'hlt = x at c0 c1 c2 c3 c4 c5 c6 c7 c8 c9 HVA HVR
    have HX := Lib.hid hxx.symm
    have j1 : ((k : Nat) : Int) < (b.length : Int) := by omega
    have j0 : (0 : Int) ≤ (k : Int) := by omega
    clear hxx hva hvr
    have HL := Lib.hid (law24long _ x.ats w HVA.out)
    by_cases hr12 : 12 < x.red.length
    · go_wp2
      go_ret
      exact ⟨_, rfl, (fun h => by cases h), rfl⟩
    go_wp2
    go_loop [4] (fun i => ∃ m : Nat, i = .int .i64 m ∧ m ≤ x.red.length ∧ ∀ j (_ : j < m) (hj : j < x.red.length), (x.red[j]'hj).size ≤ 1000) (fun i => x.red.length - (intOf i).toNat)
    case atStart => exact ⟨0, rfl, Nat.zero_le _, fun j hj => absurd hj (by omega)⟩
    case round =>
      obtain ⟨m, rfl, hm, hms⟩ := hrel
      have HMS := Lib.hid hms; clear hms
      by_cases hmt : m < x.red.length
      · obtain ⟨a', cap', he, _, hcs⟩ := HVR.out
        cases he
        obtain ⟨br, offr, hexr, hbr, y0⟩ := hcs m hmt
        subst hexr
        have HGM : Hid (∀ s, s = x.red[m]'hmt → s.size ≤ 1000 → ∀ j (_ : j < m + 1) (hj : j < x.red.length), (x.red[j]'hj).size ≤ 1000) := Lib.hid (fun s hx hs j hj hjl => by
          by_cases e : j = m
          · subst e; rw [← hx]; exact hs
          · exact HMS.out j (by omega) hjl)
        obtain ⟨s, hs⟩ : ∃ s, s = x.red[m]'hmt := ⟨_, rfl⟩
        rw [← hs] at y0
        have HSX := Lib.hid hs
        have m1 : ((m : Nat) : Int) < (x.red.length : Int) := by omega
        have m0 : (0 : Int) ≤ (m : Int) := by omega
        clear hs hcs
        by_cases g0 : 1000 < s.size
        · go_wp2
          go_ret
          exact ⟨_, rfl, (fun h => by cases h), rfl⟩
        go_wp2
        go_round
        case rel => exact ⟨m + 1, by go_num, by omega, HGM.out s HSX.out (by omega)⟩
        case measure => first | (simp [intOf]; done) | (simp [intOf]; omega)
      obtain rfl : m = x.red.length := by omega
      have HRS : Hid (∀ s ∈ x.red, s.size ≤ 1000) := Lib.hid (fun s hs => by
        obtain ⟨j, hj, rfl⟩ := List.getElem_of_mem hs
        exact HMS.out j hj hj)
      by_cases g1 : 1000 < x.nm.size
      · go_wp2_with (go_at_call 5; refine HL.out.mono ?_; rintro e w1 ⟨r, rfl, _, rfl⟩)
        all_goals
          go_ret
          exact ⟨_, rfl, (fun h => by cases h), rfl⟩
      by_cases g2 : 1000 < x.dat.size
      · go_wp2_with (go_at_call 5; refine HL.out.mono ?_; rintro e w1 ⟨r, rfl, _, rfl⟩)
        all_goals
          go_ret
          exact ⟨_, rfl, (fun h => by cases h), rfl⟩
      go_wp2_with (go_at_call 5; refine HL.out.mono ?_; rintro e w1 ⟨r, rfl, hr, rfl⟩; have HR := Lib.hid hr; clear hr)
      · go_ret
        exact ⟨_, rfl, (fun h => by cases h), rfl⟩
      · go_round
        case rel => exact ⟨k + 1, by go_num, by omega, HG.out x HX.out ⟨HR.out (by first | assumption | exact Bool.eq_false_iff.2 (by assumption)), by omega, by omega, by omega, HRS.out⟩⟩
        case measure => first | (simp [intOf]; done) | (simp [intOf]; omega)
end Go.Proofs.YtddgbijhenkojaaGreatDoor

namespace Go.Proofs.YtddgbijhenkojaaGreatDoor
open Go.RowKit

def zT : TrN := { dep := 0, nm := ⟨#[]⟩, kd := 0, ats := [], dat := ⟨#[]⟩, ma := 0, mi := 0, cl := 0 }
/-- The branch of the document. -/
def exB : List BrN :=
  [{ zT with kd := 1, ats := [(ofL [98, 115, 100, 46, 120], ⟨#[]⟩)], opq := false, red := [] },
   { zT with dep := 1, nm := ofL [97], kd := 1, opq := true, red := [] },
   { zT with dep := 2, nm := ofL [102], kd := 2, dat := ofL [49], opq := false, red := [] },
   { zT with dep := 1, nm := ofL [100], kd := 1, opq := false, red := [] },
   { zT with dep := 2, nm := ofL [119], kd := 5, opq := false, red := [] }]
set_option maxRecDepth 100000 in
theorem exB_ok : brEr exB = 0 := by kernel_rfl
theorem exB_enc : ∀ j, j < exB.length → encE exB j = 0 := by decide
def exT : List TrN :=
  [{ zT with kd := 1, ats := [(ofL [98, 115, 100, 46, 98, 115, 100, 46, 120], ⟨#[]⟩)] },
   { zT with dep := 1, nm := ofL [97], kd := 1, ats := [(ofL [98, 115, 100, 46, 111, 112, 97, 113, 117, 101], ⟨#[]⟩)] },
   { zT with dep := 2, nm := ofL [102], kd := 2, dat := ofL [49] },
   { zT with dep := 1, nm := ofL [100], kd := 1 },
   { zT with dep := 2, nm := ofL [119], kd := 5 }]
set_option maxRecDepth 100000 in
theorem ex_enc : encT exB = (exT, 0, 0) := by kernel_rfl
set_option maxRecDepth 100000 in
theorem ex_dec : decT exT = (exB, 0, 0) := by kernel_rfl
/-- .. with a redirect. -/
def exR : List BrN := exB.set 3 { zT with dep := 1, nm := ofL [100], kd := 1, opq := false, red := [ofL [111]] }
set_option maxRecDepth 100000 in
theorem ex_red : encT exR = ([], 3, 15) := by kernel_rfl
theorem exB_small : SmallB exB := by
  refine ⟨?_, ?_, ?_, by decide⟩
  · unfold SmallT; decide
  · decide
  · decide
theorem exR_small : SmallB exR := by
  refine ⟨?_, ?_, ?_, by decide⟩
  · unfold SmallT; decide
  · decide
  · decide
theorem exT_small : SmallT exT := by unfold SmallT; decide
set_option maxRecDepth 100000 in
theorem law24example (w : World) : Calls Tryz.prog 18 #[] w fun e w' => (∃ a n c, e = .returned (.slice a n c) ∧ OwnL cdB w.heap.size w' (.slice a n c) exB) ∧ Ext w w' := by
  go_enter Tryz.func18, Tryz.ntmps18
  go_wp2
  go_ret
  refine ⟨⟨_, _, _, rfl, ?_⟩, (ext_alloc _ _).trans (ext_alloc _ _)⟩
  have hs : (w.alloc (.cells #[.string ⟨#[98, 115, 100, 46, 120]⟩, .string ⟨#[]⟩] 53)).heap.size = w.heap.size + 1 := by simp
  have hn : ∀ W : World, AttIn w.heap.size W (.slice none 0 0) [] := fun W => attIn_nil _ _ _
  have hz : ∀ W : World, StrIn w.heap.size W (.slice none 0 0) [] := fun W => ListIn.nil _ _ _ _
  refine ⟨[brC (getB exB 0) (.slice (some ⟨w.heap.size, 0, none⟩) 1 1) (.slice none 0 0), brC (getB exB 1) (.slice none 0 0) (.slice none 0 0), brC (getB exB 2) (.slice none 0 0) (.slice none 0 0), brC (getB exB 3) (.slice none 0 0) (.slice none 0 0), brC (getB exB 4) (.slice none 0 0) (.slice none 0 0)], rfl, fun k h h' => ?_, ?_⟩
  · match k, h with
    | 0, _ => exact ⟨_, _, (listIn_new okA w (ofL [98, 115, 100, 46, 120], ⟨#[]⟩) [.string ⟨#[98, 115, 100, 46, 120]⟩, .string ⟨#[]⟩] _ rfl rfl).ext okA (ext_alloc _ _), hz _, rfl⟩
    | 1, _ => exact ⟨_, _, hn _, hz _, rfl⟩
    | 2, _ => exact ⟨_, _, hn _, hz _, rfl⟩
    | 3, _ => exact ⟨_, _, hn _, hz _, rfl⟩
    | 4, _ => exact ⟨_, _, hn _, hz _, rfl⟩
  · have h := World.ownsRow_lit (base := w.heap.size) (e := 45) (size := 10) (w.alloc (.cells #[.string ⟨#[98, 115, 100, 46, 120]⟩, .string ⟨#[]⟩] 53)) ([brC (getB exB 0) (.slice (some ⟨w.heap.size, 0, none⟩) 1 1) (.slice none 0 0), brC (getB exB 1) (.slice none 0 0) (.slice none 0 0), brC (getB exB 2) (.slice none 0 0) (.slice none 0 0), brC (getB exB 3) (.slice none 0 0) (.slice none 0 0), brC (getB exB 4) (.slice none 0 0) (.slice none 0 0)].flatten.toArray) 5 (by rw [hs]; omega) (by unfold maxLen; omega) rfl
    rw [hs] at h
    exact h
/-- What awake reads of the tree. -/
structure AwkT (w : World) (g : Nat) : Prop where
  ex : ∃ ga oa ca gb ob cb, w.cell? ⟨g, 3, none⟩ = some (.slice (some ⟨ga, oa, none⟩) 1 ca) ∧ w.cell? ⟨g, 11, none⟩ = some (.slice (some ⟨gb, ob, none⟩) 1 cb) ∧ w.cell? ⟨ga, oa, none⟩ = some (.string ⟨#[98, 115, 100, 46, 98, 115, 100, 46, 120]⟩) ∧ w.cell? ⟨gb, ob, none⟩ = some (.string ⟨#[98, 115, 100, 46, 111, 112, 97, 113, 117, 101]⟩) ∧ w.cell? ⟨gb, ob + 1, none⟩ = some (.string ⟨#[]⟩)
theorem awkT_of {B : Nat} {w : World} {g c : Nat} (h : OwnL cdT B w (.slice (some ⟨g, 0, none⟩) 5 c) exT) : AwkT w g := by
  obtain ⟨b0, o0, v0, e0, _, h0, _, _, _, c0, _⟩ := (h.in okT).tr 0 (by decide)
  obtain ⟨b1, o1, v1, e1, _, h1, _, _, _, c1, _⟩ := (h.in okT).tr 1 (by decide)
  cases e0
  cases e1
  obtain ⟨a2, cap2, rfl, _, k0⟩ := h0.attrs
  obtain ⟨a3, cap3, rfl, _, k1⟩ := h1.attrs
  obtain ⟨ga, oa, rfl, _, x0, _⟩ := k0 0 (by decide)
  obtain ⟨gb, ob, rfl, _, y0, y1⟩ := k1 0 (by decide)
  exact ⟨ga, oa, cap2, gb, ob, cap3, c0, c1, x0, y0, y1⟩
/-- A redirect is stored into the branch. -/
theorem awk_red {B : Nat} {w : World} {g c : Nat} (_hB : B ≤ w.heap.size) (hg : g < w.heap.size) (h : OwnL cdB B w (.slice (some ⟨g, 0, none⟩) 5 c) exB) :
    OwnL cdB B ((w.setCell ⟨g, 39, none⟩ (.slice (some ⟨w.heap.size, 0, none⟩) 1 1)).alloc (.cells #[.string ⟨#[111]⟩] 9)) (.slice (some ⟨g, 0, none⟩) 5 c) exR := by
  have h1 := (((h.ext okB (ext_alloc w (.cells #[.string ⟨#[111]⟩] 9))).store okB 3 (by decide) 9 (by decide) (.slice (some ⟨w.heap.size, 0, none⟩) 1 1) { zT with dep := 1, nm := ofL [100], kd := 1, opq := false, red := [ofL [111]] } (fun cs hr => by
    obtain ⟨va, vr, h1, _, rfl⟩ := hr
    exact ⟨va, _, h1, (listIn_new okS w (ofL [111]) [.string ⟨#[111]⟩] _ rfl rfl), rfl⟩)).1)
  rw [show 3 * cdB.n + 9 = 39 from rfl, World.setCell_alloc_past _ _ _ _ hg] at h1
  exact h1
set_option maxRecDepth 100000 in
set_option maxHeartbeats 4000000 in
theorem law24awake (w : World) (hL : Laid w) : RetB Tryz.prog 6 #[] w (.bool true) := by
  unfold RetB
  have HL := Lib.hid hL; clear hL
  have HEN := Lib.hid (enc_of ex_enc)
  have HDE := Lib.hid (dec_of ex_dec)
  have HER := Lib.hid (enc_of ex_red)
  go_enter Tryz.func6, Tryz.ntmps6
  go_wp2_with fail
  refine (law24example w).mono ?_
  rintro e w1 ⟨⟨a, n, c, rfl, ho⟩, hb1⟩
  obtain ⟨g, rfl, hg1, hg2, hn⟩ := ho.addr (by decide)
  obtain rfl : n = 5 := hn
  have HO := Lib.hid ho; have HB1 := Lib.hid hb1; have HG1 := Lib.hid hg1; have HG2 := Lib.hid hg2
  clear ho hb1 hg1 hg2
  go_wp2_with fail
  refine (bsdEncode w.heap.size _ _ exB (HL.out.ext HB1.out) (HO.out.in okB) exB_small).mono ?_
  rintro e w2 ⟨⟨B', a2, n2, c2, hB', rfl, ho2⟩, hb2⟩
  rw [HEN.out.2.1, HEN.out.2.2]
  rw [HEN.out.1] at ho2
  obtain ⟨g2, rfl, _, _, hn2⟩ := ho2.addr (by decide)
  obtain rfl : n2 = 5 := hn2
  have HO2 := Lib.hid ho2; have HB2 := Lib.hid (Ext.trans HB1.out hb2); have HOB2 := Lib.hid (HO.out.ext okB hb2)
  obtain ⟨ga, oa, ca, gb, ob, cb, k3, k11, s0, s1, s2⟩ := (awkT_of ho2).ex
  have HL2 := Lib.hid hb2.size
  clear ho2 hb2 hB'
  go_wp2_with fail
  refine (bsdDecode _ _ _ exT (HL.out.ext HB2.out) (HO2.out.in okT) exT_small).mono ?_
  rintro e w3 ⟨⟨a3, n3, c3, rfl, ho3⟩, hb3⟩
  rw [HDE.out.2.1, HDE.out.2.2]
  rw [HDE.out.1] at ho3
  obtain ⟨g3, rfl, _, _, hn3⟩ := ho3.addr (by decide)
  obtain rfl : n3 = 5 := hn3
  have HO3 := Lib.hid ho3; have HB3 := Lib.hid (Ext.trans HB2.out hb3); have HOB3 := Lib.hid (HOB2.out.ext okB hb3)
  have HS3 := Lib.hid hb3.size
  clear ho3 hb3 k3 k11 s0 s1 s2
  go_wp2_with fail
  refine (refBrSame w.heap.size w2.heap.size _ _ exB _ (HOB3.out.in okB) (HO3.out.in okB) HB3.out.size HS3.out (by decide) (by decide) (by decide)).mono ?_
  rintro e w4 ⟨rfl, hb4⟩
  have HB4 := Lib.hid (Ext.trans HB3.out hb4); have HOB4 := Lib.hid (HOB3.out.ext okB hb4)
  have hg4 : g < w4.heap.size := by have := HG2.out; have := HL2.out; have := HS3.out; have := hb4.size; omega
  obtain ⟨b9, o9, va9, vr9, e9, _, _, hr9, _, _, _, _, _, _, _, _, _, c9⟩ := (HOB4.out.in okB).br 3 (by decide)
  cases e9
  have c9 : w4.cell? ⟨g, 39, none⟩ = some vr9 := c9
  obtain ⟨a9, cp9, rfl⟩ := hr9.form
  have f9 : w4.frozen? ⟨g, 39, none⟩ = false := HOB4.out.frozen _
  have HRD := Lib.hid (awk_red HB4.out.size hg4 HOB4.out)
  have HE5 : Hid (Ext w ((w4.setCell ⟨g, 39, none⟩ (.slice (some ⟨w4.heap.size, 0, none⟩) 1 1)).alloc (.cells #[.string ⟨#[111]⟩] 9))) := Lib.hid (Below.alloc (Below.setCell (p := ⟨g, 39, none⟩) HB4.out HG1.out _) (by simp; exact HB4.out.size) _)
  clear hb4 hr9
  go_wp2_with fail
  refine (bsdCan w.heap.size _ _ exR (HL.out.ext HE5.out) (HRD.out.in okB) exR_small).mono ?_
  rintro e w5 ⟨rfl, hb5⟩
  rw [HER.out.2.1, HER.out.2.2]
  go_wp2
  go_ret
  exact ⟨rfl, HE5.out.trans hb5⟩
end Go.Proofs.YtddgbijhenkojaaGreatDoor

namespace Go.Proofs.YtddgbijhenkojaaGreatDoor
open Go.RowKit

theorem fewB_small {b : List BrN} (h : FewB 1000 b) : SmallB b := by
  have hl := h.len
  refine ⟨?_, ?_, ?_, by omega⟩
  · intro x hx
    obtain ⟨y, hy, rfl⟩ := List.mem_map.1 hx
    obtain ⟨h1, h2, _⟩ := h.ok y hy
    exact ⟨by show y.nm.size ≤ _; omega, fun a ha => by have := h1.2 a ha; omega, by have := h1.1; show y.ats.length ≤ _; omega⟩
  · intro x hx
    have := (h.ok x hx).1.1; omega
  · intro x hx
    obtain ⟨_, _, _, h4, h5⟩ := h.ok x hx
    exact ⟨by omega, fun s hs => by have := h5 s hs; omega⟩
theorem fewT_small {t : List TrN} (h : FewT 1000 t) : SmallT t := by
  intro x hx
  obtain ⟨h1, h2, _⟩ := h.ok x hx
  exact ⟨by omega, fun a ha => by have := h1.2 a ha; omega, by have := h1.1; omega⟩
theorem atsL_len (d : Int) (l : List Attr) : (atsL d l).length ≤ l.length := by
  unfold atsL
  split
  · split
    · rw [wantA_length]; exact Nat.le_refl _
    · exact Nat.zero_le _
  · exact Nat.zero_le _
theorem bwL_len (l : List Attr) (o : Bool) : (bwL l o).length ≤ l.length + 1 := by
  have := atsL_len 4 l
  unfold bwL bwT
  split
  · show (atsL 4 l).length ≤ _; omega
  · split
    · exact Nat.zero_le _
    · show (putA (atsL 4 l) mkA).length ≤ _; rw [put_length]; omega
theorem bdP_len (l : List Attr) : (bdP l).length ≤ l.length := by
  unfold bdP bdT
  split
  · exact Nat.zero_le _
  · split
    · exact Nat.zero_le _
    · show (ptsP 4 l).length ≤ _
      unfold ptsP
      split
      · rw [(srtA_perm _).length_eq]; exact plR_len 4 l
      · exact Nat.zero_le _
theorem encL_is (b : List BrN) : encL b = [] ∨ encL b = b.map encX := by
  unfold encL encT
  split
  · exact .inl rfl
  · split
    · exact .inl rfl
    · exact .inr rfl
theorem decL_is (t : List TrN) : decL t = [] ∨ decL t = t.map decX := by
  unfold decL decT
  split
  · exact .inl rfl
  · split
    · exact .inl rfl
    · split
      · exact .inl rfl
      · exact .inr rfl
theorem encL_bd {b : List BrN} (h : FewB 1000 b) : (encL b).length ≤ 1000 ∧ ∀ x ∈ encL b, x.ats.length ≤ 1000 := by
  have hl := h.len
  rcases encL_is b with e | e <;> rw [e]
  · exact ⟨Nat.zero_le _, fun x hx => by cases hx⟩
  · refine ⟨by rw [List.length_map]; omega, fun x hx => ?_⟩
    obtain ⟨y, hy, rfl⟩ := List.mem_map.1 hx
    have h1 := (h.ok y hy).1.1
    have h2 := bwL_len y.ats y.opq
    show (bwL y.ats y.opq).length ≤ _; omega
theorem decL_bd {t : List TrN} (h : FewT 1000 t) : (decL t).length ≤ 1000 ∧ (∀ x ∈ decL t, x.ats.length ≤ 1000) ∧ ∀ x ∈ decL t, x.red.length ≤ 1000 := by
  have hl := h.len
  rcases decL_is t with e | e <;> rw [e]
  · exact ⟨Nat.zero_le _, fun x hx => (by cases hx), fun x hx => by cases hx⟩
  · refine ⟨by rw [List.length_map]; omega, fun x hx => ?_, fun x hx => ?_⟩
    · obtain ⟨y, hy, rfl⟩ := List.mem_map.1 hx
      have h1 := (h.ok y hy).1.1
      have h2 := bdP_len y.ats
      show (bdP y.ats).length ≤ _; omega
    · obtain ⟨y, hy, rfl⟩ := List.mem_map.1 hx
      exact Nat.zero_le _
end Go.Proofs.YtddgbijhenkojaaGreatDoor
