/- How slices of strings and of attributes lie in memory; slices.Contains of strings. -/
import Derived.Test.YtnemfapegbehlaaDoorStr
namespace Go.Proofs.YtnemfapegbehlaaDoor
open Go.RowKit

abbrev Ext (w w' : World) : Prop := Below w.heap.size w w'
theorem Ext.trans {a b c : World} (h : Ext a b) (k : Ext b c) : Ext a c := Below.trans h (Below.mono k h.size)
theorem ext_alloc (w : World) (o : Obj) : Ext w (w.alloc o) := (Below.refl _ _).alloc (Nat.le_refl _) o
theorem ext_cell {w w' : World} (h : Ext w w') {b o : Nat} (hb : b < w.heap.size) : w'.cell? ⟨b, o, none⟩ = w.cell? ⟨b, o, none⟩ := h.cell (p := ⟨b, o, none⟩) hb

/-- The slice reads as this list of strings. -/
def StrsAt (w : World) (v : Value) (l : List ByteArray) : Prop :=
  ∃ a cap, v = .slice a l.length cap ∧ l.length ≤ cap ∧ ∀ k (h : k < l.length), ∃ b off, a = some ⟨b, off, none⟩ ∧ b < w.heap.size ∧ w.cell? ⟨b, off + k, none⟩ = some (.string (l[k]'h))
theorem StrsAt.ext {w w' : World} {v : Value} {l : List ByteArray} (h : StrsAt w v l) (he : Ext w w') : StrsAt w' v l := by
  obtain ⟨a, cap, hv, hcap, hc⟩ := h
  refine ⟨a, cap, hv, hcap, fun k hk => ?_⟩
  obtain ⟨b, off, ha, hb, h1⟩ := hc k hk
  exact ⟨b, off, ha, Nat.lt_of_lt_of_le hb he.size, by rw [ext_cell he hb]; exact h1⟩

abbrev Attr := ByteArray × ByteArray
/-- The slice reads as this list of attributes. -/
def AttrsAt (w : World) (v : Value) (l : List Attr) : Prop :=
  ∃ a cap, v = .slice a l.length cap ∧ l.length ≤ cap ∧ ∀ k (h : k < l.length), ∃ b off, a = some ⟨b, off, none⟩ ∧ b < w.heap.size ∧ w.cell? ⟨b, off + k * 2, none⟩ = some (.string (l[k]'h).1) ∧ w.cell? ⟨b, off + k * 2 + 1, none⟩ = some (.string (l[k]'h).2)
theorem AttrsAt.ext {w w' : World} {v : Value} {l : List Attr} (h : AttrsAt w v l) (he : Ext w w') : AttrsAt w' v l := by
  obtain ⟨a, cap, hv, hcap, hc⟩ := h
  refine ⟨a, cap, hv, hcap, fun k hk => ?_⟩
  obtain ⟨b, off, ha, hb, h1, h2⟩ := hc k hk
  exact ⟨b, off, ha, Nat.lt_of_lt_of_le hb he.size, by rw [ext_cell he hb]; exact h1, by rw [ext_cell he hb]; exact h2⟩
theorem AttrsAt.nil (w : World) (a : Option Addr) (cap : Nat) : AttrsAt w (.slice a 0 cap) [] := ⟨a, cap, rfl, Nat.zero_le _, fun k hk => absurd hk (by simp)⟩

def hasS (l : List ByteArray) (s : ByteArray) : Bool := (l.map L).contains (L s)
/-- A place, if the string is there, or a number below 0. -/
def IsIdx (l : List ByteArray) (s : ByteArray) (e : Ending) : Prop := ∃ i : Int, e = .returned (.int .i64 i) ∧ (0 ≤ i ↔ (l.map L).contains (L s) = true)
theorem slIndexStr (v : Value) (l : List ByteArray) (s : ByteArray) (w : World) (hv : StrsAt w v l) (hl : l.length ≤ 1000000) :
    Calls Tryd.prog 75 #[v, .string s] w fun e w' => IsIdx l s e ∧ w = w' := by
  obtain ⟨a, cap, rfl, hcap, hc⟩ := hv
  have HC := Lib.hid hc; clear hc
  go_enter Tryd.func75, Tryd.ntmps75
  go_wp2
  go_loop [8] (fun i => ∃ k : Nat, k ≤ l.length ∧ i = .int .i64 k ∧ ∀ j (h : j < l.length), j < k → L (l[j]'h) ≠ L s) (fun i => l.length - (intOf i).toNat)
  case atStart => exact ⟨0, Nat.zero_le _, rfl, fun j hj h0 => absurd h0 (by omega)⟩
  case round =>
    obtain ⟨k, hk, rfl, hb⟩ := hrel
    have HB := Lib.hid hb; clear hb
    by_cases hlt : k < l.length
    · obtain ⟨b, off, rfl, hbs, h1⟩ := HC.out k hlt
      cases he : s.toList == (l[k]'hlt).toList
      · have HB2 : Hid (∀ j (h : j < l.length), j < k + 1 → L (l[j]'h) ≠ L s) := by
          intro j hj hjk
          by_cases e : j = k
          · subst e; rw [toList_L, toList_L] at he; simpa using fun h => (beq_eq_false_iff_ne.1 he) h.symm
          · exact HB.out j hj (by omega)
        go_wp2
        go_round
        case rel => exact ⟨k + 1, by omega, by go_num, HB2.out⟩
        case measure => simp [intOf]; omega
      · have HF : Hid ((l.map L).contains (L s) = true) := by
          rw [toList_L, toList_L] at he
          rw [List.contains_iff_mem, List.mem_map]
          exact ⟨_, List.getElem_mem hlt, (beq_iff_eq.1 he).symm⟩
        go_wp2
        go_ret
        exact ⟨⟨k, rfl, fun _ => HF.out, fun _ => by omega⟩, rfl⟩
    · have HF : Hid (¬ (l.map L).contains (L s) = true) := by
        rw [List.contains_iff_mem, List.mem_map]
        rintro ⟨x, hx, hxe⟩
        obtain ⟨j, hj, rfl⟩ := List.getElem_of_mem hx
        exact HB.out j hj (by omega) hxe
      go_wp2
      go_ret
      exact ⟨⟨-1, rfl, fun h => absurd h (by decide), fun h => absurd h HF.out⟩, rfl⟩
theorem slContainsStr (v : Value) (l : List ByteArray) (s : ByteArray) (w : World) (hv : StrsAt w v l) (hl : l.length ≤ 1000000) :
    Ret Tryd.prog 65 #[v, .string s] w (.bool (hasS l s)) := by
  unfold Ret
  have HV := Lib.hid hv
  obtain ⟨a, cap, rfl, hcap, hc⟩ := hv
  clear hc
  unfold hasS
  cases hm : (l.map L).contains (L s)
  · have HM := Lib.hid hm; clear hm
    go_enter Tryd.func65, Tryd.ntmps65
    go_wp2_with fail
    refine (slIndexStr _ l s _ HV.out hl).mono ?_
    rintro e w' ⟨⟨i, rfl, hi⟩, rfl⟩
    have hi2 : i < 0 := by
      rw [HM.out] at hi; simp only [Bool.false_eq_true, iff_false] at hi; omega
    clear hi
    go_wp2
    go_ret
    exact ⟨by simp [Int.not_le.2 hi2], rfl⟩
  · have HM := Lib.hid hm; clear hm
    go_enter Tryd.func65, Tryd.ntmps65
    go_wp2_with fail
    refine (slIndexStr _ l s _ HV.out hl).mono ?_
    rintro e w' ⟨⟨i, rfl, hi⟩, rfl⟩
    have hi2 : 0 ≤ i := hi.2 HM.out
    clear hi
    go_wp2
    go_ret
    exact ⟨by simp, rfl⟩
end Go.Proofs.YtnemfapegbehlaaDoor
