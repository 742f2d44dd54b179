/- attrs.Set, where the name is not there yet: the search, the insertion. -/
import Derived.Test.YtijkadabffbbpaaGreatDoorQInsP
import Derived.Test.YtijkadabffbbpaaGreatDoorQRefA
import Derived.Test.YtijkadabffbbpaaGreatDoorQChkE
namespace Go.Proofs.YtijkadabffbbpaaGreatDoor
open Go.RowKit

/-- The place of a name in a list in order. -/
structure PosA (l : List Attr) (key : ByteArray) (p : Nat) : Prop where
  le : p ≤ l.length
  lo : ∀ j (_ : j < p) (h : j < l.length), L (l[j]'h).1 < L key
  hi : ∀ j (_ : p ≤ j) (h : j < l.length), ¬ L (l[j]'h).1 < L key
theorem PosA.put {l : List Attr} {x : Attr} {p : Nat} (h : PosA l x.1 p) : putA l x = l.take p ++ [x] ++ l.drop p := putA_at l x p h.le h.lo (fun hk => h.hi p (Nat.le_refl _) hk)
theorem sort_lt {l : List Attr} (h : l.Pairwise leA) {i j : Nat} (hij : i ≤ j) (hj : j < l.length) {k : List UInt8} (hk : L (l[j]'hj).1 < k) : L (l[i]'(by omega)).1 < k := by
  rcases Nat.lt_or_ge i j with h1 | h1
  · have h2 := List.pairwise_iff_getElem.1 h i j (by omega) hj h1
    exact Decidable.byContradiction fun h3 => not_lt_trans' h3 h2 hk
  · obtain rfl : i = j := by omega
    exact hk
/-- What is captured: a list, and the function that tells the key. -/
def srtV (v : Value) : Value := .agg #[v, .func (.func 115) #[] #[]]
def SrtBox (w : World) (b : Nat) (v : Value) : Prop := w.heap[b]? = some (.cells #[v, .func (.func 115) #[] #[]] 123 (0, 0))
theorem attrsKey (x : Attr) (w : World) : RetB Tryz.prog 115 #[.agg #[.string x.1, .string x.2]] w (.string x.1) := by
  unfold RetB
  go_enter Tryz.func115, Tryz.ntmps115
  go_wp2
  go_ret
  exact ⟨rfl, ext_alloc _ _⟩
theorem attrsFind1 (x : Attr) (key : ByteArray) (w : World) (b : Nat) (v : Value) (hb : SrtBox w b v) : RetB Tryz.prog 137 #[.agg #[.string x.1, .string x.2], .string key, .pointer (some ⟨b, 0, none⟩)] w (.int .i64 (cmpS (L x.1) (L key))) := by
  unfold RetB
  have c1 : w.cell? ⟨b, 1, none⟩ = some (.func (.func 115) #[] #[]) := blk_cell hb 1
  have he : ∀ args w, (callFunc 115 args).run Tryz.prog w = .ok (.enter 115 args) w := enters_of Tryz.func115 (by kernel_rfl) rfl
  have hbl := blk_lt hb
  have HX : Hid (∀ W, Calls Tryz.prog 115 #[.agg #[.string x.1, .string x.2]] W (fun e w' => e = .returned (.string x.1) ∧ Ext W w')) := Lib.hid (fun W => attrsKey x W)
  go_enter Tryz.func137, Tryz.ntmps137
  go_wp2_with (first
    | (go_at_call 72; refine (cmpCompare _ _ _).mono ?_; rintro e w2 ⟨rfl, rfl⟩)
    | (refine (HX.out _).mono ?_; rintro e w1 ⟨rfl, hb1⟩; have HB1 := Lib.hid hb1; clear hb1))
  go_ret
  exact ⟨rfl, Ext.trans (ext_alloc _ _) HB1.out⟩
theorem mid_bd {i j : Nat} (h : i < j) : i ≤ (i + j) / 2 ∧ (i + j) / 2 < j := by omega
set_option maxRecDepth 100000 in
set_option maxHeartbeats 4000000 in
theorem slSearchA (v : Value) (l : List Attr) (key : ByteArray) (w : World) (b : Nat) (hv : AttrsAt w v l) (hb : SrtBox w b v) (hs : l.Pairwise leA) (hn : ∀ a ∈ l, L a.1 ≠ L key) (hl : l.length ≤ 1000) :
    Calls Tryz.prog 136 #[v, .string key, .func (.func 137) #[] #[.pointer (some ⟨b, 0, none⟩)]] w fun e w' => (∃ p : Nat, e = .returned (.tuple #[.int .i64 p, .bool false]) ∧ PosA l key p) ∧ Ext w w' := by
  have HB := Lib.hid hb
  have HBL := Lib.hid (blk_lt hb)
  have HS := Lib.hid hs; have HN := Lib.hid hn
  obtain ⟨aa, cap, rfl, hcap, hc⟩ := hv
  have HC := Lib.hid hc
  clear hb hs hn hc
  have he : ∀ args w, (callFunc 137 args).run Tryz.prog w = .ok (.enter 137 args) w := enters_of Tryz.func137 (by kernel_rfl) rfl
  go_enter Tryz.func136, Tryz.ntmps136
  go_wp2
  go_loopw [9, 10] (fun i j w' => ∃ (wi : World) (p q : Nat), wi = w' ∧ p ≤ q ∧ q ≤ l.length ∧ i = .int .i64 p ∧ j = .int .i64 q ∧ (∀ j (_ : j < p) (h : j < l.length), L (l[j]'h).1 < L key) ∧ (∀ j (_ : q ≤ j) (h : j < l.length), ¬ L (l[j]'h).1 < L key) ∧ Ext w wi) (fun i j _ => (intOf j - intOf i).toNat)
  case atStart => exact ⟨_, 0, l.length, rfl, Nat.zero_le _, Nat.le_refl _, rfl, rfl, fun j hj => absurd hj (by omega), fun j h1 h2 => absurd h2 (by omega), Below.refl _ _⟩
  case round =>
    obtain ⟨wi, p, q, rfl, hpq, hql, rfl, rfl, hlo, hhi, hE⟩ := hrel
    have HLO := Lib.hid hlo; have HHI := Lib.hid hhi; have HE := Lib.hid hE
    clear hlo hhi
    by_cases hlt : p < q
    case neg =>
      obtain rfl : p = q := by omega
      have HP : Hid (PosA l key p) := Lib.hid ⟨hql, HLO.out, HHI.out⟩
      by_cases hp : p < l.length
      case neg =>
        have q1 : decide ((p : Int) < (l.length : Int)) = false := decide_eq_false (by omega)
        clear hE
        go_wp2
        go_ret2
        exact ⟨⟨_, rfl, HP.out⟩, HE.out⟩
      obtain ⟨bb, off, hex, hbb, c1, c2⟩ := HC.out p hp
      subst hex
      replace c1 := (ext_cell hE hbb).trans c1
      replace c2 := (ext_cell hE hbb).trans c2
      have j1 : ((p : Nat) : Int) < (l.length : Int) := by omega
      have j0 : (0 : Int) ≤ (p : Int) := by omega
      have HX := Lib.hid (attrsFind1 (l[p]'hp) key wi b _ (blk_ext hE HB.out))
      have HNE : Hid (cmpS (L (l[p]'hp).1) (L key) ≠ 0) := Lib.hid (by
        have h1 := HN.out _ (List.getElem_mem hp)
        unfold cmpS
        by_cases h2 : L (l[p]'hp).1 < L key
        · rw [if_pos h2]; decide
        · rw [if_neg h2]
          by_cases h3 : L key < L (l[p]'hp).1
          · rw [if_pos h3]; decide
          · exact absurd (List.le_antisymm h3 h2) h1)
      generalize l[p]'hp = x at c1 c2 HX HNE
      unfold RetB at HX
      have q2 : (cmpS (L x.1) (L key) == 0) = false := beq_eq_false_iff_ne.2 HNE.out
      have q1 : decide ((p : Int) < (l.length : Int)) = true := decide_eq_true (by omega)
      clear hE
      go_wp2_with (refine HX.out.mono ?_; rintro e w1 ⟨rfl, hb1⟩; have HB1 := Lib.hid (Ext.trans HE.out hb1); clear hb1)
      go_ret2
      exact ⟨⟨_, rfl, HP.out⟩, HB1.out⟩
    have hm := mid_bd hlt
    obtain ⟨m, hmd⟩ : ∃ m, m = (p + q) / 2 := ⟨_, rfl⟩
    have hmz : ((p : Int) + (q : Int)) / 2 = (m : Int) := by omega
    rw [← hmd] at hm
    have HMD := Lib.hid hmd; clear hmd
    have hml : m < l.length := by omega
    obtain ⟨bb, off, hex, hbb, c1, c2⟩ := HC.out m hml
    subst hex
    replace c1 := (ext_cell hE hbb).trans c1
    replace c2 := (ext_cell hE hbb).trans c2
    have j1 : ((m : Nat) : Int) < (l.length : Int) := by omega
    have j0 : (0 : Int) ≤ (m : Int) := by omega
    have HX := Lib.hid (attrsFind1 (l[m]'hml) key wi b _ (blk_ext hE HB.out))
    unfold RetB at HX
    clear hE
    by_cases hx : L (l[m]'hml).1 < L key
    · have HLO2 : Hid (∀ j (_ : j < m + 1) (h : j < l.length), L (l[j]'h).1 < L key) := Lib.hid (fun j hj h => sort_lt HS.out (i := j) (j := m) (by omega) hml hx)
      have hcv : cmpS (L (l[m]'hml).1) (L key) = -1 := if_pos hx
      rw [hcv] at HX
      clear hx hcv
      generalize l[m]'hml = x at c1 c2 HX
      go_wp2_with (refine HX.out.mono ?_; rintro e w1 ⟨rfl, hb1⟩; have HB1 := Lib.hid (Ext.trans HE.out hb1); clear hb1)
      go_roundw
      case rel => exact ⟨_, m + 1, q, rfl, by omega, hql, by go_num, rfl, HLO2.out, HHI.out, HB1.out⟩
      case measure => first | (simp [intOf]; done) | (simp [intOf]; omega)
    · have HHI2 : Hid (∀ j (_ : m ≤ j) (h : j < l.length), ¬ L (l[j]'h).1 < L key) := Lib.hid (fun j hj h h2 => hx (sort_lt HS.out (i := m) (j := j) hj h h2))
      have hcv : decide (cmpS (L (l[m]'hml).1) (L key) < 0) = false := decide_eq_false (by unfold cmpS; rw [if_neg hx]; split <;> decide)
      clear hx
      generalize l[m]'hml = x at c1 c2 HX hcv
      go_wp2_with (refine HX.out.mono ?_; rintro e w1 ⟨rfl, hb1⟩; have HB1 := Lib.hid (Ext.trans HE.out hb1); clear hb1)
      go_roundw
      case rel => exact ⟨_, p, m, rfl, by omega, by omega, rfl, rfl, HLO.out, HHI2.out, HB1.out⟩
      case measure => first | (simp [intOf]; done) | (simp [intOf]; omega)
end Go.Proofs.YtijkadabffbbpaaGreatDoor
