/- attrs.Set, where the name is not there yet: the search, the insertion. -/
/- Plain laws of a list of attributes into which one more is put. -/
/- attrs.Set, where the name is not there yet. -/
import Derived.Test.YtiliglpolcpnbaaGreatDoorQInsP
import Derived.Test.YtiliglpolcpnbaaGreatDoorQRefA
import Derived.Test.YtiliglpolcpnbaaGreatDoorQChkE
import Derived.Test.YtiliglpolcpnbaaGreatDoorQEscB
import Derived.Test.YtiliglpolcpnbaaGreatDoorQBrnH
import Derived.Laws.EntriesVeiled
namespace Go.Proofs.YtiliglpolcpnbaaGreatDoor
open Go.RowKit

/-- The place of a name in a list in order. -/
structure PosA (l : List Attr) (key : ByteArray) (p : Nat) : Prop where
  le : p ≤ l.length
  lo : ∀ j (_ : j < p) (h : j < l.length), L (l[j]'h).1 < L key
  hi : ∀ j (_ : p ≤ j) (h : j < l.length), ¬ L (l[j]'h).1 < L key
theorem PosA.put {l : List Attr} {x : Attr} {p : Nat} (h : PosA l x.1 p) : putA l x = l.take p ++ [x] ++ l.drop p := putA_at l x p h.le h.lo (fun hk => h.hi p (Nat.le_refl _) hk)
theorem sort_lt {l : List Attr} (h : l.Pairwise leA) {i j : Nat} (hij : i ≤ j) (hj : j < l.length) {k : List UInt8} (hk : L (l[j]'hj).1 < k) : L (l[i]'(by omega)).1 < k := by
  rcases Nat.lt_or_ge i j with h1 | h1
  · have h2 := List.pairwise_iff_getElem.1 h i j (by omega) hj h1
    exact Decidable.byContradiction fun h3 => not_lt_trans' h3 h2 hk
  · obtain rfl : i = j := by omega
    exact hk
/-- What is captured: a list, and the function that tells the key. -/
def srtV (v : Value) : Value := .agg #[v, .func (.func 160) #[] #[]]
def SrtBox (w : World) (b : Nat) (v : Value) : Prop := w.heap[b]? = some (.cells #[v, .func (.func 160) #[] #[]] 167 (0, 0))
theorem attrsKey (x : Attr) (w : World) : RetB Tryz.prog 160 #[.agg #[.string x.1, .string x.2]] w (.string x.1) := by
  unfold RetB
  go_enter Tryz.func160, Tryz.ntmps160
  go_wp2
  go_ret
  exact ⟨rfl, ext_alloc _ _⟩
theorem attrsFind1 (x : Attr) (key : ByteArray) (w : World) (b : Nat) (v : Value) (hb : SrtBox w b v) : RetB Tryz.prog 183 #[.agg #[.string x.1, .string x.2], .string key, .pointer (some ⟨b, 0, none⟩)] w (.int .i64 (cmpS (L x.1) (L key))) := by
  unfold RetB
  have c1 : w.cell? ⟨b, 1, none⟩ = some (.func (.func 160) #[] #[]) := blk_cell hb 1
  have he : ∀ args w, (callFunc 160 args).run Tryz.prog w = .ok (.enter 160 args) w := enters_of Tryz.func160 (by kernel_rfl) rfl
  have hbl := blk_lt hb
  have HX : Hid (∀ W, Calls Tryz.prog 160 #[.agg #[.string x.1, .string x.2]] W (fun e w' => e = .returned (.string x.1) ∧ Ext W w')) := Lib.hid (fun W => attrsKey x W)
  go_enter Tryz.func183, Tryz.ntmps183
  go_wp2_with (first
    | (go_at_call 153; refine (cmpCompare _ _ _).mono ?_; rintro e w2 ⟨rfl, rfl⟩)
    | (refine (HX.out _).mono ?_; rintro e w1 ⟨rfl, hb1⟩; have HB1 := Lib.hid hb1; clear hb1))
  go_ret
  exact ⟨rfl, Ext.trans (ext_alloc _ _) HB1.out⟩
theorem mid_bd {i j : Nat} (h : i < j) : i ≤ (i + j) / 2 ∧ (i + j) / 2 < j := by omega
set_option maxRecDepth 100000 in
set_option maxHeartbeats 4000000 in
theorem slSearchA (v : Value) (l : List Attr) (key : ByteArray) (w : World) (b : Nat) (hv : AttrsAt w v l) (hb : SrtBox w b v) (hs : l.Pairwise leA) (hn : ∀ a ∈ l, L a.1 ≠ L key) (hl : l.length ≤ 1000) :
    Calls Tryz.prog 182 #[v, .string key, .func (.func 183) #[] #[.pointer (some ⟨b, 0, none⟩)]] w fun e w' => (∃ p : Nat, e = .returned (.tuple #[.int .i64 p, .bool false]) ∧ PosA l key p) ∧ Ext w w' := by
  have HB := Lib.hid hb
  have HBL := Lib.hid (blk_lt hb)
  have HS := Lib.hid hs; have HN := Lib.hid hn
  obtain ⟨aa, cap, rfl, hcap, hc⟩ := hv
  have HC := Lib.hid hc
  clear hb hs hn hc
  have he : ∀ args w, (callFunc 183 args).run Tryz.prog w = .ok (.enter 183 args) w := enters_of Tryz.func183 (by kernel_rfl) rfl
  go_enter Tryz.func182, Tryz.ntmps182
  go_wp2
  go_loopw [9, 10] (fun i j w' => ∃ (wi : World) (p q : Nat), wi = w' ∧ p ≤ q ∧ q ≤ l.length ∧ i = .int .i64 p ∧ j = .int .i64 q ∧ (∀ j (_ : j < p) (h : j < l.length), L (l[j]'h).1 < L key) ∧ (∀ j (_ : q ≤ j) (h : j < l.length), ¬ L (l[j]'h).1 < L key) ∧ Ext w wi) (fun i j _ => (intOf j - intOf i).toNat)
  case atStart => exact ⟨_, 0, l.length, rfl, Nat.zero_le _, Nat.le_refl _, rfl, rfl, fun j hj => absurd hj (by omega), fun j h1 h2 => absurd h2 (by omega), Below.refl _ _⟩
  case round =>
    obtain ⟨wi, p, q, rfl, hpq, hql, rfl, rfl, hlo, hhi, hE⟩ := hrel
    have HLO := Lib.hid hlo; have HHI := Lib.hid hhi; have HE := Lib.hid hE
    clear hlo hhi
    by_cases hlt : p < q
    case neg =>
      obtain rfl : p = q := by omega
      have HP : Hid (PosA l key p) := Lib.hid ⟨hql, HLO.out, HHI.out⟩
      by_cases hp : p < l.length
      case neg =>
        have q1 : decide ((p : Int) < (l.length : Int)) = false := decide_eq_false (by omega)
        clear hE
        go_wp2
        go_ret2
        exact ⟨⟨_, rfl, HP.out⟩, HE.out⟩
      obtain ⟨bb, off, hex, hbb, c1, c2⟩ := HC.out p hp
      subst hex
      replace c1 := (ext_cell hE hbb).trans c1
      replace c2 := (ext_cell hE hbb).trans c2
      have j1 : ((p : Nat) : Int) < (l.length : Int) := by omega
      have j0 : (0 : Int) ≤ (p : Int) := by omega
      have HX := Lib.hid (attrsFind1 (l[p]'hp) key wi b _ (blk_ext hE HB.out))
      have HNE : Hid (cmpS (L (l[p]'hp).1) (L key) ≠ 0) := Lib.hid (by
        have h1 := HN.out _ (List.getElem_mem hp)
        unfold cmpS
        by_cases h2 : L (l[p]'hp).1 < L key
        · rw [if_pos h2]; decide
        · rw [if_neg h2]
          by_cases h3 : L key < L (l[p]'hp).1
          · rw [if_pos h3]; decide
          · exact absurd (List.le_antisymm h3 h2) h1)
      generalize l[p]'hp = x at c1 c2 HX HNE
      unfold RetB at HX
      have q2 : (cmpS (L x.1) (L key) == 0) = false := beq_eq_false_iff_ne.2 HNE.out
      have q1 : decide ((p : Int) < (l.length : Int)) = true := decide_eq_true (by omega)
      clear hE
      go_wp2_with (refine HX.out.mono ?_; rintro e w1 ⟨rfl, hb1⟩; have HB1 := Lib.hid (Ext.trans HE.out hb1); clear hb1)
      go_ret2
      exact ⟨⟨_, rfl, HP.out⟩, HB1.out⟩
    have hm := mid_bd hlt
    obtain ⟨m, hmd⟩ : ∃ m, m = (p + q) / 2 := ⟨_, rfl⟩
    have hmz : ((p : Int) + (q : Int)) / 2 = (m : Int) := by omega
    rw [← hmd] at hm
    have HMD := Lib.hid hmd; clear hmd
    have hml : m < l.length := by omega
    obtain ⟨bb, off, hex, hbb, c1, c2⟩ := HC.out m hml
    subst hex
    replace c1 := (ext_cell hE hbb).trans c1
    replace c2 := (ext_cell hE hbb).trans c2
    have j1 : ((m : Nat) : Int) < (l.length : Int) := by omega
    have j0 : (0 : Int) ≤ (m : Int) := by omega
    have HX := Lib.hid (attrsFind1 (l[m]'hml) key wi b _ (blk_ext hE HB.out))
    unfold RetB at HX
    clear hE
    by_cases hx : L (l[m]'hml).1 < L key
    · have HLO2 : Hid (∀ j (_ : j < m + 1) (h : j < l.length), L (l[j]'h).1 < L key) := Lib.hid (fun j hj h => sort_lt HS.out (i := j) (j := m) (by omega) hml hx)
      have hcv : cmpS (L (l[m]'hml).1) (L key) = -1 := if_pos hx
      rw [hcv] at HX
      clear hx hcv
      generalize l[m]'hml = x at c1 c2 HX
      go_wp2_with (refine HX.out.mono ?_; rintro e w1 ⟨rfl, hb1⟩; have HB1 := Lib.hid (Ext.trans HE.out hb1); clear hb1)
      go_roundw
      case rel => exact ⟨_, m + 1, q, rfl, by omega, hql, by go_num, rfl, HLO2.out, HHI.out, HB1.out⟩
      case measure => first | (simp [intOf]; done) | (simp [intOf]; omega)
    · have HHI2 : Hid (∀ j (_ : m ≤ j) (h : j < l.length), ¬ L (l[j]'h).1 < L key) := Lib.hid (fun j hj h h2 => hx (sort_lt HS.out (i := m) (j := j) hj h h2))
      have hcv : decide (cmpS (L (l[m]'hml).1) (L key) < 0) = false := decide_eq_false (by unfold cmpS; rw [if_neg hx]; split <;> decide)
      clear hx
      generalize l[m]'hml = x at c1 c2 HX hcv
      go_wp2_with (refine HX.out.mono ?_; rintro e w1 ⟨rfl, hb1⟩; have HB1 := Lib.hid (Ext.trans HE.out hb1); clear hb1)
      go_roundw
      case rel => exact ⟨_, p, m, rfl, by omega, by omega, rfl, rfl, HLO.out, HHI2.out, HB1.out⟩
      case measure => first | (simp [intOf]; done) | (simp [intOf]; omega)
end Go.Proofs.YtiliglpolcpnbaaGreatDoor

namespace Go.Proofs.YtiliglpolcpnbaaGreatDoor
open Go.RowKit

theorem firstE_of {l : List Attr} (h : ∀ a ∈ l, aloneE a = 0) : firstE l = 0 := by
  induction l with
  | nil => rfl
  | cons a r ih =>
    have : firstE ([a] ++ r) = firstE r := firstE_append [a] r (by unfold firstE; rw [if_neg (by simp [h a (by simp)])]; rfl)
    rw [List.singleton_append] at this
    rw [this]; exact ih fun x hx => h x (by simp [hx])
theorem nmA_get {l : List Attr} {i : Nat} (h : i < l.length) : nmA l i = L (l[i]'h).1 := by unfold nmA; simp [List.getD, h]
theorem dup_of {l : List Attr} (h : Dist l) : dupB l = false := by
  rw [Bool.eq_false_iff]
  intro hd
  obtain ⟨i, j, hj, hi, he⟩ := dupB_iff.1 hd
  rw [nmA_get hi, nmA_get (by omega)] at he
  exact List.pairwise_iff_getElem.1 h j i (by omega) hi hj he
theorem desc_of {l : List Attr} (h : l.Pairwise leA) : descB l = false := by
  rw [Bool.eq_false_iff]
  intro hd
  obtain ⟨i, j, hj, hi, he⟩ := descB_iff.1 hd
  rw [nmA_get hi, nmA_get (by omega)] at he
  exact List.pairwise_iff_getElem.1 h j i (by omega) hi hj he
theorem chk_of {l : List Attr} (h1 : ∀ a ∈ l, aloneE a = 0) (h2 : Dist l) (h3 : l.Pairwise leA) : chkE l = 0 ↔ l.length ≤ 6 ∧ sizeA l ≤ 288 := by
  constructor
  · intro h; have := chk_parts h; exact ⟨this.1, this.2.2.2.2⟩
  · rintro ⟨h4, h5⟩
    unfold chkE
    rw [if_neg (by omega), if_neg (by simp [firstE_of h1]), if_neg (by simp [dup_of h2]), if_neg (by simp [desc_of h3]), if_neg (by omega)]
theorem put_dist {l : List Attr} {x : Attr} (h : Dist l) (hn : ∀ y ∈ l, L y.1 ≠ L x.1) : Dist (putA l x) := by
  have h1 : Dist (x :: l) := List.pairwise_cons.2 ⟨fun y hy e => hn y hy e.symm, h⟩
  exact h1.perm (putA_perm l x)
theorem put_alone {l : List Attr} {x : Attr} (h : ∀ a ∈ l, aloneE a = 0) (hx : aloneE x = 0) : ∀ a ∈ putA l x, aloneE a = 0 := by
  intro a ha
  rcases List.mem_cons.1 ((putA_perm l x).mem_iff.1 ha) with rfl | ha
  · exact hx
  · exact h a ha
theorem put_length (l : List Attr) (x : Attr) : (putA l x).length = l.length + 1 := (putA_perm l x).length_eq
/-- What Set returns, where the name is new. -/
def spF (l : List Attr) (x : Attr) : Bool := decide (6 < l.length + 1) || decide (288 < sizeA (putA l x))
def spL (l : List Attr) (x : Attr) : List Attr := if spF l x = true then [] else putA l x
def spE (l : List Attr) (x : Attr) : Int := if spF l x = true then 5 else 0
theorem chk_put {l : List Attr} {x : Attr} (h : chkE l = 0) (hx : aloneE x = 0) (hn : ∀ y ∈ l, L y.1 ≠ L x.1) : (chkE (putA l x) = 0 ↔ spF l x = false) := by
  obtain ⟨h1, h2, h3, h4, h5⟩ := chk_parts h
  rw [chk_of (put_alone h2 hx) (put_dist (dist_of_dupB h3) hn) (putA_sorted (sorted_of_desc h4) x), put_length]
  unfold spF
  simp
end Go.Proofs.YtiliglpolcpnbaaGreatDoor

namespace Go.Proofs.YtiliglpolcpnbaaGreatDoor
open Go.RowKit

theorem ownL_low {B : Nat} {w : World} {v : Value} {l : List Attr} (h : OwnL cdA B w v l) (p : Addr) (hp : p.block < B) (u : Value) : OwnL cdA B (w.setCell p u) v l := by
  obtain ⟨css, h1, h2, h3, h4⟩ := h
  exact ⟨css, h1, h2, h3, h4.imp_right fun ⟨g, cap, cur, a, b, c, d⟩ => ⟨g, cap, cur, a, b, blk_setCell_ne c _ _ (by omega), d⟩⟩
theorem ownA_L {B : Nat} {w : World} {v : Value} {l : List Attr} (h : OwnA B w v l) : OwnL cdA B w v l := by
  refine ⟨l.map encA, by simp, fun k h1 h2 => by rw [List.getElem_map]; rfl, ?_⟩
  rw [← List.flatMap_def]; exact h
theorem ownL_lt {B b : Nat} {w : World} {v : Value} {l : List Attr} (h : OwnL cdA B w v l) (hb : v.ownBlock = some b) : b < w.heap.size := by
  obtain ⟨_, c, f, h1⟩ := h.row rfl b hb
  exact blk_lt h1
/-- The box of the sorted list, and that of the result, where Insert has returned. -/
structure SetBx (w w4 : World) (v : Value) : Prop where
  b0 : w4.heap[w.heap.size]? = some (.cells #[v, .func (.func 160) #[] #[]] 167 (0, 0))
  b2 : w4.heap[w.heap.size + 1 + 1]? = some (.cells #[.slice none 0 0, .nilFunc] 167 (0, 0))
theorem cmpOrE (a c : Int) (g : Nat) (w : World) (hg : w.heap[g]? = some (.cells #[.int .i64 a, .int .i64 c] 26 (0, 0))) :
    Ret Tryz.prog 121 #[.slice (some ⟨g, 0, none⟩) 2 2] w (.int .i64 (if a ≠ 0 then a else c)) := by
  unfold Ret
  have c0 : w.cell? ⟨g, 0, none⟩ = some (.int .i64 a) := blk_cell hg 0
  have c1 : w.cell? ⟨g, 1, none⟩ = some (.int .i64 c) := blk_cell hg 1
  by_cases ha : a = 0
  · subst ha
    rw [if_neg (by simp)]
    by_cases hc : c = 0
    · subst hc
      go_enter Tryz.func121, Tryz.ntmps121
      go_wp2
      refine wp_loop_rounds 3 ?_
      rw [rounds_succ]
      go_wp2
      rw [rounds_succ]
      go_wp2
      rw [rounds_succ]
      go_wp2
      go_ret
      exact ⟨rfl, rfl⟩
    · have hc1 : (c != 0) = true := bne_iff_ne.2 hc
      go_enter Tryz.func121, Tryz.ntmps121
      go_wp2
      refine wp_loop_rounds 2 ?_
      rw [rounds_succ]
      go_wp2
      rw [rounds_succ]
      go_wp2
      go_ret
      exact ⟨rfl, rfl⟩
  · rw [if_pos ha]
    have ha1 : (a != 0) = true := bne_iff_ne.2 ha
    go_enter Tryz.func121, Tryz.ntmps121
    go_wp2
    refine wp_loop_rounds 1 ?_
    rw [rounds_succ]
    go_wp2
    go_ret
    exact ⟨rfl, rfl⟩
theorem attrsOf (a : Option Addr) (n cap : Nat) (w : World) : Calls Tryz.prog 124 #[.slice a n cap] w (fun e w' => e = .returned (srtV (.slice a n cap)) ∧ Ext w w') := by
  go_enter Tryz.func124, Tryz.ntmps124
  go_wp2

  refine bodyPost_ret (v := srtV (.slice a n cap)) (by simp [results, Tryz.f124, go_sem, srtV]) rfl ?_
  exact ⟨rfl, ext_alloc _ _⟩
set_option maxRecDepth 100000 in
set_option maxHeartbeats 4000000 in
theorem attrsFind (a : Option Addr) (cap : Nat) (l : List Attr) (key : ByteArray) (w : World) (hv : AttrsAt w (.slice a l.length cap) l) (hs : l.Pairwise leA) (hn : ∀ x ∈ l, L x.1 ≠ L key) (hl : l.length ≤ 1000) :
    Calls Tryz.prog 161 #[srtV (.slice a l.length cap), .string key] w fun e w' => (∃ p : Nat, e = .returned (.tuple #[.int .i64 p, .bool false]) ∧ PosA l key p) ∧ Ext w w' := by
  have HV := Lib.hid hv; have HS := Lib.hid hs; have HN := Lib.hid hn
  have hmf : ∀ (fn : Fn) (first cap : Array Value) (w : World), (Instr.makeFunc fn first cap).run Tryz.prog w = .ok (.func fn first cap) w := fun _ _ _ _ => rfl
  clear hv hs hn
  unfold srtV
  go_enter Tryz.func161, Tryz.ntmps161
  go_wp2_with (go_at_call 182; refine (slSearchA _ l key _ w.heap.size (HV.out.ext (ext_alloc _ _)) (blk_new w _) HS.out HN.out hl).mono ?_; rintro e w1 ⟨⟨p, rfl, hp⟩, hb1⟩; have HP := Lib.hid hp; have HB := Lib.hid ((ext_alloc w _).trans hb1); clear hp hb1)
  go_ret2
  exact ⟨⟨p, rfl, HP.out⟩, HB.out⟩
set_option maxRecDepth 100000 in
set_option maxHeartbeats 4000000 in
theorem attrsSet1 (a : Option Addr) (cap : Nat) (l : List Attr) (x : Attr) (w : World) (hv : AttrsAt w (.slice a l.length cap) l) (hs : l.Pairwise leA) (hn : ∀ y ∈ l, L y.1 ≠ L x.1) (hl : l.length ≤ 1000) :
    Calls Tryz.prog 125 #[srtV (.slice a l.length cap), .agg #[.string x.1, .string x.2]] w fun e w' => (∃ a' n' cap', e = .returned (srtV (.slice a' n' cap')) ∧ OwnL cdA w.heap.size w' (.slice a' n' cap') (putA l x)) ∧ Ext w w' := by
  have HV := Lib.hid hv; have HS := Lib.hid hs; have HN := Lib.hid hn
  have he : ∀ args w, (callFunc 160 args).run Tryz.prog w = .ok (.enter 160 args) w := enters_of Tryz.func160 (by kernel_rfl) rfl
  clear hv hs hn
  unfold srtV
  go_enter Tryz.func125, Tryz.ntmps125
  go_wp2
  refine name_world (P := fun W => Code.wp _ _ _ _ W) _ ?_
  intro W hW
  have HE : Hid (Ext w W) := Lib.hid (by rw [hW]; exact ((ext_alloc _ _).trans (ext_alloc _ _)).trans (ext_alloc _ _))
  have B0 : Hid (W.heap[w.heap.size]? = some (.cells #[.slice a l.length cap, .func (.func 160) #[] #[]] 167 (0, 0))) := Lib.hid (by rw [hW]; exact blk_alloc (blk_alloc (blk_new w _)))
  have B1 : Hid (W.heap[w.heap.size + 1]? = some (.cells #[.string x.1, .string x.2] 50 (0, 0))) := Lib.hid (by rw [hW]; exact blk_alloc (blk_at (by simp)))
  have B2 : Hid (W.heap[w.heap.size + 1 + 1]? = some (.cells #[.slice none 0 0, .nilFunc] 167 (0, 0))) := Lib.hid (by rw [hW]; exact blk_at (by simp))
  clear hW
  have c0 : W.cell? ⟨w.heap.size, 0, none⟩ = some (.slice a l.length cap) := blk_cell B0.out 0
  have c1 : W.cell? ⟨w.heap.size, 1, none⟩ = some (.func (.func 160) #[] #[]) := blk_cell B0.out 1
  have c2 : W.cell? ⟨w.heap.size + 1, 0, none⟩ = some (.string x.1) := blk_cell B1.out 0
  have c3 : W.cell? ⟨w.heap.size + 1, 1, none⟩ = some (.string x.2) := blk_cell B1.out 1
  have HX : Hid (∀ W, Calls Tryz.prog 160 #[.agg #[.string x.1, .string x.2]] W (fun e w' => e = .returned (.string x.1) ∧ Ext W w')) := Lib.hid (fun W => attrsKey x W)
  go_region_held3 (fun w' => w'.cell? ⟨w.heap.size, 0, none⟩ = some (.slice a l.length cap) ∧ w'.cell? ⟨w.heap.size, 1, none⟩ = some (.func (.func 160) #[] #[]) ∧ w'.cell? ⟨w.heap.size + 1, 0, none⟩ = some (.string x.1) ∧ w'.cell? ⟨w.heap.size + 1, 1, none⟩ = some (.string x.2)) (first | go_keep | exact ⟨by assumption, by assumption, by assumption, by assumption⟩)
    (first
      | (go_at_call 161; refine (attrsFind a cap l x.1 _ (by first | exact HV.out.ext ((HE.out.trans HE1.out).trans (ext_drew _)) | exact HV.out.ext (HE.out.trans HE1.out)) HS.out HN.out hl).mono ?_; rintro e w2 ⟨⟨p, rfl, hp⟩, hb2⟩; have HP := Lib.hid hp; have HE2 : Hid (Ext W w2) := Lib.hid (by first | exact (HE1.out.trans (ext_drew _)).trans hb2 | exact HE1.out.trans hb2); have e0 : w2.cell? ⟨w.heap.size, 0, none⟩ = some (.slice a l.length cap) := blk_cell (blk_ext HE2.out B0.out) 0; have e1 : w2.cell? ⟨w.heap.size, 1, none⟩ = some (.func (.func 160) #[] #[]) := blk_cell (blk_ext HE2.out B0.out) 1; have e2 : w2.cell? ⟨w.heap.size + 1, 0, none⟩ = some (.string x.1) := blk_cell (blk_ext HE2.out B1.out) 0; have e3 : w2.cell? ⟨w.heap.size + 1, 1, none⟩ = some (.string x.2) := blk_cell (blk_ext HE2.out B1.out) 1; clear hp hb2)
      | (refine (HX.out _).mono ?_; rintro e w1 ⟨rfl, hb1⟩; have HE1 : Hid (Ext W w1) := Lib.hid (by first | exact (ext_drew _).trans hb1 | exact hb1); have d0 : w1.cell? ⟨w.heap.size, 0, none⟩ = some (.slice a l.length cap) := blk_cell (blk_ext HE1.out B0.out) 0; have d1 : w1.cell? ⟨w.heap.size, 1, none⟩ = some (.func (.func 160) #[] #[]) := blk_cell (blk_ext HE1.out B0.out) 1; have d2 : w1.cell? ⟨w.heap.size + 1, 0, none⟩ = some (.string x.1) := blk_cell (blk_ext HE1.out B1.out) 0; have d3 : w1.cell? ⟨w.heap.size + 1, 1, none⟩ = some (.string x.2) := blk_cell (blk_ext HE1.out B1.out) 1; clear hb1)
      | fail)
  go_wp2_with (first
    | (go_at_call 115; refine (slClone _ l _ (HV.out.ext (HE.out.trans HE2.out)) hl).mono ?_; rintro e w3 ⟨⟨a3, cap3, rfl, ho⟩, hb3⟩; have HE3 := Lib.hid (HE2.out.trans hb3); have HS2 := Lib.hid hb3.size; have HO := Lib.hid (ownL_low (ownA_L ho) ⟨w.heap.size, 0, none⟩ (Nat.lt_of_lt_of_le (blk_lt B0.out) HE2.out.size) (.slice a3 l.length cap3)); have G0 := Lib.hid (blk_ext HE3.out B0.out); have g0 : w3.cell? ⟨w.heap.size, 0, none⟩ = some (.slice a l.length cap) := blk_cell G0.out 0; have g1 : w3.cell? ⟨w.heap.size, 1, none⟩ = some (.func (.func 160) #[] #[]) := blk_cell G0.out 1; have g2 : w3.cell? ⟨w.heap.size + 1, 0, none⟩ = some (.string x.1) := blk_cell (blk_ext HE3.out B1.out) 0; have g3 : w3.cell? ⟨w.heap.size + 1, 1, none⟩ = some (.string x.2) := blk_cell (blk_ext HE3.out B1.out) 1; have z0 := blk_lt G0.out; have f0 : w3.frozen? ⟨w.heap.size, 0, none⟩ = false := (by simp [World.frozen?, G0.out]); have HNB : Hid ((Value.slice a3 l.length cap3).ownBlock ≠ some w3.heap.size) := Lib.hid (fun h => by have := ownL_lt (ownA_L ho) h; omega); have BOX : Hid (∀ w4, Below w2.heap.size ((w3.setCell ⟨w.heap.size, 0, none⟩ (.slice a3 l.length cap3)).alloc (.cells #[.string x.1, .string x.2] 50)) w4 → SetBx w w4 (.slice a3 l.length cap3)) := Lib.hid (fun w4 hb4 => ⟨(hb4.block _ (Nat.lt_of_lt_of_le (blk_lt B0.out) HE2.out.size)).trans (blk_alloc (blk_setCell (blk_ext HE3.out B0.out) _)), (hb4.block _ (Nat.lt_of_lt_of_le (blk_lt B2.out) HE2.out.size)).trans (blk_alloc (blk_setCell_ne (blk_ext HE3.out B2.out) _ _ (by show w.heap.size + 1 + 1 ≠ w.heap.size; omega)))⟩); have INS := Lib.hid (HO.out.ext okA (ext_alloc _ (.cells #[.string x.1, .string x.2] 50))); clear ho hb3)
    | (go_at_call 162; refine (slInsA w2.heap.size _ (.slice a3 l.length cap3) w3.heap.size p l x INS.out (by exact blk_at (by simp)) HNB.out (by have := HS2.out; simp; omega) HP.out.le hl).mono ?_; rintro e w4 ⟨a4, n4, cap4, rfl, ho4, hb4⟩; have HO4 := Lib.hid ho4; have HB4 := Lib.hid hb4; have G4 := Lib.hid (BOX.out _ hb4); have k0 : w4.cell? ⟨w.heap.size, 0, none⟩ = some (.slice a3 l.length cap3) := blk_cell G4.out.b0 0; have k1 : w4.cell? ⟨w.heap.size, 1, none⟩ = some (.func (.func 160) #[] #[]) := blk_cell G4.out.b0 1; have r0 : w4.cell? ⟨w.heap.size + 1 + 1, 0, none⟩ = some (.slice none 0 0) := blk_cell G4.out.b2 0; have r1 : w4.cell? ⟨w.heap.size + 1 + 1, 1, none⟩ = some .nilFunc := blk_cell G4.out.b2 1; have h0 : w4.frozen? ⟨w.heap.size, 0, none⟩ = false := (by simp [World.frozen?, G4.out.b0]); have h2 : w4.frozen? ⟨w.heap.size + 1 + 1, 0, none⟩ = false := (by simp [World.frozen?, G4.out.b2]); have h3 : w4.frozen? ⟨w.heap.size + 1 + 1, 1, none⟩ = false := (by simp [World.frozen?, G4.out.b2]); clear ho4 hb4)
    | fail)
  have hw2 : w.heap.size + 1 + 1 < w2.heap.size := Nat.lt_of_lt_of_le (blk_lt B2.out) HE2.out.size
  have hne : w.heap.size + 1 + 1 ≠ w.heap.size := by omega
  have T := Lib.hid (blk_setCell (o := 1) (blk_setCell (o := 0) (blk_setCell_ne G4.out.b2 ⟨w.heap.size, 0, none⟩ (.slice a4 n4 cap4) hne) (.slice a4 n4 cap4)) (.func (.func 160) #[] #[]))
  have t0 := blk_cell T.out 0
  have t1 := blk_cell T.out 1
  have HOW := Lib.hid (ownL_low (ownL_low (ownL_low HO4.out ⟨w.heap.size, 0, none⟩ (by show w.heap.size < _; omega) (.slice a4 n4 cap4)) ⟨w.heap.size + 1 + 1, 0, none⟩ hw2 (.slice a4 n4 cap4)) ⟨w.heap.size + 1 + 1, 1, none⟩ hw2 (.func (.func 160) #[] #[]))
  have HX1 : Ext w ((w3.setCell ⟨w.heap.size, 0, none⟩ (.slice a3 l.length cap3)).alloc (.cells #[.string x.1, .string x.2] 50)) := Below.alloc (Below.setCell (p := ⟨w.heap.size, 0, none⟩) (HE.out.trans HE3.out) (Nat.le_refl _) _) (by simp; exact Nat.le_trans HE.out.size HE3.out.size) _
  have HX2 : Ext w w4 := Below.trans HX1 (HB4.out.mono (by omega))
  refine bodyPost_ret (v := srtV (.slice a4 n4 cap4)) (by simp [results, Tryz.f125, go_sem, srtV, t0, t1]) rfl ?_
  refine ⟨⟨_, _, _, rfl, by rw [HP.out.put]; exact OwnL.le HOW.out okA (fun _ _ _ h => h) (by omega)⟩, ?_⟩
  exact Below.setCell (p := ⟨w.heap.size + 1 + 1, 1, none⟩) (Below.setCell (p := ⟨w.heap.size + 1 + 1, 0, none⟩) (Below.setCell (p := ⟨w.heap.size, 0, none⟩) HX2 (Nat.le_refl _) _) (by show w.heap.size ≤ w.heap.size + 1 + 1; omega) _) (by show w.heap.size ≤ w.heap.size + 1 + 1; omega) _
theorem ownL_att {B : Nat} {w : World} {v : Value} {l : List Attr} (h : OwnL cdA B w v l) : AttT w v l := by
  refine ⟨(h.in okA).attrs, fun b hb => ?_⟩
  obtain ⟨_, c, f, h1⟩ := h.row rfl b hb
  exact ⟨c, f, h1⟩
theorem fieldSrt (a : Option Addr) (n cap : Nat) (w : World) : (Instr.field 167 (.agg #[.slice a n cap, .func (.func 160) #[] #[]]) 0).run Tryz.prog w = .ok (.slice a n cap) w := by kernel_rfl
theorem attrsFitLong (v : Value) (l : List Attr) (w : World) (hv : AttrsAt w v l) (hl : 6 < l.length) :
    Ret Tryz.prog 123 #[v] w (.tuple #[.slice none 0 0, .int .i64 5]) := by
  unfold Ret
  obtain ⟨a, cap, rfl, hcap, hc⟩ := hv
  clear hc
  have h1 : decide ((6 : Int) < (l.length : Int)) = true := decide_eq_true (by omega)
  go_enter Tryz.func123, Tryz.ntmps123
  go_wp2
  go_ret2
  exact ⟨rfl, rfl⟩
set_option maxRecDepth 100000 in
set_option maxHeartbeats 4000000 in
theorem attrsSet (v : Value) (l : List Attr) (x : Attr) (w : World) (hv : AttrsAt w v l) (hm : ∀ a ∈ l, a.1.size ≤ 1000000 ∧ a.2.size ≤ 1000000) (hc : chkE l = 0) (hx : aloneE x = 0) (hxs : x.1.size ≤ 1000000 ∧ x.2.size ≤ 1000000) (hn : ∀ y ∈ l, L y.1 ≠ L x.1) :
    Calls Tryz.prog 87 #[v, .agg #[.string x.1, .string x.2]] w fun e w' => (∃ v', e = .returned (.tuple #[v', .int .i64 (spE l x)]) ∧ AttT w' v' (spL l x)) ∧ Ext w w' := by
  have HV := Lib.hid hv; have HM := Lib.hid hm; have HN := Lib.hid hn
  have HCP := Lib.hid (chk_parts hc)
  have hl6 := (chk_parts hc).1
  have HPM : Hid (∀ a ∈ putA l x, a.1.size ≤ 1000000 ∧ a.2.size ≤ 1000000) := Lib.hid (fun a ha => by
    rcases List.mem_cons.1 ((putA_perm l x).mem_iff.1 ha) with rfl | ha
    · exact hxs
    · exact hm a ha)
  obtain ⟨a, cap, rfl, _, _⟩ := hv
  have HC := Lib.hid hc; have HX := Lib.hid hx
  have HXS := Lib.hid hxs
  clear hm hn hc hx hxs
  have hfld := fieldSrt
  go_enter Tryz.func87, Tryz.ntmps87
  go_wp2
  refine name_world (P := fun W => Code.wp _ _ _ _ W) _ ?_
  intro W hW
  have HE : Hid (Ext w W) := Lib.hid (by rw [hW]; exact ext_alloc _ _)
  have B0 : Hid (W.heap[w.heap.size]? = some (.cells #[.string x.1, .string x.2] 50 (0, 0))) := Lib.hid (by rw [hW]; exact blk_new w _)
  clear hW
  have c0 : W.cell? ⟨w.heap.size, 0, none⟩ = some (.string x.1) := blk_cell B0.out 0
  have c1 : W.cell? ⟨w.heap.size, 1, none⟩ = some (.string x.2) := blk_cell B0.out 1
  go_region_held3 (fun w' => w'.cell? ⟨w.heap.size, 0, none⟩ = some (.string x.1) ∧ w'.cell? ⟨w.heap.size, 1, none⟩ = some (.string x.2)) (first | go_keep | exact ⟨by assumption, by assumption⟩)
    (first
      | (go_at_call 118; refine (attrsCheck _ l _ (by first | exact HV.out.ext (HE.out.trans (ext_drew _)) | exact HV.out.ext HE.out) HM.out).mono ?_; rintro e w1 ⟨rfl, hb1⟩; rw [HC.out]; have HE1 : Hid (Ext W w1) := Lib.hid (by first | exact (ext_drew _).trans hb1 | exact hb1); have d0 : w1.cell? ⟨w.heap.size, 0, none⟩ = some (.string x.1) := blk_cell (blk_ext HE1.out B0.out) 0; have d1 : w1.cell? ⟨w.heap.size, 1, none⟩ = some (.string x.2) := blk_cell (blk_ext HE1.out B0.out) 1; clear hb1)
      | (go_at_call 122; refine (attrsAlone x _ HXS.out.1).mono ?_; rintro e w2 ⟨rfl, hb2⟩; rw [HX.out]; have HE2 : Hid (Ext W w2) := Lib.hid (by first | exact (HE1.out.trans (ext_drew _)).trans hb2 | exact HE1.out.trans hb2); have e0 : w2.cell? ⟨w.heap.size, 0, none⟩ = some (.string x.1) := blk_cell (blk_ext HE2.out B0.out) 0; have e1 : w2.cell? ⟨w.heap.size, 1, none⟩ = some (.string x.2) := blk_cell (blk_ext HE2.out B0.out) 1; clear hb2)
      | (go_at_call 121; refine (cmpOrE 0 0 _ _ (by first | exact blk_new _ _ | exact blk_new (World.drew _) _)).mono ?_; rintro e w3 ⟨rfl, rfl⟩; rw [if_neg (show ¬ (0 : Int) ≠ 0 from fun h => h rfl)])
      | fail)
  go_wp2
  refine name_world (P := fun W => Code.wp _ _ _ _ W) _ ?_
  intro V hV
  have HEV : Hid (Ext W V) := Lib.hid (by rw [hV]; exact HE2.out.trans (ext_alloc _ _))
  clear hV e0 e1 d0 d1
  have b0 : V.cell? ⟨w.heap.size, 0, none⟩ = some (.string x.1) := blk_cell (blk_ext HEV.out B0.out) 0
  have b1 : V.cell? ⟨w.heap.size, 1, none⟩ = some (.string x.2) := blk_cell (blk_ext HEV.out B0.out) 1
  have HPL := Lib.hid (put_length l x)
  by_cases hlong : 6 < l.length + 1
  · have HF : Hid (spF l x = true) := Lib.hid (by unfold spF; rw [decide_eq_true hlong]; rfl)
    have HLG := Lib.hid hlong
    clear hlong
    go_region_held3 (fun w' => w'.cell? ⟨w.heap.size, 0, none⟩ = some (.string x.1) ∧ w'.cell? ⟨w.heap.size, 1, none⟩ = some (.string x.2)) (first | go_keep | exact ⟨by assumption, by assumption⟩)
    (first
      | (go_at_call 124; refine (attrsOf a l.length cap _).mono ?_; rintro e w4 ⟨rfl, hb4⟩; have HE4 : Hid (Ext W w4) := Lib.hid (by first | exact (HEV.out.trans (ext_drew _)).trans hb4 | exact HEV.out.trans hb4); have d0 : w4.cell? ⟨w.heap.size, 0, none⟩ = some (.string x.1) := blk_cell (blk_ext HE4.out B0.out) 0; have d1 : w4.cell? ⟨w.heap.size, 1, none⟩ = some (.string x.2) := blk_cell (blk_ext HE4.out B0.out) 1; clear hb4)
      | (go_at_call 125; refine (attrsSet1 a cap l x _ (by first | exact HV.out.ext (HE.out.trans (HE4.out.trans (ext_drew _))) | exact HV.out.ext (HE.out.trans HE4.out)) (sorted_of_desc HCP.out.2.2.2.1) HN.out (by omega)).mono ?_; rintro e w5 ⟨⟨a5, n5, cap5, rfl, ho5⟩, hb5⟩; have HO5 := Lib.hid ho5; have HE5 : Hid (Ext W w5) := Lib.hid (by first | exact (HE4.out.trans (ext_drew _)).trans hb5 | exact HE4.out.trans hb5); have e0 : w5.cell? ⟨w.heap.size, 0, none⟩ = some (.string x.1) := blk_cell (blk_ext HE5.out B0.out) 0; have e1 : w5.cell? ⟨w.heap.size, 1, none⟩ = some (.string x.2) := blk_cell (blk_ext HE5.out B0.out) 1; unfold srtV; clear ho5 hb5)
      | (go_at_call 123; refine (attrsFitLong _ (putA l x) _ (by first | exact (HO5.out.in okA).attrs | exact ((HO5.out.in okA).attrs).ext (ext_drew _)) (by rw [HPL.out]; exact HLG.out)).mono ?_; rintro e w6 ⟨rfl, rfl⟩)
      | fail)
    go_wp2
    go_ret2
    refine ⟨⟨_, by unfold spE; rw [if_pos HF.out]; rfl, ?_⟩, ?_⟩
    · unfold spL; rw [if_pos HF.out]; exact AttT.nil _ _ _ (AttrsAt.nil _ _ _)
    · first | exact HE.out.trans HE5.out | exact (HE.out.trans HE5.out).trans (ext_drew _)
  have HLG : Hid ((putA l x).length ≤ 6) := Lib.hid (by rw [put_length]; omega)
  by_cases hbig : 288 < sizeA (putA l x)
  · have HF : Hid (spF l x = true) := Lib.hid (by unfold spF; rw [decide_eq_true hbig, Bool.or_true])
    have HBG := Lib.hid hbig
    clear hlong hbig
    go_region_held3 (fun w' => w'.cell? ⟨w.heap.size, 0, none⟩ = some (.string x.1) ∧ w'.cell? ⟨w.heap.size, 1, none⟩ = some (.string x.2)) (first | go_keep | exact ⟨by assumption, by assumption⟩)
    (first
      | (go_at_call 124; refine (attrsOf a l.length cap _).mono ?_; rintro e w4 ⟨rfl, hb4⟩; have HE4 : Hid (Ext W w4) := Lib.hid (by first | exact (HEV.out.trans (ext_drew _)).trans hb4 | exact HEV.out.trans hb4); have d0 : w4.cell? ⟨w.heap.size, 0, none⟩ = some (.string x.1) := blk_cell (blk_ext HE4.out B0.out) 0; have d1 : w4.cell? ⟨w.heap.size, 1, none⟩ = some (.string x.2) := blk_cell (blk_ext HE4.out B0.out) 1; clear hb4)
      | (go_at_call 125; refine (attrsSet1 a cap l x _ (by first | exact HV.out.ext (HE.out.trans (HE4.out.trans (ext_drew _))) | exact HV.out.ext (HE.out.trans HE4.out)) (sorted_of_desc HCP.out.2.2.2.1) HN.out (by omega)).mono ?_; rintro e w5 ⟨⟨a5, n5, cap5, rfl, ho5⟩, hb5⟩; have HO5 := Lib.hid ho5; have HE5 : Hid (Ext W w5) := Lib.hid (by first | exact (HE4.out.trans (ext_drew _)).trans hb5 | exact HE4.out.trans hb5); have e0 : w5.cell? ⟨w.heap.size, 0, none⟩ = some (.string x.1) := blk_cell (blk_ext HE5.out B0.out) 0; have e1 : w5.cell? ⟨w.heap.size, 1, none⟩ = some (.string x.2) := blk_cell (blk_ext HE5.out B0.out) 1; unfold srtV; clear ho5 hb5)
      | (go_at_call 123; refine (attrsFit _ (putA l x) _ (by first | exact (HO5.out.in okA).attrs | exact ((HO5.out.in okA).attrs).ext (ext_drew _)) HLG.out HPM.out).mono ?_; rintro e w6 ⟨rfl, hb6⟩; rw [if_pos HBG.out]; have HE6 : Hid (Ext W w6) := Lib.hid (by first | exact (HE5.out.trans (ext_drew _)).trans hb6 | exact HE5.out.trans hb6); have y0 : w6.cell? ⟨w.heap.size, 0, none⟩ = some (.string x.1) := blk_cell (blk_ext HE6.out B0.out) 0; have y1 : w6.cell? ⟨w.heap.size, 1, none⟩ = some (.string x.2) := blk_cell (blk_ext HE6.out B0.out) 1; clear hb6)
      | fail)
    go_wp2
    go_ret2
    refine ⟨⟨_, by unfold spE; rw [if_pos HF.out]; rfl, ?_⟩, HE.out.trans HE6.out⟩
    unfold spL; rw [if_pos HF.out]; exact AttT.nil _ _ _ (AttrsAt.nil _ _ _)
  have HF : Hid (spF l x = false) := Lib.hid (by unfold spF; rw [decide_eq_false hlong, decide_eq_false hbig]; rfl)
  have HBG := Lib.hid hbig
  clear hlong hbig
  go_region_held3 (fun w' => w'.cell? ⟨w.heap.size, 0, none⟩ = some (.string x.1) ∧ w'.cell? ⟨w.heap.size, 1, none⟩ = some (.string x.2)) (first | go_keep | exact ⟨by assumption, by assumption⟩)
    (first
      | (go_at_call 124; refine (attrsOf a l.length cap _).mono ?_; rintro e w4 ⟨rfl, hb4⟩; have HE4 : Hid (Ext W w4) := Lib.hid (by first | exact (HEV.out.trans (ext_drew _)).trans hb4 | exact HEV.out.trans hb4); have d0 : w4.cell? ⟨w.heap.size, 0, none⟩ = some (.string x.1) := blk_cell (blk_ext HE4.out B0.out) 0; have d1 : w4.cell? ⟨w.heap.size, 1, none⟩ = some (.string x.2) := blk_cell (blk_ext HE4.out B0.out) 1; clear hb4)
      | (go_at_call 125; refine (attrsSet1 a cap l x _ (by first | exact HV.out.ext (HE.out.trans (HE4.out.trans (ext_drew _))) | exact HV.out.ext (HE.out.trans HE4.out)) (sorted_of_desc HCP.out.2.2.2.1) HN.out (by omega)).mono ?_; rintro e w5 ⟨⟨a5, n5, cap5, rfl, ho5⟩, hb5⟩; have HO5 := Lib.hid ho5; have HE5 : Hid (Ext W w5) := Lib.hid (by first | exact (HE4.out.trans (ext_drew _)).trans hb5 | exact HE4.out.trans hb5); have e0 : w5.cell? ⟨w.heap.size, 0, none⟩ = some (.string x.1) := blk_cell (blk_ext HE5.out B0.out) 0; have e1 : w5.cell? ⟨w.heap.size, 1, none⟩ = some (.string x.2) := blk_cell (blk_ext HE5.out B0.out) 1; unfold srtV; clear ho5 hb5)
      | (go_at_call 123; refine (attrsFit _ (putA l x) _ (by first | exact (HO5.out.in okA).attrs | exact ((HO5.out.in okA).attrs).ext (ext_drew _)) HLG.out HPM.out).mono ?_; rintro e w6 ⟨rfl, hb6⟩; rw [if_neg HBG.out]; have HO6 : Hid (AttT w6 (.slice a5 n5 cap5) (putA l x)) := Lib.hid (by first | exact (ownL_att HO5.out).ext hb6 | exact ((ownL_att HO5.out).ext (ext_drew _)).ext hb6); have HE6 : Hid (Ext W w6) := Lib.hid (by first | exact (HE5.out.trans (ext_drew _)).trans hb6 | exact HE5.out.trans hb6); have y0 : w6.cell? ⟨w.heap.size, 0, none⟩ = some (.string x.1) := blk_cell (blk_ext HE6.out B0.out) 0; have y1 : w6.cell? ⟨w.heap.size, 1, none⟩ = some (.string x.2) := blk_cell (blk_ext HE6.out B0.out) 1; clear hb6)
      | fail)
  go_wp2
  go_ret2
  refine ⟨⟨_, by unfold spE; rw [if_neg (by rw [HF.out]; exact Bool.false_ne_true)]; rfl, ?_⟩, HE.out.trans HE6.out⟩
  unfold spL; rw [if_neg (by rw [HF.out]; exact Bool.false_ne_true)]; exact HO6.out
end Go.Proofs.YtiliglpolcpnbaaGreatDoor
