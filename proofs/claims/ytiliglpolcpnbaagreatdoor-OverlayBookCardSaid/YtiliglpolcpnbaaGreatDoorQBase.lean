/- Plain notions that all later texts share: byte strings as lists of bytes, and small facts on them. -/
/- Contracts of the string functions that the program uses: CutPrefix, HasPrefix, TrimPrefix; a name's check. -/
/- How slices of strings and of attributes lie in memory; slices.Contains of strings. -/
/- What the package-level variables hold: the table of the dialects. -/
import Derived.Test.YtiliglpolcpnbaaGreatDoorRows
import Derived.WalkKit
import Derived.WalkSpells
import Derived.WalkLawsBesides
import Derived.Lib.Hide
import Derived.Lib.LaidTab
import Derived.Lib.Space
import Derived.ChangeSame
import Derived.OpenShut
import Derived.Deep.Strs
namespace Go.Proofs.YtiliglpolcpnbaaGreatDoor
open Go.RowKit

/-- The bytes of a string, and the string of bytes. -/
def L (s : ByteArray) : List UInt8 := s.data.toList
def ofL (l : List UInt8) : ByteArray := ⟨l.toArray⟩

theorem L_ofL (l : List UInt8) : L (ofL l) = l := rfl
theorem ofL_L (s : ByteArray) : ofL (L s) = s := rfl
theorem L_inj {a b : ByteArray} (h : L a = L b) : a = b := by rw [← ofL_L a, ← ofL_L b, h]
theorem L_eq_iff {a b : ByteArray} : L a = L b ↔ a = b := ⟨L_inj, fun h => by rw [h]⟩
theorem size_L (s : ByteArray) : s.size = (L s).length := by
  obtain ⟨⟨l⟩⟩ := s; rfl
theorem size_ofL (l : List UInt8) : (ofL l).size = l.length := by rw [size_L, L_ofL]
theorem toList_L (s : ByteArray) : s.toList = L s := ByteArray.toList_eq s
theorem L_extract (s : ByteArray) (a b : Nat) : L (s.extract a b) = ((L s).drop a).take (b - a) := by
  simp [L, List.extract_eq_take_drop]
theorem L_drop (s : ByteArray) (a : Nat) : L (s.extract a s.size) = (L s).drop a := by
  rw [L_extract, List.take_of_length_le]; rw [List.length_drop, size_L]; exact Nat.le_refl _
theorem L_take (s : ByteArray) (b : Nat) : L (s.extract 0 b) = (L s).take b := by
  rw [L_extract]; simp
theorem L_append (a b : ByteArray) : L (a ++ b) = L a ++ L b := by
  simp [L]
theorem getElem_L (s : ByteArray) (k : Nat) (h : k < s.size) : s[k]'h = (L s)[k]'(by rw [← size_L]; exact h) := by
  obtain ⟨⟨l⟩⟩ := s; rfl

theorem ret_val {a b : Value} (h : a = b) : Ending.returned a = .returned b := by rw [h]

/-- The call returns the value, and the world is as it was. -/
def Ret (P : Program) (f : FuncId) (args : Array Value) (w : World) (v : Value) : Prop :=
  Calls P f args w fun e w' => e = .returned v ∧ w = w'
/-- The call returns the value; what was there is as it was. -/
def RetB (P : Program) (f : FuncId) (args : Array Value) (w : World) (v : Value) : Prop :=
  Calls P f args w fun e w' => e = .returned v ∧ Below w.heap.size w w'

theorem bcell {W w1 : World} {B : Nat} (hb : Below B W w1) : (∀ b o, b < B → w1.cell? ⟨b, o, none⟩ = W.cell? ⟨b, o, none⟩) ∧ (∀ b o, b < B → w1.frozen? ⟨b, o, none⟩ = W.frozen? ⟨b, o, none⟩) :=
  ⟨fun b o h => hb.cell (p := ⟨b, o, none⟩) h, fun b o h => hb.frozen (p := ⟨b, o, none⟩) h⟩
end Go.Proofs.YtiliglpolcpnbaaGreatDoor

namespace Go.Proofs.YtiliglpolcpnbaaGreatDoor
open Go.RowKit

/-- Does the first string begin with the second one? -/
def hasP (s t : ByteArray) : Bool := (L t).isPrefixOf (L s)
def cutP (s t : ByteArray) : ByteArray := if hasP s t then s.extract t.size s.size else s

theorem take_prefix {l m : List UInt8} (_h : m.length ≤ l.length) : (l.take m.length == m) = m.isPrefixOf l := by
  rw [Bool.eq_iff_iff, beq_iff_eq, List.isPrefixOf_iff_prefix, List.prefix_iff_eq_take]; exact eq_comm
theorem hasP_long {s t : ByteArray} (h : t.size ≤ s.size) : ((s.extract 0 t.size).toList == t.toList) = hasP s t := by
  rw [toList_L, toList_L, L_take, size_L]; exact take_prefix (by rw [← size_L, ← size_L]; exact h)
theorem hasP_short {s t : ByteArray} (h : ¬ t.size ≤ s.size) : hasP s t = false := by
  rw [Bool.eq_false_iff]; intro hp
  have := (List.isPrefixOf_iff_prefix.1 hp).length_le
  rw [← size_L, ← size_L] at this; exact h this
theorem hasP_size {s t : ByteArray} (h : hasP s t = true) : t.size ≤ s.size := by
  have := (List.isPrefixOf_iff_prefix.1 h).length_le
  rw [← size_L, ← size_L] at this; exact this

theorem cutP_le (s t : ByteArray) : (cutP s t).size ≤ s.size := by
  unfold cutP; split
  · have := size_L s; rw [size_L, L_drop, List.length_drop]; omega
  · exact Nat.le_refl _
theorem slHasPrefix (s t : ByteArray) (w : World) : Ret Tryz.prog 193 #[.string s, .string t] w (.bool (hasP s t)) := by
  unfold Ret
  by_cases h : t.size ≤ s.size
  · have h1 := hasP_long h
    go_enter Tryz.func193, Tryz.ntmps193
    go_wp2
    go_ret
    exact ⟨rfl, rfl⟩
  · have h1 := hasP_short h
    go_enter Tryz.func193, Tryz.ntmps193
    go_wp2
    go_ret
    exact ⟨by simp [h1], rfl⟩
theorem slCutPrefix (s t : ByteArray) (w : World) : Ret Tryz.prog 174 #[.string s, .string t] w (.tuple #[.string (cutP s t), .bool (hasP s t)]) := by
  unfold Ret
  cases h : hasP s t
  · go_enter Tryz.func174, Tryz.ntmps174
    go_wp2_with (go_at_call 193; refine (slHasPrefix _ _ _).mono ?_; rintro e w' ⟨rfl, rfl⟩)
    go_ret2
    exact ⟨by simp [cutP, h], rfl⟩
  · have h1 := hasP_size h
    go_enter Tryz.func174, Tryz.ntmps174
    go_wp2_with (go_at_call 193; refine (slHasPrefix _ _ _).mono ?_; rintro e w' ⟨rfl, rfl⟩)
    go_ret2
    exact ⟨by simp [cutP, h], rfl⟩
theorem cutPrefix (s t : ByteArray) (w : World) : Ret Tryz.prog 152 #[.string s, .string t] w (.tuple #[.string (cutP s t), .bool (hasP s t)]) := by
  unfold Ret
  go_enter Tryz.func152, Tryz.ntmps152
  go_wp2_with (go_at_call 174; refine (slCutPrefix _ _ _).mono ?_; rintro e w' ⟨rfl, rfl⟩)
  go_ret2
  exact ⟨rfl, rfl⟩
/-- A byte that no name has. -/
def badC (c : Int) : Bool := decide (c < 33) || decide (126 < c) || decide (c = 47)
theorem pathsBad (c : Int) (w : World) : Ret Tryz.prog 168 #[.int .i32 c] w (.bool (badC c)) := by
  unfold Ret
  by_cases h1 : c < 33
  · go_enter Tryz.func168, Tryz.ntmps168
    go_wp2
    go_ret
    exact ⟨by simp [badC, h1], rfl⟩
  by_cases h2 : 126 < c
  · go_enter Tryz.func168, Tryz.ntmps168
    go_wp2
    go_ret
    exact ⟨by simp [badC, h2], rfl⟩
  · have h3 : (c == 47) = badC c := by rw [Bool.eq_iff_iff]; simp [badC]; omega
    go_enter Tryz.func168, Tryz.ntmps168
    go_wp2
    go_ret
    exact ⟨rfl, rfl⟩

/-- Of a predicate on runes that all runes from 128 on meet: does a byte meet it? -/
def pB (p : Int → Bool) (b : UInt8) : Bool := p b.toNat
def fbI (p : Int → Bool) (l : List UInt8) : Int := if l.any (pB p) then (l.findIdx (pB p) : Int) else -1
theorem fbI_hit (p : Int → Bool) (s : ByteArray) (pos : Nat) (h : pos < s.size) (hb : ((L s).take pos).any (pB p) = false) (hp : pB p (s[pos]'h) = true) : fbI p (L s) = pos := by
  have hl : pos < (L s).length := by rw [← size_L]; exact h
  have e : L s = (L s).take pos ++ s[pos]'h :: (L s).drop (pos + 1) := by
    rw [getElem_L]; simp
  have hn : ∀ x ∈ (L s).take pos, ¬ pB p x = true := by simpa using hb
  unfold fbI
  have ha : (L s).any (pB p) = true := by rw [e]; simp [hp]
  rw [if_pos ha]
  congr 1
  rw [e, List.findIdx_append, if_neg (by rw [List.findIdx_lt_length]; simpa using hb)]
  simp [List.findIdx_cons, hp]; omega
theorem any_take_succ (p : Int → Bool) (s : ByteArray) (pos : Nat) (h : pos < s.size) (hb : ((L s).take pos).any (pB p) = false) (hp : pB p (s[pos]'h) = false) : ((L s).take (pos + 1)).any (pB p) = false := by
  have hl : pos < (L s).length := by rw [← size_L]; exact h
  rw [List.take_succ_eq_append_getElem hl, List.any_append, hb, ← getElem_L s pos h]; simp [hp]
theorem dec_p (p : Int → Bool) (hh : ∀ c : Int, 128 ≤ c → p c = true) (s : ByteArray) (pos : Nat) (h : pos < s.size) : p (Utf8.decode s pos).1 = pB p (s[pos]'h) := by
  by_cases ha : (s[pos]'h).toNat < 128
  · rw [decode_ascii s pos h ha]; rfl
  · have := (decode_high s pos h (by omega)).1
    rw [hh _ (by omega)]; unfold pB; rw [hh _ (by omega)]
theorem dec_w (p : Int → Bool) (hh : ∀ c : Int, 128 ≤ c → p c = true) (s : ByteArray) (pos : Nat) (h : pos < s.size) (hp : pB p (s[pos]'h) = false) : (Utf8.decode s pos).2 = 1 := by
  by_cases ha : (s[pos]'h).toNat < 128
  · rw [decode_ascii s pos h ha]
  · unfold pB at hp; rw [hh _ (by omega)] at hp; cases hp


/-- A function of the program on runes that reads nothing. -/
structure PredFn (g : FuncId) (p : Int → Bool) : Prop where
  enter : ∀ a w, (callFunc g #[a]).run Tryz.prog w = .ok (.enter g #[a]) w
  ret : ∀ c w, Ret Tryz.prog g #[.int .i32 c] w (.bool (p c))
  high : ∀ c : Int, 128 ≤ c → p c = true

set_option maxRecDepth 100000 in
theorem strIndexFuncI (g : FuncId) (p : Int → Bool) (hg : PredFn g p) (s : ByteArray) (w : World) :
    RetB Tryz.prog 213 #[.string s, .func (.func g) #[] #[], .bool true] w (.int .i64 (fbI p (L s))) := by
  unfold RetB
  have he := hg.enter
  have HG := Lib.hid hg; clear hg
  go_enter Tryz.func213, Tryz.ntmps213
  go_wp2
  go_loopw [6] (fun _ w' => ∃ pos : Nat, pos ≤ s.size ∧ w' = w.iter s pos ∧ ((L s).take pos).any (pB p) = false) (fun _ w' => s.size - w'.iterPos w.heap.size)
  case atStart => exact ⟨0, Nat.zero_le _, rfl, by simp⟩
  case round =>
    obtain ⟨pos, hle, rfl, hb⟩ := hrel
    have HB := Lib.hid hb; clear hb
    by_cases hp : pos < s.size
    · have hnx : ∀ ty, (Instr.next (.pointer (some ⟨w.heap.size, 0, none⟩)) true ty).run Tryz.prog (w.iter s pos) = _ := fun ty => run_next_any w s pos ty hp
      have hd := dec_p p HG.out.high s pos hp
      cases hb : pB p (s[pos]'hp)
      · rw [hb] at hd
        have hw1 := dec_w p HG.out.high s pos hp hb
        have HN := Lib.hid (any_take_succ p s pos hp HB.out hb); clear hb HB
        have HW := Lib.hid hw1; clear hw1
        have HD := Lib.hid hd; clear hd
        go_wp2_with fail
        refine (HG.out.ret _ _).mono ?_
        rintro e w' ⟨rfl, rfl⟩
        rw [HD.out, HW.out]
        go_wp2
        go_roundw
        case rel => exact ⟨pos + 1, by omega, rfl, HN.out⟩
        case measure => simp; omega
      · rw [hb] at hd
        have HF := Lib.hid (fbI_hit p s pos hp HB.out hb); clear hb HB
        have HD := Lib.hid hd; clear hd
        go_wp2_with fail
        refine (HG.out.ret _ _).mono ?_
        rintro e w' ⟨rfl, rfl⟩
        rw [HD.out]
        go_wp2
        go_ret
        exact ⟨by rw [HF.out]; rfl, (Below.refl _ _).alloc (Nat.le_refl _) _⟩
    · have hnx : ∀ ty, (Instr.next (.pointer (some ⟨w.heap.size, 0, none⟩)) true ty).run Tryz.prog (w.iter s pos) = _ := fun ty => run_next_end w s pos ty hp
      have HF : Hid (fbI p (L s) = -1) := by
        have hb := HB.out
        rw [List.take_of_length_le (by rw [← size_L]; omega)] at hb
        unfold fbI; rw [if_neg (by rw [hb]; simp)]; exact rfl
      go_wp2
      go_ret
      exact ⟨by rw [HF.out]; rfl, (Below.refl _ _).alloc (Nat.le_refl _) _⟩
theorem strIndexFunc (g : FuncId) (p : Int → Bool) (hg : PredFn g p) (s : ByteArray) (w : World) :
    RetB Tryz.prog 190 #[.string s, .func (.func g) #[] #[]] w (.int .i64 (fbI p (L s))) := by
  unfold RetB
  have HG := Lib.hid hg; clear hg
  go_enter Tryz.func190, Tryz.ntmps190
  go_wp2_with (go_at_call 213; refine (strIndexFuncI g p HG.out s w).mono ?_; rintro e w' ⟨rfl, hb⟩)
  go_ret
  exact ⟨rfl, hb⟩
theorem strContainsFunc (g : FuncId) (p : Int → Bool) (hg : PredFn g p) (s : ByteArray) (w : World) :
    RetB Tryz.prog 167 #[.string s, .func (.func g) #[] #[]] w (.bool ((L s).any (pB p))) := by
  unfold RetB
  have HG := Lib.hid hg; clear hg
  cases h : (L s).any (pB p)
  · have h1 : fbI p (L s) = -1 := by unfold fbI; rw [if_neg (by rw [h]; simp)]
    go_enter Tryz.func167, Tryz.ntmps167
    go_wp2_with (go_at_call 190; refine (strIndexFunc g p HG.out s w).mono ?_; rintro e w' ⟨rfl, hb⟩)
    go_ret
    exact ⟨rfl, hb⟩
  · have h1 : 0 ≤ fbI p (L s) := by unfold fbI; rw [if_pos h]; omega
    go_enter Tryz.func167, Tryz.ntmps167
    go_wp2_with (go_at_call 190; refine (strIndexFunc g p HG.out s w).mono ?_; rintro e w' ⟨rfl, hb⟩)
    go_ret
    exact ⟨rfl, hb⟩
theorem badFn : PredFn 168 badC where
  enter := by intro a w; kernel_rfl
  ret := pathsBad
  high := by intro c h; simp [badC]; omega
end Go.Proofs.YtiliglpolcpnbaaGreatDoor

namespace Go.Proofs.YtiliglpolcpnbaaGreatDoor
open Go.RowKit

abbrev Ext (w w' : World) : Prop := Below w.heap.size w w'
theorem Ext.trans {a b c : World} (h : Ext a b) (k : Ext b c) : Ext a c := Below.trans h (Below.mono k h.size)
theorem ext_alloc (w : World) (o : Obj) : Ext w (w.alloc o) := (Below.refl _ _).alloc (Nat.le_refl _) o
theorem ext_cell {w w' : World} (h : Ext w w') {b o : Nat} (hb : b < w.heap.size) : w'.cell? ⟨b, o, none⟩ = w.cell? ⟨b, o, none⟩ := h.cell (p := ⟨b, o, none⟩) hb

/-- The slice reads as this list of strings. -/
def StrsAt (w : World) (v : Value) (l : List ByteArray) : Prop :=
  ∃ a cap, v = .slice a l.length cap ∧ l.length ≤ cap ∧ ∀ k (h : k < l.length), ∃ b off, a = some ⟨b, off, none⟩ ∧ b < w.heap.size ∧ w.cell? ⟨b, off + k, none⟩ = some (.string (l[k]'h))
theorem StrsAt.ext {w w' : World} {v : Value} {l : List ByteArray} (h : StrsAt w v l) (he : Ext w w') : StrsAt w' v l := by
  obtain ⟨a, cap, hv, hcap, hc⟩ := h
  refine ⟨a, cap, hv, hcap, fun k hk => ?_⟩
  obtain ⟨b, off, ha, hb, h1⟩ := hc k hk
  exact ⟨b, off, ha, Nat.lt_of_lt_of_le hb he.size, by rw [ext_cell he hb]; exact h1⟩

abbrev Attr := ByteArray × ByteArray
/-- The slice reads as this list of attributes. -/
def AttrsAt (w : World) (v : Value) (l : List Attr) : Prop :=
  ∃ a cap, v = .slice a l.length cap ∧ l.length ≤ cap ∧ ∀ k (h : k < l.length), ∃ b off, a = some ⟨b, off, none⟩ ∧ b < w.heap.size ∧ w.cell? ⟨b, off + k * 2, none⟩ = some (.string (l[k]'h).1) ∧ w.cell? ⟨b, off + k * 2 + 1, none⟩ = some (.string (l[k]'h).2)
theorem AttrsAt.ext {w w' : World} {v : Value} {l : List Attr} (h : AttrsAt w v l) (he : Ext w w') : AttrsAt w' v l := by
  obtain ⟨a, cap, hv, hcap, hc⟩ := h
  refine ⟨a, cap, hv, hcap, fun k hk => ?_⟩
  obtain ⟨b, off, ha, hb, h1, h2⟩ := hc k hk
  exact ⟨b, off, ha, Nat.lt_of_lt_of_le hb he.size, by rw [ext_cell he hb]; exact h1, by rw [ext_cell he hb]; exact h2⟩
theorem AttrsAt.nil (w : World) (a : Option Addr) (cap : Nat) : AttrsAt w (.slice a 0 cap) [] := ⟨a, cap, rfl, Nat.zero_le _, fun k hk => absurd hk (by simp)⟩

def hasS (l : List ByteArray) (s : ByteArray) : Bool := (l.map L).contains (L s)
/-- A place, if the string is there, or a number below 0. -/
def IsIdx (l : List ByteArray) (s : ByteArray) (e : Ending) : Prop := ∃ i : Int, e = .returned (.int .i64 i) ∧ (0 ≤ i ↔ (l.map L).contains (L s) = true)
theorem slIndexStr (v : Value) (l : List ByteArray) (s : ByteArray) (w : World) (hv : StrsAt w v l) (hl : l.length ≤ 1000000) :
    Calls Tryz.prog 178 #[v, .string s] w fun e w' => IsIdx l s e ∧ w = w' := by
  obtain ⟨a, cap, rfl, hcap, hc⟩ := hv
  have HC := Lib.hid hc; clear hc
  go_enter Tryz.func178, Tryz.ntmps178
  go_wp2
  go_loop [8] (fun i => ∃ k : Nat, k ≤ l.length ∧ i = .int .i64 k ∧ ∀ j (h : j < l.length), j < k → L (l[j]'h) ≠ L s) (fun i => l.length - (intOf i).toNat)
  case atStart => exact ⟨0, Nat.zero_le _, rfl, fun j hj h0 => absurd h0 (by omega)⟩
  case round =>
    obtain ⟨k, hk, rfl, hb⟩ := hrel
    have HB := Lib.hid hb; clear hb
    by_cases hlt : k < l.length
    · obtain ⟨b, off, rfl, hbs, h1⟩ := HC.out k hlt
      cases he : s.toList == (l[k]'hlt).toList
      · have HB2 : Hid (∀ j (h : j < l.length), j < k + 1 → L (l[j]'h) ≠ L s) := by
          intro j hj hjk
          by_cases e : j = k
          · subst e; rw [toList_L, toList_L] at he; simpa using fun h => (beq_eq_false_iff_ne.1 he) h.symm
          · exact HB.out j hj (by omega)
        go_wp2
        go_round
        case rel => exact ⟨k + 1, by omega, by go_num, HB2.out⟩
        case measure => simp [intOf]; omega
      · have HF : Hid ((l.map L).contains (L s) = true) := by
          rw [toList_L, toList_L] at he
          rw [List.contains_iff_mem, List.mem_map]
          exact ⟨_, List.getElem_mem hlt, (beq_iff_eq.1 he).symm⟩
        go_wp2
        go_ret
        exact ⟨⟨k, rfl, fun _ => HF.out, fun _ => by omega⟩, rfl⟩
    · have HF : Hid (¬ (l.map L).contains (L s) = true) := by
        rw [List.contains_iff_mem, List.mem_map]
        rintro ⟨x, hx, hxe⟩
        obtain ⟨j, hj, rfl⟩ := List.getElem_of_mem hx
        exact HB.out j hj (by omega) hxe
      go_wp2
      go_ret
      exact ⟨⟨-1, rfl, fun h => absurd h (by decide), fun h => absurd h HF.out⟩, rfl⟩
theorem slContainsStr (v : Value) (l : List ByteArray) (s : ByteArray) (w : World) (hv : StrsAt w v l) (hl : l.length ≤ 1000000) :
    Ret Tryz.prog 156 #[v, .string s] w (.bool (hasS l s)) := by
  unfold Ret
  have HV := Lib.hid hv
  obtain ⟨a, cap, rfl, hcap, hc⟩ := hv
  clear hc
  unfold hasS
  cases hm : (l.map L).contains (L s)
  · have HM := Lib.hid hm; clear hm
    go_enter Tryz.func156, Tryz.ntmps156
    go_wp2_with fail
    refine (slIndexStr _ l s _ HV.out hl).mono ?_
    rintro e w' ⟨⟨i, rfl, hi⟩, rfl⟩
    have hi2 : i < 0 := by
      rw [HM.out] at hi; simp only [Bool.false_eq_true, iff_false] at hi; omega
    clear hi
    go_wp2
    go_ret
    exact ⟨by simp [Int.not_le.2 hi2], rfl⟩
  · have HM := Lib.hid hm; clear hm
    go_enter Tryz.func156, Tryz.ntmps156
    go_wp2_with fail
    refine (slIndexStr _ l s _ HV.out hl).mono ?_
    rintro e w' ⟨⟨i, rfl, hi⟩, rfl⟩
    have hi2 : 0 ≤ i := hi.2 HM.out
    clear hi
    go_wp2
    go_ret
    exact ⟨by simp, rfl⟩
end Go.Proofs.YtiliglpolcpnbaaGreatDoor

namespace Go.Proofs.YtiliglpolcpnbaaGreatDoor
open Go.RowKit Go.Deep

theorem gDia : Tryz.prog.globalNamed "limewash/escape.dialects" = some 0 := by kernel_rfl
theorem gAsc : Tryz.prog.globalNamed "strings.asciiSpace" = some 2 := by kernel_rfl
theorem gDiaT : (Tryz.prog.globals[0]?).map (·.type) = some 162 := by kernel_rfl
theorem gAscT : (Tryz.prog.globals[2]?).map (·.type) = some 230 := by kernel_rfl
theorem cellsAsc : Tryz.prog.cellsOf 230 = 256 := by kernel_rfl
theorem cellsU8 : Tryz.prog.cellsOf 5 = 1 := by kernel_rfl
theorem cellsDia : Tryz.prog.cellsOf 162 = 15 := by kernel_rfl
theorem cellsDia1 : Tryz.prog.cellsOf 161 = 3 := by kernel_rfl
theorem cellsStr : Tryz.prog.cellsOf 9 = 1 := by kernel_rfl

/-- The rows of the table: what is written before names, behind that if they begin so, and the marks. -/
def diaRows : List (List UInt8 × List UInt8 × List UInt8) :=
  [([], [], []),
   ([116, 114, 117, 115, 116, 101, 100, 46, 111, 118, 101, 114, 108, 97, 121, 46], [111, 118, 101, 114, 108, 97, 121, 46], [110, 108, 105, 110, 107, 32, 111, 112, 97, 113, 117, 101, 32, 114, 101, 100, 105, 114, 101, 99, 116]),
   ([117, 115, 101, 114, 46, 102, 117, 115, 101, 111, 118, 101, 114, 108, 97, 121, 102, 115, 46], [102, 117, 115, 101, 46], [110, 108, 105, 110, 107, 32, 111, 112, 97, 113, 117, 101, 32, 114, 101, 100, 105, 114, 101, 99, 116, 32, 119, 104, 105, 116, 101, 111, 117, 116]),
   ([], [], []),
   ([98, 115, 100, 46], [98, 115, 100, 46], [111, 112, 97, 113, 117, 101])]
def diaP (n : Nat) : List UInt8 := (diaRows.getD n ([], [], [])).1
def diaI (n : Nat) : List UInt8 := (diaRows.getD n ([], [], [])).2.1
def diaM (n : Nat) : List UInt8 := (diaRows.getD n ([], [], [])).2.2
theorem laidDia {H : Type} : (Rows.laid_limewash_escape_dialects : DataW H) = .agg (diaRows.map fun r => .agg [.lit (.string r.1), .lit (.string r.2.1), .lit (.string r.2.2)]) := rfl

theorem one_cell {cs : List Value} {i : Nat} {s : ByteArray} (h : (cs.drop i).take 1 = [Value.string s]) : cs[i]? = some (.string s) := by
  have := congrArg (·[0]?) h
  simpa [List.getElem?_take, List.getElem?_drop] using this
theorem dia_cells {H : Type} {enc : TypeId × Value → H} {w : World} {base : Nat} {sp : Nat → Bool} {held : Bool} {fuel : Nat} {cs : List Value} {p : List MemPlace}
    (h : DataW.trod enc Tryz.prog w base sp held fuel 162 cs = some (Rows.laid_limewash_escape_dialects, p)) (n : Nat) (hn : n < 5) :
    cs[n * 3]? = some (.string (ofL (diaP n))) ∧ cs[n * 3 + 1]? = some (.string (ofL (diaI n))) ∧ cs[n * 3 + 2]? = some (.string (ofL (diaM n))) := by
  rw [laidDia] at h
  obtain ⟨xs, m, _, hx, hl, hlen, hf⟩ := DataW.trod_array Tryz.underlying162 h
  rw [cellsDia] at hl
  rw [cellsDia1] at hf
  have h1 := congrArg Prod.fst hx
  simp only [DataW.agg.injEq] at h1
  have hn2 := hf n hn
  obtain ⟨y, hy⟩ : ∃ y, xs[n]? = some y := ⟨xs[n]'(by omega), List.getElem?_eq_getElem (by omega)⟩
  rw [hy] at hn2
  have hy1 : (xs.map (·.1))[n]? = some y.1 := by rw [List.getElem?_map, hy]; rfl
  rw [← h1] at hy1
  obtain ⟨y0, y1, y2, q, he, hcl, t0, t1, t2⟩ := trod_struct3 Tryz.underlying161 hn2
  simp only [cellsStr] at t0 t1 t2
  obtain ⟨s0, c0, e0, _⟩ := DataW.trod_string Tryz.underlying9 t0
  obtain ⟨s1, c1, e1, _⟩ := DataW.trod_string Tryz.underlying9 t1
  obtain ⟨s2, c2, e2, _⟩ := DataW.trod_string Tryz.underlying9 t2
  have hr : (diaRows[n]?).map (fun r => (DataW.agg [.lit (.string r.1), .lit (.string r.2.1), .lit (.string r.2.2)] : DataW H)) = some (.agg [.lit (.string s0.data.toList), .lit (.string s1.data.toList), .lit (.string s2.data.toList)]) := by
    rw [List.getElem?_map] at hy1; rw [hy1, he, e0, e1, e2]
  have hd : ∃ r, diaRows[n]? = some r := ⟨_, List.getElem?_eq_getElem (show n < diaRows.length from hn)⟩
  obtain ⟨r, hd⟩ := hd
  rw [hd] at hr
  simp only [Option.map_some, Option.some.injEq, DataW.agg.injEq, List.cons.injEq, DataW.lit.injEq, Lit.string.injEq, and_true] at hr
  have hg : diaRows.getD n ([], [], []) = r := by rw [List.getD_eq_getElem?_getD, hd]; rfl
  have cut : ∀ (j : Nat) (s : ByteArray), ((List.take 3 (List.drop (n * 3) cs)).drop j).take 1 = [Value.string s] → j < 3 → cs[n * 3 + j]? = some (.string s) := by
    intro j s hs hj
    have := one_cell hs
    rw [List.getElem?_take, if_pos hj, List.getElem?_drop] at this
    exact this
  refine ⟨?_, ?_, ?_⟩
  · have := cut 0 s0 c0 (by omega)
    have e : ofL (diaP n) = s0 := by unfold diaP; rw [hg, hr.1]; exact ofL_L s0
    rw [e]; exact this
  · have := cut 1 s1 c1 (by omega)
    have e : ofL (diaI n) = s1 := by unfold diaI; rw [hg, hr.2.1]; exact ofL_L s1
    rw [e]; exact this
  · have := cut 2 s2 c2 (by omega)
    have e : ofL (diaM n) = s2 := by unfold diaM; rw [hg, hr.2.2]; exact ofL_L s2
    rw [e]; exact this

/-- What all walks ask of the package-level variables. -/
structure Laid (w : World) : Prop where
  size : 0 < w.heap.size ∧ 2 < w.heap.size
  dia : ∀ n, n < 5 → w.cell? ⟨0, n * 3, none⟩ = some (.string (ofL (diaP n))) ∧ w.cell? ⟨0, n * 3 + 1, none⟩ = some (.string (ofL (diaI n))) ∧ w.cell? ⟨0, n * 3 + 2, none⟩ = some (.string (ofL (diaM n)))
  asc : Lib.TabIs Tryz.prog w "strings.asciiSpace" .u8 Lib.asciiSpaceTab
theorem Laid.ext {w w' : World} (h : Laid w) (he : Ext w w') : Laid w' where
  size := ⟨Nat.lt_of_lt_of_le h.size.1 he.size, Nat.lt_of_lt_of_le h.size.2 he.size⟩
  dia := fun n hn => by
    obtain ⟨a, b, c⟩ := h.dia n hn
    exact ⟨by rw [ext_cell he h.size.1]; exact a, by rw [ext_cell he h.size.1]; exact b, by rw [ext_cell he h.size.1]; exact c⟩
  asc := by
    have ha := h.asc
    unfold Lib.TabIs at ha ⊢
    exact var?_below he gAsc h.size.2 ha
end Go.Proofs.YtiliglpolcpnbaaGreatDoor
