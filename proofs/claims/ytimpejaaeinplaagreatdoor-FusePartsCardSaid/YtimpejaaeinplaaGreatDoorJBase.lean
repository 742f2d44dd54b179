/- Base Str Data Laid Esc AttrA Own AttrC AttrR SortP EscP EscB OwnD -/
import Derived.Test.YtimpejaaeinplaaGreatDoorJI0
import Derived.Test.YtimpejaaeinplaaGreatDoorRows
namespace Go.Proofs.YtimpejaaeinplaaGreatDoor
open Go.RowKit
theorem hQq {p : Prop} (h : p) : Hid p := Lib.hid h
theorem nB {α : Type} [BEq α] [LawfulBEq α] {a b : α} (h : a ≠ b) : (a == b) = false := beq_eq_false_iff_ne.2 h
theorem oI {α : Type _} {a b : α} (h : some a = some b) : a = b := Option.some.inj h
theorem bR (B : Nat) (w : World) : Below B w w := Below.refl B w
def L (s : ByteArray) : List UInt8 := s.data.toList
def ofL (l : List UInt8) : ByteArray := ⟨l.toArray⟩
theorem L_ofL (l : List UInt8) : L (ofL l) = l := rfl
theorem ofL_L (s : ByteArray) : ofL (L s) = s := rfl
theorem L_inj {a b : ByteArray} (h : L a = L b) : a = b := by rw [<- ofL_L a, <- ofL_L b, h]
theorem L_eq_iff {a b : ByteArray} : L a = L b ↔ a = b := ⟨L_inj, fun h => by rw [h]⟩
theorem size_L (s : ByteArray) : s.size = (L s).length := by
 obtain ⟨⟨l⟩⟩ := s; rfl
theorem size_ofL (l : List UInt8) : (ofL l).size = l.length := by rw [size_L, L_ofL]
theorem tL (s : ByteArray) : s.toList = L s := ByteArray.toList_eq s
theorem L_extract (s : ByteArray) (a b : Nat) : L (s.extract a b) = ((L s).drop a).take (b - a) := by
 simp [L, List.extract_eq_take_drop]
theorem L_drop (s : ByteArray) (a : Nat) : L (s.extract a s.size) = (L s).drop a := by
 rw [L_extract, List.take_of_length_le]; rw [List.length_drop, size_L]; exact Nat.le_refl _
theorem L_take (s : ByteArray) (b : Nat) : L (s.extract 0 b) = (L s).take b := by
 rw [L_extract]; simp
theorem L_append (a b : ByteArray) : L (a ++ b) = L a ++ L b := by
 simp [L]
theorem getElem_L (s : ByteArray) (k : Nat) (h : k < s.size) : s[k]'h = (L s)[k]'(by rw [<- size_L]; exact h) := by
 obtain ⟨⟨l⟩⟩ := s; rfl
theorem ret_val {a b : Value} (h : a = b) : Ending.returned a = .returned b := by rw [h]
def Ret (P : Program) (f : FuncId) (args : Array Value) (w : World) (v : Value) : Prop :=
 Calls P f args w fun e w' => e = .returned v /\ w = w'
def RetB (P : Program) (f : FuncId) (args : Array Value) (w : World) (v : Value) : Prop :=
 Calls P f args w fun e w' => e = .returned v /\ Below w.heap.size w w'
theorem bcell {W w1 : World} {B : Nat} (hb : Below B W w1) : (∀ b o, b < B -> w1.cell? ⟨b, o, none⟩ = W.cell? ⟨b, o, none⟩) /\ (∀ b o, b < B -> w1.frozen? ⟨b, o, none⟩ = W.frozen? ⟨b, o, none⟩) :=
 ⟨fun b o h => hb.cell (p := ⟨b, o, none⟩) h, fun b o h => hb.frozen (p := ⟨b, o, none⟩) h⟩
def hasP (s t : ByteArray) : Bool := (L t).isPrefixOf (L s)
def cutP (s t : ByteArray) : ByteArray := if hasP s t then s.extract t.size s.size else s
theorem take_prefix {l m : List UInt8} (_h : m.length <= l.length) : (l.take m.length == m) = m.isPrefixOf l := by
 rw [Bool.eq_iff_iff, beq_iff_eq, List.isPrefixOf_iff_prefix, List.prefix_iff_eq_take]; exact eq_comm
theorem hasP_long {s t : ByteArray} (h : t.size <= s.size) : ((s.extract 0 t.size).toList == t.toList) = hasP s t := by
 rw [tL, tL, L_take, size_L]; exact take_prefix (by rw [<- size_L, <- size_L]; exact h)
theorem hasP_short {s t : ByteArray} (h : ¬ t.size <= s.size) : hasP s t = false := by
 rw [Bool.eq_false_iff]; intro hp
 have := (List.isPrefixOf_iff_prefix.1 hp).length_le
 rw [<- size_L, <- size_L] at this; exact h this
theorem hasP_size {s t : ByteArray} (h : hasP s t = true) : t.size <= s.size := by
 have := (List.isPrefixOf_iff_prefix.1 h).length_le
 rw [<- size_L, <- size_L] at this; exact this
theorem cutP_le (s t : ByteArray) : (cutP s t).size <= s.size := by
 unfold cutP; split
 ·have := size_L s; rw [size_L, L_drop, List.length_drop]; omega
 ·exact Nat.le_refl _
def badC (c : Int) : Bool := decide (c < 33) || decide (126 < c) || decide (c = 47)
def pB (p : Int -> Bool) (b : UInt8) : Bool := p b.toNat
def fbI (p : Int -> Bool) (l : List UInt8) : Int := if l.any (pB p) then (l.findIdx (pB p) : Int) else -1
theorem fbI_hit (p : Int -> Bool) (s : ByteArray) (pos : Nat) (h : pos < s.size) (hb : ((L s).take pos).any (pB p) = false) (hp : pB p (s[pos]'h) = true) : fbI p (L s) = pos := by
 have hl : pos < (L s).length := by rw [<- size_L]; exact h
 have e : L s = (L s).take pos ++ s[pos]'h :: (L s).drop (pos + 1) := by
  rw [getElem_L]; simp
 have hn : ∀ x ∈ (L s).take pos, ¬ pB p x = true := by simpa using hb
 unfold fbI
 have ha : (L s).any (pB p) = true := by rw [e]; simp [hp]
 rw [if_pos ha]
 congr 1
 rw [e, List.findIdx_append, if_neg (by rw [List.findIdx_lt_length]; simpa using hb)]
 simp [List.findIdx_cons, hp]; omega
theorem any_take_succ (p : Int -> Bool) (s : ByteArray) (pos : Nat) (h : pos < s.size) (hb : ((L s).take pos).any (pB p) = false) (hp : pB p (s[pos]'h) = false) : ((L s).take (pos + 1)).any (pB p) = false := by
 have hl : pos < (L s).length := by rw [<- size_L]; exact h
 rw [List.take_succ_eq_append_getElem hl, List.any_append, hb, <- getElem_L s pos h]; simp [hp]
theorem dec_p (p : Int -> Bool) (hh : ∀ c : Int, 128 <= c -> p c = true) (s : ByteArray) (pos : Nat) (h : pos < s.size) : p (Utf8.decode s pos).1 = pB p (s[pos]'h) := by
 by_cases ha : (s[pos]'h).toNat < 128
 ·rw [decode_ascii s pos h ha]; rfl
 ·have := (decode_high s pos h (by omega)).1
  rw [hh _ (by omega)]; unfold pB; rw [hh _ (by omega)]
theorem dec_w (p : Int -> Bool) (hh : ∀ c : Int, 128 <= c -> p c = true) (s : ByteArray) (pos : Nat) (h : pos < s.size) (hp : pB p (s[pos]'h) = false) : (Utf8.decode s pos).2 = 1 := by
 by_cases ha : (s[pos]'h).toNat < 128
 ·rw [decode_ascii s pos h ha]
 ·unfold pB at hp; rw [hh _ (by omega)] at hp; cases hp
structure PredFn (g : FuncId) (p : Int -> Bool) : Prop where
 enter : ∀ a w, (callFunc g #[a]).run Tryz.prog w = .ok (.enter g #[a]) w
 ret : ∀ c w, Ret Tryz.prog g #[.int .i32 c] w (.bool (p c))
 high : ∀ c : Int, 128 <= c -> p c = true
theorem slHasPrefix (s t : ByteArray) (w : World) : Ret Tryz.prog 240 #[.string s, .string t] w (.bool (hasP s t)) := by
 unfold Ret
 by_cases h : t.size <= s.size
 ·have h1 := hasP_long h
  go_enter Tryz.func240, Tryz.ntmps240
  go_wp2
  go_ret
  exact ⟨rfl, rfl⟩
 ·have h1 := hasP_short h
  go_enter Tryz.func240, Tryz.ntmps240
  go_wp2
  go_ret
  exact ⟨by simp [h1], rfl⟩
theorem slCutPrefix (s t : ByteArray) (w : World) : Ret Tryz.prog 218 #[.string s, .string t] w (.tuple #[.string (cutP s t), .bool (hasP s t)]) := by
 unfold Ret
 cases h : hasP s t
 ·go_enter Tryz.func218, Tryz.ntmps218
  go_wp2_with (go_at_call 240; refine (slHasPrefix _ _ _).mono ?_; rintro e w' ⟨rfl, rfl⟩)
  go_ret2
  exact ⟨by simp [cutP, h], rfl⟩
 ·have h1 := hasP_size h
  go_enter Tryz.func218, Tryz.ntmps218
  go_wp2_with (go_at_call 240; refine (slHasPrefix _ _ _).mono ?_; rintro e w' ⟨rfl, rfl⟩)
  go_ret2
  exact ⟨by simp [cutP, h], rfl⟩
theorem cutPrefix (s t : ByteArray) (w : World) : Ret Tryz.prog 189 #[.string s, .string t] w (.tuple #[.string (cutP s t), .bool (hasP s t)]) := by
 unfold Ret
 go_enter Tryz.func189, Tryz.ntmps189
 go_wp2_with (go_at_call 218; refine (slCutPrefix _ _ _).mono ?_; rintro e w' ⟨rfl, rfl⟩)
 go_ret2
 exact ⟨rfl, rfl⟩
theorem pathsBad (c : Int) (w : World) : Ret Tryz.prog 185 #[.int .i32 c] w (.bool (badC c)) := by
 unfold Ret
 by_cases h1 : c < 33
 ·go_enter Tryz.func185, Tryz.ntmps185
  go_wp2
  go_ret
  exact ⟨by simp [badC, h1], rfl⟩
 by_cases h2 : 126 < c
 ·go_enter Tryz.func185, Tryz.ntmps185
  go_wp2
  go_ret
  exact ⟨by simp [badC, h2], rfl⟩
 ·have h3 : (c == 47) = badC c := by rw [Bool.eq_iff_iff]; simp [badC]; omega
  go_enter Tryz.func185, Tryz.ntmps185
  go_wp2
  go_ret
  exact ⟨rfl, rfl⟩
set_option maxRecDepth 100000 in
theorem strIndexFuncI (g : FuncId) (p : Int -> Bool) (hg : PredFn g p) (s : ByteArray) (w : World) :
  RetB Tryz.prog 239 #[.string s, .func (.func g) #[] #[], .bool true] w (.int .i64 (fbI p (L s))) := by
 unfold RetB
 have he := hg.enter
 have HG := hQq hg; clear hg
 go_enter Tryz.func239, Tryz.ntmps239
 go_wp2
 go_loopw [6] (fun _ w' => ∃ pos : Nat, pos <= s.size /\ w' = w.iter s pos /\ ((L s).take pos).any (pB p) = false) (fun _ w' => s.size - w'.iterPos w.heap.size)
 case atStart => exact ⟨0, Nat.zero_le _, rfl, by simp⟩
 case round =>
  obtain ⟨pos, hle, rfl, hb⟩ := hrel
  have HB := hQq hb; clear hb
  by_cases hp : pos < s.size
  ·have hnx : ∀ ty, (Instr.next (.pointer (some ⟨w.heap.size, 0, none⟩)) true ty).run Tryz.prog (w.iter s pos) = _ := fun ty => run_next_any w s pos ty hp
   have hd := dec_p p HG.out.high s pos hp
   cases hb : pB p (s[pos]'hp)
   ·rw [hb] at hd
    have hw1 := dec_w p HG.out.high s pos hp hb
    have HN := hQq (any_take_succ p s pos hp HB.out hb); clear hb HB
    have HW := hQq hw1; clear hw1
    have HD := hQq hd; clear hd
    go_wp2_with fail
    refine (HG.out.ret _ _).mono ?_
    rintro e w' ⟨rfl, rfl⟩
    rw [HD.out, HW.out]
    go_wp2
    go_roundw
    case rel => exact ⟨pos + 1, by omega, rfl, HN.out⟩
    case measure => simp; omega
   ·rw [hb] at hd
    have HF := hQq (fbI_hit p s pos hp HB.out hb); clear hb HB
    have HD := hQq hd; clear hd
    go_wp2_with fail
    refine (HG.out.ret _ _).mono ?_
    rintro e w' ⟨rfl, rfl⟩
    rw [HD.out]
    go_wp2
    go_ret
    exact ⟨by rw [HF.out]; rfl, (bR _ _).alloc (Nat.le_refl _) _⟩
  ·have hnx : ∀ ty, (Instr.next (.pointer (some ⟨w.heap.size, 0, none⟩)) true ty).run Tryz.prog (w.iter s pos) = _ := fun ty => run_next_end w s pos ty hp
   have HF : Hid (fbI p (L s) = -1) := by
    have hb := HB.out
    rw [List.take_of_length_le (by rw [<- size_L]; omega)] at hb
    unfold fbI; rw [if_neg (by rw [hb]; simp)]; exact rfl
   go_wp2
   go_ret
   exact ⟨by rw [HF.out]; rfl, (bR _ _).alloc (Nat.le_refl _) _⟩
theorem strIndexFunc (g : FuncId) (p : Int -> Bool) (hg : PredFn g p) (s : ByteArray) (w : World) :
  RetB Tryz.prog 217 #[.string s, .func (.func g) #[] #[]] w (.int .i64 (fbI p (L s))) := by
 unfold RetB
 have HG := hQq hg; clear hg
 go_enter Tryz.func217, Tryz.ntmps217
 go_wp2_with (go_at_call 239; refine (strIndexFuncI g p HG.out s w).mono ?_; rintro e w' ⟨rfl, hb⟩)
 go_ret
 exact ⟨rfl, hb⟩
theorem strContainsFunc (g : FuncId) (p : Int -> Bool) (hg : PredFn g p) (s : ByteArray) (w : World) :
  RetB Tryz.prog 184 #[.string s, .func (.func g) #[] #[]] w (.bool ((L s).any (pB p))) := by
 unfold RetB
 have HG := hQq hg; clear hg
 cases h : (L s).any (pB p)
 ·have h1 : fbI p (L s) = -1 := by unfold fbI; rw [if_neg (by rw [h]; simp)]
  go_enter Tryz.func184, Tryz.ntmps184
  go_wp2_with (go_at_call 217; refine (strIndexFunc g p HG.out s w).mono ?_; rintro e w' ⟨rfl, hb⟩)
  go_ret
  exact ⟨rfl, hb⟩
 ·have h1 : 0 <= fbI p (L s) := by unfold fbI; rw [if_pos h]; omega
  go_enter Tryz.func184, Tryz.ntmps184
  go_wp2_with (go_at_call 217; refine (strIndexFunc g p HG.out s w).mono ?_; rintro e w' ⟨rfl, hb⟩)
  go_ret
  exact ⟨rfl, hb⟩
theorem badFn : PredFn 185 badC where
 enter := by intro a w; kernel_rfl
 ret := pathsBad
 high := by intro c h; simp [badC]; omega
abbrev Ext (w w' : World) : Prop := Below w.heap.size w w'
theorem Ext.trans {a b c : World} (h : Ext a b) (k : Ext b c) : Ext a c := Below.trans h (Below.mono k h.size)
theorem eA (w : World) (o : Obj) : Ext w (w.alloc o) := (bR _ _).alloc (Nat.le_refl _) o
theorem eC {w w' : World} (h : Ext w w') {b o : Nat} (hb : b < w.heap.size) : w'.cell? ⟨b, o, none⟩ = w.cell? ⟨b, o, none⟩ := h.cell (p := ⟨b, o, none⟩) hb
def StrsAt (w : World) (v : Value) (l : List ByteArray) : Prop :=
 ∃ a cap, v = .slice a l.length cap /\ l.length <= cap /\ ∀ k (h : k < l.length), ∃ b off, a = some ⟨b, off, none⟩ /\ b < w.heap.size /\ w.cell? ⟨b, off + k, none⟩ = some (.string (l[k]'h))
theorem StrsAt.ext {w w' : World} {v : Value} {l : List ByteArray} (h : StrsAt w v l) (he : Ext w w') : StrsAt w' v l := by
 obtain ⟨a, cap, hv, hcap, hc⟩ := h
 refine ⟨a, cap, hv, hcap, fun k hk => ?_⟩
 obtain ⟨b, off, ha, hb, h1⟩ := hc k hk
 exact ⟨b, off, ha, Nat.lt_of_lt_of_le hb he.size, by rw [eC he hb]; exact h1⟩
abbrev Attr := ByteArray × ByteArray
def aA (w : World) (v : Value) (l : List Attr) : Prop :=
 ∃ a cap, v = .slice a l.length cap /\ l.length <= cap /\ ∀ k (h : k < l.length), ∃ b off, a = some ⟨b, off, none⟩ /\ b < w.heap.size /\ w.cell? ⟨b, off + k * 2, none⟩ = some (.string (l[k]'h).1) /\ w.cell? ⟨b, off + k * 2 + 1, none⟩ = some (.string (l[k]'h).2)
theorem aA.ext {w w' : World} {v : Value} {l : List Attr} (h : aA w v l) (he : Ext w w') : aA w' v l := by
 obtain ⟨a, cap, hv, hcap, hc⟩ := h
 refine ⟨a, cap, hv, hcap, fun k hk => ?_⟩
 obtain ⟨b, off, ha, hb, h1, h2⟩ := hc k hk
 exact ⟨b, off, ha, Nat.lt_of_lt_of_le hb he.size, by rw [eC he hb]; exact h1, by rw [eC he hb]; exact h2⟩
theorem aA.nil (w : World) (a : Option Addr) (cap : Nat) : aA w (.slice a 0 cap) [] := ⟨a, cap, rfl, Nat.zero_le _, fun k hk => absurd hk (by simp)⟩
def hasS (l : List ByteArray) (s : ByteArray) : Bool := (l.map L).contains (L s)
def IsIdx (l : List ByteArray) (s : ByteArray) (e : Ending) : Prop := ∃ i : Int, e = .returned (.int .i64 i) /\ (0 <= i ↔ (l.map L).contains (L s) = true)
theorem slIndexStr (v : Value) (l : List ByteArray) (s : ByteArray) (w : World) (hv : StrsAt w v l) (hl : l.length <= 1000000) :
  Calls Tryz.prog 226 #[v, .string s] w fun e w' => IsIdx l s e /\ w = w' := by
 obtain ⟨a, cap, rfl, hcap, hc⟩ := hv
 have HC := hQq hc; clear hc
 go_enter Tryz.func226, Tryz.ntmps226
 go_wp2
 go_loop [8] (fun i => ∃ k : Nat, k <= l.length /\ i = .int .i64 k /\ ∀ j (h : j < l.length), j < k -> L (l[j]'h) ≠ L s) (fun i => l.length - (intOf i).toNat)
 case atStart => exact ⟨0, Nat.zero_le _, rfl, fun j hj h0 => absurd h0 (by omega)⟩
 case round =>
  obtain ⟨k, hk, rfl, hb⟩ := hrel
  have HB := hQq hb; clear hb
  by_cases hlt : k < l.length
  ·obtain ⟨b, off, rfl, hbs, h1⟩ := HC.out k hlt
   cases he : s.toList == (l[k]'hlt).toList
   ·have HB2 : Hid (∀ j (h : j < l.length), j < k + 1 -> L (l[j]'h) ≠ L s) := by
     intro j hj hjk
     by_cases e : j = k
     ·subst e; rw [tL, tL] at he; simpa using fun h => (beq_eq_false_iff_ne.1 he) h.symm
     ·exact HB.out j hj (by omega)
    go_wp2
    go_round
    case rel => exact ⟨k + 1, by omega, by go_num, HB2.out⟩
    case measure => simp [intOf]; omega
   ·have HF : Hid ((l.map L).contains (L s) = true) := by
     rw [tL, tL] at he
     rw [List.contains_iff_mem, List.mem_map]
     exact ⟨_, List.getElem_mem hlt, (beq_iff_eq.1 he).symm⟩
    go_wp2
    go_ret
    exact ⟨⟨k, rfl, fun _ => HF.out, fun _ => by omega⟩, rfl⟩
  ·have HF : Hid (¬ (l.map L).contains (L s) = true) := by
    rw [List.contains_iff_mem, List.mem_map]
    rintro ⟨x, hx, hxe⟩
    obtain ⟨j, hj, rfl⟩ := List.getElem_of_mem hx
    exact HB.out j hj (by omega) hxe
   go_wp2
   go_ret
   exact ⟨⟨-1, rfl, fun h => absurd h (by decide), fun h => absurd h HF.out⟩, rfl⟩
theorem slContainsStr (v : Value) (l : List ByteArray) (s : ByteArray) (w : World) (hv : StrsAt w v l) (hl : l.length <= 1000000) :
  Ret Tryz.prog 207 #[v, .string s] w (.bool (hasS l s)) := by
 unfold Ret
 have HV := hQq hv
 obtain ⟨a, cap, rfl, hcap, hc⟩ := hv
 clear hc
 unfold hasS
 cases hm : (l.map L).contains (L s)
 ·have HM := hQq hm; clear hm
  go_enter Tryz.func207, Tryz.ntmps207
  go_wp2_with fail
  refine (slIndexStr _ l s _ HV.out hl).mono ?_
  rintro e w' ⟨⟨i, rfl, hi⟩, rfl⟩
  have hi2 : i < 0 := by
   rw [HM.out] at hi; simp only [Bool.false_eq_true, iff_false] at hi; omega
  clear hi
  go_wp2
  go_ret
  exact ⟨by simp [Int.not_le.2 hi2], rfl⟩
 ·have HM := hQq hm; clear hm
  go_enter Tryz.func207, Tryz.ntmps207
  go_wp2_with fail
  refine (slIndexStr _ l s _ HV.out hl).mono ?_
  rintro e w' ⟨⟨i, rfl, hi⟩, rfl⟩
  have hi2 : 0 <= i := hi.2 HM.out
  clear hi
  go_wp2
  go_ret
  exact ⟨by simp, rfl⟩
open Go.RowKit Go.Deep
theorem gDia : Tryz.prog.globalNamed "limewash/escape.dialects" = some 3 := by kernel_rfl
theorem gAsc : Tryz.prog.globalNamed "strings.asciiSpace" = some 5 := by kernel_rfl
theorem gDiaT : (Tryz.prog.globals[3]?).map (·.type) = some 186 := by kernel_rfl
theorem gAscT : (Tryz.prog.globals[5]?).map (·.type) = some 262 := by kernel_rfl
theorem cellsAsc : Tryz.prog.cellsOf 262 = 256 := by kernel_rfl
theorem cellsU8 : Tryz.prog.cellsOf 5 = 1 := by kernel_rfl
theorem cellsDia : Tryz.prog.cellsOf 186 = 15 := by kernel_rfl
theorem cellsDia1 : Tryz.prog.cellsOf 185 = 3 := by kernel_rfl
theorem cellsStr : Tryz.prog.cellsOf 9 = 1 := by kernel_rfl
def diaRows : List (List UInt8 × List UInt8 × List UInt8) :=
 [([], [], []),
  ([116, 114, 117, 115, 116, 101, 100, 46, 111, 118, 101, 114, 108, 97, 121, 46], [111, 118, 101, 114, 108, 97, 121, 46], [110, 108, 105, 110, 107, 32, 111, 112, 97, 113, 117, 101, 32, 114, 101, 100, 105, 114, 101, 99, 116]),
  ([117, 115, 101, 114, 46, 102, 117, 115, 101, 111, 118, 101, 114, 108, 97, 121, 102, 115, 46], [102, 117, 115, 101, 46], [110, 108, 105, 110, 107, 32, 111, 112, 97, 113, 117, 101, 32, 114, 101, 100, 105, 114, 101, 99, 116, 32, 119, 104, 105, 116, 101, 111, 117, 116]),
  ([], [], []),
  ([98, 115, 100, 46], [98, 115, 100, 46], [111, 112, 97, 113, 117, 101])]
def diaP (n : Nat) : List UInt8 := (diaRows.getD n ([], [], [])).1
def diaI (n : Nat) : List UInt8 := (diaRows.getD n ([], [], [])).2.1
def diaM (n : Nat) : List UInt8 := (diaRows.getD n ([], [], [])).2.2
theorem laidDia {H : Type} : (Rows.laid_limewash_escape_dialects : DataW H) = .agg (diaRows.map fun r => .agg [.lit (.string r.1), .lit (.string r.2.1), .lit (.string r.2.2)]) := rfl
theorem one_cell {cs : List Value} {i : Nat} {s : ByteArray} (h : (cs.drop i).take 1 = [Value.string s]) : cs[i]? = some (.string s) := by
 have := congrArg (·[0]?) h
 simpa [List.getElem?_take, List.getElem?_drop] using this
theorem dia_cells {H : Type} {enc : TypeId × Value -> H} {w : World} {base : Nat} {sp : Nat -> Bool} {held : Bool} {fuel : Nat} {cs : List Value} {p : List MemPlace}
  (h : DataW.trod enc Tryz.prog w base sp held fuel 186 cs = some (Rows.laid_limewash_escape_dialects, p)) (n : Nat) (hn : n < 5) :
  cs[n * 3]? = some (.string (ofL (diaP n))) /\ cs[n * 3 + 1]? = some (.string (ofL (diaI n))) /\ cs[n * 3 + 2]? = some (.string (ofL (diaM n))) := by
 rw [laidDia] at h
 obtain ⟨xs, m, _, hx, hl, hlen, hf⟩ := DataW.trod_array Tryz.underlying186 h
 rw [cellsDia] at hl
 rw [cellsDia1] at hf
 have h1 := congrArg Prod.fst hx
 simp only [DataW.agg.injEq] at h1
 have hn2 := hf n hn
 obtain ⟨y, hy⟩ : ∃ y, xs[n]? = some y := ⟨xs[n]'(by omega), List.getElem?_eq_getElem (by omega)⟩
 rw [hy] at hn2
 have hy1 : (xs.map (·.1))[n]? = some y.1 := by rw [List.getElem?_map, hy]; rfl
 rw [<- h1] at hy1
 obtain ⟨y0, y1, y2, q, he, hcl, t0, t1, t2⟩ := trod_struct3 Tryz.underlying185 hn2
 simp only [cellsStr] at t0 t1 t2
 obtain ⟨s0, c0, e0, _⟩ := DataW.trod_string Tryz.underlying9 t0
 obtain ⟨s1, c1, e1, _⟩ := DataW.trod_string Tryz.underlying9 t1
 obtain ⟨s2, c2, e2, _⟩ := DataW.trod_string Tryz.underlying9 t2
 have hr : (diaRows[n]?).map (fun r => (DataW.agg [.lit (.string r.1), .lit (.string r.2.1), .lit (.string r.2.2)] : DataW H)) = some (.agg [.lit (.string s0.data.toList), .lit (.string s1.data.toList), .lit (.string s2.data.toList)]) := by
  rw [List.getElem?_map] at hy1; rw [hy1, he, e0, e1, e2]
 have hd : ∃ r, diaRows[n]? = some r := ⟨_, List.getElem?_eq_getElem (show n < diaRows.length from hn)⟩
 obtain ⟨r, hd⟩ := hd
 rw [hd] at hr
 simp only [Option.map_some, Option.some.injEq, DataW.agg.injEq, List.cons.injEq, DataW.lit.injEq, Lit.string.injEq, and_true] at hr
 have hg : diaRows.getD n ([], [], []) = r := by rw [List.getD_eq_getElem?_getD, hd]; rfl
 have cut : ∀ (j : Nat) (s : ByteArray), ((List.take 3 (List.drop (n * 3) cs)).drop j).take 1 = [Value.string s] -> j < 3 -> cs[n * 3 + j]? = some (.string s) := by
  intro j s hs hj
  have := one_cell hs
  rw [List.getElem?_take, if_pos hj, List.getElem?_drop] at this
  exact this
 refine ⟨?_, ?_, ?_⟩
 ·have := cut 0 s0 c0 (by omega)
  have e : ofL (diaP n) = s0 := by unfold diaP; rw [hg, hr.1]; exact ofL_L s0
  rw [e]; exact this
 ·have := cut 1 s1 c1 (by omega)
  have e : ofL (diaI n) = s1 := by unfold diaI; rw [hg, hr.2.1]; exact ofL_L s1
  rw [e]; exact this
 ·have := cut 2 s2 c2 (by omega)
  have e : ofL (diaM n) = s2 := by unfold diaM; rw [hg, hr.2.2]; exact ofL_L s2
  rw [e]; exact this
structure Laid (w : World) : Prop where
 size : 3 < w.heap.size /\ 5 < w.heap.size
 dia : ∀ n, n < 5 -> w.cell? ⟨3, n * 3, none⟩ = some (.string (ofL (diaP n))) /\ w.cell? ⟨3, n * 3 + 1, none⟩ = some (.string (ofL (diaI n))) /\ w.cell? ⟨3, n * 3 + 2, none⟩ = some (.string (ofL (diaM n)))
 asc : Lib.TabIs Tryz.prog w "strings.asciiSpace" .u8 Lib.asciiSpaceTab
theorem Laid.ext {w w' : World} (h : Laid w) (he : Ext w w') : Laid w' where
 size := ⟨Nat.lt_of_lt_of_le h.size.1 he.size, Nat.lt_of_lt_of_le h.size.2 he.size⟩
 dia := fun n hn => by
  obtain ⟨a, b, c⟩ := h.dia n hn
  exact ⟨by rw [eC he h.size.1]; exact a, by rw [eC he h.size.1]; exact b, by rw [eC he h.size.1]; exact c⟩
 asc := by
  have ha := h.asc
  unfold Lib.TabIs at ha ⊢
  exact var?_below he gAsc h.size.2 ha
end Go.Proofs.YtimpejaaeinplaaGreatDoor
namespace Go.Proofs.YtimpejaaeinplaaGreatDoor
open Go.RowKit
def nameE (l : List UInt8) : Int := if l = [] \/ l = [46] \/ l = [46, 46] \/ l.any (pB badC) = true then 6 else if 24 < l.length then 3 else 0
theorem nameE_bad {l : List UInt8} (h : l.any (pB badC) = true) : nameE l = 6 := by
 unfold nameE; rw [if_pos (Or.inr (Or.inr (Or.inr h)))]
theorem nameE_long {l : List UInt8} (h0 : ¬ (l = [] \/ l = [46] \/ l = [46, 46])) (h : l.any (pB badC) = false) (hl : 24 < l.length) : nameE l = 3 := by
 simp only [not_or] at h0
 unfold nameE; rw [if_neg (by simp [h0, h]), if_pos hl]
theorem nameE_ok {l : List UInt8} (h0 : ¬ (l = [] \/ l = [46] \/ l = [46, 46])) (h : l.any (pB badC) = false) (hl : ¬ 24 < l.length) : nameE l = 0 := by
 simp only [not_or] at h0
 unfold nameE; rw [if_neg (by simp [h0, h]), if_neg hl]
theorem badByte (b : UInt8) : pB badC b = (decide ((b.toNat : Int) < 33) || decide (126 < (b.toNat : Int)) || ((b.toNat : Int) == 47)) := by
 unfold pB badC; rw [Bool.eq_iff_iff]; simp
theorem pathsName (s : ByteArray) (w : World) :
  RetB Tryz.prog 139 #[.string s] w (.int .i64 (nameE (L s))) := by
 unfold RetB
 go_enter Tryz.func139, Tryz.ntmps139
 go_wp2_with (go_at_call 184; refine (strContainsFunc _ _ badFn s w).mono ?_; rintro e w' ⟨rfl, hb⟩)
 all_goals go_ret
 all_goals refine ⟨ret_val ?_, ?_⟩
 all_goals first | exact bR _ _ | exact hb | skip
 all_goals simp_all [nameE, tL, size_L]
 all_goals rw [if_neg (by simp_all)]
 all_goals split <;> omega
theorem refNameShort (s : ByteArray) (w : World) (h : L s = [] \/ L s = [46] \/ L s = [46, 46]) :
  Ret Tryz.prog 132 #[.string s] w (.int .i64 (nameE (L s))) := by
 unfold Ret
 have hn : nameE (L s) = 6 := by unfold nameE; rw [if_pos]; rcases h with h | h | h <;> simp [h]
 rw [hn]; clear hn
 rw [<- tL] at h
 rcases h with h | h | h
 all_goals
  go_enter Tryz.func132, Tryz.ntmps132
  go_wp2
  go_ret
  exact ⟨rfl, rfl⟩
theorem refName (s : ByteArray) (w : World) (hs : s.size <= 1000000) :
  Ret Tryz.prog 132 #[.string s] w (.int .i64 (nameE (L s))) := by
 by_cases h0 : L s = [] \/ L s = [46] \/ L s = [46, 46]
 ·exact refNameShort s w h0
 have HN := hQq h0
 unfold Ret
 simp only [not_or, <- tL] at h0
 obtain ⟨h1, h2, h3⟩ := h0
 have h1 : s.toList.isEmpty = false := by simpa using h1
 have h2 : (s.toList == [46]) = false := by simpa using h2
 have h3 : (s.toList == [46, 46]) = false := by simpa using h3
 go_enter Tryz.func132, Tryz.ntmps132
 go_wp2
 clear h1 h2 h3
 go_loop [3] (fun i => ∃ k : Nat, k <= s.size /\ i = .int .i64 k /\ ((L s).take k).any (pB badC) = false) (fun i => s.size - (intOf i).toNat)
 case atStart => exact ⟨0, Nat.zero_le _, rfl, by simp⟩
 case round =>
  obtain ⟨k, hk, rfl, hb⟩ := hrel
  have HB := hQq hb; clear hb
  by_cases hlt : k < s.size
  ·cases hb : pB badC (s[k]'hlt)
   ·have HN2 := hQq (any_take_succ badC s k hlt HB.out hb); clear HB
    rw [badByte] at hb
    simp only [Bool.or_eq_false_iff, decide_eq_false_iff_not] at hb
    obtain ⟨⟨ha, hb⟩, hc⟩ := hb
    go_wp2
    go_round
    case rel => exact ⟨k + 1, by omega, by go_num, HN2.out⟩
    case measure => simp [intOf]; omega
   ·have HN2 := hQq (nameE_bad (List.any_eq_true.2 ⟨s[k]'hlt, by rw [getElem_L]; exact List.getElem_mem _, hb⟩))
    clear HB HN
    rw [badByte] at hb
    simp only [Bool.or_eq_true, decide_eq_true_eq] at hb
    by_cases ha : (s[k].toNat : Int) < 33
    ·clear hb
     go_wp2
     go_ret
     exact ⟨by rw [HN2.out]; rfl, rfl⟩
    by_cases hc : 126 < (s[k].toNat : Int)
    ·clear hb
     go_wp2
     go_ret
     exact ⟨by rw [HN2.out]; rfl, rfl⟩
    ·have hd : ((s[k].toNat : Int) == 47) = true := by simpa [ha, hc] using hb
     clear hb
     go_wp2
     go_ret
     exact ⟨by rw [HN2.out]; rfl, rfl⟩
  ·have hb := HB.out
   rw [List.take_of_length_le (by rw [<- size_L]; omega)] at hb
   by_cases hl : 24 < s.size
   ·have HN2 := hQq (nameE_long HN.out hb (by rw [<- size_L]; exact hl))
    clear hb HB
    go_wp2
    go_ret
    exact ⟨by rw [HN2.out]; rfl, rfl⟩
   ·have HN2 := hQq (nameE_ok HN.out hb (by rw [<- size_L]; exact hl))
    clear hb HB
    go_wp2
    go_ret
    exact ⟨by rw [HN2.out]; rfl, rfl⟩
def badK (c : Int) : Bool := decide (c < 33) || decide (126 < c)
def keyE (l : List UInt8) : Int := if l = [] \/ l.any (pB badK) = true then 6 else if 40 < l.length then 3 else 0
theorem keyE_bad {l : List UInt8} (h : l.any (pB badK) = true) : keyE l = 6 := by unfold keyE; rw [if_pos (.inr h)]
theorem keyE_nil {l : List UInt8} (h : l = []) : keyE l = 6 := by unfold keyE; rw [if_pos (.inl h)]
theorem keyE_long {l : List UInt8} (h0 : l ≠ []) (h : l.any (pB badK) = false) (hl : 40 < l.length) : keyE l = 3 := by
 unfold keyE; rw [if_neg (by simp [h0, h]), if_pos hl]
theorem keyE_ok {l : List UInt8} (h0 : l ≠ []) (h : l.any (pB badK) = false) (hl : ¬ 40 < l.length) : keyE l = 0 := by
 unfold keyE; rw [if_neg (by simp [h0, h]), if_neg hl]
theorem badByteK (b : UInt8) : pB badK b = (decide ((b.toNat : Int) < 33) || decide (126 < (b.toNat : Int))) := rfl
def aloneE (a : Attr) : Int := if keyE (L a.1) ≠ 0 then keyE (L a.1) else if 200 < a.2.size then 3 else 0
def cmpS (a b : List UInt8) : Int := if a < b then -1 else if b < a then 1 else 0
theorem bytesLess_eq : ∀ (x y : List UInt8), Op.bytesLess x y = decide (x < y)
 | _, [] => by simp [Op.bytesLess]
 | [], _ :: _ => by simp [Op.bytesLess]
 | a :: x, b :: y => by
  simp only [Op.bytesLess, bytesLess_eq x y, List.cons_lt_cons_iff]
  rw [Bool.eq_iff_iff]; simp
theorem bl_true {a b : ByteArray} (h : L a < L b) : Op.bytesLess a.toList b.toList = true := by rw [bytesLess_eq, tL, tL]; exact decide_eq_true h
theorem bl_false {a b : ByteArray} (h : ¬ L a < L b) : Op.bytesLess a.toList b.toList = false := by rw [bytesLess_eq, tL, tL]; exact decide_eq_false h
theorem cmpS_zero {a b : List UInt8} : cmpS a b = 0 ↔ a = b := by
 unfold cmpS
 constructor
 ·intro h
  split at h
  ·cases h
  ·split at h
   ·cases h
   ·rename_i h1 h2
    rcases Std.lt_trichotomy a b with x | x | x
    ·exact absurd x h1
    ·exact x
    ·exact absurd x h2
 ·rintro rfl; rw [if_neg (List.lt_irrefl _), if_neg (List.lt_irrefl _)]
theorem cmpS_one {a b : List UInt8} : cmpS a b = 1 ↔ b < a := by
 unfold cmpS
 constructor
 ·intro h
  split at h
  ·cases h
  ·split at h
   ·assumption
   ·cases h
 ·intro h; rw [if_neg (fun x => List.lt_irrefl _ (List.lt_trans x h)), if_pos h]
theorem attrsNameBad (c : Int) (w : World) : Ret Tryz.prog 229 #[.int .i32 c] w (.bool (badK c)) := by
 unfold Ret
 by_cases h1 : c < 33
 ·go_enter Tryz.func229, Tryz.ntmps229
  go_wp2
  go_ret
  exact ⟨by simp [badK, h1], rfl⟩
 ·have h3 : decide (126 < c) = badK c := by rw [Bool.eq_iff_iff]; simp [badK]; omega
  have h4 : decide (c < 33) = false := decide_eq_false h1
  rw [<- h3]
  clear h3
  by_cases h2 : 126 < c
  ·go_enter Tryz.func229, Tryz.ntmps229
   go_wp2
   go_ret
   exact ⟨by simp, rfl⟩
  ·go_enter Tryz.func229, Tryz.ntmps229
   go_wp2
   go_ret
   exact ⟨by simp [h2], rfl⟩
theorem badKFn : PredFn 229 badK where
 enter := by intro a w; kernel_rfl
 ret := attrsNameBad
 high := by intro c h; simp [badK]; omega
theorem attrsName (s : ByteArray) (w : World) (hs : s.size <= 1000000) : RetB Tryz.prog 209 #[.string s] w (.int .i64 (keyE (L s))) := by
 unfold RetB
 by_cases h0 : L s = []
 ·rw [keyE_nil h0]
  have h1 : s.toList.isEmpty = true := by rw [tL, h0]; rfl
  clear h0
  go_enter Tryz.func209, Tryz.ntmps209
  go_wp2
  go_ret
  exact ⟨rfl, bR _ _⟩
 have h1 : s.toList.isEmpty = false := by rw [tL]; simpa using h0
 cases hb : (L s).any (pB badK)
 ·by_cases hl : 40 < s.size
  ·rw [keyE_long h0 hb (by rw [<- size_L]; exact hl)]
   clear h0
   go_enter Tryz.func209, Tryz.ntmps209
   go_wp2_with (go_at_call 184; refine (strContainsFunc _ _ badKFn s w).mono ?_; rintro e w' ⟨rfl, hx⟩)
   go_ret
   exact ⟨rfl, hx⟩
  ·rw [keyE_ok h0 hb (by rw [<- size_L]; exact hl)]
   clear h0
   go_enter Tryz.func209, Tryz.ntmps209
   go_wp2_with (go_at_call 184; refine (strContainsFunc _ _ badKFn s w).mono ?_; rintro e w' ⟨rfl, hx⟩)
   go_ret
   exact ⟨rfl, hx⟩
 ·rw [keyE_bad hb]
  clear h0
  go_enter Tryz.func209, Tryz.ntmps209
  go_wp2_with (go_at_call 184; refine (strContainsFunc _ _ badKFn s w).mono ?_; rintro e w' ⟨rfl, hx⟩)
  go_ret
  exact ⟨rfl, hx⟩
theorem refKey (s : ByteArray) (w : World) (hs : s.size <= 1000000) : Ret Tryz.prog 181 #[.string s] w (.int .i64 (keyE (L s))) := by
 unfold Ret
 go_enter Tryz.func181, Tryz.ntmps181
 go_wp2
 go_loop [3] (fun i => ∃ k : Nat, k <= s.size /\ i = .int .i64 k /\ ((L s).take k).any (pB badK) = false) (fun i => s.size - (intOf i).toNat)
 case atStart => exact ⟨0, Nat.zero_le _, rfl, by simp⟩
 case round =>
  obtain ⟨k, hk, rfl, hb⟩ := hrel
  have HB := hQq hb; clear hb
  by_cases hlt : k < s.size
  ·cases hb : pB badK (s[k]'hlt)
   ·have HN2 := hQq (any_take_succ badK s k hlt HB.out hb); clear HB
    rw [badByteK] at hb
    simp only [Bool.or_eq_false_iff, decide_eq_false_iff_not] at hb
    obtain ⟨ha, hb⟩ := hb
    go_wp2
    go_round
    case rel => exact ⟨k + 1, by omega, by go_num, HN2.out⟩
    case measure => simp [intOf]; omega
   ·have HN2 := hQq (keyE_bad (List.any_eq_true.2 ⟨s[k]'hlt, by rw [getElem_L]; exact List.getElem_mem _, hb⟩))
    clear HB
    rw [badByteK] at hb
    simp only [Bool.or_eq_true, decide_eq_true_eq] at hb
    by_cases ha : (s[k].toNat : Int) < 33
    ·clear hb
     go_wp2
     go_ret
     exact ⟨by rw [HN2.out]; rfl, rfl⟩
    ·have hd : 126 < (s[k].toNat : Int) := by simpa [ha] using hb
     clear hb
     go_wp2
     go_ret
     exact ⟨by rw [HN2.out]; rfl, rfl⟩
  ·have hb := HB.out
   rw [List.take_of_length_le (by rw [<- size_L]; omega)] at hb
   by_cases h0 : L s = []
   ·have HN2 := hQq (keyE_nil h0)
    have h1 : s.toList.isEmpty = true := by rw [tL, h0]; rfl
    clear hb HB h0
    go_wp2
    go_ret
    exact ⟨by rw [HN2.out]; rfl, rfl⟩
   have h1 : s.toList.isEmpty = false := by rw [tL]; simpa using h0
   by_cases hl : 40 < s.size
   ·have HN2 := hQq (keyE_long h0 hb (by rw [<- size_L]; exact hl))
    clear hb HB h0
    go_wp2
    go_ret
    exact ⟨by rw [HN2.out]; rfl, rfl⟩
   ·have HN2 := hQq (keyE_ok h0 hb (by rw [<- size_L]; exact hl))
    clear hb HB h0
    go_wp2
    go_ret
    exact ⟨by rw [HN2.out]; rfl, rfl⟩
theorem attrsAlone (a : Attr) (w : World) (hs : a.1.size <= 1000000) : RetB Tryz.prog 170 #[.agg #[.string a.1, .string a.2]] w (.int .i64 (aloneE a)) := by
 unfold RetB
 by_cases h : keyE (L a.1) = 0
 ·by_cases hl : 200 < a.2.size
  ·rw [show aloneE a = 3 by unfold aloneE; rw [if_neg (by simpa using h), if_pos hl]]
   go_enter Tryz.func170, Tryz.ntmps170
   go_wp2_with (go_at_call 209; refine (attrsName _ _ hs).mono ?_; rintro e w' ⟨rfl, hb⟩; obtain ⟨hc, hf⟩ := bcell hb)
   go_ret
   exact ⟨rfl, (eA _ _).trans hb⟩
  ·rw [show aloneE a = 0 by unfold aloneE; rw [if_neg (by simpa using h), if_neg hl]]
   go_enter Tryz.func170, Tryz.ntmps170
   go_wp2_with (go_at_call 209; refine (attrsName _ _ hs).mono ?_; rintro e w' ⟨rfl, hb⟩; obtain ⟨hc, hf⟩ := bcell hb)
   go_ret
   exact ⟨rfl, (eA _ _).trans hb⟩
 ·rw [show aloneE a = keyE (L a.1) by unfold aloneE; rw [if_pos h]]
  have h1 : (keyE (L a.1) != 0) = true := bne_iff_ne.2 h
  clear h
  go_enter Tryz.func170, Tryz.ntmps170
  go_wp2_with (go_at_call 209; refine (attrsName _ _ hs).mono ?_; rintro e w' ⟨rfl, hb⟩; obtain ⟨hc, hf⟩ := bcell hb)
  go_ret
  exact ⟨rfl, (eA _ _).trans hb⟩
theorem refAlone (a : Attr) (w : World) (hs : a.1.size <= 1000000) : RetB Tryz.prog 133 #[.agg #[.string a.1, .string a.2]] w (.int .i64 (aloneE a)) := by
 unfold RetB
 by_cases h : keyE (L a.1) = 0
 ·by_cases hl : 200 < a.2.size
  ·rw [show aloneE a = 3 by unfold aloneE; rw [if_neg (by simpa using h), if_pos hl]]
   go_enter Tryz.func133, Tryz.ntmps133
   go_wp2_with (go_at_call 181; refine (refKey _ _ hs).mono ?_; rintro e w' ⟨rfl, rfl⟩)
   go_ret
   exact ⟨rfl, eA _ _⟩
  ·rw [show aloneE a = 0 by unfold aloneE; rw [if_neg (by simpa using h), if_neg hl]]
   go_enter Tryz.func133, Tryz.ntmps133
   go_wp2_with (go_at_call 181; refine (refKey _ _ hs).mono ?_; rintro e w' ⟨rfl, rfl⟩)
   go_ret
   exact ⟨rfl, eA _ _⟩
 ·rw [show aloneE a = keyE (L a.1) by unfold aloneE; rw [if_pos h]]
  have h1 : (keyE (L a.1) == 0) = false := nB h
  clear h
  go_enter Tryz.func133, Tryz.ntmps133
  go_wp2_with (go_at_call 181; refine (refKey _ _ hs).mono ?_; rintro e w' ⟨rfl, rfl⟩)
  go_ret
  exact ⟨rfl, eA _ _⟩
theorem cmpNaN (s : ByteArray) (w : World) : Ret Tryz.prog 216 #[.string s] w (.bool false) := by
 unfold Ret
 go_enter Tryz.func216, Tryz.ntmps216
 go_wp2
 go_ret
 exact ⟨by simp, rfl⟩
theorem cmpCompare (a b : ByteArray) (w : World) : Ret Tryz.prog 183 #[.string a, .string b] w (.int .i64 (cmpS (L a) (L b))) := by
 unfold Ret
 by_cases h : L a < L b
 ·rw [show cmpS (L a) (L b) = -1 from if_pos h]
  have e1 := bl_true h
  clear h
  go_enter Tryz.func183, Tryz.ntmps183
  go_wp2_with (go_at_call 216; refine (cmpNaN _ _).mono ?_; rintro e w' ⟨rfl, rfl⟩)
  go_ret
  exact ⟨rfl, rfl⟩
 ·have e1 := bl_false h
  by_cases h2 : L b < L a
  ·rw [show cmpS (L a) (L b) = 1 from (if_neg h).trans (if_pos h2)]
   have e2 : (a.toList == b.toList) = false := by
    rw [tL, tL]; rw [beq_eq_false_iff_ne]; intro e; rw [e] at h2; exact absurd h2 (List.lt_irrefl _)
   clear h h2
   go_enter Tryz.func183, Tryz.ntmps183
   go_wp2_with (go_at_call 216; refine (cmpNaN _ _).mono ?_; rintro e w' ⟨rfl, rfl⟩)
   go_ret
   exact ⟨rfl, rfl⟩
  ·rw [show cmpS (L a) (L b) = 0 from (if_neg h).trans (if_neg h2)]
   have e2 : (a.toList == b.toList) = true := by
    rw [tL, tL]; rw [beq_iff_eq]
    rcases Std.lt_trichotomy (L a) (L b) with x | x | x
    ·exact absurd x h
    ·exact x
    ·exact absurd x h2
   clear h h2
   go_enter Tryz.func183, Tryz.ntmps183
   go_wp2_with (go_at_call 216; refine (cmpNaN _ _).mono ?_; rintro e w' ⟨rfl, rfl⟩)
   go_ret
   exact ⟨rfl, rfl⟩
theorem own_ne {w : World} {base e size n : Nat} {v : Value} {xs : List Value} (h : w.ownsRow base e size v n xs) {b : Nat} {c : Array Value} {t : TypeId} {f : Nat × Nat}
  (hb : w.heap[b]? = some (.cells c t f)) (ht : t ≠ e) : v.ownBlock ≠ some b := by
 rcases h.2 with ⟨rfl, _⟩ | ⟨g, cap, cur, rfl, _, hg, _⟩
 ·intro x; cases x
 ·intro x
  simp only [Value.ownBlock, Option.some.injEq] at x
  subst x
  rw [hb] at hg; cases hg; exact ht rfl
theorem own_ne_new {w : World} {base e size n : Nat} {v : Value} {xs : List Value} (h : w.ownsRow base e size v n xs) : v.ownBlock ≠ some w.heap.size :=
 fun x => Nat.lt_irrefl _ (h.lt _ x).2
theorem blk_grown {w w' : World} {row : Option Nat} (hg : w.grownBy w' row) {b : Nat} {o : Obj} (hb : w.heap[b]? = some o) (hne : row ≠ some b) : w'.heap[b]? = some o := by
 have hl : b < w.heap.size := by
  rcases Nat.lt_or_ge b w.heap.size with h | h
  ·exact h
  ·rw [Array.getElem?_eq_none h] at hb; cases hb
 rw [hg.block b hl (fun e => hne e.symm)]; exact hb
theorem bA {w : World} {b : Nat} {o x : Obj} (hb : w.heap[b]? = some o) : (w.alloc x).heap[b]? = some o := by
 have hl : b < w.heap.size := by
  rcases Nat.lt_or_ge b w.heap.size with h | h
  ·exact h
  ·rw [Array.getElem?_eq_none h] at hb; cases hb
 rw [Below.heap_alloc _ _ _ hl]; exact hb
theorem bN (w : World) (o : Obj) : (w.alloc o).heap[w.heap.size]? = some o := by
 show (w.heap.push o)[w.heap.size]? = _; simp
theorem bL {w : World} {b : Nat} {o : Obj} (hb : w.heap[b]? = some o) : b < w.heap.size := by
 rcases Nat.lt_or_ge b w.heap.size with h | h
 ·exact h
 ·rw [Array.getElem?_eq_none h] at hb; cases hb
theorem bC {w : World} {b : Nat} {c : Array Value} {t : TypeId} {f : Nat × Nat} (hb : w.heap[b]? = some (.cells c t f)) (o : Nat) : w.cell? ⟨b, o, none⟩ = c[o]? := by
 simp [World.cell?, hb]
theorem b2C {w : World} {b : Nat} {x0 x1 : Value} {t : TypeId} {z : Nat × Nat} (h : w.heap[b]? = some (.cells #[x0, x1] t z)) : w.cell? ⟨b, 0, none⟩ = some x0 /\ w.cell? ⟨b, 1, none⟩ = some x1 := ⟨bC h 0, bC h 1⟩
theorem b3C {w : World} {b : Nat} {x0 x1 x2 : Value} {t : TypeId} {z : Nat × Nat} (h : w.heap[b]? = some (.cells #[x0, x1, x2] t z)) : w.cell? ⟨b, 0, none⟩ = some x0 /\ w.cell? ⟨b, 1, none⟩ = some x1 /\ w.cell? ⟨b, 2, none⟩ = some x2 := ⟨bC h 0, bC h 1, bC h 2⟩
theorem b4C {w : World} {b : Nat} {x0 x1 x2 x3 : Value} {t : TypeId} {z : Nat × Nat} (h : w.heap[b]? = some (.cells #[x0, x1, x2, x3] t z)) : w.cell? ⟨b, 0, none⟩ = some x0 /\ w.cell? ⟨b, 1, none⟩ = some x1 /\ w.cell? ⟨b, 2, none⟩ = some x2 /\ w.cell? ⟨b, 3, none⟩ = some x3 := ⟨bC h 0, bC h 1, bC h 2, bC h 3⟩
theorem b8C {w : World} {b : Nat} {x0 x1 x2 x3 x4 x5 x6 x7 : Value} {t : TypeId} {z : Nat × Nat} (h : w.heap[b]? = some (.cells #[x0, x1, x2, x3, x4, x5, x6, x7] t z)) : w.cell? ⟨b, 0, none⟩ = some x0 /\ w.cell? ⟨b, 1, none⟩ = some x1 /\ w.cell? ⟨b, 2, none⟩ = some x2 /\ w.cell? ⟨b, 3, none⟩ = some x3 /\ w.cell? ⟨b, 4, none⟩ = some x4 /\ w.cell? ⟨b, 5, none⟩ = some x5 /\ w.cell? ⟨b, 6, none⟩ = some x6 /\ w.cell? ⟨b, 7, none⟩ = some x7 := ⟨bC h 0, bC h 1, bC h 2, bC h 3, bC h 4, bC h 5, bC h 6, bC h 7⟩
theorem b9C {w : World} {b : Nat} {x0 x1 x2 x3 x4 x5 x6 x7 x8 : Value} {t : TypeId} {z : Nat × Nat} (h : w.heap[b]? = some (.cells #[x0, x1, x2, x3, x4, x5, x6, x7, x8] t z)) : w.cell? ⟨b, 0, none⟩ = some x0 /\ w.cell? ⟨b, 1, none⟩ = some x1 /\ w.cell? ⟨b, 2, none⟩ = some x2 /\ w.cell? ⟨b, 3, none⟩ = some x3 /\ w.cell? ⟨b, 4, none⟩ = some x4 /\ w.cell? ⟨b, 5, none⟩ = some x5 /\ w.cell? ⟨b, 6, none⟩ = some x6 /\ w.cell? ⟨b, 7, none⟩ = some x7 /\ w.cell? ⟨b, 8, none⟩ = some x8 := ⟨bC h 0, bC h 1, bC h 2, bC h 3, bC h 4, bC h 5, bC h 6, bC h 7, bC h 8⟩
theorem b10C {w : World} {b : Nat} {x0 x1 x2 x3 x4 x5 x6 x7 x8 x9 : Value} {t : TypeId} {z : Nat × Nat} (h : w.heap[b]? = some (.cells #[x0, x1, x2, x3, x4, x5, x6, x7, x8, x9] t z)) : w.cell? ⟨b, 0, none⟩ = some x0 /\ w.cell? ⟨b, 1, none⟩ = some x1 /\ w.cell? ⟨b, 2, none⟩ = some x2 /\ w.cell? ⟨b, 3, none⟩ = some x3 /\ w.cell? ⟨b, 4, none⟩ = some x4 /\ w.cell? ⟨b, 5, none⟩ = some x5 /\ w.cell? ⟨b, 6, none⟩ = some x6 /\ w.cell? ⟨b, 7, none⟩ = some x7 /\ w.cell? ⟨b, 8, none⟩ = some x8 /\ w.cell? ⟨b, 9, none⟩ = some x9 := ⟨bC h 0, bC h 1, bC h 2, bC h 3, bC h 4, bC h 5, bC h 6, bC h 7, bC h 8, bC h 9⟩
theorem b12C {w : World} {b : Nat} {x0 x1 x2 x3 x4 x5 x6 x7 x8 x9 x10 x11 : Value} {t : TypeId} {z : Nat × Nat} (h : w.heap[b]? = some (.cells #[x0, x1, x2, x3, x4, x5, x6, x7, x8, x9, x10, x11] t z)) : w.cell? ⟨b, 0, none⟩ = some x0 /\ w.cell? ⟨b, 1, none⟩ = some x1 /\ w.cell? ⟨b, 2, none⟩ = some x2 /\ w.cell? ⟨b, 3, none⟩ = some x3 /\ w.cell? ⟨b, 4, none⟩ = some x4 /\ w.cell? ⟨b, 5, none⟩ = some x5 /\ w.cell? ⟨b, 6, none⟩ = some x6 /\ w.cell? ⟨b, 7, none⟩ = some x7 /\ w.cell? ⟨b, 8, none⟩ = some x8 /\ w.cell? ⟨b, 9, none⟩ = some x9 /\ w.cell? ⟨b, 10, none⟩ = some x10 /\ w.cell? ⟨b, 11, none⟩ = some x11 := ⟨bC h 0, bC h 1, bC h 2, bC h 3, bC h 4, bC h 5, bC h 6, bC h 7, bC h 8, bC h 9, bC h 10, bC h 11⟩
theorem bX {w w' : World} (h : Ext w w') {b : Nat} {o : Obj} (hb : w.heap[b]? = some o) : w'.heap[b]? = some o := by
 rw [h.block b (bL hb)]; exact hb
theorem below_grown {B : Nat} {W w w' : World} {base e size n : Nat} {v : Value} {xs : List Value} (hb : Below B W w) (ho : w.ownsRow base e size v n xs) (hbase : B <= base) (hB : B <= w.heap.size) (hg : w.grownBy w' v.ownBlock) : Below B W w' :=
 hb.grown hg hB (fun k hk => Nat.le_trans hbase (ho.lt k hk).1)
structure SlT (P : Program) (t e size bytes : Nat) (z : Value) : Prop where
 und : P.underlying t = some (.slice e)
 info : ∃ i, P.info? e = some i /\ i.zero = some z /\ i.size = size /\ i.bytes = bytes
 zs : z.cells.size = size
 pos : 0 < size
 small : bytes <= 1000
def KeepBut (row : Option Nat) (w w' : World) : Prop := ∀ b o, w.heap[b]? = some o -> row ≠ some b -> w'.heap[b]? = some o
section
variable {P : Program}
theorem app1 {ops : Array Oper} {rest : List Oper} {o : Oper} {a : Act} {Q : Exit -> Act -> World -> Prop} (hgd : o.guard = none) (s x : Operand) (t : TypeId)
  (ho : o.op = .call { callee := .builtin .append, args := #[s, x], argTypes := #[t, t] })
  (B e size bytes : Nat) (z : Value) (hT : SlT P t e size bytes z) (v : Value) (n : Nat) (xs : List Value) (hs : a.eval s = v) (W0 w0 : World) (news : Array Value)
  (hown : w0.ownsRow B e size v n xs) (hb : Below B W0 w0) (hB : B <= w0.heap.size)
  (g : Nat) (hx : a.eval x = .slice (some ⟨g, 0, none⟩) 1 1) (hg : g = w0.heap.size) (hl : news.size = size) (h1 : ∀ u ∈ news.toList, u.oneCell' = true) (hn : n <= 100000000)
  (h : ∀ v' w', w'.ownsRow B e size v' (n + 1) (xs ++ news.toList) -> Below B W0 w' -> KeepBut v.ownBlock w0 w' -> wpList P ops Q rest (a.put o.dst v') w') :
  wpList P ops Q (o :: rest) a (w0.alloc (.cells news e)) := by
 subst hg
 obtain ⟨i, hi, hz, h3, h4⟩ := hT.info
 have hs2 := hT.small
 refine wpList_append_own _ hgd s x t ho B e i z size bytes hT.und hi hz h3 h4 hT.zs hT.pos v n xs hs (hown.alloc _) ⟨w0.heap.size, 0, none⟩ 1 1 news.toList hx (by simp [hl]) ?_ h1 (by unfold maxLen; omega) ?_ (by simp; omega) ?_
 ·intro j u hj
  have hc := bC (bN w0 (.cells news e))
  by_cases hj0 : j = 0
  ·subst hj0; simp only [Addr.add, if_true]; rw [hc]; simpa using hj
  ·simp only [Addr.add, if_neg hj0]; rw [hc]; simpa using hj
 ·have : (n + 1) * bytes <= 100000001 * 1000 := Nat.mul_le_mul (by omega) hs2
  omega
 ·intro v' w' h5 h6 _
  refine h v' w' h5 (below_grown (hb.alloc hB _) (hown.alloc _) (Nat.le_refl _) (by simp; omega) h6) ?_
  intro b ob hbk hne
  exact blk_grown h6 (bA hbk) hne
theorem appS {ops : Array Oper} {rest : List Oper} {o : Oper} {a : Act} {Q : Exit -> Act -> World -> Prop} (hgd : o.guard = none) (sl x : Operand) (t u : TypeId)
  (ho : o.op = .call { callee := .builtin .append, args := #[sl, x], argTypes := #[t, u] })
  (B e : Nat) (hT : SlT P t e 1 1 (.int .u8 0)) (hu : P.underlying u = some .string) (v : Value) (n : Nat) (xs : List Value) (hs : a.eval sl = v) (W0 w0 : World) (s : ByteArray)
  (hown : w0.ownsRow B e 1 v n xs) (hb : Below B W0 w0) (hB : B <= w0.heap.size) (hx : a.eval x = .string s) (hn : n + s.size <= 100000000)
  (h : ∀ v' w', w'.ownsRow B e 1 v' (n + s.size) (xs ++ Lib.strCells s) -> Below B W0 w' -> KeepBut v.ownBlock w0 w' -> wpList P ops Q rest (a.put o.dst v') w') :
  wpList P ops Q (o :: rest) a w0 := by
 obtain ⟨i, hi, hz, h3, h4⟩ := hT.info
 refine Lib.wpList_append_own_string _ hgd sl x t u ho B e i hT.und hu hi hz h3 h4 v n xs hs hown s hx (by unfold maxLen; omega) (by omega) hB ?_
 intro v' w' h5 h6 _
 refine h v' w' h5 (below_grown hb hown (Nat.le_refl _) hB h6) ?_
 intro b ob hbk hne
 exact blk_grown h6 hbk hne
end
theorem slU8 : SlT Tryz.prog 95 5 1 1 (.int .u8 0) where
 und := Tryz.underlying95
 info := info_parts (by kernel_rfl)
 zs := rfl
 pos := by decide
 small := by decide
def sizeA : List Attr -> Nat
 | [] => 0
 | a :: r => 2 + a.1.size + a.2.size + sizeA r
theorem sizeA_append (l m : List Attr) : sizeA (l ++ m) = sizeA l + sizeA m := by
 induction l with
 | nil => simp [sizeA]
 | cons a r ih => simp [sizeA, ih]; omega
theorem sizeA_take (l : List Attr) (k : Nat) (h : k < l.length) : sizeA (l.take (k + 1)) = sizeA (l.take k) + (2 + (l[k]'h).1.size + (l[k]'h).2.size) := by
 rw [List.take_succ_eq_append_getElem h, sizeA_append]; simp [sizeA]
theorem sizeA_le (l : List Attr) (M : Nat) (h : ∀ a ∈ l, a.1.size <= M /\ a.2.size <= M) : sizeA l <= l.length * (2 + 2 * M) := by
 induction l with
 | nil => simp [sizeA]
 | cons a r ih =>
  have h1 := h a (by simp); have h2 := ih (fun x hx => h x (by simp [hx]))
  simp only [sizeA, List.length_cons, Nat.add_mul, Nat.one_mul]; omega
def OwnsN (B e size : Nat) (v : Value) (n : Nat) (w : World) : Prop := ∃ xs, w.ownsRow B e size v n xs
def LenIs (n : Nat) (e : Ending) : Prop := ∃ a cap, e = .returned (.slice a n cap)
set_option maxHeartbeats 1000000 in
set_option maxRecDepth 100000 in
theorem attrsBytes (v : Value) (l : List Attr) (w : World) (hv : aA w v l) (hl : l.length <= 10) (hm : ∀ a ∈ l, a.1.size <= 1000000 /\ a.2.size <= 1000000) :
  Calls Tryz.prog 210 #[v] w fun e w' => LenIs (sizeA l) e /\ Below w.heap.size w w' := by
 have hmax := sizeA_le l 1000000 hm
 have hmax : sizeA l <= 30000000 := Nat.le_trans hmax (Nat.le_trans (Nat.mul_le_mul hl (Nat.le_refl _)) (by decide))
 have HM := hQq hm; clear hm
 obtain ⟨a, cap, rfl, hcap, hc⟩ := hv
 have HC := hQq hc; clear hc
 go_enter Tryz.func210, Tryz.ntmps210
 go_wp2
 go_loopw [3, 8] (fun b i w' => ∃ k : Nat, k <= l.length /\ i = .int .i64 k /\ OwnsN w.heap.size 5 1 b (sizeA (l.take k)) w' /\ Below w.heap.size w w') (fun _ i _ => l.length - (intOf i).toNat)
 case atStart => exact ⟨0, Nat.zero_le _, rfl, ⟨[], World.ownsRow_nil _ _ _ _⟩, bR _ _⟩
 case round =>
  rename_i wr
  obtain ⟨k, hk, rfl, ⟨xs, hown⟩, hb⟩ := hrel
  by_cases hlt : k < l.length
  ·obtain ⟨bb, off, rfl, hbs, c1, c2⟩ := HC.out k hlt
   obtain ⟨m1, m2⟩ := HM.out _ (List.getElem_mem hlt)
   have HS := hQq (sizeA_take l k hlt)
   replace c1 := (eC hb hbs).trans c1
   replace c2 := (eC hb hbs).trans c2
   generalize l[k]'hlt = x at c1 c2 m1 m2 HS
   obtain ⟨xn, xv⟩ := x
   simp only at c1 c2 m1 m2 HS
   have hle : sizeA (l.take k) <= 30000000 := by
    have := sizeA_append (l.take k) (l.drop k); rw [List.take_append_drop] at this; omega
   clear HC HM
   have hsz := hb.size
   have HB := hQq hb; clear hb
   have HO := hQq hown; clear hown
   go_wp2_with (first
    | (at_builtin; refine app1 rfl (.tmp 12) (.tmp 17) 95 rfl w.heap.size 5 1 1 (.int .u8 0) slU8 u3 (sizeA (l.take k)) xs rfl w (wr.alloc (.cells #[.string xn, .string xv] 45)) #[.int .u8 ((xn.size : Int) % 256)] (HO.out.alloc _) (HB.out.alloc hsz _) (Nat.le_trans hsz (eA _ _).size) (wr.heap.size + 1) rfl (by simp) rfl (by intro u hu; simp at hu; subst hu; rfl) (by omega) ?_; intro v1 w1 ho1 hb1 hk1; have hx1 := hk1 _ _ (bN wr _) (own_ne_new HO.out); have d1 : w1.cell? ⟨wr.heap.size, 0, none⟩ = some (.string xn) := bC hx1 0; have d2 : w1.cell? ⟨wr.heap.size, 1, none⟩ = some (.string xv) := bC hx1 1; have X1 := hQq hx1; clear hx1; have O1 := hQq ho1; clear ho1; have B1 := hQq hb1; clear hb1 hk1)
    | (at_builtin; refine appS rfl (.tmp 19) (.tmp 21) 95 9 rfl w.heap.size 5 slU8 Tryz.underlying9 v1 _ _ rfl w _ xn O1.out B1.out B1.out.size rfl (by omega) ?_; intro v2 w2 ho2 hb2 hk2; have hx2 := hk2 _ _ X1.out (own_ne O1.out X1.out (by decide)); have d3 : w2.cell? ⟨wr.heap.size, 0, none⟩ = some (.string xn) := bC hx2 0; have d4 : w2.cell? ⟨wr.heap.size, 1, none⟩ = some (.string xv) := bC hx2 1; have X2 := hQq hx2; clear hx2; have O2 := hQq ho2; clear ho2; have B2 := hQq hb2; clear hb2 hk2)
    | (at_builtin; refine app1 rfl (.tmp 23) (.tmp 28) 95 rfl w.heap.size 5 1 1 (.int .u8 0) slU8 v2 _ _ rfl w w2 #[.int .u8 ((xv.size : Int) % 256)] O2.out B2.out B2.out.size w2.heap.size rfl rfl rfl (by intro u hu; simp at hu; subst hu; rfl) (by omega) ?_; intro v3 w3 ho3 hb3 hk3; have hx3 := hk3 _ _ X2.out (own_ne O2.out X2.out (by decide)); have d5 : w3.cell? ⟨wr.heap.size, 0, none⟩ = some (.string xn) := bC hx3 0; have d6 : w3.cell? ⟨wr.heap.size, 1, none⟩ = some (.string xv) := bC hx3 1; have O3 := hQq ho3; clear ho3; have B3 := hQq hb3; clear hb3 hk3 hx3)
    | (at_builtin; refine appS rfl (.tmp 30) (.tmp 32) 95 9 rfl w.heap.size 5 slU8 Tryz.underlying9 v3 _ _ rfl w _ xv O3.out B3.out B3.out.size rfl (by omega) ?_; intro v4 w4 ho4 hb4 hk4; have O4 := hQq ho4; clear ho4; have B4 := hQq hb4; clear hb4 hk4))
   go_roundw
   case rel => exact ⟨k + 1, by omega, by go_num, ⟨_, by rw [HS.out, show sizeA (l.take k) + (2 + xn.size + xv.size) = sizeA (l.take k) + 1 + xn.size + 1 + xv.size by omega]; exact O4.out⟩, B4.out⟩
   case measure => simp [intOf]; omega
  ·have HN : Hid (sizeA (l.take k) = sizeA l) := by rw [List.take_of_length_le (by omega)]; exact rfl
   have HB := hQq hb; clear hb
   have HO := hQq hown; clear hown
   go_wp2
   go_ret
   refine ⟨?_, HB.out⟩
   rcases HO.out.2 with ⟨h1, h2⟩ | ⟨g, cap, cur, h1, _⟩
   ·subst h1; exact ⟨none, 0, by rw [<- HN.out, h2]; rfl⟩
   ·subst h1; exact ⟨_, _, by rw [<- HN.out]; rfl⟩
def firstE : List Attr -> Int
 | [] => 0
 | a :: r => if aloneE a ≠ 0 then aloneE a else firstE r
theorem firstE_append (l m : List Attr) (h : firstE l = 0) : firstE (l ++ m) = firstE m := by
 induction l with
 | nil => rfl
 | cons a r ih =>
  unfold firstE at h
  by_cases ha : aloneE a ≠ 0
  ·rw [if_pos ha] at h; exact absurd h ha
  ·rw [if_neg ha] at h; show (if aloneE a ≠ 0 then aloneE a else firstE (r ++ m)) = firstE m; rw [if_neg ha]; exact ih h
theorem firstE_step (l : List Attr) (k : Nat) (h : k < l.length) (h0 : firstE (l.take k) = 0) (ha : aloneE (l[k]'h) = 0) : firstE (l.take (k + 1)) = 0 := by
 rw [List.take_succ_eq_append_getElem h, firstE_append _ _ h0]; unfold firstE; rw [if_neg (by simpa using ha)]; rfl
theorem firstE_hit (l : List Attr) (k : Nat) (h : k < l.length) (h0 : firstE (l.take k) = 0) (ha : aloneE (l[k]'h) ≠ 0) : firstE l = aloneE (l[k]'h) := by
 have e : l = l.take k ++ l[k]'h :: l.drop (k + 1) := by simp
 have : firstE (l.take k ++ l[k]'h :: l.drop (k + 1)) = aloneE (l[k]'h) := by
  rw [firstE_append _ _ h0]; show (if aloneE (l[k]'h) ≠ 0 then aloneE (l[k]'h) else firstE (l.drop (k + 1))) = _; rw [if_pos ha]
 rw [<- e] at this; exact this
def nmA (l : List Attr) (i : Nat) : List UInt8 := L (l.getD i (⟨#[]⟩, ⟨#[]⟩)).1
theorem nmA_at (l : List Attr) (i : Nat) (h : i < l.length) : nmA l i = L (l[i]'h).1 := by unfold nmA; simp [List.getD, h]
def dupB (l : List Attr) : Bool := (List.range l.length).any fun i => (List.range i).any fun j => nmA l j == nmA l i
def descB (l : List Attr) : Bool := (List.range l.length).any fun i => (List.range i).any fun j => decide (nmA l i < nmA l j)
theorem dupB_iff {l : List Attr} : dupB l = true ↔ ∃ i j, j < i /\ i < l.length /\ nmA l j = nmA l i := by
 unfold dupB; simp only [List.any_eq_true, List.mem_range, beq_iff_eq]
 exact ⟨fun ⟨i, hi, j, hj, h⟩ => ⟨i, j, hj, hi, h⟩, fun ⟨i, j, hj, hi, h⟩ => ⟨i, hi, j, hj, h⟩⟩
theorem descB_iff {l : List Attr} : descB l = true ↔ ∃ i j, j < i /\ i < l.length /\ nmA l i < nmA l j := by
 unfold descB; simp only [List.any_eq_true, List.mem_range, decide_eq_true_eq]
 exact ⟨fun ⟨i, hi, j, hj, h⟩ => ⟨i, j, hj, hi, h⟩, fun ⟨i, j, hj, hi, h⟩ => ⟨i, hi, j, hj, h⟩⟩
def chkE (l : List Attr) : Int := if 6 < l.length then 3 else if firstE l ≠ 0 then firstE l else if dupB l = true then 8 else if descB l = true then 6 else if 288 < sizeA l then 5 else 0
def Seen (k m i j : Nat) : Prop := j < i /\ (i < k \/ i = k /\ j < m)
def OrdSt (l : List Attr) (k m : Nat) (o : Int) : Prop :=
 (∀ i j, Seen k m i j -> nmA l j ≠ nmA l i) /\ ((o = 0 /\ ∀ i j, Seen k m i j -> ¬ nmA l i < nmA l j) \/ (o = 6 /\ ∃ i j, Seen k m i j /\ nmA l i < nmA l j))
theorem OrdSt.start (l : List Attr) : OrdSt l 0 0 0 := ⟨fun i j h => by obtain ⟨_, h | h⟩ := h <;> omega, .inl ⟨rfl, fun i j h => by obtain ⟨_, h | h⟩ := h <;> omega⟩⟩
theorem OrdSt.up {l : List Attr} {k : Nat} {o : Int} (h : OrdSt l k k o) : OrdSt l (k + 1) 0 o := by
 have e : ∀ i j, Seen (k + 1) 0 i j ↔ Seen k k i j := fun i j => by unfold Seen; omega
 unfold OrdSt at h ⊢; simpa only [e] using h
theorem seen_succ {k m i j : Nat} (hm : m < k) : Seen k (m + 1) i j ↔ Seen k m i j \/ (i = k /\ j = m) := by unfold Seen; omega
theorem OrdSt.lt {l : List Attr} {k m : Nat} {o : Int} (h : OrdSt l k m o) (hm : m < k) (h0 : cmpS (nmA l m) (nmA l k) ≠ 0) (h1 : cmpS (nmA l m) (nmA l k) ≠ 1) : OrdSt l k (m + 1) o := by
 have d : nmA l m ≠ nmA l k := fun e => h0 (cmpS_zero.2 e)
 have g : ¬ nmA l k < nmA l m := fun e => h1 (cmpS_one.2 e)
 refine ⟨fun i j hs => ?_, ?_⟩
 ·rcases (seen_succ hm).1 hs with hs | ⟨rfl, rfl⟩
  ·exact h.1 i j hs
  ·exact d
 ·rcases h.2 with ⟨ho, hn⟩ | ⟨ho, i, j, hs, hl⟩
  ·refine .inl ⟨ho, fun i j hs => ?_⟩
   rcases (seen_succ hm).1 hs with hs | ⟨rfl, rfl⟩
   ·exact hn i j hs
   ·exact g
  ·exact .inr ⟨ho, i, j, (seen_succ hm).2 (.inl hs), hl⟩
theorem OrdSt.gt {l : List Attr} {k m : Nat} {o : Int} (h : OrdSt l k m o) (hm : m < k) (h1 : cmpS (nmA l m) (nmA l k) = 1) : OrdSt l k (m + 1) 6 := by
 have d : nmA l m ≠ nmA l k := fun e => by rw [cmpS_zero.2 e] at h1; cases h1
 refine ⟨fun i j hs => ?_, .inr ⟨rfl, k, m, (seen_succ hm).2 (.inr ⟨rfl, rfl⟩), cmpS_one.1 h1⟩⟩
 rcases (seen_succ hm).1 hs with hs | ⟨rfl, rfl⟩
 ·exact h.1 i j hs
 ·exact d
theorem chk_long {l : List Attr} (h : 6 < l.length) : chkE l = 3 := by unfold chkE; rw [if_pos h]
theorem chk_first {l : List Attr} (h : ¬ 6 < l.length) (h1 : firstE l ≠ 0) : chkE l = firstE l := by unfold chkE; rw [if_neg h, if_pos h1]
theorem chk_dup {l : List Attr} (h : ¬ 6 < l.length) (h1 : firstE l = 0) {i j : Nat} (hj : j < i) (hi : i < l.length) (he : nmA l j = nmA l i) : chkE l = 8 := by
 unfold chkE; rw [if_neg h, if_neg (by simpa using h1), if_pos (dupB_iff.2 ⟨i, j, hj, hi, he⟩)]
theorem chk_end {l : List Attr} (h : ¬ 6 < l.length) (h1 : firstE l = 0) {o : Int} (ho : OrdSt l l.length 0 o) : chkE l = if o = 0 then (if 288 < sizeA l then 5 else 0) else 6 := by
 have hd : ¬ dupB l = true := by
  rw [dupB_iff]; rintro ⟨i, j, hj, hi, he⟩; exact ho.1 i j ⟨hj, .inl hi⟩ he
 unfold chkE; rw [if_neg h, if_neg (by simpa using h1), if_neg hd]
 rcases ho.2 with ⟨ho, hn⟩ | ⟨ho, i, j, hs, hl⟩
 ·rw [if_neg (by rw [descB_iff]; rintro ⟨i, j, hj, hi, he⟩; exact hn i j ⟨hj, .inl hi⟩ he), if_pos ho]
 ·rw [if_pos (descB_iff.2 ⟨i, j, hs.1, by obtain ⟨_, x | x⟩ := hs <;> omega, hl⟩), if_neg (by rw [ho]; decide)]
theorem attrsFit (v : Value) (l : List Attr) (w : World) (hv : aA w v l) (hl : l.length <= 6) (hm : ∀ a ∈ l, a.1.size <= 1000000 /\ a.2.size <= 1000000) :
  RetB Tryz.prog 171 #[v] w (.tuple (if 288 < sizeA l then #[.slice none 0 0, .int .i64 5] else #[v, .int .i64 0])) := by
 unfold RetB
 have HV := hQq hv
 have HM := hQq hm; clear hm
 obtain ⟨a, cap, rfl, hcap, hc⟩ := hv
 clear hc
 by_cases h : 288 < sizeA l
 ·rw [if_pos h]
  go_enter Tryz.func171, Tryz.ntmps171
  go_wp2_with (go_at_call 210; refine (attrsBytes _ l _ HV.out (by omega) HM.out).mono ?_; rintro e w' ⟨⟨a2, cap2, rfl⟩, hb⟩)
  go_ret2
  exact ⟨rfl, hb⟩
 ·rw [if_neg h]
  go_enter Tryz.func171, Tryz.ntmps171
  go_wp2_with (go_at_call 210; refine (attrsBytes _ l _ HV.out (by omega) HM.out).mono ?_; rintro e w' ⟨⟨a2, cap2, rfl⟩, hb⟩)
  go_ret2
  exact ⟨rfl, hb⟩
set_option maxRecDepth 100000 in
theorem attrsCheck (v : Value) (l : List Attr) (w : World) (hv : aA w v l) (hm : ∀ a ∈ l, a.1.size <= 1000000 /\ a.2.size <= 1000000) :
  RetB Tryz.prog 137 #[v] w (.int .i64 (chkE l)) := by
 unfold RetB
 have HV := hQq hv
 have HM := hQq hm; clear hm
 obtain ⟨a, cap, rfl, hcap, hc⟩ := hv
 have HC := hQq hc; clear hc
 by_cases hl : 6 < l.length
 ·rw [chk_long hl]
  go_enter Tryz.func137, Tryz.ntmps137
  go_wp2
  go_ret
  exact ⟨rfl, bR _ _⟩
 go_enter Tryz.func137, Tryz.ntmps137
 go_wp2
 go_loopw [16] (fun i w' => ∃ k : Nat, k <= l.length /\ i = .int .i64 k /\ firstE (l.take k) = 0 /\ Below w.heap.size w w') (fun i _ => l.length - (intOf i).toNat)
 case atStart => exact ⟨0, Nat.zero_le _, rfl, rfl, bR _ _⟩
 case round =>
  rename_i wr
  obtain ⟨k, hk, rfl, hf, hb⟩ := hrel
  have HF := hQq hf; clear hf
  by_cases hlt : k < l.length
  ·obtain ⟨bb, off, rfl, hbs, c1, c2⟩ := HC.out k hlt
   obtain ⟨m1, m2⟩ := HM.out _ (List.getElem_mem hlt)
   replace c1 := (eC hb hbs).trans c1
   replace c2 := (eC hb hbs).trans c2
   have HB := hQq hb; clear hb
   by_cases ha : aloneE (l[k]'hlt) = 0
   ·have HN := hQq (firstE_step l k hlt HF.out ha)
    generalize l[k]'hlt = x at c1 c2 m1 m2 ha
    go_wp2_with (go_at_call 170; refine (attrsAlone x _ m1).mono ?_; rintro e w' ⟨rfl, hb2⟩; have HB2 := hQq hb2; clear hb2)
    go_roundw
    case rel => exact ⟨k + 1, by omega, by go_num, HN.out, Ext.trans HB.out (Ext.trans (eA _ _) HB2.out)⟩
    case measure => simp [intOf]; omega
   ·have HN := hQq ((chk_first hl (by rw [firstE_hit l k hlt HF.out ha]; exact ha)).trans (firstE_hit l k hlt HF.out ha))
    have ha1 : (aloneE (l[k]'hlt) != 0) = true := bne_iff_ne.2 ha
    clear ha
    generalize l[k]'hlt = x at c1 c2 m1 m2 ha1 HN
    go_wp2_with (go_at_call 170; refine (attrsAlone x _ m1).mono ?_; rintro e w' ⟨rfl, hb2⟩; have HB2 := hQq hb2; clear hb2)
    go_ret
    exact ⟨by rw [HN.out]; rfl, Ext.trans HB.out (Ext.trans (eA _ _) HB2.out)⟩
  ·have hf := HF.out
   rw [List.take_of_length_le (by omega)] at hf
   have HF1 := hQq hf; clear hf HF
   have HB := hQq hb; clear hb
   go_wp2
   go_loopw [6, 28] (fun s i w' => ∃ (wq : World) (k : Nat) (o : Int), wq = w' /\ k <= l.length /\ s = .int .i64 o /\ i = .int .i64 k /\ OrdSt l k 0 o /\ Below w.heap.size w w') (fun _ i _ => l.length - (intOf i).toNat)
   case atStart => exact ⟨_, 0, 0, rfl, Nat.zero_le _, rfl, rfl, OrdSt.start l, HB.out⟩
   case round =>
    obtain ⟨wq, k, o, rfl, hk, rfl, rfl, hord, hb⟩ := hrel
    have HO := hQq hord; clear hord
    by_cases hlt : k < l.length
    ·obtain ⟨bb, off, rfl, hbs, c1, c2⟩ := HC.out k hlt
     replace c1 := (eC hb hbs).trans c1
     replace c2 := (eC hb hbs).trans c2
     have HB1 := hQq hb; clear hb
     have hnm := nmA_at l k hlt
     generalize l[k]'hlt = x at c1 c2 hnm
     have HX := hQq hnm; clear hnm
     go_wp2
     go_loopw [6, 37] (fun s i w' => ∃ (wi : World) (m : Nat) (o : Int), wi = w' /\ m <= k /\ s = .int .i64 o /\ i = .int .i64 m /\ OrdSt l k m o /\ Ext (wq.alloc (.cells #[.string x.1, .string x.2] 45)) w') (fun _ i _ => k - (intOf i).toNat)
     case atStart => exact ⟨_, 0, o, rfl, Nat.zero_le _, rfl, rfl, HO.out, bR _ _⟩
     case round =>
      clear c1 c2
      obtain ⟨wi, m, o2, rfl, hm, rfl, rfl, hord, hb⟩ := hrel
      have HO2 := hQq hord; clear hord
      have hbw : Below w.heap.size w wi := Ext.trans HB1.out (Ext.trans (eA _ _) hb)
      have x1 : wi.cell? ⟨wq.heap.size, 0, none⟩ = some (.string x.1) := bC (bX hb (bN wq _)) 0
      have x2 : wi.cell? ⟨wq.heap.size, 1, none⟩ = some (.string x.2) := bC (bX hb (bN wq _)) 1
      have hxl : wq.heap.size < wi.heap.size := bL (bX hb (bN wq _))
      have HB2 := hQq hb; clear hb
      by_cases hmk : m < k
      ·obtain ⟨b3, off3, he3, hbs3, c1, c2⟩ := HC.out m (by omega)
       obtain ⟨rfl, rfl⟩ : bb = b3 /\ off = off3 := by simpa using he3
       clear he3
       replace c1 := (eC hbw hbs3).trans c1
       replace c2 := (eC hbw hbs3).trans c2
       have hnm := nmA_at l m (by omega)
       generalize l[m]'(by omega) = y at c1 c2 hnm
       have HY := hQq hnm; clear hnm
       have HW := hQq hbw; clear hbw
       by_cases hc0 : cmpS (L y.1) (L x.1) = 0
       ·have HN := hQq (chk_dup hl HF1.out hmk hlt (by rw [HX.out, HY.out]; exact cmpS_zero.1 hc0))
        go_wp2_with (go_at_call 183; refine (cmpCompare _ _ _).mono ?_; rintro e w' ⟨rfl, rfl⟩)
        go_ret
        exact ⟨by rw [HN.out]; rfl, Ext.trans HW.out (eA _ _)⟩
       by_cases hc1 : cmpS (L y.1) (L x.1) = 1
       ·have HN := hQq (HO2.out.gt hmk (by rw [HX.out, HY.out]; exact hc1))
        clear hc0
        go_wp2_with (go_at_call 183; refine (cmpCompare _ _ _).mono ?_; rintro e w' ⟨rfl, rfl⟩)
        go_roundw
        case rel => exact ⟨_, m + 1, 6, rfl, by omega, rfl, by go_num, HN.out, Ext.trans HB2.out (eA _ _)⟩
        case measure => simp [intOf]; omega
       ·have HN := hQq (HO2.out.lt hmk (by rw [HX.out, HY.out]; exact hc0) (by rw [HX.out, HY.out]; exact hc1))
        have e0 : (cmpS (L y.1) (L x.1) == 0) = false := nB hc0
        have e1 : (cmpS (L y.1) (L x.1) == 1) = false := nB hc1
        clear hc0 hc1
        go_wp2_with (go_at_call 183; refine (cmpCompare _ _ _).mono ?_; rintro e w' ⟨rfl, rfl⟩)
        go_roundw
        case rel => exact ⟨_, m + 1, o2, rfl, by omega, rfl, by go_num, HN.out, Ext.trans HB2.out (eA _ _)⟩
        case measure => simp [intOf]; omega
      ·obtain rfl : m = k := by omega
       have HW := hQq hbw; clear hbw
       go_wp2
       go_roundw
       case rel => exact ⟨_, m + 1, o2, rfl, by omega, rfl, by go_num, HO2.out.up, HW.out⟩
       case measure => simp [intOf]; omega
    ·obtain rfl : k = l.length := by omega
     have HN := hQq (chk_end hl HF1.out HO.out)
     have HB1 := hQq hb
     by_cases ho : o = 0
     ·subst ho
      by_cases hz : 288 < sizeA l
      ·have HN2 := hQq (HN.out.trans ((if_pos rfl).trans (if_pos hz)))
       have HFit := hQq (attrsFit (.slice a l.length cap) l wq (HV.out.ext HB1.out) (by omega) HM.out)
       clear hb HN
       go_wp2_with (go_at_call 171; have hfit := HFit.out; rw [if_pos hz] at hfit; refine hfit.mono ?_; clear hfit; rintro e w' ⟨rfl, hb2⟩)
       go_ret
       exact ⟨by rw [HN2.out]; rfl, Ext.trans HB1.out hb2⟩
      ·have HN2 := hQq (HN.out.trans ((if_pos rfl).trans (if_neg hz)))
       have HFit := hQq (attrsFit (.slice a l.length cap) l wq (HV.out.ext HB1.out) (by omega) HM.out)
       clear hb HN
       go_wp2_with (go_at_call 171; have hfit := HFit.out; rw [if_neg hz] at hfit; refine hfit.mono ?_; clear hfit; rintro e w' ⟨rfl, hb2⟩)
       go_ret
       exact ⟨by rw [HN2.out]; rfl, Ext.trans HB1.out hb2⟩
     ·have ho6 : o = 6 := by rcases HO.out.2 with ⟨x, _⟩ | ⟨x, _⟩; exact absurd x ho; exact x
      subst ho6
      have HN2 := hQq (HN.out.trans (if_neg ho))
      clear hb HN
      go_wp2
      go_ret
      exact ⟨by rw [HN2.out]; rfl, HB1.out⟩
theorem eDn (w : World) (n : Nat) : Ext w (w.drewN n) := by
 induction n with
 | zero => exact bR _ _
 | succ n ih => exact Below.drew ih
def NoDupK (l : List Attr) (k m : Nat) : Prop := ∀ i j, Seen k m i j -> nmA l j ≠ nmA l i
theorem NoDupK.start (l : List Attr) : NoDupK l 0 0 := fun i j h => by obtain ⟨_, h | h⟩ := h <;> omega
theorem NoDupK.up {l : List Attr} {k : Nat} (h : NoDupK l k k) : NoDupK l (k + 1) 0 := fun i j hs => h i j (by unfold Seen at hs ⊢; omega)
theorem NoDupK.step {l : List Attr} {k m : Nat} (h : NoDupK l k m) (hm : m < k) (d : nmA l m ≠ nmA l k) : NoDupK l k (m + 1) := fun i j hs => by
 rcases (seen_succ hm).1 hs with hs | ⟨rfl, rfl⟩
 ·exact h i j hs
 ·exact d
def AscK (l : List Attr) (k : Nat) : Prop := ∀ i, i + 1 < k -> ¬ nmA l (i + 1) < nmA l i
theorem not_lt_trans' {a b c : List UInt8} (h1 : ¬ b < a) (h2 : ¬ c < b) : ¬ c < a := by
 intro h
 rcases Std.lt_trichotomy a b with x | x | x
 ·exact h2 (List.lt_trans h x)
 ·subst x; exact h2 h
 ·exact h1 x
theorem AscK.all {l : List Attr} {k : Nat} (h : AscK l k) : ∀ i j, j < i -> i < k -> ¬ nmA l i < nmA l j := by
 intro i
 induction i with
 | zero => intro j hj; omega
 | succ i ih =>
  intro j hj hi
  by_cases e : j = i
  ·subst e; exact h j hi
  ·exact not_lt_trans' (ih j (by omega) (by omega)) (h i hi)
theorem chk_ref {l : List Attr} (h : ¬ 6 < l.length) (h1 : firstE l = 0) (hd : NoDupK l l.length 0) : ∀ (s : Bool), (s = true -> AscK l l.length) -> (s = false -> ∃ i, i + 1 < l.length /\ nmA l (i + 1) < nmA l i) ->
  chkE l = if s = true then (if 288 < sizeA l then 5 else 0) else 6 := by
 intro s hs hn
 cases s
 ·obtain ⟨i, hi, hlt⟩ := hn rfl
  refine (chk_end (o := 6) h h1 ⟨hd, .inr ⟨rfl, i + 1, i, ⟨by omega, .inl hi⟩, hlt⟩⟩).trans ?_
  rw [if_neg (by decide), if_neg (by decide)]
 ·refine (chk_end (o := 0) h h1 ⟨hd, .inl ⟨rfl, fun i j hsn => (hs rfl).all i j hsn.1 (by unfold Seen at hsn; omega)⟩⟩).trans ?_
  rw [if_pos rfl, if_pos rfl]
set_option maxRecDepth 100000 in
theorem refSize (v : Value) (l : List Attr) (w : World) (hv : aA w v l) (hl : l.length <= 10) (hm : ∀ a ∈ l, a.1.size <= 1000000 /\ a.2.size <= 1000000) :
  RetB Tryz.prog 182 #[v] w (.int .i64 (sizeA l)) := by
 unfold RetB
 have hmax := sizeA_le l 1000000 hm
 have hmax : sizeA l <= 30000000 := Nat.le_trans hmax (Nat.le_trans (Nat.mul_le_mul hl (Nat.le_refl _)) (by decide))
 have HM := hQq hm; clear hm
 obtain ⟨a, cap, rfl, hcap, hc⟩ := hv
 have HC := hQq hc; clear hc
 go_enter Tryz.func182, Tryz.ntmps182
 go_wp2
 go_loopw [3, 4] (fun n i w' => ∃ (wr : World) (k : Nat), wr = w' /\ k <= l.length /\ i = .int .i64 k /\ n = .int .i64 (sizeA (l.take k)) /\ Below w.heap.size w w') (fun _ i _ => l.length - (intOf i).toNat)
 case atStart => exact ⟨_, 0, rfl, Nat.zero_le _, rfl, rfl, bR _ _⟩
 case round =>
  obtain ⟨wr, k, rfl, hk, rfl, rfl, hb⟩ := hrel
  by_cases hlt : k < l.length
  ·obtain ⟨bb, off, rfl, hbs, c1, c2⟩ := HC.out k hlt
   obtain ⟨m1, m2⟩ := HM.out _ (List.getElem_mem hlt)
   have HS := hQq (sizeA_take l k hlt)
   replace c1 := (eC hb hbs).trans c1
   replace c2 := (eC hb hbs).trans c2
   generalize l[k]'hlt = x at c1 c2 m1 m2 HS
   have hle : sizeA (l.take k) <= 30000000 := by
    have := sizeA_append (l.take k) (l.drop k); rw [List.take_append_drop] at this; omega
   clear HC HM hmax
   have HB := hQq hb; clear hb
   generalize sizeA (l.take k) = n at HS hle
   have e1 : IntKind.i64.wrap ((n : Int) + 2) = (n : Int) + 2 := IntWalk.i64_in _ (by omega)
   have e2 : IntKind.i64.wrap ((n : Int) + 2 + (x.1.size : Int)) = (n : Int) + 2 + (x.1.size : Int) := IntWalk.i64_in _ (by omega)
   have e3 : IntKind.i64.wrap ((n : Int) + 2 + (x.1.size : Int) + (x.2.size : Int)) = (n : Int) + 2 + (x.1.size : Int) + (x.2.size : Int) := IntWalk.i64_in _ (by omega)
   go_wp2
   go_quiet (fail)
   go_wp2
   go_roundw
   case rel => exact ⟨_, k + 1, rfl, by omega, by go_num, by rw [HS.out]; exact congrArg _ (by omega), Ext.trans HB.out (eDn _ _)⟩
   case measure => simp [intOf]; omega
  ·have HN : Hid (sizeA (l.take k) = sizeA l) := by rw [List.take_of_length_le (by omega)]; exact rfl
   have HB := hQq hb; clear hb
   go_wp2
   go_ret
   exact ⟨by rw [<- HN.out]; rfl, HB.out⟩
theorem refFull (v : Value) (l : List Attr) (w : World) (hv : aA w v l) (hm : ∀ a ∈ l, a.1.size <= 1000000 /\ a.2.size <= 1000000) :
  RetB Tryz.prog 134 #[v] w (.bool (decide (6 < l.length) || decide (288 < sizeA l))) := by
 unfold RetB
 have HV := hQq hv
 have HM := hQq hm; clear hm
 obtain ⟨a, cap, rfl, hcap, hc⟩ := hv
 clear hc
 by_cases hl : 6 < l.length
 ·go_enter Tryz.func134, Tryz.ntmps134
  go_wp2
  go_ret
  exact ⟨by simp, bR _ _⟩
 by_cases h : 288 < sizeA l
 ·go_enter Tryz.func134, Tryz.ntmps134
  go_wp2_with (go_at_call 182; refine (refSize _ l _ HV.out (by omega) HM.out).mono ?_; rintro e w' ⟨rfl, hb⟩)
  go_ret
  exact ⟨by simp; rw [Bool.eq_iff_iff]; simp only [Bool.or_eq_true, decide_eq_true_eq]; omega, hb⟩
 ·go_enter Tryz.func134, Tryz.ntmps134
  go_wp2_with (go_at_call 182; refine (refSize _ l _ HV.out (by omega) HM.out).mono ?_; rintro e w' ⟨rfl, hb⟩)
  go_ret
  exact ⟨by simp; rw [Bool.eq_iff_iff]; simp only [Bool.or_eq_true, decide_eq_true_eq]; omega, hb⟩
set_option maxRecDepth 100000 in
theorem refCheck (v : Value) (l : List Attr) (w : World) (hv : aA w v l) (hm : ∀ a ∈ l, a.1.size <= 1000000 /\ a.2.size <= 1000000) :
  RetB Tryz.prog 71 #[v] w (.int .i64 (chkE l)) := by
 unfold RetB
 have HV := hQq hv
 have HM := hQq hm; clear hm
 obtain ⟨a, cap, rfl, hcap, hc⟩ := hv
 have HC := hQq hc; clear hc
 by_cases hl : 6 < l.length
 ·rw [chk_long hl]
  go_enter Tryz.func71, Tryz.ntmps71
  go_wp2
  go_ret
  exact ⟨rfl, bR _ _⟩
 go_enter Tryz.func71, Tryz.ntmps71
 go_wp2
 go_loopw [3] (fun i w' => ∃ (wr : World) (k : Nat), wr = w' /\ k <= l.length /\ i = .int .i64 k /\ firstE (l.take k) = 0 /\ Below w.heap.size w w') (fun i _ => l.length - (intOf i).toNat)
 case atStart => exact ⟨_, 0, rfl, Nat.zero_le _, rfl, rfl, bR _ _⟩
 case round =>
  obtain ⟨wr, k, rfl, hk, rfl, hf, hb⟩ := hrel
  have HF := hQq hf; clear hf
  by_cases hlt : k < l.length
  ·obtain ⟨bb, off, rfl, hbs, c1, c2⟩ := HC.out k hlt
   obtain ⟨m1, m2⟩ := HM.out _ (List.getElem_mem hlt)
   replace c1 := (eC hb hbs).trans c1
   replace c2 := (eC hb hbs).trans c2
   have HB := hQq hb; clear hb
   by_cases ha : aloneE (l[k]'hlt) = 0
   ·have HN := hQq (firstE_step l k hlt HF.out ha)
    generalize l[k]'hlt = x at c1 c2 m1 m2 ha
    go_wp2_with (go_at_call 133; refine (refAlone x _ m1).mono ?_; rintro e w' ⟨rfl, hb2⟩; have HB2 := hQq hb2; clear hb2)
    go_roundw
    case rel => exact ⟨_, k + 1, rfl, by omega, by go_num, HN.out, Ext.trans HB.out HB2.out⟩
    case measure => simp [intOf]; omega
   ·have HN := hQq ((chk_first hl (by rw [firstE_hit l k hlt HF.out ha]; exact ha)).trans (firstE_hit l k hlt HF.out ha))
    have ha1 : (aloneE (l[k]'hlt) != 0) = true := bne_iff_ne.2 ha
    clear ha
    generalize l[k]'hlt = x at c1 c2 m1 m2 ha1 HN
    go_wp2_with (go_at_call 133; refine (refAlone x _ m1).mono ?_; rintro e w' ⟨rfl, hb2⟩; have HB2 := hQq hb2; clear hb2)
    go_ret
    exact ⟨by rw [HN.out]; rfl, Ext.trans HB.out HB2.out⟩
  ·have hf := HF.out
   rw [List.take_of_length_le (by omega)] at hf
   have HF1 := hQq hf; clear hf HF
   have HB := hQq hb; clear hb
   go_wp2
   go_loopw [5] (fun i w' => ∃ (wq : World) (k : Nat), wq = w' /\ k <= l.length /\ i = .int .i64 k /\ NoDupK l k 0 /\ Below w.heap.size w w') (fun i _ => l.length - (intOf i).toNat)
   case atStart => exact ⟨_, 0, rfl, Nat.zero_le _, rfl, NoDupK.start l, HB.out⟩
   case round =>
    obtain ⟨wq, k, rfl, hk, rfl, hord, hb⟩ := hrel
    have HO := hQq hord; clear hord
    by_cases hlt : k < l.length
    ·obtain ⟨bb, off, rfl, hbs, c1, c2⟩ := HC.out k hlt
     have hnm := nmA_at l k hlt
     have HX := hQq hnm; clear hnm
     have HB1 := hQq hb; clear hb
     go_wp2
     go_loopw [6] (fun i w' => ∃ (wi : World) (m : Nat), wi = w' /\ m <= k /\ i = .int .i64 m /\ NoDupK l k m /\ Below w.heap.size w w') (fun i _ => k - (intOf i).toNat)
     case atStart => exact ⟨_, 0, rfl, Nat.zero_le _, rfl, HO.out, HB1.out⟩
     case round =>
      obtain ⟨wi, m, rfl, hm, rfl, hord, hb⟩ := hrel
      have HO2 := hQq hord; clear hord
      by_cases hmk : m < k
      ·obtain ⟨b3, off3, he3, hbs3, d1, d2⟩ := HC.out m (by omega)
       obtain ⟨rfl, rfl⟩ : bb = b3 /\ off = off3 := by simpa using he3
       clear he3
       replace c1 := (eC hb hbs).trans c1
       replace d1 := (eC hb hbs3).trans d1
       clear c2 d2
       have hnm := nmA_at l m (by omega)
       have HY := hQq hnm; clear hnm
       generalize l[m]'(by omega) = y at d1 HY
       generalize l[k]'hlt = x at c1 HX
       have HB2 := hQq hb; clear hb
       have j1 : ((m : Nat) : Int) < (l.length : Int) := by omega
       have j2 : ((k : Nat) : Int) < (l.length : Int) := by omega
       cases he : y.1.toList == x.1.toList
       ·have HN := hQq (HO2.out.step hmk (by rw [HX.out, HY.out]; rw [tL, tL] at he; exact beq_eq_false_iff_ne.1 he))
        go_wp2
        go_quiet (fail)
        go_wp2
        go_roundw
        case rel => exact ⟨_, m + 1, rfl, by omega, by go_num, HN.out, Ext.trans HB2.out (eDn _ _)⟩
        case measure => simp [intOf]; omega
       ·have HN := hQq (chk_dup hl HF1.out hmk hlt (by rw [HX.out, HY.out]; rw [tL, tL] at he; exact beq_iff_eq.1 he))
        go_wp2
        go_quiet (fail)
        go_wp2
        go_ret
        exact ⟨by rw [HN.out]; rfl, Ext.trans HB2.out (eDn _ _)⟩
      ·obtain rfl : m = k := by omega
       have HB2 := hQq hb; clear hb
       go_wp2
       go_roundw
       case rel => exact ⟨_, m + 1, rfl, by omega, by go_num, HO2.out.up, HB2.out⟩
       case measure => simp [intOf]; omega
    ·obtain rfl : k = l.length := by omega
     have HB1 := hQq hb; clear hb
     go_wp2
     go_loopw [7] (fun i w' => ∃ (wi : World) (m : Nat), wi = w' /\ 1 <= m /\ (m <= l.length \/ m = 1) /\ i = .int .i64 m /\ AscK l m /\ Below w.heap.size w w') (fun i _ => l.length - (intOf i).toNat)
     case atStart => exact ⟨_, 1, rfl, Nat.le_refl _, .inr rfl, rfl, fun i hi => by omega, HB1.out⟩
     case round =>
      obtain ⟨wi, m, rfl, hm1, hm2, rfl, hasc, hb⟩ := hrel
      have HA := hQq hasc; clear hasc
      by_cases hmk : m < l.length
      ·obtain ⟨m, rfl⟩ : ∃ q, m = q + 1 := ⟨m - 1, by omega⟩
       obtain ⟨bb, off, rfl, hbs, c1, c2⟩ := HC.out (m + 1) hmk
       obtain ⟨b3, off3, he3, hbs3, d1, d2⟩ := HC.out m (by omega)
       obtain ⟨rfl, rfl⟩ : bb = b3 /\ off = off3 := by simpa using he3
       clear he3
       replace c1 := (eC hb hbs).trans c1
       replace d1 := (eC hb hbs3).trans d1
       clear c2 d2
       have hnm := nmA_at l m (by omega)
       have HY := hQq hnm; clear hnm
       have hnm := nmA_at l (m + 1) hmk
       have HX := hQq hnm; clear hnm
       generalize l[m]'(by omega) = y at d1 HY
       generalize l[m + 1]'hmk = x at c1 HX
       have HB2 := hQq hb; clear hb
       have e1 : IntKind.i64.wrap ((m : Int) + 1 - 1) = (m : Int) := by rw [show (m : Int) + 1 - 1 = m by omega]; exact IntWalk.i64_in _ (by omega)
       have e2 : IntKind.i64.wrap (m : Int) = (m : Int) := IntWalk.i64_in _ (by omega)
       have j1 : ((m : Nat) : Int) + 1 < (l.length : Int) := by omega
       have j2 : ((m : Nat) : Int) < (l.length : Int) := by omega
       by_cases he : L x.1 < L y.1
       ·have hbl := bl_true he
        have HN := hQq (chk_ref hl HF1.out HO.out false (fun h => by cases h) (fun _ => ⟨m, hmk, by rw [HX.out, HY.out]; exact he⟩))
        clear he
        go_wp2
        go_quiet (fail)
        go_wp2
        go_ret
        exact ⟨by rw [HN.out]; rfl, Ext.trans HB2.out (eDn _ _)⟩
       ·have hbl := bl_false he
        have HN : Hid (AscK l (m + 1 + 1)) := by
         intro i hi
         by_cases e : i = m
         ·subst e; rw [HX.out, HY.out]; exact he
         ·exact HA.out i (by omega)
        clear he
        go_wp2
        go_quiet (fail)
        go_wp2
        go_roundw
        case rel => exact ⟨_, m + 1 + 1, rfl, by omega, .inl (by omega), by go_num, HN.out, Ext.trans HB2.out (eDn _ _)⟩
        case measure => simp [intOf]; omega
      ·have hA : AscK l l.length := fun i hi => by
        rcases hm2 with h | h
        ·exact HA.out i (by omega)
        ·omega
       have HN := hQq (chk_ref hl HF1.out HO.out true (fun _ => hA) (fun h => by cases h))
       clear hA
       have HB2 := hQq hb
       by_cases hz : 288 < sizeA l
       ·have HN2 := hQq (HN.out.trans ((if_pos rfl).trans (if_pos hz)))
        have HFull := hQq (refFull (.slice a l.length cap) l wi (HV.out.ext hb) HM.out)
        have hd : (decide (6 < l.length) || decide (288 < sizeA l)) = true := by simp [hz]
        rw [hd] at HFull
        clear hb HN hd
        go_wp2_with (go_at_call 134; refine HFull.out.mono ?_; rintro e w' ⟨rfl, hb2⟩)
        go_ret
        exact ⟨by rw [HN2.out]; rfl, Ext.trans HB2.out hb2⟩
       ·have HN2 := hQq (HN.out.trans ((if_pos rfl).trans (if_neg hz)))
        have HFull := hQq (refFull (.slice a l.length cap) l wi (HV.out.ext hb) HM.out)
        have hd : (decide (6 < l.length) || decide (288 < sizeA l)) = false := by simp [hz, hl]
        rw [hd] at HFull
        clear hb HN hd
        go_wp2_with (go_at_call 134; refine HFull.out.mono ?_; rintro e w' ⟨rfl, hb2⟩)
        go_ret
        exact ⟨by rw [HN2.out]; rfl, Ext.trans HB2.out hb2⟩
def leA (a b : Attr) : Prop := ¬ L b.1 < L a.1
def putA : List Attr -> Attr -> List Attr
 | [], x => [x]
 | a :: r, x => if L a.1 < L x.1 then a :: putA r x else x :: a :: r
def srtA (l : List Attr) : List Attr := l.foldl putA []
theorem putA_perm (l : List Attr) (x : Attr) : (putA l x).Perm (x :: l) := by
 induction l with
 | nil => exact List.Perm.refl _
 | cons a r ih =>
  unfold putA; split
  ·exact (ih.cons a).trans (List.Perm.swap x a r)
  ·exact List.Perm.refl _
theorem foldl_putA_perm (l acc : List Attr) : (l.foldl putA acc).Perm (acc ++ l) := by
 induction l generalizing acc with
 | nil => simp
 | cons x r ih =>
  rw [List.foldl_cons]
  refine (ih _).trans ?_
  have h1 : (putA acc x ++ r).Perm ((x :: acc) ++ r) := (putA_perm acc x).append_right r
  refine h1.trans ?_
  rw [List.cons_append]
  exact List.perm_middle.symm
theorem srtA_perm (l : List Attr) : (srtA l).Perm l := by
 have := foldl_putA_perm l []; simpa [srtA] using this
theorem leA_trans {a b c : Attr} (h1 : leA a b) (h2 : leA b c) : leA a c := not_lt_trans' h1 h2
theorem leA_of_lt {a b : Attr} (h : L a.1 < L b.1) : leA a b := fun k => List.lt_irrefl _ (List.lt_trans h k)
theorem putA_sorted {l : List Attr} (h : l.Pairwise leA) (x : Attr) : (putA l x).Pairwise leA := by
 induction l with
 | nil => simp [putA]
 | cons a r ih =>
  obtain ⟨h1, h2⟩ := List.pairwise_cons.1 h
  unfold putA; split
  ·rename_i hlt
   refine List.pairwise_cons.2 ⟨fun b hb => ?_, ih h2⟩
   have := (putA_perm r x).mem_iff.1 hb
   rcases List.mem_cons.1 this with rfl | hm
   ·exact leA_of_lt hlt
   ·exact h1 b hm
  ·rename_i hlt
   refine List.pairwise_cons.2 ⟨fun b hb => ?_, h⟩
   rcases List.mem_cons.1 hb with rfl | hm
   ·exact hlt
   ·exact leA_trans (b := a) hlt (h1 b hm)
theorem foldl_putA_sorted (l acc : List Attr) (h : acc.Pairwise leA) : (l.foldl putA acc).Pairwise leA := by
 induction l generalizing acc with
 | nil => exact h
 | cons x r ih => exact ih _ (putA_sorted h x)
theorem srtA_sorted (l : List Attr) : (srtA l).Pairwise leA := foldl_putA_sorted l [] List.Pairwise.nil
def Dist (l : List Attr) : Prop := l.Pairwise fun a b => L a.1 ≠ L b.1
theorem eq_of_name {l : List Attr} (h : Dist l) {a b : Attr} (ha : a ∈ l) (hb : b ∈ l) (e : L a.1 = L b.1) : a = b := by
 induction l with
 | nil => cases ha
 | cons x r ih =>
  obtain ⟨h1, h2⟩ := List.pairwise_cons.1 h
  rcases List.mem_cons.1 ha with ea | ha <;> rcases List.mem_cons.1 hb with eb | hb
  ·rw [ea, eb]
  ·exact absurd (ea ▸ e) (h1 b hb)
  ·exact absurd (eb ▸ e.symm) (h1 a ha)
  ·exact ih h2 ha hb
theorem sorted_unique {l m : List Attr} (hd : Dist l) (hp : m.Perm l) (hs : m.Pairwise leA) (l' : List Attr) (hp' : l'.Perm l) (hs' : l'.Pairwise leA) : m = l' := by
 refine List.Perm.eq_of_pairwise (le := leA) (fun a b ha hb h1 h2 => ?_) hs hs' (hp.trans hp'.symm)
 refine eq_of_name hd (hp.mem_iff.1 ha) (hp'.mem_iff.1 hb) ?_
 rcases Std.lt_trichotomy (L a.1) (L b.1) with x | x | x
 ·exact absurd x h2
 ·exact x
 ·exact absurd x h1
theorem srt_of {l m : List Attr} (hd : Dist l) (hp : m.Perm l) (hs : m.Pairwise leA) : m = srtA l := sorted_unique hd hp hs _ (srtA_perm l) (srtA_sorted l)
theorem Dist.perm {l m : List Attr} (h : Dist l) (hp : m.Perm l) : Dist m := (hp.pairwise_iff (fun h => Ne.symm h)).2 h
theorem dist_of_dupB {l : List Attr} (h : dupB l = false) : Dist l := by
 unfold Dist
 rw [List.pairwise_iff_getElem]
 intro i j hi hj hij e
 have : dupB l = true := dupB_iff.2 ⟨j, i, hij, hj, by rw [nmA_at l i hi, nmA_at l j hj]; exact e⟩
 rw [h] at this; cases this
theorem dist_of_chk {l : List Attr} (h : chkE l = 0) : Dist l := by
 apply dist_of_dupB
 unfold chkE at h
 split at h
 ·cases h
 ·split at h
  ·rename_i h2; rw [h] at h2; exact absurd rfl h2
  ·split at h
   ·cases h
   ·rename_i h3; exact Bool.eq_false_iff.2 h3
theorem chk_len {l : List Attr} (h : chkE l = 0) : l.length <= 6 := by
 unfold chkE at h
 split at h
 ·cases h
 ·omega
def whL : List UInt8 := [46, 119, 104, 46]
def wxL : List UInt8 := [46, 119, 104, 46, 46, 119, 104, 46, 120]
def wrL (d : Int) (l : List UInt8) : List UInt8 := if d = 3 /\ whL.isPrefixOf l = true then wxL ++ l.drop 4 else l
def whtL (d : Int) (l : List UInt8) : List UInt8 := if d = 3 then whL ++ wrL d l else l
def hit (d : Int) (raw name : List UInt8) : Int := if nameE name ≠ 0 then 0 else if wrL d name = raw then 1 else if whtL d name = raw then 2 else 0
def cand (raw : List UInt8) (i k : Nat) : List UInt8 := if k = 1 then whL ++ raw.drop i else raw.drop i
def candS (s : ByteArray) (i k : Nat) : ByteArray := if k = 1 then ⟨#[46, 119, 104, 46]⟩ ++ s.extract i s.size else s.extract i s.size
theorem L_cand (s : ByteArray) (i k : Nat) : L (candS s i k) = cand (L s) i k := by
 unfold candS cand; split
 ·rw [L_append, L_drop]; rfl
 ·rw [L_drop]
def HBef (d : Int) (s : ByteArray) (k : Nat) : Prop := ∀ i, i < k -> ∀ m, m < 2 -> hit d (L s) (cand (L s) i m) = 0
def HIn (d : Int) (s : ByteArray) (i k : Nat) : Prop := ∀ m, m < k -> hit d (L s) (cand (L s) i m) = 0
theorem HBef.step {d : Int} {s : ByteArray} {k : Nat} (h : HBef d s k) (hi : HIn d s k 2) : HBef d s (k + 1) := by
 intro i hik m hm
 by_cases e : i = k
 ·subst e; exact hi m hm
 ·exact h i (by omega) m hm
theorem HIn.step {d : Int} {s : ByteArray} {i k : Nat} (h : HIn d s i k) (hi : hit d (L s) (L (candS s i k)) = 0) : HIn d s i (k + 1) := by
 intro m hm
 by_cases e : m = k
 ·subst e; rw [<- L_cand]; exact hi
 ·exact h m (by omega)
def encA (a : Attr) : List Value := [.string a.1, .string a.2]
def attC (l : List Attr) : List Value := l.flatMap encA
def cmpA (a b : Attr) : Int := cmpS (L a.1) (L b.1)
theorem attC_cons (a : Attr) (r : List Attr) : attC (a :: r) = .string a.1 :: .string a.2 :: attC r := rfl
theorem attC_append (l m : List Attr) : attC (l ++ m) = attC l ++ attC m := by simp [attC]
theorem attC_length (l : List Attr) : (attC l).length = l.length * 2 := by
 induction l with
 | nil => rfl
 | cons a r ih => rw [attC_cons]; simp [ih]; omega
theorem attC_get (l : List Attr) (j : Nat) : (attC l)[j]? = (l[j / 2]?).bind fun a => (encA a)[j % 2]? := by
 induction l generalizing j with
 | nil => simp [attC]
 | cons a r ih =>
  rw [attC_cons]
  match j with
  | 0 => simp [encA]
  | 1 => simp [encA]
  | j + 2 =>
   have h1 : (j + 2) / 2 = j / 2 + 1 := by omega
   have h2 : (j + 2) % 2 = j % 2 := by omega
   rw [h1, h2, List.getElem?_cons_succ, List.getElem?_cons_succ, List.getElem?_cons_succ, ih]
def OwnA (B : Nat) (w : World) (v : Value) (l : List Attr) : Prop := w.ownsRow B 45 2 v l.length (attC l)
theorem OwnA.at {B : Nat} {w : World} {v : Value} {l : List Attr} (h : OwnA B w v l) : aA w v l := by
 have hh := h
 rcases h.2 with ⟨rfl, h0⟩ | ⟨g, cap, cur, rfl, hb, hg, hnc, hcm, hcs, htake⟩
 ·obtain rfl : l = [] := List.length_eq_zero_iff.1 h0
  exact aA.nil _ _ _
 ·refine ⟨_, _, rfl, hnc, fun k hk => ⟨g, 0, rfl, ?_, ?_, ?_⟩⟩
  ·rcases Nat.lt_or_ge g w.heap.size with x | x
   ·exact x
   ·rw [Array.getElem?_eq_none x] at hg; cases hg
  ·have := World.ownsRow.cellAt hh (k * 2) (by omega)
   rw [Nat.zero_add, this, attC_get, show k * 2 / 2 = k by omega, show k * 2 % 2 = 0 by omega, List.getElem?_eq_getElem hk]; rfl
  ·have := World.ownsRow.cellAt hh (k * 2 + 1) (by omega)
   rw [show 0 + k * 2 + 1 = k * 2 + 1 by omega, this, attC_get, show (k * 2 + 1) / 2 = k by omega, show (k * 2 + 1) % 2 = 1 by omega, List.getElem?_eq_getElem hk]; rfl
end Go.Proofs.YtimpejaaeinplaaGreatDoor
