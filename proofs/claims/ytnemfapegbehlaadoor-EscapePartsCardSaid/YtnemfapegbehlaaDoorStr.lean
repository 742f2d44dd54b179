/- Contracts of the string functions that the program uses: CutPrefix, HasPrefix, TrimPrefix; a name's check. -/
import Derived.Test.YtnemfapegbehlaaDoorBase
namespace Go.Proofs.YtnemfapegbehlaaDoor
open Go.RowKit

/-- Does the first string begin with the second one? -/
def hasP (s t : ByteArray) : Bool := (L t).isPrefixOf (L s)
def cutP (s t : ByteArray) : ByteArray := if hasP s t then s.extract t.size s.size else s

theorem take_prefix {l m : List UInt8} (_h : m.length ≤ l.length) : (l.take m.length == m) = m.isPrefixOf l := by
  rw [Bool.eq_iff_iff, beq_iff_eq, List.isPrefixOf_iff_prefix, List.prefix_iff_eq_take]; exact eq_comm
theorem hasP_long {s t : ByteArray} (h : t.size ≤ s.size) : ((s.extract 0 t.size).toList == t.toList) = hasP s t := by
  rw [toList_L, toList_L, L_take, size_L]; exact take_prefix (by rw [← size_L, ← size_L]; exact h)
theorem hasP_short {s t : ByteArray} (h : ¬ t.size ≤ s.size) : hasP s t = false := by
  rw [Bool.eq_false_iff]; intro hp
  have := (List.isPrefixOf_iff_prefix.1 hp).length_le
  rw [← size_L, ← size_L] at this; exact h this
theorem hasP_size {s t : ByteArray} (h : hasP s t = true) : t.size ≤ s.size := by
  have := (List.isPrefixOf_iff_prefix.1 h).length_le
  rw [← size_L, ← size_L] at this; exact this

theorem cutP_le (s t : ByteArray) : (cutP s t).size ≤ s.size := by
  unfold cutP; split
  · have := size_L s; rw [size_L, L_drop, List.length_drop]; omega
  · exact Nat.le_refl _
theorem slHasPrefix (s t : ByteArray) (w : World) : Ret Tryd.prog 61 #[.string s, .string t] w (.bool (hasP s t)) := by
  unfold Ret
  by_cases h : t.size ≤ s.size
  · have h1 := hasP_long h
    go_enter Tryd.func61, Tryd.ntmps61
    go_wp2
    go_ret
    exact ⟨rfl, rfl⟩
  · have h1 := hasP_short h
    go_enter Tryd.func61, Tryd.ntmps61
    go_wp2
    go_ret
    exact ⟨by simp [h1], rfl⟩
theorem hasPrefix (s t : ByteArray) (w : World) : Ret Tryd.prog 40 #[.string s, .string t] w (.bool (hasP s t)) := by
  unfold Ret
  go_enter Tryd.func40, Tryd.ntmps40
  go_wp2_with (go_at_call 61; refine (slHasPrefix _ _ _).mono ?_; rintro e w' ⟨rfl, rfl⟩)
  go_ret
  exact ⟨rfl, rfl⟩
theorem slCutPrefix (s t : ByteArray) (w : World) : Ret Tryd.prog 60 #[.string s, .string t] w (.tuple #[.string (cutP s t), .bool (hasP s t)]) := by
  unfold Ret
  cases h : hasP s t
  · go_enter Tryd.func60, Tryd.ntmps60
    go_wp2_with (go_at_call 61; refine (slHasPrefix _ _ _).mono ?_; rintro e w' ⟨rfl, rfl⟩)
    go_ret2
    exact ⟨by simp [cutP, h], rfl⟩
  · have h1 := hasP_size h
    go_enter Tryd.func60, Tryd.ntmps60
    go_wp2_with (go_at_call 61; refine (slHasPrefix _ _ _).mono ?_; rintro e w' ⟨rfl, rfl⟩)
    go_ret2
    exact ⟨by simp [cutP, h], rfl⟩
theorem cutPrefix (s t : ByteArray) (w : World) : Ret Tryd.prog 39 #[.string s, .string t] w (.tuple #[.string (cutP s t), .bool (hasP s t)]) := by
  unfold Ret
  go_enter Tryd.func39, Tryd.ntmps39
  go_wp2_with (go_at_call 60; refine (slCutPrefix _ _ _).mono ?_; rintro e w' ⟨rfl, rfl⟩)
  go_ret2
  exact ⟨rfl, rfl⟩
theorem slTrimPrefix (s t : ByteArray) (w : World) : Ret Tryd.prog 62 #[.string s, .string t] w (.string (cutP s t)) := by
  unfold Ret
  cases h : hasP s t
  · go_enter Tryd.func62, Tryd.ntmps62
    go_wp2_with (go_at_call 61; refine (slHasPrefix _ _ _).mono ?_; rintro e w' ⟨rfl, rfl⟩)
    go_ret
    exact ⟨by simp [cutP, h], rfl⟩
  · have h1 := hasP_size h
    go_enter Tryd.func62, Tryd.ntmps62
    go_wp2_with (go_at_call 61; refine (slHasPrefix _ _ _).mono ?_; rintro e w' ⟨rfl, rfl⟩)
    go_ret
    exact ⟨by simp [cutP, h], rfl⟩
theorem trimPrefix (s t : ByteArray) (w : World) : Ret Tryd.prog 41 #[.string s, .string t] w (.string (cutP s t)) := by
  unfold Ret
  go_enter Tryd.func41, Tryd.ntmps41
  go_wp2_with (go_at_call 62; refine (slTrimPrefix _ _ _).mono ?_; rintro e w' ⟨rfl, rfl⟩)
  go_ret
  exact ⟨rfl, rfl⟩

/-- A byte that no name has. -/
def badC (c : Int) : Bool := decide (c < 33) || decide (126 < c) || decide (c = 47)
theorem pathsBad (c : Int) (w : World) : Ret Tryd.prog 64 #[.int .i32 c] w (.bool (badC c)) := by
  unfold Ret
  by_cases h1 : c < 33
  · go_enter Tryd.func64, Tryd.ntmps64
    go_wp2
    go_ret
    exact ⟨by simp [badC, h1], rfl⟩
  by_cases h2 : 126 < c
  · go_enter Tryd.func64, Tryd.ntmps64
    go_wp2
    go_ret
    exact ⟨by simp [badC, h2], rfl⟩
  · have h3 : (c == 47) = badC c := by rw [Bool.eq_iff_iff]; simp [badC]; omega
    go_enter Tryd.func64, Tryd.ntmps64
    go_wp2
    go_ret
    exact ⟨rfl, rfl⟩

theorem width_pos (s : ByteArray) (pos : Nat) (h : pos < s.size) : 1 ≤ (Utf8.decode s pos).2 := by
  by_cases ha : (s[pos]'h).toNat < 128
  · rw [decode_ascii s pos h ha]
    exact Nat.le_refl _
  · exact (decode_high s pos h (by omega)).2
/-- Of a predicate on runes that all runes from 128 on meet: does a byte meet it? -/
def pB (p : Int → Bool) (b : UInt8) : Bool := p b.toNat
def fbI (p : Int → Bool) (l : List UInt8) : Int := if l.any (pB p) then (l.findIdx (pB p) : Int) else -1
theorem fbI_hit (p : Int → Bool) (s : ByteArray) (pos : Nat) (h : pos < s.size) (hb : ((L s).take pos).any (pB p) = false) (hp : pB p (s[pos]'h) = true) : fbI p (L s) = pos := by
  have hl : pos < (L s).length := by rw [← size_L]; exact h
  have e : L s = (L s).take pos ++ s[pos]'h :: (L s).drop (pos + 1) := by
    rw [getElem_L]; simp
  have hn : ∀ x ∈ (L s).take pos, ¬ pB p x = true := by simpa using hb
  unfold fbI
  have ha : (L s).any (pB p) = true := by rw [e]; simp [hp]
  rw [if_pos ha]
  congr 1
  rw [e, List.findIdx_append, if_neg (by rw [List.findIdx_lt_length]; simpa using hb)]
  simp [List.findIdx_cons, hp]; omega
theorem any_take_succ (p : Int → Bool) (s : ByteArray) (pos : Nat) (h : pos < s.size) (hb : ((L s).take pos).any (pB p) = false) (hp : pB p (s[pos]'h) = false) : ((L s).take (pos + 1)).any (pB p) = false := by
  have hl : pos < (L s).length := by rw [← size_L]; exact h
  rw [List.take_succ_eq_append_getElem hl, List.any_append, hb, ← getElem_L s pos h]; simp [hp]
theorem dec_p (p : Int → Bool) (hh : ∀ c : Int, 128 ≤ c → p c = true) (s : ByteArray) (pos : Nat) (h : pos < s.size) : p (Utf8.decode s pos).1 = pB p (s[pos]'h) := by
  by_cases ha : (s[pos]'h).toNat < 128
  · rw [decode_ascii s pos h ha]; rfl
  · have := (decode_high s pos h (by omega)).1
    rw [hh _ (by omega)]; unfold pB; rw [hh _ (by omega)]
theorem dec_w (p : Int → Bool) (hh : ∀ c : Int, 128 ≤ c → p c = true) (s : ByteArray) (pos : Nat) (h : pos < s.size) (hp : pB p (s[pos]'h) = false) : (Utf8.decode s pos).2 = 1 := by
  by_cases ha : (s[pos]'h).toNat < 128
  · rw [decode_ascii s pos h ha]
  · unfold pB at hp; rw [hh _ (by omega)] at hp; cases hp


/-- A function of the program on runes that reads nothing. -/
structure PredFn (g : FuncId) (p : Int → Bool) : Prop where
  enter : ∀ a w, (callFunc g #[a]).run Tryd.prog w = .ok (.enter g #[a]) w
  ret : ∀ c w, Ret Tryd.prog g #[.int .i32 c] w (.bool (p c))
  high : ∀ c : Int, 128 ≤ c → p c = true

set_option maxRecDepth 100000 in
theorem strIndexFuncI (g : FuncId) (p : Int → Bool) (hg : PredFn g p) (s : ByteArray) (w : World) :
    RetB Tryd.prog 83 #[.string s, .func (.func g) #[] #[], .bool true] w (.int .i64 (fbI p (L s))) := by
  unfold RetB
  have he := hg.enter
  have HG := Lib.hid hg; clear hg
  go_enter Tryd.func83, Tryd.ntmps83
  go_wp2
  go_loopw [6] (fun _ w' => ∃ pos : Nat, pos ≤ s.size ∧ w' = w.iter s pos ∧ ((L s).take pos).any (pB p) = false) (fun _ w' => s.size - w'.iterPos w.heap.size)
  case atStart => exact ⟨0, Nat.zero_le _, rfl, by simp⟩
  case round =>
    obtain ⟨pos, hle, rfl, hb⟩ := hrel
    have HB := Lib.hid hb; clear hb
    by_cases hp : pos < s.size
    · have hnx : ∀ ty, (Instr.next (.pointer (some ⟨w.heap.size, 0, none⟩)) true ty).run Tryd.prog (w.iter s pos) = _ := fun ty => run_next_any w s pos ty hp
      have hd := dec_p p HG.out.high s pos hp
      cases hb : pB p (s[pos]'hp)
      · rw [hb] at hd
        have hw1 := dec_w p HG.out.high s pos hp hb
        have HN := Lib.hid (any_take_succ p s pos hp HB.out hb); clear hb HB
        have HW := Lib.hid hw1; clear hw1
        have HD := Lib.hid hd; clear hd
        go_wp2_with fail
        refine (HG.out.ret _ _).mono ?_
        rintro e w' ⟨rfl, rfl⟩
        rw [HD.out, HW.out]
        go_wp2
        go_roundw
        case rel => exact ⟨pos + 1, by omega, rfl, HN.out⟩
        case measure => simp; omega
      · rw [hb] at hd
        have HF := Lib.hid (fbI_hit p s pos hp HB.out hb); clear hb HB
        have HD := Lib.hid hd; clear hd
        go_wp2_with fail
        refine (HG.out.ret _ _).mono ?_
        rintro e w' ⟨rfl, rfl⟩
        rw [HD.out]
        go_wp2
        go_ret
        exact ⟨by rw [HF.out]; rfl, (Below.refl _ _).alloc (Nat.le_refl _) _⟩
    · have hnx : ∀ ty, (Instr.next (.pointer (some ⟨w.heap.size, 0, none⟩)) true ty).run Tryd.prog (w.iter s pos) = _ := fun ty => run_next_end w s pos ty hp
      have HF : Hid (fbI p (L s) = -1) := by
        have hb := HB.out
        rw [List.take_of_length_le (by rw [← size_L]; omega)] at hb
        unfold fbI; rw [if_neg (by rw [hb]; simp)]; exact rfl
      go_wp2
      go_ret
      exact ⟨by rw [HF.out]; rfl, (Below.refl _ _).alloc (Nat.le_refl _) _⟩
theorem strIndexFunc (g : FuncId) (p : Int → Bool) (hg : PredFn g p) (s : ByteArray) (w : World) :
    RetB Tryd.prog 74 #[.string s, .func (.func g) #[] #[]] w (.int .i64 (fbI p (L s))) := by
  unfold RetB
  have HG := Lib.hid hg; clear hg
  go_enter Tryd.func74, Tryd.ntmps74
  go_wp2_with (go_at_call 83; refine (strIndexFuncI g p HG.out s w).mono ?_; rintro e w' ⟨rfl, hb⟩)
  go_ret
  exact ⟨rfl, hb⟩
theorem strContainsFunc (g : FuncId) (p : Int → Bool) (hg : PredFn g p) (s : ByteArray) (w : World) :
    RetB Tryd.prog 63 #[.string s, .func (.func g) #[] #[]] w (.bool ((L s).any (pB p))) := by
  unfold RetB
  have HG := Lib.hid hg; clear hg
  cases h : (L s).any (pB p)
  · have h1 : fbI p (L s) = -1 := by unfold fbI; rw [if_neg (by rw [h]; simp)]
    go_enter Tryd.func63, Tryd.ntmps63
    go_wp2_with (go_at_call 74; refine (strIndexFunc g p HG.out s w).mono ?_; rintro e w' ⟨rfl, hb⟩)
    go_ret
    exact ⟨rfl, hb⟩
  · have h1 : 0 ≤ fbI p (L s) := by unfold fbI; rw [if_pos h]; omega
    go_enter Tryd.func63, Tryd.ntmps63
    go_wp2_with (go_at_call 74; refine (strIndexFunc g p HG.out s w).mono ?_; rintro e w' ⟨rfl, hb⟩)
    go_ret
    exact ⟨rfl, hb⟩
theorem badFn : PredFn 64 badC where
  enter := by intro a w; kernel_rfl
  ret := pathsBad
  high := by intro c h; simp [badC]; omega
end Go.Proofs.YtnemfapegbehlaaDoor
