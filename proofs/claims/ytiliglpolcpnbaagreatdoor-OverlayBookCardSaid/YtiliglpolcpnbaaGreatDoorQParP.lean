/- Plain laws of paths.Parse: the pieces of a text between the slashes; what is printed is read back. -/
/- paths.Parse, and the decimal numeral. -/
import Derived.Test.YtiliglpolcpnbaaGreatDoorQPthP
import Derived.Lib.SplitLaws
import Derived.Test.YtiliglpolcpnbaaGreatDoorQNodA
import Derived.Test.YtiliglpolcpnbaaGreatDoorQKeys
import Derived.Test.YtiliglpolcpnbaaGreatDoorShelp
import Derived.Test.YtiliglpolcpnbaaGreatDoorSheli
import Derived.Lib.AppendIntMem
namespace Go.Proofs.YtiliglpolcpnbaaGreatDoor
open Go.RowKit

/-- The pieces of a text between the slashes. -/
def cutsL : List UInt8 → List (List UInt8)
  | [] => [[]]
  | c :: r => if c = 47 then [] :: cutsL r else (c :: (cutsL r).headD []) :: (cutsL r).tail
theorem cuts_slash (r : List UInt8) : cutsL (47 :: r) = [] :: cutsL r := if_pos rfl
theorem cuts_ne {c : UInt8} (h : c ≠ 47) (r : List UInt8) : cutsL (c :: r) = (c :: (cutsL r).headD []) :: (cutsL r).tail := if_neg h
theorem cuts_cons (l : List UInt8) : ∃ x r, cutsL l = x :: r := by
  cases l with
  | nil => exact ⟨_, _, rfl⟩
  | cons c r =>
    by_cases h : c = 47
    · subst h; exact ⟨_, _, cuts_slash r⟩
    · exact ⟨_, _, cuts_ne h r⟩
theorem cuts_no (l : List UInt8) : ∀ x ∈ cutsL l, (47 : UInt8) ∉ x := by
  induction l with
  | nil => intro x hx; rw [List.mem_singleton.1 hx]; simp
  | cons c r ih =>
    intro x hx
    by_cases h : c = 47
    · subst h
      rw [cuts_slash] at hx
      rcases List.mem_cons.1 hx with rfl | hx
      · simp
      · exact ih x hx
    · obtain ⟨y, q, e⟩ := cuts_cons r
      rw [cuts_ne h, e] at hx
      rw [e] at ih
      rcases List.mem_cons.1 hx with rfl | hx
      · have := ih y (by simp)
        simp only [List.headD_cons, List.mem_cons, not_or]
        exact ⟨fun e => h e.symm, this⟩
      · exact ih x (by simpa using .inr hx)
theorem cuts_join (l : List UInt8) : Lib.join (cutsL l) [47] = l := by
  induction l with
  | nil => rfl
  | cons c r ih =>
    obtain ⟨y, q, e⟩ := cuts_cons r
    rw [e, Lib.join_cons] at ih
    by_cases h : c = 47
    · subst h
      rw [cuts_slash, e, Lib.join_cons]
      show (47 : UInt8) :: (y ++ Lib.joinTail [47] q) = _
      rw [ih]
    · rw [cuts_ne h, e, Lib.join_cons]
      show c :: (y ++ Lib.joinTail [47] q) = _
      rw [ih]
/-- Pieces without slashes are those of what they are joined to. -/
theorem cuts_of {x : List UInt8} {r : List (List UInt8)} (h : ∀ y ∈ x :: r, (47 : UInt8) ∉ y) : cutsL (Lib.join (x :: r) [47]) = x :: r := by
  have h1 := cuts_join (Lib.join (x :: r) [47])
  have h2 := cuts_no (Lib.join (x :: r) [47])
  obtain ⟨y, q, e⟩ := cuts_cons (Lib.join (x :: r) [47])
  rw [e] at h1 h2 ⊢
  rw [Lib.join_cons, Lib.join_cons] at h1
  obtain ⟨e1, e2⟩ := cutL_inj (h2 y (by simp)) (h x (by simp)) (tail_sl q) (tail_sl r) h1
  rw [e1, tail_inj (fun z hz => h2 z (by simp [hz])) (fun z hz => h z (by simp [hz])) e2]
def cutsB (l : List UInt8) : List ByteArray := (cutsL l).map ofL
/-- What Parse returns. -/
def parT (s : ByteArray) : List ByteArray × Int :=
  if (L s).head? ≠ some 47 then ([], 6) else if (L s).tail = [] then ([], 0)
  else if pathE (cutsB (L s).tail) ≠ 0 then ([], pathE (cutsB (L s).tail)) else (cutsB (L s).tail, 0)
def parL (s : ByteArray) : List ByteArray := (parT s).1
def parE (s : ByteArray) : Int := (parT s).2
theorem par_of {s : ByteArray} {x : List ByteArray} {y : Int} (h : parT s = (x, y)) : parL s = x ∧ parE s = y := by unfold parL parE; rw [h]; exact ⟨rfl, rfl⟩
theorem par_form {s : ByteArray} (h : (L s).head? ≠ some 47) : parT s = ([], 6) := if_pos h
theorem par_root {s : ByteArray} (h : (L s).head? = some 47) (h2 : (L s).tail = []) : parT s = ([], 0) := by unfold parT; rw [if_neg (by simp [h]), if_pos h2]
theorem par_bad {s : ByteArray} (h : (L s).head? = some 47) (h2 : (L s).tail ≠ []) (h3 : pathE (cutsB (L s).tail) ≠ 0) : parT s = ([], pathE (cutsB (L s).tail)) := by
  unfold parT; rw [if_neg (by simp [h]), if_neg h2, if_pos h3]
theorem par_ok {s : ByteArray} (h : (L s).head? = some 47) (h2 : (L s).tail ≠ []) (h3 : pathE (cutsB (L s).tail) = 0) : parT s = (cutsB (L s).tail, 0) := by
  unfold parT; rw [if_neg (by simp [h]), if_neg h2, if_neg (by simp [h3])]
theorem mapOfL (l : List ByteArray) : (l.map L).map ofL = l := by
  rw [List.map_map]
  conv => rhs; rw [← List.map_id l]
  exact List.map_congr_left fun x _ => L_inj (L_ofL (L x))
/-- The text of a path is read back. -/
theorem text_par {p : List ByteArray} (h : pathE p = 0) (hn : p ≠ []) : parT (textP p) = (p, 0) := by
  have hL : L (textP p) = 47 :: Lib.join (p.map L) [47] := by unfold textP; rw [L_ofL]
  have h2 := (pathE_zero h).2
  cases p with
  | nil => exact absurd rfl hn
  | cons x r =>
    have hc : cutsL (L (textP (x :: r))).tail = (x :: r).map L := by
      rw [hL]
      exact cuts_of fun y hy => by
        have hy : y ∈ (x :: r).map L := hy
        obtain ⟨s, hs, rfl⟩ := List.mem_map.1 hy
        exact (nameE_parts (h2 s hs)).2.1
    have ht : (L (textP (x :: r))).tail ≠ [] := by
      rw [hL]
      show Lib.join (L x :: r.map L) [47] ≠ []
      rw [Lib.join_cons]
      intro e
      exact (nameE_parts (h2 x (by simp))).1 (List.append_eq_nil_iff.1 e).1
    have := par_ok (s := textP (x :: r)) (by rw [hL]; rfl) ht (by rw [cutsB, hc, mapOfL]; exact h)
    rw [this, cutsB, hc, mapOfL]
theorem par_len (s : ByteArray) : (parL s).length ≤ 8 := by
  unfold parL parT
  by_cases h1 : (L s).head? ≠ some 47
  · rw [if_pos h1]; exact Nat.zero_le _
  rw [if_neg h1]
  by_cases h2 : (L s).tail = []
  · rw [if_pos h2]; exact Nat.zero_le _
  rw [if_neg h2]
  by_cases h3 : pathE (cutsB (L s).tail) ≠ 0
  · rw [if_pos h3]; exact Nat.zero_le _
  rw [if_neg h3]
  exact (pathE_zero (Decidable.not_not.1 h3)).1
theorem par_names (s : ByteArray) : ∀ x ∈ parL s, x.size ≤ 24 := by
  intro x hx
  unfold parL parT at hx
  by_cases h1 : (L s).head? ≠ some 47
  · rw [if_pos h1] at hx; cases hx
  rw [if_neg h1] at hx
  by_cases h2 : (L s).tail = []
  · rw [if_pos h2] at hx; cases hx
  rw [if_neg h2] at hx
  by_cases h3 : pathE (cutsB (L s).tail) ≠ 0
  · rw [if_pos h3] at hx; cases hx
  rw [if_neg h3] at hx
  rw [size_L]
  exact (nameE_parts ((pathE_zero (Decidable.not_not.1 h3)).2 x hx)).2.2
/-! The library's cutting. -/
theorem index_cons_ne {c : UInt8} (h : c ≠ 47) (r : List UInt8) : Lib.index (c :: r) [47] = if Lib.index r [47] = -1 then -1 else Lib.index r [47] + 1 := by
  rw [Lib.index_one, Lib.index_one]
  rcases Int.lt_or_le (Lib.indexByte r 47) 0 with hr | hr
  · have e : Lib.indexByte r 47 = -1 := by have := Lib.indexByte_ge r 47; omega
    rw [if_pos e]
    unfold Lib.indexByte
    simp [h, e]
  · rw [if_neg (by omega)]
    obtain ⟨k, hk⟩ := Int.eq_ofNat_of_zero_le hr
    rw [hk]
    unfold Lib.indexByte
    simp [h, hk]
    try omega
theorem index_cons_eq (r : List UInt8) : Lib.index (47 :: r) [47] = 0 := by
  rw [Lib.index_one]
  unfold Lib.indexByte
  simp
theorem splitK_succ (k : Nat) (s : List UInt8) : Lib.splitK [47] 0 (k + 1) s = if Lib.index s [47] == -1 then [s] else s.take ((Lib.index s [47]).toNat + 0) :: Lib.splitK [47] 0 k (s.drop ((Lib.index s [47]).toNat + 1)) := rfl
theorem splitK_cuts : ∀ l : List UInt8, Lib.splitK [47] 0 (Lib.count l [47]) l = cutsL l
  | [] => rfl
  | c :: r => by
    have ih := splitK_cuts r
    by_cases h : c = 47
    · subst h
      rw [Lib.count_cons_eq, Nat.add_comm, cuts_slash, ← ih, splitK_succ, index_cons_eq]
      rfl
    · rw [Lib.count_cons_ne _ _ _ h, cuts_ne h, ← ih]
      generalize Lib.count r [47] = k
      cases k with
      | zero => rfl
      | succ j =>
        rw [splitK_succ, splitK_succ, index_cons_ne h]
        by_cases hi : Lib.index r [47] = -1
        · rw [if_pos hi, hi]; rfl
        · have hg := Lib.index_ge r [47]
          obtain ⟨i, hk⟩ := Int.eq_ofNat_of_zero_le (show 0 ≤ Lib.index r [47] by omega)
          rw [if_neg hi, hk]
          have e1 : ((i : Int) + 1 == -1) = false := beq_eq_false_iff_ne.2 (by omega)
          have e2 : ((i : Int) == -1) = false := beq_eq_false_iff_ne.2 (by omega)
          have e3 : ((i : Int) + 1).toNat = i + 1 := by omega
          rw [e1, e2, e3, Int.toNat_natCast]
          rfl
def slB : ByteArray := ⟨#[47]⟩
theorem splitB_cuts (s : ByteArray) : (Lib.splitB slB 0 (Lib.countB s slB) s).map L = cutsL (L s) := by
  have h := Lib.splitB_data slB 0 (Lib.countB s slB) s
  have e : Lib.countB s slB = Lib.count (L s) [47] := rfl
  exact h.trans (by rw [e]; exact splitK_cuts (L s))
end Go.Proofs.YtiliglpolcpnbaaGreatDoor

namespace Go.Proofs.YtiliglpolcpnbaaGreatDoor
open Go.RowKit

theorem gPow : Tryz.prog.globalNamed "internal/strconv.uint64pow10" = some 5 := by kernel_rfl
/-- What the walks of overlay and fuse ask besides of the package-level variables. -/
structure LaidO (w : World) : Prop where
  laid : Laid w
  psz : 5 < w.heap.size
  pow : Lib.TabIs Tryz.prog w "internal/strconv.uint64pow10" .u64 Lib.pow10Tab
  mx : ∃ m, w.cell? ⟨4, 0, none⟩ = some (.int .i64 m)
theorem LaidO.ext {w w' : World} (h : LaidO w) (he : Ext w w') : LaidO w' where
  laid := h.laid.ext he
  psz := Nat.lt_of_lt_of_le h.psz he.size
  pow := by
    have ha := h.pow
    unfold Lib.TabIs at ha ⊢
    exact var?_below he gPow h.psz ha
  mx := by
    obtain ⟨m, hm⟩ := h.mx
    exact ⟨m, by rw [ext_cell he (World.block_lt_of_cell? _ _ hm)]; exact hm⟩
theorem itoa (n : Int) (w : World) (hL : LaidO w) (h0 : 0 ≤ n) (h1 : n ≤ 1000000) : RetB Tryz.prog 126 #[.int .i64 n] w (.string ⟨(Lib.itoa n).toArray⟩) := by
  unfold RetB
  refine (Tryz.strconv_Itoa n (by omega) (by omega) w hL.pow).mono ?_
  rintro e w' ⟨rfl, k, os, rfl⟩
  exact ⟨rfl, Lib.below_grow _ _ (Nat.le_refl _) _ _⟩
/-- A string cut at the slashes. -/
theorem splitSlash (s : ByteArray) (w : World) (hL : LaidO w) (hs : s.size ≤ 1000000) :
    Calls Tryz.prog 166 #[.string s, .string ⟨#[47]⟩] w fun e w' => (∃ a cap, e = .returned (.slice a (cutsB (L s)).length cap) ∧ StrIn 0 w' (.slice a (cutsB (L s)).length cap) (cutsB (L s))) ∧ Ext w w' := by
  obtain ⟨m, hm⟩ := hL.mx
  have hsp : Lib.splitB ⟨#[47]⟩ 0 (Lib.countB s ⟨#[47]⟩) s = cutsB (L s) := by
    have := splitB_cuts s
    rw [cutsB, ← this, mapOfL]; rfl
  have hlen : Lib.countB s ⟨#[47]⟩ + 1 = (cutsB (L s)).length := by
    rw [← hsp]; exact (Lib.splitB_all ⟨#[47]⟩ (by decide) 0 _ s rfl).symm
  refine (Tryz.strings_Split s ⟨#[47]⟩ m w (by omega) hm (by decide)).mono ?_
  rintro e w' ⟨rfl, rfl⟩
  rw [hlen, hsp]
  refine ⟨⟨_, _, rfl, ?_⟩, ext_alloc _ _⟩
  have h := strsAt_new w (cutsL (L s)) 9
  have e1 : ((cutsL (L s)).map ofL).map Value.string = (cutsL (L s)).map (fun l => Value.string ⟨l.toArray⟩) := by rw [List.map_map]; rfl
  rw [cutsB, e1, List.length_map]
  refine strIn_of (by simpa using h) fun _ b hb => .inr ?_
  cases hb
  exact ⟨_, _, blk_new _ _⟩
theorem head_hasP {s : ByteArray} : hasP s ⟨#[47]⟩ = true ↔ (L s).head? = some 47 := by
  unfold hasP
  have e : L (⟨#[47]⟩ : ByteArray) = [47] := rfl
  rw [e]
  cases h : L s with
  | nil => simp
  | cons c r =>
    show ((47 == c) && true) = true ↔ some c = some 47
    rw [Bool.and_true, beq_iff_eq, Option.some.injEq]
    exact eq_comm
theorem cut_tail {s : ByteArray} (h : hasP s ⟨#[47]⟩ = true) : L (cutP s ⟨#[47]⟩) = (L s).tail := by
  have := L_cut h
  rw [this]; rfl
set_option maxRecDepth 100000 in
set_option maxHeartbeats 2000000 in
theorem pathsParse (s : ByteArray) (w : World) (hL : LaidO w) (hs : s.size ≤ 1000000) :
    Calls Tryz.prog 134 #[.string s] w fun e w' => (∃ a cap, e = .returned (.tuple #[.slice a (parL s).length cap, .int .i64 (parE s)]) ∧ StrIn 0 w' (.slice a (parL s).length cap) (parL s)) ∧ Ext w w' := by
  have HL := Lib.hid hL
  clear hL
  cases hp : hasP s ⟨#[47]⟩ with
  | false =>
    have HR := Lib.hid (par_of (par_form (s := s) (fun e => by rw [head_hasP.2 e] at hp; cases hp)))
    go_enter Tryz.func134, Tryz.ntmps134
    go_wp2_with (go_at_call 152; refine (cutPrefix _ _ _).mono ?_; rintro e w' ⟨rfl, rfl⟩)
    go_ret2
    exact ⟨⟨none, 0, by rw [HR.out.1, HR.out.2]; rfl, by rw [HR.out.1]; exact strIn_nil _ _ _⟩, Below.refl _ _⟩
  | true =>
    have h1 := head_hasP.1 hp
    have hct := cut_tail hp
    by_cases h2 : (L s).tail = []
    · have HR := Lib.hid (par_of (par_root h1 h2))
      have q1 : (cutP s ⟨#[47]⟩).toList.isEmpty = true := by rw [toList_L, hct, h2]; rfl
      clear h1 hct h2
      go_enter Tryz.func134, Tryz.ntmps134
      go_wp2_with (go_at_call 152; refine (cutPrefix _ _ _).mono ?_; rintro e w' ⟨rfl, rfl⟩)
      go_ret2
      exact ⟨⟨none, 0, by rw [HR.out.1, HR.out.2]; rfl, by rw [HR.out.1]; exact strIn_nil _ _ _⟩, Below.refl _ _⟩
    · have q1 : (cutP s ⟨#[47]⟩).toList.isEmpty = false := by
        rw [toList_L, hct]
        cases e : (L s).tail with
        | nil => exact absurd e h2
        | cons _ _ => rfl
      have HZ : Hid ((cutP s ⟨#[47]⟩).size ≤ 1000000) := Lib.hid (Nat.le_trans (cutP_le s ⟨#[47]⟩) hs)
      have HC := Lib.hid hct
      by_cases h3 : pathE (cutsB (L s).tail) = 0
      · have HR := Lib.hid (par_of (par_ok h1 h2 h3))
        have q2 : (pathE (cutsB (L s).tail) != 0) = false := bne_eq_false_iff_eq.2 h3
        clear h1 hct h2 h3
        go_enter Tryz.func134, Tryz.ntmps134
        go_wp2_with (first
          | (go_at_call 152; refine (cutPrefix _ _ _).mono ?_; rintro e w' ⟨rfl, rfl⟩)
          | (go_at_call 166; refine (splitSlash _ _ HL.out HZ.out).mono ?_; rw [HC.out]; rintro e w1 ⟨⟨a, cap, rfl, ho⟩, hb⟩; have HO := Lib.hid ho; have HB := Lib.hid hb; clear ho hb)
          | (go_at_call 113; refine (pathsCheck _ _ _ HO.out.strs).mono ?_; rintro e w2 ⟨rfl, hb⟩; have HB2 := Lib.hid (Ext.trans HB.out hb); have HO2 := Lib.hid (HO.out.ext okS hb); clear hb))
        go_ret2
        exact ⟨⟨_, _, by rw [HR.out.1, HR.out.2]; rfl, by rw [HR.out.1]; exact HO2.out⟩, HB2.out⟩
      · have HR := Lib.hid (par_of (par_bad h1 h2 h3))
        have q2 : (pathE (cutsB (L s).tail) != 0) = true := bne_iff_ne.2 h3
        clear h1 hct h2 h3
        go_enter Tryz.func134, Tryz.ntmps134
        go_wp2_with (first
          | (go_at_call 152; refine (cutPrefix _ _ _).mono ?_; rintro e w' ⟨rfl, rfl⟩)
          | (go_at_call 166; refine (splitSlash _ _ HL.out HZ.out).mono ?_; rw [HC.out]; rintro e w1 ⟨⟨a, cap, rfl, ho⟩, hb⟩; have HO := Lib.hid ho; have HB := Lib.hid hb; clear ho hb)
          | (go_at_call 113; refine (pathsCheck _ _ _ HO.out.strs).mono ?_; rintro e w2 ⟨rfl, hb⟩; have HB2 := Lib.hid (Ext.trans HB.out hb); clear hb))
        go_ret2
        exact ⟨⟨none, 0, by rw [HR.out.1, HR.out.2]; rfl, by rw [HR.out.1]; exact strIn_nil _ _ _⟩, HB2.out⟩
end Go.Proofs.YtiliglpolcpnbaaGreatDoor
