/- An entry of a directory, and a directory, as the memory has them. -/
/- Plain law: what is wrong in a directory. -/
/- Plain law: the directories of a branch, and that nothing is wrong in them. -/
/- A directory's rows stay when a struct that holds a directory is written. -/
import Derived.Test.YtiliglpolcpnbaaGreatDoorQCod
import Derived.Test.YtiliglpolcpnbaaGreatDoorQBrnH
namespace Go.Proofs.YtiliglpolcpnbaaGreatDoor
open Go.RowKit

structure DeN where
  nm : ByteArray
  nd : TrN
  wh : Bool
  fi : Bool
  ns : Int
def deC (x : DeN) (va : Value) : List Value := [.string x.nm, .int .i64 x.nd.dep, .string x.nd.nm, .int .i64 x.nd.kd, va, .string x.nd.dat, .int .i64 x.nd.ma, .int .i64 x.nd.mi, .int .i64 x.nd.cl, .bool x.wh, .bool x.fi, .int .i64 x.ns]
def zDeN : DeN := ⟨⟨#[]⟩, zTrN, false, false, 0⟩
def cdE : Cd DeN := { t := 52, e := 95, n := 12, bytes := 128, z := .agg #[.string ⟨#[]⟩, .int .i64 0, .string ⟨#[]⟩, .int .i64 0, .slice none 0 0, .string ⟨#[]⟩, .int .i64 0, .int .i64 0, .int .i64 0, .bool false, .bool false, .int .i64 0], inner := [50], R := fun B w x cs => ∃ va, AttIn B w va x.nd.ats ∧ cs = deC x va }
theorem okE : CdOk Tryz.prog cdE where
  sl := { und := Tryz.underlying52, info := info_parts (by kernel_rfl), zs := rfl, pos := by decide, small := by decide }
  len := fun h => by obtain ⟨va, _, rfl⟩ := h; rfl
  one := fun h u hu => by
    obtain ⟨va, h1, rfl⟩ := h
    have := slice_one h1
    simp [deC] at hu
    rcases hu with rfl | rfl | rfl | rfl | rfl | rfl | rfl | rfl | rfl | rfl | rfl | rfl <;> first | rfl | exact this
  chg := fun h c hE => by
    obtain ⟨va, h1, rfl⟩ := h
    exact ⟨va, h1.chg okA c (fun e => hE (by rw [e]; simp [cdE, cdA])) (by simp [cdA]), rfl⟩
  mono := fun hB h => by obtain ⟨va, h1, rfl⟩ := h; exact ⟨va, h1.mono okA hB, rfl⟩
  self := by decide
abbrev EnIn (B : Nat) (w : World) (v : Value) (l : List DeN) : Prop := ListIn cdE B w v l
/-- A directory. -/
structure DiN where
  ats : List Attr
  opq : Bool
  red : List ByteArray
  ens : List DeN
/-- A directory that lies in memory. -/
def DirIn (B : Nat) (w : World) (v : Value) (d : DiN) : Prop := ∃ va vr ve, v = .agg #[va, .bool d.opq, vr, ve] ∧ AttIn B w va d.ats ∧ StrIn B w vr d.red ∧ EnIn B w ve d.ens
theorem DirIn.ext {B : Nat} {w w' : World} {v : Value} {d : DiN} (h : DirIn B w v d) (he : Ext w w') : DirIn B w' v d := by
  obtain ⟨va, vr, ve, rfl, h1, h2, h3⟩ := h
  exact ⟨va, vr, ve, rfl, h1.ext okA he, h2.ext okS he, h3.ext okE he⟩
theorem DirIn.mono {B B' : Nat} {w : World} {v : Value} {d : DiN} (h : DirIn B w v d) (hB : B ≤ B') : DirIn B' w v d := by
  obtain ⟨va, vr, ve, rfl, h1, h2, h3⟩ := h
  exact ⟨va, vr, ve, rfl, h1.mono okA hB, h2.mono okS hB, h3.mono okE hB⟩
theorem DirIn.chg {B : Nat} {E : TypeId} {row : Option Nat} {w w' : World} {v : Value} {d : DiN} (h : DirIn B w v d) (c : Chg B E row w w') (hE : E ≠ 50 ∧ E ≠ 9 ∧ E ≠ 95) : DirIn B w' v d := by
  obtain ⟨va, vr, ve, rfl, h1, h2, h3⟩ := h
  exact ⟨va, vr, ve, rfl, h1.chg okA c hE.1 (by simp [cdA]), h2.chg okS c hE.2.1 (by simp [cdS]), h3.chg okE c hE.2.2 (by simp [cdE, hE.1])⟩
end Go.Proofs.YtiliglpolcpnbaaGreatDoor

namespace Go.Proofs.YtiliglpolcpnbaaGreatDoor
open Go.RowKit

def getE (l : List DeN) (i : Nat) : DeN := l.getD i zDeN
theorem getE_at (l : List DeN) (i : Nat) (h : i < l.length) : getE l i = l[i]'h := by unfold getE; simp [List.getD, h]
/-- A node as the only entry of a root. -/
def rootN : TrN := { zTrN with kd := 1 }
def soloW : ByteArray := ofL [110]
def soloN (x : TrN) : TrN := { x with dep := 1, nm := soloW, cl := 0 }
def soloE (x : TrN) : Int := treeE [rootN, soloN x]
/-- What an entry must not be. -/
def markB (o : Bool) (x : DeN) : Bool :=
  ((x.nd.kd == 1) && (decide (0 < x.nd.ats.length) || decide (0 < x.nd.cl))) || ((x.nd.kd == 5) && (decide (0 < x.nd.cl) || o)) || (x.wh != (x.nd.kd == 5)) || (!x.fi && (x.ns == 1))
/-- The error of an entry behind another name. -/
def entX (o : Bool) (last : ByteArray) (x : DeN) : Int :=
  if nameE (L x.nm) ≠ 0 then nameE (L x.nm)
  else if x.nm = last then 8
  else if L x.nm < L last ∨ x.nd.dep ≠ 0 ∨ ¬ x.nd.nm.toList = [] then 6
  else if soloE x.nd ≠ 0 then soloE x.nd
  else if x.nd.cl < 0 ∨ (0 < x.nd.cl ∧ x.ns ≤ 1) ∨ (x.nd.cl ≤ 0 ∧ 1 < x.ns) then 6
  else if x.ns < 1 then 7
  else if markB o x = true then 6 else 0
theorem entX_name {o : Bool} {z : ByteArray} {x : DeN} (h : nameE (L x.nm) ≠ 0) : entX o z x = nameE (L x.nm) := if_pos h
theorem entX_dup {o : Bool} {z : ByteArray} {x : DeN} (h : nameE (L x.nm) = 0) (h1 : x.nm = z) : entX o z x = 8 := by unfold entX; rw [if_neg (by simp [h]), if_pos h1]
theorem entX_ord {o : Bool} {z : ByteArray} {x : DeN} (h : nameE (L x.nm) = 0) (h1 : ¬ x.nm = z) (h2 : L x.nm < L z ∨ x.nd.dep ≠ 0 ∨ ¬ x.nd.nm.toList = []) : entX o z x = 6 := by
  unfold entX; rw [if_neg (by simp [h]), if_neg h1, if_pos h2]
theorem entX_solo {o : Bool} {z : ByteArray} {x : DeN} (h : nameE (L x.nm) = 0) (h1 : ¬ x.nm = z) (h2 : ¬ L x.nm < L z) (h3 : x.nd.dep = 0) (h4 : x.nd.nm.toList = []) (h5 : soloE x.nd ≠ 0) : entX o z x = soloE x.nd := by
  unfold entX; rw [if_neg (by simp [h]), if_neg h1, if_neg (by simp [h2, h3, h4]), if_pos h5]
/-- The error of an entry of which the name and the node are right. -/
def restX (o : Bool) (x : DeN) : Int :=
  if x.nd.cl < 0 ∨ (0 < x.nd.cl ∧ x.ns ≤ 1) ∨ (x.nd.cl ≤ 0 ∧ 1 < x.ns) then 6
  else if x.ns < 1 then 7
  else if markB o x = true then 6 else 0
theorem entX_rest {o : Bool} {z : ByteArray} {x : DeN} (h : nameE (L x.nm) = 0) (h1 : ¬ x.nm = z) (h2 : ¬ L x.nm < L z) (h3 : x.nd.dep = 0) (h4 : x.nd.nm.toList = []) (h5 : soloE x.nd = 0) : entX o z x = restX o x := by
  unfold entX restX; rw [if_neg (by simp [h]), if_neg h1, if_neg (by simp [h2, h3, h4]), if_neg (by simp [h5])]
def lastE (l : List DeN) (i : Nat) : ByteArray := if i = 0 then ⟨#[]⟩ else (getE l (i - 1)).nm
theorem lastE_zero (l : List DeN) : lastE l 0 = ⟨#[]⟩ := rfl
theorem lastE_succ (l : List DeN) (i : Nat) : lastE l (i + 1) = (getE l i).nm := rfl
def entE (o : Bool) (l : List DeN) (i : Nat) : Int := entX o (lastE l i) (getE l i)
def badX (o : Bool) (l : List DeN) (i : Nat) : Bool := entE o l i != 0
/-- What is wrong in a directory: the entry, and the error. -/
def dirT (d : DiN) : Int × Int :=
  if chkE d.ats ≠ 0 then (-1, chkE d.ats)
  else if d.opq = true ∧ 0 < d.red.length then (-1, 6)
  else if pathE d.red ≠ 0 then (-1, pathE d.red)
  else if 24 < d.ens.length then (-1, 3)
  else match findB (badX d.opq d.ens) 0 d.ens.length with
    | some i => (i, entE d.opq d.ens i)
    | none => (0, 0)
def dirN (d : DiN) : Int := (dirT d).1
def dirE (d : DiN) : Int := (dirT d).2
theorem dir_of {d : DiN} {a b : Int} (h : dirT d = (a, b)) : dirN d = a ∧ dirE d = b := by unfold dirN dirE; rw [h]; exact ⟨rfl, rfl⟩
theorem dirT_ats {d : DiN} (h : chkE d.ats ≠ 0) : dirT d = (-1, chkE d.ats) := if_pos h
theorem dirT_both {d : DiN} (h : chkE d.ats = 0) (h1 : d.opq = true) (h2 : 0 < d.red.length) : dirT d = (-1, 6) := by unfold dirT; rw [if_neg (by simp [h]), if_pos ⟨h1, h2⟩]
theorem dirT_path {d : DiN} (h : chkE d.ats = 0) (h1 : ¬ (d.opq = true ∧ 0 < d.red.length)) (h2 : pathE d.red ≠ 0) : dirT d = (-1, pathE d.red) := by unfold dirT; rw [if_neg (by simp [h]), if_neg h1, if_pos h2]
theorem dirT_long {d : DiN} (h : chkE d.ats = 0) (h1 : ¬ (d.opq = true ∧ 0 < d.red.length)) (h2 : pathE d.red = 0) (h3 : 24 < d.ens.length) : dirT d = (-1, 3) := by unfold dirT; rw [if_neg (by simp [h]), if_neg h1, if_neg (by simp [h2]), if_pos h3]
theorem dirT_ent {d : DiN} (h : chkE d.ats = 0) (h1 : ¬ (d.opq = true ∧ 0 < d.red.length)) (h2 : pathE d.red = 0) (h3 : ¬ 24 < d.ens.length) {i : Nat} (hi : i < d.ens.length) (hl : ∀ j, j < i → entE d.opq d.ens j = 0) (he : entE d.opq d.ens i ≠ 0) : dirT d = ((i : Int), entE d.opq d.ens i) := by
  unfold dirT; rw [if_neg (by simp [h]), if_neg h1, if_neg (by simp [h2]), if_neg h3, findB_some d.ens.length 0 i (Nat.zero_le _) (by omega) (fun j _ hj => by unfold badX; rw [hl j hj]; rfl) (show badX d.opq d.ens i = true from bne_iff_ne.2 he)]
theorem dirT_ok {d : DiN} (h : chkE d.ats = 0) (h1 : ¬ (d.opq = true ∧ 0 < d.red.length)) (h2 : pathE d.red = 0) (h3 : ¬ 24 < d.ens.length) (hl : ∀ j, j < d.ens.length → entE d.opq d.ens j = 0) : dirT d = (0, 0) := by
  unfold dirT; rw [if_neg (by simp [h]), if_neg h1, if_neg (by simp [h2]), if_neg h3, findB_none d.ens.length 0 (fun j _ hj => by unfold badX; rw [hl j (by omega)]; rfl)]
/-- A directory in which nothing is wrong. -/
theorem dirE_zero {d : DiN} (h : dirE d = 0) : dirN d = 0 ∧ chkE d.ats = 0 ∧ ¬ (d.opq = true ∧ 0 < d.red.length) ∧ pathE d.red = 0 ∧ d.ens.length ≤ 24 ∧ ∀ j, j < d.ens.length → entE d.opq d.ens j = 0 := by
  unfold dirE dirN dirT at *
  by_cases h0 : chkE d.ats ≠ 0
  · rw [if_pos h0] at h; exact absurd h h0
  rw [if_neg h0] at h ⊢
  by_cases h1 : d.opq = true ∧ 0 < d.red.length
  · rw [if_pos h1] at h; cases h
  rw [if_neg h1] at h ⊢
  by_cases h2 : pathE d.red ≠ 0
  · rw [if_pos h2] at h; exact absurd h h2
  rw [if_neg h2] at h ⊢
  by_cases h3 : 24 < d.ens.length
  · rw [if_pos h3] at h; cases h
  rw [if_neg h3] at h ⊢
  cases hf : findB (badX d.opq d.ens) 0 d.ens.length with
  | some i =>
    rw [hf] at h
    exact absurd h (bne_iff_ne.1 (findB_mem _ _ _ hf).1)
  | none => exact ⟨rfl, by omega, h1, by omega, by omega, fun j hj => bne_eq_false_iff_eq.1 (findB_none_iff _ _ hf j (Nat.zero_le _) (by omega))⟩
theorem ent_parts {o : Bool} {z : ByteArray} {x : DeN} (h : entX o z x = 0) : nameE (L x.nm) = 0 ∧ ¬ x.nm = z ∧ ¬ L x.nm < L z ∧ x.nd.dep = 0 ∧ x.nd.nm.toList = [] ∧ soloE x.nd = 0 ∧ 0 ≤ x.nd.cl ∧ (0 < x.nd.cl ↔ 1 < x.ns) ∧ 1 ≤ x.ns ∧ markB o x = false := by
  unfold entX at h
  by_cases h1 : nameE (L x.nm) ≠ 0
  · rw [if_pos h1] at h; exact absurd h h1
  rw [if_neg h1] at h
  by_cases h2 : x.nm = z
  · rw [if_pos h2] at h; cases h
  rw [if_neg h2] at h
  by_cases h3 : L x.nm < L z ∨ x.nd.dep ≠ 0 ∨ ¬ x.nd.nm.toList = []
  · rw [if_pos h3] at h; cases h
  rw [if_neg h3] at h
  by_cases h4 : soloE x.nd ≠ 0
  · rw [if_pos h4] at h; exact absurd h h4
  rw [if_neg h4] at h
  by_cases h5 : x.nd.cl < 0 ∨ (0 < x.nd.cl ∧ x.ns ≤ 1) ∨ (x.nd.cl ≤ 0 ∧ 1 < x.ns)
  · rw [if_pos h5] at h; cases h
  rw [if_neg h5] at h
  by_cases h6 : x.ns < 1
  · rw [if_pos h6] at h; cases h
  rw [if_neg h6] at h
  by_cases h7 : markB o x = true
  · rw [if_pos h7] at h; cases h
  have h3a : ¬ L x.nm < L z := fun e => h3 (.inl e)
  have h3b : x.nd.dep = 0 := Decidable.not_not.1 fun e => h3 (.inr (.inl e))
  have h3c : x.nd.nm.toList = [] := Decidable.not_not.1 fun e => h3 (.inr (.inr e))
  exact ⟨by omega, h2, h3a, h3b, h3c, by omega, by omega, by omega, by omega, Bool.eq_false_iff.2 h7⟩
theorem solo_chk {x : TrN} (h : soloE x = 0) : chkE x.ats = 0 :=
  (node_parts ((treeE_zero h).2.2.1 1 (by simp))).2.2.2.1
theorem solo_kind {x : TrN} (h : soloE x = 0) : kindE (soloN x) = 0 :=
  (node_parts ((treeE_zero h).2.2.1 1 (by simp))).2.2.1
end Go.Proofs.YtiliglpolcpnbaaGreatDoor

namespace Go.Proofs.YtiliglpolcpnbaaGreatDoor
open Go.RowKit

/-! Entries of a filtered range. -/
theorem filt_take {p : Nat → Bool} : ∀ {m q i : Nat}, ((List.range m).filter p)[q]? = some i → p i = true ∧ i < m ∧ (List.range i).filter p = ((List.range m).filter p).take q
  | 0, q, i, h => by simp at h
  | m + 1, q, i, h => by
    rw [List.range_succ, List.filter_append] at h ⊢
    by_cases hq : q < ((List.range m).filter p).length
    · rw [List.getElem?_append_left hq] at h
      obtain ⟨h1, h2, h3⟩ := filt_take h
      exact ⟨h1, by omega, by rw [h3, List.take_append_of_le_length (by omega)]⟩
    · rw [List.getElem?_append_right (by omega)] at h
      by_cases hp : p m = true
      · rw [List.filter_cons_of_pos hp] at h ⊢
        have hq2 : q - ((List.range m).filter p).length = 0 := by
          have := (List.getElem?_eq_some_iff.1 h).1
          simp at this; omega
        rw [hq2] at h
        simp at h
        subst h
        refine ⟨hp, by omega, ?_⟩
        rw [show q = ((List.range m).filter p).length by omega, List.take_left]
      · rw [List.filter_cons_of_neg hp] at h
        simp at h
theorem filt_succ (p : Nat → Bool) (m : Nat) : (List.range (m + 1)).filter p = (List.range m).filter p ++ (if p m = true then [m] else []) := by
  rw [List.range_succ, List.filter_append]
  by_cases hp : p m = true
  · rw [List.filter_cons_of_pos hp, if_pos hp]; rfl
  · rw [List.filter_cons_of_neg hp, if_neg hp]; rfl

/-- The entries of a directory; the nodes of a class. -/
def kidB (t : List TrN) (n i : Nat) : Bool := decide (abv t i = (n : Int))
def kidsT (t : List TrN) (n k : Nat) : List Nat := (List.range k).filter (kidB t n)
def kidsL (b : List BrN) (n : Nat) : List Nat := kidsT (plT b) n b.length
def classB (t : List TrN) (n i : Nat) : Bool := decide (i = n) || (decide ((getT t n).cl ≠ 0) && decide ((getT t i).cl = (getT t n).cl))
def namesT (t : List TrN) (n k : Nat) : List Nat := (List.range k).filter (classB t n)
def namesL (b : List BrN) (n : Nat) : List Nat := namesT (plT b) n b.length
/-- Whether the names of a node, by directories, then by names, begin with this one. -/
def notB (t : List TrN) (n i k : Nat) : Bool := decide ((n : Int) < abv t k) || (decide (abv t k = (n : Int)) && decide (i ≤ k))
def firstB (b : List BrN) (n i : Nat) : Bool := (namesL b i).all (notB (plT b) n i)
def nodX (x : TrN) : TrN := if x.kd = 1 then rootN else { x with dep := 0, nm := ⟨#[]⟩ }
def entD (b : List BrN) (n i : Nat) : DeN := ⟨(getB b i).nm, nodX (getB b i).toTrN, (getB b i).kd == 5, firstB b n i, (namesL b i).length⟩
def dirD (b : List BrN) (n : Nat) : DiN := ⟨(getB b n).ats, (getB b n).opq, (getB b n).red, (kidsL b n).map (entD b n)⟩

/-! What is above a node of a right tree. -/
theorem abvE_spec {t : List TrN} {d : Int} : ∀ {m n : Nat}, abvE t d m = (n : Int) → n < m ∧ (getT t n).dep < d ∧ ∀ k, n < k → k < m → d ≤ (getT t k).dep
  | 0, n, h => by unfold abvE at h; omega
  | m + 1, n, h => by
    unfold abvE at h
    by_cases e : (getT t m).dep < d
    · rw [if_pos e] at h
      obtain rfl : m = n := by omega
      exact ⟨by omega, e, fun k h1 h2 => by omega⟩
    · rw [if_neg e] at h
      obtain ⟨h1, h2, h3⟩ := abvE_spec h
      refine ⟨by omega, h2, fun k h4 h5 => ?_⟩
      by_cases e2 : k = m
      · subst e2; omega
      · exact h3 k h4 (by omega)
theorem abvE_of {t : List TrN} {d : Int} : ∀ {m n : Nat}, n < m → (getT t n).dep < d → (∀ k, n < k → k < m → d ≤ (getT t k).dep) → abvE t d m = (n : Int)
  | m + 1, n, h1, h2, h3 => by
    unfold abvE
    by_cases e : n = m
    · subst e; rw [if_pos h2]
    · rw [if_neg (by have := h3 m (by omega) (by omega); omega)]
      exact abvE_of (by omega) h2 fun k h4 h5 => h3 k h4 (by omega)
theorem abv_kid {t : List TrN} {i n : Nat} (hok : AllOk t (i + 1)) (h : abv t i = (n : Int)) : n < i ∧ (getT t i).dep = (getT t n).dep + 1 ∧ (getT t n).kd = 1 ∧ ∀ k, n < k → k ≤ i → (getT t i).dep ≤ (getT t k).dep := by
  obtain ⟨h1, h2, h3⟩ := abvE_spec h
  obtain ⟨s1, _⟩ := node_parts (hok (n + 1) (by omega))
  have h4 := ((shape_bd s1).2.2.2 (by omega)).2
  rw [Nat.add_sub_cancel] at h4
  have h5 : (getT t i).dep ≤ (getT t (n + 1)).dep := by
    by_cases e : n + 1 = i
    · rw [e]; exact Int.le_refl _
    · exact h3 (n + 1) (by omega) (by omega)
  unfold mostD at h4
  by_cases hk : (getT t n).kd = 1
  · rw [if_pos hk] at h4
    refine ⟨h1, by omega, hk, fun k h6 h7 => ?_⟩
    by_cases e : k = i
    · rw [e]; exact Int.le_refl _
    · exact h3 k h6 (by omega)
  · rw [if_neg hk] at h4; omega
/-- What the search for earlier entries finds are the directory's. -/
theorem scan_kids {t : List TrN} {n : Nat} : ∀ {j : Nat}, AllOk t j → j ≤ t.length → n < j → (∀ k, n < k → k < j → (getT t n).dep + 1 ≤ (getT t k).dep) →
    (scan (revT t j) ((getT t n).dep + 1)).1 = (kidsT t n j).length ∧ (scan (revT t j) ((getT t n).dep + 1)).2 = (kidsT t n j).getLast?.map fun k => (getT t k).nm
  | 0, _, _, h, _ => by omega
  | j + 1, hok, hl, hn, hd => by
    rw [revT_succ t j (by omega), ← getT_at t j (by omega)]
    have hs : kidsT t n (j + 1) = kidsT t n j ++ (if kidB t n j = true then [j] else []) := filt_succ _ _
    by_cases e : n = j
    · subst e
      rw [scan_lt (by omega)]
      have h0 : ∀ m, m ≤ n → kidsT t n m = [] := fun m hm => List.filter_eq_nil_iff.2 fun k hk => by
        have hk := List.mem_range.1 hk
        have := abv_bd t k
        unfold kidB
        rw [decide_eq_true_iff]; omega
      have hk : kidB t n n = false := by unfold kidB; have := abv_bd t n; rw [decide_eq_false_iff_not]; omega
      rw [hs, h0 n (Nat.le_refl _), hk]
      exact ⟨rfl, rfl⟩
    · obtain ⟨h1, h2⟩ := scan_kids (j := j) (fun k hk => hok k (by omega)) (by omega) (by omega) (fun k h1 h2 => hd k h1 (by omega))
      have h3 := hd j (by omega) (by omega)
      by_cases e2 : (getT t j).dep = (getT t n).dep + 1
      · have hk : kidB t n j = true := by
          unfold kidB
          rw [decide_eq_true_iff]
          exact abvE_of (by omega) (by omega) fun k h4 h5 => by have := hd k h4 (by omega); omega
        rw [scan_eq e2, hs, hk, h1]
        exact ⟨by simp, by simp⟩
      · have hk : kidB t n j = false := by
          unfold kidB
          rw [decide_eq_false_iff_not]
          intro h
          have := (abv_kid hok h).2.1; omega
        rw [scan_gt (by omega), hs, hk, h1, h2]
        exact ⟨by simp, by simp⟩
theorem next_zero {m : Nat} {z : Option ByteArray} {nm : ByteArray} (hz : z = none → m = 0) (h : nextE m z nm = 0) : m < 24 ∧ ∀ x, z = some x → ¬ nm = x ∧ ¬ L nm < L x := by
  unfold nextE at h
  cases z with
  | none => exact ⟨by rw [hz rfl]; decide, fun x e => by cases e⟩
  | some x =>
    simp only at h
    by_cases h1 : x = nm
    · rw [if_pos h1] at h; cases h
    rw [if_neg h1] at h
    by_cases h2 : L nm < L x
    · rw [if_pos h2] at h; cases h
    rw [if_neg h2] at h
    by_cases h3 : 24 ≤ m
    · rw [if_pos h3] at h; cases h
    exact ⟨by omega, fun y e => by cases e; exact ⟨fun e => h1 e.symm, h2⟩⟩
/-- A node's entry: its name is right, and comes behind those before it. -/
theorem kid_entry {t : List TrN} {n i : Nat} (hok : AllOk t t.length) (hi : i < t.length) (h : abv t i = (n : Int)) :
    nameE (L (getT t i).nm) = 0 ∧ (kidsT t n i).length < 24 ∧ ∀ k, (kidsT t n i).getLast? = some k → ¬ (getT t i).nm = (getT t k).nm ∧ ¬ L (getT t i).nm < L (getT t k).nm := by
  obtain ⟨h1, h2, h3, h4⟩ := abv_kid (fun j hj => hok j (by omega)) h
  obtain ⟨_, he, _⟩ := node_parts (hok i hi)
  have he := he (by omega)
  unfold entryE at he
  by_cases hn : nameE (L (getT t i).nm) ≠ 0
  · rw [if_pos hn] at he; exact absurd he hn
  rw [if_neg hn] at he
  obtain ⟨s1, s2⟩ := scan_kids (t := t) (n := n) (j := i) (fun k hk => hok k (by omega)) (by omega) h1 (fun k h5 h6 => by have := h4 k h5 (by omega); omega)
  rw [h2, s1, s2] at he
  obtain ⟨e1, e2⟩ := next_zero (fun hz => by
    cases hg : (kidsT t n i).getLast? with
    | none => rw [List.getLast?_eq_none_iff.1 hg]; rfl
    | some k => rw [hg] at hz; cases hz) he
  exact ⟨by omega, e1, fun k hk => e2 _ (by rw [hk]; rfl)⟩
theorem kids_short {t : List TrN} {n : Nat} (hok : AllOk t t.length) : (kidsT t n t.length).length ≤ 24 := by
  by_cases h : (kidsT t n t.length).length ≤ 24
  · exact h
  exfalso
  obtain ⟨i, hi⟩ : ∃ i, (kidsT t n t.length)[24]? = some i := ⟨_, List.getElem?_eq_getElem (by omega)⟩
  obtain ⟨h1, h2, h3⟩ := filt_take hi
  have := (kid_entry hok h2 (of_decide_eq_true h1)).2.1
  unfold kidsT at this h
  rw [h3, List.length_take] at this
  omega
/-! A node as the only entry of a root. -/
theorem kind_root : kindE rootN = 0 := by kernel_rfl
theorem shape_root (x : TrN) : shapeE [rootN, soloN x] 0 = 0 := by
  unfold shapeE
  rw [if_pos rfl, if_pos ⟨rfl, (by show (ByteArray.toList ⟨#[]⟩) = []; kernel_rfl), rfl⟩]
theorem kind_root1 : kindE (soloN rootN) = 0 := by kernel_rfl
theorem solo_ok {x : TrN} (hk : kindE (soloN x) = 0) (hc : chkE x.ats = 0) : soloE x = 0 := by
  unfold soloE
  refine (tree_of (treeT_ok (t := [rootN, soloN x]) (by simp) (by simp) ?_ ?_)).2
  · intro j hj
    have hj : j < 2 := hj
    match j, hj with
    | 0, _ =>
      rw [nodeE_cls (t := [rootN, soloN x]) (i := 0) (x := rootN) rfl (shape_root x) (fun h => absurd rfl h) kind_root rfl]
      unfold clsE
      rw [if_neg (by unfold unlike; exact Bool.false_ne_true), if_neg]
      show ¬ ((0 : Int) < 0 ∨ mostC [rootN, soloN x] 0 + 1 < 0)
      unfold mostC; omega
    | 1, _ =>
      have he : entryE [rootN, soloN x] 1 = 0 := by
        unfold entryE
        have h1 : nameE (L (getT [rootN, soloN x] 1).nm) = 0 := by show nameE (L soloW) = 0; decide
        rw [if_neg (by rw [h1]; decide)]
        have h2 : scan (revT [rootN, soloN x] 1) (getT [rootN, soloN x] 1).dep = (0, none) := scan_lt (by show (0 : Int) < 1; decide)
        rw [h2]; rfl
      have hs : shapeE [rootN, soloN x] 1 = 0 := by
        unfold shapeE
        rw [if_neg (by decide), if_neg, if_neg]
        · show ¬ (8 : Int) < 1; decide
        · show ¬ ((1 : Int) < 1 ∨ mostD rootN < 1); decide
      rw [nodeE_cls (t := [rootN, soloN x]) (i := 1) (x := soloN x) rfl hs (fun _ => he) hk hc]
      unfold clsE
      have hu : unlike [rootN, soloN x] 1 1 = false := by
        unfold unlike unlike
        show (false || (decide ((0 : Int) < 0) && _ && _)) = false
        simp
      rw [if_neg (by rw [hu]; exact Bool.false_ne_true), if_neg]
      show ¬ ((0 : Int) < 0 ∨ mostC [rootN, soloN x] 1 + 1 < 0)
      have : mostC [rootN, soloN x] 1 = 0 := rfl
      omega
  · intro j hj
    have hj : j < 2 := hj
    match j, hj with
    | 0, _ => rfl
    | 1, _ => rfl
theorem kind_solo {x : TrN} (h : kindE x = 0) : kindE (soloN (nodX x)) = 0 := by
  unfold nodX
  by_cases hk : x.kd = 1
  · rw [if_pos hk]; exact kind_root1
  · rw [if_neg hk]
    unfold kindE soloN at *
    by_cases h0 : x.kd < 1 ∨ 5 < x.kd
    · rw [if_pos h0] at h; cases h
    rw [if_neg h0, if_neg hk] at h ⊢
    by_cases h2 : x.kd = 2
    · rw [if_pos h2] at h ⊢; exact h
    rw [if_neg h2] at h ⊢
    by_cases h3 : x.kd = 3
    · rw [if_pos h3] at h ⊢; exact h
    rw [if_neg h3] at h ⊢
    by_cases h4 : x.kd = 4
    · rw [if_pos h4] at h ⊢; exact h
    rw [if_neg h4] at h ⊢
    split at h
    · rename_i hh
      rw [if_pos ⟨hh.1, hh.2.1, hh.2.2.1, rfl, hh.2.2.2.2⟩]
    · cases h
theorem kind_parts {x : TrN} (h : kindE x = 0) : (x.kd = 1 → x.cl = 0) ∧ (x.kd = 5 → x.cl = 0 ∧ x.ats = []) ∧ 1 ≤ x.kd ∧ x.kd ≤ 5 := by
  unfold kindE at h
  by_cases h0 : x.kd < 1 ∨ 5 < x.kd
  · rw [if_pos h0] at h; cases h
  rw [if_neg h0] at h
  refine ⟨fun h1 => ?_, fun h5 => ?_, by omega, by omega⟩
  · rw [if_pos h1] at h
    split at h
    · rename_i hh; exact hh.2.2.2
    · cases h
  · rw [if_neg (by omega), if_neg (by omega), if_neg (by omega), if_neg (by omega)] at h
    split at h
    · rename_i hh; exact ⟨hh.2.2.2.1, List.length_eq_zero_iff.1 hh.2.2.2.2⟩
    · cases h
/-! The names of a node. -/
theorem names_count {t : List TrN} {i : Nat} (hi : i < t.length) (hc : (getT t i).cl ≠ 0) : ∀ k, k ≤ t.length → (namesT t i k).length = countC t (getT t i).cl k
  | 0, _ => rfl
  | k + 1, hk => by
    unfold namesT
    rw [filt_succ, List.length_append]
    have ih := names_count hi hc k (by omega)
    unfold namesT at ih
    rw [ih, show countC t (getT t i).cl (k + 1) = countC t (getT t i).cl k + (if (getT t k).cl = (getT t i).cl then 1 else 0) from rfl]
    have : classB t i k = decide ((getT t k).cl = (getT t i).cl) := by
      unfold classB
      by_cases e : k = i
      · subst e; simp
      · simp [e, hc]
    rw [this]
    by_cases e : (getT t k).cl = (getT t i).cl
    · rw [if_pos e, if_pos (decide_eq_true e)]; rfl
    · rw [if_neg e, if_neg (by rw [decide_eq_false e]; exact Bool.false_ne_true)]; rfl
theorem names_self {t : List TrN} {i : Nat} (hi : i < t.length) : i ∈ namesT t i t.length := List.mem_filter.2 ⟨List.mem_range.2 hi, by unfold classB; simp⟩
theorem names_alone {t : List TrN} {i : Nat} (hi : i < t.length) (hc : (getT t i).cl = 0) : namesT t i t.length = [i] := by
  unfold namesT
  have : ∀ k, classB t i k = decide (k = i) := fun k => by unfold classB; simp [hc]
  rw [List.filter_congr (q := fun k => decide (k = i)) fun k _ => this k]
  have h : ∀ m, (List.range m).filter (fun k => decide (k = i)) = if i < m then [i] else [] := by
    intro m
    induction m with
    | zero => rfl
    | succ m ih =>
      rw [filt_succ, ih]
      by_cases e : m = i
      · subst e; simp
      · by_cases e2 : i < m
        · rw [if_pos e2, if_pos (show i < m + 1 by omega), decide_eq_false e]; rfl
        · rw [if_neg e2, if_neg (show ¬ i < m + 1 by omega), decide_eq_false e]; rfl
  rw [h, if_pos hi]
/-- Nothing is wrong in the directories of a right branch. -/
theorem dirD_ok {b : List BrN} (hb : brEr b = 0) {n : Nat} (hn : n < b.length) (_hk : (getB b n).kd = 1) : dirE (dirD b n) = 0 := by
  obtain ⟨h0, _, hm⟩ := brEr_zero hb
  obtain ⟨_, _, hok, _, hlone⟩ := treeE_zero h0
  have hlen : (plT b).length = b.length := plT_len b
  have hG : ∀ j, j < b.length → getT (plT b) j = (getB b j).toTrN := fun j hj => getT_plT b j hj
  have hmn := hm n hn
  have hno : ¬ ((getB b n).opq = true ∧ 0 < (getB b n).red.length) := by
    intro h
    unfold marksE at hmn
    split at hmn
    · cases hmn
    · cases hmn
  have hpa : pathE (getB b n).red = 0 := by
    by_cases e : 0 < (getB b n).red.length
    · unfold marksE at hmn
      split at hmn
      · cases hmn
      · by_cases e2 : pathE (getB b n).red = 0
        · exact e2
        · rw [if_pos ⟨e, e2⟩] at hmn; exact hmn
    · rw [List.length_eq_zero_iff.1 (show (getB b n).red.length = 0 by omega)]; rfl
  have hc : chkE (getB b n).ats = 0 := by
    have := (node_parts (hok n (by omega))).2.2.2.1
    rw [hG n hn] at this; exact this
  refine (dir_of (dirT_ok (d := dirD b n) hc hno hpa ?_ ?_)).2
  · show ¬ 24 < ((kidsL b n).map (entD b n)).length
    rw [List.length_map]
    have := kids_short (n := n) hok
    unfold kidsL
    rw [← hlen]; omega
  intro q hq
  have hq : q < ((kidsL b n).map (entD b n)).length := hq
  rw [List.length_map] at hq
  obtain ⟨i, hi⟩ : ∃ i, (kidsL b n)[q]? = some i := ⟨_, List.getElem?_eq_getElem hq⟩
  obtain ⟨hp, hil, htk⟩ := filt_take hi
  have hp : abv (plT b) i = (n : Int) := of_decide_eq_true hp
  have hge : getE (dirD b n).ens q = entD b n i := by
    show ((kidsL b n).map (entD b n)).getD q zDeN = _
    simp [List.getD, hi]
  obtain ⟨e1, e2, e3⟩ := kid_entry hok (by rw [hlen]; exact hil) hp
  rw [hG i hil] at e1 e3
  obtain ⟨_, _, hki, hci, hcl⟩ := node_parts (hok i (by omega))
  rw [hG i hil] at hki hci
  obtain ⟨p1, p5, _⟩ := kind_parts hki
  have hsolo : soloE (nodX (getB b i).toTrN) = 0 := by
    refine solo_ok (kind_solo hki) ?_
    unfold nodX
    split
    · decide
    · exact hci
  have hcl0 : 0 ≤ (getB b i).toTrN.cl := by have := (cls_bd hcl).1; rwa [hG i hil] at this
  have hncl : (nodX (getB b i).toTrN).cl = (getB b i).toTrN.cl := by
    unfold nodX
    split
    · rename_i h1; exact (p1 h1).symm
    · rfl
  have hnm : ∀ j, j ≠ 0 → q = j → lastE (dirD b n).ens q = (getB b ((kidsL b n).getD (q - 1) 0)).nm := by
    rintro j hj rfl
    unfold lastE
    rw [if_neg hj]
    show (((kidsL b n).map (entD b n)).getD (q - 1) zDeN).nm = _
    have : q - 1 < (kidsL b n).length := by omega
    simp [List.getD, this, entD]
  have hlast : ¬ (getB b i).nm = lastE (dirD b n).ens q ∧ ¬ L (getB b i).nm < L (lastE (dirD b n).ens q) := by
    by_cases h0 : q = 0
    · subst h0
      rw [lastE_zero]
      refine ⟨fun e => ?_, fun e => absurd e (List.not_lt_nil _)⟩
      have e1 : nameE (L (getB b i).nm) = 0 := e1
      rw [e] at e1
      cases e1
    · rw [hnm q h0 rfl]
      have hg : (kidsT (plT b) n i).getLast? = some ((kidsL b n).getD (q - 1) 0) := by
        unfold kidsT
        rw [htk, List.getLast?_eq_getElem?]
        have hle : (List.take q (kidsL b n)).length = q := by rw [List.length_take]; omega
        show (List.take q (kidsL b n))[(List.take q (kidsL b n)).length - 1]? = _
        rw [hle, List.getElem?_take, if_pos (by omega), List.getElem?_eq_getElem (by omega)]
        simp [List.getD, show q - 1 < (kidsL b n).length by omega]
      have h5 := e3 _ hg
      have hkl : (kidsL b n).getD (q - 1) 0 < b.length := by
        obtain ⟨k, hk⟩ : ∃ k, (kidsL b n)[q - 1]? = some k := ⟨_, List.getElem?_eq_getElem (by omega)⟩
        have := (filt_take hk).2.1
        simp [List.getD, hk, this]
      rw [hG _ hkl] at h5
      exact h5
  have hrest : restX (getB b n).opq (entD b n i) = 0 := by
    have hns : (entD b n i).ns = ((namesL b i).length : Int) := rfl
    have hmem : i ∈ namesL b i := by unfold namesL; rw [← hlen]; exact names_self (by rw [hlen]; exact hil)
    have hpos : 0 < (namesL b i).length := List.length_pos_of_mem hmem
    have hnc : (entD b n i).nd.cl = (getB b i).toTrN.cl := hncl
    have hone : (getB b i).toTrN.cl ≤ 0 → (namesL b i).length = 1 := fun h => by
      unfold namesL
      rw [← hlen, names_alone (by rw [hlen]; exact hil) (by rw [hG i hil]; omega)]; rfl
    have hmany : 0 < (getB b i).toTrN.cl → 1 < (namesL b i).length := fun h => by
      have h1 := hlone i (by omega)
      unfold loneB at h1
      rw [hG i hil, decide_eq_true h, Bool.true_and] at h1
      have h2 := names_count (t := plT b) (i := i) (by omega) (by rw [hG i hil]; omega) b.length (by omega)
      rw [hG i hil] at h2
      have h3 : countC (plT b) (getB b i).toTrN.cl (plT b).length ≠ 1 := bne_iff_ne.1 (by rw [bne, h1]; rfl)
      unfold namesL at hpos ⊢
      rw [hlen] at h3
      omega
    unfold restX
    rw [hns, hnc, if_neg (by
      rintro (h | ⟨h, h2⟩ | ⟨h, h2⟩)
      · omega
      · have := hmany h; omega
      · have := hone h; omega), if_neg (by omega), if_neg]
    unfold markB
    have hkd : (entD b n i).nd.kd = (getB b i).toTrN.kd := by
      show (nodX _).kd = _
      unfold nodX
      split
      · rename_i h; exact h.symm
      · rfl
    have hwh : (entD b n i).wh = ((getB b i).toTrN.kd == 5) := rfl
    have hu : (getB b i).toTrN.kd = 5 → (getB b n).opq = false := fun h5 => by
      have hmi := hm i hil
      by_cases hcase : ¬ ((getB b i).opq = true ∧ (getB b i).kd ≠ 1) ∧ ¬ 0 < (getB b i).red.length
      · rw [marks_under rfl hcase.1 hcase.2] at hmi
        cases ho : (getB b n).opq with
        | false => rfl
        | true =>
          rw [if_pos] at hmi
          · cases hmi
          unfold underB
          have h5 : ((getB b i).kd == 5) = true := beq_iff_eq.2 h5
          rw [h5, hp, decide_eq_true (by omega)]
          show (true && true && (getB b n).opq) = true
          rw [ho]; rfl
      · exfalso
        unfold marksE at hmi
        rw [if_pos] at hmi
        · cases hmi
        left
        have h5 : (getB b i).kd = 5 := h5
        refine ⟨?_, by omega⟩
        by_cases e : (getB b i).opq = true
        · exact .inl e
        · refine .inr (Decidable.not_not.1 fun e2 => hcase ⟨fun h => e h.1, e2⟩)
    have hfi : (namesL b i).length = 1 → (entD b n i).fi = true := fun h1 => by
      show (namesL b i).all _ = true
      obtain ⟨k, hk⟩ := List.length_eq_one_iff.1 h1
      rw [hk] at hmem ⊢
      obtain rfl : i = k := by simpa using hmem
      unfold notB
      simp [hp]
    have hns' : ((entD b n i).ns == 1) = decide ((namesL b i).length = 1) := by
      rw [hns]
      by_cases e : (namesL b i).length = 1
      · rw [e]; rfl
      · rw [decide_eq_false e]; exact beq_eq_false_iff_ne.2 (by omega)
    rw [hkd, hwh, hnc, hns']
    have t1 : (((getB b i).toTrN.kd == 1) && (decide (0 < (entD b n i).nd.ats.length) || decide (0 < (getB b i).toTrN.cl))) = false := by
      by_cases h1 : (getB b i).toTrN.kd = 1
      · have ha : (entD b n i).nd.ats = [] := by show (nodX _).ats = []; unfold nodX; rw [if_pos h1]; rfl
        rw [ha, p1 h1]; simp
      · rw [beq_eq_false_iff_ne.2 h1]; rfl
    have t2 : (((getB b i).toTrN.kd == 5) && (decide (0 < (getB b i).toTrN.cl) || (getB b n).opq)) = false := by
      by_cases h1 : (getB b i).toTrN.kd = 5
      · rw [(p5 h1).1, hu h1]; simp
      · rw [beq_eq_false_iff_ne.2 h1]; rfl
    have t3 : (!(entD b n i).fi && decide ((namesL b i).length = 1)) = false := by
      by_cases e : (namesL b i).length = 1
      · rw [hfi e]; rfl
      · rw [decide_eq_false e, Bool.and_false]
    rw [t1, t2, t3]
    simp
  show entX (getB b n).opq (lastE (dirD b n).ens q) (getE (dirD b n).ens q) = 0
  rw [hge]
  have hx0 : (nodX (getB b i).toTrN).dep = 0 ∧ (nodX (getB b i).toTrN).nm.toList = [] := by
    unfold nodX
    have he : ByteArray.toList ⟨#[]⟩ = [] := by kernel_rfl
    split
    · exact ⟨rfl, he⟩
    · exact ⟨rfl, he⟩
  rw [entX_rest (x := entD b n i) e1 hlast.1 hlast.2 hx0.1 hx0.2 hsolo]
  exact hrest
end Go.Proofs.YtiliglpolcpnbaaGreatDoor

namespace Go.Proofs.YtiliglpolcpnbaaGreatDoor
open Go.RowKit

/-- The first cell of each element is a string. -/
def FstS {α : Type} (C : Cd α) : Prop := ∀ {B w x cs}, C.R B w x cs → ∃ s, cs[0]? = some (.string s)
theorem fstA : FstS cdA := fun h => by subst h; exact ⟨_, rfl⟩
theorem fstS : FstS cdS := fun h => by subst h; exact ⟨_, rfl⟩
theorem fstE : FstS cdE := fun h => by obtain ⟨_, _, rfl⟩ := h; exact ⟨_, rfl⟩
theorem ListIn.keepX {α : Type} {C : Cd α} {B b : Nat} {w W : World} {v : Value} {l : List α} (h : ListIn C B w v l) (hf : FstS C) (hk : KeepBut (some b) w W) (hs : w.heap.size ≤ W.heap.size)
    (hb : ∀ o s, w.cell? ⟨b, o, none⟩ ≠ some (.string s)) (hR : ∀ x cs, C.R B w x cs → C.R B W x cs) : ListIn C B W v l := by
  obtain ⟨a, cap, rfl, hcap, hn, hc⟩ := h
  have hne : ∀ k (h : k < l.length) b' off, a = some ⟨b', off, none⟩ → b' ≠ b := by
    rintro k hk' b' off rfl rfl
    obtain ⟨b2, off2, cs, he, _, hr, hrow⟩ := hc k hk'
    cases he
    obtain ⟨s, h0⟩ := hf hr
    exact hb _ s (hrow 0 _ h0)
  refine ⟨a, cap, rfl, hcap, fun h0 b' hb' => ?_, fun i hi => ?_⟩
  · obtain ⟨b2, off2, cs2, rfl, _⟩ := hc 0 h0
    cases hb'
    refine (hn h0 b2 rfl).imp_right fun ⟨cs, f, h1⟩ => ⟨cs, f, hk _ _ h1 (fun e => hne 0 h0 b2 off2 rfl (by injection e with e; exact e.symm))⟩
  · obtain ⟨b2, off2, cs, rfl, hb2, hr, hrow⟩ := hc i hi
    refine ⟨b2, off2, cs, rfl, Nat.lt_of_lt_of_le hb2 hs, hR _ _ hr, fun j u hj => ?_⟩
    rw [cell_keep hk hb2 (fun e => hne i hi b2 off2 rfl (by injection e with e; exact e.symm))]
    exact hrow j u hj
/-- A struct that holds a directory. -/
theorem no_str {w : World} {b : Nat} {t : TypeId} {f : Nat × Nat} {a1 a2 a3 : Option Addr} {n1 n2 n3 c1 c2 c3 : Nat} {o : Bool} (h : w.heap[b]? = some (.cells #[.slice a1 n1 c1, .bool o, .slice a2 n2 c2, .slice a3 n3 c3] t f)) : ∀ off s, w.cell? ⟨b, off, none⟩ ≠ some (.string s) := by
  intro off s e
  rw [blk_cell h] at e
  match off, e with
  | 0, e => cases e
  | 1, e => cases e
  | 2, e => cases e
  | 3, e => cases e
  | k + 4, e => simp at e
theorem DirIn.keepX {B b : Nat} {w W : World} {v : Value} {d : DiN} (h : DirIn B w v d) (hk : KeepBut (some b) w W) (hs : w.heap.size ≤ W.heap.size) (hb : ∀ o s, w.cell? ⟨b, o, none⟩ ≠ some (.string s)) : DirIn B W v d := by
  obtain ⟨va, vr, ve, rfl, h1, h2, h3⟩ := h
  exact ⟨va, vr, ve, rfl, h1.keepX fstA hk hs hb fun _ _ h => h, h2.keepX fstS hk hs hb fun _ _ h => h,
    h3.keepX fstE hk hs hb fun x cs ⟨va, g1, g2⟩ => ⟨va, g1.keepX fstA hk hs hb fun _ _ h => h, g2⟩⟩
end Go.Proofs.YtiliglpolcpnbaaGreatDoor
