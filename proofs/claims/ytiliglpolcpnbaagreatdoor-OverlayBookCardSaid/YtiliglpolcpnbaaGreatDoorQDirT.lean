/- An entry of a directory, and a directory, as the memory has them. -/
/- Plain law: what is wrong in a directory. -/
/- Plain law: the directories of a branch, and that nothing is wrong in them. -/
/- A directory's rows stay when a struct that holds a directory is written. -/
import Derived.Test.YtiliglpolcpnbaaGreatDoorQCod
import Derived.Test.YtiliglpolcpnbaaGreatDoorQBrnH
namespace Go.Proofs.YtiliglpolcpnbaaGreatDoor
open Go.RowKit

structure DeN where
  nm : ByteArray
  nd : TrN
  wh : Bool
  fi : Bool
  ns : Int
def deC (x : DeN) (va : Value) : List Value := [.string x.nm, .int .i64 x.nd.dep, .string x.nd.nm, .int .i64 x.nd.kd, va, .string x.nd.dat, .int .i64 x.nd.ma, .int .i64 x.nd.mi, .int .i64 x.nd.cl, .bool x.wh, .bool x.fi, .int .i64 x.ns]
def cdE : Cd DeN := { t := 52, e := 95, n := 12, bytes := 128, z := .agg #[.string ⟨#[]⟩, .int .i64 0, .string ⟨#[]⟩, .int .i64 0, .slice none 0 0, .string ⟨#[]⟩, .int .i64 0, .int .i64 0, .int .i64 0, .bool false, .bool false, .int .i64 0], inner := [50], R := fun B w x cs => ∃ va, AttIn B w va x.nd.ats ∧ cs = deC x va }
theorem okE : CdOk Tryz.prog cdE where
  sl := { und := Tryz.underlying52, info := info_parts (by kernel_rfl), zs := rfl, pos := by decide, small := by decide }
  len := fun h => by obtain ⟨va, _, rfl⟩ := h; rfl
  one := fun h u hu => by
    obtain ⟨va, h1, rfl⟩ := h
    have := slice_one h1
    simp [deC] at hu
    rcases hu with rfl | rfl | rfl | rfl | rfl | rfl | rfl | rfl | rfl | rfl | rfl | rfl <;> first | rfl | exact this
  chg := fun h c hE => by
    obtain ⟨va, h1, rfl⟩ := h
    exact ⟨va, h1.chg okA c (fun e => hE (by rw [e]; simp [cdE, cdA])) (by simp [cdA]), rfl⟩
  mono := fun hB h => by obtain ⟨va, h1, rfl⟩ := h; exact ⟨va, h1.mono okA hB, rfl⟩
  self := by decide
abbrev EnIn (B : Nat) (w : World) (v : Value) (l : List DeN) : Prop := ListIn cdE B w v l
/-- A directory. -/
structure DiN where
  ats : List Attr
  opq : Bool
  red : List ByteArray
  ens : List DeN
/-- A directory that lies in memory. -/
def DirIn (B : Nat) (w : World) (v : Value) (d : DiN) : Prop := ∃ va vr ve, v = .agg #[va, .bool d.opq, vr, ve] ∧ AttIn B w va d.ats ∧ StrIn B w vr d.red ∧ EnIn B w ve d.ens
theorem DirIn.ext {B : Nat} {w w' : World} {v : Value} {d : DiN} (h : DirIn B w v d) (he : Ext w w') : DirIn B w' v d := by
  obtain ⟨va, vr, ve, rfl, h1, h2, h3⟩ := h
  exact ⟨va, vr, ve, rfl, h1.ext okA he, h2.ext okS he, h3.ext okE he⟩
theorem DirIn.mono {B B' : Nat} {w : World} {v : Value} {d : DiN} (h : DirIn B w v d) (hB : B ≤ B') : DirIn B' w v d := by
  obtain ⟨va, vr, ve, rfl, h1, h2, h3⟩ := h
  exact ⟨va, vr, ve, rfl, h1.mono okA hB, h2.mono okS hB, h3.mono okE hB⟩
theorem DirIn.chg {B : Nat} {E : TypeId} {row : Option Nat} {w w' : World} {v : Value} {d : DiN} (h : DirIn B w v d) (c : Chg B E row w w') (hE : E ≠ 50 ∧ E ≠ 9 ∧ E ≠ 95) : DirIn B w' v d := by
  obtain ⟨va, vr, ve, rfl, h1, h2, h3⟩ := h
  exact ⟨va, vr, ve, rfl, h1.chg okA c hE.1 (by simp [cdA]), h2.chg okS c hE.2.1 (by simp [cdS]), h3.chg okE c hE.2.2 (by simp [cdE, hE.1])⟩
end Go.Proofs.YtiliglpolcpnbaaGreatDoor

namespace Go.Proofs.YtiliglpolcpnbaaGreatDoor
open Go.RowKit

end Go.Proofs.YtiliglpolcpnbaaGreatDoor

namespace Go.Proofs.YtiliglpolcpnbaaGreatDoor
open Go.RowKit

theorem filt_succ (p : Nat → Bool) (m : Nat) : (List.range (m + 1)).filter p = (List.range m).filter p ++ (if p m = true then [m] else []) := by
  rw [List.range_succ, List.filter_append]
  by_cases hp : p m = true
  · rw [List.filter_cons_of_pos hp, if_pos hp]; rfl
  · rw [List.filter_cons_of_neg hp, if_neg hp]; rfl

def classB (t : List TrN) (n i : Nat) : Bool := decide (i = n) || (decide ((getT t n).cl ≠ 0) && decide ((getT t i).cl = (getT t n).cl))
def namesT (t : List TrN) (n k : Nat) : List Nat := (List.range k).filter (classB t n)
def namesL (b : List BrN) (n : Nat) : List Nat := namesT (plT b) n b.length

/-! The names of a node. -/
theorem names_count {t : List TrN} {i : Nat} (hi : i < t.length) (hc : (getT t i).cl ≠ 0) : ∀ k, k ≤ t.length → (namesT t i k).length = countC t (getT t i).cl k
  | 0, _ => rfl
  | k + 1, hk => by
    unfold namesT
    rw [filt_succ, List.length_append]
    have ih := names_count hi hc k (by omega)
    unfold namesT at ih
    rw [ih, show countC t (getT t i).cl (k + 1) = countC t (getT t i).cl k + (if (getT t k).cl = (getT t i).cl then 1 else 0) from rfl]
    have : classB t i k = decide ((getT t k).cl = (getT t i).cl) := by
      unfold classB
      by_cases e : k = i
      · subst e; simp
      · simp [e, hc]
    rw [this]
    by_cases e : (getT t k).cl = (getT t i).cl
    · rw [if_pos e, if_pos (decide_eq_true e)]; rfl
    · rw [if_neg e, if_neg (by rw [decide_eq_false e]; exact Bool.false_ne_true)]; rfl
theorem names_alone {t : List TrN} {i : Nat} (hi : i < t.length) (hc : (getT t i).cl = 0) : namesT t i t.length = [i] := by
  unfold namesT
  have : ∀ k, classB t i k = decide (k = i) := fun k => by unfold classB; simp [hc]
  rw [List.filter_congr (q := fun k => decide (k = i)) fun k _ => this k]
  have h : ∀ m, (List.range m).filter (fun k => decide (k = i)) = if i < m then [i] else [] := by
    intro m
    induction m with
    | zero => rfl
    | succ m ih =>
      rw [filt_succ, ih]
      by_cases e : m = i
      · subst e; simp
      · by_cases e2 : i < m
        · rw [if_pos e2, if_pos (show i < m + 1 by omega), decide_eq_false e]; rfl
        · rw [if_neg e2, if_neg (show ¬ i < m + 1 by omega), decide_eq_false e]; rfl
  rw [h, if_pos hi]
end Go.Proofs.YtiliglpolcpnbaaGreatDoor

namespace Go.Proofs.YtiliglpolcpnbaaGreatDoor
open Go.RowKit

/-- The first cell of each element is a string. -/
def FstS {α : Type} (C : Cd α) : Prop := ∀ {B w x cs}, C.R B w x cs → ∃ s, cs[0]? = some (.string s)
theorem fstA : FstS cdA := fun h => by subst h; exact ⟨_, rfl⟩
theorem fstS : FstS cdS := fun h => by subst h; exact ⟨_, rfl⟩
theorem fstE : FstS cdE := fun h => by obtain ⟨_, _, rfl⟩ := h; exact ⟨_, rfl⟩
theorem ListIn.keepX {α : Type} {C : Cd α} {B b : Nat} {w W : World} {v : Value} {l : List α} (h : ListIn C B w v l) (hf : FstS C) (hk : KeepBut (some b) w W) (hs : w.heap.size ≤ W.heap.size)
    (hb : ∀ o s, w.cell? ⟨b, o, none⟩ ≠ some (.string s)) (hR : ∀ x cs, C.R B w x cs → C.R B W x cs) : ListIn C B W v l := by
  obtain ⟨a, cap, rfl, hcap, hn, hc⟩ := h
  have hne : ∀ k (h : k < l.length) b' off, a = some ⟨b', off, none⟩ → b' ≠ b := by
    rintro k hk' b' off rfl rfl
    obtain ⟨b2, off2, cs, he, _, hr, hrow⟩ := hc k hk'
    cases he
    obtain ⟨s, h0⟩ := hf hr
    exact hb _ s (hrow 0 _ h0)
  refine ⟨a, cap, rfl, hcap, fun h0 b' hb' => ?_, fun i hi => ?_⟩
  · obtain ⟨b2, off2, cs2, rfl, _⟩ := hc 0 h0
    cases hb'
    refine (hn h0 b2 rfl).imp_right fun ⟨cs, f, h1⟩ => ⟨cs, f, hk _ _ h1 (fun e => hne 0 h0 b2 off2 rfl (by injection e with e; exact e.symm))⟩
  · obtain ⟨b2, off2, cs, rfl, hb2, hr, hrow⟩ := hc i hi
    refine ⟨b2, off2, cs, rfl, Nat.lt_of_lt_of_le hb2 hs, hR _ _ hr, fun j u hj => ?_⟩
    rw [cell_keep hk hb2 (fun e => hne i hi b2 off2 rfl (by injection e with e; exact e.symm))]
    exact hrow j u hj
/-- A struct that holds a directory. -/
theorem no_str {w : World} {b : Nat} {t : TypeId} {f : Nat × Nat} {a1 a2 a3 : Option Addr} {n1 n2 n3 c1 c2 c3 : Nat} {o : Bool} (h : w.heap[b]? = some (.cells #[.slice a1 n1 c1, .bool o, .slice a2 n2 c2, .slice a3 n3 c3] t f)) : ∀ off s, w.cell? ⟨b, off, none⟩ ≠ some (.string s) := by
  intro off s e
  rw [blk_cell h] at e
  match off, e with
  | 0, e => cases e
  | 1, e => cases e
  | 2, e => cases e
  | 3, e => cases e
  | k + 4, e => simp at e
theorem DirIn.keepX {B b : Nat} {w W : World} {v : Value} {d : DiN} (h : DirIn B w v d) (hk : KeepBut (some b) w W) (hs : w.heap.size ≤ W.heap.size) (hb : ∀ o s, w.cell? ⟨b, o, none⟩ ≠ some (.string s)) : DirIn B W v d := by
  obtain ⟨va, vr, ve, rfl, h1, h2, h3⟩ := h
  exact ⟨va, vr, ve, rfl, h1.keepX fstA hk hs hb fun _ _ h => h, h2.keepX fstS hk hs hb fun _ _ h => h,
    h3.keepX fstE hk hs hb fun x cs ⟨va, g1, g2⟩ => ⟨va, g1.keepX fstA hk hs hb fun _ _ h => h, g2⟩⟩
end Go.Proofs.YtiliglpolcpnbaaGreatDoor
