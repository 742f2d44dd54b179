/- OwnA NodT NodA NodB TreP NodC NodD NodE RefA -/
import Derived.Test.YtimpejaaeinplaaGreatDoorQI2
import Derived.Test.YtimpejaaeinplaaGreatDoorQStr
import Derived.Test.YtimpejaaeinplaaGreatDoorQOwnA
namespace Go.Proofs.YtimpejaaeinplaaGreatDoor
open Go.RowKit

theorem slClone (v : Value) (l : List Attr) (w : World) (hv : AttrsAt w v l) (hl : l.length <= 1000) :
    Calls Tryz.prog 166 #[v] w fun e w' => (∃ a cap, e = .returned (.slice a l.length cap) /\ OwnA w.heap.size w' (.slice a l.length cap) l) /\ Ext w w' := by
  obtain ⟨a, cap, rfl, hcap, hc⟩ := hv
  have HV := hQq (show AttrsAt w (.slice a l.length cap) l from ⟨a, cap, rfl, hcap, hc⟩)
  clear hc
  cases a with
  | none =>
    have : l = [] := by
      obtain ⟨a', cap', he, _, hc⟩ := HV.out
      cases he
      cases l with
      | nil => rfl
      | cons y r => obtain ⟨b, off, h0, _⟩ := hc 0 (by simp); cases h0
    subst this
    have hnil := fun wx => Lib.run_eql_slice_nil (P := Tryz.prog) wx 38 45 none 0 cap 0 0 slAttr.und
    go_enter Tryz.func166, Tryz.ntmps166
    go_wp2
    go_ret
    exact ⟨⟨_, _, rfl, OwnA.nil _ _⟩, Below.refl _ _⟩
  | some ad =>
    have hnil := fun wx => Lib.run_eql_slice_nil (P := Tryz.prog) wx 38 45 (some ad) l.length cap 0 0 slAttr.und
    go_enter Tryz.func166, Tryz.ntmps166
    go_wp2_with (at_builtin; refine appA rfl (.tmp 5) (.tmp 6) rfl w.heap.size _ _ [] l w (w.alloc (.cells #[] 45)) rfl rfl (OwnA.fresh w 0) (HV.out.ext (eA _ _)) (eA _ _) (by simp) (by simpa using hl) ?_; intro v1 w1 ha; have HA := hQq ha; clear ha)
    go_ret
    obtain ⟨a1, c1, rfl⟩ := HA.out.own.form
    exact ⟨⟨_, _, rfl, HA.out.own⟩, HA.out.below⟩
end Go.Proofs.YtimpejaaeinplaaGreatDoor
namespace Go.Proofs.YtimpejaaeinplaaGreatDoor
open Go.RowKit

def cdA : Cd Attr := { t := 38, e := 45, n := 2, bytes := 32, z := .agg #[.string ⟨#[]⟩, .string ⟨#[]⟩], inner := [], R := fun _ _ x cs => cs = encA x }
theorem okA : CdOk Tryz.prog cdA where
  sl := slAttr
  len := fun h => by subst h; rfl
  one := fun h u hu => by subst h; simp [encA] at hu; rcases hu with rfl | rfl <;> rfl
  chg := fun h _ _ => h
  mono := fun _ h => h
  self := by simp [cdA]
abbrev AttIn (B : Nat) (w : World) (v : Value) (l : List Attr) : Prop := ListIn cdA B w v l
theorem ListIn.attrs {B : Nat} {w : World} {v : Value} {l : List Attr} (h : AttIn B w v l) : AttrsAt w v l := by
  obtain ⟨a, cap, rfl, hcap, _, hc⟩ := h
  refine ⟨a, cap, rfl, hcap, fun k hk => ?_⟩
  obtain ⟨b, off, cs, h1, h2, h3, h4⟩ := hc k hk
  have h3 : cs = encA (l[k]'hk) := h3
  subst h3
  exact ⟨b, off, h1, h2, h4 0 _ rfl, h4 1 _ rfl⟩
theorem attIn_of {B : Nat} {w : World} {v : Value} {l : List Attr} (h : AttrsAt w v l) (hn : Nb B w v 45) : AttIn B w v l := by
  obtain ⟨a, cap, rfl, hcap, hc⟩ := h
  refine ⟨a, cap, rfl, hcap, hn, fun k hk => ?_⟩
  obtain ⟨b, off, h1, h2, h3, h4⟩ := hc k hk
  refine ⟨b, off, encA (l[k]'hk), h1, h2, rfl, fun j c hj => ?_⟩
  match j, hj with
  | 0, hj => cases hj; exact h3
  | 1, hj => cases hj; exact h4
  | j + 2, hj => simp [encA] at hj
theorem AttrsAt.block {w : World} {v : Value} {l : List Attr} (h : AttrsAt w v l) (hl : 0 < l.length) : ∀ b, v.ownBlock = some b -> b < w.heap.size := by
  obtain ⟨a, cap, rfl, hcap, hc⟩ := h
  obtain ⟨b, off, rfl, h2, _⟩ := hc 0 hl
  intro b' hb'; cases hb'; exact h2
theorem OwnA.toIn {B B' : Nat} {w : World} {v : Value} {l : List Attr} (h : OwnA B w v l) : AttIn B' w v l := attIn_of h.at (Nb.own h)
theorem attIn_nil (B : Nat) (w : World) (c : Nat) : AttIn B w (.slice none 0 c) [] := ListIn.nil _ _ _ _

def cdS : Cd ByteArray := { t := 39, e := 9, n := 1, bytes := 16, z := .string ⟨#[]⟩, inner := [], R := fun _ _ x cs => cs = [.string x] }
theorem okS : CdOk Tryz.prog cdS where
  sl := { und := Tryz.underlying39, info := info_parts (by kernel_rfl), zs := rfl, pos := by decide, small := by decide }
  len := fun h => by subst h; rfl
  one := fun h u hu => by subst h; simp at hu; subst hu; rfl
  chg := fun h _ _ => h
  mono := fun _ h => h
  self := by simp [cdS]
abbrev StrIn (B : Nat) (w : World) (v : Value) (l : List ByteArray) : Prop := ListIn cdS B w v l
theorem ListIn.strs {B : Nat} {w : World} {v : Value} {l : List ByteArray} (h : StrIn B w v l) : StrsAt w v l := by
  obtain ⟨a, cap, rfl, hcap, _, hc⟩ := h
  refine ⟨a, cap, rfl, hcap, fun k hk => ?_⟩
  obtain ⟨b, off, cs, h1, h2, h3, h4⟩ := hc k hk
  have h3 : cs = [.string (l[k]'hk)] := h3
  subst h3
  have := h4 0 _ rfl
  exact ⟨b, off, h1, h2, by rw [Nat.add_zero, show off + k * cdS.n = off + k from by rw [show cdS.n = 1 from rfl, Nat.mul_one]] at this; exact this⟩
theorem strIn_of {B : Nat} {w : World} {v : Value} {l : List ByteArray} (h : StrsAt w v l) (hn : Nb B w v 9) : StrIn B w v l := by
  obtain ⟨a, cap, rfl, hcap, hc⟩ := h
  refine ⟨a, cap, rfl, hcap, hn, fun k hk => ?_⟩
  obtain ⟨b, off, h1, h2, h3⟩ := hc k hk
  refine ⟨b, off, [.string (l[k]'hk)], h1, h2, rfl, fun j c hj => ?_⟩
  match j, hj with
  | 0, hj => cases hj; rw [Nat.add_zero, show cdS.n = 1 from rfl, Nat.mul_one]; exact h3
  | j + 1, hj => simp at hj
theorem strIn_nil (B : Nat) (w : World) (c : Nat) : StrIn B w (.slice none 0 c) [] := ListIn.nil _ _ _ _

structure TrN where
  dep : Int
  nm : ByteArray
  kd : Int
  ats : List Attr
  dat : ByteArray
  ma : Int
  mi : Int
  cl : Int
def trC (x : TrN) (va : Value) : List Value := [.int .i64 x.dep, .string x.nm, .int .i64 x.kd, va, .string x.dat, .int .i64 x.ma, .int .i64 x.mi, .int .i64 x.cl]
def zTrN : TrN := ⟨0, ⟨#[]⟩, 0, [], ⟨#[]⟩, 0, 0, 0⟩
def cdT : Cd TrN := { t := 25, e := 43, n := 8, bytes := 96, z := .agg #[.int .i64 0, .string ⟨#[]⟩, .int .i64 0, .slice none 0 0, .string ⟨#[]⟩, .int .i64 0, .int .i64 0, .int .i64 0], inner := [45], R := fun B w x cs => ∃ va, AttIn B w va x.ats /\ cs = trC x va }
theorem slice_one {α : Type} {C : Cd α} {B : Nat} {w : World} {v : Value} {l : List α} (h : ListIn C B w v l) : v.oneCell' = true := by
  obtain ⟨a, cap, rfl⟩ := h.form; rfl
theorem okT : CdOk Tryz.prog cdT where
  sl := { und := Tryz.underlying25, info := info_parts (by kernel_rfl), zs := rfl, pos := by decide, small := by decide }
  len := fun h => by obtain ⟨va, _, rfl⟩ := h; rfl
  one := fun h u hu => by
    obtain ⟨va, h1, rfl⟩ := h
    have := slice_one h1
    simp [trC] at hu
    rcases hu with rfl | rfl | rfl | rfl | rfl | rfl | rfl | rfl <;> first | rfl | exact this
  chg := fun h c hE => by
    obtain ⟨va, h1, rfl⟩ := h
    exact ⟨va, h1.chg okA c (fun e => hE (by rw [e]; simp [cdT, cdA])) (by simp [cdA]), rfl⟩
  mono := fun hB h => by obtain ⟨va, h1, rfl⟩ := h; exact ⟨va, h1.mono okA hB, rfl⟩
  self := by decide
abbrev TrIn (B : Nat) (w : World) (v : Value) (l : List TrN) : Prop := ListIn cdT B w v l

structure BrN extends TrN where
  opq : Bool
  red : List ByteArray
def brC (x : BrN) (va vr : Value) : List Value := [.int .i64 x.dep, .string x.nm, .int .i64 x.kd, va, .string x.dat, .int .i64 x.ma, .int .i64 x.mi, .int .i64 x.cl, .bool x.opq, vr]
def cdB : Cd BrN := { t := 22, e := 41, n := 10, bytes := 128, z := .agg #[.int .i64 0, .string ⟨#[]⟩, .int .i64 0, .slice none 0 0, .string ⟨#[]⟩, .int .i64 0, .int .i64 0, .int .i64 0, .bool false, .slice none 0 0], inner := [45, 9], R := fun B w x cs => ∃ va vr, AttIn B w va x.ats /\ StrIn B w vr x.red /\ cs = brC x va vr }
theorem okB : CdOk Tryz.prog cdB where
  sl := { und := Tryz.underlying22, info := info_parts (by kernel_rfl), zs := rfl, pos := by decide, small := by decide }
  len := fun h => by obtain ⟨va, vr, _, _, rfl⟩ := h; rfl
  one := fun h u hu => by
    obtain ⟨va, vr, h1, h2, rfl⟩ := h
    have := slice_one h1; have := slice_one h2
    simp [brC] at hu
    rcases hu with rfl | rfl | rfl | rfl | rfl | rfl | rfl | rfl | rfl | rfl <;> first | rfl | assumption
  chg := fun h c hE => by
    obtain ⟨va, vr, h1, h2, rfl⟩ := h
    exact ⟨va, vr, h1.chg okA c (fun e => hE (by rw [e]; simp [cdB, cdA])) (by simp [cdA]), h2.chg okS c (fun e => hE (by rw [e]; simp [cdB, cdS])) (by simp [cdS]), rfl⟩
  mono := fun hB h => by obtain ⟨va, vr, h1, h2, rfl⟩ := h; exact ⟨va, vr, h1.mono okA hB, h2.mono okS hB, rfl⟩
  self := by decide
abbrev BrIn (B : Nat) (w : World) (v : Value) (l : List BrN) : Prop := ListIn cdB B w v l

theorem ListIn.tr {B : Nat} {w : World} {a : Option Addr} {n cap : Nat} {l : List TrN} (h : TrIn B w (.slice a n cap) l) (k : Nat) (hk : k < l.length) : ∃ b off va, a = some ⟨b, off, none⟩ /\ b < w.heap.size /\ AttIn B w va (l[k]'hk).ats /\
    w.cell? ⟨b, off + k * 8, none⟩ = some (.int .i64 (l[k]'hk).dep) /\ w.cell? ⟨b, off + k * 8 + 1, none⟩ = some (.string (l[k]'hk).nm) /\ w.cell? ⟨b, off + k * 8 + 2, none⟩ = some (.int .i64 (l[k]'hk).kd) /\ w.cell? ⟨b, off + k * 8 + 3, none⟩ = some va /\
    w.cell? ⟨b, off + k * 8 + 4, none⟩ = some (.string (l[k]'hk).dat) /\ w.cell? ⟨b, off + k * 8 + 5, none⟩ = some (.int .i64 (l[k]'hk).ma) /\ w.cell? ⟨b, off + k * 8 + 6, none⟩ = some (.int .i64 (l[k]'hk).mi) /\ w.cell? ⟨b, off + k * 8 + 7, none⟩ = some (.int .i64 (l[k]'hk).cl) := by
  obtain ⟨a', cap', he, _, _, hc⟩ := h
  cases he
  obtain ⟨b, off, cs, h1, h2, ⟨va, h3, rfl⟩, h4⟩ := hc k hk
  exact ⟨b, off, va, h1, h2, h3, h4 0 _ rfl, h4 1 _ rfl, h4 2 _ rfl, h4 3 _ rfl, h4 4 _ rfl, h4 5 _ rfl, h4 6 _ rfl, h4 7 _ rfl⟩
theorem ListIn.br {B : Nat} {w : World} {a : Option Addr} {n cap : Nat} {l : List BrN} (h : BrIn B w (.slice a n cap) l) (k : Nat) (hk : k < l.length) : ∃ b off va vr, a = some ⟨b, off, none⟩ /\ b < w.heap.size /\ AttIn B w va (l[k]'hk).ats /\ StrIn B w vr (l[k]'hk).red /\
    w.cell? ⟨b, off + k * 10, none⟩ = some (.int .i64 (l[k]'hk).dep) /\ w.cell? ⟨b, off + k * 10 + 1, none⟩ = some (.string (l[k]'hk).nm) /\ w.cell? ⟨b, off + k * 10 + 2, none⟩ = some (.int .i64 (l[k]'hk).kd) /\ w.cell? ⟨b, off + k * 10 + 3, none⟩ = some va /\
    w.cell? ⟨b, off + k * 10 + 4, none⟩ = some (.string (l[k]'hk).dat) /\ w.cell? ⟨b, off + k * 10 + 5, none⟩ = some (.int .i64 (l[k]'hk).ma) /\ w.cell? ⟨b, off + k * 10 + 6, none⟩ = some (.int .i64 (l[k]'hk).mi) /\ w.cell? ⟨b, off + k * 10 + 7, none⟩ = some (.int .i64 (l[k]'hk).cl) /\
    w.cell? ⟨b, off + k * 10 + 8, none⟩ = some (.bool (l[k]'hk).opq) /\ w.cell? ⟨b, off + k * 10 + 9, none⟩ = some vr := by
  obtain ⟨a', cap', he, _, _, hc⟩ := h
  cases he
  obtain ⟨b, off, cs, h1, h2, ⟨va, vr, h3, h5, rfl⟩, h4⟩ := hc k hk
  exact ⟨b, off, va, vr, h1, h2, h3, h5, h4 0 _ rfl, h4 1 _ rfl, h4 2 _ rfl, h4 3 _ rfl, h4 4 _ rfl, h4 5 _ rfl, h4 6 _ rfl, h4 7 _ rfl, h4 8 _ rfl, h4 9 _ rfl⟩
end Go.Proofs.YtimpejaaeinplaaGreatDoor
namespace Go.Proofs.YtimpejaaeinplaaGreatDoor
open Go.RowKit

def firstN : List ByteArray -> Int
  | [] => 0
  | a :: r => if nameE (L a) ≠ 0 then nameE (L a) else firstN r
theorem firstN_append (l m : List ByteArray) (h : firstN l = 0) : firstN (l ++ m) = firstN m := by
  induction l with
  | nil => rfl
  | cons a r ih =>
    unfold firstN at h
    by_cases ha : nameE (L a) ≠ 0
    · rw [if_pos ha] at h; exact absurd h ha
    · rw [if_neg ha] at h; show (if nameE (L a) ≠ 0 then nameE (L a) else firstN (r ++ m)) = firstN m; rw [if_neg ha]; exact ih h
theorem firstN_step (l : List ByteArray) (k : Nat) (h : k < l.length) (h0 : firstN (l.take k) = 0) (ha : nameE (L (l[k]'h)) = 0) : firstN (l.take (k + 1)) = 0 := by
  rw [List.take_succ_eq_append_getElem h, firstN_append _ _ h0]; unfold firstN; rw [if_neg (by simpa using ha)]; rfl
theorem firstN_hit (l : List ByteArray) (k : Nat) (h : k < l.length) (h0 : firstN (l.take k) = 0) (ha : nameE (L (l[k]'h)) ≠ 0) : firstN l = nameE (L (l[k]'h)) := by
  have e : l = l.take k ++ l[k]'h :: l.drop (k + 1) := by simp
  have : firstN (l.take k ++ l[k]'h :: l.drop (k + 1)) = nameE (L (l[k]'h)) := by
    rw [firstN_append _ _ h0]; show (if nameE (L (l[k]'h)) ≠ 0 then nameE (L (l[k]'h)) else firstN (l.drop (k + 1))) = _; rw [if_pos ha]
  rw [<- e] at this; exact this
def pathE (l : List ByteArray) : Int := if 8 < l.length then 3 else firstN l
theorem pathE_long {l : List ByteArray} (h : 8 < l.length) : pathE l = 3 := if_pos h
theorem pathE_of {l : List ByteArray} (h : ¬ 8 < l.length) : pathE l = firstN l := if_neg h
def SameL {α : Type} (a b : List α) (k : Nat) : Prop := ∀ j, j < k -> a[j]? = b[j]?
theorem sameL_end {α : Type} {a b : List α} (hl : a.length = b.length) (h : SameL a b a.length) : a = b := by
  apply List.ext_getElem?
  intro i
  rcases Nat.lt_or_ge i a.length with hi | hi
  · exact h i hi
  · rw [List.getElem?_eq_none hi, List.getElem?_eq_none (by omega)]
abbrev trV (x : TrN) (va : Value) : Value := .agg #[.int .i64 x.dep, .string x.nm, .int .i64 x.kd, va, .string x.dat, .int .i64 x.ma, .int .i64 x.mi, .int .i64 x.cl]
def likeB (x y : TrN) : Bool := (x.kd == y.kd) && decide (x.ats = y.ats) && (x.dat.toList == y.dat.toList) && (x.ma == y.ma) && (x.mi == y.mi)
end Go.Proofs.YtimpejaaeinplaaGreatDoor
namespace Go.Proofs.YtimpejaaeinplaaGreatDoor
open Go.RowKit

def kindE (x : TrN) : Int :=
  if x.kd < 1 \/ 5 < x.kd then 14
  else if x.kd = 1 then (if x.dat.toList = [] /\ x.ma = 0 /\ x.mi = 0 /\ x.cl = 0 then 0 else 6)
  else if x.kd = 2 then (if x.ma = 0 /\ x.mi = 0 then (if 384 < x.dat.size then 3 else 0) else 6)
  else if x.kd = 3 then (if ¬ x.dat.toList = [] /\ x.ma = 0 /\ x.mi = 0 then (if 200 < x.dat.size then 3 else 0) else 6)
  else if x.kd = 4 then (if x.dat.toList = [] then (if x.ma < 0 \/ 255 < x.ma \/ x.mi < 0 \/ 255 < x.mi then 7 else 0) else 6)
  else (if x.dat.toList = [] /\ x.ma = 0 /\ x.mi = 0 /\ x.cl = 0 /\ x.ats.length = 0 then 0 else 6)
theorem empty_size {s : ByteArray} (h : s.toList = []) : s.size = 0 := by rw [toList_L] at h; rw [size_L, h]; rfl
end Go.Proofs.YtimpejaaeinplaaGreatDoor
namespace Go.Proofs.YtimpejaaeinplaaGreatDoor
open Go.RowKit

def getT (t : List TrN) (i : Nat) : TrN := t.getD i zTrN
theorem getT_at (t : List TrN) (i : Nat) (h : i < t.length) : getT t i = t[i]'h := by unfold getT; simp [List.getD, h]
def mostD (p : TrN) : Int := if p.kd = 1 then p.dep + 1 else p.dep
def shapeE (t : List TrN) (i : Nat) : Int :=
  if i = 0 then (if (getT t i).dep = 0 /\ (getT t i).nm.toList = [] /\ (getT t i).kd = 1 then 0 else 6)
  else if (getT t i).dep < 1 \/ mostD (getT t (i - 1)) < (getT t i).dep then 6 else if 8 < (getT t i).dep then 3 else 0
def scan : List TrN -> Int -> Nat × Option ByteArray
  | [], _ => (0, none)
  | x :: r, d => if x.dep < d then (0, none) else if x.dep = d then ((scan r d).1 + 1, some x.nm) else scan r d
theorem scan_lt {x : TrN} {r : List TrN} {d : Int} (h : x.dep < d) : scan (x :: r) d = (0, none) := by unfold scan; rw [if_pos h]
theorem scan_eq {x : TrN} {r : List TrN} {d : Int} (h : x.dep = d) : scan (x :: r) d = ((scan r d).1 + 1, some x.nm) := by
  rw [scan.eq_2, if_neg (by omega), if_pos h]
theorem scan_gt {x : TrN} {r : List TrN} {d : Int} (h : d < x.dep) : scan (x :: r) d = scan r d := by
  rw [scan.eq_2, if_neg (by omega), if_neg (by omega)]
theorem scan_none {r : List TrN} {d : Int} : (scan r d).2 = none ↔ (scan r d).1 = 0 := by
  induction r with
  | nil => simp [scan]
  | cons x r ih =>
    rcases Int.lt_trichotomy x.dep d with h | h | h
    · rw [scan_lt h]; simp
    · rw [scan_eq h]; simp
    · rw [scan_gt h]; exact ih
def revT (t : List TrN) (i : Nat) : List TrN := (t.take i).reverse
theorem revT_succ (t : List TrN) (i : Nat) (h : i < t.length) : revT t (i + 1) = (t[i]'h) :: revT t i := by
  unfold revT; rw [List.take_succ_eq_append_getElem h, List.reverse_append]; rfl
def nextE (many : Nat) (last : Option ByteArray) (nm : ByteArray) : Int :=
  match last with
  | some z => if z = nm then 8 else if L nm < L z then 6 else if 24 <= many then 3 else 0
  | none => if 24 <= many then 3 else 0
def entryE (t : List TrN) (i : Nat) : Int :=
  if nameE (L (getT t i).nm) ≠ 0 then nameE (L (getT t i).nm) else nextE (scan (revT t i) (getT t i).dep).1 (scan (revT t i) (getT t i).dep).2 (getT t i).nm
def mostC (t : List TrN) : Nat -> Int
  | 0 => 0
  | k + 1 => max (mostC t k) (getT t k).cl
def unlike (t : List TrN) (i : Nat) : Nat -> Bool
  | 0 => false
  | k + 1 => unlike t i k || (decide (0 < (getT t i).cl) && ((getT t k).cl == (getT t i).cl) && !likeB (getT t k) (getT t i))
def clsE (t : List TrN) (i : Nat) : Int := if unlike t i i = true then 6 else if (getT t i).cl < 0 \/ mostC t i + 1 < (getT t i).cl then 6 else 0
def nodeE (t : List TrN) (i : Nat) : Int :=
  if shapeE t i ≠ 0 then shapeE t i else if i ≠ 0 /\ entryE t i ≠ 0 then entryE t i else if kindE (getT t i) ≠ 0 then kindE (getT t i) else if chkE (getT t i).ats ≠ 0 then chkE (getT t i).ats else clsE t i
theorem nodeE_shape {t : List TrN} {i : Nat} (h : shapeE t i ≠ 0) : nodeE t i = shapeE t i := by unfold nodeE; rw [if_pos h]
theorem nodeE_entry {t : List TrN} {i : Nat} (h1 : shapeE t i = 0) (h0 : i ≠ 0) (h : entryE t i ≠ 0) : nodeE t i = entryE t i := by unfold nodeE; rw [if_neg (by omega), if_pos ⟨h0, h⟩]
theorem nodeE_kind {t : List TrN} {i : Nat} {x : TrN} (hg : getT t i = x) (h1 : shapeE t i = 0) (h2 : i ≠ 0 -> entryE t i = 0) (h : kindE x ≠ 0) : nodeE t i = kindE x := by
  subst hg; unfold nodeE; rw [if_neg (by omega), if_neg (fun h => h.2 (h2 h.1)), if_pos h]
theorem nodeE_attrs {t : List TrN} {i : Nat} {x : TrN} (hg : getT t i = x) (h1 : shapeE t i = 0) (h2 : i ≠ 0 -> entryE t i = 0) (h3 : kindE x = 0) (h : chkE x.ats ≠ 0) : nodeE t i = chkE x.ats := by
  subst hg; unfold nodeE; rw [if_neg (by omega), if_neg (fun h => h.2 (h2 h.1)), if_neg (by omega), if_pos h]
theorem nodeE_cls {t : List TrN} {i : Nat} {x : TrN} (hg : getT t i = x) (h1 : shapeE t i = 0) (h2 : i ≠ 0 -> entryE t i = 0) (h3 : kindE x = 0) (h4 : chkE x.ats = 0) : nodeE t i = clsE t i := by
  subst hg; unfold nodeE; rw [if_neg (by omega), if_neg (fun h => h.2 (h2 h.1)), if_neg (by omega), if_neg (by omega)]
def countC (t : List TrN) (c : Int) : Nat -> Nat
  | 0 => 0
  | k + 1 => countC t c k + (if (getT t k).cl = c then 1 else 0)
def loneB (t : List TrN) (i : Nat) : Bool := decide (0 < (getT t i).cl) && (countC t (getT t i).cl t.length == 1)
def findB (p : Nat -> Bool) : Nat -> Nat -> Option Nat
  | _, 0 => none
  | a, n + 1 => if p a then some a else findB p (a + 1) n
theorem findB_none {p : Nat -> Bool} : ∀ (n a : Nat), (∀ j, a <= j -> j < a + n -> p j = false) -> findB p a n = none
  | 0, _, _ => rfl
  | n + 1, a, h => by
    unfold findB; rw [if_neg (by rw [h a (Nat.le_refl _) (by omega)]; exact Bool.false_ne_true)]
    exact findB_none n (a + 1) fun j h1 h2 => h j (by omega) (by omega)
theorem findB_some {p : Nat -> Bool} : ∀ (n a i : Nat), a <= i -> i < a + n -> (∀ j, a <= j -> j < i -> p j = false) -> p i = true -> findB p a n = some i
  | 0, _, _, h1, h2, _, _ => by omega
  | n + 1, a, i, h1, h2, h, hi => by
    unfold findB
    by_cases e : a = i
    · subst e; rw [if_pos hi]
    · rw [if_neg (by rw [h a (Nat.le_refl _) (by omega)]; exact Bool.false_ne_true)]
      exact findB_some n (a + 1) i (by omega) (by omega) (fun j h3 h4 => h j (by omega) h4) hi
def badB (t : List TrN) (i : Nat) : Bool := nodeE t i != 0
theorem badB_no {t : List TrN} {i : Nat} (h : nodeE t i = 0) : badB t i = false := by unfold badB; rw [h]; rfl
theorem badB_yes {t : List TrN} {i : Nat} (h : nodeE t i ≠ 0) : badB t i = true := bne_iff_ne.2 h
def treeT (t : List TrN) : Int × Int :=
  if t.length = 0 then (-1, 6) else if 120 < t.length then (-1, 3)
  else match findB (badB t) 0 t.length with
    | some i => (i, nodeE t i)
    | none => match findB (loneB t) 0 t.length with
      | some i => (i, 6)
      | none => (0, 0)
theorem treeT_nil {t : List TrN} (h : t.length = 0) : treeT t = (-1, 6) := if_pos h
theorem treeT_long {t : List TrN} (h : 120 < t.length) : treeT t = (-1, 3) := by unfold treeT; rw [if_neg (by omega), if_pos h]
def AllOk (t : List TrN) (k : Nat) : Prop := ∀ j, j < k -> nodeE t j = 0
theorem treeT_node {t : List TrN} (h1 : ¬ 120 < t.length) {i : Nat} (hi : i < t.length) (h : AllOk t i) (he : nodeE t i ≠ 0) : treeT t = ((i : Int), nodeE t i) := by
  unfold treeT; rw [if_neg (by omega), if_neg h1, findB_some t.length 0 i (Nat.zero_le _) (by omega) (fun j _ hj => badB_no (h j hj)) (badB_yes he)]
theorem treeT_lone {t : List TrN} (h1 : ¬ 120 < t.length) (h : AllOk t t.length) {i : Nat} (hi : i < t.length) (hl : ∀ j, j < i -> loneB t j = false) (he : loneB t i = true) : treeT t = ((i : Int), 6) := by
  unfold treeT; rw [if_neg (by omega), if_neg h1, findB_none t.length 0 (fun j _ hj => badB_no (h j (by omega))), findB_some t.length 0 i (Nat.zero_le _) (by omega) (fun j _ hj => hl j hj) he]
theorem treeT_ok {t : List TrN} (h0 : t.length ≠ 0) (h1 : ¬ 120 < t.length) (h : AllOk t t.length) (hl : ∀ j, j < t.length -> loneB t j = false) : treeT t = (0, 0) := by
  unfold treeT; rw [if_neg h0, if_neg h1, findB_none t.length 0 (fun j _ hj => badB_no (h j (by omega))), findB_none t.length 0 (fun j _ hj => hl j (by omega))]
def treeN (t : List TrN) : Int := (treeT t).1
def treeE (t : List TrN) : Int := (treeT t).2
theorem tree_of {t : List TrN} {a b : Int} (h : treeT t = (a, b)) : treeN t = a /\ treeE t = b := by unfold treeN treeE; rw [h]; exact ⟨rfl, rfl⟩

/-! What is known of nodes without an error. -/
theorem node_parts {t : List TrN} {i : Nat} (h : nodeE t i = 0) : shapeE t i = 0 /\ (i ≠ 0 -> entryE t i = 0) /\ kindE (getT t i) = 0 /\ chkE (getT t i).ats = 0 /\ clsE t i = 0 := by
  unfold nodeE at h
  by_cases h1 : shapeE t i ≠ 0
  · rw [if_pos h1] at h; exact absurd h h1
  rw [if_neg h1] at h
  by_cases h2 : i ≠ 0 /\ entryE t i ≠ 0
  · rw [if_pos h2] at h; exact absurd h h2.2
  rw [if_neg h2] at h
  by_cases h3 : kindE (getT t i) ≠ 0
  · rw [if_pos h3] at h; exact absurd h h3
  rw [if_neg h3] at h
  by_cases h4 : chkE (getT t i).ats ≠ 0
  · rw [if_pos h4] at h; exact absurd h h4
  rw [if_neg h4] at h
  exact ⟨by omega, fun hi => by by_cases e : entryE t i = 0; exact e; exact absurd ⟨hi, e⟩ h2, by omega, by omega, h⟩
theorem shape_bd {t : List TrN} {i : Nat} (h : shapeE t i = 0) : 0 <= (getT t i).dep /\ (getT t i).dep <= 8 /\ (i = 0 -> (getT t i).dep = 0 /\ (getT t i).kd = 1) /\ (i ≠ 0 -> 1 <= (getT t i).dep /\ (getT t i).dep <= mostD (getT t (i - 1))) := by
  unfold shapeE at h
  by_cases h0 : i = 0
  · rw [if_pos h0] at h
    split at h
    · rename_i h1; exact ⟨by omega, by omega, fun _ => ⟨h1.1, h1.2.2⟩, fun x => absurd h0 x⟩
    · cases h
  · rw [if_neg h0] at h
    split at h
    · cases h
    · split at h
      · cases h
      · rename_i h1 h2; exact ⟨by omega, by omega, fun x => absurd x h0, fun _ => by omega⟩
theorem cls_bd {t : List TrN} {i : Nat} (h : clsE t i = 0) : 0 <= (getT t i).cl /\ (getT t i).cl <= mostC t i + 1 /\ unlike t i i = false := by
  unfold clsE at h
  split at h
  · cases h
  · split at h
    · cases h
    · rename_i h1 h2; exact ⟨by omega, by omega, Bool.eq_false_iff.2 h1⟩
theorem mostC_bd {t : List TrN} : ∀ (k : Nat), AllOk t k -> 0 <= mostC t k /\ mostC t k <= k
  | 0, _ => ⟨Int.le_refl _, Int.le_refl _⟩
  | k + 1, h => by
    obtain ⟨a, b⟩ := mostC_bd k fun j hj => h j (by omega)
    obtain ⟨_, _, _, _, hc⟩ := node_parts (h k (by omega))
    obtain ⟨c, d, _⟩ := cls_bd hc
    unfold mostC
    omega
theorem AllOk.step {t : List TrN} {k : Nat} (h : AllOk t k) (hk : nodeE t k = 0) : AllOk t (k + 1) := by
  intro j hj
  by_cases e : j = k
  · subst e; exact hk
  · exact h j (by omega)
end Go.Proofs.YtimpejaaeinplaaGreatDoor
namespace Go.Proofs.YtimpejaaeinplaaGreatDoor
open Go.RowKit

theorem lt_of_no {a b : ByteArray} (h1 : ¬ a = b) (h2 : ¬ L b < L a) : L a < L b := by
  rcases Std.lt_trichotomy (L a) (L b) with x | x | x
  · exact x
  · exact absurd (L_inj x) h1
  · exact absurd x h2
structure ScanSt (t : List TrN) (i : Nat) (d : Int) (j m : Nat) (z : Int) : Prop where
  many : (scan (revT t i) d).1 = m + (scan (revT t j) d).1
  last : (z = -1 /\ m = 0 /\ (scan (revT t i) d).2 = (scan (revT t j) d).2) \/ ∃ q : Nat, z = q /\ q < i /\ (scan (revT t i) d).2 = some (getT t q).nm
theorem ScanSt.start (t : List TrN) (i : Nat) (d : Int) : ScanSt t i d i 0 (-1) := ⟨by omega, .inl ⟨rfl, rfl, rfl⟩⟩
theorem ScanSt.skip {t : List TrN} {i p m : Nat} {d z : Int} (h : ScanSt t i d (p + 1) m z) (hp : p < t.length) (hd : d < (t[p]'hp).dep) : ScanSt t i d p m z := by
  have e := scan_gt (r := revT t p) hd
  rw [<- revT_succ t p hp] at e
  exact ⟨by rw [h.many, e], h.last.imp_left fun ⟨a, b, c⟩ => ⟨a, b, by rw [c, e]⟩⟩
theorem ScanSt.hit {t : List TrN} {i p m : Nat} {d z : Int} (h : ScanSt t i d (p + 1) m z) (hpi : p < i) (hp : p < t.length) (hd : (t[p]'hp).dep = d) : ScanSt t i d p (m + 1) (if z < 0 then (p : Int) else z) := by
  have e := scan_eq (r := revT t p) hd
  rw [<- revT_succ t p hp] at e
  refine ⟨by rw [h.many, e]; show m + ((scan (revT t p) d).1 + 1) = _; omega, .inr ?_⟩
  rcases h.last with ⟨a, b, c⟩ | ⟨q, a, b, c⟩
  · rw [if_pos (by omega)]; exact ⟨p, rfl, hpi, by rw [c, e, getT_at t p hp]⟩
  · rw [if_neg (by omega)]; exact ⟨q, a, b, c⟩
theorem ScanSt.low {t : List TrN} {i p m : Nat} {d z : Int} (h : ScanSt t i d (p + 1) m z) (hp : p < t.length) (hd : (t[p]'hp).dep < d) : ScanSt t i d 0 m z := by
  have e := scan_lt (r := revT t p) hd
  rw [<- revT_succ t p hp] at e
  exact ⟨by rw [h.many, e]; rfl, h.last.imp_left fun ⟨a, b, c⟩ => ⟨a, b, by rw [c, e]; rfl⟩⟩
theorem ScanSt.end {t : List TrN} {i m : Nat} {d z : Int} (h : ScanSt t i d 0 m z) : (scan (revT t i) d).1 = m /\ ((z = -1 /\ m = 0 /\ (scan (revT t i) d).2 = none) \/ ∃ q : Nat, z = q /\ q < i /\ (scan (revT t i) d).2 = some (getT t q).nm) :=
  ⟨by rw [h.many]; rfl, h.last⟩
end Go.Proofs.YtimpejaaeinplaaGreatDoor
namespace Go.Proofs.YtimpejaaeinplaaGreatDoor
open Go.RowKit

theorem cells8 {w w' : World} {b o : Nat} {v0 v1 v2 v3 v4 v5 v6 v7 : Value} (he : Ext w w') (hb : b < w.heap.size)
    (h : w.cell? ⟨b, o, none⟩ = some v0 /\ w.cell? ⟨b, o + 1, none⟩ = some v1 /\ w.cell? ⟨b, o + 2, none⟩ = some v2 /\ w.cell? ⟨b, o + 3, none⟩ = some v3 /\ w.cell? ⟨b, o + 4, none⟩ = some v4 /\ w.cell? ⟨b, o + 5, none⟩ = some v5 /\ w.cell? ⟨b, o + 6, none⟩ = some v6 /\ w.cell? ⟨b, o + 7, none⟩ = some v7) :
    w'.cell? ⟨b, o, none⟩ = some v0 /\ w'.cell? ⟨b, o + 1, none⟩ = some v1 /\ w'.cell? ⟨b, o + 2, none⟩ = some v2 /\ w'.cell? ⟨b, o + 3, none⟩ = some v3 /\ w'.cell? ⟨b, o + 4, none⟩ = some v4 /\ w'.cell? ⟨b, o + 5, none⟩ = some v5 /\ w'.cell? ⟨b, o + 6, none⟩ = some v6 /\ w'.cell? ⟨b, o + 7, none⟩ = some v7 := by
  obtain ⟨h0, h1, h2, h3, h4, h5, h6, h7⟩ := h
  exact ⟨(ext_cell he hb).trans h0, (ext_cell he hb).trans h1, (ext_cell he hb).trans h2, (ext_cell he hb).trans h3, (ext_cell he hb).trans h4, (ext_cell he hb).trans h5, (ext_cell he hb).trans h6, (ext_cell he hb).trans h7⟩
theorem int_eq {a b : Int} (h : a = b) : Value.int .i64 a = .int .i64 b := by rw [h]
theorem unlike_step {t : List TrN} {i k : Nat} (h : unlike t i k = false) (hx : (decide (0 < (getT t i).cl) && ((getT t k).cl == (getT t i).cl) && !likeB (getT t k) (getT t i)) = false) : unlike t i (k + 1) = false := by
  unfold unlike; rw [h, hx]; rfl
theorem unlike_hit {t : List TrN} {i k : Nat} (hx : (decide (0 < (getT t i).cl) && ((getT t k).cl == (getT t i).cl) && !likeB (getT t k) (getT t i)) = true) : ∀ m, k < m -> unlike t i m = true
  | 0, h => by omega
  | m + 1, h => by
    unfold unlike
    by_cases e : k = m
    · subst e; rw [hx, Bool.or_true]
    · rw [unlike_hit hx m (by omega), Bool.true_or]
end Go.Proofs.YtimpejaaeinplaaGreatDoor
namespace Go.Proofs.YtimpejaaeinplaaGreatDoor
open Go.RowKit

theorem likeB_iff {x y : TrN} : likeB x y = true ↔ x.kd = y.kd /\ x.ats = y.ats /\ x.dat = y.dat /\ x.ma = y.ma /\ x.mi = y.mi := by
  unfold likeB
  simp only [Bool.and_eq_true, beq_iff_eq, decide_eq_true_eq, and_assoc, toList_L]
  exact ⟨fun ⟨a, b, c, d, e⟩ => ⟨a, b, L_inj c, d, e⟩, fun ⟨a, b, c, d, e⟩ => ⟨a, b, by rw [c], d, e⟩⟩
theorem trN_eq {x y : TrN} (h1 : x.dep = y.dep) (h2 : x.nm = y.nm) (h3 : x.cl = y.cl) (h : likeB x y = true) : x = y := by
  obtain ⟨a, b, c, d, e⟩ := likeB_iff.1 h
  cases x; cases y; simp_all
open Classical in
noncomputable def sameTB (a b : List TrN) : Bool := decide (a = b)
open Classical in
theorem sameTB_yes {a b : List TrN} (h : a = b) : sameTB a b = true := by unfold sameTB; exact decide_eq_true h
open Classical in
theorem sameTB_no {a b : List TrN} (h : ¬ a = b) : sameTB a b = false := by unfold sameTB; exact decide_eq_false h
def SmallT (t : List TrN) : Prop := ∀ x ∈ t, x.nm.size <= 1000000 /\ (∀ a ∈ x.ats, a.1.size <= 1000000 /\ a.2.size <= 1000000) /\ x.ats.length <= 1000000
end Go.Proofs.YtimpejaaeinplaaGreatDoor
namespace Go.Proofs.YtimpejaaeinplaaGreatDoor
open Go.RowKit

structure Twin (w : World) (u v : Value) : Prop where
  out : ∃ a, AttrsAt w u a /\ AttrsAt w v a /\ a.length <= 1000
theorem Twin.ext {w w' : World} {u v : Value} (h : Twin w u v) (he : Ext w w') : Twin w' u v := by
  obtain ⟨a, h1, h2, h3⟩ := h.out
  exact ⟨a, h1.ext he, h2.ext he, h3⟩
end Go.Proofs.YtimpejaaeinplaaGreatDoor
