/- OrA OvT FuP FuX FuC FuG FuA FnN FarF FuI FuDa -/
import Derived.Test.YtimpejaaeinplaaGreatDoorJI5
import Derived.Test.YtimpejaaeinplaaGreatDoorJPthW
namespace Go.Proofs.YtimpejaaeinplaaGreatDoor
open Go.RowKit
theorem getM_at {own : List Attr} {k : ByteArray} {i : Nat} (hi : i < own.length) (h : ∀ j (_ : j < i) (hj : j < own.length), L (own[j]'hj).1 ≠ L k) (e : L (own[i]'hi).1 = L k) : getM own k = some (own[i]'hi).2 := by
 unfold getM
 have : own.find? (fun a => decide (L a.1 = L k)) = some (own[i]'hi) := by
  rw [List.find?_eq_some_iff_getElem]
  exact ⟨by simp [e], i, hi, rfl, fun j hj => by simp [h j hj (by omega)]⟩
 rw [this]; rfl
theorem isM_none {own : List Attr} {k : ByteArray} (h : isM own k = false) : valM own k = ⟨#[]⟩ := by
 unfold isM at h
 unfold valM
 cases e : getM own k with
 | none => rfl
 | some v => rw [e] at h; cases h
/-! The marks. -/
def whW : ByteArray := ofL [119, 104, 105, 116, 101, 111, 117, 116]
def xW : ByteArray := ofL [120]
def hidS (o h : Bool) : ByteArray := if o = true then yW else if h = true then xW else ⟨#[]⟩
def fuM (o h : Bool) (r : List ByteArray) (n : Int) : List Attr := [(opqW, hidS o h), (reW, redS r), (nlW, linkS n)]
theorem mkOk2o : MkOk 2 opqW := ⟨by decide +kernel, by decide +kernel, by decide +kernel, by decide +kernel, by decide +kernel⟩
theorem mkOk2r : MkOk 2 reW := ⟨by decide +kernel, by decide +kernel, by decide +kernel, by decide +kernel, by decide +kernel⟩
theorem mkOk2n : MkOk 2 nlW := ⟨by decide +kernel, by decide +kernel, by decide +kernel, by decide +kernel, by decide +kernel⟩
theorem mkOk2w : MkOk 2 whW := ⟨by decide +kernel, by decide +kernel, by decide +kernel, by decide +kernel, by decide +kernel⟩
theorem fuM_ok (o h : Bool) (r : List ByteArray) (n : Int) : MarksOk 2 (fuM o h r n) := by
 refine ⟨?_, fun m hm => ?_⟩
 ·unfold Dist fuM
  simp only [List.pairwise_cons, List.mem_cons, List.not_mem_nil, or_false, forall_eq_or_imp, forall_eq, false_implies, implies_true, List.Pairwise.nil, and_true]
  exact ⟨⟨ne_or, ne_on⟩, ne_rn⟩
 ·unfold fuM at hm
  simp only [List.mem_cons, List.not_mem_nil, or_false] at hm
  rcases hm with rfl | rfl | rfl
  ·exact mkOk2o
  ·exact mkOk2r
  ·exact mkOk2n
theorem mark2 {k : ByteArray} (h : mrE 2 k = 0) : L k = L opqW \/ L k = L reW \/ L k = L nlW \/ L k = L whW := by
 have hm : (mkW 2).contains (L k) = true := by
  unfold mrE at h
  rw [if_pos (by decide)] at h
  by_cases e : isMk (2 : Int).toNat k = true
  ·exact e
  ·rw [if_neg e] at h; cases h
 rw [mkW2] at hm
 simp only [List.contains_cons, List.contains_nil, Bool.or_false, Bool.or_eq_true, beq_iff_eq] at hm
 rcases hm with e | e | e | e
 ·exact .inr (.inr (.inl e))
 ·exact .inl e
 ·exact .inr (.inl e)
 ·exact .inr (.inr (.inr e))
def whA : List Attr := [mkX 2 (whW, yW)]
def whN : TrN := ⟨0, ⟨#[]⟩, 2, whA, ⟨#[]⟩, 0, 0, 0⟩
/-! Has a directory an entry of some kind? -/
def amoG (D : Nat -> Int) (P : Nat -> Bool) (d : Int) : Nat -> Nat -> Bool
 | 0, _ => false
 | m + 1, k => if D k <= d then false else if D k = d + 1 /\ P k = true then true else amoG D P d m (k + 1)
def amoB (n : Nat) (D : Nat -> Int) (P : Nat -> Bool) (i : Nat) : Bool := amoG D P (D i) (n - (i + 1)) (i + 1)
/-! Encode. -/
def hdB (b : List BrN) (i : Nat) : Bool := amoB b.length (fun k => (getB b k).dep) (fun k => (getB b k).kd == 5) i
def feE (b : List BrN) (i : Nat) : Int :=
 if (getB b i).kd = 5 then 0 else mwE 2 (getB b i).ats (fuM (getB b i).opq (hdB b i) (getB b i).red (manyT (plT b) (getB b i).cl))
def feX (b : List BrN) (i : Nat) : TrN :=
 if (getB b i).kd = 5 then ⟨(getB b i).dep, (getB b i).nm, 2, whA, ⟨#[]⟩, 0, 0, 0⟩ else { (getB b i).toTrN with ats := mwL 2 (getB b i).ats (fuM (getB b i).opq (hdB b i) (getB b i).red (manyT (plT b) (getB b i).cl)) }
def feT (b : List BrN) : List TrN × Int × Int := genT b (feE b) (feX b)
def feL (b : List BrN) : List TrN := (feT b).1
def feN (b : List BrN) : Int := (feT b).2.1
def feF (b : List BrN) : Int := (feT b).2.2
theorem fe_of {b : List BrN} {x : List TrN} {y z : Int} (h : feT b = (x, y, z)) : feL b = x /\ feN b = y /\ feF b = z := by unfold feL feN feF; rw [h]; exact ⟨rfl, rfl, rfl⟩
section
variable {b : List BrN} {i : Nat} {x : BrN} (hg : getB b i = x)
include hg
theorem fe_white (h : x.kd = 5) : feE b i = 0 /\ feX b i = ⟨x.dep, x.nm, 2, whA, ⟨#[]⟩, 0, 0, 0⟩ := by subst hg; exact ⟨if_pos h, if_pos h⟩
theorem fe_node (h : x.kd ≠ 5) : feE b i = mwE 2 x.ats (fuM x.opq (hdB b i) x.red (manyT (plT b) x.cl)) /\ feX b i = { x.toTrN with ats := mwL 2 x.ats (fuM x.opq (hdB b i) x.red (manyT (plT b) x.cl)) } := by
 subst hg; exact ⟨if_neg h, if_neg h⟩
end
/-! Decode. -/
def ftT (own : List Attr) : (Bool × Bool) × List ByteArray × Int :=
 if isM own opqW = true /\ valM own opqW ≠ yW /\ valM own opqW ≠ xW then ((false, false), [], 6)
 else if isM own reW = true then (if parE (valM own reW) ≠ 0 \/ parL (valM own reW) = [] then ((false, false), [], 6) else ((decide (valM own opqW = yW), decide (valM own opqW = xW)), parL (valM own reW), 0))
 else ((decide (valM own opqW = yW), decide (valM own opqW = xW)), [], 0)
def ftO (own : List Attr) : Bool := (ftT own).1.1
def ftH (own : List Attr) : Bool := (ftT own).1.2
def ftR (own : List Attr) : List ByteArray := (ftT own).2.1
def ftE (own : List Attr) : Int := (ftT own).2.2
theorem ft_of {own : List Attr} {x h : Bool} {y : List ByteArray} {z : Int} (e : ftT own = ((x, h), y, z)) : ftO own = x /\ ftH own = h /\ ftR own = y /\ ftE own = z := by unfold ftO ftH ftR ftE; rw [e]; exact ⟨rfl, rfl, rfl, rfl⟩
theorem ft_opq {own : List Attr} (h : isM own opqW = true) (h2 : valM own opqW ≠ yW) (h3 : valM own opqW ≠ xW) : ftT own = ((false, false), [], 6) := if_pos ⟨h, h2, h3⟩
theorem ft_bad {own : List Attr} (h : ¬ (isM own opqW = true /\ valM own opqW ≠ yW /\ valM own opqW ≠ xW)) (h2 : isM own reW = true) (h3 : parE (valM own reW) ≠ 0 \/ parL (valM own reW) = []) : ftT own = ((false, false), [], 6) := by
 unfold ftT; rw [if_neg h, if_pos h2, if_pos h3]
theorem ft_led {own : List Attr} (h : ¬ (isM own opqW = true /\ valM own opqW ≠ yW /\ valM own opqW ≠ xW)) (h2 : isM own reW = true) (h3 : ¬ (parE (valM own reW) ≠ 0 \/ parL (valM own reW) = [])) : ftT own = ((decide (valM own opqW = yW), decide (valM own opqW = xW)), parL (valM own reW), 0) := by
 unfold ftT; rw [if_neg h, if_pos h2, if_neg h3]
theorem ft_no {own : List Attr} (h : ¬ (isM own opqW = true /\ valM own opqW ≠ yW /\ valM own opqW ≠ xW)) (h2 : isM own reW = false) : ftT own = ((decide (valM own opqW = yW), decide (valM own opqW = xW)), [], 0) := by
 unfold ftT; rw [if_neg h, if_neg (by simp [h2])]
def hidB (x : TrN) (n : Int) : Bool := x.kd == 2 && (x.dat.size == 0 && ((ptsP 2 x.ats).length == 0 && ((ptsO 2 x.ats).length == 1 && (decide (valM (ptsO 2 x.ats) whW = yW) && decide (n < 2)))))
def whtB (x : TrN) : Bool := isM (ptsO 2 x.ats) whW
def hdT (t : List TrN) (i : Nat) : Bool := amoB t.length (fun k => (getT t k).dep) (fun k => whtB (getT t k)) i
def fbT (t : List TrN) (i : Nat) : Prop :=
 ftE (ptsO 2 (getT t i).ats) ≠ 0 \/ ((isM (ptsO 2 (getT t i).ats) opqW || isM (ptsO 2 (getT t i).ats) reW) = true /\ (getT t i).kd ≠ 1) \/ (isM (ptsO 2 (getT t i).ats) reW = true /\ i = 0)
instance (t : List TrN) (i : Nat) : Decidable (fbT t i) := by unfold fbT; infer_instance
def fdE (t : List TrN) (i : Nat) : Int :=
 if (getT t i).kd = 5 then 6
 else if ptsE 2 (getT t i).ats ≠ 0 then ptsE 2 (getT t i).ats
 else if whtB (getT t i) = true then (if hidB (getT t i) (manyT t (getT t i).cl) = true then 0 else 6)
 else if fbT t i then 6
 else if (getT t i).kd = 1 /\ ftO (ptsO 2 (getT t i).ats) = false /\ ftH (ptsO 2 (getT t i).ats) ≠ hdT t i then 6
 else bookE (ptsO 2 (getT t i).ats) (manyT t (getT t i).cl)
def fdX (t : List TrN) (i : Nat) : BrN :=
 if whtB (getT t i) = true then ⟨⟨(getT t i).dep, (getT t i).nm, 5, [], ⟨#[]⟩, 0, 0, 0⟩, false, []⟩
 else ⟨{ getT t i with ats := ptsP 2 (getT t i).ats }, ftO (ptsO 2 (getT t i).ats), ftR (ptsO 2 (getT t i).ats)⟩
section
variable {t : List TrN} {i : Nat}
theorem fd_white (h : (getT t i).kd = 5) : fdE t i = 6 := if_pos h
theorem fd_parts (h : (getT t i).kd ≠ 5) (h2 : ptsE 2 (getT t i).ats ≠ 0) : fdE t i = ptsE 2 (getT t i).ats := by unfold fdE; rw [if_neg h, if_pos h2]
theorem fd_hid (h : (getT t i).kd ≠ 5) (h2 : ptsE 2 (getT t i).ats = 0) (h3 : whtB (getT t i) = true) : fdE t i = if hidB (getT t i) (manyT t (getT t i).cl) = true then 0 else 6 := by
 unfold fdE; rw [if_neg h, if_neg (by simp [h2]), if_pos h3]
theorem fd_form (h : (getT t i).kd ≠ 5) (h2 : ptsE 2 (getT t i).ats = 0) (h3 : whtB (getT t i) = false) (h4 : fbT t i) : fdE t i = 6 := by
 unfold fdE; rw [if_neg h, if_neg (by simp [h2]), if_neg (by simp [h3]), if_pos h4]
theorem fd_hides (h : (getT t i).kd ≠ 5) (h2 : ptsE 2 (getT t i).ats = 0) (h3 : whtB (getT t i) = false) (h4 : ¬ fbT t i) (h5 : (getT t i).kd = 1 /\ ftO (ptsO 2 (getT t i).ats) = false /\ ftH (ptsO 2 (getT t i).ats) ≠ hdT t i) : fdE t i = 6 := by
 unfold fdE; rw [if_neg h, if_neg (by simp [h2]), if_neg (by simp [h3]), if_neg h4, if_pos h5]
theorem fd_book (h : (getT t i).kd ≠ 5) (h2 : ptsE 2 (getT t i).ats = 0) (h3 : whtB (getT t i) = false) (h4 : ¬ fbT t i) (h5 : ¬ ((getT t i).kd = 1 /\ ftO (ptsO 2 (getT t i).ats) = false /\ ftH (ptsO 2 (getT t i).ats) ≠ hdT t i)) : fdE t i = bookE (ptsO 2 (getT t i).ats) (manyT t (getT t i).cl) := by
 unfold fdE; rw [if_neg h, if_neg (by simp [h2]), if_neg (by simp [h3]), if_neg h4, if_neg h5]
theorem fd_wx (h : whtB (getT t i) = true) : fdX t i = ⟨⟨(getT t i).dep, (getT t i).nm, 5, [], ⟨#[]⟩, 0, 0, 0⟩, false, []⟩ := if_pos h
theorem fd_node (h : whtB (getT t i) = false) : fdX t i = ⟨{ getT t i with ats := ptsP 2 (getT t i).ats }, ftO (ptsO 2 (getT t i).ats), ftR (ptsO 2 (getT t i).ats)⟩ := if_neg (by simp [h])
end
def fdT (t : List TrN) : List BrN × Int × Int := genD t (fdE t) (fdX t)
def fdL (t : List TrN) : List BrN := (fdT t).1
def fdN (t : List TrN) : Int := (fdT t).2.1
def fdF (t : List TrN) : Int := (fdT t).2.2
theorem fd_of {t : List TrN} {x : List BrN} {y z : Int} (h : fdT t = (x, y, z)) : fdL t = x /\ fdN t = y /\ fdF t = z := by unfold fdL fdN fdF; rw [h]; exact ⟨rfl, rfl, rfl⟩
def exF : List BrN :=
 [⟨⟨0, ⟨#[]⟩, 1, [((ofL [117, 115, 101, 114, 46, 102, 117, 115, 101, 111, 118, 101, 114, 108, 97, 121, 102, 115, 46, 120]), ⟨#[]⟩)], ⟨#[]⟩, 0, 0, 0⟩, false, []⟩,
  ⟨⟨1, (ofL [97]), 1, [], ⟨#[]⟩, 0, 0, 0⟩, true, []⟩,
  ⟨⟨2, (ofL [102]), 2, [], (ofL [49]), 0, 0, 1⟩, false, []⟩,
  ⟨⟨1, (ofL [100]), 1, [], ⟨#[]⟩, 0, 0, 0⟩, false, [(ofL [111, 108, 100])]⟩,
  ⟨⟨2, (ofL [103]), 2, [], (ofL [49]), 0, 0, 1⟩, false, []⟩,
  ⟨⟨2, (ofL [119]), 5, [], ⟨#[]⟩, 0, 0, 0⟩, false, []⟩]
def rawF : List TrN :=
 [⟨0, ⟨#[]⟩, 1, [((ofL [117, 115, 101, 114, 46, 102, 117, 115, 101, 111, 118, 101, 114, 108, 97, 121, 102, 115, 46, 102, 117, 115, 101, 46, 120]), ⟨#[]⟩)], ⟨#[]⟩, 0, 0, 0⟩,
  ⟨1, (ofL [97]), 1, [((ofL [117, 115, 101, 114, 46, 102, 117, 115, 101, 111, 118, 101, 114, 108, 97, 121, 102, 115, 46, 111, 112, 97, 113, 117, 101]), (ofL [121]))], ⟨#[]⟩, 0, 0, 0⟩,
  ⟨2, (ofL [102]), 2, [((ofL [117, 115, 101, 114, 46, 102, 117, 115, 101, 111, 118, 101, 114, 108, 97, 121, 102, 115, 46, 110, 108, 105, 110, 107]), (ofL [50]))], (ofL [49]), 0, 0, 1⟩,
  ⟨1, (ofL [100]), 1, [((ofL [117, 115, 101, 114, 46, 102, 117, 115, 101, 111, 118, 101, 114, 108, 97, 121, 102, 115, 46, 111, 112, 97, 113, 117, 101]), (ofL [120])), ((ofL [117, 115, 101, 114, 46, 102, 117, 115, 101, 111, 118, 101, 114, 108, 97, 121, 102, 115, 46, 114, 101, 100, 105, 114, 101, 99, 116]), (ofL [47, 111, 108, 100]))], ⟨#[]⟩, 0, 0, 0⟩,
  ⟨2, (ofL [103]), 2, [((ofL [117, 115, 101, 114, 46, 102, 117, 115, 101, 111, 118, 101, 114, 108, 97, 121, 102, 115, 46, 110, 108, 105, 110, 107]), (ofL [50]))], (ofL [49]), 0, 0, 1⟩,
  ⟨2, (ofL [119]), 2, [((ofL [117, 115, 101, 114, 46, 102, 117, 115, 101, 111, 118, 101, 114, 108, 97, 121, 102, 115, 46, 119, 104, 105, 116, 101, 111, 117, 116]), (ofL [121]))], ⟨#[]⟩, 0, 0, 0⟩]
def rawNF : List TrN := (rawF.set 2 ⟨2, (ofL [102]), 2, [((ofL [117, 115, 101, 114, 46, 102, 117, 115, 101, 111, 118, 101, 114, 108, 97, 121, 102, 115, 46, 110, 108, 105, 110, 107]), (ofL [51]))], (ofL [49]), 0, 0, 1⟩).set 4 ⟨2, (ofL [103]), 2, [((ofL [117, 115, 101, 114, 46, 102, 117, 115, 101, 111, 118, 101, 114, 108, 97, 121, 102, 115, 46, 110, 108, 105, 110, 107]), (ofL [51]))], (ofL [49]), 0, 0, 1⟩
def rawPF : List TrN := rawF.set 1 ⟨1, (ofL [97]), 1, [((ofL [117, 115, 101, 114, 46, 102, 117, 115, 101, 111, 118, 101, 114, 108, 97, 121, 102, 115, 46, 111, 112, 97, 113, 117, 101]), (ofL [110]))], ⟨#[]⟩, 0, 0, 0⟩
def exDF : List BrN := exF.set 5 ⟨⟨2, (ofL [119]), 4, [], ⟨#[]⟩, 0, 0, 0⟩, false, []⟩
set_option maxRecDepth 100000 in
theorem exF_enc : feT exF = (rawF, 0, 0) := by kernel_rfl
set_option maxRecDepth 100000 in
theorem rawF_dec : fdT rawF = (exF, 0, 0) := by kernel_rfl
set_option maxRecDepth 100000 in
theorem rawNF_dec : fdT rawNF = ([], 2, 18) := by kernel_rfl
set_option maxRecDepth 100000 in
theorem rawPF_dec : fdT rawPF = ([], 1, 6) := by kernel_rfl
set_option maxRecDepth 100000 in
theorem exDF_enc : feN exDF = 0 /\ feF exDF = 0 := by
 have h : feT exDF = (feL exDF, 0, 0) := by kernel_rfl
 exact (fe_of h).2
theorem exF_small : SmallB exF := by
 refine ⟨?_, ?_, ?_, by decide⟩
 ·unfold SmallT; decide
 ·decide
 ·decide
theorem exDF_small : SmallB exDF := by
 refine ⟨?_, ?_, ?_, by decide⟩
 ·unfold SmallT; decide
 ·decide
 ·decide
theorem rawF_small : SmallT rawF := by unfold SmallT; decide
theorem rawNF_small : SmallT rawNF := by unfold SmallT; decide
theorem rawPF_small : SmallT rawPF := by unfold SmallT; decide
theorem hidS_size (o h : Bool) : (hidS o h).size <= 200 := by cases o <;> cases h <;> decide
theorem fuM_size (o h : Bool) (r : List ByteArray) {n : Int} (hn : n <= 9223372036854775807) : ∀ m ∈ fuM o h r n, m.2.size <= 200 := by
 intro m hm
 unfold fuM at hm
 simp only [List.mem_cons, List.not_mem_nil, or_false] at hm
 rcases hm with rfl | rfl | rfl
 ·exact hidS_size o h
 ·exact redS_size r
 ·exact linkS_size hn
structure SayF (x : BrN) (y : TrN) : Prop where
 dep : y.dep = x.dep
 nm : y.nm = x.nm
 dat : y.dat = x.dat
 ma : y.ma = x.ma
 mi : y.mi = x.mi
 cl : y.cl = x.cl
 kd : (x.kd = 5 /\ y.kd = 2 /\ y.ats = whA) \/ (x.kd ≠ 5 /\ y.kd = x.kd /\ y.ats ≠ whA)
def keyB (own : List Attr) (key : ByteArray) (k : Nat) : Bool := match own[k]? with | some a => a.1.toList == key.toList | none => false
theorem keyB_at {own : List Attr} {key : ByteArray} {k : Nat} (h : k < own.length) : keyB own key k = ((own[k]'h).1.toList == key.toList) := by unfold keyB; rw [List.getElem?_eq_getElem h]
theorem keyB_L {own : List Attr} {key : ByteArray} {k : Nat} (h : k < own.length) : keyB own key k = true ↔ L (own[k]'h).1 = L key := by rw [keyB_at h, beq_iff_eq, tL, tL]
theorem find_cases (p : Nat -> Bool) : ∀ n, (∀ j, j < n -> p j = false) \/ ∃ i, i < n /\ (∀ j, j < i -> p j = false) /\ p i = true
 | 0 => .inl fun j hj => absurd hj (by omega)
 | n + 1 => by
  rcases find_cases p n with h | ⟨i, h1, h2, h3⟩
  ·by_cases e : p n = true
   ·exact .inr ⟨n, by omega, h, e⟩
   ·refine .inl fun j hj => ?_
    by_cases x : j = n
    ·subst x; exact Bool.eq_false_iff.2 e
    ·exact h j (by omega)
  ·exact .inr ⟨i, by omega, h2, h3⟩
theorem fuGet1 (w : World) (pb : Nat) (x : Attr) (key : ByteArray) (hpb : w.cell? ⟨pb, 0, none⟩ = some (.string key)) (hpl : pb < w.heap.size) :
  RetB Tryz.prog 148 #[.agg #[.string x.1, .string x.2], .pointer (some ⟨pb, 0, none⟩)] w (.bool (x.1.toList == key.toList)) := by
 unfold RetB
 go_enter Tryz.func148, Tryz.ntmps148
 go_wp2
 go_ret
 exact ⟨rfl, eA _ _⟩
set_option maxRecDepth 100000 in
set_option maxHeartbeats 4000000 in
theorem fuIndex (w : World) (v : Value) (own : List Attr) (pb : Nat) (key : ByteArray) (hv : aA w v own) (hl : own.length <= 1000000) (hpb : w.cell? ⟨pb, 0, none⟩ = some (.string key)) (hpl : pb < w.heap.size) :
  RetB Tryz.prog 147 #[v, .func (.func 148) #[] #[.pointer (some ⟨pb, 0, none⟩)]] w (.int .i64 (idxE (keyB own key) own.length)) := by
 unfold RetB
 obtain ⟨aa, cap, rfl, hcap, hc⟩ := hv
 have HC := hQq hc; have HPB := hQq hpb; have HPL := hQq hpl
 clear hc hpb hpl
 have he : ∀ args w, (callFunc 148 args).run Tryz.prog w = .ok (.enter 148 args) w := enters_of Tryz.func148 (by kernel_rfl) rfl
 go_enter Tryz.func147, Tryz.ntmps147
 go_wp2
 go_loopw [5, 8] (fun _ i w' => ∃ (wi : World) (k : Nat), wi = w' /\ k <= own.length /\ i = .int .i64 k /\ (∀ j, j < k -> keyB own key j = false) /\ Ext w w') (fun _ i _ => own.length - (intOf i).toNat)
 case atStart => exact ⟨_, 0, rfl, Nat.zero_le _, rfl, fun j hj => absurd hj (by omega), bR _ _⟩
 case round =>
  obtain ⟨wi, k, rfl, hk, rfl, hp, hb⟩ := hrel
  have HP := hQq hp; clear hp
  have HB := hQq hb; clear hb
  by_cases hlt : k < own.length
  case neg =>
   obtain rfl : k = own.length := by omega
   have HR := hQq (idxE_none HP.out)
   go_wp2
   go_ret
   exact ⟨by rw [HR.out]; rfl, HB.out⟩
  obtain ⟨b, off, rfl, hbs, h1, h2⟩ := HC.out k hlt
  have HKB := hQq (keyB_at (key := key) hlt)
  generalize own[k]'hlt = x at h1 h2 HKB
  have c0 := (eC HB.out hbs).trans h1
  have c1 := (eC HB.out hbs).trans h2
  have j1 : ((k : Nat) : Int) < (own.length : Int) := by omega
  have j0 : (0 : Int) <= (k : Int) := by omega
  have HG := hQq (fuGet1 wi pb x key ((eC HB.out HPL.out).trans HPB.out) (Nat.lt_of_lt_of_le HPL.out HB.out.size))
  unfold RetB at HG
  have HLT := hQq hlt
  clear h1 h2
  cases hpk : x.1.toList == key.toList
  all_goals
   rw [hpk] at HG HKB
   clear hpk
   go_wp2_with (refine HG.out.mono ?_; rintro e w1 ⟨rfl, hb1⟩; replace HB := hQq (Ext.trans HB.out hb1); clear hb1)
  ·have HN : Hid (∀ j, j < k + 1 -> keyB own key j = false) := by
    intro j hj
    by_cases e : j = k
    ·subst e; exact HKB.out
    ·exact HP.out j (by omega)
   go_roundw
   case rel => exact ⟨_, k + 1, rfl, by omega, by go_num, HN.out, HB.out⟩
   case measure => first | (simp [intOf]; done) | (simp [intOf]; omega)
  ·have HR := hQq (idxE_some HLT.out HP.out HKB.out)
   go_ret
   exact ⟨by rw [HR.out]; rfl, HB.out⟩
theorem fuGet (v : Value) (own : List Attr) (key : ByteArray) (w : World) (hv : aA w v own) (hl : own.length <= 1000000) :
  RetB Tryz.prog 87 #[v, .string key] w (.tuple #[.string (valM own key), .bool (isM own key)]) := by
 unfold RetB
 have HV := hQq hv
 obtain ⟨a, cap, rfl, hcap, hc⟩ := hv
 have HC := hQq hc; clear hc
 rcases find_cases (keyB own key) own.length with h | ⟨i, hi, h2, h3⟩
 ·have HI := hQq (idxE_none h)
  have HG : Hid (getM own key = none) := hQq (getM_none fun x hx e => by
   obtain ⟨j, hj, rfl⟩ := List.getElem_of_mem hx
   exact absurd (h j hj) (by rw [(keyB_L hj).2 e]; decide))
  clear h
  go_enter Tryz.func87, Tryz.ntmps87
  go_wp2_with (go_at_call 147; refine (fuIndex _ _ own _ key (HV.out.ext (eA _ _)) hl (bC (bN w _) 0) (by simp)).mono ?_; rintro e w1 ⟨rfl, hb1⟩; rw [HI.out]; have HB := hQq ((eA _ _).trans hb1); clear hb1)
  go_ret2
  exact ⟨by unfold valM isM; rw [HG.out]; rfl, HB.out⟩
 ·have HI := hQq (idxE_some hi h2 h3)
  have HG := hQq (getM_at hi (fun j hj hjl e => by
   have := h2 j hj
   rw [(keyB_L hjl).2 e] at this; cases this) ((keyB_L hi).1 h3))
  obtain ⟨b, off, rfl, hbs, h1, h4⟩ := HC.out i hi
  generalize own[i]'hi = x at h1 h4 HG
  have j1 : ((i : Nat) : Int) < (own.length : Int) := by omega
  have j0 : (0 : Int) <= (i : Int) := by omega
  have HI1 := hQq hi
  clear h2 h3 h1
  have HC4 := hQq h4
  clear h4
  go_enter Tryz.func87, Tryz.ntmps87
  go_wp2_with (go_at_call 147; refine (fuIndex _ _ own _ key (HV.out.ext (eA _ _)) hl (bC (bN w _) 0) (by simp)).mono ?_; rintro e w1 ⟨rfl, hb1⟩; rw [HI.out]; have HB := hQq ((eA _ _).trans hb1); have c4 := (eC HB.out hbs).trans HC4.out; clear hb1)
  go_ret2
  exact ⟨by unfold valM isM; rw [HG.out]; rfl, HB.out⟩
abbrev atV (m : Attr) : Value := .agg #[.string m.1, .string m.2]
theorem put2 {w w1 W2 : World} {b : Nat} {t : TypeId} {x0 x1 y0 y1 : Value} (hq : w1.heap[b]? = some (.cells #[x0, x1] t (0, 0))) (hb : w.heap.size <= b) (he : Ext w w1) (hW : W2 = setL w1 b 0 [y0, y1]) :
  W2.heap[b]? = some (.cells #[y0, y1] t (0, 0)) /\ Ext w W2 := by
 subst hW
 exact ⟨by rw [setL_blk _ _ _ _ hq]; rfl, setL_below hb _ _ _ he⟩
theorem res2 {w wx W2 : World} {t : TypeId} {x0 x1 y0 y1 : Value} (hq : wx.heap[w.heap.size]? = some (.cells #[x0, x1] t (0, 0))) (he : Ext w wx) (hW : W2 = setL wx w.heap.size 0 [y0, y1]) :
 W2.heap[w.heap.size]? = some (.cells #[y0, y1] t (0, 0)) /\ Ext w W2 := put2 hq (Nat.le_refl _) he hW
def flatC (ms : List Attr) : List Value := ms.flatMap fun m => [.string m.1, .string m.2]
theorem flatC_at : ∀ (ms : List Attr) (k : Nat) (hk : k < ms.length), (flatC ms)[k * 2]? = some (.string (ms[k]'hk).1) /\ (flatC ms)[k * 2 + 1]? = some (.string (ms[k]'hk).2)
 | [], _, hk => absurd hk (Nat.not_lt_zero _)
 | m :: r, 0, _ => ⟨rfl, rfl⟩
 | m :: r, k + 1, hk => by
  have := flatC_at r k (Nat.lt_of_succ_lt_succ hk)
  have e : flatC (m :: r) = .string m.1 :: .string m.2 :: flatC r := rfl
  rw [e, show (k + 1) * 2 = k * 2 + 1 + 1 by omega]
  simp only [List.getElem?_cons_succ, List.getElem_cons_succ]
  exact this
theorem atts_blk {w : World} {b n : Nat} {ms : List Attr} {cs : Array Value} (hq : w.heap[b]? = some (.cells cs 45 (0, 0))) (hc : cs.toList = flatC ms) (hn : n = ms.length) : AttT w (.slice (some ⟨b, 0, none⟩) n n) ms := by
 subst hn
 refine ⟨⟨_, _, rfl, Nat.le_refl _, fun k hk => ?_⟩, fun b' hb => ?_⟩
 ·obtain ⟨h1, h2⟩ := flatC_at ms k hk
  rw [<- hc] at h1 h2
  refine ⟨b, 0, rfl, bL hq, ?_, ?_⟩
  ·rw [bC hq, Nat.zero_add, <- Array.getElem?_toList]; exact h1
  ·rw [bC hq, Nat.zero_add, <- Array.getElem?_toList]; exact h2
 ·cases hb; exact ⟨_, _, hq⟩
theorem set8 (x0 x1 x2 x3 x4 x5 x6 x7 y0 y1 y2 y3 y4 y5 y6 y7 : Value) : setA #[x0, x1, x2, x3, x4, x5, x6, x7] 0 [y0, y1, y2, y3, y4, y5, y6, y7] = #[y0, y1, y2, y3, y4, y5, y6, y7] := by
 simp only [setA, List.setIfInBounds_toArray, List.set_cons_zero, List.set_cons_succ]
theorem fuLink (n : Int) (w : World) (hL : LaidO w) (h1 : n <= 9223372036854775807) : RetB Tryz.prog 59 #[.int .i64 n] w (.agg #[.string nlW, .string (linkS n)]) := by
 unfold RetB
 have HL := hQq hL; clear hL
 by_cases h : 1 < n
 ·have HN : Hid (linkS n = ⟨(Lib.itoa n).toArray⟩) := hQq (if_neg (by omega))
  rw [HN.out]
  go_enter Tryz.func59, Tryz.ntmps59
  go_wp2_with fail
  refine (itoaX n _ (HL.out.ext ((eA _ _).trans (eA _ _))) (by omega) h1).mono ?_
  rintro e w1 ⟨rfl, hb⟩
  have HB := hQq (((eA w _).trans (eA _ _)).trans hb)
  have Q0 : Hid (w1.heap[w.heap.size]? = some (.cells #[.string ⟨#[]⟩, .string ⟨#[]⟩] 45 (0, 0))) := hQq (bX hb (bA (bN w _)))
  have Q1 : Hid (w1.heap[w.heap.size + 1]? = some (.cells #[.string nlW, .string ⟨#[]⟩] 45 (0, 0))) := hQq (bX hb (blk_at (by simp)))
  clear hb
  obtain ⟨a0, a1⟩ := b2C Q0.out; have fa := fun j => bT Q0.out j; have za := bL Q0.out
  obtain ⟨y0, y1⟩ := b2C Q1.out; have fz := fun j => bT Q1.out j; have z := bL Q1.out
  go_wp2
  refine nW (P := fun W => bodyPost _ _ _ _ _ W) _ ?_
  intro W2 hW2
  obtain ⟨hq, hx⟩ := res2 (y0 := .string nlW) (y1 := .string ⟨(Lib.itoa n).toArray⟩) (show (w1.setCell ⟨w.heap.size + 1, 1, none⟩ (.string ⟨(Lib.itoa n).toArray⟩)).heap[w.heap.size]? = some (.cells #[.string ⟨#[]⟩, .string ⟨#[]⟩] 45 (0, 0)) from bSn Q0.out _ _ (by show w.heap.size ≠ w.heap.size + 1; omega)) (Below.setCell (p := ⟨w.heap.size + 1, 1, none⟩) HB.out (by show w.heap.size <= w.heap.size + 1; omega) _) hW2
  refine bodyPost_ret (v := .agg #[.string nlW, .string ⟨(Lib.itoa n).toArray⟩]) (by simp [results, Tryz.f59, go_sem, bC hq 0, bC hq 1]) rfl ?_
  exact ⟨rfl, hx⟩
 ·rw [link_one (by omega : n < 2)]
  go_enter Tryz.func59, Tryz.ntmps59
  go_wp2
  refine nW (P := fun W => bodyPost _ _ _ _ _ W) _ ?_
  intro W2 hW2
  have hq : W2.heap[w.heap.size]? = some (.cells #[.string nlW, .string ⟨#[]⟩] 45 (0, 0)) := by rw [hW2]; exact bA (bN w _)
  refine bodyPost_ret (v := .agg #[.string nlW, .string ⟨#[]⟩]) (by simp [results, Tryz.f59, go_sem, bC hq 0, bC hq 1]) rfl ?_
  exact ⟨rfl, by rw [hW2]; exact (eA _ _).trans (eA _ _)⟩
theorem fuOpaque (o h : Bool) (w : World) : RetB Tryz.prog 57 #[.bool o, .bool h] w (.agg #[.string opqW, .string (hidS o h)]) := by
 unfold RetB
 cases o <;> cases h
 ·show Calls _ _ _ _ fun e w' => e = .returned (.agg #[.string opqW, .string ⟨#[]⟩]) /\ _
  go_enter Tryz.func57, Tryz.ntmps57
  go_wp2
  refine nW (P := fun W => bodyPost _ _ _ _ _ W) _ ?_
  intro W2 hW2
  have hq : W2.heap[w.heap.size]? = some (.cells #[.string opqW, .string ⟨#[]⟩] 45 (0, 0)) := by rw [hW2]; exact bA (bN w _)
  refine bodyPost_ret (v := .agg #[.string opqW, .string ⟨#[]⟩]) (by simp [results, Tryz.f57, go_sem, bC hq 0, bC hq 1]) rfl ?_
  exact ⟨rfl, by rw [hW2]; exact (eA _ _).trans (eA _ _)⟩
 ·show Calls _ _ _ _ fun e w' => e = .returned (.agg #[.string opqW, .string xW]) /\ _
  go_enter Tryz.func57, Tryz.ntmps57
  go_wp2
  refine nW (P := fun W => bodyPost _ _ _ _ _ W) _ ?_
  intro W2 hW2
  have hq : W2.heap[w.heap.size]? = some (.cells #[.string opqW, .string xW] 45 (0, 0)) := by rw [hW2]; exact bA (bN w _)
  refine bodyPost_ret (v := .agg #[.string opqW, .string xW]) (by simp [results, Tryz.f57, go_sem, bC hq 0, bC hq 1]) rfl ?_
  exact ⟨rfl, by rw [hW2]; exact (eA _ _).trans (eA _ _)⟩
 ·show Calls _ _ _ _ fun e w' => e = .returned (.agg #[.string opqW, .string yW]) /\ _
  go_enter Tryz.func57, Tryz.ntmps57
  go_wp2
  refine nW (P := fun W => bodyPost _ _ _ _ _ W) _ ?_
  intro W2 hW2
  have hq : W2.heap[w.heap.size]? = some (.cells #[.string opqW, .string yW] 45 (0, 0)) := by rw [hW2]; exact bA (bN w _)
  refine bodyPost_ret (v := .agg #[.string opqW, .string yW]) (by simp [results, Tryz.f57, go_sem, bC hq 0, bC hq 1]) rfl ?_
  exact ⟨rfl, by rw [hW2]; exact (eA _ _).trans (eA _ _)⟩
 ·show Calls _ _ _ _ fun e w' => e = .returned (.agg #[.string opqW, .string yW]) /\ _
  go_enter Tryz.func57, Tryz.ntmps57
  go_wp2
  refine nW (P := fun W => bodyPost _ _ _ _ _ W) _ ?_
  intro W2 hW2
  have hq : W2.heap[w.heap.size]? = some (.cells #[.string opqW, .string yW] 45 (0, 0)) := by rw [hW2]; exact bA (bN w _)
  refine bodyPost_ret (v := .agg #[.string opqW, .string yW]) (by simp [results, Tryz.f57, go_sem, bC hq 0, bC hq 1]) rfl ?_
  exact ⟨rfl, by rw [hW2]; exact (eA _ _).trans (eA _ _)⟩
theorem fuRedirect (v : Value) (r : List ByteArray) (w : World) (hr : StrsAt w v r) : RetB Tryz.prog 58 #[v] w (.agg #[.string reW, .string (redS r)]) := by
 unfold RetB
 have HR := hQq hr
 obtain ⟨a, cap, rfl, hrc, hrx⟩ := hr
 clear hrc hrx
 by_cases h : 0 < r.length
 ·have h' := lenP h
  have HRS : Hid (redS r = prS r) := hQq (if_pos h)
  rw [HRS.out]
  go_enter Tryz.func58, Tryz.ntmps58
  go_wp2_with fail
  refine (pathsPrint _ _ r (HR.out.ext ((eA _ _).trans (eA _ _)))).mono ?_
  rintro e w1 ⟨rfl, hb⟩
  have HB := hQq (((eA w _).trans (eA _ _)).trans hb)
  have Q0 : Hid (w1.heap[w.heap.size]? = some (.cells #[.string ⟨#[]⟩, .string ⟨#[]⟩] 45 (0, 0))) := hQq (bX hb (bA (bN w _)))
  have Q1 : Hid (w1.heap[w.heap.size + 1]? = some (.cells #[.string reW, .string ⟨#[]⟩] 45 (0, 0))) := hQq (bX hb (blk_at (by simp)))
  clear hb
  obtain ⟨a0, a1⟩ := b2C Q0.out; have fa := fun j => bT Q0.out j; have za := bL Q0.out
  obtain ⟨y0, y1⟩ := b2C Q1.out; have fz := fun j => bT Q1.out j; have z := bL Q1.out
  go_wp2
  refine nW (P := fun W => bodyPost _ _ _ _ _ W) _ ?_
  intro W2 hW2
  obtain ⟨hq, hx⟩ := res2 (y0 := .string reW) (y1 := .string (prS r)) (show (w1.setCell ⟨w.heap.size + 1, 1, none⟩ (.string (prS r))).heap[w.heap.size]? = some (.cells #[.string ⟨#[]⟩, .string ⟨#[]⟩] 45 (0, 0)) from bSn Q0.out _ _ (by show w.heap.size ≠ w.heap.size + 1; omega)) (Below.setCell (p := ⟨w.heap.size + 1, 1, none⟩) HB.out (by show w.heap.size <= w.heap.size + 1; omega) _) hW2
  refine bodyPost_ret (v := .agg #[.string reW, .string (prS r)]) (by simp [results, Tryz.f58, go_sem, bC hq 0, bC hq 1]) rfl ?_
  exact ⟨rfl, hx⟩
 ·have h' := lenZ h
  have HRS : Hid (redS r = ⟨#[]⟩) := hQq (if_neg h)
  rw [HRS.out]
  go_enter Tryz.func58, Tryz.ntmps58
  go_wp2
  refine nW (P := fun W => bodyPost _ _ _ _ _ W) _ ?_
  intro W2 hW2
  have hq : W2.heap[w.heap.size]? = some (.cells #[.string reW, .string ⟨#[]⟩] 45 (0, 0)) := by rw [hW2]; exact bA (bN w _)
  refine bodyPost_ret (v := .agg #[.string reW, .string ⟨#[]⟩]) (by simp [results, Tryz.f58, go_sem, bC hq 0, bC hq 1]) rfl ?_
  exact ⟨rfl, by rw [hW2]; exact (eA _ _).trans (eA _ _)⟩
theorem fuWhiteout (w : World) (hL : LaidO w) : Calls Tryz.prog 52 #[] w fun e w' => (∃ a c, e = .returned (trV whN (.slice a 1 c)) /\ AttT w' (.slice a 1 c) whA) /\ Ext w w' := by
 have HL := hQq hL; clear hL
 unfold trV
 go_enter Tryz.func52, Tryz.ntmps52
 go_wp2_with (go_at_call 118; refine (escMark 2 whW _ (HL.out.ext (eA _ _)).laid (by decide)).mono ?_; rintro e w2 ⟨rfl, hb⟩; rw [mkOk2w.mr]; have HB := hQq ((eA _ _).trans hb); have Q0 := hQq (bX hb (bN w _)); obtain ⟨y0, y1, y2, y3, y4, y5, y6, y7⟩ := b8C Q0.out; have fz := fun j => bT Q0.out j; have z := bL Q0.out; clear hb)
 refine nW (P := fun W => bodyPost _ _ _ _ _ W) _ ?_
 intro W2 hW2
 have hW3 : W2 = (setL w2 w.heap.size 0 [.int .i64 0, .string ⟨#[]⟩, .int .i64 2, .slice (some ⟨w2.heap.size, 0, none⟩) 1 1, .string ⟨#[]⟩, .int .i64 0, .int .i64 0, .int .i64 0]).alloc (.cells #[.string (mrS 2 whW), .string yW] 45) := hW2
 obtain ⟨S, hS⟩ : ∃ S, S = setL w2 w.heap.size 0 [.int .i64 0, .string ⟨#[]⟩, .int .i64 2, .slice (some ⟨w2.heap.size, 0, none⟩) 1 1, .string ⟨#[]⟩, .int .i64 0, .int .i64 0, .int .i64 0] := ⟨_, rfl⟩
 rw [<- hS] at hW3
 have hq0 : S.heap[w.heap.size]? = some (.cells #[.int .i64 0, .string ⟨#[]⟩, .int .i64 2, .slice (some ⟨w2.heap.size, 0, none⟩) 1 1, .string ⟨#[]⟩, .int .i64 0, .int .i64 0, .int .i64 0] 43 (0, 0)) := by rw [hS, setL_blk _ _ _ _ Q0.out, set8]
 have hx0 : Ext w S := by rw [hS]; exact setL_below (Nat.le_refl _) _ _ _ HB.out
 have hsz : S.heap.size = w2.heap.size := by rw [hS]; exact setL_size _ _ _
 have hq : W2.heap[w.heap.size]? = some (.cells #[.int .i64 0, .string ⟨#[]⟩, .int .i64 2, .slice (some ⟨w2.heap.size, 0, none⟩) 1 1, .string ⟨#[]⟩, .int .i64 0, .int .i64 0, .int .i64 0] 43 (0, 0)) := by rw [hW3]; exact bA hq0
 have ha := bN S (.cells #[.string (mrS 2 whW), .string yW] 45 (0, 0))
 rw [hsz] at ha
 have ha2 : W2.heap[w2.heap.size]? = some (.cells #[.string (mrS 2 whW), .string yW] 45 (0, 0)) := by rw [hW3]; exact ha
 clear hW2 hS
 refine bodyPost_ret (v := .agg #[.int .i64 0, .string ⟨#[]⟩, .int .i64 2, .slice (some ⟨w2.heap.size, 0, none⟩) 1 1, .string ⟨#[]⟩, .int .i64 0, .int .i64 0, .int .i64 0]) (by simp [results, Tryz.f52, go_sem, bC hq 0, bC hq 1, bC hq 2, bC hq 3, bC hq 4, bC hq 5, bC hq 6, bC hq 7]) rfl ?_
 exact ⟨⟨_, _, rfl, atts_blk ha2 rfl rfl⟩, by rw [hW3]; exact hx0.trans (eA _ _)⟩
set_option maxRecDepth 100000 in
set_option maxHeartbeats 4000000 in
theorem fuNames (B : Nat) (v : Value) (t : List TrN) (w : World) (hv : TrIn B w v t) (hl : t.length <= 1000000) :
  Calls Tryz.prog 51 #[v] w (NamesP w t) := by
 obtain ⟨a, cap, rfl⟩ := hv.form
 have HV := hQq hv; clear hv
 have hmm := @run_makeMap Tryz.prog
 go_enter Tryz.func51, Tryz.ntmps51
 go_wp2
 go_loopw [9] (fun i w' => ∃ (wi : World) (k n : Nat), wi = w' /\ k <= t.length /\ i = .int .i64 k /\ MapAt kI wi w.heap.size n (nmF t k) /\ Ext w wi) (fun i _ => t.length - (intOf i).toNat)
 case atStart => exact ⟨_, 0, 0, rfl, Nat.zero_le _, rfl, by rw [nmF_zero]; exact mapAt_made _ _, eA _ _⟩
 case round =>
  obtain ⟨wi, k, n, rfl, hk, rfl, hm, hE⟩ := hrel
  have HM := hQq hm; have HE := hQq hE
  clear hm hE
  have hcl := fun c => countC_le t c k
  by_cases hlt : k < t.length
  ·obtain ⟨b, off, va, hex, hb, hva, c0, c1, c2, c3, c4, c5, c6, c7⟩ := (HV.out.ext okT HE.out).tr k hlt
   cases hex
   obtain ⟨a3, cap3, rfl⟩ := hva.form
   have HG := hQq (getT_at t k hlt)
   have HS := hQq (nmF_step t k)
   generalize t[k]'hlt = x at c0 c1 c2 c3 c4 c5 c6 c7 HG
   rw [HG.out] at HS
   have hc := hcl x.cl
   have j1 : ((k : Nat) : Int) < (t.length : Int) := by omega
   have j0 : (0 : Int) <= (k : Int) := by omega
   have y0 : (0 : Int) <= (countC t x.cl k : Int) := by omega
   have y1 : (countC t x.cl k : Int) <= 1000000 := by omega
   clear hva hcl
   go_wp2_with (first
    | (at_lookup; refine wl_look rfl (.tmp 13) (.tmp 15) 70 false rfl 3 3 keyInt mapT_count (.int .i64 0) zeroInt rfl (HM.out.ext (eA _ _)) x.cl rfl ?_; rw [if_neg Bool.false_ne_true, nmF_look])
    | (at_mapUpdate; refine wl_store rfl (.tmp 13) (.tmp 15) (.tmp 17) 70 rfl _ _ keyInt mapT_count rfl (by exact HM.out.ext (eA _ _)) x.cl (.int .i64 ((countC t x.cl k : Int) + 1)) rfl rfl ?_; intro w4 hm4 hg4; have HM4 := hQq hm4; have HG4 := hQq hg4; clear hm4 hg4)
    | fail)
   rw [<- HS.out] at HM4
   have HE4 : Hid (Ext w w4) := hQq (Below.grown (HE.out.trans (eA _ _)) HG4.out (by have := HE.out.size; simp; omega) (fun g hg => by cases hg; exact Nat.le_refl _))
   go_roundw
   case rel => exact ⟨_, k + 1, _, rfl, by omega, by go_num, HM4.out, HE4.out⟩
   case measure => first | (simp [intOf]; done) | (simp [intOf]; omega)
  ·obtain rfl : k = t.length := by omega
   clear hcl
   go_wp2_with (at_mapUpdate; refine wl_store rfl (.tmp 19) (.const (.int .i64 0)) (.const (.int .i64 1)) 70 rfl _ _ keyInt mapT_count rfl (by exact HM.out) 0 (.int .i64 1) rfl rfl ?_; intro w4 hm4 hg4; have HM4 := hQq hm4; have HG4 := hQq hg4; clear hm4 hg4)
   have HE4 : Hid (Ext w w4) := hQq (Below.grown HE.out HG4.out HE.out.size (fun g hg => by cases hg; exact Nat.le_refl _))
   go_ret
   exact ⟨⟨_, _, rfl, HM4.out, Nat.le_refl _⟩, HE4.out⟩
set_option maxRecDepth 100000 in
theorem law22long (v : Value) (l : List Attr) (w : World) (hv : aA w v l) : Calls Tryz.prog 65 #[v] w (BoolP (Few 400 l) w) := by
 obtain ⟨aa, cap, rfl, hcap, hc⟩ := hv
 have HC := hQq hc; clear hc
 by_cases h10 : 10 < l.length
 ·go_enter Tryz.func65, Tryz.ntmps65
  go_wp2
  go_ret
  exact ⟨_, rfl, (fun h => by cases h), rfl⟩
 go_enter Tryz.func65, Tryz.ntmps65
 go_wp2
 go_loop [3] (fun i => ∃ k : Nat, i = .int .i64 k /\ k <= l.length /\ ∀ j (_ : j < k) (hj : j < l.length), (l[j]'hj).1.size <= 400 /\ (l[j]'hj).2.size <= 400) (fun i => l.length - (intOf i).toNat)
 case atStart => exact ⟨0, rfl, Nat.zero_le _, fun j hj => absurd hj (by omega)⟩
 case round =>
  obtain ⟨k, rfl, hk, hs⟩ := hrel
  have HS := hQq hs; clear hs
  by_cases hlt : k < l.length
  case neg =>
   obtain rfl : k = l.length := by omega
   go_wp2
   go_ret
   exact ⟨_, rfl, fun _ => few_of rfl (by omega) HS.out, rfl⟩
  obtain ⟨b, off, hex, hb, c1, c2⟩ := HC.out k hlt
  subst hex
  have HG : Hid (∀ x, x = l[k]'hlt -> x.1.size <= 400 /\ x.2.size <= 400 -> ∀ j (_ : j < k + 1) (hj : j < l.length), (l[j]'hj).1.size <= 400 /\ (l[j]'hj).2.size <= 400) := hQq (fun x hx hs j hj hjl => by
   by_cases e : j = k
   ·subst e; rw [<- hx]; exact hs
   ·exact HS.out j (by omega) hjl)
  obtain ⟨x, hx⟩ : ∃ x, x = l[k]'hlt := ⟨_, rfl⟩
  rw [<- hx] at c1 c2
  have HX := hQq hx
  clear hx
  by_cases g1 : 400 < x.1.size
  ·go_wp2
   go_ret
   exact ⟨_, rfl, (fun h => by cases h), rfl⟩
  by_cases g2 : 400 < x.2.size
  ·go_wp2
   go_ret
   exact ⟨_, rfl, (fun h => by cases h), rfl⟩
  go_wp2
  go_round
  case rel => exact ⟨k + 1, by go_num, by omega, HG.out x HX.out ⟨by omega, by omega⟩⟩
  case measure => first | (simp [intOf]; done) | (simp [intOf]; omega)
set_option maxRecDepth 100000 in
theorem law22path (v : Value) (l : List ByteArray) (w : World) (hv : StrsAt w v l) : Calls Tryz.prog 44 #[v] w (BoolP (l.length <= 12 /\ ∀ s ∈ l, s.size <= 500) w) := by
 obtain ⟨aa, cap, rfl, hcap, hc⟩ := hv
 have HC := hQq hc; clear hc
 by_cases h10 : 12 < l.length
 ·go_enter Tryz.func44, Tryz.ntmps44
  go_wp2
  go_ret
  exact ⟨_, rfl, (fun h => by cases h), rfl⟩
 go_enter Tryz.func44, Tryz.ntmps44
 go_wp2
 go_loop [3] (fun i => ∃ k : Nat, i = .int .i64 k /\ k <= l.length /\ ∀ j (_ : j < k) (hj : j < l.length), (l[j]'hj).size <= 500) (fun i => l.length - (intOf i).toNat)
 case atStart => exact ⟨0, rfl, Nat.zero_le _, fun j hj => absurd hj (by omega)⟩
 case round =>
  obtain ⟨k, rfl, hk, hs⟩ := hrel
  have HS := hQq hs; clear hs
  by_cases hlt : k < l.length
  case neg =>
   obtain rfl : k = l.length := by omega
   go_wp2
   go_ret
   exact ⟨_, rfl, (fun _ => ⟨by omega, fun s hs => by
    obtain ⟨j, hj, rfl⟩ := List.getElem_of_mem hs
    exact HS.out j hj hj⟩), rfl⟩
  obtain ⟨b, off, hex, hb, c1⟩ := HC.out k hlt
  subst hex
  have HG : Hid (∀ x, x = l[k]'hlt -> x.size <= 500 -> ∀ j (_ : j < k + 1) (hj : j < l.length), (l[j]'hj).size <= 500) := hQq (fun x hx hs j hj hjl => by
   by_cases e : j = k
   ·subst e; rw [<- hx]; exact hs
   ·exact HS.out j (by omega) hjl)
  obtain ⟨x, hx⟩ : ∃ x, x = l[k]'hlt := ⟨_, rfl⟩
  rw [<- hx] at c1
  have HX := hQq hx
  have j1 : ((k : Nat) : Int) < (l.length : Int) := by omega
  have j0 : (0 : Int) <= (k : Int) := by omega
  clear hx
  by_cases g1 : 500 < x.size
  ·go_wp2
   go_ret
   exact ⟨_, rfl, (fun h => by cases h), rfl⟩
  go_wp2
  go_round
  case rel => exact ⟨k + 1, by go_num, by omega, HG.out x HX.out (by omega)⟩
  case measure => first | (simp [intOf]; done) | (simp [intOf]; omega)
def wfE (x : DeN) : Int := if x.wh = true then 0 else if x.fi = true then mwE 2 x.nd.ats (fuM false false [] x.ns) else 0
def wfX (x : DeN) : DeN :=
 if x.wh = true then { x with wh := false, nd := whN }
 else if x.fi = true then { x with nd := { x.nd with ats := mwL 2 x.nd.ats (fuM false false [] x.ns) } } else x
section
variable {x : DeN}
theorem wf_white (h : x.wh = true) : wfE x = 0 /\ wfX x = { x with wh := false, nd := whN } := ⟨if_pos h, if_pos h⟩
theorem wf_first (h : x.wh = false) (h3 : x.fi = true) : wfE x = mwE 2 x.nd.ats (fuM false false [] x.ns) /\ wfX x = { x with nd := { x.nd with ats := mwL 2 x.nd.ats (fuM false false [] x.ns) } } := by
 constructor
 ·unfold wfE; rw [if_neg (by simp [h]), if_pos h3]
 ·unfold wfX; rw [if_neg (by simp [h]), if_pos h3]
theorem wf_rest (h : x.wh = false) (h3 : x.fi = false) : wfE x = 0 /\ wfX x = x := by
 constructor
 ·unfold wfE; rw [if_neg (by simp [h]), if_neg (by simp [h3])]
 ·unfold wfX; rw [if_neg (by simp [h]), if_neg (by simp [h3])]
end
def rfE (h : Bool) (x : DeN) : Int :=
 if x.wh = true then 6 else if x.fi = false then 0 else if ptsE 2 x.nd.ats ≠ 0 then ptsE 2 x.nd.ats
 else if whtB x.nd = true then (if hidB x.nd x.ns = true /\ h = true then 0 else 6)
 else if (isM (ptsO 2 x.nd.ats) opqW || isM (ptsO 2 x.nd.ats) reW) = true then 6
 else bookE (ptsO 2 x.nd.ats) x.ns
def rfX (x : DeN) : DeN :=
 if x.fi = false then x else if whtB x.nd = true then { x with wh := true, nd := kdN 5 }
 else { x with nd := { x.nd with ats := ptsP 2 x.nd.ats } }
section
variable {o : Bool} {x : DeN}
theorem rf_bad (h : x.wh = true) : rfE o x = 6 := if_pos h
theorem rf_rest (h : x.wh = false) (h2 : x.fi = false) : rfE o x = 0 /\ rfX x = x := by
 constructor
 ·unfold rfE; rw [if_neg (by simp [h]), if_pos h2]
 ·unfold rfX; rw [if_pos h2]
theorem rf_pts (h : x.wh = false) (h2 : x.fi = true) (h3 : ptsE 2 x.nd.ats ≠ 0) : rfE o x = ptsE 2 x.nd.ats := by
 unfold rfE; rw [if_neg (by simp [h]), if_neg (by simp [h2]), if_pos h3]
theorem rf_hid (h : x.wh = false) (h2 : x.fi = true) (h3 : ptsE 2 x.nd.ats = 0) (h4 : whtB x.nd = true) : rfE o x = (if hidB x.nd x.ns = true /\ o = true then 0 else 6) /\ rfX x = { x with wh := true, nd := kdN 5 } := by
 constructor
 ·unfold rfE; rw [if_neg (by simp [h]), if_neg (by simp [h2]), if_neg (by simp [h3]), if_pos h4]
 ·unfold rfX; rw [if_neg (by simp [h2]), if_pos h4]
theorem rf_mark (h : x.wh = false) (h2 : x.fi = true) (h3 : ptsE 2 x.nd.ats = 0) (h4 : whtB x.nd = false) (h5 : (isM (ptsO 2 x.nd.ats) opqW || isM (ptsO 2 x.nd.ats) reW) = true) : rfE o x = 6 := by
 unfold rfE; rw [if_neg (by simp [h]), if_neg (by simp [h2]), if_neg (by simp [h3]), if_neg (by simp [h4]), if_pos h5]
theorem rf_book (h : x.wh = false) (h2 : x.fi = true) (h3 : ptsE 2 x.nd.ats = 0) (h4 : whtB x.nd = false) (h5 : (isM (ptsO 2 x.nd.ats) opqW || isM (ptsO 2 x.nd.ats) reW) = false) : rfE o x = bookE (ptsO 2 x.nd.ats) x.ns := by
 unfold rfE; rw [if_neg (by simp [h]), if_neg (by simp [h2]), if_neg (by simp [h3]), if_neg (by simp [h4]), if_neg (by simp [h5])]
theorem rf_node (h2 : x.fi = true) (h4 : whtB x.nd = false) : rfX x = { x with nd := { x.nd with ats := ptsP 2 x.nd.ats } } := by
 unfold rfX; rw [if_neg (by simp [h2]), if_neg (by simp [h4])]
end
def anyW (l : List DeN) : Bool := l.any (·.wh)
def fcT (d : DiN) : DiN × Int × Int :=
 if dirE d ≠ 0 then (zDiN, dirN d, dirE d)
 else if mwE 2 d.ats (fuM d.opq (anyW d.ens) d.red 1) ≠ 0 then (zDiN, -1, mwE 2 d.ats (fuM d.opq (anyW d.ens) d.red 1))
 else if (gnT wfE d.ens).2 ≠ 0 then (zDiN, (gnT wfE d.ens).1, (gnT wfE d.ens).2)
 else (⟨mwL 2 d.ats (fuM d.opq (anyW d.ens) d.red 1), false, [], d.ens.map wfX⟩, 0, 0)
def fcD (d : DiN) : DiN := (fcT d).1
def fcN (d : DiN) : Int := (fcT d).2.1
def fcE (d : DiN) : Int := (fcT d).2.2
theorem fc_of {d : DiN} {x : DiN} {y z : Int} (h : fcT d = (x, y, z)) : fcD d = x /\ fcN d = y /\ fcE d = z := by unfold fcD fcN fcE; rw [h]; exact ⟨rfl, rfl, rfl⟩
section
variable {d : DiN}
theorem fcT_dir (h : dirE d ≠ 0) : fcT d = (zDiN, dirN d, dirE d) := if_pos h
theorem fcT_ats (h : dirE d = 0) (h2 : mwE 2 d.ats (fuM d.opq (anyW d.ens) d.red 1) ≠ 0) : fcT d = (zDiN, -1, mwE 2 d.ats (fuM d.opq (anyW d.ens) d.red 1)) := by unfold fcT; rw [if_neg (by simp [h]), if_pos h2]
theorem fcT_ent (h : dirE d = 0) (h2 : mwE 2 d.ats (fuM d.opq (anyW d.ens) d.red 1) = 0) {n e : Int} (h3 : gnT wfE d.ens = (n, e)) (he : e ≠ 0) : fcT d = (zDiN, n, e) := by unfold fcT; rw [if_neg (by simp [h]), if_neg (by simp [h2]), h3, if_pos he]
theorem fcT_ok (h : dirE d = 0) (h2 : mwE 2 d.ats (fuM d.opq (anyW d.ens) d.red 1) = 0) (h3 : (gnT wfE d.ens).2 = 0) : fcT d = (⟨mwL 2 d.ats (fuM d.opq (anyW d.ens) d.red 1), false, [], d.ens.map wfX⟩, 0, 0) := by unfold fcT; rw [if_neg (by simp [h]), if_neg (by simp [h2]), if_neg (by simp [h3])]
theorem fc_zero (h : fcE d = 0) : dirE d = 0 /\ mwE 2 d.ats (fuM d.opq (anyW d.ens) d.red 1) = 0 /\ (∀ j, j < d.ens.length -> wfE (getE d.ens j) = 0) /\ fcT d = (⟨mwL 2 d.ats (fuM d.opq (anyW d.ens) d.red 1), false, [], d.ens.map wfX⟩, 0, 0) := by
 by_cases h1 : dirE d = 0
 case neg => rw [(fc_of (fcT_dir h1)).2.2] at h; exact absurd h h1
 by_cases h2 : mwE 2 d.ats (fuM d.opq (anyW d.ens) d.red 1) = 0
 case neg => rw [(fc_of (fcT_ats h1 h2)).2.2] at h; exact absurd h h2
 by_cases h3 : (gnT wfE d.ens).2 = 0
 case neg => rw [(fc_of (fcT_ent h1 h2 (n := (gnT wfE d.ens).1) (e := (gnT wfE d.ens).2) rfl h3)).2.2] at h; exact absurd h h3
 exact ⟨h1, h2, (gnT_zero h3).2, fcT_ok h1 h2 h3⟩
end
def frT (d : DiN) : DiN × Int × Int :=
 if dirE d ≠ 0 then (zDiN, dirN d, dirE d)
 else if d.opq = true \/ 0 < d.red.length then (zDiN, -1, 6)
 else if ptsE 2 d.ats ≠ 0 then (zDiN, -1, ptsE 2 d.ats)
 else if isM (ptsO 2 d.ats) whW = true then (zDiN, -1, 6)
 else if isM (ptsO 2 d.ats) nlW = true then (zDiN, -1, 18)
 else if ftE (ptsO 2 d.ats) ≠ 0 \/ (ftO (ptsO 2 d.ats) = true /\ 0 < (ftR (ptsO 2 d.ats)).length) then (zDiN, -1, 6)
 else if (gnT (rfE (ftH (ptsO 2 d.ats))) d.ens).2 ≠ 0 then (zDiN, (gnT (rfE (ftH (ptsO 2 d.ats))) d.ens).1, (gnT (rfE (ftH (ptsO 2 d.ats))) d.ens).2)
 else if ftH (ptsO 2 d.ats) = true /\ anyW (d.ens.map rfX) = false then (zDiN, -1, 6)
 else (⟨ptsP 2 d.ats, ftO (ptsO 2 d.ats), ftR (ptsO 2 d.ats), d.ens.map rfX⟩, 0, 0)
def frD (d : DiN) : DiN := (frT d).1
def frN (d : DiN) : Int := (frT d).2.1
def frE (d : DiN) : Int := (frT d).2.2
theorem fr_of {d : DiN} {x : DiN} {y z : Int} (h : frT d = (x, y, z)) : frD d = x /\ frN d = y /\ frE d = z := by unfold frD frN frE; rw [h]; exact ⟨rfl, rfl, rfl⟩
section
variable {d : DiN} (h : dirE d = 0)
include h
theorem frT_mark (h1 : d.opq = true \/ 0 < d.red.length) : frT d = (zDiN, -1, 6) := by unfold frT; rw [if_neg (by simp [h]), if_pos h1]
variable (h1 : ¬ (d.opq = true \/ 0 < d.red.length))
include h1
theorem frT_pts (h2 : ptsE 2 d.ats ≠ 0) : frT d = (zDiN, -1, ptsE 2 d.ats) := by unfold frT; rw [if_neg (by simp [h]), if_neg h1, if_pos h2]
variable (h2 : ptsE 2 d.ats = 0)
include h2
theorem frT_wh (h3 : isM (ptsO 2 d.ats) whW = true) : frT d = (zDiN, -1, 6) := by unfold frT; rw [if_neg (by simp [h]), if_neg h1, if_neg (by simp [h2]), if_pos h3]
variable (h3 : isM (ptsO 2 d.ats) whW = false)
include h3
theorem frT_link (h4 : isM (ptsO 2 d.ats) nlW = true) : frT d = (zDiN, -1, 18) := by unfold frT; rw [if_neg (by simp [h]), if_neg h1, if_neg (by simp [h2]), if_neg (by simp [h3]), if_pos h4]
variable (h4 : isM (ptsO 2 d.ats) nlW = false)
include h4
theorem frT_turn (h5 : ftE (ptsO 2 d.ats) ≠ 0 \/ (ftO (ptsO 2 d.ats) = true /\ 0 < (ftR (ptsO 2 d.ats)).length)) : frT d = (zDiN, -1, 6) := by
 unfold frT; rw [if_neg (by simp [h]), if_neg h1, if_neg (by simp [h2]), if_neg (by simp [h3]), if_neg (by simp [h4]), if_pos h5]
variable (h5 : ¬ (ftE (ptsO 2 d.ats) ≠ 0 \/ (ftO (ptsO 2 d.ats) = true /\ 0 < (ftR (ptsO 2 d.ats)).length)))
include h5
theorem frT_ent {n e : Int} (h6 : gnT (rfE (ftH (ptsO 2 d.ats))) d.ens = (n, e)) (he : e ≠ 0) : frT d = (zDiN, n, e) := by
 unfold frT; rw [if_neg (by simp [h]), if_neg h1, if_neg (by simp [h2]), if_neg (by simp [h3]), if_neg (by simp [h4]), if_neg h5, h6, if_pos he]
variable (h6 : (gnT (rfE (ftH (ptsO 2 d.ats))) d.ens).2 = 0)
include h6
theorem frT_none (h7 : ftH (ptsO 2 d.ats) = true /\ anyW (d.ens.map rfX) = false) : frT d = (zDiN, -1, 6) := by
 unfold frT; rw [if_neg (by simp [h]), if_neg h1, if_neg (by simp [h2]), if_neg (by simp [h3]), if_neg (by simp [h4]), if_neg h5, if_neg (by simp [h6]), if_pos h7]
theorem frT_ok (h7 : ¬ (ftH (ptsO 2 d.ats) = true /\ anyW (d.ens.map rfX) = false)) : frT d = (⟨ptsP 2 d.ats, ftO (ptsO 2 d.ats), ftR (ptsO 2 d.ats), d.ens.map rfX⟩, 0, 0) := by
 unfold frT; rw [if_neg (by simp [h]), if_neg h1, if_neg (by simp [h2]), if_neg (by simp [h3]), if_neg (by simp [h4]), if_neg h5, if_neg (by simp [h6]), if_neg h7]
end
theorem frT_dir {d : DiN} (h : dirE d ≠ 0) : frT d = (zDiN, dirN d, dirE d) := if_pos h
theorem mwT_sets {d : Int} {l ms ns : List Attr} (h : setsM d (atsL d l) ms = setsM d (atsL d l) ns) : mwT d l ms = mwT d l ns := by unfold mwT; rw [h]
theorem fuM_dir (l : List Attr) (o h : Bool) (r : List ByteArray) : mwT 2 l [(opqW, hidS o h), (reW, redS r)] = mwT 2 l (fuM o h r 1) := by
 refine mwT_sets ?_
 show setM 2 (setM 2 (atsL 2 l) (opqW, hidS o h)) (reW, redS r) = setM 2 (setM 2 (setM 2 (atsL 2 l) (opqW, hidS o h)) (reW, redS r)) (nlW, linkS 1)
 exact (setM_no (m := (nlW, linkS 1)) ((link_size 1).2 (by omega))).symm
theorem fuM_ent (l : List Attr) (n : Int) : mwT 2 l [(nlW, linkS n)] = mwT 2 l (fuM false false [] n) := by
 refine mwT_sets ?_
 show setM 2 (atsL 2 l) (nlW, linkS n) = setM 2 (setM 2 (setM 2 (atsL 2 l) (opqW, hidS false false)) (reW, redS [])) (nlW, linkS n)
 rw [setM_no (m := (opqW, hidS false false)) (by decide), setM_no (m := (reW, redS [])) (by decide)]
theorem fuM_two (o h : Bool) (r : List ByteArray) : MarksOk 2 [(opqW, hidS o h), (reW, redS r)] :=
 ⟨by
  have := (fuM_ok o h r 1).1
  unfold fuM at this
  exact (List.pairwise_append.1 (show ([(opqW, hidS o h), (reW, redS r)] ++ [(nlW, linkS 1)]).Pairwise _ from this)).1, fun m hm => (fuM_ok o h r 1).2 m (by
  unfold fuM
  simp only [List.mem_cons, List.not_mem_nil, or_false] at hm ⊢
  rcases hm with h | h
  ·exact .inl h
  ·exact .inr (.inl h))⟩
theorem fuM_one (n : Int) : MarksOk 2 [(nlW, linkS n)] :=
 ⟨List.pairwise_singleton _ _, fun m hm => (fuM_ok false false [] n).2 m (by
  unfold fuM
  simp only [List.mem_cons, List.not_mem_nil, or_false] at hm ⊢
  exact .inr (.inr hm))⟩
def enwB (l : List DeN) (k : Nat) : Bool := (getE l k).wh
theorem enwB_none {l : List DeN} (h : ∀ j, j < l.length -> enwB l j = false) : anyW l = false := by
 unfold anyW
 rw [List.any_eq_false]
 intro x hx
 obtain ⟨j, hj, rfl⟩ := List.getElem_of_mem hx
 have := h j hj
 unfold enwB at this
 rw [getE_at l j hj] at this
 rw [this]; decide
theorem enwB_some {l : List DeN} {k : Nat} (hk : k < l.length) (h : enwB l k = true) : anyW l = true := by
 unfold anyW
 rw [List.any_eq_true]
 refine ⟨l[k]'hk, List.getElem_mem hk, ?_⟩
 unfold enwB at h
 rwa [getE_at l k hk] at h
theorem fuDir1 (w : World) (x : DeN) (a : Option Addr) (n c : Nat) :
  RetB Tryz.prog 80 #[.agg (deC x (.slice a n c)).toArray] w (.bool x.wh) := by
 unfold RetB deC
 go_enter Tryz.func80, Tryz.ntmps80
 go_wp2
 go_ret
 first
  | exact ⟨rfl, eA _ _⟩
  | exact ⟨rfl, bR _ _⟩
set_option maxRecDepth 100000 in
set_option maxHeartbeats 4000000 in
theorem fuIndexE (B : Nat) (w : World) (v : Value) (l : List DeN) (hv : EnIn B w v l) (hl : l.length <= 1000000) :
  RetB Tryz.prog 141 #[v, .func (.func 80) #[] #[]] w (.int .i64 (idxE (enwB l) l.length)) := by
 unfold RetB
 obtain ⟨aa, cap, rfl⟩ := hv.form
 have HV := hQq hv
 clear hv
 have he : ∀ args w, (callFunc 80 args).run Tryz.prog w = .ok (.enter 80 args) w := enters_of Tryz.func80 (by kernel_rfl) rfl
 go_enter Tryz.func141, Tryz.ntmps141
 go_wp2
 go_loopw [5, 8] (fun _ i w' => ∃ (wi : World) (k : Nat), wi = w' /\ k <= l.length /\ i = .int .i64 k /\ (∀ j, j < k -> enwB l j = false) /\ Ext w w') (fun _ i _ => l.length - (intOf i).toNat)
 case atStart => exact ⟨_, 0, rfl, Nat.zero_le _, rfl, fun j hj => absurd hj (by omega), bR _ _⟩
 case round =>
  obtain ⟨wi, k, rfl, hk, rfl, hp, hb⟩ := hrel
  have HP := hQq hp; clear hp
  have HB := hQq hb; clear hb
  by_cases hlt : k < l.length
  case neg =>
   obtain rfl : k = l.length := by omega
   have HR := hQq (idxE_none HP.out)
   go_wp2
   go_ret
   exact ⟨by rw [HR.out]; rfl, HB.out⟩
  obtain ⟨b, off, va, hex, hbx, hva, c0, c1, c2, c3, c4, c5, c6, c7, c8, c9, c10, c11⟩ := (HV.out.ext okE HB.out).en k hlt
  cases hex
  obtain ⟨a6, cap6, rfl⟩ := hva.form
  have HKB : Hid (enwB l k = (l[k]'hlt).wh) := hQq (by unfold enwB; rw [getE_at l k hlt])
  generalize l[k]'hlt = x at c0 c1 c2 c3 c4 c5 c6 c7 c8 c9 c10 c11 HKB hva
  clear hva
  have j1 : ((k : Nat) : Int) < (l.length : Int) := by omega
  have j0 : (0 : Int) <= (k : Int) := by omega
  have HG := hQq (fuDir1 wi x a6 x.nd.ats.length cap6)
  unfold RetB deC at HG
  have HLT := hQq hlt
  obtain ⟨xw, hxw⟩ : ∃ xw, x.wh = xw := ⟨_, rfl⟩
  rw [hxw] at HG HKB c9
  clear hxw
  cases xw
  all_goals
   go_wp2_with (refine HG.out.mono ?_; rintro e w1 ⟨rfl, hb1⟩; replace HB := hQq (Ext.trans HB.out hb1); clear hb1)
  ·have HN : Hid (∀ j, j < k + 1 -> enwB l j = false) := by
    intro j hj
    by_cases e : j = k
    ·subst e; exact HKB.out
    ·exact HP.out j (by omega)
   go_roundw
   case rel => exact ⟨_, k + 1, rfl, by omega, by go_num, HN.out, HB.out⟩
   case measure => first | (simp [intOf]; done) | (simp [intOf]; omega)
  ·have HR := hQq (idxE_some HLT.out HP.out HKB.out)
   go_ret
   exact ⟨by rw [HR.out]; rfl, HB.out⟩
theorem fuHidesD (B : Nat) (w : World) (v : Value) (l : List DeN) (hv : EnIn B w v l) (hl : l.length <= 1000000) :
  RetB Tryz.prog 79 #[v, .func (.func 80) #[] #[]] w (.bool (anyW l)) := by
 unfold RetB
 have HV := hQq hv
 obtain ⟨aa, cap, rfl⟩ := hv.form
 clear hv
 rcases find_cases (enwB l) l.length with h | ⟨i, hi, h2, h3⟩
 ·have HI := hQq (idxE_none h)
  have HA := hQq (enwB_none h)
  clear h
  go_enter Tryz.func79, Tryz.ntmps79
  go_wp2_with (refine (fuIndexE B _ _ l HV.out hl).mono ?_; rintro e w1 ⟨rfl, hb1⟩; rw [HI.out]; have HB := hQq hb1; clear hb1)
  go_ret
  exact ⟨by rw [HA.out]; rfl, HB.out⟩
 ·have HI := hQq (idxE_some hi h2 h3)
  have HA := hQq (enwB_some hi h3)
  have j0 : (0 : Int) <= (i : Int) := by omega
  clear h2 h3
  go_enter Tryz.func79, Tryz.ntmps79
  go_wp2_with (refine (fuIndexE B _ _ l HV.out hl).mono ?_; rintro e w1 ⟨rfl, hb1⟩; rw [HI.out]; have HB := hQq hb1; clear hb1)
  go_ret
  exact ⟨by rw [HA.out]; rfl, HB.out⟩
end Go.Proofs.YtimpejaaeinplaaGreatDoor
