/- GenP OvP OvQ OvA OvR OvB OvXF OvXO OvW OvE -/
import Derived.Test.YtimpejaaeinplaaGreatDoorJI5
import Derived.Test.YtimpejaaeinplaaGreatDoorJaMrkP
import Derived.Test.YtimpejaaeinplaaGreatDoorJdMrkP
import Derived.Test.YtimpejaaeinplaaGreatDoorJaParP
import Derived.Test.YtimpejaaeinplaaGreatDoorJbOvP
import Derived.Test.YtimpejaaeinplaaGreatDoorJaBsdY
namespace Go.Proofs.YtimpejaaeinplaaGreatDoor
open Go.RowKit
def optS (o : Bool) : ByteArray := if o = true then yW else ⟨#[]⟩
theorem zeroB_iff {x : TrN} : zeroB x = true ↔ x.kd = 4 /\ x.ma = 0 /\ x.mi = 0 := by unfold zeroB; simp [and_assoc]
theorem kind_char {x : TrN} (h : kindE x = 0) (hk : x.kd = 4) : x.dat = ⟨#[]⟩ := by
 unfold kindE at h
 rw [if_neg (by omega), if_neg (by omega), if_neg (by omega), if_neg (by omega), if_pos hk] at h
 split at h
 ·rename_i hh; exact bytes_nil hh
 ·cases h
/-! The marks. -/
def ovM (o : Bool) (r : List ByteArray) (n : Int) : List Attr := [(opqW, optS o), (reW, redS r), (nlW, linkS n)]
theorem ovM_ok (o : Bool) (r : List ByteArray) (n : Int) : MarksOk 1 (ovM o r n) := by
 refine ⟨?_, fun m hm => ?_⟩
 ·unfold Dist ovM
  simp only [List.pairwise_cons, List.mem_cons, List.not_mem_nil, or_false, forall_eq_or_imp, forall_eq, false_implies, implies_true, List.Pairwise.nil, and_true]
  exact ⟨⟨ne_or, ne_on⟩, ne_rn⟩
 ·unfold ovM at hm
  simp only [List.mem_cons, List.not_mem_nil, or_false] at hm
  rcases hm with rfl | rfl | rfl
  ·exact mkOk1o
  ·exact mkOk1r
  ·exact mkOk1n
theorem mark1 {k : ByteArray} (h : mrE 1 k = 0) : L k = L opqW \/ L k = L reW \/ L k = L nlW := by
 have hm : (mkW 1).contains (L k) = true := by
  unfold mrE at h
  rw [if_pos (by decide)] at h
  by_cases e : isMk (1 : Int).toNat k = true
  ·exact e
  ·rw [if_neg e] at h; cases h
 rw [mkW1] at hm
 simp only [List.contains_cons, List.contains_nil, Bool.or_false, Bool.or_eq_true, beq_iff_eq] at hm
 rcases hm with e | e | e
 ·exact .inr (.inr e)
 ·exact .inl e
 ·exact .inr (.inl e)
theorem ov_get (o : Bool) (r : List ByteArray) (n : Int) :
  getM (fulM (ovM o r n)) opqW = (if (optS o).size = 0 then none else some (optS o)) /\ getM (fulM (ovM o r n)) reW = (if (redS r).size = 0 then none else some (redS r)) /\ getM (fulM (ovM o r n)) nlW = (if (linkS n).size = 0 then none else some (linkS n)) := by
 have hd := (ovM_ok o r n).1
 exact ⟨getM_full hd (m := (opqW, optS o)) (by simp [ovM]), getM_full hd (m := (reW, redS r)) (by simp [ovM]), getM_full hd (m := (nlW, linkS n)) (by simp [ovM])⟩
theorem opt_size (o : Bool) : (optS o).size = 0 ↔ o = false := by cases o <;> decide
/-! Encode. -/
def oeE (b : List BrN) (i : Nat) : Int :=
 if (getB b i).kd = 5 then 0 else if zeroB (getB b i).toTrN = true then 16 else mwE 1 (getB b i).ats (ovM (getB b i).opq (getB b i).red (manyT (plT b) (getB b i).cl))
def oeX (b : List BrN) (i : Nat) : TrN :=
 if (getB b i).kd = 5 then ⟨(getB b i).dep, (getB b i).nm, 4, [], ⟨#[]⟩, 0, 0, 0⟩ else { (getB b i).toTrN with ats := mwL 1 (getB b i).ats (ovM (getB b i).opq (getB b i).red (manyT (plT b) (getB b i).cl)) }
def oeT (b : List BrN) : List TrN × Int × Int := genT b (oeE b) (oeX b)
def oeL (b : List BrN) : List TrN := (oeT b).1
def oeN (b : List BrN) : Int := (oeT b).2.1
def oeF (b : List BrN) : Int := (oeT b).2.2
theorem oe_of {b : List BrN} {x : List TrN} {y z : Int} (h : oeT b = (x, y, z)) : oeL b = x /\ oeN b = y /\ oeF b = z := by unfold oeL oeN oeF; rw [h]; exact ⟨rfl, rfl, rfl⟩
section
variable {b : List BrN} {i : Nat} {x : BrN} (hg : getB b i = x)
include hg
theorem oe_white (h : x.kd = 5) : oeE b i = 0 /\ oeX b i = ⟨x.dep, x.nm, 4, [], ⟨#[]⟩, 0, 0, 0⟩ := by subst hg; exact ⟨if_pos h, if_pos h⟩
theorem oe_dev (h : x.kd ≠ 5) (hz : zeroB x.toTrN = true) : oeE b i = 16 := by subst hg; unfold oeE; rw [if_neg h, if_pos hz]
theorem oe_node (h : x.kd ≠ 5) (hz : zeroB x.toTrN = false) : oeE b i = mwE 1 x.ats (ovM x.opq x.red (manyT (plT b) x.cl)) /\ oeX b i = { x.toTrN with ats := mwL 1 x.ats (ovM x.opq x.red (manyT (plT b) x.cl)) } := by
 subst hg; exact ⟨by unfold oeE; rw [if_neg h, if_neg (by simp [hz])], if_neg h⟩
end
theorem turn_of {own : List Attr} {x : Bool} {y : List ByteArray} {z : Int} (h : turnT own = (x, y, z)) : turnO own = x /\ turnR own = y /\ turnE own = z := by unfold turnO turnR turnE; rw [h]; exact ⟨rfl, rfl, rfl⟩
theorem turn_opq {own : List Attr} (h : isM own opqW = true) (h2 : valM own opqW ≠ yW) : turnT own = (false, [], 6) := if_pos ⟨h, h2⟩
theorem turn_bad {own : List Attr} (h : ¬ (isM own opqW = true /\ valM own opqW ≠ yW)) (h2 : isM own reW = true) (h3 : parE (valM own reW) ≠ 0 \/ parL (valM own reW) = []) : turnT own = (false, [], 6) := by
 unfold turnT; rw [if_neg h, if_pos h2, if_pos h3]
theorem turn_led {own : List Attr} (h : ¬ (isM own opqW = true /\ valM own opqW ≠ yW)) (h2 : isM own reW = true) (h3 : ¬ (parE (valM own reW) ≠ 0 \/ parL (valM own reW) = [])) : turnT own = (isM own opqW, parL (valM own reW), 0) := by
 unfold turnT; rw [if_neg h, if_pos h2, if_neg h3]
theorem turn_no {own : List Attr} (h : ¬ (isM own opqW = true /\ valM own opqW ≠ yW)) (h2 : isM own reW = false) : turnT own = (isM own opqW, [], 0) := by
 unfold turnT; rw [if_neg h, if_neg (by simp [h2])]
def odE (t : List TrN) (i : Nat) : Int :=
 if zeroB (getT t i) = true then (if (getT t i).ats ≠ [] \/ (getT t i).cl ≠ 0 then 6 else 0)
 else if (getT t i).kd = 5 then 6
 else if ptsE 1 (getT t i).ats ≠ 0 then ptsE 1 (getT t i).ats
 else if turnE (ptsO 1 (getT t i).ats) ≠ 0 \/ ((isM (ptsO 1 (getT t i).ats) opqW || isM (ptsO 1 (getT t i).ats) reW) = true /\ (getT t i).kd ≠ 1) \/ (i = 0 /\ isM (ptsO 1 (getT t i).ats) reW = true) then 6
 else bookE (ptsO 1 (getT t i).ats) (manyT t (getT t i).cl)
def odX (t : List TrN) (i : Nat) : BrN :=
 if zeroB (getT t i) = true then ⟨⟨(getT t i).dep, (getT t i).nm, 5, [], ⟨#[]⟩, 0, 0, 0⟩, false, []⟩
 else ⟨{ getT t i with ats := ptsP 1 (getT t i).ats }, turnO (ptsO 1 (getT t i).ats), turnR (ptsO 1 (getT t i).ats)⟩
section
variable {t : List TrN} {i : Nat} {x : TrN} (hg : getT t i = x)
include hg
theorem od_zero_ok (h : zeroB x = true) (h2 : ¬ (x.ats ≠ [] \/ x.cl ≠ 0)) : odE t i = 0 /\ odX t i = ⟨⟨x.dep, x.nm, 5, [], ⟨#[]⟩, 0, 0, 0⟩, false, []⟩ := by
 subst hg; exact ⟨by unfold odE; rw [if_pos h, if_neg h2], if_pos h⟩
theorem od_book (h : zeroB x = false) (h2 : x.kd ≠ 5) (h3 : ptsE 1 x.ats = 0) (h4 : ¬ (turnE (ptsO 1 x.ats) ≠ 0 \/ ((isM (ptsO 1 x.ats) opqW || isM (ptsO 1 x.ats) reW) = true /\ x.kd ≠ 1) \/ (i = 0 /\ isM (ptsO 1 x.ats) reW = true))) : odE t i = bookE (ptsO 1 x.ats) (manyT t x.cl) := by
 subst hg; unfold odE; rw [if_neg (by simp [h]), if_neg h2, if_neg (by simp [h3]), if_neg h4]
theorem od_node (h : zeroB x = false) : odX t i = ⟨{ x with ats := ptsP 1 x.ats }, turnO (ptsO 1 x.ats), turnR (ptsO 1 x.ats)⟩ := by
 subst hg; exact if_neg (by simp [h])
end
def odT (t : List TrN) : List BrN × Int × Int := genD t (odE t) (odX t)
def odL (t : List TrN) : List BrN := (odT t).1
def odN (t : List TrN) : Int := (odT t).2.1
def odF (t : List TrN) : Int := (odT t).2.2
theorem od_of {t : List TrN} {x : List BrN} {y z : Int} (h : odT t = (x, y, z)) : odL t = x /\ odN t = y /\ odF t = z := by unfold odL odN odF; rw [h]; exact ⟨rfl, rfl, rfl⟩
theorem oe_zero {b : List BrN} {i : Nat} (h : oeE b i = 0) (hk : (getB b i).kd ≠ 5) : zeroB (getB b i).toTrN = false /\ mwE 1 (getB b i).ats (ovM (getB b i).opq (getB b i).red (manyT (plT b) (getB b i).cl)) = 0 := by
 cases hz : zeroB (getB b i).toTrN with
 | true => rw [oe_dev rfl hk hz] at h; cases h
 | false => exact ⟨rfl, by rw [(oe_node rfl hk hz).1] at h; exact h⟩
theorem oe_same (b : List BrN) (i : Nat) (h5 : (getB b i).kd = 5 -> (getB b i).cl = 0) : (oeX b i).dep = (getB b i).dep /\ (oeX b i).nm = (getB b i).nm /\ (oeX b i).cl = (getB b i).cl /\ ((oeX b i).kd = 1 ↔ (getB b i).kd = 1) := by
 by_cases hk : (getB b i).kd = 5
 ·rw [(oe_white rfl hk).2]
  refine ⟨rfl, rfl, (h5 hk).symm, ?_⟩
  show (4 : Int) = 1 ↔ _
  omega
 ·have e : oeX b i = { (getB b i).toTrN with ats := mwL 1 (getB b i).ats (ovM (getB b i).opq (getB b i).red (manyT (plT b) (getB b i).cl)) } := if_neg hk
  rw [e]; exact ⟨rfl, rfl, rfl, Iff.rfl⟩
theorem oe_cls {b : List BrN} (h5 : ∀ i, i < b.length -> (getB b i).kd = 5 -> (getB b i).cl = 0) (i : Nat) : (getT ((List.range b.length).map (oeX b)) i).cl = (getT (plT b) i).cl := by
 by_cases hi : i < b.length
 ·rw [getT_range hi, getT_plT b i hi]; exact (oe_same b i (h5 i hi)).2.2.1
 ·have e1 : getT (plT b) i = zTrN := by unfold getT; rw [List.getD, List.getElem?_eq_none (by rw [plT_len]; omega)]; rfl
  have e2 : getT ((List.range b.length).map (oeX b)) i = zTrN := by unfold getT; rw [List.getD, List.getElem?_eq_none (by simp; omega)]; rfl
  rw [e1, e2]
theorem turn_ov {own : List Attr} {o : Bool} {r : List ByteArray} (h1 : getM own opqW = if (optS o).size = 0 then none else some (optS o)) (h2 : getM own reW = if (redS r).size = 0 then none else some (redS r)) (hr : 0 < r.length -> pathE r = 0) :
  turnT own = (o, r, 0) /\ isM own opqW = o /\ isM own reW = decide (0 < r.length) := by
 obtain ⟨a1, a2⟩ := isM_get h1
 obtain ⟨b1, b2⟩ := isM_get h2
 have e1 : isM own opqW = o := by
  rw [a1]
  have := opt_size o
  cases o
  ·rw [this.2 rfl]; rfl
  ·exact decide_eq_true (fun e => by have := this.1 e; cases this)
 have e2 : isM own reW = decide (0 < r.length) := by
  rw [b1]
  have h := red_size hr
  by_cases e : 0 < r.length
  ·rw [decide_eq_true e]
   exact decide_eq_true (fun x => by rw [h.1 x] at e; exact absurd e (by decide))
  ·rw [decide_eq_false e]
   have e0 : r = [] := List.length_eq_zero_iff.1 (by omega)
   exact decide_eq_false (fun x => x (h.2 e0))
 have hq : ¬ (isM own opqW = true /\ valM own opqW ≠ yW) := by
  rintro ⟨x, y⟩
  rw [e1] at x
  rw [a2, x] at y
  exact y rfl
 refine ⟨?_, e1, e2⟩
 by_cases e : 0 < r.length
 ·have hv : valM own reW = textP r := by rw [b2]; unfold redS prS; rw [if_pos e, if_pos (hr e)]
  have hp := par_of (text_par (hr e) (fun x => by rw [x] at e; exact absurd e (by decide)))
  rw [turn_led hq (by rw [e2]; exact decide_eq_true e) (by
   rw [hv, hp.1, hp.2]
   rintro (x | x)
   ·exact x rfl
   ·rw [x] at e; exact absurd e (by decide)), e1, hv, hp.1]
 ·rw [turn_no hq (by rw [e2]; exact decide_eq_false e), e1, List.length_eq_zero_iff.1 (by omega : r.length = 0)]
theorem oe_back {b : List BrN} (h : oeF b = 0) : treeE (oeL b) = 0 /\ odT (oeL b) = (b, 0, 0) := by
 obtain ⟨h1, h2, h3⟩ := gen_zero (b := b) (E := oeE b) (X := oeX b) h
 have h3 : oeT b = ((List.range b.length).map (oeX b), 0, 0) := h3
 obtain ⟨t0, _, hmk⟩ := brEr_zero h1
 obtain ⟨z1, z2, z3, _, _⟩ := treeE_zero t0
 have hpl := fun j (hj : j < b.length) => getT_plT b j hj
 have hlen := plT_len b
 have hkd : ∀ j, j < b.length -> kindE (getB b j).toTrN = 0 /\ chkE (getB b j).ats = 0 := fun j hj => by
  obtain ⟨_, _, n3, n4, _⟩ := node_parts (z3 j (by omega))
  rw [hpl j hj] at n3 n4
  exact ⟨n3, n4⟩
 have h5 : ∀ j, j < b.length -> (getB b j).kd = 5 -> (getB b j).cl = 0 := fun j hj hk => (kind_white (hkd j hj).1 hk).2.2.2.2
 rw [(oe_of h3).1]
 obtain ⟨u, hu⟩ : ∃ u, u = (List.range b.length).map (oeX b) := ⟨_, rfl⟩
 have hul : u.length = b.length := by rw [hu]; simp
 have hug : ∀ i, i < b.length -> getT u i = oeX b i := fun i hi => by rw [hu]; exact getT_range hi
 have hcl : ∀ i, (getT u i).cl = (getT (plT b) i).cl := fun i => by rw [hu]; exact oe_cls h5 i
 rw [<- hu]
 have ht : treeE u = 0 := by
  refine tree_keep (t := plT b) (by omega) (fun i hi => ?_) (fun i hi => ?_) (fun i hi => ?_) (fun i k hi hk hp he hlk => ?_) t0
  ·rw [hlen] at hi
   rw [hug i hi, hpl i hi]
   exact oe_same b i (h5 i hi)
  ·rw [hlen] at hi
   rw [hug i hi]
   by_cases hk : (getB b i).kd = 5
   ·rw [(oe_white rfl hk).2]; unfold kindE; simp
   ·obtain ⟨hz, _⟩ := oe_zero (h2 i hi) hk
    rw [(oe_node rfl hk hz).2]
    exact kind_ats (hkd i hi).1 hk
  ·rw [hlen] at hi
   rw [hug i hi]
   by_cases hk : (getB b i).kd = 5
   ·rw [(oe_white rfl hk).2]; show chkE [] = 0; decide
   ·obtain ⟨hz, hw⟩ := oe_zero (h2 i hi) hk
    rw [(oe_node rfl hk hz).2]
    exact mw_chk hw
  ·rw [hlen] at hi hk
   rw [hpl i hi, hpl k hk] at hlk
   rw [hpl i hi] at hp he
   rw [hpl k hk] at he
   obtain ⟨k1, k2, k3, k4, k5⟩ := like_iff.1 hlk
   have hp : 0 < (getB b i).cl := hp
   have he : (getB b k).cl = (getB b i).cl := he
   have i5 : (getB b i).kd ≠ 5 := fun e => by have := h5 i hi e; omega
   have i1 : (getB b i).kd ≠ 1 := fun e => by have := kind_dir (hkd i hi).1 e; have : (getB b i).cl = 0 := this; omega
   have k1 : (getB b k).kd = (getB b i).kd := k1
   have k5' : (getB b k).kd ≠ 5 := by rw [k1]; exact i5
   have k1' : (getB b k).kd ≠ 1 := by rw [k1]; exact i1
   obtain ⟨zi, _⟩ := oe_zero (h2 i hi) i5
   obtain ⟨zk, _⟩ := oe_zero (h2 k hk) k5'
   obtain ⟨oi, ri⟩ := marks_bare (hmk i hi) i1
   obtain ⟨ok, rk⟩ := marks_bare (hmk k hk) k1'
   rw [hug i hi, hug k hk, (oe_node rfl i5 zi).2, (oe_node rfl k5' zk).2, oi, ok, ri, rk, he]
   refine like_iff.2 ⟨k1, ?_, k3, k4, k5⟩
   show mwL 1 (getB b k).ats _ = mwL 1 (getB b i).ats _
   have k2 : (getB b k).ats = (getB b i).ats := k2
   rw [k2]
 refine ⟨ht, ?_⟩
 have hmany : ∀ c, manyT u c = manyT (plT b) c := many_same (by omega) hcl
 have hnode : ∀ i, i < b.length -> odE u i = 0 /\ odX u i = getB b i := fun i hi => by
  by_cases hk : (getB b i).kd = 5
  ·have hg := (hug i hi).trans (oe_white rfl hk).2
   obtain ⟨e1, e2⟩ := od_zero_ok hg (by rfl) (by simp)
   refine ⟨e1, ?_⟩
   rw [e2]
   obtain ⟨w1, w2, w3, w4, w5⟩ := kind_white (hkd i hi).1 hk
   obtain ⟨m1, m2⟩ := marks_bare (hmk i hi) (by omega)
   have w2 := bytes_nil w2
   revert hk w1 w2 w3 w4 w5 m1 m2
   generalize getB b i = x
   intro hk w1 w2 w3 w4 w5 m1 m2
   obtain ⟨⟨dep, nm, kd, ats, dat, ma, mi, cl⟩, opq, red⟩ := x
   simp only at hk w1 w2 w3 w4 w5 m1 m2
   subst hk w1 w2 w3 w4 w5 m1 m2
   rfl
  ·obtain ⟨hz, hw⟩ := oe_zero (h2 i hi) hk
   have hg := (hug i hi).trans (oe_node rfl hk hz).2
   obtain ⟨p1, p2, p3⟩ := pts_mw hw (ovM_ok _ _ _)
   have hgm := fun k => getM_perm (ovM_ok (getB b i).opq (getB b i).red (manyT (plT b) (getB b i).cl)).full.1 (srtA_perm _) k
   obtain ⟨g1, g2, g3⟩ := ov_get (getB b i).opq (getB b i).red (manyT (plT b) (getB b i).cl)
   rw [<- hgm, <- p3] at g1 g2 g3
   have hr : 0 < (getB b i).red.length -> pathE (getB b i).red = 0 := fun e => (marks_red (hmk i hi) e).2.2.1
   obtain ⟨t1, t2, t3⟩ := turn_ov g1 g2 hr
   obtain ⟨q1, q2, q3⟩ := turn_of t1
   have hb := book_ov g3
   have hz' : zeroB { (getB b i).toTrN with ats := mwL 1 (getB b i).ats (ovM (getB b i).opq (getB b i).red (manyT (plT b) (getB b i).cl)) } = false := hz
   refine ⟨?_, ?_⟩
   ·rw [od_book hg hz' hk p1 (by
     rintro (e | ⟨e, ek⟩ | ⟨e0, e⟩)
     ·exact e q3
     ·have ek : (getB b i).kd ≠ 1 := ek
      obtain ⟨m1, m2⟩ := marks_bare (hmk i hi) ek
      rw [t2, t3, m1, m2] at e
      cases e
     ·rw [t3] at e
      exact (marks_red (hmk i hi) (of_decide_eq_true e)).2.1 e0)]
    show bookE _ (manyT u (getB b i).cl) = 0
    rw [hmany]; exact hb
   ·rw [od_node hg hz', q1, q2]
    show (⟨{ (getB b i).toTrN with ats := ptsP 1 (mwL 1 (getB b i).ats (ovM (getB b i).opq (getB b i).red (manyT (plT b) (getB b i).cl))) }, (getB b i).opq, (getB b i).red⟩ : BrN) = _
    rw [p2]
 have hm : (List.range u.length).map (odX u) = b := by
  rw [hul]; exact range_B fun i hi => (hnode i hi).2
 have := gend_ok (t := u) (E := odE u) (X := odX u) ht (fun j hj => (hnode j (by omega)).1) (by rw [hm]; exact h1)
 rw [hm] at this
 exact this
theorem optS_size (o : Bool) : (optS o).size <= 200 := by cases o <;> decide
theorem thM_nil : thM [] = fun _ => none := by funext k; rfl
theorem thM_look (l : List Attr) (k : ByteArray) : (thM l k).getD (.bool false) = .bool (isM l k) := by
 unfold thM
 cases isM l k <;> rfl
theorem dist_take {l : List Attr} (h : Dist l) (k : Nat) (hk : k < l.length) : ∀ y ∈ l.take k, L y.1 ≠ L (l[k]'hk).1 := by
 intro y hy
 obtain ⟨j, hj, rfl⟩ := List.getElem_of_mem hy
 rw [List.length_take] at hj
 rw [List.getElem_take]
 exact List.pairwise_iff_getElem.1 h j k (by omega) hk (by omega)
theorem valM_snoc {l : List Attr} {a : Attr} (h : ∀ y ∈ l, L y.1 ≠ L a.1) (k : ByteArray) : valM (l ++ [a]) k = if L a.1 = L k then a.2 else valM l k := by
 unfold valM
 rw [getM_snoc]
 by_cases e : L a.1 = L k
 ·have hn := getM_none (k := k) (fun y hy x => h y hy (x.trans e.symm))
  simp only [hn, if_pos e]; rfl
 ·simp only [if_neg e]
  cases getM l k <;> rfl
theorem pts_own1 {l : List Attr} {a : Attr} (ha : a ∈ ptsO 1 l) : a.1 = opqW \/ a.1 = reW \/ a.1 = nlW := by
 rcases mark1 (ptsO_mark ha) with e | e | e
 ·exact .inl (L_inj e)
 ·exact .inr (.inl (L_inj e))
 ·exact .inr (.inr (L_inj e))
theorem dist_own (l : List Attr) : Dist (ptsO 1 l) := by
 by_cases h : ptsE 1 l = 0
 ·exact dist_ptsO h
 ·have : ptsO 1 l = [] := by
   unfold ptsO
   by_cases hc : listE 1 l = 0 /\ ptB 1 l = true
   ·exfalso
    apply h
    unfold ptsE
    rw [if_pos hc.1, if_pos hc.2]
   ·rw [if_neg hc]
  rw [this]; exact List.Pairwise.nil
theorem put3 {w w1 W2 : World} {b : Nat} {t : TypeId} {x0 x1 x2 y0 y1 y2 : Value} (hq : w1.heap[b]? = some (.cells #[x0, x1, x2] t (0, 0))) (hb : w.heap.size <= b) (he : Ext w w1) (hW : W2 = setL w1 b 0 [y0, y1, y2]) :
  W2.heap[b]? = some (.cells #[y0, y1, y2] t (0, 0)) /\ Ext w W2 := by
 subst hW
 exact ⟨by rw [setL_blk _ _ _ _ hq]; rfl, setL_below hb _ _ _ he⟩
theorem put3a {w w1 W2 : World} {b : Nat} {t : TypeId} {x0 x1 x2 y0 y1 y2 : Value} {o : Obj} (hq : w1.heap[b]? = some (.cells #[x0, x1, x2] t (0, 0))) (hb : w.heap.size <= b) (he : Ext w w1) (hW : W2 = (setL w1 b 0 [y0, y1, y2]).alloc o) :
  W2.heap[b]? = some (.cells #[y0, y1, y2] t (0, 0)) /\ Ext w W2 := by
 obtain ⟨h1, h2⟩ := put3 (y0 := y0) (y1 := y1) (y2 := y2) hq hb he rfl
 subst hW
 exact ⟨bA h1, h2.trans (eA _ _)⟩
theorem ovZero (x : TrN) (va : Value) (hva : ∃ a n c, va = .slice a n c) (w : World) :
  RetB Tryz.prog 108 #[trV x va] w (.bool (zeroB x)) := by
 unfold RetB
 obtain ⟨a3, n3, c3, rfl⟩ := hva
 unfold trV
 cases q1 : (x.kd == 4) with
 | false =>
  have HZ : Hid (zeroB x = false) := hQq (by unfold zeroB; rw [q1]; rfl)
  go_enter Tryz.func108, Tryz.ntmps108
  go_wp2
  go_ret
  exact ⟨by rw [HZ.out]; rfl, eA _ _⟩
 | true =>
  cases q2 : (x.ma == 0) with
  | false =>
   have HZ : Hid (zeroB x = false) := hQq (by unfold zeroB; rw [q1, q2]; rfl)
   go_enter Tryz.func108, Tryz.ntmps108
   go_wp2
   go_ret
   exact ⟨by rw [HZ.out]; rfl, eA _ _⟩
  | true =>
   have HZ : Hid (zeroB x = (x.mi == 0)) := hQq (by unfold zeroB; rw [q1, q2]; rfl)
   go_enter Tryz.func108, Tryz.ntmps108
   go_wp2
   go_ret
   exact ⟨by rw [HZ.out]; rfl, eA _ _⟩
theorem ovLinkX (n : Int) (w : World) (hL : LaidO w) (h1 : n <= 9223372036854775807) : RetB Tryz.prog 158 #[.int .i64 n] w (.string (linkS n)) := by
 unfold RetB
 have HL := hQq hL; clear hL
 by_cases h : n < 2
 ·rw [link_one h]
  go_enter Tryz.func158, Tryz.ntmps158
  go_wp2
  go_ret
  exact ⟨rfl, bR _ _⟩
 ·have HN : Hid (linkS n = ⟨(Lib.itoa n).toArray⟩) := hQq (if_neg h)
  rw [HN.out]
  go_enter Tryz.func158, Tryz.ntmps158
  go_wp2_with (go_at_call 121; refine (itoaX n _ HL.out (by omega) h1).mono ?_; rintro e w1 ⟨rfl, hb⟩)
  go_ret
  exact ⟨rfl, hb⟩
set_option maxHeartbeats 2000000 in
theorem ovOfX (o : Bool) (v : Value) (r : List ByteArray) (n : Int) (w : World) (hL : LaidO w) (hr : StrsAt w v r) (h1 : n <= 9223372036854775807) (_hl : r.length <= 1000000) :
  Calls Tryz.prog 110 #[.bool o, v, .int .i64 n] w fun e w' => e = .returned (mksV (optS o) (redS r) (linkS n)) /\ Ext w w' := by
 have HL := hQq hL; have HR := hQq hr
 obtain ⟨a, cap, rfl, hrc, hrx⟩ := hr
 clear hL hrc hrx
 unfold mksV
 by_cases h : 0 < r.length
 ·have h' := lenP h
  have HRS : Hid (redS r = prS r) := hQq (if_pos h)
  rw [HRS.out]
  cases o
  all_goals
   go_enter Tryz.func110, Tryz.ntmps110
   go_wp2_with (first
    | (go_at_call 158; refine (ovLinkX n _ (HL.out.ext (eA _ _)) h1).mono ?_; rintro e w1 ⟨rfl, hb⟩; have HB := hQq ((eA _ _).trans hb); have Q0 := hQq (bX hb (bN w (.cells #[.string ⟨#[]⟩, .string ⟨#[]⟩, .string ⟨#[]⟩] 129 (0, 0)))); have z0 := bL Q0.out; clear hb)
    | (go_at_call 115; refine (pathsPrint _ _ r (HR.out.ext (HB.out.trans (eA _ _)))).mono ?_; rintro e w2 ⟨rfl, hb2⟩; have HB2 := hQq (HB.out.trans ((eA _ _).trans hb2)); have Q2 := hQq (bX ((eA _ _).trans hb2) Q0.out); have QM := hQq (bX hb2 (bN w1 _)); have y0 := bC Q2.out 0; have y1 := bC Q2.out 1; have y2 := bC Q2.out 2; have f0 := fun j => bT Q2.out j; have z2 := bL Q2.out; have m0 := bC QM.out 0; have m1 := bC QM.out 1; have m2 := bC QM.out 2; have fm := fun j => bT QM.out j; have zm := bL QM.out; clear hb2)
    | fail)
   refine nW (P := fun W => bodyPost _ _ _ _ _ W) _ ?_
   intro W2 hW2
   obtain ⟨hq, hx⟩ := put3 (w := w) (bSn Q2.out ⟨w1.heap.size, 1, none⟩ (.string (prS r)) (by show w.heap.size ≠ w1.heap.size; omega)) (Nat.le_refl _) (Below.setCell (p := ⟨w1.heap.size, 1, none⟩) HB2.out (by show w.heap.size <= w1.heap.size; omega) _) hW2
   refine bodyPost_ret (v := .agg #[_, .string (prS r), .string (linkS n)]) (by simp [results, Tryz.f110, go_sem, bC hq 0, bC hq 1, bC hq 2]; rfl) rfl ?_
   exact ⟨rfl, hx⟩
 ·have h' := lenZ h
  have HRS : Hid (redS r = ⟨#[]⟩) := hQq (if_neg h)
  rw [HRS.out]
  cases o
  all_goals
   go_enter Tryz.func110, Tryz.ntmps110
   go_wp2_with (first
    | (go_at_call 158; refine (ovLinkX n _ (HL.out.ext (eA _ _)) h1).mono ?_; rintro e w1 ⟨rfl, hb⟩; have HB := hQq ((eA _ _).trans hb); have Q0 := hQq (bX hb (bN w (.cells #[.string ⟨#[]⟩, .string ⟨#[]⟩, .string ⟨#[]⟩] 129 (0, 0)))); have z0 := bL Q0.out; have y0 := bC Q0.out 0; have y1 := bC Q0.out 1; have y2 := bC Q0.out 2; have f0 := fun j => bT Q0.out j; clear hb)
    | fail)
   refine nW (P := fun W => bodyPost _ _ _ _ _ W) _ ?_
   intro W2 hW2
   obtain ⟨hq, hx⟩ := put3a (w := w) Q0.out (Nat.le_refl _) HB.out hW2
   refine bodyPost_ret (v := .agg #[_, .string ⟨#[]⟩, .string (linkS n)]) (by simp [results, Tryz.f110, go_sem, bC hq 0, bC hq 1, bC hq 2]; rfl) rfl ?_
   exact ⟨rfl, hx⟩
theorem ovOf (o : Bool) (v : Value) (r : List ByteArray) (n : Int) (w : World) (hL : LaidO w) (hr : StrsAt w v r) (h1 : n <= 1000000) (hl : r.length <= 1000000) :
 Calls Tryz.prog 110 #[.bool o, v, .int .i64 n] w fun e w' => e = .returned (mksV (optS o) (redS r) (linkS n)) /\ Ext w w' := ovOfX o v r n w hL hr (by omega) hl
theorem mkA3_snoc {l : List Attr} {a : Attr} (h : ∀ y ∈ l, L y.1 ≠ L a.1) :
  (a.1 = opqW -> mkA3 (l ++ [a]) = (mkA3 l).setIfInBounds 0 (.string a.2)) /\ (a.1 = reW -> mkA3 (l ++ [a]) = (mkA3 l).setIfInBounds 1 (.string a.2)) /\ (a.1 = nlW -> mkA3 (l ++ [a]) = (mkA3 l).setIfInBounds 2 (.string a.2)) := by
 unfold mkA3
 rw [valM_snoc h, valM_snoc h, valM_snoc h]
 refine ⟨fun e => ?_, fun e => ?_, fun e => ?_⟩
 ·rw [e, if_pos rfl, if_neg ne_or, if_neg ne_on]; rfl
 ·rw [e, if_neg ne_or.symm, if_pos rfl, if_neg ne_rn]; rfl
 ·rw [e, if_neg ne_on.symm, if_neg ne_rn.symm, if_pos rfl]; rfl
theorem own_take {l : List Attr} {k : Nat} (hk : k < l.length) : l.take (k + 1) = l.take k ++ [l[k]'hk] := List.take_succ_eq_append_getElem hk
theorem own_len (l : List Attr) : (ptsO 1 l).length <= 6 := by
 by_cases h : ptsE 1 l = 0
 ·obtain ⟨h1, _, _, h4⟩ := ptsE_zero h
  obtain ⟨_, _, hc⟩ := listE_ok h1
  have := (chk_parts hc).1
  rw [h4, (srtA_perm _).length_eq]
  exact Nat.le_trans (owR_len 1 l) this
 ·have : ptsO 1 l = [] := by
   unfold ptsO
   by_cases hc : listE 1 l = 0 /\ ptB 1 l = true
   ·exfalso
    apply h
    unfold ptsE
    rw [if_pos hc.1, if_pos hc.2]
   ·rw [if_neg hc]
  rw [this]; exact Nat.zero_le _
theorem RdSt.at4 {w w1 wi w4 : World} {own : List Attr} {k : Nat} {o : Obj} (h : RdSt w w1 own k wi) (hw : w.heap.size < w1.heap.size) (hg : (wi.alloc o).grownBy w4 (some w1.heap.size)) :
  w4.heap[w.heap.size]? = some (.cells (mkA3 (own.take k)) 129 (0, 0)) /\ w4.heap[wi.heap.size]? = some o :=
 ⟨blk_grown hg (bA h.marks) (fun e => by injection e with e; omega), blk_grown hg (bN wi o) (fun e => by have := h.size; injection e with e; omega)⟩
theorem mkA3_cells (l : List Attr) : (mkA3 l)[0]? = some (.string (valM l opqW)) /\ (mkA3 l)[1]? = some (.string (valM l reW)) /\ (mkA3 l)[2]? = some (.string (valM l nlW)) := ⟨rfl, rfl, rfl⟩
set_option maxRecDepth 100000 in
set_option maxHeartbeats 8000000 in
theorem ovRead (v : Value) (l : List Attr) (w : World) (hL : LaidO w) (hv : aA w v l) (hm : Small l) :
  Calls Tryz.prog 160 #[v] w (ReadP w l) := by
 have HL := hQq hL; have HV := hQq hv; have HM := hQq hm
 clear hL hv hm
 have hmm := @run_makeMap Tryz.prog
 go_enter Tryz.func160, Tryz.ntmps160
 go_wp2_with (go_at_call 86; refine (escPartsT 1 _ l _ (HL.out.ext (eA _ _)).laid (HV.out.ext (eA _ _)) HM.out).mono ?_; rintro e w1 ⟨⟨v1, v2, rfl, ho1, ho2⟩, hb⟩; have HO1 := hQq ho1; have HO2 := hQq ho2; obtain ⟨a2, c2, rfl, -, -⟩ := ho2.1; have HB := hQq ((eA _ _).trans hb); have QB := hQq (bX hb (bN w (.cells #[.string ⟨#[]⟩, .string ⟨#[]⟩, .string ⟨#[]⟩] 129 (0, 0)))); clear ho1 ho2 hb)
 have HD := hQq (dist_own l)
 have HOW := hQq (fun a (ha : a ∈ ptsO 1 l) => pts_own1 ha)
 have HLE : Hid ((ptsO 1 l).length <= 6) := hQq (own_len l)
 have HRP : Hid (∀ e w', (∃ v' b n, e = .returned (.tuple #[v', mksV (valM (ptsO 1 l) opqW) (valM (ptsO 1 l) reW) (valM (ptsO 1 l) nlW), .map (some b), .int .i64 (ptsE 1 l)]) /\ AttT w' v' (ptsP 1 l) /\ MapAt kS w' b n (thM (ptsO 1 l)) /\ w.heap.size <= b) -> Ext w w' -> ReadP w l e w') := hQq (fun e w' h1 h2 => ⟨h1, h2⟩)
 generalize hown : ptsO 1 l = own at HO2 HD HOW HLE HRP ⊢
 clear hown
 have hle := HLE.out
 have HLT : Hid (w.heap.size < w1.heap.size) := hQq (by have := HB.out.size; have h2 := bL QB.out; omega)
 go_loopw [18] (fun i w' => ∃ (wi : World) (k : Nat), wi = w' /\ k <= own.length /\ i = .int .i64 k /\ RdSt w w1 own k wi) (fun i _ => own.length - (intOf i).toNat)
 case atStart => exact ⟨_, 0, rfl, Nat.zero_le _, rfl, ⟨bA QB.out, ⟨0, by rw [List.take_zero, thM_nil]; exact mapAt_made _ _⟩, fun b o hb _ => bA hb, by simp, HB.out.trans (eA _ _)⟩⟩
 case round =>
  obtain ⟨wi, k, rfl, hk, rfl, hst⟩ := hrel
  have HST := hQq hst
  obtain ⟨n, hm⟩ := hst.map
  have HM := hQq hm
  have HA2 := hQq (attT_keep HO2.out hst.keep (Nat.le_of_lt hst.size) QB.out (by decide))
  clear hst hm
  by_cases hlt : k < own.length
  case neg =>
   obtain rfl : k = own.length := by omega
   have HA1 := hQq (attT_keep HO1.out HST.out.keep (Nat.le_of_lt HST.out.size) QB.out (by decide))
   have HQ := hQq HST.out.marks
   rw [List.take_length] at HQ HM
   obtain ⟨m0, m1, m2⟩ := mkA3_cells own
   have y0 := (bC HQ.out 0).trans m0; have y1 := (bC HQ.out 1).trans m1; have y2 := (bC HQ.out 2).trans m2; have fz := fun j => bT HQ.out j; have z := bL HQ.out
   clear m0 m1 m2
   go_wp2
   go_region
   all_goals
    go_wp2
    refine nW (P := fun W => bodyPost _ _ _ _ _ W) _ ?_
    intro W2 hW2
    have hW3 : W2 = (setL wi w.heap.size 0 [.string (valM own opqW), .string (valM own reW), .string (valM own nlW)]).drew := hW2
    obtain ⟨hq0, hx0⟩ := put3 (w := w) (W2 := setL wi w.heap.size 0 [.string (valM own opqW), .string (valM own reW), .string (valM own nlW)]) HQ.out (Nat.le_refl _) HST.out.ext rfl
    have hkp : KeepBut (some w.heap.size) wi W2 := by rw [hW3]; exact fun b o hb hne => bX (eD _) (setL_keep _ wi 0 b o hb hne)
    have hx : Ext w W2 := by rw [hW3]; exact hx0.trans (eD _)
    have hq := bX (eD _) hq0
    rw [<- hW3] at hq
    have hsz : wi.heap.size <= W2.heap.size := by rw [hW3]; exact Nat.le_of_eq (setL_size [.string (valM own opqW), .string (valM own reW), .string (valM own nlW)] wi 0).symm
    refine bodyPost_ret (v := .tuple #[v1, mksV (valM own opqW) (valM own reW) (valM own nlW), .map (some w1.heap.size), .int .i64 (ptsE 1 l)]) (by simp [results, Tryz.f160, go_sem, bC hq 0, bC hq 1, bC hq 2]) rfl ?_
    exact HRP.out _ _ ⟨v1, w1.heap.size, n, rfl, attT_keep HA1.out hkp hsz HQ.out (by decide), HM.out.keep hkp (fun e => by have := HLT.out; injection e with e; omega), Nat.le_of_lt HLT.out⟩ hx
  obtain ⟨a', cap', e', _, hc⟩ := HA2.out.1
  cases e'
  obtain ⟨b, off, rfl, hbs, c0, c1⟩ := hc k hlt
  have HDT := hQq (dist_take HD.out k hlt)
  have HOK := HOW.out _ (List.getElem_mem hlt)
  have HTK := hQq (own_take hlt)
  generalize own[k]'hlt = x at c0 c1 HDT HOK HTK
  obtain ⟨n1, n2⟩ := x
  have HS := hQq (mkA3_snoc HDT.out)
  have j1 : ((k : Nat) : Int) < (own.length : Int) := by omega
  have j0 : (0 : Int) <= (k : Int) := by omega
  clear hc
  have HOK : n1 = opqW \/ n1 = reW \/ n1 = nlW := HOK
  rcases HOK with rfl | rfl | rfl
  ·have g0 : (opqW.toList == ([111, 112, 97, 113, 117, 101] : List UInt8)) = true := by rw [tL]; decide
   go_wp2_with (first
    | (at_mapUpdate; refine wl_store rfl (.tmp 22) (.tmp 24) (.const (.bool true)) 134 rfl _ _ keyString mapT_met rfl (by exact HM.out.ext (eA _ _)) opqW (.bool true) rfl rfl ?_; intro w4 hm4 hg4; have HM4 := hQq hm4; have HG4 := hQq hg4; obtain ⟨q4, qx⟩ := HST.out.at4 HLT.out hg4; have QM := hQq q4; have QX := hQq qx; obtain ⟨m0, m1, m2⟩ := mkA3_cells (own.take k); have y0 := (bC QM.out 0).trans m0; have y1 := (bC QM.out 1).trans m1; have y2 := (bC QM.out 2).trans m2; have fz := fun j => bT QM.out j; have zm := bL QM.out; have x0 := bC QX.out 0; have x1 := bC QX.out 1; clear hm4 hg4 q4 qx m0 m1 m2)
    | fail)
   go_roundw
   case rel => exact ⟨_, k + 1, rfl, by omega, by go_num, HST.out.step HLT.out HTK.out (HS.out.1 rfl) HM4.out HG4.out⟩
   case measure => first | (simp [intOf]; done) | (simp [intOf]; omega)
  ·have g0 : (reW.toList == ([111, 112, 97, 113, 117, 101] : List UInt8)) = false := by rw [tL]; decide
   have g1 : (reW.toList == ([114, 101, 100, 105, 114, 101, 99, 116] : List UInt8)) = true := by rw [tL]; decide
   go_wp2_with (first
    | (at_mapUpdate; refine wl_store rfl (.tmp 22) (.tmp 24) (.const (.bool true)) 134 rfl _ _ keyString mapT_met rfl (by exact HM.out.ext (eA _ _)) reW (.bool true) rfl rfl ?_; intro w4 hm4 hg4; have HM4 := hQq hm4; have HG4 := hQq hg4; obtain ⟨q4, qx⟩ := HST.out.at4 HLT.out hg4; have QM := hQq q4; have QX := hQq qx; obtain ⟨m0, m1, m2⟩ := mkA3_cells (own.take k); have y0 := (bC QM.out 0).trans m0; have y1 := (bC QM.out 1).trans m1; have y2 := (bC QM.out 2).trans m2; have fz := fun j => bT QM.out j; have zm := bL QM.out; have x0 := bC QX.out 0; have x1 := bC QX.out 1; clear hm4 hg4 q4 qx m0 m1 m2)
    | fail)
   go_roundw
   case rel => exact ⟨_, k + 1, rfl, by omega, by go_num, HST.out.step HLT.out HTK.out (HS.out.2.1 rfl) HM4.out HG4.out⟩
   case measure => first | (simp [intOf]; done) | (simp [intOf]; omega)
  ·have g0 : (nlW.toList == ([111, 112, 97, 113, 117, 101] : List UInt8)) = false := by rw [tL]; decide
   have g1 : (nlW.toList == ([114, 101, 100, 105, 114, 101, 99, 116] : List UInt8)) = false := by rw [tL]; decide
   have g2 : (nlW.toList == ([110, 108, 105, 110, 107] : List UInt8)) = true := by rw [tL]; decide
   go_wp2_with (first
    | (at_mapUpdate; refine wl_store rfl (.tmp 22) (.tmp 24) (.const (.bool true)) 134 rfl _ _ keyString mapT_met rfl (by exact HM.out.ext (eA _ _)) nlW (.bool true) rfl rfl ?_; intro w4 hm4 hg4; have HM4 := hQq hm4; have HG4 := hQq hg4; obtain ⟨q4, qx⟩ := HST.out.at4 HLT.out hg4; have QM := hQq q4; have QX := hQq qx; obtain ⟨m0, m1, m2⟩ := mkA3_cells (own.take k); have y0 := (bC QM.out 0).trans m0; have y1 := (bC QM.out 1).trans m1; have y2 := (bC QM.out 2).trans m2; have fz := fun j => bT QM.out j; have zm := bL QM.out; have x0 := bC QX.out 0; have x1 := bC QX.out 1; clear hm4 hg4 q4 qx m0 m1 m2)
    | fail)
   go_roundw
   case rel => exact ⟨_, k + 1, rfl, by omega, by go_num, HST.out.step HLT.out HTK.out (HS.out.2.2 rfl) HM4.out HG4.out⟩
   case measure => first | (simp [intOf]; done) | (simp [intOf]; omega)
theorem want_is {ops : Array Oper} {o : Oper} {a : Act} {g d : Nat} {b t : Bool} (h : o.guard = some (g, t)) (h2 : (ops[g]?).bind (·.dst) = some d) (h3 : a.eval (.tmp d) = .bool b) : Region.wanted o (yielded ops a.tmps) = (b == t) := by
 have h4 : a.tmps[d]? = some (.bool b) := by
  have h3 : a.tmps.getD d undef = .bool b := h3
  rw [Array.getD_eq_getD_getElem?] at h3
  cases hx : a.tmps[d]? with
  | none => rw [hx] at h3; cases h3
  | some v => rw [hx] at h3; simp at h3; rw [h3]
 unfold Region.wanted yielded
 rw [h]
 simp [h2, h4]
def bkF (T : Bool) (s : ByteArray) (n : Int) (b : Nat) (m : Bool) : Nat -> Value -> World -> Prop
 | 0, v, _ => v = .agg #[.string ⟨#[]⟩, .string ⟨#[]⟩, .string s]
 | 1, v, _ => v = .int .i64 n
 | 2, v, _ => v = .string (linkS n)
 | 3, v, _ => v = .agg #[.string ⟨#[]⟩, .string ⟨#[]⟩, .string (linkS n)]
 | 4, v, _ => v = .bool T
 | 5, v, _ => v = .bool T
 | 6, v, _ => v = if T = true then undef else .map (some b)
 | 7, v, _ => v = if T = true then undef else .bool m
 | 8, v, _ => v = if T = true then undef else .int .i64 n
 | 9, v, _ => v = if T = true then undef else .bool (decide (1 < n))
 | 10, v, _ => v = if T = true then undef else .bool (m != decide (1 < n))
 | _, _, _ => True
theorem bkF_mono {T : Bool} {s : ByteArray} {n : Int} {b : Nat} {m : Bool} : ∀ (i : Nat) (v : Value) (w w' : World), bkF T s n b m i v w -> Ext w w' -> bkF T s n b m i v w' := by
 intro i v w w' h _
 match i, h with
 | 0, h => exact h
 | 1, h => exact h
 | 2, h => exact h
 | 3, h => exact h
 | 4, h => exact h
 | 5, h => exact h
 | 6, h => exact h
 | 7, h => exact h
 | 8, h => exact h
 | 9, h => exact h
 | 10, h => exact h
 | i + 11, _ => trivial
theorem valM_size {l : List Attr} (hm : Small l) {k : ByteArray} : (valM (ptsO 1 l) k).size <= 1000000 := by
 unfold valM
 cases h : getM (ptsO 1 l) k with
 | none => exact Nat.zero_le _
 | some v =>
  have hmem := getM_some h
  unfold ptsO at hmem
  by_cases hc : listE 1 l = 0 /\ ptB 1 l = true
  ·rw [if_pos hc] at hmem
   have hmem := (srtA_perm _).mem_iff.1 hmem
   unfold owR at hmem
   obtain ⟨a, ha, he⟩ := List.mem_map.1 hmem
   have ha := (List.mem_filter.1 ha).1
   have h2 : a.2 = v := congrArg Prod.snd he
   have := (hm a ha).2
   show v.size <= _
   rw [<- h2]; omega
  ·rw [if_neg hc] at hmem; cases hmem
def neuF (x : TrN) (va vr : Value) (o : Bool) (m1 m2 m3 : ByteArray) (b : Nat) (n z : Int) : Nat -> Value -> World -> Prop
 | 0, v, _ => v = .agg #[.int .i64 x.dep, .string x.nm, .int .i64 x.kd, va, .string x.dat, .int .i64 x.ma, .int .i64 x.mi, .int .i64 x.cl, .bool o, vr]
 | 1, v, _ => v = mksV m1 m2 m3
 | 2, v, _ => v = .map (some b)
 | 3, v, _ => v = .int .i64 n
 | 4, v, _ => v = .int .i64 z
 | _, _, _ => True
theorem neuF_mono {x : TrN} {va vr : Value} {o : Bool} {m1 m2 m3 : ByteArray} {b : Nat} {n z : Int} : ∀ (i : Nat) (v : Value) (w w' : World), neuF x va vr o m1 m2 m3 b n z i v w -> Ext w w' -> neuF x va vr o m1 m2 m3 b n z i v w' := by
 intro i v w w' h _
 match i, h with
 | 0, h => exact h
 | 1, h => exact h
 | 2, h => exact h
 | 3, h => exact h
 | 4, h => exact h
 | i + 5, h => trivial
theorem neuEnd {w w5 : World} {g : Nat} {x0 x1 x2 x3 x4 x5 x6 x7 x8 x9 va vr : Value} {l : List Attr} {r : List ByteArray} (hq : w5.heap[g]? = some (.cells #[x0, x1, x2, x3, x4, x5, x6, x7, x8, x9] 41 (0, 0))) (hg : w.heap.size <= g) (he : Ext w w5) (ha : AttT w5 va l) (hs : StrIn 0 w5 vr r) :
  (setL w5 g 0 [x0, x1, x2, x3, x4, x5, x6, x7, x8, x9]).heap[g]? = some (.cells #[x0, x1, x2, x3, x4, x5, x6, x7, x8, x9] 41 (0, 0)) /\ Ext w (setL w5 g 0 [x0, x1, x2, x3, x4, x5, x6, x7, x8, x9]) /\ AttT (setL w5 g 0 [x0, x1, x2, x3, x4, x5, x6, x7, x8, x9]) va l /\ StrIn 0 (setL w5 g 0 [x0, x1, x2, x3, x4, x5, x6, x7, x8, x9]) vr r := by
 obtain ⟨h1, h2⟩ := put10 hq hg he rfl
 exact ⟨h1, h2, attT_keep ha (setL_keep _ _ _) (Nat.le_of_eq (setL_size _ _ _).symm) hq (by decide), strIn_keep hs (setL_keep _ _ _) (Nat.le_of_eq (setL_size _ _ _).symm) hq⟩
def mksC (o r n : ByteArray) : Array Value := #[.string opqW, .string o, .string reW, .string r, .string nlW, .string n]
theorem mksC_at {o r n : ByteArray} {k : Nat} (hk : k < 3) : (mksC o r n)[k * 2]? = some (.string ((mk3 o r n)[k]'hk).1) /\ (mksC o r n)[k * 2 + 1]? = some (.string ((mk3 o r n)[k]'hk).2) := by
 match k, hk with
 | 0, _ => exact ⟨rfl, rfl⟩
 | 1, _ => exact ⟨rfl, rfl⟩
 | 2, _ => exact ⟨rfl, rfl⟩
theorem mk3_word {o r n : ByteArray} {k : Nat} (hk : k < 3) : ((mk3 o r n)[k]'hk).1.size <= 1000000 := by
 match k, hk with
 | 0, _ => show opqW.size <= _; decide
 | 1, _ => show reW.size <= _; decide
 | 2, _ => show nlW.size <= _; decide
def oencF (g bb o8 k bm : Nat) (va vr vb : Value) (q : Bool) (cl m : Int) (mk : Value) (e : Int) (l : List Attr) : Nat -> Value -> World -> Prop
 | 0, v, _ => v = .pointer (some ⟨g, 3, none⟩)
 | 1, v, _ => v = va
 | 2, v, _ => v = vb
 | 3, v, _ => v = .int .i64 k
 | 4, v, _ => v = .pointer (some ⟨bb, o8, none⟩)
 | 5, v, _ => v = .pointer (some ⟨bb, o8 + 8, none⟩)
 | 6, v, _ => v = .bool q
 | 7, v, _ => v = vb
 | 8, v, _ => v = .int .i64 k
 | 9, v, _ => v = .pointer (some ⟨bb, o8, none⟩)
 | 10, v, _ => v = .pointer (some ⟨bb, o8 + 9, none⟩)
 | 11, v, _ => v = vr
 | 12, v, _ => v = .map (some bm)
 | 13, v, _ => v = .pointer (some ⟨g, 7, none⟩)
 | 14, v, _ => v = .int .i64 cl
 | 15, v, _ => v = .int .i64 m
 | 16, v, _ => v = mk
 | 17, v, w => ∃ a c, v = .tuple #[.slice a l.length c, .int .i64 e] /\ AttT w (.slice a l.length c) l /\ ∃ cs, w.heap[g]? = some (.cells cs 43 (0, 0))
 | 18, v, w => ∃ a c, v = .tuple #[.slice a l.length c, .int .i64 e] /\ AttT w (.slice a l.length c) l /\ ∃ cs, w.heap[g]? = some (.cells cs 43 (0, 0))
 | 19, v, w => ∃ a c, v = .slice a l.length c /\ AttT w (.slice a l.length c) l /\ ∃ cs, w.heap[g]? = some (.cells cs 43 (0, 0))
 | 20, v, _ => v = .int .i64 e
 | 21, v, _ => v = .pointer (some ⟨g, 3, none⟩)
 | 23, v, _ => v = .int .i64 e
 | _, _, _ => True
theorem oencF_mono {g bb o8 k bm : Nat} {va vr vb : Value} {q : Bool} {cl m : Int} {mk : Value} {e : Int} {l : List Attr} : ∀ (i : Nat) (v : Value) (w w' : World), oencF g bb o8 k bm va vr vb q cl m mk e l i v w -> RbR g w w' -> oencF g bb o8 k bm va vr vb q cl m mk e l i v w' := by
 intro i v w w' h he
 match i, h with
 | 0, h => exact h
 | 1, h => exact h
 | 2, h => exact h
 | 3, h => exact h
 | 4, h => exact h
 | 5, h => exact h
 | 6, h => exact h
 | 7, h => exact h
 | 8, h => exact h
 | 9, h => exact h
 | 10, h => exact h
 | 11, h => exact h
 | 12, h => exact h
 | 13, h => exact h
 | 14, h => exact h
 | 15, h => exact h
 | 16, h => exact h
 | 17, ⟨a, c, h, h2, cs, h3⟩ => exact ⟨a, c, h, attT_keep h2 he.keep he.below.size h3 (by decide), he.typed ⟨cs, h3⟩⟩
 | 18, ⟨a, c, h, h2, cs, h3⟩ => exact ⟨a, c, h, attT_keep h2 he.keep he.below.size h3 (by decide), he.typed ⟨cs, h3⟩⟩
 | 19, ⟨a, c, h, h2, cs, h3⟩ => exact ⟨a, c, h, attT_keep h2 he.keep he.below.size h3 (by decide), he.typed ⟨cs, h3⟩⟩
 | 20, h => exact h
 | 21, h => exact h
 | 22, _ => trivial
 | 23, h => exact h
 | i + 24, _ => trivial
def OencP (w : World) (b : List BrN) (e : Ending) (w' : World) : Prop := (∃ B' a n cap, w.heap.size <= B' /\ e = .returned (.tuple #[.slice a n cap, .int .i64 (oeN b), .int .i64 (oeF b)]) /\ OwnL cdT B' w' (.slice a n cap) (oeL b)) /\ Ext w w'
end Go.Proofs.YtimpejaaeinplaaGreatDoor
