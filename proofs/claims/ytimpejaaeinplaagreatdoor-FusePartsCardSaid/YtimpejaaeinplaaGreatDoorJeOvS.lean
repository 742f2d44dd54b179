/- OvS FuP FuQ FuC FarF FuPD -/
import Derived.Test.YtimpejaaeinplaaGreatDoorJI5
import Derived.Test.YtimpejaaeinplaaGreatDoorJaMrkP
import Derived.Test.YtimpejaaeinplaaGreatDoorJaParP
import Derived.Test.YtimpejaaeinplaaGreatDoorJaBsdY
import Derived.Test.YtimpejaaeinplaaGreatDoorJcOrA
namespace Go.Proofs.YtimpejaaeinplaaGreatDoor
open Go.RowKit
theorem br_red {b : List BrN} (h : brEr b = 0) {i : Nat} (hi : i < b.length) : 0 < (getB b i).red.length -> pathE (getB b i).red = 0 := fun hr => (marks_red ((brEr_zero h).2.2 i hi) hr).2.2.1
theorem ne_wo : L opqW ≠ L whW := by decide
theorem ne_wr : L reW ≠ L whW := by decide
theorem ne_wn : L nlW ≠ L whW := by decide
theorem fu_get (o h : Bool) (r : List ByteArray) (n : Int) :
  getM (fulM (fuM o h r n)) opqW = (if (hidS o h).size = 0 then none else some (hidS o h)) /\ getM (fulM (fuM o h r n)) reW = (if (redS r).size = 0 then none else some (redS r)) /\ getM (fulM (fuM o h r n)) nlW = (if (linkS n).size = 0 then none else some (linkS n)) /\ getM (fulM (fuM o h r n)) whW = none := by
 have hd := (fuM_ok o h r n).1
 refine ⟨getM_full hd (m := (opqW, hidS o h)) (by simp [fuM]), getM_full hd (m := (reW, redS r)) (by simp [fuM]), getM_full hd (m := (nlW, linkS n)) (by simp [fuM]), getM_none fun a ha e => ?_⟩
 have ha := (List.mem_filter.1 ha).1
 unfold fuM at ha
 simp only [List.mem_cons, List.not_mem_nil, or_false] at ha
 rcases ha with rfl | rfl | rfl
 ·exact ne_wo e
 ·exact ne_wr e
 ·exact ne_wn e
theorem hid_size (o h : Bool) : (hidS o h).size = 0 ↔ o = false /\ h = false := by cases o <;> cases h <;> decide
theorem amoG_congr {D E : Nat -> Int} {P Q : Nat -> Bool} {d : Int} : ∀ {m k : Nat}, (∀ j, k <= j -> j < k + m -> D j = E j /\ P j = Q j) -> amoG D P d m k = amoG E Q d m k
 | 0, _, _ => rfl
 | m + 1, k, h => by
  obtain ⟨h1, h2⟩ := h k (Nat.le_refl _) (by omega)
  unfold amoG
  rw [h1, h2, amoG_congr (m := m) (k := k + 1) fun j a b => h j (by omega) (by omega)]
theorem amoB_congr {n : Nat} {D E : Nat -> Int} {P Q : Nat -> Bool} {i : Nat} (hi : i < n) (h : ∀ j, j < n -> D j = E j /\ P j = Q j) : amoB n D P i = amoB n E Q i := by
 unfold amoB
 rw [(h i hi).1]
 exact amoG_congr fun j a b => h j (by omega)
theorem amo_leaf {n : Nat} {D : Nat -> Int} {P : Nat -> Bool} {i : Nat} (h : i + 1 < n -> D (i + 1) <= D i) : amoB n D P i = false := by
 unfold amoB
 cases e : n - (i + 1) with
 | zero => rfl
 | succ m => unfold amoG; rw [if_pos (h (by omega))]
theorem tree_leaf {t : List TrN} (h : treeE t = 0) {i : Nat} (hk : (getT t i).kd ≠ 1) : i + 1 < t.length -> (getT t (i + 1)).dep <= (getT t i).dep := fun hi => by
 have h3 := ((shape_bd (node_parts ((treeE_zero h).2.2.1 (i + 1) hi)).1).2.2.2 (by omega)).2
 rw [Nat.add_sub_cancel] at h3
 unfold mostD at h3
 rwa [if_neg hk] at h3
/-! The file that is a whiteout. -/
theorem wh_pts : ptsE 2 whA = 0 /\ ptsP 2 whA = [] /\ ptsO 2 whA = [(whW, yW)] /\ chkE whA = 0 := by
 refine ⟨by decide +kernel, by decide +kernel, by decide +kernel, by decide +kernel⟩
theorem wh_kind {x : TrN} (h : x.kd = 2) (h1 : x.dat.size = 0) (h2 : x.ma = 0) (h3 : x.mi = 0) : kindE x = 0 := by
 unfold kindE
 rw [if_neg (by omega), if_neg (by omega), if_pos h, if_pos ⟨h2, h3⟩, if_neg (by omega)]
theorem fe_parts {b : List BrN} (h : feF b = 0) : brEr b = 0 /\ (∀ j, j < b.length -> feE b j = 0) /\ feL b = (List.range b.length).map (feX b) /\ feN b = 0 := by
 obtain ⟨h1, h2, h3⟩ := gen_zero (b := b) (E := feE b) (X := feX b) h
 have h3 : feT b = ((List.range b.length).map (feX b), 0, 0) := h3
 exact ⟨h1, h2, (fe_of h3).1, (fe_of h3).2.1⟩
theorem fe_zero {b : List BrN} {i : Nat} (h : feE b i = 0) (hk : (getB b i).kd ≠ 5) : mwE 2 (getB b i).ats (fuM (getB b i).opq (hdB b i) (getB b i).red (manyT (plT b) (getB b i).cl)) = 0 := by
 rw [(fe_node rfl hk).1] at h; exact h
theorem fe_same (b : List BrN) (i : Nat) (h5 : (getB b i).kd = 5 -> (getB b i).cl = 0) : (feX b i).dep = (getB b i).dep /\ (feX b i).nm = (getB b i).nm /\ (feX b i).cl = (getB b i).cl /\ ((feX b i).kd = 1 ↔ (getB b i).kd = 1) := by
 by_cases hk : (getB b i).kd = 5
 ·rw [(fe_white rfl hk).2]
  refine ⟨rfl, rfl, (h5 hk).symm, ?_⟩
  show (2 : Int) = 1 ↔ _
  omega
 ·rw [(fe_node rfl hk).2]; exact ⟨rfl, rfl, rfl, Iff.rfl⟩
theorem fe_cls {b : List BrN} (h5 : ∀ i, i < b.length -> (getB b i).kd = 5 -> (getB b i).cl = 0) (i : Nat) : (getT ((List.range b.length).map (feX b)) i).cl = (getT (plT b) i).cl := by
 by_cases hi : i < b.length
 ·rw [getT_range hi, getT_plT b i hi]; exact (fe_same b i (h5 i hi)).2.2.1
 ·have e1 : getT (plT b) i = zTrN := by unfold getT; rw [List.getD, List.getElem?_eq_none (by rw [plT_len]; omega)]; rfl
  have e2 : getT ((List.range b.length).map (feX b)) i = zTrN := by unfold getT; rw [List.getD, List.getElem?_eq_none (by simp; omega)]; rfl
  rw [e1, e2]
theorem hdB_leaf {b : List BrN} (h : treeE (plT b) = 0) {i : Nat} (hi : i < b.length) (hk : (getB b i).kd ≠ 1) : hdB b i = false := by
 refine amo_leaf fun h1 => ?_
 have := tree_leaf h (i := i) (by rw [getT_plT b i hi]; exact hk) (by rw [plT_len]; exact h1)
 rw [getT_plT b i hi, getT_plT b (i + 1) h1] at this
 exact this
theorem ft_fu {own : List Attr} {o h : Bool} {r : List ByteArray} (h1 : getM own opqW = if (hidS o h).size = 0 then none else some (hidS o h)) (h2 : getM own reW = if (redS r).size = 0 then none else some (redS r)) (hr : 0 < r.length -> pathE r = 0) :
  ftT own = ((o, !o && h), r, 0) /\ isM own opqW = (o || h) /\ isM own reW = decide (0 < r.length) := by
 obtain ⟨a1, a2⟩ := isM_get h1
 obtain ⟨b1, b2⟩ := isM_get h2
 have e1 : isM own opqW = (o || h) := by
  rw [a1]
  have := hid_size o h
  cases o <;> cases h <;> decide
 have e2 : isM own reW = decide (0 < r.length) := by
  rw [b1]
  have h := red_size hr
  by_cases e : 0 < r.length
  ·rw [decide_eq_true e]; exact decide_eq_true (fun x => by rw [h.1 x] at e; exact absurd e (by decide))
  ·rw [decide_eq_false e]; exact decide_eq_false (fun x => x (h.2 (List.length_eq_zero_iff.1 (by omega))))
 have ho : decide (valM own opqW = yW) = o /\ decide (valM own opqW = xW) = (!o && h) := by
  rw [a2]
  cases o <;> cases h <;> exact ⟨by decide, by decide⟩
 have hq : ¬ (isM own opqW = true /\ valM own opqW ≠ yW /\ valM own opqW ≠ xW) := by
  rintro ⟨x, y, z⟩
  rw [e1] at x
  have y := decide_eq_false y; have z := decide_eq_false z
  rw [ho.1] at y; rw [ho.2] at z
  subst y
  cases h
  ·cases x
  ·cases z
 refine ⟨?_, e1, e2⟩
 by_cases e : 0 < r.length
 ·have hv : valM own reW = textP r := by rw [b2]; unfold redS prS; rw [if_pos e, if_pos (hr e)]
  have hp := par_of (text_par (hr e) (fun x => by rw [x] at e; exact absurd e (by decide)))
  rw [ft_led hq (by rw [e2]; exact decide_eq_true e) (by
   rw [hv, hp.1, hp.2]
   rintro (x | x)
   ·exact x rfl
   ·rw [x] at e; exact absurd e (by decide)), ho.1, ho.2, hv, hp.1]
 ·rw [ft_no hq (by rw [e2]; exact decide_eq_false e), ho.1, ho.2, List.length_eq_zero_iff.1 (by omega : r.length = 0)]
theorem isM_no {own : List Attr} {k : ByteArray} (h : getM own k = none) : isM own k = false := by unfold isM; rw [h]; rfl
theorem fu_read {l : List Attr} {o h : Bool} {r : List ByteArray} {n : Int} (hw : mwE 2 l (fuM o h r n) = 0) (hr : 0 < r.length -> pathE r = 0) :
  ptsE 2 (mwL 2 l (fuM o h r n)) = 0 /\ ptsP 2 (mwL 2 l (fuM o h r n)) = l /\ isM (ptsO 2 (mwL 2 l (fuM o h r n))) whW = false /\ ftT (ptsO 2 (mwL 2 l (fuM o h r n))) = ((o, !o && h), r, 0) /\ isM (ptsO 2 (mwL 2 l (fuM o h r n))) opqW = (o || h) /\
  isM (ptsO 2 (mwL 2 l (fuM o h r n))) reW = decide (0 < r.length) /\ bookE (ptsO 2 (mwL 2 l (fuM o h r n))) n = 0 := by
 obtain ⟨p1, p2, p3⟩ := pts_mw hw (fuM_ok _ _ _ _)
 have hgm := fun k => getM_perm (fuM_ok o h r n).full.1 (srtA_perm _) k
 obtain ⟨g1, g2, g3, g4⟩ := fu_get o h r n
 rw [<- hgm, <- p3] at g1 g2 g3 g4
 obtain ⟨t1, t2, t3⟩ := ft_fu g1 g2 hr
 exact ⟨p1, p2, isM_no g4, t1, t2, t3, book_ov g3⟩
theorem fe_back {b : List BrN} (h : feF b = 0) : treeE (feL b) = 0 /\ fdT (feL b) = (b, 0, 0) := by
 obtain ⟨h1, h2, h3, _⟩ := fe_parts h
 obtain ⟨t0, _, hmk⟩ := brEr_zero h1
 obtain ⟨z1, z2, z3, _, _⟩ := treeE_zero t0
 have hpl := fun j (hj : j < b.length) => getT_plT b j hj
 have hlen := plT_len b
 have hkd : ∀ j, j < b.length -> kindE (getB b j).toTrN = 0 /\ chkE (getB b j).ats = 0 := fun j hj => by
  obtain ⟨_, _, n3, n4, _⟩ := node_parts (z3 j (by omega))
  rw [hpl j hj] at n3 n4
  exact ⟨n3, n4⟩
 have h5 : ∀ j, j < b.length -> (getB b j).kd = 5 -> (getB b j).cl = 0 := fun j hj hk => (kind_white (hkd j hj).1 hk).2.2.2.2
 rw [h3]
 obtain ⟨u, hu⟩ : ∃ u, u = (List.range b.length).map (feX b) := ⟨_, rfl⟩
 have hul : u.length = b.length := by rw [hu]; simp
 have hug : ∀ i, i < b.length -> getT u i = feX b i := fun i hi => by rw [hu]; exact getT_range hi
 have hcl : ∀ i, (getT u i).cl = (getT (plT b) i).cl := fun i => by rw [hu]; exact fe_cls h5 i
 rw [<- hu]
 have ht : treeE u = 0 := by
  refine tree_keep (t := plT b) (by omega) (fun i hi => ?_) (fun i hi => ?_) (fun i hi => ?_) (fun i k hi hk hp he hlk => ?_) t0
  ·rw [hlen] at hi
   rw [hug i hi, hpl i hi]
   exact fe_same b i (h5 i hi)
  ·rw [hlen] at hi
   rw [hug i hi]
   by_cases hk : (getB b i).kd = 5
   ·rw [(fe_white rfl hk).2]; exact wh_kind rfl rfl rfl rfl
   ·rw [(fe_node rfl hk).2]
    exact kind_ats (hkd i hi).1 hk
  ·rw [hlen] at hi
   rw [hug i hi]
   by_cases hk : (getB b i).kd = 5
   ·rw [(fe_white rfl hk).2]; exact wh_pts.2.2.2
   ·have hw := fe_zero (h2 i hi) hk
    rw [(fe_node rfl hk).2]
    exact mw_chk hw
  ·rw [hlen] at hi hk
   rw [hpl i hi, hpl k hk] at hlk
   rw [hpl i hi] at hp he
   rw [hpl k hk] at he
   obtain ⟨k1, k2, k3, k4, k5⟩ := like_iff.1 hlk
   have hp : 0 < (getB b i).cl := hp
   have he : (getB b k).cl = (getB b i).cl := he
   have i5 : (getB b i).kd ≠ 5 := fun e => by have := h5 i hi e; omega
   have i1 : (getB b i).kd ≠ 1 := fun e => by have := kind_dir (hkd i hi).1 e; have : (getB b i).cl = 0 := this; omega
   have k1 : (getB b k).kd = (getB b i).kd := k1
   have k5' : (getB b k).kd ≠ 5 := by rw [k1]; exact i5
   have k1' : (getB b k).kd ≠ 1 := by rw [k1]; exact i1
   obtain ⟨oi, ri⟩ := marks_bare (hmk i hi) i1
   obtain ⟨ok, rk⟩ := marks_bare (hmk k hk) k1'
   rw [hug i hi, hug k hk, (fe_node rfl i5).2, (fe_node rfl k5').2, oi, ok, ri, rk, hdB_leaf t0 hi i1, hdB_leaf t0 hk k1', he]
   refine like_iff.2 ⟨k1, ?_, k3, k4, k5⟩
   show mwL 2 (getB b k).ats _ = mwL 2 (getB b i).ats _
   have k2 : (getB b k).ats = (getB b i).ats := k2
   rw [k2]
 refine ⟨ht, ?_⟩
 have hmany : ∀ c, manyT u c = manyT (plT b) c := many_same (by omega) hcl
 have hred : ∀ i, i < b.length -> 0 < (getB b i).red.length -> pathE (getB b i).red = 0 := fun i hi e => (marks_red (hmk i hi) e).2.2.1
 have hwb : ∀ i, i < b.length -> whtB (getT u i) = ((getB b i).kd == 5) := fun i hi => by
  rw [hug i hi]
  by_cases hk : (getB b i).kd = 5
  ·rw [(fe_white rfl hk).2, hk]
   show isM (ptsO 2 whA) whW = _
   rw [wh_pts.2.2.1]; decide
  ·rw [(fe_node rfl hk).2, nB hk]
   exact (fu_read (fe_zero (h2 i hi) hk) (hred i hi)).2.2.1
 have hhd : ∀ i, i < b.length -> hdT u i = hdB b i := fun i hi => by
  unfold hdT hdB
  rw [hul]
  exact amoB_congr hi fun j hj => ⟨by show (getT u j).dep = _; rw [hug j hj]; exact (fe_same b j (h5 j hj)).1, hwb j hj⟩
 have hnode : ∀ i, i < b.length -> fdE u i = 0 /\ fdX u i = getB b i := fun i hi => by
  by_cases hk : (getB b i).kd = 5
  ·have hg := (hug i hi).trans (fe_white rfl hk).2
   have hw : whtB (getT u i) = true := by rw [hwb i hi, hk]; rfl
   refine ⟨?_, ?_⟩
   ·have hm : manyT u (getT u i).cl = 1 := by rw [hg]; rfl
    rw [fd_hid (by rw [hg]; show (2 : Int) ≠ 5; decide) (by rw [hg]; exact wh_pts.1) hw, hm, if_pos]
    rw [hg]
    unfold hidB
    rw [show ptsP 2 (⟨(getB b i).dep, (getB b i).nm, 2, whA, ⟨#[]⟩, 0, 0, 0⟩ : TrN).ats = [] from wh_pts.2.1, show ptsO 2 (⟨(getB b i).dep, (getB b i).nm, 2, whA, ⟨#[]⟩, 0, 0, 0⟩ : TrN).ats = [(whW, yW)] from wh_pts.2.2.1]
    rfl
   ·rw [fd_wx hw, hg]
    obtain ⟨w1, w2, w3, w4, w5⟩ := kind_white (hkd i hi).1 hk
    obtain ⟨m1, m2⟩ := marks_bare (hmk i hi) (by omega)
    have w2 := bytes_nil w2
    clear hg hw
    revert hk w1 w2 w3 w4 w5 m1 m2
    generalize getB b i = x
    intro hk w1 w2 w3 w4 w5 m1 m2
    obtain ⟨⟨dep, nm, kd, ats, dat, ma, mi, cl⟩, opq, red⟩ := x
    simp only at hk w1 w2 w3 w4 w5 m1 m2
    subst hk w1 w2 w3 w4 w5 m1 m2
    rfl
  ·have hw := fe_zero (h2 i hi) hk
   have hg := (hug i hi).trans (fe_node rfl hk).2
   have hwh : whtB (getT u i) = false := by rw [hwb i hi]; exact nB hk
   obtain ⟨p1, p2, _, t1, t2, t3, hb⟩ := fu_read hw (hred i hi)
   obtain ⟨q1, q2, q3, q4⟩ := ft_of t1
   have hkg : (getT u i).kd = (getB b i).kd := by rw [hg]
   have hag : (getT u i).ats = mwL 2 (getB b i).ats (fuM (getB b i).opq (hdB b i) (getB b i).red (manyT (plT b) (getB b i).cl)) := by rw [hg]
   have hlf : (getB b i).kd ≠ 1 -> (getB b i).opq = false /\ (getB b i).red = [] /\ hdB b i = false := fun e => ⟨(marks_bare (hmk i hi) e).1, (marks_bare (hmk i hi) e).2, hdB_leaf t0 hi e⟩
   refine ⟨?_, ?_⟩
   ·rw [fd_book (by rw [hkg]; exact hk) (by rw [hag]; exact p1) hwh (by
     unfold fbT
     rw [hag, hkg, q4, t2, t3]
     rintro (e | ⟨e, ek⟩ | ⟨e, e0⟩)
     ·exact e rfl
     ·obtain ⟨m1, m2, m3⟩ := hlf ek
      rw [m1, m2, m3] at e
      cases e
     ·exact (marks_red (hmk i hi) (of_decide_eq_true e)).2.1 e0) (by
     rw [hag, hkg, q1, q2, hhd i hi]
     rintro ⟨_, e1, e2⟩
     rw [e1] at e2
     exact e2 rfl), hag]
    show bookE _ (manyT u (getT u i).cl) = 0
    rw [hmany, hcl, hpl i hi]; exact hb
   ·rw [fd_node hwh, hag, q1, q3, p2, hg]
 have hm : (List.range u.length).map (fdX u) = b := by
  rw [hul]; exact range_B fun i hi => (hnode i hi).2
 have := gend_ok (t := u) (E := fdE u) (X := fdX u) ht (fun j hj => (hnode j (by omega)).1) (by rw [hm]; exact h1)
 rw [hm] at this
 exact this
theorem fe_says {b : List BrN} (h : feF b = 0) {i : Nat} (hi : i < b.length) : SayF (getB b i) (feX b i) := by
 obtain ⟨h1, h2, _⟩ := fe_parts h
 have hk := br_kind h1 hi
 by_cases h5 : (getB b i).kd = 5
 ·obtain ⟨_, k2, k3, k4, k5⟩ := kind_white hk h5
  rw [(fe_white rfl h5).2]
  exact ⟨rfl, rfl, (bytes_nil k2).symm, k3.symm, k4.symm, k5.symm, .inl ⟨h5, rfl, rfl⟩⟩
 ·have hw := fe_zero (h2 i hi) h5
  rw [(fe_node rfl h5).2]
  refine ⟨rfl, rfl, rfl, rfl, rfl, rfl, .inr ⟨h5, rfl, fun e => ?_⟩⟩
  have h3 := (fu_read hw (br_red h1 hi)).2.2.1
  have e : mwL 2 (getB b i).ats (fuM (getB b i).opq (hdB b i) (getB b i).red (manyT (plT b) (getB b i).cl)) = whA := e
  rw [e, wh_pts.2.2.1] at h3
  exact absurd h3 (by decide)
set_option maxRecDepth 100000 in
set_option maxHeartbeats 1000000 in
theorem law22large (B : Nat) (v : Value) (t : List TrN) (w : World) (hv : TrIn B w v t) : Calls Tryz.prog 17 #[v] w (BoolP (FewT 500 t) w) := by
 obtain ⟨aa, cap, rfl⟩ := hv.form
 have HV := hQq hv; clear hv
 by_cases h10 : 130 < t.length
 ·go_enter Tryz.func17, Tryz.ntmps17
  go_wp2
  go_ret
  exact ⟨_, rfl, (fun h => by cases h), rfl⟩
 go_enter Tryz.func17, Tryz.ntmps17
 go_wp2
 go_loop [3] (fun i => ∃ k : Nat, i = .int .i64 k /\ k <= t.length /\ ∀ j (_ : j < k) (hj : j < t.length), Few 500 (t[j]'hj).ats /\ (t[j]'hj).nm.size <= 500 /\ (t[j]'hj).dat.size <= 500) (fun i => t.length - (intOf i).toNat)
 case atStart => exact ⟨0, rfl, Nat.zero_le _, fun j hj => absurd hj (by omega)⟩
 case round =>
  obtain ⟨k, rfl, hk, hs⟩ := hrel
  have HS := hQq hs; clear hs
  by_cases hlt : k < t.length
  case neg =>
   obtain rfl : k = t.length := by omega
   go_wp2
   go_ret
   exact ⟨_, rfl, (fun _ => ⟨by omega, fun x hx => by
     obtain ⟨j, hj, rfl⟩ := List.getElem_of_mem hx
     exact HS.out j hj hj⟩), rfl⟩
  obtain ⟨b, off, va, hex, hb, hva, c0, c1, c2, c3, c4, c5, c6, c7⟩ := HV.out.tr k hlt
  cases hex
  have HVA := hQq hva.attrs
  have HG : Hid (∀ x, x = t[k]'hlt -> Few 500 x.ats /\ x.nm.size <= 500 /\ x.dat.size <= 500 -> ∀ j (_ : j < k + 1) (hj : j < t.length), Few 500 (t[j]'hj).ats /\ (t[j]'hj).nm.size <= 500 /\ (t[j]'hj).dat.size <= 500) := hQq (fun x hx hs j hj hjl => by
   by_cases e : j = k
   ·subst e; rw [<- hx]; exact hs
   ·exact HS.out j (by omega) hjl)
  obtain ⟨x, hx⟩ : ∃ x, x = t[k]'hlt := ⟨_, rfl⟩
  rw [<- hx] at c0 c1 c2 c4 c5 c6 c7 HVA
  have HX := hQq hx
  have j1 : ((k : Nat) : Int) < (t.length : Int) := by omega
  have j0 : (0 : Int) <= (k : Int) := by omega
  clear hx hva
  have HL := hQq (law22long _ x.ats w HVA.out)
  by_cases g1 : 500 < x.nm.size
  ·go_wp2_with (go_at_call 65; refine HL.out.mono ?_; rintro e w1 ⟨r, rfl, _, rfl⟩)
   all_goals
    go_ret
    exact ⟨_, rfl, (fun h => by cases h), rfl⟩
  by_cases g2 : 500 < x.dat.size
  ·go_wp2_with (go_at_call 65; refine HL.out.mono ?_; rintro e w1 ⟨r, rfl, _, rfl⟩)
   all_goals
    go_ret
    exact ⟨_, rfl, (fun h => by cases h), rfl⟩
  go_wp2_with (go_at_call 65; refine HL.out.mono ?_; rintro e w1 ⟨r, rfl, hr, rfl⟩; have HR := hQq hr; clear hr)
  ·go_ret
   exact ⟨_, rfl, (fun h => by cases h), rfl⟩
  ·go_round
   case rel => exact ⟨k + 1, by go_num, by omega, HG.out x HX.out ⟨(HR.out (by first | assumption | exact Bool.eq_false_iff.2 (by assumption))).mono (by decide), by omega, by omega⟩⟩
   case measure => first | (simp [intOf]; done) | (simp [intOf]; omega)
set_option maxRecDepth 100000 in
set_option maxHeartbeats 4000000 in
theorem law22far (B : Nat) (v : Value) (b : List BrN) (w : World) (hv : BrIn B w v b) (hB : B <= w.heap.size) (hz : ∀ x ∈ b, x.ats.length * 32 <= 140737488355328) : Calls Tryz.prog 11 #[v] w (BoolE (FewB 500 b) w) := by
 obtain ⟨aa, cap, rfl⟩ := hv.form
 have HV := hQq hv; have HZ := hQq hz
 clear hv hz
 by_cases h10 : 130 < b.length
 ·go_enter Tryz.func11, Tryz.ntmps11
  go_wp2
  go_ret
  exact ⟨_, rfl, (fun h => by cases h), bR _ _⟩
 go_enter Tryz.func11, Tryz.ntmps11
 go_wp2
 go_loop [3] (fun i => ∃ k : Nat, i = .int .i64 k /\ k <= b.length /\ ∀ j (_ : j < k) (hj : j < b.length), (b[j]'hj).red.length <= 12 /\ ∀ s ∈ (b[j]'hj).red, s.size <= 500) (fun i => b.length - (intOf i).toNat)
 case atStart => exact ⟨0, rfl, Nat.zero_le _, fun j hj => absurd hj (by omega)⟩
 case round =>
  obtain ⟨k, rfl, hk, hs⟩ := hrel
  have HS := hQq hs; clear hs
  by_cases hlt : k < b.length
  case neg =>
   obtain rfl : k = b.length := by omega
   go_wp2_with (first
    | (go_at_call 45; refine (refTreeX B _ _ b HV.out hB (by omega) HZ.out).mono ?_; rintro e w2 ⟨⟨a5, cap5, rfl, ho⟩, hb2⟩; have HO := hQq ho; have HB2 := hQq hb2; clear ho hb2)
    | (go_at_call 17; refine (law22large w.heap.size _ (b.map BrN.toTrN) _ (HO.out.in okT)).mono ?_; rintro e w3 ⟨r, rfl, hr, rfl⟩; have HR := hQq hr; clear hr)
    | fail)
   go_ret
   refine ⟨_, rfl, fun h => ?_, HB2.out⟩
   have h3 := HR.out h
   refine ⟨by omega, fun x hx => ?_⟩
   obtain ⟨q1, q2, q3⟩ := h3.ok x.toTrN (List.mem_map.2 ⟨x, hx, rfl⟩)
   obtain ⟨j, hj, rfl⟩ := List.getElem_of_mem hx
   exact ⟨q1, q2, q3, HS.out j hj hj⟩
  obtain ⟨bb, off, va, vr, hex, hb, hva, hvr, c0, c1, c2, c3, c4, c5, c6, c7, c8, c9⟩ := HV.out.br k hlt
  cases hex
  have HVR := hQq hvr.strs
  have HG : Hid (∀ x, x = b[k]'hlt -> x.red.length <= 12 /\ (∀ s ∈ x.red, s.size <= 500) -> ∀ j (_ : j < k + 1) (hj : j < b.length), (b[j]'hj).red.length <= 12 /\ ∀ s ∈ (b[j]'hj).red, s.size <= 500) := hQq (fun x hx hs j hj hjl => by
   by_cases e : j = k
   ·subst e; rw [<- hx]; exact hs
   ·exact HS.out j (by omega) hjl)
  obtain ⟨x, hx⟩ : ∃ x, x = b[k]'hlt := ⟨_, rfl⟩
  rw [<- hx] at HVR
  have HX := hQq hx
  have j1 : ((k : Nat) : Int) < (b.length : Int) := by omega
  have j0 : (0 : Int) <= (k : Int) := by omega
  clear hx hva hvr c0 c1 c2 c3 c4 c5 c6 c7 c8
  go_wp2_with (go_at_call 44; refine (law22path _ x.red w HVR.out).mono ?_; rintro e w1 ⟨r, rfl, hr, rfl⟩; have HR := hQq hr; clear hr)
  ·go_ret
   exact ⟨_, rfl, (fun h => by cases h), bR _ _⟩
  ·go_round
   case rel => exact ⟨k + 1, by go_num, by omega, HG.out x HX.out (HR.out (by first | assumption | exact Bool.eq_false_iff.2 (by assumption)))⟩
   case measure => first | (simp [intOf]; done) | (simp [intOf]; omega)
theorem ent_first {o : Bool} {z : ByteArray} {x : DeN} (h : entX o z x = 0) (hn : x.ns = 1) : x.fi = true := by
 have hm := (ent_parts h).2.2.2.2.2.2.2.2.2
 unfold markB at hm
 simp only [Bool.or_eq_false_iff] at hm
 obtain ⟨_, h4⟩ := hm
 rw [hn] at h4
 cases e : x.fi with
 | true => rfl
 | false => rw [e] at h4; cases h4
theorem wh_hid : hidB whN 1 = true /\ whtB whN = true := by
 unfold hidB whtB
 rw [show ptsP 2 whN.ats = [] from wh_pts.2.1, show ptsO 2 whN.ats = [(whW, yW)] from wh_pts.2.2.1]
 exact ⟨rfl, rfl⟩
theorem wf_back {o hd : Bool} {z : ByteArray} {x : DeN} (h : entX o z x = 0) (h2 : wfE x = 0) (hh : x.wh = true -> hd = true) : entX false z (wfX x) = 0 /\ rfE hd (wfX x) = 0 /\ rfX (wfX x) = x /\ (wfX x).nm = x.nm := by
 obtain ⟨_, _, _, p4, p5, p6, p7, p8, p9, _⟩ := ent_parts h
 obtain ⟨k1, k2⟩ := ent_kind h
 obtain ⟨m1, m2⟩ := ent_marks h
 have hsk := solo_kind p6
 cases hw : x.wh with
 | true =>
  have h5 : x.nd.kd = 5 := by rw [hw] at k1; exact beq_iff_eq.1 k1.symm
  have hc : x.nd.cl = 0 := by have := (m2 h5).1; omega
  have hns : x.ns = 1 := by omega
  have hfi := ent_first h hns
  have hnd := nd_ext p4 p5 h5 hsk hc
  rw [(wf_white hw).2]
  obtain ⟨q1, q2⟩ := wh_hid
  obtain ⟨r1, r2⟩ := rf_hid (o := hd) (x := { x with wh := false, nd := whN }) rfl hfi wh_pts.1 q2
  refine ⟨entX_put h rfl rfl rfl rfl (show (⟨#[]⟩ : ByteArray).toList = [] by rw [tL]; rfl) hc.symm (solo_keep p6 ?_ (wh_kind rfl rfl rfl rfl) wh_pts.2.2.2) rfl (fun e => absurd e (show ¬ (2 : Int) = 1 by decide)) (fun e => absurd e (show ¬ (2 : Int) = 5 by decide)), ?_, ?_, rfl⟩
  ·show (2 : Int) = 1 ↔ _; omega
  ·rw [r1, if_pos ⟨by show hidB whN x.ns = true; rw [hns]; exact q1, hh hw⟩]
  ·rw [r2]
   obtain ⟨nm, nd, wh, fi, ns⟩ := x
   simp only at *
   subst hw hnd
   rfl
 | false =>
  have h5 : x.nd.kd ≠ 5 := fun e => by rw [hw, e] at k1; cases k1
  cases hf : x.fi with
  | false =>
   rw [(wf_rest hw hf).2]
   obtain ⟨r1, r2⟩ := rf_rest (o := hd) hw hf
   exact ⟨entX_put h rfl rfl rfl p4 p5 rfl p6 k1 m1 (fun e => absurd e h5), r1, r2, rfl⟩
  | true =>
   obtain ⟨e1, e2⟩ := wf_first hw hf
   rw [e1] at h2
   rw [e2]
   obtain ⟨q1, q2, q3, _, q4, q5, q6⟩ := fu_read h2 (fun e => absurd e (by decide))
   have hb := rf_book (o := hd) (x := { x with nd := { x.nd with ats := mwL 2 x.nd.ats (fuM false false [] x.ns) } }) hw hf q1 q3 (by rw [q4, q5]; rfl)
   refine ⟨entX_put h rfl rfl rfl p4 p5 rfl (solo_keep p6 Iff.rfl (kind_ats hsk h5) (mw_chk h2)) k1 (fun e => ?_) (fun e => absurd e h5), ?_, ?_, rfl⟩
   ·obtain ⟨a1, a2⟩ := m1 e
    refine ⟨?_, a2⟩
    show mwL 2 x.nd.ats _ = []
    rw [a1] at h2 ⊢
    rw [(mw_zero h2).2.2]
    show setM 2 (setM 2 (setM 2 (atsL 2 []) (opqW, hidS false false)) (reW, redS [])) (nlW, linkS x.ns) = []
    rw [setM_no (show (linkS x.ns).size = 0 by rw [link_one (by omega)]; rfl), setM_no (show (redS []).size = 0 by rfl), setM_no (show (hidS false false).size = 0 by rfl)]
    decide
   ·rw [hb]; exact q6
   ·rw [rf_node (x := { x with nd := { x.nd with ats := mwL 2 x.nd.ats (fuM false false [] x.ns) } }) hf q3]
    show (⟨x.nm, { x.nd with ats := ptsP 2 (mwL 2 x.nd.ats (fuM false false [] x.ns)) }, x.wh, x.fi, x.ns⟩ : DeN) = x
    rw [q2]
theorem fc_back {d : DiN} (h : fcE d = 0) : dirE (fcD d) = 0 /\ frT (fcD d) = (d, 0, 0) := by
 obtain ⟨h1, h2, h3, h4⟩ := fc_zero h
 rw [(fc_of h4).1]
 obtain ⟨_, c1, c2, c3, c4, c5⟩ := dirE_zero h1
 obtain ⟨q1, q2, q0, q3, q4, q5, q6⟩ := fu_read h2 (fun _ => c3)
 obtain ⟨t1, t2, t3, t4⟩ := ft_of q3
 have hwh : ∀ j, j < d.ens.length -> (getE d.ens j).wh = true -> (!d.opq && anyW d.ens) = true := fun j hj e => by
  obtain ⟨k1, k2⟩ := ent_kind (c5 j hj)
  rw [e] at k1
  rw [k2 (beq_iff_eq.1 k1.symm), Bool.not_false, Bool.true_and]
  unfold anyW
  rw [List.any_eq_true]
  exact ⟨_, by rw [getE_at _ _ hj]; exact List.getElem_mem hj, e⟩
 have hb := fun j (hj : j < d.ens.length) => wf_back (c5 j hj) (h3 j hj) (hwh j hj)
 have hd : dirE (⟨mwL 2 d.ats (fuM d.opq (anyW d.ens) d.red 1), false, [], d.ens.map wfX⟩ : DiN) = 0 := by
  refine (dir_of (dirT_ok (d := ⟨mwL 2 d.ats (fuM d.opq (anyW d.ens) d.red 1), false, [], d.ens.map wfX⟩) (mw_chk h2) (by rintro ⟨e, _⟩; cases e) (show pathE [] = 0 by decide) (by show ¬ 24 < (d.ens.map wfX).length; rw [List.length_map]; omega) fun j hj => ?_)).2
  have hj : j < d.ens.length := by have hj : j < (d.ens.map wfX).length := hj; rwa [List.length_map] at hj
  show entX false (lastE (d.ens.map wfX) j) (getE (d.ens.map wfX) j) = 0
  rw [lastE_map (fun k hk => (hb k hk).2.2.2) hj, getE_map hj]
  exact (hb j hj).1
 refine ⟨hd, ?_⟩
 have hl : isM (ptsO 2 (mwL 2 d.ats (fuM d.opq (anyW d.ens) d.red 1))) nlW = false := by
  rw [one_book] at q6
  cases e : isM (ptsO 2 (mwL 2 d.ats (fuM d.opq (anyW d.ens) d.red 1))) nlW with
  | false => rfl
  | true => rw [e] at q6; cases q6
 have he : (d.ens.map wfX).map rfX = d.ens := by
  rw [List.map_map]
  refine List.ext_getElem (by simp) fun j a1 a2 => ?_
  have := (hb j a2).2.2.1
  rw [getE_at _ _ a2] at this
  simpa using this
 have := frT_ok (d := ⟨mwL 2 d.ats (fuM d.opq (anyW d.ens) d.red 1), false, [], d.ens.map wfX⟩) hd (by rintro (e | e); cases e; exact absurd e (show ¬ 0 < ([] : List ByteArray).length by decide)) q1 q0 hl (by
  show ¬ (ftE (ptsO 2 (mwL 2 d.ats (fuM d.opq (anyW d.ens) d.red 1))) ≠ 0 \/ (ftO (ptsO 2 (mwL 2 d.ats (fuM d.opq (anyW d.ens) d.red 1))) = true /\ 0 < (ftR (ptsO 2 (mwL 2 d.ats (fuM d.opq (anyW d.ens) d.red 1)))).length))
  rw [t1, t3, t4]
  rintro (e | e)
  ·exact e rfl
  ·exact c2 e) (by
  show (gnT (rfE (ftH (ptsO 2 (mwL 2 d.ats (fuM d.opq (anyW d.ens) d.red 1))))) (d.ens.map wfX)).2 = 0
  rw [t2, gnT_ok fun j hj => ?_]
  rw [List.length_map] at hj
  rw [getE_map hj]
  exact (hb j hj).2.1) (by
  show ¬ (ftH (ptsO 2 (mwL 2 d.ats (fuM d.opq (anyW d.ens) d.red 1))) = true /\ anyW ((d.ens.map wfX).map rfX) = false)
  rw [t2, he]
  rintro ⟨e1, e2⟩
  rw [e2, Bool.and_false] at e1; cases e1)
 rw [this]
 show ((⟨ptsP 2 (mwL 2 d.ats (fuM d.opq (anyW d.ens) d.red 1)), ftO (ptsO 2 (mwL 2 d.ats (fuM d.opq (anyW d.ens) d.red 1))), ftR (ptsO 2 (mwL 2 d.ats (fuM d.opq (anyW d.ens) d.red 1))), (d.ens.map wfX).map rfX⟩ : DiN), (0 : Int), (0 : Int)) = (d, 0, 0)
 rw [q2, t1, t3, he]
/-! Has a directory of a branch a whiteout? -/
theorem amoG_iff {D : Nat -> Int} {P : Nat -> Bool} {d : Int} : ∀ {m k : Nat}, amoG D P d m k = true ↔ ∃ j, k <= j /\ j < k + m /\ D j = d + 1 /\ P j = true /\ ∀ i, k <= i -> i <= j -> d < D i
 | 0, k => by
  unfold amoG
  exact ⟨fun e => (by cases e), fun ⟨j, h1, h2, _⟩ => by omega⟩
 | m + 1, k => by
  unfold amoG
  by_cases h1 : D k <= d
  ·rw [if_pos h1]
   refine ⟨fun e => (by cases e), fun ⟨j, a, _, _, _, b⟩ => ?_⟩
   have := b k (Nat.le_refl _) a
   omega
  rw [if_neg h1]
  by_cases h2 : D k = d + 1 /\ P k = true
  ·rw [if_pos h2]
   refine ⟨fun _ => ⟨k, Nat.le_refl _, by omega, h2.1, h2.2, fun i a b => ?_⟩, fun _ => rfl⟩
   obtain rfl : i = k := by omega
   omega
  rw [if_neg h2, amoG_iff (m := m) (k := k + 1)]
  constructor
  ·rintro ⟨j, a, b, c, e, f⟩
   refine ⟨j, by omega, by omega, c, e, fun i g1 g2 => ?_⟩
   by_cases x : i = k
   ·subst x; omega
   ·exact f i (by omega) g2
  ·rintro ⟨j, a, b, c, e, f⟩
   have : j ≠ k := fun x => by subst x; exact h2 ⟨c, e⟩
   exact ⟨j, by omega, by omega, c, e, fun i g1 g2 => f i (by omega) g2⟩
theorem kid_iff {t : List TrN} (h : treeE t = 0) {n j : Nat} (hj : j < t.length) : abv t j = (n : Int) ↔ n < j /\ (getT t j).dep = (getT t n).dep + 1 /\ ∀ i, n < i -> i <= j -> (getT t n).dep < (getT t i).dep := by
 have z3 := (treeE_zero h).2.2.1
 constructor
 ·intro e
  obtain ⟨a, b, _, c⟩ := abv_kid (fun k hk => z3 k (by omega)) e
  exact ⟨a, b, fun i x y => by have := c i x y; omega⟩
 ·rintro ⟨a, b, c⟩
  exact abvE_of a (by omega) fun k x y => by have := c k x (by omega); omega
theorem any_hd {b : List BrN} (h : brEr b = 0) {n : Nat} (hn : n < b.length) : anyW (dirD b n).ens = hdB b n := by
 have t0 := (brEr_zero h).1
 have hd : ∀ k, k < b.length -> (getT (plT b) k).dep = (getB b k).dep := fun k hk => by rw [getT_plT b k hk]
 rw [Bool.eq_iff_iff]
 unfold hdB amoB
 rw [amoG_iff]
 unfold anyW
 rw [List.any_eq_true]
 constructor
 ·rintro ⟨x, hx, hw⟩
  obtain ⟨j, hj, rfl⟩ := List.mem_map.1 hx
  obtain ⟨hj1, hj2⟩ := List.mem_filter.1 hj
  have hj1 := List.mem_range.1 hj1
  obtain ⟨a, c, e⟩ := (kid_iff t0 (by rw [plT_len]; exact hj1)).1 (of_decide_eq_true hj2)
  rw [hd j hj1, hd n hn] at c
  refine ⟨j, by omega, by omega, c, hw, fun i x y => ?_⟩
  have := e i (by omega) y
  rw [hd i (by omega), hd n hn] at this
  exact this
 ·rintro ⟨j, a, c, e, f, g⟩
  have hj : j < b.length := by omega
  refine ⟨entD b n j, List.mem_map.2 ⟨j, List.mem_filter.2 ⟨List.mem_range.2 hj, decide_eq_true ((kid_iff t0 (by rw [plT_len]; exact hj)).2 ⟨by omega, by rw [hd j hj, hd n hn]; exact e, fun i x y => ?_⟩)⟩, rfl⟩, f⟩
  rw [hd i (by omega), hd n hn]
  exact g i (by omega) y
theorem fe_raw {b : List BrN} (h : feF b = 0) : (feL b).length = b.length /\ (∀ i, i < b.length -> getB (rawB (feL b)) i = rawX (feX b i)) /\ (∀ k, (getT (feL b) k).dep = (getT (plT b) k).dep) /\ (∀ k, (getT (feL b) k).cl = (getT (plT b) k).cl) := by
 obtain ⟨h1, h2, h3, _⟩ := fe_parts h
 have hlen : (feL b).length = b.length := by rw [h3]; simp
 have hg : ∀ i, i < b.length -> getT (feL b) i = feX b i := fun i hi => by rw [h3]; exact getT_range hi
 have h0 : ∀ k, ¬ k < b.length -> getT (feL b) k = zTrN /\ getT (plT b) k = zTrN := fun k hk => by
  constructor
  ·unfold getT; rw [List.getD, List.getElem?_eq_none (by omega)]; rfl
  ·unfold getT; rw [List.getD, List.getElem?_eq_none (by rw [plT_len]; omega)]; rfl
 refine ⟨hlen, fun i hi => ?_, fun k => ?_, fun k => ?_⟩
 ·have : getB (rawB (feL b)) i = rawX (getT (feL b) i) := getT_map (feL b) (by omega) rawX
  rw [this, hg i hi]
 ·by_cases hk : k < b.length
  ·rw [hg k hk, getT_plT b k hk]; exact (fe_says h hk).dep
  ·rw [(h0 k hk).1, (h0 k hk).2]
 ·by_cases hk : k < b.length
  ·rw [hg k hk, getT_plT b k hk]; exact (fe_says h hk).cl
  ·rw [(h0 k hk).1, (h0 k hk).2]
theorem mw_bare2 {n : Int} (hn : n < 2) (h : mwE 2 [] (fuM false false [] n) = 0) : mwL 2 [] (fuM false false [] n) = [] := by
 rw [(mw_zero h).2.2]
 show setM 2 (setM 2 (setM 2 (atsL 2 []) (opqW, hidS false false)) (reW, redS [])) (nlW, linkS n) = []
 rw [setM_no (show (linkS n).size = 0 by rw [link_one hn]; rfl), setM_no (show (redS []).size = 0 by rfl), setM_no (show (hidS false false).size = 0 by rfl)]
 decide
theorem fe_ent {b : List BrN} (h : feF b = 0) {n i : Nat} (hi : i < b.length) {neu : List DeN} {q : Nat} (hq : q < neu.length) (hn : getE neu q = entD b n i) (hf1 : (entD b n i).ns = 1 -> (entD b n i).fi = true) :
  wfE (entD b n i) = 0 /\ wfX (entD b n i) = leftX neu q (entD (rawB (feL b)) n i) := by
 obtain ⟨h1, h2, _, _⟩ := fe_parts h
 obtain ⟨hl, hg, hd, hc⟩ := fe_raw h
 have t0 := (brEr_zero h1).1
 have hr : entD (rawB (feL b)) n i = ⟨(getB b i).nm, nodX (feX b i), (feX b i).kd == 5, firstB b n i, (namesL b i).length⟩ := by
  unfold entD
  rw [rawB_names hl hc, rawB_first hl hd hc, hg i hi]
  show DeN.mk (feX b i).nm _ _ _ _ = _
  rw [(fe_says h hi).nm]; rfl
 have hk := br_kind h1 hi
 rw [hr]
 by_cases h5 : (getB b i).kd = 5
 ·have hw : (entD b n i).wh = true := beq_iff_eq.2 h5
  refine ⟨(wf_white hw).1, ?_⟩
  have hns : ((namesL b i).length : Int) = 1 := by rw [<- names_many hi, (kind_white hk h5).2.2.2.2]; rfl
  have hfi : firstB b n i = true := hf1 hns
  rw [(wf_white hw).2, (fe_white rfl h5).2]
  unfold leftX
  rw [hfi, if_neg (by rintro ⟨e, _⟩; cases e)]
  have e1 : nodX (⟨(getB b i).dep, (getB b i).nm, 2, whA, ⟨#[]⟩, 0, 0, 0⟩ : TrN) = whN := by unfold nodX; rw [if_neg (by show ¬ (2 : Int) = 1; decide)]; rfl
  rw [e1]
  show DeN.mk _ _ _ (firstB b n i) _ = _
  rw [hfi]; rfl
 ·have hm := fe_zero (h2 i hi) h5
  obtain ⟨_, e2⟩ := fe_node rfl h5
  have hw : (entD b n i).wh = false := nB h5
  rw [names_many hi] at hm e2
  rw [e2]
  have hkd : (({ (getB b i).toTrN with ats := mwL 2 (getB b i).ats (fuM (getB b i).opq (hdB b i) (getB b i).red ((namesL b i).length : Int)) } : TrN).kd == 5) = ((getB b i).kd == 5) := rfl
  rw [hkd]
  by_cases h1k : (getB b i).kd = 1
  ·have hcl : (getB b i).cl = 0 := kind_dir hk h1k
   have hns : ((namesL b i).length : Int) = 1 := by rw [<- names_many hi, hcl]; rfl
   have hn1 : (entD b n i).nd = rootN := by show nodX (getB b i).toTrN = rootN; unfold nodX; rw [if_pos h1k]
   have hn2 : nodX ({ (getB b i).toTrN with ats := mwL 2 (getB b i).ats (fuM (getB b i).opq (hdB b i) (getB b i).red ((namesL b i).length : Int)) } : TrN) = rootN := by unfold nodX; rw [if_pos h1k]
   have hm0 : mwE 2 [] (fuM false false [] 1) = 0 := by kernel_rfl
   have hl0 : mwL 2 [] (fuM false false [] 1) = [] := mw_bare2 (by decide) hm0
   have e3 : wfX (entD b n i) = entD b n i := by
    cases hf : (entD b n i).fi with
    | false => exact (wf_rest hw hf).2
    | true =>
     rw [(wf_first hw hf).2]
     have : (entD b n i).ns = 1 := hns
     rw [this, hn1]
     show DeN.mk _ { rootN with ats := mwL 2 [] (fuM false false [] 1) } _ _ _ = _
     rw [hl0]
     show DeN.mk _ rootN _ _ _ = _
     rw [<- hn1, <- this]
   refine ⟨?_, ?_⟩
   ·cases hf : (entD b n i).fi with
    | false => exact (wf_rest hw hf).1
    | true =>
     rw [(wf_first hw hf).1]
     have : (entD b n i).ns = 1 := hns
     rw [this, hn1]; exact hm0
   ·rw [e3, hn2]
    unfold leftX
    rw [hn, hn1]
    have : entD b n i = ⟨(getB b i).nm, rootN, (getB b i).kd == 5, firstB b n i, (namesL b i).length⟩ := by rw [<- hn1]; rfl
    split
    ·rw [this]
    ·rw [this]
  ·obtain ⟨m1, m2⟩ := marks_bare ((brEr_zero h1).2.2 i hi) h1k
   rw [m1, m2, hdB_leaf t0 hi h1k] at hm ⊢
   have hn1 : (entD b n i).nd = { (getB b i).toTrN with dep := 0, nm := ⟨#[]⟩ } := by show nodX (getB b i).toTrN = _; unfold nodX; rw [if_neg h1k]
   have hn2 : nodX ({ (getB b i).toTrN with ats := mwL 2 (getB b i).ats (fuM false false [] ((namesL b i).length : Int)) } : TrN) = { (getB b i).toTrN with dep := 0, nm := ⟨#[]⟩, ats := mwL 2 (getB b i).ats (fuM false false [] ((namesL b i).length : Int)) } := by unfold nodX; rw [if_neg h1k]
   rw [hn2]
   unfold leftX
   rw [hn, hn1]
   cases hf : (entD b n i).fi with
   | false =>
    obtain ⟨f1, f2⟩ := wf_rest hw hf
    refine ⟨f1, ?_⟩
    have hf' : firstB b n i = false := hf
    rw [f2, hf', if_pos ⟨rfl, hq⟩]
    show entD b n i = DeN.mk _ _ _ _ _
    have : entD b n i = ⟨(getB b i).nm, (entD b n i).nd, (getB b i).kd == 5, firstB b n i, (namesL b i).length⟩ := rfl
    rw [this, hn1, hf']
   | true =>
    obtain ⟨f1, f2⟩ := wf_first hw hf
    have hf' : firstB b n i = true := hf
    rw [f1, f2, hf', if_neg (by rintro ⟨e, _⟩; cases e), hn1]
    refine ⟨hm, ?_⟩
    show DeN.mk _ _ _ (firstB b n i) _ = _
    rw [hf']; rfl
theorem fparts_enc {b : List BrN} (h : feF b = 0) {n : Nat} (hn : n < b.length) (hk : (getB b n).kd = 1) :
  fcT (dirD b n) = (leftD (dirD (rawB (feL b)) n) (dirD b n), 0, 0) := by
 obtain ⟨h1, h2, _, _⟩ := fe_parts h
 obtain ⟨hl, hg, hd, hc⟩ := fe_raw h
 have h5 : (getB b n).kd ≠ 5 := by omega
 have hm := fe_zero (h2 n hn) h5
 obtain ⟨_, e2⟩ := fe_node rfl h5
 have hcl : (getB b n).cl = 0 := kind_dir (br_kind h1 hn) hk
 have hma : manyT (plT b) (getB b n).cl = 1 := by rw [hcl]; rfl
 have hany := any_hd h1 hn
 rw [hma, <- hany] at hm e2
 have hlen : (dirD b n).ens.length = (kidsL b n).length := by show ((kidsL b n).map _).length = _; rw [List.length_map]
 have hge : ∀ q, q < (kidsL b n).length -> ∃ i, i < b.length /\ (kidsL b n)[q]? = some i /\ getE (dirD b n).ens q = entD b n i := fun q hq => by
  have hi : (kidsL b n)[q]? = some ((kidsL b n)[q]'hq) := List.getElem?_eq_getElem hq
  refine ⟨_, List.mem_range.1 (List.mem_filter.1 (List.getElem_mem hq)).1, hi, ?_⟩
  show ((kidsL b n).map (entD b n)).getD q zDeN = _
  simp [List.getD, hi]
 obtain ⟨_, _, _, _, _, c5⟩ := dirE_zero (dirD_ok h1 hn hk)
 have hfst : ∀ q i, q < (kidsL b n).length -> getE (dirD b n).ens q = entD b n i -> (entD b n i).ns = 1 -> (entD b n i).fi = true := fun q i hq hx e => by
  have this : entX (dirD b n).opq (lastE (dirD b n).ens q) (getE (dirD b n).ens q) = 0 := c5 q (by rw [hlen]; exact hq)
  rw [hx] at this
  exact ent_first this e
 rw [fcT_ok (dirD_ok h1 hn hk) hm (by
  rw [gnT_ok fun q hq => ?_]
  rw [hlen] at hq
  obtain ⟨i, hi, _, hx⟩ := hge q hq
  rw [hx]
  exact (fe_ent h hi (by rw [hlen]; exact hq) hx (hfst q i hq hx)).1)]
 have e3 : (dirD b n).ens.map wfX = leftL (dirD (rawB (feL b)) n).ens (dirD b n).ens := by
  unfold leftL
  have hk2 : (dirD (rawB (feL b)) n).ens = (kidsL b n).map (entD (rawB (feL b)) n) := by show (kidsL _ n).map _ = _; rw [rawB_kids hl hd]
  rw [hk2]
  refine List.ext_getElem (by simp [hlen]) fun q a1 a2 => ?_
  have hq : q < (kidsL b n).length := by rw [List.length_map, hlen] at a1; exact a1
  obtain ⟨i, hi, hki, hx⟩ := hge q hq
  have e1 : ((dirD b n).ens.map wfX)[q]'a1 = wfX (getE (dirD b n).ens q) := by
   rw [List.getElem_map, getE_at _ _ (by rw [hlen]; exact hq)]
  rw [e1, hx, (fe_ent h hi (by rw [hlen]; exact hq) hx (hfst q i hq hx)).2]
  simp only [List.getElem_map, List.getElem_range]
  congr 1
  show _ = ((kidsL b n).map (entD (rawB (feL b)) n)).getD q zDeN
  simp [List.getD, hki]
 have e4 : (getB (rawB (feL b)) n).ats = mwL 2 (getB b n).ats (fuM (getB b n).opq (anyW (dirD b n).ens) (getB b n).red 1) := by rw [hg n hn, e2]; rfl
 have e5 : (getB (rawB (feL b)) n).opq = false /\ (getB (rawB (feL b)) n).red = [] := by rw [hg n hn]; exact ⟨rfl, rfl⟩
 rw [e3]
 show ((⟨mwL 2 (getB b n).ats (fuM (getB b n).opq (anyW (dirD b n).ens) (getB b n).red 1), false, [], _⟩ : DiN), (0 : Int), (0 : Int)) = ((⟨(getB (rawB (feL b)) n).ats, (getB (rawB (feL b)) n).opq, (getB (rawB (feL b)) n).red, _⟩ : DiN), 0, 0)
 rw [e4, e5.1, e5.2]
end Go.Proofs.YtimpejaaeinplaaGreatDoor
