/- ParW OvB AwkO FuQ FuG -/
import Derived.Test.YtimpejaaeinplaaGreatDoorQI5
import Derived.Test.YtimpejaaeinplaaGreatDoorShelp
import Derived.Test.YtimpejaaeinplaaGreatDoorSheli
import Derived.Test.YtimpejaaeinplaaGreatDoorQWlkQ
import Derived.Test.YtimpejaaeinplaaGreatDoorQBsdE
namespace Go.Proofs.YtimpejaaeinplaaGreatDoor
open Go.RowKit

set_option maxRecDepth 100000 in
set_option maxHeartbeats 2000000 in
theorem pathsParse (s : ByteArray) (w : World) (hL : LaidO w) (hs : s.size <= 1000000) :
    Calls Tryz.prog 149 #[.string s] w fun e w' => (∃ a cap, e = .returned (.tuple #[.slice a (parL s).length cap, .int .i64 (parE s)]) /\ StrIn 0 w' (.slice a (parL s).length cap) (parL s)) /\ Ext w w' := by
  have HL := hQq hL
  clear hL
  cases hp : hasP s ⟨#[47]⟩ with
  | false =>
    have HR := hQq (par_of (par_form (s := s) (fun e => by rw [head_hasP.2 e] at hp; cases hp)))
    go_enter Tryz.func149, Tryz.ntmps149
    go_wp2_with (go_at_call 189; refine (cutPrefix _ _ _).mono ?_; rintro e w' ⟨rfl, rfl⟩)
    go_ret2
    exact ⟨⟨none, 0, by rw [HR.out.1, HR.out.2]; rfl, by rw [HR.out.1]; exact strIn_nil _ _ _⟩, Below.refl _ _⟩
  | true =>
    have h1 := head_hasP.1 hp
    have hct := cut_tail hp
    by_cases h2 : (L s).tail = []
    · have HR := hQq (par_of (par_root h1 h2))
      have q1 : (cutP s ⟨#[47]⟩).toList.isEmpty = true := by rw [toList_L, hct, h2]; rfl
      clear h1 hct h2
      go_enter Tryz.func149, Tryz.ntmps149
      go_wp2_with (go_at_call 189; refine (cutPrefix _ _ _).mono ?_; rintro e w' ⟨rfl, rfl⟩)
      go_ret2
      exact ⟨⟨none, 0, by rw [HR.out.1, HR.out.2]; rfl, by rw [HR.out.1]; exact strIn_nil _ _ _⟩, Below.refl _ _⟩
    · have q1 : (cutP s ⟨#[47]⟩).toList.isEmpty = false := by
        rw [toList_L, hct]
        cases e : (L s).tail with
        | nil => exact absurd e h2
        | cons _ _ => rfl
      have HZ : Hid ((cutP s ⟨#[47]⟩).size <= 1000000) := hQq (Nat.le_trans (cutP_le s ⟨#[47]⟩) hs)
      have HC := hQq hct
      by_cases h3 : pathE (cutsB (L s).tail) = 0
      · have HR := hQq (par_of (par_ok h1 h2 h3))
        have q2 : (pathE (cutsB (L s).tail) != 0) = false := bne_eq_false_iff_eq.2 h3
        clear h1 hct h2 h3
        go_enter Tryz.func149, Tryz.ntmps149
        go_wp2_with (first
          | (go_at_call 189; refine (cutPrefix _ _ _).mono ?_; rintro e w' ⟨rfl, rfl⟩)
          | (go_at_call 192; refine (splitSlash _ _ HL.out HZ.out).mono ?_; rw [HC.out]; rintro e w1 ⟨⟨a, cap, rfl, ho⟩, hb⟩; have HO := hQq ho; have HB := hQq hb; clear ho hb)
          | (go_at_call 138; refine (pathsCheck _ _ _ HO.out.strs).mono ?_; rintro e w2 ⟨rfl, hb⟩; have HB2 := hQq (Ext.trans HB.out hb); have HO2 := hQq (HO.out.ext okS hb); clear hb))
        go_ret2
        exact ⟨⟨_, _, by rw [HR.out.1, HR.out.2]; rfl, by rw [HR.out.1]; exact HO2.out⟩, HB2.out⟩
      · have HR := hQq (par_of (par_bad h1 h2 h3))
        have q2 : (pathE (cutsB (L s).tail) != 0) = true := bne_iff_ne.2 h3
        clear h1 hct h2 h3
        go_enter Tryz.func149, Tryz.ntmps149
        go_wp2_with (first
          | (go_at_call 189; refine (cutPrefix _ _ _).mono ?_; rintro e w' ⟨rfl, rfl⟩)
          | (go_at_call 192; refine (splitSlash _ _ HL.out HZ.out).mono ?_; rw [HC.out]; rintro e w1 ⟨⟨a, cap, rfl, ho⟩, hb⟩; have HO := hQq ho; have HB := hQq hb; clear ho hb)
          | (go_at_call 138; refine (pathsCheck _ _ _ HO.out.strs).mono ?_; rintro e w2 ⟨rfl, hb⟩; have HB2 := hQq (Ext.trans HB.out hb); clear hb))
        go_ret2
        exact ⟨⟨none, 0, by rw [HR.out.1, HR.out.2]; rfl, by rw [HR.out.1]; exact strIn_nil _ _ _⟩, HB2.out⟩
end Go.Proofs.YtimpejaaeinplaaGreatDoor
namespace Go.Proofs.YtimpejaaeinplaaGreatDoor
open Go.RowKit

theorem evalTo {a : Act} {t : Tmp} {v : Value} (h : a.eval (.tmp t) = v) : a.tmps[t]?.getD undef = v := by
  rw [<- h]; simp [Act.eval, Array.getD_eq_getD_getElem?]
theorem bookB (own : List Attr) (n : Int) : bookE own n = if (valM own nlW).toList == (linkS n).toList then (if isM own nlW = decide (1 < n) then 0 else 18) else 18 := by
  unfold bookE
  have e : ((valM own nlW).toList == (linkS n).toList) = true ↔ valM own nlW = linkS n := by rw [beq_iff_eq, toList_L, toList_L]; exact L_eq_iff
  by_cases h : valM own nlW = linkS n
  · rw [if_pos (e.2 h)]
    by_cases h2 : isM own nlW = decide (1 < n)
    · rw [if_pos ⟨h2, h⟩, if_pos h2]
    · rw [if_neg (fun x => h2 x.1), if_neg h2]
  · rw [if_neg (fun x => h x.2), if_neg (fun x => h (e.1 x))]
end Go.Proofs.YtimpejaaeinplaaGreatDoor
namespace Go.Proofs.YtimpejaaeinplaaGreatDoor
open Go.RowKit

theorem one_in (W w' : World) (n v : ByteArray) (k : Nat) (hk : k = W.heap.size) (he : Ext (W.alloc (.cells #[.string n, .string v] 45)) w') (B : Nat) : AttIn B w' (.slice (some ⟨k, 0, none⟩) 1 1) [(n, v)] :=
  (listIn_new okA W (n, v) [.string n, .string v] k hk rfl).ext okA he
def NewL {α : Type} (C : Cd α) (w : World) (n : Nat) (l : List α) (e : Ending) (w' : World) : Prop := (∃ g c, e = .returned (.slice (some ⟨g, 0, none⟩) n c) /\ OwnL C w.heap.size w' (.slice (some ⟨g, 0, none⟩) n c) l /\ w.heap.size <= g /\ g < w'.heap.size) /\ Ext w w'

theorem put_ats {B : Nat} {w : World} {g c k : Nat} {l : List TrN} {x : TrN} {u : Value} {a : List Attr} (h : OwnL cdT B w (.slice (some ⟨g, 0, none⟩) l.length c) l) (hk : k < l.length) (hx : l[k]'hk = x) (ha : AttIn B w u a) :
    OwnL cdT B (w.setCell ⟨g, k * 8 + 3, none⟩ u) (.slice (some ⟨g, 0, none⟩) l.length c) (l.set k { x with ats := a }) :=
  (h.store okT k hk 3 (by decide) u { x with ats := a } (fun cs hr => by
    obtain ⟨va, _, rfl⟩ := hr
    rw [hx]; exact ⟨u, ha, rfl⟩)).1
theorem put_kd {B : Nat} {w : World} {g c k : Nat} {l : List BrN} {x : BrN} {n : Int} (h : OwnL cdB B w (.slice (some ⟨g, 0, none⟩) l.length c) l) (hk : k < l.length) (hx : l[k]'hk = x) :
    OwnL cdB B (w.setCell ⟨g, k * 10 + 2, none⟩ (.int .i64 n)) (.slice (some ⟨g, 0, none⟩) l.length c) (l.set k { x with kd := n }) :=
  (h.store okB k hk 2 (by decide) _ { x with kd := n } (fun cs hr => by
    subst hx
    obtain ⟨va, vr, h1, h2, rfl⟩ := hr
    exact ⟨va, vr, h1, h2, rfl⟩)).1
theorem at_ats {B : Nat} {w : World} {g n c : Nat} {l : List TrN} (h : OwnL cdT B w (.slice (some ⟨g, 0, none⟩) n c) l) (k : Nat) (hk : k < l.length) : ∃ u, w.cell? ⟨g, k * 8 + 3, none⟩ = some u /\ AttIn B w u (l[k]'hk).ats := by
  obtain ⟨b, off, va, e, _, h1, _, _, _, h3, _⟩ := (h.in okT).tr k hk
  cases e
  rw [Nat.zero_add] at h3
  exact ⟨va, h3, h1⟩
theorem at_kd {B : Nat} {w : World} {g n c : Nat} {l : List BrN} (h : OwnL cdB B w (.slice (some ⟨g, 0, none⟩) n c) l) (k : Nat) (hk : k < l.length) : w.cell? ⟨g, k * 10 + 2, none⟩ = some (.int .i64 (l[k]'hk).kd) := by
  obtain ⟨b, off, va, vr, e, _, _, _, _, _, h3, _⟩ := (h.in okB).br k hk
  cases e
  rw [Nat.zero_add] at h3
  exact h3
end Go.Proofs.YtimpejaaeinplaaGreatDoor
namespace Go.Proofs.YtimpejaaeinplaaGreatDoor
open Go.RowKit

theorem fe_parts {b : List BrN} (h : feF b = 0) : brEr b = 0 /\ (∀ j, j < b.length -> feE b j = 0) /\ feL b = (List.range b.length).map (feX b) /\ feN b = 0 := by
  obtain ⟨h1, h2, h3⟩ := gen_zero (b := b) (E := feE b) (X := feX b) h
  have h3 : feT b = ((List.range b.length).map (feX b), 0, 0) := h3
  exact ⟨h1, h2, (fe_of h3).1, (fe_of h3).2.1⟩
theorem fe_zero {b : List BrN} {i : Nat} (h : feE b i = 0) (hk : (getB b i).kd ≠ 5) : mwE 2 (getB b i).ats (fuM (getB b i).opq (hdB b i) (getB b i).red (manyT (plT b) (getB b i).cl)) = 0 := by
  rw [(fe_node rfl hk).1] at h; exact h
theorem fe_same (b : List BrN) (i : Nat) (h5 : (getB b i).kd = 5 -> (getB b i).cl = 0) : (feX b i).dep = (getB b i).dep /\ (feX b i).nm = (getB b i).nm /\ (feX b i).cl = (getB b i).cl /\ ((feX b i).kd = 1 ↔ (getB b i).kd = 1) := by
  by_cases hk : (getB b i).kd = 5
  · rw [(fe_white rfl hk).2]
    refine ⟨rfl, rfl, (h5 hk).symm, ?_⟩
    show (2 : Int) = 1 ↔ _
    omega
  · rw [(fe_node rfl hk).2]; exact ⟨rfl, rfl, rfl, Iff.rfl⟩
theorem fe_cls {b : List BrN} (h5 : ∀ i, i < b.length -> (getB b i).kd = 5 -> (getB b i).cl = 0) (i : Nat) : (getT ((List.range b.length).map (feX b)) i).cl = (getT (plT b) i).cl := by
  by_cases hi : i < b.length
  · rw [getT_range hi, getT_plT b i hi]; exact (fe_same b i (h5 i hi)).2.2.1
  · have e1 : getT (plT b) i = zTrN := by unfold getT; rw [List.getD, List.getElem?_eq_none (by rw [plT_len]; omega)]; rfl
    have e2 : getT ((List.range b.length).map (feX b)) i = zTrN := by unfold getT; rw [List.getD, List.getElem?_eq_none (by simp; omega)]; rfl
    rw [e1, e2]
theorem hdB_leaf {b : List BrN} (h : treeE (plT b) = 0) {i : Nat} (hi : i < b.length) (hk : (getB b i).kd ≠ 1) : hdB b i = false := by
  refine amo_leaf fun h1 => ?_
  have := tree_leaf h (i := i) (by rw [getT_plT b i hi]; exact hk) (by rw [plT_len]; exact h1)
  rw [getT_plT b i hi, getT_plT b (i + 1) h1] at this
  exact this
theorem ft_fu {own : List Attr} {o h : Bool} {r : List ByteArray} (h1 : getM own opqW = if (hidS o h).size = 0 then none else some (hidS o h)) (h2 : getM own reW = if (redS r).size = 0 then none else some (redS r)) (hr : 0 < r.length -> pathE r = 0) :
    ftT own = ((o, !o && h), r, 0) /\ isM own opqW = (o || h) /\ isM own reW = decide (0 < r.length) := by
  obtain ⟨a1, a2⟩ := isM_get h1
  obtain ⟨b1, b2⟩ := isM_get h2
  have e1 : isM own opqW = (o || h) := by
    rw [a1]
    have := hid_size o h
    cases o <;> cases h <;> decide
  have e2 : isM own reW = decide (0 < r.length) := by
    rw [b1]
    have h := red_size hr
    by_cases e : 0 < r.length
    · rw [decide_eq_true e]; exact decide_eq_true (fun x => by rw [h.1 x] at e; exact absurd e (by decide))
    · rw [decide_eq_false e]; exact decide_eq_false (fun x => x (h.2 (List.length_eq_zero_iff.1 (by omega))))
  have ho : decide (valM own opqW = yW) = o /\ decide (valM own opqW = xW) = (!o && h) := by
    rw [a2]
    cases o <;> cases h <;> exact ⟨by decide, by decide⟩
  have hq : ¬ (isM own opqW = true /\ valM own opqW ≠ yW /\ valM own opqW ≠ xW) := by
    rintro ⟨x, y, z⟩
    rw [e1] at x
    have y := decide_eq_false y; have z := decide_eq_false z
    rw [ho.1] at y; rw [ho.2] at z
    subst y
    cases h
    · cases x
    · cases z
  refine ⟨?_, e1, e2⟩
  by_cases e : 0 < r.length
  · have hv : valM own reW = textP r := by rw [b2]; unfold redS prS; rw [if_pos e, if_pos (hr e)]
    have hp := par_of (text_par (hr e) (fun x => by rw [x] at e; exact absurd e (by decide)))
    rw [ft_led hq (by rw [e2]; exact decide_eq_true e) (by
      rw [hv, hp.1, hp.2]
      rintro (x | x)
      · exact x rfl
      · rw [x] at e; exact absurd e (by decide)), ho.1, ho.2, hv, hp.1]
  · rw [ft_no hq (by rw [e2]; exact decide_eq_false e), ho.1, ho.2, List.length_eq_zero_iff.1 (by omega : r.length = 0)]
theorem isM_no {own : List Attr} {k : ByteArray} (h : getM own k = none) : isM own k = false := by unfold isM; rw [h]; rfl
theorem fu_read {l : List Attr} {o h : Bool} {r : List ByteArray} {n : Int} (hw : mwE 2 l (fuM o h r n) = 0) (hr : 0 < r.length -> pathE r = 0) :
    ptsE 2 (mwL 2 l (fuM o h r n)) = 0 /\ ptsP 2 (mwL 2 l (fuM o h r n)) = l /\ isM (ptsO 2 (mwL 2 l (fuM o h r n))) whW = false /\ ftT (ptsO 2 (mwL 2 l (fuM o h r n))) = ((o, !o && h), r, 0) /\ isM (ptsO 2 (mwL 2 l (fuM o h r n))) opqW = (o || h) /\
    isM (ptsO 2 (mwL 2 l (fuM o h r n))) reW = decide (0 < r.length) /\ bookE (ptsO 2 (mwL 2 l (fuM o h r n))) n = 0 := by
  obtain ⟨p1, p2, p3⟩ := pts_mw hw (fuM_ok _ _ _ _)
  have hgm := fun k => getM_perm (fuM_ok o h r n).full.1 (srtA_perm _) k
  obtain ⟨g1, g2, g3, g4⟩ := fu_get o h r n
  rw [<- hgm, <- p3] at g1 g2 g3 g4
  obtain ⟨t1, t2, t3⟩ := ft_fu g1 g2 hr
  exact ⟨p1, p2, isM_no g4, t1, t2, t3, book_ov g3⟩
theorem fe_back {b : List BrN} (h : feF b = 0) : treeE (feL b) = 0 /\ fdT (feL b) = (b, 0, 0) := by
  obtain ⟨h1, h2, h3, _⟩ := fe_parts h
  obtain ⟨t0, _, hmk⟩ := brEr_zero h1
  obtain ⟨z1, z2, z3, _, _⟩ := treeE_zero t0
  have hpl := fun j (hj : j < b.length) => getT_plT b j hj
  have hlen := plT_len b
  have hkd : ∀ j, j < b.length -> kindE (getB b j).toTrN = 0 /\ chkE (getB b j).ats = 0 := fun j hj => by
    obtain ⟨_, _, n3, n4, _⟩ := node_parts (z3 j (by omega))
    rw [hpl j hj] at n3 n4
    exact ⟨n3, n4⟩
  have h5 : ∀ j, j < b.length -> (getB b j).kd = 5 -> (getB b j).cl = 0 := fun j hj hk => (kind_white (hkd j hj).1 hk).2.2.2.2
  rw [h3]
  obtain ⟨u, hu⟩ : ∃ u, u = (List.range b.length).map (feX b) := ⟨_, rfl⟩
  have hul : u.length = b.length := by rw [hu]; simp
  have hug : ∀ i, i < b.length -> getT u i = feX b i := fun i hi => by rw [hu]; exact getT_range hi
  have hcl : ∀ i, (getT u i).cl = (getT (plT b) i).cl := fun i => by rw [hu]; exact fe_cls h5 i
  rw [<- hu]
  have ht : treeE u = 0 := by
    refine tree_keep (t := plT b) (by omega) (fun i hi => ?_) (fun i hi => ?_) (fun i hi => ?_) (fun i k hi hk hp he hlk => ?_) t0
    · rw [hlen] at hi
      rw [hug i hi, hpl i hi]
      exact fe_same b i (h5 i hi)
    · rw [hlen] at hi
      rw [hug i hi]
      by_cases hk : (getB b i).kd = 5
      · rw [(fe_white rfl hk).2]; exact wh_kind rfl rfl rfl rfl
      · rw [(fe_node rfl hk).2]
        exact kind_ats (hkd i hi).1 hk
    · rw [hlen] at hi
      rw [hug i hi]
      by_cases hk : (getB b i).kd = 5
      · rw [(fe_white rfl hk).2]; exact wh_pts.2.2.2
      · have hw := fe_zero (h2 i hi) hk
        rw [(fe_node rfl hk).2]
        exact mw_chk hw
    · rw [hlen] at hi hk
      rw [hpl i hi, hpl k hk] at hlk
      rw [hpl i hi] at hp he
      rw [hpl k hk] at he
      obtain ⟨k1, k2, k3, k4, k5⟩ := like_iff.1 hlk
      have hp : 0 < (getB b i).cl := hp
      have he : (getB b k).cl = (getB b i).cl := he
      have i5 : (getB b i).kd ≠ 5 := fun e => by have := h5 i hi e; omega
      have i1 : (getB b i).kd ≠ 1 := fun e => by have := kind_dir (hkd i hi).1 e; have : (getB b i).cl = 0 := this; omega
      have k1 : (getB b k).kd = (getB b i).kd := k1
      have k5' : (getB b k).kd ≠ 5 := by rw [k1]; exact i5
      have k1' : (getB b k).kd ≠ 1 := by rw [k1]; exact i1
      obtain ⟨oi, ri⟩ := marks_bare (hmk i hi) i1
      obtain ⟨ok, rk⟩ := marks_bare (hmk k hk) k1'
      rw [hug i hi, hug k hk, (fe_node rfl i5).2, (fe_node rfl k5').2, oi, ok, ri, rk, hdB_leaf t0 hi i1, hdB_leaf t0 hk k1', he]
      refine like_iff.2 ⟨k1, ?_, k3, k4, k5⟩
      show mwL 2 (getB b k).ats _ = mwL 2 (getB b i).ats _
      have k2 : (getB b k).ats = (getB b i).ats := k2
      rw [k2]
  refine ⟨ht, ?_⟩
  have hmany : ∀ c, manyT u c = manyT (plT b) c := many_same (by omega) hcl
  have hred : ∀ i, i < b.length -> 0 < (getB b i).red.length -> pathE (getB b i).red = 0 := fun i hi e => (marks_red (hmk i hi) e).2.2.1
  have hwb : ∀ i, i < b.length -> whtB (getT u i) = ((getB b i).kd == 5) := fun i hi => by
    rw [hug i hi]
    by_cases hk : (getB b i).kd = 5
    · rw [(fe_white rfl hk).2, hk]
      show isM (ptsO 2 whA) whW = _
      rw [wh_pts.2.2.1]; decide
    · rw [(fe_node rfl hk).2, beq_eq_false_iff_ne.2 hk]
      exact (fu_read (fe_zero (h2 i hi) hk) (hred i hi)).2.2.1
  have hhd : ∀ i, i < b.length -> hdT u i = hdB b i := fun i hi => by
    unfold hdT hdB
    rw [hul]
    exact amoB_congr hi fun j hj => ⟨by show (getT u j).dep = _; rw [hug j hj]; exact (fe_same b j (h5 j hj)).1, hwb j hj⟩
  have hnode : ∀ i, i < b.length -> fdE u i = 0 /\ fdX u i = getB b i := fun i hi => by
    by_cases hk : (getB b i).kd = 5
    · have hg := (hug i hi).trans (fe_white rfl hk).2
      have hw : whtB (getT u i) = true := by rw [hwb i hi, hk]; rfl
      refine ⟨?_, ?_⟩
      · have hm : manyT u (getT u i).cl = 1 := by rw [hg]; rfl
        rw [fd_hid (by rw [hg]; show (2 : Int) ≠ 5; decide) (by rw [hg]; exact wh_pts.1) hw, hm, if_pos]
        rw [hg]
        unfold hidB
        rw [show ptsP 2 (⟨(getB b i).dep, (getB b i).nm, 2, whA, ⟨#[]⟩, 0, 0, 0⟩ : TrN).ats = [] from wh_pts.2.1, show ptsO 2 (⟨(getB b i).dep, (getB b i).nm, 2, whA, ⟨#[]⟩, 0, 0, 0⟩ : TrN).ats = [(whW, yW)] from wh_pts.2.2.1]
        rfl
      · rw [fd_wx hw, hg]
        obtain ⟨w1, w2, w3, w4, w5⟩ := kind_white (hkd i hi).1 hk
        obtain ⟨m1, m2⟩ := marks_bare (hmk i hi) (by omega)
        have w2 := bytes_nil w2
        clear hg hw
        revert hk w1 w2 w3 w4 w5 m1 m2
        generalize getB b i = x
        intro hk w1 w2 w3 w4 w5 m1 m2
        obtain ⟨⟨dep, nm, kd, ats, dat, ma, mi, cl⟩, opq, red⟩ := x
        simp only at hk w1 w2 w3 w4 w5 m1 m2
        subst hk w1 w2 w3 w4 w5 m1 m2
        rfl
    · have hw := fe_zero (h2 i hi) hk
      have hg := (hug i hi).trans (fe_node rfl hk).2
      have hwh : whtB (getT u i) = false := by rw [hwb i hi]; exact beq_eq_false_iff_ne.2 hk
      obtain ⟨p1, p2, _, t1, t2, t3, hb⟩ := fu_read hw (hred i hi)
      obtain ⟨q1, q2, q3, q4⟩ := ft_of t1
      have hkg : (getT u i).kd = (getB b i).kd := by rw [hg]
      have hag : (getT u i).ats = mwL 2 (getB b i).ats (fuM (getB b i).opq (hdB b i) (getB b i).red (manyT (plT b) (getB b i).cl)) := by rw [hg]
      have hlf : (getB b i).kd ≠ 1 -> (getB b i).opq = false /\ (getB b i).red = [] /\ hdB b i = false := fun e => ⟨(marks_bare (hmk i hi) e).1, (marks_bare (hmk i hi) e).2, hdB_leaf t0 hi e⟩
      refine ⟨?_, ?_⟩
      · rw [fd_book (by rw [hkg]; exact hk) (by rw [hag]; exact p1) hwh (by
          unfold fbT
          rw [hag, hkg, q4, t2, t3]
          rintro (e | ⟨e, ek⟩ | ⟨e, e0⟩)
          · exact e rfl
          · obtain ⟨m1, m2, m3⟩ := hlf ek
            rw [m1, m2, m3] at e
            cases e
          · exact (marks_red (hmk i hi) (of_decide_eq_true e)).2.1 e0) (by
          rw [hag, hkg, q1, q2, hhd i hi]
          rintro ⟨_, e1, e2⟩
          rw [e1] at e2
          exact e2 rfl), hag]
        show bookE _ (manyT u (getT u i).cl) = 0
        rw [hmany, hcl, hpl i hi]; exact hb
      · rw [fd_node hwh, hag, q1, q3, p2, hg]
  have hm : (List.range u.length).map (fdX u) = b := by
    rw [hul]; exact range_B fun i hi => (hnode i hi).2
  have := gend_ok (t := u) (E := fdE u) (X := fdX u) ht (fun j hj => (hnode j (by omega)).1) (by rw [hm]; exact h1)
  rw [hm] at this
  exact this
theorem getM_isM {own : List Attr} {k : ByteArray} : (isM own k = false -> getM own k = none) /\ (isM own k = true -> getM own k = some (valM own k)) := by
  unfold isM valM
  cases getM own k with
  | none => exact ⟨fun _ => rfl, fun e => by cases e⟩
  | some v => exact ⟨fun e => (by cases e), fun _ => rfl⟩
theorem fu_perm {l : List Attr} {h : Bool} {n : Int} (hp : ptsE 2 l = 0) (hw : isM (ptsO 2 l) whW = false) (hT : ftE (ptsO 2 l) = 0) (hb : bookE (ptsO 2 l) n = 0) (hh : hidS (ftO (ptsO 2 l)) h = if isM (ptsO 2 l) opqW = true then valM (ptsO 2 l) opqW else ⟨#[]⟩) :
    (fulM (fuM (ftO (ptsO 2 l)) h (ftR (ptsO 2 l)) n)).Perm (ptsO 2 l) := by
  have hd := dist_ptsO hp
  have hmk := fun a (ha : a ∈ ptsO 2 l) => mark2 (ptsO_mark ha)
  obtain ⟨b1, b2⟩ := book_zero hb
  generalize ptsO 2 l = own at hw hT hh hd hmk b1 b2
  have hr1 : redS (ftR own) = if isM own reW = true then valM own reW else ⟨#[]⟩ := by
    by_cases hq : isM own opqW = true /\ valM own opqW ≠ yW /\ valM own opqW ≠ xW
    · rw [(ft_of (ft_opq hq.1 hq.2.1 hq.2.2)).2.2.2] at hT; cases hT
    cases hr : isM own reW with
    | false => rw [(ft_of (ft_no hq hr)).2.2.1]; rfl
    | true =>
      by_cases hb2 : parE (valM own reW) ≠ 0 \/ parL (valM own reW) = []
      · rw [(ft_of (ft_bad hq hr hb2)).2.2.2] at hT; cases hT
      · rw [(ft_of (ft_led hq hr hb2)).2.2.1]
        have r3 : parL (valM own reW) ≠ [] := fun e => hb2 (.inr e)
        obtain ⟨p1, p2⟩ := par_text (Decidable.not_not.1 fun e => hb2 (.inl e)) r3
        unfold redS prS
        rw [if_pos (List.length_pos_iff.2 r3), if_pos p1, p2, if_pos rfl]
  have hrs : isM own reW = true -> (valM own reW).size ≠ 0 := fun hm e => by
    rw [if_pos hm] at hr1
    by_cases hq : isM own opqW = true /\ valM own opqW ≠ yW /\ valM own opqW ≠ xW
    · rw [(ft_of (ft_opq hq.1 hq.2.1 hq.2.2)).2.2.2] at hT; cases hT
    by_cases hb2 : parE (valM own reW) ≠ 0 \/ parL (valM own reW) = []
    · rw [(ft_of (ft_bad hq hm hb2)).2.2.2] at hT; cases hT
    · have r3 : parL (valM own reW) ≠ [] := fun e => hb2 (.inr e)
      obtain ⟨p1, p2⟩ := par_text (Decidable.not_not.1 fun e => hb2 (.inl e)) r3
      rw [<- p2] at e
      exact textP_size _ e
  have hos : isM own opqW = true -> (valM own opqW).size ≠ 0 := fun hm e => by
    have hv := size_ne_toList.1 e
    have hq : isM own opqW = true /\ valM own opqW ≠ yW /\ valM own opqW ≠ xW := ⟨hm, by rw [hv]; decide, by rw [hv]; decide⟩
    rw [(ft_of (ft_opq hq.1 hq.2.1 hq.2.2)).2.2.2] at hT; cases hT
  refine perm_getM (fuM_ok _ _ _ _).full.1 hd fun k => ?_
  obtain ⟨g1, g2, g3, g4⟩ := fu_get (ftO own) h (ftR own) n
  by_cases k1 : L k = L opqW
  · rw [L_inj k1, g1, hh]
    cases hm : isM own opqW with
    | false => rw [getM_isM.1 hm]; rfl
    | true => rw [getM_isM.2 hm, if_pos rfl, if_neg (hos hm)]
  by_cases k2 : L k = L reW
  · rw [L_inj k2, g2, hr1]
    cases hm : isM own reW with
    | false => rw [getM_isM.1 hm]; rfl
    | true => rw [getM_isM.2 hm, if_pos rfl, if_neg (hrs hm)]
  by_cases k3 : L k = L nlW
  · rw [L_inj k3, g3]
    cases hm : isM own nlW with
    | false =>
      rw [getM_isM.1 hm]
      rw [hm] at b1
      have := of_decide_eq_false b1.symm
      rw [if_pos ((link_size _).2 (by omega))]
    | true =>
      rw [getM_isM.2 hm, b2]
      rw [hm] at b1
      have := of_decide_eq_true b1.symm
      rw [if_neg (fun e => by have := (link_size _).1 e; omega)]
  by_cases k4 : L k = L whW
  · rw [L_inj k4, g4, getM_isM.1 hw]
  · have n1 : getM own k = none := getM_none fun a ha e => by
      have := hmk a ha
      rw [e] at this
      rcases this with e | e | e | e
      · exact k1 e
      · exact k2 e
      · exact k3 e
      · exact k4 e
    rw [n1]
    refine getM_none fun a ha e => ?_
    have ha := (List.mem_filter.1 ha).1
    unfold fuM at ha
    simp only [List.mem_cons, List.not_mem_nil, or_false] at ha
    rcases ha with rfl | rfl | rfl
    · exact k1 e.symm
    · exact k2 e.symm
    · exact k3 e.symm
theorem hid_read {own : List Attr} {h : Bool} (hT : ftE own = 0) (hh : ftO own = false -> ftH own = h) : hidS (ftO own) h = if isM own opqW = true then valM own opqW else ⟨#[]⟩ := by
  have hq : ¬ (isM own opqW = true /\ valM own opqW ≠ yW /\ valM own opqW ≠ xW) := fun hq => by rw [(ft_of (ft_opq hq.1 hq.2.1 hq.2.2)).2.2.2] at hT; cases hT
  have ho : ftO own = decide (valM own opqW = yW) /\ ftH own = decide (valM own opqW = xW) := by
    cases hr : isM own reW with
    | false => exact ⟨(ft_of (ft_no hq hr)).1, (ft_of (ft_no hq hr)).2.1⟩
    | true =>
      by_cases hb2 : parE (valM own reW) ≠ 0 \/ parL (valM own reW) = []
      · rw [(ft_of (ft_bad hq hr hb2)).2.2.2] at hT; cases hT
      · exact ⟨(ft_of (ft_led hq hr hb2)).1, (ft_of (ft_led hq hr hb2)).2.1⟩
  rw [ho.1, ho.2] at hh
  rw [ho.1]
  cases hm : isM own opqW with
  | false =>
    have hv : valM own opqW = ⟨#[]⟩ := by unfold valM; rw [getM_isM.1 hm]; rfl
    rw [hv] at hh ⊢
    have := hh (by decide)
    rw [<- this]; decide
  | true =>
    rw [if_pos rfl]
    by_cases hy : valM own opqW = yW
    · rw [hy]; rfl
    · by_cases hx : valM own opqW = xW
      · rw [hx] at hh ⊢
        have := hh (by decide)
        rw [<- this]; rfl
      · exact absurd ⟨hm, hy, hx⟩ hq
theorem fd_back {t : List TrN} (h : fdF t = 0) : brEr (fdL t) = 0 /\ feT (fdL t) = (t, 0, 0) := by
  obtain ⟨h1, h2, h3, h4⟩ := gend_zero (t := t) (E := fdE t) (X := fdX t) h
  have h4 : fdT t = ((List.range t.length).map (fdX t), 0, 0) := h4
  obtain ⟨z1, z2, z3, _, _⟩ := treeE_zero h1
  rw [(fd_of h4).1]
  obtain ⟨b, hb⟩ : ∃ b, b = (List.range t.length).map (fdX t) := ⟨_, rfl⟩
  rw [<- hb] at h3 ⊢
  have hbl : b.length = t.length := by rw [hb]; simp
  have hbg : ∀ i, i < t.length -> getB b i = fdX t i := fun i hi => by rw [hb]; exact getB_range hi
  have hkd : ∀ j, j < t.length -> kindE (getT t j) = 0 /\ chkE (getT t j).ats = 0 := fun j hj => by
    obtain ⟨_, _, n3, n4, _⟩ := node_parts (z3 j hj)
    exact ⟨n3, n4⟩
  have hk5 : ∀ i, i < t.length -> (getT t i).kd ≠ 5 := fun i hi e => by have := h2 i hi; rw [fd_white e] at this; cases this
  have hpt : ∀ i, i < t.length -> ptsE 2 (getT t i).ats = 0 := fun i hi => Decidable.not_not.1 fun e => by have := h2 i hi; rw [fd_parts (hk5 i hi) e] at this; exact e this
  have hwi : ∀ i, i < t.length -> whtB (getT t i) = true -> (getT t i).kd = 2 /\ (getT t i).dat = ⟨#[]⟩ /\ (getT t i).ats = whA /\ (getT t i).cl = 0 := fun i hi hw => by
    have he := h2 i hi
    rw [fd_hid (hk5 i hi) (hpt i hi) hw] at he
    have hx : hidB (getT t i) (manyT t (getT t i).cl) = true := by
      by_cases e : hidB (getT t i) (manyT t (getT t i).cl) = true
      · exact e
      · rw [if_neg e] at he; cases he
    obtain ⟨a1, a2, a3, a4⟩ := hid_is hx (hpt i hi) (hkd i hi).2
    exact ⟨a1, a2, a3, many_one h1 hi a4⟩
  have hbk : ∀ i, i < t.length -> (getB b i).dep = (getT t i).dep /\ ((getB b i).kd == 5) = whtB (getT t i) /\ (getB b i).cl = (getT t i).cl := fun i hi => by
    rw [hbg i hi]
    cases hw : whtB (getT t i) with
    | true => rw [fd_wx hw]; exact ⟨rfl, rfl, (hwi i hi hw).2.2.2.symm⟩
    | false => rw [fd_node hw]; exact ⟨rfl, beq_eq_false_iff_ne.2 (hk5 i hi), rfl⟩
  have hcl : ∀ i, (getT (plT b) i).cl = (getT t i).cl := fun i => by
    by_cases hi : i < t.length
    · rw [getT_plT b i (by omega)]; exact (hbk i hi).2.2
    · have e1 : getT t i = zTrN := by unfold getT; rw [List.getD, List.getElem?_eq_none (by omega)]; rfl
      have e2 : getT (plT b) i = zTrN := by unfold getT; rw [List.getD, List.getElem?_eq_none (by rw [plT_len]; omega)]; rfl
      rw [e1, e2]
  have hmany : ∀ c, manyT (plT b) c = manyT t c := many_same (by rw [plT_len]; omega) hcl
  have hhd : ∀ i, i < t.length -> hdB b i = hdT t i := fun i hi => by
    unfold hdT hdB
    rw [hbl]
    exact amoB_congr hi fun j hj => ⟨(hbk j hj).1, (hbk j hj).2.1⟩
  have hnode : ∀ i, i < t.length -> feE b i = 0 /\ feX b i = getT t i := fun i hi => by
    cases hw : whtB (getT t i) with
    | true =>
      have hg := (hbg i hi).trans (fd_wx hw)
      obtain ⟨e1, e2⟩ := fe_white hg rfl
      refine ⟨e1, ?_⟩
      rw [e2]
      obtain ⟨y1, y2, y3, y4⟩ := hwi i hi hw
      obtain ⟨y5, y6⟩ := kind_file (hkd i hi).1 y1
      clear hw hg e1 e2
      revert y1 y2 y3 y4 y5 y6
      generalize getT t i = x
      intro y1 y2 y3 y4 y5 y6
      obtain ⟨dep, nm, kd, ats, dat, ma, mi, cl⟩ := x
      simp only at y1 y2 y3 y4 y5 y6
      subst y1 y2 y3 y4 y5 y6
      rfl
    | false =>
      have hE := h2 i hi
      have hk := hk5 i hi
      have hp := hpt i hi
      by_cases hf : fbT t i
      · rw [fd_form hk hp hw hf] at hE; cases hE
      by_cases hx : (getT t i).kd = 1 /\ ftO (ptsO 2 (getT t i).ats) = false /\ ftH (ptsO 2 (getT t i).ats) ≠ hdT t i
      · rw [fd_hides hk hp hw hf hx] at hE; cases hE
      rw [fd_book hk hp hw hf hx] at hE
      have hT : ftE (ptsO 2 (getT t i).ats) = 0 := Decidable.not_not.1 fun e => hf (.inl e)
      have hg := (hbg i hi).trans (fd_node hw)
      have hh : ftO (ptsO 2 (getT t i).ats) = false -> ftH (ptsO 2 (getT t i).ats) = hdB b i := fun e => by
        rw [hhd i hi]
        by_cases e1 : (getT t i).kd = 1
        · exact Decidable.not_not.1 fun e2 => hx ⟨e1, e, e2⟩
        · have hno : isM (ptsO 2 (getT t i).ats) opqW = false := by
            cases e2 : isM (ptsO 2 (getT t i).ats) opqW with
            | false => rfl
            | true => exact absurd (.inr (.inl ⟨by rw [e2]; rfl, e1⟩)) hf
          have hd0 : hdT t i = false := amo_leaf (tree_leaf h1 e1)
          rw [hd0]
          have hv : valM (ptsO 2 (getT t i).ats) opqW = ⟨#[]⟩ := by unfold valM; rw [getM_isM.1 hno]; rfl
          have hq : ¬ (isM (ptsO 2 (getT t i).ats) opqW = true /\ valM (ptsO 2 (getT t i).ats) opqW ≠ yW /\ valM (ptsO 2 (getT t i).ats) opqW ≠ xW) := fun q => by rw [hno] at q; cases q.1
          have hr : isM (ptsO 2 (getT t i).ats) reW = false := by
            cases e2 : isM (ptsO 2 (getT t i).ats) reW with
            | false => rfl
            | true => exact absurd (.inr (.inl ⟨by rw [e2, Bool.or_true], e1⟩)) hf
          rw [(ft_of (ft_no hq hr)).2.1, hv]
          decide
      have hperm := fu_perm (n := manyT t (getT t i).cl) hp hw hT hE (hid_read hT hh)
      have hmw := mw_pts (n := 2) (l := (getT t i).ats) (by decide) (by decide) (by decide) (hkd i hi).2 hp hperm
      obtain ⟨w1, w2⟩ := mw_of hmw
      have w1 : mwL 2 (ptsP 2 (getT t i).ats) (fuM (ftO (ptsO 2 (getT t i).ats)) (hdB b i) (ftR (ptsO 2 (getT t i).ats)) (manyT t (getT t i).cl)) = (getT t i).ats := w1
      have w2 : mwE 2 (ptsP 2 (getT t i).ats) (fuM (ftO (ptsO 2 (getT t i).ats)) (hdB b i) (ftR (ptsO 2 (getT t i).ats)) (manyT t (getT t i).cl)) = 0 := w2
      obtain ⟨e1, e2⟩ := fe_node hg hk
      refine ⟨?_, ?_⟩
      · rw [e1]
        show mwE 2 (ptsP 2 (getT t i).ats) (fuM (ftO (ptsO 2 (getT t i).ats)) (hdB b i) (ftR (ptsO 2 (getT t i).ats)) (manyT (plT b) (getT t i).cl)) = 0
        rw [hmany]; exact w2
      · rw [e2]
        show ({ getT t i with ats := mwL 2 (ptsP 2 (getT t i).ats) (fuM (ftO (ptsO 2 (getT t i).ats)) (hdB b i) (ftR (ptsO 2 (getT t i).ats)) (manyT (plT b) (getT t i).cl)) } : TrN) = _
        rw [hmany, w1]
  have hm : (List.range b.length).map (feX b) = t := by
    rw [hbl]; exact range_T fun i hi => (hnode i hi).2
  refine ⟨h3, ?_⟩
  have := gen_ok (b := b) (E := feE b) (X := feX b) h3 (fun j hj => (hnode j (by omega)).1)
  rw [hm] at this
  exact this
end Go.Proofs.YtimpejaaeinplaaGreatDoor
namespace Go.Proofs.YtimpejaaeinplaaGreatDoor
open Go.RowKit

def keyB (own : List Attr) (key : ByteArray) (k : Nat) : Bool := match own[k]? with | some a => a.1.toList == key.toList | none => false
theorem keyB_at {own : List Attr} {key : ByteArray} {k : Nat} (h : k < own.length) : keyB own key k = ((own[k]'h).1.toList == key.toList) := by unfold keyB; rw [List.getElem?_eq_getElem h]
theorem keyB_L {own : List Attr} {key : ByteArray} {k : Nat} (h : k < own.length) : keyB own key k = true ↔ L (own[k]'h).1 = L key := by rw [keyB_at h, beq_iff_eq, toList_L, toList_L]
theorem find_cases (p : Nat -> Bool) : ∀ n, (∀ j, j < n -> p j = false) \/ ∃ i, i < n /\ (∀ j, j < i -> p j = false) /\ p i = true
  | 0 => .inl fun j hj => absurd hj (by omega)
  | n + 1 => by
    rcases find_cases p n with h | ⟨i, h1, h2, h3⟩
    · by_cases e : p n = true
      · exact .inr ⟨n, by omega, h, e⟩
      · refine .inl fun j hj => ?_
        by_cases x : j = n
        · subst x; exact Bool.eq_false_iff.2 e
        · exact h j (by omega)
    · exact .inr ⟨i, by omega, h2, h3⟩
end Go.Proofs.YtimpejaaeinplaaGreatDoor
namespace Go.Proofs.YtimpejaaeinplaaGreatDoor
open Go.RowKit

theorem fuGet1 (w : World) (pb : Nat) (x : Attr) (key : ByteArray) (hpb : w.cell? ⟨pb, 0, none⟩ = some (.string key)) (hpl : pb < w.heap.size) :
    RetB Tryz.prog 148 #[.agg #[.string x.1, .string x.2], .pointer (some ⟨pb, 0, none⟩)] w (.bool (x.1.toList == key.toList)) := by
  unfold RetB
  go_enter Tryz.func148, Tryz.ntmps148
  go_wp2
  go_ret
  exact ⟨rfl, eA _ _⟩
set_option maxRecDepth 100000 in
set_option maxHeartbeats 4000000 in
theorem fuIndex (w : World) (v : Value) (own : List Attr) (pb : Nat) (key : ByteArray) (hv : AttrsAt w v own) (hl : own.length <= 1000000) (hpb : w.cell? ⟨pb, 0, none⟩ = some (.string key)) (hpl : pb < w.heap.size) :
    RetB Tryz.prog 147 #[v, .func (.func 148) #[] #[.pointer (some ⟨pb, 0, none⟩)]] w (.int .i64 (idxE (keyB own key) own.length)) := by
  unfold RetB
  obtain ⟨aa, cap, rfl, hcap, hc⟩ := hv
  have HC := hQq hc; have HPB := hQq hpb; have HPL := hQq hpl
  clear hc hpb hpl
  have he : ∀ args w, (callFunc 148 args).run Tryz.prog w = .ok (.enter 148 args) w := enters_of Tryz.func148 (by kernel_rfl) rfl
  go_enter Tryz.func147, Tryz.ntmps147
  go_wp2
  go_loopw [5, 8] (fun _ i w' => ∃ (wi : World) (k : Nat), wi = w' /\ k <= own.length /\ i = .int .i64 k /\ (∀ j, j < k -> keyB own key j = false) /\ Ext w w') (fun _ i _ => own.length - (intOf i).toNat)
  case atStart => exact ⟨_, 0, rfl, Nat.zero_le _, rfl, fun j hj => absurd hj (by omega), Below.refl _ _⟩
  case round =>
    obtain ⟨wi, k, rfl, hk, rfl, hp, hb⟩ := hrel
    have HP := hQq hp; clear hp
    have HB := hQq hb; clear hb
    by_cases hlt : k < own.length
    case neg =>
      obtain rfl : k = own.length := by omega
      have HR := hQq (idxE_none HP.out)
      go_wp2
      go_ret
      exact ⟨by rw [HR.out]; rfl, HB.out⟩
    obtain ⟨b, off, rfl, hbs, h1, h2⟩ := HC.out k hlt
    have HKB := hQq (keyB_at (key := key) hlt)
    generalize own[k]'hlt = x at h1 h2 HKB
    have c0 := (ext_cell HB.out hbs).trans h1
    have c1 := (ext_cell HB.out hbs).trans h2
    have j1 : ((k : Nat) : Int) < (own.length : Int) := by omega
    have j0 : (0 : Int) <= (k : Int) := by omega
    have HG := hQq (fuGet1 wi pb x key ((ext_cell HB.out HPL.out).trans HPB.out) (Nat.lt_of_lt_of_le HPL.out HB.out.size))
    unfold RetB at HG
    have HLT := hQq hlt
    clear h1 h2
    cases hpk : x.1.toList == key.toList
    all_goals
      rw [hpk] at HG HKB
      clear hpk
      go_wp2_with (refine HG.out.mono ?_; rintro e w1 ⟨rfl, hb1⟩; replace HB := hQq (Ext.trans HB.out hb1); clear hb1)
    · have HN : Hid (∀ j, j < k + 1 -> keyB own key j = false) := by
        intro j hj
        by_cases e : j = k
        · subst e; exact HKB.out
        · exact HP.out j (by omega)
      go_roundw
      case rel => exact ⟨_, k + 1, rfl, by omega, by go_num, HN.out, HB.out⟩
      case measure => first | (simp [intOf]; done) | (simp [intOf]; omega)
    · have HR := hQq (idxE_some HLT.out HP.out HKB.out)
      go_ret
      exact ⟨by rw [HR.out]; rfl, HB.out⟩
theorem fuGet (v : Value) (own : List Attr) (key : ByteArray) (w : World) (hv : AttrsAt w v own) (hl : own.length <= 1000000) :
    RetB Tryz.prog 87 #[v, .string key] w (.tuple #[.string (valM own key), .bool (isM own key)]) := by
  unfold RetB
  have HV := hQq hv
  obtain ⟨a, cap, rfl, hcap, hc⟩ := hv
  have HC := hQq hc; clear hc
  rcases find_cases (keyB own key) own.length with h | ⟨i, hi, h2, h3⟩
  · have HI := hQq (idxE_none h)
    have HG : Hid (getM own key = none) := hQq (getM_none fun x hx e => by
      obtain ⟨j, hj, rfl⟩ := List.getElem_of_mem hx
      exact absurd (h j hj) (by rw [(keyB_L hj).2 e]; decide))
    clear h
    go_enter Tryz.func87, Tryz.ntmps87
    go_wp2_with (go_at_call 147; refine (fuIndex _ _ own _ key (HV.out.ext (eA _ _)) hl (bC (bN w _) 0) (by simp)).mono ?_; rintro e w1 ⟨rfl, hb1⟩; rw [HI.out]; have HB := hQq ((eA _ _).trans hb1); clear hb1)
    go_ret2
    exact ⟨by unfold valM isM; rw [HG.out]; rfl, HB.out⟩
  · have HI := hQq (idxE_some hi h2 h3)
    have HG := hQq (getM_at hi (fun j hj hjl e => by
      have := h2 j hj
      rw [(keyB_L hjl).2 e] at this; cases this) ((keyB_L hi).1 h3))
    obtain ⟨b, off, rfl, hbs, h1, h4⟩ := HC.out i hi
    generalize own[i]'hi = x at h1 h4 HG
    have j1 : ((i : Nat) : Int) < (own.length : Int) := by omega
    have j0 : (0 : Int) <= (i : Int) := by omega
    have HI1 := hQq hi
    clear h2 h3 h1
    have HC4 := hQq h4
    clear h4
    go_enter Tryz.func87, Tryz.ntmps87
    go_wp2_with (go_at_call 147; refine (fuIndex _ _ own _ key (HV.out.ext (eA _ _)) hl (bC (bN w _) 0) (by simp)).mono ?_; rintro e w1 ⟨rfl, hb1⟩; rw [HI.out]; have HB := hQq ((eA _ _).trans hb1); have c4 := (ext_cell HB.out hbs).trans HC4.out; clear hb1)
    go_ret2
    exact ⟨by unfold valM isM; rw [HG.out]; rfl, HB.out⟩
end Go.Proofs.YtimpejaaeinplaaGreatDoor
