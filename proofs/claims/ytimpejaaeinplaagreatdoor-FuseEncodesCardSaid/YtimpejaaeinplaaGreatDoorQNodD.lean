/- NodD NodE -/
import Derived.Test.YtimpejaaeinplaaGreatDoorQI2
import Derived.Test.YtimpejaaeinplaaGreatDoorQAttrC
import Derived.Test.YtimpejaaeinplaaGreatDoorQNodA
import Derived.Test.YtimpejaaeinplaaGreatDoorQNodB
import Derived.Test.YtimpejaaeinplaaGreatDoorQNodC
namespace Go.Proofs.YtimpejaaeinplaaGreatDoor
open Go.RowKit

set_option maxRecDepth 100000 in
theorem refCount (B : Nat) (v : Value) (t : List TrN) (c : Int) (w : World) (hv : TrIn B w v t) (hm : t.length <= 1000) : RetB Tryz.prog 73 #[v, .int .i64 c] w (.int .i64 (countC t c t.length)) := by
  unfold RetB
  obtain ⟨aa, cap, rfl⟩ := hv.form
  have HV := hQq hv; clear hv
  go_enter Tryz.func73, Tryz.ntmps73
  go_wp2
  go_loopw [5, 6] (fun n i w' => ∃ (wi : World) (k : Nat), wi = w' /\ k <= t.length /\ i = .int .i64 k /\ n = .int .i64 (countC t c k) /\ countC t c k <= k /\ Ext w w') (fun _ i _ => t.length - (intOf i).toNat)
  case atStart => exact ⟨_, 0, rfl, Nat.zero_le _, rfl, rfl, Nat.le_refl _, Below.refl _ _⟩
  case round =>
    obtain ⟨wi, k, rfl, hk, rfl, rfl, hck, hb⟩ := hrel
    by_cases hlt : k < t.length
    · obtain ⟨b, off, va, he, hbs, _, _, _, _, _, _, _, _, c7⟩ := HV.out.tr k hlt
      cases he
      replace c7 := (ext_cell hb hbs).trans c7
      have HB := hQq hb; clear hb
      by_cases e : (t[k]'hlt).cl = c
      · have HN : Hid (countC t c (k + 1) = countC t c k + 1) := hQq (by rw [countC.eq_2, getT_at t k hlt, if_pos e])
        generalize t[k]'hlt = x at c7 e
        have q1 : (x.cl == c) = true := beq_iff_eq.2 e
        clear e
        go_wp2
        go_roundw
        case rel => exact ⟨_, k + 1, rfl, by omega, by go_num, by rw [HN.out]; go_num, by rw [HN.out]; omega, HB.out⟩
        case measure => first | (simp [intOf]; done) | (simp [intOf]; omega)
      · have HN : Hid (countC t c (k + 1) = countC t c k) := hQq (by rw [countC.eq_2, getT_at t k hlt, if_neg e]; rfl)
        generalize t[k]'hlt = x at c7 e
        have q1 : (x.cl == c) = false := beq_eq_false_iff_ne.2 e
        clear e
        go_wp2
        go_roundw
        case rel => exact ⟨_, k + 1, rfl, by omega, by go_num, by rw [HN.out], by rw [HN.out]; omega, HB.out⟩
        case measure => first | (simp [intOf]; done) | (simp [intOf]; omega)
    · obtain rfl : k = t.length := by omega
      have HB := hQq hb; clear hb
      go_wp2
      go_ret
      exact ⟨rfl, HB.out⟩
set_option maxRecDepth 100000 in
set_option maxHeartbeats 4000000 in
theorem refClass (B : Nat) (v : Value) (t : List TrN) (i : Nat) (w : World) (hv : TrIn B w v t) (hi : i < t.length) (hm : t.length <= 1000) (hmost : ∀ k, k <= i -> 0 <= mostC t k /\ mostC t k <= 1000) (hats : ∀ x ∈ t, x.ats.length <= 1000000) : RetB Tryz.prog 72 #[v, .int .i64 i] w (.int .i64 (clsE t i)) := by
  unfold RetB
  obtain ⟨aa, cap, rfl⟩ := hv.form
  obtain ⟨b, off, va, rfl, hb, hva, cc⟩ := hv.tr i hi
  have HV := hQq hv; clear hv
  have HM := hQq hmost; clear hmost
  have HG := hQq (getT_at t i hi)
  have ji : ((i : Nat) : Int) < (t.length : Int) := by omega
  have HAT := hQq hats; clear hats
  have hva' := ListIn.attrs hva
  obtain ⟨a3, cap3, rfl⟩ := hva.form
  generalize t[i]'hi = x at cc HG hva' hva
  have HVA := hQq hva'
  have HC := hQq cc
  clear hva hva' cc
  go_enter Tryz.func72, Tryz.ntmps72
  go_wp2
  go_loopw [5, 6] (fun m kk w' => ∃ (wi : World) (k : Nat), wi = w' /\ k <= i /\ kk = .int .i64 k /\ m = .int .i64 (mostC t k) /\ unlike t i k = false /\ Ext w w') (fun _ kk _ => i - (intOf kk).toNat)
  case atStart => exact ⟨_, 0, rfl, Nat.zero_le _, rfl, rfl, rfl, Below.refl _ _⟩
  case round =>
    obtain ⟨wi, k, rfl, hk, rfl, rfl, hun, hbw⟩ := hrel
    have HU := hQq hun; clear hun
    have CC := cells8 hbw hb HC.out
    by_cases hlt : k < i
    · have hkt : k < t.length := by omega
      obtain ⟨b', off', vb, he, hb', hvb, dd⟩ := HV.out.tr k hkt
      cases he
      have DD := cells8 hbw hb dd
      have HGK := hQq (getT_at t k hkt)
      have hvb' := (ListIn.attrs hvb).ext hbw
      have hl1 := HAT.out _ (List.getElem_mem hkt)
      obtain ⟨a4, cap4, rfl⟩ := hvb.form
      have jk : ((k : Nat) : Int) < (t.length : Int) := by omega
      have HMS : Hid (mostC t (k + 1) = max (mostC t k) (t[k]'hkt).cl) := hQq (by rw [mostC.eq_2, getT_at t k hkt])
      generalize t[k]'hkt = y at DD HGK hvb' hvb hl1 HMS dd
      have HVB := hQq hvb'
      have hx' := HVA.out.ext hbw
      have HVX := hQq hx'
      have HB := hQq hbw
      have hbb := Nat.lt_of_lt_of_le hb hbw.size
      have hst : ∀ hh : (decide (0 < x.cl) && (y.cl == x.cl) && !likeB y x) = false, unlike t i (k + 1) = false := fun hh => unlike_step HU.out (by rw [HG.out, HGK.out]; exact hh)
      have HST := hQq hst
      clear hst hvb hvb' hx' hbw dd
      by_cases p1 : 0 < x.cl
      case neg =>
        have HN := hQq (HST.out (by simp [p1]))
        obtain ⟨c0, c1, c2, c3, c4, c5, c6, c7⟩ := CC
        obtain ⟨d0, d1, d2, d3, d4, d5, d6, d7⟩ := DD
        have p1' : decide (0 < x.cl) = false := decide_eq_false p1
        go_wp2
        all_goals
          go_quiet (fail)
          go_wp2
          go_roundw
          case rel => exact ⟨_, k + 1, rfl, by omega, by go_num, by rw [HMS.out]; first | done | exact int_eq (by omega), HN.out, Ext.trans HB.out (eDn _ _)⟩
          case measure => first | (simp [intOf]; done) | (simp [intOf]; omega)
      by_cases p2 : y.cl = x.cl
      case neg =>
        have HN := hQq (HST.out (by simp [beq_eq_false_iff_ne.2 p2]))
        obtain ⟨c0, c1, c2, c3, c4, c5, c6, c7⟩ := CC
        obtain ⟨d0, d1, d2, d3, d4, d5, d6, d7⟩ := DD
        have p2' : (y.cl == x.cl) = false := beq_eq_false_iff_ne.2 p2
        clear p2
        go_wp2
        all_goals
          go_quiet (fail)
          go_wp2
          go_roundw
          case rel => exact ⟨_, k + 1, rfl, by omega, by go_num, by rw [HMS.out]; first | done | exact int_eq (by omega), HN.out, Ext.trans HB.out (eDn _ _)⟩
          case measure => first | (simp [intOf]; done) | (simp [intOf]; omega)
      have p2' : (y.cl == x.cl) = true := beq_iff_eq.2 p2
      clear p2
      have DD := hQq DD
      have CC := hQq CC
      obtain ⟨c0, c1, c2, c3, c4, c5, c6, c7⟩ := CC.out
      obtain ⟨d0, d1, d2, d3, d4, d5, d6, d7⟩ := DD.out
      have ji0 : (0 : Int) <= (i : Int) := by omega
      have jk0 : (0 : Int) <= (k : Int) := by omega
      cases hl : likeB y x
      · have HN := hQq (unlike_hit (t := t) (i := i) (k := k) (by rw [HG.out, HGK.out, hl]; simp [p1, p2']) i hlt)
        go_wp2
        all_goals
          go_region_held3 (fun w' => w'.cell? ⟨b, off + k * 8, none⟩ = some (.int .i64 y.dep) /\ w'.cell? ⟨b, off + k * 8 + 1, none⟩ = some (.string y.nm) /\ w'.cell? ⟨b, off + k * 8 + 2, none⟩ = some (.int .i64 y.kd) /\ w'.cell? ⟨b, off + k * 8 + 3, none⟩ = some (.slice a4 y.ats.length cap4) /\ w'.cell? ⟨b, off + k * 8 + 4, none⟩ = some (.string y.dat) /\ w'.cell? ⟨b, off + k * 8 + 5, none⟩ = some (.int .i64 y.ma) /\ w'.cell? ⟨b, off + k * 8 + 6, none⟩ = some (.int .i64 y.mi) /\ w'.cell? ⟨b, off + k * 8 + 7, none⟩ = some (.int .i64 y.cl) /\ w'.cell? ⟨b, off + i * 8, none⟩ = some (.int .i64 x.dep) /\ w'.cell? ⟨b, off + i * 8 + 1, none⟩ = some (.string x.nm) /\ w'.cell? ⟨b, off + i * 8 + 2, none⟩ = some (.int .i64 x.kd) /\ w'.cell? ⟨b, off + i * 8 + 3, none⟩ = some (.slice a3 x.ats.length cap3) /\ w'.cell? ⟨b, off + i * 8 + 4, none⟩ = some (.string x.dat) /\ w'.cell? ⟨b, off + i * 8 + 5, none⟩ = some (.int .i64 x.ma) /\ w'.cell? ⟨b, off + i * 8 + 6, none⟩ = some (.int .i64 x.mi) /\ w'.cell? ⟨b, off + i * 8 + 7, none⟩ = some (.int .i64 x.cl)) (first | go_keep | (refine ⟨?_, ?_, ?_, ?_, ?_, ?_, ?_, ?_, ?_, ?_, ?_, ?_, ?_, ?_, ?_, ?_⟩ <;> assumption))
            ((go_at_call 64; refine (refLike y x _ _ _ (HVB.out.ext (by first | exact eDn _ _ | exact Below.refl _ _ | exact Ext.trans (eDn _ _) (eDn _ _))) (HVX.out.ext (by first | exact eDn _ _ | exact Below.refl _ _ | exact Ext.trans (eDn _ _) (eDn _ _))) hl1).mono ?_; rintro e w3 ⟨rfl, hb3⟩; obtain ⟨g0, g1, g2, g3, g4, g5, g6, g7⟩ := cells8 hb3 hbb DD.out; obtain ⟨f0, f1, f2, f3, f4, f5, f6, f7⟩ := cells8 hb3 hbb CC.out; have H3 := hQq hb3; clear hb3))
          go_wp2
          go_ret
          exact ⟨by unfold clsE; rw [if_pos HN.out]; rfl, Ext.trans HB.out (by first | exact H3.out | exact Ext.trans (eDn _ _) H3.out | exact Ext.trans (eDn _ _) (Ext.trans H3.out (eDn _ _)))⟩
      · have HN := hQq (HST.out (by simp [hl]))
        go_wp2
        all_goals
          go_region_held3 (fun w' => w'.cell? ⟨b, off + k * 8, none⟩ = some (.int .i64 y.dep) /\ w'.cell? ⟨b, off + k * 8 + 1, none⟩ = some (.string y.nm) /\ w'.cell? ⟨b, off + k * 8 + 2, none⟩ = some (.int .i64 y.kd) /\ w'.cell? ⟨b, off + k * 8 + 3, none⟩ = some (.slice a4 y.ats.length cap4) /\ w'.cell? ⟨b, off + k * 8 + 4, none⟩ = some (.string y.dat) /\ w'.cell? ⟨b, off + k * 8 + 5, none⟩ = some (.int .i64 y.ma) /\ w'.cell? ⟨b, off + k * 8 + 6, none⟩ = some (.int .i64 y.mi) /\ w'.cell? ⟨b, off + k * 8 + 7, none⟩ = some (.int .i64 y.cl) /\ w'.cell? ⟨b, off + i * 8, none⟩ = some (.int .i64 x.dep) /\ w'.cell? ⟨b, off + i * 8 + 1, none⟩ = some (.string x.nm) /\ w'.cell? ⟨b, off + i * 8 + 2, none⟩ = some (.int .i64 x.kd) /\ w'.cell? ⟨b, off + i * 8 + 3, none⟩ = some (.slice a3 x.ats.length cap3) /\ w'.cell? ⟨b, off + i * 8 + 4, none⟩ = some (.string x.dat) /\ w'.cell? ⟨b, off + i * 8 + 5, none⟩ = some (.int .i64 x.ma) /\ w'.cell? ⟨b, off + i * 8 + 6, none⟩ = some (.int .i64 x.mi) /\ w'.cell? ⟨b, off + i * 8 + 7, none⟩ = some (.int .i64 x.cl)) (first | go_keep | (refine ⟨?_, ?_, ?_, ?_, ?_, ?_, ?_, ?_, ?_, ?_, ?_, ?_, ?_, ?_, ?_, ?_⟩ <;> assumption))
            ((go_at_call 64; refine (refLike y x _ _ _ (HVB.out.ext (by first | exact eDn _ _ | exact Below.refl _ _ | exact Ext.trans (eDn _ _) (eDn _ _))) (HVX.out.ext (by first | exact eDn _ _ | exact Below.refl _ _ | exact Ext.trans (eDn _ _) (eDn _ _))) hl1).mono ?_; rintro e w3 ⟨rfl, hb3⟩; obtain ⟨g0, g1, g2, g3, g4, g5, g6, g7⟩ := cells8 hb3 hbb DD.out; obtain ⟨f0, f1, f2, f3, f4, f5, f6, f7⟩ := cells8 hb3 hbb CC.out; have H3 := hQq hb3; clear hb3))
          go_wp2
          go_roundw
          case rel => exact ⟨_, k + 1, rfl, by omega, by go_num, by rw [HMS.out]; first | done | exact int_eq (by omega), HN.out, Ext.trans HB.out (by first | exact H3.out | exact Ext.trans (eDn _ _) H3.out | exact Ext.trans (eDn _ _) (Ext.trans H3.out (eDn _ _)))⟩
          case measure => first | (simp [intOf]; done) | (simp [intOf]; omega)
    · obtain rfl : k = i := by omega
      have HB := hQq hbw
      obtain ⟨m0, m1⟩ := HM.out k (Nat.le_refl _)
      obtain ⟨c0, c1, c2, c3, c4, c5, c6, c7⟩ := CC
      have HR : Hid (clsE t k = if x.cl < 0 \/ mostC t k + 1 < x.cl then 6 else 0) := hQq (by unfold clsE; rw [if_neg (by rw [HU.out]; exact Bool.false_ne_true), HG.out])
      clear hbw
      by_cases r1 : x.cl < 0
      · go_wp2
        go_ret
        exact ⟨by rw [HR.out, if_pos (.inl r1)]; rfl, HB.out⟩
      by_cases r2 : mostC t k + 1 < x.cl
      · go_wp2
        go_ret
        exact ⟨by rw [HR.out, if_pos (.inr r2)]; rfl, HB.out⟩
      · go_wp2
        go_ret
        exact ⟨by rw [HR.out, if_neg (by omega)]; rfl, HB.out⟩
end Go.Proofs.YtimpejaaeinplaaGreatDoor
namespace Go.Proofs.YtimpejaaeinplaaGreatDoor
open Go.RowKit

set_option maxRecDepth 100000 in
set_option maxHeartbeats 4000000 in
theorem refSameList (B B' : Nat) (u v : Value) (s t : List TrN) (w : World) (hu : TrIn B w u s) (hv : TrIn B' w v t) (hl : s.length <= 1000000) (hats : ∀ x ∈ s, x.ats.length <= 1000000) :
    RetB Tryz.prog 16 #[u, v] w (.bool (sameTB s t)) := by
  unfold RetB
  obtain ⟨aa, cap, rfl⟩ := hu.form
  obtain ⟨ba, cap2, rfl⟩ := hv.form
  have HU := hQq hu; clear hu
  have HV := hQq hv; clear hv
  have HAT := hQq hats; clear hats
  by_cases hab : s.length = t.length
  case neg =>
    have e0 : (((s.length : Nat) : Int) != ((t.length : Nat) : Int)) = true := by rw [bne_iff_ne]; omega
    rw [sameTB_no fun e => hab (by rw [e])]
    go_enter Tryz.func16, Tryz.ntmps16
    go_wp2
    go_ret
    exact ⟨rfl, Below.refl _ _⟩
  have e0 : (((s.length : Nat) : Int) != ((t.length : Nat) : Int)) = false := by rw [bne_eq_false_iff_eq]; omega
  have HAB := hQq hab; clear hab
  go_enter Tryz.func16, Tryz.ntmps16
  go_wp2
  go_loopw [5] (fun i w' => ∃ (wi : World) (k : Nat), wi = w' /\ k <= s.length /\ i = .int .i64 k /\ SameL s t k /\ Ext w w') (fun i _ => s.length - (intOf i).toNat)
  case atStart => exact ⟨_, 0, rfl, Nat.zero_le _, rfl, fun j hj => absurd hj (by omega), Below.refl _ _⟩
  case round =>
    obtain ⟨wi, k, rfl, hk, rfl, hs, hb⟩ := hrel
    have HS := hQq hs; clear hs
    by_cases hlt : k < s.length
    case neg =>
      obtain rfl : k = s.length := by omega
      have HN := hQq (sameTB_yes (sameL_end HAB.out HS.out))
      have HB := hQq hb; clear hb
      go_wp2
      go_ret
      exact ⟨by rw [HN.out]; rfl, HB.out⟩
    have hlt2 : k < t.length := by have := HAB.out; omega
    obtain ⟨bx, offx, vx, hex, hbx, hvx, xx⟩ := HU.out.tr k hlt
    obtain ⟨by1, offy, vy, hey, hby, hvy, yy⟩ := HV.out.tr k hlt2
    cases hex
    cases hey
    have XX := cells8 hb hbx xx
    have YY := cells8 hb hby yy
    have hvx' := (ListIn.attrs hvx).ext hb
    have hvy' := (ListIn.attrs hvy).ext hb
    have hl1 := HAT.out _ (List.getElem_mem hlt)
    obtain ⟨ax, capx, rfl⟩ := hvx.form
    obtain ⟨ay, capy, rfl⟩ := hvy.form
    have hgx : s[k]? = some (s[k]'hlt) := List.getElem?_eq_getElem hlt
    have hgy : t[k]? = some (t[k]'hlt2) := List.getElem?_eq_getElem hlt2
    generalize s[k]'hlt = x at XX hvx' hvx xx hgx hl1
    generalize t[k]'hlt2 = y at YY hvy' hvy yy hgy
    have HGX := hQq hgx; have HGY := hQq hgy
    have HVX := hQq hvx'; have HVY := hQq hvy'
    have CX := hQq XX; have CY := hQq YY
    have HB := hQq hb
    have hne : ¬ x = y -> sameTB s t = false := fun he => sameTB_no fun e => he (by have h1 := HGX.out; rw [e, HGY.out] at h1; injection h1 with h1; exact h1.symm)
    have HNE := hQq hne
    replace hbx := Nat.lt_of_lt_of_le hbx hb.size
    replace hby := Nat.lt_of_lt_of_le hby hb.size
    have j1 : ((k : Nat) : Int) < (s.length : Int) := by omega
    have j2 : ((k : Nat) : Int) < (t.length : Int) := by omega
    have j0 : (0 : Int) <= (k : Int) := by omega
    clear hgx hgy hvx' hvy' hvx hvy xx yy XX YY hb hne e0
    obtain ⟨c0, c1, c2, c3, c4, c5, c6, c7⟩ := CX.out
    obtain ⟨d0, d1, d2, d3, d4, d5, d6, d7⟩ := CY.out
    by_cases p1 : x.dep = y.dep
    case neg =>
      have HN := hQq (HNE.out fun e => p1 (by rw [e]))
      have q1 : (x.dep == y.dep) = false := beq_eq_false_iff_ne.2 p1
      have q2 : (x.dep != y.dep) = true := bne_iff_ne.2 p1
      clear p1
      go_wp2
      go_quiet (fail)
      go_wp2
      go_ret
      exact ⟨by rw [HN.out]; rfl, Ext.trans HB.out (eDn _ _)⟩
    have q2 : (x.dep != y.dep) = false := by rw [bne_eq_false_iff_eq]; exact p1
    have P1 := hQq p1; clear p1
    cases p2 : x.nm.toList == y.nm.toList
    · have HN := hQq (HNE.out fun e => by rw [e] at p2; simp at p2)
      go_wp2
      go_quiet (fail)
      go_wp2
      go_ret
      exact ⟨by rw [HN.out]; rfl, Ext.trans HB.out (eDn _ _)⟩
    by_cases p3 : x.cl = y.cl
    case neg =>
      have HN := hQq (HNE.out fun e => p3 (by rw [e]))
      have q3 : (x.cl != y.cl) = true := bne_iff_ne.2 p3
      clear p3
      go_wp2
      go_quiet (fail)
      go_wp2
      go_ret
      exact ⟨by rw [HN.out]; rfl, Ext.trans HB.out (eDn _ _)⟩
    have q3 : (x.cl != y.cl) = false := by rw [bne_eq_false_iff_eq]; exact p3
    have P3 := hQq p3; clear p3
    cases hlk : likeB x y
    · have HN := hQq (HNE.out fun e => by rw [likeB_iff.2 (by rw [e]; simp)] at hlk; cases hlk)
      go_wp2
      go_region_held3 (fun w' => w'.cell? ⟨bx, offx + k * 8, none⟩ = some (.int .i64 x.dep) /\ w'.cell? ⟨bx, offx + k * 8 + 1, none⟩ = some (.string x.nm) /\ w'.cell? ⟨bx, offx + k * 8 + 2, none⟩ = some (.int .i64 x.kd) /\ w'.cell? ⟨bx, offx + k * 8 + 3, none⟩ = some (.slice ax x.ats.length capx) /\ w'.cell? ⟨bx, offx + k * 8 + 4, none⟩ = some (.string x.dat) /\ w'.cell? ⟨bx, offx + k * 8 + 5, none⟩ = some (.int .i64 x.ma) /\ w'.cell? ⟨bx, offx + k * 8 + 6, none⟩ = some (.int .i64 x.mi) /\ w'.cell? ⟨bx, offx + k * 8 + 7, none⟩ = some (.int .i64 x.cl) /\ w'.cell? ⟨by1, offy + k * 8, none⟩ = some (.int .i64 y.dep) /\ w'.cell? ⟨by1, offy + k * 8 + 1, none⟩ = some (.string y.nm) /\ w'.cell? ⟨by1, offy + k * 8 + 2, none⟩ = some (.int .i64 y.kd) /\ w'.cell? ⟨by1, offy + k * 8 + 3, none⟩ = some (.slice ay y.ats.length capy) /\ w'.cell? ⟨by1, offy + k * 8 + 4, none⟩ = some (.string y.dat) /\ w'.cell? ⟨by1, offy + k * 8 + 5, none⟩ = some (.int .i64 y.ma) /\ w'.cell? ⟨by1, offy + k * 8 + 6, none⟩ = some (.int .i64 y.mi) /\ w'.cell? ⟨by1, offy + k * 8 + 7, none⟩ = some (.int .i64 y.cl)) (first | go_keep | (refine ⟨?_, ?_, ?_, ?_, ?_, ?_, ?_, ?_, ?_, ?_, ?_, ?_, ?_, ?_, ?_, ?_⟩ <;> assumption))
        ((go_at_call 64; refine (refLike x y _ _ _ (HVX.out.ext (by first | exact eDn _ _ | exact Below.refl _ _ | exact Ext.trans (eDn _ _) (eDn _ _))) (HVY.out.ext (by first | exact eDn _ _ | exact Below.refl _ _ | exact Ext.trans (eDn _ _) (eDn _ _))) hl1).mono ?_; rintro e w3 ⟨rfl, hb3⟩; obtain ⟨g0, g1, g2, g3, g4, g5, g6, g7⟩ := cells8 hb3 hbx CX.out; obtain ⟨f0, f1, f2, f3, f4, f5, f6, f7⟩ := cells8 hb3 hby CY.out; have H3 := hQq hb3; clear hb3))
      go_wp2
      go_ret
      exact ⟨by rw [HN.out]; rfl, Ext.trans HB.out (by first | exact H3.out | exact Ext.trans (eDn _ _) H3.out | exact Ext.trans (eDn _ _) (Ext.trans H3.out (eDn _ _)))⟩
    · have HEQ := hQq (trN_eq P1.out (L_inj (by rw [<- toList_L, <- toList_L]; exact beq_iff_eq.1 p2)) P3.out hlk)
      have HN : Hid (SameL s t (k + 1)) := by
        intro j hj
        by_cases e : j = k
        · subst e; rw [HGX.out, HGY.out, HEQ.out]
        · exact HS.out j (by omega)
      go_wp2
      go_region_held3 (fun w' => w'.cell? ⟨bx, offx + k * 8, none⟩ = some (.int .i64 x.dep) /\ w'.cell? ⟨bx, offx + k * 8 + 1, none⟩ = some (.string x.nm) /\ w'.cell? ⟨bx, offx + k * 8 + 2, none⟩ = some (.int .i64 x.kd) /\ w'.cell? ⟨bx, offx + k * 8 + 3, none⟩ = some (.slice ax x.ats.length capx) /\ w'.cell? ⟨bx, offx + k * 8 + 4, none⟩ = some (.string x.dat) /\ w'.cell? ⟨bx, offx + k * 8 + 5, none⟩ = some (.int .i64 x.ma) /\ w'.cell? ⟨bx, offx + k * 8 + 6, none⟩ = some (.int .i64 x.mi) /\ w'.cell? ⟨bx, offx + k * 8 + 7, none⟩ = some (.int .i64 x.cl) /\ w'.cell? ⟨by1, offy + k * 8, none⟩ = some (.int .i64 y.dep) /\ w'.cell? ⟨by1, offy + k * 8 + 1, none⟩ = some (.string y.nm) /\ w'.cell? ⟨by1, offy + k * 8 + 2, none⟩ = some (.int .i64 y.kd) /\ w'.cell? ⟨by1, offy + k * 8 + 3, none⟩ = some (.slice ay y.ats.length capy) /\ w'.cell? ⟨by1, offy + k * 8 + 4, none⟩ = some (.string y.dat) /\ w'.cell? ⟨by1, offy + k * 8 + 5, none⟩ = some (.int .i64 y.ma) /\ w'.cell? ⟨by1, offy + k * 8 + 6, none⟩ = some (.int .i64 y.mi) /\ w'.cell? ⟨by1, offy + k * 8 + 7, none⟩ = some (.int .i64 y.cl)) (first | go_keep | (refine ⟨?_, ?_, ?_, ?_, ?_, ?_, ?_, ?_, ?_, ?_, ?_, ?_, ?_, ?_, ?_, ?_⟩ <;> assumption))
        ((go_at_call 64; refine (refLike x y _ _ _ (HVX.out.ext (by first | exact eDn _ _ | exact Below.refl _ _ | exact Ext.trans (eDn _ _) (eDn _ _))) (HVY.out.ext (by first | exact eDn _ _ | exact Below.refl _ _ | exact Ext.trans (eDn _ _) (eDn _ _))) hl1).mono ?_; rintro e w3 ⟨rfl, hb3⟩; obtain ⟨g0, g1, g2, g3, g4, g5, g6, g7⟩ := cells8 hb3 hbx CX.out; obtain ⟨f0, f1, f2, f3, f4, f5, f6, f7⟩ := cells8 hb3 hby CY.out; have H3 := hQq hb3; clear hb3))
      go_wp2
      go_roundw
      case rel => exact ⟨_, k + 1, rfl, by omega, by go_num, HN.out, Ext.trans HB.out (by first | exact H3.out | exact Ext.trans (eDn _ _) H3.out | exact Ext.trans (eDn _ _) (Ext.trans H3.out (eDn _ _)))⟩
      case measure => first | (simp [intOf]; done) | (simp [intOf]; omega)

set_option maxRecDepth 100000 in
set_option maxHeartbeats 8000000 in
theorem refTreeCheck (B : Nat) (v : Value) (t : List TrN) (w : World) (hv : TrIn B w v t) (hsm : SmallT t) :
    RetB Tryz.prog 19 #[v] w (.tuple #[.int .i64 (treeN t), .int .i64 (treeE t)]) := by
  unfold RetB
  obtain ⟨aa, cap, rfl⟩ := hv.form
  have HV := hQq hv; clear hv
  have HSM := hQq hsm; clear hsm
  have HAT : Hid (∀ x ∈ t, x.ats.length <= 1000000) := fun x hx => (HSM.out x hx).2.2
  by_cases h0 : t.length = 0
  · obtain ⟨e1, e2⟩ := tree_of (treeT_nil h0)
    rw [e1, e2]; clear e1 e2
    go_enter Tryz.func19, Tryz.ntmps19
    go_wp2
    go_ret2
    exact ⟨rfl, Below.refl _ _⟩
  have g0 : (((t.length : Nat) : Int) == 0) = false := beq_eq_false_iff_ne.2 (by omega)
  have g1 : 0 < t.length := by omega
  by_cases h1 : 120 < t.length
  · obtain ⟨e1, e2⟩ := tree_of (treeT_long h1)
    rw [e1, e2]; clear e1 e2
    go_enter Tryz.func19, Tryz.ntmps19
    go_wp2
    go_ret2
    exact ⟨rfl, Below.refl _ _⟩
  have H0 := hQq h0; clear h0
  go_enter Tryz.func19, Tryz.ntmps19
  go_wp2
  clear g0
  go_loopw [4] (fun i w' => ∃ (wi : World) (k : Nat), wi = w' /\ k <= t.length /\ i = .int .i64 k /\ AllOk t k /\ Ext w w') (fun i _ => t.length - (intOf i).toNat)
  case atStart => exact ⟨_, 0, rfl, Nat.zero_le _, rfl, fun j hj => absurd hj (by omega), Below.refl _ _⟩
  case round =>
    obtain ⟨wi, k, rfl, hk, rfl, hok, hb⟩ := hrel
    have HOK := hQq hok; clear hok
    by_cases hlt : k < t.length
    case neg =>
      obtain rfl : k = t.length := by omega
      have HB := hQq hb; clear hb
      go_wp2
      go_loopw [6] (fun i w' => ∃ (wi : World) (k : Nat), wi = w' /\ k <= t.length /\ i = .int .i64 k /\ (∀ j, j < k -> loneB t j = false) /\ Ext w w') (fun i _ => t.length - (intOf i).toNat)
      case atStart => exact ⟨_, 0, rfl, Nat.zero_le _, rfl, fun j hj => absurd hj (by omega), HB.out⟩
      case round =>
        clear HB hk hlt
        obtain ⟨wi, k, rfl, hk, rfl, hlo, hb⟩ := hrel
        have HLO := hQq hlo; clear hlo
        by_cases hlt : k < t.length
        case neg =>
          obtain rfl : k = t.length := by omega
          have HR := hQq (tree_of (treeT_ok H0.out h1 HOK.out HLO.out))
          have HB := hQq hb; clear hb
          go_wp2
          go_ret2
          exact ⟨by rw [HR.out.1, HR.out.2]; rfl, HB.out⟩
        obtain ⟨b, off, va, he, hbx, _, _, _, _, _, _, _, _, c7⟩ := HV.out.tr k hlt
        cases he
        have HGT := hQq (getT_at t k hlt)
        have d7 := (ext_cell hb hbx).trans c7
        have HB := hQq hb
        generalize t[k]'hlt = x at c7 d7 HGT
        have j1 : ((k : Nat) : Int) < (t.length : Int) := by omega
        have j0 : (0 : Int) <= (k : Int) := by omega
        by_cases p1 : 0 < x.cl
        case neg =>
          have HN : Hid (∀ j, j < k + 1 -> loneB t j = false) := by
            intro j hj
            by_cases e : j = k
            · subst e; unfold loneB; rw [HGT.out]; simp [p1]
            · exact HLO.out j (by omega)
          have p1' : decide (0 < x.cl) = false := decide_eq_false p1
          clear hb c7
          go_wp2
          go_roundw
          case rel => exact ⟨_, k + 1, rfl, by omega, by go_num, HN.out, HB.out⟩
          case measure => first | (simp [intOf]; done) | (simp [intOf]; omega)
        by_cases p2 : countC t x.cl t.length = 1
        case neg =>
          have HN : Hid (∀ j, j < k + 1 -> loneB t j = false) := by
            intro j hj
            by_cases e : j = k
            · subst e; unfold loneB; rw [HGT.out]; simp [p2]
            · exact HLO.out j (by omega)
          have p2' : (((countC t x.cl t.length : Nat) : Int) == 1) = false := beq_eq_false_iff_ne.2 (by omega)
          clear hb c7 p2
          go_wp2_with (go_at_call 73; refine (refCount B _ t x.cl _ (HV.out.ext okT HB.out) (by omega)).mono ?_; rintro e w1 ⟨rfl, hb1⟩; replace HB := hQq (Ext.trans HB.out hb1); clear hb1)
          go_roundw
          case rel => exact ⟨_, k + 1, rfl, by omega, by go_num, HN.out, HB.out⟩
          case measure => first | (simp [intOf]; done) | (simp [intOf]; omega)
        · have HR := hQq (tree_of (treeT_lone h1 HOK.out hlt HLO.out (by unfold loneB; rw [HGT.out]; simp [p1, p2])))
          have p2' : (((countC t x.cl t.length : Nat) : Int) == 1) = true := beq_iff_eq.2 (by omega)
          clear hb c7 p2
          go_wp2_with (go_at_call 73; refine (refCount B _ t x.cl _ (HV.out.ext okT HB.out) (by omega)).mono ?_; rintro e w1 ⟨rfl, hb1⟩; replace HB := hQq (Ext.trans HB.out hb1); clear hb1)
          go_ret2
          exact ⟨by rw [HR.out.1, HR.out.2]; rfl, HB.out⟩
    obtain ⟨b, off, va, he, hbx, hva, xx⟩ := HV.out.tr k hlt
    cases he
    have HGT := hQq (getT_at t k hlt)
    have hvx := ListIn.attrs hva
    obtain ⟨ax, capx, rfl⟩ := hva.form
    have HNS : Hid ((getT t k).nm.size <= 1000000) := hQq (by rw [HGT.out]; exact (HSM.out _ (List.getElem_mem hlt)).1)
    have HAM : Hid (∀ a ∈ (t[k]'hlt).ats, a.1.size <= 1000000 /\ a.2.size <= 1000000) := (HSM.out _ (List.getElem_mem hlt)).2.1
    generalize t[k]'hlt = x at xx HGT hvx HAM hva
    have XX := hQq xx
    have HVX := hQq hvx
    obtain ⟨c0, c1, c2, c3, c4, c5, c6, c7⟩ := cells8 hb hbx xx
    have HB := hQq hb
    have HP : Hid (k ≠ 0 -> 0 <= (getT t (k - 1)).dep /\ (getT t (k - 1)).dep <= 1000) := fun hk0 => by
      obtain ⟨a, _⟩ := node_parts (HOK.out (k - 1) (by omega))
      have := shape_bd a; omega
    have HMC : Hid (∀ j, j <= k -> 0 <= mostC t j /\ mostC t j <= 1000) := fun j hj => by
      have := mostC_bd j (fun i hi => HOK.out i (by omega)); omega
    have j1 : ((k : Nat) : Int) < (t.length : Int) := by omega
    have j0 : (0 : Int) <= (k : Int) := by omega
    clear xx hvx hva hb
    by_cases hk0 : k = 0
    · have HK0 := hQq hk0
      have z0 : decide ((0 : Int) < (k : Int)) = false := decide_eq_false (by omega)
      have z1 : decide (0 < k) = false := decide_eq_false (by omega)
      clear hk0
      by_cases hx : shapeE t k = 0
      case neg =>
        have hn : nodeE t k = shapeE t k := nodeE_shape hx
        have HR := hQq (tree_of (treeT_node (by omega) hlt HOK.out (show nodeE t k ≠ 0 by rw [hn]; exact hx)))
        have HR2 := hQq hn
        have q1 : (shapeE t k == 0) = false := beq_eq_false_iff_ne.2 hx
        have q2 : (shapeE t k != 0) = true := bne_iff_ne.2 hx
        clear hx hn
        go_wp2_with (first | (go_at_call 68; refine (refShape B _ t k _ (HV.out.ext okT HB.out) hlt (by omega) HP.out).mono ?_; rintro e w1 ⟨rfl, hb1⟩; replace HB := hQq (Ext.trans HB.out hb1); clear hb1; obtain ⟨c0, c1, c2, c3, c4, c5, c6, c7⟩ := cells8 HB.out hbx XX.out) | (go_at_call 69; refine (refEntry B _ t k _ (HV.out.ext okT HB.out) hlt (by omega) HNS.out).mono ?_; rintro e w1 ⟨rfl, hb1⟩; replace HB := hQq (Ext.trans HB.out hb1); clear hb1; obtain ⟨c0, c1, c2, c3, c4, c5, c6, c7⟩ := cells8 HB.out hbx XX.out) | (go_at_call 70; refine (refKind x _ _ ⟨_, _, rfl⟩).mono ?_; rintro e w1 ⟨rfl, hb1⟩; replace HB := hQq (Ext.trans HB.out hb1); clear hb1; obtain ⟨c0, c1, c2, c3, c4, c5, c6, c7⟩ := cells8 HB.out hbx XX.out) | (go_at_call 71; refine (refCheck _ x.ats _ (HVX.out.ext HB.out) HAM.out).mono ?_; rintro e w1 ⟨rfl, hb1⟩; replace HB := hQq (Ext.trans HB.out hb1); clear hb1) | (go_at_call 72; refine (refClass B _ t k _ (HV.out.ext okT HB.out) hlt (by omega) HMC.out HAT.out).mono ?_; rintro e w1 ⟨rfl, hb1⟩; replace HB := hQq (Ext.trans HB.out hb1); clear hb1))
        go_ret2
        exact ⟨by rw [HR.out.1, HR.out.2, HR2.out]; rfl, HB.out⟩
      have s1 := hx
      clear hx
      have HE2 : Hid (k ≠ 0 -> entryE t k = 0) := hQq (fun h => absurd HK0.out h)
      by_cases hx : kindE x = 0
      case neg =>
        have hn : nodeE t k = kindE x := nodeE_kind HGT.out s1 HE2.out hx
        have HR := hQq (tree_of (treeT_node (by omega) hlt HOK.out (show nodeE t k ≠ 0 by rw [hn]; exact hx)))
        have HR2 := hQq hn
        have q1 : (kindE x == 0) = false := beq_eq_false_iff_ne.2 hx
        have q2 : (kindE x != 0) = true := bne_iff_ne.2 hx
        clear hx hn
        go_wp2_with (first | (go_at_call 68; refine (refShape B _ t k _ (HV.out.ext okT HB.out) hlt (by omega) HP.out).mono ?_; rintro e w1 ⟨rfl, hb1⟩; replace HB := hQq (Ext.trans HB.out hb1); clear hb1; obtain ⟨c0, c1, c2, c3, c4, c5, c6, c7⟩ := cells8 HB.out hbx XX.out) | (go_at_call 69; refine (refEntry B _ t k _ (HV.out.ext okT HB.out) hlt (by omega) HNS.out).mono ?_; rintro e w1 ⟨rfl, hb1⟩; replace HB := hQq (Ext.trans HB.out hb1); clear hb1; obtain ⟨c0, c1, c2, c3, c4, c5, c6, c7⟩ := cells8 HB.out hbx XX.out) | (go_at_call 70; refine (refKind x _ _ ⟨_, _, rfl⟩).mono ?_; rintro e w1 ⟨rfl, hb1⟩; replace HB := hQq (Ext.trans HB.out hb1); clear hb1; obtain ⟨c0, c1, c2, c3, c4, c5, c6, c7⟩ := cells8 HB.out hbx XX.out) | (go_at_call 71; refine (refCheck _ x.ats _ (HVX.out.ext HB.out) HAM.out).mono ?_; rintro e w1 ⟨rfl, hb1⟩; replace HB := hQq (Ext.trans HB.out hb1); clear hb1) | (go_at_call 72; refine (refClass B _ t k _ (HV.out.ext okT HB.out) hlt (by omega) HMC.out HAT.out).mono ?_; rintro e w1 ⟨rfl, hb1⟩; replace HB := hQq (Ext.trans HB.out hb1); clear hb1))
        go_ret2
        exact ⟨by rw [HR.out.1, HR.out.2, HR2.out]; rfl, HB.out⟩
      have s3 := hx
      clear hx
      by_cases hx : chkE x.ats = 0
      case neg =>
        have hn : nodeE t k = chkE x.ats := nodeE_attrs HGT.out s1 HE2.out s3 hx
        have HR := hQq (tree_of (treeT_node (by omega) hlt HOK.out (show nodeE t k ≠ 0 by rw [hn]; exact hx)))
        have HR2 := hQq hn
        have q1 : (chkE x.ats == 0) = false := beq_eq_false_iff_ne.2 hx
        have q2 : (chkE x.ats != 0) = true := bne_iff_ne.2 hx
        clear hx hn
        go_wp2_with (first | (go_at_call 68; refine (refShape B _ t k _ (HV.out.ext okT HB.out) hlt (by omega) HP.out).mono ?_; rintro e w1 ⟨rfl, hb1⟩; replace HB := hQq (Ext.trans HB.out hb1); clear hb1; obtain ⟨c0, c1, c2, c3, c4, c5, c6, c7⟩ := cells8 HB.out hbx XX.out) | (go_at_call 69; refine (refEntry B _ t k _ (HV.out.ext okT HB.out) hlt (by omega) HNS.out).mono ?_; rintro e w1 ⟨rfl, hb1⟩; replace HB := hQq (Ext.trans HB.out hb1); clear hb1; obtain ⟨c0, c1, c2, c3, c4, c5, c6, c7⟩ := cells8 HB.out hbx XX.out) | (go_at_call 70; refine (refKind x _ _ ⟨_, _, rfl⟩).mono ?_; rintro e w1 ⟨rfl, hb1⟩; replace HB := hQq (Ext.trans HB.out hb1); clear hb1; obtain ⟨c0, c1, c2, c3, c4, c5, c6, c7⟩ := cells8 HB.out hbx XX.out) | (go_at_call 71; refine (refCheck _ x.ats _ (HVX.out.ext HB.out) HAM.out).mono ?_; rintro e w1 ⟨rfl, hb1⟩; replace HB := hQq (Ext.trans HB.out hb1); clear hb1) | (go_at_call 72; refine (refClass B _ t k _ (HV.out.ext okT HB.out) hlt (by omega) HMC.out HAT.out).mono ?_; rintro e w1 ⟨rfl, hb1⟩; replace HB := hQq (Ext.trans HB.out hb1); clear hb1))
        go_ret2
        exact ⟨by rw [HR.out.1, HR.out.2, HR2.out]; rfl, HB.out⟩
      have s4 := hx
      clear hx
      by_cases hx : clsE t k = 0
      case neg =>
        have hn : nodeE t k = clsE t k := nodeE_cls HGT.out s1 HE2.out s3 s4
        have HR := hQq (tree_of (treeT_node (by omega) hlt HOK.out (show nodeE t k ≠ 0 by rw [hn]; exact hx)))
        have HR2 := hQq hn
        have q1 : (clsE t k == 0) = false := beq_eq_false_iff_ne.2 hx
        have q2 : (clsE t k != 0) = true := bne_iff_ne.2 hx
        clear hx hn
        go_wp2_with (first | (go_at_call 68; refine (refShape B _ t k _ (HV.out.ext okT HB.out) hlt (by omega) HP.out).mono ?_; rintro e w1 ⟨rfl, hb1⟩; replace HB := hQq (Ext.trans HB.out hb1); clear hb1; obtain ⟨c0, c1, c2, c3, c4, c5, c6, c7⟩ := cells8 HB.out hbx XX.out) | (go_at_call 69; refine (refEntry B _ t k _ (HV.out.ext okT HB.out) hlt (by omega) HNS.out).mono ?_; rintro e w1 ⟨rfl, hb1⟩; replace HB := hQq (Ext.trans HB.out hb1); clear hb1; obtain ⟨c0, c1, c2, c3, c4, c5, c6, c7⟩ := cells8 HB.out hbx XX.out) | (go_at_call 70; refine (refKind x _ _ ⟨_, _, rfl⟩).mono ?_; rintro e w1 ⟨rfl, hb1⟩; replace HB := hQq (Ext.trans HB.out hb1); clear hb1; obtain ⟨c0, c1, c2, c3, c4, c5, c6, c7⟩ := cells8 HB.out hbx XX.out) | (go_at_call 71; refine (refCheck _ x.ats _ (HVX.out.ext HB.out) HAM.out).mono ?_; rintro e w1 ⟨rfl, hb1⟩; replace HB := hQq (Ext.trans HB.out hb1); clear hb1) | (go_at_call 72; refine (refClass B _ t k _ (HV.out.ext okT HB.out) hlt (by omega) HMC.out HAT.out).mono ?_; rintro e w1 ⟨rfl, hb1⟩; replace HB := hQq (Ext.trans HB.out hb1); clear hb1))
        go_ret2
        exact ⟨by rw [HR.out.1, HR.out.2, HR2.out]; rfl, HB.out⟩
      have s5 := hx
      clear hx
      have HN := hQq (HOK.out.step ((nodeE_cls HGT.out s1 HE2.out s3 s4).trans s5))
      go_wp2_with (first | (go_at_call 68; refine (refShape B _ t k _ (HV.out.ext okT HB.out) hlt (by omega) HP.out).mono ?_; rintro e w1 ⟨rfl, hb1⟩; replace HB := hQq (Ext.trans HB.out hb1); clear hb1; obtain ⟨c0, c1, c2, c3, c4, c5, c6, c7⟩ := cells8 HB.out hbx XX.out) | (go_at_call 69; refine (refEntry B _ t k _ (HV.out.ext okT HB.out) hlt (by omega) HNS.out).mono ?_; rintro e w1 ⟨rfl, hb1⟩; replace HB := hQq (Ext.trans HB.out hb1); clear hb1; obtain ⟨c0, c1, c2, c3, c4, c5, c6, c7⟩ := cells8 HB.out hbx XX.out) | (go_at_call 70; refine (refKind x _ _ ⟨_, _, rfl⟩).mono ?_; rintro e w1 ⟨rfl, hb1⟩; replace HB := hQq (Ext.trans HB.out hb1); clear hb1; obtain ⟨c0, c1, c2, c3, c4, c5, c6, c7⟩ := cells8 HB.out hbx XX.out) | (go_at_call 71; refine (refCheck _ x.ats _ (HVX.out.ext HB.out) HAM.out).mono ?_; rintro e w1 ⟨rfl, hb1⟩; replace HB := hQq (Ext.trans HB.out hb1); clear hb1) | (go_at_call 72; refine (refClass B _ t k _ (HV.out.ext okT HB.out) hlt (by omega) HMC.out HAT.out).mono ?_; rintro e w1 ⟨rfl, hb1⟩; replace HB := hQq (Ext.trans HB.out hb1); clear hb1))
      go_roundw
      case rel => exact ⟨_, k + 1, rfl, by omega, by go_num, HN.out, HB.out⟩
      case measure => first | (simp [intOf]; done) | (simp [intOf]; omega)
    · have HK0 := hQq hk0
      have z0 : decide ((0 : Int) < (k : Int)) = true := decide_eq_true (by omega)
      have z1 : 0 < k := by omega
      clear hk0
      by_cases hx : shapeE t k = 0
      case neg =>
        have hn : nodeE t k = shapeE t k := nodeE_shape hx
        have HR := hQq (tree_of (treeT_node (by omega) hlt HOK.out (show nodeE t k ≠ 0 by rw [hn]; exact hx)))
        have HR2 := hQq hn
        have q1 : (shapeE t k == 0) = false := beq_eq_false_iff_ne.2 hx
        have q2 : (shapeE t k != 0) = true := bne_iff_ne.2 hx
        clear hx hn
        go_wp2_with (first | (go_at_call 68; refine (refShape B _ t k _ (HV.out.ext okT HB.out) hlt (by omega) HP.out).mono ?_; rintro e w1 ⟨rfl, hb1⟩; replace HB := hQq (Ext.trans HB.out hb1); clear hb1; obtain ⟨c0, c1, c2, c3, c4, c5, c6, c7⟩ := cells8 HB.out hbx XX.out) | (go_at_call 69; refine (refEntry B _ t k _ (HV.out.ext okT HB.out) hlt (by omega) HNS.out).mono ?_; rintro e w1 ⟨rfl, hb1⟩; replace HB := hQq (Ext.trans HB.out hb1); clear hb1; obtain ⟨c0, c1, c2, c3, c4, c5, c6, c7⟩ := cells8 HB.out hbx XX.out) | (go_at_call 70; refine (refKind x _ _ ⟨_, _, rfl⟩).mono ?_; rintro e w1 ⟨rfl, hb1⟩; replace HB := hQq (Ext.trans HB.out hb1); clear hb1; obtain ⟨c0, c1, c2, c3, c4, c5, c6, c7⟩ := cells8 HB.out hbx XX.out) | (go_at_call 71; refine (refCheck _ x.ats _ (HVX.out.ext HB.out) HAM.out).mono ?_; rintro e w1 ⟨rfl, hb1⟩; replace HB := hQq (Ext.trans HB.out hb1); clear hb1) | (go_at_call 72; refine (refClass B _ t k _ (HV.out.ext okT HB.out) hlt (by omega) HMC.out HAT.out).mono ?_; rintro e w1 ⟨rfl, hb1⟩; replace HB := hQq (Ext.trans HB.out hb1); clear hb1))
        go_ret2
        exact ⟨by rw [HR.out.1, HR.out.2, HR2.out]; rfl, HB.out⟩
      have s1 := hx
      clear hx
      by_cases hx : entryE t k = 0
      case neg =>
        have hn : nodeE t k = entryE t k := nodeE_entry s1 HK0.out hx
        have HR := hQq (tree_of (treeT_node (by omega) hlt HOK.out (show nodeE t k ≠ 0 by rw [hn]; exact hx)))
        have HR2 := hQq hn
        have q1 : (entryE t k == 0) = false := beq_eq_false_iff_ne.2 hx
        have q2 : (entryE t k != 0) = true := bne_iff_ne.2 hx
        clear hx hn
        go_wp2_with (first | (go_at_call 68; refine (refShape B _ t k _ (HV.out.ext okT HB.out) hlt (by omega) HP.out).mono ?_; rintro e w1 ⟨rfl, hb1⟩; replace HB := hQq (Ext.trans HB.out hb1); clear hb1; obtain ⟨c0, c1, c2, c3, c4, c5, c6, c7⟩ := cells8 HB.out hbx XX.out) | (go_at_call 69; refine (refEntry B _ t k _ (HV.out.ext okT HB.out) hlt (by omega) HNS.out).mono ?_; rintro e w1 ⟨rfl, hb1⟩; replace HB := hQq (Ext.trans HB.out hb1); clear hb1; obtain ⟨c0, c1, c2, c3, c4, c5, c6, c7⟩ := cells8 HB.out hbx XX.out) | (go_at_call 70; refine (refKind x _ _ ⟨_, _, rfl⟩).mono ?_; rintro e w1 ⟨rfl, hb1⟩; replace HB := hQq (Ext.trans HB.out hb1); clear hb1; obtain ⟨c0, c1, c2, c3, c4, c5, c6, c7⟩ := cells8 HB.out hbx XX.out) | (go_at_call 71; refine (refCheck _ x.ats _ (HVX.out.ext HB.out) HAM.out).mono ?_; rintro e w1 ⟨rfl, hb1⟩; replace HB := hQq (Ext.trans HB.out hb1); clear hb1) | (go_at_call 72; refine (refClass B _ t k _ (HV.out.ext okT HB.out) hlt (by omega) HMC.out HAT.out).mono ?_; rintro e w1 ⟨rfl, hb1⟩; replace HB := hQq (Ext.trans HB.out hb1); clear hb1))
        go_ret2
        exact ⟨by rw [HR.out.1, HR.out.2, HR2.out]; rfl, HB.out⟩
      have s2 := hx
      clear hx
      have HE2 : Hid (k ≠ 0 -> entryE t k = 0) := hQq (fun _ => s2)
      by_cases hx : kindE x = 0
      case neg =>
        have hn : nodeE t k = kindE x := nodeE_kind HGT.out s1 HE2.out hx
        have HR := hQq (tree_of (treeT_node (by omega) hlt HOK.out (show nodeE t k ≠ 0 by rw [hn]; exact hx)))
        have HR2 := hQq hn
        have q1 : (kindE x == 0) = false := beq_eq_false_iff_ne.2 hx
        have q2 : (kindE x != 0) = true := bne_iff_ne.2 hx
        clear hx hn
        go_wp2_with (first | (go_at_call 68; refine (refShape B _ t k _ (HV.out.ext okT HB.out) hlt (by omega) HP.out).mono ?_; rintro e w1 ⟨rfl, hb1⟩; replace HB := hQq (Ext.trans HB.out hb1); clear hb1; obtain ⟨c0, c1, c2, c3, c4, c5, c6, c7⟩ := cells8 HB.out hbx XX.out) | (go_at_call 69; refine (refEntry B _ t k _ (HV.out.ext okT HB.out) hlt (by omega) HNS.out).mono ?_; rintro e w1 ⟨rfl, hb1⟩; replace HB := hQq (Ext.trans HB.out hb1); clear hb1; obtain ⟨c0, c1, c2, c3, c4, c5, c6, c7⟩ := cells8 HB.out hbx XX.out) | (go_at_call 70; refine (refKind x _ _ ⟨_, _, rfl⟩).mono ?_; rintro e w1 ⟨rfl, hb1⟩; replace HB := hQq (Ext.trans HB.out hb1); clear hb1; obtain ⟨c0, c1, c2, c3, c4, c5, c6, c7⟩ := cells8 HB.out hbx XX.out) | (go_at_call 71; refine (refCheck _ x.ats _ (HVX.out.ext HB.out) HAM.out).mono ?_; rintro e w1 ⟨rfl, hb1⟩; replace HB := hQq (Ext.trans HB.out hb1); clear hb1) | (go_at_call 72; refine (refClass B _ t k _ (HV.out.ext okT HB.out) hlt (by omega) HMC.out HAT.out).mono ?_; rintro e w1 ⟨rfl, hb1⟩; replace HB := hQq (Ext.trans HB.out hb1); clear hb1))
        go_ret2
        exact ⟨by rw [HR.out.1, HR.out.2, HR2.out]; rfl, HB.out⟩
      have s3 := hx
      clear hx
      by_cases hx : chkE x.ats = 0
      case neg =>
        have hn : nodeE t k = chkE x.ats := nodeE_attrs HGT.out s1 HE2.out s3 hx
        have HR := hQq (tree_of (treeT_node (by omega) hlt HOK.out (show nodeE t k ≠ 0 by rw [hn]; exact hx)))
        have HR2 := hQq hn
        have q1 : (chkE x.ats == 0) = false := beq_eq_false_iff_ne.2 hx
        have q2 : (chkE x.ats != 0) = true := bne_iff_ne.2 hx
        clear hx hn
        go_wp2_with (first | (go_at_call 68; refine (refShape B _ t k _ (HV.out.ext okT HB.out) hlt (by omega) HP.out).mono ?_; rintro e w1 ⟨rfl, hb1⟩; replace HB := hQq (Ext.trans HB.out hb1); clear hb1; obtain ⟨c0, c1, c2, c3, c4, c5, c6, c7⟩ := cells8 HB.out hbx XX.out) | (go_at_call 69; refine (refEntry B _ t k _ (HV.out.ext okT HB.out) hlt (by omega) HNS.out).mono ?_; rintro e w1 ⟨rfl, hb1⟩; replace HB := hQq (Ext.trans HB.out hb1); clear hb1; obtain ⟨c0, c1, c2, c3, c4, c5, c6, c7⟩ := cells8 HB.out hbx XX.out) | (go_at_call 70; refine (refKind x _ _ ⟨_, _, rfl⟩).mono ?_; rintro e w1 ⟨rfl, hb1⟩; replace HB := hQq (Ext.trans HB.out hb1); clear hb1; obtain ⟨c0, c1, c2, c3, c4, c5, c6, c7⟩ := cells8 HB.out hbx XX.out) | (go_at_call 71; refine (refCheck _ x.ats _ (HVX.out.ext HB.out) HAM.out).mono ?_; rintro e w1 ⟨rfl, hb1⟩; replace HB := hQq (Ext.trans HB.out hb1); clear hb1) | (go_at_call 72; refine (refClass B _ t k _ (HV.out.ext okT HB.out) hlt (by omega) HMC.out HAT.out).mono ?_; rintro e w1 ⟨rfl, hb1⟩; replace HB := hQq (Ext.trans HB.out hb1); clear hb1))
        go_ret2
        exact ⟨by rw [HR.out.1, HR.out.2, HR2.out]; rfl, HB.out⟩
      have s4 := hx
      clear hx
      by_cases hx : clsE t k = 0
      case neg =>
        have hn : nodeE t k = clsE t k := nodeE_cls HGT.out s1 HE2.out s3 s4
        have HR := hQq (tree_of (treeT_node (by omega) hlt HOK.out (show nodeE t k ≠ 0 by rw [hn]; exact hx)))
        have HR2 := hQq hn
        have q1 : (clsE t k == 0) = false := beq_eq_false_iff_ne.2 hx
        have q2 : (clsE t k != 0) = true := bne_iff_ne.2 hx
        clear hx hn
        go_wp2_with (first | (go_at_call 68; refine (refShape B _ t k _ (HV.out.ext okT HB.out) hlt (by omega) HP.out).mono ?_; rintro e w1 ⟨rfl, hb1⟩; replace HB := hQq (Ext.trans HB.out hb1); clear hb1; obtain ⟨c0, c1, c2, c3, c4, c5, c6, c7⟩ := cells8 HB.out hbx XX.out) | (go_at_call 69; refine (refEntry B _ t k _ (HV.out.ext okT HB.out) hlt (by omega) HNS.out).mono ?_; rintro e w1 ⟨rfl, hb1⟩; replace HB := hQq (Ext.trans HB.out hb1); clear hb1; obtain ⟨c0, c1, c2, c3, c4, c5, c6, c7⟩ := cells8 HB.out hbx XX.out) | (go_at_call 70; refine (refKind x _ _ ⟨_, _, rfl⟩).mono ?_; rintro e w1 ⟨rfl, hb1⟩; replace HB := hQq (Ext.trans HB.out hb1); clear hb1; obtain ⟨c0, c1, c2, c3, c4, c5, c6, c7⟩ := cells8 HB.out hbx XX.out) | (go_at_call 71; refine (refCheck _ x.ats _ (HVX.out.ext HB.out) HAM.out).mono ?_; rintro e w1 ⟨rfl, hb1⟩; replace HB := hQq (Ext.trans HB.out hb1); clear hb1) | (go_at_call 72; refine (refClass B _ t k _ (HV.out.ext okT HB.out) hlt (by omega) HMC.out HAT.out).mono ?_; rintro e w1 ⟨rfl, hb1⟩; replace HB := hQq (Ext.trans HB.out hb1); clear hb1))
        go_ret2
        exact ⟨by rw [HR.out.1, HR.out.2, HR2.out]; rfl, HB.out⟩
      have s5 := hx
      clear hx
      have HN := hQq (HOK.out.step ((nodeE_cls HGT.out s1 HE2.out s3 s4).trans s5))
      go_wp2_with (first | (go_at_call 68; refine (refShape B _ t k _ (HV.out.ext okT HB.out) hlt (by omega) HP.out).mono ?_; rintro e w1 ⟨rfl, hb1⟩; replace HB := hQq (Ext.trans HB.out hb1); clear hb1; obtain ⟨c0, c1, c2, c3, c4, c5, c6, c7⟩ := cells8 HB.out hbx XX.out) | (go_at_call 69; refine (refEntry B _ t k _ (HV.out.ext okT HB.out) hlt (by omega) HNS.out).mono ?_; rintro e w1 ⟨rfl, hb1⟩; replace HB := hQq (Ext.trans HB.out hb1); clear hb1; obtain ⟨c0, c1, c2, c3, c4, c5, c6, c7⟩ := cells8 HB.out hbx XX.out) | (go_at_call 70; refine (refKind x _ _ ⟨_, _, rfl⟩).mono ?_; rintro e w1 ⟨rfl, hb1⟩; replace HB := hQq (Ext.trans HB.out hb1); clear hb1; obtain ⟨c0, c1, c2, c3, c4, c5, c6, c7⟩ := cells8 HB.out hbx XX.out) | (go_at_call 71; refine (refCheck _ x.ats _ (HVX.out.ext HB.out) HAM.out).mono ?_; rintro e w1 ⟨rfl, hb1⟩; replace HB := hQq (Ext.trans HB.out hb1); clear hb1) | (go_at_call 72; refine (refClass B _ t k _ (HV.out.ext okT HB.out) hlt (by omega) HMC.out HAT.out).mono ?_; rintro e w1 ⟨rfl, hb1⟩; replace HB := hQq (Ext.trans HB.out hb1); clear hb1))
      go_roundw
      case rel => exact ⟨_, k + 1, rfl, by omega, by go_num, HN.out, HB.out⟩
      case measure => first | (simp [intOf]; done) | (simp [intOf]; omega)
end Go.Proofs.YtimpejaaeinplaaGreatDoor
