/- ChkB ChkC -/
import Derived.Test.YtimpejaaeinplaaGreatDoorQI3
import Derived.Test.YtimpejaaeinplaaGreatDoorQNodA
import Derived.Test.YtimpejaaeinplaaGreatDoorQChkB
namespace Go.Proofs.YtimpejaaeinplaaGreatDoor
open Go.RowKit

set_option maxRecDepth 100000 in
set_option maxHeartbeats 4000000 in
theorem treePlace0 (B : Nat) (w : World) (c m1 m2 : Nat) (vd : Value) (D : List Opn) (f : Bool) (cl : Int) (x : TrN) (va : Value)
    (hblk : w.heap[c]? = some (.cells #[vd, .bool f, .map (some m1), .map (some m2), .int .i64 cl] 151 (0, 0))) (hBc : B <= c) (hBw : B <= w.heap.size) (hD : OwnL cdO B w vd D) (h0 : D.length = 0) (hva : ∃ a n m, va = .slice a n m) :
    Calls Tryz.prog 178 #[.pointer (some ⟨c, 0, none⟩), trV x va] w (PlaceP B w c m1 m2 vd D f cl x) := by
  unfold trV
  obtain ⟨a3, n3, cap3, rfl⟩ := hva
  obtain rfl : D = [] := List.length_eq_zero_iff.1 h0
  obtain ⟨ad, cap, rfl⟩ := hD.form
  replace hD : OwnL cdO B w (.slice ad 0 cap) [] := hD
  replace hblk : w.heap[c]? = some (.cells #[.slice ad 0 cap, .bool f, .map (some m1), .map (some m2), .int .i64 cl] 151 (0, 0)) := hblk
  have hcl := blk_lt hblk
  have k0 : w.cell? ⟨c, 0, none⟩ = some (.slice ad 0 cap) := bC hblk 0
  have k1 : w.cell? ⟨c, 1, none⟩ = some (.bool f) := bC hblk 1
  have fc : ∀ j, w.frozen? ⟨c, j, none⟩ = false := fun j => bT hblk j
  have HBK := hQq hblk; clear hblk
  have HD := hQq hD; clear hD
  have HP : Hid (placeE [] f x = if x.dep = 0 /\ x.nm.toList = [] /\ x.kd = 1 then 0 else 6) := hQq (by unfold placeE; rw [if_pos h0])
  clear h0
  by_cases e1 : x.dep = 0
  case neg =>
    have d1 : (x.dep != 0) = true := bne_iff_ne.2 e1
    have HR := hQq (HP.out.trans (if_neg (fun h => e1 h.1))); clear e1 HP
    go_enter Tryz.func178, Tryz.ntmps178
    go_wp2
    go_ret
    exact placeP_err HR.out (by decide) ((eA _ _).mono hBw)
  by_cases e2 : x.nm.toList = []
  case neg =>
    have d2 : x.nm.toList.isEmpty = false := by simpa using e2
    have HR := hQq (HP.out.trans (if_neg (fun h => e2 h.2.1))); clear e2 HP
    go_enter Tryz.func178, Tryz.ntmps178
    go_wp2
    go_ret
    exact placeP_err HR.out (by decide) ((eA _ _).mono hBw)
  have d2 : x.nm.toList.isEmpty = true := by rw [e2]; rfl
  by_cases e3 : x.kd = 1
  case neg =>
    have d3 : (x.kd != 1) = true := bne_iff_ne.2 e3
    have HR := hQq (HP.out.trans (if_neg (fun h => e3 h.2.2))); clear e3 e2 HP
    go_enter Tryz.func178, Tryz.ntmps178
    go_wp2
    go_ret
    exact placeP_err HR.out (by decide) ((eA _ _).mono hBw)
  have HR := hQq (HP.out.trans (if_pos ⟨e1, e2, e3⟩))
  clear e2 HP
  go_enter Tryz.func178, Tryz.ntmps178
  go_wp2_with (at_builtin; refine appL okO rfl (.tmp 31) (.tmp 33) rfl (.slice ad 0 cap) _ [] [(0, ⟨#[]⟩)] w _ rfl rfl (by exact (HD.out.ext okO (eA _ _)).ext okO (eA _ _)) (by exact listIn_new okO _ (0, ⟨#[]⟩) (opnC (0, ⟨#[]⟩)) _ (by simp) rfl) (by exact (eA _ _).mono hBw |>.alloc (by simp; omega) _) (by simp; omega) (by simp) ?_; intro v1 w1 ha; have HB1 := hQq (ha.chg.keep _ _ (bA (bA HBK.out)) (own_ne_c HD.out HBK.out (by decide))); obtain ⟨a1, cap1, rfl⟩ := ha.own.form; have hc1 := blk_lt HB1.out; have k0 : w1.cell? ⟨c, 0, none⟩ = some (.slice ad 0 cap) := bC HB1.out 0; have fc : ∀ j, w1.frozen? ⟨c, j, none⟩ = false := fun j => bT HB1.out j; have HA := hQq ha; clear ha)
  go_ret
  refine ⟨by rw [HR.out]; rfl, HA.out.below.setCell (p := ⟨c, 0, none⟩) hBc _, fun _ => ⟨.slice a1 1 cap1, by rw [bS HB1.out]; rfl, ?_, fun b o h1 h2 h3 => bSn (HA.out.chg.keep _ _ (bA (bA h1)) h3) _ _ h2⟩⟩
  have : placeD [] x = [] ++ [(0, ⟨#[]⟩)] := by unfold placeD; simp
  rw [this]
  exact HA.out.own.other okO (chg_setCell HB1.out hBc _) (by decide) (by simp [cdO])

set_option maxRecDepth 100000 in
set_option maxHeartbeats 8000000 in
theorem treePlace2 (B : Nat) (w : World) (c m1 m2 g cap : Nat) (D : List Opn) (f : Bool) (cl : Int) (x : TrN) (a3 : Option Addr) (n3 cap3 m : Nat) (d : Opn)
    (hblk : w.heap[c]? = some (.cells #[.slice (some ⟨g, 0, none⟩) D.length cap, .bool f, .map (some m1), .map (some m2), .int .i64 cl] 151 (0, 0))) (hBc : B <= c) (hBw : B <= w.heap.size) (hD : OwnL cdO B w (.slice (some ⟨g, 0, none⟩) D.length cap) D) (hl : D.length <= 9)
    (hmD : m < D.length) (hdm : D[m]? = some d) (hdep : x.dep = (m : Int) + 1) (p1 : ¬ 8 < (m : Int) + 1) (p2 : nameE (L x.nm) = 0) (hd23 : d.1 < 24) (e2f : f = false -> ¬ (D.length : Int) < (m : Int) + 1) (e2t : f = true -> (m : Int) + 1 < (D.length : Int))
    (hz : placeE D f x = 0) (hpd : placeD D x = (D.set m (d.1 + 1, x.nm)).take (m + 1) ++ [(0, ⟨#[]⟩)]) (hr : (0 < d.1 /\ (d.2.toList == x.nm.toList) = false /\ Op.bytesLess d.2.toList x.nm.toList = true) \/ d.1 = 0) :
    Calls Tryz.prog 178 #[.pointer (some ⟨c, 0, none⟩), .agg #[.int .i64 x.dep, .string x.nm, .int .i64 x.kd, .slice a3 n3 cap3, .string x.dat, .int .i64 x.ma, .int .i64 x.mi, .int .i64 x.cl]] w (PlaceP B w c m1 m2 (.slice (some ⟨g, 0, none⟩) D.length cap) D f cl x) := by
  have HNE := hQq (own_ne_c hD hblk (by decide))
  obtain ⟨_, he0, hBg, hgl, _⟩ := hD.addr (by omega)
  cases he0
  have hcl := blk_lt hblk
  have k0 : w.cell? ⟨c, 0, none⟩ = some (.slice (some ⟨g, 0, none⟩) D.length cap) := bC hblk 0
  have k1 : w.cell? ⟨c, 1, none⟩ = some (.bool f) := bC hblk 1
  have fc : ∀ j, w.frozen? ⟨c, j, none⟩ = false := fun j => bT hblk j
  have fg : ∀ j, w.frozen? ⟨g, j, none⟩ = false := fun j => hD.frozen j
  have HBK := hQq hblk; clear hblk
  obtain ⟨b', off', he, _, d0, d1⟩ := (hD.in okO).opn m hmD
  cases he
  have hdd : D[m]'hmD = d := by rw [List.getElem?_eq_getElem hmD] at hdm; injection hdm
  have HDM : Hid (D[m]? = some d) := hdm
  rw [hdd, Nat.zero_add] at d0 d1
  have HD := hQq hD; clear hD
  have HZ := hQq hz; have HPD := hQq hpd; clear hz hpd hdd hdm
  have z0 : (((D.length : Nat) : Int) == 0) = false := beq_eq_false_iff_ne.2 (by omega)
  have z1 : 0 < D.length := by omega
  have hz2 : c < w.heap.size + 1 := by omega
  have hg2 : g < w.heap.size + 1 := by omega
  have hcg : c ≠ g := fun e => HNE.out (by rw [e]; rfl)
  have hgc : g ≠ c := fun e => hcg e.symm
  have j1 : ((m : Nat) : Int) < (D.length : Int) := by omega
  have j0 : (0 : Int) <= (m : Int) := by omega
  have j3 : IntKind.i64.wrap ((d.1 : Int) + 1) = (d.1 : Int) + 1 := IntWalk.i64_in _ (by omega)
  have q0 : ¬ (m : Int) + 1 < 1 := by omega
  have r4 : (((d.1 : Nat) : Int) == 24) = false := beq_eq_false_iff_ne.2 (by omega)
  rcases hr with ⟨r1, r2, r3⟩ | r1
  · cases f
    case' false => have q := e2f rfl
    case' true => have q := e2t rfl
    all_goals
      clear e2f e2t
      go_enter Tryz.func178, Tryz.ntmps178
      go_wp2_with (go_at_call 139; refine (pathsName x.nm _).mono ?_; rintro e w2 ⟨rfl, hb⟩; obtain ⟨hc, hf⟩ := bcell hb; have hsz2 := hb.size; have HB := hQq hb; clear hb)
      go_quiet (fail)
      go_wp2
      go_quiet (fail)
      go_wp2
      go_quiet (fail)
      go_wp2
      go_region
      refine place_mid (P := fun W => Exit.then _ _ _ _ W) HB.out HBK.out HD.out hmD HDM.out hcg hBw ?_
      intro W3 b1 b2 o3 hb3 hk3
      clear hc hf hsz2
      have HB3 := hQq hb3; have HK3 := hQq hk3; have HO3 := hQq o3; have B1 := hQq b1; have B2 := hQq b2
      have u0 : W3.cell? ⟨c, 0, none⟩ = some (.slice (some ⟨g, 0, none⟩) D.length cap) := bC b1 0
      have u1 : W3.cell? ⟨w.heap.size, 0, none⟩ = some (.int .i64 ((m : Int) + 1)) := bC b2 0
      have u2 : ∀ j, W3.frozen? ⟨c, j, none⟩ = false := fun j => bT b1 j
      have hc3 := blk_lt b1
      have hw3 := blk_lt b2
      clear hb3 hk3 o3 b1 b2
      have HT3 := hQq (HO3.out.trunc okO (by simp; omega) (by simp; omega : m + 1 <= (D.set m ((d.1 + 1, x.nm) : Opn)).length))
      have hBw3 : B <= W3.heap.size := Nat.le_trans hBw HB3.out.size
      have j4 : ((m : Nat) : Int) + 1 <= (cap : Int) := by obtain ⟨a', cap', he, hcap, _⟩ := HD.out.in okO; cases he; omega
      have j5 : m + 1 <= cap := by omega
      have j6 : (0 : Int) <= (m : Int) + 1 := by omega
      go_wp2
      go_region_law ((refine stepL okO (by rfl) (.tmp 132) (.tmp 134) (by rfl) (.slice (some ⟨g, 0, none⟩) (m + 1) cap) _ ((D.set m (d.1 + 1, x.nm)).take (m + 1)) [(0, ⟨#[]⟩)] w _ (by rfl) (by rfl) (by exact HT3.out.ext okO (by repeat (first | exact Below.refl _ _ | refine Ext.trans ?_ (eA _ _) | refine Ext.trans ?_ (eDn _ _) | refine Ext.trans ?_ (eD _)))) (by exact listIn_new okO _ (0, ⟨#[]⟩) (opnC (0, ⟨#[]⟩)) _ (by simp) rfl) (by exact Below.trans HB3.out (Below.mono (by repeat (first | exact Below.refl _ _ | refine Ext.trans ?_ (eA _ _) | refine Ext.trans ?_ (eDn _ _) | refine Ext.trans ?_ (eD _))) (Nat.le_trans hBw HB3.out.size))) (by have := hBw3; simp; omega) (by rw [List.length_take]; simp; omega) ?_; intro v1 w1 ha; have HB4 := hQq (ha.chg.keep _ _ (by exact bX (by repeat (first | exact Below.refl _ _ | refine Ext.trans ?_ (eA _ _) | refine Ext.trans ?_ (eDn _ _) | refine Ext.trans ?_ (eD _))) B1.out) (fun e => hcg (by injection e with e; exact e.symm))); obtain ⟨a1, cap1, rfl⟩ := ha.own.form; have hc4 := blk_lt HB4.out; have u3 : w1.cell? ⟨c, 0, none⟩ = some (.slice (some ⟨g, 0, none⟩) D.length cap) := bC HB4.out 0; have u4 : ∀ j, w1.frozen? ⟨c, j, none⟩ = false := fun j => bT HB4.out j; have HK4 : Hid (∀ b o, W3.heap[b]? = some o -> b ≠ g -> w1.heap[b]? = some o) := fun b o h1 h2 => ha.chg.keep _ _ (by exact bX (by repeat (first | exact Below.refl _ _ | refine Ext.trans ?_ (eA _ _) | refine Ext.trans ?_ (eDn _ _) | refine Ext.trans ?_ (eD _))) h1) (fun e => h2 (by injection e with e; exact e.symm)); have HA := hQq ha; clear ha))
      all_goals
        go_wp2
        go_ret
        refine ⟨by rw [HZ.out]; rfl, HA.out.below.setCell (p := ⟨c, 0, none⟩) hBc _, fun _ => ⟨_, by rw [bS HB4.out]; rfl, ?_, fun b o h1 h2 h3 => bSn (HK4.out _ _ (HK3.out _ _ h1 (fun e => h3 (by rw [e]; rfl))) (fun e => h3 (by rw [e]; rfl))) _ _ h2⟩⟩
        rw [HPD.out]
        have hown := HA.out.own.other okO (chg_setCell (o := 0) HB4.out hBc (.slice a1 (min (m + 1) D.length + 1) cap1)) (by decide) (by simp [cdO])
        have hlen : ((D.set m ((d.1 + 1, x.nm) : Opn)).take (m + 1) ++ [((0, ⟨#[]⟩) : Opn)]).length = min (m + 1) D.length + 1 := by simp
        rw [hlen] at hown
        exact hown
  · have r1a : ¬ 0 < d.1 := by omega
    have r1b : decide (0 < d.1) = false := decide_eq_false r1a
    clear r1
    cases f
    case' false => have q := e2f rfl
    case' true => have q := e2t rfl
    all_goals
      clear e2f e2t
      go_enter Tryz.func178, Tryz.ntmps178
      go_wp2_with (go_at_call 139; refine (pathsName x.nm _).mono ?_; rintro e w2 ⟨rfl, hb⟩; obtain ⟨hc, hf⟩ := bcell hb; have hsz2 := hb.size; have HB := hQq hb; clear hb)
      go_quiet (fail)
      go_wp2
      go_quiet (fail)
      go_wp2
      go_quiet (fail)
      go_wp2
      go_region
      refine place_mid (P := fun W => Exit.then _ _ _ _ W) HB.out HBK.out HD.out hmD HDM.out hcg hBw ?_
      intro W3 b1 b2 o3 hb3 hk3
      clear hc hf hsz2
      have HB3 := hQq hb3; have HK3 := hQq hk3; have HO3 := hQq o3; have B1 := hQq b1; have B2 := hQq b2
      have u0 : W3.cell? ⟨c, 0, none⟩ = some (.slice (some ⟨g, 0, none⟩) D.length cap) := bC b1 0
      have u1 : W3.cell? ⟨w.heap.size, 0, none⟩ = some (.int .i64 ((m : Int) + 1)) := bC b2 0
      have u2 : ∀ j, W3.frozen? ⟨c, j, none⟩ = false := fun j => bT b1 j
      have hc3 := blk_lt b1
      have hw3 := blk_lt b2
      clear hb3 hk3 o3 b1 b2
      have HT3 := hQq (HO3.out.trunc okO (by simp; omega) (by simp; omega : m + 1 <= (D.set m ((d.1 + 1, x.nm) : Opn)).length))
      have hBw3 : B <= W3.heap.size := Nat.le_trans hBw HB3.out.size
      have j4 : ((m : Nat) : Int) + 1 <= (cap : Int) := by obtain ⟨a', cap', he, hcap, _⟩ := HD.out.in okO; cases he; omega
      have j5 : m + 1 <= cap := by omega
      have j6 : (0 : Int) <= (m : Int) + 1 := by omega
      go_wp2
      go_region_law ((refine stepL okO (by rfl) (.tmp 132) (.tmp 134) (by rfl) (.slice (some ⟨g, 0, none⟩) (m + 1) cap) _ ((D.set m (d.1 + 1, x.nm)).take (m + 1)) [(0, ⟨#[]⟩)] w _ (by rfl) (by rfl) (by exact HT3.out.ext okO (by repeat (first | exact Below.refl _ _ | refine Ext.trans ?_ (eA _ _) | refine Ext.trans ?_ (eDn _ _) | refine Ext.trans ?_ (eD _)))) (by exact listIn_new okO _ (0, ⟨#[]⟩) (opnC (0, ⟨#[]⟩)) _ (by simp) rfl) (by exact Below.trans HB3.out (Below.mono (by repeat (first | exact Below.refl _ _ | refine Ext.trans ?_ (eA _ _) | refine Ext.trans ?_ (eDn _ _) | refine Ext.trans ?_ (eD _))) (Nat.le_trans hBw HB3.out.size))) (by have := hBw3; simp; omega) (by rw [List.length_take]; simp; omega) ?_; intro v1 w1 ha; have HB4 := hQq (ha.chg.keep _ _ (by exact bX (by repeat (first | exact Below.refl _ _ | refine Ext.trans ?_ (eA _ _) | refine Ext.trans ?_ (eDn _ _) | refine Ext.trans ?_ (eD _))) B1.out) (fun e => hcg (by injection e with e; exact e.symm))); obtain ⟨a1, cap1, rfl⟩ := ha.own.form; have hc4 := blk_lt HB4.out; have u3 : w1.cell? ⟨c, 0, none⟩ = some (.slice (some ⟨g, 0, none⟩) D.length cap) := bC HB4.out 0; have u4 : ∀ j, w1.frozen? ⟨c, j, none⟩ = false := fun j => bT HB4.out j; have HK4 : Hid (∀ b o, W3.heap[b]? = some o -> b ≠ g -> w1.heap[b]? = some o) := fun b o h1 h2 => ha.chg.keep _ _ (by exact bX (by repeat (first | exact Below.refl _ _ | refine Ext.trans ?_ (eA _ _) | refine Ext.trans ?_ (eDn _ _) | refine Ext.trans ?_ (eD _))) h1) (fun e => h2 (by injection e with e; exact e.symm)); have HA := hQq ha; clear ha))
      all_goals
        go_wp2
        go_ret
        refine ⟨by rw [HZ.out]; rfl, HA.out.below.setCell (p := ⟨c, 0, none⟩) hBc _, fun _ => ⟨_, by rw [bS HB4.out]; rfl, ?_, fun b o h1 h2 h3 => bSn (HK4.out _ _ (HK3.out _ _ h1 (fun e => h3 (by rw [e]; rfl))) (fun e => h3 (by rw [e]; rfl))) _ _ h2⟩⟩
        rw [HPD.out]
        have hown := HA.out.own.other okO (chg_setCell (o := 0) HB4.out hBc (.slice a1 (min (m + 1) D.length + 1) cap1)) (by decide) (by simp [cdO])
        have hlen : ((D.set m ((d.1 + 1, x.nm) : Opn)).take (m + 1) ++ [((0, ⟨#[]⟩) : Opn)]).length = min (m + 1) D.length + 1 := by simp
        rw [hlen] at hown
        exact hown
set_option maxRecDepth 100000 in
set_option maxHeartbeats 8000000 in
theorem treePlace1 (B : Nat) (w : World) (c m1 m2 : Nat) (vd : Value) (D : List Opn) (f : Bool) (cl : Int) (x : TrN) (va : Value)
    (hblk : w.heap[c]? = some (.cells #[vd, .bool f, .map (some m1), .map (some m2), .int .i64 cl] 151 (0, 0))) (hBc : B <= c) (hBw : B <= w.heap.size) (hD : OwnL cdO B w vd D) (h0 : D.length ≠ 0) (hl : D.length <= 9) (hm : ∀ d ∈ D, d.1 <= 24) (hva : ∃ a n m, va = .slice a n m) :
    Calls Tryz.prog 178 #[.pointer (some ⟨c, 0, none⟩), trV x va] w (PlaceP B w c m1 m2 vd D f cl x) := by
  unfold trV
  obtain ⟨a3, n3, cap3, rfl⟩ := hva
  have HNE := hQq (own_ne_c hD hblk (by decide))
  obtain ⟨ad, cap, rfl⟩ := hD.form
  obtain ⟨g, rfl, hBg, hgl, _⟩ := hD.addr (by omega)
  have hcl := blk_lt hblk
  have k0 : w.cell? ⟨c, 0, none⟩ = some (.slice (some ⟨g, 0, none⟩) D.length cap) := bC hblk 0
  have k1 : w.cell? ⟨c, 1, none⟩ = some (.bool f) := bC hblk 1
  have fc : ∀ j, w.frozen? ⟨c, j, none⟩ = false := fun j => bT hblk j
  have HBK := hQq hblk; clear hblk
  have HD := hQq hD; clear hD
  have HM := hQq hm; clear hm
  have HP := hQq (place_out (f := f) (x := x) h0)
  have z0 : (((D.length : Nat) : Int) == 0) = false := beq_eq_false_iff_ne.2 (by omega)
  have z1 : 0 < D.length := by omega
  by_cases e1 : x.dep < 1
  · have HR := hQq (HP.out.trans (if_pos (.inl e1))); clear HP h0
    cases f
    all_goals
      go_enter Tryz.func178, Tryz.ntmps178
      go_wp2
      go_ret
      exact placeP_err HR.out (by decide) ((eA _ _).mono hBw)
  by_cases e2 : (if f then (D.length : Int) - 1 else D.length) < x.dep
  · have HR := hQq (HP.out.trans (if_pos (.inr e2))); clear HP h0
    cases f
    · replace e2 : (D.length : Int) < x.dep := e2
      go_enter Tryz.func178, Tryz.ntmps178
      go_wp2
      go_ret
      exact placeP_err HR.out (by decide) ((eA _ _).mono hBw)
    · replace e2 : (D.length : Int) - 1 < x.dep := e2
      go_enter Tryz.func178, Tryz.ntmps178
      go_wp2
      go_ret
      exact placeP_err HR.out (by decide) ((eA _ _).mono hBw)
  have HP2 := hQq (HP.out.trans (if_neg (not_or.2 ⟨e1, e2⟩))); clear HP
  obtain ⟨m, hdep⟩ : ∃ m : Nat, x.dep = (m : Int) + 1 := ⟨(x.dep - 1).toNat, by omega⟩
  have hmD : m < D.length := by cases f <;> simp at e2 <;> omega
  have hmt : x.dep.toNat - 1 = m := by omega
  have hgd : D.getD (x.dep.toNat - 1) (0, ⟨#[]⟩) = D[m]'hmD := by rw [hmt, List.getD_eq_getElem?_getD, List.getElem?_eq_getElem hmD]; rfl
  rw [hgd] at HP2
  have hf2 : (if f then (D.length : Int) - 1 else D.length) < x.dep ↔ False := iff_false_intro e2
  obtain ⟨b', off', he, _, d0, d1⟩ := (HD.out.in okO).opn m hmD
  cases he
  rw [Nat.zero_add] at d0 d1
  have hd24 := HM.out _ (List.getElem_mem hmD)
  have HPD : Hid (placeD D x = (D.set m ((D[m]'hmD).1 + 1, x.nm)).take (m + 1) ++ [(0, ⟨#[]⟩)]) := hQq (by unfold placeD; rw [if_neg h0, hgd, hmt, show x.dep.toNat = m + 1 by omega])
  have HDM : Hid (D[m]? = some (D[m]'hmD)) := List.getElem?_eq_getElem hmD
  generalize D[m]'hmD = d at d0 d1 hd24 HP2 HPD HDM hgd
  have hz2 : c < w.heap.size + 1 := by omega
  have hg2 : g < w.heap.size + 1 := by omega
  have j1 : ((m : Nat) : Int) < (D.length : Int) := by omega
  have j0 : (0 : Int) <= (m : Int) := by omega
  have j3 : IntKind.i64.wrap ((d.1 : Int) + 1) = (d.1 : Int) + 1 := IntWalk.i64_in _ (by omega)
  have e2f : f = false -> ¬ (D.length : Int) < (m : Int) + 1 := fun h => by subst h; simp at e2; omega
  have e2t : f = true -> (m : Int) + 1 < (D.length : Int) := fun h => by subst h; simp at e2; omega
  have q0 : ¬ (m : Int) + 1 < 1 := by omega
  clear hgd hmt hf2 e1 e2 h0
  by_cases p1 : 8 < (m : Int) + 1
  · have HR := hQq (HP2.out.trans (if_pos (by rw [hdep]; exact p1))); clear HP2
    cases f
    · have q := e2f rfl
      clear e2f e2t
      go_enter Tryz.func178, Tryz.ntmps178
      go_wp2
      go_ret
      exact placeP_err HR.out (by decide) ((eA _ _).mono hBw)
    · have q := e2t rfl
      exfalso; omega
  have HP3 := hQq (HP2.out.trans (if_neg (by rw [hdep]; exact p1))); clear HP2
  by_cases p2 : nameE (L x.nm) = 0
  case neg =>
    have HR := hQq (HP3.out.trans (if_pos p2)); clear HP3
    have n1 : (nameE (L x.nm) != 0) = true := bne_iff_ne.2 p2
    cases f
    case' false => have q := e2f rfl
    case' true => have q := e2t rfl
    all_goals
      clear e2f e2t
      go_enter Tryz.func178, Tryz.ntmps178
      go_wp2_with (go_at_call 139; refine (pathsName x.nm _).mono ?_; rintro e w2 ⟨rfl, hb⟩; obtain ⟨hc, hf⟩ := bcell hb; have hsz2 := hb.size; have HB := hQq hb; clear hb)
      go_ret
      exact placeP_err HR.out p2 (((eA _ _).trans HB.out).mono hBw)
  have HP4 := hQq (HP3.out.trans (if_neg (by simpa using p2))); clear HP3
  by_cases p3 : 0 < d.1 /\ d.2 = x.nm
  · have HR := hQq (HP4.out.trans (if_pos p3)); clear HP4
    have r1 : 0 < d.1 := p3.1
    have r2 : (d.2.toList == x.nm.toList) = true := by rw [p3.2]; simp
    clear p3
    cases f
    case' false => have q := e2f rfl
    case' true => have q := e2t rfl
    all_goals
      clear e2f e2t
      go_enter Tryz.func178, Tryz.ntmps178
      go_wp2_with (go_at_call 139; refine (pathsName x.nm _).mono ?_; rintro e w2 ⟨rfl, hb⟩; obtain ⟨hc, hf⟩ := bcell hb; have hsz2 := hb.size; have HB := hQq hb; clear hb)
      go_quiet (fail)
      go_wp2
      go_quiet (fail)
      go_wp2
      go_ret
      exact placeP_err HR.out (by decide) ((((eA _ _).trans HB.out).trans (by first | exact eDn _ _ | exact Ext.trans (eDn _ _) (eDn _ _) | exact Ext.trans (eDn _ _) (Ext.trans (eDn _ _) (eDn _ _)))).mono hBw)
  have HP5 := hQq (HP4.out.trans (if_neg p3)); clear HP4
  by_cases p4 : 0 < d.1 /\ L x.nm < L d.2
  · have HR := hQq (HP5.out.trans (if_pos p4)); clear HP5
    have r1 : 0 < d.1 := p4.1
    have r2 : (d.2.toList == x.nm.toList) = false := by rw [beq_eq_false_iff_ne]; intro h; exact p3 ⟨p4.1, L_inj (by rw [<- toList_L, <- toList_L]; exact h)⟩
    have r3 := bl_false (fun h => List.lt_irrefl _ (List.lt_trans p4.2 h))
    clear p3 p4
    cases f
    case' false => have q := e2f rfl
    case' true => have q := e2t rfl
    all_goals
      clear e2f e2t
      go_enter Tryz.func178, Tryz.ntmps178
      go_wp2_with (go_at_call 139; refine (pathsName x.nm _).mono ?_; rintro e w2 ⟨rfl, hb⟩; obtain ⟨hc, hf⟩ := bcell hb; have hsz2 := hb.size; have HB := hQq hb; clear hb)
      go_quiet (fail)
      go_wp2
      go_quiet (fail)
      go_wp2
      go_quiet (fail)
      go_wp2
      go_ret
      exact placeP_err HR.out (by decide) ((((eA _ _).trans HB.out).trans (by first | exact eDn _ _ | exact Ext.trans (eDn _ _) (eDn _ _) | exact Ext.trans (eDn _ _) (Ext.trans (eDn _ _) (eDn _ _)))).mono hBw)
  have HP6 := hQq (HP5.out.trans (if_neg p4)); clear HP5
  by_cases p5 : d.1 = 24
  · have HR := hQq (HP6.out.trans (if_pos p5)); clear HP6
    have r1 : 0 < d.1 := by omega
    have r2 : (d.2.toList == x.nm.toList) = false := by rw [beq_eq_false_iff_ne]; intro h; exact p3 ⟨r1, L_inj (by rw [<- toList_L, <- toList_L]; exact h)⟩
    have r3 := bl_true (lt_of_no (a := d.2) (b := x.nm) (fun h => p3 ⟨r1, h⟩) (fun h => p4 ⟨r1, h⟩))
    have r4 : (((d.1 : Nat) : Int) == 24) = true := beq_iff_eq.2 (by omega)
    clear p3 p4 p5
    cases f
    case' false => have q := e2f rfl
    case' true => have q := e2t rfl
    all_goals
      clear e2f e2t
      go_enter Tryz.func178, Tryz.ntmps178
      go_wp2_with (go_at_call 139; refine (pathsName x.nm _).mono ?_; rintro e w2 ⟨rfl, hb⟩; obtain ⟨hc, hf⟩ := bcell hb; have hsz2 := hb.size; have HB := hQq hb; clear hb)
      go_quiet (fail)
      go_wp2
      go_quiet (fail)
      go_wp2
      go_quiet (fail)
      go_wp2
      go_ret
      exact placeP_err HR.out (by decide) ((((eA _ _).trans HB.out).trans (by first | exact eDn _ _ | exact Ext.trans (eDn _ _) (eDn _ _) | exact Ext.trans (eDn _ _) (Ext.trans (eDn _ _) (eDn _ _)))).mono hBw)
  have HP7 := HP6
  have hd23 : d.1 < 24 := by omega
  have hz : placeE D f x = 0 := HP7.out.trans (if_neg p5)
  refine treePlace2 B w c m1 m2 g cap D f cl x a3 n3 cap3 m d HBK.out hBc hBw HD.out hl hmD HDM.out hdep p1 p2 hd23 e2f e2t hz HPD.out ?_
  by_cases r1 : 0 < d.1
  · refine .inl ⟨r1, ?_, bl_true (lt_of_no (a := d.2) (b := x.nm) (fun h => p3 ⟨r1, h⟩) (fun h => p4 ⟨r1, h⟩))⟩
    rw [beq_eq_false_iff_ne]; intro h; exact p3 ⟨r1, L_inj (by rw [<- toList_L, <- toList_L]; exact h)⟩
  · exact .inr (by omega)
theorem treePlace (B : Nat) (w : World) (c m1 m2 : Nat) (vd : Value) (D : List Opn) (f : Bool) (cl : Int) (x : TrN) (va : Value)
    (hblk : w.heap[c]? = some (.cells #[vd, .bool f, .map (some m1), .map (some m2), .int .i64 cl] 151 (0, 0))) (hBc : B <= c) (hBw : B <= w.heap.size) (hD : OwnL cdO B w vd D) (hl : D.length <= 9) (hm : ∀ d ∈ D, d.1 <= 24) (hva : ∃ a n m, va = .slice a n m) :
    Calls Tryz.prog 178 #[.pointer (some ⟨c, 0, none⟩), trV x va] w (PlaceP B w c m1 m2 vd D f cl x) := by
  by_cases h0 : D.length = 0
  · exact treePlace0 B w c m1 m2 vd D f cl x va hblk hBc hBw hD h0 hva
  · exact treePlace1 B w c m1 m2 vd D f cl x va hblk hBc hBw hD h0 hl hm hva
end Go.Proofs.YtimpejaaeinplaaGreatDoor
namespace Go.Proofs.YtimpejaaeinplaaGreatDoor
open Go.RowKit

set_option maxRecDepth 100000 in
set_option maxHeartbeats 8000000 in
theorem treeClass (B : Nat) (w : World) (c m1 m2 n1 n2 : Nat) (vd : Value) (f : Bool) (m : Int) (F1 F2 : Int -> Option Value) (x y : TrN) (va vy : Value) (n : Nat)
    (hblk : w.heap[c]? = some (.cells #[vd, .bool f, .map (some m1), .map (some m2), .int .i64 m] 151 (0, 0))) (hM1 : MapAt kI w m1 n1 F1) (hM2 : MapAt kI w m2 n2 F2)
    (hBc : B <= c) (hB1 : B <= m1) (hB2 : B <= m2) (hBw : B <= w.heap.size) (h12 : m1 ≠ m2) (hm0 : 0 <= m) (hm1 : m <= 1000) (hn : n <= 1000)
    (hx : AttrsAt w va x.ats) (_hxl : x.ats.length <= 1000000) (hy : 0 < x.cl -> x.cl <= m -> F1 x.cl = some (trV y vy) /\ AttrsAt w vy y.ats /\ y.ats.length <= 1000000)
    (hc : 0 < x.cl -> (F2 x.cl).getD (.int .i64 0) = .int .i64 n) :
    Calls Tryz.prog 180 #[.pointer (some ⟨c, 0, none⟩), trV x va] w (ClassP B w c m1 m2 vd f m F1 F2 (likeB y x) x (trV x va) n) := by
  have hcm1 : c ≠ m1 := by rintro rfl; obtain ⟨es, ck, h, _⟩ := hM1; rw [hblk] at h; cases h
  have hcm2 : c ≠ m2 := by rintro rfl; obtain ⟨es, ck, h, _⟩ := hM2; rw [hblk] at h; cases h
  obtain ⟨a3, cap3, rfl, hcap3, hxc⟩ := hx
  have HX : Hid (AttrsAt w (.slice a3 x.ats.length cap3) x.ats) := ⟨a3, cap3, rfl, hcap3, hxc⟩
  clear hxc
  have hcl := blk_lt hblk
  have k2 : w.cell? ⟨c, 2, none⟩ = some (.map (some m1)) := bC hblk 2
  have k3 : w.cell? ⟨c, 3, none⟩ = some (.map (some m2)) := bC hblk 3
  have k4 : w.cell? ⟨c, 4, none⟩ = some (.int .i64 m) := bC hblk 4
  have fc : ∀ j, w.frozen? ⟨c, j, none⟩ = false := fun j => bT hblk j
  have HBK := hQq hblk; have HM1 := hQq hM1; have HM2 := hQq hM2; have HY := hQq hy; have HC := hQq hc
  clear hblk hM1 hM2 hy hc
  unfold trV
  by_cases e0 : x.cl = 0
  · have HR : Hid (classE m (likeB y x) x = 0) := hQq (if_pos e0)
    have HE0 := hQq e0
    go_enter Tryz.func180, Tryz.ntmps180
    go_wp2
    go_ret
    refine ⟨by rw [HR.out]; rfl, (eA _ _).mono hBw, fun _ => ⟨⟨n1, n2, F1, F2, ?_, HM1.out.ext (eA _ _), HM2.out.ext (eA _ _), (if_neg (by rw [HE0.out]; omega)).symm, (if_pos HE0.out).symm⟩, fun b o h _ _ _ => bA h⟩⟩
    rw [HE0.out, show max m (0 : Int) = m by omega]; exact bA HBK.out
  have e0' : (x.cl == 0) = false := beq_eq_false_iff_ne.2 e0
  have hcz : c < w.heap.size + 1 := by omega
  by_cases e1 : x.cl < 0
  · have HR : Hid (classE m (likeB y x) x = 6) := hQq ((if_neg e0).trans (if_pos (.inl e1)))
    clear e0
    go_enter Tryz.func180, Tryz.ntmps180
    go_wp2
    go_quiet (fail)
    go_wp2
    go_ret
    exact classP_err HR.out (by decide) (((eA _ _).trans (eDn _ _)).mono hBw)
  have e1' : decide (x.cl < 0) = false := decide_eq_false e1
  by_cases e2 : m + 1 < x.cl
  · have HR : Hid (classE m (likeB y x) x = 6) := hQq ((if_neg e0).trans (if_pos (.inr e2)))
    clear e0
    go_enter Tryz.func180, Tryz.ntmps180
    go_wp2
    go_quiet (fail)
    go_wp2
    go_ret
    exact classP_err HR.out (by decide) (((eA _ _).trans (eDn _ _)).mono hBw)
  have HE0 := hQq e0
  have HPOS : Hid (0 < x.cl) := by show _ < _; omega
  clear e0
  by_cases e3 : m < x.cl
  · have HR : Hid (classE m (likeB y x) x = 0) := hQq ((if_neg HE0.out).trans ((if_neg (by omega)).trans (if_pos e3)))
    have HMX : Hid (max m x.cl = m + 1) := by show _ = _; omega
    have HE3 := hQq e3
    go_enter Tryz.func180, Tryz.ntmps180
    go_wp2
    go_quiet (fail)
    go_wp2
    go_quiet (fail)
    go_wp2
    refine nW (P := fun W => Code.wp _ _ _ _ W) _ ?_
    intro W0 hW0
    have TC0 : Hid (W0.heap[c]? = some (.cells #[vd, .bool f, .map (some m1), .map (some m2), .int .i64 (m + 1)] 151 (0, 0))) := hQq (by rw [hW0, bS (bX (by repeat (first | exact Below.refl _ _ | refine Ext.trans ?_ (eA _ _) | refine Ext.trans ?_ (eDn _ _) | refine Ext.trans ?_ (eD _))) HBK.out)]; rfl)
    have TX0 : Hid (W0.heap[w.heap.size]? = some (.cells #[.int .i64 x.dep, .string x.nm, .int .i64 x.kd, .slice a3 x.ats.length cap3, .string x.dat, .int .i64 x.ma, .int .i64 x.mi, .int .i64 x.cl] 43 (0, 0))) := hQq (by rw [hW0]; exact bSn (bX (by repeat (first | exact Below.refl _ _ | refine Ext.trans ?_ (eDn _ _) | refine Ext.trans ?_ (eD _))) (bN w _)) _ _ (fun e => by have e' : w.heap.size = c := e; omega))
    have TE0 : Hid (Below B w W0) := hQq (by rw [hW0]; exact (Below.mono (by repeat (first | exact Below.refl _ _ | refine Ext.trans ?_ (eA _ _) | refine Ext.trans ?_ (eDn _ _) | refine Ext.trans ?_ (eD _))) hBw).setCell (p := ⟨c, 4, none⟩) hBc _)
    have TK0 : Hid (∀ b o, w.heap[b]? = some o -> b ≠ c -> W0.heap[b]? = some o) := hQq (fun b o h1 h2 => by rw [hW0]; exact bSn (bX (by repeat (first | exact Below.refl _ _ | refine Ext.trans ?_ (eA _ _) | refine Ext.trans ?_ (eDn _ _) | refine Ext.trans ?_ (eD _))) h1) _ _ h2)
    clear hW0
    have M1 : Hid (MapAt kI W0 m1 n1 F1) := hQq (HM1.out.keepB (fun o h => TK0.out _ o h hcm1.symm))
    have M2 : Hid (MapAt kI W0 m2 n2 F2) := hQq (HM2.out.keepB (fun o h => TK0.out _ o h hcm2.symm))
    have t2 : W0.cell? ⟨c, 2, none⟩ = some (.map (some m1)) := bC TC0.out 2
    have t3 : W0.cell? ⟨w.heap.size, 0, none⟩ = some (.int .i64 x.dep) := bC TX0.out 0
    have t4 : W0.cell? ⟨w.heap.size, 1, none⟩ = some (.string x.nm) := bC TX0.out 1
    have t5 : W0.cell? ⟨w.heap.size, 2, none⟩ = some (.int .i64 x.kd) := bC TX0.out 2
    have t6 : W0.cell? ⟨w.heap.size, 3, none⟩ = some (.slice a3 x.ats.length cap3) := bC TX0.out 3
    have t7 : W0.cell? ⟨w.heap.size, 4, none⟩ = some (.string x.dat) := bC TX0.out 4
    have t8 : W0.cell? ⟨w.heap.size, 5, none⟩ = some (.int .i64 x.ma) := bC TX0.out 5
    have t9 : W0.cell? ⟨w.heap.size, 6, none⟩ = some (.int .i64 x.mi) := bC TX0.out 6
    have t10 : W0.cell? ⟨w.heap.size, 7, none⟩ = some (.int .i64 x.cl) := bC TX0.out 7
    go_still_tail 7, (by kernel_rfl)
    go_wp2_with (at_mapUpdate; refine wl_store rfl (.tmp 41) (.tmp 43) (.tmp 44) 148 rfl _ _ keyInt mapT_first rfl (by exact M1.out.ext (eD _)) x.cl (.agg #[.int .i64 x.dep, .string x.nm, .int .i64 x.kd, .slice a3 x.ats.length cap3, .string x.dat, .int .i64 x.ma, .int .i64 x.mi, .int .i64 x.cl]) rfl rfl ?_; intro W hm4 hg4; have T1 := hQq hm4; have HG3 := hQq hg4; clear hm4 hg4)
    have TC : Hid (W.heap[c]? = some (.cells #[vd, .bool f, .map (some m1), .map (some m2), .int .i64 (max m x.cl)] 151 (0, 0))) := hQq (by rw [HMX.out]; exact blk_grown HG3.out (bX (eD _) TC0.out) (fun e => hcm1 (by injection e with e; exact e.symm)))
    have TX := hQq (blk_grown HG3.out (bX (eD _) TX0.out) (fun e => by injection e with e; exact absurd HM1.out.lt (by omega)))
    have T2 : Hid (MapAt kI W m2 n2 F2) := hQq ((M2.out.ext (eD _)).grown HG3.out (fun e => h12 (by injection e)))
    have TBW : Hid (B <= W.heap.size) := hQq (Nat.le_trans hBw (Nat.le_trans TE0.out.size (Nat.le_trans (eD W0).size HG3.out.size)))
    have TB : Hid (Below B w W) := hQq (Below.grown (Below.trans TE0.out ((eD _).mono (Nat.le_trans hBw TE0.out.size))) HG3.out (Nat.le_trans hBw (Nat.le_trans TE0.out.size (eD _).size)) (fun k hk => by cases hk; exact hB1))
    have TK : Hid (∀ b o, w.heap[b]? = some o -> b ≠ c -> b ≠ m1 -> W.heap[b]? = some o) := hQq (fun b o h1 h2 h3 => blk_grown HG3.out (bX (eD _) (TK0.out b o h1 h2)) (fun e => h3 (by injection e with e; exact e.symm)))
    have TF : Hid (upd F1 x.cl (.agg #[.int .i64 x.dep, .string x.nm, .int .i64 x.kd, .slice a3 x.ats.length cap3, .string x.dat, .int .i64 x.ma, .int .i64 x.mi, .int .i64 x.cl]) = if m < x.cl then upd F1 x.cl (trV x (.slice a3 x.ats.length cap3)) else F1) := hQq (by rw [if_pos HE3.out])
    have hlk : (Instr.lookup 70 (.map (some m2)) (.int .i64 x.cl) false).run Tryz.prog W.drew = .ok (.int .i64 n) W.drew := by
      have := (T2.out.ext (eD W)).look keyInt mapT_count (zeroInt _) x.cl false
      rw [HC.out HPOS.out] at this; exact this
    have v3 : W.cell? ⟨c, 3, none⟩ = some (.map (some m2)) := bC TC.out 3
    have v7 : W.cell? ⟨w.heap.size, 7, none⟩ = some (.int .i64 x.cl) := bC TX.out 7
    have j9 : IntKind.i64.wrap ((n : Int) + 1) = (n : Int) + 1 := IntWalk.i64_in _ (by omega)
    go_wp2
    go_still_tail 8, (by kernel_rfl)
    go_wp2_with (at_mapUpdate; refine wl_store rfl (.tmp 59) (.tmp 61) (.tmp 63) 70 rfl _ _ keyInt mapT_count rfl (by exact T2.out.ext (eD _)) x.cl (.int .i64 ((n : Int) + 1)) rfl rfl ?_; intro w4 hm4 hg4; have HM4 := hQq hm4; have HG4 := hQq hg4; clear hm4 hg4)
    go_ret
    refine ⟨by rw [HR.out]; rfl, Below.grown (Below.trans TB.out ((eD _).mono TBW.out)) HG4.out (Nat.le_trans TBW.out (eD _).size) (fun k hk => by cases hk; exact hB2), fun _ => ⟨⟨_, _, _, _, blk_grown HG4.out (bX (eD _) TC.out) (fun e => hcm2 (by injection e with e; exact e.symm)), (T1.out.ext (eD _)).grown HG4.out (fun e => h12 (by injection e with e; exact e.symm)), HM4.out, TF.out, (if_neg HE0.out).symm⟩, fun b o h1 h2 h3 h4 => blk_grown HG4.out (bX (eD _) (TK.out b o h1 h2 h3)) (fun e => h4 (by injection e with e; exact e.symm))⟩⟩
  · have hle : x.cl <= m := by omega
    obtain ⟨y1, y2, y3⟩ := HY.out HPOS.out hle
    have HY1 := hQq y1; have HY2 := hQq y2; have HY3 := hQq y3; clear y1 y2 y3
    have HE3 := hQq e3
    have e3' : decide (m < x.cl) = false := decide_eq_false e3
    obtain ⟨a5, cap5, rfl, _⟩ := HY2.out
    cases hlk1 : likeB y x
    all_goals
      have HLK := hQq hlk1
      go_enter Tryz.func180, Tryz.ntmps180
      go_wp2
      go_quiet (fail)
      go_wp2
      go_quiet (fail)
      go_wp2
      refine nW (P := fun W => Code.wp _ _ _ _ W) _ ?_
      intro W0 hW0
      have TE0 : Hid (Ext w W0) := hQq (by rw [hW0]; exact (by repeat (first | exact Below.refl _ _ | refine Ext.trans ?_ (eA _ _) | refine Ext.trans ?_ (eDn _ _) | refine Ext.trans ?_ (eD _))))
      have TX0 : Hid (W0.heap[w.heap.size]? = some (.cells #[.int .i64 x.dep, .string x.nm, .int .i64 x.kd, .slice a3 x.ats.length cap3, .string x.dat, .int .i64 x.ma, .int .i64 x.mi, .int .i64 x.cl] 43 (0, 0))) := hQq (by rw [hW0]; exact bX (by repeat (first | exact Below.refl _ _ | refine Ext.trans ?_ (eDn _ _) | refine Ext.trans ?_ (eD _))) (bN w _))
      clear hW0
      have M1 : Hid (MapAt kI W0 m1 n1 F1) := hQq (HM1.out.ext TE0.out)
      have hlk : (Instr.lookup 148 (.map (some m1)) (.int .i64 x.cl) false).run Tryz.prog W0.drew = .ok (trV y (.slice a5 y.ats.length cap5)) W0.drew := by
        have := (M1.out.ext (eD W0)).look keyInt mapT_first zeroNode' x.cl false
        rw [HY1.out] at this; exact this
      unfold trV at hlk
      have t2 : W0.cell? ⟨c, 2, none⟩ = some (.map (some m1)) := bC (bX TE0.out HBK.out) 2
      have t3 : W0.cell? ⟨w.heap.size, 0, none⟩ = some (.int .i64 x.dep) := bC TX0.out 0
      have t4 : W0.cell? ⟨w.heap.size, 1, none⟩ = some (.string x.nm) := bC TX0.out 1
      have t5 : W0.cell? ⟨w.heap.size, 2, none⟩ = some (.int .i64 x.kd) := bC TX0.out 2
      have t6 : W0.cell? ⟨w.heap.size, 3, none⟩ = some (.slice a3 x.ats.length cap3) := bC TX0.out 3
      have t7 : W0.cell? ⟨w.heap.size, 4, none⟩ = some (.string x.dat) := bC TX0.out 4
      have t8 : W0.cell? ⟨w.heap.size, 5, none⟩ = some (.int .i64 x.ma) := bC TX0.out 5
      have t9 : W0.cell? ⟨w.heap.size, 6, none⟩ = some (.int .i64 x.mi) := bC TX0.out 6
      have t10 : W0.cell? ⟨w.heap.size, 7, none⟩ = some (.int .i64 x.cl) := bC TX0.out 7
      go_still_tail 8, (by kernel_rfl)
      go_wp2_with (go_at_call 215; refine (treeLike y x _ _ _ (HY2.out.ext (TE0.out.trans (eD _))) (HX.out.ext (TE0.out.trans (eD _))) HY3.out).mono ?_; rintro e W ⟨rfl, hb⟩; rw [HLK.out]; have H3 := hQq hb; clear hb)
    · have HR : Hid (classE m false x = 6) := hQq ((if_neg HE0.out).trans ((if_neg (by omega)).trans ((if_neg (by have := HE3.out; omega)).trans (if_neg (by simp)))))
      go_ret
      exact classP_err HR.out (by decide) ((TE0.out.trans ((eD _).trans H3.out)).mono hBw)
    · have HR : Hid (classE m true x = 0) := hQq ((if_neg HE0.out).trans ((if_neg (by omega)).trans ((if_neg (by have := HE3.out; omega)).trans (if_pos rfl))))
      have TE1 : Hid (Ext W0 W) := hQq ((eD _).trans H3.out)
      have TC : Hid (W.heap[c]? = some (.cells #[vd, .bool f, .map (some m1), .map (some m2), .int .i64 (max m x.cl)] 151 (0, 0))) := hQq (by rw [show max m x.cl = m by omega]; exact bX (TE0.out.trans TE1.out) HBK.out)
      have TX := hQq (bX TE1.out TX0.out)
      have T1 : Hid (MapAt kI W m1 n1 F1) := hQq (M1.out.ext TE1.out)
      have T2 : Hid (MapAt kI W m2 n2 F2) := hQq (HM2.out.ext (TE0.out.trans TE1.out))
      have TBW : Hid (B <= W.heap.size) := hQq (Nat.le_trans hBw (TE0.out.trans TE1.out).size)
      have TB : Hid (Below B w W) := hQq ((TE0.out.trans TE1.out).mono hBw)
      have TK : Hid (∀ b o, w.heap[b]? = some o -> b ≠ c -> b ≠ m1 -> W.heap[b]? = some o) := hQq (fun b o h1 _ _ => bX (TE0.out.trans TE1.out) h1)
      have TF : Hid (F1 = if m < x.cl then upd F1 x.cl (trV x (.slice a3 x.ats.length cap3)) else F1) := hQq (by rw [if_neg (by have := HE3.out; omega)])
      clear hlk t2 t3 t4 t5 t6 t7 t8 t9 t10
      have hlq : (Instr.lookup 70 (.map (some m2)) (.int .i64 x.cl) false).run Tryz.prog W.drew = .ok (.int .i64 n) W.drew := by
        have := (T2.out.ext (eD W)).look keyInt mapT_count (zeroInt _) x.cl false
        rw [HC.out HPOS.out] at this; exact this
      have v3 : W.cell? ⟨c, 3, none⟩ = some (.map (some m2)) := bC TC.out 3
      have v7 : W.cell? ⟨w.heap.size, 7, none⟩ = some (.int .i64 x.cl) := bC TX.out 7
      have j9 : IntKind.i64.wrap ((n : Int) + 1) = (n : Int) + 1 := IntWalk.i64_in _ (by omega)
      go_wp2
      go_still_tail 8, (by kernel_rfl)
      go_wp2_with (at_mapUpdate; refine wl_store rfl (.tmp 59) (.tmp 61) (.tmp 63) 70 rfl _ _ keyInt mapT_count rfl (by exact T2.out.ext (eD _)) x.cl (.int .i64 ((n : Int) + 1)) rfl rfl ?_; intro w4 hm4 hg4; have HM4 := hQq hm4; have HG4 := hQq hg4; clear hm4 hg4)
      go_ret
      refine ⟨by rw [HR.out]; rfl, Below.grown (Below.trans TB.out ((eD _).mono TBW.out)) HG4.out (Nat.le_trans TBW.out (eD _).size) (fun k hk => by cases hk; exact hB2), fun _ => ⟨⟨_, _, _, _, blk_grown HG4.out (bX (eD _) TC.out) (fun e => hcm2 (by injection e with e; exact e.symm)), (T1.out.ext (eD _)).grown HG4.out (fun e => h12 (by injection e with e; exact e.symm)), HM4.out, TF.out, (if_neg HE0.out).symm⟩, fun b o h1 h2 h3 h4 => blk_grown HG4.out (bX (eD _) (TK.out b o h1 h2 h3)) (fun e => h4 (by injection e with e; exact e.symm))⟩⟩
end Go.Proofs.YtimpejaaeinplaaGreatDoor
