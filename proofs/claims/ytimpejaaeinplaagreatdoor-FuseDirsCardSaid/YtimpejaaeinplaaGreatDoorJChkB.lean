/- ChkB ChkC ChkD ChkE ChkF BrnA BrnB BrnC BrnD BrnE BrnF BrnG BrnH BrnJ InsP BrnK WlkP DirP -/
import Derived.Test.YtimpejaaeinplaaGreatDoorJI3
import Derived.Test.YtimpejaaeinplaaGreatDoorJOwnA
namespace Go.Proofs.YtimpejaaeinplaaGreatDoor
open Go.RowKit
theorem bT {w : World} {b : Nat} {c : Array Value} {t : TypeId} (hb : w.heap[b]? = some (.cells c t (0, 0))) (o : Nat) : w.frozen? ⟨b, o, none⟩ = false := by
 simp [World.frozen?, hb]
theorem chg_setCell {B c o : Nat} {w : World} {cs : Array Value} {E : TypeId} {f : Nat × Nat} (h : w.heap[c]? = some (.cells cs E f)) (hB : B <= c) (v : Value) : Chg B E (some c) w (w.setCell ⟨c, o, none⟩ v) :=
 ⟨fun _ _ hb hne => bSn hb _ _ (fun e => hne (by rw [e])), by simp [World.setCell], fun g hg => by cases hg; exact ⟨hB, _, _, h⟩⟩
def PlaceP (B : Nat) (w : World) (c m1 m2 : Nat) (vd : Value) (D : List Opn) (f : Bool) (cl : Int) (x : TrN) (e : Ending) (w' : World) : Prop :=
 e = .returned (.int .i64 (placeE D f x)) /\ Below B w w' /\ (placeE D f x = 0 -> ∃ vd', w'.heap[c]? = some (.cells #[vd', .bool f, .map (some m1), .map (some m2), .int .i64 cl] 151 (0, 0)) /\ OwnL cdO B w' vd' (placeD D x) /\ ∀ b o, w.heap[b]? = some o -> b ≠ c -> vd.ownBlock ≠ some b -> w'.heap[b]? = some o)
theorem placeP_err {B : Nat} {w w' : World} {c m1 m2 : Nat} {vd : Value} {D : List Opn} {f : Bool} {cl : Int} {x : TrN} {v : Int} (h : placeE D f x = v) (hv : v ≠ 0) (hb : Below B w w') : PlaceP B w c m1 m2 vd D f cl x (.returned (.int .i64 v)) w' :=
 ⟨by rw [h], hb, fun h0 => absurd (h.symm.trans h0) hv⟩
theorem own_ne_c {B c e : Nat} {w : World} {v : Value} {l : List Opn} {cs : Array Value} {f : Nat × Nat} (h : OwnL cdO B w v l) (hb : w.heap[c]? = some (.cells cs e f)) (he : e ≠ 237) : v.ownBlock ≠ some c := by
 intro hv
 obtain ⟨_, c', f', h2⟩ := h.row rfl c hv
 rw [hb] at h2; cases h2; exact he rfl
theorem place_out {D : List Opn} {f : Bool} {x : TrN} (h : D.length ≠ 0) : placeE D f x = if x.dep < 1 \/ (if f then (D.length : Int) - 1 else D.length) < x.dep then 6 else if 8 < x.dep then 3 else if nameE (L x.nm) ≠ 0 then nameE (L x.nm)
 else if 0 < (D.getD (x.dep.toNat - 1) (0, ⟨#[]⟩)).1 /\ (D.getD (x.dep.toNat - 1) (0, ⟨#[]⟩)).2 = x.nm then 8
 else if 0 < (D.getD (x.dep.toNat - 1) (0, ⟨#[]⟩)).1 /\ L x.nm < L (D.getD (x.dep.toNat - 1) (0, ⟨#[]⟩)).2 then 6
 else if (D.getD (x.dep.toNat - 1) (0, ⟨#[]⟩)).1 = 24 then 3 else 0 := by unfold placeE; rw [if_neg h]
theorem eD (w : World) : Ext w w.drew := Below.drew (bR _ _)
theorem place_mid {w w2 : World} {B c g m n cap : Nat} {D : List Opn} {d : Opn} {nm : ByteArray} {bx cs : Array Value} (hb : Ext (w.alloc (.cells bx 43)) w2) (hblk : w.heap[c]? = some (.cells cs 151 (0, 0)))
  (hD : OwnL cdO B w (.slice (some ⟨g, 0, none⟩) D.length cap) D) (hmD : m < D.length) (hd : D[m]? = some d) (hcg : c ≠ g) (hBw : B <= w.heap.size) {P : World -> Prop}
  (h : ∀ W3, W3.heap[c]? = some (.cells cs 151 (0, 0)) -> W3.heap[w.heap.size]? = some (.cells bx 43 (0, 0)) -> OwnL cdO B W3 (.slice (some ⟨g, 0, none⟩) D.length cap) (D.set m (d.1 + 1, nm)) -> Below B w W3 ->
   (∀ b o, w.heap[b]? = some o -> b ≠ g -> W3.heap[b]? = some o) -> P W3) : P (((w2.drewN n).setCell ⟨g, m * 2, none⟩ (.int .i64 ((d.1 : Int) + 1))).setCell ⟨g, m * 2 + 1, none⟩ (.string nm)) := by
 have hE : Ext w w2 := (eA _ _).trans hb
 have hdd : D[m]'hmD = d := by rw [List.getElem?_eq_getElem hmD] at hd; injection hd
 have h1 : OwnL cdO B (w2.drewN n) (.slice (some ⟨g, 0, none⟩) D.length cap) D := (hD.ext okO hE).ext okO (eDn _ _)
 obtain ⟨_, he0, hBg, hgl, _⟩ := hD.addr (by omega)
 cases he0
 have hgw : g ≠ w.heap.size := by omega
 have hcl := bL hblk
 have h2 := h1.store okO m hmD 0 (by decide) (.int .i64 ((d.1 : Int) + 1)) ((d.1 + 1, d.2) : Opn) (fun cs' (hcs : cs' = opnC (D[m]'hmD)) => by rw [hcs, hdd]; show _ = [_, _]; simp [opnC])
 have e0 : m * cdO.n + 0 = m * 2 := rfl
 rw [e0] at h2
 have h3 := h2.1.store okO m (by simpa using hmD) 1 (by decide) (.string nm) ((d.1 + 1, nm) : Opn) (fun cs' hcs => by
  have hcs : cs' = opnC _ := hcs
  rw [List.getElem_set_self] at hcs; rw [hcs]; simp [opnC, cdO])
 have e1 : m * cdO.n + 1 = m * 2 + 1 := rfl
 rw [e1, List.set_set] at h3
 have hkeep : ∀ b o, w2.heap[b]? = some o -> b ≠ g -> (((w2.drewN n).setCell ⟨g, m * 2, none⟩ (.int .i64 ((d.1 : Int) + 1))).setCell ⟨g, m * 2 + 1, none⟩ (.string nm)).heap[b]? = some o := fun b o hbo hne =>
  bSn (bSn (bX (eDn _ _) hbo) _ _ hne) _ _ hne
 refine h _ (hkeep _ _ (bX hE hblk) hcg) (hkeep _ _ (bX hb (bN w _)) (fun e => hgw e.symm)) h3.1 ?_ (fun b o h4 h5 => hkeep _ _ (bX hE h4) h5)
 exact (((hE.trans (eDn _ _)).mono hBw).setCell (p := ⟨g, m * 2, none⟩) hBg _).setCell (p := ⟨g, m * 2 + 1, none⟩) hBg _
set_option maxRecDepth 100000 in
set_option maxHeartbeats 4000000 in
theorem treePlace0 (B : Nat) (w : World) (c m1 m2 : Nat) (vd : Value) (D : List Opn) (f : Bool) (cl : Int) (x : TrN) (va : Value)
  (hblk : w.heap[c]? = some (.cells #[vd, .bool f, .map (some m1), .map (some m2), .int .i64 cl] 151 (0, 0))) (hBc : B <= c) (hBw : B <= w.heap.size) (hD : OwnL cdO B w vd D) (h0 : D.length = 0) (hva : ∃ a n m, va = .slice a n m) :
  Calls Tryz.prog 178 #[.pointer (some ⟨c, 0, none⟩), trV x va] w (PlaceP B w c m1 m2 vd D f cl x) := by
 unfold trV
 obtain ⟨a3, n3, cap3, rfl⟩ := hva
 obtain rfl : D = [] := List.length_eq_zero_iff.1 h0
 obtain ⟨ad, cap, rfl⟩ := hD.form
 replace hD : OwnL cdO B w (.slice ad 0 cap) [] := hD
 replace hblk : w.heap[c]? = some (.cells #[.slice ad 0 cap, .bool f, .map (some m1), .map (some m2), .int .i64 cl] 151 (0, 0)) := hblk
 have hcl := bL hblk
 have k0 : w.cell? ⟨c, 0, none⟩ = some (.slice ad 0 cap) := bC hblk 0
 have k1 : w.cell? ⟨c, 1, none⟩ = some (.bool f) := bC hblk 1
 have fc : ∀ j, w.frozen? ⟨c, j, none⟩ = false := fun j => bT hblk j
 have HBK := hQq hblk; clear hblk
 have HD := hQq hD; clear hD
 have HP : Hid (placeE [] f x = if x.dep = 0 /\ x.nm.toList = [] /\ x.kd = 1 then 0 else 6) := hQq (by unfold placeE; rw [if_pos h0])
 clear h0
 by_cases e1 : x.dep = 0
 case neg =>
  have d1 : (x.dep != 0) = true := bne_iff_ne.2 e1
  have HR := hQq (HP.out.trans (if_neg (fun h => e1 h.1))); clear e1 HP
  go_enter Tryz.func178, Tryz.ntmps178
  go_wp2
  go_ret
  exact placeP_err HR.out (by decide) ((eA _ _).mono hBw)
 by_cases e2 : x.nm.toList = []
 case neg =>
  have d2 : x.nm.toList.isEmpty = false := by simpa using e2
  have HR := hQq (HP.out.trans (if_neg (fun h => e2 h.2.1))); clear e2 HP
  go_enter Tryz.func178, Tryz.ntmps178
  go_wp2
  go_ret
  exact placeP_err HR.out (by decide) ((eA _ _).mono hBw)
 have d2 : x.nm.toList.isEmpty = true := by rw [e2]; rfl
 by_cases e3 : x.kd = 1
 case neg =>
  have d3 : (x.kd != 1) = true := bne_iff_ne.2 e3
  have HR := hQq (HP.out.trans (if_neg (fun h => e3 h.2.2))); clear e3 e2 HP
  go_enter Tryz.func178, Tryz.ntmps178
  go_wp2
  go_ret
  exact placeP_err HR.out (by decide) ((eA _ _).mono hBw)
 have HR := hQq (HP.out.trans (if_pos ⟨e1, e2, e3⟩))
 clear e2 HP
 go_enter Tryz.func178, Tryz.ntmps178
 go_wp2_with (at_builtin; refine appL okO rfl (.tmp 31) (.tmp 33) rfl (.slice ad 0 cap) _ [] [(0, ⟨#[]⟩)] w _ rfl rfl (by exact (HD.out.ext okO (eA _ _)).ext okO (eA _ _)) (by exact listIn_new okO _ (0, ⟨#[]⟩) (opnC (0, ⟨#[]⟩)) _ (by simp) rfl) (by exact (eA _ _).mono hBw |>.alloc (by simp; omega) _) (by simp; omega) (by simp) ?_; intro v1 w1 ha; have HB1 := hQq (ha.chg.keep _ _ (bA (bA HBK.out)) (own_ne_c HD.out HBK.out (by decide))); obtain ⟨a1, cap1, rfl⟩ := ha.own.form; have hc1 := bL HB1.out; have k0 : w1.cell? ⟨c, 0, none⟩ = some (.slice ad 0 cap) := bC HB1.out 0; have fc : ∀ j, w1.frozen? ⟨c, j, none⟩ = false := fun j => bT HB1.out j; have HA := hQq ha; clear ha)
 go_ret
 refine ⟨by rw [HR.out]; rfl, HA.out.below.setCell (p := ⟨c, 0, none⟩) hBc _, fun _ => ⟨.slice a1 1 cap1, by rw [bS HB1.out]; rfl, ?_, fun b o h1 h2 h3 => bSn (HA.out.chg.keep _ _ (bA (bA h1)) h3) _ _ h2⟩⟩
 have : placeD [] x = [] ++ [(0, ⟨#[]⟩)] := by unfold placeD; simp
 rw [this]
 exact HA.out.own.other okO (chg_setCell HB1.out hBc _) (by decide) (by simp [cdO])
set_option maxRecDepth 100000 in
set_option maxHeartbeats 8000000 in
theorem treePlace2 (B : Nat) (w : World) (c m1 m2 g cap : Nat) (D : List Opn) (f : Bool) (cl : Int) (x : TrN) (a3 : Option Addr) (n3 cap3 m : Nat) (d : Opn)
  (hblk : w.heap[c]? = some (.cells #[.slice (some ⟨g, 0, none⟩) D.length cap, .bool f, .map (some m1), .map (some m2), .int .i64 cl] 151 (0, 0))) (hBc : B <= c) (hBw : B <= w.heap.size) (hD : OwnL cdO B w (.slice (some ⟨g, 0, none⟩) D.length cap) D) (hl : D.length <= 9)
  (hmD : m < D.length) (hdm : D[m]? = some d) (hdep : x.dep = (m : Int) + 1) (p1 : ¬ 8 < (m : Int) + 1) (p2 : nameE (L x.nm) = 0) (hd23 : d.1 < 24) (e2f : f = false -> ¬ (D.length : Int) < (m : Int) + 1) (e2t : f = true -> (m : Int) + 1 < (D.length : Int))
  (hz : placeE D f x = 0) (hpd : placeD D x = (D.set m (d.1 + 1, x.nm)).take (m + 1) ++ [(0, ⟨#[]⟩)]) (hr : (0 < d.1 /\ (d.2.toList == x.nm.toList) = false /\ Op.bytesLess d.2.toList x.nm.toList = true) \/ d.1 = 0) :
  Calls Tryz.prog 178 #[.pointer (some ⟨c, 0, none⟩), .agg #[.int .i64 x.dep, .string x.nm, .int .i64 x.kd, .slice a3 n3 cap3, .string x.dat, .int .i64 x.ma, .int .i64 x.mi, .int .i64 x.cl]] w (PlaceP B w c m1 m2 (.slice (some ⟨g, 0, none⟩) D.length cap) D f cl x) := by
 have HNE := hQq (own_ne_c hD hblk (by decide))
 obtain ⟨_, he0, hBg, hgl, _⟩ := hD.addr (by omega)
 cases he0
 have hcl := bL hblk
 have k0 : w.cell? ⟨c, 0, none⟩ = some (.slice (some ⟨g, 0, none⟩) D.length cap) := bC hblk 0
 have k1 : w.cell? ⟨c, 1, none⟩ = some (.bool f) := bC hblk 1
 have fc : ∀ j, w.frozen? ⟨c, j, none⟩ = false := fun j => bT hblk j
 have fg : ∀ j, w.frozen? ⟨g, j, none⟩ = false := fun j => hD.frozen j
 have HBK := hQq hblk; clear hblk
 obtain ⟨b', off', he, _, d0, d1⟩ := (hD.in okO).opn m hmD
 cases he
 have hdd : D[m]'hmD = d := by rw [List.getElem?_eq_getElem hmD] at hdm; injection hdm
 have HDM : Hid (D[m]? = some d) := hdm
 rw [hdd, Nat.zero_add] at d0 d1
 have HD := hQq hD; clear hD
 have HZ := hQq hz; have HPD := hQq hpd; clear hz hpd hdd hdm
 have z0 : (((D.length : Nat) : Int) == 0) = false := nB (by omega)
 have z1 : 0 < D.length := by omega
 have hz2 : c < w.heap.size + 1 := by omega
 have hg2 : g < w.heap.size + 1 := by omega
 have hcg : c ≠ g := fun e => HNE.out (by rw [e]; rfl)
 have hgc : g ≠ c := fun e => hcg e.symm
 have j1 : ((m : Nat) : Int) < (D.length : Int) := by omega
 have j0 : (0 : Int) <= (m : Int) := by omega
 have j3 : IntKind.i64.wrap ((d.1 : Int) + 1) = (d.1 : Int) + 1 := IntWalk.i64_in _ (by omega)
 have q0 : ¬ (m : Int) + 1 < 1 := by omega
 have r4 : (((d.1 : Nat) : Int) == 24) = false := nB (by omega)
 rcases hr with ⟨r1, r2, r3⟩ | r1
 ·cases f
  case' false => have q := e2f rfl
  case' true => have q := e2t rfl
  all_goals
   clear e2f e2t
   go_enter Tryz.func178, Tryz.ntmps178
   go_wp2_with (go_at_call 139; refine (pathsName x.nm _).mono ?_; rintro e w2 ⟨rfl, hb⟩; obtain ⟨hc, hf⟩ := bcell hb; have hsz2 := hb.size; have HB := hQq hb; clear hb)
   go_quiet (fail)
   go_wp2
   go_quiet (fail)
   go_wp2
   go_quiet (fail)
   go_wp2
   go_region
   refine place_mid (P := fun W => Exit.then _ _ _ _ W) HB.out HBK.out HD.out hmD HDM.out hcg hBw ?_
   intro W3 b1 b2 o3 hb3 hk3
   clear hc hf hsz2
   have HB3 := hQq hb3; have HK3 := hQq hk3; have HO3 := hQq o3; have B1 := hQq b1; have B2 := hQq b2
   have u0 : W3.cell? ⟨c, 0, none⟩ = some (.slice (some ⟨g, 0, none⟩) D.length cap) := bC b1 0
   have u1 : W3.cell? ⟨w.heap.size, 0, none⟩ = some (.int .i64 ((m : Int) + 1)) := bC b2 0
   have u2 : ∀ j, W3.frozen? ⟨c, j, none⟩ = false := fun j => bT b1 j
   have hc3 := bL b1
   have hw3 := bL b2
   clear hb3 hk3 o3 b1 b2
   have HT3 := hQq (HO3.out.trunc okO (by simp; omega) (by simp; omega : m + 1 <= (D.set m ((d.1 + 1, x.nm) : Opn)).length))
   have hBw3 : B <= W3.heap.size := Nat.le_trans hBw HB3.out.size
   have j4 : ((m : Nat) : Int) + 1 <= (cap : Int) := by obtain ⟨a', cap', he, hcap, _⟩ := HD.out.in okO; cases he; omega
   have j5 : m + 1 <= cap := by omega
   have j6 : (0 : Int) <= (m : Int) + 1 := by omega
   go_wp2
   go_region_law ((refine stepL okO (by rfl) (.tmp 132) (.tmp 134) (by rfl) (.slice (some ⟨g, 0, none⟩) (m + 1) cap) _ ((D.set m (d.1 + 1, x.nm)).take (m + 1)) [(0, ⟨#[]⟩)] w _ (by rfl) (by rfl) (by exact HT3.out.ext okO (by repeat (first | exact bR _ _ | refine Ext.trans ?_ (eA _ _) | refine Ext.trans ?_ (eDn _ _) | refine Ext.trans ?_ (eD _)))) (by exact listIn_new okO _ (0, ⟨#[]⟩) (opnC (0, ⟨#[]⟩)) _ (by simp) rfl) (by exact Below.trans HB3.out (Below.mono (by repeat (first | exact bR _ _ | refine Ext.trans ?_ (eA _ _) | refine Ext.trans ?_ (eDn _ _) | refine Ext.trans ?_ (eD _))) (Nat.le_trans hBw HB3.out.size))) (by have := hBw3; simp; omega) (by rw [List.length_take]; simp; omega) ?_; intro v1 w1 ha; have HB4 := hQq (ha.chg.keep _ _ (by exact bX (by repeat (first | exact bR _ _ | refine Ext.trans ?_ (eA _ _) | refine Ext.trans ?_ (eDn _ _) | refine Ext.trans ?_ (eD _))) B1.out) (fun e => hcg (by injection e with e; exact e.symm))); obtain ⟨a1, cap1, rfl⟩ := ha.own.form; have hc4 := bL HB4.out; have u3 : w1.cell? ⟨c, 0, none⟩ = some (.slice (some ⟨g, 0, none⟩) D.length cap) := bC HB4.out 0; have u4 : ∀ j, w1.frozen? ⟨c, j, none⟩ = false := fun j => bT HB4.out j; have HK4 : Hid (∀ b o, W3.heap[b]? = some o -> b ≠ g -> w1.heap[b]? = some o) := fun b o h1 h2 => ha.chg.keep _ _ (by exact bX (by repeat (first | exact bR _ _ | refine Ext.trans ?_ (eA _ _) | refine Ext.trans ?_ (eDn _ _) | refine Ext.trans ?_ (eD _))) h1) (fun e => h2 (by injection e with e; exact e.symm)); have HA := hQq ha; clear ha))
   all_goals
    go_wp2
    go_ret
    refine ⟨by rw [HZ.out]; rfl, HA.out.below.setCell (p := ⟨c, 0, none⟩) hBc _, fun _ => ⟨_, by rw [bS HB4.out]; rfl, ?_, fun b o h1 h2 h3 => bSn (HK4.out _ _ (HK3.out _ _ h1 (fun e => h3 (by rw [e]; rfl))) (fun e => h3 (by rw [e]; rfl))) _ _ h2⟩⟩
    rw [HPD.out]
    have hown := HA.out.own.other okO (chg_setCell (o := 0) HB4.out hBc (.slice a1 (min (m + 1) D.length + 1) cap1)) (by decide) (by simp [cdO])
    have hlen : ((D.set m ((d.1 + 1, x.nm) : Opn)).take (m + 1) ++ [((0, ⟨#[]⟩) : Opn)]).length = min (m + 1) D.length + 1 := by simp
    rw [hlen] at hown
    exact hown
 ·have r1a : ¬ 0 < d.1 := by omega
  have r1b : decide (0 < d.1) = false := decide_eq_false r1a
  clear r1
  cases f
  case' false => have q := e2f rfl
  case' true => have q := e2t rfl
  all_goals
   clear e2f e2t
   go_enter Tryz.func178, Tryz.ntmps178
   go_wp2_with (go_at_call 139; refine (pathsName x.nm _).mono ?_; rintro e w2 ⟨rfl, hb⟩; obtain ⟨hc, hf⟩ := bcell hb; have hsz2 := hb.size; have HB := hQq hb; clear hb)
   go_quiet (fail)
   go_wp2
   go_quiet (fail)
   go_wp2
   go_quiet (fail)
   go_wp2
   go_region
   refine place_mid (P := fun W => Exit.then _ _ _ _ W) HB.out HBK.out HD.out hmD HDM.out hcg hBw ?_
   intro W3 b1 b2 o3 hb3 hk3
   clear hc hf hsz2
   have HB3 := hQq hb3; have HK3 := hQq hk3; have HO3 := hQq o3; have B1 := hQq b1; have B2 := hQq b2
   have u0 : W3.cell? ⟨c, 0, none⟩ = some (.slice (some ⟨g, 0, none⟩) D.length cap) := bC b1 0
   have u1 : W3.cell? ⟨w.heap.size, 0, none⟩ = some (.int .i64 ((m : Int) + 1)) := bC b2 0
   have u2 : ∀ j, W3.frozen? ⟨c, j, none⟩ = false := fun j => bT b1 j
   have hc3 := bL b1
   have hw3 := bL b2
   clear hb3 hk3 o3 b1 b2
   have HT3 := hQq (HO3.out.trunc okO (by simp; omega) (by simp; omega : m + 1 <= (D.set m ((d.1 + 1, x.nm) : Opn)).length))
   have hBw3 : B <= W3.heap.size := Nat.le_trans hBw HB3.out.size
   have j4 : ((m : Nat) : Int) + 1 <= (cap : Int) := by obtain ⟨a', cap', he, hcap, _⟩ := HD.out.in okO; cases he; omega
   have j5 : m + 1 <= cap := by omega
   have j6 : (0 : Int) <= (m : Int) + 1 := by omega
   go_wp2
   go_region_law ((refine stepL okO (by rfl) (.tmp 132) (.tmp 134) (by rfl) (.slice (some ⟨g, 0, none⟩) (m + 1) cap) _ ((D.set m (d.1 + 1, x.nm)).take (m + 1)) [(0, ⟨#[]⟩)] w _ (by rfl) (by rfl) (by exact HT3.out.ext okO (by repeat (first | exact bR _ _ | refine Ext.trans ?_ (eA _ _) | refine Ext.trans ?_ (eDn _ _) | refine Ext.trans ?_ (eD _)))) (by exact listIn_new okO _ (0, ⟨#[]⟩) (opnC (0, ⟨#[]⟩)) _ (by simp) rfl) (by exact Below.trans HB3.out (Below.mono (by repeat (first | exact bR _ _ | refine Ext.trans ?_ (eA _ _) | refine Ext.trans ?_ (eDn _ _) | refine Ext.trans ?_ (eD _))) (Nat.le_trans hBw HB3.out.size))) (by have := hBw3; simp; omega) (by rw [List.length_take]; simp; omega) ?_; intro v1 w1 ha; have HB4 := hQq (ha.chg.keep _ _ (by exact bX (by repeat (first | exact bR _ _ | refine Ext.trans ?_ (eA _ _) | refine Ext.trans ?_ (eDn _ _) | refine Ext.trans ?_ (eD _))) B1.out) (fun e => hcg (by injection e with e; exact e.symm))); obtain ⟨a1, cap1, rfl⟩ := ha.own.form; have hc4 := bL HB4.out; have u3 : w1.cell? ⟨c, 0, none⟩ = some (.slice (some ⟨g, 0, none⟩) D.length cap) := bC HB4.out 0; have u4 : ∀ j, w1.frozen? ⟨c, j, none⟩ = false := fun j => bT HB4.out j; have HK4 : Hid (∀ b o, W3.heap[b]? = some o -> b ≠ g -> w1.heap[b]? = some o) := fun b o h1 h2 => ha.chg.keep _ _ (by exact bX (by repeat (first | exact bR _ _ | refine Ext.trans ?_ (eA _ _) | refine Ext.trans ?_ (eDn _ _) | refine Ext.trans ?_ (eD _))) h1) (fun e => h2 (by injection e with e; exact e.symm)); have HA := hQq ha; clear ha))
   all_goals
    go_wp2
    go_ret
    refine ⟨by rw [HZ.out]; rfl, HA.out.below.setCell (p := ⟨c, 0, none⟩) hBc _, fun _ => ⟨_, by rw [bS HB4.out]; rfl, ?_, fun b o h1 h2 h3 => bSn (HK4.out _ _ (HK3.out _ _ h1 (fun e => h3 (by rw [e]; rfl))) (fun e => h3 (by rw [e]; rfl))) _ _ h2⟩⟩
    rw [HPD.out]
    have hown := HA.out.own.other okO (chg_setCell (o := 0) HB4.out hBc (.slice a1 (min (m + 1) D.length + 1) cap1)) (by decide) (by simp [cdO])
    have hlen : ((D.set m ((d.1 + 1, x.nm) : Opn)).take (m + 1) ++ [((0, ⟨#[]⟩) : Opn)]).length = min (m + 1) D.length + 1 := by simp
    rw [hlen] at hown
    exact hown
set_option maxRecDepth 100000 in
set_option maxHeartbeats 8000000 in
theorem treePlace1 (B : Nat) (w : World) (c m1 m2 : Nat) (vd : Value) (D : List Opn) (f : Bool) (cl : Int) (x : TrN) (va : Value)
  (hblk : w.heap[c]? = some (.cells #[vd, .bool f, .map (some m1), .map (some m2), .int .i64 cl] 151 (0, 0))) (hBc : B <= c) (hBw : B <= w.heap.size) (hD : OwnL cdO B w vd D) (h0 : D.length ≠ 0) (hl : D.length <= 9) (hm : ∀ d ∈ D, d.1 <= 24) (hva : ∃ a n m, va = .slice a n m) :
  Calls Tryz.prog 178 #[.pointer (some ⟨c, 0, none⟩), trV x va] w (PlaceP B w c m1 m2 vd D f cl x) := by
 unfold trV
 obtain ⟨a3, n3, cap3, rfl⟩ := hva
 have HNE := hQq (own_ne_c hD hblk (by decide))
 obtain ⟨ad, cap, rfl⟩ := hD.form
 obtain ⟨g, rfl, hBg, hgl, _⟩ := hD.addr (by omega)
 have hcl := bL hblk
 have k0 : w.cell? ⟨c, 0, none⟩ = some (.slice (some ⟨g, 0, none⟩) D.length cap) := bC hblk 0
 have k1 : w.cell? ⟨c, 1, none⟩ = some (.bool f) := bC hblk 1
 have fc : ∀ j, w.frozen? ⟨c, j, none⟩ = false := fun j => bT hblk j
 have HBK := hQq hblk; clear hblk
 have HD := hQq hD; clear hD
 have HM := hQq hm; clear hm
 have HP := hQq (place_out (f := f) (x := x) h0)
 have z0 : (((D.length : Nat) : Int) == 0) = false := nB (by omega)
 have z1 : 0 < D.length := by omega
 by_cases e1 : x.dep < 1
 ·have HR := hQq (HP.out.trans (if_pos (.inl e1))); clear HP h0
  cases f
  all_goals
   go_enter Tryz.func178, Tryz.ntmps178
   go_wp2
   go_ret
   exact placeP_err HR.out (by decide) ((eA _ _).mono hBw)
 by_cases e2 : (if f then (D.length : Int) - 1 else D.length) < x.dep
 ·have HR := hQq (HP.out.trans (if_pos (.inr e2))); clear HP h0
  cases f
  ·replace e2 : (D.length : Int) < x.dep := e2
   go_enter Tryz.func178, Tryz.ntmps178
   go_wp2
   go_ret
   exact placeP_err HR.out (by decide) ((eA _ _).mono hBw)
  ·replace e2 : (D.length : Int) - 1 < x.dep := e2
   go_enter Tryz.func178, Tryz.ntmps178
   go_wp2
   go_ret
   exact placeP_err HR.out (by decide) ((eA _ _).mono hBw)
 have HP2 := hQq (HP.out.trans (if_neg (not_or.2 ⟨e1, e2⟩))); clear HP
 obtain ⟨m, hdep⟩ : ∃ m : Nat, x.dep = (m : Int) + 1 := ⟨(x.dep - 1).toNat, by omega⟩
 have hmD : m < D.length := by cases f <;> simp at e2 <;> omega
 have hmt : x.dep.toNat - 1 = m := by omega
 have hgd : D.getD (x.dep.toNat - 1) (0, ⟨#[]⟩) = D[m]'hmD := by rw [hmt, List.getD_eq_getElem?_getD, List.getElem?_eq_getElem hmD]; rfl
 rw [hgd] at HP2
 have hf2 : (if f then (D.length : Int) - 1 else D.length) < x.dep ↔ False := iff_false_intro e2
 obtain ⟨b', off', he, _, d0, d1⟩ := (HD.out.in okO).opn m hmD
 cases he
 rw [Nat.zero_add] at d0 d1
 have hd24 := HM.out _ (List.getElem_mem hmD)
 have HPD : Hid (placeD D x = (D.set m ((D[m]'hmD).1 + 1, x.nm)).take (m + 1) ++ [(0, ⟨#[]⟩)]) := hQq (by unfold placeD; rw [if_neg h0, hgd, hmt, show x.dep.toNat = m + 1 by omega])
 have HDM : Hid (D[m]? = some (D[m]'hmD)) := List.getElem?_eq_getElem hmD
 generalize D[m]'hmD = d at d0 d1 hd24 HP2 HPD HDM hgd
 have hz2 : c < w.heap.size + 1 := by omega
 have hg2 : g < w.heap.size + 1 := by omega
 have j1 : ((m : Nat) : Int) < (D.length : Int) := by omega
 have j0 : (0 : Int) <= (m : Int) := by omega
 have j3 : IntKind.i64.wrap ((d.1 : Int) + 1) = (d.1 : Int) + 1 := IntWalk.i64_in _ (by omega)
 have e2f : f = false -> ¬ (D.length : Int) < (m : Int) + 1 := fun h => by subst h; simp at e2; omega
 have e2t : f = true -> (m : Int) + 1 < (D.length : Int) := fun h => by subst h; simp at e2; omega
 have q0 : ¬ (m : Int) + 1 < 1 := by omega
 clear hgd hmt hf2 e1 e2 h0
 by_cases p1 : 8 < (m : Int) + 1
 ·have HR := hQq (HP2.out.trans (if_pos (by rw [hdep]; exact p1))); clear HP2
  cases f
  ·have q := e2f rfl
   clear e2f e2t
   go_enter Tryz.func178, Tryz.ntmps178
   go_wp2
   go_ret
   exact placeP_err HR.out (by decide) ((eA _ _).mono hBw)
  ·have q := e2t rfl
   exfalso; omega
 have HP3 := hQq (HP2.out.trans (if_neg (by rw [hdep]; exact p1))); clear HP2
 by_cases p2 : nameE (L x.nm) = 0
 case neg =>
  have HR := hQq (HP3.out.trans (if_pos p2)); clear HP3
  have n1 : (nameE (L x.nm) != 0) = true := bne_iff_ne.2 p2
  cases f
  case' false => have q := e2f rfl
  case' true => have q := e2t rfl
  all_goals
   clear e2f e2t
   go_enter Tryz.func178, Tryz.ntmps178
   go_wp2_with (go_at_call 139; refine (pathsName x.nm _).mono ?_; rintro e w2 ⟨rfl, hb⟩; obtain ⟨hc, hf⟩ := bcell hb; have hsz2 := hb.size; have HB := hQq hb; clear hb)
   go_ret
   exact placeP_err HR.out p2 (((eA _ _).trans HB.out).mono hBw)
 have HP4 := hQq (HP3.out.trans (if_neg (by simpa using p2))); clear HP3
 by_cases p3 : 0 < d.1 /\ d.2 = x.nm
 ·have HR := hQq (HP4.out.trans (if_pos p3)); clear HP4
  have r1 : 0 < d.1 := p3.1
  have r2 : (d.2.toList == x.nm.toList) = true := by rw [p3.2]; simp
  clear p3
  cases f
  case' false => have q := e2f rfl
  case' true => have q := e2t rfl
  all_goals
   clear e2f e2t
   go_enter Tryz.func178, Tryz.ntmps178
   go_wp2_with (go_at_call 139; refine (pathsName x.nm _).mono ?_; rintro e w2 ⟨rfl, hb⟩; obtain ⟨hc, hf⟩ := bcell hb; have hsz2 := hb.size; have HB := hQq hb; clear hb)
   go_quiet (fail)
   go_wp2
   go_quiet (fail)
   go_wp2
   go_ret
   exact placeP_err HR.out (by decide) ((((eA _ _).trans HB.out).trans (by first | exact eDn _ _ | exact Ext.trans (eDn _ _) (eDn _ _) | exact Ext.trans (eDn _ _) (Ext.trans (eDn _ _) (eDn _ _)))).mono hBw)
 have HP5 := hQq (HP4.out.trans (if_neg p3)); clear HP4
 by_cases p4 : 0 < d.1 /\ L x.nm < L d.2
 ·have HR := hQq (HP5.out.trans (if_pos p4)); clear HP5
  have r1 : 0 < d.1 := p4.1
  have r2 : (d.2.toList == x.nm.toList) = false := by rw [beq_eq_false_iff_ne]; intro h; exact p3 ⟨p4.1, L_inj (by rw [<- tL, <- tL]; exact h)⟩
  have r3 := bl_false (fun h => List.lt_irrefl _ (List.lt_trans p4.2 h))
  clear p3 p4
  cases f
  case' false => have q := e2f rfl
  case' true => have q := e2t rfl
  all_goals
   clear e2f e2t
   go_enter Tryz.func178, Tryz.ntmps178
   go_wp2_with (go_at_call 139; refine (pathsName x.nm _).mono ?_; rintro e w2 ⟨rfl, hb⟩; obtain ⟨hc, hf⟩ := bcell hb; have hsz2 := hb.size; have HB := hQq hb; clear hb)
   go_quiet (fail)
   go_wp2
   go_quiet (fail)
   go_wp2
   go_quiet (fail)
   go_wp2
   go_ret
   exact placeP_err HR.out (by decide) ((((eA _ _).trans HB.out).trans (by first | exact eDn _ _ | exact Ext.trans (eDn _ _) (eDn _ _) | exact Ext.trans (eDn _ _) (Ext.trans (eDn _ _) (eDn _ _)))).mono hBw)
 have HP6 := hQq (HP5.out.trans (if_neg p4)); clear HP5
 by_cases p5 : d.1 = 24
 ·have HR := hQq (HP6.out.trans (if_pos p5)); clear HP6
  have r1 : 0 < d.1 := by omega
  have r2 : (d.2.toList == x.nm.toList) = false := by rw [beq_eq_false_iff_ne]; intro h; exact p3 ⟨r1, L_inj (by rw [<- tL, <- tL]; exact h)⟩
  have r3 := bl_true (lt_of_no (a := d.2) (b := x.nm) (fun h => p3 ⟨r1, h⟩) (fun h => p4 ⟨r1, h⟩))
  have r4 : (((d.1 : Nat) : Int) == 24) = true := beq_iff_eq.2 (by omega)
  clear p3 p4 p5
  cases f
  case' false => have q := e2f rfl
  case' true => have q := e2t rfl
  all_goals
   clear e2f e2t
   go_enter Tryz.func178, Tryz.ntmps178
   go_wp2_with (go_at_call 139; refine (pathsName x.nm _).mono ?_; rintro e w2 ⟨rfl, hb⟩; obtain ⟨hc, hf⟩ := bcell hb; have hsz2 := hb.size; have HB := hQq hb; clear hb)
   go_quiet (fail)
   go_wp2
   go_quiet (fail)
   go_wp2
   go_quiet (fail)
   go_wp2
   go_ret
   exact placeP_err HR.out (by decide) ((((eA _ _).trans HB.out).trans (by first | exact eDn _ _ | exact Ext.trans (eDn _ _) (eDn _ _) | exact Ext.trans (eDn _ _) (Ext.trans (eDn _ _) (eDn _ _)))).mono hBw)
 have HP7 := HP6
 have hd23 : d.1 < 24 := by omega
 have hz : placeE D f x = 0 := HP7.out.trans (if_neg p5)
 refine treePlace2 B w c m1 m2 g cap D f cl x a3 n3 cap3 m d HBK.out hBc hBw HD.out hl hmD HDM.out hdep p1 p2 hd23 e2f e2t hz HPD.out ?_
 by_cases r1 : 0 < d.1
 ·refine .inl ⟨r1, ?_, bl_true (lt_of_no (a := d.2) (b := x.nm) (fun h => p3 ⟨r1, h⟩) (fun h => p4 ⟨r1, h⟩))⟩
  rw [beq_eq_false_iff_ne]; intro h; exact p3 ⟨r1, L_inj (by rw [<- tL, <- tL]; exact h)⟩
 ·exact .inr (by omega)
theorem treePlace (B : Nat) (w : World) (c m1 m2 : Nat) (vd : Value) (D : List Opn) (f : Bool) (cl : Int) (x : TrN) (va : Value)
  (hblk : w.heap[c]? = some (.cells #[vd, .bool f, .map (some m1), .map (some m2), .int .i64 cl] 151 (0, 0))) (hBc : B <= c) (hBw : B <= w.heap.size) (hD : OwnL cdO B w vd D) (hl : D.length <= 9) (hm : ∀ d ∈ D, d.1 <= 24) (hva : ∃ a n m, va = .slice a n m) :
  Calls Tryz.prog 178 #[.pointer (some ⟨c, 0, none⟩), trV x va] w (PlaceP B w c m1 m2 vd D f cl x) := by
 by_cases h0 : D.length = 0
 ·exact treePlace0 B w c m1 m2 vd D f cl x va hblk hBc hBw hD h0 hva
 ·exact treePlace1 B w c m1 m2 vd D f cl x va hblk hBc hBw hD h0 hl hm hva
theorem mapT_first : Tryz.prog.underlying 148 = some (.map 3 43) := Tryz.underlying148
theorem mapT_count : Tryz.prog.underlying 70 = some (.map 3 3) := Tryz.underlying70
theorem keyInt : KeyT Tryz.prog 3 kI := keyT_int Tryz.underlying3
theorem zeroInt (w : World) : (zeroValue 3).run Tryz.prog w = .ok (.int .i64 0) w := by kernel_rfl
theorem zeroNode' {w : World} : (zeroValue 43).run Tryz.prog w = .ok cdT.z w := by kernel_rfl
theorem nW {P : World -> Prop} (W : World) (h : ∀ W', W' = W -> P W') : P W := h W rfl
theorem MapAt.keepB {K : Type} {κ : K -> Value} {w w' : World} {b n : Nat} {f : K -> Option Value} (h : MapAt κ w b n f) (hk : ∀ o, w.heap[b]? = some o -> w'.heap[b]? = some o) : MapAt κ w' b n f := by
 obtain ⟨es, c, hb, r⟩ := h; exact ⟨es, c, hk _ hb, r⟩
def classE (m : Int) (lk : Bool) (x : TrN) : Int :=
 if x.cl = 0 then 0 else if x.cl < 0 \/ m + 1 < x.cl then 6 else if m < x.cl then 0 else if lk then 0 else 6
structure ClassOk (B : Nat) (w w' : World) (c m1 m2 : Nat) (vd : Value) (f : Bool) (m : Int) (F1 F2 : Int -> Option Value) (x : TrN) (v : Value) (n : Nat) : Prop where
 ex : ∃ n1 n2 F1' F2', w'.heap[c]? = some (.cells #[vd, .bool f, .map (some m1), .map (some m2), .int .i64 (max m x.cl)] 151 (0, 0)) /\ MapAt kI w' m1 n1 F1' /\ MapAt kI w' m2 n2 F2' /\
  F1' = (if m < x.cl then upd F1 x.cl v else F1) /\ F2' = (if x.cl = 0 then F2 else upd F2 x.cl (.int .i64 ((n : Int) + 1)))
 keep : ∀ b o, w.heap[b]? = some o -> b ≠ c -> b ≠ m1 -> b ≠ m2 -> w'.heap[b]? = some o
def ClassP (B : Nat) (w : World) (c m1 m2 : Nat) (vd : Value) (f : Bool) (m : Int) (F1 F2 : Int -> Option Value) (lk : Bool) (x : TrN) (v : Value) (n : Nat) (e : Ending) (w' : World) : Prop :=
 e = .returned (.int .i64 (classE m lk x)) /\ Below B w w' /\ (classE m lk x = 0 -> ClassOk B w w' c m1 m2 vd f m F1 F2 x v n)
theorem classP_err {B : Nat} {w w' : World} {c m1 m2 : Nat} {vd : Value} {f : Bool} {m : Int} {F1 F2 : Int -> Option Value} {lk : Bool} {x : TrN} {v : Value} {n : Nat} {r : Int} (h : classE m lk x = r) (hv : r ≠ 0) (hb : Below B w w') :
 ClassP B w c m1 m2 vd f m F1 F2 lk x v n (.returned (.int .i64 r)) w' := ⟨by rw [h], hb, fun h0 => absurd (h.symm.trans h0) hv⟩
def FirstOk (W0 : World) (t : List TrN) (k : Nat) (F : Int -> Option Value) : Prop := ∀ q : Int, 0 < q -> q <= mostC t k -> ∃ i vy, i < k /\ (getT t i).cl = q /\ F q = some (trV (getT t i) vy) /\ aA W0 vy (getT t i).ats
def CountOk (t : List TrN) (k : Nat) (F : Int -> Option Value) : Prop := ∀ q : Int, 0 < q -> (F q).getD (.int .i64 0) = .int .i64 (countC t q k)
structure ChkSt (W0 w : World) (c m1 m2 : Nat) (t : List TrN) (k : Nat) : Prop where
 ex : ∃ vd n1 n2 F1 F2, w.heap[c]? = some (.cells #[vd, .bool (fileOf t k), .map (some m1), .map (some m2), .int .i64 (mostC t k)] 151 (0, 0)) /\ OwnL cdO W0.heap.size w vd (dirsOf t k) /\ MapAt kI w m1 n1 F1 /\ MapAt kI w m2 n2 F2 /\ FirstOk W0 t k F1 /\ CountOk t k F2
 below : Ext W0 w
theorem ChkSt.ext {W0 w w' : World} {c m1 m2 k : Nat} {t : List TrN} (h : ChkSt W0 w c m1 m2 t k) (he : Ext w w') : ChkSt W0 w' c m1 m2 t k := by
 obtain ⟨vd, n1, n2, F1, F2, h1, h2, h3, h4, h5, h6⟩ := h.ex
 exact ⟨⟨vd, n1, n2, F1, F2, bX he h1, h2.ext okO he, h3.ext he, h4.ext he, h5, h6⟩, h.below.trans he⟩
theorem likeB_trans {x y z : TrN} (h1 : likeB x y = true) (_h2 : likeB x z = likeB x z) : likeB y z = likeB x z := by
 obtain ⟨a, b, c, d, e⟩ := likeB_iff.1 h1
 unfold likeB; rw [a, b, c, d, e]
theorem likeB_refl (x : TrN) : likeB x x = true := likeB_iff.2 ⟨rfl, rfl, rfl, rfl, rfl⟩
theorem unlike_no {t : List TrN} {i : Nat} : ∀ k, (unlike t i k = false ↔ ∀ j, j < k -> ¬ (0 < (getT t i).cl /\ (getT t j).cl = (getT t i).cl /\ likeB (getT t j) (getT t i) = false))
 | 0 => ⟨fun _ j hj => by omega, fun _ => rfl⟩
 | k + 1 => by
  unfold unlike
  rw [Bool.or_eq_false_iff, unlike_no k]
  constructor
  ·rintro ⟨h1, h2⟩ j hj ⟨a, b, c⟩
   by_cases e : j = k
   ·subst e; rw [b, c] at h2; simp [a] at h2
   ·exact h1 j (by omega) ⟨a, b, c⟩
  ·intro h
   refine ⟨fun j hj => h j (by omega), ?_⟩
   have := h k (by omega)
   cases hl : likeB (getT t k) (getT t i)
   ·by_cases a : 0 < (getT t i).cl
    ·by_cases b : (getT t k).cl = (getT t i).cl
     ·exact absurd ⟨a, b, hl⟩ this
     ·simp [b]
    ·simp [a]
   ·simp
theorem mostC_ge (t : List TrN) : ∀ k i, i < k -> (getT t i).cl <= mostC t k
 | 0, i, h => by omega
 | k + 1, i, h => by
  by_cases e : i = k
  ·subst e; rw [mostC.eq_2]; omega
  ·have := mostC_ge t k i (by omega)
   rw [mostC.eq_2]; omega
theorem class_is {t : List TrN} {k : Nat} (h : AllOk t k) {i : Nat} (hi : i < k) (hc : 0 < (getT t k).cl -> (getT t k).cl <= mostC t k -> (getT t i).cl = (getT t k).cl) : classE (mostC t k) (likeB (getT t i) (getT t k)) (getT t k) = clsE t k := by
 have hmb := mostC_bd k h
 unfold classE clsE
 by_cases e0 : (getT t k).cl = 0
 ·rw [if_pos e0, if_neg, if_neg (by omega)]
  rw [Bool.not_eq_true, unlike_no]; rintro j hj ⟨a, _⟩; omega
 rw [if_neg e0]
 by_cases e1 : (getT t k).cl < 0 \/ mostC t k + 1 < (getT t k).cl
 ·rw [if_pos e1, if_pos e1]; split <;> rfl
 rw [if_neg e1, if_neg e1]
 by_cases e2 : mostC t k < (getT t k).cl
 ·rw [if_pos e2, if_neg]
  rw [Bool.not_eq_true, unlike_no]; rintro j hj ⟨a, b, _⟩
  have := mostC_ge t k j hj; omega
 rw [if_neg e2]
 have hc' := hc (by omega) (by omega)
 cases hl : likeB (getT t i) (getT t k)
 ·rw [if_neg (by simp), if_pos]
  cases hu : unlike t k k with
  | true => rfl
  | false => exact absurd ⟨by omega, hc', hl⟩ ((unlike_no k).1 hu i hi)
 ·rw [if_pos rfl, if_neg]
  rw [Bool.not_eq_true, unlike_no]; rintro j hj ⟨a, b, c⟩
  -- both are like the first one of the class
  have hji : likeB (getT t i) (getT t j) = true := by
   by_cases e : i = j
   ·subst e; exact likeB_refl _
   ·rcases Nat.lt_or_gt_of_ne e with e | e
    ·obtain ⟨_, _, _, _, hcj⟩ := node_parts (h j hj)
     have := (unlike_no j).1 (cls_bd hcj).2.2 i e
     cases hh : likeB (getT t i) (getT t j)
     ·exact absurd ⟨by omega, by rw [hc', b], hh⟩ this
     ·rfl
    ·obtain ⟨_, _, _, _, hci⟩ := node_parts (h i hi)
     have := (unlike_no i).1 (cls_bd hci).2.2 j e
     cases hh : likeB (getT t j) (getT t i)
     ·exact absurd ⟨by omega, by rw [hc', b], hh⟩ this
     ·obtain ⟨a1, a2, a3, a4, a5⟩ := likeB_iff.1 hh
      exact likeB_iff.2 ⟨a1.symm, a2.symm, a3.symm, a4.symm, a5.symm⟩
  rw [likeB_trans hji rfl, hl] at c; cases c
theorem class_new {t : List TrN} {k : Nat} (h : AllOk t k) (lk : Bool) (hc : ¬ (0 < (getT t k).cl /\ (getT t k).cl <= mostC t k)) : classE (mostC t k) lk (getT t k) = clsE t k := by
 have hmb := mostC_bd k h
 unfold classE clsE
 by_cases e0 : (getT t k).cl = 0
 ·rw [if_pos e0, if_neg, if_neg (by omega)]
  rw [Bool.not_eq_true, unlike_no]; rintro j hj ⟨a, _⟩; omega
 rw [if_neg e0]
 by_cases e1 : (getT t k).cl < 0 \/ mostC t k + 1 < (getT t k).cl
 ·rw [if_pos e1, if_pos e1]; split <;> rfl
 rw [if_neg e1, if_neg e1]
 have e2 : mostC t k < (getT t k).cl := by omega
 rw [if_pos e2, if_neg]
 rw [Bool.not_eq_true, unlike_no]; rintro j hj ⟨a, b, _⟩
 have := mostC_ge t k j hj; omega
theorem OwnL.keepO {B : Nat} {w w' : World} {v : Value} {l : List Opn} (h : OwnL cdO B w v l) (hk : ∀ g, v.ownBlock = some g -> ∀ o, w.heap[g]? = some o -> w'.heap[g]? = some o) : OwnL cdO B w' v l := by
 obtain ⟨css, hl, hR, ho⟩ := h
 refine ⟨css, hl, hR, ho.1, ?_⟩
 rcases ho.2 with h1 | ⟨g, cap, cur, rfl, hb, hg, h3⟩
 ·exact .inl h1
 ·exact .inr ⟨g, cap, cur, rfl, hb, hk g rfl _ hg, h3⟩
theorem aA.setC {w : World} {v : Value} {l : List Attr} {c o : Nat} {u : Value} (h : aA w v l) (hc : ∀ b, v.ownBlock = some b -> 0 < l.length -> b ≠ c) : aA (w.setCell ⟨c, o, none⟩ u) v l := by
 obtain ⟨a, cap, rfl, hcap, hcs⟩ := h
 refine ⟨a, cap, rfl, hcap, fun k hk => ?_⟩
 obtain ⟨b, off, rfl, hb, h1, h2⟩ := hcs k hk
 have hne := hc b rfl (by omega)
 have hh : (w.setCell ⟨c, o, none⟩ u).heap[b]? = w.heap[b]? := Below.heap_setCell _ _ _ _ hne
 refine ⟨b, off, rfl, by simp [World.setCell]; exact hb, ?_, ?_⟩
 ·simp only [World.cell?, hh]; exact h1
 ·simp only [World.cell?, hh]; exact h2
theorem fst_dirs {t : List TrN} {k : Nat} (hk : k <= t.length) (h : AllOk t k) : (dirsOf t k).length <= 9 /\ ∀ d ∈ dirsOf t k, d.1 <= 24 := by
 by_cases hk0 : k = 0
 ·subst hk0; simp [dirsOf]
 obtain ⟨h1, _⟩ := node_parts (h (k - 1) (by omega))
 have hb := shape_bd h1
 refine ⟨by rw [dirsOf_len hk0]; omega, fun d hd => ?_⟩
 unfold dirsOf at hd
 rw [if_neg hk0] at hd
 obtain ⟨j, _, rfl⟩ := List.mem_map.1 hd
 exact scan_le k hk h _ (by omega)
def KeepC (w w' : World) (c : Nat) : Prop := ∀ b cs E f, w.heap[b]? = some (.cells cs E f) -> E ≠ 237 -> b ≠ c -> w'.heap[b]? = some (.cells cs E f)
def NodeP (W0 w : World) (c m1 m2 : Nat) (t : List TrN) (k : Nat) (e : Ending) (w' : World) : Prop :=
 e = .returned (.int .i64 (nodeE t k)) /\ Ext W0 w' /\ (nodeE t k = 0 -> ChkSt W0 w' c m1 m2 t (k + 1) /\ KeepC w w' c)
theorem nodeP_err {W0 w w' : World} {c m1 m2 k : Nat} {t : List TrN} {r : Int} (h : nodeE t k = r) (hv : r ≠ 0) (hb : Ext W0 w') : NodeP W0 w c m1 m2 t k (.returned (.int .i64 r)) w' := ⟨by rw [h], hb, fun h0 => absurd (h.symm.trans h0) hv⟩
theorem fileOf_succ (t : List TrN) (k : Nat) : fileOf t (k + 1) = !((getT t k).kd == 1) := by unfold fileOf; rw [if_neg (by omega)]; rfl
theorem first_step {W0 : World} {t : List TrN} {k : Nat} {F : Int -> Option Value} {va : Value} (h : FirstOk W0 t k F) (ha : aA W0 va (getT t k).ats) (_hc0 : 0 <= (getT t k).cl) (hc1 : (getT t k).cl <= mostC t k + 1) :
  FirstOk W0 t (k + 1) (if mostC t k < (getT t k).cl then upd F (getT t k).cl (trV (getT t k) va) else F) := by
 intro q hq hq2
 rw [mostC.eq_2] at hq2
 by_cases e : mostC t k < (getT t k).cl
 ·rw [if_pos e]
  by_cases e2 : q = (getT t k).cl
  ·exact ⟨k, va, by omega, e2.symm, by unfold upd; rw [if_pos e2], ha⟩
  ·obtain ⟨i, vy, h1, h2, h3, h4⟩ := h q hq (by omega)
   exact ⟨i, vy, by omega, h2, by unfold upd; rw [if_neg e2]; exact h3, h4⟩
 ·rw [if_neg e]
  obtain ⟨i, vy, h1, h2, h3, h4⟩ := h q hq (by omega)
  exact ⟨i, vy, by omega, h2, h3, h4⟩
theorem count_step {t : List TrN} {k : Nat} {F : Int -> Option Value} (h : CountOk t k F) : CountOk t (k + 1) (if (getT t k).cl = 0 then F else upd F (getT t k).cl (.int .i64 ((countC t (getT t k).cl k : Int) + 1))) := by
 intro q hq
 rw [countC.eq_2]
 by_cases e : (getT t k).cl = 0
 ·rw [if_pos e, if_neg (by omega)]; exact h q hq
 ·rw [if_neg e]
  unfold upd
  by_cases e2 : q = (getT t k).cl
  ·rw [if_pos e2, if_pos e2.symm, e2]; rfl
  ·rw [if_neg e2, if_neg (fun x => e2 x.symm)]; exact h q hq
theorem countC_le (t : List TrN) (c : Int) : ∀ k, countC t c k <= k
 | 0 => Nat.le_refl _
 | k + 1 => by have := countC_le t c k; rw [countC.eq_2]; split <;> omega
def idxE (p : Nat -> Bool) (n : Nat) : Int := match findB p 0 n with | some i => i | none => -1
theorem idxE_none {p : Nat -> Bool} {n : Nat} (h : ∀ j, j < n -> p j = false) : idxE p n = -1 := by unfold idxE; rw [findB_none n 0 fun j _ hj => h j (by omega)]
theorem idxE_some {p : Nat -> Bool} {n i : Nat} (hi : i < n) (h : ∀ j, j < i -> p j = false) (hp : p i = true) : idxE p n = i := by unfold idxE; rw [findB_some n 0 i (Nat.zero_le _) (by omega) (fun j _ hj => h j hj) hp]
theorem first_is {p : Nat -> Bool} : ∀ n, (∀ j, j < n -> p j = false) \/ ∃ i, i < n /\ (∀ j, j < i -> p j = false) /\ p i = true
 | 0 => .inl fun j h => by omega
 | n + 1 => by
  rcases first_is n with h | ⟨i, h1, h2, h3⟩
  ·cases hp : p n
   ·exact .inl fun j hj => by
     by_cases e : j = n
     ·subst e; exact hp
     ·exact h j (by omega)
   ·exact .inr ⟨n, by omega, h, hp⟩
  ·exact .inr ⟨i, by omega, h2, h3⟩
theorem blk_at {w : World} {o : Obj} {n : Nat} (h : n = w.heap.size) : (w.alloc o).heap[n]? = some o := by subst h; exact bN w o
theorem mapAt_at {K : Type} {κ : K -> Value} {w : World} {n : Nat} (h : n = w.heap.size) : MapAt κ (w.alloc (.map #[] 0)) n 0 (fun _ => none) := by subst h; exact mapAt_made w κ
theorem neg_ok {a : Nat} : (decide ((0 : Int) <= (a : Int))) = true := decide_eq_true (by omega)
abbrev brV (x : BrN) (va vr : Value) : Value := .agg #[.int .i64 x.dep, .string x.nm, .int .i64 x.kd, va, .string x.dat, .int .i64 x.ma, .int .i64 x.mi, .int .i64 x.cl, .bool x.opq, vr]
def setL (w : World) (g : Nat) : Nat -> List Value -> World
 | _, [] => w
 | j, v :: r => setL (w.setCell ⟨g, j, none⟩ v) g (j + 1) r
def setA (cs : Array Value) : Nat -> List Value -> Array Value
 | _, [] => cs
 | j, v :: r => setA (cs.setIfInBounds j v) (j + 1) r
theorem setL_blk {g : Nat} {t : TypeId} {f : Nat × Nat} : ∀ (vs : List Value) (w : World) (j : Nat) (cs : Array Value), w.heap[g]? = some (.cells cs t f) -> (setL w g j vs).heap[g]? = some (.cells (setA cs j vs) t f)
 | [], _, _, _, h => h
 | v :: r, _w, j, _cs, h => setL_blk r _ (j + 1) _ (bS h v)
theorem setL_keep {g : Nat} : ∀ (vs : List Value) (w : World) (j : Nat), KeepBut (some g) w (setL w g j vs)
 | [], _, _ => fun _ _ h _ => h
 | v :: r, w, j => fun b o h hne => setL_keep r _ (j + 1) b o (bSn h _ _ (fun e => hne (by rw [e]))) hne
theorem setL_size {g : Nat} : ∀ (vs : List Value) (w : World) (j : Nat), (setL w g j vs).heap.size = w.heap.size
 | [], _, _ => rfl
 | v :: r, w, j => by unfold setL; rw [setL_size r]; simp [World.setCell]
theorem setL_below {B g : Nat} {W : World} (hB : B <= g) : ∀ (vs : List Value) (w : World) (j : Nat), Below B W w -> Below B W (setL w g j vs)
 | [], _, _, h => h
 | v :: r, _w, j, h => setL_below hB r _ (j + 1) (h.setCell (p := ⟨g, j, none⟩) hB v)
theorem setL_chg {B g : Nat} {t : TypeId} {f : Nat × Nat} {cs : Array Value} {w : World} (hB : B <= g) (h : w.heap[g]? = some (.cells cs t f)) (vs : List Value) : Chg B t (some g) w (setL w g 0 vs) :=
 ⟨setL_keep vs w 0, Nat.le_of_eq (setL_size vs w 0).symm, fun g' e => by cases e; exact ⟨hB, _, _, h⟩⟩
def PlainP (w : World) (x : BrN) (e : Ending) (w' : World) : Prop := (∃ va, e = .returned (trV x.toTrN va) /\ AttIn 0 w' va x.ats) /\ Ext w w'
theorem blk_below {w w' : World} {b : Nat} {o : Obj} (h : w.heap[b]? = some o) (he : Ext w w') : w'.heap[b]? = some o := bX he h
set_option maxRecDepth 100000 in
set_option maxHeartbeats 8000000 in
theorem refNode (B : Nat) (w : World) (x : BrN) (va vr : Value) (hx : AttIn B w va x.ats) (hB : B <= w.heap.size) (hl : x.ats.length <= 1000) (hr : ∃ a n cap, vr = .slice a n cap) :
  Calls Tryz.prog 97 #[brV x va vr] w (PlainP w x) := by
 obtain ⟨a4, n4, cap4, rfl⟩ := hr
 obtain ⟨a3, cap3, rfl⟩ := hx.form
 have HX := hQq hx
 clear hx
 unfold brV
 go_enter Tryz.func97, Tryz.ntmps97
 go_wp2
 refine nW (P := fun W => Code.wp _ _ _ _ W) _ ?_
 intro W hW
 have HXB : Hid (W.heap[w.heap.size]? = some (.cells #[.int .i64 x.dep, .string x.nm, .int .i64 x.kd, .slice a3 x.ats.length cap3, .string x.dat, .int .i64 x.ma, .int .i64 x.mi, .int .i64 x.cl, .bool x.opq, .slice a4 n4 cap4] 41 (0, 0))) := hQq (by rw [hW]; exact bA (bN w _))
 have HZB : Hid (W.heap[w.heap.size + 1]? = some (.cells #[.int .i64 0, .string ⟨#[]⟩, .int .i64 0, .slice none 0 0, .string ⟨#[]⟩, .int .i64 0, .int .i64 0, .int .i64 0] 43 (0, 0))) := hQq (by rw [hW]; exact blk_at (by simp))
 have HE : Hid (Ext w W) := hQq (by rw [hW]; exact (eA _ _).trans (eA _ _))
 clear hW
 have c0 : W.cell? ⟨w.heap.size, 0, none⟩ = some (.int .i64 x.dep) := bC HXB.out 0
 have c1 : W.cell? ⟨w.heap.size, 1, none⟩ = some (.string x.nm) := bC HXB.out 1
 have c2 : W.cell? ⟨w.heap.size, 2, none⟩ = some (.int .i64 x.kd) := bC HXB.out 2
 have c3 : W.cell? ⟨w.heap.size, 3, none⟩ = some (.slice a3 x.ats.length cap3) := bC HXB.out 3
 have c4 : W.cell? ⟨w.heap.size, 4, none⟩ = some (.string x.dat) := bC HXB.out 4
 have c5 : W.cell? ⟨w.heap.size, 5, none⟩ = some (.int .i64 x.ma) := bC HXB.out 5
 have c6 : W.cell? ⟨w.heap.size, 6, none⟩ = some (.int .i64 x.mi) := bC HXB.out 6
 have c7 : W.cell? ⟨w.heap.size, 7, none⟩ = some (.int .i64 x.cl) := bC HXB.out 7
 have fz : ∀ j, W.frozen? ⟨w.heap.size + 1, j, none⟩ = false := fun j => bT HZB.out j
 have HX1 : Hid (∀ o, AttIn W.heap.size (W.alloc o).drew (.slice a3 x.ats.length cap3) x.ats) := hQq (fun o => (HX.out.mono okA (Nat.le_trans hB HE.out.size)).ext okA ((HE.out.trans (eA _ _)).trans (eD _)))
 have HF1 : Hid (OwnL cdA W.heap.size (W.alloc (.cells #[] cdA.e)).drew (.slice (some ⟨W.heap.size, 0, none⟩) 0 0) []) := hQq ((OwnL.fresh cdA W).ext okA (eD _))
 have fzA : ∀ o j, (W.alloc o).drew.frozen? ⟨w.heap.size + 1, j, none⟩ = false := fun o j => bT (bX ((eA W o).trans (eD _)) HZB.out) j
 go_region_held3 (fun w' => w'.cell? ⟨w.heap.size, 0, none⟩ = some (.int .i64 x.dep) /\ w'.cell? ⟨w.heap.size, 1, none⟩ = some (.string x.nm) /\ w'.cell? ⟨w.heap.size, 2, none⟩ = some (.int .i64 x.kd) /\ w'.cell? ⟨w.heap.size, 3, none⟩ = some (.slice a3 x.ats.length cap3) /\ w'.cell? ⟨w.heap.size, 4, none⟩ = some (.string x.dat) /\ w'.cell? ⟨w.heap.size, 5, none⟩ = some (.int .i64 x.ma) /\ w'.cell? ⟨w.heap.size, 6, none⟩ = some (.int .i64 x.mi) /\ w'.cell? ⟨w.heap.size, 7, none⟩ = some (.int .i64 x.cl) /\ ∀ j, w'.frozen? ⟨w.heap.size + 1, j, none⟩ = false) (first | go_keep | skip)
  ((refine wp_appL okA (.tmp 9) (.tmp 11) (by rfl) (.slice (some ⟨W.heap.size, 0, none⟩) 0 0) _ [] x.ats W _ (by rfl) (by rfl) (by exact HF1.out) (by exact HX1.out _) (by exact (eA _ _).trans (eD _)) (by simp) (by simp; omega) ?_; intro v5 w3 ha; have HAP := hQq ha; clear ha; have HE3 : Hid (Ext W w3) := HAP.out.below; have X3 := hQq (blk_below HXB.out HE3.out); have Z3 := hQq (blk_below HZB.out HE3.out); obtain ⟨a5, cap5, rfl⟩ := HAP.out.own.form; have d0 : w3.cell? ⟨w.heap.size, 0, none⟩ = some (.int .i64 x.dep) := bC X3.out 0; have d1 : w3.cell? ⟨w.heap.size, 1, none⟩ = some (.string x.nm) := bC X3.out 1; have d2 : w3.cell? ⟨w.heap.size, 2, none⟩ = some (.int .i64 x.kd) := bC X3.out 2; have d3 : w3.cell? ⟨w.heap.size, 3, none⟩ = some (.slice a3 x.ats.length cap3) := bC X3.out 3; have d4 : w3.cell? ⟨w.heap.size, 4, none⟩ = some (.string x.dat) := bC X3.out 4; have d5 : w3.cell? ⟨w.heap.size, 5, none⟩ = some (.int .i64 x.ma) := bC X3.out 5; have d6 : w3.cell? ⟨w.heap.size, 6, none⟩ = some (.int .i64 x.mi) := bC X3.out 6; have d7 : w3.cell? ⟨w.heap.size, 7, none⟩ = some (.int .i64 x.cl) := bC X3.out 7; have fz3 : ∀ j, w3.frozen? ⟨w.heap.size + 1, j, none⟩ = false := fun j => bT Z3.out j; have r0 : w3.cell? ⟨w.heap.size + 1, 0, none⟩ = some (.int .i64 0) := bC Z3.out 0; have r1 : w3.cell? ⟨w.heap.size + 1, 1, none⟩ = some (.string ⟨#[]⟩) := bC Z3.out 1; have r2 : w3.cell? ⟨w.heap.size + 1, 2, none⟩ = some (.int .i64 0) := bC Z3.out 2; have r3 : w3.cell? ⟨w.heap.size + 1, 3, none⟩ = some (.slice none 0 0) := bC Z3.out 3; have r4 : w3.cell? ⟨w.heap.size + 1, 4, none⟩ = some (.string ⟨#[]⟩) := bC Z3.out 4; have r5 : w3.cell? ⟨w.heap.size + 1, 5, none⟩ = some (.int .i64 0) := bC Z3.out 5; have r6 : w3.cell? ⟨w.heap.size + 1, 6, none⟩ = some (.int .i64 0) := bC Z3.out 6; have r7 : w3.cell? ⟨w.heap.size + 1, 7, none⟩ = some (.int .i64 0) := bC Z3.out 7; have hsz : w.heap.size + 1 < w3.heap.size := bL Z3.out))
 refine nW (P := fun W => Exit.then _ _ _ _ W) _ ?_
 intro W2 hW2
 replace hW2 : W2 = setL w3 (w.heap.size + 1) 0 [.int .i64 x.dep, .string x.nm, .int .i64 x.kd, .slice a5 x.ats.length cap5, .string x.dat, .int .i64 x.ma, .int .i64 x.mi, .int .i64 x.cl] := hW2
 have HZ2 : Hid (W2.heap[w.heap.size + 1]? = some (.cells #[.int .i64 x.dep, .string x.nm, .int .i64 x.kd, .slice a5 x.ats.length cap5, .string x.dat, .int .i64 x.ma, .int .i64 x.mi, .int .i64 x.cl] 43 (0, 0))) := hQq (by rw [hW2, setL_blk _ _ _ _ Z3.out]; rfl)
 have HB2 : Hid (Ext w W2) := hQq (by rw [hW2]; exact setL_below (by omega) _ _ _ (HE.out.trans HE3.out))
 have HO : Hid (AttIn 0 w3 (.slice a5 x.ats.length cap5) x.ats) := hQq ((OwnL.le (B' := 0) HAP.out.own okA (fun _ _ _ h => h) (Nat.zero_le _)).in okA)
 have HA2 : Hid (AttIn 0 W2 (.slice a5 x.ats.length cap5) x.ats) := hQq (by rw [hW2]; exact HO.out.chg okA (setL_chg (by omega) Z3.out _) (by decide) (by decide))
 clear hW2 c0 c1 c2 c3 c4 c5 c6 c7 d0 d1 d2 d3 d4 d5 d6 d7 r0 r1 r2 r3 r4 r5 r6 r7
 have t0 : W2.cell? ⟨w.heap.size + 1, 0, none⟩ = some (.int .i64 x.dep) := bC HZ2.out 0
 have t1 : W2.cell? ⟨w.heap.size + 1, 1, none⟩ = some (.string x.nm) := bC HZ2.out 1
 have t2 : W2.cell? ⟨w.heap.size + 1, 2, none⟩ = some (.int .i64 x.kd) := bC HZ2.out 2
 have t3 : W2.cell? ⟨w.heap.size + 1, 3, none⟩ = some (.slice a5 x.ats.length cap5) := bC HZ2.out 3
 have t4 : W2.cell? ⟨w.heap.size + 1, 4, none⟩ = some (.string x.dat) := bC HZ2.out 4
 have t5 : W2.cell? ⟨w.heap.size + 1, 5, none⟩ = some (.int .i64 x.ma) := bC HZ2.out 5
 have t6 : W2.cell? ⟨w.heap.size + 1, 6, none⟩ = some (.int .i64 x.mi) := bC HZ2.out 6
 have t7 : W2.cell? ⟨w.heap.size + 1, 7, none⟩ = some (.int .i64 x.cl) := bC HZ2.out 7
 go_wp2
 refine bodyPost_ret (v := trV x.toTrN (.slice a5 x.ats.length cap5)) (by simp [results, Tryz.f97, go_sem, t0, t1, t2, t3, t4, t5, t6, t7]) rfl ?_
 exact ⟨⟨_, rfl, HA2.out⟩, HB2.out⟩
def plT (l : List BrN) : List TrN := l.map BrN.toTrN
theorem plT_len (l : List BrN) : (plT l).length = l.length := by simp [plT]
theorem plT_succ (l : List BrN) (k : Nat) (h : k < l.length) : plT (l.take (k + 1)) = plT (l.take k) ++ [(l[k]'h).toTrN] := by
 unfold plT; rw [List.take_succ_eq_append_getElem h, List.map_append]; rfl
theorem plT_all (l : List BrN) : plT (l.take l.length) = plT l := by rw [List.take_length]
def TreeP (w : World) (b : List BrN) (e : Ending) (w' : World) : Prop := (∃ a cap, e = .returned (.slice a b.length cap) /\ OwnL cdT w.heap.size w' (.slice a b.length cap) (plT b)) /\ Ext w w'
theorem cells10 {w w' : World} {b o : Nat} {v0 v1 v2 v3 v4 v5 v6 v7 v8 v9 : Value} (he : Ext w w') (hb : b < w.heap.size)
  (h : w.cell? ⟨b, o, none⟩ = some v0 /\ w.cell? ⟨b, o + 1, none⟩ = some v1 /\ w.cell? ⟨b, o + 2, none⟩ = some v2 /\ w.cell? ⟨b, o + 3, none⟩ = some v3 /\ w.cell? ⟨b, o + 4, none⟩ = some v4 /\ w.cell? ⟨b, o + 5, none⟩ = some v5 /\ w.cell? ⟨b, o + 6, none⟩ = some v6 /\ w.cell? ⟨b, o + 7, none⟩ = some v7 /\ w.cell? ⟨b, o + 8, none⟩ = some v8 /\ w.cell? ⟨b, o + 9, none⟩ = some v9) :
  w'.cell? ⟨b, o, none⟩ = some v0 /\ w'.cell? ⟨b, o + 1, none⟩ = some v1 /\ w'.cell? ⟨b, o + 2, none⟩ = some v2 /\ w'.cell? ⟨b, o + 3, none⟩ = some v3 /\ w'.cell? ⟨b, o + 4, none⟩ = some v4 /\ w'.cell? ⟨b, o + 5, none⟩ = some v5 /\ w'.cell? ⟨b, o + 6, none⟩ = some v6 /\ w'.cell? ⟨b, o + 7, none⟩ = some v7 /\ w'.cell? ⟨b, o + 8, none⟩ = some v8 /\ w'.cell? ⟨b, o + 9, none⟩ = some v9 := by
 obtain ⟨h0, h1, h2, h3, h4, h5, h6, h7, h8, h9⟩ := h
 exact ⟨(eC he hb).trans h0, (eC he hb).trans h1, (eC he hb).trans h2, (eC he hb).trans h3, (eC he hb).trans h4, (eC he hb).trans h5, (eC he hb).trans h6, (eC he hb).trans h7, (eC he hb).trans h8, (eC he hb).trans h9⟩
theorem makeL {P : Program} {α : Type} {C : Cd α} (K : CdOk P C) (w : World) {ops : Array Oper} {rest : List Oper} {o : Oper} {a : Act} {Q : Exit -> Act -> World -> Prop}
  (hg : o.guard = none) (l c : Operand) (hop : o.op = Op.makeSlice C.t l c) (n : Nat) (hl : a.eval l = .int .i64 0) (hc : a.eval c = .int .i64 n) (hn : n <= 1000000)
  (hK : ∀ w', OwnL C w.heap.size w' (.slice (some ⟨w.heap.size, 0, none⟩) 0 n) [] -> Ext w w' -> wpList P ops Q rest (a.put o.dst (.slice (some ⟨w.heap.size, 0, none⟩) 0 n)) w') :
  wpList P ops Q (o :: rest) a w := by
 obtain ⟨i, hi, hz, h3, h4⟩ := K.sl.info
 have hsm := K.sl.small
 refine wpList_make_own w hg l c C.t hop w.heap.size C.e i _ C.n K.sl.und hi hz h3 .i64 .i64 n n hl hc rfl ?_ (by unfold maxLen; omega) (Nat.le_refl _) fun w' h1 h2 => hK w' ⟨[], rfl, fun k hk => absurd hk (by simp), h1⟩ ?_
 ·have : i.bytes * n <= 1000 * 1000000 := Nat.mul_le_mul (by omega) hn
  omega
 ·exact Below.grown (bR _ _) h2 (Nat.le_refl _) (fun k hk => by cases hk)
def zBrN : BrN := { zTrN with opq := false, red := [] }
def getB (b : List BrN) (i : Nat) : BrN := b.getD i zBrN
theorem getB_at (b : List BrN) (i : Nat) (h : i < b.length) : getB b i = b[i]'h := by unfold getB; simp [List.getD, h]
theorem getT_plT (b : List BrN) (i : Nat) (h : i < b.length) : getT (plT b) i = (getB b i).toTrN := by
 rw [getT_at _ _ (by rw [plT_len]; exact h), getB_at _ _ h]; simp [plT]
def abvE (t : List TrN) (d : Int) : Nat -> Int
 | 0 => -1
 | n + 1 => if (getT t n).dep < d then n else abvE t d n
def abv (t : List TrN) (i : Nat) : Int := abvE t (getT t i).dep i
theorem abvE_bd (t : List TrN) (d : Int) : ∀ n, -1 <= abvE t d n /\ abvE t d n < n
 | 0 => ⟨Int.le_refl _, by show (-1 : Int) < 0; decide⟩
 | n + 1 => by
  have := abvE_bd t d n
  unfold abvE; split <;> omega
def pathF (t : List TrN) : Nat -> Nat -> List ByteArray
 | 0, _ => []
 | f + 1, i => if i = 0 then [] else pathF t f (abv t i).toNat ++ [(getT t i).nm]
def pathT (t : List TrN) (i : Nat) : List ByteArray := pathF t (i + 1) i
theorem abv_bd (t : List TrN) (i : Nat) : -1 <= abv t i /\ abv t i < i := abvE_bd _ _ _
theorem pathF_eq (t : List TrN) : ∀ (i f f' : Nat), i < f -> i < f' -> pathF t f i = pathF t f' i := by
 intro i
 induction i using Nat.strongRecOn with
 | ind i ih =>
  intro f f' h h'
  obtain ⟨g, rfl⟩ : ∃ g, f = g + 1 := ⟨f - 1, by omega⟩
  obtain ⟨g', rfl⟩ : ∃ g, f' = g + 1 := ⟨f' - 1, by omega⟩
  unfold pathF
  by_cases e : i = 0
  ·rw [if_pos e, if_pos e]
  ·rw [if_neg e, if_neg e]
   have := abv_bd t i
   rw [ih (abv t i).toNat (by omega) g g' (by omega) (by omega)]
theorem pathT_zero (t : List TrN) : pathT t 0 = [] := rfl
theorem pathT_succ (t : List TrN) (i : Nat) (h : i ≠ 0) : pathT t i = pathT t (abv t i).toNat ++ [(getT t i).nm] := by
 have := abv_bd t i
 show pathF t (i + 1) i = _
 rw [pathF.eq_2, if_neg h]
 unfold pathT
 rw [pathF_eq t (abv t i).toNat i ((abv t i).toNat + 1) (by omega) (by omega)]
theorem pathT_len (t : List TrN) : ∀ i, (pathT t i).length <= i := by
 intro i
 induction i using Nat.strongRecOn with
 | ind i ih =>
  by_cases e : i = 0
  ·subst e; rw [pathT_zero]; simp
  ·have := abv_bd t i
   rw [pathT_succ t i e, List.length_append]
   have := ih (abv t i).toNat (by omega)
   simp; omega
theorem abvE_ge {t : List TrN} {d : Int} : ∀ {n j : Nat}, j < n -> (getT t j).dep < d -> 0 <= abvE t d n
 | n + 1, j, hj, hd => by
  unfold abvE
  by_cases e : (getT t n).dep < d
  ·rw [if_pos e]; omega
  ·rw [if_neg e]
   exact abvE_ge (j := j) (by by_cases e2 : j = n; subst e2; exact absurd hd e; omega) hd
theorem abv_ge {t : List TrN} {k i : Nat} (h : AllOk t k) (hi : i < k) (h0 : i ≠ 0) : 0 <= abv t i := by
 obtain ⟨s0, _⟩ := node_parts (h 0 (by omega))
 obtain ⟨si, _⟩ := node_parts (h i hi)
 have := (shape_bd s0).2.2.1 rfl
 have := (shape_bd si).2.2.2 h0
 exact abvE_ge (j := 0) (by omega) (by omega)
def OwnP {α : Type} (C : Cd α) (w : World) (l : List α) (e : Ending) (w' : World) : Prop := (∃ a n cap, e = .returned (.slice a n cap) /\ OwnL C w.heap.size w' (.slice a n cap) l) /\ Ext w w'
def seenR (b : List BrN) (r : List ByteArray) : Nat -> Bool
 | 0 => false
 | k + 1 => seenR b r k || decide (r = (getB b k).red)
def underB (b : List BrN) (i : Nat) : Bool := (getB b i).kd == 5 && decide (0 <= abv (plT b) i) && (getB b (abv (plT b) i).toNat).opq
def marksE (b : List BrN) (i : Nat) : Int :=
 if (((getB b i).opq = true \/ 0 < (getB b i).red.length) /\ (getB b i).kd ≠ 1) \/ (i = 0 /\ 0 < (getB b i).red.length) then 14
 else if (getB b i).opq = true /\ 0 < (getB b i).red.length then 6
 else if 0 < (getB b i).red.length /\ pathE (getB b i).red ≠ 0 then pathE (getB b i).red
 else if 0 < (getB b i).red.length /\ (getB b i).red = pathT (plT b) i then 6
 else if 0 < (getB b i).red.length /\ seenR b (getB b i).red i = true then 8
 else if underB b i = true then 6 else 0
section
variable {b : List BrN} {i : Nat} {x : BrN} (hg : getB b i = x)
include hg
theorem marks_kind (h : ((x.opq = true \/ 0 < x.red.length) /\ x.kd ≠ 1) \/ (i = 0 /\ 0 < x.red.length)) : marksE b i = 14 := by subst hg; exact if_pos h
theorem marks_both (h1 : x.kd = 1) (h2 : i ≠ 0) (h3 : x.opq = true) (h4 : 0 < x.red.length) : marksE b i = 6 := by
 subst hg; unfold marksE; rw [if_neg (fun h => h.elim (fun h => h.2 h1) (fun h => h2 h.1)), if_pos ⟨h3, h4⟩]
theorem marks_path (h1 : x.kd = 1) (h2 : i ≠ 0) (h3 : x.opq = false) (h4 : 0 < x.red.length) (h : pathE x.red ≠ 0) : marksE b i = pathE x.red := by
 subst hg; unfold marksE; rw [if_neg (fun h => h.elim (fun h => h.2 h1) (fun h => h2 h.1)), if_neg (by simp [h3]), if_pos ⟨h4, h⟩]
theorem marks_self (h1 : x.kd = 1) (h2 : i ≠ 0) (h3 : x.opq = false) (h4 : 0 < x.red.length) (h5 : pathE x.red = 0) (h : x.red = pathT (plT b) i) : marksE b i = 6 := by
 subst hg; unfold marksE; rw [if_neg (fun h => h.elim (fun h => h.2 h1) (fun h => h2 h.1)), if_neg (by simp [h3]), if_neg (fun h => h.2 h5), if_pos ⟨h4, h⟩]
theorem marks_seen (h1 : x.kd = 1) (h2 : i ≠ 0) (h3 : x.opq = false) (h4 : 0 < x.red.length) (h5 : pathE x.red = 0) (h6 : x.red ≠ pathT (plT b) i) (h : seenR b x.red i = true) : marksE b i = 8 := by
 subst hg; unfold marksE; rw [if_neg (fun h => h.elim (fun h => h.2 h1) (fun h => h2 h.1)), if_neg (by simp [h3]), if_neg (fun h => h.2 h5), if_neg (fun h => h6 h.2), if_pos ⟨h4, h⟩]
theorem marks_led (h1 : x.kd = 1) (h2 : i ≠ 0) (h3 : x.opq = false) (h4 : 0 < x.red.length) (h5 : pathE x.red = 0) (h6 : x.red ≠ pathT (plT b) i) (h : seenR b x.red i = false) : marksE b i = 0 := by
 subst hg; unfold marksE; rw [if_neg (fun h => h.elim (fun h => h.2 h1) (fun h => h2 h.1)), if_neg (by simp [h3]), if_neg (fun h => h.2 h5), if_neg (fun h => h6 h.2), if_neg (fun e => by rw [h] at e; cases e.2), if_neg (by unfold underB; rw [h1]; simp)]
theorem marks_under (h1 : ¬ (x.opq = true /\ x.kd ≠ 1)) (h4 : ¬ 0 < x.red.length) : marksE b i = if underB b i = true then 6 else 0 := by
 subst hg; unfold marksE
 rw [if_neg (fun h => h.elim (fun h => h.1.elim (fun e => h1 ⟨e, h.2⟩) h4) (fun h => h4 h.2)), if_neg (fun h => h4 h.2), if_neg (fun h => h4 h.1), if_neg (fun h => h4 h.1), if_neg (fun h => h4 h.1)]
end
structure SmallB (b : List BrN) : Prop where
 tree : SmallT (plT b)
 ats : ∀ x ∈ b, x.ats.length <= 1000
 red : ∀ x ∈ b, x.red.length <= 1000 /\ ∀ s ∈ x.red, s.size <= 1000000
 len : b.length <= 1000
theorem strs_ext {B : Nat} {w w' : World} {v : Value} {l : List ByteArray} (h : StrIn B w v l) (he : Ext w w') : StrsAt w' v l := (h.ext okS he).strs
theorem lenZ {n : Nat} (h : ¬ 0 < n) : decide ((0 : Int) < (n : Int)) = false := decide_eq_false (by omega)
theorem lenP {n : Nat} (h : 0 < n) : decide ((0 : Int) < (n : Int)) = true := decide_eq_true (by omega)
theorem findB_none_iff {p : Nat -> Bool} : ∀ (n a : Nat), findB p a n = none -> ∀ j, a <= j -> j < a + n -> p j = false
 | 0, a, _, j, h1, h2 => by omega
 | n + 1, a, h, j, h1, h2 => by
  unfold findB at h
  by_cases e : p a = true
  ·rw [if_pos e] at h; cases h
  ·rw [if_neg e] at h
   by_cases e2 : j = a
   ·subst e2; exact Bool.eq_false_iff.2 e
   ·exact findB_none_iff n (a + 1) h j (by omega) (by omega)
theorem findB_mem {p : Nat -> Bool} : ∀ (n a i : Nat), findB p a n = some i -> p i = true /\ a <= i /\ i < a + n
 | 0, _, _, h => by cases h
 | n + 1, a, i, h => by
  unfold findB at h
  by_cases e : p a = true
  ·rw [if_pos e] at h; cases h; exact ⟨e, Nat.le_refl _, by omega⟩
  ·rw [if_neg e] at h
   have := findB_mem n (a + 1) i h
   exact ⟨this.1, by omega, by omega⟩
theorem treeE_zero {t : List TrN} (h : treeE t = 0) : t.length ≠ 0 /\ t.length <= 120 /\ AllOk t t.length /\ treeN t = 0 /\ ∀ j, j < t.length -> loneB t j = false := by
 unfold treeE treeN at *
 unfold treeT at *
 by_cases h0 : t.length = 0
 ·rw [if_pos h0] at h; cases h
 rw [if_neg h0] at h ⊢
 by_cases h1 : 120 < t.length
 ·rw [if_pos h1] at h; cases h
 rw [if_neg h1] at h ⊢
 cases hf : findB (badB t) 0 t.length with
 | some i =>
  rw [hf] at h
  have := (findB_mem _ _ _ hf).1
  exact absurd h (bne_iff_ne.1 this)
 | none =>
  rw [hf] at h
  cases hg : findB (loneB t) 0 t.length with
  | some i => rw [hg] at h; cases h
  | none =>
   refine ⟨h0, by omega, fun j hj => ?_, rfl, fun j hj => findB_none_iff _ _ hg j (Nat.zero_le _) (by omega)⟩
   have := findB_none_iff _ _ hf j (Nat.zero_le _) (by omega)
   exact bne_eq_false_iff_eq.1 this
def badM (b : List BrN) (i : Nat) : Bool := marksE b i != 0
def brT (b : List BrN) : Int × Int :=
 if treeE (plT b) ≠ 0 then (treeN (plT b), treeE (plT b)) else match findB (badM b) 0 b.length with
  | some i => (i, marksE b i)
  | none => (0, 0)
def brNo (b : List BrN) : Int := (brT b).1
def brEr (b : List BrN) : Int := (brT b).2
theorem br_of {b : List BrN} {x y : Int} (h : brT b = (x, y)) : brNo b = x /\ brEr b = y := by unfold brNo brEr; rw [h]; exact ⟨rfl, rfl⟩
theorem brT_tree {b : List BrN} (h : treeE (plT b) ≠ 0) : brT b = (treeN (plT b), treeE (plT b)) := if_pos h
theorem brT_mark {b : List BrN} (h : treeE (plT b) = 0) {i : Nat} (hi : i < b.length) (hl : ∀ j, j < i -> marksE b j = 0) (he : marksE b i ≠ 0) : brT b = ((i : Int), marksE b i) := by
 unfold brT; rw [if_neg (by omega), findB_some b.length 0 i (Nat.zero_le _) (by omega) (fun j _ hj => by unfold badM; rw [hl j hj]; rfl) (show badM b i = true from bne_iff_ne.2 he)]
theorem brT_ok {b : List BrN} (h : treeE (plT b) = 0) (hl : ∀ j, j < b.length -> marksE b j = 0) : brT b = (0, 0) := by
 unfold brT; rw [if_neg (by omega), findB_none b.length 0 (fun j _ hj => by unfold badM; rw [hl j (by omega)]; rfl)]
theorem brEr_zero {b : List BrN} (h : brEr b = 0) : treeE (plT b) = 0 /\ brNo b = 0 /\ ∀ j, j < b.length -> marksE b j = 0 := by
 unfold brEr brNo brT at *
 by_cases h0 : treeE (plT b) ≠ 0
 ·rw [if_pos h0] at h; exact absurd h h0
 rw [if_neg h0] at h ⊢
 cases hf : findB (badM b) 0 b.length with
 | some i =>
  rw [hf] at h
  exact absurd h (bne_iff_ne.1 (findB_mem _ _ _ hf).1)
 | none => exact ⟨by omega, rfl, fun j hj => bne_eq_false_iff_eq.1 (findB_none_iff _ _ hf j (Nat.zero_le _) (by omega))⟩
theorem run_copyK {P : Program} (w : World) (dT sT ty elem : TypeId) (sz g o dLen dCap : Nat) (a : Addr) (sLen sCap : Nat) (cur : Array Value) (t : TypeId) (cs : List Value)
  (hu : P.underlying dT = some (.slice elem)) (hs : (P.info? elem).map (·.size) = some sz)
  (hg : w.heap[g]? = some (.cells cur t (0, 0))) (hn : cs.length = Nat.min sLen dLen * sz)
  (hsrc : ∀ j v, cs[j]? = some v -> w.cell? (a.add j) = some v) (hfit : o + cs.length <= cur.size) (h1 : ∀ v ∈ cs, v.oneCell' = true) :
  (Builtin.copy_ #[dT, sT] ty #[.slice (some ⟨g, o, none⟩) dLen dCap, .slice (some a) sLen sCap]).run P w =
   .ok (goInt (Nat.min sLen dLen)) (w.setRow g (cur.toList.take o ++ cs ++ cur.toList.drop (o + cs.length)).toArray) := by
 have hl := run_loadCells_list (P := P) w a cs hsrc
 have hst := run_storeCells_at P g o t cs 0 cur w hg (by simpa using hfit) h1
 cases hq : P.info? elem with
 | none => simp [hq] at hs
 | some i =>
  have hi : i.size = sz := by simpa [hq] using hs
  simp [Builtin.copy_, run_underlying hu, Builtin.lenOf, Builtin.firstCells, sizeOf, typeInfo, hq, hi, <- hn, hl, hst]
theorem len_seg (C0 m : List Value) (o : Nat) (h : o + m.length <= C0.length) : (C0.take o ++ m ++ C0.drop (o + m.length)).length = C0.length := by
 simp only [List.length_append, List.length_take, List.length_drop]; omega
theorem seg_take (C0 m : List Value) (o k : Nat) (hk : k <= o) (ho : o <= C0.length) : (C0.take o ++ m ++ C0.drop (o + m.length)).take k = C0.take k := by
 rw [List.append_assoc, List.take_append_of_le_length (by rw [List.length_take]; omega), List.take_take, Nat.min_eq_left hk]
theorem seg_drop (C0 m : List Value) (o : Nat) (ho : o <= C0.length) : (C0.take o ++ m ++ C0.drop (o + m.length)).drop o = m ++ C0.drop (o + m.length) := by
 rw [List.append_assoc, List.drop_append_of_le_length (by rw [List.length_take]; omega), List.drop_of_length_le (by rw [List.length_take]; omega), List.nil_append]
theorem ins_shift (C0 xs vs : List Value) (N I : Nat) (hI : I <= N) (hN : N + vs.length <= C0.length) (hx : xs = C0.take N) :
  (((C0.take (I + vs.length) ++ xs.drop I ++ C0.drop (I + vs.length + (xs.drop I).length)).take I ++ vs ++ (C0.take (I + vs.length) ++ xs.drop I ++ C0.drop (I + vs.length + (xs.drop I).length)).drop (I + vs.length)).take (N + vs.length)) = xs.take I ++ vs ++ xs.drop I := by
 have hl : xs.length = N := by rw [hx, List.length_take]; omega
 rw [seg_take C0 _ _ I (by omega) (by omega), seg_drop C0 _ _ (by omega), show C0.take I = xs.take I by rw [hx, List.take_take, Nat.min_eq_left hI], <- List.append_assoc]
 rw [List.take_append_of_le_length (by simp only [List.length_append, List.length_take, List.length_drop]; omega)]
 exact List.take_of_length_le (by simp only [List.length_append, List.length_take, List.length_drop]; omega)
theorem ins_grow (R xs vs : List Value) (N I : Nat) (hI : I <= N) (hN : N + vs.length <= R.length) (hl : xs.length = N) (hx : xs.take I = R.take I) :
  (((R.take I ++ vs ++ R.drop (I + vs.length)).take (I + vs.length) ++ xs.drop I ++ (R.take I ++ vs ++ R.drop (I + vs.length)).drop (I + vs.length + (xs.drop I).length)).take (N + vs.length)) = xs.take I ++ vs ++ xs.drop I := by
 have h1 : (R.take I ++ vs ++ R.drop (I + vs.length)).take (I + vs.length) = xs.take I ++ vs := by
  rw [List.take_append_of_le_length (by simp only [List.length_append, List.length_take]; omega), List.take_of_length_le (by simp only [List.length_append, List.length_take]; omega), hx]
 rw [h1, List.take_append_of_le_length (by simp only [List.length_append, List.length_take, List.length_drop]; omega)]
 exact List.take_of_length_le (by simp only [List.length_append, List.length_take, List.length_drop]; omega)
theorem flat_take {n : Nat} {css : List (List Value)} (h : ∀ cs ∈ css, cs.length = n) (k : Nat) : (css.take k).flatten = css.flatten.take (k * n) /\ (css.drop k).flatten = css.flatten.drop (k * n) := by
 induction css generalizing k with
 | nil => simp
 | cons c r ih =>
  have hc := h c (by simp)
  cases k with
  | zero => simp
  | succ k =>
   obtain ⟨e1, e2⟩ := ih (fun cs hcs => h cs (by simp [hcs])) k
   rw [List.take_succ_cons, List.drop_succ_cons, List.flatten_cons, List.flatten_cons, e1, e2, Nat.succ_mul, Nat.add_comm (k * n) n, <- hc]
   exact ⟨by rw [List.take_length_add_append], by rw [List.drop_length_add_append]⟩
theorem chg_setRow {B E g : Nat} {w : World} {cur : Array Value} {f : Nat × Nat} (hg : w.heap[g]? = some (.cells cur E f)) (hB : B <= g) (cs : Array Value) : Chg B E (some g) w (w.setRow g cs) where
 keep := fun b o hb hne => (setRow_other w g b cs (fun e => hne (by rw [e]))).trans hb
 size := by simp
 isrow := fun g' e => by cases e; exact ⟨hB, _, _, hg⟩
theorem pair_append {α β : Type} {R : α -> β -> Prop} {l m : List α} {c d : List β} (hl : l.length = c.length) (h1 : ∀ k (h : k < l.length) (h' : k < c.length), R (l[k]'h) (c[k]'h')) (h2 : ∀ k (h : k < m.length) (h' : k < d.length), R (m[k]'h) (d[k]'h')) :
  ∀ k (h : k < (l ++ m).length) (h' : k < (c ++ d).length), R ((l ++ m)[k]'h) ((c ++ d)[k]'h') := by
 intro k h h'
 by_cases hk : k < l.length
 ·have e1 : (l ++ m)[k]'h = l[k]'hk := List.getElem_append_left hk
  have e2 : (c ++ d)[k]'h' = c[k]'(by omega) := List.getElem_append_left (by omega)
  rw [e1, e2]; exact h1 _ _ _
 ·have h3 := h; have h4 := h'
  rw [List.length_append] at h3 h4
  have e1 : (l ++ m)[k]'h = m[k - l.length]'(by omega) := List.getElem_append_right (by omega)
  have e2 : (c ++ d)[k]'h' = d[k - c.length]'(by omega) := List.getElem_append_right (by omega)
  rw [e1, e2]
  have e3 : k - c.length = k - l.length := by omega
  simp only [e3]
  exact h2 _ _ _
theorem ownL_ins {P : Program} {α : Type} {C : Cd α} {B g n cap : Nat} {w w' : World} {l xs : List α} {css dss : List (List Value)} {cur : Array Value} (K : CdOk P C) (i : Nat) (hi : i <= l.length) (hl : css.length = l.length) (hx : dss.length = xs.length)
  (hR : ∀ k (h : k < l.length) (h' : k < css.length), C.R B w (l[k]'h) (css[k]'h')) (hS : ∀ k (h : k < xs.length) (h' : k < dss.length), C.R B w (xs[k]'h) (dss[k]'h')) {row : Option Nat} (hc : Chg B C.e row w w')
  (hn : n = l.length + xs.length) (hB : B <= g) (hg : w'.heap[g]? = some (.cells cur C.e (0, 0))) (hcap : n <= cap) (hm : cap <= maxLen) (hs : cur.size = cap * C.n)
  (ht : cur.toList.take (n * C.n) = css.flatten.take (i * C.n) ++ dss.flatten ++ css.flatten.drop (i * C.n)) :
  OwnL C B w' (.slice (some ⟨g, 0, none⟩) n cap) (l.take i ++ xs ++ l.drop i) := by
 have hlen := OwnL.lens K hl hR
 have hlen2 := OwnL.lens K hx hS
 have e : css.flatten.take (i * C.n) ++ dss.flatten ++ css.flatten.drop (i * C.n) = (css.take i ++ dss ++ css.drop i).flatten := by
  rw [List.flatten_append, List.flatten_append, (flat_take hlen i).1, (flat_take hlen i).2]
 have hln : (l.take i ++ xs ++ l.drop i).length = n := by simp only [List.length_append, List.length_take, List.length_drop]; omega
 refine ⟨css.take i ++ dss ++ css.drop i, by simp only [List.length_append, List.length_take, List.length_drop]; omega, fun k h h' => K.chg ?_ hc K.self, ?_, ?_⟩
 ·refine pair_append (by simp only [List.length_append, List.length_take]; omega) (pair_append (by simp only [List.length_take]; omega) (fun k h h' => ?_) hS) (fun k h h' => ?_) k h h'
  ·have e1 : (l.take i)[k]'h = l[k]'(by rw [List.length_take] at h; omega) := List.getElem_take
   have e2 : (css.take i)[k]'h' = css[k]'(by rw [List.length_take] at h'; omega) := List.getElem_take
   rw [e1, e2]; exact hR k _ _
  ·have e1 : (l.drop i)[k]'h = l[i + k]'(by rw [List.length_drop] at h; omega) := List.getElem_drop
   have e2 : (css.drop i)[k]'h' = css[i + k]'(by rw [List.length_drop] at h'; omega) := List.getElem_drop
   rw [e1, e2]; exact hR (i + k) _ _
 ·rw [flat_length (n := C.n) (fun cs hcs => ?_), hln]
  ·congr 1; simp only [List.length_append, List.length_take, List.length_drop]; omega
  ·rcases List.mem_append.1 hcs with hcs | hcs
   ·rcases List.mem_append.1 hcs with hcs | hcs
    ·exact hlen cs (List.mem_of_mem_take hcs)
    ·exact hlen2 cs hcs
   ·exact hlen cs (List.mem_of_mem_drop hcs)
 ·rw [hln]
  exact .inr ⟨g, cap, cur, rfl, hB, hg, hcap, hm, hs, by rw [ht, e]⟩
theorem ListIn.zero {α : Type} {C : Cd α} {B : Nat} {w : World} {v : Value} {l : List α} (h : ListIn C B w v l) (hv : ∃ n cap, v = .slice none n cap) : l = [] := by
 obtain ⟨a, cap, rfl, _, _, hc⟩ := h
 obtain ⟨n', cap', he⟩ := hv
 cases he
 cases l with
 | nil => rfl
 | cons y r => obtain ⟨b, off, cs, h0, _⟩ := hc 0 (by simp); cases h0
set_option maxRecDepth 100000 in
set_option maxHeartbeats 4000000 in
theorem slCloneS (B : Nat) (v : Value) (l : List ByteArray) (w : World) (hv : StrIn B w v l) (hB : B <= w.heap.size) (hl : l.length <= 1000) :
  Calls Tryz.prog 164 #[v] w (OwnP cdS w l) := by
 obtain ⟨a, cap, rfl⟩ := hv.form
 have HV := hQq hv; clear hv
 cases a with
 | none =>
  have := HV.out.zero ⟨_, _, rfl⟩
  subst this
  have hnil := fun wx => Lib.run_eql_slice_nil (P := Tryz.prog) wx 39 9 none 0 cap 0 0 okS.sl.und
  go_enter Tryz.func164, Tryz.ntmps164
  go_wp2
  go_ret
  exact ⟨⟨_, _, _, rfl, OwnL.nil _ _ _⟩, bR _ _⟩
 | some ad =>
  have hnil := fun wx => Lib.run_eql_slice_nil (P := Tryz.prog) wx 39 9 (some ad) l.length cap 0 0 okS.sl.und
  go_enter Tryz.func164, Tryz.ntmps164
  go_wp2_with (at_builtin; refine appL okS rfl (.tmp 5) (.tmp 6) rfl _ _ [] l w (w.alloc (.cells #[] 9)) rfl rfl (OwnL.fresh cdS w) ((HV.out.mono okS hB).ext okS (eA _ _)) (eA _ _) (by simp) (by simp; omega) ?_; intro v1 w1 ha; have HA := hQq ha; clear ha)
  obtain ⟨a6, cap6, rfl⟩ := HA.out.own.form
  go_ret
  exact ⟨⟨_, _, _, rfl, HA.out.own⟩, HA.out.below⟩
def stkF (t : List TrN) : Nat -> Nat -> List Nat
 | 0, _ => []
 | f + 1, i => if i = 0 then [0] else stkF t f (abv t i).toNat ++ [i]
def stkT (t : List TrN) (i : Nat) : List Nat := stkF t (i + 1) i
theorem stkF_eq (t : List TrN) : ∀ (i f f' : Nat), i < f -> i < f' -> stkF t f i = stkF t f' i := by
 intro i
 induction i using Nat.strongRecOn with
 | ind i ih =>
  intro f f' h h'
  obtain ⟨g, rfl⟩ : ∃ g, f = g + 1 := ⟨f - 1, by omega⟩
  obtain ⟨g', rfl⟩ : ∃ g, f' = g + 1 := ⟨f' - 1, by omega⟩
  unfold stkF
  by_cases e : i = 0
  ·rw [if_pos e, if_pos e]
  ·rw [if_neg e, if_neg e]
   have := abv_bd t i
   rw [ih (abv t i).toNat (by omega) g g' (by omega) (by omega)]
theorem stkT_zero (t : List TrN) : stkT t 0 = [0] := rfl
theorem stkT_succ (t : List TrN) (i : Nat) (h : i ≠ 0) : stkT t i = stkT t (abv t i).toNat ++ [i] := by
 have := abv_bd t i
 show stkF t (i + 1) i = _
 rw [stkF.eq_2, if_neg h]
 unfold stkT
 rw [stkF_eq t (abv t i).toNat i ((abv t i).toNat + 1) (by omega) (by omega)]
theorem stkT_last (t : List TrN) (i : Nat) : (stkT t i).getLast? = some i := by
 by_cases h : i = 0
 ·subst h; rfl
 ·rw [stkT_succ t i h]; simp
theorem abvE_skip {t : List TrN} {d d' : Int} (hd : d <= d') : ∀ n, abvE t d n = abvE t d ((abvE t d' n) + 1).toNat
 | 0 => rfl
 | n + 1 => by
  by_cases e : (getT t n).dep < d'
  ·rw [abvE.eq_2 t d', if_pos e]; rfl
  ·rw [abvE.eq_2 t d', if_neg e, abvE.eq_2 t d, if_neg (by omega)]
   exact abvE_skip hd n
theorem dep_step {t : List TrN} {k i : Nat} (h : AllOk t k) (hi : i < k) (h0 : i ≠ 0) : 1 <= (getT t i).dep /\ (getT t i).dep <= (getT t (i - 1)).dep + 1 := by
 obtain ⟨si, _⟩ := node_parts (h i hi)
 have h2 := (shape_bd si).2.2.2 h0
 refine ⟨h2.1, Int.le_trans h2.2 ?_⟩
 unfold mostD; split <;> omega
theorem dep_zero {t : List TrN} {k : Nat} (h : AllOk t k) (hk : 0 < k) : (getT t 0).dep = 0 := by
 obtain ⟨s0, _⟩ := node_parts (h 0 hk)
 exact ((shape_bd s0).2.2.1 rfl).1
theorem abvE_dep {t : List TrN} {k : Nat} (h : AllOk t k) (d : Int) (hd : 1 <= d) : ∀ n, 0 < n -> n <= k -> d <= (getT t (n - 1)).dep + 1 -> 0 <= abvE t d n /\ (getT t (abvE t d n).toNat).dep = d - 1
 | n + 1, _, hn, hp => by
  unfold abvE
  rw [Nat.add_sub_cancel] at hp
  by_cases e : (getT t n).dep < d
  ·rw [if_pos e]; exact ⟨by omega, by rw [Int.toNat_natCast]; omega⟩
  ·rw [if_neg e]
   have hn0 : n ≠ 0 := by rintro rfl; have := dep_zero h (by omega); omega
   have := dep_step h (i := n) (by omega) hn0
   exact abvE_dep h d hd n (by omega) (by omega) (by omega)
theorem abv_dep {t : List TrN} {k i : Nat} (h : AllOk t k) (hi : i < k) (h0 : i ≠ 0) : 0 <= abv t i /\ (getT t (abv t i).toNat).dep = (getT t i).dep - 1 := by
 have := dep_step h hi h0
 exact abvE_dep h _ this.1 i (by omega) (by omega) this.2
theorem len_is {t : List TrN} {k : Nat} (h : AllOk t k) : ∀ i, i < k -> ((stkT t i).length : Int) = (getT t i).dep + 1 /\ ((pathT t i).length : Int) = (getT t i).dep := by
 intro i
 induction i using Nat.strongRecOn with
 | ind i ih =>
  intro hi
  by_cases h0 : i = 0
  ·subst h0; have := dep_zero h hi; rw [stkT_zero, pathT_zero, this]; exact ⟨rfl, rfl⟩
  ·have hb := abv_bd t i
   obtain ⟨h1, h2⟩ := abv_dep h hi h0
   obtain ⟨h3, h4⟩ := ih (abv t i).toNat (by omega) (by omega)
   rw [stkT_succ t i h0, pathT_succ t i h0, List.length_append, List.length_append, List.length_singleton, List.length_singleton]
   omega
theorem stk_take {t : List TrN} {k : Nat} (h : AllOk t k) (d : Nat) (hd : 1 <= d) : ∀ j, j < k -> (d : Int) <= (getT t j).dep + 1 ->
  (stkT t j).take d = stkT t (abvE t d (j + 1)).toNat /\ (pathT t j).take (d - 1) = pathT t (abvE t d (j + 1)).toNat := by
 intro j
 induction j using Nat.strongRecOn with
 | ind j ih =>
  intro hj hdj
  obtain ⟨l1, l2⟩ := len_is h j hj
  by_cases e : (getT t j).dep < (d : Int)
  ·have h1 : abvE t d (j + 1) = j := by unfold abvE; rw [if_pos e]
   rw [h1, Int.toNat_natCast, List.take_of_length_le (by omega), List.take_of_length_le (by omega)]
   exact ⟨rfl, rfl⟩
  ·have h0 : j ≠ 0 := by rintro rfl; have := dep_zero h hj; omega
   have hb := abv_bd t j
   obtain ⟨h1, h2⟩ := abv_dep h hj h0
   obtain ⟨l3, l4⟩ := len_is h (abv t j).toNat (by omega)
   have h3 : abvE t d (j + 1) = abvE t d ((abv t j).toNat + 1) := by
    rw [abvE.eq_2, if_neg e, abvE_skip (d' := (getT t j).dep) (by omega) j]
    show abvE t d (abv t j + 1).toNat = _
    rw [show (abv t j + 1).toNat = (abv t j).toNat + 1 by omega]
   rw [h3, stkT_succ t j h0, pathT_succ t j h0, List.take_append_of_le_length (by omega), List.take_append_of_le_length (by omega)]
   exact ih (abv t j).toNat (by omega) (by omega) (by omega)
theorem stk_step {t : List TrN} {k i : Nat} (h : AllOk t k) (hi : i < k) (h0 : i ≠ 0) :
  (stkT t (i - 1)).take (getT t i).dep.toNat ++ [i] = stkT t i /\ (pathT t (i - 1)).take ((getT t i).dep.toNat - 1) ++ [(getT t i).nm] = pathT t i /\
  (getT t i).dep.toNat <= (stkT t (i - 1)).length /\ (getT t i).dep.toNat - 1 <= (pathT t (i - 1)).length /\ ((stkT t (i - 1)).take (getT t i).dep.toNat).getLast? = some (abv t i).toNat := by
 have hs := dep_step h hi h0
 obtain ⟨l1, l2⟩ := len_is h (i - 1) (by omega)
 have hdt : (((getT t i).dep.toNat : Nat) : Int) = (getT t i).dep := by omega
 obtain ⟨h1, h2⟩ := stk_take h (getT t i).dep.toNat (by omega) (i - 1) (by omega) (by omega)
 rw [hdt, Nat.sub_add_cancel (by omega)] at h1 h2
 rw [h1, h2, stkT_succ t i h0, pathT_succ t i h0]
 exact ⟨rfl, rfl, by omega, by omega, stkT_last _ _⟩
def getE (l : List DeN) (i : Nat) : DeN := l.getD i zDeN
theorem getE_at (l : List DeN) (i : Nat) (h : i < l.length) : getE l i = l[i]'h := by unfold getE; simp [List.getD, h]
def rootN : TrN := { zTrN with kd := 1 }
def soloW : ByteArray := ofL [110]
def soloN (x : TrN) : TrN := { x with dep := 1, nm := soloW, cl := 0 }
def soloE (x : TrN) : Int := treeE [rootN, soloN x]
def markB (o : Bool) (x : DeN) : Bool :=
 ((x.nd.kd == 1) && (decide (0 < x.nd.ats.length) || decide (0 < x.nd.cl))) || ((x.nd.kd == 5) && (decide (0 < x.nd.cl) || o)) || (x.wh != (x.nd.kd == 5)) || (!x.fi && (x.ns == 1))
def entX (o : Bool) (last : ByteArray) (x : DeN) : Int :=
 if nameE (L x.nm) ≠ 0 then nameE (L x.nm)
 else if x.nm = last then 8
 else if L x.nm < L last \/ x.nd.dep ≠ 0 \/ ¬ x.nd.nm.toList = [] then 6
 else if soloE x.nd ≠ 0 then soloE x.nd
 else if x.nd.cl < 0 \/ (0 < x.nd.cl /\ x.ns <= 1) \/ (x.nd.cl <= 0 /\ 1 < x.ns) then 6
 else if x.ns < 1 then 7
 else if markB o x = true then 6 else 0
theorem entX_name {o : Bool} {z : ByteArray} {x : DeN} (h : nameE (L x.nm) ≠ 0) : entX o z x = nameE (L x.nm) := if_pos h
theorem entX_dup {o : Bool} {z : ByteArray} {x : DeN} (h : nameE (L x.nm) = 0) (h1 : x.nm = z) : entX o z x = 8 := by unfold entX; rw [if_neg (by simp [h]), if_pos h1]
theorem entX_ord {o : Bool} {z : ByteArray} {x : DeN} (h : nameE (L x.nm) = 0) (h1 : ¬ x.nm = z) (h2 : L x.nm < L z \/ x.nd.dep ≠ 0 \/ ¬ x.nd.nm.toList = []) : entX o z x = 6 := by
 unfold entX; rw [if_neg (by simp [h]), if_neg h1, if_pos h2]
theorem entX_solo {o : Bool} {z : ByteArray} {x : DeN} (h : nameE (L x.nm) = 0) (h1 : ¬ x.nm = z) (h2 : ¬ L x.nm < L z) (h3 : x.nd.dep = 0) (h4 : x.nd.nm.toList = []) (h5 : soloE x.nd ≠ 0) : entX o z x = soloE x.nd := by
 unfold entX; rw [if_neg (by simp [h]), if_neg h1, if_neg (by simp [h2, h3, h4]), if_pos h5]
def restX (o : Bool) (x : DeN) : Int :=
 if x.nd.cl < 0 \/ (0 < x.nd.cl /\ x.ns <= 1) \/ (x.nd.cl <= 0 /\ 1 < x.ns) then 6
 else if x.ns < 1 then 7
 else if markB o x = true then 6 else 0
theorem entX_rest {o : Bool} {z : ByteArray} {x : DeN} (h : nameE (L x.nm) = 0) (h1 : ¬ x.nm = z) (h2 : ¬ L x.nm < L z) (h3 : x.nd.dep = 0) (h4 : x.nd.nm.toList = []) (h5 : soloE x.nd = 0) : entX o z x = restX o x := by
 unfold entX restX; rw [if_neg (by simp [h]), if_neg h1, if_neg (by simp [h2, h3, h4]), if_neg (by simp [h5])]
def lastE (l : List DeN) (i : Nat) : ByteArray := if i = 0 then ⟨#[]⟩ else (getE l (i - 1)).nm
theorem lastE_succ (l : List DeN) (i : Nat) : lastE l (i + 1) = (getE l i).nm := rfl
def entE (o : Bool) (l : List DeN) (i : Nat) : Int := entX o (lastE l i) (getE l i)
def badX (o : Bool) (l : List DeN) (i : Nat) : Bool := entE o l i != 0
def dirT (d : DiN) : Int × Int :=
 if chkE d.ats ≠ 0 then (-1, chkE d.ats)
 else if d.opq = true /\ 0 < d.red.length then (-1, 6)
 else if pathE d.red ≠ 0 then (-1, pathE d.red)
 else if 24 < d.ens.length then (-1, 3)
 else match findB (badX d.opq d.ens) 0 d.ens.length with
  | some i => (i, entE d.opq d.ens i)
  | none => (0, 0)
def dirN (d : DiN) : Int := (dirT d).1
def dirE (d : DiN) : Int := (dirT d).2
theorem dir_of {d : DiN} {a b : Int} (h : dirT d = (a, b)) : dirN d = a /\ dirE d = b := by unfold dirN dirE; rw [h]; exact ⟨rfl, rfl⟩
theorem dirT_ats {d : DiN} (h : chkE d.ats ≠ 0) : dirT d = (-1, chkE d.ats) := if_pos h
theorem dirT_both {d : DiN} (h : chkE d.ats = 0) (h1 : d.opq = true) (h2 : 0 < d.red.length) : dirT d = (-1, 6) := by unfold dirT; rw [if_neg (by simp [h]), if_pos ⟨h1, h2⟩]
theorem dirT_path {d : DiN} (h : chkE d.ats = 0) (h1 : ¬ (d.opq = true /\ 0 < d.red.length)) (h2 : pathE d.red ≠ 0) : dirT d = (-1, pathE d.red) := by unfold dirT; rw [if_neg (by simp [h]), if_neg h1, if_pos h2]
theorem dirT_long {d : DiN} (h : chkE d.ats = 0) (h1 : ¬ (d.opq = true /\ 0 < d.red.length)) (h2 : pathE d.red = 0) (h3 : 24 < d.ens.length) : dirT d = (-1, 3) := by unfold dirT; rw [if_neg (by simp [h]), if_neg h1, if_neg (by simp [h2]), if_pos h3]
theorem dirT_ent {d : DiN} (h : chkE d.ats = 0) (h1 : ¬ (d.opq = true /\ 0 < d.red.length)) (h2 : pathE d.red = 0) (h3 : ¬ 24 < d.ens.length) {i : Nat} (hi : i < d.ens.length) (hl : ∀ j, j < i -> entE d.opq d.ens j = 0) (he : entE d.opq d.ens i ≠ 0) : dirT d = ((i : Int), entE d.opq d.ens i) := by
 unfold dirT; rw [if_neg (by simp [h]), if_neg h1, if_neg (by simp [h2]), if_neg h3, findB_some d.ens.length 0 i (Nat.zero_le _) (by omega) (fun j _ hj => by unfold badX; rw [hl j hj]; rfl) (show badX d.opq d.ens i = true from bne_iff_ne.2 he)]
theorem dirT_ok {d : DiN} (h : chkE d.ats = 0) (h1 : ¬ (d.opq = true /\ 0 < d.red.length)) (h2 : pathE d.red = 0) (h3 : ¬ 24 < d.ens.length) (hl : ∀ j, j < d.ens.length -> entE d.opq d.ens j = 0) : dirT d = (0, 0) := by
 unfold dirT; rw [if_neg (by simp [h]), if_neg h1, if_neg (by simp [h2]), if_neg h3, findB_none d.ens.length 0 (fun j _ hj => by unfold badX; rw [hl j (by omega)]; rfl)]
theorem dirE_zero {d : DiN} (h : dirE d = 0) : dirN d = 0 /\ chkE d.ats = 0 /\ ¬ (d.opq = true /\ 0 < d.red.length) /\ pathE d.red = 0 /\ d.ens.length <= 24 /\ ∀ j, j < d.ens.length -> entE d.opq d.ens j = 0 := by
 unfold dirE dirN dirT at *
 by_cases h0 : chkE d.ats ≠ 0
 ·rw [if_pos h0] at h; exact absurd h h0
 rw [if_neg h0] at h ⊢
 by_cases h1 : d.opq = true /\ 0 < d.red.length
 ·rw [if_pos h1] at h; cases h
 rw [if_neg h1] at h ⊢
 by_cases h2 : pathE d.red ≠ 0
 ·rw [if_pos h2] at h; exact absurd h h2
 rw [if_neg h2] at h ⊢
 by_cases h3 : 24 < d.ens.length
 ·rw [if_pos h3] at h; cases h
 rw [if_neg h3] at h ⊢
 cases hf : findB (badX d.opq d.ens) 0 d.ens.length with
 | some i =>
  rw [hf] at h
  exact absurd h (bne_iff_ne.1 (findB_mem _ _ _ hf).1)
 | none => exact ⟨rfl, by omega, h1, by omega, by omega, fun j hj => bne_eq_false_iff_eq.1 (findB_none_iff _ _ hf j (Nat.zero_le _) (by omega))⟩
theorem ent_parts {o : Bool} {z : ByteArray} {x : DeN} (h : entX o z x = 0) : nameE (L x.nm) = 0 /\ ¬ x.nm = z /\ ¬ L x.nm < L z /\ x.nd.dep = 0 /\ x.nd.nm.toList = [] /\ soloE x.nd = 0 /\ 0 <= x.nd.cl /\ (0 < x.nd.cl ↔ 1 < x.ns) /\ 1 <= x.ns /\ markB o x = false := by
 unfold entX at h
 by_cases h1 : nameE (L x.nm) ≠ 0
 ·rw [if_pos h1] at h; exact absurd h h1
 rw [if_neg h1] at h
 by_cases h2 : x.nm = z
 ·rw [if_pos h2] at h; cases h
 rw [if_neg h2] at h
 by_cases h3 : L x.nm < L z \/ x.nd.dep ≠ 0 \/ ¬ x.nd.nm.toList = []
 ·rw [if_pos h3] at h; cases h
 rw [if_neg h3] at h
 by_cases h4 : soloE x.nd ≠ 0
 ·rw [if_pos h4] at h; exact absurd h h4
 rw [if_neg h4] at h
 by_cases h5 : x.nd.cl < 0 \/ (0 < x.nd.cl /\ x.ns <= 1) \/ (x.nd.cl <= 0 /\ 1 < x.ns)
 ·rw [if_pos h5] at h; cases h
 rw [if_neg h5] at h
 by_cases h6 : x.ns < 1
 ·rw [if_pos h6] at h; cases h
 rw [if_neg h6] at h
 by_cases h7 : markB o x = true
 ·rw [if_pos h7] at h; cases h
 have h3a : ¬ L x.nm < L z := fun e => h3 (.inl e)
 have h3b : x.nd.dep = 0 := Decidable.not_not.1 fun e => h3 (.inr (.inl e))
 have h3c : x.nd.nm.toList = [] := Decidable.not_not.1 fun e => h3 (.inr (.inr e))
 exact ⟨by omega, h2, h3a, h3b, h3c, by omega, by omega, by omega, by omega, Bool.eq_false_iff.2 h7⟩
theorem solo_chk {x : TrN} (h : soloE x = 0) : chkE x.ats = 0 :=
 (node_parts ((treeE_zero h).2.2.1 1 (by simp))).2.2.2.1
end Go.Proofs.YtimpejaaeinplaaGreatDoor
