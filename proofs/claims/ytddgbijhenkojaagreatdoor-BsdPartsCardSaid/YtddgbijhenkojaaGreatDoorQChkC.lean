/- The checker of a tree: 'class', walked. -/
import Derived.Test.YtddgbijhenkojaaGreatDoorQChkA
import Derived.StillTailTactics
namespace Go.Proofs.YtddgbijhenkojaaGreatDoor
open Go.RowKit

theorem mapT_first : Tryz.prog.underlying 103 = some (.map 3 30) := Tryz.underlying103
theorem mapT_count : Tryz.prog.underlying 104 = some (.map 3 3) := Tryz.underlying104
theorem keyInt : KeyT Tryz.prog 3 kI := keyT_int Tryz.underlying3
theorem zeroInt (w : World) : (zeroValue 3).run Tryz.prog w = .ok (.int .i64 0) w := by kernel_rfl
theorem zeroNode' {w : World} : (zeroValue 30).run Tryz.prog w = .ok cdT.z w := by kernel_rfl
theorem zeroNode (w : World) : (zeroValue 30).run Tryz.prog w = .ok cdT.z w := by kernel_rfl
theorem name_world {P : World → Prop} (W : World) (h : ∀ W', W' = W → P W') : P W := h W rfl
theorem MapAt.keepB {K : Type} {κ : K → Value} {w w' : World} {b n : Nat} {f : K → Option Value} (h : MapAt κ w b n f) (hk : ∀ o, w.heap[b]? = some o → w'.heap[b]? = some o) : MapAt κ w' b n f := by
  obtain ⟨es, c, hb, r⟩ := h; exact ⟨es, c, hk _ hb, r⟩
/-- What 'class' answers: m: the greatest class so far, lk: is the node like the first one of its class. -/
def classE (m : Int) (lk : Bool) (x : TrN) : Int :=
  if x.cl = 0 then 0 else if x.cl < 0 ∨ m + 1 < x.cl then 6 else if m < x.cl then 0 else if lk then 0 else 6
/-- What it leaves. -/
structure ClassOk (B : Nat) (w w' : World) (c m1 m2 : Nat) (vd : Value) (f : Bool) (m : Int) (F1 F2 : Int → Option Value) (x : TrN) (v : Value) (n : Nat) : Prop where
  ex : ∃ n1 n2 F1' F2', w'.heap[c]? = some (.cells #[vd, .bool f, .map (some m1), .map (some m2), .int .i64 (max m x.cl)] 107 (0, 0)) ∧ MapAt kI w' m1 n1 F1' ∧ MapAt kI w' m2 n2 F2' ∧
    F1' = (if m < x.cl then upd F1 x.cl v else F1) ∧ F2' = (if x.cl = 0 then F2 else upd F2 x.cl (.int .i64 ((n : Int) + 1)))
  keep : ∀ b o, w.heap[b]? = some o → b ≠ c → b ≠ m1 → b ≠ m2 → w'.heap[b]? = some o
def ClassP (B : Nat) (w : World) (c m1 m2 : Nat) (vd : Value) (f : Bool) (m : Int) (F1 F2 : Int → Option Value) (lk : Bool) (x : TrN) (v : Value) (n : Nat) (e : Ending) (w' : World) : Prop :=
  e = .returned (.int .i64 (classE m lk x)) ∧ Below B w w' ∧ (classE m lk x = 0 → ClassOk B w w' c m1 m2 vd f m F1 F2 x v n)
theorem classP_err {B : Nat} {w w' : World} {c m1 m2 : Nat} {vd : Value} {f : Bool} {m : Int} {F1 F2 : Int → Option Value} {lk : Bool} {x : TrN} {v : Value} {n : Nat} {r : Int} (h : classE m lk x = r) (hv : r ≠ 0) (hb : Below B w w') :
    ClassP B w c m1 m2 vd f m F1 F2 lk x v n (.returned (.int .i64 r)) w' := ⟨by rw [h], hb, fun h0 => absurd (h.symm.trans h0) hv⟩
set_option maxRecDepth 100000 in
set_option maxHeartbeats 8000000 in
theorem treeClass (B : Nat) (w : World) (c m1 m2 n1 n2 : Nat) (vd : Value) (f : Bool) (m : Int) (F1 F2 : Int → Option Value) (x y : TrN) (va vy : Value) (n : Nat)
    (hblk : w.heap[c]? = some (.cells #[vd, .bool f, .map (some m1), .map (some m2), .int .i64 m] 107 (0, 0))) (hM1 : MapAt kI w m1 n1 F1) (hM2 : MapAt kI w m2 n2 F2)
    (hBc : B ≤ c) (hB1 : B ≤ m1) (hB2 : B ≤ m2) (hBw : B ≤ w.heap.size) (h12 : m1 ≠ m2) (hm0 : 0 ≤ m) (hm1 : m ≤ 1000) (hn : n ≤ 1000)
    (hx : AttrsAt w va x.ats) (_hxl : x.ats.length ≤ 1000000) (hy : 0 < x.cl → x.cl ≤ m → F1 x.cl = some (trV y vy) ∧ AttrsAt w vy y.ats ∧ y.ats.length ≤ 1000000)
    (hc : 0 < x.cl → (F2 x.cl).getD (.int .i64 0) = .int .i64 n) :
    Calls Tryz.prog 105 #[.pointer (some ⟨c, 0, none⟩), trV x va] w (ClassP B w c m1 m2 vd f m F1 F2 (likeB y x) x (trV x va) n) := by
  have hcm1 : c ≠ m1 := by rintro rfl; obtain ⟨es, ck, h, _⟩ := hM1; rw [hblk] at h; cases h
  have hcm2 : c ≠ m2 := by rintro rfl; obtain ⟨es, ck, h, _⟩ := hM2; rw [hblk] at h; cases h
  obtain ⟨a3, cap3, rfl, hcap3, hxc⟩ := hx
  have HX : Hid (AttrsAt w (.slice a3 x.ats.length cap3) x.ats) := ⟨a3, cap3, rfl, hcap3, hxc⟩
  clear hxc
  have hcl := blk_lt hblk
  have k2 : w.cell? ⟨c, 2, none⟩ = some (.map (some m1)) := blk_cell hblk 2
  have k3 : w.cell? ⟨c, 3, none⟩ = some (.map (some m2)) := blk_cell hblk 3
  have k4 : w.cell? ⟨c, 4, none⟩ = some (.int .i64 m) := blk_cell hblk 4
  have fc : ∀ j, w.frozen? ⟨c, j, none⟩ = false := fun j => blk_thaw hblk j
  have HBK := Lib.hid hblk; have HM1 := Lib.hid hM1; have HM2 := Lib.hid hM2; have HY := Lib.hid hy; have HC := Lib.hid hc
  clear hblk hM1 hM2 hy hc
  unfold trV
  by_cases e0 : x.cl = 0
  · have HR : Hid (classE m (likeB y x) x = 0) := Lib.hid (if_pos e0)
    have HE0 := Lib.hid e0
    go_enter Tryz.func105, Tryz.ntmps105
    go_wp2
    go_ret
    refine ⟨by rw [HR.out]; rfl, (ext_alloc _ _).mono hBw, fun _ => ⟨⟨n1, n2, F1, F2, ?_, HM1.out.ext (ext_alloc _ _), HM2.out.ext (ext_alloc _ _), (if_neg (by rw [HE0.out]; omega)).symm, (if_pos HE0.out).symm⟩, fun b o h _ _ _ => blk_alloc h⟩⟩
    rw [HE0.out, show max m (0 : Int) = m by omega]; exact blk_alloc HBK.out
  have e0' : (x.cl == 0) = false := beq_eq_false_iff_ne.2 e0
  have hcz : c < w.heap.size + 1 := by omega
  by_cases e1 : x.cl < 0
  · have HR : Hid (classE m (likeB y x) x = 6) := Lib.hid ((if_neg e0).trans (if_pos (.inl e1)))
    clear e0
    go_enter Tryz.func105, Tryz.ntmps105
    go_wp2
    go_quiet (fail)
    go_wp2
    go_ret
    exact classP_err HR.out (by decide) (((ext_alloc _ _).trans (ext_drewN _ _)).mono hBw)
  have e1' : decide (x.cl < 0) = false := decide_eq_false e1
  by_cases e2 : m + 1 < x.cl
  · have HR : Hid (classE m (likeB y x) x = 6) := Lib.hid ((if_neg e0).trans (if_pos (.inr e2)))
    clear e0
    go_enter Tryz.func105, Tryz.ntmps105
    go_wp2
    go_quiet (fail)
    go_wp2
    go_ret
    exact classP_err HR.out (by decide) (((ext_alloc _ _).trans (ext_drewN _ _)).mono hBw)
  have HE0 := Lib.hid e0
  have HPOS : Hid (0 < x.cl) := by show _ < _; omega
  clear e0
  by_cases e3 : m < x.cl
  · have HR : Hid (classE m (likeB y x) x = 0) := Lib.hid ((if_neg HE0.out).trans ((if_neg (by omega)).trans (if_pos e3)))
    have HMX : Hid (max m x.cl = m + 1) := by show _ = _; omega
    have HE3 := Lib.hid e3
    go_enter Tryz.func105, Tryz.ntmps105
    go_wp2
    go_quiet (fail)
    go_wp2
    go_quiet (fail)
    go_wp2
    refine name_world (P := fun W => Code.wp _ _ _ _ W) _ ?_
    intro W0 hW0
    have TC0 : Hid (W0.heap[c]? = some (.cells #[vd, .bool f, .map (some m1), .map (some m2), .int .i64 (m + 1)] 107 (0, 0))) := Lib.hid (by rw [hW0, blk_setCell (blk_ext (by repeat (first | exact Below.refl _ _ | refine Ext.trans ?_ (ext_alloc _ _) | refine Ext.trans ?_ (ext_drewN _ _) | refine Ext.trans ?_ (ext_drew _))) HBK.out)]; rfl)
    have TX0 : Hid (W0.heap[w.heap.size]? = some (.cells #[.int .i64 x.dep, .string x.nm, .int .i64 x.kd, .slice a3 x.ats.length cap3, .string x.dat, .int .i64 x.ma, .int .i64 x.mi, .int .i64 x.cl] 30 (0, 0))) := Lib.hid (by rw [hW0]; exact blk_setCell_ne (blk_ext (by repeat (first | exact Below.refl _ _ | refine Ext.trans ?_ (ext_drewN _ _) | refine Ext.trans ?_ (ext_drew _))) (blk_new w _)) _ _ (fun e => by have e' : w.heap.size = c := e; omega))
    have TE0 : Hid (Below B w W0) := Lib.hid (by rw [hW0]; exact (Below.mono (by repeat (first | exact Below.refl _ _ | refine Ext.trans ?_ (ext_alloc _ _) | refine Ext.trans ?_ (ext_drewN _ _) | refine Ext.trans ?_ (ext_drew _))) hBw).setCell (p := ⟨c, 4, none⟩) hBc _)
    have TK0 : Hid (∀ b o, w.heap[b]? = some o → b ≠ c → W0.heap[b]? = some o) := Lib.hid (fun b o h1 h2 => by rw [hW0]; exact blk_setCell_ne (blk_ext (by repeat (first | exact Below.refl _ _ | refine Ext.trans ?_ (ext_alloc _ _) | refine Ext.trans ?_ (ext_drewN _ _) | refine Ext.trans ?_ (ext_drew _))) h1) _ _ h2)
    clear hW0
    have M1 : Hid (MapAt kI W0 m1 n1 F1) := Lib.hid (HM1.out.keepB (fun o h => TK0.out _ o h hcm1.symm))
    have M2 : Hid (MapAt kI W0 m2 n2 F2) := Lib.hid (HM2.out.keepB (fun o h => TK0.out _ o h hcm2.symm))
    have t2 : W0.cell? ⟨c, 2, none⟩ = some (.map (some m1)) := blk_cell TC0.out 2
    have t3 : W0.cell? ⟨w.heap.size, 0, none⟩ = some (.int .i64 x.dep) := blk_cell TX0.out 0
    have t4 : W0.cell? ⟨w.heap.size, 1, none⟩ = some (.string x.nm) := blk_cell TX0.out 1
    have t5 : W0.cell? ⟨w.heap.size, 2, none⟩ = some (.int .i64 x.kd) := blk_cell TX0.out 2
    have t6 : W0.cell? ⟨w.heap.size, 3, none⟩ = some (.slice a3 x.ats.length cap3) := blk_cell TX0.out 3
    have t7 : W0.cell? ⟨w.heap.size, 4, none⟩ = some (.string x.dat) := blk_cell TX0.out 4
    have t8 : W0.cell? ⟨w.heap.size, 5, none⟩ = some (.int .i64 x.ma) := blk_cell TX0.out 5
    have t9 : W0.cell? ⟨w.heap.size, 6, none⟩ = some (.int .i64 x.mi) := blk_cell TX0.out 6
    have t10 : W0.cell? ⟨w.heap.size, 7, none⟩ = some (.int .i64 x.cl) := blk_cell TX0.out 7
    go_still_tail 7, (by kernel_rfl)
    go_wp2_with (at_mapUpdate; refine wl_store rfl (.tmp 41) (.tmp 43) (.tmp 44) 103 rfl _ _ keyInt mapT_first rfl (by exact M1.out.ext (ext_drew _)) x.cl (.agg #[.int .i64 x.dep, .string x.nm, .int .i64 x.kd, .slice a3 x.ats.length cap3, .string x.dat, .int .i64 x.ma, .int .i64 x.mi, .int .i64 x.cl]) rfl rfl ?_; intro W hm4 hg4; have T1 := Lib.hid hm4; have HG3 := Lib.hid hg4; clear hm4 hg4)
    have TC : Hid (W.heap[c]? = some (.cells #[vd, .bool f, .map (some m1), .map (some m2), .int .i64 (max m x.cl)] 107 (0, 0))) := Lib.hid (by rw [HMX.out]; exact blk_grown HG3.out (blk_ext (ext_drew _) TC0.out) (fun e => hcm1 (by injection e with e; exact e.symm)))
    have TX := Lib.hid (blk_grown HG3.out (blk_ext (ext_drew _) TX0.out) (fun e => by injection e with e; exact absurd HM1.out.lt (by omega)))
    have T2 : Hid (MapAt kI W m2 n2 F2) := Lib.hid ((M2.out.ext (ext_drew _)).grown HG3.out (fun e => h12 (by injection e)))
    have TBW : Hid (B ≤ W.heap.size) := Lib.hid (Nat.le_trans hBw (Nat.le_trans TE0.out.size (Nat.le_trans (ext_drew W0).size HG3.out.size)))
    have TB : Hid (Below B w W) := Lib.hid (Below.grown (Below.trans TE0.out ((ext_drew _).mono (Nat.le_trans hBw TE0.out.size))) HG3.out (Nat.le_trans hBw (Nat.le_trans TE0.out.size (ext_drew _).size)) (fun k hk => by cases hk; exact hB1))
    have TK : Hid (∀ b o, w.heap[b]? = some o → b ≠ c → b ≠ m1 → W.heap[b]? = some o) := Lib.hid (fun b o h1 h2 h3 => blk_grown HG3.out (blk_ext (ext_drew _) (TK0.out b o h1 h2)) (fun e => h3 (by injection e with e; exact e.symm)))
    have TF : Hid (upd F1 x.cl (.agg #[.int .i64 x.dep, .string x.nm, .int .i64 x.kd, .slice a3 x.ats.length cap3, .string x.dat, .int .i64 x.ma, .int .i64 x.mi, .int .i64 x.cl]) = if m < x.cl then upd F1 x.cl (trV x (.slice a3 x.ats.length cap3)) else F1) := Lib.hid (by rw [if_pos HE3.out])
    have hlk : (Instr.lookup 104 (.map (some m2)) (.int .i64 x.cl) false).run Tryz.prog W.drew = .ok (.int .i64 n) W.drew := by
      have := (T2.out.ext (ext_drew W)).look keyInt mapT_count (zeroInt _) x.cl false
      rw [HC.out HPOS.out] at this; exact this
    have v3 : W.cell? ⟨c, 3, none⟩ = some (.map (some m2)) := blk_cell TC.out 3
    have v7 : W.cell? ⟨w.heap.size, 7, none⟩ = some (.int .i64 x.cl) := blk_cell TX.out 7
    have j9 : IntKind.i64.wrap ((n : Int) + 1) = (n : Int) + 1 := IntWalk.i64_in _ (by omega)
    go_wp2
    go_still_tail 8, (by kernel_rfl)
    go_wp2_with (at_mapUpdate; refine wl_store rfl (.tmp 59) (.tmp 61) (.tmp 63) 104 rfl _ _ keyInt mapT_count rfl (by exact T2.out.ext (ext_drew _)) x.cl (.int .i64 ((n : Int) + 1)) rfl rfl ?_; intro w4 hm4 hg4; have HM4 := Lib.hid hm4; have HG4 := Lib.hid hg4; clear hm4 hg4)
    go_ret
    refine ⟨by rw [HR.out]; rfl, Below.grown (Below.trans TB.out ((ext_drew _).mono TBW.out)) HG4.out (Nat.le_trans TBW.out (ext_drew _).size) (fun k hk => by cases hk; exact hB2), fun _ => ⟨⟨_, _, _, _, blk_grown HG4.out (blk_ext (ext_drew _) TC.out) (fun e => hcm2 (by injection e with e; exact e.symm)), (T1.out.ext (ext_drew _)).grown HG4.out (fun e => h12 (by injection e with e; exact e.symm)), HM4.out, TF.out, (if_neg HE0.out).symm⟩, fun b o h1 h2 h3 h4 => blk_grown HG4.out (blk_ext (ext_drew _) (TK.out b o h1 h2 h3)) (fun e => h4 (by injection e with e; exact e.symm))⟩⟩
  · have hle : x.cl ≤ m := by omega
    obtain ⟨y1, y2, y3⟩ := HY.out HPOS.out hle
    have HY1 := Lib.hid y1; have HY2 := Lib.hid y2; have HY3 := Lib.hid y3; clear y1 y2 y3
    have HE3 := Lib.hid e3
    have e3' : decide (m < x.cl) = false := decide_eq_false e3
    obtain ⟨a5, cap5, rfl, _⟩ := HY2.out
    cases hlk1 : likeB y x
    all_goals
      have HLK := Lib.hid hlk1
      go_enter Tryz.func105, Tryz.ntmps105
      go_wp2
      go_quiet (fail)
      go_wp2
      go_quiet (fail)
      go_wp2
      refine name_world (P := fun W => Code.wp _ _ _ _ W) _ ?_
      intro W0 hW0
      have TE0 : Hid (Ext w W0) := Lib.hid (by rw [hW0]; exact (by repeat (first | exact Below.refl _ _ | refine Ext.trans ?_ (ext_alloc _ _) | refine Ext.trans ?_ (ext_drewN _ _) | refine Ext.trans ?_ (ext_drew _))))
      have TX0 : Hid (W0.heap[w.heap.size]? = some (.cells #[.int .i64 x.dep, .string x.nm, .int .i64 x.kd, .slice a3 x.ats.length cap3, .string x.dat, .int .i64 x.ma, .int .i64 x.mi, .int .i64 x.cl] 30 (0, 0))) := Lib.hid (by rw [hW0]; exact blk_ext (by repeat (first | exact Below.refl _ _ | refine Ext.trans ?_ (ext_drewN _ _) | refine Ext.trans ?_ (ext_drew _))) (blk_new w _))
      clear hW0
      have M1 : Hid (MapAt kI W0 m1 n1 F1) := Lib.hid (HM1.out.ext TE0.out)
      have hlk : (Instr.lookup 103 (.map (some m1)) (.int .i64 x.cl) false).run Tryz.prog W0.drew = .ok (trV y (.slice a5 y.ats.length cap5)) W0.drew := by
        have := (M1.out.ext (ext_drew W0)).look keyInt mapT_first zeroNode' x.cl false
        rw [HY1.out] at this; exact this
      unfold trV at hlk
      have t2 : W0.cell? ⟨c, 2, none⟩ = some (.map (some m1)) := blk_cell (blk_ext TE0.out HBK.out) 2
      have t3 : W0.cell? ⟨w.heap.size, 0, none⟩ = some (.int .i64 x.dep) := blk_cell TX0.out 0
      have t4 : W0.cell? ⟨w.heap.size, 1, none⟩ = some (.string x.nm) := blk_cell TX0.out 1
      have t5 : W0.cell? ⟨w.heap.size, 2, none⟩ = some (.int .i64 x.kd) := blk_cell TX0.out 2
      have t6 : W0.cell? ⟨w.heap.size, 3, none⟩ = some (.slice a3 x.ats.length cap3) := blk_cell TX0.out 3
      have t7 : W0.cell? ⟨w.heap.size, 4, none⟩ = some (.string x.dat) := blk_cell TX0.out 4
      have t8 : W0.cell? ⟨w.heap.size, 5, none⟩ = some (.int .i64 x.ma) := blk_cell TX0.out 5
      have t9 : W0.cell? ⟨w.heap.size, 6, none⟩ = some (.int .i64 x.mi) := blk_cell TX0.out 6
      have t10 : W0.cell? ⟨w.heap.size, 7, none⟩ = some (.int .i64 x.cl) := blk_cell TX0.out 7
      go_still_tail 8, (by kernel_rfl)
      go_wp2_with (go_at_call 127; refine (treeLike y x _ _ _ (HY2.out.ext (TE0.out.trans (ext_drew _))) (HX.out.ext (TE0.out.trans (ext_drew _))) HY3.out).mono ?_; rintro e W ⟨rfl, hb⟩; rw [HLK.out]; have H3 := Lib.hid hb; clear hb)
    · have HR : Hid (classE m false x = 6) := Lib.hid ((if_neg HE0.out).trans ((if_neg (by omega)).trans ((if_neg (by have := HE3.out; omega)).trans (if_neg (by simp)))))
      go_ret
      exact classP_err HR.out (by decide) ((TE0.out.trans ((ext_drew _).trans H3.out)).mono hBw)
    · have HR : Hid (classE m true x = 0) := Lib.hid ((if_neg HE0.out).trans ((if_neg (by omega)).trans ((if_neg (by have := HE3.out; omega)).trans (if_pos rfl))))
      have TE1 : Hid (Ext W0 W) := Lib.hid ((ext_drew _).trans H3.out)
      have TC : Hid (W.heap[c]? = some (.cells #[vd, .bool f, .map (some m1), .map (some m2), .int .i64 (max m x.cl)] 107 (0, 0))) := Lib.hid (by rw [show max m x.cl = m by omega]; exact blk_ext (TE0.out.trans TE1.out) HBK.out)
      have TX := Lib.hid (blk_ext TE1.out TX0.out)
      have T1 : Hid (MapAt kI W m1 n1 F1) := Lib.hid (M1.out.ext TE1.out)
      have T2 : Hid (MapAt kI W m2 n2 F2) := Lib.hid (HM2.out.ext (TE0.out.trans TE1.out))
      have TBW : Hid (B ≤ W.heap.size) := Lib.hid (Nat.le_trans hBw (TE0.out.trans TE1.out).size)
      have TB : Hid (Below B w W) := Lib.hid ((TE0.out.trans TE1.out).mono hBw)
      have TK : Hid (∀ b o, w.heap[b]? = some o → b ≠ c → b ≠ m1 → W.heap[b]? = some o) := Lib.hid (fun b o h1 _ _ => blk_ext (TE0.out.trans TE1.out) h1)
      have TF : Hid (F1 = if m < x.cl then upd F1 x.cl (trV x (.slice a3 x.ats.length cap3)) else F1) := Lib.hid (by rw [if_neg (by have := HE3.out; omega)])
      clear hlk t2 t3 t4 t5 t6 t7 t8 t9 t10
      have hlq : (Instr.lookup 104 (.map (some m2)) (.int .i64 x.cl) false).run Tryz.prog W.drew = .ok (.int .i64 n) W.drew := by
        have := (T2.out.ext (ext_drew W)).look keyInt mapT_count (zeroInt _) x.cl false
        rw [HC.out HPOS.out] at this; exact this
      have v3 : W.cell? ⟨c, 3, none⟩ = some (.map (some m2)) := blk_cell TC.out 3
      have v7 : W.cell? ⟨w.heap.size, 7, none⟩ = some (.int .i64 x.cl) := blk_cell TX.out 7
      have j9 : IntKind.i64.wrap ((n : Int) + 1) = (n : Int) + 1 := IntWalk.i64_in _ (by omega)
      go_wp2
      go_still_tail 8, (by kernel_rfl)
      go_wp2_with (at_mapUpdate; refine wl_store rfl (.tmp 59) (.tmp 61) (.tmp 63) 104 rfl _ _ keyInt mapT_count rfl (by exact T2.out.ext (ext_drew _)) x.cl (.int .i64 ((n : Int) + 1)) rfl rfl ?_; intro w4 hm4 hg4; have HM4 := Lib.hid hm4; have HG4 := Lib.hid hg4; clear hm4 hg4)
      go_ret
      refine ⟨by rw [HR.out]; rfl, Below.grown (Below.trans TB.out ((ext_drew _).mono TBW.out)) HG4.out (Nat.le_trans TBW.out (ext_drew _).size) (fun k hk => by cases hk; exact hB2), fun _ => ⟨⟨_, _, _, _, blk_grown HG4.out (blk_ext (ext_drew _) TC.out) (fun e => hcm2 (by injection e with e; exact e.symm)), (T1.out.ext (ext_drew _)).grown HG4.out (fun e => h12 (by injection e with e; exact e.symm)), HM4.out, TF.out, (if_neg HE0.out).symm⟩, fun b o h1 h2 h3 h4 => blk_grown HG4.out (blk_ext (ext_drew _) (TK.out b o h1 h2 h3)) (fun e => h4 (by injection e with e; exact e.symm))⟩⟩
end Go.Proofs.YtddgbijhenkojaaGreatDoor
