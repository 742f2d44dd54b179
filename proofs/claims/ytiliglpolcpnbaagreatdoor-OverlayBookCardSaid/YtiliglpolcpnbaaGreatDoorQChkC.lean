/- The checker of a tree: 'class', walked. -/
/- The checker of a tree: its state, and 'node', walked. -/
import Derived.Test.YtiliglpolcpnbaaGreatDoorQChkA
import Derived.StillTailTactics
namespace Go.Proofs.YtiliglpolcpnbaaGreatDoor
open Go.RowKit

theorem mapT_first : Tryz.prog.underlying 129 = some (.map 3 43) := Tryz.underlying129
theorem mapT_count : Tryz.prog.underlying 69 = some (.map 3 3) := Tryz.underlying69
theorem keyInt : KeyT Tryz.prog 3 kI := keyT_int Tryz.underlying3
theorem zeroInt (w : World) : (zeroValue 3).run Tryz.prog w = .ok (.int .i64 0) w := by kernel_rfl
theorem zeroNode' {w : World} : (zeroValue 43).run Tryz.prog w = .ok cdT.z w := by kernel_rfl
theorem name_world {P : World → Prop} (W : World) (h : ∀ W', W' = W → P W') : P W := h W rfl
theorem MapAt.keepB {K : Type} {κ : K → Value} {w w' : World} {b n : Nat} {f : K → Option Value} (h : MapAt κ w b n f) (hk : ∀ o, w.heap[b]? = some o → w'.heap[b]? = some o) : MapAt κ w' b n f := by
  obtain ⟨es, c, hb, r⟩ := h; exact ⟨es, c, hk _ hb, r⟩
/-- What 'class' answers: m: the greatest class so far, lk: is the node like the first one of its class. -/
def classE (m : Int) (lk : Bool) (x : TrN) : Int :=
  if x.cl = 0 then 0 else if x.cl < 0 ∨ m + 1 < x.cl then 6 else if m < x.cl then 0 else if lk then 0 else 6
/-- What it leaves. -/
structure ClassOk (B : Nat) (w w' : World) (c m1 m2 : Nat) (vd : Value) (f : Bool) (m : Int) (F1 F2 : Int → Option Value) (x : TrN) (v : Value) (n : Nat) : Prop where
  ex : ∃ n1 n2 F1' F2', w'.heap[c]? = some (.cells #[vd, .bool f, .map (some m1), .map (some m2), .int .i64 (max m x.cl)] 132 (0, 0)) ∧ MapAt kI w' m1 n1 F1' ∧ MapAt kI w' m2 n2 F2' ∧
    F1' = (if m < x.cl then upd F1 x.cl v else F1) ∧ F2' = (if x.cl = 0 then F2 else upd F2 x.cl (.int .i64 ((n : Int) + 1)))
  keep : ∀ b o, w.heap[b]? = some o → b ≠ c → b ≠ m1 → b ≠ m2 → w'.heap[b]? = some o
def ClassP (B : Nat) (w : World) (c m1 m2 : Nat) (vd : Value) (f : Bool) (m : Int) (F1 F2 : Int → Option Value) (lk : Bool) (x : TrN) (v : Value) (n : Nat) (e : Ending) (w' : World) : Prop :=
  e = .returned (.int .i64 (classE m lk x)) ∧ Below B w w' ∧ (classE m lk x = 0 → ClassOk B w w' c m1 m2 vd f m F1 F2 x v n)
theorem classP_err {B : Nat} {w w' : World} {c m1 m2 : Nat} {vd : Value} {f : Bool} {m : Int} {F1 F2 : Int → Option Value} {lk : Bool} {x : TrN} {v : Value} {n : Nat} {r : Int} (h : classE m lk x = r) (hv : r ≠ 0) (hb : Below B w w') :
    ClassP B w c m1 m2 vd f m F1 F2 lk x v n (.returned (.int .i64 r)) w' := ⟨by rw [h], hb, fun h0 => absurd (h.symm.trans h0) hv⟩
set_option maxRecDepth 100000 in
set_option maxHeartbeats 8000000 in
theorem treeClass (B : Nat) (w : World) (c m1 m2 n1 n2 : Nat) (vd : Value) (f : Bool) (m : Int) (F1 F2 : Int → Option Value) (x y : TrN) (va vy : Value) (n : Nat)
    (hblk : w.heap[c]? = some (.cells #[vd, .bool f, .map (some m1), .map (some m2), .int .i64 m] 132 (0, 0))) (hM1 : MapAt kI w m1 n1 F1) (hM2 : MapAt kI w m2 n2 F2)
    (hBc : B ≤ c) (hB1 : B ≤ m1) (hB2 : B ≤ m2) (hBw : B ≤ w.heap.size) (h12 : m1 ≠ m2) (hm0 : 0 ≤ m) (hm1 : m ≤ 1000) (hn : n ≤ 1000)
    (hx : AttrsAt w va x.ats) (_hxl : x.ats.length ≤ 1000000) (hy : 0 < x.cl → x.cl ≤ m → F1 x.cl = some (trV y vy) ∧ AttrsAt w vy y.ats ∧ y.ats.length ≤ 1000000)
    (hc : 0 < x.cl → (F2 x.cl).getD (.int .i64 0) = .int .i64 n) :
    Calls Tryz.prog 132 #[.pointer (some ⟨c, 0, none⟩), trV x va] w (ClassP B w c m1 m2 vd f m F1 F2 (likeB y x) x (trV x va) n) := by
  have hcm1 : c ≠ m1 := by rintro rfl; obtain ⟨es, ck, h, _⟩ := hM1; rw [hblk] at h; cases h
  have hcm2 : c ≠ m2 := by rintro rfl; obtain ⟨es, ck, h, _⟩ := hM2; rw [hblk] at h; cases h
  obtain ⟨a3, cap3, rfl, hcap3, hxc⟩ := hx
  have HX : Hid (AttrsAt w (.slice a3 x.ats.length cap3) x.ats) := ⟨a3, cap3, rfl, hcap3, hxc⟩
  clear hxc
  have hcl := blk_lt hblk
  have k2 : w.cell? ⟨c, 2, none⟩ = some (.map (some m1)) := blk_cell hblk 2
  have k3 : w.cell? ⟨c, 3, none⟩ = some (.map (some m2)) := blk_cell hblk 3
  have k4 : w.cell? ⟨c, 4, none⟩ = some (.int .i64 m) := blk_cell hblk 4
  have fc : ∀ j, w.frozen? ⟨c, j, none⟩ = false := fun j => blk_thaw hblk j
  have HBK := Lib.hid hblk; have HM1 := Lib.hid hM1; have HM2 := Lib.hid hM2; have HY := Lib.hid hy; have HC := Lib.hid hc
  clear hblk hM1 hM2 hy hc
  unfold trV
  by_cases e0 : x.cl = 0
  · have HR : Hid (classE m (likeB y x) x = 0) := Lib.hid (if_pos e0)
    have HE0 := Lib.hid e0
    go_enter Tryz.func132, Tryz.ntmps132
    go_wp2
    go_ret
    refine ⟨by rw [HR.out]; rfl, (ext_alloc _ _).mono hBw, fun _ => ⟨⟨n1, n2, F1, F2, ?_, HM1.out.ext (ext_alloc _ _), HM2.out.ext (ext_alloc _ _), (if_neg (by rw [HE0.out]; omega)).symm, (if_pos HE0.out).symm⟩, fun b o h _ _ _ => blk_alloc h⟩⟩
    rw [HE0.out, show max m (0 : Int) = m by omega]; exact blk_alloc HBK.out
  have e0' : (x.cl == 0) = false := beq_eq_false_iff_ne.2 e0
  have hcz : c < w.heap.size + 1 := by omega
  by_cases e1 : x.cl < 0
  · have HR : Hid (classE m (likeB y x) x = 6) := Lib.hid ((if_neg e0).trans (if_pos (.inl e1)))
    clear e0
    go_enter Tryz.func132, Tryz.ntmps132
    go_wp2
    go_quiet (fail)
    go_wp2
    go_ret
    exact classP_err HR.out (by decide) (((ext_alloc _ _).trans (ext_drewN _ _)).mono hBw)
  have e1' : decide (x.cl < 0) = false := decide_eq_false e1
  by_cases e2 : m + 1 < x.cl
  · have HR : Hid (classE m (likeB y x) x = 6) := Lib.hid ((if_neg e0).trans (if_pos (.inr e2)))
    clear e0
    go_enter Tryz.func132, Tryz.ntmps132
    go_wp2
    go_quiet (fail)
    go_wp2
    go_ret
    exact classP_err HR.out (by decide) (((ext_alloc _ _).trans (ext_drewN _ _)).mono hBw)
  have HE0 := Lib.hid e0
  have HPOS : Hid (0 < x.cl) := by show _ < _; omega
  clear e0
  by_cases e3 : m < x.cl
  · have HR : Hid (classE m (likeB y x) x = 0) := Lib.hid ((if_neg HE0.out).trans ((if_neg (by omega)).trans (if_pos e3)))
    have HMX : Hid (max m x.cl = m + 1) := by show _ = _; omega
    have HE3 := Lib.hid e3
    go_enter Tryz.func132, Tryz.ntmps132
    go_wp2
    go_quiet (fail)
    go_wp2
    go_quiet (fail)
    go_wp2
    refine name_world (P := fun W => Code.wp _ _ _ _ W) _ ?_
    intro W0 hW0
    have TC0 : Hid (W0.heap[c]? = some (.cells #[vd, .bool f, .map (some m1), .map (some m2), .int .i64 (m + 1)] 132 (0, 0))) := Lib.hid (by rw [hW0, blk_setCell (blk_ext (by repeat (first | exact Below.refl _ _ | refine Ext.trans ?_ (ext_alloc _ _) | refine Ext.trans ?_ (ext_drewN _ _) | refine Ext.trans ?_ (ext_drew _))) HBK.out)]; rfl)
    have TX0 : Hid (W0.heap[w.heap.size]? = some (.cells #[.int .i64 x.dep, .string x.nm, .int .i64 x.kd, .slice a3 x.ats.length cap3, .string x.dat, .int .i64 x.ma, .int .i64 x.mi, .int .i64 x.cl] 43 (0, 0))) := Lib.hid (by rw [hW0]; exact blk_setCell_ne (blk_ext (by repeat (first | exact Below.refl _ _ | refine Ext.trans ?_ (ext_drewN _ _) | refine Ext.trans ?_ (ext_drew _))) (blk_new w _)) _ _ (fun e => by have e' : w.heap.size = c := e; omega))
    have TE0 : Hid (Below B w W0) := Lib.hid (by rw [hW0]; exact (Below.mono (by repeat (first | exact Below.refl _ _ | refine Ext.trans ?_ (ext_alloc _ _) | refine Ext.trans ?_ (ext_drewN _ _) | refine Ext.trans ?_ (ext_drew _))) hBw).setCell (p := ⟨c, 4, none⟩) hBc _)
    have TK0 : Hid (∀ b o, w.heap[b]? = some o → b ≠ c → W0.heap[b]? = some o) := Lib.hid (fun b o h1 h2 => by rw [hW0]; exact blk_setCell_ne (blk_ext (by repeat (first | exact Below.refl _ _ | refine Ext.trans ?_ (ext_alloc _ _) | refine Ext.trans ?_ (ext_drewN _ _) | refine Ext.trans ?_ (ext_drew _))) h1) _ _ h2)
    clear hW0
    have M1 : Hid (MapAt kI W0 m1 n1 F1) := Lib.hid (HM1.out.keepB (fun o h => TK0.out _ o h hcm1.symm))
    have M2 : Hid (MapAt kI W0 m2 n2 F2) := Lib.hid (HM2.out.keepB (fun o h => TK0.out _ o h hcm2.symm))
    have t2 : W0.cell? ⟨c, 2, none⟩ = some (.map (some m1)) := blk_cell TC0.out 2
    have t3 : W0.cell? ⟨w.heap.size, 0, none⟩ = some (.int .i64 x.dep) := blk_cell TX0.out 0
    have t4 : W0.cell? ⟨w.heap.size, 1, none⟩ = some (.string x.nm) := blk_cell TX0.out 1
    have t5 : W0.cell? ⟨w.heap.size, 2, none⟩ = some (.int .i64 x.kd) := blk_cell TX0.out 2
    have t6 : W0.cell? ⟨w.heap.size, 3, none⟩ = some (.slice a3 x.ats.length cap3) := blk_cell TX0.out 3
    have t7 : W0.cell? ⟨w.heap.size, 4, none⟩ = some (.string x.dat) := blk_cell TX0.out 4
    have t8 : W0.cell? ⟨w.heap.size, 5, none⟩ = some (.int .i64 x.ma) := blk_cell TX0.out 5
    have t9 : W0.cell? ⟨w.heap.size, 6, none⟩ = some (.int .i64 x.mi) := blk_cell TX0.out 6
    have t10 : W0.cell? ⟨w.heap.size, 7, none⟩ = some (.int .i64 x.cl) := blk_cell TX0.out 7
    go_still_tail 7, (by kernel_rfl)
    go_wp2_with (at_mapUpdate; refine wl_store rfl (.tmp 41) (.tmp 43) (.tmp 44) 129 rfl _ _ keyInt mapT_first rfl (by exact M1.out.ext (ext_drew _)) x.cl (.agg #[.int .i64 x.dep, .string x.nm, .int .i64 x.kd, .slice a3 x.ats.length cap3, .string x.dat, .int .i64 x.ma, .int .i64 x.mi, .int .i64 x.cl]) rfl rfl ?_; intro W hm4 hg4; have T1 := Lib.hid hm4; have HG3 := Lib.hid hg4; clear hm4 hg4)
    have TC : Hid (W.heap[c]? = some (.cells #[vd, .bool f, .map (some m1), .map (some m2), .int .i64 (max m x.cl)] 132 (0, 0))) := Lib.hid (by rw [HMX.out]; exact blk_grown HG3.out (blk_ext (ext_drew _) TC0.out) (fun e => hcm1 (by injection e with e; exact e.symm)))
    have TX := Lib.hid (blk_grown HG3.out (blk_ext (ext_drew _) TX0.out) (fun e => by injection e with e; exact absurd HM1.out.lt (by omega)))
    have T2 : Hid (MapAt kI W m2 n2 F2) := Lib.hid ((M2.out.ext (ext_drew _)).grown HG3.out (fun e => h12 (by injection e)))
    have TBW : Hid (B ≤ W.heap.size) := Lib.hid (Nat.le_trans hBw (Nat.le_trans TE0.out.size (Nat.le_trans (ext_drew W0).size HG3.out.size)))
    have TB : Hid (Below B w W) := Lib.hid (Below.grown (Below.trans TE0.out ((ext_drew _).mono (Nat.le_trans hBw TE0.out.size))) HG3.out (Nat.le_trans hBw (Nat.le_trans TE0.out.size (ext_drew _).size)) (fun k hk => by cases hk; exact hB1))
    have TK : Hid (∀ b o, w.heap[b]? = some o → b ≠ c → b ≠ m1 → W.heap[b]? = some o) := Lib.hid (fun b o h1 h2 h3 => blk_grown HG3.out (blk_ext (ext_drew _) (TK0.out b o h1 h2)) (fun e => h3 (by injection e with e; exact e.symm)))
    have TF : Hid (upd F1 x.cl (.agg #[.int .i64 x.dep, .string x.nm, .int .i64 x.kd, .slice a3 x.ats.length cap3, .string x.dat, .int .i64 x.ma, .int .i64 x.mi, .int .i64 x.cl]) = if m < x.cl then upd F1 x.cl (trV x (.slice a3 x.ats.length cap3)) else F1) := Lib.hid (by rw [if_pos HE3.out])
    have hlk : (Instr.lookup 69 (.map (some m2)) (.int .i64 x.cl) false).run Tryz.prog W.drew = .ok (.int .i64 n) W.drew := by
      have := (T2.out.ext (ext_drew W)).look keyInt mapT_count (zeroInt _) x.cl false
      rw [HC.out HPOS.out] at this; exact this
    have v3 : W.cell? ⟨c, 3, none⟩ = some (.map (some m2)) := blk_cell TC.out 3
    have v7 : W.cell? ⟨w.heap.size, 7, none⟩ = some (.int .i64 x.cl) := blk_cell TX.out 7
    have j9 : IntKind.i64.wrap ((n : Int) + 1) = (n : Int) + 1 := IntWalk.i64_in _ (by omega)
    go_wp2
    go_still_tail 8, (by kernel_rfl)
    go_wp2_with (at_mapUpdate; refine wl_store rfl (.tmp 59) (.tmp 61) (.tmp 63) 69 rfl _ _ keyInt mapT_count rfl (by exact T2.out.ext (ext_drew _)) x.cl (.int .i64 ((n : Int) + 1)) rfl rfl ?_; intro w4 hm4 hg4; have HM4 := Lib.hid hm4; have HG4 := Lib.hid hg4; clear hm4 hg4)
    go_ret
    refine ⟨by rw [HR.out]; rfl, Below.grown (Below.trans TB.out ((ext_drew _).mono TBW.out)) HG4.out (Nat.le_trans TBW.out (ext_drew _).size) (fun k hk => by cases hk; exact hB2), fun _ => ⟨⟨_, _, _, _, blk_grown HG4.out (blk_ext (ext_drew _) TC.out) (fun e => hcm2 (by injection e with e; exact e.symm)), (T1.out.ext (ext_drew _)).grown HG4.out (fun e => h12 (by injection e with e; exact e.symm)), HM4.out, TF.out, (if_neg HE0.out).symm⟩, fun b o h1 h2 h3 h4 => blk_grown HG4.out (blk_ext (ext_drew _) (TK.out b o h1 h2 h3)) (fun e => h4 (by injection e with e; exact e.symm))⟩⟩
  · have hle : x.cl ≤ m := by omega
    obtain ⟨y1, y2, y3⟩ := HY.out HPOS.out hle
    have HY1 := Lib.hid y1; have HY2 := Lib.hid y2; have HY3 := Lib.hid y3; clear y1 y2 y3
    have HE3 := Lib.hid e3
    have e3' : decide (m < x.cl) = false := decide_eq_false e3
    obtain ⟨a5, cap5, rfl, _⟩ := HY2.out
    cases hlk1 : likeB y x
    all_goals
      have HLK := Lib.hid hlk1
      go_enter Tryz.func132, Tryz.ntmps132
      go_wp2
      go_quiet (fail)
      go_wp2
      go_quiet (fail)
      go_wp2
      refine name_world (P := fun W => Code.wp _ _ _ _ W) _ ?_
      intro W0 hW0
      have TE0 : Hid (Ext w W0) := Lib.hid (by rw [hW0]; exact (by repeat (first | exact Below.refl _ _ | refine Ext.trans ?_ (ext_alloc _ _) | refine Ext.trans ?_ (ext_drewN _ _) | refine Ext.trans ?_ (ext_drew _))))
      have TX0 : Hid (W0.heap[w.heap.size]? = some (.cells #[.int .i64 x.dep, .string x.nm, .int .i64 x.kd, .slice a3 x.ats.length cap3, .string x.dat, .int .i64 x.ma, .int .i64 x.mi, .int .i64 x.cl] 43 (0, 0))) := Lib.hid (by rw [hW0]; exact blk_ext (by repeat (first | exact Below.refl _ _ | refine Ext.trans ?_ (ext_drewN _ _) | refine Ext.trans ?_ (ext_drew _))) (blk_new w _))
      clear hW0
      have M1 : Hid (MapAt kI W0 m1 n1 F1) := Lib.hid (HM1.out.ext TE0.out)
      have hlk : (Instr.lookup 129 (.map (some m1)) (.int .i64 x.cl) false).run Tryz.prog W0.drew = .ok (trV y (.slice a5 y.ats.length cap5)) W0.drew := by
        have := (M1.out.ext (ext_drew W0)).look keyInt mapT_first zeroNode' x.cl false
        rw [HY1.out] at this; exact this
      unfold trV at hlk
      have t2 : W0.cell? ⟨c, 2, none⟩ = some (.map (some m1)) := blk_cell (blk_ext TE0.out HBK.out) 2
      have t3 : W0.cell? ⟨w.heap.size, 0, none⟩ = some (.int .i64 x.dep) := blk_cell TX0.out 0
      have t4 : W0.cell? ⟨w.heap.size, 1, none⟩ = some (.string x.nm) := blk_cell TX0.out 1
      have t5 : W0.cell? ⟨w.heap.size, 2, none⟩ = some (.int .i64 x.kd) := blk_cell TX0.out 2
      have t6 : W0.cell? ⟨w.heap.size, 3, none⟩ = some (.slice a3 x.ats.length cap3) := blk_cell TX0.out 3
      have t7 : W0.cell? ⟨w.heap.size, 4, none⟩ = some (.string x.dat) := blk_cell TX0.out 4
      have t8 : W0.cell? ⟨w.heap.size, 5, none⟩ = some (.int .i64 x.ma) := blk_cell TX0.out 5
      have t9 : W0.cell? ⟨w.heap.size, 6, none⟩ = some (.int .i64 x.mi) := blk_cell TX0.out 6
      have t10 : W0.cell? ⟨w.heap.size, 7, none⟩ = some (.int .i64 x.cl) := blk_cell TX0.out 7
      go_still_tail 8, (by kernel_rfl)
      go_wp2_with (go_at_call 164; refine (treeLike y x _ _ _ (HY2.out.ext (TE0.out.trans (ext_drew _))) (HX.out.ext (TE0.out.trans (ext_drew _))) HY3.out).mono ?_; rintro e W ⟨rfl, hb⟩; rw [HLK.out]; have H3 := Lib.hid hb; clear hb)
    · have HR : Hid (classE m false x = 6) := Lib.hid ((if_neg HE0.out).trans ((if_neg (by omega)).trans ((if_neg (by have := HE3.out; omega)).trans (if_neg (by simp)))))
      go_ret
      exact classP_err HR.out (by decide) ((TE0.out.trans ((ext_drew _).trans H3.out)).mono hBw)
    · have HR : Hid (classE m true x = 0) := Lib.hid ((if_neg HE0.out).trans ((if_neg (by omega)).trans ((if_neg (by have := HE3.out; omega)).trans (if_pos rfl))))
      have TE1 : Hid (Ext W0 W) := Lib.hid ((ext_drew _).trans H3.out)
      have TC : Hid (W.heap[c]? = some (.cells #[vd, .bool f, .map (some m1), .map (some m2), .int .i64 (max m x.cl)] 132 (0, 0))) := Lib.hid (by rw [show max m x.cl = m by omega]; exact blk_ext (TE0.out.trans TE1.out) HBK.out)
      have TX := Lib.hid (blk_ext TE1.out TX0.out)
      have T1 : Hid (MapAt kI W m1 n1 F1) := Lib.hid (M1.out.ext TE1.out)
      have T2 : Hid (MapAt kI W m2 n2 F2) := Lib.hid (HM2.out.ext (TE0.out.trans TE1.out))
      have TBW : Hid (B ≤ W.heap.size) := Lib.hid (Nat.le_trans hBw (TE0.out.trans TE1.out).size)
      have TB : Hid (Below B w W) := Lib.hid ((TE0.out.trans TE1.out).mono hBw)
      have TK : Hid (∀ b o, w.heap[b]? = some o → b ≠ c → b ≠ m1 → W.heap[b]? = some o) := Lib.hid (fun b o h1 _ _ => blk_ext (TE0.out.trans TE1.out) h1)
      have TF : Hid (F1 = if m < x.cl then upd F1 x.cl (trV x (.slice a3 x.ats.length cap3)) else F1) := Lib.hid (by rw [if_neg (by have := HE3.out; omega)])
      clear hlk t2 t3 t4 t5 t6 t7 t8 t9 t10
      have hlq : (Instr.lookup 69 (.map (some m2)) (.int .i64 x.cl) false).run Tryz.prog W.drew = .ok (.int .i64 n) W.drew := by
        have := (T2.out.ext (ext_drew W)).look keyInt mapT_count (zeroInt _) x.cl false
        rw [HC.out HPOS.out] at this; exact this
      have v3 : W.cell? ⟨c, 3, none⟩ = some (.map (some m2)) := blk_cell TC.out 3
      have v7 : W.cell? ⟨w.heap.size, 7, none⟩ = some (.int .i64 x.cl) := blk_cell TX.out 7
      have j9 : IntKind.i64.wrap ((n : Int) + 1) = (n : Int) + 1 := IntWalk.i64_in _ (by omega)
      go_wp2
      go_still_tail 8, (by kernel_rfl)
      go_wp2_with (at_mapUpdate; refine wl_store rfl (.tmp 59) (.tmp 61) (.tmp 63) 69 rfl _ _ keyInt mapT_count rfl (by exact T2.out.ext (ext_drew _)) x.cl (.int .i64 ((n : Int) + 1)) rfl rfl ?_; intro w4 hm4 hg4; have HM4 := Lib.hid hm4; have HG4 := Lib.hid hg4; clear hm4 hg4)
      go_ret
      refine ⟨by rw [HR.out]; rfl, Below.grown (Below.trans TB.out ((ext_drew _).mono TBW.out)) HG4.out (Nat.le_trans TBW.out (ext_drew _).size) (fun k hk => by cases hk; exact hB2), fun _ => ⟨⟨_, _, _, _, blk_grown HG4.out (blk_ext (ext_drew _) TC.out) (fun e => hcm2 (by injection e with e; exact e.symm)), (T1.out.ext (ext_drew _)).grown HG4.out (fun e => h12 (by injection e with e; exact e.symm)), HM4.out, TF.out, (if_neg HE0.out).symm⟩, fun b o h1 h2 h3 h4 => blk_grown HG4.out (blk_ext (ext_drew _) (TK.out b o h1 h2 h3)) (fun e => h4 (by injection e with e; exact e.symm))⟩⟩
end Go.Proofs.YtiliglpolcpnbaaGreatDoor

namespace Go.Proofs.YtiliglpolcpnbaaGreatDoor
open Go.RowKit

/-- What the checker's first nodes are, by their classes. -/
def FirstOk (W0 : World) (t : List TrN) (k : Nat) (F : Int → Option Value) : Prop := ∀ q : Int, 0 < q → q ≤ mostC t k → ∃ i vy, i < k ∧ (getT t i).cl = q ∧ F q = some (trV (getT t i) vy) ∧ AttrsAt W0 vy (getT t i).ats
def CountOk (t : List TrN) (k : Nat) (F : Int → Option Value) : Prop := ∀ q : Int, 0 < q → (F q).getD (.int .i64 0) = .int .i64 (countC t q k)
/-- The checker behind the first k nodes. -/
structure ChkSt (W0 w : World) (c m1 m2 : Nat) (t : List TrN) (k : Nat) : Prop where
  ex : ∃ vd n1 n2 F1 F2, w.heap[c]? = some (.cells #[vd, .bool (fileOf t k), .map (some m1), .map (some m2), .int .i64 (mostC t k)] 132 (0, 0)) ∧ OwnL cdO W0.heap.size w vd (dirsOf t k) ∧ MapAt kI w m1 n1 F1 ∧ MapAt kI w m2 n2 F2 ∧ FirstOk W0 t k F1 ∧ CountOk t k F2
  below : Ext W0 w
theorem ChkSt.ext {W0 w w' : World} {c m1 m2 k : Nat} {t : List TrN} (h : ChkSt W0 w c m1 m2 t k) (he : Ext w w') : ChkSt W0 w' c m1 m2 t k := by
  obtain ⟨vd, n1, n2, F1, F2, h1, h2, h3, h4, h5, h6⟩ := h.ex
  exact ⟨⟨vd, n1, n2, F1, F2, blk_ext he h1, h2.ext okO he, h3.ext he, h4.ext he, h5, h6⟩, h.below.trans he⟩
theorem likeB_trans {x y z : TrN} (h1 : likeB x y = true) (_h2 : likeB x z = likeB x z) : likeB y z = likeB x z := by
  obtain ⟨a, b, c, d, e⟩ := likeB_iff.1 h1
  unfold likeB; rw [a, b, c, d, e]
theorem likeB_refl (x : TrN) : likeB x x = true := likeB_iff.2 ⟨rfl, rfl, rfl, rfl, rfl⟩
theorem unlike_no {t : List TrN} {i : Nat} : ∀ k, (unlike t i k = false ↔ ∀ j, j < k → ¬ (0 < (getT t i).cl ∧ (getT t j).cl = (getT t i).cl ∧ likeB (getT t j) (getT t i) = false))
  | 0 => ⟨fun _ j hj => by omega, fun _ => rfl⟩
  | k + 1 => by
    unfold unlike
    rw [Bool.or_eq_false_iff, unlike_no k]
    constructor
    · rintro ⟨h1, h2⟩ j hj ⟨a, b, c⟩
      by_cases e : j = k
      · subst e; rw [b, c] at h2; simp [a] at h2
      · exact h1 j (by omega) ⟨a, b, c⟩
    · intro h
      refine ⟨fun j hj => h j (by omega), ?_⟩
      have := h k (by omega)
      cases hl : likeB (getT t k) (getT t i)
      · by_cases a : 0 < (getT t i).cl
        · by_cases b : (getT t k).cl = (getT t i).cl
          · exact absurd ⟨a, b, hl⟩ this
          · simp [b]
        · simp [a]
      · simp
theorem mostC_ge (t : List TrN) : ∀ k i, i < k → (getT t i).cl ≤ mostC t k
  | 0, i, h => by omega
  | k + 1, i, h => by
    by_cases e : i = k
    · subst e; rw [mostC.eq_2]; omega
    · have := mostC_ge t k i (by omega)
      rw [mostC.eq_2]; omega
/-- The program's answer on a class, and the reference's. -/
theorem class_is {t : List TrN} {k : Nat} (h : AllOk t k) {i : Nat} (hi : i < k) (hc : 0 < (getT t k).cl → (getT t k).cl ≤ mostC t k → (getT t i).cl = (getT t k).cl) : classE (mostC t k) (likeB (getT t i) (getT t k)) (getT t k) = clsE t k := by
  have hmb := mostC_bd k h
  unfold classE clsE
  by_cases e0 : (getT t k).cl = 0
  · rw [if_pos e0, if_neg, if_neg (by omega)]
    rw [Bool.not_eq_true, unlike_no]; rintro j hj ⟨a, _⟩; omega
  rw [if_neg e0]
  by_cases e1 : (getT t k).cl < 0 ∨ mostC t k + 1 < (getT t k).cl
  · rw [if_pos e1, if_pos e1]; split <;> rfl
  rw [if_neg e1, if_neg e1]
  by_cases e2 : mostC t k < (getT t k).cl
  · rw [if_pos e2, if_neg]
    rw [Bool.not_eq_true, unlike_no]; rintro j hj ⟨a, b, _⟩
    have := mostC_ge t k j hj; omega
  rw [if_neg e2]
  have hc' := hc (by omega) (by omega)
  cases hl : likeB (getT t i) (getT t k)
  · rw [if_neg (by simp), if_pos]
    cases hu : unlike t k k with
    | true => rfl
    | false => exact absurd ⟨by omega, hc', hl⟩ ((unlike_no k).1 hu i hi)
  · rw [if_pos rfl, if_neg]
    rw [Bool.not_eq_true, unlike_no]; rintro j hj ⟨a, b, c⟩
    -- both are like the first one of the class
    have hji : likeB (getT t i) (getT t j) = true := by
      by_cases e : i = j
      · subst e; exact likeB_refl _
      · rcases Nat.lt_or_gt_of_ne e with e | e
        · obtain ⟨_, _, _, _, hcj⟩ := node_parts (h j hj)
          have := (unlike_no j).1 (cls_bd hcj).2.2 i e
          cases hh : likeB (getT t i) (getT t j)
          · exact absurd ⟨by omega, by rw [hc', b], hh⟩ this
          · rfl
        · obtain ⟨_, _, _, _, hci⟩ := node_parts (h i hi)
          have := (unlike_no i).1 (cls_bd hci).2.2 j e
          cases hh : likeB (getT t j) (getT t i)
          · exact absurd ⟨by omega, by rw [hc', b], hh⟩ this
          · obtain ⟨a1, a2, a3, a4, a5⟩ := likeB_iff.1 hh
            exact likeB_iff.2 ⟨a1.symm, a2.symm, a3.symm, a4.symm, a5.symm⟩
    rw [likeB_trans hji rfl, hl] at c; cases c
/-- If there is no node before it, or none of its class, its class is a new one. -/
theorem class_new {t : List TrN} {k : Nat} (h : AllOk t k) (lk : Bool) (hc : ¬ (0 < (getT t k).cl ∧ (getT t k).cl ≤ mostC t k)) : classE (mostC t k) lk (getT t k) = clsE t k := by
  have hmb := mostC_bd k h
  unfold classE clsE
  by_cases e0 : (getT t k).cl = 0
  · rw [if_pos e0, if_neg, if_neg (by omega)]
    rw [Bool.not_eq_true, unlike_no]; rintro j hj ⟨a, _⟩; omega
  rw [if_neg e0]
  by_cases e1 : (getT t k).cl < 0 ∨ mostC t k + 1 < (getT t k).cl
  · rw [if_pos e1, if_pos e1]; split <;> rfl
  rw [if_neg e1, if_neg e1]
  have e2 : mostC t k < (getT t k).cl := by omega
  rw [if_pos e2, if_neg]
  rw [Bool.not_eq_true, unlike_no]; rintro j hj ⟨a, b, _⟩
  have := mostC_ge t k j hj; omega

theorem OwnL.keepO {B : Nat} {w w' : World} {v : Value} {l : List Opn} (h : OwnL cdO B w v l) (hk : ∀ g, v.ownBlock = some g → ∀ o, w.heap[g]? = some o → w'.heap[g]? = some o) : OwnL cdO B w' v l := by
  obtain ⟨css, hl, hR, ho⟩ := h
  refine ⟨css, hl, hR, ho.1, ?_⟩
  rcases ho.2 with h1 | ⟨g, cap, cur, rfl, hb, hg, h3⟩
  · exact .inl h1
  · exact .inr ⟨g, cap, cur, rfl, hb, hk g rfl _ hg, h3⟩
/-- Attributes that lie below a number are as they were, behind a store from that number on. -/
theorem AttrsAt.setC {w : World} {v : Value} {l : List Attr} {c o : Nat} {u : Value} (h : AttrsAt w v l) (hc : ∀ b, v.ownBlock = some b → 0 < l.length → b ≠ c) : AttrsAt (w.setCell ⟨c, o, none⟩ u) v l := by
  obtain ⟨a, cap, rfl, hcap, hcs⟩ := h
  refine ⟨a, cap, rfl, hcap, fun k hk => ?_⟩
  obtain ⟨b, off, rfl, hb, h1, h2⟩ := hcs k hk
  have hne := hc b rfl (by omega)
  have hh : (w.setCell ⟨c, o, none⟩ u).heap[b]? = w.heap[b]? := Below.heap_setCell _ _ _ _ hne
  refine ⟨b, off, rfl, by simp [World.setCell]; exact hb, ?_, ?_⟩
  · simp only [World.cell?, hh]; exact h1
  · simp only [World.cell?, hh]; exact h2
theorem fst_dirs {t : List TrN} {k : Nat} (hk : k ≤ t.length) (h : AllOk t k) : (dirsOf t k).length ≤ 9 ∧ ∀ d ∈ dirsOf t k, d.1 ≤ 24 := by
  by_cases hk0 : k = 0
  · subst hk0; simp [dirsOf]
  obtain ⟨h1, _⟩ := node_parts (h (k - 1) (by omega))
  have hb := shape_bd h1
  refine ⟨by rw [dirsOf_len hk0]; omega, fun d hd => ?_⟩
  unfold dirsOf at hd
  rw [if_neg hk0] at hd
  obtain ⟨j, _, rfl⟩ := List.mem_map.1 hd
  exact scan_le k hk h _ (by omega)
/-- Cells that are no open directories, and not the checker's own, are as they were. -/
def KeepC (w w' : World) (c : Nat) : Prop := ∀ b cs E f, w.heap[b]? = some (.cells cs E f) → E ≠ 206 → b ≠ c → w'.heap[b]? = some (.cells cs E f)
/-- What 'node' leaves. -/
def NodeP (W0 w : World) (c m1 m2 : Nat) (t : List TrN) (k : Nat) (e : Ending) (w' : World) : Prop :=
  e = .returned (.int .i64 (nodeE t k)) ∧ Ext W0 w' ∧ (nodeE t k = 0 → ChkSt W0 w' c m1 m2 t (k + 1) ∧ KeepC w w' c)
theorem nodeP_err {W0 w w' : World} {c m1 m2 k : Nat} {t : List TrN} {r : Int} (h : nodeE t k = r) (hv : r ≠ 0) (hb : Ext W0 w') : NodeP W0 w c m1 m2 t k (.returned (.int .i64 r)) w' := ⟨by rw [h], hb, fun h0 => absurd (h.symm.trans h0) hv⟩
theorem fileOf_succ (t : List TrN) (k : Nat) : fileOf t (k + 1) = !((getT t k).kd == 1) := by unfold fileOf; rw [if_neg (by omega)]; rfl
theorem first_step {W0 : World} {t : List TrN} {k : Nat} {F : Int → Option Value} {va : Value} (h : FirstOk W0 t k F) (ha : AttrsAt W0 va (getT t k).ats) (_hc0 : 0 ≤ (getT t k).cl) (hc1 : (getT t k).cl ≤ mostC t k + 1) :
    FirstOk W0 t (k + 1) (if mostC t k < (getT t k).cl then upd F (getT t k).cl (trV (getT t k) va) else F) := by
  intro q hq hq2
  rw [mostC.eq_2] at hq2
  by_cases e : mostC t k < (getT t k).cl
  · rw [if_pos e]
    by_cases e2 : q = (getT t k).cl
    · exact ⟨k, va, by omega, e2.symm, by unfold upd; rw [if_pos e2], ha⟩
    · obtain ⟨i, vy, h1, h2, h3, h4⟩ := h q hq (by omega)
      exact ⟨i, vy, by omega, h2, by unfold upd; rw [if_neg e2]; exact h3, h4⟩
  · rw [if_neg e]
    obtain ⟨i, vy, h1, h2, h3, h4⟩ := h q hq (by omega)
    exact ⟨i, vy, by omega, h2, h3, h4⟩
theorem count_step {t : List TrN} {k : Nat} {F : Int → Option Value} (h : CountOk t k F) : CountOk t (k + 1) (if (getT t k).cl = 0 then F else upd F (getT t k).cl (.int .i64 ((countC t (getT t k).cl k : Int) + 1))) := by
  intro q hq
  rw [countC.eq_2]
  by_cases e : (getT t k).cl = 0
  · rw [if_pos e, if_neg (by omega)]; exact h q hq
  · rw [if_neg e]
    unfold upd
    by_cases e2 : q = (getT t k).cl
    · rw [if_pos e2, if_pos e2.symm, e2]; rfl
    · rw [if_neg e2, if_neg (fun x => e2 x.symm)]; exact h q hq
theorem countC_le (t : List TrN) (c : Int) : ∀ k, countC t c k ≤ k
  | 0 => Nat.le_refl _
  | k + 1 => by have := countC_le t c k; rw [countC.eq_2]; split <;> omega
set_option maxRecDepth 100000 in
set_option maxHeartbeats 8000000 in
theorem treeNode (W0 w : World) (c m1 m2 : Nat) (t : List TrN) (k : Nat) (va : Value) (hst : ChkSt W0 w c m1 m2 t k) (hBc : W0.heap.size ≤ c) (hB1 : W0.heap.size ≤ m1) (hB2 : W0.heap.size ≤ m2) (h12 : m1 ≠ m2)
    (hk : k < t.length) (hl : t.length ≤ 120) (hok : AllOk t k) (hva : AttrsAt W0 va (getT t k).ats) (hsm : SmallT t) :
    Calls Tryz.prog 92 #[.pointer (some ⟨c, 0, none⟩), trV (getT t k) va] w (NodeP W0 w c m1 m2 t k) := by
  obtain ⟨vd, n1, n2, F1, F2, hc0, hdr, hm1, hm2, hf1, hf2⟩ := hst.ex
  have HEX := Lib.hid hst.below
  obtain ⟨hdl, hdm⟩ := fst_dirs (by omega) hok
  have hpv := place_is hk hok
  have hxs : (getT t k).ats.length ≤ 1000000 ∧ ∀ a ∈ (getT t k).ats, a.1.size ≤ 1000000 ∧ a.2.size ≤ 1000000 := by
    rw [getT_at t k hk]; have := hsm _ (List.getElem_mem hk); exact ⟨this.2.2, this.2.1⟩
  have HOB : Hid (∀ b, vd.ownBlock = some b → b < w.heap.size) := fun b hb => by obtain ⟨_, _, _, h⟩ := hdr.row rfl b hb; exact blk_lt h
  have HO1 : Hid (vd.ownBlock ≠ some m1) := fun hb => by obtain ⟨_, _, _, h⟩ := hdr.row rfl m1 hb; obtain ⟨_, _, h2, _⟩ := hm1; rw [h] at h2; cases h2
  have HO2 : Hid (vd.ownBlock ≠ some m2) := fun hb => by obtain ⟨_, _, _, h⟩ := hdr.row rfl m2 hb; obtain ⟨_, _, h2, _⟩ := hm2; rw [h] at h2; cases h2
  have HN1 : Hid (m1 ≠ c) := by rintro rfl; obtain ⟨_, _, h2, _⟩ := hm1; rw [hc0] at h2; cases h2
  have HN2 : Hid (m2 ≠ c) := by rintro rfl; obtain ⟨_, _, h2, _⟩ := hm2; rw [hc0] at h2; cases h2
  have HSZ : Hid (W0.heap.size ≤ w.heap.size) := hst.below.size
  have HDS : Hid (shapeE t k = 0 → placeD (dirsOf t k) (getT t k) = dirsOf t (k + 1)) := dirs_step hk hok
  have HFS : Hid (fileOf t (k + 1) = !((getT t k).kd == 1)) := fileOf_succ t k
  have hcl := blk_lt hc0
  obtain ⟨a3, cap3, rfl, hcap3, hvc⟩ := hva
  have HVA : Hid (AttrsAt W0 (.slice a3 (getT t k).ats.length cap3) (getT t k).ats) := ⟨a3, cap3, rfl, hcap3, hvc⟩
  have HC0 := Lib.hid hc0; have HDR := Lib.hid hdr; have HM1 := Lib.hid hm1; have HM2 := Lib.hid hm2; have HF1 := Lib.hid hf1; have HF2 := Lib.hid hf2
  have HDL := Lib.hid hdl; have HDM := Lib.hid hdm; have HPV0 := Lib.hid hpv; have HXS := Lib.hid hxs; have HOK := Lib.hid hok
  have HMB := Lib.hid (mostC_bd k hok)
  have HG : ∃ x, getT t k = x := ⟨_, rfl⟩
  have HX0 : Hid (∀ b, (Value.slice a3 (getT t k).ats.length cap3).ownBlock = some b → 0 < (getT t k).ats.length → b ≠ c) := fun b hb h0 e => by have := AttrsAt.block HVA.out h0 b hb; omega
  have va0 : Value := .slice a3 (getT t k).ats.length cap3
  clear hst hc0 hdr hm1 hm2 hf1 hf2 hdl hdm hpv hxs hok hvc
  obtain ⟨x, hx⟩ := HG
  rw [hx] at HVA HPV0 HXS HFS HDS HX0 ⊢
  have HGX := Lib.hid hx; clear hx
  unfold trV
  by_cases s1 : shapeE t k = 0
  case neg =>
    have HPV : Hid (placeE (dirsOf t k) (fileOf t k) x = shapeE t k) := Lib.hid (by rw [HPV0.out, if_pos s1])
    have HR := Lib.hid (nodeE_shape s1)
    have S1 := Lib.hid s1
    have q2 : (shapeE t k != 0) = true := bne_iff_ne.2 s1
    clear s1
    go_enter Tryz.func92, Tryz.ntmps92
    go_wp2_with (go_at_call 130; refine (treePlace W0.heap.size _ c m1 m2 vd (dirsOf t k) (fileOf t k) (mostC t k) x (.slice a3 x.ats.length cap3) (by exact blk_alloc HC0.out) hBc (by have := HSZ.out; simp; omega) (by exact HDR.out.ext okO (ext_alloc _ _)) HDL.out HDM.out ⟨_, _, _, rfl⟩).mono ?_; rintro e w2 ⟨rfl, hb2, hok⟩; rw [HPV.out]; have HB2 := Lib.hid hb2; clear hok hb2)
    go_ret
    exact nodeP_err HR.out S1.out (Below.trans HEX.out (Below.trans ((ext_alloc _ _).mono HSZ.out) HB2.out))
  by_cases s2 : k ≠ 0 ∧ entryE t k ≠ 0
  · have HPV : Hid (placeE (dirsOf t k) (fileOf t k) x = entryE t k) := Lib.hid (by rw [HPV0.out, if_neg (by omega), if_neg s2.1])
    have HR := Lib.hid (nodeE_entry s1 s2.1 s2.2)
    have S2 := Lib.hid s2.2
    have q2 : (entryE t k != 0) = true := bne_iff_ne.2 s2.2
    clear s1 s2
    go_enter Tryz.func92, Tryz.ntmps92
    go_wp2_with (go_at_call 130; refine (treePlace W0.heap.size _ c m1 m2 vd (dirsOf t k) (fileOf t k) (mostC t k) x (.slice a3 x.ats.length cap3) (by exact blk_alloc HC0.out) hBc (by have := HSZ.out; simp; omega) (by exact HDR.out.ext okO (ext_alloc _ _)) HDL.out HDM.out ⟨_, _, _, rfl⟩).mono ?_; rintro e w2 ⟨rfl, hb2, hok⟩; rw [HPV.out]; have HB2 := Lib.hid hb2; clear hok hb2)
    go_ret
    exact nodeP_err HR.out S2.out (Below.trans HEX.out (Below.trans ((ext_alloc _ _).mono HSZ.out) HB2.out))
  have S1 := Lib.hid s1
  have S2 : Hid (k ≠ 0 → entryE t k = 0) := Lib.hid (fun h => by by_cases e : entryE t k = 0; exact e; exact absurd ⟨h, e⟩ s2)
  have HPZ : Hid (placeE (dirsOf t k) (fileOf t k) x = 0) := Lib.hid (by
    rw [HPV0.out, if_neg (by omega)]
    by_cases e : k = 0
    · rw [if_pos e]
    · rw [if_neg e]; exact S2.out e)
  have HPV := HPZ
  clear s1 s2
  by_cases s3 : kindE x = 0
  case neg =>
    have HR := Lib.hid (nodeE_kind HGX.out S1.out S2.out s3)
    have S3 := Lib.hid s3
    have q2 : (kindE x != 0) = true := bne_iff_ne.2 s3
    clear s3
    go_enter Tryz.func92, Tryz.ntmps92
    go_wp2_with (first | (go_at_call 130; refine (treePlace W0.heap.size _ c m1 m2 vd (dirsOf t k) (fileOf t k) (mostC t k) x (.slice a3 x.ats.length cap3) (by exact blk_alloc HC0.out) hBc (by have := HSZ.out; simp; omega) (by exact HDR.out.ext okO (ext_alloc _ _)) HDL.out HDM.out ⟨_, _, _, rfl⟩).mono ?_; rintro e w2 ⟨rfl, hb2, hok⟩; rw [HPV.out]; obtain ⟨vd2, hc2, hD2, hk2⟩ := hok HPZ.out; have HC2 := Lib.hid hc2; have HD2 := Lib.hid hD2; have HB2 : Hid (Ext W0 w2) := Below.trans HEX.out (Below.trans ((ext_alloc _ _).mono HSZ.out) hb2); have HX2 := Lib.hid (hk2 _ _ (blk_new w _) (fun e => absurd (blk_lt HC0.out) (by omega)) (fun e => absurd (HOB.out _ e) (by omega))); have HM12 := Lib.hid ((HM1.out.ext (ext_alloc _ _)).keepB (fun o h => hk2 _ _ h HN1.out (fun e => HO1.out e))); have HM22 := Lib.hid ((HM2.out.ext (ext_alloc _ _)).keepB (fun o h => hk2 _ _ h HN2.out (fun e => HO2.out e))); have HK2 := Lib.hid hk2; clear hok hc2 hD2 hk2 hb2; have y0 : w2.cell? ⟨w.heap.size, 0, none⟩ = some (.int .i64 x.dep) := blk_cell HX2.out 0; have y1 : w2.cell? ⟨w.heap.size, 1, none⟩ = some (.string x.nm) := blk_cell HX2.out 1; have y2 : w2.cell? ⟨w.heap.size, 2, none⟩ = some (.int .i64 x.kd) := blk_cell HX2.out 2; have y3 : w2.cell? ⟨w.heap.size, 3, none⟩ = some (.slice a3 x.ats.length cap3) := blk_cell HX2.out 3; have y4 : w2.cell? ⟨w.heap.size, 4, none⟩ = some (.string x.dat) := blk_cell HX2.out 4; have y5 : w2.cell? ⟨w.heap.size, 5, none⟩ = some (.int .i64 x.ma) := blk_cell HX2.out 5; have y6 : w2.cell? ⟨w.heap.size, 6, none⟩ = some (.int .i64 x.mi) := blk_cell HX2.out 6; have y7 : w2.cell? ⟨w.heap.size, 7, none⟩ = some (.int .i64 x.cl) := blk_cell HX2.out 7) | (go_at_call 131; refine (treeFields x _ _ ⟨_, _, rfl⟩).mono ?_; rintro e w3 ⟨rfl, hb3⟩; have HE3 := Lib.hid hb3; have HB3 : Hid (Ext W0 w3) := Ext.trans HB2.out hb3; have HX3 := Lib.hid (blk_ext hb3 HX2.out); clear hb3 y0 y1 y2 y3 y4 y5 y6 y7; have y0 : w3.cell? ⟨w.heap.size, 0, none⟩ = some (.int .i64 x.dep) := blk_cell HX3.out 0; have y1 : w3.cell? ⟨w.heap.size, 1, none⟩ = some (.string x.nm) := blk_cell HX3.out 1; have y2 : w3.cell? ⟨w.heap.size, 2, none⟩ = some (.int .i64 x.kd) := blk_cell HX3.out 2; have y3 : w3.cell? ⟨w.heap.size, 3, none⟩ = some (.slice a3 x.ats.length cap3) := blk_cell HX3.out 3; have y4 : w3.cell? ⟨w.heap.size, 4, none⟩ = some (.string x.dat) := blk_cell HX3.out 4; have y5 : w3.cell? ⟨w.heap.size, 5, none⟩ = some (.int .i64 x.ma) := blk_cell HX3.out 5; have y6 : w3.cell? ⟨w.heap.size, 6, none⟩ = some (.int .i64 x.mi) := blk_cell HX3.out 6; have y7 : w3.cell? ⟨w.heap.size, 7, none⟩ = some (.int .i64 x.cl) := blk_cell HX3.out 7))
    go_ret
    exact nodeP_err HR.out S3.out HB3.out
  by_cases s4 : chkE x.ats = 0
  case neg =>
    have HR := Lib.hid (nodeE_attrs HGX.out S1.out S2.out s3 s4)
    have S4 := Lib.hid s4
    have q2 : (chkE x.ats != 0) = true := bne_iff_ne.2 s4
    clear s4
    go_enter Tryz.func92, Tryz.ntmps92
    go_wp2_with (first | (go_at_call 130; refine (treePlace W0.heap.size _ c m1 m2 vd (dirsOf t k) (fileOf t k) (mostC t k) x (.slice a3 x.ats.length cap3) (by exact blk_alloc HC0.out) hBc (by have := HSZ.out; simp; omega) (by exact HDR.out.ext okO (ext_alloc _ _)) HDL.out HDM.out ⟨_, _, _, rfl⟩).mono ?_; rintro e w2 ⟨rfl, hb2, hok⟩; rw [HPV.out]; obtain ⟨vd2, hc2, hD2, hk2⟩ := hok HPZ.out; have HC2 := Lib.hid hc2; have HD2 := Lib.hid hD2; have HB2 : Hid (Ext W0 w2) := Below.trans HEX.out (Below.trans ((ext_alloc _ _).mono HSZ.out) hb2); have HX2 := Lib.hid (hk2 _ _ (blk_new w _) (fun e => absurd (blk_lt HC0.out) (by omega)) (fun e => absurd (HOB.out _ e) (by omega))); have HM12 := Lib.hid ((HM1.out.ext (ext_alloc _ _)).keepB (fun o h => hk2 _ _ h HN1.out (fun e => HO1.out e))); have HM22 := Lib.hid ((HM2.out.ext (ext_alloc _ _)).keepB (fun o h => hk2 _ _ h HN2.out (fun e => HO2.out e))); have HK2 := Lib.hid hk2; clear hok hc2 hD2 hk2 hb2; have y0 : w2.cell? ⟨w.heap.size, 0, none⟩ = some (.int .i64 x.dep) := blk_cell HX2.out 0; have y1 : w2.cell? ⟨w.heap.size, 1, none⟩ = some (.string x.nm) := blk_cell HX2.out 1; have y2 : w2.cell? ⟨w.heap.size, 2, none⟩ = some (.int .i64 x.kd) := blk_cell HX2.out 2; have y3 : w2.cell? ⟨w.heap.size, 3, none⟩ = some (.slice a3 x.ats.length cap3) := blk_cell HX2.out 3; have y4 : w2.cell? ⟨w.heap.size, 4, none⟩ = some (.string x.dat) := blk_cell HX2.out 4; have y5 : w2.cell? ⟨w.heap.size, 5, none⟩ = some (.int .i64 x.ma) := blk_cell HX2.out 5; have y6 : w2.cell? ⟨w.heap.size, 6, none⟩ = some (.int .i64 x.mi) := blk_cell HX2.out 6; have y7 : w2.cell? ⟨w.heap.size, 7, none⟩ = some (.int .i64 x.cl) := blk_cell HX2.out 7) | (go_at_call 131; refine (treeFields x _ _ ⟨_, _, rfl⟩).mono ?_; rintro e w3 ⟨rfl, hb3⟩; have HE3 := Lib.hid hb3; have HB3 : Hid (Ext W0 w3) := Ext.trans HB2.out hb3; have HX3 := Lib.hid (blk_ext hb3 HX2.out); clear hb3 y0 y1 y2 y3 y4 y5 y6 y7; have y0 : w3.cell? ⟨w.heap.size, 0, none⟩ = some (.int .i64 x.dep) := blk_cell HX3.out 0; have y1 : w3.cell? ⟨w.heap.size, 1, none⟩ = some (.string x.nm) := blk_cell HX3.out 1; have y2 : w3.cell? ⟨w.heap.size, 2, none⟩ = some (.int .i64 x.kd) := blk_cell HX3.out 2; have y3 : w3.cell? ⟨w.heap.size, 3, none⟩ = some (.slice a3 x.ats.length cap3) := blk_cell HX3.out 3; have y4 : w3.cell? ⟨w.heap.size, 4, none⟩ = some (.string x.dat) := blk_cell HX3.out 4; have y5 : w3.cell? ⟨w.heap.size, 5, none⟩ = some (.int .i64 x.ma) := blk_cell HX3.out 5; have y6 : w3.cell? ⟨w.heap.size, 6, none⟩ = some (.int .i64 x.mi) := blk_cell HX3.out 6; have y7 : w3.cell? ⟨w.heap.size, 7, none⟩ = some (.int .i64 x.cl) := blk_cell HX3.out 7) | (go_at_call 118; refine (attrsCheck _ x.ats _ (HVA.out.ext HB3.out) HXS.out.2).mono ?_; rintro e w4 ⟨rfl, hb4⟩; have HE4 := Lib.hid hb4; have HB4 : Hid (Ext W0 w4) := Ext.trans HB3.out hb4; have HX4 := Lib.hid (blk_ext hb4 HX3.out); clear hb4 y0 y1 y2 y3 y4 y5 y6 y7; have y0 : w4.cell? ⟨w.heap.size, 0, none⟩ = some (.int .i64 x.dep) := blk_cell HX4.out 0; have y1 : w4.cell? ⟨w.heap.size, 1, none⟩ = some (.string x.nm) := blk_cell HX4.out 1; have y2 : w4.cell? ⟨w.heap.size, 2, none⟩ = some (.int .i64 x.kd) := blk_cell HX4.out 2; have y3 : w4.cell? ⟨w.heap.size, 3, none⟩ = some (.slice a3 x.ats.length cap3) := blk_cell HX4.out 3; have y4 : w4.cell? ⟨w.heap.size, 4, none⟩ = some (.string x.dat) := blk_cell HX4.out 4; have y5 : w4.cell? ⟨w.heap.size, 5, none⟩ = some (.int .i64 x.ma) := blk_cell HX4.out 5; have y6 : w4.cell? ⟨w.heap.size, 6, none⟩ = some (.int .i64 x.mi) := blk_cell HX4.out 6; have y7 : w4.cell? ⟨w.heap.size, 7, none⟩ = some (.int .i64 x.cl) := blk_cell HX4.out 7; have HC4 := Lib.hid (blk_ext HE4.out (blk_ext HE3.out HC2.out)); have z1 : w4.cell? ⟨c, 1, none⟩ = some (.bool (fileOf t k)) := blk_cell HC4.out 1; have z2 : ∀ j, w4.frozen? ⟨c, j, none⟩ = false := fun j => blk_thaw HC4.out j))
    go_ret
    exact nodeP_err HR.out S4.out HB4.out
  have HCL := Lib.hid (nodeE_cls HGX.out S1.out S2.out s3 s4)
  have hex : ∃ y vy, (0 < x.cl → x.cl ≤ mostC t k → F1 x.cl = some (trV y vy) ∧ AttrsAt W0 vy y.ats ∧ y.ats.length ≤ 1000000) ∧ classE (mostC t k) (likeB y x) x = clsE t k := by
    by_cases hcc : 0 < x.cl ∧ x.cl ≤ mostC t k
    · obtain ⟨i, vy, hi, hic, hF, hav⟩ := HF1.out x.cl hcc.1 hcc.2
      refine ⟨getT t i, vy, fun _ _ => ⟨hF, hav, ?_⟩, ?_⟩
      · rw [getT_at t i (by omega)]; exact (hsm _ (List.getElem_mem _)).2.2
      · have := class_is (t := t) (k := k) HOK.out hi (fun _ _ => by rw [HGX.out]; exact hic)
        rw [HGX.out] at this; exact this
    · refine ⟨x, va0, fun h1 h2 => absurd ⟨h1, h2⟩ hcc, ?_⟩
      have := class_new (t := t) (k := k) HOK.out (likeB x x) (by rw [HGX.out]; exact hcc)
      rw [HGX.out] at this; exact this
  obtain ⟨y, vy, hyp, hce⟩ := hex
  have HYP := Lib.hid hyp; have HCE := Lib.hid hce; clear hyp hce
  have HSM := Lib.hid hsm; clear hsm
  by_cases s5 : clsE t k = 0
  case neg =>
    have S5 := Lib.hid s5
    clear s5
    go_enter Tryz.func92, Tryz.ntmps92
    go_wp2_with (first | (go_at_call 130; refine (treePlace W0.heap.size _ c m1 m2 vd (dirsOf t k) (fileOf t k) (mostC t k) x (.slice a3 x.ats.length cap3) (by exact blk_alloc HC0.out) hBc (by have := HSZ.out; simp; omega) (by exact HDR.out.ext okO (ext_alloc _ _)) HDL.out HDM.out ⟨_, _, _, rfl⟩).mono ?_; rintro e w2 ⟨rfl, hb2, hok⟩; rw [HPV.out]; obtain ⟨vd2, hc2, hD2, hk2⟩ := hok HPZ.out; have HC2 := Lib.hid hc2; have HD2 := Lib.hid hD2; have HB2 : Hid (Ext W0 w2) := Below.trans HEX.out (Below.trans ((ext_alloc _ _).mono HSZ.out) hb2); have HX2 := Lib.hid (hk2 _ _ (blk_new w _) (fun e => absurd (blk_lt HC0.out) (by omega)) (fun e => absurd (HOB.out _ e) (by omega))); have HM12 := Lib.hid ((HM1.out.ext (ext_alloc _ _)).keepB (fun o h => hk2 _ _ h HN1.out (fun e => HO1.out e))); have HM22 := Lib.hid ((HM2.out.ext (ext_alloc _ _)).keepB (fun o h => hk2 _ _ h HN2.out (fun e => HO2.out e))); have HK2 := Lib.hid hk2; clear hok hc2 hD2 hk2 hb2; have y0 : w2.cell? ⟨w.heap.size, 0, none⟩ = some (.int .i64 x.dep) := blk_cell HX2.out 0; have y1 : w2.cell? ⟨w.heap.size, 1, none⟩ = some (.string x.nm) := blk_cell HX2.out 1; have y2 : w2.cell? ⟨w.heap.size, 2, none⟩ = some (.int .i64 x.kd) := blk_cell HX2.out 2; have y3 : w2.cell? ⟨w.heap.size, 3, none⟩ = some (.slice a3 x.ats.length cap3) := blk_cell HX2.out 3; have y4 : w2.cell? ⟨w.heap.size, 4, none⟩ = some (.string x.dat) := blk_cell HX2.out 4; have y5 : w2.cell? ⟨w.heap.size, 5, none⟩ = some (.int .i64 x.ma) := blk_cell HX2.out 5; have y6 : w2.cell? ⟨w.heap.size, 6, none⟩ = some (.int .i64 x.mi) := blk_cell HX2.out 6; have y7 : w2.cell? ⟨w.heap.size, 7, none⟩ = some (.int .i64 x.cl) := blk_cell HX2.out 7) | (go_at_call 131; refine (treeFields x _ _ ⟨_, _, rfl⟩).mono ?_; rintro e w3 ⟨rfl, hb3⟩; have HE3 := Lib.hid hb3; have HB3 : Hid (Ext W0 w3) := Ext.trans HB2.out hb3; have HX3 := Lib.hid (blk_ext hb3 HX2.out); clear hb3 y0 y1 y2 y3 y4 y5 y6 y7; have y0 : w3.cell? ⟨w.heap.size, 0, none⟩ = some (.int .i64 x.dep) := blk_cell HX3.out 0; have y1 : w3.cell? ⟨w.heap.size, 1, none⟩ = some (.string x.nm) := blk_cell HX3.out 1; have y2 : w3.cell? ⟨w.heap.size, 2, none⟩ = some (.int .i64 x.kd) := blk_cell HX3.out 2; have y3 : w3.cell? ⟨w.heap.size, 3, none⟩ = some (.slice a3 x.ats.length cap3) := blk_cell HX3.out 3; have y4 : w3.cell? ⟨w.heap.size, 4, none⟩ = some (.string x.dat) := blk_cell HX3.out 4; have y5 : w3.cell? ⟨w.heap.size, 5, none⟩ = some (.int .i64 x.ma) := blk_cell HX3.out 5; have y6 : w3.cell? ⟨w.heap.size, 6, none⟩ = some (.int .i64 x.mi) := blk_cell HX3.out 6; have y7 : w3.cell? ⟨w.heap.size, 7, none⟩ = some (.int .i64 x.cl) := blk_cell HX3.out 7) | (go_at_call 118; refine (attrsCheck _ x.ats _ (HVA.out.ext HB3.out) HXS.out.2).mono ?_; rintro e w4 ⟨rfl, hb4⟩; have HE4 := Lib.hid hb4; have HB4 : Hid (Ext W0 w4) := Ext.trans HB3.out hb4; have HX4 := Lib.hid (blk_ext hb4 HX3.out); clear hb4 y0 y1 y2 y3 y4 y5 y6 y7; have y0 : w4.cell? ⟨w.heap.size, 0, none⟩ = some (.int .i64 x.dep) := blk_cell HX4.out 0; have y1 : w4.cell? ⟨w.heap.size, 1, none⟩ = some (.string x.nm) := blk_cell HX4.out 1; have y2 : w4.cell? ⟨w.heap.size, 2, none⟩ = some (.int .i64 x.kd) := blk_cell HX4.out 2; have y3 : w4.cell? ⟨w.heap.size, 3, none⟩ = some (.slice a3 x.ats.length cap3) := blk_cell HX4.out 3; have y4 : w4.cell? ⟨w.heap.size, 4, none⟩ = some (.string x.dat) := blk_cell HX4.out 4; have y5 : w4.cell? ⟨w.heap.size, 5, none⟩ = some (.int .i64 x.ma) := blk_cell HX4.out 5; have y6 : w4.cell? ⟨w.heap.size, 6, none⟩ = some (.int .i64 x.mi) := blk_cell HX4.out 6; have y7 : w4.cell? ⟨w.heap.size, 7, none⟩ = some (.int .i64 x.cl) := blk_cell HX4.out 7; have HC4 := Lib.hid (blk_ext HE4.out (blk_ext HE3.out HC2.out)); have z1 : w4.cell? ⟨c, 1, none⟩ = some (.bool (fileOf t k)) := blk_cell HC4.out 1; have z2 : ∀ j, w4.frozen? ⟨c, j, none⟩ = false := fun j => blk_thaw HC4.out j) | (go_at_call 132; refine (treeClass W0.heap.size _ c m1 m2 n1 n2 vd2 (x.kd != 1) (mostC t k) F1 F2 x y (.slice a3 x.ats.length cap3) vy (countC t x.cl k) (by rw [blk_setCell HC4.out]; rfl) (by exact ((HM12.out.ext HE3.out).ext HE4.out).setCell _ _) (by exact ((HM22.out.ext HE3.out).ext HE4.out).setCell _ _) hBc hB1 hB2 (by exact Nat.le_trans HB4.out.size (by simp)) h12 HMB.out.1 (by have := HMB.out.2; omega) (by have := countC_le t x.cl k; omega) (by exact (HVA.out.ext HB4.out).setC HX0.out) HXS.out.1 (fun h1 h2 => by obtain ⟨a, b, d⟩ := HYP.out h1 h2; exact ⟨a, (b.ext HB4.out).setC (fun b' hb' h0 e => by have := AttrsAt.block b h0 b' hb'; omega), d⟩) (fun h => HF2.out x.cl h)).mono ?_; rintro e w6 ⟨rfl, hb6, hok6⟩; rw [HCE.out]; have HB6 : Hid (Below W0.heap.size W0 w6) := Lib.hid (Below.trans (HB4.out.setCell (p := ⟨c, 1, none⟩) hBc _) hb6); have HOK6 := Lib.hid hok6; clear hok6 hb6))
    go_ret
    exact nodeP_err HCL.out S5.out HB6.out
  have S5 := Lib.hid s5
  clear s5
  go_enter Tryz.func92, Tryz.ntmps92
  go_wp2_with (first | (go_at_call 130; refine (treePlace W0.heap.size _ c m1 m2 vd (dirsOf t k) (fileOf t k) (mostC t k) x (.slice a3 x.ats.length cap3) (by exact blk_alloc HC0.out) hBc (by have := HSZ.out; simp; omega) (by exact HDR.out.ext okO (ext_alloc _ _)) HDL.out HDM.out ⟨_, _, _, rfl⟩).mono ?_; rintro e w2 ⟨rfl, hb2, hok⟩; rw [HPV.out]; obtain ⟨vd2, hc2, hD2, hk2⟩ := hok HPZ.out; have HC2 := Lib.hid hc2; have HD2 := Lib.hid hD2; have HB2 : Hid (Ext W0 w2) := Below.trans HEX.out (Below.trans ((ext_alloc _ _).mono HSZ.out) hb2); have HX2 := Lib.hid (hk2 _ _ (blk_new w _) (fun e => absurd (blk_lt HC0.out) (by omega)) (fun e => absurd (HOB.out _ e) (by omega))); have HM12 := Lib.hid ((HM1.out.ext (ext_alloc _ _)).keepB (fun o h => hk2 _ _ h HN1.out (fun e => HO1.out e))); have HM22 := Lib.hid ((HM2.out.ext (ext_alloc _ _)).keepB (fun o h => hk2 _ _ h HN2.out (fun e => HO2.out e))); have HK2 := Lib.hid hk2; clear hok hc2 hD2 hk2 hb2; have y0 : w2.cell? ⟨w.heap.size, 0, none⟩ = some (.int .i64 x.dep) := blk_cell HX2.out 0; have y1 : w2.cell? ⟨w.heap.size, 1, none⟩ = some (.string x.nm) := blk_cell HX2.out 1; have y2 : w2.cell? ⟨w.heap.size, 2, none⟩ = some (.int .i64 x.kd) := blk_cell HX2.out 2; have y3 : w2.cell? ⟨w.heap.size, 3, none⟩ = some (.slice a3 x.ats.length cap3) := blk_cell HX2.out 3; have y4 : w2.cell? ⟨w.heap.size, 4, none⟩ = some (.string x.dat) := blk_cell HX2.out 4; have y5 : w2.cell? ⟨w.heap.size, 5, none⟩ = some (.int .i64 x.ma) := blk_cell HX2.out 5; have y6 : w2.cell? ⟨w.heap.size, 6, none⟩ = some (.int .i64 x.mi) := blk_cell HX2.out 6; have y7 : w2.cell? ⟨w.heap.size, 7, none⟩ = some (.int .i64 x.cl) := blk_cell HX2.out 7) | (go_at_call 131; refine (treeFields x _ _ ⟨_, _, rfl⟩).mono ?_; rintro e w3 ⟨rfl, hb3⟩; have HE3 := Lib.hid hb3; have HB3 : Hid (Ext W0 w3) := Ext.trans HB2.out hb3; have HX3 := Lib.hid (blk_ext hb3 HX2.out); clear hb3 y0 y1 y2 y3 y4 y5 y6 y7; have y0 : w3.cell? ⟨w.heap.size, 0, none⟩ = some (.int .i64 x.dep) := blk_cell HX3.out 0; have y1 : w3.cell? ⟨w.heap.size, 1, none⟩ = some (.string x.nm) := blk_cell HX3.out 1; have y2 : w3.cell? ⟨w.heap.size, 2, none⟩ = some (.int .i64 x.kd) := blk_cell HX3.out 2; have y3 : w3.cell? ⟨w.heap.size, 3, none⟩ = some (.slice a3 x.ats.length cap3) := blk_cell HX3.out 3; have y4 : w3.cell? ⟨w.heap.size, 4, none⟩ = some (.string x.dat) := blk_cell HX3.out 4; have y5 : w3.cell? ⟨w.heap.size, 5, none⟩ = some (.int .i64 x.ma) := blk_cell HX3.out 5; have y6 : w3.cell? ⟨w.heap.size, 6, none⟩ = some (.int .i64 x.mi) := blk_cell HX3.out 6; have y7 : w3.cell? ⟨w.heap.size, 7, none⟩ = some (.int .i64 x.cl) := blk_cell HX3.out 7) | (go_at_call 118; refine (attrsCheck _ x.ats _ (HVA.out.ext HB3.out) HXS.out.2).mono ?_; rintro e w4 ⟨rfl, hb4⟩; have HE4 := Lib.hid hb4; have HB4 : Hid (Ext W0 w4) := Ext.trans HB3.out hb4; have HX4 := Lib.hid (blk_ext hb4 HX3.out); clear hb4 y0 y1 y2 y3 y4 y5 y6 y7; have y0 : w4.cell? ⟨w.heap.size, 0, none⟩ = some (.int .i64 x.dep) := blk_cell HX4.out 0; have y1 : w4.cell? ⟨w.heap.size, 1, none⟩ = some (.string x.nm) := blk_cell HX4.out 1; have y2 : w4.cell? ⟨w.heap.size, 2, none⟩ = some (.int .i64 x.kd) := blk_cell HX4.out 2; have y3 : w4.cell? ⟨w.heap.size, 3, none⟩ = some (.slice a3 x.ats.length cap3) := blk_cell HX4.out 3; have y4 : w4.cell? ⟨w.heap.size, 4, none⟩ = some (.string x.dat) := blk_cell HX4.out 4; have y5 : w4.cell? ⟨w.heap.size, 5, none⟩ = some (.int .i64 x.ma) := blk_cell HX4.out 5; have y6 : w4.cell? ⟨w.heap.size, 6, none⟩ = some (.int .i64 x.mi) := blk_cell HX4.out 6; have y7 : w4.cell? ⟨w.heap.size, 7, none⟩ = some (.int .i64 x.cl) := blk_cell HX4.out 7; have HC4 := Lib.hid (blk_ext HE4.out (blk_ext HE3.out HC2.out)); have z1 : w4.cell? ⟨c, 1, none⟩ = some (.bool (fileOf t k)) := blk_cell HC4.out 1; have z2 : ∀ j, w4.frozen? ⟨c, j, none⟩ = false := fun j => blk_thaw HC4.out j) | (go_at_call 132; refine (treeClass W0.heap.size _ c m1 m2 n1 n2 vd2 (x.kd != 1) (mostC t k) F1 F2 x y (.slice a3 x.ats.length cap3) vy (countC t x.cl k) (by rw [blk_setCell HC4.out]; rfl) (by exact ((HM12.out.ext HE3.out).ext HE4.out).setCell _ _) (by exact ((HM22.out.ext HE3.out).ext HE4.out).setCell _ _) hBc hB1 hB2 (by exact Nat.le_trans HB4.out.size (by simp)) h12 HMB.out.1 (by have := HMB.out.2; omega) (by have := countC_le t x.cl k; omega) (by exact (HVA.out.ext HB4.out).setC HX0.out) HXS.out.1 (fun h1 h2 => by obtain ⟨a, b, d⟩ := HYP.out h1 h2; exact ⟨a, (b.ext HB4.out).setC (fun b' hb' h0 e => by have := AttrsAt.block b h0 b' hb'; omega), d⟩) (fun h => HF2.out x.cl h)).mono ?_; rintro e w6 ⟨rfl, hb6, hok6⟩; rw [HCE.out]; have HB6 : Hid (Below W0.heap.size W0 w6) := Lib.hid (Below.trans (HB4.out.setCell (p := ⟨c, 1, none⟩) hBc _) hb6); have HOK6 := Lib.hid hok6; clear hok6 hb6))
  go_ret
  refine ⟨by rw [HCL.out]; rfl, HB6.out, fun _ => ⟨⟨?_, HB6.out⟩, ?_⟩⟩
  case refine_2 =>
    intro b cs E f hb hE hbc
    have hkeep := (HOK6.out (HCE.out.trans S5.out)).keep
    have hw2 := HK2.out b _ (blk_alloc hb) hbc (fun e => by obtain ⟨_, _, _, h⟩ := HDR.out.row rfl b e; rw [hb] at h; cases h; exact hE rfl)
    have hw5 := blk_setCell_ne (blk_ext HE4.out (blk_ext HE3.out hw2)) ⟨c, 1, none⟩ (.bool (x.kd != 1)) hbc
    refine hkeep b _ hw5 hbc ?_ ?_
    · rintro rfl; obtain ⟨_, _, h2, _⟩ := HM1.out; rw [hb] at h2; cases h2
    · rintro rfl; obtain ⟨_, _, h2, _⟩ := HM2.out; rw [hb] at h2; cases h2
  obtain ⟨q1, q2, F1', F2', r1, r2, r3, r4, r5⟩ := (HOK6.out (HCE.out.trans S5.out)).ex
  have hkeep := (HOK6.out (HCE.out.trans S5.out)).keep
  have hcb := cls_bd S5.out
  rw [HGX.out] at hcb
  refine ⟨vd2, q1, q2, F1', F2', ?_, ?_, r2, r3, ?_, ?_⟩
  · rw [r1, HFS.out, mostC.eq_2, HGX.out]; rfl
  · rw [← HDS.out S1.out]
    have h5 := ((HD2.out.ext okO HE3.out).ext okO HE4.out).other okO (chg_setCell (o := 1) HC4.out hBc (.bool (x.kd != 1))) (by decide) (by simp [cdO])
    refine h5.keepO fun g hg o ho => hkeep g o ho ?_ ?_ ?_
    · rintro rfl; obtain ⟨_, _, _, h⟩ := h5.row rfl g hg; rw [blk_setCell HC4.out] at h; cases h
    · rintro rfl; obtain ⟨_, _, _, h⟩ := h5.row rfl g hg; obtain ⟨_, _, h2, _⟩ := ((HM12.out.ext HE3.out).ext HE4.out).setCell ⟨c, 1, none⟩ (.bool (x.kd != 1)); rw [h] at h2; cases h2
    · rintro rfl; obtain ⟨_, _, _, h⟩ := h5.row rfl g hg; obtain ⟨_, _, h2, _⟩ := ((HM22.out.ext HE3.out).ext HE4.out).setCell ⟨c, 1, none⟩ (.bool (x.kd != 1)); rw [h] at h2; cases h2
  · rw [r4]
    have := first_step (t := t) (k := k) HF1.out (va := .slice a3 x.ats.length cap3) (by rw [HGX.out]; exact HVA.out) (by rw [HGX.out]; exact hcb.1) (by rw [HGX.out]; exact hcb.2.1)
    rw [HGX.out] at this; exact this
  · rw [r5]
    have := count_step (t := t) (k := k) HF2.out
    rw [HGX.out] at this; exact this
end Go.Proofs.YtiliglpolcpnbaaGreatDoor
