/- limewashref19.SameDir, of two directories that are equal. -/
import Derived.Test.YtddgbijhenkojaaGreatDoorQSamB
import Derived.Test.YtddgbijhenkojaaGreatDoorQPthR
import Derived.Handy
import Derived.Deep.DeepCutAuto
namespace Go.Proofs.YtddgbijhenkojaaGreatDoor
open Go.RowKit

theorem sameAtsD (u v : Value) (l : List Attr) (w : World) {B : Nat} (hu : AttIn B w u l) (hv : AttIn B w v l) (hl : l.length ≤ 1000000) :
    RetB Tryz.prog 28 #[u, v] w (.bool true) := by
  have := refSameA u v l l w hu.attrs hv.attrs hl
  rw [show decide (l = l) = true from decide_eq_true rfl] at this
  exact this
set_option maxRecDepth 100000 in
set_option maxHeartbeats 8000000 in
theorem refDirSame (B B' : Nat) (u v : Value) (d : DiN) (w : World) (hu : DirIn B w u d) (hv : DirIn B' w v d) (ha : d.ats.length ≤ 1000000) (hr : d.red.length ≤ 1000000) (hl : d.ens.length ≤ 1000) (he : ∀ x ∈ d.ens, x.nd.ats.length ≤ 1000000) :
    RetB Tryz.prog 10 #[u, v] w (.bool true) := by
  unfold RetB
  obtain ⟨va, vr, ve, rfl, h1, h2, h3⟩ := hu
  obtain ⟨va', vr', ve', rfl, h1', h2', h3'⟩ := hv
  obtain ⟨a3, cap3, rfl⟩ := h1.form
  obtain ⟨a4, cap4, rfl⟩ := h2.form
  obtain ⟨a5, cap5, rfl⟩ := h3.form
  obtain ⟨b3, dap3, rfl⟩ := h1'.form
  obtain ⟨b4, dap4, rfl⟩ := h2'.form
  obtain ⟨b5, dap5, rfl⟩ := h3'.form
  have HA := Lib.hid h1.attrs; have HA' := Lib.hid h1'.attrs; have HR := Lib.hid h2.strs; have HR' := Lib.hid h2'.strs
  have HE := Lib.hid h3; have HE' := Lib.hid h3'; have HX := Lib.hid he
  clear h1 h2 h3 h1' h2' h3' he
  have HS1 := Lib.hid (fun W (hW : Ext w W) => refSameA _ _ d.ats d.ats W (HA.out.ext hW) (HA'.out.ext hW) ha)
  have HS2 := Lib.hid (fun W (hW : Ext w W) => refSameT _ _ d.red W (HR.out.ext hW) (HR'.out.ext hW) hr)
  unfold RetB at HS2
  have qb : (d.opq != d.opq) = false := by cases d.opq <;> rfl
  go_enter Tryz.func10, Tryz.ntmps10
  go_upto_region 1 with fail
  refine name_world (P := fun W => Code.wp _ _ _ _ W) _ ?_
  intro W hW
  have Q1 : Hid (W.heap[w.heap.size]? = some (.cells #[.slice a3 d.ats.length cap3, .bool d.opq, .slice a4 d.red.length cap4, .slice a5 d.ens.length cap5] 26 (0, 0))) := Lib.hid (by rw [hW]; exact blk_alloc (blk_new w _))
  have Q2 : Hid (W.heap[w.heap.size + 1]? = some (.cells #[.slice b3 d.ats.length dap3, .bool d.opq, .slice b4 d.red.length dap4, .slice b5 d.ens.length dap5] 26 (0, 0))) := Lib.hid (by rw [hW]; exact blk_at (by simp))
  have HW : Hid (Ext w W) := Lib.hid (by rw [hW]; exact (ext_alloc _ _).trans (ext_alloc _ _))
  clear hW
  have k0 := blk_cell Q1.out 0; have k1 := blk_cell Q1.out 1; have k2 := blk_cell Q1.out 2; have k3 := blk_cell Q1.out 3
  have m0 := blk_cell Q2.out 0; have m1 := blk_cell Q2.out 1; have m2 := blk_cell Q2.out 2; have m3 := blk_cell Q2.out 3
  go_wp2_with (first
    | (go_at_call 28; go_loud (refine (sameAtsD _ _ d.ats _ (B := W.heap.size) (attIn_at (HA.out.ext HW.out)) (attIn_at (HA'.out.ext HW.out)) ha).mono ?_; rintro e w1 ⟨rfl, hb1⟩; have n1 := blk_cell (blk_ext hb1 Q1.out) 1; have n2 := blk_cell (blk_ext hb1 Q1.out) 2; have n3 := blk_cell (blk_ext hb1 Q1.out) 3; have o1 := blk_cell (blk_ext hb1 Q2.out) 1; have o2 := blk_cell (blk_ext hb1 Q2.out) 2; have o3 := blk_cell (blk_ext hb1 Q2.out) 3; have HB1 := Lib.hid hb1; clear hb1))
    | (go_at_call 29; go_loud (refine (HS2.out _ (HW.out.trans HB1.out)).mono ?_; rintro e w2 ⟨rfl, hb2⟩; have t3 := blk_cell (blk_ext (Ext.trans HB1.out hb2) Q1.out) 3; have s3 := blk_cell (blk_ext (Ext.trans HB1.out hb2) Q2.out) 3; have HB2 := Lib.hid (Ext.trans HB1.out hb2); clear hb2))
    | fail)
  clear k0 k1 k2 k3 m0 m1 m2 m3 n1 n2 n3 o1 o2 o3 t3 s3
  go_loopw [5] (fun i w' => ∃ (wi : World) (k : Nat), wi = w' ∧ k ≤ d.ens.length ∧ i = .int .i64 k ∧ Ext W wi) (fun i _ => d.ens.length - (intOf i).toNat)
  case atStart => exact ⟨_, 0, rfl, Nat.zero_le _, rfl, HB2.out⟩
  case round =>
    clear HB1 HB2
    obtain ⟨wi, k, rfl, hk, rfl, hE⟩ := hrel
    have HI := Lib.hid hE
    have k3 := blk_cell (blk_ext hE Q1.out) 3
    have m3 := blk_cell (blk_ext hE Q2.out) 3
    have hz1 := blk_lt (blk_ext hE Q1.out)
    have hz2 := blk_lt (blk_ext hE Q2.out)
    clear hE
    by_cases hlt : k < d.ens.length
    case neg =>
      obtain rfl : k = d.ens.length := by omega
      go_wp2
      go_ret
      exact ⟨rfl, HW.out.trans HI.out⟩
    obtain ⟨b, off, vx, hex, hbx, hva, c0, c1, c2, c3, c4, c5, c6, c7, c8, c9, c10, c11⟩ := (HE.out.ext okE (HW.out.trans HI.out)).en k hlt
    obtain ⟨b', off', vy, hey, hby, hvb, d0, d1, d2, d3, d4, d5, d6, d7, d8, d9, d10, d11⟩ := (HE'.out.ext okE (HW.out.trans HI.out)).en k hlt
    cases hex
    cases hey
    have HXL := Lib.hid (HX.out _ (List.getElem_mem hlt))
    have HVA := Lib.hid (attIn_at hva.attrs); have HVB := Lib.hid (attIn_at hvb.attrs)
    obtain ⟨a6, cap6, rfl⟩ := hva.form
    obtain ⟨b6, dap6, rfl⟩ := hvb.form
    generalize d.ens[k]'hlt = x at c0 c1 c2 c3 c4 c5 c6 c7 c8 c9 c10 c11 d0 d1 d2 d3 d4 d5 d6 d7 d8 d9 d10 d11 HVA HVB HXL
    have j1 : ((k : Nat) : Int) < (d.ens.length : Int) := by omega
    have j0 : (0 : Int) ≤ (k : Int) := by omega
    clear hva hvb
    go_upto_region 6 with fail
    go_cut [6, 7] (fun p q wx => ∃ g1 g2, p = .pointer (some ⟨g1, 0, none⟩) ∧ q = .pointer (some ⟨g2, 0, none⟩) ∧ Ext wi wx ∧
      wx.heap[g1]? = some (.cells #[.string x.nm, .int .i64 x.nd.dep, .string x.nd.nm, .int .i64 x.nd.kd, .slice a6 x.nd.ats.length cap6, .string x.nd.dat, .int .i64 x.nd.ma, .int .i64 x.nd.mi, .int .i64 x.nd.cl, .bool x.wh, .bool x.fi, .int .i64 x.ns] 32 (0, 0)) ∧
      wx.heap[g2]? = some (.cells #[.string x.nm, .int .i64 x.nd.dep, .string x.nd.nm, .int .i64 x.nd.kd, .slice b6 x.nd.ats.length dap6, .string x.nd.dat, .int .i64 x.nd.ma, .int .i64 x.nd.mi, .int .i64 x.nd.cl, .bool x.wh, .bool x.fi, .int .i64 x.ns] 32 (0, 0)))
    case first =>
      go_region
      all_goals
        go_wp2_with fail
        go_meet
        refine ⟨_, _, rfl, rfl, ?_, ?_, ?_⟩
        · first | exact ((ext_alloc _ _).trans (ext_alloc _ _)).trans (ext_drew _) | exact ((ext_alloc _ _).trans (ext_alloc _ _)).trans (ext_drewN _ _) | exact (ext_alloc _ _).trans (ext_alloc _ _)
        · first | exact blk_ext (ext_drew _) (blk_alloc (blk_new _ _)) | exact blk_ext (ext_drew _) (blk_at (by simp)) | exact blk_ext (ext_drewN _ _) (blk_alloc (blk_new _ _)) | exact blk_ext (ext_drewN _ _) (blk_at (by simp)) | exact blk_alloc (blk_new _ _) | exact blk_at (by simp)
        · first | exact blk_ext (ext_drew _) (blk_alloc (blk_new _ _)) | exact blk_ext (ext_drew _) (blk_at (by simp)) | exact blk_ext (ext_drewN _ _) (blk_alloc (blk_new _ _)) | exact blk_ext (ext_drewN _ _) (blk_at (by simp)) | exact blk_alloc (blk_new _ _) | exact blk_at (by simp)
    case rest =>
    obtain ⟨g1, g2, rfl, rfl, hE2, hg1, hg2⟩ := hcut
    have HI2 := Lib.hid (HI.out.trans hE2); have HE2 := Lib.hid hE2
    have e0 := blk_cell hg1 0; have e1 := blk_cell hg1 1; have e2 := blk_cell hg1 2; have e3 := blk_cell hg1 3; have e4 := blk_cell hg1 4; have e5 := blk_cell hg1 5; have e6 := blk_cell hg1 6; have e7 := blk_cell hg1 7; have e8 := blk_cell hg1 8; have e9 := blk_cell hg1 9; have e10 := blk_cell hg1 10; have e11 := blk_cell hg1 11
    have f0 := blk_cell hg2 0; have f1 := blk_cell hg2 1; have f2 := blk_cell hg2 2; have f3 := blk_cell hg2 3; have f4 := blk_cell hg2 4; have f5 := blk_cell hg2 5; have f6 := blk_cell hg2 6; have f7 := blk_cell hg2 7; have f8 := blk_cell hg2 8; have f9 := blk_cell hg2 9; have f10 := blk_cell hg2 10; have f11 := blk_cell hg2 11
    have hz3 := blk_lt hg1; have hz4 := blk_lt hg2
    clear hE2 hg1 hg2 c0 c1 c2 c3 c4 c5 c6 c7 c8 c9 c10 c11 d0 d1 d2 d3 d4 d5 d6 d7 d8 d9 d10 d11 k3 m3
    have q1 : (x.wh != x.wh) = false := by cases x.wh <;> rfl
    have q2 : (x.fi != x.fi) = false := by cases x.fi <;> rfl
    have HY := Lib.hid (sameTB_yes (a := [x.nd]) rfl)
    go_wp2_with fail
    have HT1 := Lib.hid (fun (o2 : Obj) => ((listIn_new (B := wi.heap.size) okT wc x.nd (trC x.nd (.slice a6 x.nd.ats.length cap6)) _ rfl ⟨_, HVA.out.ext okA HE2.out, rfl⟩).ext okT (ext_alloc _ o2)))
    have HT2 := Lib.hid (fun (o1 : Obj) => listIn_new (B := wi.heap.size) okT (wc.alloc o1) x.nd (trC x.nd (.slice b6 x.nd.ats.length dap6)) (wc.heap.size + 1) (by simp) ⟨_, HVB.out.ext okA (HE2.out.trans (ext_alloc _ o1)), rfl⟩)
    refine (refSameList _ _ _ _ [x.nd] [x.nd] _ (HT1.out _) (HT2.out _) (by simp) (fun y hy => by rw [List.mem_singleton.1 hy]; exact HXL.out)).mono ?_
    rintro e w5 ⟨rfl, hb5⟩
    rw [HY.out]
    have HB5 := Lib.hid (((ext_alloc _ _).trans (ext_alloc _ _)).trans hb5)
    clear hb5
    go_wp2
    go_roundw
    case rel => exact ⟨_, k + 1, rfl, by omega, by go_num, HI2.out.trans HB5.out⟩
    case measure => first | (simp [intOf]; done) | (simp [intOf]; omega)
end Go.Proofs.YtddgbijhenkojaaGreatDoor
