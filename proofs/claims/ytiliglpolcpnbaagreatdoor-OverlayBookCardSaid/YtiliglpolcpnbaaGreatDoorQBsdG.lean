/- bsd.Decode. -/
/- limewashref24.Decode. -/
/- limewashref19.Same, of two branches that are equal. -/
import Derived.Test.YtiliglpolcpnbaaGreatDoorQWlkR
import Derived.Test.YtiliglpolcpnbaaGreatDoorQBrnC
import Derived.Test.YtiliglpolcpnbaaGreatDoorQBrnH
namespace Go.Proofs.YtiliglpolcpnbaaGreatDoor
open Go.RowKit
theorem getT_chk {t : List TrN} (h : treeE t = 0) {k : Nat} (hk : k < t.length) : chkE (getT t k).ats = 0 := (node_parts ((treeE_zero h).2.2.1 k hk)).2.2.2.1
theorem small_chk {l : List Attr} (h : chkE l = 0) : Small l := fun a ha => by have := size_of_chk h a ha; omega
end Go.Proofs.YtiliglpolcpnbaaGreatDoor

namespace Go.Proofs.YtiliglpolcpnbaaGreatDoor
open Go.RowKit
end Go.Proofs.YtiliglpolcpnbaaGreatDoor

namespace Go.Proofs.YtiliglpolcpnbaaGreatDoor
open Go.RowKit

theorem refSameT (u v : Value) (a : List ByteArray) (w : World) (hu : StrsAt w u a) (hv : StrsAt w v a) (hl : a.length ≤ 1000000) : RetB Tryz.prog 57 #[u, v] w (.bool true) := by
  have h := refSameS u v a a w hu hv hl
  have e : ∀ (i : Decidable (a = a)), @decide (a = a) i = true := fun i => by cases i with | isTrue _ => rfl | isFalse h => exact absurd rfl h
  rw [e] at h
  exact h
set_option maxRecDepth 100000 in
set_option maxHeartbeats 8000000 in
theorem refBrSame (B B' : Nat) (u v : Value) (b : List BrN) (w : World) (hu : BrIn B w u b) (hv : BrIn B' w v b) (hB : B ≤ w.heap.size) (hB' : B' ≤ w.heap.size) (hl : b.length ≤ 1000) (hats : ∀ x ∈ b, x.ats.length ≤ 1000) (hred : ∀ x ∈ b, x.red.length ≤ 1000) :
    RetB Tryz.prog 21 #[u, v] w (.bool true) := by
  unfold RetB
  obtain ⟨aa, cap, rfl⟩ := hu.form
  obtain ⟨ba, cap2, rfl⟩ := hv.form
  have HU := Lib.hid hu; have HV := Lib.hid hv; have HA := Lib.hid hats; have HRD := Lib.hid hred
  have HTA : Hid (∀ x ∈ plT b, x.ats.length ≤ 1000000) := Lib.hid (fun x hx => by
    obtain ⟨y, hy, rfl⟩ := List.mem_map.1 hx
    have := hats y hy
    show y.ats.length ≤ _; omega)
  have HTL : Hid ((plT b).length ≤ 1000000) := Lib.hid (by rw [plT_len]; omega)
  have HY := Lib.hid (sameTB_yes (a := plT b) rfl)
  clear hu hv hats hred
  go_enter Tryz.func21, Tryz.ntmps21
  go_wp2_with fail
  refine (refTree B _ _ b HU.out hB hl HA.out).mono ?_
  rintro e w1 ⟨⟨a5, cap5, rfl, ho⟩, hb1⟩
  have HO1 := Lib.hid ho; have HB1 := Lib.hid hb1; clear ho hb1
  go_wp2_with fail
  refine (refTree B' _ _ b (HV.out.ext okB HB1.out) (Nat.le_trans hB' HB1.out.size) hl HA.out).mono ?_
  rintro e w2 ⟨⟨a6, cap6, rfl, ho⟩, hb2⟩
  have HO2 := Lib.hid ho; have HO3 := Lib.hid (HO1.out.ext okT hb2); have HB2 := Lib.hid (Ext.trans HB1.out hb2); clear ho hb2
  go_wp2_with fail
  have hq : b.length = (plT b).length := (plT_len b).symm
  rw [hq]
  refine (refSameList _ _ _ _ (plT b) (plT b) _ (by have := HO3.out.in okT; rw [hq] at this; exact this) (by have := HO2.out.in okT; rw [hq] at this; exact this) HTL.out HTA.out).mono ?_
  rintro e w3 ⟨rfl, hb3⟩
  rw [HY.out]; have HB3 := Lib.hid (Ext.trans HB2.out hb3); clear hb3
  rw [← hq]
  clear hq
  go_wp2
  go_loopw [5] (fun i w' => ∃ (wi : World) (k : Nat), wi = w' ∧ k ≤ b.length ∧ i = .int .i64 k ∧ Ext w wi) (fun i _ => b.length - (intOf i).toNat)
  case atStart => exact ⟨_, 0, rfl, Nat.zero_le _, rfl, HB3.out⟩
  case round =>
    clear HB3 HB2 HB1 HO1 HO2 HO3
    obtain ⟨wi, k, rfl, hk, rfl, hE⟩ := hrel
    have HE := Lib.hid hE
    by_cases hlt : k < b.length
    case neg =>
      obtain rfl : k = b.length := by omega
      clear hE
      go_wp2
      go_ret
      exact ⟨rfl, HE.out⟩
    obtain ⟨b1, o1, va1, vr1, hex1, hb1, _, hvr1, _, _, _, _, _, _, _, _, c8, c9⟩ := (HU.out.ext okB HE.out).br k hlt
    obtain ⟨b2, o2, va2, vr2, hex2, hb2, _, hvr2, _, _, _, _, _, _, _, _, d8, d9⟩ := (HV.out.ext okB HE.out).br k hlt
    cases hex1
    cases hex2
    have HR1 := Lib.hid hvr1.strs; have HR2 := Lib.hid hvr2.strs
    obtain ⟨a4, cap4, rfl⟩ := hvr1.form
    obtain ⟨a7, cap7, rfl⟩ := hvr2.form
    have HRL := Lib.hid (HRD.out _ (List.getElem_mem hlt))
    generalize b[k]'hlt = x at c8 c9 d8 d9 HR1 HR2 HRL
    have j1 : ((k : Nat) : Int) < (b.length : Int) := by omega
    have j0 : (0 : Int) ≤ (k : Int) := by omega
    have HC1 := Lib.hid c8; have HC2 := Lib.hid c9; have HC3 := Lib.hid d8; have HC4 := Lib.hid d9
    clear hvr1 hvr2 hE
    have qb : (x.opq != x.opq) = false := by cases x.opq <;> rfl
    go_wp2
    go_region_held3 (fun w' => w'.cell? ⟨b1, o1 + k * 10 + 8, none⟩ = some (.bool x.opq) ∧ w'.cell? ⟨b1, o1 + k * 10 + 9, none⟩ = some (.slice a4 x.red.length cap4) ∧ w'.cell? ⟨b2, o2 + k * 10 + 8, none⟩ = some (.bool x.opq) ∧ w'.cell? ⟨b2, o2 + k * 10 + 9, none⟩ = some (.slice a7 x.red.length cap7)) (first | go_keep | exact ⟨by assumption, by assumption, by assumption, by assumption⟩)
      (first
        | (go_at_call 57; refine (refSameT _ _ x.red _ (by first | exact HR1.out.ext (ext_drew _) | exact HR1.out) (by first | exact HR2.out.ext (ext_drew _) | exact HR2.out) (by have := HRL.out; omega)).mono ?_; rintro e w4 ⟨rfl, hb4⟩; have HB4 : Hid (Ext wi w4) := Lib.hid (by first | exact (ext_drew _).trans hb4 | exact hb4); have y0 := (ext_cell HB4.out hb1).trans HC1.out; have y1 := (ext_cell HB4.out hb1).trans HC2.out; have y2 := (ext_cell HB4.out hb2).trans HC3.out; have y3 := (ext_cell HB4.out hb2).trans HC4.out; clear hb4)
        | fail)
    go_wp2
    go_roundw
    case rel => exact ⟨_, k + 1, rfl, by omega, by go_num, HE.out.trans HB4.out⟩
    case measure => first | (simp [intOf]; done) | (simp [intOf]; omega)
end Go.Proofs.YtiliglpolcpnbaaGreatDoor
