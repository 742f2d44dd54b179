/- limewashref24.Encode. -/
import Derived.Test.YtdnfjabkikgjfaaGreatDoorQBsdE
namespace Go.Proofs.YtdnfjabkikgjfaaGreatDoor
open Go.RowKit

set_option maxRecDepth 100000 in
set_option maxHeartbeats 8000000 in
theorem refBsdEncode (B : Nat) (w : World) (v : Value) (b : List BrN) (hb : BrIn B w v b) (hB : B ≤ w.heap.size) (hsm : SmallB b) :
    Calls Tryz.prog 12 #[v] w (EncP w b) := by
  obtain ⟨aa, cap, rfl⟩ := hb.form
  have HV := Lib.hid hb; have HSM := Lib.hid hsm
  have hlen := hsm.len
  clear hb hsm
  by_cases he : brEr b = 0
  case neg =>
    have HR := Lib.hid (enc_of (encT_br he))
    have q1 : (brEr b != 0) = true := bne_iff_ne.2 he
    clear he
    go_enter Tryz.func12, Tryz.ntmps12
    go_wp2_with (go_at_call 15; refine (refBrCheck B _ _ b HV.out hB HSM.out).mono ?_; rintro e w1 ⟨rfl, hb1⟩; have HB1 := Lib.hid hb1; clear hb1)
    go_ret3
    exact ⟨⟨w.heap.size, none, 0, 0, Nat.le_refl _, by rw [HR.out.2.1, HR.out.2.2]; rfl, by rw [HR.out.1]; exact OwnL.nil _ _ _⟩, HB1.out⟩
  have HE0 := Lib.hid he
  have HSA := Lib.hid (fun k hk => small_br he (k := k) hk)
  have q1 : (brEr b != 0) = false := bne_eq_false_iff_eq.2 he
  clear he
  go_enter Tryz.func12, Tryz.ntmps12
  go_wp2_with (first
    | (go_at_call 15; refine (refBrCheck B _ _ b HV.out hB HSM.out).mono ?_; rintro e w1 ⟨rfl, hb1⟩; have HB1 := Lib.hid hb1; clear hb1)
    | (go_at_call 18; refine (refTree B _ _ b (HV.out.ext okB HB1.out) (Nat.le_trans hB HB1.out.size) hlen HSM.out.ats).mono ?_; rintro e w2 ⟨⟨a5, cap5, rfl, ho⟩, hb2⟩; have HO := Lib.hid ho; have HB2 := Lib.hid (Ext.trans HB1.out hb2); clear ho hb2))
  go_loopw [6, 8] (fun _ c w' => ∃ (wi : World) (k : Nat), wi = w' ∧ k ≤ b.length ∧ c = .int .i64 k ∧ OwnL cdT w1.heap.size wi (.slice a5 b.length cap5) (mixM encX BrN.toTrN b k) ∧ (∀ j, j < k → encE b j = 0) ∧ Ext w wi) (fun _ c _ => b.length - (intOf c).toNat)
  case atStart => exact ⟨_, 0, rfl, Nat.zero_le _, rfl, by rw [mix_zero]; exact HO.out, fun j hj => absurd hj (by omega), HB2.out⟩
  case round =>
    clear HO HB2
    obtain ⟨wi, k, rfl, hk, rfl, ho, hok, hE⟩ := hrel
    have HO := Lib.hid ho; have HE := Lib.hid hE; have HOK := Lib.hid hok
    clear hok
    by_cases hlt : k < b.length
    case neg =>
      obtain rfl : k = b.length := by omega
      have HR := Lib.hid (enc_of (encT_ok HE0.out HOK.out))
      clear hE
      rw [mix_end] at ho
      have HO := Lib.hid ho
      clear ho
      go_wp2
      go_ret3
      exact ⟨⟨w1.heap.size, _, _, _, HB1.out.size, by rw [HR.out.2.1, HR.out.2.2]; rfl, by rw [HR.out.1]; exact HO.out⟩, HE.out⟩
    have HVI := Lib.hid (HV.out.ext okB HE.out)
    obtain ⟨bb, off, _, _, hex0, hbx0, _⟩ := HV.out.br k hlt
    obtain ⟨bb', off', va, vr, hex, hbx, hva, hvr, c0, c1, c2, c3, c4, c5, c6, c7, c8, c9⟩ := HVI.out.br k hlt
    cases hex0
    cases hex
    obtain ⟨a4, cap4, rfl⟩ := hvr.form
    obtain ⟨a3, cap3, rfl⟩ := hva.form
    have HVA := Lib.hid hva.attrs
    have D3 := Lib.hid c3; have D8 := Lib.hid c8
    have HG := Lib.hid (getB_at b k hlt)
    have HSX := Lib.hid (HSA.out k hlt)
    have HST := Lib.hid (mix_set encX BrN.toTrN b k hlt)
    have HGT := Lib.hid (fun h' => mix_get encX BrN.toTrN b k hlt h')
    generalize b[k]'hlt = x at c0 c1 c2 c3 c4 c5 c6 c7 c8 c9 D3 D8 HVA HG HSX HST HGT
    have j1 : ((k : Nat) : Int) < (b.length : Int) := by omega
    have j0 : (0 : Int) ≤ (k : Int) := by omega
    clear hva hvr hE
    by_cases hred : 0 < x.red.length
    · have hred' := lenP hred
      have HEE : Hid (encE b k = 15) := Lib.hid (by unfold encE; rw [HG.out, if_pos hred])
      have HR := Lib.hid (enc_of (encT_node HE0.out hlt HOK.out (by rw [HEE.out]; decide)))
      clear ho
      go_wp2
      go_ret3
      exact ⟨⟨w.heap.size, none, 0, 0, Nat.le_refl _, by rw [HR.out.2.1, HR.out.2.2, HEE.out]; rfl, by rw [HR.out.1]; exact OwnL.nil _ _ _⟩, HE.out⟩
    have hred' := lenZ hred
    have HEE : Hid (encE b k = bwE x.ats x.opq) := Lib.hid (by unfold encE; rw [HG.out, if_neg hred])
    obtain ⟨g, rfl, hg1, hg2, hq⟩ := ho.addr (by rw [mix_len]; omega)
    clear ho hq
    have HGL := Lib.hid hg1
    have HGN : Hid (g ≠ bb) := Lib.hid (by have := HB1.out.size; omega)
    have HCELL : Hid (∀ W, Ext wi W → ∃ u, W.cell? ⟨g, k * 8 + 3, none⟩ = some u) := Lib.hid (fun W hW => by
      have h := (HO.out.ext okT hW).in okT
      obtain ⟨b', off', va', e', _, _, _, _, _, h3, _⟩ := h.tr k (by rw [mix_len]; exact hlt)
      cases e'
      rw [Nat.zero_add] at h3
      exact ⟨_, h3⟩)
    have HSTO : Hid (∀ W v', Ext wi W → AttT W v' (bwL x.ats x.opq) → OwnL cdT w1.heap.size (W.setCell ⟨g, k * 8 + 3, none⟩ v') (.slice (some ⟨g, 0, none⟩) b.length cap5) (mixM encX BrN.toTrN b (k + 1))) := Lib.hid (fun W v' hW hv' => by
      have hk' : k < (mixM encX BrN.toTrN b k).length := by rw [mix_len]; exact hlt
      have h := ((HO.out.ext okT hW).store okT k hk' 3 (by decide) v' (encX x) (fun cs hr => by
        obtain ⟨va, _, rfl⟩ := hr
        rw [HGT.out hk']
        exact ⟨v', attT_in hv', rfl⟩)).1
      rw [HST.out] at h
      exact h)
    by_cases hw : bwE x.ats x.opq = 0
    · have q2 : (bwE x.ats x.opq != 0) = false := bne_eq_false_iff_eq.2 hw
      have HN : Hid (∀ j, j < k + 1 → encE b j = 0) := Lib.hid (fun j hj => by
        by_cases e : j = k
        · subst e; rw [HEE.out]; exact hw
        · exact HOK.out j (by omega))
      clear hw
      go_wp2
      refine name_world (P := fun W => Code.wp _ _ _ _ W) _ ?_
      intro W hW
      have HEW : Hid (Ext wi W) := Lib.hid (by rw [hW]; first | exact Below.refl _ _ | exact ext_drewN _ _ | exact ext_drew _)
      clear hW c0 c1 c2 c4 c5 c6 c7 c9
      have y3 : W.cell? ⟨bb, off + k * 10 + 3, none⟩ = some (.slice a3 x.ats.length cap3) := (ext_cell HEW.out hbx).trans c3
      have y8 : W.cell? ⟨bb, off + k * 10 + 8, none⟩ = some (.bool x.opq) := (ext_cell HEW.out hbx).trans c8
      clear c3 c8
      go_region_held3 (fun w' => w'.cell? ⟨bb, off + k * 10 + 3, none⟩ = some (.slice a3 x.ats.length cap3) ∧ w'.cell? ⟨bb, off + k * 10 + 8, none⟩ = some (.bool x.opq)) (first | go_keep | exact ⟨by first | assumption | exact (World.cell?_setCell_far _ _ _ _ HGN.out).trans z3, by first | assumption | exact (World.cell?_setCell_far _ _ _ _ HGN.out).trans z8⟩)
        (first
          | (go_at_call 39; refine (refBsdWrite _ x.ats x.opq _ (by first | exact HVA.out.ext (HEW.out.trans (ext_drew _)) | exact HVA.out.ext HEW.out) HSX.out).mono ?_; rintro e w3 ⟨⟨v3, rfl, ho3⟩, hb3⟩; obtain ⟨a6, c6', rfl, _, _⟩ := ho3.1; have HO3 := Lib.hid ho3; have HB3 : Hid (Ext wi w3) := Lib.hid (by first | exact (HEW.out.trans (ext_drew _)).trans hb3 | exact HEW.out.trans hb3); obtain ⟨u3, hu3⟩ := HCELL.out _ HB3.out; have f3 : w3.frozen? ⟨g, k * 8 + 3, none⟩ = false := (HO.out.ext okT HB3.out).frozen _; have z3 : w3.cell? ⟨bb, off + k * 10 + 3, none⟩ = some (.slice a3 x.ats.length cap3) := (ext_cell HB3.out hbx).trans D3.out; have z8 : w3.cell? ⟨bb, off + k * 10 + 8, none⟩ = some (.bool x.opq) := (ext_cell HB3.out hbx).trans D8.out; clear ho3 hb3)
          | fail)
      go_wp2
      have HK2 := Lib.hid (HSTO.out w3 _ HB3.out HO3.out)
      have HE2 : Hid (Ext w (w3.setCell ⟨g, k * 8 + 3, none⟩ (.slice a6 (bwL x.ats x.opq).length c6'))) := Lib.hid (Below.setCell (p := ⟨g, k * 8 + 3, none⟩) (HE.out.trans HB3.out) (Nat.le_trans HB1.out.size HGL.out) _)
      go_roundw
      case rel => exact ⟨_, k + 1, rfl, by omega, by go_num, HK2.out, HN.out, HE2.out⟩
      case measure => first | (simp [intOf]; done) | (simp [intOf]; omega)
    · have q2 : (bwE x.ats x.opq != 0) = true := bne_iff_ne.2 hw
      have HR := Lib.hid (enc_of (encT_node HE0.out hlt HOK.out (by rw [HEE.out]; exact hw)))
      clear hw
      go_wp2
      refine name_world (P := fun W => Code.wp _ _ _ _ W) _ ?_
      intro W hW
      have HEW : Hid (Ext wi W) := Lib.hid (by rw [hW]; first | exact Below.refl _ _ | exact ext_drewN _ _ | exact ext_drew _)
      clear hW c0 c1 c2 c4 c5 c6 c7 c9
      have y3 : W.cell? ⟨bb, off + k * 10 + 3, none⟩ = some (.slice a3 x.ats.length cap3) := (ext_cell HEW.out hbx).trans c3
      have y8 : W.cell? ⟨bb, off + k * 10 + 8, none⟩ = some (.bool x.opq) := (ext_cell HEW.out hbx).trans c8
      clear c3 c8
      go_region_held3 (fun w' => w'.cell? ⟨bb, off + k * 10 + 3, none⟩ = some (.slice a3 x.ats.length cap3) ∧ w'.cell? ⟨bb, off + k * 10 + 8, none⟩ = some (.bool x.opq)) (first | go_keep | exact ⟨by first | assumption | exact (World.cell?_setCell_far _ _ _ _ HGN.out).trans z3, by first | assumption | exact (World.cell?_setCell_far _ _ _ _ HGN.out).trans z8⟩)
        (first
          | (go_at_call 39; refine (refBsdWrite _ x.ats x.opq _ (by first | exact HVA.out.ext (HEW.out.trans (ext_drew _)) | exact HVA.out.ext HEW.out) HSX.out).mono ?_; rintro e w3 ⟨⟨v3, rfl, ho3⟩, hb3⟩; obtain ⟨a6, c6', rfl, _, _⟩ := ho3.1; have HO3 := Lib.hid ho3; have HB3 : Hid (Ext wi w3) := Lib.hid (by first | exact (HEW.out.trans (ext_drew _)).trans hb3 | exact HEW.out.trans hb3); obtain ⟨u3, hu3⟩ := HCELL.out _ HB3.out; have f3 : w3.frozen? ⟨g, k * 8 + 3, none⟩ = false := (HO.out.ext okT HB3.out).frozen _; have z3 : w3.cell? ⟨bb, off + k * 10 + 3, none⟩ = some (.slice a3 x.ats.length cap3) := (ext_cell HB3.out hbx).trans D3.out; have z8 : w3.cell? ⟨bb, off + k * 10 + 8, none⟩ = some (.bool x.opq) := (ext_cell HB3.out hbx).trans D8.out; clear ho3 hb3)
          | fail)
      go_wp2
      have HE2 : Hid (Ext w (w3.setCell ⟨g, k * 8 + 3, none⟩ (.slice a6 (bwL x.ats x.opq).length c6'))) := Lib.hid (Below.setCell (p := ⟨g, k * 8 + 3, none⟩) (HE.out.trans HB3.out) (Nat.le_trans HB1.out.size HGL.out) _)
      go_ret3
      exact ⟨⟨w.heap.size, none, 0, 0, Nat.le_refl _, by rw [HR.out.2.1, HR.out.2.2, HEE.out]; rfl, by rw [HR.out.1]; exact OwnL.nil _ _ _⟩, HE2.out⟩
end Go.Proofs.YtdnfjabkikgjfaaGreatDoor
