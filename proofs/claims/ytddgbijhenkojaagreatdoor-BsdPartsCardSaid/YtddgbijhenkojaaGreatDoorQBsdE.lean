/- bsd.Encode. -/
import Derived.Test.YtddgbijhenkojaaGreatDoorQBsdW
import Derived.Test.YtddgbijhenkojaaGreatDoorQWlkR
namespace Go.Proofs.YtddgbijhenkojaaGreatDoor
open Go.RowKit

section
variable {α β : Type} (f g : α → β) (l : List α)
/-- The first elements by one function, the others by another one. -/
def mixM (k : Nat) : List β := (l.take k).map f ++ (l.drop k).map g
theorem mix_zero : mixM f g l 0 = l.map g := by simp [mixM]
theorem mix_len (k : Nat) : (mixM f g l k).length = l.length := by unfold mixM; simp; omega
theorem mix_end : mixM f g l l.length = l.map f := by simp [mixM]
theorem mix_get (k : Nat) (h : k < l.length) (h' : k < (mixM f g l k).length) : (mixM f g l k)[k]'h' = g (l[k]'h) := by
  apply Option.some_inj.1
  rw [← List.getElem?_eq_getElem]
  unfold mixM
  rw [List.getElem?_append_right (by simp; omega)]
  simp [Nat.min_eq_left (Nat.le_of_lt h), h]
theorem mix_set (k : Nat) (h : k < l.length) : (mixM f g l k).set k (f (l[k]'h)) = mixM f g l (k + 1) := by
  unfold mixM
  rw [List.set_append_right _ _ (by simp; omega), List.take_succ_eq_append_getElem h, List.map_append, List.append_assoc, List.drop_eq_getElem_cons h]
  simp only [List.length_map, List.length_take, Nat.min_eq_left (Nat.le_of_lt h), Nat.sub_self, List.map_cons, List.set_cons_zero, List.map_nil, List.singleton_append]
end
theorem small_br {b : List BrN} (h : brEr b = 0) {k : Nat} (hk : k < b.length) : Small (b[k]'hk).ats := by
  have hz := treeE_zero (brEr_zero h).1
  obtain ⟨_, _, _, hc, _⟩ := node_parts (hz.2.2.1 k (by rw [plT_len]; exact hk))
  rw [getT_plT b k hk, getB_at b k hk] at hc
  intro a ha
  have := size_of_chk hc a ha
  omega
/-- What Encode leaves. -/
def EncP (w : World) (b : List BrN) (e : Ending) (w' : World) : Prop := (∃ B' a n cap, w.heap.size ≤ B' ∧ e = .returned (.tuple #[.slice a n cap, .int .i64 (encN b), .int .i64 (encF b)]) ∧ OwnL cdT B' w' (.slice a n cap) (encL b)) ∧ Ext w w'
theorem attT_in {B : Nat} {w : World} {v : Value} {l : List Attr} (h : AttT w v l) : AttIn B w v l := attIn_of h.1 fun _ b hb => .inr (h.2 b hb)
set_option maxRecDepth 100000 in
set_option maxHeartbeats 8000000 in
theorem bsdEncode (B : Nat) (w : World) (v : Value) (b : List BrN) (hL : Laid w) (hb : BrIn B w v b) (hsm : SmallB b) :
    Calls Tryz.prog 14 #[v] w (EncP w b) := by
  obtain ⟨aa, cap, rfl⟩ := hb.form
  have HV := Lib.hid hb; have HL := Lib.hid hL; have HSM := Lib.hid hsm
  have hlen := hsm.len
  clear hb hL hsm
  by_cases he : brEr b = 0
  case neg =>
    have HR := Lib.hid (enc_of (encT_br he))
    have q1 : (brEr b != 0) = true := bne_iff_ne.2 he
    clear he
    go_enter Tryz.func14, Tryz.ntmps14
    go_wp2_with (go_at_call 34; refine (brCheck B _ _ b HV.out HSM.out).mono ?_; rintro e w1 ⟨rfl, hb1⟩; have HB1 := Lib.hid hb1; clear hb1)
    go_ret3
    exact ⟨⟨w.heap.size, none, 0, 0, Nat.le_refl _, by rw [HR.out.2.1, HR.out.2.2]; rfl, by rw [HR.out.1]; exact OwnL.nil _ _ _⟩, HB1.out⟩
  have HE0 := Lib.hid he
  have HSA := Lib.hid (fun k hk => small_br he (k := k) hk)
  have q1 : (brEr b != 0) = false := bne_eq_false_iff_eq.2 he
  clear he
  go_enter Tryz.func14, Tryz.ntmps14
  go_wp2_with (first
    | (go_at_call 34; refine (brCheck B _ _ b HV.out HSM.out).mono ?_; rintro e w1 ⟨rfl, hb1⟩; have HB1 := Lib.hid hb1; clear hb1)
    | (go_at_call 35; refine (brTree B _ _ b (HV.out.ext okB HB1.out) hlen HSM.out.ats).mono ?_; rintro e w2 ⟨⟨a5, cap5, rfl, ho⟩, hb2⟩; have HO := Lib.hid ho; have HB2 := Lib.hid (Ext.trans HB1.out hb2); clear ho hb2))
  go_loopw [2, 4, 7, 8, 22] (fun o _ _ _ c w' => ∃ (wi : World) (k : Nat), wi = w' ∧ k ≤ b.length ∧ o = .slice a5 b.length cap5 ∧ c = .int .i64 k ∧ OwnL cdT w1.heap.size wi (.slice a5 b.length cap5) (mixM encX BrN.toTrN b k) ∧ (∀ j, j < k → encE b j = 0) ∧ Ext w wi) (fun _ _ _ _ c _ => b.length - (intOf c).toNat)
  case atStart => exact ⟨_, 0, rfl, Nat.zero_le _, rfl, rfl, by rw [mix_zero]; exact HO.out, fun j hj => absurd hj (by omega), HB2.out⟩
  case round =>
    clear HO HB2
    obtain ⟨wi, k, rfl, hk, rfl, rfl, ho, hok, hE⟩ := hrel
    have HO := Lib.hid ho; have HE := Lib.hid hE; have HOK := Lib.hid hok
    clear hok
    by_cases hlt : k < b.length
    case neg =>
      obtain rfl : k = b.length := by omega
      have HR := Lib.hid (enc_of (encT_ok HE0.out HOK.out))
      clear hE
      rw [mix_end] at ho
      have HO := Lib.hid ho
      clear ho
      go_wp2
      go_ret3
      exact ⟨⟨w1.heap.size, _, _, _, HB1.out.size, by rw [HR.out.2.1, HR.out.2.2]; rfl, by rw [HR.out.1]; exact HO.out⟩, HE.out⟩
    have HVI := Lib.hid (HV.out.ext okB HE.out)
    obtain ⟨bb, off, va, vr, hex, hbx, hva, hvr, c0, c1, c2, c3, c4, c5, c6, c7, c8, c9⟩ := HVI.out.br k hlt
    cases hex
    obtain ⟨a4, cap4, rfl⟩ := hvr.form
    obtain ⟨a3, cap3, rfl⟩ := hva.form
    have HVA := Lib.hid hva.attrs
    have HG := Lib.hid (getB_at b k hlt)
    have HSX := Lib.hid (HSA.out k hlt)
    have HST := Lib.hid (mix_set encX BrN.toTrN b k hlt)
    have HGT := Lib.hid (fun h' => mix_get encX BrN.toTrN b k hlt h')
    generalize b[k]'hlt = x at c0 c1 c2 c3 c4 c5 c6 c7 c8 c9 HVA HG HSX HST HGT
    have j1 : ((k : Nat) : Int) < (b.length : Int) := by omega
    have j0 : (0 : Int) ≤ (k : Int) := by omega
    clear hva hvr hE
    by_cases hred : 0 < x.red.length
    · have hred' := lenP hred
      have HEE : Hid (encE b k = 15) := Lib.hid (by unfold encE; rw [HG.out, if_pos hred])
      have HR := Lib.hid (enc_of (encT_node HE0.out hlt HOK.out (by rw [HEE.out]; decide)))
      clear ho
      go_wp2
      go_ret3
      exact ⟨⟨w.heap.size, none, 0, 0, Nat.le_refl _, by rw [HR.out.2.1, HR.out.2.2, HEE.out]; rfl, by rw [HR.out.1]; exact OwnL.nil _ _ _⟩, HE.out.trans (ext_alloc _ _)⟩
    have hred' := lenZ hred
    have HEE : Hid (encE b k = bwE x.ats x.opq) := Lib.hid (by unfold encE; rw [HG.out, if_neg hred])
    obtain ⟨g, rfl, hg1, hg2, hq⟩ := ho.addr (by rw [mix_len]; omega)
    clear ho hq
    have HGL := Lib.hid hg1
    have HCELL : Hid (∀ W, Ext wi W → ∃ u, W.cell? ⟨g, k * 8 + 3, none⟩ = some u) := Lib.hid (fun W hW => by
      have h := (HO.out.ext okT hW).in okT
      obtain ⟨b', off', va', e', _, _, _, _, _, h3, _⟩ := h.tr k (by rw [mix_len]; exact hlt)
      cases e'
      rw [Nat.zero_add] at h3
      exact ⟨_, h3⟩)
    have HSTO : Hid (∀ W v', Ext wi W → AttT W v' (bwL x.ats x.opq) → OwnL cdT w1.heap.size (W.setCell ⟨g, k * 8 + 3, none⟩ v') (.slice (some ⟨g, 0, none⟩) b.length cap5) (mixM encX BrN.toTrN b (k + 1))) := Lib.hid (fun W v' hW hv' => by
      have hk' : k < (mixM encX BrN.toTrN b k).length := by rw [mix_len]; exact hlt
      have h := ((HO.out.ext okT hW).store okT k hk' 3 (by decide) v' (encX x) (fun cs hr => by
        obtain ⟨va, _, rfl⟩ := hr
        rw [HGT.out hk']
        exact ⟨v', attT_in hv', rfl⟩)).1
      rw [HST.out] at h
      exact h)
    by_cases hw : bwE x.ats x.opq = 0
    · have q2 : (bwE x.ats x.opq != 0) = false := bne_eq_false_iff_eq.2 hw
      have HN : Hid (∀ j, j < k + 1 → encE b j = 0) := Lib.hid (fun j hj => by
        by_cases e : j = k
        · subst e; rw [HEE.out]; exact hw
        · exact HOK.out j (by omega))
      clear hw
      go_wp2_with (go_at_call 23; refine (bsdWrite _ x.ats x.opq _ (HL.out.ext (HE.out.trans (ext_alloc _ _))) (HVA.out.ext (ext_alloc _ _)) HSX.out).mono ?_; rintro e w3 ⟨⟨v3, rfl, ho3⟩, hb3⟩; obtain ⟨a6, c6', rfl, _, _⟩ := ho3.1; have HO3 := Lib.hid ho3; have HB3 := Lib.hid ((ext_alloc _ _).trans hb3); obtain ⟨u3, hu3⟩ := HCELL.out _ HB3.out; have f3 : w3.frozen? ⟨g, k * 8 + 3, none⟩ = false := (HO.out.ext okT HB3.out).frozen _; clear ho3 hb3)
      have HK2 := Lib.hid (HSTO.out w3 _ HB3.out HO3.out)
      have HE2 : Hid (Ext w (w3.setCell ⟨g, k * 8 + 3, none⟩ (.slice a6 (bwL x.ats x.opq).length c6'))) := Lib.hid (Below.setCell (p := ⟨g, k * 8 + 3, none⟩) (HE.out.trans HB3.out) (Nat.le_trans HB1.out.size HGL.out) _)
      go_roundw
      case rel => exact ⟨_, k + 1, rfl, by omega, rfl, by go_num, HK2.out, HN.out, HE2.out⟩
      case measure => first | (simp [intOf]; done) | (simp [intOf]; omega)
    · have q2 : (bwE x.ats x.opq != 0) = true := bne_iff_ne.2 hw
      have HR := Lib.hid (enc_of (encT_node HE0.out hlt HOK.out (by rw [HEE.out]; exact hw)))
      clear hw
      go_wp2_with (go_at_call 23; refine (bsdWrite _ x.ats x.opq _ (HL.out.ext (HE.out.trans (ext_alloc _ _))) (HVA.out.ext (ext_alloc _ _)) HSX.out).mono ?_; rintro e w3 ⟨⟨v3, rfl, ho3⟩, hb3⟩; obtain ⟨a6, c6', rfl, _, _⟩ := ho3.1; have HO3 := Lib.hid ho3; have HB3 := Lib.hid ((ext_alloc _ _).trans hb3); obtain ⟨u3, hu3⟩ := HCELL.out _ HB3.out; have f3 : w3.frozen? ⟨g, k * 8 + 3, none⟩ = false := (HO.out.ext okT HB3.out).frozen _; clear ho3 hb3)
      have HE2 : Hid (Ext w (w3.setCell ⟨g, k * 8 + 3, none⟩ (.slice a6 (bwL x.ats x.opq).length c6'))) := Lib.hid (Below.setCell (p := ⟨g, k * 8 + 3, none⟩) (HE.out.trans HB3.out) (Nat.le_trans HB1.out.size HGL.out) _)
      go_ret3
      exact ⟨⟨w.heap.size, none, 0, 0, Nat.le_refl _, by rw [HR.out.2.1, HR.out.2.2, HEE.out]; rfl, by rw [HR.out.1]; exact OwnL.nil _ _ _⟩, HE2.out⟩
theorem bsdCan (B : Nat) (w : World) (v : Value) (b : List BrN) (hL : Laid w) (hb : BrIn B w v b) (hsm : SmallB b) :
    RetB Tryz.prog 21 #[v] w (.tuple #[.int .i64 (encN b), .int .i64 (encF b)]) := by
  unfold RetB
  have HV := Lib.hid hb; have HL := Lib.hid hL; have HSM := Lib.hid hsm
  clear hb hL hsm
  go_enter Tryz.func21, Tryz.ntmps21
  go_wp2_with (go_at_call 14; refine (bsdEncode B _ _ b HL.out HV.out HSM.out).mono ?_; rintro e w1 ⟨⟨B', a, n, c, _, rfl, _⟩, hb1⟩; have HB1 := Lib.hid hb1; clear hb1)
  go_ret2
  exact ⟨rfl, HB1.out⟩
end Go.Proofs.YtddgbijhenkojaaGreatDoor
