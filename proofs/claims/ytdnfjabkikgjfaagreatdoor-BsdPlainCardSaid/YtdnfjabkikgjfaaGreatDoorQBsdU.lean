/- limewashref19.Tree, once more: the attributes of its nodes are the call's own. -/
import Derived.Test.YtdnfjabkikgjfaaGreatDoorQBsdV
namespace Go.Proofs.YtdnfjabkikgjfaaGreatDoor
open Go.RowKit

/-- A node whose attributes lie in rows of their type. -/
def cdTc : Cd TrN := { cdT with R := fun _ w x cs => ∃ va, AttIn 0 w va x.ats ∧ cs = trC x va }
theorem okTc : CdOk Tryz.prog cdTc where
  sl := okT.sl
  len := fun h => by obtain ⟨va, _, rfl⟩ := h; rfl
  one := fun h u hu => by
    obtain ⟨va, h1, rfl⟩ := h
    have := slice_one h1
    simp [trC] at hu
    rcases hu with rfl | rfl | rfl | rfl | rfl | rfl | rfl | rfl <;> first | rfl | exact this
  chg := fun h c hE => by
    obtain ⟨va, h1, rfl⟩ := h
    exact ⟨va, h1.chg okA ⟨c.keep, c.size, fun g hg => ⟨Nat.zero_le _, (c.isrow g hg).2⟩⟩ (fun e => hE (by rw [e]; simp [cdTc, cdT, cdA])) (by simp [cdA]), rfl⟩
  mono := fun _ h => h
  self := by decide
theorem own_of_c {B B' : Nat} {w : World} {v : Value} {l : List TrN} (h : OwnL cdTc B w v l) (hB : B' ≤ B) : OwnL cdT B' w v l := by
  obtain ⟨css, hl, hR, ho⟩ := h
  refine ⟨css, hl, fun i hi hi' => ?_, ho.1, ho.2.imp_right fun ⟨g, cap, cur, h1, h2, h3⟩ => ⟨g, cap, cur, h1, Nat.le_trans hB h2, h3⟩⟩
  obtain ⟨va, h1, e⟩ := hR i hi hi'
  exact ⟨va, h1.mono okA (Nat.zero_le _), e⟩
set_option maxRecDepth 100000 in
set_option maxHeartbeats 8000000 in
theorem refTreeC (B : Nat) (w : World) (v : Value) (b : List BrN) (hb : BrIn B w v b) (hB : B ≤ w.heap.size) (hl : b.length ≤ 1000) (hats : ∀ x ∈ b, x.ats.length ≤ 1000) :
    Calls Tryz.prog 18 #[v] w fun e w' => (∃ a cap, e = .returned (.slice a b.length cap) ∧ OwnL cdTc w.heap.size w' (.slice a b.length cap) (plT b)) ∧ Ext w w' := by
  obtain ⟨aa, cap, rfl⟩ := hb.form
  have HV := Lib.hid hb; clear hb
  have HAT := Lib.hid hats; clear hats
  go_enter Tryz.func18, Tryz.ntmps18
  go_wp2
  go_loopw [3, 4] (fun o i w' => ∃ (wi : World) (k : Nat), wi = w' ∧ k ≤ b.length ∧ i = .int .i64 k ∧ OwnL cdTc w.heap.size wi o (plT (b.take k)) ∧ Ext w wi) (fun _ i _ => b.length - (intOf i).toNat)
  case atStart => exact ⟨_, 0, rfl, Nat.zero_le _, rfl, OwnL.nil _ _ _, Below.refl _ _⟩
  case round =>
    obtain ⟨wi, k, rfl, hk, rfl, ho, hE⟩ := hrel
    have HO := Lib.hid ho; have HE := Lib.hid hE
    obtain ⟨a5, cap5, rfl⟩ := ho.form
    clear ho hE
    by_cases hlt : k < b.length
    case neg =>
      obtain rfl : k = b.length := by omega
      have HR : Hid (OwnL cdTc w.heap.size wi (.slice a5 b.length cap5) (plT b)) := Lib.hid (by have := HO.out; rw [plT_all, plT_len] at this; exact this)
      have hq : (plT (b.take b.length)).length = b.length := by rw [plT_all, plT_len]
      go_wp2
      go_ret
      exact ⟨⟨a5, cap5, by rw [hq]; rfl, HR.out⟩, HE.out⟩
    obtain ⟨bb, off, va, vr, hex, hbx, hva, hvr, xx⟩ := HV.out.br k hlt
    cases hex
    obtain ⟨c0, c1, c2, c3, c4, c5, c6, c7, c8, c9⟩ := cells10 HE.out hbx xx
    have HVA := Lib.hid hva
    obtain ⟨a4, cap4, rfl⟩ := hvr.form
    obtain ⟨a3, cap3, rfl⟩ := hva.form
    have HL : Hid ((b[k]'hlt).ats.length ≤ 1000) := HAT.out _ (List.getElem_mem hlt)
    have HS := Lib.hid (plT_succ b k hlt)
    generalize b[k]'hlt = x at c0 c1 c2 c3 c4 c5 c6 c7 c8 c9 HVA HL HS
    have HW : Hid (w.heap.size ≤ wi.heap.size) := HE.out.size
    have j1 : ((k : Nat) : Int) < (b.length : Int) := by omega
    have j0 : (0 : Int) ≤ (k : Int) := by omega
    have hq : (plT (b.take k)).length = k := by rw [plT_len, List.length_take]; omega
    have HQ := Lib.hid hq; clear hq
    clear xx hva hvr
    go_wp2_with (first | (go_at_call 44; refine (refNode B _ x _ _ (HVA.out.ext okA HE.out) (Nat.le_trans hB HW.out) HL.out ⟨_, _, _, rfl⟩).mono ?_; rintro e w1 ⟨⟨va1, rfl, hv1⟩, hb1⟩; have HV1 := Lib.hid hv1; have HB1 := Lib.hid hb1; clear hv1 hb1) | (at_builtin; refine appL okTc rfl (.tmp 11) (.tmp 17) rfl _ _ (plT (b.take k)) [x.toTrN] w _ rfl rfl (by exact (HO.out.ext okTc HB1.out).ext okTc (ext_alloc _ _)) (by exact listIn_new okTc _ x.toTrN (trC x.toTrN va1) _ rfl ⟨va1, HV1.out, rfl⟩) (by exact (HE.out.trans HB1.out).trans (ext_alloc _ _)) (by have := HB1.out.size; have := HW.out; simp; omega) (by have := HQ.out; simp; omega) ?_; intro v2 w2 ha; have HA := Lib.hid ha; clear ha))
    go_roundw
    case rel => exact ⟨_, k + 1, rfl, by omega, by go_num, by rw [HS.out]; exact HA.out.own, HA.out.below⟩
    case measure => first | (simp [intOf]; done) | (simp [intOf]; omega)
/-- The attributes of one node are taken away, in two lists that the call owns. -/
theorem step2 {B g g' n n' c c' k : Nat} {W : World} {lt lo : List TrN} (ht : OwnL cdT B W (.slice (some ⟨g, 0, none⟩) n c) lt) (ho : OwnL cdT B W (.slice (some ⟨g', 0, none⟩) n' c') lo) (hk : k < lt.length) (hk' : k < lo.length) (hne : g ≠ g') :
    ∃ va vo u, W.cell? ⟨g, k * 8 + 3, none⟩ = some va ∧ AttIn B W va (lt[k]'hk).ats ∧ W.cell? ⟨g', k * 8 + 3, none⟩ = some vo ∧ AttIn B W vo (lo[k]'hk').ats ∧ W.frozen? ⟨g, k * 8 + 3, none⟩ = false
      ∧ (W.setCell ⟨g, k * 8 + 3, none⟩ (.slice none 0 0)).cell? ⟨g', k * 8 + 3, none⟩ = some u ∧ (W.setCell ⟨g, k * 8 + 3, none⟩ (.slice none 0 0)).frozen? ⟨g', k * 8 + 3, none⟩ = false
      ∧ OwnL cdT B ((W.setCell ⟨g, k * 8 + 3, none⟩ (.slice none 0 0)).setCell ⟨g', k * 8 + 3, none⟩ (.slice none 0 0)) (.slice (some ⟨g, 0, none⟩) n c) (lt.set k (bareT (lt[k]'hk)))
      ∧ OwnL cdT B ((W.setCell ⟨g, k * 8 + 3, none⟩ (.slice none 0 0)).setCell ⟨g', k * 8 + 3, none⟩ (.slice none 0 0)) (.slice (some ⟨g', 0, none⟩) n' c') (lo.set k (bareT (lo[k]'hk'))) := by
  obtain ⟨b1, o1, va, e1, _, ha, _, _, _, h3, _⟩ := (ht.in okT).tr k hk
  obtain ⟨b2, o2, vo, e2, _, hb, _, _, _, i3, _⟩ := (ho.in okT).tr k hk'
  cases e1; cases e2
  rw [Nat.zero_add] at h3 i3
  obtain ⟨s1, _, s3⟩ := ht.store okT k hk 3 (by decide) (.slice none 0 0) (bareT (lt[k]'hk)) (fun cs hr => by
    obtain ⟨va, _, rfl⟩ := hr
    exact ⟨_, attIn_nil _ _ _, rfl⟩)
  have ho1 := ho.chg okT s3 okT.self (.inr (by intro e; exact hne (Option.some.inj e).symm))
  obtain ⟨b3, o3, vu, e3, _, _, _, _, _, j3, _⟩ := (ho1.in okT).tr k hk'
  cases e3
  rw [Nat.zero_add] at j3
  obtain ⟨r1, _, r3⟩ := ho1.store okT k hk' 3 (by decide) (.slice none 0 0) (bareT (lo[k]'hk')) (fun cs hr => by
    obtain ⟨va, _, rfl⟩ := hr
    exact ⟨_, attIn_nil _ _ _, rfl⟩)
  have ht2 := s1.chg okT r3 okT.self (.inr (by intro e; exact hne (Option.some.inj e)))
  exact ⟨va, vo, vu, h3, ha, i3, hb, ht.frozen _, j3, ho1.frozen _, ht2, r1⟩
theorem sameBare (B : Nat) (b : List BrN) (u v : Value) (w : World) (hu : OwnL cdT B w u (b.map fun x => bareT (encX x))) (hv : OwnL cdT B w v (b.map fun x => bareT x.toTrN)) (hl : b.length ≤ 130) :
    RetB Tryz.prog 14 #[u, v] w (.bool true) := by
  have := refSameList B B u v (b.map fun x => bareT x.toTrN) (b.map fun x => bareT x.toTrN) w (hu.in okT) (hv.in okT) (by rw [List.length_map]; omega) (fun x hx => by
    obtain ⟨y, _, rfl⟩ := List.mem_map.1 hx
    exact Nat.zero_le _)
  rw [sameTB_yes (a := b.map fun x => bareT x.toTrN) rfl] at this
  exact this
theorem sameAts (u v : Value) (l : List Attr) (w : World) {B : Nat} (hu : AttIn B w u l) (hv : AttIn B w v l) (hl : l.length ≤ 1000000) :
    RetB Tryz.prog 19 #[u, v] w (.bool true) := by
  have := refSameA u v l l w hu.attrs hv.attrs hl
  rw [show decide (l = l) = true from decide_eq_true rfl] at this
  exact this
end Go.Proofs.YtdnfjabkikgjfaaGreatDoor
