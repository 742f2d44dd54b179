/- escape.Parts. -/
import Derived.Test.YtnemfapegbehlaaDoorEscL
import Derived.Test.YtnemfapegbehlaaDoorPrtP
namespace Go.Proofs.YtnemfapegbehlaaDoor
open Go.RowKit

/-- Two rows that lie in different blocks. -/
def Apart (p o : Value) : Prop := ∀ b, p.ownBlock = some b → o.ownBlock ≠ some b
theorem Apart.symm {p o : Value} (h : Apart p o) : Apart o p := fun b h1 h2 => h b h2 h1
theorem Apart.keep {p o : Value} (h : Apart p o) : p.ownBlock = none ∨ o.ownBlock ≠ p.ownBlock := by
  cases e : p.ownBlock with
  | none => exact .inl rfl
  | some b => exact .inr (h b e)
theorem apart_step {B : Nat} {p v' o : Value} {l lo : List Attr} {W0 w w' : World} (hA : AppA B p v' l W0 w w') (ho : OwnA B w o lo) (h : Apart p o) : Apart v' o ∧ OwnA B w' o lo := by
  refine ⟨fun b hb hob => ?_, ho.keep hA.keep h.keep⟩
  rcases hA.lies with e | e
  · exact h b (e ▸ hb) hob
  · rw [e] at hb
    have hb' : w.heap.size = b := Option.some.inj hb
    have := (World.ownsRow.lt ho b hob).2
    omega
theorem blk_frozen {w : World} {b : Nat} {c : Array Value} {t : TypeId} (hb : w.heap[b]? = some (.cells c t (0, 0))) (o : Nat) : w.frozen? ⟨b, o, none⟩ = false := by
  simp [World.frozen?, hb]
theorem attrsAt_new' (w : World) (x : Attr) (n : Nat) (h : n = w.heap.size) : AttrsAt (w.alloc (.cells #[.string x.1, .string x.2] 42)) (.slice (some ⟨n, 0, none⟩) 1 1) [x] := by
  subst h; exact attrsAt_new w x
set_option maxRecDepth 100000 in
theorem escParts (d : Int) (v : Value) (l : List Attr) (w : World) (hL : Laid w) (hv : AttrsAt w v l) (hm : Small l) :
    Calls Tryd.prog 27 #[.int .i64 d, v] w fun e w' => (∃ v1 v2, e = .returned (.tuple #[v1, v2, .int .i64 (ptsE d l)]) ∧ AttrsAt w' v1 (ptsP d l) ∧ AttrsAt w' v2 (ptsO d l)) ∧ Ext w w' := by
  have HM := Lib.hid hm.million
  have HV := Lib.hid hv
  have HL := Lib.hid hL; clear hL
  by_cases h : listE d l = 0
  case neg =>
    obtain ⟨e1, e2, e3⟩ := pts_err h
    rw [e1, e2, e3]
    have h1 : (listE d l != 0) = true := bne_iff_ne.2 h
    clear h e1 e2 e3 hm hv
    go_enter Tryd.func27, Tryd.ntmps27
    go_wp2_with (go_at_call 53; refine (escCheck d _ l _ HV.out HM.out).mono ?_; rintro e w' ⟨rfl, hb⟩)
    go_ret3
    exact ⟨⟨_, _, rfl, AttrsAt.nil _ _ _, AttrsAt.nil _ _ _⟩, hb⟩
  obtain ⟨aa, cap, rfl, hcap, hc⟩ := hv
  have HC := Lib.hid hc; clear hc
  obtain ⟨d1, d2, hchk⟩ := listE_ok h
  have hl6 := chk_len hchk
  have HD := Lib.hid (dist_of_chk hchk)
  have h1 : (listE d l != 0) = false := by rw [h]; rfl
  have hE := Lib.hid h; clear h hm hchk
  have h0 := hE.out
  go_enter Tryd.func27, Tryd.ntmps27
  go_wp2_with (go_at_call 53; refine (escCheck d _ l _ HV.out HM.out).mono ?_; rintro e w1 ⟨rfl, hb⟩; have H1 := Lib.hid hb; clear hb)
  clear h0
  go_loopw [4, 5, 21] (fun p o c w' => ∃ (wi : World) (k : Nat), wi = w' ∧ k ≤ l.length ∧ c = .int .i64 k ∧ OwnA w.heap.size w' p (plR d (l.take k)) ∧ OwnA w.heap.size w' o (owR d (l.take k)) ∧ Apart p o ∧ PtOk d (l.take k) ∧ Ext w w') (fun _ _ c _ => l.length - (intOf c).toNat)
  case atStart => exact ⟨_, 0, rfl, Nat.zero_le _, rfl, OwnA.nil _ _, OwnA.nil _ _, (fun b hb => by cases hb), (fun a ha => by simp at ha), H1.out⟩
  case round =>
    obtain ⟨wi, k, rfl, hk, rfl, hp, ho, hap, hok, hb⟩ := hrel
    have HOK := Lib.hid hok; clear hok
    have HAP := Lib.hid hap; clear hap
    by_cases hlt : k < l.length
    · obtain ⟨bb, off, rfl, hbs, c1, c2⟩ := HC.out k hlt
      replace c1 := (ext_cell hb hbs).trans c1
      replace c2 := (ext_cell hb hbs).trans c2
      have hbs := Nat.lt_of_lt_of_le hbs hb.size
      have hx := (HM.out _ (List.getElem_mem hlt)).1
      by_cases he : baE d (l[k]'hlt).1 = 0
      · have HOK2 := Lib.hid (ptOk_step HOK.out hlt he)
        have he1 : (baE d (l[k]'hlt).1 != 0) = false := by rw [he]; rfl
        clear he
        cases hq : baO d (l[k]'hlt).1
        · have HP := Lib.hid (show plR d (l.take (k + 1)) = plR d (l.take k) ++ [(baS d (l[k]'hlt).1, (l[k]'hlt).2)] from plR_plain hlt hq)
          have HQ := Lib.hid (owR_plain hlt hq)
          have hlen : Hid ((plR d (l.take k)).length + 1 ≤ 1000) := by show _ ≤ _; have := plR_len d (l.take k); rw [List.length_take] at this; omega
          generalize l[k]'hlt = x at c1 c2 hx he1 hq HP
          have HPA := Lib.hid hp; clear hp
          have HOA := Lib.hid ho; clear ho
          have HB := Lib.hid hb; clear hb
          go_wp2_with (first
            | (go_at_call 21; refine (escBackAttr d x.1 _ (HL.out.ext (Ext.trans HB.out (ext_alloc _ _))) hx).mono ?_; rintro e w3 ⟨rfl, hb3⟩; rw [hq]; have a1 : w3.cell? ⟨wi.heap.size, 0, none⟩ = some (.string x.1) := blk_cell (blk_ext hb3 (blk_new wi _)) 0; have a2 : w3.cell? ⟨wi.heap.size, 1, none⟩ = some (.string x.2) := blk_cell (blk_ext hb3 (blk_new wi _)) 1; have f1 : w3.frozen? ⟨wi.heap.size, 0, none⟩ = false := blk_frozen (blk_ext hb3 (blk_new wi _)) 0; have HX : Hid (Ext wi (w3.setCell ⟨wi.heap.size, 0, none⟩ (.string (baS d x.1)))) := (Ext.trans (ext_alloc wi _) hb3).setCell (p := ⟨wi.heap.size, 0, none⟩) (Nat.le_refl _) _; have H3 := Lib.hid hb3; clear hb3)
            | (at_builtin; refine appA rfl (.tmp 35) (.tmp 37) rfl w.heap.size u4 _ (plR d (l.take k)) [(baS d x.1, x.2)] w _ rfl rfl (HPA.out.ext (HX.out.alloc HX.out.size _)) (attrsAt_new' _ (baS d x.1, x.2) _ (World.size_setCell _ _ _).symm) (Ext.trans HB.out (HX.out.alloc HX.out.size _)) (Nat.le_trans HB.out.size (HX.out.alloc HX.out.size _).size) hlen.out ?_; intro v4 w4 ha; have HS := Lib.hid (apart_step ha (HOA.out.ext (HX.out.alloc HX.out.size _)) HAP.out); have HA := Lib.hid ha; clear ha))
          go_roundw
          case rel => exact ⟨_, k + 1, rfl, by omega, by go_num, by rw [HP.out]; exact HA.out.own, by rw [HQ.out]; exact HS.out.2, HS.out.1, HOK2.out, HA.out.below⟩
          case measure => simp [intOf]; omega
        · have HP := Lib.hid (show owR d (l.take (k + 1)) = owR d (l.take k) ++ [(baS d (l[k]'hlt).1, (l[k]'hlt).2)] from owR_own hlt hq)
          have HQ := Lib.hid (plR_own hlt hq)
          have hlen : Hid ((owR d (l.take k)).length + 1 ≤ 1000) := by show _ ≤ _; have := owR_len d (l.take k); rw [List.length_take] at this; omega
          generalize l[k]'hlt = x at c1 c2 hx he1 hq HP
          have HPA := Lib.hid ho; clear ho
          have HOA := Lib.hid hp; clear hp
          have HB := Lib.hid hb; clear hb
          go_wp2_with (first
            | (go_at_call 21; refine (escBackAttr d x.1 _ (HL.out.ext (Ext.trans HB.out (ext_alloc _ _))) hx).mono ?_; rintro e w3 ⟨rfl, hb3⟩; rw [hq]; have a1 : w3.cell? ⟨wi.heap.size, 0, none⟩ = some (.string x.1) := blk_cell (blk_ext hb3 (blk_new wi _)) 0; have a2 : w3.cell? ⟨wi.heap.size, 1, none⟩ = some (.string x.2) := blk_cell (blk_ext hb3 (blk_new wi _)) 1; have f1 : w3.frozen? ⟨wi.heap.size, 0, none⟩ = false := blk_frozen (blk_ext hb3 (blk_new wi _)) 0; have HX : Hid (Ext wi (w3.setCell ⟨wi.heap.size, 0, none⟩ (.string (baS d x.1)))) := (Ext.trans (ext_alloc wi _) hb3).setCell (p := ⟨wi.heap.size, 0, none⟩) (Nat.le_refl _) _; have H3 := Lib.hid hb3; clear hb3)
            | (at_builtin; refine appA rfl (.tmp 44) (.tmp 46) rfl w.heap.size u5 _ (owR d (l.take k)) [(baS d x.1, x.2)] w _ rfl rfl (HPA.out.ext (HX.out.alloc HX.out.size _)) (attrsAt_new' _ (baS d x.1, x.2) _ (World.size_setCell _ _ _).symm) (Ext.trans HB.out (HX.out.alloc HX.out.size _)) (Nat.le_trans HB.out.size (HX.out.alloc HX.out.size _).size) hlen.out ?_; intro v4 w4 ha; have HS := Lib.hid (apart_step ha (HOA.out.ext (HX.out.alloc HX.out.size _)) HAP.out.symm); have HA := Lib.hid ha; clear ha))
          go_roundw
          case rel => exact ⟨_, k + 1, rfl, by omega, by go_num, by rw [HQ.out]; exact HS.out.2, by rw [HP.out]; exact HA.out.own, HS.out.1.symm, HOK2.out, HA.out.below⟩
          case measure => simp [intOf]; omega
      · have R := Lib.hid (pts_bad hE.out k hlt he)
        have he1 : (baE d (l[k]'hlt).1 != 0) = true := bne_iff_ne.2 he
        clear he
        generalize l[k]'hlt = x at c1 c2 hx he1
        clear hp ho
        have HB := Lib.hid hb; clear hb
        go_wp2_with (go_at_call 21; refine (escBackAttr d x.1 _ (HL.out.ext (Ext.trans HB.out (ext_alloc _ _))) hx).mono ?_; rintro e w3 ⟨rfl, hb3⟩; have a1 : w3.cell? ⟨wi.heap.size, 0, none⟩ = some (.string x.1) := blk_cell (blk_ext hb3 (blk_new wi _)) 0; have a2 : w3.cell? ⟨wi.heap.size, 1, none⟩ = some (.string x.2) := blk_cell (blk_ext hb3 (blk_new wi _)) 1; have f1 : w3.frozen? ⟨wi.heap.size, 0, none⟩ = false := blk_frozen (blk_ext hb3 (blk_new wi _)) 0; have HX : Hid (Ext wi (w3.setCell ⟨wi.heap.size, 0, none⟩ (.string (baS d x.1)))) := (Ext.trans (ext_alloc wi _) hb3).setCell (p := ⟨wi.heap.size, 0, none⟩) (Nat.le_refl _) _; have H3 := Lib.hid hb3; clear hb3)
        go_ret3
        exact ⟨⟨.slice none 0 0, .slice none 0 0, by rw [R.out.2.2]; rfl, by rw [R.out.1]; exact AttrsAt.nil _ _ _, by rw [R.out.2.1]; exact AttrsAt.nil _ _ _⟩, Ext.trans HB.out HX.out⟩
    · obtain rfl : k = l.length := by omega
      have hok := HOK.out
      rw [List.take_length] at hp ho hok
      have R := Lib.hid (pts_ok hE.out hok)
      have D1 := Lib.hid (dist_plR HD.out hok)
      have D2 := Lib.hid (dist_owR HD.out hok)
      have l1 : Hid ((plR d l).length ≤ 12) := by show _ ≤ _; have := plR_len d l; omega
      have l2 : Hid ((owR d l).length ≤ 12) := by show _ ≤ _; have := owR_len d l; omega
      have HPA := Lib.hid hp; clear hp
      have HOA := Lib.hid ho; clear ho
      have HB := Lib.hid hb; clear hb hok
      go_wp2_with (first
        | (go_at_call 56; refine (escSort _ u4 _ wi HPA.out HB.out.size l1.out).mono ?_; rintro e w3 ⟨rfl, m, hp, hs, hat, hbel, hkp⟩; have HM1 := Lib.hid (srt_of D1.out hp hs); clear hp hs; have A1 := Lib.hid hat; clear hat; have B1 : Hid (Ext w w3) := Below.trans HB.out hbel; clear hbel; have O1 : Hid (OwnA w.heap.size w3 u5 (owR d l)) := HOA.out.keep hkp HAP.out.keep; clear hkp)
        | (go_at_call 56; refine (escSort _ u5 _ w3 O1.out B1.out.size l2.out).mono ?_; rintro e w4 ⟨rfl, m2, hp, hs, hat, hbel, hkp⟩; have HM2 := Lib.hid (srt_of D2.out hp hs); clear hp hs; have A2 := Lib.hid hat; clear hat; have B2 : Hid (Ext w w4) := Below.trans B1.out hbel; have A3 : Hid (AttrsAt w4 u4 m) := A1.out.keep hkp hbel.size HAP.out.symm.keep; clear hbel hkp))
      go_ret3
      exact ⟨⟨u4, u5, by rw [R.out.2.2]; rfl, by rw [R.out.1, ← HM1.out]; exact A3.out, by rw [R.out.2.1, ← HM2.out]; exact A2.out⟩, B2.out⟩
end Go.Proofs.YtnemfapegbehlaaDoor
