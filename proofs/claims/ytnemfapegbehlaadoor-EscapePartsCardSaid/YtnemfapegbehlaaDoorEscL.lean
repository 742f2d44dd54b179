/- escape.Attrs. -/
import Derived.Test.YtnemfapegbehlaaDoorSrt
import Derived.Test.YtnemfapegbehlaaDoorLstP
namespace Go.Proofs.YtnemfapegbehlaaDoor
open Go.RowKit

theorem setMap_step {f : Attr → Attr} {l : List Attr} {k : Nat} (hk : k < l.length) (y : Attr) (hy : y = f (l[k]'hk)) : ((l.take k).map f ++ l.drop k).set k y = (l.take (k + 1)).map f ++ l.drop (k + 1) := by
  rw [List.set_append_right _ _ (by simp; omega), mapTake_step l k hk, List.append_assoc, List.drop_eq_getElem_cons hk]
  simp only [List.length_map, List.length_take, Nat.min_eq_left (Nat.le_of_lt hk), Nat.sub_self, List.set_cons_zero, hy, List.singleton_append]
theorem getMap_step {f : Attr → Attr} {l : List Attr} {k : Nat} (hk : k < l.length) (h : k < ((l.take k).map f ++ l.drop k).length) : ((l.take k).map f ++ l.drop k)[k]'h = l[k]'hk := by
  rw [List.getElem_append_right (by simp; omega)]
  simp [Nat.min_eq_left (Nat.le_of_lt hk)]
theorem lenMap {f : Attr → Attr} {l : List Attr} {k : Nat} : ((l.take k).map f ++ l.drop k).length = l.length := by
  simp; omega
set_option maxRecDepth 100000 in
theorem escAttrs (d : Int) (v : Value) (l : List Attr) (w : World) (hL : Laid w) (hv : AttrsAt w v l) (hm : Small l) :
    Calls Tryd.prog 25 #[.int .i64 d, v] w fun e w' => (∃ v', e = .returned (.tuple #[v', .int .i64 (atsE d l)]) ∧ AttrsAt w' v' (atsL d l)) ∧ Ext w w' := by
  have HM := Lib.hid hm.million
  have HV := Lib.hid hv; clear hv
  have HL := Lib.hid hL; clear hL
  by_cases h : listE d l = 0
  case neg =>
    obtain ⟨e1, e2⟩ := ats_err h
    rw [e1, e2]
    have h1 : (listE d l != 0) = true := bne_iff_ne.2 h
    clear h e1 e2 hm
    go_enter Tryd.func25, Tryd.ntmps25
    go_wp2_with (go_at_call 53; refine (escCheck d _ l _ HV.out HM.out).mono ?_; rintro e w' ⟨rfl, hb⟩)
    go_ret2
    exact ⟨⟨_, rfl, AttrsAt.nil _ _ _⟩, hb⟩
  obtain ⟨d1, d2, hchk⟩ := listE_ok h
  have hl6 := chk_len hchk
  obtain ⟨n, rfl⟩ : ∃ n : Nat, d = n := ⟨d.toNat, by omega⟩
  have hn1 : 1 ≤ n := by omega
  have hn4 : n ≤ 4 := by omega
  have HD := Lib.hid (dist_waA (n := n) (dist_of_chk hchk))
  have HWm := Lib.hid (wantA_million (d := (n : Int)) (l := l) (by omega) hm)
  have HWe := Lib.hid (show wantA (n : Int) l = srtA (l.map (waA n)) from rfl)
  have h1 : (listE n l == 0) = true := beq_iff_eq.2 h
  have hE := Lib.hid h; clear h hm hchk
  have h0 := hE.out
  go_enter Tryd.func25, Tryd.ntmps25
  go_wp2_with (first
    | (go_at_call 53; refine (escCheck n _ l _ HV.out HM.out).mono ?_; rintro e w1 ⟨rfl, hb⟩; have H1 := Lib.hid hb; clear hb; rw [h0])
    | (go_at_call 54; refine (slClone _ l _ (HV.out.ext H1.out) (by omega)).mono ?_; rintro e w2 ⟨⟨a2, cap2, rfl, ho⟩, hb⟩; have H2 := Lib.hid hb; clear hb; have HO := Lib.hid ho; clear ho))
  clear h0
  have HB0 : Hid (Ext w w2) := Ext.trans H1.out H2.out
  go_loopw [8, 19] (fun _ c w' => ∃ (wi : World) (k : Nat), wi = w' ∧ k ≤ l.length ∧ c = .int .i64 k ∧ OwnA w1.heap.size w' (.slice a2 l.length cap2) ((l.take k).map (waA n) ++ l.drop k) ∧ Ext w w' ∧ w1.heap.size ≤ w'.heap.size) (fun _ c _ => l.length - (intOf c).toNat)
  case atStart => exact ⟨_, 0, rfl, Nat.zero_le _, rfl, HO.out, HB0.out, H2.out.size⟩
  case round =>
    obtain ⟨wi, k, rfl, hk, rfl, ho, hb, hsz⟩ := hrel
    have HS := Lib.hid hsz; clear hsz
    by_cases hlt : k < l.length
    · obtain ⟨g, rfl, hg1, hg2, hln⟩ := ho.addr (by rw [lenMap]; omega)
      have hkl : k < ((l.take k).map (waA n) ++ l.drop k).length := by rw [lenMap]; exact hlt
      have hgm := getMap_step (f := waA n) hlt hkl
      have HST : Hid (∀ w', OwnA w1.heap.size w' (.slice (some ⟨g, 0, none⟩) l.length cap2) ((l.take k).map (waA n) ++ l.drop k) → OwnA w1.heap.size (w'.setCell ⟨g, k * 2, none⟩ (.string (waS n (l[k]'hlt).1))) (.slice (some ⟨g, 0, none⟩) l.length cap2) ((l.take (k + 1)).map (waA n) ++ l.drop (k + 1)) ∧ w'.grownBy (w'.setCell ⟨g, k * 2, none⟩ (.string (waS n (l[k]'hlt).1))) (some g)) := by
        intro w' h
        have h1 := h.store k hkl (waS n (l[k]'hlt).1)
        rw [hgm, setMap_step hlt (waS n (l[k]'hlt).1, (l[k]'hlt).2) rfl] at h1
        exact h1
      obtain ⟨a0, cap0, he0, hcc, hc0⟩ := ho.at
      obtain ⟨b0, o0, h0, hb0, c1, c2⟩ := hc0 k hkl
      injection he0 with he1 he2 he3
      rw [← he1] at h0
      cases h0
      rw [Nat.zero_add, hgm] at c1
      clear hc0 he1 he2 he3 hln hcc hb0 c2
      have hx := (HM.out _ (List.getElem_mem hlt)).1
      clear hgm hkl
      generalize l[k]'hlt = x at c1 HST hx
      have HO1 := Lib.hid ho; clear ho
      have HB := Lib.hid hb; clear hb
      go_wp2_with (go_at_call 44; refine (escWriteAttr n x.1 _ (HL.out.ext HB.out) hn1 hn4 hx).mono ?_; rintro e w3 ⟨rfl, hb3⟩; have c3 : w3.cell? ⟨g, k * 2, none⟩ = some (.string x.1) := (ext_cell hb3 hg2).trans c1; have f3 : w3.frozen? ⟨g, k * 2, none⟩ = false := (HO1.out.ext hb3).frozen _; have H3 := Lib.hid hb3; clear hb3)
      have OK := HST.out _ (HO1.out.ext H3.out)
      have HK := Lib.hid OK.1
      have HB4 : Hid (Ext w (w3.setCell ⟨g, k * 2, none⟩ (.string (waS n x.1)))) := (Ext.trans HB.out H3.out).grown OK.2 (Nat.le_trans HB.out.size H3.out.size) (fun k' hk' => by cases hk'; exact Nat.le_trans H1.out.size hg1)
      have HS2 : Hid (w1.heap.size ≤ (w3.setCell ⟨g, k * 2, none⟩ (.string (waS n x.1))).heap.size) := Nat.le_trans HS.out (Nat.le_trans H3.out.size OK.2.size)
      clear OK
      go_roundw
      case rel => exact ⟨_, k + 1, rfl, by omega, by go_num, HK.out, HB4.out, HS2.out⟩
      case measure => simp [intOf]; omega
    · obtain rfl : k = l.length := by omega
      rw [List.take_length, List.drop_length, List.append_nil] at ho
      have HO1 : Hid (OwnA w1.heap.size wi (.slice a2 l.length cap2) (l.map (waA n))) := ho
      have HB := Lib.hid hb; clear hb ho
      by_cases hc : chkE (wantA n l) = 0
      · have R := Lib.hid (ats_ok hE.out hc)
        have hc1 : (chkE (wantA n l) != 0) = false := by rw [hc]; rfl
        clear hc
        go_wp2_with (first
          | (go_at_call 56; refine (escSort _ _ _ _ HO1.out HS.out (by rw [List.length_map]; omega)).mono ?_; rintro e w3 ⟨rfl, m, hp, hs, hat, hbel, hkp⟩; clear hkp; obtain rfl : m = wantA n l := (srt_of HD.out hp hs).trans HWe.out.symm; clear hp hs; have HA := Lib.hid hat; clear hat; have HB3 := Lib.hid hbel; clear hbel)
          | (go_at_call 55; refine (attrsCheck _ (wantA n l) _ HA.out HWm.out).mono ?_; rintro e w4 ⟨rfl, hb4⟩; have HB4 := Lib.hid hb4; clear hb4))
        go_ret2
        exact ⟨⟨.slice a2 l.length cap2, by rw [R.out.2]; rfl, by rw [R.out.1]; exact HA.out.ext HB4.out⟩, Below.trans HB.out (Below.trans (HB3.out.mono H1.out.size) (HB4.out.mono (Nat.le_trans HB.out.size HB3.out.size)))⟩
      · have R := Lib.hid (ats_no hE.out hc)
        have hc1 : (chkE (wantA n l) != 0) = true := bne_iff_ne.2 hc
        clear hc
        go_wp2_with (first
          | (go_at_call 56; refine (escSort _ _ _ _ HO1.out HS.out (by rw [List.length_map]; omega)).mono ?_; rintro e w3 ⟨rfl, m, hp, hs, hat, hbel, hkp⟩; clear hkp; obtain rfl : m = wantA n l := (srt_of HD.out hp hs).trans HWe.out.symm; clear hp hs; have HA := Lib.hid hat; clear hat; have HB3 := Lib.hid hbel; clear hbel)
          | (go_at_call 55; refine (attrsCheck _ (wantA n l) _ HA.out HWm.out).mono ?_; rintro e w4 ⟨rfl, hb4⟩; have HB4 := Lib.hid hb4; clear hb4))
        go_ret2
        exact ⟨⟨.slice none 0 0, by rw [R.out.2]; rfl, by rw [R.out.1]; exact AttrsAt.nil _ _ _⟩, Below.trans HB.out (Below.trans (HB3.out.mono H1.out.size) (HB4.out.mono (Nat.le_trans HB.out.size HB3.out.size)))⟩
end Go.Proofs.YtnemfapegbehlaaDoor
