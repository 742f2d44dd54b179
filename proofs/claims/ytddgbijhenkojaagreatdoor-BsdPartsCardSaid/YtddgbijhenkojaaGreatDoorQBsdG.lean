/- bsd.Decode. -/
import Derived.Test.YtddgbijhenkojaaGreatDoorQBsdF
namespace Go.Proofs.YtddgbijhenkojaaGreatDoor
open Go.RowKit

theorem rawNode (x : TrN) (va : Value) (hva : ∃ a n c, va = .slice a n c) (a : Option Addr) (n cap : Nat) (o : Bool) (w : World) :
    Calls Tryz.prog 42 #[trV x va, .slice a n cap, .bool o] w fun e w' => e = .returned (.agg #[.int .i64 x.dep, .string x.nm, .int .i64 x.kd, .slice a n cap, .string x.dat, .int .i64 x.ma, .int .i64 x.mi, .int .i64 x.cl, .bool o, .slice none 0 0]) ∧ Ext w w' := by
  obtain ⟨a3, n3, c3, rfl⟩ := hva
  unfold trV
  go_enter Tryz.func42, Tryz.ntmps42
  go_wp2
  refine bodyPost_ret (v := .agg #[.int .i64 x.dep, .string x.nm, .int .i64 x.kd, .slice a n cap, .string x.dat, .int .i64 x.ma, .int .i64 x.mi, .int .i64 x.cl, .bool o, .slice none 0 0]) (by simp [results, Tryz.f42, go_sem]) rfl ?_
  exact ⟨rfl, (ext_alloc _ _).trans (ext_alloc _ _)⟩
theorem baS_size {s : ByteArray} (h : baE 4 s = 0) : (baS 4 s).size ≤ s.size + 100 := by
  cases ba_is h with
  | plain h1 _ => rw [(ba_of h1).1]; omega
  | mark h1 _ => rw [(ba_of h1).1]; have := cutP_le s (dP (4 : Int).toNat); omega
  | own h1 _ _ _ =>
    rw [(ba_of h1).1, ByteArray.size_append]
    have h2 := cutP_le s (dP (4 : Int).toNat)
    have h3 := cutP_le (cutP s (dP (4 : Int).toNat)) (dI (4 : Int).toNat)
    have h4 : (dP (4 : Int).toNat).size ≤ 30 := by decide
    omega
theorem bdP_small {l : List Attr} (h : chkE l = 0) : (bdP l).length ≤ 6 ∧ ∀ a ∈ bdP l, a.1.size ≤ 200 ∧ a.2.size ≤ 200 := by
  have hs := size_of_chk h
  have hl := (chk_parts h).1
  have hn : (([] : List Attr).length ≤ 6 ∧ ∀ a ∈ ([] : List Attr), a.1.size ≤ 200 ∧ a.2.size ≤ 200) := ⟨Nat.zero_le _, fun a ha => by cases ha⟩
  by_cases h1 : ptsE 4 l = 0
  case neg => rw [(bd_of (bd_err h1)).1]; exact hn
  by_cases h2 : valB (ptsO 4 l) = true
  · rw [(bd_of (bd_val h1 h2)).1]; exact hn
  rw [(bd_of (bd_ok h1 (Bool.eq_false_iff.2 h2))).1]
  unfold ptsP
  by_cases h3 : listE 4 l = 0 ∧ ptB 4 l = true
  case neg => rw [if_neg h3]; exact hn
  rw [if_pos h3]
  have hok := ptB_iff.1 h3.2
  refine ⟨?_, fun a ha => ?_⟩
  · rw [(srtA_perm _).length_eq]; exact Nat.le_trans (plR_len 4 l) hl
  · have ha := (srtA_perm _).mem_iff.1 ha
    unfold plR at ha
    obtain ⟨y, hy, rfl⟩ := List.mem_map.1 ha
    have hy := (List.mem_filter.1 hy).1
    have := baS_size (hok y hy)
    have := hs y hy
    show (baS 4 y.1).size ≤ 200 ∧ y.2.size ≤ 200
    omega
theorem getT_chk {t : List TrN} (h : treeE t = 0) {k : Nat} (hk : k < t.length) : chkE (getT t k).ats = 0 := (node_parts ((treeE_zero h).2.2.1 k hk)).2.2.2.1
/-- What is decoded is not too long. -/
theorem dec_small {t : List TrN} (h : treeE t = 0) (hs : SmallT t) : SmallB (t.map decX) := by
  have hp : plT (t.map decX) = t.map fun x => { x with ats := bdP x.ats } := by unfold plT; rw [List.map_map]; rfl
  have hb : ∀ x ∈ t, (bdP x.ats).length ≤ 6 ∧ ∀ a ∈ bdP x.ats, a.1.size ≤ 200 ∧ a.2.size ≤ 200 := by
    intro x hx
    obtain ⟨k, hk, rfl⟩ := List.getElem_of_mem hx
    have := getT_chk h hk
    rw [getT_at t k hk] at this
    exact bdP_small this
  refine ⟨?_, ?_, ?_, ?_⟩
  · rw [hp]
    intro y hy
    obtain ⟨x, hx, rfl⟩ := List.mem_map.1 hy
    obtain ⟨h1, h2⟩ := hb x hx
    exact ⟨(hs x hx).1, fun a ha => by have := h2 a ha; omega, by show (bdP x.ats).length ≤ _; omega⟩
  · intro y hy
    obtain ⟨x, hx, rfl⟩ := List.mem_map.1 hy
    have := (hb x hx).1
    show (bdP x.ats).length ≤ _; omega
  · intro y hy
    obtain ⟨x, hx, rfl⟩ := List.mem_map.1 hy
    exact ⟨Nat.zero_le _, fun s hs => by cases hs⟩
  · rw [List.length_map]; have := (treeE_zero h).2.1; omega
/-- What Decode leaves. -/
def DecP (w : World) (t : List TrN) (e : Ending) (w' : World) : Prop := (∃ a n cap, e = .returned (.tuple #[.slice a n cap, .int .i64 (decN t), .int .i64 (decF t)]) ∧ OwnL cdB w.heap.size w' (.slice a n cap) (decL t)) ∧ Ext w w'
theorem small_chk {l : List Attr} (h : chkE l = 0) : Small l := fun a ha => by have := size_of_chk h a ha; omega
set_option maxRecDepth 100000 in
set_option maxHeartbeats 16000000 in
theorem bsdDecode (B : Nat) (w : World) (v : Value) (t : List TrN) (hL : Laid w) (hv : TrIn B w v t) (hsm : SmallT t) :
    Calls Tryz.prog 19 #[v] w (DecP w t) := by
  obtain ⟨aa, cap, rfl⟩ := hv.form
  have HV := Lib.hid hv; have HL := Lib.hid hL; have HSM := Lib.hid hsm
  clear hv hL hsm
  by_cases he : treeE t = 0
  case neg =>
    have HR := Lib.hid (dec_of (decT_tree he))
    have q1 : (treeE t != 0) = true := bne_iff_ne.2 he
    clear he
    go_enter Tryz.func19, Tryz.ntmps19
    go_wp2_with (go_at_call 41; refine (treeCheck B _ t _ HV.out HSM.out).mono ?_; rintro e w1 ⟨rfl, hb1⟩; have HB1 := Lib.hid hb1; clear hb1)
    go_ret3
    exact ⟨⟨none, 0, 0, by rw [HR.out.2.1, HR.out.2.2]; rfl, by rw [HR.out.1]; exact OwnL.nil _ _ _⟩, HB1.out⟩
  have HE0 := Lib.hid he
  have HCH := Lib.hid (fun k hk => getT_chk he (k := k) hk)
  have hlen := (treeE_zero he).2.1
  have HSD := Lib.hid (dec_small he HSM.out)
  have q1 : (treeE t != 0) = false := bne_eq_false_iff_eq.2 he
  clear he
  go_enter Tryz.func19, Tryz.ntmps19
  go_wp2_with (go_at_call 41; refine (treeCheck B _ t _ HV.out HSM.out).mono ?_; rintro e w1 ⟨rfl, hb1⟩; have HB1 := Lib.hid hb1; clear hb1)
  go_loopw [2, 25] (fun o c w' => ∃ (wi : World) (k : Nat), wi = w' ∧ k ≤ t.length ∧ c = .int .i64 k ∧ OwnL cdB w.heap.size wi o ((t.take k).map decX) ∧ (∀ j, j < k → decE t j = 0) ∧ Ext w wi) (fun _ c _ => t.length - (intOf c).toNat)
  case atStart => exact ⟨_, 0, rfl, Nat.zero_le _, rfl, OwnL.nil _ _ _, fun j hj => absurd hj (by omega), HB1.out⟩
  case round =>
    clear HB1
    obtain ⟨wi, k, rfl, hk, rfl, ho, hok, hE⟩ := hrel
    have HO := Lib.hid ho; have HE := Lib.hid hE; have HOK := Lib.hid hok
    obtain ⟨a5, cap5, rfl⟩ := ho.form
    clear hok ho
    by_cases hlt : k < t.length
    case neg =>
      obtain rfl : k = t.length := by omega
      have ho := HO.out
      have hq : ((t.take t.length).map decX).length = t.length := by simp
      rw [hq] at ho
      rw [List.take_length] at ho
      have HO := Lib.hid ho
      clear ho hE
      rw [hq]
      by_cases hb : brEr (t.map decX) = 0
      · have HR := Lib.hid (dec_of (decT_ok HE0.out HOK.out hb))
        have q3 : (brEr (t.map decX) != 0) = false := bne_eq_false_iff_eq.2 hb
        clear hb hq
        go_wp2_with (go_at_call 34; refine (brCheck w.heap.size _ _ (t.map decX) (HO.out.in okB) HSD.out).mono ?_; rintro e w2 ⟨rfl, hb2⟩; have HB2 := Lib.hid hb2; clear hb2)
        go_ret3
        exact ⟨⟨_, _, _, by rw [HR.out.2.1, HR.out.2.2]; rfl, by rw [HR.out.1]; exact HO.out.ext okB HB2.out⟩, HE.out.trans HB2.out⟩
      · have HR := Lib.hid (dec_of (decT_br HE0.out HOK.out hb))
        have q3 : (brEr (t.map decX) != 0) = true := bne_iff_ne.2 hb
        clear hb hq
        go_wp2_with (go_at_call 34; refine (brCheck w.heap.size _ _ (t.map decX) (HO.out.in okB) HSD.out).mono ?_; rintro e w2 ⟨rfl, hb2⟩; have HB2 := Lib.hid hb2; clear hb2)
        go_ret3
        exact ⟨⟨none, 0, 0, by rw [HR.out.2.1, HR.out.2.2]; rfl, by rw [HR.out.1]; exact OwnL.nil _ _ _⟩, HE.out.trans HB2.out⟩
    have hqk : ((t.take k).map decX).length = k := by simp; omega
    rw [hqk] at HO ⊢
    have HQK := Lib.hid hqk
    clear hqk
    obtain ⟨bb, off, va, hex, hbx, hva, c0, c1, c2, c3, c4, c5, c6, c7⟩ := (HV.out.ext okT HE.out).tr k hlt
    cases hex
    obtain ⟨a3, cap3, rfl⟩ := hva.form
    have HVA := Lib.hid hva.attrs
    have HG := Lib.hid (getT_at t k hlt)
    have hch := HCH.out k hlt
    rw [getT_at t k hlt] at hch
    have HSX := Lib.hid (small_chk hch)
    have HTS : Hid ((t.take (k + 1)).map decX = (t.take k).map decX ++ [decX (t[k]'hlt)]) := Lib.hid (by rw [List.take_succ_eq_append_getElem hlt, List.map_append]; rfl)
    generalize t[k]'hlt = x at c0 c1 c2 c3 c4 c5 c6 c7 HVA HG HSX HTS
    have j1 : ((k : Nat) : Int) < (t.length : Int) := by omega
    have j0 : (0 : Int) ≤ (k : Int) := by omega
    clear hva hE hch
    by_cases hbe : bdE x.ats = 0
    case neg =>
      have HEE : Hid (decE t k = bdE x.ats) := Lib.hid (by unfold decE; rw [HG.out, if_neg (fun h => hbe h.1)])
      have HR := Lib.hid (dec_of (decT_node HE0.out hlt HOK.out (by rw [HEE.out]; exact hbe)))
      have q2 : (bdE x.ats == 0) = false := beq_eq_false_iff_ne.2 hbe
      have q3 : (bdE x.ats != 0) = true := bne_iff_ne.2 hbe
      clear hbe
      go_wp2_with (go_at_call 31; refine (bsdRead _ x.ats _ (HL.out.ext (HE.out.trans (ext_alloc _ _))) (HVA.out.ext (ext_alloc _ _)) HSX.out).mono ?_; rintro e w3 ⟨⟨v3, rfl, ho3⟩, hb3⟩; have HB3 := Lib.hid ((ext_alloc _ _).trans hb3); clear ho3 hb3)
      go_ret3
      exact ⟨⟨none, 0, 0, by rw [HR.out.2.1, HR.out.2.2, HEE.out]; rfl, by rw [HR.out.1]; exact OwnL.nil _ _ _⟩, HE.out.trans HB3.out⟩
    have HBE := Lib.hid hbe
    by_cases hbad : bdO x.ats = true ∧ x.kd ≠ 1
    · have HEE : Hid (decE t k = 6) := Lib.hid (by unfold decE; rw [HG.out, if_pos ⟨hbe, hbad.1, hbad.2⟩])
      have HR := Lib.hid (dec_of (decT_node HE0.out hlt HOK.out (by rw [HEE.out]; decide)))
      have HBO := Lib.hid hbad.1
      have q4 : (x.kd != 1) = true := bne_iff_ne.2 hbad.2
      clear hbe hbad
      go_wp2_with (go_at_call 31; refine (bsdRead _ x.ats _ (HL.out.ext (HE.out.trans (ext_alloc _ _))) (HVA.out.ext (ext_alloc _ _)) HSX.out).mono ?_; rintro e w3 ⟨⟨v3, rfl, ho3⟩, hb3⟩; rw [HBE.out, HBO.out]; obtain ⟨a6, c6', rfl, _, _⟩ := ho3.1; have HO3 := Lib.hid ho3; have HB3 := Lib.hid ((ext_alloc _ _).trans hb3); have HXB := Lib.hid (blk_ext hb3 (blk_new wi (.cells #[.int .i64 x.dep, .string x.nm, .int .i64 x.kd, .slice a3 x.ats.length cap3, .string x.dat, .int .i64 x.ma, .int .i64 x.mi, .int .i64 x.cl] 30 (0, 0)))); have y0 := blk_cell HXB.out 0; have y1 := blk_cell HXB.out 1; have y2 := blk_cell HXB.out 2; have y3 := blk_cell HXB.out 3; have y4 := blk_cell HXB.out 4; have y5 := blk_cell HXB.out 5; have y6 := blk_cell HXB.out 6; have y7 := blk_cell HXB.out 7; clear ho3 hb3)
      go_ret3
      exact ⟨⟨none, 0, 0, by rw [HR.out.2.1, HR.out.2.2, HEE.out]; rfl, by rw [HR.out.1]; exact OwnL.nil _ _ _⟩, HE.out.trans HB3.out⟩
    have HEE : Hid (decE t k = 0) := Lib.hid (by unfold decE; rw [HG.out, if_neg (fun h => hbad h.2)]; exact hbe)
    have HN : Hid (∀ j, j < k + 1 → decE t j = 0) := Lib.hid (fun j hj => by
      by_cases e : j = k
      · subst e; exact HEE.out
      · exact HOK.out j (by omega))
    have q4 : bdO x.ats = true → (x.kd != 1) = false := fun h => bne_eq_false_iff_eq.2 (Decidable.not_not.1 fun e => hbad ⟨h, e⟩)
    cases hbo : bdO x.ats
    all_goals
      have HBO := Lib.hid hbo
      try have q5 := q4 hbo
      have HDX : Hid (decX x = { x with ats := bdP x.ats, opq := bdO x.ats, red := [] }) := Lib.hid rfl
      rw [hbo] at HDX
      clear hbe hbad hbo q4
      go_wp2_with (first
        | (go_at_call 31; refine (bsdRead _ x.ats _ (HL.out.ext (HE.out.trans (ext_alloc _ _))) (HVA.out.ext (ext_alloc _ _)) HSX.out).mono ?_; rintro e w3 ⟨⟨v3, rfl, ho3⟩, hb3⟩; rw [HBE.out, HBO.out]; obtain ⟨a6, c6', rfl, _, _⟩ := ho3.1; have HO3 := Lib.hid ho3; have HB3 := Lib.hid ((ext_alloc _ _).trans hb3); have HXB := Lib.hid (blk_ext hb3 (blk_new wi (.cells #[.int .i64 x.dep, .string x.nm, .int .i64 x.kd, .slice a3 x.ats.length cap3, .string x.dat, .int .i64 x.ma, .int .i64 x.mi, .int .i64 x.cl] 30 (0, 0)))); have y0 := blk_cell HXB.out 0; have y1 := blk_cell HXB.out 1; have y2 := blk_cell HXB.out 2; have y3 := blk_cell HXB.out 3; have y4 := blk_cell HXB.out 4; have y5 := blk_cell HXB.out 5; have y6 := blk_cell HXB.out 6; have y7 := blk_cell HXB.out 7; clear ho3 hb3)
        | (go_at_call 42; refine (rawNode x _ ⟨_, _, _, rfl⟩ _ _ _ _ _).mono ?_; rintro e w4 ⟨rfl, hb4⟩; have HB4 := Lib.hid (HB3.out.trans hb4); have HO4 := Lib.hid (HO3.out.ext hb4); clear hb4)
        | (at_builtin; refine appL okB rfl (.tmp 51) (.tmp 57) rfl _ _ ((t.take k).map decX) [decX x] w _ rfl rfl (by exact HO.out.ext okB (HB4.out.trans (ext_alloc _ _))) (by refine listIn_new okB _ (decX x) _ _ rfl ?_; rw [HDX.out]; exact ⟨_, _, attT_in HO4.out, ListIn.nil cdS _ _ 0, rfl⟩) (by exact (HE.out.trans HB4.out).trans (ext_alloc _ _)) (by have := ((HE.out.trans HB4.out).trans (ext_alloc w4 (.cells #[] 0))).size; simp at this ⊢; omega) (by rw [HQK.out]; simp; omega) ?_; intro v5 w5 ha; have HA := Lib.hid ha; clear ha)
        | fail)
      go_roundw
      case rel => exact ⟨_, k + 1, rfl, by omega, by go_num, by rw [HTS.out]; exact HA.out.own, HN.out, HA.out.below⟩
      case measure => first | (simp [intOf]; done) | (simp [intOf]; omega)
end Go.Proofs.YtddgbijhenkojaaGreatDoor
