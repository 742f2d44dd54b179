/- limewashref03.Name, Check, of strings as long as Go lets them be. -/
/- branch.alone. -/
/- Directories: bounds of their strings, the cells of an entry, small laws. -/
import Derived.Test.YtddgbijhenkojaaGreatDoorQNodA
import Derived.Test.YtddgbijhenkojaaGreatDoorQDirT
import Derived.Test.YtddgbijhenkojaaGreatDoorQChkE
import Derived.Test.YtddgbijhenkojaaGreatDoorQNodE
import Derived.Test.YtddgbijhenkojaaGreatDoorQKeys
namespace Go.Proofs.YtddgbijhenkojaaGreatDoor
open Go.RowKit

/-- How long a string may be. -/
abbrev longest : Nat := 9223372036854775807
theorem refNameX (s : ByteArray) (w : World) (hs : s.size ≤ longest) :
    Ret Tryz.prog 86 #[.string s] w (.int .i64 (nameE (L s))) := by
  unfold longest at hs
  by_cases h0 : L s = [] ∨ L s = [46] ∨ L s = [46, 46]
  · exact refNameShort s w h0
  have HN := Lib.hid h0
  unfold Ret
  simp only [not_or, ← toList_L] at h0
  obtain ⟨h1, h2, h3⟩ := h0
  have h1 : s.toList.isEmpty = false := by simpa using h1
  have h2 : (s.toList == [46]) = false := by simpa using h2
  have h3 : (s.toList == [46, 46]) = false := by simpa using h3
  go_enter Tryz.func86, Tryz.ntmps86
  go_wp2
  clear h1 h2 h3
  go_loop [3] (fun i => ∃ k : Nat, k ≤ s.size ∧ i = .int .i64 k ∧ ((L s).take k).any (pB badC) = false) (fun i => s.size - (intOf i).toNat)
  case atStart => exact ⟨0, Nat.zero_le _, rfl, by simp⟩
  case round =>
    obtain ⟨k, hk, rfl, hb⟩ := hrel
    have HB := Lib.hid hb; clear hb
    by_cases hlt : k < s.size
    · cases hb : pB badC (s[k]'hlt)
      · have HN2 := Lib.hid (any_take_succ badC s k hlt HB.out hb); clear HB
        rw [badByte] at hb
        simp only [Bool.or_eq_false_iff, decide_eq_false_iff_not] at hb
        obtain ⟨⟨ha, hb⟩, hc⟩ := hb
        go_wp2
        go_round
        case rel => exact ⟨k + 1, by omega, by go_num, HN2.out⟩
        case measure => simp [intOf]; omega
      · have HN2 := Lib.hid (nameE_bad (List.any_eq_true.2 ⟨s[k]'hlt, by rw [getElem_L]; exact List.getElem_mem _, hb⟩))
        clear HB HN
        rw [badByte] at hb
        simp only [Bool.or_eq_true, decide_eq_true_eq] at hb
        by_cases ha : (s[k].toNat : Int) < 33
        · clear hb
          go_wp2
          go_ret
          exact ⟨by rw [HN2.out]; rfl, rfl⟩
        by_cases hc : 126 < (s[k].toNat : Int)
        · clear hb
          go_wp2
          go_ret
          exact ⟨by rw [HN2.out]; rfl, rfl⟩
        · have hd : ((s[k].toNat : Int) == 47) = true := by simpa [ha, hc] using hb
          clear hb
          go_wp2
          go_ret
          exact ⟨by rw [HN2.out]; rfl, rfl⟩
    · have hb := HB.out
      rw [List.take_of_length_le (by rw [← size_L]; omega)] at hb
      by_cases hl : 24 < s.size
      · have HN2 := Lib.hid (nameE_long HN.out hb (by rw [← size_L]; exact hl))
        clear hb HB
        go_wp2
        go_ret
        exact ⟨by rw [HN2.out]; rfl, rfl⟩
      · have HN2 := Lib.hid (nameE_ok HN.out hb (by rw [← size_L]; exact hl))
        clear hb HB
        go_wp2
        go_ret
        exact ⟨by rw [HN2.out]; rfl, rfl⟩

theorem refPathCheckX (v : Value) (l : List ByteArray) (w : World) (hv : StrsAt w v l) (hm : ∀ s ∈ l, s.size ≤ longest) : Ret Tryz.prog 53 #[v] w (.int .i64 (pathE l)) := by
  unfold Ret
  obtain ⟨a, cap, rfl, hcap, hc⟩ := hv
  have HC := Lib.hid hc; clear hc
  have HM := Lib.hid hm; clear hm
  by_cases hl : 8 < l.length
  · rw [pathE_long hl]
    go_enter Tryz.func53, Tryz.ntmps53
    go_wp2
    go_ret
    exact ⟨rfl, rfl⟩
  rw [pathE_of hl]
  go_enter Tryz.func53, Tryz.ntmps53
  go_wp2
  go_loop [3] (fun i => ∃ k : Nat, k ≤ l.length ∧ i = .int .i64 k ∧ firstN (l.take k) = 0) (fun i => l.length - (intOf i).toNat)
  case atStart => exact ⟨0, Nat.zero_le _, rfl, rfl⟩
  case round =>
    obtain ⟨k, hk, rfl, hf⟩ := hrel
    have HF := Lib.hid hf; clear hf
    by_cases hlt : k < l.length
    · obtain ⟨b, off, rfl, hbs, h1⟩ := HC.out k hlt
      have hm1 := HM.out _ (List.getElem_mem hlt)
      by_cases he : nameE (L (l[k]'hlt)) = 0
      · have HN := Lib.hid (firstN_step l k hlt HF.out he)
        generalize l[k]'hlt = x at h1 hm1 he
        go_wp2_with (go_at_call 86; refine (refNameX _ _ hm1).mono ?_; rintro e w' ⟨rfl, rfl⟩)
        go_round
        case rel => exact ⟨k + 1, by omega, by go_num, HN.out⟩
        case measure => simp [intOf]; omega
      · have HN := Lib.hid (firstN_hit l k hlt HF.out he)
        have he1 : (nameE (L (l[k]'hlt)) != 0) = true := bne_iff_ne.2 he
        clear he
        generalize l[k]'hlt = x at h1 hm1 he1 HN
        go_wp2_with (go_at_call 86; refine (refNameX _ _ hm1).mono ?_; rintro e w' ⟨rfl, rfl⟩)
        go_ret
        exact ⟨by rw [HN.out]; rfl, rfl⟩
    · have HN : Hid (firstN l = 0) := by have := HF.out; rw [List.take_of_length_le (by omega)] at this; exact this
      go_wp2
      go_ret
      exact ⟨by rw [HN.out]; rfl, rfl⟩
end Go.Proofs.YtddgbijhenkojaaGreatDoor

namespace Go.Proofs.YtddgbijhenkojaaGreatDoor
open Go.RowKit

theorem attIn_at {w : World} {v : Value} {l : List Attr} (h : AttrsAt w v l) : AttIn w.heap.size w v l := by
  refine attIn_of h fun h0 b hb => .inl (h.block ?_ b hb)
  obtain ⟨a, cap, rfl, _⟩ := h; exact h0
theorem listIn_two {P : Program} {α : Type} {C : Cd α} {B : Nat} (K : CdOk P C) (w : World) (x y : α) (cx cy : List Value) (n : Nat) (hn : n = w.heap.size) (hx : C.R B w x cx) (hy : C.R B w y cy) :
    ListIn C B (w.alloc (.cells (cx ++ cy).toArray C.e)) (.slice (some ⟨n, 0, none⟩) 2 2) [x, y] := by
  subst hn
  have l1 := K.len hx; have l2 := K.len hy
  refine ⟨_, _, rfl, by simp, fun _ b hb => .inr ⟨_, _, by cases hb; exact blk_new w _⟩, fun k hk => ?_⟩
  have hk : k < 2 := hk
  match k, hk with
  | 0, _ =>
    refine ⟨w.heap.size, 0, cx, rfl, by simp, K.chg hx (Chg.of_ext (ext_alloc _ _) B C.e) K.self, fun j u hj => ?_⟩
    rw [Nat.zero_add, Nat.zero_mul, Nat.zero_add, blk_cell (blk_new w _)]
    have := (List.getElem?_eq_some_iff.1 hj).1
    simp [List.getElem?_append_left this, hj]
  | 1, _ =>
    refine ⟨w.heap.size, 0, cy, rfl, by simp, K.chg hy (Chg.of_ext (ext_alloc _ _) B C.e) K.self, fun j u hj => ?_⟩
    rw [Nat.zero_add, Nat.one_mul, blk_cell (blk_new w _)]
    simp [List.getElem?_append_right (show cx.length ≤ C.n + j by omega), l1, hj]
theorem solo_small {x : TrN} (hm : ∀ a ∈ x.ats, a.1.size ≤ 1000000 ∧ a.2.size ≤ 1000000) (hl : x.ats.length ≤ 1000000) : SmallT [rootN, soloN x] := by
  intro y hy
  rcases List.mem_cons.1 hy with rfl | hy
  · exact ⟨by decide, fun a ha => (by cases ha), by decide⟩
  · rcases List.mem_cons.1 hy with rfl | hy
    · exact ⟨by show soloW.size ≤ _; decide, hm, hl⟩
    · cases hy
set_option maxRecDepth 100000 in
set_option maxHeartbeats 4000000 in
theorem brAlone (w : World) (x : TrN) (va : Value) (hv : AttrsAt w va x.ats) (hm : ∀ a ∈ x.ats, a.1.size ≤ 1000000 ∧ a.2.size ≤ 1000000) (hl : x.ats.length ≤ 1000000) :
    RetB Tryz.prog 47 #[trV x va] w (.int .i64 (soloE x)) := by
  unfold RetB
  have HV := Lib.hid hv
  have HS := Lib.hid (solo_small hm hl)
  have HI := Lib.hid (attIn_at hv)
  obtain ⟨a3, cap3, rfl, -, -⟩ := hv
  clear hm
  go_enter Tryz.func47, Tryz.ntmps47
  go_wp2_with fail
  refine (treeCheck w.heap.size _ [rootN, soloN x] _ (listIn_two okT (w.alloc _) rootN (soloN x) (trC rootN (.slice none 0 0)) (trC (soloN x) (.slice a3 x.ats.length cap3)) (w.heap.size + 1) (by simp) ⟨_, attIn_nil _ _ _, rfl⟩ ⟨_, HI.out.ext okA (ext_alloc _ _), rfl⟩) HS.out).mono ?_
  rintro e w1 ⟨rfl, hb1⟩
  have HB1 : Hid (Ext w w1) := Lib.hid (((ext_alloc _ _).trans (ext_alloc _ _)).trans hb1)
  clear hb1
  go_wp2
  go_ret
  exact ⟨rfl, HB1.out⟩
end Go.Proofs.YtddgbijhenkojaaGreatDoor

namespace Go.Proofs.YtddgbijhenkojaaGreatDoor
open Go.RowKit

/-- A directory whose strings are not too long to be walked over. -/
structure SmallD (d : DiN) : Prop where
  ats : Small d.ats
  atl : d.ats.length ≤ 1000
  red : ∀ s ∈ d.red, s.size ≤ longest
  ens : ∀ x ∈ d.ens, x.nm.size ≤ 900000 ∧ Small x.nd.ats ∧ x.nd.ats.length ≤ 1000
  len : d.ens.length ≤ 1000
theorem ListIn.en {B : Nat} {w : World} {a : Option Addr} {n cap : Nat} {l : List DeN} (h : EnIn B w (.slice a n cap) l) (k : Nat) (hk : k < l.length) : ∃ b off va, a = some ⟨b, off, none⟩ ∧ b < w.heap.size ∧ AttIn B w va (l[k]'hk).nd.ats ∧
    w.cell? ⟨b, off + k * 12, none⟩ = some (.string (l[k]'hk).nm) ∧ w.cell? ⟨b, off + k * 12 + 1, none⟩ = some (.int .i64 (l[k]'hk).nd.dep) ∧ w.cell? ⟨b, off + k * 12 + 2, none⟩ = some (.string (l[k]'hk).nd.nm) ∧ w.cell? ⟨b, off + k * 12 + 3, none⟩ = some (.int .i64 (l[k]'hk).nd.kd) ∧ w.cell? ⟨b, off + k * 12 + 4, none⟩ = some va ∧
    w.cell? ⟨b, off + k * 12 + 5, none⟩ = some (.string (l[k]'hk).nd.dat) ∧ w.cell? ⟨b, off + k * 12 + 6, none⟩ = some (.int .i64 (l[k]'hk).nd.ma) ∧ w.cell? ⟨b, off + k * 12 + 7, none⟩ = some (.int .i64 (l[k]'hk).nd.mi) ∧ w.cell? ⟨b, off + k * 12 + 8, none⟩ = some (.int .i64 (l[k]'hk).nd.cl) ∧
    w.cell? ⟨b, off + k * 12 + 9, none⟩ = some (.bool (l[k]'hk).wh) ∧ w.cell? ⟨b, off + k * 12 + 10, none⟩ = some (.bool (l[k]'hk).fi) ∧ w.cell? ⟨b, off + k * 12 + 11, none⟩ = some (.int .i64 (l[k]'hk).ns) := by
  obtain ⟨a', cap', he, _, _, hc⟩ := h
  cases he
  obtain ⟨b, off, cs, h1, h2, ⟨va, h3, rfl⟩, h4⟩ := hc k hk
  exact ⟨b, off, va, h1, h2, h3, h4 0 _ rfl, h4 1 _ rfl, h4 2 _ rfl, h4 3 _ rfl, h4 4 _ rfl, h4 5 _ rfl, h4 6 _ rfl, h4 7 _ rfl, h4 8 _ rfl, h4 9 _ rfl, h4 10 _ rfl, h4 11 _ rfl⟩
theorem rest_cls {o : Bool} {x : DeN} (h : x.nd.cl < 0 ∨ (0 < x.nd.cl ∧ x.ns ≤ 1) ∨ (x.nd.cl ≤ 0 ∧ 1 < x.ns)) : restX o x = 6 := if_pos h
theorem rest_ns {o : Bool} {x : DeN} (h : ¬ (x.nd.cl < 0 ∨ (0 < x.nd.cl ∧ x.ns ≤ 1) ∨ (x.nd.cl ≤ 0 ∧ 1 < x.ns))) (h2 : x.ns < 1) : restX o x = 7 := by unfold restX; rw [if_neg h, if_pos h2]
theorem rest_mark {o : Bool} {x : DeN} (h : ¬ (x.nd.cl < 0 ∨ (0 < x.nd.cl ∧ x.ns ≤ 1) ∨ (x.nd.cl ≤ 0 ∧ 1 < x.ns))) (h2 : ¬ x.ns < 1) (h3 : markB o x = true) : restX o x = 6 := by unfold restX; rw [if_neg h, if_neg h2, if_pos h3]
theorem rest_ok {o : Bool} {x : DeN} (h : ¬ (x.nd.cl < 0 ∨ (0 < x.nd.cl ∧ x.ns ≤ 1) ∨ (x.nd.cl ≤ 0 ∧ 1 < x.ns))) (h2 : ¬ x.ns < 1) (h3 : markB o x = false) : restX o x = 0 := by unfold restX; rw [if_neg h, if_neg h2, if_neg (by rw [h3]; exact Bool.false_ne_true)]
abbrev diV (va : Value) (o : Bool) (vr ve : Value) : Value := .agg #[va, .bool o, vr, ve]
theorem step_ok {o : Bool} {l : List DeN} {k : Nat} (h : ∀ j, j < k → entE o l j = 0) (hk : entE o l k = 0) : ∀ j, j < k + 1 → entE o l j = 0 := fun j hj => by
  by_cases e : j = k
  · subst e; exact hk
  · exact h j (by omega)
theorem box4 {w w1 : World} {a b c d : Value} {t : TypeId} (h : Ext (w.alloc (.cells #[a, b, c, d] t)) w1) : w1.heap[w.heap.size]? = some (.cells #[a, b, c, d] t (0, 0)) := blk_ext h (blk_new w _)
theorem str_ne {a b : ByteArray} (h : ¬ a = b) : (a.toList == b.toList) = false := beq_eq_false_iff_ne.2 fun e => h (L_inj (by rwa [toList_L, toList_L] at e))
theorem str_bne {a : ByteArray} (h : ¬ a.toList = []) : (a.toList != []) = true := bne_iff_ne.2 h
end Go.Proofs.YtddgbijhenkojaaGreatDoor
