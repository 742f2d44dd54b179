/- FarO OvX OvXO OvD OvW AwkO -/
import Derived.Test.YtimpejaaeinplaaGreatDoorJI5
import Derived.Test.YtimpejaaeinplaaGreatDoorJdOvT
namespace Go.Proofs.YtimpejaaeinplaaGreatDoor
open Go.RowKit
set_option maxRecDepth 100000 in
theorem law21long (v : Value) (l : List Attr) (w : World) (hv : aA w v l) : Calls Tryz.prog 156 #[v] w (BoolP (Few 400 l) w) := by
 obtain ⟨aa, cap, rfl, hcap, hc⟩ := hv
 have HC := hQq hc; clear hc
 by_cases h10 : 10 < l.length
 ·go_enter Tryz.func156, Tryz.ntmps156
  go_wp2
  go_ret
  exact ⟨_, rfl, (fun h => by cases h), rfl⟩
 go_enter Tryz.func156, Tryz.ntmps156
 go_wp2
 go_loop [3] (fun i => ∃ k : Nat, i = .int .i64 k /\ k <= l.length /\ ∀ j (_ : j < k) (hj : j < l.length), (l[j]'hj).1.size <= 400 /\ (l[j]'hj).2.size <= 400) (fun i => l.length - (intOf i).toNat)
 case atStart => exact ⟨0, rfl, Nat.zero_le _, fun j hj => absurd hj (by omega)⟩
 case round =>
  obtain ⟨k, rfl, hk, hs⟩ := hrel
  have HS := hQq hs; clear hs
  by_cases hlt : k < l.length
  case neg =>
   obtain rfl : k = l.length := by omega
   go_wp2
   go_ret
   exact ⟨_, rfl, fun _ => few_of rfl (by omega) HS.out, rfl⟩
  obtain ⟨b, off, hex, hb, c1, c2⟩ := HC.out k hlt
  subst hex
  have HG : Hid (∀ x, x = l[k]'hlt -> x.1.size <= 400 /\ x.2.size <= 400 -> ∀ j (_ : j < k + 1) (hj : j < l.length), (l[j]'hj).1.size <= 400 /\ (l[j]'hj).2.size <= 400) := hQq (fun x hx hs j hj hjl => by
   by_cases e : j = k
   ·subst e; rw [<- hx]; exact hs
   ·exact HS.out j (by omega) hjl)
  obtain ⟨x, hx⟩ : ∃ x, x = l[k]'hlt := ⟨_, rfl⟩
  rw [<- hx] at c1 c2
  have HX := hQq hx
  clear hx
  by_cases g1 : 400 < x.1.size
  ·go_wp2
   go_ret
   exact ⟨_, rfl, (fun h => by cases h), rfl⟩
  by_cases g2 : 400 < x.2.size
  ·go_wp2
   go_ret
   exact ⟨_, rfl, (fun h => by cases h), rfl⟩
  go_wp2
  go_round
  case rel => exact ⟨k + 1, by go_num, by omega, HG.out x HX.out ⟨by omega, by omega⟩⟩
  case measure => first | (simp [intOf]; done) | (simp [intOf]; omega)
set_option maxRecDepth 100000 in
set_option maxHeartbeats 1000000 in
theorem law21large (B : Nat) (v : Value) (t : List TrN) (w : World) (hv : TrIn B w v t) : Calls Tryz.prog 100 #[v] w (BoolP (FewT 500 t) w) := by
 obtain ⟨aa, cap, rfl⟩ := hv.form
 have HV := hQq hv; clear hv
 by_cases h10 : 130 < t.length
 ·go_enter Tryz.func100, Tryz.ntmps100
  go_wp2
  go_ret
  exact ⟨_, rfl, (fun h => by cases h), rfl⟩
 go_enter Tryz.func100, Tryz.ntmps100
 go_wp2
 go_loop [3] (fun i => ∃ k : Nat, i = .int .i64 k /\ k <= t.length /\ ∀ j (_ : j < k) (hj : j < t.length), Few 500 (t[j]'hj).ats /\ (t[j]'hj).nm.size <= 500 /\ (t[j]'hj).dat.size <= 500) (fun i => t.length - (intOf i).toNat)
 case atStart => exact ⟨0, rfl, Nat.zero_le _, fun j hj => absurd hj (by omega)⟩
 case round =>
  obtain ⟨k, rfl, hk, hs⟩ := hrel
  have HS := hQq hs; clear hs
  by_cases hlt : k < t.length
  case neg =>
   obtain rfl : k = t.length := by omega
   go_wp2
   go_ret
   exact ⟨_, rfl, (fun _ => ⟨by omega, fun x hx => by
     obtain ⟨j, hj, rfl⟩ := List.getElem_of_mem hx
     exact HS.out j hj hj⟩), rfl⟩
  obtain ⟨b, off, va, hex, hb, hva, c0, c1, c2, c3, c4, c5, c6, c7⟩ := HV.out.tr k hlt
  cases hex
  have HVA := hQq hva.attrs
  have HG : Hid (∀ x, x = t[k]'hlt -> Few 500 x.ats /\ x.nm.size <= 500 /\ x.dat.size <= 500 -> ∀ j (_ : j < k + 1) (hj : j < t.length), Few 500 (t[j]'hj).ats /\ (t[j]'hj).nm.size <= 500 /\ (t[j]'hj).dat.size <= 500) := hQq (fun x hx hs j hj hjl => by
   by_cases e : j = k
   ·subst e; rw [<- hx]; exact hs
   ·exact HS.out j (by omega) hjl)
  obtain ⟨x, hx⟩ : ∃ x, x = t[k]'hlt := ⟨_, rfl⟩
  rw [<- hx] at c0 c1 c2 c4 c5 c6 c7 HVA
  have HX := hQq hx
  have j1 : ((k : Nat) : Int) < (t.length : Int) := by omega
  have j0 : (0 : Int) <= (k : Int) := by omega
  clear hx hva
  have HL := hQq (law21long _ x.ats w HVA.out)
  by_cases g1 : 500 < x.nm.size
  ·go_wp2_with (go_at_call 156; refine HL.out.mono ?_; rintro e w1 ⟨r, rfl, _, rfl⟩)
   all_goals
    go_ret
    exact ⟨_, rfl, (fun h => by cases h), rfl⟩
  by_cases g2 : 500 < x.dat.size
  ·go_wp2_with (go_at_call 156; refine HL.out.mono ?_; rintro e w1 ⟨r, rfl, _, rfl⟩)
   all_goals
    go_ret
    exact ⟨_, rfl, (fun h => by cases h), rfl⟩
  go_wp2_with (go_at_call 156; refine HL.out.mono ?_; rintro e w1 ⟨r, rfl, hr, rfl⟩; have HR := hQq hr; clear hr)
  ·go_ret
   exact ⟨_, rfl, (fun h => by cases h), rfl⟩
  ·go_round
   case rel => exact ⟨k + 1, by go_num, by omega, HG.out x HX.out ⟨(HR.out (by first | assumption | exact Bool.eq_false_iff.2 (by assumption))).mono (by decide), by omega, by omega⟩⟩
   case measure => first | (simp [intOf]; done) | (simp [intOf]; omega)
set_option maxRecDepth 100000 in
theorem law21path (v : Value) (l : List ByteArray) (w : World) (hv : StrsAt w v l) : Calls Tryz.prog 99 #[v] w (BoolP (l.length <= 12 /\ ∀ s ∈ l, s.size <= 500) w) := by
 obtain ⟨aa, cap, rfl, hcap, hc⟩ := hv
 have HC := hQq hc; clear hc
 by_cases h10 : 12 < l.length
 ·go_enter Tryz.func99, Tryz.ntmps99
  go_wp2
  go_ret
  exact ⟨_, rfl, (fun h => by cases h), rfl⟩
 go_enter Tryz.func99, Tryz.ntmps99
 go_wp2
 go_loop [3] (fun i => ∃ k : Nat, i = .int .i64 k /\ k <= l.length /\ ∀ j (_ : j < k) (hj : j < l.length), (l[j]'hj).size <= 500) (fun i => l.length - (intOf i).toNat)
 case atStart => exact ⟨0, rfl, Nat.zero_le _, fun j hj => absurd hj (by omega)⟩
 case round =>
  obtain ⟨k, rfl, hk, hs⟩ := hrel
  have HS := hQq hs; clear hs
  by_cases hlt : k < l.length
  case neg =>
   obtain rfl : k = l.length := by omega
   go_wp2
   go_ret
   exact ⟨_, rfl, (fun _ => ⟨by omega, fun s hs => by
    obtain ⟨j, hj, rfl⟩ := List.getElem_of_mem hs
    exact HS.out j hj hj⟩), rfl⟩
  obtain ⟨b, off, hex, hb, c1⟩ := HC.out k hlt
  subst hex
  have HG : Hid (∀ x, x = l[k]'hlt -> x.size <= 500 -> ∀ j (_ : j < k + 1) (hj : j < l.length), (l[j]'hj).size <= 500) := hQq (fun x hx hs j hj hjl => by
   by_cases e : j = k
   ·subst e; rw [<- hx]; exact hs
   ·exact HS.out j (by omega) hjl)
  obtain ⟨x, hx⟩ : ∃ x, x = l[k]'hlt := ⟨_, rfl⟩
  rw [<- hx] at c1
  have HX := hQq hx
  have j1 : ((k : Nat) : Int) < (l.length : Int) := by omega
  have j0 : (0 : Int) <= (k : Int) := by omega
  clear hx
  by_cases g1 : 500 < x.size
  ·go_wp2
   go_ret
   exact ⟨_, rfl, (fun h => by cases h), rfl⟩
  go_wp2
  go_round
  case rel => exact ⟨k + 1, by go_num, by omega, HG.out x HX.out (by omega)⟩
  case measure => first | (simp [intOf]; done) | (simp [intOf]; omega)
set_option maxRecDepth 100000 in
set_option maxHeartbeats 4000000 in
theorem law21far (B : Nat) (v : Value) (b : List BrN) (w : World) (hv : BrIn B w v b) (hB : B <= w.heap.size) (hz : ∀ x ∈ b, x.ats.length * 32 <= 140737488355328) : Calls Tryz.prog 37 #[v] w (BoolE (FewB 500 b) w) := by
 obtain ⟨aa, cap, rfl⟩ := hv.form
 have HV := hQq hv; have HZ := hQq hz
 clear hv hz
 by_cases h10 : 130 < b.length
 ·go_enter Tryz.func37, Tryz.ntmps37
  go_wp2
  go_ret
  exact ⟨_, rfl, (fun h => by cases h), bR _ _⟩
 go_enter Tryz.func37, Tryz.ntmps37
 go_wp2
 go_loop [3] (fun i => ∃ k : Nat, i = .int .i64 k /\ k <= b.length /\ ∀ j (_ : j < k) (hj : j < b.length), (b[j]'hj).red.length <= 12 /\ ∀ s ∈ (b[j]'hj).red, s.size <= 500) (fun i => b.length - (intOf i).toNat)
 case atStart => exact ⟨0, rfl, Nat.zero_le _, fun j hj => absurd hj (by omega)⟩
 case round =>
  obtain ⟨k, rfl, hk, hs⟩ := hrel
  have HS := hQq hs; clear hs
  by_cases hlt : k < b.length
  case neg =>
   obtain rfl : k = b.length := by omega
   go_wp2_with (first
    | (go_at_call 45; refine (refTreeX B _ _ b HV.out hB (by omega) HZ.out).mono ?_; rintro e w2 ⟨⟨a5, cap5, rfl, ho⟩, hb2⟩; have HO := hQq ho; have HB2 := hQq hb2; clear ho hb2)
    | (go_at_call 100; refine (law21large w.heap.size _ (b.map BrN.toTrN) _ (HO.out.in okT)).mono ?_; rintro e w3 ⟨r, rfl, hr, rfl⟩; have HR := hQq hr; clear hr)
    | fail)
   go_ret
   refine ⟨_, rfl, fun h => ?_, HB2.out⟩
   have h3 := HR.out h
   refine ⟨by omega, fun x hx => ?_⟩
   obtain ⟨q1, q2, q3⟩ := h3.ok x.toTrN (List.mem_map.2 ⟨x, hx, rfl⟩)
   obtain ⟨j, hj, rfl⟩ := List.getElem_of_mem hx
   exact ⟨q1, q2, q3, HS.out j hj hj⟩
  obtain ⟨bb, off, va, vr, hex, hb, hva, hvr, c0, c1, c2, c3, c4, c5, c6, c7, c8, c9⟩ := HV.out.br k hlt
  cases hex
  have HVR := hQq hvr.strs
  have HG : Hid (∀ x, x = b[k]'hlt -> x.red.length <= 12 /\ (∀ s ∈ x.red, s.size <= 500) -> ∀ j (_ : j < k + 1) (hj : j < b.length), (b[j]'hj).red.length <= 12 /\ ∀ s ∈ (b[j]'hj).red, s.size <= 500) := hQq (fun x hx hs j hj hjl => by
   by_cases e : j = k
   ·subst e; rw [<- hx]; exact hs
   ·exact HS.out j (by omega) hjl)
  obtain ⟨x, hx⟩ : ∃ x, x = b[k]'hlt := ⟨_, rfl⟩
  rw [<- hx] at HVR
  have HX := hQq hx
  have j1 : ((k : Nat) : Int) < (b.length : Int) := by omega
  have j0 : (0 : Int) <= (k : Int) := by omega
  clear hx hva hvr c0 c1 c2 c3 c4 c5 c6 c7 c8
  go_wp2_with (go_at_call 99; refine (law21path _ x.red w HVR.out).mono ?_; rintro e w1 ⟨r, rfl, hr, rfl⟩; have HR := hQq hr; clear hr)
  ·go_ret
   exact ⟨_, rfl, (fun h => by cases h), bR _ _⟩
  ·go_round
   case rel => exact ⟨k + 1, by go_num, by omega, HG.out x HX.out (HR.out (by first | assumption | exact Bool.eq_false_iff.2 (by assumption)))⟩
   case measure => first | (simp [intOf]; done) | (simp [intOf]; omega)
set_option maxRecDepth 100000 in
set_option maxHeartbeats 8000000 in
theorem neutE (x : TrN) (va : Value) (rt : Bool) (n : Int) (w : World) (hL : LaidO w) (hv : aA w va x.ats) (hm : Small x.ats) (hk : kindE x = 0) (hs : zeroB x = true \/ x.kd = 5 \/ ptsE 1 x.ats ≠ 0) :
  Calls Tryz.prog 157 #[trV x va, .bool rt, .int .i64 n] w (NeutP w x rt n) := by
 obtain ⟨a3, cap3, rfl, hcap, hc⟩ := hv
 have HV := hQq (show aA w (.slice a3 x.ats.length cap3) x.ats from ⟨a3, cap3, rfl, hcap, hc⟩)
 have HL := hQq hL; have HM := hQq hm; have HK := hQq hk
 clear hcap hc hL hm hk
 unfold trV
 cases hz : zeroB x with
 | true =>
  have HZ := hQq hz
  by_cases hb : x.ats ≠ [] \/ x.cl ≠ 0
  ·have HE : Hid (ndE x rt n = 6) := hQq (by unfold ndE; rw [if_pos hz, if_pos hb])
   have HBD := hQq hb
   by_cases hl : 0 < x.ats.length
   ·have hl' := lenP hl
    clear hb hz
    go_enter Tryz.func157, Tryz.ntmps157
    go_wp2_with fail
    refine (ovZero x _ ⟨_, _, _, rfl⟩ _).mono ?_
    rintro e w1 ⟨rfl, hb1⟩
    rw [HZ.out]
    have QX : Hid (w1.heap[w.heap.size]? = some (.cells #[.int .i64 x.dep, .string x.nm, .int .i64 x.kd, .slice a3 x.ats.length cap3, .string x.dat, .int .i64 x.ma, .int .i64 x.mi, .int .i64 x.cl] 43 (0, 0))) := hQq (bX hb1 (bA (bN w _)))
    have QN : Hid (w1.heap[w.heap.size + 1]? = some (.cells #[.int .i64 x.dep, .string x.nm, .int .i64 x.kd, .slice none 0 0, .string x.dat, .int .i64 x.ma, .int .i64 x.mi, .int .i64 x.cl, .bool false, .slice none 0 0] 41 (0, 0))) := hQq (bX hb1 (blk_at (by simp)))
    have E1 : Hid (Ext w w1) := hQq (((eA _ _).trans (eA _ _)).trans hb1)
    clear hb1
    obtain ⟨c0, c1, c2, c3, c4, c5, c6, c7⟩ := b8C QX.out; obtain ⟨d0, d1, d2, d3, d4, d5, d6, d7, d8, d9⟩ := b10C QN.out; have fz := fun j => bT QN.out j; have z1 := bL QX.out; have z2 := bL QN.out
    go_wp2_with fail
    refine nW (P := fun W => bodyPost _ _ _ _ _ W) _ ?_
    intro W2 hW2
    have hW3 : W2 = setL (w1.setCell ⟨w.heap.size + 1, 2, none⟩ (.int .i64 5)) (w.heap.size + 1) 0 [.int .i64 x.dep, .string x.nm, .int .i64 5, .slice none 0 0, .string x.dat, .int .i64 x.ma, .int .i64 x.mi, .int .i64 x.cl, .bool false, .slice none 0 0] := hW2
    obtain ⟨hq, hx⟩ := put10 (w := w) (show (w1.setCell ⟨w.heap.size + 1, 2, none⟩ (.int .i64 5)).heap[w.heap.size + 1]? = some (.cells #[.int .i64 x.dep, .string x.nm, .int .i64 5, .slice none 0 0, .string x.dat, .int .i64 x.ma, .int .i64 x.mi, .int .i64 x.cl, .bool false, .slice none 0 0] 41 (0, 0)) from bS QN.out _) (by omega) (Below.setCell (p := ⟨w.heap.size + 1, 2, none⟩) E1.out (by show w.heap.size <= w.heap.size + 1; omega) _) hW3
    refine bodyPost_ret (v := .tuple #[.agg #[.int .i64 x.dep, .string x.nm, .int .i64 5, .slice none 0 0, .string x.dat, .int .i64 x.ma, .int .i64 x.mi, .int .i64 x.cl, .bool false, .slice none 0 0], .int .i64 6]) (by simp [results, Tryz.f157, go_sem, bC hq 0, bC hq 1, bC hq 2, bC hq 3, bC hq 4, bC hq 5, bC hq 6, bC hq 7, bC hq 8, bC hq 9]) rfl ?_
    exact ⟨⟨⟨{ x with ats := [], kd := 5 }, false, []⟩, .slice none 0 0, .slice none 0 0, by rw [HE.out], ⟨_, _, _, rfl⟩, ⟨_, _, _, rfl⟩, fun h => by rw [HE.out] at h; cases h⟩, hx⟩
   ·have hl' := lenZ hl
    have q1 : (x.cl != 0) = true := bne_iff_ne.2 (HBD.out.resolve_left fun e => e (List.length_eq_zero_iff.1 (by omega)))
    clear hb hz
    go_enter Tryz.func157, Tryz.ntmps157
    go_wp2_with fail
    refine (ovZero x _ ⟨_, _, _, rfl⟩ _).mono ?_
    rintro e w1 ⟨rfl, hb1⟩
    rw [HZ.out]
    have QX : Hid (w1.heap[w.heap.size]? = some (.cells #[.int .i64 x.dep, .string x.nm, .int .i64 x.kd, .slice a3 x.ats.length cap3, .string x.dat, .int .i64 x.ma, .int .i64 x.mi, .int .i64 x.cl] 43 (0, 0))) := hQq (bX hb1 (bA (bN w _)))
    have QN : Hid (w1.heap[w.heap.size + 1]? = some (.cells #[.int .i64 x.dep, .string x.nm, .int .i64 x.kd, .slice none 0 0, .string x.dat, .int .i64 x.ma, .int .i64 x.mi, .int .i64 x.cl, .bool false, .slice none 0 0] 41 (0, 0))) := hQq (bX hb1 (blk_at (by simp)))
    have E1 : Hid (Ext w w1) := hQq (((eA _ _).trans (eA _ _)).trans hb1)
    clear hb1
    obtain ⟨c0, c1, c2, c3, c4, c5, c6, c7⟩ := b8C QX.out; obtain ⟨d0, d1, d2, d3, d4, d5, d6, d7, d8, d9⟩ := b10C QN.out; have fz := fun j => bT QN.out j; have z1 := bL QX.out; have z2 := bL QN.out
    go_wp2_with fail
    refine nW (P := fun W => bodyPost _ _ _ _ _ W) _ ?_
    intro W2 hW2
    have hW3 : W2 = setL (w1.setCell ⟨w.heap.size + 1, 2, none⟩ (.int .i64 5)) (w.heap.size + 1) 0 [.int .i64 x.dep, .string x.nm, .int .i64 5, .slice none 0 0, .string x.dat, .int .i64 x.ma, .int .i64 x.mi, .int .i64 x.cl, .bool false, .slice none 0 0] := hW2
    obtain ⟨hq, hx⟩ := put10 (w := w) (show (w1.setCell ⟨w.heap.size + 1, 2, none⟩ (.int .i64 5)).heap[w.heap.size + 1]? = some (.cells #[.int .i64 x.dep, .string x.nm, .int .i64 5, .slice none 0 0, .string x.dat, .int .i64 x.ma, .int .i64 x.mi, .int .i64 x.cl, .bool false, .slice none 0 0] 41 (0, 0)) from bS QN.out _) (by omega) (Below.setCell (p := ⟨w.heap.size + 1, 2, none⟩) E1.out (by show w.heap.size <= w.heap.size + 1; omega) _) hW3
    refine bodyPost_ret (v := .tuple #[.agg #[.int .i64 x.dep, .string x.nm, .int .i64 5, .slice none 0 0, .string x.dat, .int .i64 x.ma, .int .i64 x.mi, .int .i64 x.cl, .bool false, .slice none 0 0], .int .i64 6]) (by simp [results, Tryz.f157, go_sem, bC hq 0, bC hq 1, bC hq 2, bC hq 3, bC hq 4, bC hq 5, bC hq 6, bC hq 7, bC hq 8, bC hq 9]) rfl ?_
    exact ⟨⟨⟨{ x with ats := [], kd := 5 }, false, []⟩, .slice none 0 0, .slice none 0 0, by rw [HE.out], ⟨_, _, _, rfl⟩, ⟨_, _, _, rfl⟩, fun h => by rw [HE.out] at h; cases h⟩, hx⟩
  ·have HE : Hid (ndE x rt n = 0) := hQq (by unfold ndE; rw [if_pos hz, if_neg hb])
   have HNX := hQq (zero_node hz HK.out hb)
   have hl' := lenZ (n := x.ats.length) (fun h => hb (.inl (fun e => by rw [e] at h; exact absurd h (by decide))))
   have q1 : (x.cl != 0) = false := bne_eq_false_iff_eq.2 (Decidable.not_not.1 fun e => hb (.inr e))
   have HA0 : Hid (x.ats = []) := hQq (Decidable.not_not.1 fun e => hb (.inl e))
   clear hb hz
   go_enter Tryz.func157, Tryz.ntmps157
   go_wp2_with fail
   refine (ovZero x _ ⟨_, _, _, rfl⟩ _).mono ?_
   rintro e w1 ⟨rfl, hb1⟩
   rw [HZ.out]
   have QX : Hid (w1.heap[w.heap.size]? = some (.cells #[.int .i64 x.dep, .string x.nm, .int .i64 x.kd, .slice a3 x.ats.length cap3, .string x.dat, .int .i64 x.ma, .int .i64 x.mi, .int .i64 x.cl] 43 (0, 0))) := hQq (bX hb1 (bA (bN w _)))
   have QN : Hid (w1.heap[w.heap.size + 1]? = some (.cells #[.int .i64 x.dep, .string x.nm, .int .i64 x.kd, .slice none 0 0, .string x.dat, .int .i64 x.ma, .int .i64 x.mi, .int .i64 x.cl, .bool false, .slice none 0 0] 41 (0, 0))) := hQq (bX hb1 (blk_at (by simp)))
   have E1 : Hid (Ext w w1) := hQq (((eA _ _).trans (eA _ _)).trans hb1)
   clear hb1
   obtain ⟨c0, c1, c2, c3, c4, c5, c6, c7⟩ := b8C QX.out; obtain ⟨d0, d1, d2, d3, d4, d5, d6, d7, d8, d9⟩ := b10C QN.out; have fz := fun j => bT QN.out j; have z1 := bL QX.out; have z2 := bL QN.out
   go_wp2_with fail
   refine nW (P := fun W => bodyPost _ _ _ _ _ W) _ ?_
   intro W2 hW2
   have hW3 : W2 = setL (w1.setCell ⟨w.heap.size + 1, 2, none⟩ (.int .i64 5)) (w.heap.size + 1) 0 [.int .i64 x.dep, .string x.nm, .int .i64 5, .slice none 0 0, .string x.dat, .int .i64 x.ma, .int .i64 x.mi, .int .i64 x.cl, .bool false, .slice none 0 0] := hW2
   obtain ⟨hq, hx⟩ := put10 (w := w) (show (w1.setCell ⟨w.heap.size + 1, 2, none⟩ (.int .i64 5)).heap[w.heap.size + 1]? = some (.cells #[.int .i64 x.dep, .string x.nm, .int .i64 5, .slice none 0 0, .string x.dat, .int .i64 x.ma, .int .i64 x.mi, .int .i64 x.cl, .bool false, .slice none 0 0] 41 (0, 0)) from bS QN.out _) (by omega) (Below.setCell (p := ⟨w.heap.size + 1, 2, none⟩) E1.out (by show w.heap.size <= w.heap.size + 1; omega) _) hW3
   refine bodyPost_ret (v := .tuple #[.agg #[.int .i64 x.dep, .string x.nm, .int .i64 5, .slice none 0 0, .string x.dat, .int .i64 x.ma, .int .i64 x.mi, .int .i64 x.cl, .bool false, .slice none 0 0], .int .i64 0]) (by simp [results, Tryz.f157, go_sem, bC hq 0, bC hq 1, bC hq 2, bC hq 3, bC hq 4, bC hq 5, bC hq 6, bC hq 7, bC hq 8, bC hq 9]) rfl ?_
   refine ⟨⟨⟨{ x with kd := 5 }, false, []⟩, .slice none 0 0, .slice none 0 0, by rw [HE.out], ⟨_, _, _, rfl⟩, ⟨_, _, _, rfl⟩, fun _ => ⟨HNX.out.symm, ?_, strIn_nil _ _ _⟩⟩, hx⟩
   show AttT W2 (.slice none 0 0) x.ats
   rw [HA0.out]; exact AttT.nil _ _ _ (aA.nil _ _ _)
 | false =>
  have HZ := hQq hz
  by_cases hw : x.kd = 5
  ·have HE : Hid (ndE x rt n = 6) := hQq (by unfold ndE; rw [if_neg (by rw [hz]; exact Bool.false_ne_true), if_pos hw])
   have q1 : (x.kd == 5) = true := beq_iff_eq.2 hw
   clear hw hz
   go_enter Tryz.func157, Tryz.ntmps157
   go_wp2_with fail
   refine (ovZero x _ ⟨_, _, _, rfl⟩ _).mono ?_
   rintro e w1 ⟨rfl, hb1⟩
   rw [HZ.out]
   have QX : Hid (w1.heap[w.heap.size]? = some (.cells #[.int .i64 x.dep, .string x.nm, .int .i64 x.kd, .slice a3 x.ats.length cap3, .string x.dat, .int .i64 x.ma, .int .i64 x.mi, .int .i64 x.cl] 43 (0, 0))) := hQq (bX hb1 (bA (bN w _)))
   have QN : Hid (w1.heap[w.heap.size + 1]? = some (.cells #[.int .i64 x.dep, .string x.nm, .int .i64 x.kd, .slice none 0 0, .string x.dat, .int .i64 x.ma, .int .i64 x.mi, .int .i64 x.cl, .bool false, .slice none 0 0] 41 (0, 0))) := hQq (bX hb1 (blk_at (by simp)))
   have E1 : Hid (Ext w w1) := hQq (((eA _ _).trans (eA _ _)).trans hb1)
   clear hb1
   obtain ⟨c0, c1, c2, c3, c4, c5, c6, c7⟩ := b8C QX.out; obtain ⟨d0, d1, d2, d3, d4, d5, d6, d7, d8, d9⟩ := b10C QN.out; have fz := fun j => bT QN.out j; have z1 := bL QX.out; have z2 := bL QN.out
   go_wp2_with fail
   refine nW (P := fun W => bodyPost _ _ _ _ _ W) _ ?_
   intro W2 hW2
   have hW3 : W2 = setL w1 (w.heap.size + 1) 0 [.int .i64 x.dep, .string x.nm, .int .i64 x.kd, .slice none 0 0, .string x.dat, .int .i64 x.ma, .int .i64 x.mi, .int .i64 x.cl, .bool false, .slice none 0 0] := hW2
   obtain ⟨hq, hx⟩ := put10 (w := w) QN.out (by omega) E1.out hW3
   refine bodyPost_ret (v := .tuple #[.agg #[.int .i64 x.dep, .string x.nm, .int .i64 x.kd, .slice none 0 0, .string x.dat, .int .i64 x.ma, .int .i64 x.mi, .int .i64 x.cl, .bool false, .slice none 0 0], .int .i64 6]) (by simp [results, Tryz.f157, go_sem, bC hq 0, bC hq 1, bC hq 2, bC hq 3, bC hq 4, bC hq 5, bC hq 6, bC hq 7, bC hq 8, bC hq 9]) rfl ?_
   exact ⟨⟨⟨{ x with ats := [] }, false, []⟩, .slice none 0 0, .slice none 0 0, by rw [HE.out], ⟨_, _, _, rfl⟩, ⟨_, _, _, rfl⟩, fun h => by rw [HE.out] at h; cases h⟩, hx⟩
  have q1 : (x.kd == 5) = false := nB hw
  by_cases hp : ptsE 1 x.ats = 0
  case neg =>
   have HE : Hid (ndE x rt n = ptsE 1 x.ats) := hQq (by unfold ndE; rw [if_neg (by rw [hz]; exact Bool.false_ne_true), if_neg hw, if_pos hp])
   have HPN := hQq hp
   have q2 : (ptsE 1 x.ats != 0) = true := bne_iff_ne.2 hp
   clear hp hw hz
   go_enter Tryz.func157, Tryz.ntmps157
   go_wp2_with fail
   refine (ovZero x _ ⟨_, _, _, rfl⟩ _).mono ?_
   rintro e w1 ⟨rfl, hb1⟩
   rw [HZ.out]
   have QX : Hid (w1.heap[w.heap.size]? = some (.cells #[.int .i64 x.dep, .string x.nm, .int .i64 x.kd, .slice a3 x.ats.length cap3, .string x.dat, .int .i64 x.ma, .int .i64 x.mi, .int .i64 x.cl] 43 (0, 0))) := hQq (bX hb1 (bA (bN w _)))
   have QN : Hid (w1.heap[w.heap.size + 1]? = some (.cells #[.int .i64 x.dep, .string x.nm, .int .i64 x.kd, .slice none 0 0, .string x.dat, .int .i64 x.ma, .int .i64 x.mi, .int .i64 x.cl, .bool false, .slice none 0 0] 41 (0, 0))) := hQq (bX hb1 (blk_at (by simp)))
   have E1 : Hid (Ext w w1) := hQq (((eA _ _).trans (eA _ _)).trans hb1)
   clear hb1
   obtain ⟨c0, c1, c2, c3, c4, c5, c6, c7⟩ := b8C QX.out; obtain ⟨d0, d1, d2, d3, d4, d5, d6, d7, d8, d9⟩ := b10C QN.out; have fz := fun j => bT QN.out j; have z1 := bL QX.out; have z2 := bL QN.out
   go_wp2_with fail
   refine (ovRead _ x.ats _ (HL.out.ext E1.out) (HV.out.ext E1.out) HM.out).mono ?_
   rintro e w2 ⟨⟨v2, bm, nm2, rfl, ho2, hm2, hbm⟩, hb2⟩
   have HO2 := hQq ho2; have HM2 := hQq hm2; obtain ⟨a6, cap6, rfl, -, -⟩ := ho2.1
   have QX2 := hQq (bX hb2 QX.out); have QN2 := hQq (bX hb2 QN.out); have E2 := hQq (E1.out.trans hb2)
   clear ho2 hm2 hbm hb2 c0 c1 c2 c3 c4 c5 c6 c7 d0 d1 d2 d3 d4 d5 d6 d7 d8 d9 fz z1 z2
   obtain ⟨c0, c1, c2, c3, c4, c5, c6, c7⟩ := b8C QX2.out; obtain ⟨d0, d1, d2, d3, d4, d5, d6, d7, d8, d9⟩ := b10C QN2.out; have fz := fun j => bT QN2.out j; have z1 := bL QX2.out; have z2 := bL QN2.out
   go_wp2_with fail
   refine nW (P := fun W => bodyPost _ _ _ _ _ W) _ ?_
   intro W2 hW2
   have hW3 : W2 = (setL w2 (w.heap.size + 1) 0 [.int .i64 x.dep, .string x.nm, .int .i64 x.kd, .slice none 0 0, .string x.dat, .int .i64 x.ma, .int .i64 x.mi, .int .i64 x.cl, .bool false, .slice none 0 0]).alloc (.cells #[.string (valM (ptsO 1 x.ats) opqW), .string (valM (ptsO 1 x.ats) reW), .string (valM (ptsO 1 x.ats) nlW)] 129) := hW2
   obtain ⟨hq, hx⟩ := put10a (w := w) QN2.out (by omega) E2.out hW3
   refine bodyPost_ret (v := .tuple #[.agg #[.int .i64 x.dep, .string x.nm, .int .i64 x.kd, .slice none 0 0, .string x.dat, .int .i64 x.ma, .int .i64 x.mi, .int .i64 x.cl, .bool false, .slice none 0 0], .int .i64 (ptsE 1 x.ats)]) (by simp [results, Tryz.f157, go_sem, bC hq 0, bC hq 1, bC hq 2, bC hq 3, bC hq 4, bC hq 5, bC hq 6, bC hq 7, bC hq 8, bC hq 9]) rfl ?_
   exact ⟨⟨⟨{ x with ats := [] }, false, []⟩, .slice none 0 0, .slice none 0 0, by rw [HE.out], ⟨_, _, _, rfl⟩, ⟨_, _, _, rfl⟩, fun h => by rw [HE.out] at h; exact absurd h HPN.out⟩, hx⟩
  rcases hs with h | h | h
  ·rw [hz] at h; cases h
  ·exact absurd h hw
  ·exact absurd hp h
set_option maxRecDepth 100000 in
set_option maxHeartbeats 100000000 in
theorem neutG (x : TrN) (va : Value) (rt : Bool) (n : Int) (w : World) (hL : LaidO w) (hv : aA w va x.ats) (hm : Small x.ats) (hz : zeroB x = false) (hw : x.kd ≠ 5) (hp : ptsE 1 x.ats = 0) (hn : n <= 1000000) (ht : turnE (ptsO 1 x.ats) = 0) (hc : (isM (ptsO 1 x.ats) opqW = false /\ isM (ptsO 1 x.ats) reW = false /\ rt = true /\ True) \/ (isM (ptsO 1 x.ats) opqW = false /\ isM (ptsO 1 x.ats) reW = false /\ rt = false /\ True) \/ (isM (ptsO 1 x.ats) opqW = true /\ isM (ptsO 1 x.ats) reW = false /\ rt = true /\ x.kd = 1) \/ (isM (ptsO 1 x.ats) opqW = true /\ isM (ptsO 1 x.ats) reW = false /\ rt = false /\ x.kd = 1) \/ (isM (ptsO 1 x.ats) opqW = true /\ isM (ptsO 1 x.ats) reW = true /\ rt = false /\ x.kd = 1) \/ (isM (ptsO 1 x.ats) opqW = false /\ isM (ptsO 1 x.ats) reW = true /\ rt = false /\ x.kd = 1)) :
  Calls Tryz.prog 157 #[trV x va, .bool rt, .int .i64 n] w (NeutP w x rt n) := by
 obtain ⟨ho, hr, hrt, hk⟩ | ⟨ho, hr, hrt, hk⟩ | ⟨ho, hr, hrt, hk⟩ | ⟨ho, hr, hrt, hk⟩ | ⟨ho, hr, hrt, hk⟩ | ⟨ho, hr, hrt, hk⟩ := hc
 all_goals
  have HE : Hid (ndE x rt n = bookE (ptsO 1 x.ats) n) := hQq (by unfold ndE; rw [if_neg (by rw [hz]; exact Bool.false_ne_true), if_neg hw, if_neg (by rw [hp]; exact fun h => h rfl), if_neg (by rw [ho, hr]; simp [ht, hk, hrt])])
  have HX : Hid (ndX x = ⟨{ x with ats := ptsP 1 x.ats }, turnO (ptsO 1 x.ats), turnR (ptsO 1 x.ats)⟩) := hQq (by unfold ndX; rw [if_neg (by rw [hz]; exact Bool.false_ne_true)])
  have HN := hQq hn
  have HT0 := hQq ht; have HOP := hQq ho; have HRE := hQq hr
  subst hrt
  try have q4 : (x.kd != 1) = false := bne_eq_false_iff_eq.2 hk
  clear ht ho hr hk
  clear hn
  obtain ⟨a3, cap3, rfl, hcap, hc⟩ := hv
  have HV := hQq (show aA w (.slice a3 x.ats.length cap3) x.ats from ⟨a3, cap3, rfl, hcap, hc⟩)
  have HL := hQq hL; have HM := hQq hm
  have HZ := hQq hz
  have q1 : (x.kd == 5) = false := nB hw
  have HPZ := hQq hp
  have HTZ : Hid ((valM (ptsO 1 x.ats) reW).size <= 1000000) := hQq (valM_size hm)
  clear hcap hc hL hm hz hw hp
  unfold trV
  go_enter Tryz.func157, Tryz.ntmps157
  go_wp2_with fail
  refine (ovZero x _ ⟨_, _, _, rfl⟩ _).mono ?_
  rintro e w1 ⟨rfl, hb1⟩
  rw [HZ.out]
  have QX : Hid (w1.heap[w.heap.size]? = some (.cells #[.int .i64 x.dep, .string x.nm, .int .i64 x.kd, .slice a3 x.ats.length cap3, .string x.dat, .int .i64 x.ma, .int .i64 x.mi, .int .i64 x.cl] 43 (0, 0))) := hQq (bX hb1 (bA (bN w _)))
  have QN : Hid (w1.heap[w.heap.size + 1]? = some (.cells #[.int .i64 x.dep, .string x.nm, .int .i64 x.kd, .slice none 0 0, .string x.dat, .int .i64 x.ma, .int .i64 x.mi, .int .i64 x.cl, .bool false, .slice none 0 0] 41 (0, 0))) := hQq (bX hb1 (blk_at (by simp)))
  have E1 : Hid (Ext w w1) := hQq (((eA _ _).trans (eA _ _)).trans hb1)
  clear hb1
  obtain ⟨c0, c1, c2, c3, c4, c5, c6, c7⟩ := b8C QX.out; obtain ⟨d0, d1, d2, d3, d4, d5, d6, d7, d8, d9⟩ := b10C QN.out; have fz := fun j => bT QN.out j; have z1 := bL QX.out; have z2 := bL QN.out
  go_wp2_with fail
  refine (ovRead _ x.ats _ (HL.out.ext E1.out) (HV.out.ext E1.out) HM.out).mono ?_
  rintro e w2 ⟨⟨v2, bm, nm2, rfl, ho2, hm2, hbm⟩, hb2⟩
  rw [HPZ.out]
  have HO2 := hQq ho2; have HM2 := hQq hm2; obtain ⟨a6, cap6, rfl, -, -⟩ := ho2.1
  have HBM : Hid (w.heap.size + 1 < bm) := hQq (by have := bL QN.out; omega)
  have QX2 := hQq (bX hb2 QX.out); have QN2 := hQq (bX hb2 QN.out); have E2 := hQq (E1.out.trans hb2)
  clear ho2 hm2 hbm hb2 c0 c1 c2 c3 c4 c5 c6 c7 d0 d1 d2 d3 d4 d5 d6 d7 d8 d9 fz z1 z2
  obtain ⟨c0, c1, c2, c3, c4, c5, c6, c7⟩ := b8C QX2.out; obtain ⟨d0, d1, d2, d3, d4, d5, d6, d7, d8, d9⟩ := b10C QN2.out; have fz := fun j => bT QN2.out j; have z1 := bL QX2.out; have z2 := bL QN2.out
  go_wp2_with fail
  refine (ovTurn (ptsO 1 x.ats) bm nm2 _ (HL.out.ext (E2.out.trans (eA _ _))) (HM2.out.ext (eA _ _)) HTZ.out).mono ?_
  rintro e w3 ⟨⟨a7, cap7, rfl, ho3⟩, hb3⟩
  have HO3 := hQq ho3
  have QX3 := hQq (bX hb3 (bA QX2.out)); have QN3 := hQq (bX hb3 (bA QN2.out)); have QM3 := hQq (bX hb3 (bN w2 _)); have ZN : Hid (w.heap.size + 1 < w2.heap.size) := hQq (bL QN2.out); have E3 := hQq (E2.out.trans ((eA _ _).trans hb3)); have F3 := hQq (Ext.trans (eA _ _) hb3)
  have lkO := thM_lookO (HM2.out.ext (Ext.trans (eA _ _) hb3)); have lkR := thM_lookR (HM2.out.ext (Ext.trans (eA _ _) hb3))
  clear ho3 hb3 c0 c1 c2 c3 c4 c5 c6 c7 d0 d1 d2 d3 d4 d5 d6 d7 d8 d9 fz z1 z2
  obtain ⟨c0, c1, c2, c3, c4, c5, c6, c7⟩ := b8C QX3.out; obtain ⟨d0, d1, d2, d3, d4, d5, d6, d7, d8, d9⟩ := b10C QN3.out; have fz := fun j => bT QN3.out j; have z1 := bL QX3.out; have z2 := bL QN3.out
  rw [HOP.out] at lkO
  rw [HRE.out] at lkR
  rw [HT0.out]
  go_upto_region 17 with fail
  refine nW (P := fun W => Code.wp _ _ _ _ W) _ ?_
  intro W hW
  obtain ⟨hq, hx, hkb, hsz⟩ := puts3 (w := w) QN3.out (by omega) E3.out hW
  have QW := hQq hq; have EW := hQq hx
  have MW : Hid (W.heap[w2.heap.size]? = some _) := hQq (hkb _ _ QM3.out (fun e => by have h2 : w.heap.size + 1 = w2.heap.size := oI e; have := ZN.out; omega))
  have HW := hQq ((HM2.out.ext F3.out).keepB (fun o h => hkb _ o h (fun e => by have h2 : w.heap.size + 1 = bm := oI e; have := HBM.out; omega)))
  have AW := hQq (attT_keep (HO2.out.ext F3.out) hkb (Nat.le_of_eq hsz.symm) QN3.out (by decide))
  have SW := hQq (strIn_keep HO3.out hkb (Nat.le_of_eq hsz.symm) QN3.out)
  clear hq hx hkb hsz hW lkO lkR c0 c1 c2 c3 c4 c5 c6 c7 d0 d1 d2 d3 d4 d5 d6 d7 d8 d9 fz z1 z2
  go_cut [7] (fun p wx => p = .int .i64 (bookE (ptsO 1 x.ats) n) /\ wx.heap[w.heap.size + 1]? = some (.cells #[.int .i64 x.dep, .string x.nm, .int .i64 x.kd, .slice a6 (ptsP 1 x.ats).length cap6, .string x.dat, .int .i64 x.ma, .int .i64 x.mi, .int .i64 x.cl, .bool (turnO (ptsO 1 x.ats)), .slice a7 (turnR (ptsO 1 x.ats)).length cap7] 41 (0, 0)) /\ Ext w wx /\ AttT wx (.slice a6 (ptsP 1 x.ats).length cap6) (ptsP 1 x.ats) /\ StrIn 0 wx (.slice a7 (turnR (ptsO 1 x.ats)).length cap7) (turnR (ptsO 1 x.ats)))
  case first =>
   refine wp_region_inv3 (neuF x (.slice a6 (ptsP 1 x.ats).length cap6) (.slice a7 (turnR (ptsO 1 x.ats)).length cap7) (turnO (ptsO 1 x.ats)) (valM (ptsO 1 x.ats) opqW) (valM (ptsO 1 x.ats) reW) (valM (ptsO 1 x.ats) nlW) bm n (bookE (ptsO 1 x.ats) n)) 5 6 rfl (by kernel_rfl) (by kernel_rfl) neuF_mono ?_ ?_
   ·rename_i K1 hK1 J1 K2 hJ1 hK2
    clear hK1 hJ1 hK2 K1 J1
    intro i o a wx hi ho hE hk hp
    have n6 := eV (show a.eval (.tmp 6) = .pointer (some ⟨w.heap.size + 1, 0, none⟩) from hk 6 (of_decide_eq_true (by kernel_rfl)))
    have n9 := eV (show a.eval (.tmp 9) = .pointer (some ⟨w2.heap.size, 0, none⟩) from hk 9 (of_decide_eq_true (by kernel_rfl)))
    have n10 := eV (show a.eval (.tmp 10) = .map (some bm) from hk 10 (of_decide_eq_true (by kernel_rfl)))
    have n2 := eV (show a.eval (.tmp 2) = .int .i64 n from hk 2 (of_decide_eq_true (by kernel_rfl)))
    clear hk
    match i, hi, ho, hp with
    | 0, _, ho, hp =>
     obtain rfl := oI ho
     have qx := bX hE QW.out
     obtain ⟨d0, d1, d2, d3, d4, d5, d6, d7, d8, d9⟩ := b10C qx
     clear ho hp
     unfold Oper.wp; go_simp; exact ⟨_, rfl, rfl, bR _ _⟩
    | 1, _, ho, hp =>
     obtain rfl := oI ho
     have qx := bX hE MW.out
     have d0 := bC qx 0; have d1 := bC qx 1; have d2 := bC qx 2
     clear ho hp
     unfold Oper.wp; go_simp; exact ⟨_, rfl, rfl, bR _ _⟩
    | 2, _, ho, hp =>
     obtain rfl := oI ho
     clear ho hp
     unfold Oper.wp; go_simp; exact ⟨_, rfl, rfl, bR _ _⟩
    | 3, _, ho, hp =>
     obtain rfl := oI ho
     clear ho hp
     unfold Oper.wp; go_simp; exact ⟨_, rfl, rfl, bR _ _⟩
    | 4, _, ho, hp =>
     obtain rfl := oI ho
     have p1 := eV (show a.eval (.tmp 97) = mksV (valM (ptsO 1 x.ats) opqW) (valM (ptsO 1 x.ats) reW) (valM (ptsO 1 x.ats) nlW) from hp 1 _ 97 (by kernel_rfl) rfl rfl)
     have p2 := eV (show a.eval (.tmp 98) = .map (some bm) from hp 2 _ 98 (by kernel_rfl) rfl rfl)
     have p3 := eV (show a.eval (.tmp 99) = .int .i64 n from hp 3 _ 99 (by kernel_rfl) rfl rfl)
     clear ho hp
     unfold Oper.wp; go_simp
     refine (ovBook (ptsO 1 x.ats) bm nm2 n _ (HL.out.ext (EW.out.trans hE)) (HW.out.ext hE) HN.out).mono ?_
     rintro e w5 ⟨rfl, hb5⟩
     exact ⟨_, rfl, rfl, hb5⟩
    | i + 5, h, _, _ => exact absurd h (by omega)
   ·rename_i K1 hK1 J1 K2 hJ1 hK2
    clear hK1 K1
    intro vs wx hE hf
    generalize hA : putsA _ _ _ = A1
    have p96 : vs 96 = .agg #[.int .i64 x.dep, .string x.nm, .int .i64 x.kd, .slice a6 (ptsP 1 x.ats).length cap6, .string x.dat, .int .i64 x.ma, .int .i64 x.mi, .int .i64 x.cl, .bool (turnO (ptsO 1 x.ats)), .slice a7 (turnR (ptsO 1 x.ats)).length cap7] := hf 0 _ 96 (by omega) rfl rfl
    have p100 : vs 100 = .int .i64 (bookE (ptsO 1 x.ats) n) := hf 4 _ 100 (by omega) rfl rfl
    clear hf
    have hA2 := hA.symm.trans (congrArg (fun D => putsA _ D vs) (show dstL _ 5 = [96, 97, 98, 99, 100] by kernel_rfl))
    have e6 := eV (show A1.eval (.tmp 6) = .pointer (some ⟨w.heap.size + 1, 0, none⟩) by rw [hA2, puts_eval _ _ _ _ (of_decide_eq_true (by kernel_rfl)), if_neg (by decide)]; rfl)
    have e96 := eV (show A1.eval (.tmp 96) = .agg #[.int .i64 x.dep, .string x.nm, .int .i64 x.kd, .slice a6 (ptsP 1 x.ats).length cap6, .string x.dat, .int .i64 x.ma, .int .i64 x.mi, .int .i64 x.cl, .bool (turnO (ptsO 1 x.ats)), .slice a7 (turnR (ptsO 1 x.ats)).length cap7] by rw [hA2, puts_eval _ _ _ _ (of_decide_eq_true (by kernel_rfl)), if_pos (by decide), p96])
    have e100 := eV (show A1.eval (.tmp 100) = .int .i64 (bookE (ptsO 1 x.ats) n) by rw [hA2, puts_eval _ _ _ _ (of_decide_eq_true (by kernel_rfl)), if_pos (by decide), p100])
    have HA := hQq hA2
    clear hA2 hA p96 p100
    have QX5 := hQq (bX hE QW.out); have EX5 := hQq (EW.out.trans hE); have AX5 := hQq (AW.out.ext hE); have SX5 := hQq (SW.out.ext okS hE)
    clear hE
    obtain ⟨d0, d1, d2, d3, d4, d5, d6, d7, d8, d9⟩ := b10C QX5.out; have fz := fun j => bT QX5.out j; have z2 := bL QX5.out
    refine tail_cons rfl ?_
    unfold Oper.wp
    go_simp
    refine tail_cons rfl ?_
    unfold Oper.wp
    go_simp
    unfold tailWp
    rw [HA.out]
    refine hK2 _ _ ?_
    clear e6 e96 e100 hK2 fz z2 d0 d1 d2 d3 d4 d5 d6 d7 d8 d9
    simp only [putsA, List.foldl, Act.put, List.setIfInBounds_toArray, List.set_cons_succ, List.set_cons_zero]
    go_meet
    exact ⟨rfl, neuEnd QX5.out (by omega) EX5.out AX5.out SX5.out⟩
  case rest =>
   obtain ⟨rfl, hq, hx, ha, hs⟩ := hcut
   have QF := hQq hq; have XF := hQq hx; have AF := hQq ha; have SF := hQq hs
   clear hq hx ha hs
   obtain ⟨d0, d1, d2, d3, d4, d5, d6, d7, d8, d9⟩ := b10C QF.out
   go_wp2_with fail
   refine bodyPost_ret (v := .tuple #[.agg #[.int .i64 x.dep, .string x.nm, .int .i64 x.kd, .slice a6 (ptsP 1 x.ats).length cap6, .string x.dat, .int .i64 x.ma, .int .i64 x.mi, .int .i64 x.cl, .bool (turnO (ptsO 1 x.ats)), .slice a7 (turnR (ptsO 1 x.ats)).length cap7], .int .i64 (bookE (ptsO 1 x.ats) n)]) (by simp [results, Tryz.f157, go_sem, bC QF.out 0, bC QF.out 1, bC QF.out 2, bC QF.out 3, bC QF.out 4, bC QF.out 5, bC QF.out 6, bC QF.out 7, bC QF.out 8, bC QF.out 9]) rfl ?_
   exact ⟨⟨ndX x, _, _, by rw [HE.out, HX.out], ⟨_, _, _, rfl⟩, ⟨_, _, _, rfl⟩, fun _ => ⟨rfl, by rw [HX.out]; exact AF.out, by rw [HX.out]; exact SF.out⟩⟩, XF.out⟩
theorem ovNeutral (x : TrN) (va : Value) (rt : Bool) (n : Int) (w : World) (hL : LaidO w) (hv : aA w va x.ats) (hm : Small x.ats) (hk : kindE x = 0) (hn : n <= 1000000) :
  Calls Tryz.prog 157 #[trV x va, .bool rt, .int .i64 n] w (NeutP w x rt n) := by
 by_cases hs : zeroB x = true \/ x.kd = 5 \/ ptsE 1 x.ats ≠ 0
 ·exact neutE x va rt n w hL hv hm hk hs
 ·have hz : zeroB x = false := by
   cases h : zeroB x
   ·rfl
   ·exact absurd (.inl h) hs
  have hw : x.kd ≠ 5 := fun e => hs (.inr (.inl e))
  have hp : ptsE 1 x.ats = 0 := Decidable.not_not.1 fun e => hs (.inr (.inr e))
  by_cases ht : turnE (ptsO 1 x.ats) = 0
  ·cases ho : isM (ptsO 1 x.ats) opqW <;> cases hr : isM (ptsO 1 x.ats) reW <;> cases rt
   ·exact neutG x va _ n w hL hv hm hz hw hp hn ht (.inr (.inl ⟨ho, hr, rfl, trivial⟩))
   ·exact neutG x va _ n w hL hv hm hz hw hp hn ht (.inl ⟨ho, hr, rfl, trivial⟩)
   ·by_cases hk1 : x.kd = 1
    ·exact neutG x va _ n w hL hv hm hz hw hp hn ht (.inr (.inr (.inr (.inr (.inr ⟨ho, hr, rfl, hk1⟩)))))
    ·exact neutF x va _ n w hL hv hm hz hw hp hn (.inr (.inr (.inr (.inl ⟨ht, ho, hr, hk1⟩))))
   ·by_cases hk1 : x.kd = 1
    ·exact neutF x va _ n w hL hv hm hz hw hp hn (.inr (.inr (.inr (.inr (.inr ⟨ht, ho, hr, hk1, rfl⟩)))))
    ·exact neutF x va _ n w hL hv hm hz hw hp hn (.inr (.inr (.inr (.inl ⟨ht, ho, hr, hk1⟩))))
   ·by_cases hk1 : x.kd = 1
    ·exact neutG x va _ n w hL hv hm hz hw hp hn ht (.inr (.inr (.inr (.inl ⟨ho, hr, rfl, hk1⟩))))
    ·exact neutF x va _ n w hL hv hm hz hw hp hn (.inr (.inr (.inl ⟨ht, ho, hk1⟩)))
   ·by_cases hk1 : x.kd = 1
    ·exact neutG x va _ n w hL hv hm hz hw hp hn ht (.inr (.inr (.inl ⟨ho, hr, rfl, hk1⟩)))
    ·exact neutF x va _ n w hL hv hm hz hw hp hn (.inr (.inr (.inl ⟨ht, ho, hk1⟩)))
   ·by_cases hk1 : x.kd = 1
    ·exact neutG x va _ n w hL hv hm hz hw hp hn ht (.inr (.inr (.inr (.inr (.inl ⟨ho, hr, rfl, hk1⟩)))))
    ·exact neutF x va _ n w hL hv hm hz hw hp hn (.inr (.inr (.inl ⟨ht, ho, hk1⟩)))
   ·by_cases hk1 : x.kd = 1
    ·exact neutF x va _ n w hL hv hm hz hw hp hn (.inr (.inr (.inr (.inr (.inl ⟨ht, ho, hr, hk1, rfl⟩)))))
    ·exact neutF x va _ n w hL hv hm hz hw hp hn (.inr (.inr (.inl ⟨ht, ho, hk1⟩)))
  ·cases ho : isM (ptsO 1 x.ats) opqW
   ·exact neutF x va rt n w hL hv hm hz hw hp hn (.inr (.inl ⟨ht, ho⟩))
   ·exact neutF x va rt n w hL hv hm hz hw hp hn (.inl ⟨ht, ho⟩)
theorem turnR_small (own : List Attr) : (turnR own).length <= 8 /\ ∀ s ∈ turnR own, s.size <= 24 := by
 have hn : (([] : List ByteArray).length <= 8 /\ ∀ s ∈ ([] : List ByteArray), s.size <= 24) := ⟨Nat.zero_le _, fun a ha => by cases ha⟩
 by_cases hq : isM own opqW = true /\ valM own opqW ≠ yW
 ·rw [(turn_of (turn_opq hq.1 hq.2)).2.1]; exact hn
 cases hr : isM own reW with
 | false => rw [(turn_of (turn_no hq hr)).2.1]; exact hn
 | true =>
  by_cases hb : parE (valM own reW) ≠ 0 \/ parL (valM own reW) = []
  ·rw [(turn_of (turn_bad hq hr hb)).2.1]; exact hn
  ·rw [(turn_of (turn_led hq hr hb)).2.1]; exact ⟨par_len _, par_names _⟩
theorem od_small {t : List TrN} (h : treeE t = 0) (hs : SmallT t) : SmallB ((List.range t.length).map (odX t)) := by
 refine small_of (by simp; have := (treeE_zero h).2.1; omega) fun x hx => ?_
 obtain ⟨i, hi, rfl⟩ := List.mem_map.1 hx
 have hi := List.mem_range.1 hi
 have hm : getT t i ∈ t := by rw [getT_at t i hi]; exact List.getElem_mem hi
 have hc := getT_chk h hi
 obtain ⟨s1, _, _⟩ := hs _ hm
 by_cases hz : zeroB (getT t i) = true
 ·have : odX t i = ⟨⟨(getT t i).dep, (getT t i).nm, 5, [], ⟨#[]⟩, 0, 0, 0⟩, false, []⟩ := if_pos hz
  rw [this]
  exact ⟨s1, Nat.zero_le _, (fun a ha => by cases ha), Nat.zero_le _, (fun a ha => by cases ha)⟩
 ·rw [od_node rfl (Bool.eq_false_iff.2 hz)]
  obtain ⟨p1, p2⟩ := ptsP_small (d := 1) (by decide) hc
  obtain ⟨r1, r2⟩ := turnR_small (ptsO 1 (getT t i).ats)
  refine ⟨s1, ?_, ?_, ?_, ?_⟩
  ·show (ptsP 1 _).length <= _; omega
  ·intro a ha; have := p2 a ha; omega
  ·show (turnR _).length <= _; omega
  ·intro s hs; have := r2 s hs; omega
theorem getT_kind {t : List TrN} (h : treeE t = 0) {k : Nat} (hk : k < t.length) : kindE (getT t k) = 0 := (node_parts ((treeE_zero h).2.2.1 k hk)).2.2.1
def OdecP (w : World) (t : List TrN) (e : Ending) (w' : World) : Prop := (∃ B' a n cap, w.heap.size <= B' /\ e = .returned (.tuple #[.slice a n cap, .int .i64 (odN t), .int .i64 (odF t)]) /\ OwnL cdB B' w' (.slice a n cap) (odL t)) /\ Ext w w'
set_option maxRecDepth 100000 in
set_option maxHeartbeats 16000000 in
theorem ovDecode (B : Nat) (w : World) (v : Value) (t : List TrN) (hL : LaidO w) (hv : TrIn B w v t) (hsm : SmallT t) :
  Calls Tryz.prog 102 #[v] w (OdecP w t) := by
 obtain ⟨aa, cap, rfl⟩ := hv.form
 have HV := hQq hv; have HL := hQq hL; have HSM := hQq hsm
 clear hv hL hsm
 by_cases he : treeE t = 0
 case neg =>
  have HR := hQq (od_of (gend_tree (E := odE t) (X := odX t) he))
  have q1 : (treeE t != 0) = true := bne_iff_ne.2 he
  clear he
  go_enter Tryz.func102, Tryz.ntmps102
  go_wp2_with (go_at_call 66; refine (treeCheck B _ t _ HV.out HSM.out).mono ?_; rintro e w1 ⟨rfl, hb1⟩; have HB1 := hQq hb1; clear hb1)
  go_ret3
  exact ⟨⟨w.heap.size, none, 0, 0, Nat.le_refl _, by rw [HR.out.2.1, HR.out.2.2]; rfl, by rw [HR.out.1]; exact OwnL.nil _ _ _⟩, HB1.out⟩
 have HE0 := hQq he
 have HCH := hQq (fun k hk => getT_chk he (k := k) hk)
 have HKD := hQq (fun k hk => getT_kind he (k := k) hk)
 have hlen := (treeE_zero he).2.1
 have HSD := hQq (od_small he HSM.out)
 have q1 : (treeE t != 0) = false := bne_eq_false_iff_eq.2 he
 clear he
 go_enter Tryz.func102, Tryz.ntmps102
 go_wp2_with (first
  | (go_at_call 66; refine (treeCheck B _ t _ HV.out HSM.out).mono ?_; rintro e w1 ⟨rfl, hb1⟩; have HB1 := hQq hb1; clear hb1)
  | (go_at_call 107; refine (ovNames B _ t _ (HV.out.ext okT HB1.out) (by omega)).mono ?_; rintro e w3 ⟨⟨bm, nm, rfl, hm, hbm⟩, hb3⟩; have HM := hQq hm; have HBM := hQq hbm; have HB3 := hQq (Ext.trans HB1.out hb3); clear hm hbm hb3))
 go_loopw [2, 27] (fun o c w' => ∃ (wi : World) (k : Nat), wi = w' /\ k <= t.length /\ c = .int .i64 k /\ OwnL cdB w3.heap.size wi o ((List.range k).map (odX t)) /\ (∀ j, j < k -> odE t j = 0) /\ Ext w3 wi) (fun _ c _ => t.length - (intOf c).toNat)
 case atStart => exact ⟨_, 0, rfl, Nat.zero_le _, rfl, OwnL.nil _ _ _, fun j hj => absurd hj (by omega), bR _ _⟩
 case round =>
  obtain ⟨wi, k, rfl, hk, rfl, ho, hok, hE⟩ := hrel
  have HO := hQq ho; have HE := hQq hE; have HOK := hQq hok
  obtain ⟨a5, cap5, rfl⟩ := ho.form
  have HQK : Hid (((List.range k).map (odX t)).length = k) := hQq (by simp)
  clear hok ho
  rw [HQK.out] at HO ⊢
  by_cases hlt : k < t.length
  case neg =>
   obtain rfl : k = t.length := by omega
   clear hE
   by_cases hb : brEr ((List.range t.length).map (odX t)) = 0
   ·have HR := hQq (od_of (gend_ok (E := odE t) (X := odX t) HE0.out HOK.out hb))
    have q3 : (brEr ((List.range t.length).map (odX t)) != 0) = false := bne_eq_false_iff_eq.2 hb
    clear hb
    go_wp2_with (go_at_call 49; refine (brCheck w3.heap.size _ _ ((List.range t.length).map (odX t)) (by have h := HO.out.in okB; exact h) HSD.out).mono ?_; rintro e w2 ⟨rfl, hb2⟩; have HB2 := hQq hb2; clear hb2)
    go_ret3
    exact ⟨⟨w3.heap.size, _, _, _, HB3.out.size, by rw [HR.out.2.1, HR.out.2.2]; rfl, by rw [HR.out.1]; exact HO.out.ext okB HB2.out⟩, HB3.out.trans (HE.out.trans HB2.out)⟩
   ·have HR := hQq (od_of (gend_br (E := odE t) (X := odX t) HE0.out HOK.out hb))
    have q3 : (brEr ((List.range t.length).map (odX t)) != 0) = true := bne_iff_ne.2 hb
    clear hb
    go_wp2_with (go_at_call 49; refine (brCheck w3.heap.size _ _ ((List.range t.length).map (odX t)) (by have h := HO.out.in okB; exact h) HSD.out).mono ?_; rintro e w2 ⟨rfl, hb2⟩; have HB2 := hQq hb2; clear hb2)
    go_ret3
    exact ⟨⟨w3.heap.size, none, 0, 0, HB3.out.size, by rw [HR.out.2.1, HR.out.2.2]; rfl, by rw [HR.out.1]; exact OwnL.nil _ _ _⟩, HB3.out.trans (HE.out.trans HB2.out)⟩
  obtain ⟨bb, off, va, hex, hbx, hva, c0, c1, c2, c3, c4, c5, c6, c7⟩ := (HV.out.ext okT (HB3.out.trans HE.out)).tr k hlt
  cases hex
  obtain ⟨a3, cap3, rfl⟩ := hva.form
  have HVA := hQq hva.attrs
  have HG := hQq (getT_at t k hlt)
  have hch := HCH.out k hlt
  have hkd := HKD.out k hlt
  rw [getT_at t k hlt] at hch hkd
  have HSX := hQq (small_chk hch); have HKX := hQq hkd
  have HTS : Hid ((List.range (k + 1)).map (odX t) = (List.range k).map (odX t) ++ [odX t k]) := hQq (by rw [List.range_succ, List.map_append]; rfl)
  have HXE : Hid (odX t k = ndX (t[k]'hlt)) := hQq (by rw [odX_nd, getT_at t k hlt])
  have HEE : Hid (odE t k = ndE (t[k]'hlt) ((k : Int) == 0) (manyT t (t[k]'hlt).cl)) := hQq (by
   rw [odE_nd, getT_at t k hlt]
   congr 1
   rw [Bool.eq_iff_iff]; simp)
  generalize t[k]'hlt = x at c0 c1 c2 c3 c4 c5 c6 c7 HVA HG HSX HKX HXE HEE
  have j1 : ((k : Nat) : Int) < (t.length : Int) := by omega
  have j0 : (0 : Int) <= (k : Int) := by omega
  have hM := many_bd t x.cl
  have HMM := hQq (mnF_look t x.cl)
  generalize hMg : manyT t x.cl = M at HEE hM HMM
  have HMB : Hid (M <= 1000000) := hQq (by omega)
  clear hM hMg hva hE hch hkd
  by_cases hz : ndE x ((k : Int) == 0) M = 0
  ·have HN : Hid (∀ j, j < k + 1 -> odE t j = 0) := hQq (fun j hj => by
    by_cases e : j = k
    ·subst e; rw [HEE.out]; exact hz
    ·exact HOK.out j (by omega))
   have q2 : (ndE x ((k : Int) == 0) M != 0) = false := bne_eq_false_iff_eq.2 hz
   have HZ := hQq hz
   clear hz
   go_wp2_with (first
    | (at_lookup; refine wl_look rfl (.tmp 36) (.tmp 38) 70 false rfl 3 3 keyInt mapT_count (.int .i64 0) zeroInt rfl (HM.out.ext (HE.out.trans (eA _ _))) x.cl rfl ?_; rw [if_neg Bool.false_ne_true, HMM.out])
    | (go_at_call 157; refine (ovNeutral x _ ((k : Int) == 0) M _ (HL.out.ext (HB3.out.trans (HE.out.trans (eA _ _)))) (HVA.out.ext (eA _ _)) HSX.out HKX.out HMB.out).mono ?_; rintro e w4 ⟨⟨y, ya, yr, rfl, ⟨a6, n6, c6', rfl⟩, ⟨a7, n7, c7', rfl⟩, hok⟩, hb4⟩; obtain ⟨hy1, hy2, hy3⟩ := hok HZ.out; have HY1 := hQq hy1; have HY2 := hQq hy2; have HY3 := hQq hy3; have HB4 := hQq ((eA _ _).trans hb4); clear hok hb4 hy1 hy2 hy3)
    | (at_builtin; refine appL okB rfl (.tmp 47) (.tmp 49) rfl _ _ ((List.range k).map (odX t)) [odX t k] w3 _ rfl rfl (by exact HO.out.ext okB ((HB4.out.trans (eA _ _)).trans (eA _ _))) (by refine listIn_new okB _ (odX t k) _ _ (by simp) ?_; rw [HXE.out, <- HY1.out]; exact ⟨_, _, attT_in (HY2.out.ext (eA _ _)), (HY3.out.mono okS (Nat.zero_le _)).ext okS (eA _ _), rfl⟩) (by exact ((HE.out.trans HB4.out).trans (eA _ _)).trans (eA _ _)) (by have := (((HE.out.trans HB4.out).trans (eA w4 (.cells #[] 0))).trans (eA _ (.cells #[] 0))).size; simp at this ⊢; omega) (by rw [HQK.out]; simp; omega) ?_; intro v5 w5 ha; have HA := hQq ha; clear ha)
    | fail)
   go_roundw
   case rel => exact ⟨_, k + 1, rfl, by omega, by go_num, by rw [HTS.out]; exact HA.out.own, HN.out, HA.out.below⟩
   case measure => first | (simp [intOf]; done) | (simp [intOf]; omega)
  ·have HR := hQq (od_of (gend_node (E := odE t) (X := odX t) HE0.out hlt HOK.out (by rw [HEE.out]; exact hz)))
   have q2 : (ndE x ((k : Int) == 0) M != 0) = true := bne_iff_ne.2 hz
   clear hz
   go_wp2_with (first
    | (at_lookup; refine wl_look rfl (.tmp 36) (.tmp 38) 70 false rfl 3 3 keyInt mapT_count (.int .i64 0) zeroInt rfl (HM.out.ext (HE.out.trans (eA _ _))) x.cl rfl ?_; rw [if_neg Bool.false_ne_true, HMM.out])
    | (go_at_call 157; refine (ovNeutral x _ ((k : Int) == 0) M _ (HL.out.ext (HB3.out.trans (HE.out.trans (eA _ _)))) (HVA.out.ext (eA _ _)) HSX.out HKX.out HMB.out).mono ?_; rintro e w4 ⟨⟨y, ya, yr, rfl, ⟨a6, n6, c6', rfl⟩, ⟨a7, n7, c7', rfl⟩, hok⟩, hb4⟩; have HB4 := hQq ((eA _ _).trans hb4); clear hok hb4)
    | fail)
   go_ret3
   exact ⟨⟨w3.heap.size, none, 0, 0, HB3.out.size, by rw [HR.out.2.1, HR.out.2.2, HEE.out]; rfl, by rw [HR.out.1]; exact OwnL.nil _ _ _⟩, HB3.out.trans (HE.out.trans (HB4.out.trans (eA _ _)))⟩
theorem ovGood (B : Nat) (w : World) (v : Value) (t : List TrN) (hL : LaidO w) (hv : TrIn B w v t) (hsm : SmallT t) :
  RetB Tryz.prog 105 #[v] w (.tuple #[.int .i64 (odN t), .int .i64 (odF t)]) := by
 unfold RetB
 have HV := hQq hv; have HL := hQq hL; have HSM := hQq hsm
 clear hv hL hsm
 go_enter Tryz.func105, Tryz.ntmps105
 go_wp2_with (go_at_call 102; refine (ovDecode B _ _ t HL.out HV.out HSM.out).mono ?_; rintro e w1 ⟨⟨B', a, n, c, _, rfl, _⟩, hb1⟩; have HB1 := hQq hb1; clear hb1)
 go_ret2
 exact ⟨rfl, HB1.out⟩
set_option maxRecDepth 100000 in
set_option maxHeartbeats 4000000 in
theorem ovWrite (v : Value) (l : List Attr) (o r n : ByteArray) (w : World) (hL : LaidO w) (hv : aA w v l) (hm : Small l) (ho : o.size <= 200) (hr : r.size <= 200) (hn : n.size <= 200) :
  Calls Tryz.prog 109 #[v, mksV o r n] w fun e w' => (∃ v', e = .returned (.tuple #[v', .int .i64 (mwE 1 l (mk3 o r n))]) /\ AttT w' v' (mwL 1 l (mk3 o r n))) /\ Ext w w' := by
 have HL := hQq hL; have HV := hQq hv; have HM := hQq hm
 have HMS := hQq (mk3_size ho hr hn)
 clear hL hv hm ho hr hn
 unfold mksV
 by_cases h1 : atsE 1 l = 0
 case neg =>
  obtain ⟨e1, e2⟩ := mw_of (mw_ats (ms := mk3 o r n) h1)
  rw [e1, e2]
  have q1 : (atsE 1 l != 0) = true := bne_iff_ne.2 h1
  clear h1 e1 e2
  go_enter Tryz.func109, Tryz.ntmps109
  go_wp2_with (go_at_call 119; refine (escAttrsT 1 _ l _ (HL.out.ext (eA _ _)).laid (HV.out.ext (eA _ _)) HM.out).mono ?_; rintro e w1 ⟨⟨v1, rfl, ho⟩, hb⟩; have HB := hQq ((eA _ _).trans hb); clear ho hb)
  go_ret2
  exact ⟨⟨_, rfl, AttT.nil _ _ _ (aA.nil _ _ _)⟩, HB.out⟩
 have H1 := hQq h1
 have HEND := hQq (fun (h : chkE (setsM 1 (atsL 1 l) (mk3 o r n)) = 0) => mw_of (mw_ok h1 h))
 have HBAD := hQq (fun (h : chkE (setsM 1 (atsL 1 l) (mk3 o r n)) ≠ 0) => mw_of (mw_bad h1 h))
 have HSTEP := hQq (fun (k : Nat) (hk : k < (mk3 o r n).length) hc => mw_step h1 (mk3_ok o r n) HMS.out hk hc)
 have HC0 := hQq (ats_sorted h1).2
 clear h1
 go_enter Tryz.func109, Tryz.ntmps109
 go_wp2_with (go_at_call 119; refine (escAttrsT 1 _ l _ (HL.out.ext (eA _ _)).laid (HV.out.ext (eA _ _)) HM.out).mono ?_; rintro e w1 ⟨⟨v1, rfl, ho⟩, hb⟩; rw [H1.out]; have HO := hQq ho; have HB := hQq ((eA _ _).trans hb); have QB := hQq (bX hb (bN w (.cells #[.string o, .string r, .string n] 129 (0, 0)))); have y0 := bC QB.out 0; have y1 := bC QB.out 1; have y2 := bC QB.out 2; clear ho hb)
 clear y0 y1 y2
 go_loopw [6, 29] (fun out i w' => ∃ (wi : World) (k : Nat), wi = w' /\ k <= 3 /\ i = .int .i64 k /\ AttT wi out (setsM 1 (atsL 1 l) ((mk3 o r n).take k)) /\ chkE (setsM 1 (atsL 1 l) ((mk3 o r n).take k)) = 0 /\ wi.heap[w1.heap.size]? = some (.cells (mksC o r n) 45 (0, 0)) /\ Ext w wi) (fun _ i _ => 3 - (intOf i).toNat)
 case atStart => exact ⟨_, 0, rfl, Nat.zero_le _, rfl, HO.out.ext (eA _ _), HC0.out, bN _ _, HB.out.trans (eA _ _)⟩
 case round =>
  obtain ⟨wi, k, rfl, hk, rfl, ho, hc, hq, hE⟩ := hrel
  have HOI := hQq ho; have HCI := hQq hc; have HQ := hQq hq; have HE := hQq hE
  obtain ⟨a5, c5, rfl, _, _⟩ := ho.1
  clear hc hq hE ho
  by_cases hlt : k < 3
  case neg =>
   obtain rfl : k = 3 := by omega
   have HR := hQq (HEND.out HCI.out)
   go_wp2
   go_ret2
   exact ⟨⟨_, by rw [HR.out.2]; rfl, by rw [HR.out.1]; exact HOI.out⟩, HE.out⟩
  obtain ⟨m1, m2⟩ := mksC_at (o := o) (r := r) (n := n) hlt
  have HS := hQq (HSTEP.out k hlt HCI.out)
  have hmk : MkOk 1 ((mk3 o r n)[k]'hlt).1 := (mk3_ok o r n).2 _ (List.getElem_mem hlt)
  have hms := HMS.out _ (List.getElem_mem (l := mk3 o r n) hlt)
  have hm1 := mk3_word (o := o) (r := r) (n := n) hlt
  generalize (mk3 o r n)[k]'hlt = m at m1 m2 HS hmk hms hm1
  have c0 : wi.cell? ⟨w1.heap.size, k * 2, none⟩ = some (.string m.1) := by rw [bC HQ.out]; exact m1
  have c1 : wi.cell? ⟨w1.heap.size, k * 2 + 1, none⟩ = some (.string m.2) := by rw [bC HQ.out]; exact m2
  have hmz : m.1.size <= 1000000 := hm1
  have j1 : ((k : Nat) : Int) < 3 := by omega
  have j0 : (0 : Int) <= (k : Int) := by omega
  clear m1 m2
  cases hz : m.2.toList.isEmpty
  case true =>
   have HT : Hid (setsM 1 (atsL 1 l) ((mk3 o r n).take (k + 1)) = setsM 1 (atsL 1 l) ((mk3 o r n).take k)) := hQq (HS.out.skip (by
    rw [size_L, <- tL]
    exact List.length_eq_zero_iff.2 (List.isEmpty_iff.1 hz)))
   go_wp2
   go_roundw
   case rel => exact ⟨_, k + 1, rfl, by omega, by go_num, by rw [HT.out]; exact HOI.out.ext (eA _ _), by rw [HT.out]; exact HCI.out, bA HQ.out, HE.out.trans (eA _ _)⟩
   case measure => first | (simp [intOf]; done) | (simp [intOf]; omega)
  have HNZ : Hid (m.2.size ≠ 0) := hQq (fun e => by
   rw [size_L, <- tL] at e
   rw [List.length_eq_zero_iff.1 e] at hz; cases hz)
  have HMK := hQq hmk
  cases hf : spF (setsM 1 (atsL 1 l) ((mk3 o r n).take k)) (mkX 1 m)
  case false =>
   have HG := hQq (HS.out.good HNZ.out hf)
   clear hf hmk
   go_wp2_with (first
    | (go_at_call 118; refine (escMark 1 m.1 _ (HL.out.ext (HE.out.trans (eA _ _))).laid hmz).mono ?_; rintro e w2 ⟨rfl, hb2⟩; rw [HMK.out.mr]; have HB2 := hQq ((eA _ _).trans hb2); have QX := hQq (bX hb2 (bN wi (.cells #[.string m.1, .string m.2] 45 (0, 0)))); have x0 := bC QX.out 0; have x1 := bC QX.out 1; have f0 : w2.frozen? ⟨wi.heap.size, 0, none⟩ = false := bT QX.out 0; have z0 := bL QX.out; have HE3 : Hid (Ext wi (w2.setCell ⟨wi.heap.size, 0, none⟩ (.string (mrS 1 m.1)))) := hQq (Below.setCell (p := ⟨wi.heap.size, 0, none⟩) HB2.out (Nat.le_refl _) _); clear hb2)
    | (go_at_call 120; refine (attrsSet _ (setsM 1 (atsL 1 l) ((mk3 o r n).take k)) (mkX 1 m) _ (HOI.out.ext HE3.out).1 (chk_sizes HCI.out) HCI.out HS.out.alone HS.out.sizes HS.out.new).mono ?_; rintro e w3 ⟨⟨v3, rfl, ho3⟩, hb3⟩; rw [HG.out.2.1] at ho3; rw [HG.out.2.2]; have HO3 := hQq ho3; have HB3 := hQq (HE3.out.trans hb3); clear ho3 hb3)
    | fail)
   go_roundw
   case rel => exact ⟨_, k + 1, rfl, by omega, by go_num, HO3.out, HG.out.1, bX HB3.out HQ.out, HE.out.trans HB3.out⟩
   case measure => first | (simp [intOf]; done) | (simp [intOf]; omega)
  ·have HG := hQq (HS.out.bad HNZ.out hf)
   have HR := hQq (HBAD.out HG.out.1)
   clear hf hmk
   go_wp2_with (first
    | (go_at_call 118; refine (escMark 1 m.1 _ (HL.out.ext (HE.out.trans (eA _ _))).laid hmz).mono ?_; rintro e w2 ⟨rfl, hb2⟩; rw [HMK.out.mr]; have HB2 := hQq ((eA _ _).trans hb2); have QX := hQq (bX hb2 (bN wi (.cells #[.string m.1, .string m.2] 45 (0, 0)))); have x0 := bC QX.out 0; have x1 := bC QX.out 1; have f0 : w2.frozen? ⟨wi.heap.size, 0, none⟩ = false := bT QX.out 0; have z0 := bL QX.out; have HE3 : Hid (Ext wi (w2.setCell ⟨wi.heap.size, 0, none⟩ (.string (mrS 1 m.1)))) := hQq (Below.setCell (p := ⟨wi.heap.size, 0, none⟩) HB2.out (Nat.le_refl _) _); clear hb2)
    | (go_at_call 120; refine (attrsSet _ (setsM 1 (atsL 1 l) ((mk3 o r n).take k)) (mkX 1 m) _ (HOI.out.ext HE3.out).1 (chk_sizes HCI.out) HCI.out HS.out.alone HS.out.sizes HS.out.new).mono ?_; rintro e w3 ⟨⟨v3, rfl, ho3⟩, hb3⟩; rw [HG.out.2]; have HB3 := hQq (HE3.out.trans hb3); clear ho3 hb3)
    | fail)
   go_ret2
   exact ⟨⟨_, by rw [HR.out.2]; rfl, by rw [HR.out.1]; exact AttT.nil _ _ _ (aA.nil _ _ _)⟩, HE.out.trans HB3.out⟩
def exO : List BrN :=
 [⟨⟨0, ⟨#[]⟩, 1, [((ofL [116, 114, 117, 115, 116, 101, 100, 46, 111, 118, 101, 114, 108, 97, 121, 46, 120]), ⟨#[]⟩)], ⟨#[]⟩, 0, 0, 0⟩, false, []⟩,
  ⟨⟨1, (ofL [97]), 1, [], ⟨#[]⟩, 0, 0, 0⟩, true, []⟩,
  ⟨⟨2, (ofL [102]), 2, [], (ofL [49]), 0, 0, 1⟩, false, []⟩,
  ⟨⟨1, (ofL [100]), 1, [], ⟨#[]⟩, 0, 0, 0⟩, false, [(ofL [111, 108, 100])]⟩,
  ⟨⟨2, (ofL [103]), 2, [], (ofL [49]), 0, 0, 1⟩, false, []⟩,
  ⟨⟨2, (ofL [119]), 5, [], ⟨#[]⟩, 0, 0, 0⟩, false, []⟩]
def rawO : List TrN :=
 [⟨0, ⟨#[]⟩, 1, [((ofL [116, 114, 117, 115, 116, 101, 100, 46, 111, 118, 101, 114, 108, 97, 121, 46, 111, 118, 101, 114, 108, 97, 121, 46, 120]), ⟨#[]⟩)], ⟨#[]⟩, 0, 0, 0⟩,
  ⟨1, (ofL [97]), 1, [((ofL [116, 114, 117, 115, 116, 101, 100, 46, 111, 118, 101, 114, 108, 97, 121, 46, 111, 112, 97, 113, 117, 101]), (ofL [121]))], ⟨#[]⟩, 0, 0, 0⟩,
  ⟨2, (ofL [102]), 2, [((ofL [116, 114, 117, 115, 116, 101, 100, 46, 111, 118, 101, 114, 108, 97, 121, 46, 110, 108, 105, 110, 107]), (ofL [50]))], (ofL [49]), 0, 0, 1⟩,
  ⟨1, (ofL [100]), 1, [((ofL [116, 114, 117, 115, 116, 101, 100, 46, 111, 118, 101, 114, 108, 97, 121, 46, 114, 101, 100, 105, 114, 101, 99, 116]), (ofL [47, 111, 108, 100]))], ⟨#[]⟩, 0, 0, 0⟩,
  ⟨2, (ofL [103]), 2, [((ofL [116, 114, 117, 115, 116, 101, 100, 46, 111, 118, 101, 114, 108, 97, 121, 46, 110, 108, 105, 110, 107]), (ofL [50]))], (ofL [49]), 0, 0, 1⟩,
  ⟨2, (ofL [119]), 4, [], ⟨#[]⟩, 0, 0, 0⟩]
def rawN : List TrN := (rawO.set 2 ⟨2, (ofL [102]), 2, [((ofL [116, 114, 117, 115, 116, 101, 100, 46, 111, 118, 101, 114, 108, 97, 121, 46, 110, 108, 105, 110, 107]), (ofL [51]))], (ofL [49]), 0, 0, 1⟩).set 4 ⟨2, (ofL [103]), 2, [((ofL [116, 114, 117, 115, 116, 101, 100, 46, 111, 118, 101, 114, 108, 97, 121, 46, 110, 108, 105, 110, 107]), (ofL [51]))], (ofL [49]), 0, 0, 1⟩
def rawP : List TrN := rawO.set 1 ⟨1, (ofL [97]), 1, [((ofL [116, 114, 117, 115, 116, 101, 100, 46, 111, 118, 101, 114, 108, 97, 121, 46, 111, 112, 97, 113, 117, 101]), (ofL [110]))], ⟨#[]⟩, 0, 0, 0⟩
def exD : List BrN := exO.set 5 ⟨⟨2, (ofL [119]), 4, [], ⟨#[]⟩, 0, 0, 0⟩, false, []⟩
set_option maxRecDepth 100000 in
theorem exO_enc : oeT exO = (rawO, 0, 0) := by kernel_rfl
set_option maxRecDepth 100000 in
theorem rawO_dec : odT rawO = (exO, 0, 0) := by kernel_rfl
set_option maxRecDepth 100000 in
theorem rawN_dec : odT rawN = ([], 2, 18) := by kernel_rfl
set_option maxRecDepth 100000 in
theorem rawP_dec : odT rawP = ([], 1, 6) := by kernel_rfl
set_option maxRecDepth 100000 in
theorem exD_enc : oeT exD = ([], 5, 16) := by kernel_rfl
theorem exO_small : SmallB exO := by
 refine ⟨?_, ?_, ?_, by decide⟩
 ·unfold SmallT; decide
 ·decide
 ·decide
theorem exD_small : SmallB exD := by
 refine ⟨?_, ?_, ?_, by decide⟩
 ·unfold SmallT; decide
 ·decide
 ·decide
theorem rawO_small : SmallT rawO := by unfold SmallT; decide
theorem rawN_small : SmallT rawN := by unfold SmallT; decide
theorem rawP_small : SmallT rawP := by unfold SmallT; decide
end Go.Proofs.YtimpejaaeinplaaGreatDoor
