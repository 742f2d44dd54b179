/- BsdE OrA OvXO OvD FarF -/
import Derived.Test.YtimpejaaeinplaaGreatDoorQI5
import Derived.Test.YtimpejaaeinplaaGreatDoorQChkE
import Derived.Test.YtimpejaaeinplaaGreatDoorQPthW
namespace Go.Proofs.YtimpejaaeinplaaGreatDoor
open Go.RowKit

section
variable {α β : Type} (f g : α -> β) (l : List α)
def mixM (k : Nat) : List β := (l.take k).map f ++ (l.drop k).map g
theorem mix_zero : mixM f g l 0 = l.map g := by simp [mixM]
theorem mix_len (k : Nat) : (mixM f g l k).length = l.length := by unfold mixM; simp; omega
theorem mix_end : mixM f g l l.length = l.map f := by simp [mixM]
theorem mix_get (k : Nat) (h : k < l.length) (h' : k < (mixM f g l k).length) : (mixM f g l k)[k]'h' = g (l[k]'h) := by
  apply Option.some_inj.1
  rw [<- List.getElem?_eq_getElem]
  unfold mixM
  rw [List.getElem?_append_right (by simp; omega)]
  simp [Nat.min_eq_left (Nat.le_of_lt h), h]
theorem mix_set (k : Nat) (h : k < l.length) : (mixM f g l k).set k (f (l[k]'h)) = mixM f g l (k + 1) := by
  unfold mixM
  rw [List.set_append_right _ _ (by simp; omega), List.take_succ_eq_append_getElem h, List.map_append, List.append_assoc, List.drop_eq_getElem_cons h]
  simp only [List.length_map, List.length_take, Nat.min_eq_left (Nat.le_of_lt h), Nat.sub_self, List.map_cons, List.set_cons_zero, List.map_nil, List.singleton_append]
end
theorem small_br {b : List BrN} (h : brEr b = 0) {k : Nat} (hk : k < b.length) : Small (b[k]'hk).ats := by
  have hz := treeE_zero (brEr_zero h).1
  obtain ⟨_, _, _, hc, _⟩ := node_parts (hz.2.2.1 k (by rw [plT_len]; exact hk))
  rw [getT_plT b k hk, getB_at b k hk] at hc
  intro a ha
  have := size_of_chk hc a ha
  omega
theorem attT_in {B : Nat} {w : World} {v : Value} {l : List Attr} (h : AttT w v l) : AttIn B w v l := attIn_of h.1 fun _ b hb => .inr (h.2 b hb)
end Go.Proofs.YtimpejaaeinplaaGreatDoor
namespace Go.Proofs.YtimpejaaeinplaaGreatDoor
open Go.RowKit

theorem getM_at {own : List Attr} {k : ByteArray} {i : Nat} (hi : i < own.length) (h : ∀ j (_ : j < i) (hj : j < own.length), L (own[j]'hj).1 ≠ L k) (e : L (own[i]'hi).1 = L k) : getM own k = some (own[i]'hi).2 := by
  unfold getM
  have : own.find? (fun a => decide (L a.1 = L k)) = some (own[i]'hi) := by
    rw [List.find?_eq_some_iff_getElem]
    exact ⟨by simp [e], i, hi, rfl, fun j hj => by simp [h j hj (by omega)]⟩
  rw [this]; rfl
theorem many_step {t : List TrN} {c : Int} {k : Nat} : countC t c (k + 1) = countC t c k + (if (getT t k).cl = c then 1 else 0) := by
  rw [countC.eq_2]
/-! The text of a path. -/
def slT (l : List ByteArray) : ByteArray := ofL (l.flatMap fun s => 47 :: L s)
theorem slT_snoc (l : List ByteArray) (s : ByteArray) : slT (l ++ [s]) = slT l ++ (⟨#[47]⟩ : ByteArray) ++ s := by
  refine L_inj ?_
  unfold slT
  rw [L_ofL, L_append, L_append, L_ofL]
  show (l ++ [s]).flatMap _ = _ ++ [47] ++ L s
  simp
theorem tail_flat : ∀ l : List ByteArray, Lib.joinTail [47] (l.map L) = l.flatMap fun s => 47 :: L s
  | [] => rfl
  | x :: r => by
    show (47 : UInt8) :: (L x ++ Lib.joinTail [47] (r.map L)) = _
    rw [tail_flat r]; rfl
theorem textP_slT {l : List ByteArray} (h : l ≠ []) : textP l = slT l := by
  refine L_inj ?_
  unfold textP slT
  rw [L_ofL, L_ofL]
  cases l with
  | nil => exact absurd rfl h
  | cons x r => rw [List.map_cons, Lib.join_cons, tail_flat]; rfl
end Go.Proofs.YtimpejaaeinplaaGreatDoor
namespace Go.Proofs.YtimpejaaeinplaaGreatDoor
open Go.RowKit

theorem set3 (x0 x1 x2 x3 x4 x5 x6 x7 x8 x9 y3 y8 y9 : Value) : (((#[x0, x1, x2, x3, x4, x5, x6, x7, x8, x9] : Array Value).setIfInBounds 3 y3).setIfInBounds 8 y8).setIfInBounds 9 y9 = #[x0, x1, x2, y3, x4, x5, x6, x7, y8, y9] := by
  simp only [List.setIfInBounds_toArray, List.set_cons_zero, List.set_cons_succ]
theorem puts3 {w w3 W : World} {g : Nat} {t : TypeId} {x0 x1 x2 x3 x4 x5 x6 x7 x8 x9 y3 y8 y9 : Value} (hq : w3.heap[g]? = some (.cells #[x0, x1, x2, x3, x4, x5, x6, x7, x8, x9] t (0, 0))) (hg : w.heap.size <= g) (he : Ext w w3)
    (hW : W = ((w3.setCell ⟨g, 3, none⟩ y3).setCell ⟨g, 8, none⟩ y8).setCell ⟨g, 9, none⟩ y9) :
    W.heap[g]? = some (.cells #[x0, x1, x2, y3, x4, x5, x6, x7, y8, y9] t (0, 0)) /\ Ext w W /\ KeepBut (some g) w3 W /\ W.heap.size = w3.heap.size := by
  subst hW
  refine ⟨?_, ?_, fun b o h hne => ?_, by simp [World.setCell]⟩
  · rw [<- set3 x0 x1 x2 x3 x4 x5 x6 x7 x8 x9 y3 y8 y9]
    exact bS (bS (bS hq _) _) _
  · exact ((he.setCell (p := ⟨g, 3, none⟩) hg _).setCell (p := ⟨g, 8, none⟩) hg _).setCell (p := ⟨g, 9, none⟩) hg _
  · have h2 : b ≠ g := fun e => hne (by rw [e])
    exact bSn (bSn (bSn h _ _ h2) _ _ h2) _ _ h2
theorem strIn_keep {w w' : World} {v : Value} {l : List ByteArray} {g : Nat} {c : Array Value} {f : Nat × Nat} (h : StrIn 0 w v l) (hk : KeepBut (some g) w w') (hs : w.heap.size <= w'.heap.size) (hg : w.heap[g]? = some (.cells c 41 f)) : StrIn 0 w' v l :=
  h.chg okS ⟨hk, hs, fun g' e => by cases e; exact ⟨Nat.zero_le _, _, _, hg⟩⟩ (by decide) (by decide)
end Go.Proofs.YtimpejaaeinplaaGreatDoor
namespace Go.Proofs.YtimpejaaeinplaaGreatDoor
open Go.RowKit

theorem baS_sizeD {d : Int} (hd : (dP d.toNat).size <= 30) {s : ByteArray} (h : baE d s = 0) : (baS d s).size <= s.size + 100 := by
  cases ba_is h with
  | plain h1 _ => rw [(ba_of h1).1]; omega
  | mark h1 _ => rw [(ba_of h1).1]; have := cutP_le s (dP d.toNat); omega
  | own h1 _ _ _ =>
    rw [(ba_of h1).1, ByteArray.size_append]
    have h2 := cutP_le s (dP d.toNat)
    have h3 := cutP_le (cutP s (dP d.toNat)) (dI d.toNat)
    omega
theorem ptsP_small {d : Int} (hd : (dP d.toNat).size <= 30) {l : List Attr} (h : chkE l = 0) : (ptsP d l).length <= 6 /\ ∀ a ∈ ptsP d l, a.1.size <= 200 /\ a.2.size <= 200 := by
  have hs := size_of_chk h
  have hl := (chk_parts h).1
  unfold ptsP
  by_cases h3 : listE d l = 0 /\ ptB d l = true
  case neg => rw [if_neg h3]; exact ⟨Nat.zero_le _, fun a ha => by cases ha⟩
  rw [if_pos h3]
  have hok := ptB_iff.1 h3.2
  refine ⟨?_, fun a ha => ?_⟩
  · rw [(srtA_perm _).length_eq]; exact Nat.le_trans (plR_len d l) hl
  · have ha := (srtA_perm _).mem_iff.1 ha
    unfold plR at ha
    obtain ⟨y, hy, rfl⟩ := List.mem_map.1 ha
    have hy := (List.mem_filter.1 hy).1
    have := baS_sizeD hd (hok y hy)
    have := hs y hy
    show (baS d y.1).size <= 200 /\ y.2.size <= 200
    omega
theorem small_of {b : List BrN} (hl : b.length <= 1000) (h : ∀ x ∈ b, x.nm.size <= 1000000 /\ x.ats.length <= 1000 /\ (∀ a ∈ x.ats, a.1.size <= 1000000 /\ a.2.size <= 1000000) /\ x.red.length <= 1000 /\ ∀ s ∈ x.red, s.size <= 1000000) : SmallB b where
  tree := fun y hy => by
    unfold plT at hy
    obtain ⟨x, hx, rfl⟩ := List.mem_map.1 hy
    obtain ⟨h1, h2, h3, _⟩ := h x hx
    exact ⟨h1, h3, by show x.ats.length <= _; omega⟩
  ats := fun x hx => (h x hx).2.1
  red := fun x hx => (h x hx).2.2.2
  len := hl
end Go.Proofs.YtimpejaaeinplaaGreatDoor
namespace Go.Proofs.YtimpejaaeinplaaGreatDoor
open Go.RowKit

set_option maxRecDepth 100000 in
theorem law22long (v : Value) (l : List Attr) (w : World) (hv : AttrsAt w v l) : Calls Tryz.prog 65 #[v] w (BoolP (Few 400 l) w) := by
  obtain ⟨aa, cap, rfl, hcap, hc⟩ := hv
  have HC := hQq hc; clear hc
  by_cases h10 : 10 < l.length
  · go_enter Tryz.func65, Tryz.ntmps65
    go_wp2
    go_ret
    exact ⟨_, rfl, (fun h => by cases h), rfl⟩
  go_enter Tryz.func65, Tryz.ntmps65
  go_wp2
  go_loop [3] (fun i => ∃ k : Nat, i = .int .i64 k /\ k <= l.length /\ ∀ j (_ : j < k) (hj : j < l.length), (l[j]'hj).1.size <= 400 /\ (l[j]'hj).2.size <= 400) (fun i => l.length - (intOf i).toNat)
  case atStart => exact ⟨0, rfl, Nat.zero_le _, fun j hj => absurd hj (by omega)⟩
  case round =>
    obtain ⟨k, rfl, hk, hs⟩ := hrel
    have HS := hQq hs; clear hs
    by_cases hlt : k < l.length
    case neg =>
      obtain rfl : k = l.length := by omega
      go_wp2
      go_ret
      exact ⟨_, rfl, fun _ => few_of rfl (by omega) HS.out, rfl⟩
    obtain ⟨b, off, hex, hb, c1, c2⟩ := HC.out k hlt
    subst hex
    have HG : Hid (∀ x, x = l[k]'hlt -> x.1.size <= 400 /\ x.2.size <= 400 -> ∀ j (_ : j < k + 1) (hj : j < l.length), (l[j]'hj).1.size <= 400 /\ (l[j]'hj).2.size <= 400) := hQq (fun x hx hs j hj hjl => by
      by_cases e : j = k
      · subst e; rw [<- hx]; exact hs
      · exact HS.out j (by omega) hjl)
    obtain ⟨x, hx⟩ : ∃ x, x = l[k]'hlt := ⟨_, rfl⟩
    rw [<- hx] at c1 c2
    have HX := hQq hx
    clear hx
    by_cases g1 : 400 < x.1.size
    · go_wp2
      go_ret
      exact ⟨_, rfl, (fun h => by cases h), rfl⟩
    by_cases g2 : 400 < x.2.size
    · go_wp2
      go_ret
      exact ⟨_, rfl, (fun h => by cases h), rfl⟩
    go_wp2
    go_round
    case rel => exact ⟨k + 1, by go_num, by omega, HG.out x HX.out ⟨by omega, by omega⟩⟩
    case measure => first | (simp [intOf]; done) | (simp [intOf]; omega)
set_option maxRecDepth 100000 in
set_option maxHeartbeats 1000000 in
theorem law22large (B : Nat) (v : Value) (t : List TrN) (w : World) (hv : TrIn B w v t) : Calls Tryz.prog 17 #[v] w (BoolP (FewT 500 t) w) := by
  obtain ⟨aa, cap, rfl⟩ := hv.form
  have HV := hQq hv; clear hv
  by_cases h10 : 130 < t.length
  · go_enter Tryz.func17, Tryz.ntmps17
    go_wp2
    go_ret
    exact ⟨_, rfl, (fun h => by cases h), rfl⟩
  go_enter Tryz.func17, Tryz.ntmps17
  go_wp2
  go_loop [3] (fun i => ∃ k : Nat, i = .int .i64 k /\ k <= t.length /\ ∀ j (_ : j < k) (hj : j < t.length), Few 500 (t[j]'hj).ats /\ (t[j]'hj).nm.size <= 500 /\ (t[j]'hj).dat.size <= 500) (fun i => t.length - (intOf i).toNat)
  case atStart => exact ⟨0, rfl, Nat.zero_le _, fun j hj => absurd hj (by omega)⟩
  case round =>
    obtain ⟨k, rfl, hk, hs⟩ := hrel
    have HS := hQq hs; clear hs
    by_cases hlt : k < t.length
    case neg =>
      obtain rfl : k = t.length := by omega
      go_wp2
      go_ret
      exact ⟨_, rfl, (fun _ => ⟨by omega, fun x hx => by
          obtain ⟨j, hj, rfl⟩ := List.getElem_of_mem hx
          exact HS.out j hj hj⟩), rfl⟩
    obtain ⟨b, off, va, hex, hb, hva, c0, c1, c2, c3, c4, c5, c6, c7⟩ := HV.out.tr k hlt
    cases hex
    have HVA := hQq hva.attrs
    have HG : Hid (∀ x, x = t[k]'hlt -> Few 500 x.ats /\ x.nm.size <= 500 /\ x.dat.size <= 500 -> ∀ j (_ : j < k + 1) (hj : j < t.length), Few 500 (t[j]'hj).ats /\ (t[j]'hj).nm.size <= 500 /\ (t[j]'hj).dat.size <= 500) := hQq (fun x hx hs j hj hjl => by
      by_cases e : j = k
      · subst e; rw [<- hx]; exact hs
      · exact HS.out j (by omega) hjl)
    obtain ⟨x, hx⟩ : ∃ x, x = t[k]'hlt := ⟨_, rfl⟩
    rw [<- hx] at c0 c1 c2 c4 c5 c6 c7 HVA
    have HX := hQq hx
    have j1 : ((k : Nat) : Int) < (t.length : Int) := by omega
    have j0 : (0 : Int) <= (k : Int) := by omega
    clear hx hva
    have HL := hQq (law22long _ x.ats w HVA.out)
    by_cases g1 : 500 < x.nm.size
    · go_wp2_with (go_at_call 65; refine HL.out.mono ?_; rintro e w1 ⟨r, rfl, _, rfl⟩)
      all_goals
        go_ret
        exact ⟨_, rfl, (fun h => by cases h), rfl⟩
    by_cases g2 : 500 < x.dat.size
    · go_wp2_with (go_at_call 65; refine HL.out.mono ?_; rintro e w1 ⟨r, rfl, _, rfl⟩)
      all_goals
        go_ret
        exact ⟨_, rfl, (fun h => by cases h), rfl⟩
    go_wp2_with (go_at_call 65; refine HL.out.mono ?_; rintro e w1 ⟨r, rfl, hr, rfl⟩; have HR := hQq hr; clear hr)
    · go_ret
      exact ⟨_, rfl, (fun h => by cases h), rfl⟩
    · go_round
      case rel => exact ⟨k + 1, by go_num, by omega, HG.out x HX.out ⟨(HR.out (by first | assumption | exact Bool.eq_false_iff.2 (by assumption))).mono (by decide), by omega, by omega⟩⟩
      case measure => first | (simp [intOf]; done) | (simp [intOf]; omega)
set_option maxRecDepth 100000 in
theorem law22path (v : Value) (l : List ByteArray) (w : World) (hv : StrsAt w v l) : Calls Tryz.prog 44 #[v] w (BoolP (l.length <= 12 /\ ∀ s ∈ l, s.size <= 500) w) := by
  obtain ⟨aa, cap, rfl, hcap, hc⟩ := hv
  have HC := hQq hc; clear hc
  by_cases h10 : 12 < l.length
  · go_enter Tryz.func44, Tryz.ntmps44
    go_wp2
    go_ret
    exact ⟨_, rfl, (fun h => by cases h), rfl⟩
  go_enter Tryz.func44, Tryz.ntmps44
  go_wp2
  go_loop [3] (fun i => ∃ k : Nat, i = .int .i64 k /\ k <= l.length /\ ∀ j (_ : j < k) (hj : j < l.length), (l[j]'hj).size <= 500) (fun i => l.length - (intOf i).toNat)
  case atStart => exact ⟨0, rfl, Nat.zero_le _, fun j hj => absurd hj (by omega)⟩
  case round =>
    obtain ⟨k, rfl, hk, hs⟩ := hrel
    have HS := hQq hs; clear hs
    by_cases hlt : k < l.length
    case neg =>
      obtain rfl : k = l.length := by omega
      go_wp2
      go_ret
      exact ⟨_, rfl, (fun _ => ⟨by omega, fun s hs => by
        obtain ⟨j, hj, rfl⟩ := List.getElem_of_mem hs
        exact HS.out j hj hj⟩), rfl⟩
    obtain ⟨b, off, hex, hb, c1⟩ := HC.out k hlt
    subst hex
    have HG : Hid (∀ x, x = l[k]'hlt -> x.size <= 500 -> ∀ j (_ : j < k + 1) (hj : j < l.length), (l[j]'hj).size <= 500) := hQq (fun x hx hs j hj hjl => by
      by_cases e : j = k
      · subst e; rw [<- hx]; exact hs
      · exact HS.out j (by omega) hjl)
    obtain ⟨x, hx⟩ : ∃ x, x = l[k]'hlt := ⟨_, rfl⟩
    rw [<- hx] at c1
    have HX := hQq hx
    have j1 : ((k : Nat) : Int) < (l.length : Int) := by omega
    have j0 : (0 : Int) <= (k : Int) := by omega
    clear hx
    by_cases g1 : 500 < x.size
    · go_wp2
      go_ret
      exact ⟨_, rfl, (fun h => by cases h), rfl⟩
    go_wp2
    go_round
    case rel => exact ⟨k + 1, by go_num, by omega, HG.out x HX.out (by omega)⟩
    case measure => first | (simp [intOf]; done) | (simp [intOf]; omega)
set_option maxRecDepth 100000 in
set_option maxHeartbeats 4000000 in
theorem law22far (B : Nat) (v : Value) (b : List BrN) (w : World) (hv : BrIn B w v b) (hB : B <= w.heap.size) (hz : ∀ x ∈ b, x.ats.length * 32 <= 140737488355328) : Calls Tryz.prog 11 #[v] w (BoolE (FewB 500 b) w) := by
  obtain ⟨aa, cap, rfl⟩ := hv.form
  have HV := hQq hv; have HZ := hQq hz
  clear hv hz
  by_cases h10 : 130 < b.length
  · go_enter Tryz.func11, Tryz.ntmps11
    go_wp2
    go_ret
    exact ⟨_, rfl, (fun h => by cases h), Below.refl _ _⟩
  go_enter Tryz.func11, Tryz.ntmps11
  go_wp2
  go_loop [3] (fun i => ∃ k : Nat, i = .int .i64 k /\ k <= b.length /\ ∀ j (_ : j < k) (hj : j < b.length), (b[j]'hj).red.length <= 12 /\ ∀ s ∈ (b[j]'hj).red, s.size <= 500) (fun i => b.length - (intOf i).toNat)
  case atStart => exact ⟨0, rfl, Nat.zero_le _, fun j hj => absurd hj (by omega)⟩
  case round =>
    obtain ⟨k, rfl, hk, hs⟩ := hrel
    have HS := hQq hs; clear hs
    by_cases hlt : k < b.length
    case neg =>
      obtain rfl : k = b.length := by omega
      go_wp2_with (first
        | (go_at_call 45; refine (refTreeX B _ _ b HV.out hB (by omega) HZ.out).mono ?_; rintro e w2 ⟨⟨a5, cap5, rfl, ho⟩, hb2⟩; have HO := hQq ho; have HB2 := hQq hb2; clear ho hb2)
        | (go_at_call 17; refine (law22large w.heap.size _ (b.map BrN.toTrN) _ (HO.out.in okT)).mono ?_; rintro e w3 ⟨r, rfl, hr, rfl⟩; have HR := hQq hr; clear hr)
        | fail)
      go_ret
      refine ⟨_, rfl, fun h => ?_, HB2.out⟩
      have h3 := HR.out h
      refine ⟨by omega, fun x hx => ?_⟩
      obtain ⟨q1, q2, q3⟩ := h3.ok x.toTrN (List.mem_map.2 ⟨x, hx, rfl⟩)
      obtain ⟨j, hj, rfl⟩ := List.getElem_of_mem hx
      exact ⟨q1, q2, q3, HS.out j hj hj⟩
    obtain ⟨bb, off, va, vr, hex, hb, hva, hvr, c0, c1, c2, c3, c4, c5, c6, c7, c8, c9⟩ := HV.out.br k hlt
    cases hex
    have HVR := hQq hvr.strs
    have HG : Hid (∀ x, x = b[k]'hlt -> x.red.length <= 12 /\ (∀ s ∈ x.red, s.size <= 500) -> ∀ j (_ : j < k + 1) (hj : j < b.length), (b[j]'hj).red.length <= 12 /\ ∀ s ∈ (b[j]'hj).red, s.size <= 500) := hQq (fun x hx hs j hj hjl => by
      by_cases e : j = k
      · subst e; rw [<- hx]; exact hs
      · exact HS.out j (by omega) hjl)
    obtain ⟨x, hx⟩ : ∃ x, x = b[k]'hlt := ⟨_, rfl⟩
    rw [<- hx] at HVR
    have HX := hQq hx
    have j1 : ((k : Nat) : Int) < (b.length : Int) := by omega
    have j0 : (0 : Int) <= (k : Int) := by omega
    clear hx hva hvr c0 c1 c2 c3 c4 c5 c6 c7 c8
    go_wp2_with (go_at_call 44; refine (law22path _ x.red w HVR.out).mono ?_; rintro e w1 ⟨r, rfl, hr, rfl⟩; have HR := hQq hr; clear hr)
    · go_ret
      exact ⟨_, rfl, (fun h => by cases h), Below.refl _ _⟩
    · go_round
      case rel => exact ⟨k + 1, by go_num, by omega, HG.out x HX.out (HR.out (by first | assumption | exact Bool.eq_false_iff.2 (by assumption)))⟩
      case measure => first | (simp [intOf]; done) | (simp [intOf]; omega)
end Go.Proofs.YtimpejaaeinplaaGreatDoor
