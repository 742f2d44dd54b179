/- SetW SetX -/
import Derived.Test.YtimpejaaeinplaaGreatDoorQI3
import Derived.Test.YtimpejaaeinplaaGreatDoorQChkD
import Derived.Test.YtimpejaaeinplaaGreatDoorQInsW
namespace Go.Proofs.YtimpejaaeinplaaGreatDoor
open Go.RowKit

theorem attrsKey (x : Attr) (w : World) : RetB Tryz.prog 211 #[.agg #[.string x.1, .string x.2]] w (.string x.1) := by
  unfold RetB
  go_enter Tryz.func211, Tryz.ntmps211
  go_wp2
  go_ret
  exact ⟨rfl, eA _ _⟩
theorem attrsFind1 (x : Attr) (key : ByteArray) (w : World) (b : Nat) (v : Value) (hb : SrtBox w b v) : RetB Tryz.prog 231 #[.agg #[.string x.1, .string x.2], .string key, .pointer (some ⟨b, 0, none⟩)] w (.int .i64 (cmpS (L x.1) (L key))) := by
  unfold RetB
  have c1 : w.cell? ⟨b, 1, none⟩ = some (.func (.func 211) #[] #[]) := bC hb 1
  have he : ∀ args w, (callFunc 211 args).run Tryz.prog w = .ok (.enter 211 args) w := enters_of Tryz.func211 (by kernel_rfl) rfl
  have hbl := blk_lt hb
  have HX : Hid (∀ W, Calls Tryz.prog 211 #[.agg #[.string x.1, .string x.2]] W (fun e w' => e = .returned (.string x.1) /\ Ext W w')) := hQq (fun W => attrsKey x W)
  go_enter Tryz.func231, Tryz.ntmps231
  go_wp2_with (first
    | (go_at_call 183; refine (cmpCompare _ _ _).mono ?_; rintro e w2 ⟨rfl, rfl⟩)
    | (refine (HX.out _).mono ?_; rintro e w1 ⟨rfl, hb1⟩; have HB1 := hQq hb1; clear hb1))
  go_ret
  exact ⟨rfl, Ext.trans (eA _ _) HB1.out⟩
set_option maxRecDepth 100000 in
set_option maxHeartbeats 4000000 in
theorem slSearchA (v : Value) (l : List Attr) (key : ByteArray) (w : World) (b : Nat) (hv : AttrsAt w v l) (hb : SrtBox w b v) (hs : l.Pairwise leA) (hn : ∀ a ∈ l, L a.1 ≠ L key) (hl : l.length <= 1000) :
    Calls Tryz.prog 230 #[v, .string key, .func (.func 231) #[] #[.pointer (some ⟨b, 0, none⟩)]] w fun e w' => (∃ p : Nat, e = .returned (.tuple #[.int .i64 p, .bool false]) /\ PosA l key p) /\ Ext w w' := by
  have HB := hQq hb
  have HBL := hQq (blk_lt hb)
  have HS := hQq hs; have HN := hQq hn
  obtain ⟨aa, cap, rfl, hcap, hc⟩ := hv
  have HC := hQq hc
  clear hb hs hn hc
  have he : ∀ args w, (callFunc 231 args).run Tryz.prog w = .ok (.enter 231 args) w := enters_of Tryz.func231 (by kernel_rfl) rfl
  go_enter Tryz.func230, Tryz.ntmps230
  go_wp2
  go_loopw [9, 10] (fun i j w' => ∃ (wi : World) (p q : Nat), wi = w' /\ p <= q /\ q <= l.length /\ i = .int .i64 p /\ j = .int .i64 q /\ (∀ j (_ : j < p) (h : j < l.length), L (l[j]'h).1 < L key) /\ (∀ j (_ : q <= j) (h : j < l.length), ¬ L (l[j]'h).1 < L key) /\ Ext w wi) (fun i j _ => (intOf j - intOf i).toNat)
  case atStart => exact ⟨_, 0, l.length, rfl, Nat.zero_le _, Nat.le_refl _, rfl, rfl, fun j hj => absurd hj (by omega), fun j h1 h2 => absurd h2 (by omega), Below.refl _ _⟩
  case round =>
    obtain ⟨wi, p, q, rfl, hpq, hql, rfl, rfl, hlo, hhi, hE⟩ := hrel
    have HLO := hQq hlo; have HHI := hQq hhi; have HE := hQq hE
    clear hlo hhi
    by_cases hlt : p < q
    case neg =>
      obtain rfl : p = q := by omega
      have HP : Hid (PosA l key p) := hQq ⟨hql, HLO.out, HHI.out⟩
      by_cases hp : p < l.length
      case neg =>
        have q1 : decide ((p : Int) < (l.length : Int)) = false := decide_eq_false (by omega)
        clear hE
        go_wp2
        go_ret2
        exact ⟨⟨_, rfl, HP.out⟩, HE.out⟩
      obtain ⟨bb, off, hex, hbb, c1, c2⟩ := HC.out p hp
      subst hex
      replace c1 := (ext_cell hE hbb).trans c1
      replace c2 := (ext_cell hE hbb).trans c2
      have j1 : ((p : Nat) : Int) < (l.length : Int) := by omega
      have j0 : (0 : Int) <= (p : Int) := by omega
      have HX := hQq (attrsFind1 (l[p]'hp) key wi b _ (bX hE HB.out))
      have HNE : Hid (cmpS (L (l[p]'hp).1) (L key) ≠ 0) := hQq (by
        have h1 := HN.out _ (List.getElem_mem hp)
        unfold cmpS
        by_cases h2 : L (l[p]'hp).1 < L key
        · rw [if_pos h2]; decide
        · rw [if_neg h2]
          by_cases h3 : L key < L (l[p]'hp).1
          · rw [if_pos h3]; decide
          · exact absurd (List.le_antisymm h3 h2) h1)
      generalize l[p]'hp = x at c1 c2 HX HNE
      unfold RetB at HX
      have q2 : (cmpS (L x.1) (L key) == 0) = false := beq_eq_false_iff_ne.2 HNE.out
      have q1 : decide ((p : Int) < (l.length : Int)) = true := decide_eq_true (by omega)
      clear hE
      go_wp2_with (refine HX.out.mono ?_; rintro e w1 ⟨rfl, hb1⟩; have HB1 := hQq (Ext.trans HE.out hb1); clear hb1)
      go_ret2
      exact ⟨⟨_, rfl, HP.out⟩, HB1.out⟩
    have hm := mid_bd hlt
    obtain ⟨m, hmd⟩ : ∃ m, m = (p + q) / 2 := ⟨_, rfl⟩
    have hmz : ((p : Int) + (q : Int)) / 2 = (m : Int) := by omega
    rw [<- hmd] at hm
    have HMD := hQq hmd; clear hmd
    have hml : m < l.length := by omega
    obtain ⟨bb, off, hex, hbb, c1, c2⟩ := HC.out m hml
    subst hex
    replace c1 := (ext_cell hE hbb).trans c1
    replace c2 := (ext_cell hE hbb).trans c2
    have j1 : ((m : Nat) : Int) < (l.length : Int) := by omega
    have j0 : (0 : Int) <= (m : Int) := by omega
    have HX := hQq (attrsFind1 (l[m]'hml) key wi b _ (bX hE HB.out))
    unfold RetB at HX
    clear hE
    by_cases hx : L (l[m]'hml).1 < L key
    · have HLO2 : Hid (∀ j (_ : j < m + 1) (h : j < l.length), L (l[j]'h).1 < L key) := hQq (fun j hj h => sort_lt HS.out (i := j) (j := m) (by omega) hml hx)
      have hcv : cmpS (L (l[m]'hml).1) (L key) = -1 := if_pos hx
      rw [hcv] at HX
      clear hx hcv
      generalize l[m]'hml = x at c1 c2 HX
      go_wp2_with (refine HX.out.mono ?_; rintro e w1 ⟨rfl, hb1⟩; have HB1 := hQq (Ext.trans HE.out hb1); clear hb1)
      go_roundw
      case rel => exact ⟨_, m + 1, q, rfl, by omega, hql, by go_num, rfl, HLO2.out, HHI.out, HB1.out⟩
      case measure => first | (simp [intOf]; done) | (simp [intOf]; omega)
    · have HHI2 : Hid (∀ j (_ : m <= j) (h : j < l.length), ¬ L (l[j]'h).1 < L key) := hQq (fun j hj h h2 => hx (sort_lt HS.out (i := m) (j := j) hj h h2))
      have hcv : decide (cmpS (L (l[m]'hml).1) (L key) < 0) = false := decide_eq_false (by unfold cmpS; rw [if_neg hx]; split <;> decide)
      clear hx
      generalize l[m]'hml = x at c1 c2 HX hcv
      go_wp2_with (refine HX.out.mono ?_; rintro e w1 ⟨rfl, hb1⟩; have HB1 := hQq (Ext.trans HE.out hb1); clear hb1)
      go_roundw
      case rel => exact ⟨_, p, m, rfl, by omega, by omega, rfl, rfl, HLO.out, HHI2.out, HB1.out⟩
      case measure => first | (simp [intOf]; done) | (simp [intOf]; omega)
end Go.Proofs.YtimpejaaeinplaaGreatDoor
namespace Go.Proofs.YtimpejaaeinplaaGreatDoor
open Go.RowKit

theorem ownL_low {B : Nat} {w : World} {v : Value} {l : List Attr} (h : OwnL cdA B w v l) (p : Addr) (hp : p.block < B) (u : Value) : OwnL cdA B (w.setCell p u) v l := by
  obtain ⟨css, h1, h2, h3, h4⟩ := h
  exact ⟨css, h1, h2, h3, h4.imp_right fun ⟨g, cap, cur, a, b, c, d⟩ => ⟨g, cap, cur, a, b, bSn c _ _ (by omega), d⟩⟩
theorem ownA_L {B : Nat} {w : World} {v : Value} {l : List Attr} (h : OwnA B w v l) : OwnL cdA B w v l := by
  refine ⟨l.map encA, by simp, fun k h1 h2 => by rw [List.getElem_map]; rfl, ?_⟩
  rw [<- List.flatMap_def]; exact h
theorem ownL_lt {B b : Nat} {w : World} {v : Value} {l : List Attr} (h : OwnL cdA B w v l) (hb : v.ownBlock = some b) : b < w.heap.size := by
  obtain ⟨_, c, f, h1⟩ := h.row rfl b hb
  exact blk_lt h1
structure SetBx (w w4 : World) (v : Value) : Prop where
  b0 : w4.heap[w.heap.size]? = some (.cells #[v, .func (.func 211) #[] #[]] 192 (0, 0))
  b2 : w4.heap[w.heap.size + 1 + 1]? = some (.cells #[.slice none 0 0, .nilFunc] 192 (0, 0))
theorem ownL_att {B : Nat} {w : World} {v : Value} {l : List Attr} (h : OwnL cdA B w v l) : AttT w v l := by
  refine ⟨(h.in okA).attrs, fun b hb => ?_⟩
  obtain ⟨_, c, f, h1⟩ := h.row rfl b hb
  exact ⟨c, f, h1⟩
theorem fieldSrt (a : Option Addr) (n cap : Nat) (w : World) : (Instr.field 192 (.agg #[.slice a n cap, .func (.func 211) #[] #[]]) 0).run Tryz.prog w = .ok (.slice a n cap) w := by kernel_rfl
end Go.Proofs.YtimpejaaeinplaaGreatDoor
namespace Go.Proofs.YtimpejaaeinplaaGreatDoor
open Go.RowKit

theorem cmpOrE (a c : Int) (g : Nat) (w : World) (hg : w.heap[g]? = some (.cells #[.int .i64 a, .int .i64 c] 26 (0, 0))) :
    Ret Tryz.prog 169 #[.slice (some ⟨g, 0, none⟩) 2 2] w (.int .i64 (if a ≠ 0 then a else c)) := by
  unfold Ret
  have c0 : w.cell? ⟨g, 0, none⟩ = some (.int .i64 a) := bC hg 0
  have c1 : w.cell? ⟨g, 1, none⟩ = some (.int .i64 c) := bC hg 1
  by_cases ha : a = 0
  · subst ha
    rw [if_neg (by simp)]
    by_cases hc : c = 0
    · subst hc
      go_enter Tryz.func169, Tryz.ntmps169
      go_wp2
      refine wp_loop_rounds 3 ?_
      rw [rounds_succ]
      go_wp2
      rw [rounds_succ]
      go_wp2
      rw [rounds_succ]
      go_wp2
      go_ret
      exact ⟨rfl, rfl⟩
    · have hc1 : (c != 0) = true := bne_iff_ne.2 hc
      go_enter Tryz.func169, Tryz.ntmps169
      go_wp2
      refine wp_loop_rounds 2 ?_
      rw [rounds_succ]
      go_wp2
      rw [rounds_succ]
      go_wp2
      go_ret
      exact ⟨rfl, rfl⟩
  · rw [if_pos ha]
    have ha1 : (a != 0) = true := bne_iff_ne.2 ha
    go_enter Tryz.func169, Tryz.ntmps169
    go_wp2
    refine wp_loop_rounds 1 ?_
    rw [rounds_succ]
    go_wp2
    go_ret
    exact ⟨rfl, rfl⟩
theorem attrsOf (a : Option Addr) (n cap : Nat) (w : World) : Calls Tryz.prog 172 #[.slice a n cap] w (fun e w' => e = .returned (srtV (.slice a n cap)) /\ Ext w w') := by
  go_enter Tryz.func172, Tryz.ntmps172
  go_wp2

  refine bodyPost_ret (v := srtV (.slice a n cap)) (by simp [results, Tryz.f172, go_sem, srtV]) rfl ?_
  exact ⟨rfl, eA _ _⟩
set_option maxRecDepth 100000 in
set_option maxHeartbeats 4000000 in
theorem attrsFind (a : Option Addr) (cap : Nat) (l : List Attr) (key : ByteArray) (w : World) (hv : AttrsAt w (.slice a l.length cap) l) (hs : l.Pairwise leA) (hn : ∀ x ∈ l, L x.1 ≠ L key) (hl : l.length <= 1000) :
    Calls Tryz.prog 212 #[srtV (.slice a l.length cap), .string key] w fun e w' => (∃ p : Nat, e = .returned (.tuple #[.int .i64 p, .bool false]) /\ PosA l key p) /\ Ext w w' := by
  have HV := hQq hv; have HS := hQq hs; have HN := hQq hn
  have hmf : ∀ (fn : Fn) (first cap : Array Value) (w : World), (Instr.makeFunc fn first cap).run Tryz.prog w = .ok (.func fn first cap) w := fun _ _ _ _ => rfl
  clear hv hs hn
  unfold srtV
  go_enter Tryz.func212, Tryz.ntmps212
  go_wp2_with (go_at_call 230; refine (slSearchA _ l key _ w.heap.size (HV.out.ext (eA _ _)) (bN w _) HS.out HN.out hl).mono ?_; rintro e w1 ⟨⟨p, rfl, hp⟩, hb1⟩; have HP := hQq hp; have HB := hQq ((eA w _).trans hb1); clear hp hb1)
  go_ret2
  exact ⟨⟨p, rfl, HP.out⟩, HB.out⟩
set_option maxRecDepth 100000 in
set_option maxHeartbeats 4000000 in
theorem attrsSet1 (a : Option Addr) (cap : Nat) (l : List Attr) (x : Attr) (w : World) (hv : AttrsAt w (.slice a l.length cap) l) (hs : l.Pairwise leA) (hn : ∀ y ∈ l, L y.1 ≠ L x.1) (hl : l.length <= 1000) :
    Calls Tryz.prog 173 #[srtV (.slice a l.length cap), .agg #[.string x.1, .string x.2]] w fun e w' => (∃ a' n' cap', e = .returned (srtV (.slice a' n' cap')) /\ OwnL cdA w.heap.size w' (.slice a' n' cap') (putA l x)) /\ Ext w w' := by
  have HV := hQq hv; have HS := hQq hs; have HN := hQq hn
  have he : ∀ args w, (callFunc 211 args).run Tryz.prog w = .ok (.enter 211 args) w := enters_of Tryz.func211 (by kernel_rfl) rfl
  clear hv hs hn
  unfold srtV
  go_enter Tryz.func173, Tryz.ntmps173
  go_wp2
  refine nW (P := fun W => Code.wp _ _ _ _ W) _ ?_
  intro W hW
  have HE : Hid (Ext w W) := hQq (by rw [hW]; exact ((eA _ _).trans (eA _ _)).trans (eA _ _))
  have B0 : Hid (W.heap[w.heap.size]? = some (.cells #[.slice a l.length cap, .func (.func 211) #[] #[]] 192 (0, 0))) := hQq (by rw [hW]; exact bA (bA (bN w _)))
  have B1 : Hid (W.heap[w.heap.size + 1]? = some (.cells #[.string x.1, .string x.2] 45 (0, 0))) := hQq (by rw [hW]; exact bA (blk_at (by simp)))
  have B2 : Hid (W.heap[w.heap.size + 1 + 1]? = some (.cells #[.slice none 0 0, .nilFunc] 192 (0, 0))) := hQq (by rw [hW]; exact blk_at (by simp))
  clear hW
  have c0 : W.cell? ⟨w.heap.size, 0, none⟩ = some (.slice a l.length cap) := bC B0.out 0
  have c1 : W.cell? ⟨w.heap.size, 1, none⟩ = some (.func (.func 211) #[] #[]) := bC B0.out 1
  have c2 : W.cell? ⟨w.heap.size + 1, 0, none⟩ = some (.string x.1) := bC B1.out 0
  have c3 : W.cell? ⟨w.heap.size + 1, 1, none⟩ = some (.string x.2) := bC B1.out 1
  have HX : Hid (∀ W, Calls Tryz.prog 211 #[.agg #[.string x.1, .string x.2]] W (fun e w' => e = .returned (.string x.1) /\ Ext W w')) := hQq (fun W => attrsKey x W)
  go_region_held3 (fun w' => w'.cell? ⟨w.heap.size, 0, none⟩ = some (.slice a l.length cap) /\ w'.cell? ⟨w.heap.size, 1, none⟩ = some (.func (.func 211) #[] #[]) /\ w'.cell? ⟨w.heap.size + 1, 0, none⟩ = some (.string x.1) /\ w'.cell? ⟨w.heap.size + 1, 1, none⟩ = some (.string x.2)) (first | go_keep | exact ⟨by assumption, by assumption, by assumption, by assumption⟩)
    (first
      | (go_at_call 212; refine (attrsFind a cap l x.1 _ (by first | exact HV.out.ext ((HE.out.trans HE1.out).trans (eD _)) | exact HV.out.ext (HE.out.trans HE1.out)) HS.out HN.out hl).mono ?_; rintro e w2 ⟨⟨p, rfl, hp⟩, hb2⟩; have HP := hQq hp; have HE2 : Hid (Ext W w2) := hQq (by first | exact (HE1.out.trans (eD _)).trans hb2 | exact HE1.out.trans hb2); have e0 : w2.cell? ⟨w.heap.size, 0, none⟩ = some (.slice a l.length cap) := bC (bX HE2.out B0.out) 0; have e1 : w2.cell? ⟨w.heap.size, 1, none⟩ = some (.func (.func 211) #[] #[]) := bC (bX HE2.out B0.out) 1; have e2 : w2.cell? ⟨w.heap.size + 1, 0, none⟩ = some (.string x.1) := bC (bX HE2.out B1.out) 0; have e3 : w2.cell? ⟨w.heap.size + 1, 1, none⟩ = some (.string x.2) := bC (bX HE2.out B1.out) 1; clear hp hb2)
      | (refine (HX.out _).mono ?_; rintro e w1 ⟨rfl, hb1⟩; have HE1 : Hid (Ext W w1) := hQq (by first | exact (eD _).trans hb1 | exact hb1); have d0 : w1.cell? ⟨w.heap.size, 0, none⟩ = some (.slice a l.length cap) := bC (bX HE1.out B0.out) 0; have d1 : w1.cell? ⟨w.heap.size, 1, none⟩ = some (.func (.func 211) #[] #[]) := bC (bX HE1.out B0.out) 1; have d2 : w1.cell? ⟨w.heap.size + 1, 0, none⟩ = some (.string x.1) := bC (bX HE1.out B1.out) 0; have d3 : w1.cell? ⟨w.heap.size + 1, 1, none⟩ = some (.string x.2) := bC (bX HE1.out B1.out) 1; clear hb1)
      | fail)
  go_wp2_with (first
    | (go_at_call 166; refine (slClone _ l _ (HV.out.ext (HE.out.trans HE2.out)) hl).mono ?_; rintro e w3 ⟨⟨a3, cap3, rfl, ho⟩, hb3⟩; have HE3 := hQq (HE2.out.trans hb3); have HS2 := hQq hb3.size; have HO := hQq (ownL_low (ownA_L ho) ⟨w.heap.size, 0, none⟩ (Nat.lt_of_lt_of_le (blk_lt B0.out) HE2.out.size) (.slice a3 l.length cap3)); have G0 := hQq (bX HE3.out B0.out); have g0 : w3.cell? ⟨w.heap.size, 0, none⟩ = some (.slice a l.length cap) := bC G0.out 0; have g1 : w3.cell? ⟨w.heap.size, 1, none⟩ = some (.func (.func 211) #[] #[]) := bC G0.out 1; have g2 : w3.cell? ⟨w.heap.size + 1, 0, none⟩ = some (.string x.1) := bC (bX HE3.out B1.out) 0; have g3 : w3.cell? ⟨w.heap.size + 1, 1, none⟩ = some (.string x.2) := bC (bX HE3.out B1.out) 1; have z0 := blk_lt G0.out; have f0 : w3.frozen? ⟨w.heap.size, 0, none⟩ = false := (by simp [World.frozen?, G0.out]); have HNB : Hid ((Value.slice a3 l.length cap3).ownBlock ≠ some w3.heap.size) := hQq (fun h => by have := ownL_lt (ownA_L ho) h; omega); have BOX : Hid (∀ w4, Below w2.heap.size ((w3.setCell ⟨w.heap.size, 0, none⟩ (.slice a3 l.length cap3)).alloc (.cells #[.string x.1, .string x.2] 45)) w4 -> SetBx w w4 (.slice a3 l.length cap3)) := hQq (fun w4 hb4 => ⟨(hb4.block _ (Nat.lt_of_lt_of_le (blk_lt B0.out) HE2.out.size)).trans (bA (bS (bX HE3.out B0.out) _)), (hb4.block _ (Nat.lt_of_lt_of_le (blk_lt B2.out) HE2.out.size)).trans (bA (bSn (bX HE3.out B2.out) _ _ (by show w.heap.size + 1 + 1 ≠ w.heap.size; omega)))⟩); have INS := hQq (HO.out.ext okA (eA _ (.cells #[.string x.1, .string x.2] 45))); clear ho hb3)
    | (go_at_call 213; refine (slInsA w2.heap.size _ (.slice a3 l.length cap3) w3.heap.size p l x INS.out (by exact blk_at (by simp)) HNB.out (by have := HS2.out; simp; omega) HP.out.le hl).mono ?_; rintro e w4 ⟨a4, n4, cap4, rfl, ho4, hb4⟩; have HO4 := hQq ho4; have HB4 := hQq hb4; have G4 := hQq (BOX.out _ hb4); have k0 : w4.cell? ⟨w.heap.size, 0, none⟩ = some (.slice a3 l.length cap3) := bC G4.out.b0 0; have k1 : w4.cell? ⟨w.heap.size, 1, none⟩ = some (.func (.func 211) #[] #[]) := bC G4.out.b0 1; have r0 : w4.cell? ⟨w.heap.size + 1 + 1, 0, none⟩ = some (.slice none 0 0) := bC G4.out.b2 0; have r1 : w4.cell? ⟨w.heap.size + 1 + 1, 1, none⟩ = some .nilFunc := bC G4.out.b2 1; have h0 : w4.frozen? ⟨w.heap.size, 0, none⟩ = false := (by simp [World.frozen?, G4.out.b0]); have h2 : w4.frozen? ⟨w.heap.size + 1 + 1, 0, none⟩ = false := (by simp [World.frozen?, G4.out.b2]); have h3 : w4.frozen? ⟨w.heap.size + 1 + 1, 1, none⟩ = false := (by simp [World.frozen?, G4.out.b2]); clear ho4 hb4)
    | fail)
  have hw2 : w.heap.size + 1 + 1 < w2.heap.size := Nat.lt_of_lt_of_le (blk_lt B2.out) HE2.out.size
  have hne : w.heap.size + 1 + 1 ≠ w.heap.size := by omega
  have T := hQq (bS (o := 1) (bS (o := 0) (bSn G4.out.b2 ⟨w.heap.size, 0, none⟩ (.slice a4 n4 cap4) hne) (.slice a4 n4 cap4)) (.func (.func 211) #[] #[]))
  have t0 := bC T.out 0
  have t1 := bC T.out 1
  have HOW := hQq (ownL_low (ownL_low (ownL_low HO4.out ⟨w.heap.size, 0, none⟩ (by show w.heap.size < _; omega) (.slice a4 n4 cap4)) ⟨w.heap.size + 1 + 1, 0, none⟩ hw2 (.slice a4 n4 cap4)) ⟨w.heap.size + 1 + 1, 1, none⟩ hw2 (.func (.func 211) #[] #[]))
  have HX1 : Ext w ((w3.setCell ⟨w.heap.size, 0, none⟩ (.slice a3 l.length cap3)).alloc (.cells #[.string x.1, .string x.2] 45)) := Below.alloc (Below.setCell (p := ⟨w.heap.size, 0, none⟩) (HE.out.trans HE3.out) (Nat.le_refl _) _) (by simp; exact Nat.le_trans HE.out.size HE3.out.size) _
  have HX2 : Ext w w4 := Below.trans HX1 (HB4.out.mono (by omega))
  refine bodyPost_ret (v := srtV (.slice a4 n4 cap4)) (by simp [results, Tryz.f173, go_sem, srtV, t0, t1]) rfl ?_
  refine ⟨⟨_, _, _, rfl, by rw [HP.out.put]; exact OwnL.le HOW.out okA (fun _ _ _ h => h) (by omega)⟩, ?_⟩
  exact Below.setCell (p := ⟨w.heap.size + 1 + 1, 1, none⟩) (Below.setCell (p := ⟨w.heap.size + 1 + 1, 0, none⟩) (Below.setCell (p := ⟨w.heap.size, 0, none⟩) HX2 (Nat.le_refl _) _) (by show w.heap.size <= w.heap.size + 1 + 1; omega) _) (by show w.heap.size <= w.heap.size + 1 + 1; omega) _
theorem attrsFitLong (v : Value) (l : List Attr) (w : World) (hv : AttrsAt w v l) (hl : 6 < l.length) :
    Ret Tryz.prog 171 #[v] w (.tuple #[.slice none 0 0, .int .i64 5]) := by
  unfold Ret
  obtain ⟨a, cap, rfl, hcap, hc⟩ := hv
  clear hc
  have h1 : decide ((6 : Int) < (l.length : Int)) = true := decide_eq_true (by omega)
  go_enter Tryz.func171, Tryz.ntmps171
  go_wp2
  go_ret2
  exact ⟨rfl, rfl⟩
set_option maxRecDepth 100000 in
set_option maxHeartbeats 4000000 in
theorem attrsSet (v : Value) (l : List Attr) (x : Attr) (w : World) (hv : AttrsAt w v l) (hm : ∀ a ∈ l, a.1.size <= 1000000 /\ a.2.size <= 1000000) (hc : chkE l = 0) (hx : aloneE x = 0) (hxs : x.1.size <= 1000000 /\ x.2.size <= 1000000) (hn : ∀ y ∈ l, L y.1 ≠ L x.1) :
    Calls Tryz.prog 120 #[v, .agg #[.string x.1, .string x.2]] w fun e w' => (∃ v', e = .returned (.tuple #[v', .int .i64 (spE l x)]) /\ AttT w' v' (spL l x)) /\ Ext w w' := by
  have HV := hQq hv; have HM := hQq hm; have HN := hQq hn
  have HCP := hQq (chk_parts hc)
  have hl6 := (chk_parts hc).1
  have HPM : Hid (∀ a ∈ putA l x, a.1.size <= 1000000 /\ a.2.size <= 1000000) := hQq (fun a ha => by
    rcases List.mem_cons.1 ((putA_perm l x).mem_iff.1 ha) with rfl | ha
    · exact hxs
    · exact hm a ha)
  obtain ⟨a, cap, rfl, _, _⟩ := hv
  have HC := hQq hc; have HX := hQq hx
  have HXS := hQq hxs
  clear hm hn hc hx hxs
  have hfld := fieldSrt
  go_enter Tryz.func120, Tryz.ntmps120
  go_wp2
  refine nW (P := fun W => Code.wp _ _ _ _ W) _ ?_
  intro W hW
  have HE : Hid (Ext w W) := hQq (by rw [hW]; exact eA _ _)
  have B0 : Hid (W.heap[w.heap.size]? = some (.cells #[.string x.1, .string x.2] 45 (0, 0))) := hQq (by rw [hW]; exact bN w _)
  clear hW
  have c0 : W.cell? ⟨w.heap.size, 0, none⟩ = some (.string x.1) := bC B0.out 0
  have c1 : W.cell? ⟨w.heap.size, 1, none⟩ = some (.string x.2) := bC B0.out 1
  go_region_held3 (fun w' => w'.cell? ⟨w.heap.size, 0, none⟩ = some (.string x.1) /\ w'.cell? ⟨w.heap.size, 1, none⟩ = some (.string x.2)) (first | go_keep | exact ⟨by assumption, by assumption⟩)
    (first
      | (go_at_call 137; refine (attrsCheck _ l _ (by first | exact HV.out.ext (HE.out.trans (eD _)) | exact HV.out.ext HE.out) HM.out).mono ?_; rintro e w1 ⟨rfl, hb1⟩; rw [HC.out]; have HE1 : Hid (Ext W w1) := hQq (by first | exact (eD _).trans hb1 | exact hb1); have d0 : w1.cell? ⟨w.heap.size, 0, none⟩ = some (.string x.1) := bC (bX HE1.out B0.out) 0; have d1 : w1.cell? ⟨w.heap.size, 1, none⟩ = some (.string x.2) := bC (bX HE1.out B0.out) 1; clear hb1)
      | (go_at_call 170; refine (attrsAlone x _ HXS.out.1).mono ?_; rintro e w2 ⟨rfl, hb2⟩; rw [HX.out]; have HE2 : Hid (Ext W w2) := hQq (by first | exact (HE1.out.trans (eD _)).trans hb2 | exact HE1.out.trans hb2); have e0 : w2.cell? ⟨w.heap.size, 0, none⟩ = some (.string x.1) := bC (bX HE2.out B0.out) 0; have e1 : w2.cell? ⟨w.heap.size, 1, none⟩ = some (.string x.2) := bC (bX HE2.out B0.out) 1; clear hb2)
      | (go_at_call 169; refine (cmpOrE 0 0 _ _ (by first | exact bN _ _ | exact bN (World.drew _) _)).mono ?_; rintro e w3 ⟨rfl, rfl⟩; rw [if_neg (show ¬ (0 : Int) ≠ 0 from fun h => h rfl)])
      | fail)
  go_wp2
  refine nW (P := fun W => Code.wp _ _ _ _ W) _ ?_
  intro V hV
  have HEV : Hid (Ext W V) := hQq (by rw [hV]; exact HE2.out.trans (eA _ _))
  clear hV e0 e1 d0 d1
  have b0 : V.cell? ⟨w.heap.size, 0, none⟩ = some (.string x.1) := bC (bX HEV.out B0.out) 0
  have b1 : V.cell? ⟨w.heap.size, 1, none⟩ = some (.string x.2) := bC (bX HEV.out B0.out) 1
  have HPL := hQq (put_length l x)
  by_cases hlong : 6 < l.length + 1
  · have HF : Hid (spF l x = true) := hQq (by unfold spF; rw [decide_eq_true hlong]; rfl)
    have HLG := hQq hlong
    clear hlong
    go_region_held3 (fun w' => w'.cell? ⟨w.heap.size, 0, none⟩ = some (.string x.1) /\ w'.cell? ⟨w.heap.size, 1, none⟩ = some (.string x.2)) (first | go_keep | exact ⟨by assumption, by assumption⟩)
    (first
      | (go_at_call 172; refine (attrsOf a l.length cap _).mono ?_; rintro e w4 ⟨rfl, hb4⟩; have HE4 : Hid (Ext W w4) := hQq (by first | exact (HEV.out.trans (eD _)).trans hb4 | exact HEV.out.trans hb4); have d0 : w4.cell? ⟨w.heap.size, 0, none⟩ = some (.string x.1) := bC (bX HE4.out B0.out) 0; have d1 : w4.cell? ⟨w.heap.size, 1, none⟩ = some (.string x.2) := bC (bX HE4.out B0.out) 1; clear hb4)
      | (go_at_call 173; refine (attrsSet1 a cap l x _ (by first | exact HV.out.ext (HE.out.trans (HE4.out.trans (eD _))) | exact HV.out.ext (HE.out.trans HE4.out)) (sorted_of_desc HCP.out.2.2.2.1) HN.out (by omega)).mono ?_; rintro e w5 ⟨⟨a5, n5, cap5, rfl, ho5⟩, hb5⟩; have HO5 := hQq ho5; have HE5 : Hid (Ext W w5) := hQq (by first | exact (HE4.out.trans (eD _)).trans hb5 | exact HE4.out.trans hb5); have e0 : w5.cell? ⟨w.heap.size, 0, none⟩ = some (.string x.1) := bC (bX HE5.out B0.out) 0; have e1 : w5.cell? ⟨w.heap.size, 1, none⟩ = some (.string x.2) := bC (bX HE5.out B0.out) 1; unfold srtV; clear ho5 hb5)
      | (go_at_call 171; refine (attrsFitLong _ (putA l x) _ (by first | exact (HO5.out.in okA).attrs | exact ((HO5.out.in okA).attrs).ext (eD _)) (by rw [HPL.out]; exact HLG.out)).mono ?_; rintro e w6 ⟨rfl, rfl⟩)
      | fail)
    go_wp2
    go_ret2
    refine ⟨⟨_, by unfold spE; rw [if_pos HF.out]; rfl, ?_⟩, ?_⟩
    · unfold spL; rw [if_pos HF.out]; exact AttT.nil _ _ _ (AttrsAt.nil _ _ _)
    · first | exact HE.out.trans HE5.out | exact (HE.out.trans HE5.out).trans (eD _)
  have HLG : Hid ((putA l x).length <= 6) := hQq (by rw [put_length]; omega)
  by_cases hbig : 288 < sizeA (putA l x)
  · have HF : Hid (spF l x = true) := hQq (by unfold spF; rw [decide_eq_true hbig, Bool.or_true])
    have HBG := hQq hbig
    clear hlong hbig
    go_region_held3 (fun w' => w'.cell? ⟨w.heap.size, 0, none⟩ = some (.string x.1) /\ w'.cell? ⟨w.heap.size, 1, none⟩ = some (.string x.2)) (first | go_keep | exact ⟨by assumption, by assumption⟩)
    (first
      | (go_at_call 172; refine (attrsOf a l.length cap _).mono ?_; rintro e w4 ⟨rfl, hb4⟩; have HE4 : Hid (Ext W w4) := hQq (by first | exact (HEV.out.trans (eD _)).trans hb4 | exact HEV.out.trans hb4); have d0 : w4.cell? ⟨w.heap.size, 0, none⟩ = some (.string x.1) := bC (bX HE4.out B0.out) 0; have d1 : w4.cell? ⟨w.heap.size, 1, none⟩ = some (.string x.2) := bC (bX HE4.out B0.out) 1; clear hb4)
      | (go_at_call 173; refine (attrsSet1 a cap l x _ (by first | exact HV.out.ext (HE.out.trans (HE4.out.trans (eD _))) | exact HV.out.ext (HE.out.trans HE4.out)) (sorted_of_desc HCP.out.2.2.2.1) HN.out (by omega)).mono ?_; rintro e w5 ⟨⟨a5, n5, cap5, rfl, ho5⟩, hb5⟩; have HO5 := hQq ho5; have HE5 : Hid (Ext W w5) := hQq (by first | exact (HE4.out.trans (eD _)).trans hb5 | exact HE4.out.trans hb5); have e0 : w5.cell? ⟨w.heap.size, 0, none⟩ = some (.string x.1) := bC (bX HE5.out B0.out) 0; have e1 : w5.cell? ⟨w.heap.size, 1, none⟩ = some (.string x.2) := bC (bX HE5.out B0.out) 1; unfold srtV; clear ho5 hb5)
      | (go_at_call 171; refine (attrsFit _ (putA l x) _ (by first | exact (HO5.out.in okA).attrs | exact ((HO5.out.in okA).attrs).ext (eD _)) HLG.out HPM.out).mono ?_; rintro e w6 ⟨rfl, hb6⟩; rw [if_pos HBG.out]; have HE6 : Hid (Ext W w6) := hQq (by first | exact (HE5.out.trans (eD _)).trans hb6 | exact HE5.out.trans hb6); have y0 : w6.cell? ⟨w.heap.size, 0, none⟩ = some (.string x.1) := bC (bX HE6.out B0.out) 0; have y1 : w6.cell? ⟨w.heap.size, 1, none⟩ = some (.string x.2) := bC (bX HE6.out B0.out) 1; clear hb6)
      | fail)
    go_wp2
    go_ret2
    refine ⟨⟨_, by unfold spE; rw [if_pos HF.out]; rfl, ?_⟩, HE.out.trans HE6.out⟩
    unfold spL; rw [if_pos HF.out]; exact AttT.nil _ _ _ (AttrsAt.nil _ _ _)
  have HF : Hid (spF l x = false) := hQq (by unfold spF; rw [decide_eq_false hlong, decide_eq_false hbig]; rfl)
  have HBG := hQq hbig
  clear hlong hbig
  go_region_held3 (fun w' => w'.cell? ⟨w.heap.size, 0, none⟩ = some (.string x.1) /\ w'.cell? ⟨w.heap.size, 1, none⟩ = some (.string x.2)) (first | go_keep | exact ⟨by assumption, by assumption⟩)
    (first
      | (go_at_call 172; refine (attrsOf a l.length cap _).mono ?_; rintro e w4 ⟨rfl, hb4⟩; have HE4 : Hid (Ext W w4) := hQq (by first | exact (HEV.out.trans (eD _)).trans hb4 | exact HEV.out.trans hb4); have d0 : w4.cell? ⟨w.heap.size, 0, none⟩ = some (.string x.1) := bC (bX HE4.out B0.out) 0; have d1 : w4.cell? ⟨w.heap.size, 1, none⟩ = some (.string x.2) := bC (bX HE4.out B0.out) 1; clear hb4)
      | (go_at_call 173; refine (attrsSet1 a cap l x _ (by first | exact HV.out.ext (HE.out.trans (HE4.out.trans (eD _))) | exact HV.out.ext (HE.out.trans HE4.out)) (sorted_of_desc HCP.out.2.2.2.1) HN.out (by omega)).mono ?_; rintro e w5 ⟨⟨a5, n5, cap5, rfl, ho5⟩, hb5⟩; have HO5 := hQq ho5; have HE5 : Hid (Ext W w5) := hQq (by first | exact (HE4.out.trans (eD _)).trans hb5 | exact HE4.out.trans hb5); have e0 : w5.cell? ⟨w.heap.size, 0, none⟩ = some (.string x.1) := bC (bX HE5.out B0.out) 0; have e1 : w5.cell? ⟨w.heap.size, 1, none⟩ = some (.string x.2) := bC (bX HE5.out B0.out) 1; unfold srtV; clear ho5 hb5)
      | (go_at_call 171; refine (attrsFit _ (putA l x) _ (by first | exact (HO5.out.in okA).attrs | exact ((HO5.out.in okA).attrs).ext (eD _)) HLG.out HPM.out).mono ?_; rintro e w6 ⟨rfl, hb6⟩; rw [if_neg HBG.out]; have HO6 : Hid (AttT w6 (.slice a5 n5 cap5) (putA l x)) := hQq (by first | exact (ownL_att HO5.out).ext hb6 | exact ((ownL_att HO5.out).ext (eD _)).ext hb6); have HE6 : Hid (Ext W w6) := hQq (by first | exact (HE5.out.trans (eD _)).trans hb6 | exact HE5.out.trans hb6); have y0 : w6.cell? ⟨w.heap.size, 0, none⟩ = some (.string x.1) := bC (bX HE6.out B0.out) 0; have y1 : w6.cell? ⟨w.heap.size, 1, none⟩ = some (.string x.2) := bC (bX HE6.out B0.out) 1; clear hb6)
      | fail)
  go_wp2
  go_ret2
  refine ⟨⟨_, by unfold spE; rw [if_neg (by rw [HF.out]; exact Bool.false_ne_true)]; rfl, ?_⟩, HE.out.trans HE6.out⟩
  unfold spL; rw [if_neg (by rw [HF.out]; exact Bool.false_ne_true)]; exact HO6.out
end Go.Proofs.YtimpejaaeinplaaGreatDoor
