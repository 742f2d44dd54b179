/- limewashref19.Tree, branch.Tree. -/
/- branch.Tree. -/
/- limewashref19.above. -/
/- limewashref15.Path. -/
/- limewashref15.Path, walked. -/
import Derived.Test.YtiliglpolcpnbaaGreatDoorQChkE
import Derived.OwnWalk
namespace Go.Proofs.YtiliglpolcpnbaaGreatDoor
open Go.RowKit

def plT (l : List BrN) : List TrN := l.map BrN.toTrN
theorem plT_len (l : List BrN) : (plT l).length = l.length := by simp [plT]
theorem plT_succ (l : List BrN) (k : Nat) (h : k < l.length) : plT (l.take (k + 1)) = plT (l.take k) ++ [(l[k]'h).toTrN] := by
  unfold plT; rw [List.take_succ_eq_append_getElem h, List.map_append]; rfl
theorem plT_all (l : List BrN) : plT (l.take l.length) = plT l := by rw [List.take_length]
/-- What 'Tree' leaves: a list of the call's own. -/
def TreeP (w : World) (b : List BrN) (e : Ending) (w' : World) : Prop := (∃ a cap, e = .returned (.slice a b.length cap) ∧ OwnL cdT w.heap.size w' (.slice a b.length cap) (plT b)) ∧ Ext w w'
theorem cells10 {w w' : World} {b o : Nat} {v0 v1 v2 v3 v4 v5 v6 v7 v8 v9 : Value} (he : Ext w w') (hb : b < w.heap.size)
    (h : w.cell? ⟨b, o, none⟩ = some v0 ∧ w.cell? ⟨b, o + 1, none⟩ = some v1 ∧ w.cell? ⟨b, o + 2, none⟩ = some v2 ∧ w.cell? ⟨b, o + 3, none⟩ = some v3 ∧ w.cell? ⟨b, o + 4, none⟩ = some v4 ∧ w.cell? ⟨b, o + 5, none⟩ = some v5 ∧ w.cell? ⟨b, o + 6, none⟩ = some v6 ∧ w.cell? ⟨b, o + 7, none⟩ = some v7 ∧ w.cell? ⟨b, o + 8, none⟩ = some v8 ∧ w.cell? ⟨b, o + 9, none⟩ = some v9) :
    w'.cell? ⟨b, o, none⟩ = some v0 ∧ w'.cell? ⟨b, o + 1, none⟩ = some v1 ∧ w'.cell? ⟨b, o + 2, none⟩ = some v2 ∧ w'.cell? ⟨b, o + 3, none⟩ = some v3 ∧ w'.cell? ⟨b, o + 4, none⟩ = some v4 ∧ w'.cell? ⟨b, o + 5, none⟩ = some v5 ∧ w'.cell? ⟨b, o + 6, none⟩ = some v6 ∧ w'.cell? ⟨b, o + 7, none⟩ = some v7 ∧ w'.cell? ⟨b, o + 8, none⟩ = some v8 ∧ w'.cell? ⟨b, o + 9, none⟩ = some v9 := by
  obtain ⟨h0, h1, h2, h3, h4, h5, h6, h7, h8, h9⟩ := h
  exact ⟨(ext_cell he hb).trans h0, (ext_cell he hb).trans h1, (ext_cell he hb).trans h2, (ext_cell he hb).trans h3, (ext_cell he hb).trans h4, (ext_cell he hb).trans h5, (ext_cell he hb).trans h6, (ext_cell he hb).trans h7, (ext_cell he hb).trans h8, (ext_cell he hb).trans h9⟩
set_option maxRecDepth 100000 in
set_option maxHeartbeats 8000000 in
theorem refTree (B : Nat) (w : World) (v : Value) (b : List BrN) (hb : BrIn B w v b) (hB : B ≤ w.heap.size) (hl : b.length ≤ 1000) (hats : ∀ x ∈ b, x.ats.length ≤ 1000) :
    Calls Tryz.prog 38 #[v] w (TreeP w b) := by
  obtain ⟨aa, cap, rfl⟩ := hb.form
  have HV := Lib.hid hb; clear hb
  have HAT := Lib.hid hats; clear hats
  go_enter Tryz.func38, Tryz.ntmps38
  go_wp2
  go_loopw [3, 4] (fun o i w' => ∃ (wi : World) (k : Nat), wi = w' ∧ k ≤ b.length ∧ i = .int .i64 k ∧ OwnL cdT w.heap.size wi o (plT (b.take k)) ∧ Ext w wi) (fun _ i _ => b.length - (intOf i).toNat)
  case atStart => exact ⟨_, 0, rfl, Nat.zero_le _, rfl, OwnL.nil _ _ _, Below.refl _ _⟩
  case round =>
    obtain ⟨wi, k, rfl, hk, rfl, ho, hE⟩ := hrel
    have HO := Lib.hid ho; have HE := Lib.hid hE
    obtain ⟨a5, cap5, rfl⟩ := ho.form
    clear ho hE
    by_cases hlt : k < b.length
    case neg =>
      obtain rfl : k = b.length := by omega
      have HR : Hid (OwnL cdT w.heap.size wi (.slice a5 b.length cap5) (plT b)) := Lib.hid (by have := HO.out; rw [plT_all, plT_len] at this; exact this)
      have hq : (plT (b.take b.length)).length = b.length := by rw [plT_all, plT_len]
      go_wp2
      go_ret
      exact ⟨⟨a5, cap5, by rw [hq]; rfl, HR.out⟩, HE.out⟩
    obtain ⟨bb, off, va, vr, hex, hbx, hva, hvr, xx⟩ := HV.out.br k hlt
    cases hex
    obtain ⟨c0, c1, c2, c3, c4, c5, c6, c7, c8, c9⟩ := cells10 HE.out hbx xx
    have HVA := Lib.hid hva
    obtain ⟨a4, cap4, rfl⟩ := hvr.form
    obtain ⟨a3, cap3, rfl⟩ := hva.form
    have HL : Hid ((b[k]'hlt).ats.length ≤ 1000) := HAT.out _ (List.getElem_mem hlt)
    have HS := Lib.hid (plT_succ b k hlt)
    generalize b[k]'hlt = x at c0 c1 c2 c3 c4 c5 c6 c7 c8 c9 HVA HL HS
    have HW : Hid (w.heap.size ≤ wi.heap.size) := HE.out.size
    have j1 : ((k : Nat) : Int) < (b.length : Int) := by omega
    have j0 : (0 : Int) ≤ (k : Int) := by omega
    have hq : (plT (b.take k)).length = k := by rw [plT_len, List.length_take]; omega
    have HQ := Lib.hid hq; clear hq
    clear xx hva hvr
    go_wp2_with (first | (go_at_call 79; refine (refNode B _ x _ _ (HVA.out.ext okA HE.out) (Nat.le_trans hB HW.out) HL.out ⟨_, _, _, rfl⟩).mono ?_; rintro e w1 ⟨⟨va1, rfl, hv1⟩, hb1⟩; have HV1 := Lib.hid hv1; have HB1 := Lib.hid hb1; clear hv1 hb1) | (at_builtin; refine appL okT rfl (.tmp 11) (.tmp 17) rfl _ _ (plT (b.take k)) [x.toTrN] w _ rfl rfl (by exact (HO.out.ext okT HB1.out).ext okT (ext_alloc _ _)) (by exact listIn_new okT _ x.toTrN (trC x.toTrN va1) _ rfl ⟨va1, HV1.out.mono okA (Nat.zero_le _), rfl⟩) (by exact (HE.out.trans HB1.out).trans (ext_alloc _ _)) (by have := HB1.out.size; have := HW.out; simp; omega) (by have := HQ.out; simp; omega) ?_; intro v2 w2 ha; have HA := Lib.hid ha; clear ha))
    go_roundw
    case rel => exact ⟨_, k + 1, rfl, by omega, by go_num, by rw [HS.out]; exact HA.out.own, HA.out.below⟩
    case measure => first | (simp [intOf]; done) | (simp [intOf]; omega)
end Go.Proofs.YtiliglpolcpnbaaGreatDoor

namespace Go.Proofs.YtiliglpolcpnbaaGreatDoor
open Go.RowKit

/-- 'make([]T, 0, n)'. -/
theorem makeL {P : Program} {α : Type} {C : Cd α} (K : CdOk P C) (w : World) {ops : Array Oper} {rest : List Oper} {o : Oper} {a : Act} {Q : Exit → Act → World → Prop}
    (hg : o.guard = none) (l c : Operand) (hop : o.op = Op.makeSlice C.t l c) (n : Nat) (hl : a.eval l = .int .i64 0) (hc : a.eval c = .int .i64 n) (hn : n ≤ 1000000)
    (hK : ∀ w', OwnL C w.heap.size w' (.slice (some ⟨w.heap.size, 0, none⟩) 0 n) [] → Ext w w' → wpList P ops Q rest (a.put o.dst (.slice (some ⟨w.heap.size, 0, none⟩) 0 n)) w') :
    wpList P ops Q (o :: rest) a w := by
  obtain ⟨i, hi, hz, h3, h4⟩ := K.sl.info
  have hsm := K.sl.small
  refine wpList_make_own w hg l c C.t hop w.heap.size C.e i _ C.n K.sl.und hi hz h3 .i64 .i64 n n hl hc rfl ?_ (by unfold maxLen; omega) (Nat.le_refl _) fun w' h1 h2 => hK w' ⟨[], rfl, fun k hk => absurd hk (by simp), h1⟩ ?_
  · have : i.bytes * n ≤ 1000 * 1000000 := Nat.mul_le_mul (by omega) hn
    omega
  · exact Below.grown (Below.refl _ _) h2 (Nat.le_refl _) (fun k hk => by cases hk)
set_option maxRecDepth 100000 in
set_option maxHeartbeats 8000000 in
theorem brTree (B : Nat) (w : World) (v : Value) (b : List BrN) (hb : BrIn B w v b) (hl : b.length ≤ 1000) (hats : ∀ x ∈ b, x.ats.length ≤ 1000) :
    Calls Tryz.prog 43 #[v] w (TreeP w b) := by
  obtain ⟨aa, cap, rfl⟩ := hb.form
  have HV := Lib.hid hb; clear hb
  have HAT := Lib.hid hats; clear hats
  go_enter Tryz.func43, Tryz.ntmps43
  go_wp2_with (refine makeL okT _ rfl _ _ rfl b.length rfl rfl (by omega) ?_; intro w0 ho0 hE0; have HO0 := Lib.hid ho0; have HE0 := Lib.hid hE0; clear ho0 hE0)
  go_loopw [3, 5, 11] (fun o _ i w' => ∃ (wi : World) (k : Nat), wi = w' ∧ k ≤ b.length ∧ i = .int .i64 k ∧ OwnL cdT w.heap.size wi o (plT (b.take k)) ∧ Ext w wi) (fun _ _ i _ => b.length - (intOf i).toNat)
  case atStart => exact ⟨_, 0, rfl, Nat.zero_le _, rfl, HO0.out, HE0.out⟩
  case round =>
    clear HO0 HE0
    obtain ⟨wi, k, rfl, hk, rfl, ho, hE⟩ := hrel
    have HO := Lib.hid ho; have HE := Lib.hid hE
    obtain ⟨a5, cap5, rfl⟩ := ho.form
    clear ho hE
    by_cases hlt : k < b.length
    case neg =>
      obtain rfl : k = b.length := by omega
      have HR : Hid (OwnL cdT w.heap.size wi (.slice a5 b.length cap5) (plT b)) := Lib.hid (by have := HO.out; rw [plT_all, plT_len] at this; exact this)
      have hq : (plT (b.take b.length)).length = b.length := by rw [plT_all, plT_len]
      go_wp2
      go_ret
      exact ⟨⟨a5, cap5, by rw [hq]; rfl, HR.out⟩, HE.out⟩
    obtain ⟨bb, off, va, vr, hex, hbx, hva, hvr, xx⟩ := HV.out.br k hlt
    cases hex
    obtain ⟨c0, c1, c2, c3, c4, c5, c6, c7, c8, c9⟩ := cells10 HE.out hbx xx
    have HVA := Lib.hid hva
    obtain ⟨a4, cap4, rfl⟩ := hvr.form
    obtain ⟨a3, cap3, rfl⟩ := hva.form
    have HL : Hid ((b[k]'hlt).ats.length ≤ 1000) := HAT.out _ (List.getElem_mem hlt)
    have HS := Lib.hid (plT_succ b k hlt)
    generalize b[k]'hlt = x at c0 c1 c2 c3 c4 c5 c6 c7 c8 c9 HVA HL HS
    have HW : Hid (w.heap.size ≤ wi.heap.size) := HE.out.size
    have j1 : ((k : Nat) : Int) < (b.length : Int) := by omega
    have j0 : (0 : Int) ≤ (k : Int) := by omega
    have hq : (plT (b.take k)).length = k := by rw [plT_len, List.length_take]; omega
    have HQ := Lib.hid hq; clear hq
    clear xx hva hvr
    go_wp2_with (first | (go_at_call 84; refine (brPlain _ x _ _ ((HVA.out.attrs).ext (HE.out.trans (ext_alloc _ _))) HL.out ⟨_, _, _, rfl⟩).mono ?_; rintro e w1 ⟨⟨va1, rfl, hv1⟩, hb1⟩; have HV1 := Lib.hid hv1; have HB1 : Hid (Ext wi w1) := Lib.hid (Ext.trans (ext_alloc _ _) hb1); clear hv1 hb1) | (at_builtin; refine appL okT rfl (.tmp 15) (.tmp 18) rfl _ _ (plT (b.take k)) [x.toTrN] w _ rfl rfl (by exact (HO.out.ext okT HB1.out).ext okT (ext_alloc _ _)) (by exact listIn_new okT _ x.toTrN (trC x.toTrN va1) _ rfl ⟨va1, HV1.out.mono okA (Nat.zero_le _), rfl⟩) (by exact (HE.out.trans HB1.out).trans (ext_alloc _ _)) (by have := HB1.out.size; have := HW.out; simp; omega) (by have := HQ.out; simp; omega) ?_; intro v2 w2 ha; have HA := Lib.hid ha; clear ha))
    go_roundw
    case rel => exact ⟨_, k + 1, rfl, by omega, by go_num, by rw [HS.out]; exact HA.out.own, HA.out.below⟩
    case measure => first | (simp [intOf]; done) | (simp [intOf]; omega)
end Go.Proofs.YtiliglpolcpnbaaGreatDoor

namespace Go.Proofs.YtiliglpolcpnbaaGreatDoor
open Go.RowKit

def zBrN : BrN := { zTrN with opq := false, red := [] }
def getB (b : List BrN) (i : Nat) : BrN := b.getD i zBrN
theorem getB_at (b : List BrN) (i : Nat) (h : i < b.length) : getB b i = b[i]'h := by unfold getB; simp [List.getD, h]
theorem getT_plT (b : List BrN) (i : Nat) (h : i < b.length) : getT (plT b) i = (getB b i).toTrN := by
  rw [getT_at _ _ (by rw [plT_len]; exact h), getB_at _ _ h]; simp [plT]
/-- The last one of the first n nodes with a smaller depth; -1: there is none. -/
def abvE (t : List TrN) (d : Int) : Nat → Int
  | 0 => -1
  | n + 1 => if (getT t n).dep < d then n else abvE t d n
def abv (t : List TrN) (i : Nat) : Int := abvE t (getT t i).dep i
theorem abvE_bd (t : List TrN) (d : Int) : ∀ n, -1 ≤ abvE t d n ∧ abvE t d n < n
  | 0 => ⟨Int.le_refl _, by show (-1 : Int) < 0; decide⟩
  | n + 1 => by
    have := abvE_bd t d n
    unfold abvE; split <;> omega
set_option maxRecDepth 100000 in
set_option maxHeartbeats 4000000 in
theorem refAbove (B : Nat) (w : World) (v : Value) (b : List BrN) (i : Nat) (hb : BrIn B w v b) (hl : b.length ≤ 1000) (hi : i < b.length) :
    RetB Tryz.prog 80 #[v, .int .i64 i] w (.int .i64 (abv (plT b) i)) := by
  unfold RetB
  obtain ⟨aa, cap, rfl⟩ := hb.form
  have HV := Lib.hid hb; clear hb
  have j1 : ((i : Nat) : Int) < (b.length : Int) := by omega
  have j0 : (0 : Int) ≤ (i : Int) := by omega
  have jw : IntKind.i64.wrap ((i : Int) - 1) = (i : Int) - 1 := IntWalk.i64_in _ (by omega)
  obtain ⟨bi, offi, vai, vri, hei, hbi, _, _, di, _⟩ := HV.out.br i hi
  have HGI := Lib.hid ((getT_plT b i hi).trans (congrArg BrN.toTrN (getB_at b i hi)))
  go_enter Tryz.func80, Tryz.ntmps80
  go_wp2
  go_loopw [5] (fun o w' => ∃ (wi : World) (k : Nat) (e : Int), wi = w' ∧ k ≤ i ∧ o = .int .i64 e ∧ e = (k : Int) - 1 ∧ abvE (plT b) (getT (plT b) i).dep k = abv (plT b) i ∧ Ext w wi) (fun o _ => (intOf o + 1).toNat)
  case atStart => exact ⟨_, i, _, rfl, Nat.le_refl _, by go_num, rfl, rfl, Below.refl _ _⟩
  case round =>
    obtain ⟨wi, k, e, rfl, hk, rfl, he, ha, hE⟩ := hrel
    have HA := Lib.hid ha; have HE := Lib.hid hE
    clear ha
    cases k with
    | zero =>
      obtain rfl : e = -1 := by omega
      clear he hE
      go_wp2
      go_ret
      exact ⟨by rw [← HA.out]; rfl, HE.out⟩
    | succ k =>
      obtain rfl : e = (k : Int) := by omega
      clear he
      have hkb : k < b.length := by omega
      obtain ⟨bb, off, va, vr, hex, hbx, _, _, dk, _⟩ := HV.out.br k hkb
      cases hei
      cases hex
      have HGK := Lib.hid ((getT_plT b k hkb).trans (congrArg BrN.toTrN (getB_at b k hkb)))
      have ck : wi.cell? _ = _ := (ext_cell hE hbx).trans dk
      have ci : wi.cell? _ = _ := (ext_cell hE hbi).trans di
      have k1 : ((k : Nat) : Int) < (b.length : Int) := by omega
      have k0 : (0 : Int) ≤ (k : Int) := by omega
      have kw : IntKind.i64.wrap ((k : Int) - 1) = (k : Int) - 1 := IntWalk.i64_in _ (by omega)
      clear hE dk di
      by_cases hd : (b[k]'hkb).dep < (b[i]'hi).dep
      · have HR : Hid (abvE (plT b) (getT (plT b) i).dep (k + 1) = k) := Lib.hid (by unfold abvE; rw [HGI.out, HGK.out, if_pos hd])
        go_wp2
        go_quiet (fail)
        go_wp2
        go_ret
        exact ⟨by rw [← HA.out, HR.out]; rfl, HE.out.trans (ext_drewN _ _)⟩
      · have HR : Hid (abvE (plT b) (getT (plT b) i).dep (k + 1) = abvE (plT b) (getT (plT b) i).dep k) := Lib.hid (by rw [abvE.eq_2, HGI.out, HGK.out, if_neg hd])
        have hd' : decide ((b[k]'hkb).dep < (b[i]'hi).dep) = false := decide_eq_false hd
        go_wp2
        go_quiet (fail)
        go_wp2
        go_roundw
        case rel => exact ⟨_, k, _, rfl, by omega, by go_num, rfl, by rw [← HR.out]; exact HA.out, HE.out.trans (ext_drewN _ _)⟩
        case measure => first | (simp [intOf]; done) | (simp [intOf]; omega)
end Go.Proofs.YtiliglpolcpnbaaGreatDoor

namespace Go.Proofs.YtiliglpolcpnbaaGreatDoor
open Go.RowKit

def pathF (t : List TrN) : Nat → Nat → List ByteArray
  | 0, _ => []
  | f + 1, i => if i = 0 then [] else pathF t f (abv t i).toNat ++ [(getT t i).nm]
/-- The path of a node. -/
def pathT (t : List TrN) (i : Nat) : List ByteArray := pathF t (i + 1) i
theorem abv_bd (t : List TrN) (i : Nat) : -1 ≤ abv t i ∧ abv t i < i := abvE_bd _ _ _
theorem pathF_eq (t : List TrN) : ∀ (i f f' : Nat), i < f → i < f' → pathF t f i = pathF t f' i := by
  intro i
  induction i using Nat.strongRecOn with
  | ind i ih =>
    intro f f' h h'
    obtain ⟨g, rfl⟩ : ∃ g, f = g + 1 := ⟨f - 1, by omega⟩
    obtain ⟨g', rfl⟩ : ∃ g, f' = g + 1 := ⟨f' - 1, by omega⟩
    unfold pathF
    by_cases e : i = 0
    · rw [if_pos e, if_pos e]
    · rw [if_neg e, if_neg e]
      have := abv_bd t i
      rw [ih (abv t i).toNat (by omega) g g' (by omega) (by omega)]
theorem pathT_zero (t : List TrN) : pathT t 0 = [] := rfl
theorem pathT_succ (t : List TrN) (i : Nat) (h : i ≠ 0) : pathT t i = pathT t (abv t i).toNat ++ [(getT t i).nm] := by
  have := abv_bd t i
  show pathF t (i + 1) i = _
  rw [pathF.eq_2, if_neg h]
  unfold pathT
  rw [pathF_eq t (abv t i).toNat i ((abv t i).toNat + 1) (by omega) (by omega)]
theorem pathT_len (t : List TrN) : ∀ i, (pathT t i).length ≤ i := by
  intro i
  induction i using Nat.strongRecOn with
  | ind i ih =>
    by_cases e : i = 0
    · subst e; rw [pathT_zero]; simp
    · have := abv_bd t i
      rw [pathT_succ t i e, List.length_append]
      have := ih (abv t i).toNat (by omega)
      simp; omega
theorem abvE_ge {t : List TrN} {d : Int} : ∀ {n j : Nat}, j < n → (getT t j).dep < d → 0 ≤ abvE t d n
  | n + 1, j, hj, hd => by
    unfold abvE
    by_cases e : (getT t n).dep < d
    · rw [if_pos e]; omega
    · rw [if_neg e]
      exact abvE_ge (j := j) (by by_cases e2 : j = n; subst e2; exact absurd hd e; omega) hd
/-- A node of a right tree but the root has a directory. -/
theorem abv_ge {t : List TrN} {k i : Nat} (h : AllOk t k) (hi : i < k) (h0 : i ≠ 0) : 0 ≤ abv t i := by
  obtain ⟨s0, _⟩ := node_parts (h 0 (by omega))
  obtain ⟨si, _⟩ := node_parts (h i hi)
  have := (shape_bd s0).2.2.1 rfl
  have := (shape_bd si).2.2.2 h0
  exact abvE_ge (j := 0) (by omega) (by omega)
end Go.Proofs.YtiliglpolcpnbaaGreatDoor

namespace Go.Proofs.YtiliglpolcpnbaaGreatDoor
open Go.RowKit

/-- What a call leaves that hands back a list of its own. -/
def OwnP {α : Type} (C : Cd α) (w : World) (l : List α) (e : Ending) (w' : World) : Prop := (∃ a n cap, e = .returned (.slice a n cap) ∧ OwnL C w.heap.size w' (.slice a n cap) l) ∧ Ext w w'
set_option maxRecDepth 100000 in
set_option maxHeartbeats 8000000 in
theorem refPath (t : List TrN) (hl : t.length ≤ 1000) (hok : AllOk t t.length) : ∀ (i B : Nat) (w : World) (v : Value), TrIn B w v t → i < t.length →
    Calls Tryz.prog 102 #[v, .int .i64 i] w (OwnP cdS w (pathT t i)) := by
  intro i
  induction i using Nat.strongRecOn with
  | ind i ih =>
  intro B w v hv hi
  obtain ⟨aa, cap, rfl⟩ := hv.form
  have HV := Lib.hid hv; clear hv
  have IH := Lib.hid ih; clear ih
  by_cases h0 : i = 0
  · subst h0
    go_enter Tryz.func102, Tryz.ntmps102
    go_wp2
    go_ret
    exact ⟨⟨_, _, _, rfl, OwnL.nil _ _ _⟩, Below.refl _ _⟩
  have h0' : ((i : Int) == 0) = false := beq_eq_false_iff_ne.2 (by omega)
  have j1 : ((i : Nat) : Int) < (t.length : Int) := by omega
  have j0 : (0 : Int) ≤ (i : Int) := by omega
  have jw : IntKind.i64.wrap ((i : Int) - 1) = (i : Int) - 1 := IntWalk.i64_in _ (by omega)
  have HGE := Lib.hid (abv_ge hok hi h0)
  have HPS := Lib.hid (pathT_succ t i h0)
  obtain ⟨bi, offi, vai, hei, hbi, _, di, ni, _⟩ := HV.out.tr i hi
  have HGI := Lib.hid (getT_at t i hi)
  have HNI := Lib.hid ni
  cases hei
  go_enter Tryz.func102, Tryz.ntmps102
  go_wp2
  go_loopw [5] (fun o w' => ∃ (wi : World) (k : Nat), wi = w' ∧ k < i ∧ o = .int .i64 k ∧ abvE t (getT t i).dep (k + 1) = abv t i ∧ Ext w wi) (fun o _ => (intOf o + 1).toNat)
  case atStart =>
    obtain ⟨i', rfl⟩ : ∃ i', i = i' + 1 := ⟨i - 1, by omega⟩
    exact ⟨_, i', rfl, by omega, by go_num, rfl, Below.refl _ _⟩
  case round =>
    obtain ⟨wi, k, rfl, hk, rfl, ha, hE⟩ := hrel
    have HA := Lib.hid ha; have HE := Lib.hid hE
    clear ha
    have hkb : k < t.length := by omega
    obtain ⟨bb, off, va, hex, hbx, _, dk, _⟩ := HV.out.tr k hkb
    cases hex
    have HGK := Lib.hid (getT_at t k hkb)
    have ck : wi.cell? _ = _ := (ext_cell hE hbx).trans dk
    have ci : wi.cell? _ = _ := (ext_cell hE hbi).trans di
    have cn : wi.cell? _ = _ := (ext_cell hE hbi).trans ni
    have k1 : ((k : Nat) : Int) < (t.length : Int) := by omega
    have k0 : (0 : Int) ≤ (k : Int) := by omega
    have kw : IntKind.i64.wrap ((k : Int) - 1) = (k : Int) - 1 := IntWalk.i64_in _ (by omega)
    clear hE dk di ni
    by_cases hd : (t[k]'hkb).dep < (t[i]'hi).dep
    case neg =>
      have hR : abvE t (getT t i).dep (k + 1) = abvE t (getT t i).dep k := by rw [abvE.eq_2, HGI.out, HGK.out, if_neg hd]
      have hkz : k ≠ 0 := by
        rintro rfl
        have h1 := HGE.out
        rw [← HA.out, hR] at h1
        exact absurd h1 (by show ¬ (0 : Int) ≤ -1; decide)
      obtain ⟨k, rfl⟩ : ∃ k', k = k' + 1 := ⟨k - 1, by omega⟩
      have HR := Lib.hid hR; clear hR
      have hd' : decide ((t[i]'hi).dep ≤ (t[k + 1]'hkb).dep) = true := decide_eq_true (by omega)
      go_wp2
      go_quiet (fail)
      go_wp2
      go_roundw
      case rel => exact ⟨_, k, rfl, by omega, by go_num, by rw [← HR.out]; exact HA.out, HE.out.trans (ext_drewN _ _)⟩
      case measure => first | (simp [intOf]; done) | (simp [intOf]; omega)
    have HR : Hid ((k : Int) = abv t i) := Lib.hid (by rw [← HA.out]; unfold abvE; rw [HGI.out, HGK.out, if_pos hd])
    have hd' : decide ((t[i]'hi).dep ≤ (t[k]'hkb).dep) = false := decide_eq_false (by omega)
    go_wp2
    go_quiet (fail)
    go_wp2
    refine name_world (P := fun W => Code.wp _ _ _ _ W) _ ?_
    intro W hW
    have HEW : Hid (Ext w W) := Lib.hid (by rw [hW]; exact HE.out.trans (by first | exact ext_drewN _ _ | exact ext_drew _))
    clear hW ck ci cn
    have hcn : W.cell? ⟨bi, offi + i * 8 + 1, none⟩ = some (.string (t[i]'hi).nm) := (ext_cell HEW.out hbi).trans HNI.out
    have HL : Hid ((pathT t k).length ≤ 1000) := Lib.hid (by have := pathT_len t k; omega)
    have HPK : Hid (pathT t i = pathT t k ++ [(t[i]'hi).nm]) := Lib.hid (by rw [HPS.out, ← HR.out, HGI.out]; rfl)
    go_region_held3 (fun w' => w'.cell? ⟨bi, offi + i * 8 + 1, none⟩ = some (.string (t[i]'hi).nm)) (first | go_keep | skip)
      (first
        | (go_at_call 102; refine (IH.out k hk B _ _ (by first | exact HV.out.ext okT (HEW.out.trans (ext_drew _)) | exact HV.out.ext okT (HEW.out.trans ((ext_alloc _ _).trans (ext_drew _)))) hkb).mono ?_; rintro e w1 ⟨⟨a1, n1, cap1, rfl, ho⟩, hb1⟩; have HB1 := Lib.hid hb1; have HO1 := Lib.hid ho; have HE1 : Hid (Ext W w1) := Lib.hid (by first | exact (ext_drew _).trans hb1 | exact ((ext_alloc _ _).trans (ext_drew _)).trans hb1); have HO2 : Hid (OwnL cdS w.heap.size w1 (.slice a1 n1 cap1) (pathT t k)) := Lib.hid (OwnL.le (B' := w.heap.size) ho okS (fun _ _ _ h => h) (by have := HEW.out.size; simp; omega)); have cn1 : w1.cell? ⟨bi, offi + i * 8 + 1, none⟩ = some (.string (t[i]'hi).nm) := (ext_cell (HEW.out.trans HE1.out) hbi).trans HNI.out; clear hb1 ho)
        | (refine wp_appL okS (.tmp 25) (.tmp 31) (by rfl) (.slice a1 n1 cap1) _ (pathT t k) [(t[i]'hi).nm] w _ (by rfl) (by rfl) (by first | exact HO2.out | exact HO2.out.ext okS (ext_alloc _ _)) (by first | exact listIn_new okS _ (t[i]'hi).nm [.string (t[i]'hi).nm] _ rfl rfl | exact ((listIn_new okS W (t[i]'hi).nm [.string (t[i]'hi).nm] _ rfl rfl).ext okS (ext_drew _)).ext okS HB1.out) (by first | exact HEW.out.trans HE1.out | exact (HEW.out.trans HE1.out).trans (ext_alloc _ _)) (by have := HEW.out.size; have := HE1.out.size; first | omega | (simp; omega)) (by have := HL.out; simp; omega) ?_; intro v5 w3 ha; have HAP := Lib.hid ha; clear ha; have cn3 : w3.cell? ⟨bi, offi + i * 8 + 1, none⟩ = some (.string (t[i]'hi).nm) := (ext_cell HAP.out.below hbi).trans HNI.out)
        | fail)
    all_goals
      go_wp2
      obtain ⟨a6, cap6, rfl⟩ := HAP.out.own.form
      go_ret
      exact ⟨⟨_, _, _, rfl, by rw [HPK.out]; exact HAP.out.own⟩, HAP.out.below⟩
end Go.Proofs.YtiliglpolcpnbaaGreatDoor
