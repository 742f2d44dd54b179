/- limewashref19.Tree of branches whose lists of attributes are as long as an argument's may be. -/
/- Layer 21's long, large, path, far: whether an argument is more than is looked at. -/
import Derived.Test.YtiliglpolcpnbaaGreatDoorQBrnC
import Derived.Test.YtiliglpolcpnbaaGreatDoorQFarB
namespace Go.Proofs.YtiliglpolcpnbaaGreatDoor
open Go.RowKit

section
variable {P : Program} {α : Type} {C : Cd α} {B B' : Nat} {w w' : World} {v : Value} {l : List α}
theorem run_appLX (K : CdOk P C) (ty : TypeId) (v x : Value) (l1 l2 : List α) (w : World) (h1 : OwnL C B w v l1) (h2 : ListIn C B w x l2) (hB : B ≤ w.heap.size) (hl : l1.length + l2.length ≤ 1000000000000000000) (hby : (l1.length + l2.length) * C.bytes ≤ 140737488355328) :
    ∃ v' w', (Builtin.append_ #[C.t, C.t] ty #[v, x]).run P w = .ok v' w' ∧ OwnL C B w' v' (l1 ++ l2) ∧ w.grownBy w' v.ownBlock ∧ (v'.ownBlock = v.ownBlock ∨ v'.ownBlock = some w.heap.size) ∧ Chg B C.e v.ownBlock w w' := by
  obtain ⟨i, hi, hz, h3, h4⟩ := K.sl.info
  have hrow := h1.row rfl
  obtain ⟨a, cap, rfl, hcap, hn, hc⟩ := h2
  obtain ⟨css, hcl, hR, ho⟩ := h1
  have hlen := OwnL.lens K hcl hR
  cases a with
  | none =>
    obtain rfl : l2 = [] := by
      cases l2 with
      | nil => rfl
      | cons y r => obtain ⟨b, off, cs, h0, _⟩ := hc 0 (by simp); cases h0
    refine ⟨v, w, ?_, by rw [List.append_nil]; exact ⟨css, hcl, hR, ho⟩, ⟨rfl, rfl, rfl, Nat.le_refl _, fun _ _ _ => rfl⟩, .inl rfl, ⟨fun _ _ hb _ => hb, Nat.le_refl _, hrow⟩⟩
    rcases ho.2 with ⟨rfl, h0⟩ | ⟨g, cap', cur, rfl, _, _, hnc, _⟩
    · simp [Builtin.append_, run_underlying K.sl.und, sizeOf, typeInfo, hi, Builtin.lenOf, Builtin.firstCells]
    · simp [Builtin.append_, run_underlying K.sl.und, sizeOf, typeInfo, hi, Builtin.lenOf, Builtin.firstCells, hnc, storeCells]
  | some ad =>
    have hex : ∃ dss : List (List Value), dss.length = l2.length ∧ ∀ k (h : k < l2.length) (h' : k < dss.length), C.R B w (l2[k]'h) (dss[k]'h') ∧ ∀ j c, (dss[k]'h')[j]? = some c → w.cell? (ad.add (k * C.n + j)) = some c := by
      have : ∀ m, m ≤ l2.length → ∃ dss : List (List Value), dss.length = m ∧ ∀ k (h : k < l2.length) (h' : k < dss.length), C.R B w (l2[k]'h) (dss[k]'h') ∧ ∀ j c, (dss[k]'h')[j]? = some c → w.cell? (ad.add (k * C.n + j)) = some c := by
        intro m
        induction m with
        | zero => intro _; exact ⟨[], rfl, fun k _ h' => absurd h' (by simp)⟩
        | succ m ih =>
          intro hm
          obtain ⟨dss, hd, hh⟩ := ih (by omega)
          obtain ⟨b, off, cs, h0, hb, hr, hrw⟩ := hc m (by omega)
          refine ⟨dss ++ [cs], by simp [hd], fun k h h' => ?_⟩
          rw [List.getElem_append]
          split
          · exact hh k h _
          · have hkm : k = m := by simp at h'; omega
            subst hkm
            simp only [List.getElem_singleton]
            refine ⟨hr, fun j c hj => ?_⟩
            cases h0
            rw [Addr.add_lit, ← Nat.add_assoc]; exact hrw j c hj
      exact this _ (Nat.le_refl _)
    obtain ⟨dss, hdl, hd⟩ := hex
    have hdlen : ∀ cs ∈ dss, cs.length = C.n := by
      intro cs hcs
      obtain ⟨k, hk, rfl⟩ := List.getElem_of_mem hcs
      exact K.len (hd k (by omega) hk).1
    have hcell : ∀ j u, dss.flatten[j]? = some u → w.cell? (ad.add j) = some u := by
      intro j u hj
      have hp := K.sl.pos
      have hdm : j / C.n * C.n + j % C.n = j := by rw [Nat.mul_comm]; exact Nat.div_add_mod j C.n
      have hml := Nat.mod_lt j hp
      rw [← hdm, flat_get hdlen _ _ hml] at hj
      rcases Nat.lt_or_ge (j / C.n) dss.length with hk | hk
      · rw [List.getElem?_eq_getElem hk] at hj
        have := (hd (j / C.n) (by omega) hk).2 (j % C.n) u hj
        rwa [hdm] at this
      · rw [List.getElem?_eq_none hk] at hj; cases hj
    have hone : ∀ u ∈ dss.flatten, u.oneCell' = true := by
      intro u hu
      obtain ⟨cs, hcs, hu⟩ := List.mem_flatten.1 hu
      obtain ⟨k, hk, rfl⟩ := List.getElem_of_mem hcs
      exact K.one (hd k (by omega) hk).1 u hu
    obtain ⟨v', w', hr, ho', hg, _, hlies⟩ := run_append_own_at (P := P) (w := w) B C.t ty C.e i _ C.n C.bytes K.sl.und hi hz h3 h4 K.sl.zs K.sl.pos v l1.length css.flatten ho ad l2.length cap dss.flatten (by rw [flat_length hdlen, hdl]) hcell hone (by unfold maxLen; omega) hby hB
    have hchg : Chg B C.e v.ownBlock w w' := ⟨keepBut_grown hg, hg.size, hrow⟩
    refine ⟨v', w', hr, ⟨css ++ dss, by simp [hcl, hdl], fun k hk hk' => K.chg ?_ hchg K.self, ?_⟩, hg, hlies, hchg⟩
    · rw [List.getElem_append, List.getElem_append]
      by_cases hkl : k < l1.length
      · rw [dif_pos hkl, dif_pos (by omega)]; exact hR k hkl (by omega)
      · rw [dif_neg hkl, dif_neg (by omega)]
        have := (hd (k - l1.length) (by simp at hk; omega) (by simp at hk; omega)).1
        simp only [hcl]; exact this
    · rw [List.length_append, List.flatten_append]; exact ho'
variable {o : Oper} {a : Act} {Kx : Act → World → Prop} {Q : Exit → Act → World → Prop}
theorem wp_appLX (K : CdOk P C) (s x : Operand) (ho : o.op = .call { callee := .builtin .append, args := #[s, x], argTypes := #[C.t, C.t] })
    (v xv : Value) (l1 l2 : List α) (W0 w : World) (hs : a.eval s = v) (hx : a.eval x = xv) (h1 : OwnL C B w v l1) (h2 : ListIn C B w xv l2) (hb : Below B W0 w) (hB : B ≤ w.heap.size) (hl : l1.length + l2.length ≤ 1000000000000000000) (hby : (l1.length + l2.length) * C.bytes ≤ 140737488355328)
    (h : ∀ v' w', AppL C B v v' (l1 ++ l2) W0 w w' → Kx (a.put o.dst v') w') : o.wp P a w Kx Q := by
  obtain ⟨v', w', hr, h3, h4, h5, h6⟩ := run_appLX K o.type v xv l1 l2 w h1 h2 hB hl hby
  unfold Oper.wp execOp
  simp only [ho, resolve, invoke, builtin, Sem.run_bind, Sem.run_pure, Result.andThen_ok, List.map_toArray, List.map_cons, List.map_nil, hs, hx, hr]
  exact h v' w' ⟨h3, below_chg hb h4 h1 hB, h6, h5⟩
end
set_option maxRecDepth 100000 in
set_option maxHeartbeats 8000000 in
theorem refNodeX (B : Nat) (w : World) (x : BrN) (va vr : Value) (hx : AttIn B w va x.ats) (hB : B ≤ w.heap.size) (hl : x.ats.length * 32 ≤ 140737488355328) (hr : ∃ a n cap, vr = .slice a n cap) :
    Calls Tryz.prog 79 #[brV x va vr] w (PlainP w x) := by
  obtain ⟨a4, n4, cap4, rfl⟩ := hr
  obtain ⟨a3, cap3, rfl⟩ := hx.form
  have HX := Lib.hid hx
  clear hx
  unfold brV
  go_enter Tryz.func79, Tryz.ntmps79
  go_wp2
  refine name_world (P := fun W => Code.wp _ _ _ _ W) _ ?_
  intro W hW
  have HXB : Hid (W.heap[w.heap.size]? = some (.cells #[.int .i64 x.dep, .string x.nm, .int .i64 x.kd, .slice a3 x.ats.length cap3, .string x.dat, .int .i64 x.ma, .int .i64 x.mi, .int .i64 x.cl, .bool x.opq, .slice a4 n4 cap4] 41 (0, 0))) := Lib.hid (by rw [hW]; exact blk_alloc (blk_new w _))
  have HZB : Hid (W.heap[w.heap.size + 1]? = some (.cells #[.int .i64 0, .string ⟨#[]⟩, .int .i64 0, .slice none 0 0, .string ⟨#[]⟩, .int .i64 0, .int .i64 0, .int .i64 0] 43 (0, 0))) := Lib.hid (by rw [hW]; exact blk_at (by simp))
  have HE : Hid (Ext w W) := Lib.hid (by rw [hW]; exact (ext_alloc _ _).trans (ext_alloc _ _))
  clear hW
  have c0 : W.cell? ⟨w.heap.size, 0, none⟩ = some (.int .i64 x.dep) := blk_cell HXB.out 0
  have c1 : W.cell? ⟨w.heap.size, 1, none⟩ = some (.string x.nm) := blk_cell HXB.out 1
  have c2 : W.cell? ⟨w.heap.size, 2, none⟩ = some (.int .i64 x.kd) := blk_cell HXB.out 2
  have c3 : W.cell? ⟨w.heap.size, 3, none⟩ = some (.slice a3 x.ats.length cap3) := blk_cell HXB.out 3
  have c4 : W.cell? ⟨w.heap.size, 4, none⟩ = some (.string x.dat) := blk_cell HXB.out 4
  have c5 : W.cell? ⟨w.heap.size, 5, none⟩ = some (.int .i64 x.ma) := blk_cell HXB.out 5
  have c6 : W.cell? ⟨w.heap.size, 6, none⟩ = some (.int .i64 x.mi) := blk_cell HXB.out 6
  have c7 : W.cell? ⟨w.heap.size, 7, none⟩ = some (.int .i64 x.cl) := blk_cell HXB.out 7
  have fz : ∀ j, W.frozen? ⟨w.heap.size + 1, j, none⟩ = false := fun j => blk_thaw HZB.out j
  have HX1 : Hid (∀ o, AttIn W.heap.size (W.alloc o).drew (.slice a3 x.ats.length cap3) x.ats) := Lib.hid (fun o => (HX.out.mono okA (Nat.le_trans hB HE.out.size)).ext okA ((HE.out.trans (ext_alloc _ _)).trans (ext_drew _)))
  have HF1 : Hid (OwnL cdA W.heap.size (W.alloc (.cells #[] cdA.e)).drew (.slice (some ⟨W.heap.size, 0, none⟩) 0 0) []) := Lib.hid ((OwnL.fresh cdA W).ext okA (ext_drew _))
  have fzA : ∀ o j, (W.alloc o).drew.frozen? ⟨w.heap.size + 1, j, none⟩ = false := fun o j => blk_thaw (blk_ext ((ext_alloc W o).trans (ext_drew _)) HZB.out) j
  go_region_held3 (fun w' => w'.cell? ⟨w.heap.size, 0, none⟩ = some (.int .i64 x.dep) ∧ w'.cell? ⟨w.heap.size, 1, none⟩ = some (.string x.nm) ∧ w'.cell? ⟨w.heap.size, 2, none⟩ = some (.int .i64 x.kd) ∧ w'.cell? ⟨w.heap.size, 3, none⟩ = some (.slice a3 x.ats.length cap3) ∧ w'.cell? ⟨w.heap.size, 4, none⟩ = some (.string x.dat) ∧ w'.cell? ⟨w.heap.size, 5, none⟩ = some (.int .i64 x.ma) ∧ w'.cell? ⟨w.heap.size, 6, none⟩ = some (.int .i64 x.mi) ∧ w'.cell? ⟨w.heap.size, 7, none⟩ = some (.int .i64 x.cl) ∧ ∀ j, w'.frozen? ⟨w.heap.size + 1, j, none⟩ = false) (first | go_keep | skip)
    ((refine wp_appLX okA (.tmp 9) (.tmp 11) (by rfl) (.slice (some ⟨W.heap.size, 0, none⟩) 0 0) _ [] x.ats W _ (by rfl) (by rfl) (by exact HF1.out) (by exact HX1.out _) (by exact (ext_alloc _ _).trans (ext_drew _)) (by simp) (by simp; omega) (by simp [cdA]; omega) ?_; intro v5 w3 ha; have HAP := Lib.hid ha; clear ha; have HE3 : Hid (Ext W w3) := HAP.out.below; have X3 := Lib.hid (blk_below HXB.out HE3.out); have Z3 := Lib.hid (blk_below HZB.out HE3.out); obtain ⟨a5, cap5, rfl⟩ := HAP.out.own.form; have d0 : w3.cell? ⟨w.heap.size, 0, none⟩ = some (.int .i64 x.dep) := blk_cell X3.out 0; have d1 : w3.cell? ⟨w.heap.size, 1, none⟩ = some (.string x.nm) := blk_cell X3.out 1; have d2 : w3.cell? ⟨w.heap.size, 2, none⟩ = some (.int .i64 x.kd) := blk_cell X3.out 2; have d3 : w3.cell? ⟨w.heap.size, 3, none⟩ = some (.slice a3 x.ats.length cap3) := blk_cell X3.out 3; have d4 : w3.cell? ⟨w.heap.size, 4, none⟩ = some (.string x.dat) := blk_cell X3.out 4; have d5 : w3.cell? ⟨w.heap.size, 5, none⟩ = some (.int .i64 x.ma) := blk_cell X3.out 5; have d6 : w3.cell? ⟨w.heap.size, 6, none⟩ = some (.int .i64 x.mi) := blk_cell X3.out 6; have d7 : w3.cell? ⟨w.heap.size, 7, none⟩ = some (.int .i64 x.cl) := blk_cell X3.out 7; have fz3 : ∀ j, w3.frozen? ⟨w.heap.size + 1, j, none⟩ = false := fun j => blk_thaw Z3.out j; have r0 : w3.cell? ⟨w.heap.size + 1, 0, none⟩ = some (.int .i64 0) := blk_cell Z3.out 0; have r1 : w3.cell? ⟨w.heap.size + 1, 1, none⟩ = some (.string ⟨#[]⟩) := blk_cell Z3.out 1; have r2 : w3.cell? ⟨w.heap.size + 1, 2, none⟩ = some (.int .i64 0) := blk_cell Z3.out 2; have r3 : w3.cell? ⟨w.heap.size + 1, 3, none⟩ = some (.slice none 0 0) := blk_cell Z3.out 3; have r4 : w3.cell? ⟨w.heap.size + 1, 4, none⟩ = some (.string ⟨#[]⟩) := blk_cell Z3.out 4; have r5 : w3.cell? ⟨w.heap.size + 1, 5, none⟩ = some (.int .i64 0) := blk_cell Z3.out 5; have r6 : w3.cell? ⟨w.heap.size + 1, 6, none⟩ = some (.int .i64 0) := blk_cell Z3.out 6; have r7 : w3.cell? ⟨w.heap.size + 1, 7, none⟩ = some (.int .i64 0) := blk_cell Z3.out 7; have hsz : w.heap.size + 1 < w3.heap.size := blk_lt Z3.out))
  refine name_world (P := fun W => Exit.then _ _ _ _ W) _ ?_
  intro W2 hW2
  replace hW2 : W2 = setL w3 (w.heap.size + 1) 0 [.int .i64 x.dep, .string x.nm, .int .i64 x.kd, .slice a5 x.ats.length cap5, .string x.dat, .int .i64 x.ma, .int .i64 x.mi, .int .i64 x.cl] := hW2
  have HZ2 : Hid (W2.heap[w.heap.size + 1]? = some (.cells #[.int .i64 x.dep, .string x.nm, .int .i64 x.kd, .slice a5 x.ats.length cap5, .string x.dat, .int .i64 x.ma, .int .i64 x.mi, .int .i64 x.cl] 43 (0, 0))) := Lib.hid (by rw [hW2, setL_blk _ _ _ _ Z3.out]; rfl)
  have HB2 : Hid (Ext w W2) := Lib.hid (by rw [hW2]; exact setL_below (by omega) _ _ _ (HE.out.trans HE3.out))
  have HO : Hid (AttIn 0 w3 (.slice a5 x.ats.length cap5) x.ats) := Lib.hid ((OwnL.le (B' := 0) HAP.out.own okA (fun _ _ _ h => h) (Nat.zero_le _)).in okA)
  have HA2 : Hid (AttIn 0 W2 (.slice a5 x.ats.length cap5) x.ats) := Lib.hid (by rw [hW2]; exact HO.out.chg okA (setL_chg (by omega) Z3.out _) (by decide) (by decide))
  clear hW2 c0 c1 c2 c3 c4 c5 c6 c7 d0 d1 d2 d3 d4 d5 d6 d7 r0 r1 r2 r3 r4 r5 r6 r7
  have t0 : W2.cell? ⟨w.heap.size + 1, 0, none⟩ = some (.int .i64 x.dep) := blk_cell HZ2.out 0
  have t1 : W2.cell? ⟨w.heap.size + 1, 1, none⟩ = some (.string x.nm) := blk_cell HZ2.out 1
  have t2 : W2.cell? ⟨w.heap.size + 1, 2, none⟩ = some (.int .i64 x.kd) := blk_cell HZ2.out 2
  have t3 : W2.cell? ⟨w.heap.size + 1, 3, none⟩ = some (.slice a5 x.ats.length cap5) := blk_cell HZ2.out 3
  have t4 : W2.cell? ⟨w.heap.size + 1, 4, none⟩ = some (.string x.dat) := blk_cell HZ2.out 4
  have t5 : W2.cell? ⟨w.heap.size + 1, 5, none⟩ = some (.int .i64 x.ma) := blk_cell HZ2.out 5
  have t6 : W2.cell? ⟨w.heap.size + 1, 6, none⟩ = some (.int .i64 x.mi) := blk_cell HZ2.out 6
  have t7 : W2.cell? ⟨w.heap.size + 1, 7, none⟩ = some (.int .i64 x.cl) := blk_cell HZ2.out 7
  go_wp2
  refine bodyPost_ret (v := trV x.toTrN (.slice a5 x.ats.length cap5)) (by simp [results, Tryz.f79, go_sem, t0, t1, t2, t3, t4, t5, t6, t7]) rfl ?_
  exact ⟨⟨_, rfl, HA2.out⟩, HB2.out⟩
set_option maxRecDepth 100000 in
set_option maxHeartbeats 8000000 in
theorem refTreeX (B : Nat) (w : World) (v : Value) (b : List BrN) (hb : BrIn B w v b) (hB : B ≤ w.heap.size) (hl : b.length ≤ 1000) (hats : ∀ x ∈ b, x.ats.length * 32 ≤ 140737488355328) :
    Calls Tryz.prog 38 #[v] w (TreeP w b) := by
  obtain ⟨aa, cap, rfl⟩ := hb.form
  have HV := Lib.hid hb; clear hb
  have HAT := Lib.hid hats; clear hats
  go_enter Tryz.func38, Tryz.ntmps38
  go_wp2
  go_loopw [3, 4] (fun o i w' => ∃ (wi : World) (k : Nat), wi = w' ∧ k ≤ b.length ∧ i = .int .i64 k ∧ OwnL cdT w.heap.size wi o (plT (b.take k)) ∧ Ext w wi) (fun _ i _ => b.length - (intOf i).toNat)
  case atStart => exact ⟨_, 0, rfl, Nat.zero_le _, rfl, OwnL.nil _ _ _, Below.refl _ _⟩
  case round =>
    obtain ⟨wi, k, rfl, hk, rfl, ho, hE⟩ := hrel
    have HO := Lib.hid ho; have HE := Lib.hid hE
    obtain ⟨a5, cap5, rfl⟩ := ho.form
    clear ho hE
    by_cases hlt : k < b.length
    case neg =>
      obtain rfl : k = b.length := by omega
      have HR : Hid (OwnL cdT w.heap.size wi (.slice a5 b.length cap5) (plT b)) := Lib.hid (by have := HO.out; rw [plT_all, plT_len] at this; exact this)
      have hq : (plT (b.take b.length)).length = b.length := by rw [plT_all, plT_len]
      go_wp2
      go_ret
      exact ⟨⟨a5, cap5, by rw [hq]; rfl, HR.out⟩, HE.out⟩
    obtain ⟨bb, off, va, vr, hex, hbx, hva, hvr, xx⟩ := HV.out.br k hlt
    cases hex
    obtain ⟨c0, c1, c2, c3, c4, c5, c6, c7, c8, c9⟩ := cells10 HE.out hbx xx
    have HVA := Lib.hid hva
    obtain ⟨a4, cap4, rfl⟩ := hvr.form
    obtain ⟨a3, cap3, rfl⟩ := hva.form
    have HL : Hid ((b[k]'hlt).ats.length * 32 ≤ 140737488355328) := HAT.out _ (List.getElem_mem hlt)
    have HS := Lib.hid (plT_succ b k hlt)
    generalize b[k]'hlt = x at c0 c1 c2 c3 c4 c5 c6 c7 c8 c9 HVA HL HS
    have HW : Hid (w.heap.size ≤ wi.heap.size) := HE.out.size
    have j1 : ((k : Nat) : Int) < (b.length : Int) := by omega
    have j0 : (0 : Int) ≤ (k : Int) := by omega
    have hq : (plT (b.take k)).length = k := by rw [plT_len, List.length_take]; omega
    have HQ := Lib.hid hq; clear hq
    clear xx hva hvr
    go_wp2_with (first | (go_at_call 79; refine (refNodeX B _ x _ _ (HVA.out.ext okA HE.out) (Nat.le_trans hB HW.out) HL.out ⟨_, _, _, rfl⟩).mono ?_; rintro e w1 ⟨⟨va1, rfl, hv1⟩, hb1⟩; have HV1 := Lib.hid hv1; have HB1 := Lib.hid hb1; clear hv1 hb1) | (at_builtin; refine appL okT rfl (.tmp 11) (.tmp 17) rfl _ _ (plT (b.take k)) [x.toTrN] w _ rfl rfl (by exact (HO.out.ext okT HB1.out).ext okT (ext_alloc _ _)) (by exact listIn_new okT _ x.toTrN (trC x.toTrN va1) _ rfl ⟨va1, HV1.out.mono okA (Nat.zero_le _), rfl⟩) (by exact (HE.out.trans HB1.out).trans (ext_alloc _ _)) (by have := HB1.out.size; have := HW.out; simp; omega) (by have := HQ.out; simp; omega) ?_; intro v2 w2 ha; have HA := Lib.hid ha; clear ha))
    go_roundw
    case rel => exact ⟨_, k + 1, rfl, by omega, by go_num, by rw [HS.out]; exact HA.out.own, HA.out.below⟩
    case measure => first | (simp [intOf]; done) | (simp [intOf]; omega)
end Go.Proofs.YtiliglpolcpnbaaGreatDoor

namespace Go.Proofs.YtiliglpolcpnbaaGreatDoor
open Go.RowKit

theorem Few.mono {n m : Nat} {l : List Attr} (h : Few n l) (hnm : n ≤ m) : Few m l := ⟨h.1, fun a ha => by have := h.2 a ha; omega⟩
set_option maxRecDepth 100000 in
theorem law21long (v : Value) (l : List Attr) (w : World) (hv : AttrsAt w v l) : Calls Tryz.prog 53 #[v] w (BoolP (Few 400 l) w) := by
  obtain ⟨aa, cap, rfl, hcap, hc⟩ := hv
  have HC := Lib.hid hc; clear hc
  by_cases h10 : 10 < l.length
  · go_enter Tryz.func53, Tryz.ntmps53
    go_wp2
    go_ret
    exact ⟨_, rfl, (fun h => by cases h), rfl⟩
  go_enter Tryz.func53, Tryz.ntmps53
  go_wp2
  go_loop [3] (fun i => ∃ k : Nat, i = .int .i64 k ∧ k ≤ l.length ∧ ∀ j (_ : j < k) (hj : j < l.length), (l[j]'hj).1.size ≤ 400 ∧ (l[j]'hj).2.size ≤ 400) (fun i => l.length - (intOf i).toNat)
  case atStart => exact ⟨0, rfl, Nat.zero_le _, fun j hj => absurd hj (by omega)⟩
  case round =>
    obtain ⟨k, rfl, hk, hs⟩ := hrel
    have HS := Lib.hid hs; clear hs
    by_cases hlt : k < l.length
    case neg =>
      obtain rfl : k = l.length := by omega
      go_wp2
      go_ret
      exact ⟨_, rfl, fun _ => few_of rfl (by omega) HS.out, rfl⟩
    obtain ⟨b, off, hex, hb, c1, c2⟩ := HC.out k hlt
    subst hex
    have HG : Hid (∀ x, x = l[k]'hlt → x.1.size ≤ 400 ∧ x.2.size ≤ 400 → ∀ j (_ : j < k + 1) (hj : j < l.length), (l[j]'hj).1.size ≤ 400 ∧ (l[j]'hj).2.size ≤ 400) := Lib.hid (fun x hx hs j hj hjl => by
      by_cases e : j = k
      · subst e; rw [← hx]; exact hs
      · exact HS.out j (by omega) hjl)
    obtain ⟨x, hx⟩ : ∃ x, x = l[k]'hlt := ⟨_, rfl⟩
    rw [← hx] at c1 c2
    have HX := Lib.hid hx
    clear hx
    by_cases g1 : 400 < x.1.size
    · go_wp2
      go_ret
      exact ⟨_, rfl, (fun h => by cases h), rfl⟩
    by_cases g2 : 400 < x.2.size
    · go_wp2
      go_ret
      exact ⟨_, rfl, (fun h => by cases h), rfl⟩
    go_wp2
    go_round
    case rel => exact ⟨k + 1, by go_num, by omega, HG.out x HX.out ⟨by omega, by omega⟩⟩
    case measure => first | (simp [intOf]; done) | (simp [intOf]; omega)
set_option maxRecDepth 100000 in
set_option maxHeartbeats 1000000 in
theorem law21large (B : Nat) (v : Value) (t : List TrN) (w : World) (hv : TrIn B w v t) : Calls Tryz.prog 17 #[v] w (BoolP (FewT 500 t) w) := by
  obtain ⟨aa, cap, rfl⟩ := hv.form
  have HV := Lib.hid hv; clear hv
  by_cases h10 : 130 < t.length
  · go_enter Tryz.func17, Tryz.ntmps17
    go_wp2
    go_ret
    exact ⟨_, rfl, (fun h => by cases h), rfl⟩
  go_enter Tryz.func17, Tryz.ntmps17
  go_wp2
  go_loop [3] (fun i => ∃ k : Nat, i = .int .i64 k ∧ k ≤ t.length ∧ ∀ j (_ : j < k) (hj : j < t.length), Few 500 (t[j]'hj).ats ∧ (t[j]'hj).nm.size ≤ 500 ∧ (t[j]'hj).dat.size ≤ 500) (fun i => t.length - (intOf i).toNat)
  case atStart => exact ⟨0, rfl, Nat.zero_le _, fun j hj => absurd hj (by omega)⟩
  case round =>
    obtain ⟨k, rfl, hk, hs⟩ := hrel
    have HS := Lib.hid hs; clear hs
    by_cases hlt : k < t.length
    case neg =>
      obtain rfl : k = t.length := by omega
      go_wp2
      go_ret
      exact ⟨_, rfl, (fun _ => ⟨by omega, fun x hx => by
          obtain ⟨j, hj, rfl⟩ := List.getElem_of_mem hx
          exact HS.out j hj hj⟩), rfl⟩
    obtain ⟨b, off, va, hex, hb, hva, c0, c1, c2, c3, c4, c5, c6, c7⟩ := HV.out.tr k hlt
    cases hex
    have HVA := Lib.hid hva.attrs
    have HG : Hid (∀ x, x = t[k]'hlt → Few 500 x.ats ∧ x.nm.size ≤ 500 ∧ x.dat.size ≤ 500 → ∀ j (_ : j < k + 1) (hj : j < t.length), Few 500 (t[j]'hj).ats ∧ (t[j]'hj).nm.size ≤ 500 ∧ (t[j]'hj).dat.size ≤ 500) := Lib.hid (fun x hx hs j hj hjl => by
      by_cases e : j = k
      · subst e; rw [← hx]; exact hs
      · exact HS.out j (by omega) hjl)
    obtain ⟨x, hx⟩ : ∃ x, x = t[k]'hlt := ⟨_, rfl⟩
    rw [← hx] at c0 c1 c2 c4 c5 c6 c7 HVA
    have HX := Lib.hid hx
    have j1 : ((k : Nat) : Int) < (t.length : Int) := by omega
    have j0 : (0 : Int) ≤ (k : Int) := by omega
    clear hx hva
    have HL := Lib.hid (law21long _ x.ats w HVA.out)
    by_cases g1 : 500 < x.nm.size
    · go_wp2_with (go_at_call 53; refine HL.out.mono ?_; rintro e w1 ⟨r, rfl, _, rfl⟩)
      all_goals
        go_ret
        exact ⟨_, rfl, (fun h => by cases h), rfl⟩
    by_cases g2 : 500 < x.dat.size
    · go_wp2_with (go_at_call 53; refine HL.out.mono ?_; rintro e w1 ⟨r, rfl, _, rfl⟩)
      all_goals
        go_ret
        exact ⟨_, rfl, (fun h => by cases h), rfl⟩
    go_wp2_with (go_at_call 53; refine HL.out.mono ?_; rintro e w1 ⟨r, rfl, hr, rfl⟩; have HR := Lib.hid hr; clear hr)
    · go_ret
      exact ⟨_, rfl, (fun h => by cases h), rfl⟩
    · go_round
      case rel => exact ⟨k + 1, by go_num, by omega, HG.out x HX.out ⟨(HR.out (by first | assumption | exact Bool.eq_false_iff.2 (by assumption))).mono (by decide), by omega, by omega⟩⟩
      case measure => first | (simp [intOf]; done) | (simp [intOf]; omega)
set_option maxRecDepth 100000 in
theorem law21path (v : Value) (l : List ByteArray) (w : World) (hv : StrsAt w v l) : Calls Tryz.prog 37 #[v] w (BoolP (l.length ≤ 12 ∧ ∀ s ∈ l, s.size ≤ 500) w) := by
  obtain ⟨aa, cap, rfl, hcap, hc⟩ := hv
  have HC := Lib.hid hc; clear hc
  by_cases h10 : 12 < l.length
  · go_enter Tryz.func37, Tryz.ntmps37
    go_wp2
    go_ret
    exact ⟨_, rfl, (fun h => by cases h), rfl⟩
  go_enter Tryz.func37, Tryz.ntmps37
  go_wp2
  go_loop [3] (fun i => ∃ k : Nat, i = .int .i64 k ∧ k ≤ l.length ∧ ∀ j (_ : j < k) (hj : j < l.length), (l[j]'hj).size ≤ 500) (fun i => l.length - (intOf i).toNat)
  case atStart => exact ⟨0, rfl, Nat.zero_le _, fun j hj => absurd hj (by omega)⟩
  case round =>
    obtain ⟨k, rfl, hk, hs⟩ := hrel
    have HS := Lib.hid hs; clear hs
    by_cases hlt : k < l.length
    case neg =>
      obtain rfl : k = l.length := by omega
      go_wp2
      go_ret
      exact ⟨_, rfl, (fun _ => ⟨by omega, fun s hs => by
        obtain ⟨j, hj, rfl⟩ := List.getElem_of_mem hs
        exact HS.out j hj hj⟩), rfl⟩
    obtain ⟨b, off, hex, hb, c1⟩ := HC.out k hlt
    subst hex
    have HG : Hid (∀ x, x = l[k]'hlt → x.size ≤ 500 → ∀ j (_ : j < k + 1) (hj : j < l.length), (l[j]'hj).size ≤ 500) := Lib.hid (fun x hx hs j hj hjl => by
      by_cases e : j = k
      · subst e; rw [← hx]; exact hs
      · exact HS.out j (by omega) hjl)
    obtain ⟨x, hx⟩ : ∃ x, x = l[k]'hlt := ⟨_, rfl⟩
    rw [← hx] at c1
    have HX := Lib.hid hx
    have j1 : ((k : Nat) : Int) < (l.length : Int) := by omega
    have j0 : (0 : Int) ≤ (k : Int) := by omega
    clear hx
    by_cases g1 : 500 < x.size
    · go_wp2
      go_ret
      exact ⟨_, rfl, (fun h => by cases h), rfl⟩
    go_wp2
    go_round
    case rel => exact ⟨k + 1, by go_num, by omega, HG.out x HX.out (by omega)⟩
    case measure => first | (simp [intOf]; done) | (simp [intOf]; omega)
/-- The call returns a bool; false says something; what was there is as it was. -/
def BoolE (P : Prop) (w : World) (e : Ending) (w' : World) : Prop := ∃ r : Bool, e = .returned (.bool r) ∧ (r = false → P) ∧ Ext w w'
set_option maxRecDepth 100000 in
set_option maxHeartbeats 4000000 in
theorem law21far (B : Nat) (v : Value) (b : List BrN) (w : World) (hv : BrIn B w v b) (hB : B ≤ w.heap.size) (hz : ∀ x ∈ b, x.ats.length * 32 ≤ 140737488355328) : Calls Tryz.prog 11 #[v] w (BoolE (FewB 500 b) w) := by
  obtain ⟨aa, cap, rfl⟩ := hv.form
  have HV := Lib.hid hv; have HZ := Lib.hid hz
  clear hv hz
  by_cases h10 : 130 < b.length
  · go_enter Tryz.func11, Tryz.ntmps11
    go_wp2
    go_ret
    exact ⟨_, rfl, (fun h => by cases h), Below.refl _ _⟩
  go_enter Tryz.func11, Tryz.ntmps11
  go_wp2
  go_loop [3] (fun i => ∃ k : Nat, i = .int .i64 k ∧ k ≤ b.length ∧ ∀ j (_ : j < k) (hj : j < b.length), (b[j]'hj).red.length ≤ 12 ∧ ∀ s ∈ (b[j]'hj).red, s.size ≤ 500) (fun i => b.length - (intOf i).toNat)
  case atStart => exact ⟨0, rfl, Nat.zero_le _, fun j hj => absurd hj (by omega)⟩
  case round =>
    obtain ⟨k, rfl, hk, hs⟩ := hrel
    have HS := Lib.hid hs; clear hs
    by_cases hlt : k < b.length
    case neg =>
      obtain rfl : k = b.length := by omega
      go_wp2_with (first
        | (go_at_call 38; refine (refTreeX B _ _ b HV.out hB (by omega) HZ.out).mono ?_; rintro e w2 ⟨⟨a5, cap5, rfl, ho⟩, hb2⟩; have HO := Lib.hid ho; have HB2 := Lib.hid hb2; clear ho hb2)
        | (go_at_call 17; refine (law21large w.heap.size _ (b.map BrN.toTrN) _ (HO.out.in okT)).mono ?_; rintro e w3 ⟨r, rfl, hr, rfl⟩; have HR := Lib.hid hr; clear hr)
        | fail)
      go_ret
      refine ⟨_, rfl, fun h => ?_, HB2.out⟩
      have h3 := HR.out h
      refine ⟨by omega, fun x hx => ?_⟩
      obtain ⟨q1, q2, q3⟩ := h3.ok x.toTrN (List.mem_map.2 ⟨x, hx, rfl⟩)
      obtain ⟨j, hj, rfl⟩ := List.getElem_of_mem hx
      exact ⟨q1, q2, q3, HS.out j hj hj⟩
    obtain ⟨bb, off, va, vr, hex, hb, hva, hvr, c0, c1, c2, c3, c4, c5, c6, c7, c8, c9⟩ := HV.out.br k hlt
    cases hex
    have HVR := Lib.hid hvr.strs
    have HG : Hid (∀ x, x = b[k]'hlt → x.red.length ≤ 12 ∧ (∀ s ∈ x.red, s.size ≤ 500) → ∀ j (_ : j < k + 1) (hj : j < b.length), (b[j]'hj).red.length ≤ 12 ∧ ∀ s ∈ (b[j]'hj).red, s.size ≤ 500) := Lib.hid (fun x hx hs j hj hjl => by
      by_cases e : j = k
      · subst e; rw [← hx]; exact hs
      · exact HS.out j (by omega) hjl)
    obtain ⟨x, hx⟩ : ∃ x, x = b[k]'hlt := ⟨_, rfl⟩
    rw [← hx] at HVR
    have HX := Lib.hid hx
    have j1 : ((k : Nat) : Int) < (b.length : Int) := by omega
    have j0 : (0 : Int) ≤ (k : Int) := by omega
    clear hx hva hvr c0 c1 c2 c3 c4 c5 c6 c7 c8
    go_wp2_with (go_at_call 37; refine (law21path _ x.red w HVR.out).mono ?_; rintro e w1 ⟨r, rfl, hr, rfl⟩; have HR := Lib.hid hr; clear hr)
    · go_ret
      exact ⟨_, rfl, (fun h => by cases h), Below.refl _ _⟩
    · go_round
      case rel => exact ⟨k + 1, by go_num, by omega, HG.out x HX.out (HR.out (by first | assumption | exact Bool.eq_false_iff.2 (by assumption)))⟩
      case measure => first | (simp [intOf]; done) | (simp [intOf]; omega)
end Go.Proofs.YtiliglpolcpnbaaGreatDoor
