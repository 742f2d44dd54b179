/- overlay.zero, link, of, write. -/
/- overlay.read. -/
/- overlay.turn, book. -/
import Derived.Test.YtiliglpolcpnbaaGreatDoorQMrkP
import Derived.Test.YtiliglpolcpnbaaGreatDoorQParP
import Derived.Test.YtiliglpolcpnbaaGreatDoorQSetW
import Derived.Test.YtiliglpolcpnbaaGreatDoorQSrt
import Derived.Test.YtiliglpolcpnbaaGreatDoorQWlkR
import Derived.BigQuiet
namespace Go.Proofs.YtiliglpolcpnbaaGreatDoor
open Go.RowKit

theorem ovZero (x : TrN) (va : Value) (hva : ∃ a n c, va = .slice a n c) (w : World) :
    RetB Tryz.prog 45 #[trV x va] w (.bool (zeroB x)) := by
  unfold RetB
  obtain ⟨a3, n3, c3, rfl⟩ := hva
  unfold trV
  cases q1 : (x.kd == 4) with
  | false =>
    have HZ : Hid (zeroB x = false) := Lib.hid (by unfold zeroB; rw [q1]; rfl)
    go_enter Tryz.func45, Tryz.ntmps45
    go_wp2
    go_ret
    exact ⟨by rw [HZ.out]; rfl, ext_alloc _ _⟩
  | true =>
    cases q2 : (x.ma == 0) with
    | false =>
      have HZ : Hid (zeroB x = false) := Lib.hid (by unfold zeroB; rw [q1, q2]; rfl)
      go_enter Tryz.func45, Tryz.ntmps45
      go_wp2
      go_ret
      exact ⟨by rw [HZ.out]; rfl, ext_alloc _ _⟩
    | true =>
      have HZ : Hid (zeroB x = (x.mi == 0)) := Lib.hid (by unfold zeroB; rw [q1, q2]; rfl)
      go_enter Tryz.func45, Tryz.ntmps45
      go_wp2
      go_ret
      exact ⟨by rw [HZ.out]; rfl, ext_alloc _ _⟩
theorem ovLink (n : Int) (w : World) (hL : LaidO w) (h1 : n ≤ 1000000) : RetB Tryz.prog 88 #[.int .i64 n] w (.string (linkS n)) := by
  unfold RetB
  have HL := Lib.hid hL; clear hL
  by_cases h : n < 2
  · rw [link_one h]
    go_enter Tryz.func88, Tryz.ntmps88
    go_wp2
    go_ret
    exact ⟨rfl, Below.refl _ _⟩
  · have HN : Hid (linkS n = ⟨(Lib.itoa n).toArray⟩) := Lib.hid (if_neg h)
    rw [HN.out]
    go_enter Tryz.func88, Tryz.ntmps88
    go_wp2_with (go_at_call 126; refine (itoa n _ HL.out (by omega) h1).mono ?_; rintro e w1 ⟨rfl, hb⟩)
    go_ret
    exact ⟨rfl, hb⟩
abbrev mksV (o r n : ByteArray) : Value := .agg #[.string o, .string r, .string n]
theorem put3 {w w1 W2 : World} {b : Nat} {t : TypeId} {x0 x1 x2 y0 y1 y2 : Value} (hq : w1.heap[b]? = some (.cells #[x0, x1, x2] t (0, 0))) (hb : w.heap.size ≤ b) (he : Ext w w1) (hW : W2 = setL w1 b 0 [y0, y1, y2]) :
    W2.heap[b]? = some (.cells #[y0, y1, y2] t (0, 0)) ∧ Ext w W2 := by
  subst hW
  exact ⟨by rw [setL_blk _ _ _ _ hq]; rfl, setL_below hb _ _ _ he⟩
theorem put3a {w w1 W2 : World} {b : Nat} {t : TypeId} {x0 x1 x2 y0 y1 y2 : Value} {o : Obj} (hq : w1.heap[b]? = some (.cells #[x0, x1, x2] t (0, 0))) (hb : w.heap.size ≤ b) (he : Ext w w1) (hW : W2 = (setL w1 b 0 [y0, y1, y2]).alloc o) :
    W2.heap[b]? = some (.cells #[y0, y1, y2] t (0, 0)) ∧ Ext w W2 := by
  obtain ⟨h1, h2⟩ := put3 (y0 := y0) (y1 := y1) (y2 := y2) hq hb he rfl
  subst hW
  exact ⟨blk_alloc h1, h2.trans (ext_alloc _ _)⟩
set_option maxHeartbeats 2000000 in
theorem ovOf (o : Bool) (v : Value) (r : List ByteArray) (n : Int) (w : World) (hL : LaidO w) (hr : StrsAt w v r) (h1 : n ≤ 1000000) (_hl : r.length ≤ 1000000) :
    Calls Tryz.prog 47 #[.bool o, v, .int .i64 n] w fun e w' => e = .returned (mksV (optS o) (redS r) (linkS n)) ∧ Ext w w' := by
  have HL := Lib.hid hL; have HR := Lib.hid hr
  obtain ⟨a, cap, rfl, hrc, hrx⟩ := hr
  clear hL hrc hrx
  unfold mksV
  by_cases h : 0 < r.length
  · have h' := lenP h
    have HRS : Hid (redS r = prS r) := Lib.hid (if_pos h)
    rw [HRS.out]
    cases o
    all_goals
      go_enter Tryz.func47, Tryz.ntmps47
      go_wp2_with (first
        | (go_at_call 88; refine (ovLink n _ (HL.out.ext (ext_alloc _ _)) h1).mono ?_; rintro e w1 ⟨rfl, hb⟩; have HB := Lib.hid ((ext_alloc _ _).trans hb); have Q0 := Lib.hid (blk_ext hb (blk_new w (.cells #[.string ⟨#[]⟩, .string ⟨#[]⟩, .string ⟨#[]⟩] 75 (0, 0)))); have z0 := blk_lt Q0.out; clear hb)
        | (go_at_call 82; refine (pathsPrint _ _ r (HR.out.ext (HB.out.trans (ext_alloc _ _)))).mono ?_; rintro e w2 ⟨rfl, hb2⟩; have HB2 := Lib.hid (HB.out.trans ((ext_alloc _ _).trans hb2)); have Q2 := Lib.hid (blk_ext ((ext_alloc _ _).trans hb2) Q0.out); have QM := Lib.hid (blk_ext hb2 (blk_new w1 _)); have y0 := blk_cell Q2.out 0; have y1 := blk_cell Q2.out 1; have y2 := blk_cell Q2.out 2; have f0 := fun j => blk_thaw Q2.out j; have z2 := blk_lt Q2.out; have m0 := blk_cell QM.out 0; have m1 := blk_cell QM.out 1; have m2 := blk_cell QM.out 2; have fm := fun j => blk_thaw QM.out j; have zm := blk_lt QM.out; clear hb2)
        | fail)
      refine name_world (P := fun W => bodyPost _ _ _ _ _ W) _ ?_
      intro W2 hW2
      obtain ⟨hq, hx⟩ := put3 (w := w) (blk_setCell_ne Q2.out ⟨w1.heap.size, 1, none⟩ (.string (prS r)) (by show w.heap.size ≠ w1.heap.size; omega)) (Nat.le_refl _) (Below.setCell (p := ⟨w1.heap.size, 1, none⟩) HB2.out (by show w.heap.size ≤ w1.heap.size; omega) _) hW2
      refine bodyPost_ret (v := .agg #[_, .string (prS r), .string (linkS n)]) (by simp [results, Tryz.f47, go_sem, blk_cell hq 0, blk_cell hq 1, blk_cell hq 2]; rfl) rfl ?_
      exact ⟨rfl, hx⟩
  · have h' := lenZ h
    have HRS : Hid (redS r = ⟨#[]⟩) := Lib.hid (if_neg h)
    rw [HRS.out]
    cases o
    all_goals
      go_enter Tryz.func47, Tryz.ntmps47
      go_wp2_with (first
        | (go_at_call 88; refine (ovLink n _ (HL.out.ext (ext_alloc _ _)) h1).mono ?_; rintro e w1 ⟨rfl, hb⟩; have HB := Lib.hid ((ext_alloc _ _).trans hb); have Q0 := Lib.hid (blk_ext hb (blk_new w (.cells #[.string ⟨#[]⟩, .string ⟨#[]⟩, .string ⟨#[]⟩] 75 (0, 0)))); have z0 := blk_lt Q0.out; have y0 := blk_cell Q0.out 0; have y1 := blk_cell Q0.out 1; have y2 := blk_cell Q0.out 2; have f0 := fun j => blk_thaw Q0.out j; clear hb)
        | fail)
      refine name_world (P := fun W => bodyPost _ _ _ _ _ W) _ ?_
      intro W2 hW2
      obtain ⟨hq, hx⟩ := put3a (w := w) Q0.out (Nat.le_refl _) HB.out hW2
      refine bodyPost_ret (v := .agg #[_, .string ⟨#[]⟩, .string (linkS n)]) (by simp [results, Tryz.f47, go_sem, blk_cell hq 0, blk_cell hq 1, blk_cell hq 2]; rfl) rfl ?_
      exact ⟨rfl, hx⟩
end Go.Proofs.YtiliglpolcpnbaaGreatDoor

namespace Go.Proofs.YtiliglpolcpnbaaGreatDoor
open Go.RowKit

/-- What 'read' leaves. -/
structure ReadP (w : World) (l : List Attr) (e : Ending) (w' : World) : Prop where
  ex : ∃ v' b n, e = .returned (.tuple #[v', mksV (valM (ptsO 1 l) opqW) (valM (ptsO 1 l) reW) (valM (ptsO 1 l) nlW), .map (some b), .int .i64 (ptsE 1 l)]) ∧ AttT w' v' (ptsP 1 l) ∧ MapAt kS w' b n (thM (ptsO 1 l)) ∧ w.heap.size ≤ b
  ext : Ext w w'
/-- The marks that are read so far. -/
def mkA3 (l : List Attr) : Array Value := #[.string (valM l opqW), .string (valM l reW), .string (valM l nlW)]
theorem mkA3_snoc {l : List Attr} {a : Attr} (h : ∀ y ∈ l, L y.1 ≠ L a.1) :
    (a.1 = opqW → mkA3 (l ++ [a]) = (mkA3 l).setIfInBounds 0 (.string a.2)) ∧ (a.1 = reW → mkA3 (l ++ [a]) = (mkA3 l).setIfInBounds 1 (.string a.2)) ∧ (a.1 = nlW → mkA3 (l ++ [a]) = (mkA3 l).setIfInBounds 2 (.string a.2)) := by
  unfold mkA3
  rw [valM_snoc h, valM_snoc h, valM_snoc h]
  refine ⟨fun e => ?_, fun e => ?_, fun e => ?_⟩
  · rw [e, if_pos rfl, if_neg ne_or, if_neg ne_on]; rfl
  · rw [e, if_neg ne_or.symm, if_pos rfl, if_neg ne_rn]; rfl
  · rw [e, if_neg ne_on.symm, if_neg ne_rn.symm, if_pos rfl]; rfl
theorem own_take {l : List Attr} {k : Nat} (hk : k < l.length) : l.take (k + 1) = l.take k ++ [l[k]'hk] := List.take_succ_eq_append_getElem hk
theorem own_len (l : List Attr) : (ptsO 1 l).length ≤ 6 := by
  by_cases h : ptsE 1 l = 0
  · obtain ⟨h1, _, _, h4⟩ := ptsE_zero h
    obtain ⟨_, _, hc⟩ := listE_ok h1
    have := (chk_parts hc).1
    rw [h4, (srtA_perm _).length_eq]
    exact Nat.le_trans (owR_len 1 l) this
  · have : ptsO 1 l = [] := by
      unfold ptsO
      by_cases hc : listE 1 l = 0 ∧ ptB 1 l = true
      · exfalso
        apply h
        unfold ptsE
        rw [if_pos hc.1, if_pos hc.2]
      · rw [if_neg hc]
    rw [this]; exact Nat.zero_le _
theorem attT_keep {w w' : World} {v : Value} {l : List Attr} {g : Nat} {c : Array Value} {t : TypeId} {f : Nat × Nat} (h : AttT w v l) (hk : KeepBut (some g) w w') (hs : w.heap.size ≤ w'.heap.size) (hg : w.heap[g]? = some (.cells c t f)) (ht : t ≠ 50) : AttT w' v l := by
  obtain ⟨⟨a, cap, rfl, hcap, hc⟩, h2⟩ := h
  have hne : ∀ b, (Value.slice a l.length cap).ownBlock = some b → b ≠ g := fun b hb e => by
    obtain ⟨c', f', h3⟩ := h2 b hb
    rw [e, hg] at h3
    cases h3; exact ht rfl
  refine ⟨⟨a, cap, rfl, hcap, fun k hk' => ?_⟩, fun b hb => ?_⟩
  · obtain ⟨b, off, rfl, hbs, c1, c2⟩ := hc k hk'
    have hn := hne b rfl
    have hq : some g ≠ some b := fun e => hn (Option.some.inj e).symm
    exact ⟨b, off, rfl, Nat.lt_of_lt_of_le hbs hs, by rw [cell_keep hk hbs hq]; exact c1, by rw [cell_keep hk hbs hq]; exact c2⟩
  · obtain ⟨c', f', h3⟩ := h2 b hb
    exact ⟨c', f', hk _ _ h3 (fun e => hne b hb (Option.some.inj e).symm)⟩
/-- The loop's relation in 'read', and one round of it. -/
structure RdSt (w w1 : World) (own : List Attr) (k : Nat) (wi : World) : Prop where
  marks : wi.heap[w.heap.size]? = some (.cells (mkA3 (own.take k)) 75 (0, 0))
  map : ∃ n, MapAt kS wi w1.heap.size n (thM (own.take k))
  keep : KeepBut (some w.heap.size) w1 wi
  size : w1.heap.size < wi.heap.size
  ext : Ext w wi
theorem RdSt.step {w w1 wi w4 : World} {own : List Attr} {k n4 j : Nat} {x : Attr} {o : Obj} (h : RdSt w w1 own k wi) (hw : w.heap.size < w1.heap.size) (ht : own.take (k + 1) = own.take k ++ [x]) (hj : mkA3 (own.take k ++ [x]) = (mkA3 (own.take k)).setIfInBounds j (.string x.2))
    (hm : MapAt kS w4 w1.heap.size n4 (upd (thM (own.take k)) x.1 (.bool true))) (hg : (wi.alloc o).grownBy w4 (some w1.heap.size)) : RdSt w w1 own (k + 1) (w4.setCell ⟨w.heap.size, j, none⟩ (.string x.2)) := by
  have hb := blk_grown hg (blk_alloc h.marks) (fun e => by injection e with e; omega)
  refine ⟨?_, ⟨n4, ?_⟩, fun b p hp hne => ?_, ?_, ?_⟩
  · rw [ht, hj]; exact blk_setCell hb _
  · rw [ht, thM_snoc]; exact hm.setCell _ _
  · have hl := blk_lt hp
    exact blk_setCell_ne (blk_grown hg (blk_alloc (h.keep b p hp hne)) (fun e => by injection e with e; omega)) _ _ (fun e => hne (by rw [e]))
  · have := hg.size
    have := h.size
    simp [World.setCell] at *; omega
  · exact Below.setCell (p := ⟨w.heap.size, j, none⟩) (Below.grown (h.ext.trans (ext_alloc _ _)) hg (by have := h.ext.size; simp; omega) (fun g e => by injection e with e; omega)) (Nat.le_refl _) _
theorem RdSt.at4 {w w1 wi w4 : World} {own : List Attr} {k : Nat} {o : Obj} (h : RdSt w w1 own k wi) (hw : w.heap.size < w1.heap.size) (hg : (wi.alloc o).grownBy w4 (some w1.heap.size)) :
    w4.heap[w.heap.size]? = some (.cells (mkA3 (own.take k)) 75 (0, 0)) ∧ w4.heap[wi.heap.size]? = some o :=
  ⟨blk_grown hg (blk_alloc h.marks) (fun e => by injection e with e; omega), blk_grown hg (blk_new wi o) (fun e => by have := h.size; injection e with e; omega)⟩
theorem mkA3_cells (l : List Attr) : (mkA3 l)[0]? = some (.string (valM l opqW)) ∧ (mkA3 l)[1]? = some (.string (valM l reW)) ∧ (mkA3 l)[2]? = some (.string (valM l nlW)) := ⟨rfl, rfl, rfl⟩
set_option maxRecDepth 100000 in
set_option maxHeartbeats 8000000 in
theorem ovRead (v : Value) (l : List Attr) (w : World) (hL : LaidO w) (hv : AttrsAt w v l) (hm : Small l) :
    Calls Tryz.prog 95 #[v] w (ReadP w l) := by
  have HL := Lib.hid hL; have HV := Lib.hid hv; have HM := Lib.hid hm
  clear hL hv hm
  have hmm := @run_makeMap Tryz.prog
  go_enter Tryz.func95, Tryz.ntmps95
  go_wp2_with (go_at_call 133; refine (escPartsT 1 _ l _ (HL.out.ext (ext_alloc _ _)).laid (HV.out.ext (ext_alloc _ _)) HM.out).mono ?_; rintro e w1 ⟨⟨v1, v2, rfl, ho1, ho2⟩, hb⟩; have HO1 := Lib.hid ho1; have HO2 := Lib.hid ho2; obtain ⟨a2, c2, rfl, -, -⟩ := ho2.1; have HB := Lib.hid ((ext_alloc _ _).trans hb); have QB := Lib.hid (blk_ext hb (blk_new w (.cells #[.string ⟨#[]⟩, .string ⟨#[]⟩, .string ⟨#[]⟩] 75 (0, 0)))); clear ho1 ho2 hb)
  have HD := Lib.hid (dist_own l)
  have HOW := Lib.hid (fun a (ha : a ∈ ptsO 1 l) => pts_own1 ha)
  have HLE : Hid ((ptsO 1 l).length ≤ 6) := Lib.hid (own_len l)
  have HRP : Hid (∀ e w', (∃ v' b n, e = .returned (.tuple #[v', mksV (valM (ptsO 1 l) opqW) (valM (ptsO 1 l) reW) (valM (ptsO 1 l) nlW), .map (some b), .int .i64 (ptsE 1 l)]) ∧ AttT w' v' (ptsP 1 l) ∧ MapAt kS w' b n (thM (ptsO 1 l)) ∧ w.heap.size ≤ b) → Ext w w' → ReadP w l e w') := Lib.hid (fun e w' h1 h2 => ⟨h1, h2⟩)
  generalize hown : ptsO 1 l = own at HO2 HD HOW HLE HRP ⊢
  clear hown
  have hle := HLE.out
  have HLT : Hid (w.heap.size < w1.heap.size) := Lib.hid (by have := HB.out.size; have h2 := blk_lt QB.out; omega)
  go_loopw [18] (fun i w' => ∃ (wi : World) (k : Nat), wi = w' ∧ k ≤ own.length ∧ i = .int .i64 k ∧ RdSt w w1 own k wi) (fun i _ => own.length - (intOf i).toNat)
  case atStart => exact ⟨_, 0, rfl, Nat.zero_le _, rfl, ⟨blk_alloc QB.out, ⟨0, by rw [List.take_zero, thM_nil]; exact mapAt_made _ _⟩, fun b o hb _ => blk_alloc hb, by simp, HB.out.trans (ext_alloc _ _)⟩⟩
  case round =>
    obtain ⟨wi, k, rfl, hk, rfl, hst⟩ := hrel
    have HST := Lib.hid hst
    obtain ⟨n, hm⟩ := hst.map
    have HM := Lib.hid hm
    have HA2 := Lib.hid (attT_keep HO2.out hst.keep (Nat.le_of_lt hst.size) QB.out (by decide))
    clear hst hm
    by_cases hlt : k < own.length
    case neg =>
      obtain rfl : k = own.length := by omega
      have HA1 := Lib.hid (attT_keep HO1.out HST.out.keep (Nat.le_of_lt HST.out.size) QB.out (by decide))
      have HQ := Lib.hid HST.out.marks
      rw [List.take_length] at HQ HM
      obtain ⟨m0, m1, m2⟩ := mkA3_cells own
      have y0 := (blk_cell HQ.out 0).trans m0; have y1 := (blk_cell HQ.out 1).trans m1; have y2 := (blk_cell HQ.out 2).trans m2; have fz := fun j => blk_thaw HQ.out j; have z := blk_lt HQ.out
      clear m0 m1 m2
      go_wp2
      go_region
      all_goals
        go_wp2
        refine name_world (P := fun W => bodyPost _ _ _ _ _ W) _ ?_
        intro W2 hW2
        have hW3 : W2 = (setL wi w.heap.size 0 [.string (valM own opqW), .string (valM own reW), .string (valM own nlW)]).drew := hW2
        obtain ⟨hq0, hx0⟩ := put3 (w := w) (W2 := setL wi w.heap.size 0 [.string (valM own opqW), .string (valM own reW), .string (valM own nlW)]) HQ.out (Nat.le_refl _) HST.out.ext rfl
        have hkp : KeepBut (some w.heap.size) wi W2 := by rw [hW3]; exact fun b o hb hne => blk_ext (ext_drew _) (setL_keep _ wi 0 b o hb hne)
        have hx : Ext w W2 := by rw [hW3]; exact hx0.trans (ext_drew _)
        have hq := blk_ext (ext_drew _) hq0
        rw [← hW3] at hq
        have hsz : wi.heap.size ≤ W2.heap.size := by rw [hW3]; exact Nat.le_of_eq (setL_size [.string (valM own opqW), .string (valM own reW), .string (valM own nlW)] wi 0).symm
        refine bodyPost_ret (v := .tuple #[v1, mksV (valM own opqW) (valM own reW) (valM own nlW), .map (some w1.heap.size), .int .i64 (ptsE 1 l)]) (by simp [results, Tryz.f95, go_sem, blk_cell hq 0, blk_cell hq 1, blk_cell hq 2]) rfl ?_
        exact HRP.out _ _ ⟨v1, w1.heap.size, n, rfl, attT_keep HA1.out hkp hsz HQ.out (by decide), HM.out.keep hkp (fun e => by have := HLT.out; injection e with e; omega), Nat.le_of_lt HLT.out⟩ hx
    obtain ⟨a', cap', e', _, hc⟩ := HA2.out.1
    cases e'
    obtain ⟨b, off, rfl, hbs, c0, c1⟩ := hc k hlt
    have HDT := Lib.hid (dist_take HD.out k hlt)
    have HOK := HOW.out _ (List.getElem_mem hlt)
    have HTK := Lib.hid (own_take hlt)
    generalize own[k]'hlt = x at c0 c1 HDT HOK HTK
    obtain ⟨n1, n2⟩ := x
    have HS := Lib.hid (mkA3_snoc HDT.out)
    have j1 : ((k : Nat) : Int) < (own.length : Int) := by omega
    have j0 : (0 : Int) ≤ (k : Int) := by omega
    clear hc
    have HOK : n1 = opqW ∨ n1 = reW ∨ n1 = nlW := HOK
    rcases HOK with rfl | rfl | rfl
    · have g0 : (opqW.toList == ([111, 112, 97, 113, 117, 101] : List UInt8)) = true := by rw [toList_L]; decide
      go_wp2_with (first
        | (at_mapUpdate; refine wl_store rfl (.tmp 22) (.tmp 24) (.const (.bool true)) 115 rfl _ _ keyString mapT_met rfl (by exact HM.out.ext (ext_alloc _ _)) opqW (.bool true) rfl rfl ?_; intro w4 hm4 hg4; have HM4 := Lib.hid hm4; have HG4 := Lib.hid hg4; obtain ⟨q4, qx⟩ := HST.out.at4 HLT.out hg4; have QM := Lib.hid q4; have QX := Lib.hid qx; obtain ⟨m0, m1, m2⟩ := mkA3_cells (own.take k); have y0 := (blk_cell QM.out 0).trans m0; have y1 := (blk_cell QM.out 1).trans m1; have y2 := (blk_cell QM.out 2).trans m2; have fz := fun j => blk_thaw QM.out j; have zm := blk_lt QM.out; have x0 := blk_cell QX.out 0; have x1 := blk_cell QX.out 1; clear hm4 hg4 q4 qx m0 m1 m2)
        | fail)
      go_roundw
      case rel => exact ⟨_, k + 1, rfl, by omega, by go_num, HST.out.step HLT.out HTK.out (HS.out.1 rfl) HM4.out HG4.out⟩
      case measure => first | (simp [intOf]; done) | (simp [intOf]; omega)
    · have g0 : (reW.toList == ([111, 112, 97, 113, 117, 101] : List UInt8)) = false := by rw [toList_L]; decide
      have g1 : (reW.toList == ([114, 101, 100, 105, 114, 101, 99, 116] : List UInt8)) = true := by rw [toList_L]; decide
      go_wp2_with (first
        | (at_mapUpdate; refine wl_store rfl (.tmp 22) (.tmp 24) (.const (.bool true)) 115 rfl _ _ keyString mapT_met rfl (by exact HM.out.ext (ext_alloc _ _)) reW (.bool true) rfl rfl ?_; intro w4 hm4 hg4; have HM4 := Lib.hid hm4; have HG4 := Lib.hid hg4; obtain ⟨q4, qx⟩ := HST.out.at4 HLT.out hg4; have QM := Lib.hid q4; have QX := Lib.hid qx; obtain ⟨m0, m1, m2⟩ := mkA3_cells (own.take k); have y0 := (blk_cell QM.out 0).trans m0; have y1 := (blk_cell QM.out 1).trans m1; have y2 := (blk_cell QM.out 2).trans m2; have fz := fun j => blk_thaw QM.out j; have zm := blk_lt QM.out; have x0 := blk_cell QX.out 0; have x1 := blk_cell QX.out 1; clear hm4 hg4 q4 qx m0 m1 m2)
        | fail)
      go_roundw
      case rel => exact ⟨_, k + 1, rfl, by omega, by go_num, HST.out.step HLT.out HTK.out (HS.out.2.1 rfl) HM4.out HG4.out⟩
      case measure => first | (simp [intOf]; done) | (simp [intOf]; omega)
    · have g0 : (nlW.toList == ([111, 112, 97, 113, 117, 101] : List UInt8)) = false := by rw [toList_L]; decide
      have g1 : (nlW.toList == ([114, 101, 100, 105, 114, 101, 99, 116] : List UInt8)) = false := by rw [toList_L]; decide
      have g2 : (nlW.toList == ([110, 108, 105, 110, 107] : List UInt8)) = true := by rw [toList_L]; decide
      go_wp2_with (first
        | (at_mapUpdate; refine wl_store rfl (.tmp 22) (.tmp 24) (.const (.bool true)) 115 rfl _ _ keyString mapT_met rfl (by exact HM.out.ext (ext_alloc _ _)) nlW (.bool true) rfl rfl ?_; intro w4 hm4 hg4; have HM4 := Lib.hid hm4; have HG4 := Lib.hid hg4; obtain ⟨q4, qx⟩ := HST.out.at4 HLT.out hg4; have QM := Lib.hid q4; have QX := Lib.hid qx; obtain ⟨m0, m1, m2⟩ := mkA3_cells (own.take k); have y0 := (blk_cell QM.out 0).trans m0; have y1 := (blk_cell QM.out 1).trans m1; have y2 := (blk_cell QM.out 2).trans m2; have fz := fun j => blk_thaw QM.out j; have zm := blk_lt QM.out; have x0 := blk_cell QX.out 0; have x1 := blk_cell QX.out 1; clear hm4 hg4 q4 qx m0 m1 m2)
        | fail)
      go_roundw
      case rel => exact ⟨_, k + 1, rfl, by omega, by go_num, HST.out.step HLT.out HTK.out (HS.out.2.2 rfl) HM4.out HG4.out⟩
      case measure => first | (simp [intOf]; done) | (simp [intOf]; omega)
end Go.Proofs.YtiliglpolcpnbaaGreatDoor

namespace Go.Proofs.YtiliglpolcpnbaaGreatDoor
open Go.RowKit

theorem thM_lookup {w : World} {b n : Nat} {own : List Attr} (h : MapAt kS w b n (thM own)) (k : ByteArray) : (Instr.lookup 115 (.map (some b)) (.string k) false).run Tryz.prog w = .ok (.bool (isM own k)) w := by
  have := h.look keyString mapT_met (zeroBool _) k false
  rw [if_neg Bool.false_ne_true, thM_look] at this
  exact this
theorem thM_lookO {w : World} {b n : Nat} {own : List Attr} (h : MapAt kS w b n (thM own)) : (Instr.lookup 115 (.map (some b)) (.string ⟨#[111, 112, 97, 113, 117, 101]⟩) false).run Tryz.prog w = .ok (.bool (isM own opqW)) w := thM_lookup h opqW
theorem thM_lookR {w : World} {b n : Nat} {own : List Attr} (h : MapAt kS w b n (thM own)) : (Instr.lookup 115 (.map (some b)) (.string ⟨#[114, 101, 100, 105, 114, 101, 99, 116]⟩) false).run Tryz.prog w = .ok (.bool (isM own reW)) w := thM_lookup h reW
theorem thM_lookN {w : World} {b n : Nat} {own : List Attr} (h : MapAt kS w b n (thM own)) : (Instr.lookup 115 (.map (some b)) (.string ⟨#[110, 108, 105, 110, 107]⟩) false).run Tryz.prog w = .ok (.bool (isM own nlW)) w := thM_lookup h nlW
/-- What 'turn' leaves. -/
def TurnP (w : World) (own : List Attr) (e : Ending) (w' : World) : Prop := (∃ a cap, e = .returned (.tuple #[.bool (turnO own), .slice a (turnR own).length cap, .int .i64 (turnE own)]) ∧ StrIn 0 w' (.slice a (turnR own).length cap) (turnR own)) ∧ Ext w w'
set_option maxRecDepth 100000 in
set_option maxHeartbeats 4000000 in
theorem ovTurn (own : List Attr) (b n : Nat) (w : World) (hL : LaidO w) (hm : MapAt kS w b n (thM own)) (hz : (valM own reW).size ≤ 1000000) :
    Calls Tryz.prog 96 #[mksV (valM own opqW) (valM own reW) (valM own nlW), .map (some b)] w (TurnP w own) := by
  have HL := Lib.hid hL; have HM := Lib.hid (hm.ext (ext_alloc w (.cells #[.string (valM own opqW), .string (valM own reW), .string (valM own nlW)] 75)))
  have hk1 := thM_lookO HM.out
  have hk2 := thM_lookR HM.out
  have HZ := Lib.hid hz
  clear hL hm hz
  unfold mksV
  by_cases hq : isM own opqW = true ∧ valM own opqW ≠ yW
  · have HR := Lib.hid (turn_of (turn_opq hq.1 hq.2))
    have q1 : ((valM own opqW).toList == ([121] : List UInt8)) = false := beq_eq_false_iff_ne.2 (fun e => hq.2 (L_inj (by rw [← toList_L, e]; rfl)))
    rw [hq.1] at hk1
    clear hq
    go_enter Tryz.func96, Tryz.ntmps96
    go_wp2
    go_ret3
    exact ⟨⟨none, 0, by rw [HR.out.1, HR.out.2.1, HR.out.2.2]; rfl, by rw [HR.out.2.1]; exact strIn_nil _ _ _⟩, ext_alloc _ _⟩
  cases hr : isM own reW with
  | false =>
    have HR := Lib.hid (turn_of (turn_no hq hr))
    rw [hr] at hk2
    cases ho : isM own opqW with
    | false =>
      rw [ho] at hk1 HR
      clear hq hr ho
      go_enter Tryz.func96, Tryz.ntmps96
      go_wp2
      go_ret3
      exact ⟨⟨none, 0, by rw [HR.out.1, HR.out.2.1, HR.out.2.2]; rfl, by rw [HR.out.2.1]; exact strIn_nil _ _ _⟩, ext_alloc _ _⟩
    | true =>
      have q1 : ((valM own opqW).toList == ([121] : List UInt8)) = true := by rw [Decidable.not_not.1 (fun e => hq ⟨ho, e⟩), toList_L]; rfl
      rw [ho] at hk1 HR
      clear hq hr ho
      go_enter Tryz.func96, Tryz.ntmps96
      go_wp2
      go_ret3
      exact ⟨⟨none, 0, by rw [HR.out.1, HR.out.2.1, HR.out.2.2]; rfl, by rw [HR.out.2.1]; exact strIn_nil _ _ _⟩, ext_alloc _ _⟩
  | true =>
    rw [hr] at hk2
    by_cases hb : parE (valM own reW) ≠ 0 ∨ parL (valM own reW) = []
    · have HR := Lib.hid (turn_of (turn_bad hq hr hb))
      have HBD := Lib.hid hb
      cases ho : isM own opqW with
      | false =>
        rw [ho] at hk1
        by_cases hpe : parE (valM own reW) = 0
        · have HLZ : Hid (parL (valM own reW) = []) := Lib.hid (HBD.out.resolve_left (fun e => e hpe))
          have HPE := Lib.hid hpe
          clear hq hr ho hb hpe
          go_enter Tryz.func96, Tryz.ntmps96
          go_wp2_with (go_at_call 134; refine (pathsParse (valM own reW) _ (HL.out.ext (ext_alloc _ _)) HZ.out).mono ?_; rw [HLZ.out, HPE.out]; rintro e w1 ⟨⟨a1, c1, rfl, -⟩, hb1⟩; have HB := Lib.hid ((ext_alloc _ _).trans hb1); clear hb1)
          go_ret3
          exact ⟨⟨none, 0, by rw [HR.out.1, HR.out.2.1, HR.out.2.2]; rfl, by rw [HR.out.2.1]; exact strIn_nil _ _ _⟩, HB.out⟩
        · have q3 : (parE (valM own reW) != 0) = true := bne_iff_ne.2 hpe
          clear hq hr ho hb hpe
          go_enter Tryz.func96, Tryz.ntmps96
          go_wp2_with (go_at_call 134; refine (pathsParse (valM own reW) _ (HL.out.ext (ext_alloc _ _)) HZ.out).mono ?_; rintro e w1 ⟨⟨a1, c1, rfl, -⟩, hb1⟩; have HB := Lib.hid ((ext_alloc _ _).trans hb1); clear hb1)
          go_ret3
          exact ⟨⟨none, 0, by rw [HR.out.1, HR.out.2.1, HR.out.2.2]; rfl, by rw [HR.out.2.1]; exact strIn_nil _ _ _⟩, HB.out⟩
      | true =>
        have q1 : ((valM own opqW).toList == ([121] : List UInt8)) = true := by rw [Decidable.not_not.1 (fun e => hq ⟨ho, e⟩), toList_L]; rfl
        rw [ho] at hk1
        by_cases hpe : parE (valM own reW) = 0
        · have HLZ : Hid (parL (valM own reW) = []) := Lib.hid (HBD.out.resolve_left (fun e => e hpe))
          have HPE := Lib.hid hpe
          clear hq hr ho hb hpe
          go_enter Tryz.func96, Tryz.ntmps96
          go_wp2_with (go_at_call 134; refine (pathsParse (valM own reW) _ (HL.out.ext (ext_alloc _ _)) HZ.out).mono ?_; rw [HLZ.out, HPE.out]; rintro e w1 ⟨⟨a1, c1, rfl, -⟩, hb1⟩; have HB := Lib.hid ((ext_alloc _ _).trans hb1); clear hb1)
          go_ret3
          exact ⟨⟨none, 0, by rw [HR.out.1, HR.out.2.1, HR.out.2.2]; rfl, by rw [HR.out.2.1]; exact strIn_nil _ _ _⟩, HB.out⟩
        · have q3 : (parE (valM own reW) != 0) = true := bne_iff_ne.2 hpe
          clear hq hr ho hb hpe
          go_enter Tryz.func96, Tryz.ntmps96
          go_wp2_with (go_at_call 134; refine (pathsParse (valM own reW) _ (HL.out.ext (ext_alloc _ _)) HZ.out).mono ?_; rintro e w1 ⟨⟨a1, c1, rfl, -⟩, hb1⟩; have HB := Lib.hid ((ext_alloc _ _).trans hb1); clear hb1)
          go_ret3
          exact ⟨⟨none, 0, by rw [HR.out.1, HR.out.2.1, HR.out.2.2]; rfl, by rw [HR.out.2.1]; exact strIn_nil _ _ _⟩, HB.out⟩
    · have HR := Lib.hid (turn_of (turn_led hq hr hb))
      have HPE : Hid (parE (valM own reW) = 0) := Lib.hid (Decidable.not_not.1 fun e => hb (.inl e))
      have hln : 0 < (parL (valM own reW)).length := by
        cases e : parL (valM own reW) with
        | nil => exact absurd (.inr e) hb
        | cons _ _ => simp
      have q4 : (((parL (valM own reW)).length : Int) == 0) = false := beq_eq_false_iff_ne.2 (by omega)
      cases ho : isM own opqW with
      | false =>
        have HOT := Lib.hid ho
        rw [ho] at hk1 HR
        clear hq hr ho hb
        go_enter Tryz.func96, Tryz.ntmps96
        go_wp2_with (go_at_call 134; refine (pathsParse (valM own reW) _ (HL.out.ext (ext_alloc _ _)) HZ.out).mono ?_; rw [HPE.out]; rintro e w1 ⟨⟨a1, c1, rfl, ho1⟩, hb1⟩; have HO := Lib.hid ho1; have HB := Lib.hid ((ext_alloc _ _).trans hb1); have hk3 := thM_lookO (HM.out.ext hb1); rw [HOT.out] at hk3; clear hb1 ho1)
        go_ret3
        exact ⟨⟨a1, c1, by rw [HR.out.1, HR.out.2.1, HR.out.2.2]; rfl, by rw [HR.out.2.1]; exact HO.out⟩, HB.out⟩
      | true =>
        have q1 : ((valM own opqW).toList == ([121] : List UInt8)) = true := by rw [Decidable.not_not.1 (fun e => hq ⟨ho, e⟩), toList_L]; rfl
        have HOT := Lib.hid ho
        rw [ho] at hk1 HR
        clear hq hr ho hb
        go_enter Tryz.func96, Tryz.ntmps96
        go_wp2_with (go_at_call 134; refine (pathsParse (valM own reW) _ (HL.out.ext (ext_alloc _ _)) HZ.out).mono ?_; rw [HPE.out]; rintro e w1 ⟨⟨a1, c1, rfl, ho1⟩, hb1⟩; have HO := Lib.hid ho1; have HB := Lib.hid ((ext_alloc _ _).trans hb1); have hk3 := thM_lookO (HM.out.ext hb1); rw [HOT.out] at hk3; clear hb1 ho1)
        go_ret3
        exact ⟨⟨a1, c1, by rw [HR.out.1, HR.out.2.1, HR.out.2.2]; rfl, by rw [HR.out.2.1]; exact HO.out⟩, HB.out⟩
end Go.Proofs.YtiliglpolcpnbaaGreatDoor
