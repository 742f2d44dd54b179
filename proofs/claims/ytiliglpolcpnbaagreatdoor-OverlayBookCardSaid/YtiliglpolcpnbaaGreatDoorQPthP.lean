/- Plain law of paths.Print: the text of a path, and that two right paths of one text are one path. -/
/- paths.Print. -/
/- 'for x := range seq' where a loop variable is boxed: the law of Rng, the assignment laying blocks. -/
/- branch.Check: what its map of redirects says. -/
/- limewashref03.Name, Check, of strings as long as Go lets them be. -/
import Derived.Test.YtiliglpolcpnbaaGreatDoorQWlkB
import Derived.Lib.Join
import Derived.Test.YtiliglpolcpnbaaGreatDoorShelj
import Derived.Test.YtiliglpolcpnbaaGreatDoorQRng
import Derived.OneCell
import Derived.Test.YtiliglpolcpnbaaGreatDoorQNodA
namespace Go.Proofs.YtiliglpolcpnbaaGreatDoor
open Go.RowKit

/-- The text of a path. -/
def textP (l : List ByteArray) : ByteArray := ofL (47 :: Lib.join (l.map L) [47])
theorem nameE_parts {l : List UInt8} (h : nameE l = 0) : l ≠ [] ∧ (47 : UInt8) ∉ l ∧ l.length ≤ 24 := by
  unfold nameE at h
  by_cases h1 : l = [] ∨ l = [46] ∨ l = [46, 46] ∨ l.any (pB badC) = true
  · rw [if_pos h1] at h; cases h
  rw [if_neg h1] at h
  by_cases h2 : 24 < l.length
  · rw [if_pos h2] at h; cases h
  refine ⟨fun e => h1 (.inl e), fun e => h1 (.inr (.inr (.inr ?_))), by omega⟩
  exact List.any_eq_true.2 ⟨47, e, by decide⟩
theorem firstN_zero : ∀ {l : List ByteArray}, firstN l = 0 → ∀ s ∈ l, nameE (L s) = 0
  | a :: r, h, s, hs => by
    unfold firstN at h
    by_cases e : nameE (L a) ≠ 0
    · rw [if_pos e] at h; exact absurd h e
    · rw [if_neg e] at h
      rcases List.mem_cons.1 hs with rfl | hs
      · exact Decidable.not_not.1 e
      · exact firstN_zero h s hs
theorem pathE_zero {l : List ByteArray} (h : pathE l = 0) : l.length ≤ 8 ∧ ∀ s ∈ l, nameE (L s) = 0 := by
  unfold pathE at h
  by_cases e : 8 < l.length
  · rw [if_pos e] at h; cases h
  · rw [if_neg e] at h; exact ⟨by omega, firstN_zero h⟩
/-- It is empty, or it begins with a slash. -/
def Sl (t : List UInt8) : Prop := t = [] ∨ ∃ u, t = 47 :: u
theorem cutL_inj : ∀ {x y t u : List UInt8}, (47 : UInt8) ∉ x → (47 : UInt8) ∉ y → Sl t → Sl u → x ++ t = y ++ u → x = y ∧ t = u
  | [], [], _, _, _, _, _, _, h => ⟨rfl, h⟩
  | [], b :: y, t, u, _, hy, ht, _, h => by
    rcases ht with rfl | ⟨t', rfl⟩
    · cases h
    · injection h with h1 _; exact absurd (by rw [← h1]; simp) hy
  | a :: x, [], t, u, hx, _, _, hu, h => by
    rcases hu with rfl | ⟨u', rfl⟩
    · cases h
    · injection h with h1 _; exact absurd (by rw [← h1]; simp) hx
  | a :: x, b :: y, t, u, hx, hy, ht, hu, h => by
    injection h with h1 h2
    obtain ⟨e1, e2⟩ := cutL_inj (fun e => hx (by simp [e])) (fun e => hy (by simp [e])) ht hu h2
    exact ⟨by rw [h1, e1], e2⟩
theorem tail_sl : ∀ r : List (List UInt8), Sl (Lib.joinTail [47] r)
  | [] => .inl rfl
  | x :: r => .inr ⟨x ++ Lib.joinTail [47] r, rfl⟩
theorem tail_inj : ∀ {r s : List (List UInt8)}, (∀ x ∈ r, (47 : UInt8) ∉ x) → (∀ x ∈ s, (47 : UInt8) ∉ x) → Lib.joinTail [47] r = Lib.joinTail [47] s → r = s
  | [], [], _, _, _ => rfl
  | [], y :: s, _, _, h => by cases h
  | x :: r, [], _, _, h => by cases h
  | x :: r, y :: s, hr, hs, h => by
    have h : (47 : UInt8) :: (x ++ Lib.joinTail [47] r) = 47 :: (y ++ Lib.joinTail [47] s) := h
    injection h with _ h
    obtain ⟨e1, e2⟩ := cutL_inj (hr x (by simp)) (hs y (by simp)) (tail_sl r) (tail_sl s) h
    rw [e1, tail_inj (fun z hz => hr z (by simp [hz])) (fun z hz => hs z (by simp [hz])) e2]
theorem join_inj {r s : List (List UInt8)} (hr : ∀ x ∈ r, x ≠ [] ∧ (47 : UInt8) ∉ x) (hs : ∀ x ∈ s, x ≠ [] ∧ (47 : UInt8) ∉ x) (h : Lib.join r [47] = Lib.join s [47]) : r = s := by
  cases r with
  | nil =>
    cases s with
    | nil => rfl
    | cons y s =>
      rw [Lib.join_cons, Lib.join_nil] at h
      exact absurd (List.append_eq_nil_iff.1 h.symm).1 (hs y (by simp)).1
  | cons x r =>
    cases s with
    | nil =>
      rw [Lib.join_cons, Lib.join_nil] at h
      exact absurd (List.append_eq_nil_iff.1 h).1 (hr x (by simp)).1
    | cons y s =>
      rw [Lib.join_cons, Lib.join_cons] at h
      obtain ⟨e1, e2⟩ := cutL_inj (hr x (by simp)).2 (hs y (by simp)).2 (tail_sl r) (tail_sl s) h
      rw [e1, tail_inj (fun z hz => (hr z (by simp [hz])).2) (fun z hz => (hs z (by simp [hz])).2) e2]
theorem textP_inj {a b : List ByteArray} (ha : pathE a = 0) (hb : pathE b = 0) (h : textP a = textP b) : a = b := by
  have h1 := congrArg L h
  unfold textP at h1
  rw [L_ofL, L_ofL] at h1
  injection h1 with _ h1
  have hn : ∀ {l : List ByteArray}, pathE l = 0 → ∀ x ∈ l.map L, x ≠ [] ∧ (47 : UInt8) ∉ x := by
    intro l hl x hx
    obtain ⟨s, hs, rfl⟩ := List.mem_map.1 hx
    have := nameE_parts ((pathE_zero hl).2 s hs)
    exact ⟨this.1, this.2.1⟩
  have h2 := join_inj (hn ha) (hn hb) h1
  exact List.map_inj_right (fun _ _ e => L_inj e) |>.1 h2
theorem join_len {l : List ByteArray} (h : pathE l = 0) : (Lib.join (l.map L) [47]).length ≤ 1000 := by
  obtain ⟨h1, h2⟩ := pathE_zero h
  have : ∀ m : List ByteArray, (∀ s ∈ m, nameE (L s) = 0) → (Lib.joinTail [47] (m.map L)).length ≤ 25 * m.length := by
    intro m
    induction m with
    | nil => intro _; exact Nat.le_refl _
    | cons s r ih =>
      intro hm
      have := ih fun x hx => hm x (by simp [hx])
      have := (nameE_parts (hm s (by simp))).2.2
      show ((47 : UInt8) :: (L s ++ Lib.joinTail [47] (r.map L))).length ≤ _
      simp only [List.length_cons, List.length_append]; omega
  cases l with
  | nil => simp [Lib.join_nil]
  | cons s r =>
    rw [List.map_cons, Lib.join_cons, List.length_append]
    have := this r fun x hx => h2 x (by simp [hx])
    have := (nameE_parts (h2 s (by simp))).2.2
    simp only [List.length_cons] at h1; omega
end Go.Proofs.YtiliglpolcpnbaaGreatDoor

namespace Go.Proofs.YtiliglpolcpnbaaGreatDoor
open Go.RowKit

theorem strJoin (w : World) (v : Value) (l : List ByteArray) (hv : StrsAt w v l) (hp : pathE l = 0) :
    RetB Tryz.prog 114 #[v, .string ⟨#[47]⟩] w (.string (ofL (Lib.join (l.map L) [47]))) := by
  unfold RetB
  obtain ⟨a, cap, rfl, hcap, hc⟩ := hv
  have hlen := join_len hp
  have hl8 := (pathE_zero hp).1
  by_cases h0 : l.length = 0
  · obtain rfl : l = [] := List.length_eq_zero_iff.1 h0
    exact (Tryz.strings_Join_none a cap _ w).mono fun e w' ⟨h1, h2⟩ => ⟨h1, h2 ▸ Below.refl _ _⟩
  · obtain ⟨b, off, rfl, hb, _⟩ := hc 0 (by omega)
    refine Tryz.strings_Join b off cap l ⟨#[47]⟩ w (fun j x hj => ?_) hb (by omega) hcap ?_
    · obtain ⟨hj', rfl⟩ := List.getElem?_eq_some_iff.1 hj
      obtain ⟨b2, off2, e, _, h2⟩ := hc j hj'
      cases e; exact h2
    · exact Nat.le_trans hlen (by decide)
/-- What Print returns. -/
def prS (l : List ByteArray) : ByteArray := if pathE l = 0 then textP l else ⟨#[]⟩
theorem pathsPrint (w : World) (v : Value) (l : List ByteArray) (hv : StrsAt w v l) :
    RetB Tryz.prog 82 #[v] w (.tuple #[.string (prS l), .int .i64 (pathE l)]) := by
  unfold RetB
  have HV := Lib.hid hv; clear hv
  by_cases h : pathE l = 0
  · have h1 : (pathE l != 0) = false := bne_eq_false_iff_eq.2 h
    have HP := Lib.hid h
    have hsz : (ofL (Lib.join (l.map L) [47])).size ≤ 1000 := by rw [size_ofL]; exact join_len h
    clear h
    go_enter Tryz.func82, Tryz.ntmps82
    go_wp2_with (first
      | (go_at_call 113; refine (pathsCheck _ l _ HV.out).mono ?_; rintro e w1 ⟨rfl, hb⟩; have HB1 := Lib.hid hb; clear hb)
      | (go_at_call 114; refine (strJoin _ _ l (HV.out.ext HB1.out) HP.out).mono ?_; rintro e w2 ⟨rfl, hb⟩; have HB2 := Lib.hid (Ext.trans HB1.out hb); clear hb))
    go_ret2
    refine ⟨?_, HB2.out⟩
    have e : prS l = (⟨#[47]⟩ : ByteArray) ++ ofL (Lib.join (l.map L) [47]) := by
      unfold prS; rw [if_pos HP.out]; apply L_inj; rw [L_append]; rfl
    rw [e, HP.out]; rfl
  · have h1 : (pathE l != 0) = true := bne_iff_ne.2 h
    have HP : Hid (prS l = ⟨#[]⟩) := Lib.hid (if_neg h)
    clear h
    go_enter Tryz.func82, Tryz.ntmps82
    go_wp2_with (go_at_call 113; refine (pathsCheck _ l _ HV.out).mono ?_; rintro e w1 ⟨rfl, hb⟩; have HB1 := Lib.hid hb; clear hb)
    go_ret2
    exact ⟨by rw [HP.out]; rfl, HB1.out⟩
end Go.Proofs.YtiliglpolcpnbaaGreatDoor

namespace Go.Proofs.YtiliglpolcpnbaaGreatDoor
open Go.RowKit
section
variable {F : Fence} {n : Nat} {P : Program}
theorem wpIn_rangeH {α : Type} {g : Operand} {ps : Array Tmp} {assign body : Code} {Q : Exit → Act → World → Prop} {a : Act} {w : World}
    (hro : F.round = none) (h1 : 1 ≤ n) {gf : Nat} {lb : Array Value} (hg : a.eval g = .func (.func gf) #[] lb) (hFg : F.fn gf) (eg : ∀ args w, (callFunc gf args).run P w = .ok (.enter gf args) w)
    {encs : α → Array Value} {Kp : World → World → Prop} {Ok : List α → α → World → Prop} {S Sp : List α → Prop} {N : Nat} {w0 : World} (hseq : SeqB F (n - 1) P gf lb encs Kp Ok S Sp N w0)
    (hKt : ∀ {A B C : World}, Kp A B → Kp B C → Kp A C) (hKb : ∀ (W : World) (l : Nat) (o o' : Obj), w.heap.size ≤ l → W.heap[l]? = some o → o.isCells = false → Kp W (W.putObj l o')) (hb0 : Below w0.heap.size w0 w) (hps : ∀ x, (encs x).size = ps.size)
    (hOk : ∀ (pre : List α) (x : α) (W : World) (l : Nat) (o o' : Obj), W.heap[l]? = some o → o.isCells = false → Ok pre x W → Ok pre x (W.putObj l o'))
    (I : List α → World → Prop) (Ix : Code → List α → World → Prop) (hI : AbB w.heap.size I) (hIx : ∀ c, AbB w.heap.size (Ix c)) (h0 : I [] w) (Ax : α → Act → World → Prop)
    (hAx : ∀ (x : α) (a2 : Act) (W : World) (l : Nat) (o o' : Obj), W.heap[l]? = some o → o.isCells = false → Ax x a2 W → Ax x a2 (W.putObj l o'))
    (hassign : ∀ (l : Nat) (pre : List α) (x : α) (W : World) (K : Act → World → Prop), I pre W → Ok pre x W → (∀ a2 W2, Ext W W2 → Kp W W2 → Ax x a2 W2 → Ok pre x W2 → K a2 W2) →
      assign.wpIn (F.inRound l) (n - 1 - 1) P (Exit.then K (fun _ _ _ => False)) { tmps := (ps.zip (encs x)).foldl (fun t (p, v) => t.setIfInBounds p v) a.tmps, defers := [] } W)
    (hbody : ∀ (l : Nat) (pre : List α) (x : α) (a2 : Act) (W : World), I pre W → pre.length < N → Ok pre x W → Ax x a2 W → body.wpIn (F.inRound l) (n - 1 - 1) P (ownPostG w.heap.size Kp I Ix (pre ++ [x]) W) a2 W)
    (hdone : ∀ (D : Nat) (xs : List α) (W : World), w.heap.size ≤ D → S xs → I xs W → W.heap[D]? = some (.deferred (some [])) → Q .normal { a with defers := { target := .collected D, args := #[] } :: a.defers } W)
    (hstop : ∀ (D : Nat) (c : Code) (pre : List α) (W : World), w.heap.size ≤ D → Sp pre → Ix c pre W → W.heap[D]? = some (.deferred (some [])) → c.wpIn F n P Q { a with defers := { target := .collected D, args := #[] } :: a.defers } W) :
    (Code.rangeFunc g ps assign body).wpIn F n P Q a w := by
  refine wpIn_rangeFunc fun fn hfn => ?_
  rw [hro]
  obtain ⟨r, hr⟩ : ∃ r : LoopState → Option Code → Loop, r = fun st pe => { state := st, pending := pe, fn, tmps := a.tmps, params := ps, assign, body, defers := w.heap.size } := ⟨_, rfl⟩
  obtain ⟨W1, hW1⟩ : ∃ W1, (w.alloc (.deferred (some []))).alloc (.loop (r .ready none)) = W1 := ⟨_, rfl⟩
  have hsz : W1.heap.size = w.heap.size + 2 := by rw [← hW1]; simp
  have hE1 : Ext w W1 := by rw [← hW1]; exact (ext_alloc _ _).trans (ext_alloc _ _)
  have hL1 : LoopAt w.heap.size (r .ready none) W1 := by
    rw [← hW1]
    exact ⟨blk_at (by simp), blk_alloc (blk_new w _)⟩
  refine ⟨w.heap.size + 1, [{ target := .collected w.heap.size, args := #[] }], W1, { target := .fn (.func gf) lb, args := #[.func (.yield (w.heap.size + 1)) #[] #[]] }, W1, gf, #[.func (.yield (w.heap.size + 1)) #[] #[]] ++ lb, W1, ?_, ?_, ?_, ?_, fun _ => h1, ?_⟩
  · rw [← hW1, hr]; exact run_enterLoop_outer _ _ _ _ _
  · simp only [resolve, hg]
    simp [go_sem]
  · intro f' hf'; simp [Target.leads] at hf'; subst hf'; exact hFg
  · simp [invoke, go_sem, eg]
  refine (hseq (w.heap.size + 1) (fun pre W => I pre W ∧ LoopAt w.heap.size (r .ready none) W) (fun pre W => ∃ c, Ix c pre W ∧ LoopAt w.heap.size (r .done (some c)) W) W1 (hb0.trans (hE1.mono hb0.size))
    (fun s W W' hs hb => ⟨hI s W W' hs.1 (hb.mono (by omega)), hs.2.below hb (by omega)⟩)
    (fun s W W' hs hb => by obtain ⟨c, hc, hl⟩ := hs; exact ⟨c, hIx c s W W' hc (hb.mono (by omega)), hl.below hb (by omega)⟩)
    ?round ⟨hI _ _ _ h0 hE1, hL1⟩).mono ?behind
  case behind =>
    rintro e W2 ⟨⟨v, rfl⟩, (⟨xs, hS, hi, hl⟩ | ⟨pre, hSp, c, hi, hl⟩)⟩
    · have hx := run_endLoop (P := P) hl.lp (by rw [hr]; simp)
      rw [hr] at hx
      exact ⟨none, _, hx, hdone _ xs _ (Nat.le_refl _) hS (hI.put hi (by omega) hl.lp) ((World.putObj_heap_other (by omega)).trans hl.df)⟩
    · have hx := run_endLoop (P := P) hl.lp (by rw [hr]; simp)
      rw [hr] at hx
      exact ⟨some c, _, hx, hstop _ c pre _ (Nat.le_refl _) hSp ((hIx c).put hi (by omega) hl.lp) ((World.putObj_heap_other (by omega)).trans hl.df)⟩
  case round =>
    rintro pre x W ⟨hi, hl⟩ hlen hox
    have hy := run_yield (P := P) (args := encs x) hl.lp (by rw [hr]; exact hps x)
    rw [hr] at hy
    refine ⟨fn, _, assign, body, hy, roundIn_of_wpIn hfn (hassign _ pre x W _ hi hox fun a2 W2 hE2 hk2 hax hox2 => ?_)⟩
    have hlW : w.heap.size + 1 < W.heap.size := by have := (Array.getElem?_eq_some_iff.1 hl.lp).1; omega
    have hl' : LoopAt w.heap.size (r .ready none) W2 := hl.below hE2 hlW
    have hi2 : I pre W2 := hI _ _ _ hi (hE2.mono (by omega))
    refine ⟨_, run_beginRound hl'.lp (by rw [hr]), ?_⟩
    have hl2 := hl'.put (r' := { r .ready none with state := .busy })
    refine wpIn_mono (hbody _ pre x a2 _ (hI.put hi2 (by omega) hl'.lp) hlen (hOk _ _ _ _ _ _ hl'.lp rfl hox2) (hAx _ _ _ _ _ _ hl'.lp rfl hax)) ?_
    have hend : ∀ (jump : Option Code) (W3 : World), LoopAt w.heap.size { r .ready none with state := .busy } W3 → (Instr.endRound (w.heap.size + 1) jump).run P W3 = .ok (.bool jump.isNone) (W3.putObj (w.heap.size + 1) (.loop (r (if jump.isNone then .ready else .done) jump))) := fun jump W3 h3 => by
      have := run_endRound (P := P) jump h3.lp
      rw [hr] at this ⊢; exact this
    rintro e a3 W3 hp
    have leaves : ∀ c : Code, KeepsFrom w.heap.size (W2.putObj (w.heap.size + 1) (.loop { r .ready none with state := .busy })) W3 → Ix c (pre ++ [x]) W3 →
        ∃ c', Ix c' (pre ++ [x]) (W3.putObj (w.heap.size + 1) (.loop (r .done (some c)))) ∧ LoopAt w.heap.size (r .done (some c')) (W3.putObj (w.heap.size + 1) (.loop (r .done (some c)))) := fun c hk hx => by
      have h3 := hl2.keeps hk
      exact ⟨c, (hIx c).put hx (by omega) h3.lp, h3.put⟩
    cases e with
    | normal =>
      obtain ⟨hk, hkp, hi3⟩ := hp
      have h3 := hl2.keeps hk
      exact ⟨_, _, hend none W3 h3, .inl ⟨rfl, ⟨hI.put hi3 (by omega) h3.lp, h3.put⟩, hKt (hKt (hKt hk2 (hKb _ _ _ _ (by omega) hl'.lp rfl)) hkp) (hKb _ _ _ _ (by omega) h3.lp rfl)⟩⟩
    | ret => exact ⟨_, _, hend (some .ret) W3 (hl2.keeps hp.1), .inr ⟨rfl, leaves _ hp.1 hp.2⟩⟩
    | exit id => exact ⟨_, _, hend (some (.exit id)) W3 (hl2.keeps hp.1), .inr ⟨rfl, leaves _ hp.1 hp.2⟩⟩
    | goto t => exact ⟨_, _, hend (some (.goto t)) W3 (hl2.keeps hp.1), .inr ⟨rfl, leaves _ hp.1 hp.2⟩⟩
    | panic ch => exact hp.elim
    | outgrown => exact hp.elim
end
end Go.Proofs.YtiliglpolcpnbaaGreatDoor

namespace Go.Proofs.YtiliglpolcpnbaaGreatDoor
open Go.RowKit

/-- What the map holds before node k: the texts of the redirects that have been met. -/
def MetOk (b : List BrN) (k : Nat) (F : ByteArray → Option Value) : Prop := ∀ r, pathE r = 0 → 0 < r.length → F (textP r) = if seenR b r k = true then some (.bool true) else none
theorem met_zero (b : List BrN) : MetOk b 0 (fun _ => none) := fun _ _ _ => rfl
theorem met_skip {b : List BrN} {k : Nat} {F : ByteArray → Option Value} (h : MetOk b k F) (hr : ¬ 0 < (getB b k).red.length) : MetOk b (k + 1) F := by
  intro r hp hl
  rw [h r hp hl, seenR.eq_2, decide_eq_false (fun e => hr (by rw [← e]; exact hl)), Bool.or_false]
theorem met_step {b : List BrN} {k : Nat} {F : ByteArray → Option Value} (h : MetOk b k F) (hk : pathE (getB b k).red = 0) : MetOk b (k + 1) (upd F (textP (getB b k).red) (.bool true)) := by
  intro r hp hl
  unfold upd
  rw [seenR.eq_2]
  by_cases e : r = (getB b k).red
  · rw [← e, if_pos rfl, decide_eq_true rfl, Bool.or_true, if_pos rfl]
  · rw [if_neg (fun x => e (textP_inj hp hk x)), decide_eq_false e, Bool.or_false, h r hp hl]
theorem met_look {b : List BrN} {k : Nat} {F : ByteArray → Option Value} (h : MetOk b k F) {r : List ByteArray} (hp : pathE r = 0) (hl : 0 < r.length) : (F (textP r)).getD (.bool false) = .bool (seenR b r k) := by
  rw [h r hp hl]
  cases seenR b r k <;> rfl
theorem stored2 {w w2 : World} {a c : Value} (h : Ext w w2) (c1 : w2.cell? ⟨w.heap.size + 1, 0, none⟩ = some a) (c2 : w2.cell? ⟨w.heap.size + 1 + 1, 0, none⟩ = some c) (x y : Value) :
    ((w2.setCell ⟨w.heap.size + 1, 0, none⟩ x).setCell ⟨w.heap.size + 1 + 1, 0, none⟩ y).cell? ⟨w.heap.size + 1, 0, none⟩ = some x ∧ ((w2.setCell ⟨w.heap.size + 1, 0, none⟩ x).setCell ⟨w.heap.size + 1 + 1, 0, none⟩ y).cell? ⟨w.heap.size + 1 + 1, 0, none⟩ = some y ∧ Ext w ((w2.setCell ⟨w.heap.size + 1, 0, none⟩ x).setCell ⟨w.heap.size + 1 + 1, 0, none⟩ y) := by
  refine ⟨?_, ?_, ?_⟩
  · rw [World.cell?_setCell_far _ _ _ _ (by show w.heap.size + 1 + 1 ≠ w.heap.size + 1; omega)]; exact World.cell?_setCell_same' _ _ _ (by rw [c1]; rfl)
  · refine World.cell?_setCell_same' _ _ _ ?_
    rw [World.cell?_setCell_far _ _ _ _ (by show w.heap.size + 1 ≠ w.heap.size + 1 + 1; omega), c2]; rfl
  · exact Below.setCell (p := ⟨w.heap.size + 1 + 1, 0, none⟩) (Below.setCell (p := ⟨w.heap.size + 1, 0, none⟩) h (by simp) _) (by simp; omega) _
/-- What branch.Check's rounds keep: no node so far is wrong; the map; the blocks that lay when the loop began, but the map's. -/
structure BrI (w0 w : World) (bm : Nat) (b : List BrN) (k : Nat) (W : World) : Prop where
  ok : ∀ j, j < k → marksE b j = 0
  met : ∃ n F, MapAt kS W bm n F ∧ MetOk b k F
  kc : KcA w W
  ext : Ext w0 W
theorem BrI.ab {w0 w : World} {bm : Nat} {b : List BrN} (hb : bm < w.heap.size) (h0 : w0.heap.size ≤ w.heap.size) {k : Nat} {W W' : World} (h : BrI w0 w bm b k W) (hx : Below w.heap.size W W') : BrI w0 w bm b k W' where
  ok := h.ok
  met := by
    obtain ⟨n, F, ⟨es, c, hh, r⟩, hm⟩ := h.met
    exact ⟨n, F, ⟨es, c, (hx.block _ hb).trans hh, r⟩, hm⟩
  kc := ⟨Nat.le_trans h.kc.size hx.size, fun j cs e f _ hj => (hx.block _ (blk_lt hj)).trans (h.kc.keep j cs e f (.inr (Nat.zero_le _)) hj)⟩
  ext := Below.trans h.ext (hx.mono h0)
/-- A round has found a node that is wrong. -/
structure BrX (w0 : World) (b : List BrN) (W : World) : Prop where
  no : W.heap[w0.heap.size + 1]? = some (.cells #[.int .i64 (brNo b)] 3 (0, 0))
  er : W.heap[w0.heap.size + 2]? = some (.cells #[.int .i64 (brEr b)] 26 (0, 0))
  ext : Ext w0 W
theorem BrX.ab {w0 : World} {B : Nat} {b : List BrN} (h0 : w0.heap.size + 2 < B) {W W' : World} (h : BrX w0 b W) (hx : Below B W W') : BrX w0 b W' :=
  ⟨(hx.block _ (by omega)).trans h.no, (hx.block _ (by omega)).trans h.er, Below.trans h.ext (hx.mono (by omega))⟩
theorem ko_ext {W V : World} (h : Ext W V) : KeepsOthers W V := ⟨h.size, fun _ _ hk _ => blk_ext h hk⟩
theorem kc_map {V U : World} {bm : Nat} {es : Array MapEntry} {c : Nat} (h : V.heap[bm]? = some (.map es c)) (hg : V.grownBy U (some bm)) : KcA V U :=
  ⟨hg.size, fun k cs e f _ hk => blk_grown hg hk (fun x => by cases x; rw [h] at hk; cases hk)⟩
/-- A round that leaves: its two stores. -/
theorem brX_of {w V : World} {b : List BrN} {a c x y : Int} (hV : Ext w V) (d1 : V.heap[w.heap.size + 1]? = some (.cells #[.int .i64 a] 3 (0, 0))) (d2 : V.heap[w.heap.size + 2]? = some (.cells #[.int .i64 c] 26 (0, 0))) (hr : brNo b = x ∧ brEr b = y) :
    BrX w b ((V.setCell ⟨w.heap.size + 1, 0, none⟩ (.int .i64 x)).setCell ⟨w.heap.size + 1 + 1, 0, none⟩ (.int .i64 y)) ∧ KeepsOthers V ((V.setCell ⟨w.heap.size + 1, 0, none⟩ (.int .i64 x)).setCell ⟨w.heap.size + 1 + 1, 0, none⟩ (.int .i64 y)) := by
  obtain ⟨_, _, g3⟩ := stored2 hV (blk_cell d1 0) (blk_cell d2 0) (.int .i64 x) (.int .i64 y)
  have h1 := one_setCell (u := .int .i64 x) d1
  have h2 : (V.setCell ⟨w.heap.size + 1, 0, none⟩ (.int .i64 x)).heap[w.heap.size + 1 + 1]? = some (.cells #[.int .i64 c] 26 (0, 0)) := by
    rw [← d2]; simp [World.setCell, Array.getElem?_modify]
  refine ⟨⟨?_, ?_, g3⟩, (KeepsOthers.setCell _ _ _).trans (KeepsOthers.setCell _ _ _)⟩
  · rw [hr.1, ← h1]; simp [World.setCell, Array.getElem?_modify]
  · rw [hr.2]; exact one_setCell (u := .int .i64 y) h2
theorem BrX.alloc {w V : World} {b : List BrN} (h : BrX w b V) (o : Obj) : BrX w b (V.alloc o) := ⟨blk_alloc h.no, blk_alloc h.er, Below.trans h.ext (Below.alloc (Below.refl _ _) h.ext.size _)⟩
/-- A round that goes on. -/
theorem BrI.skip {w0 w W U : World} {bm : Nat} {b : List BrN} {k : Nat} (h : BrI w0 w bm b k W) (hm : marksE b k = 0) (hr : ¬ 0 < (getB b k).red.length) (hE : Ext W U) : BrI w0 w bm b (k + 1) U where
  ok := fun j hj => by
    by_cases e : j = k
    · subst e; exact hm
    · exact h.ok j (by omega)
  met := by obtain ⟨n, F, h1, h2⟩ := h.met; exact ⟨n, F, h1.ext hE, met_skip h2 hr⟩
  kc := h.kc.trans (Kc.of_ext hE)
  ext := h.ext.trans hE
theorem BrI.led {w0 w W V U : World} {bm n n' : Nat} {F : ByteArray → Option Value} {b : List BrN} {k : Nat} (h : BrI w0 w bm b k W) (hm : marksE b k = 0) (hp : pathE (getB b k).red = 0) (h0 : w0.heap.size ≤ bm) (hE : Ext W V) (hv : MapAt kS V bm n F) (hF : MetOk b k F) (hg : V.grownBy U (some bm)) (hU : MapAt kS U bm n' (upd F (textP (getB b k).red) (.bool true))) : BrI w0 w bm b (k + 1) U where
  ok := fun j hj => by
    by_cases e : j = k
    · subst e; exact hm
    · exact h.ok j (by omega)
  met := ⟨_, _, hU, met_step hF hp⟩
  kc := by obtain ⟨es, c, hb, _⟩ := hv; exact (h.kc.trans (Kc.of_ext hE)).trans (kc_map hb hg)
  ext := Below.grown (h.ext.trans hE) hg (Nat.le_trans h.ext.size hE.size) (fun k e => by cases e; exact h0)
end Go.Proofs.YtiliglpolcpnbaaGreatDoor

namespace Go.Proofs.YtiliglpolcpnbaaGreatDoor
open Go.RowKit

/-- How long a string may be. -/
abbrev longest : Nat := 9223372036854775807

end Go.Proofs.YtiliglpolcpnbaaGreatDoor
