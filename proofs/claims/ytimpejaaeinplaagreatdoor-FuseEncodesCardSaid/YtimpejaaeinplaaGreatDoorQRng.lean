/- Rng WlkA WlkB WlkC RngH DirK -/
import Derived.Test.YtimpejaaeinplaaGreatDoorQI4
import Derived.Test.YtimpejaaeinplaaGreatDoorQBrnA
namespace Go.Proofs.YtimpejaaeinplaaGreatDoor
open Go.RowKit

def AbB {β : Type} (B : Nat) (J : β -> World -> Prop) : Prop := ∀ s W W', J s W -> Below B W W' -> J s W'
theorem below_put {B : Nat} {W : World} {l : Nat} {o o' : Obj} (h : W.heap[l]? = some o) (hl : B <= l) : Below B W (W.putObj l o') :=
  (Below.refl B W).grown (grownBy_putObj' W l o') (by have := (Array.getElem?_eq_some_iff.1 h).1; omega) (fun k e => by cases e; exact hl)
def SeqB {α : Type} (F : Fence) (n : Nat) (P : Program) (g : Nat) (lb : Array Value) (encs : α -> Array Value) (Kp : World -> World -> Prop) (Ok : List α -> α -> World -> Prop) (S Sp : List α -> Prop) (N : Nat) (w : World) : Prop :=
  ∀ (l : Nat) (J Jx : List α -> World -> Prop) (W : World), Below w.heap.size w W -> AbB W.heap.size J -> AbB W.heap.size Jx ->
    (∀ pre x W1, J pre W1 -> pre.length < N -> Ok pre x W1 -> YieldAt F (n - 1) P l (encs x) W1 fun e W' =>
      (e = .returned (.bool true) /\ J (pre ++ [x]) W' /\ Kp W1 W') \/ (e = .returned (.bool false) /\ Jx (pre ++ [x]) W')) ->
    J [] W ->
    CallsIn F n P g (#[.func (.yield l) #[] #[]] ++ lb) W fun e W' => (∃ v, e = .returned v) /\ ((∃ xs, S xs /\ J xs W') \/ (∃ pre, Sp pre /\ Jx pre W'))
section
variable {F : Fence} {n : Nat} {P : Program}
structure LoopAt (B : Nat) (r : Loop) (W : World) : Prop where
  lp : W.heap[B + 1]? = some (.loop r)
  df : W.heap[B]? = some (.deferred (some []))
theorem LoopAt.below {B C : Nat} {r : Loop} {W W' : World} (h : LoopAt B r W) (hb : Below C W W') (hC : B + 1 < C) : LoopAt B r W' := by
  have h1 := h.lp; have h2 := h.df
  exact ⟨(hb.block _ (by omega)).trans h1, (hb.block _ (by omega)).trans h2⟩
theorem LoopAt.keeps {B : Nat} {r : Loop} {W W' : World} (h : LoopAt B r W) (hk : KeepsFrom B W W') : LoopAt B r W' := ⟨hk.same _ _ (by omega) h.lp rfl, hk.same _ _ (Nat.le_refl _) h.df rfl⟩
theorem LoopAt.put {B : Nat} {r r' : Loop} {W : World} (h : LoopAt B r W) : LoopAt B r' (W.putObj (B + 1) (.loop r')) :=
  ⟨World.putObj_heap_same (Array.getElem?_eq_some_iff.1 h.lp).1, (World.putObj_heap_other (by omega)).trans h.df⟩
theorem AbB.put {β : Type} {B l : Nat} {J : β -> World -> Prop} (hJ : AbB B J) {s : β} {W : World} {o o' : Obj} (h : J s W) (hl : B <= l) (ho : W.heap[l]? = some o) : J s (W.putObj l o') := hJ _ _ _ h (below_put ho hl)
end
end Go.Proofs.YtimpejaaeinplaaGreatDoor
namespace Go.Proofs.YtimpejaaeinplaaGreatDoor
open Go.RowKit

def cdN : Cd Nat := { t := 47, e := 3, n := 1, bytes := 8, z := .int .i64 0, inner := [], R := fun _ _ x cs => cs = [.int .i64 x] }
theorem okN : CdOk Tryz.prog cdN where
  sl := { und := Tryz.underlying47, info := info_parts (by kernel_rfl), zs := rfl, pos := by decide, small := by decide }
  len := fun h => by subst h; rfl
  one := fun h u hu => by subst h; simp at hu; subst hu; rfl
  chg := fun h _ _ => h
  mono := fun _ h => h
  self := by simp [cdN]
structure Kc (B0 B1 : Nat) (W W' : World) : Prop where
  size : W.heap.size <= W'.heap.size
  keep : ∀ k cs e f, (k < B0 \/ B1 <= k) -> W.heap[k]? = some (.cells cs e f) -> W'.heap[k]? = some (.cells cs e f)
theorem Kc.refl (B0 B1 : Nat) (W : World) : Kc B0 B1 W W := ⟨Nat.le_refl _, fun _ _ _ _ _ h => h⟩
theorem Kc.trans {B0 B1 : Nat} {A B C : World} (h : Kc B0 B1 A B) (k : Kc B0 B1 B C) : Kc B0 B1 A C := ⟨Nat.le_trans h.size k.size, fun i cs e f hi hA => k.keep i cs e f hi (h.keep i cs e f hi hA)⟩
theorem Kc.of_ext {B0 B1 : Nat} {W W' : World} (h : Ext W W') : Kc B0 B1 W W' := ⟨h.size, fun _ _ _ _ _ hk => bX h hk⟩
theorem Kc.put {B0 B1 : Nat} {W : World} {l : Nat} {o o' : Obj} (h : W.heap[l]? = some o) (hc : o.isCells = false) : Kc B0 B1 W (W.putObj l o') := by
  refine ⟨(below_put (B := 0) (o' := o') h (Nat.zero_le _)).size, fun k cs e f _ hk => ?_⟩
  by_cases ek : k = l
  · subst ek; rw [h] at hk; cases hk; cases hc
  · exact (World.putObj_heap_other (by omega)).trans hk
abbrev KcA (W W' : World) : Prop := Kc 0 0 W W'
theorem Kc.all {B0 B1 : Nat} {W0 W W' : World} (h0 : KcA W0 W) (h : Kc B0 B1 W W') (hB : W0.heap.size <= B0) : KcA W0 W' :=
  ⟨Nat.le_trans h0.size h.size, fun k cs e f _ hk => h.keep k cs e f (.inl (Nat.lt_of_lt_of_le (blk_lt hk) hB)) (h0.keep k cs e f (.inr (Nat.zero_le _)) hk)⟩
theorem KcA.cell {W W' : World} (h : KcA W W') {p : Addr} {v : Value} (hp : W.cell? p = some v) : W'.cell? p = some v := by
  unfold World.cell? at hp ⊢
  cases hb : W.heap[p.block]? with
  | none => rw [hb] at hp; cases hp
  | some o =>
    rw [hb] at hp
    cases o with
    | cells cs e f => rw [h.keep _ _ _ _ (.inr (Nat.zero_le _)) hb]; exact hp
    | _ => cases hp
theorem ListIn.kc {α : Type} {C : Cd α} {B : Nat} {W W' : World} {v : Value} {l : List α} (h : ListIn C B W v l) (hk : KcA W W') (hR : ∀ x cs, C.R B W x cs -> C.R B W' x cs) : ListIn C B W' v l := by
  obtain ⟨a, cap, rfl, hcap, hn, hc⟩ := h
  refine ⟨a, cap, rfl, hcap, fun h0 b hb => (hn h0 b hb).imp_right fun ⟨cs, f, h1⟩ => ⟨cs, f, hk.keep _ _ _ _ (.inr (Nat.zero_le _)) h1⟩, fun i hi => ?_⟩
  obtain ⟨b, off, cs, rfl, hb, hr, hrow⟩ := hc i hi
  exact ⟨b, off, cs, rfl, Nat.lt_of_lt_of_le hb hk.size, hR _ _ hr, fun j u hj => hk.cell (hrow j u hj)⟩
theorem strIn_kc {B : Nat} {W W' : World} {v : Value} {l : List ByteArray} (h : StrIn B W v l) (hk : KcA W W') : StrIn B W' v l := h.kc hk fun _ _ h => h
theorem attIn_kc {B : Nat} {W W' : World} {v : Value} {l : List Attr} (h : AttIn B W v l) (hk : KcA W W') : AttIn B W' v l := h.kc hk fun _ _ h => h
theorem brIn_kc {B : Nat} {W W' : World} {v : Value} {l : List BrN} (h : BrIn B W v l) (hk : KcA W W') : BrIn B W' v l :=
  h.kc hk fun _ _ ⟨va, vr, h1, h2, h3⟩ => ⟨va, vr, attIn_kc h1 hk, strIn_kc h2 hk, h3⟩
theorem OwnL.kc {α : Type} {C : Cd α} {B B0 B1 : Nat} {W W' : World} {v : Value} {l : List α} (h : OwnL C B W v l) (hk : Kc B0 B1 W W') (hB : B1 <= B) (hR : ∀ x cs, C.R B W x cs -> C.R B W' x cs) : OwnL C B W' v l := by
  obtain ⟨css, hl, hR0, ho⟩ := h
  refine ⟨css, hl, fun i h1 h2 => hR _ _ (hR0 i h1 h2), ho.1, ?_⟩
  rcases ho.2 with h1 | ⟨g, cap, cur, rfl, hb, hg, h3⟩
  · exact .inl h1
  · exact .inr ⟨g, cap, cur, rfl, hb, hk.keep _ _ _ _ (.inr (Nat.le_trans hB hb)) hg, h3⟩
end Go.Proofs.YtimpejaaeinplaaGreatDoor
namespace Go.Proofs.YtimpejaaeinplaaGreatDoor
open Go.RowKit Go.Shelf
attribute [local go_sem] Oper.semAt_some

structure PlI where
  i : Nat
  a : Option Addr
  n : Nat
  cap : Nat
def encPl (t : List TrN) (x : PlI) : Array Value := #[.int .i64 x.i, .agg #[.int .i64 (abv t x.i), .slice x.a x.n x.cap]]
def OkPl (t : List TrN) (pre : List PlI) (x : PlI) (W : World) : Prop := x.i = pre.length /\ StrIn 0 W (.slice x.a x.n x.cap) (pathT t x.i)
theorem okPl_put {t : List TrN} (pre : List PlI) (x : PlI) (W : World) (l : Nat) (o o' : Obj) (h : W.heap[l]? = some o) (hc : o.isCells = false) (hx : OkPl t pre x W) : OkPl t pre x (W.putObj l o') := ⟨hx.1, strIn_kc hx.2 (Kc.put h hc)⟩
theorem stop11 {n : Nat} {P : Program} {ops : Array Oper} {d : Bool} {Q : Exit -> Act -> World -> Prop} {a : Act} {w : World} (h : (Code.region 11 ops d).wpIn Fence.wide n P Q a w) : (Code.region 11 ops d).wp P Q a w := wpIn_wide.1 h
def stkK (t : List TrN) (k : Nat) : List Nat := if k = 0 then [] else stkT t (k - 1)
def pthK (t : List TrN) (k : Nat) : List ByteArray := if k = 0 then [] else pathT t (k - 1)
theorem stkK_pos {t : List TrN} {k : Nat} (h : k ≠ 0) : stkK t k = stkT t (k - 1) := if_neg h
theorem pthK_pos {t : List TrN} {k : Nat} (h : k ≠ 0) : pthK t k = pathT t (k - 1) := if_neg h
end Go.Proofs.YtimpejaaeinplaaGreatDoor
namespace Go.Proofs.YtimpejaaeinplaaGreatDoor
open Go.RowKit

set_option maxRecDepth 100000 in
theorem brWalk (w : World) (a : Option Addr) (n cap : Nat) :
    Calls Tryz.prog 114 #[.slice a n cap] w (fun e w' => e = .returned (.func (.func 163) #[] #[.pointer (some ⟨w.heap.size, 0, none⟩)]) /\ w' = w.alloc (.cells #[.slice a n cap] 22 (0, 0))) := by
  have hmf : ∀ (fn : Fn) (first cap : Array Value) (w : World), (Instr.makeFunc fn first cap).run Tryz.prog w = .ok (.func fn first cap) w := fun _ _ _ _ => rfl
  go_enter Tryz.func114, Tryz.ntmps114
  go_wp2
  go_ret
  exact ⟨rfl, rfl⟩
end Go.Proofs.YtimpejaaeinplaaGreatDoor
namespace Go.Proofs.YtimpejaaeinplaaGreatDoor
open Go.RowKit
section
variable {F : Fence} {n : Nat} {P : Program}
theorem wpIn_rangeH {α : Type} {g : Operand} {ps : Array Tmp} {assign body : Code} {Q : Exit -> Act -> World -> Prop} {a : Act} {w : World}
    (hro : F.round = none) (h1 : 1 <= n) {gf : Nat} {lb : Array Value} (hg : a.eval g = .func (.func gf) #[] lb) (hFg : F.fn gf) (eg : ∀ args w, (callFunc gf args).run P w = .ok (.enter gf args) w)
    {encs : α -> Array Value} {Kp : World -> World -> Prop} {Ok : List α -> α -> World -> Prop} {S Sp : List α -> Prop} {N : Nat} {w0 : World} (hseq : SeqB F (n - 1) P gf lb encs Kp Ok S Sp N w0)
    (hKt : ∀ {A B C : World}, Kp A B -> Kp B C -> Kp A C) (hKb : ∀ (W : World) (l : Nat) (o o' : Obj), w.heap.size <= l -> W.heap[l]? = some o -> o.isCells = false -> Kp W (W.putObj l o')) (hb0 : Below w0.heap.size w0 w) (hps : ∀ x, (encs x).size = ps.size)
    (hOk : ∀ (pre : List α) (x : α) (W : World) (l : Nat) (o o' : Obj), W.heap[l]? = some o -> o.isCells = false -> Ok pre x W -> Ok pre x (W.putObj l o'))
    (I : List α -> World -> Prop) (Ix : Code -> List α -> World -> Prop) (hI : AbB w.heap.size I) (hIx : ∀ c, AbB w.heap.size (Ix c)) (h0 : I [] w) (Ax : α -> Act -> World -> Prop)
    (hAx : ∀ (x : α) (a2 : Act) (W : World) (l : Nat) (o o' : Obj), W.heap[l]? = some o -> o.isCells = false -> Ax x a2 W -> Ax x a2 (W.putObj l o'))
    (hassign : ∀ (l : Nat) (pre : List α) (x : α) (W : World) (K : Act -> World -> Prop), I pre W -> Ok pre x W -> (∀ a2 W2, Ext W W2 -> Kp W W2 -> Ax x a2 W2 -> Ok pre x W2 -> K a2 W2) ->
      assign.wpIn (F.inRound l) (n - 1 - 1) P (Exit.then K (fun _ _ _ => False)) { tmps := (ps.zip (encs x)).foldl (fun t (p, v) => t.setIfInBounds p v) a.tmps, defers := [] } W)
    (hbody : ∀ (l : Nat) (pre : List α) (x : α) (a2 : Act) (W : World), I pre W -> pre.length < N -> Ok pre x W -> Ax x a2 W -> body.wpIn (F.inRound l) (n - 1 - 1) P (ownPostG w.heap.size Kp I Ix (pre ++ [x]) W) a2 W)
    (hdone : ∀ (D : Nat) (xs : List α) (W : World), w.heap.size <= D -> S xs -> I xs W -> W.heap[D]? = some (.deferred (some [])) -> Q .normal { a with defers := { target := .collected D, args := #[] } :: a.defers } W)
    (hstop : ∀ (D : Nat) (c : Code) (pre : List α) (W : World), w.heap.size <= D -> Sp pre -> Ix c pre W -> W.heap[D]? = some (.deferred (some [])) -> c.wpIn F n P Q { a with defers := { target := .collected D, args := #[] } :: a.defers } W) :
    (Code.rangeFunc g ps assign body).wpIn F n P Q a w := by
  refine wpIn_rangeFunc fun fn hfn => ?_
  rw [hro]
  obtain ⟨r, hr⟩ : ∃ r : LoopState -> Option Code -> Loop, r = fun st pe => { state := st, pending := pe, fn, tmps := a.tmps, params := ps, assign, body, defers := w.heap.size } := ⟨_, rfl⟩
  obtain ⟨W1, hW1⟩ : ∃ W1, (w.alloc (.deferred (some []))).alloc (.loop (r .ready none)) = W1 := ⟨_, rfl⟩
  have hsz : W1.heap.size = w.heap.size + 2 := by rw [<- hW1]; simp
  have hE1 : Ext w W1 := by rw [<- hW1]; exact (eA _ _).trans (eA _ _)
  have hL1 : LoopAt w.heap.size (r .ready none) W1 := by
    rw [<- hW1]
    exact ⟨blk_at (by simp), bA (bN w _)⟩
  refine ⟨w.heap.size + 1, [{ target := .collected w.heap.size, args := #[] }], W1, { target := .fn (.func gf) lb, args := #[.func (.yield (w.heap.size + 1)) #[] #[]] }, W1, gf, #[.func (.yield (w.heap.size + 1)) #[] #[]] ++ lb, W1, ?_, ?_, ?_, ?_, fun _ => h1, ?_⟩
  · rw [<- hW1, hr]; exact run_enterLoop_outer _ _ _ _ _
  · simp only [resolve, hg]
    simp [go_sem]
  · intro f' hf'; simp [Target.leads] at hf'; subst hf'; exact hFg
  · simp [invoke, go_sem, eg]
  refine (hseq (w.heap.size + 1) (fun pre W => I pre W /\ LoopAt w.heap.size (r .ready none) W) (fun pre W => ∃ c, Ix c pre W /\ LoopAt w.heap.size (r .done (some c)) W) W1 (hb0.trans (hE1.mono hb0.size))
    (fun s W W' hs hb => ⟨hI s W W' hs.1 (hb.mono (by omega)), hs.2.below hb (by omega)⟩)
    (fun s W W' hs hb => by obtain ⟨c, hc, hl⟩ := hs; exact ⟨c, hIx c s W W' hc (hb.mono (by omega)), hl.below hb (by omega)⟩)
    ?round ⟨hI _ _ _ h0 hE1, hL1⟩).mono ?behind
  case behind =>
    rintro e W2 ⟨⟨v, rfl⟩, (⟨xs, hS, hi, hl⟩ | ⟨pre, hSp, c, hi, hl⟩)⟩
    · have hx := run_endLoop (P := P) hl.lp (by rw [hr]; simp)
      rw [hr] at hx
      exact ⟨none, _, hx, hdone _ xs _ (Nat.le_refl _) hS (hI.put hi (by omega) hl.lp) ((World.putObj_heap_other (by omega)).trans hl.df)⟩
    · have hx := run_endLoop (P := P) hl.lp (by rw [hr]; simp)
      rw [hr] at hx
      exact ⟨some c, _, hx, hstop _ c pre _ (Nat.le_refl _) hSp ((hIx c).put hi (by omega) hl.lp) ((World.putObj_heap_other (by omega)).trans hl.df)⟩
  case round =>
    rintro pre x W ⟨hi, hl⟩ hlen hox
    have hy := run_yield (P := P) (args := encs x) hl.lp (by rw [hr]; exact hps x)
    rw [hr] at hy
    refine ⟨fn, _, assign, body, hy, roundIn_of_wpIn hfn (hassign _ pre x W _ hi hox fun a2 W2 hE2 hk2 hax hox2 => ?_)⟩
    have hlW : w.heap.size + 1 < W.heap.size := by have := (Array.getElem?_eq_some_iff.1 hl.lp).1; omega
    have hl' : LoopAt w.heap.size (r .ready none) W2 := hl.below hE2 hlW
    have hi2 : I pre W2 := hI _ _ _ hi (hE2.mono (by omega))
    refine ⟨_, run_beginRound hl'.lp (by rw [hr]), ?_⟩
    have hl2 := hl'.put (r' := { r .ready none with state := .busy })
    refine wpIn_mono (hbody _ pre x a2 _ (hI.put hi2 (by omega) hl'.lp) hlen (hOk _ _ _ _ _ _ hl'.lp rfl hox2) (hAx _ _ _ _ _ _ hl'.lp rfl hax)) ?_
    have hend : ∀ (jump : Option Code) (W3 : World), LoopAt w.heap.size { r .ready none with state := .busy } W3 -> (Instr.endRound (w.heap.size + 1) jump).run P W3 = .ok (.bool jump.isNone) (W3.putObj (w.heap.size + 1) (.loop (r (if jump.isNone then .ready else .done) jump))) := fun jump W3 h3 => by
      have := run_endRound (P := P) jump h3.lp
      rw [hr] at this ⊢; exact this
    rintro e a3 W3 hp
    have leaves : ∀ c : Code, KeepsFrom w.heap.size (W2.putObj (w.heap.size + 1) (.loop { r .ready none with state := .busy })) W3 -> Ix c (pre ++ [x]) W3 ->
        ∃ c', Ix c' (pre ++ [x]) (W3.putObj (w.heap.size + 1) (.loop (r .done (some c)))) /\ LoopAt w.heap.size (r .done (some c')) (W3.putObj (w.heap.size + 1) (.loop (r .done (some c)))) := fun c hk hx => by
      have h3 := hl2.keeps hk
      exact ⟨c, (hIx c).put hx (by omega) h3.lp, h3.put⟩
    cases e with
    | normal =>
      obtain ⟨hk, hkp, hi3⟩ := hp
      have h3 := hl2.keeps hk
      exact ⟨_, _, hend none W3 h3, .inl ⟨rfl, ⟨hI.put hi3 (by omega) h3.lp, h3.put⟩, hKt (hKt (hKt hk2 (hKb _ _ _ _ (by omega) hl'.lp rfl)) hkp) (hKb _ _ _ _ (by omega) h3.lp rfl)⟩⟩
    | ret => exact ⟨_, _, hend (some .ret) W3 (hl2.keeps hp.1), .inr ⟨rfl, leaves _ hp.1 hp.2⟩⟩
    | exit id => exact ⟨_, _, hend (some (.exit id)) W3 (hl2.keeps hp.1), .inr ⟨rfl, leaves _ hp.1 hp.2⟩⟩
    | goto t => exact ⟨_, _, hend (some (.goto t)) W3 (hl2.keeps hp.1), .inr ⟨rfl, leaves _ hp.1 hp.2⟩⟩
    | panic ch => exact hp.elim
    | outgrown => exact hp.elim
end
end Go.Proofs.YtimpejaaeinplaaGreatDoor
namespace Go.Proofs.YtimpejaaeinplaaGreatDoor
open Go.RowKit

def KidP (w : World) (l : List Nat) (e : Ending) (w' : World) : Prop := (∃ a cap, e = .returned (.tuple #[.slice a l.length cap, .int .i64 0]) /\ OwnL cdN w.heap.size w' (.slice a l.length cap) l) /\ Ext w w'
theorem filt_len (p : Nat -> Bool) (k : Nat) : ((List.range k).filter p).length <= k := by
  have := List.length_filter_le p (List.range k)
  rwa [List.length_range] at this
theorem names_yes {t : List TrN} {n k : Nat} (h : classB t n k = true) : namesT t n (k + 1) = namesT t n k ++ [k] := by
  unfold namesT; rw [filt_succ, if_pos h]
theorem names_no {t : List TrN} {n k : Nat} (h : classB t n k = false) : namesT t n (k + 1) = namesT t n k := by
  unfold namesT; rw [filt_succ, if_neg (by rw [h]; exact Bool.false_ne_true), List.append_nil]
end Go.Proofs.YtimpejaaeinplaaGreatDoor
