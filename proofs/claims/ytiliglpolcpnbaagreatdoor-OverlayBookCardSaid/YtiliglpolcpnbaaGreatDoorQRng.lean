/- 'for x := range seq': an iterator that keeps rows of its own between two rounds. Its contract: whatever the caller says is asked to abide every change of the blocks that are laid after the loop has begun. The caller's law. -/
/- Plain law: the directories above a node, as a walk over the nodes keeps them. -/
/- Rows of ints; what lies when cells are kept. -/
import Derived.Test.YtiliglpolcpnbaaGreatDoorQBrnH
import Derived.RangeFuncNested
import Derived.RangeFuncBound
import Derived.RangeFuncCalls
import Derived.RangeFuncLeaves
import Derived.Shelf.RegionOpen
import Derived.WalkKit
import Derived.OwnWalkIn
import Derived.TacticsInMore
import Derived.LoopNIn
import Derived.LoopIn
import Derived.Test.YtiliglpolcpnbaaGreatDoorQBrnC
namespace Go.Proofs.YtiliglpolcpnbaaGreatDoor
open Go.RowKit

/-- It abides whatever changes from block B on. -/
def AbB {β : Type} (B : Nat) (J : β → World → Prop) : Prop := ∀ s W W', J s W → Below B W W' → J s W'
theorem below_put {B : Nat} {W : World} {l : Nat} {o o' : Obj} (h : W.heap[l]? = some o) (hl : B ≤ l) : Below B W (W.putObj l o') :=
  (Below.refl B W).grown (grownBy_putObj' W l o') (by have := (Array.getElem?_eq_some_iff.1 h).1; omega) (fun k e => by cases e; exact hl)
/-- What an iterator does with a round. -/
def SeqB {α : Type} (F : Fence) (n : Nat) (P : Program) (g : Nat) (lb : Array Value) (encs : α → Array Value) (Kp : World → World → Prop) (Ok : List α → α → World → Prop) (S Sp : List α → Prop) (N : Nat) (w : World) : Prop :=
  ∀ (l : Nat) (J Jx : List α → World → Prop) (W : World), Below w.heap.size w W → AbB W.heap.size J → AbB W.heap.size Jx →
    (∀ pre x W1, J pre W1 → pre.length < N → Ok pre x W1 → YieldAt F (n - 1) P l (encs x) W1 fun e W' =>
      (e = .returned (.bool true) ∧ J (pre ++ [x]) W' ∧ Kp W1 W') ∨ (e = .returned (.bool false) ∧ Jx (pre ++ [x]) W')) →
    J [] W →
    CallsIn F n P g (#[.func (.yield l) #[] #[]] ++ lb) W fun e W' => (∃ v, e = .returned v) ∧ ((∃ xs, S xs ∧ J xs W') ∨ (∃ pre, Sp pre ∧ Jx pre W'))
section
variable {F : Fence} {n : Nat} {P : Program}
/-- The loop's record and the block for the rounds' deferred calls. -/
structure LoopAt (B : Nat) (r : Loop) (W : World) : Prop where
  lp : W.heap[B + 1]? = some (.loop r)
  df : W.heap[B]? = some (.deferred (some []))
theorem LoopAt.below {B C : Nat} {r : Loop} {W W' : World} (h : LoopAt B r W) (hb : Below C W W') (hC : B + 1 < C) : LoopAt B r W' := by
  have h1 := h.lp; have h2 := h.df
  exact ⟨(hb.block _ (by omega)).trans h1, (hb.block _ (by omega)).trans h2⟩
theorem LoopAt.keeps {B : Nat} {r : Loop} {W W' : World} (h : LoopAt B r W) (hk : KeepsFrom B W W') : LoopAt B r W' := ⟨hk.same _ _ (by omega) h.lp rfl, hk.same _ _ (Nat.le_refl _) h.df rfl⟩
theorem LoopAt.put {B : Nat} {r r' : Loop} {W : World} (h : LoopAt B r W) : LoopAt B r' (W.putObj (B + 1) (.loop r')) :=
  ⟨World.putObj_heap_same (Array.getElem?_eq_some_iff.1 h.lp).1, (World.putObj_heap_other (by omega)).trans h.df⟩
theorem AbB.put {β : Type} {B l : Nat} {J : β → World → Prop} (hJ : AbB B J) {s : β} {W : World} {o o' : Obj} (h : J s W) (hl : B ≤ l) (ho : W.heap[l]? = some o) : J s (W.putObj l o') := hJ _ _ _ h (below_put ho hl)
end
end Go.Proofs.YtiliglpolcpnbaaGreatDoor

namespace Go.Proofs.YtiliglpolcpnbaaGreatDoor
open Go.RowKit

def stkF (t : List TrN) : Nat → Nat → List Nat
  | 0, _ => []
  | f + 1, i => if i = 0 then [0] else stkF t f (abv t i).toNat ++ [i]
/-- A node and the directories above it, the root first. -/
def stkT (t : List TrN) (i : Nat) : List Nat := stkF t (i + 1) i
theorem stkF_eq (t : List TrN) : ∀ (i f f' : Nat), i < f → i < f' → stkF t f i = stkF t f' i := by
  intro i
  induction i using Nat.strongRecOn with
  | ind i ih =>
    intro f f' h h'
    obtain ⟨g, rfl⟩ : ∃ g, f = g + 1 := ⟨f - 1, by omega⟩
    obtain ⟨g', rfl⟩ : ∃ g, f' = g + 1 := ⟨f' - 1, by omega⟩
    unfold stkF
    by_cases e : i = 0
    · rw [if_pos e, if_pos e]
    · rw [if_neg e, if_neg e]
      have := abv_bd t i
      rw [ih (abv t i).toNat (by omega) g g' (by omega) (by omega)]
theorem stkT_zero (t : List TrN) : stkT t 0 = [0] := rfl
theorem stkT_succ (t : List TrN) (i : Nat) (h : i ≠ 0) : stkT t i = stkT t (abv t i).toNat ++ [i] := by
  have := abv_bd t i
  show stkF t (i + 1) i = _
  rw [stkF.eq_2, if_neg h]
  unfold stkT
  rw [stkF_eq t (abv t i).toNat i ((abv t i).toNat + 1) (by omega) (by omega)]
theorem stkT_last (t : List TrN) (i : Nat) : (stkT t i).getLast? = some i := by
  by_cases h : i = 0
  · subst h; rfl
  · rw [stkT_succ t i h]; simp
/-- Nodes of a smaller number than the found one's are not looked at: those behind it are too deep. -/
theorem abvE_skip {t : List TrN} {d d' : Int} (hd : d ≤ d') : ∀ n, abvE t d n = abvE t d ((abvE t d' n) + 1).toNat
  | 0 => rfl
  | n + 1 => by
    by_cases e : (getT t n).dep < d'
    · rw [abvE.eq_2 t d', if_pos e]; rfl
    · rw [abvE.eq_2 t d', if_neg e, abvE.eq_2 t d, if_neg (by omega)]
      exact abvE_skip hd n
/-- The node before is at most one level higher. -/
theorem dep_step {t : List TrN} {k i : Nat} (h : AllOk t k) (hi : i < k) (h0 : i ≠ 0) : 1 ≤ (getT t i).dep ∧ (getT t i).dep ≤ (getT t (i - 1)).dep + 1 := by
  obtain ⟨si, _⟩ := node_parts (h i hi)
  have h2 := (shape_bd si).2.2.2 h0
  refine ⟨h2.1, Int.le_trans h2.2 ?_⟩
  unfold mostD; split <;> omega
theorem dep_zero {t : List TrN} {k : Nat} (h : AllOk t k) (hk : 0 < k) : (getT t 0).dep = 0 := by
  obtain ⟨s0, _⟩ := node_parts (h 0 hk)
  exact ((shape_bd s0).2.2.1 rfl).1
/-- The search for a smaller depth finds one that is smaller by one. -/
theorem abvE_dep {t : List TrN} {k : Nat} (h : AllOk t k) (d : Int) (hd : 1 ≤ d) : ∀ n, 0 < n → n ≤ k → d ≤ (getT t (n - 1)).dep + 1 → 0 ≤ abvE t d n ∧ (getT t (abvE t d n).toNat).dep = d - 1
  | n + 1, _, hn, hp => by
    unfold abvE
    rw [Nat.add_sub_cancel] at hp
    by_cases e : (getT t n).dep < d
    · rw [if_pos e]; exact ⟨by omega, by rw [Int.toNat_natCast]; omega⟩
    · rw [if_neg e]
      have hn0 : n ≠ 0 := by rintro rfl; have := dep_zero h (by omega); omega
      have := dep_step h (i := n) (by omega) hn0
      exact abvE_dep h d hd n (by omega) (by omega) (by omega)
theorem abv_dep {t : List TrN} {k i : Nat} (h : AllOk t k) (hi : i < k) (h0 : i ≠ 0) : 0 ≤ abv t i ∧ (getT t (abv t i).toNat).dep = (getT t i).dep - 1 := by
  have := dep_step h hi h0
  exact abvE_dep h _ this.1 i (by omega) (by omega) this.2
theorem len_is {t : List TrN} {k : Nat} (h : AllOk t k) : ∀ i, i < k → ((stkT t i).length : Int) = (getT t i).dep + 1 ∧ ((pathT t i).length : Int) = (getT t i).dep := by
  intro i
  induction i using Nat.strongRecOn with
  | ind i ih =>
    intro hi
    by_cases h0 : i = 0
    · subst h0; have := dep_zero h hi; rw [stkT_zero, pathT_zero, this]; exact ⟨rfl, rfl⟩
    · have hb := abv_bd t i
      obtain ⟨h1, h2⟩ := abv_dep h hi h0
      obtain ⟨h3, h4⟩ := ih (abv t i).toNat (by omega) (by omega)
      rw [stkT_succ t i h0, pathT_succ t i h0, List.length_append, List.length_append, List.length_singleton, List.length_singleton]
      omega
/-- What is left of the stack, and of the path, for a node at depth d behind node j. -/
theorem stk_take {t : List TrN} {k : Nat} (h : AllOk t k) (d : Nat) (hd : 1 ≤ d) : ∀ j, j < k → (d : Int) ≤ (getT t j).dep + 1 →
    (stkT t j).take d = stkT t (abvE t d (j + 1)).toNat ∧ (pathT t j).take (d - 1) = pathT t (abvE t d (j + 1)).toNat := by
  intro j
  induction j using Nat.strongRecOn with
  | ind j ih =>
    intro hj hdj
    obtain ⟨l1, l2⟩ := len_is h j hj
    by_cases e : (getT t j).dep < (d : Int)
    · have h1 : abvE t d (j + 1) = j := by unfold abvE; rw [if_pos e]
      rw [h1, Int.toNat_natCast, List.take_of_length_le (by omega), List.take_of_length_le (by omega)]
      exact ⟨rfl, rfl⟩
    · have h0 : j ≠ 0 := by rintro rfl; have := dep_zero h hj; omega
      have hb := abv_bd t j
      obtain ⟨h1, h2⟩ := abv_dep h hj h0
      obtain ⟨l3, l4⟩ := len_is h (abv t j).toNat (by omega)
      have h3 : abvE t d (j + 1) = abvE t d ((abv t j).toNat + 1) := by
        rw [abvE.eq_2, if_neg e, abvE_skip (d' := (getT t j).dep) (by omega) j]
        show abvE t d (abv t j + 1).toNat = _
        rw [show (abv t j + 1).toNat = (abv t j).toNat + 1 by omega]
      rw [h3, stkT_succ t j h0, pathT_succ t j h0, List.take_append_of_le_length (by omega), List.take_append_of_le_length (by omega)]
      exact ih (abv t j).toNat (by omega) (by omega) (by omega)
/-- The step from a node to the next one. -/
theorem stk_step {t : List TrN} {k i : Nat} (h : AllOk t k) (hi : i < k) (h0 : i ≠ 0) :
    (stkT t (i - 1)).take (getT t i).dep.toNat ++ [i] = stkT t i ∧ (pathT t (i - 1)).take ((getT t i).dep.toNat - 1) ++ [(getT t i).nm] = pathT t i ∧
    (getT t i).dep.toNat ≤ (stkT t (i - 1)).length ∧ (getT t i).dep.toNat - 1 ≤ (pathT t (i - 1)).length ∧ ((stkT t (i - 1)).take (getT t i).dep.toNat).getLast? = some (abv t i).toNat := by
  have hs := dep_step h hi h0
  obtain ⟨l1, l2⟩ := len_is h (i - 1) (by omega)
  have hdt : (((getT t i).dep.toNat : Nat) : Int) = (getT t i).dep := by omega
  obtain ⟨h1, h2⟩ := stk_take h (getT t i).dep.toNat (by omega) (i - 1) (by omega) (by omega)
  rw [hdt, Nat.sub_add_cancel (by omega)] at h1 h2
  rw [h1, h2, stkT_succ t i h0, pathT_succ t i h0]
  exact ⟨rfl, rfl, by omega, by omega, stkT_last _ _⟩
end Go.Proofs.YtiliglpolcpnbaaGreatDoor

namespace Go.Proofs.YtiliglpolcpnbaaGreatDoor
open Go.RowKit

/-- Numbers. -/
def cdN : Cd Nat := { t := 44, e := 3, n := 1, bytes := 8, z := .int .i64 0, inner := [], R := fun _ _ x cs => cs = [.int .i64 x] }
theorem okN : CdOk Tryz.prog cdN where
  sl := { und := Tryz.underlying44, info := info_parts (by kernel_rfl), zs := rfl, pos := by decide, small := by decide }
  len := fun h => by subst h; rfl
  one := fun h u hu => by subst h; simp at hu; subst hu; rfl
  chg := fun h _ _ => h
  mono := fun _ h => h
  self := by simp [cdN]
/-- Blocks of cells are kept, but those of numbers between two. -/
structure Kc (B0 B1 : Nat) (W W' : World) : Prop where
  size : W.heap.size ≤ W'.heap.size
  keep : ∀ k cs e f, (k < B0 ∨ B1 ≤ k) → W.heap[k]? = some (.cells cs e f) → W'.heap[k]? = some (.cells cs e f)
theorem Kc.refl (B0 B1 : Nat) (W : World) : Kc B0 B1 W W := ⟨Nat.le_refl _, fun _ _ _ _ _ h => h⟩
theorem Kc.trans {B0 B1 : Nat} {A B C : World} (h : Kc B0 B1 A B) (k : Kc B0 B1 B C) : Kc B0 B1 A C := ⟨Nat.le_trans h.size k.size, fun i cs e f hi hA => k.keep i cs e f hi (h.keep i cs e f hi hA)⟩
theorem Kc.of_ext {B0 B1 : Nat} {W W' : World} (h : Ext W W') : Kc B0 B1 W W' := ⟨h.size, fun _ _ _ _ _ hk => blk_ext h hk⟩
theorem Kc.put {B0 B1 : Nat} {W : World} {l : Nat} {o o' : Obj} (h : W.heap[l]? = some o) (hc : o.isCells = false) : Kc B0 B1 W (W.putObj l o') := by
  refine ⟨(below_put (B := 0) (o' := o') h (Nat.zero_le _)).size, fun k cs e f _ hk => ?_⟩
  by_cases ek : k = l
  · subst ek; rw [h] at hk; cases hk; cases hc
  · exact (World.putObj_heap_other (by omega)).trans hk
/-- All blocks of cells are kept. -/
abbrev KcA (W W' : World) : Prop := Kc 0 0 W W'
theorem Kc.all {B0 B1 : Nat} {W0 W W' : World} (h0 : KcA W0 W) (h : Kc B0 B1 W W') (hB : W0.heap.size ≤ B0) : KcA W0 W' :=
  ⟨Nat.le_trans h0.size h.size, fun k cs e f _ hk => h.keep k cs e f (.inl (Nat.lt_of_lt_of_le (blk_lt hk) hB)) (h0.keep k cs e f (.inr (Nat.zero_le _)) hk)⟩
theorem KcA.cell {W W' : World} (h : KcA W W') {p : Addr} {v : Value} (hp : W.cell? p = some v) : W'.cell? p = some v := by
  unfold World.cell? at hp ⊢
  cases hb : W.heap[p.block]? with
  | none => rw [hb] at hp; cases hp
  | some o =>
    rw [hb] at hp
    cases o with
    | cells cs e f => rw [h.keep _ _ _ _ (.inr (Nat.zero_le _)) hb]; exact hp
    | _ => cases hp
theorem ListIn.kc {α : Type} {C : Cd α} {B : Nat} {W W' : World} {v : Value} {l : List α} (h : ListIn C B W v l) (hk : KcA W W') (hR : ∀ x cs, C.R B W x cs → C.R B W' x cs) : ListIn C B W' v l := by
  obtain ⟨a, cap, rfl, hcap, hn, hc⟩ := h
  refine ⟨a, cap, rfl, hcap, fun h0 b hb => (hn h0 b hb).imp_right fun ⟨cs, f, h1⟩ => ⟨cs, f, hk.keep _ _ _ _ (.inr (Nat.zero_le _)) h1⟩, fun i hi => ?_⟩
  obtain ⟨b, off, cs, rfl, hb, hr, hrow⟩ := hc i hi
  exact ⟨b, off, cs, rfl, Nat.lt_of_lt_of_le hb hk.size, hR _ _ hr, fun j u hj => hk.cell (hrow j u hj)⟩
theorem strIn_kc {B : Nat} {W W' : World} {v : Value} {l : List ByteArray} (h : StrIn B W v l) (hk : KcA W W') : StrIn B W' v l := h.kc hk fun _ _ h => h
theorem attIn_kc {B : Nat} {W W' : World} {v : Value} {l : List Attr} (h : AttIn B W v l) (hk : KcA W W') : AttIn B W' v l := h.kc hk fun _ _ h => h
theorem brIn_kc {B : Nat} {W W' : World} {v : Value} {l : List BrN} (h : BrIn B W v l) (hk : KcA W W') : BrIn B W' v l :=
  h.kc hk fun _ _ ⟨va, vr, h1, h2, h3⟩ => ⟨va, vr, attIn_kc h1 hk, strIn_kc h2 hk, h3⟩
/-- A row of a call's own that lies from B1 on. -/
theorem OwnL.kc {α : Type} {C : Cd α} {B B0 B1 : Nat} {W W' : World} {v : Value} {l : List α} (h : OwnL C B W v l) (hk : Kc B0 B1 W W') (hB : B1 ≤ B) (hR : ∀ x cs, C.R B W x cs → C.R B W' x cs) : OwnL C B W' v l := by
  obtain ⟨css, hl, hR0, ho⟩ := h
  refine ⟨css, hl, fun i h1 h2 => hR _ _ (hR0 i h1 h2), ho.1, ?_⟩
  rcases ho.2 with h1 | ⟨g, cap, cur, rfl, hb, hg, h3⟩
  · exact .inl h1
  · exact .inr ⟨g, cap, cur, rfl, hb, hk.keep _ _ _ _ (.inr (Nat.le_trans hB hb)) hg, h3⟩
end Go.Proofs.YtiliglpolcpnbaaGreatDoor
