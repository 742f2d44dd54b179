/- An argument that is a list of attributes, or one attribute. -/
/- An argument that is a tree, or a branch. -/
import Derived.Test.YtiliglpolcpnbaaGreatDoorQBase
import Derived.Deep.Slices
import Derived.Deep.Fields
import Derived.ChangeSame
import Derived.Lib.SmallJoins
import Derived.Test.YtiliglpolcpnbaaGreatDoorQCod
namespace Go.Proofs.YtiliglpolcpnbaaGreatDoor
open Go.ChangeShapes Go.WideShapes Go.Deep Go.RowKit

section
variable {H : Type} {enc : TypeId × Value → H} {P : Program} {w : World} {base : Nat} {spare : Nat → Bool} {held : Bool}
end
end Go.Proofs.YtiliglpolcpnbaaGreatDoor

namespace Go.Proofs.YtiliglpolcpnbaaGreatDoor
open Go.ChangeShapes Go.WideShapes Go.Deep Go.RowKit

theorem choose_list {α : Type} {p : Nat → α → Prop} : ∀ (n : Nat), (∀ i, i < n → ∃ x, p i x) → ∃ l : List α, l.length = n ∧ ∀ i (h : i < l.length), p i (l[i]'h)
  | 0, _ => ⟨[], rfl, fun i h => absurd h (by simp)⟩
  | n + 1, h => by
    obtain ⟨l, h1, h2⟩ := choose_list n (fun i hi => h i (by omega))
    obtain ⟨x, hx⟩ := h n (by omega)
    refine ⟨l ++ [x], by simp [h1], fun i hi => ?_⟩
    by_cases e : i < l.length
    · have := h2 i e
      rwa [List.getElem_append_left e]
    · have e2 : i = l.length := by simp at hi; omega
      subst e2
      rw [List.getElem_append_right (Nat.le_refl _)]
      simpa [h1] using hx
theorem addr_plain {w : World} {a : Addr} {v : Value} (h : w.cell? (a.add 0) = some v) : a.spot = none := by
  obtain ⟨b, off, sp⟩ := a
  cases sp with
  | none => rfl
  | some q =>
    simp only [World.cell?, Addr.add, if_true] at h
    split at h
    · simp at h
    · cases h
section
variable {H : Type} {enc : TypeId × Value → H} {w : World} {base : Nat} {spare : Nat → Bool} {held : Bool} {fuel : Nat} {u : Value} {x : DataW H × List MemPlace}
theorem nb_attrs {l : List Attr} (h : AttrsAt w u l) : AttIn w.heap.size w u l := by
  refine attIn_of h fun h0 b hb => .inl (h.block ?_ b hb)
  obtain ⟨a, cap, rfl, _⟩ := h; exact h0
theorem nb_strs {l : List ByteArray} (h : StrsAt w u l) : StrIn w.heap.size w u l := by
  refine strIn_of h fun h0 b hb => .inl ?_
  obtain ⟨a, cap, rfl, _, hc⟩ := h
  have h0 : 0 < l.length := h0
  obtain ⟨b', off, rfl, h1, _⟩ := hc 0 h0
  cases hb; exact h1
theorem open_strsC (h : DataW.trod enc Tryz.prog w base spare held fuel 39 [u] = some x) : ∃ l, StrsAt w u l := by
  rcases open_slice1 Tryz.underlying39 (by kernel_rfl) h with h0 | ⟨a, len, cap, m, n, V, D, Pl, hcs, _, hl, _, hm, _, hi⟩
  · simp at h0; obtain ⟨rfl, _⟩ := h0; exact ⟨[], ⟨none, 0, rfl, Nat.le_refl _, fun k hk => absurd hk (by simp)⟩⟩
  · simp at hcs; subst hcs
    have hlm : len ≤ m := by rw [hm]; split <;> omega
    obtain ⟨l, h1, h2⟩ := choose_list (p := fun i (y : ByteArray) => w.cell? (a.add i) = some (.string y)) len (by
      intro i hil
      obtain ⟨hc, ht⟩ := hi i (by omega)
      obtain ⟨s0, e0, _⟩ := DataW.trod_string Tryz.underlying9 ht
      simp only [List.cons.injEq, and_true] at e0
      exact ⟨s0, by rw [hc, e0]⟩)
    subst h1
    refine ⟨l, some a, cap, rfl, hl, fun k hk => ?_⟩
    have hsp := addr_plain (h2 0 (by omega))
    obtain ⟨b, off, sp⟩ := a
    obtain rfl : sp = none := hsp
    have c1 := h2 k hk
    rw [Addr.add_lit] at c1
    exact ⟨b, off, rfl, World.block_lt_of_cell? _ _ c1, c1⟩
end
end Go.Proofs.YtiliglpolcpnbaaGreatDoor
