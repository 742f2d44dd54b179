/- OpenN OvAs -/
import Derived.Test.YtimpejaaeinplaaGreatDoorJI6
import Derived.Test.YtimpejaaeinplaaGreatDoorJOwnA
namespace Go.Proofs.YtimpejaaeinplaaGreatDoor
open Go.ChangeShapes Go.WideShapes Go.Deep Go.RowKit
theorem choose_list {α : Type} {p : Nat -> α -> Prop} : ∀ (n : Nat), (∀ i, i < n -> ∃ x, p i x) -> ∃ l : List α, l.length = n /\ ∀ i (h : i < l.length), p i (l[i]'h)
 | 0, _ => ⟨[], rfl, fun i h => absurd h (by simp)⟩
 | n + 1, h => by
  obtain ⟨l, h1, h2⟩ := choose_list n (fun i hi => h i (by omega))
  obtain ⟨x, hx⟩ := h n (by omega)
  refine ⟨l ++ [x], by simp [h1], fun i hi => ?_⟩
  by_cases e : i < l.length
  ·have := h2 i e
   rwa [List.getElem_append_left e]
  ·have e2 : i = l.length := by simp at hi; omega
   subst e2
   rw [List.getElem_append_right (Nat.le_refl _)]
   simpa [h1] using hx
theorem addr_plain {w : World} {a : Addr} {v : Value} (h : w.cell? (a.add 0) = some v) : a.spot = none := by
 obtain ⟨b, off, sp⟩ := a
 cases sp with
 | none => rfl
 | some q =>
  simp only [World.cell?, Addr.add, if_true] at h
  split at h
  ·simp at h
  ·cases h
section
variable {H : Type} {enc : TypeId × Value -> H} {w : World} {base : Nat} {spare : Nat -> Bool} {held : Bool} {fuel : Nat} {u : Value} {x : DataW H × List MemPlace}
theorem nb_attrs {l : List Attr} (h : aA w u l) : AttIn w.heap.size w u l := by
 refine attIn_of h fun h0 b hb => .inl (h.block ?_ b hb)
 obtain ⟨a, cap, rfl, _⟩ := h; exact h0
theorem nb_strs {l : List ByteArray} (h : StrsAt w u l) : StrIn w.heap.size w u l := by
 refine strIn_of h fun h0 b hb => .inl ?_
 obtain ⟨a, cap, rfl, _, hc⟩ := h
 have h0 : 0 < l.length := h0
 obtain ⟨b', off, rfl, h1, _⟩ := hc 0 h0
 cases hb; exact h1
end
end Go.Proofs.YtimpejaaeinplaaGreatDoor
namespace Go.Proofs.YtimpejaaeinplaaGreatDoor
open Go.RowKit Go.Extern.Stop Go.Stop Go.Extern
def ErrT (w : World) : Prop := w.cell? ⟨4, 0, none⟩ = some (.iface 241 (.agg #[.pointer (some ⟨14, 109, none⟩)]))
theorem ErrT.ext {w w' : World} (h : ErrT w) (he : Ext w w') : ErrT w' := (eC he (World.block_lt_of_cell? _ _ h)).trans h
abbrev fltV (n e : Int) : Value := .iface 173 (.agg #[.int .i64 n, .int .i64 e])
end Go.Proofs.YtimpejaaeinplaaGreatDoor
