/- AppN -/
import Derived.Test.YtimpejaaeinplaaGreatDoorJI2
import Derived.Test.YtimpejaaeinplaaGreatDoorJOwnA
namespace Go.Proofs.YtimpejaaeinplaaGreatDoor
open Go.RowKit
section
variable {P : Program} {α : Type} {C : Cd α}
theorem loadCells_zero (a : Addr) (w : World) : (Go.loadCells a 0).run P w = .ok #[] w := by
 simp [Go.loadCells, Go.loadCellsFrom]
theorem run_appN (K : CdOk P C) (ty : TypeId) (B : Nat) (w : World) (ad : Addr) (x : Value) (l : List α) (h2 : ListIn C B w x l) (hB : B <= w.heap.size) (hl : l.length <= 1000000) :
  ∃ a cap w', (Builtin.append_ #[C.t, C.t] ty #[.slice (some ad) 0 0, x]).run P w = .ok (.slice a l.length cap) w' /\ ListIn C B w' (.slice a l.length cap) l /\ Ext w w' := by
 obtain ⟨i, hi, hz, h3, h4⟩ := K.sl.info
 by_cases h0 : l.length = 0
 ·obtain rfl : l = [] := List.length_eq_zero_iff.1 h0
  obtain ⟨a', cap', rfl, _⟩ := h2
  refine ⟨some ad, 0, w, ?_, ⟨_, _, rfl, Nat.le_refl _, fun h => absurd h (by simp [lenV]), fun k hk => absurd hk (by simp)⟩, bR _ _⟩
  cases a' with
  | none => simp [Builtin.append_, run_underlying K.sl.und, sizeOf, typeInfo, hi, Builtin.lenOf, Builtin.firstCells, storeCells]
  | some a' => simp [Builtin.append_, run_underlying K.sl.und, sizeOf, typeInfo, hi, Builtin.lenOf, Builtin.firstCells, storeCells, loadCells_zero]
 ·have h1 : OwnL C B w (.slice none 0 0) [] := OwnL.nil _ _ _
  obtain ⟨v', w', hr, h3', h4', h5, h6⟩ := run_appL K ty _ x [] l w h1 h2 hB (by simpa using hl)
  rw [List.nil_append] at h3'
  have hext : Ext w w' := Below.grown (bR _ _) h4' (Nat.le_refl _) (fun k hk => by cases hk)
  obtain ⟨a6, cap6, rfl⟩ := h3'.form
  refine ⟨a6, cap6, w', ?_, h3'.in K, hext⟩
  rw [<- hr]
  obtain ⟨a', cap', rfl, hcap', _, hc⟩ := h2
  obtain ⟨b, off, cs, rfl, _⟩ := hc 0 (by omega)
  have hsm := K.sl.small
  have hq : ¬ 281474976710656 < Builtin.nextslicecap l.length 0 * i.bytes := by
   unfold Builtin.nextslicecap
   rw [if_pos (by omega), h4]
   have : l.length * C.bytes <= 1000000 * 1000 := Nat.mul_le_mul hl hsm
   omega
  have hq2 : ¬ (9223372036854775807 < l.length /\ i.bytes = 0) := by omega
  simp [Builtin.append_, run_underlying K.sl.und, sizeOf, typeInfo, hi, Builtin.lenOf, Builtin.firstCells, loadCells_zero, h0, hq]
variable {o : Oper} {a : Act} {Kx : Act -> World -> Prop} {Q : Exit -> Act -> World -> Prop}
theorem wp_appN (K : CdOk P C) (s x : Operand) (ho : o.op = .call { callee := .builtin .append, args := #[s, x], argTypes := #[C.t, C.t] })
  (B : Nat) (ad : Addr) (xv : Value) (l : List α) (w : World) (hs : a.eval s = .slice (some ad) 0 0) (hx : a.eval x = xv) (h2 : ListIn C B w xv l) (hB : B <= w.heap.size) (hl : l.length <= 1000000)
  (h : ∀ ar cr w', ListIn C B w' (.slice ar l.length cr) l -> Ext w w' -> Kx (a.put o.dst (.slice ar l.length cr)) w') : o.wp P a w Kx Q := by
 obtain ⟨ar, cr, w', hr, h3, h4⟩ := run_appN K o.type B w ad xv l h2 hB hl
 unfold Oper.wp execOp
 simp only [ho, resolve, invoke, builtin, Sem.run_bind, Sem.run_pure, Result.andThen_ok, List.map_toArray, List.map_cons, List.map_nil, hs, hx, hr]
 exact h ar cr w' h3 h4
end
end Go.Proofs.YtimpejaaeinplaaGreatDoor
