/- The reference's Same and Put. -/
/- The reference's Put. -/
import Derived.Test.YtiliglpolcpnbaaGreatDoorQAttrR
import Derived.Deep.RegionHeld3
namespace Go.Proofs.YtiliglpolcpnbaaGreatDoor
open Go.RowKit

/-- Two slices that hold one list. -/
structure Twin (w : World) (u v : Value) : Prop where
  out : ∃ a, AttrsAt w u a ∧ AttrsAt w v a ∧ a.length ≤ 1000
theorem Twin.ext {w w' : World} {u v : Value} (h : Twin w u v) (he : Ext w w') : Twin w' u v := by
  obtain ⟨a, h1, h2, h3⟩ := h.out
  exact ⟨a, h1.ext he, h2.ext he, h3⟩
end Go.Proofs.YtiliglpolcpnbaaGreatDoor

namespace Go.Proofs.YtiliglpolcpnbaaGreatDoor
open Go.RowKit

def PutSt (l : List Attr) (x : Attr) (k : Nat) : Prop := ∀ j (_ : j < k) (h : j < l.length), L (l[j]'h).1 < L x.1
theorem putA_at (l : List Attr) (x : Attr) (k : Nat) (hk : k ≤ l.length) (h : PutSt l x k) (hx : ∀ hk : k < l.length, ¬ L (l[k]'hk).1 < L x.1) : putA l x = l.take k ++ [x] ++ l.drop k := by
  induction l generalizing k with
  | nil => obtain rfl : k = 0 := by simpa using hk
           rfl
  | cons a r ih =>
    cases k with
    | zero =>
      have := hx (by simp)
      simp only [List.getElem_cons_zero] at this
      simp [putA, this]
    | succ k =>
      have h0 : L a.1 < L x.1 := h 0 (by omega) (by simp)
      have := ih k (by simpa using hk) (fun j hj hl => by have := h (j + 1) (by omega) (by simpa using hl); simpa using this) (fun hk => by have := hx (by simpa using hk); simpa using this)
      simp [putA, h0, this]
theorem AttrsAt.drop {w : World} {b off cap : Nat} {l : List Attr} (h : AttrsAt w (.slice (some ⟨b, off, none⟩) l.length cap) l) (i : Nat) (hi : i < l.length) : AttrsAt w (.slice (some ⟨b, off + i * 2, none⟩) (l.length - i) (cap - i)) (l.drop i) := by
  obtain ⟨a', cap', he, hcap, hc⟩ := h
  cases he
  refine ⟨_, cap - i, by rw [List.length_drop], by rw [List.length_drop]; omega, fun k hk => ?_⟩
  have hk' : i + k < l.length := by rw [List.length_drop] at hk; omega
  obtain ⟨b', off', he, h1, h2, h3⟩ := hc (i + k) hk'
  cases he
  refine ⟨b, off + i * 2, rfl, h1, ?_, ?_⟩
  · rw [List.getElem_drop, ← h2, show off + i * 2 + k * 2 = off + (i + k) * 2 by omega]
  · rw [List.getElem_drop, ← h3, show off + i * 2 + k * 2 + 1 = off + (i + k) * 2 + 1 by omega]
end Go.Proofs.YtiliglpolcpnbaaGreatDoor
