/- Layer 24's far, large, long: whether an argument is more than is looked at. -/
/- Layer 24's example and awake. -/
/- Layer 24's laws: bounds of what is returned. -/
import Derived.Test.YtiliglpolcpnbaaGreatDoorQWlkR
import Derived.Test.YtiliglpolcpnbaaGreatDoorQBsdG
namespace Go.Proofs.YtiliglpolcpnbaaGreatDoor
open Go.RowKit

/-- The call returns a bool; false says something; the world is as it was. -/
def BoolP (P : Prop) (w : World) (e : Ending) (w' : World) : Prop := ∃ r : Bool, e = .returned (.bool r) ∧ (r = false → P) ∧ w = w'
def Few (n : Nat) (l : List Attr) : Prop := l.length ≤ 10 ∧ ∀ a ∈ l, a.1.size ≤ n ∧ a.2.size ≤ n
theorem few_of {l : List Attr} {k n : Nat} (hk : k = l.length) (hl : l.length ≤ 10) (h : ∀ j (_ : j < k) (hj : j < l.length), (l[j]'hj).1.size ≤ n ∧ (l[j]'hj).2.size ≤ n) : Few n l := by
  refine ⟨hl, fun a ha => ?_⟩
  obtain ⟨j, hj, rfl⟩ := List.getElem_of_mem ha
  exact h j (by omega) hj
/-- A tree that is not too large. -/
structure FewT (n : Nat) (t : List TrN) : Prop where
  len : t.length ≤ 130
  ok : ∀ x ∈ t, Few n x.ats ∧ x.nm.size ≤ n ∧ x.dat.size ≤ n
/-- A branch that is not too large. -/
structure FewB (n : Nat) (b : List BrN) : Prop where
  len : b.length ≤ 130
  ok : ∀ x ∈ b, Few n x.ats ∧ x.nm.size ≤ n ∧ x.dat.size ≤ n ∧ x.red.length ≤ 12 ∧ ∀ s ∈ x.red, s.size ≤ n
end Go.Proofs.YtiliglpolcpnbaaGreatDoor

namespace Go.Proofs.YtiliglpolcpnbaaGreatDoor
open Go.RowKit

/-- What awake reads of the tree. -/
structure AwkT (w : World) (g : Nat) : Prop where
  ex : ∃ ga oa ca gb ob cb, w.cell? ⟨g, 3, none⟩ = some (.slice (some ⟨ga, oa, none⟩) 1 ca) ∧ w.cell? ⟨g, 11, none⟩ = some (.slice (some ⟨gb, ob, none⟩) 1 cb) ∧ w.cell? ⟨ga, oa, none⟩ = some (.string ⟨#[98, 115, 100, 46, 98, 115, 100, 46, 120]⟩) ∧ w.cell? ⟨gb, ob, none⟩ = some (.string ⟨#[98, 115, 100, 46, 111, 112, 97, 113, 117, 101]⟩) ∧ w.cell? ⟨gb, ob + 1, none⟩ = some (.string ⟨#[]⟩)
end Go.Proofs.YtiliglpolcpnbaaGreatDoor

namespace Go.Proofs.YtiliglpolcpnbaaGreatDoor
open Go.RowKit

end Go.Proofs.YtiliglpolcpnbaaGreatDoor
