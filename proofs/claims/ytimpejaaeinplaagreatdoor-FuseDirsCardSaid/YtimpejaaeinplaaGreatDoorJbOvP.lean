/- OvP OvQ -/
import Derived.Test.YtimpejaaeinplaaGreatDoorJI5
import Derived.Test.YtimpejaaeinplaaGreatDoorJPthW
namespace Go.Proofs.YtimpejaaeinplaaGreatDoor
open Go.RowKit
theorem mkOk1o : MkOk 1 opqW := ⟨by decide +kernel, by decide +kernel, by decide +kernel, by decide +kernel, by decide +kernel⟩
theorem mkOk1r : MkOk 1 reW := ⟨by decide +kernel, by decide +kernel, by decide +kernel, by decide +kernel, by decide +kernel⟩
theorem mkOk1n : MkOk 1 nlW := ⟨by decide +kernel, by decide +kernel, by decide +kernel, by decide +kernel, by decide +kernel⟩
def mk3 (o r n : ByteArray) : List Attr := [(opqW, o), (reW, r), (nlW, n)]
theorem mk3_ok (o r n : ByteArray) : MarksOk 1 (mk3 o r n) := by
 refine ⟨?_, fun m hm => ?_⟩
 ·unfold Dist mk3
  simp only [List.pairwise_cons, List.mem_cons, List.not_mem_nil, or_false, forall_eq_or_imp, forall_eq, false_implies, implies_true, List.Pairwise.nil, and_true]
  exact ⟨⟨ne_or, ne_on⟩, ne_rn⟩
 ·unfold mk3 at hm
  simp only [List.mem_cons, List.not_mem_nil, or_false] at hm
  rcases hm with rfl | rfl | rfl
  ·exact mkOk1o
  ·exact mkOk1r
  ·exact mkOk1n
theorem mk3_size {o r n : ByteArray} (h1 : o.size <= 200) (h2 : r.size <= 200) (h3 : n.size <= 200) : ∀ m ∈ mk3 o r n, m.2.size <= 200 := by
 intro m hm
 unfold mk3 at hm
 simp only [List.mem_cons, List.not_mem_nil, or_false] at hm
 rcases hm with rfl | rfl | rfl <;> assumption
end Go.Proofs.YtimpejaaeinplaaGreatDoor
