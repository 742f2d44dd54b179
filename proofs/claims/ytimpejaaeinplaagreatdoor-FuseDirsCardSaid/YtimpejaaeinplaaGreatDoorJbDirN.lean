/- DirN -/
import Derived.Test.YtimpejaaeinplaaGreatDoorJI2
import Derived.Test.YtimpejaaeinplaaGreatDoorJOwnA
namespace Go.Proofs.YtimpejaaeinplaaGreatDoor
open Go.RowKit
def FstS {α : Type} (C : Cd α) : Prop := ∀ {B w x cs}, C.R B w x cs -> ∃ s, cs[0]? = some (.string s)
theorem fstA : FstS cdA := fun h => by subst h; exact ⟨_, rfl⟩
theorem fstS : FstS cdS := fun h => by subst h; exact ⟨_, rfl⟩
theorem fstE : FstS cdE := fun h => by obtain ⟨_, _, rfl⟩ := h; exact ⟨_, rfl⟩
theorem ListIn.keepX {α : Type} {C : Cd α} {B b : Nat} {w W : World} {v : Value} {l : List α} (h : ListIn C B w v l) (hf : FstS C) (hk : KeepBut (some b) w W) (hs : w.heap.size <= W.heap.size)
  (hb : ∀ o s, w.cell? ⟨b, o, none⟩ ≠ some (.string s)) (hR : ∀ x cs, C.R B w x cs -> C.R B W x cs) : ListIn C B W v l := by
 obtain ⟨a, cap, rfl, hcap, hn, hc⟩ := h
 have hne : ∀ k (h : k < l.length) b' off, a = some ⟨b', off, none⟩ -> b' ≠ b := by
  rintro k hk' b' off rfl rfl
  obtain ⟨b2, off2, cs, he, _, hr, hrow⟩ := hc k hk'
  cases he
  obtain ⟨s, h0⟩ := hf hr
  exact hb _ s (hrow 0 _ h0)
 refine ⟨a, cap, rfl, hcap, fun h0 b' hb' => ?_, fun i hi => ?_⟩
 ·obtain ⟨b2, off2, cs2, rfl, _⟩ := hc 0 h0
  cases hb'
  refine (hn h0 b2 rfl).imp_right fun ⟨cs, f, h1⟩ => ⟨cs, f, hk _ _ h1 (fun e => hne 0 h0 b2 off2 rfl (by injection e with e; exact e.symm))⟩
 ·obtain ⟨b2, off2, cs, rfl, hb2, hr, hrow⟩ := hc i hi
  refine ⟨b2, off2, cs, rfl, Nat.lt_of_lt_of_le hb2 hs, hR _ _ hr, fun j u hj => ?_⟩
  rw [cell_keep hk hb2 (fun e => hne i hi b2 off2 rfl (by injection e with e; exact e.symm))]
  exact hrow j u hj
theorem no_str {w : World} {b : Nat} {t : TypeId} {f : Nat × Nat} {a1 a2 a3 : Option Addr} {n1 n2 n3 c1 c2 c3 : Nat} {o : Bool} (h : w.heap[b]? = some (.cells #[.slice a1 n1 c1, .bool o, .slice a2 n2 c2, .slice a3 n3 c3] t f)) : ∀ off s, w.cell? ⟨b, off, none⟩ ≠ some (.string s) := by
 intro off s e
 rw [bC h] at e
 match off, e with
 | 0, e => cases e
 | 1, e => cases e
 | 2, e => cases e
 | 3, e => cases e
 | k + 4, e => simp at e
theorem DirIn.keepX {B b : Nat} {w W : World} {v : Value} {d : DiN} (h : DirIn B w v d) (hk : KeepBut (some b) w W) (hs : w.heap.size <= W.heap.size) (hb : ∀ o s, w.cell? ⟨b, o, none⟩ ≠ some (.string s)) : DirIn B W v d := by
 obtain ⟨va, vr, ve, rfl, h1, h2, h3⟩ := h
 exact ⟨va, vr, ve, rfl, h1.keepX fstA hk hs hb fun _ _ h => h, h2.keepX fstS hk hs hb fun _ _ h => h,
  h3.keepX fstE hk hs hb fun x cs ⟨va, g1, g2⟩ => ⟨va, g1.keepX fstA hk hs hb fun _ _ h => h, g2⟩⟩
end Go.Proofs.YtimpejaaeinplaaGreatDoor
