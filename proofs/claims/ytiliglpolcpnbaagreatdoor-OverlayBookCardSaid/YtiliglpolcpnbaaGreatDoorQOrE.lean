/- limewashref21.Encode, Can. -/
/- Layer 21's example, its raw tree, awake. -/
/- An argument that is a branch, with what the form says of its size. -/
/- Layer 21's laws: bounds of what is returned. -/
import Derived.Test.YtiliglpolcpnbaaGreatDoorQOrA
import Derived.Test.YtiliglpolcpnbaaGreatDoorQOvW
import Derived.Test.YtiliglpolcpnbaaGreatDoorQChkE
import Derived.Test.YtiliglpolcpnbaaGreatDoorQBrnX
import Derived.Test.YtiliglpolcpnbaaGreatDoorQOrN
import Derived.Test.YtiliglpolcpnbaaGreatDoorQBsdG
import Derived.Test.YtiliglpolcpnbaaGreatDoorQOpenA
import Derived.SizedLaws
namespace Go.Proofs.YtiliglpolcpnbaaGreatDoor
open Go.RowKit

section
variable (X : Nat → TrN) (b : List BrN)
end
end Go.Proofs.YtiliglpolcpnbaaGreatDoor

namespace Go.Proofs.YtiliglpolcpnbaaGreatDoor
open Go.RowKit

/-- The branch of the document, and its raw tree. -/
def exO : List BrN :=
  [⟨⟨0, ⟨#[]⟩, 1, [((ofL [116, 114, 117, 115, 116, 101, 100, 46, 111, 118, 101, 114, 108, 97, 121, 46, 120]), ⟨#[]⟩)], ⟨#[]⟩, 0, 0, 0⟩, false, []⟩,
   ⟨⟨1, (ofL [97]), 1, [], ⟨#[]⟩, 0, 0, 0⟩, true, []⟩,
   ⟨⟨2, (ofL [102]), 2, [], (ofL [49]), 0, 0, 1⟩, false, []⟩,
   ⟨⟨1, (ofL [100]), 1, [], ⟨#[]⟩, 0, 0, 0⟩, false, [(ofL [111, 108, 100])]⟩,
   ⟨⟨2, (ofL [103]), 2, [], (ofL [49]), 0, 0, 1⟩, false, []⟩,
   ⟨⟨2, (ofL [119]), 5, [], ⟨#[]⟩, 0, 0, 0⟩, false, []⟩]
def rawO : List TrN :=
  [⟨0, ⟨#[]⟩, 1, [((ofL [116, 114, 117, 115, 116, 101, 100, 46, 111, 118, 101, 114, 108, 97, 121, 46, 111, 118, 101, 114, 108, 97, 121, 46, 120]), ⟨#[]⟩)], ⟨#[]⟩, 0, 0, 0⟩,
   ⟨1, (ofL [97]), 1, [((ofL [116, 114, 117, 115, 116, 101, 100, 46, 111, 118, 101, 114, 108, 97, 121, 46, 111, 112, 97, 113, 117, 101]), (ofL [121]))], ⟨#[]⟩, 0, 0, 0⟩,
   ⟨2, (ofL [102]), 2, [((ofL [116, 114, 117, 115, 116, 101, 100, 46, 111, 118, 101, 114, 108, 97, 121, 46, 110, 108, 105, 110, 107]), (ofL [50]))], (ofL [49]), 0, 0, 1⟩,
   ⟨1, (ofL [100]), 1, [((ofL [116, 114, 117, 115, 116, 101, 100, 46, 111, 118, 101, 114, 108, 97, 121, 46, 114, 101, 100, 105, 114, 101, 99, 116]), (ofL [47, 111, 108, 100]))], ⟨#[]⟩, 0, 0, 0⟩,
   ⟨2, (ofL [103]), 2, [((ofL [116, 114, 117, 115, 116, 101, 100, 46, 111, 118, 101, 114, 108, 97, 121, 46, 110, 108, 105, 110, 107]), (ofL [50]))], (ofL [49]), 0, 0, 1⟩,
   ⟨2, (ofL [119]), 4, [], ⟨#[]⟩, 0, 0, 0⟩]
/-- .. with another nlink; with another mark; with a device. -/
def rawN : List TrN := (rawO.set 2 ⟨2, (ofL [102]), 2, [((ofL [116, 114, 117, 115, 116, 101, 100, 46, 111, 118, 101, 114, 108, 97, 121, 46, 110, 108, 105, 110, 107]), (ofL [51]))], (ofL [49]), 0, 0, 1⟩).set 4 ⟨2, (ofL [103]), 2, [((ofL [116, 114, 117, 115, 116, 101, 100, 46, 111, 118, 101, 114, 108, 97, 121, 46, 110, 108, 105, 110, 107]), (ofL [51]))], (ofL [49]), 0, 0, 1⟩
def rawP : List TrN := rawO.set 1 ⟨1, (ofL [97]), 1, [((ofL [116, 114, 117, 115, 116, 101, 100, 46, 111, 118, 101, 114, 108, 97, 121, 46, 111, 112, 97, 113, 117, 101]), (ofL [110]))], ⟨#[]⟩, 0, 0, 0⟩
def exD : List BrN := exO.set 5 ⟨⟨2, (ofL [119]), 4, [], ⟨#[]⟩, 0, 0, 0⟩, false, []⟩
set_option maxRecDepth 100000 in
theorem exO_enc : oeT exO = (rawO, 0, 0) := by kernel_rfl
set_option maxRecDepth 100000 in
theorem rawO_dec : odT rawO = (exO, 0, 0) := by kernel_rfl
set_option maxRecDepth 100000 in
theorem rawN_dec : odT rawN = ([], 2, 18) := by kernel_rfl
set_option maxRecDepth 100000 in
theorem rawP_dec : odT rawP = ([], 1, 6) := by kernel_rfl
set_option maxRecDepth 100000 in
theorem exD_enc : oeT exD = ([], 5, 16) := by kernel_rfl
theorem exO_small : SmallB exO := by
  refine ⟨?_, ?_, ?_, by decide⟩
  · unfold SmallT; decide
  · decide
  · decide
theorem exD_small : SmallB exD := by
  refine ⟨?_, ?_, ?_, by decide⟩
  · unfold SmallT; decide
  · decide
  · decide
theorem rawO_small : SmallT rawO := by unfold SmallT; decide
theorem rawN_small : SmallT rawN := by unfold SmallT; decide
theorem rawP_small : SmallT rawP := by unfold SmallT; decide
theorem law21one (n v : ByteArray) (w : World) : Calls Tryz.prog 41 #[.string n, .string v] w fun e w' => e = .returned (.slice (some ⟨w.heap.size, 0, none⟩) 1 1) ∧ w' = w.alloc (.cells #[.string n, .string v] 50) := by
  go_enter Tryz.func41, Tryz.ntmps41
  go_wp2
  go_ret
  exact ⟨rfl, rfl⟩
theorem one_in (W w' : World) (n v : ByteArray) (k : Nat) (hk : k = W.heap.size) (he : Ext (W.alloc (.cells #[.string n, .string v] 50)) w') (B : Nat) : AttIn B w' (.slice (some ⟨k, 0, none⟩) 1 1) [(n, v)] :=
  (listIn_new okA W (n, v) [.string n, .string v] k hk rfl).ext okA he
/-- A slice of the call's own, with its block. -/
def NewL {α : Type} (C : Cd α) (w : World) (n : Nat) (l : List α) (e : Ending) (w' : World) : Prop := (∃ g c, e = .returned (.slice (some ⟨g, 0, none⟩) n c) ∧ OwnL C w.heap.size w' (.slice (some ⟨g, 0, none⟩) n c) l ∧ w.heap.size ≤ g ∧ g < w'.heap.size) ∧ Ext w w'

set_option maxRecDepth 100000 in
set_option maxHeartbeats 4000000 in
theorem law21Example (w : World) : Calls Tryz.prog 39 #[] w (NewL cdB w 6 exO) := by
  go_enter Tryz.func39, Tryz.ntmps39
  go_wp2
  go_ret
  have hn : ∀ W : World, AttIn w.heap.size W (.slice none 0 0) [] := fun W => attIn_nil _ _ _
  have hz : ∀ W : World, StrIn w.heap.size W (.slice none 0 0) [] := fun W => ListIn.nil _ _ _ _
  have hs : ((w.alloc (.cells #[.string ⟨#[116, 114, 117, 115, 116, 101, 100, 46, 111, 118, 101, 114, 108, 97, 121, 46, 120]⟩, .string ⟨#[]⟩] 50)).alloc (.cells #[.string ⟨#[111, 108, 100]⟩] 9)).heap.size = w.heap.size + 1 + 1 := by simp
  refine ⟨⟨_, _, rfl, ⟨[brC (getB exO 0) (.slice (some ⟨w.heap.size, 0, none⟩) 1 1) (.slice none 0 0), brC (getB exO 1) (.slice none 0 0) (.slice none 0 0), brC (getB exO 2) (.slice none 0 0) (.slice none 0 0), brC (getB exO 3) (.slice none 0 0) (.slice (some ⟨w.heap.size + 1, 0, none⟩) 1 1), brC (getB exO 4) (.slice none 0 0) (.slice none 0 0), brC (getB exO 5) (.slice none 0 0) (.slice none 0 0)], rfl, fun k h h' => ?_, ?_⟩, by omega, by simp⟩, ((ext_alloc _ _).trans (ext_alloc _ _)).trans (ext_alloc _ _)⟩
  · match k, h with
    | 0, _ => exact ⟨_, _, one_in w _ _ _ _ rfl ((ext_alloc _ _).trans (ext_alloc _ _)) _, hz _, rfl⟩
    | 1, _ => exact ⟨_, _, hn _, hz _, rfl⟩
    | 2, _ => exact ⟨_, _, hn _, hz _, rfl⟩
    | 3, _ => exact ⟨_, _, hn _, (listIn_new okS (w.alloc (.cells #[.string ⟨#[116, 114, 117, 115, 116, 101, 100, 46, 111, 118, 101, 114, 108, 97, 121, 46, 120]⟩, .string ⟨#[]⟩] 50)) (ofL [111, 108, 100]) [.string ⟨#[111, 108, 100]⟩] _ (by simp) rfl).ext okS (ext_alloc _ _), rfl⟩
    | 4, _ => exact ⟨_, _, hn _, hz _, rfl⟩
    | 5, _ => exact ⟨_, _, hn _, hz _, rfl⟩
  · have h := World.ownsRow_lit (base := w.heap.size) (e := 41) (size := 10) ((w.alloc (.cells #[.string ⟨#[116, 114, 117, 115, 116, 101, 100, 46, 111, 118, 101, 114, 108, 97, 121, 46, 120]⟩, .string ⟨#[]⟩] 50)).alloc (.cells #[.string ⟨#[111, 108, 100]⟩] 9)) ([brC (getB exO 0) (.slice (some ⟨w.heap.size, 0, none⟩) 1 1) (.slice none 0 0), brC (getB exO 1) (.slice none 0 0) (.slice none 0 0), brC (getB exO 2) (.slice none 0 0) (.slice none 0 0), brC (getB exO 3) (.slice none 0 0) (.slice (some ⟨w.heap.size + 1, 0, none⟩) 1 1), brC (getB exO 4) (.slice none 0 0) (.slice none 0 0), brC (getB exO 5) (.slice none 0 0) (.slice none 0 0)].flatten.toArray) 6 (by rw [hs]; omega) (by unfold maxLen; omega) rfl
    rw [hs] at h
    exact h
set_option maxRecDepth 100000 in
set_option maxHeartbeats 4000000 in
theorem law21Raw (w : World) : Calls Tryz.prog 40 #[] w (NewL cdT w 6 rawO) := by
  go_enter Tryz.func40, Tryz.ntmps40
  go_wp2_with (go_at_call 41; refine (law21one _ _ _).mono ?_; rintro e w' ⟨rfl, rfl⟩)
  go_ret
  have hs : (((((w.alloc (.cells #[.string ⟨#[116, 114, 117, 115, 116, 101, 100, 46, 111, 118, 101, 114, 108, 97, 121, 46, 111, 118, 101, 114, 108, 97, 121, 46, 120]⟩, .string ⟨#[]⟩] 50)).alloc (.cells #[.string ⟨#[116, 114, 117, 115, 116, 101, 100, 46, 111, 118, 101, 114, 108, 97, 121, 46, 111, 112, 97, 113, 117, 101]⟩, .string ⟨#[121]⟩] 50)).alloc (.cells #[.string ⟨#[116, 114, 117, 115, 116, 101, 100, 46, 111, 118, 101, 114, 108, 97, 121, 46, 110, 108, 105, 110, 107]⟩, .string ⟨#[50]⟩] 50)).alloc (.cells #[.string ⟨#[116, 114, 117, 115, 116, 101, 100, 46, 111, 118, 101, 114, 108, 97, 121, 46, 114, 101, 100, 105, 114, 101, 99, 116]⟩, .string ⟨#[47, 111, 108, 100]⟩] 50)).alloc (.cells #[.string ⟨#[116, 114, 117, 115, 116, 101, 100, 46, 111, 118, 101, 114, 108, 97, 121, 46, 110, 108, 105, 110, 107]⟩, .string ⟨#[50]⟩] 50)).heap.size = w.heap.size + 1 + 1 + 1 + 1 + 1 := by simp
  refine ⟨⟨_, _, rfl, ⟨[trC (getT rawO 0) (.slice (some ⟨w.heap.size, 0, none⟩) 1 1), trC (getT rawO 1) (.slice (some ⟨w.heap.size + 1, 0, none⟩) 1 1), trC (getT rawO 2) (.slice (some ⟨w.heap.size + 1 + 1, 0, none⟩) 1 1), trC (getT rawO 3) (.slice (some ⟨w.heap.size + 1 + 1 + 1, 0, none⟩) 1 1), trC (getT rawO 4) (.slice (some ⟨w.heap.size + 1 + 1 + 1 + 1, 0, none⟩) 1 1), trC (getT rawO 5) (.slice none 0 0)], rfl, fun k h h' => ?_, ?_⟩, by omega, by simp⟩, ((((((ext_alloc _ _).trans (ext_alloc _ _)).trans (ext_alloc _ _)).trans (ext_alloc _ _)).trans (ext_alloc _ _)).trans (ext_alloc _ _))⟩
  · match k, h with
    | 0, _ => exact ⟨_, one_in w _ _ _ _ (by simp) (((((ext_alloc _ _).trans (ext_alloc _ _)).trans (ext_alloc _ _)).trans (ext_alloc _ _)).trans (ext_alloc _ _)) _, rfl⟩
    | 1, _ => exact ⟨_, one_in (w.alloc (.cells #[.string ⟨#[116, 114, 117, 115, 116, 101, 100, 46, 111, 118, 101, 114, 108, 97, 121, 46, 111, 118, 101, 114, 108, 97, 121, 46, 120]⟩, .string ⟨#[]⟩] 50)) _ _ _ _ (by simp) ((((ext_alloc _ _).trans (ext_alloc _ _)).trans (ext_alloc _ _)).trans (ext_alloc _ _)) _, rfl⟩
    | 2, _ => exact ⟨_, one_in ((w.alloc (.cells #[.string ⟨#[116, 114, 117, 115, 116, 101, 100, 46, 111, 118, 101, 114, 108, 97, 121, 46, 111, 118, 101, 114, 108, 97, 121, 46, 120]⟩, .string ⟨#[]⟩] 50)).alloc (.cells #[.string ⟨#[116, 114, 117, 115, 116, 101, 100, 46, 111, 118, 101, 114, 108, 97, 121, 46, 111, 112, 97, 113, 117, 101]⟩, .string ⟨#[121]⟩] 50)) _ _ _ _ (by simp) (((ext_alloc _ _).trans (ext_alloc _ _)).trans (ext_alloc _ _)) _, rfl⟩
    | 3, _ => exact ⟨_, one_in (((w.alloc (.cells #[.string ⟨#[116, 114, 117, 115, 116, 101, 100, 46, 111, 118, 101, 114, 108, 97, 121, 46, 111, 118, 101, 114, 108, 97, 121, 46, 120]⟩, .string ⟨#[]⟩] 50)).alloc (.cells #[.string ⟨#[116, 114, 117, 115, 116, 101, 100, 46, 111, 118, 101, 114, 108, 97, 121, 46, 111, 112, 97, 113, 117, 101]⟩, .string ⟨#[121]⟩] 50)).alloc (.cells #[.string ⟨#[116, 114, 117, 115, 116, 101, 100, 46, 111, 118, 101, 114, 108, 97, 121, 46, 110, 108, 105, 110, 107]⟩, .string ⟨#[50]⟩] 50)) _ _ _ _ (by simp) ((ext_alloc _ _).trans (ext_alloc _ _)) _, rfl⟩
    | 4, _ => exact ⟨_, one_in ((((w.alloc (.cells #[.string ⟨#[116, 114, 117, 115, 116, 101, 100, 46, 111, 118, 101, 114, 108, 97, 121, 46, 111, 118, 101, 114, 108, 97, 121, 46, 120]⟩, .string ⟨#[]⟩] 50)).alloc (.cells #[.string ⟨#[116, 114, 117, 115, 116, 101, 100, 46, 111, 118, 101, 114, 108, 97, 121, 46, 111, 112, 97, 113, 117, 101]⟩, .string ⟨#[121]⟩] 50)).alloc (.cells #[.string ⟨#[116, 114, 117, 115, 116, 101, 100, 46, 111, 118, 101, 114, 108, 97, 121, 46, 110, 108, 105, 110, 107]⟩, .string ⟨#[50]⟩] 50)).alloc (.cells #[.string ⟨#[116, 114, 117, 115, 116, 101, 100, 46, 111, 118, 101, 114, 108, 97, 121, 46, 114, 101, 100, 105, 114, 101, 99, 116]⟩, .string ⟨#[47, 111, 108, 100]⟩] 50)) _ _ _ _ (by simp) (ext_alloc _ _) _, rfl⟩
    | 5, _ => exact ⟨_, attIn_nil _ _ _, rfl⟩
  · have h := World.ownsRow_lit (base := w.heap.size) (e := 43) (size := 8) (((((w.alloc (.cells #[.string ⟨#[116, 114, 117, 115, 116, 101, 100, 46, 111, 118, 101, 114, 108, 97, 121, 46, 111, 118, 101, 114, 108, 97, 121, 46, 120]⟩, .string ⟨#[]⟩] 50)).alloc (.cells #[.string ⟨#[116, 114, 117, 115, 116, 101, 100, 46, 111, 118, 101, 114, 108, 97, 121, 46, 111, 112, 97, 113, 117, 101]⟩, .string ⟨#[121]⟩] 50)).alloc (.cells #[.string ⟨#[116, 114, 117, 115, 116, 101, 100, 46, 111, 118, 101, 114, 108, 97, 121, 46, 110, 108, 105, 110, 107]⟩, .string ⟨#[50]⟩] 50)).alloc (.cells #[.string ⟨#[116, 114, 117, 115, 116, 101, 100, 46, 111, 118, 101, 114, 108, 97, 121, 46, 114, 101, 100, 105, 114, 101, 99, 116]⟩, .string ⟨#[47, 111, 108, 100]⟩] 50)).alloc (.cells #[.string ⟨#[116, 114, 117, 115, 116, 101, 100, 46, 111, 118, 101, 114, 108, 97, 121, 46, 110, 108, 105, 110, 107]⟩, .string ⟨#[50]⟩] 50)) ([trC (getT rawO 0) (.slice (some ⟨w.heap.size, 0, none⟩) 1 1), trC (getT rawO 1) (.slice (some ⟨w.heap.size + 1, 0, none⟩) 1 1), trC (getT rawO 2) (.slice (some ⟨w.heap.size + 1 + 1, 0, none⟩) 1 1), trC (getT rawO 3) (.slice (some ⟨w.heap.size + 1 + 1 + 1, 0, none⟩) 1 1), trC (getT rawO 4) (.slice (some ⟨w.heap.size + 1 + 1 + 1 + 1, 0, none⟩) 1 1), trC (getT rawO 5) (.slice none 0 0)].flatten.toArray) 6 (by rw [hs]; omega) (by unfold maxLen; omega) rfl
    rw [hs] at h
    exact h
/-- Other attributes are stored into a node of the tree. -/
theorem put_ats {B : Nat} {w : World} {g c k : Nat} {l : List TrN} {x : TrN} {u : Value} {a : List Attr} (h : OwnL cdT B w (.slice (some ⟨g, 0, none⟩) l.length c) l) (hk : k < l.length) (hx : l[k]'hk = x) (ha : AttIn B w u a) :
    OwnL cdT B (w.setCell ⟨g, k * 8 + 3, none⟩ u) (.slice (some ⟨g, 0, none⟩) l.length c) (l.set k { x with ats := a }) :=
  (h.store okT k hk 3 (by decide) u { x with ats := a } (fun cs hr => by
    obtain ⟨va, _, rfl⟩ := hr
    rw [hx]; exact ⟨u, ha, rfl⟩)).1
theorem put_kd {B : Nat} {w : World} {g c k : Nat} {l : List BrN} {x : BrN} {n : Int} (h : OwnL cdB B w (.slice (some ⟨g, 0, none⟩) l.length c) l) (hk : k < l.length) (hx : l[k]'hk = x) :
    OwnL cdB B (w.setCell ⟨g, k * 10 + 2, none⟩ (.int .i64 n)) (.slice (some ⟨g, 0, none⟩) l.length c) (l.set k { x with kd := n }) :=
  (h.store okB k hk 2 (by decide) _ { x with kd := n } (fun cs hr => by
    subst hx
    obtain ⟨va, vr, h1, h2, rfl⟩ := hr
    exact ⟨va, vr, h1, h2, rfl⟩)).1
theorem at_ats {B : Nat} {w : World} {g n c : Nat} {l : List TrN} (h : OwnL cdT B w (.slice (some ⟨g, 0, none⟩) n c) l) (k : Nat) (hk : k < l.length) : ∃ u, w.cell? ⟨g, k * 8 + 3, none⟩ = some u ∧ AttIn B w u (l[k]'hk).ats := by
  obtain ⟨b, off, va, e, _, h1, _, _, _, h3, _⟩ := (h.in okT).tr k hk
  cases e
  rw [Nat.zero_add] at h3
  exact ⟨va, h3, h1⟩
theorem at_kd {B : Nat} {w : World} {g n c : Nat} {l : List BrN} (h : OwnL cdB B w (.slice (some ⟨g, 0, none⟩) n c) l) (k : Nat) (hk : k < l.length) : w.cell? ⟨g, k * 10 + 2, none⟩ = some (.int .i64 (l[k]'hk).kd) := by
  obtain ⟨b, off, va, vr, e, _, _, _, _, _, h3, _⟩ := (h.in okB).br k hk
  cases e
  rw [Nat.zero_add] at h3
  exact h3
set_option maxRecDepth 100000 in
set_option maxHeartbeats 8000000 in
theorem law21awake (w : World) (hL : LaidO w) : RetB Tryz.prog 12 #[] w (.bool true) := by
  unfold RetB
  have HL := Lib.hid hL; clear hL
  have HEN := Lib.hid (oe_of exO_enc); have HDE := Lib.hid (od_of rawO_dec); have HDN := Lib.hid (od_of rawN_dec); have HDP := Lib.hid (od_of rawP_dec); have HED := Lib.hid (oe_of exD_enc)
  go_enter Tryz.func12, Tryz.ntmps12
  go_wp2_with fail
  refine (law21Example w).mono ?_
  rintro e w1 ⟨⟨g1, c1, rfl, ho1, hg1, hh1⟩, hb1⟩
  have HO1 := Lib.hid ho1; have B1 := Lib.hid hb1
  clear ho1 hg1 hh1 hb1
  go_wp2_with fail
  refine (ovEncode w.heap.size _ _ exO (HL.out.ext B1.out) (HO1.out.in okB) exO_small).mono ?_
  rintro e w2 ⟨⟨Bq, a2, n2, c2, hBq, rfl, ho2⟩, hb2⟩
  rw [HEN.out.2.1, HEN.out.2.2]
  rw [HEN.out.1] at ho2
  obtain ⟨g2, rfl, hg2, hh2, hn2⟩ := ho2.addr (by decide)
  obtain rfl : n2 = 6 := hn2
  have HO2 := Lib.hid ho2; have B2 := Lib.hid (Ext.trans B1.out hb2)
  clear ho2 hb2 hg2 hh2
  go_wp2_with fail
  refine (law21Raw w2).mono ?_
  rintro e w3 ⟨⟨g3, c3, rfl, ho3, hg3, hh3⟩, hb3⟩
  have HO3 := Lib.hid ho3; have B3 := Lib.hid (Ext.trans B2.out hb3); have HO23 := Lib.hid (HO2.out.ext okT hb3)
  clear ho3 hb3 hg3 hh3
  go_wp2_with fail
  refine (ovDecode w2.heap.size _ _ rawO (HL.out.ext B3.out) (HO3.out.in okT) rawO_small).mono ?_
  rintro e w4 ⟨⟨Br, a4, n4, c4, hBr, rfl, ho4⟩, hb4⟩
  rw [HDE.out.2.1, HDE.out.2.2]
  rw [HDE.out.1] at ho4
  obtain ⟨g4, rfl, hg4, hh4, hn4⟩ := ho4.addr (by decide)
  obtain rfl : n4 = 6 := hn4
  have HO4 := Lib.hid ho4; have B4 := Lib.hid (Ext.trans B3.out hb4); have HO24 := Lib.hid (HO23.out.ext okT hb4); have HBr := Lib.hid (Nat.le_of_lt (Nat.lt_of_le_of_lt hg4 hh4))
  clear ho4 hb4 hg4 hh4
  go_wp2_with fail
  refine (law21Raw w4).mono ?_
  rintro e w5 ⟨⟨g5, c5, rfl, ho5, hg5, hh5⟩, hb5⟩
  have HO5 := Lib.hid ho5; have B5 := Lib.hid (Ext.trans B4.out hb5); have HO25 := Lib.hid (HO24.out.ext okT hb5); have HO45 := Lib.hid (HO4.out.ext okB hb5); have HS45 := Lib.hid hb5.size
  clear ho5 hb5 hg5 hh5
  go_wp2_with fail
  refine (refSameList _ _ _ _ rawO rawO _ (HO25.out.in okT) (HO5.out.in okT) (by decide) (by decide)).mono ?_
  rintro e w6 ⟨rfl, hb6⟩
  rw [sameTB_yes (a := rawO) rfl]
  have B6 := Lib.hid (Ext.trans B5.out hb6); have HO46 := Lib.hid (HO45.out.ext okB hb6); have HS46 := Lib.hid (Nat.le_trans HS45.out hb6.size)
  clear hb6
  go_wp2_with fail
  refine (law21Example w6).mono ?_
  rintro e w7 ⟨⟨g7, c7, rfl, ho7, hg7, hh7⟩, hb7⟩
  have HO7 := Lib.hid ho7; have B7 := Lib.hid (Ext.trans B6.out hb7); have HO47 := Lib.hid (HO46.out.ext okB hb7); have HS47 := Lib.hid (Nat.le_trans HS46.out hb7.size); have HS67 := Lib.hid hb7.size
  clear ho7 hb7 hg7 hh7
  go_wp2_with fail
  refine (refBrSame Br w6.heap.size _ _ exO _ (HO47.out.in okB) (HO7.out.in okB) (Nat.le_trans HBr.out HS47.out) HS67.out (by decide) (by decide) (by decide)).mono ?_
  rintro e w8 ⟨rfl, hb8⟩
  have B8 := Lib.hid (Ext.trans B7.out hb8)
  clear hb8
  go_wp2_with fail
  refine (law21Raw w8).mono ?_
  rintro e w9 ⟨⟨g9, c9, rfl, ho9, hg9, hh9⟩, hb9⟩
  have B9 := Lib.hid (Ext.trans B8.out hb9)
  have HX : Hid (OwnL cdT w8.heap.size (w9.alloc (.cells #[.string ⟨#[116, 114, 117, 115, 116, 101, 100, 46, 111, 118, 101, 114, 108, 97, 121, 46, 110, 108, 105, 110, 107]⟩, .string ⟨#[51]⟩] 50)) (.slice (some ⟨g9, 0, none⟩) 6 c9) rawO) := Lib.hid (ho9.ext okT (ext_alloc _ _))
  have HQ := Lib.hid (fun B => one_in w9 _ _ _ _ rfl (Below.refl _ (w9.alloc (.cells #[.string ⟨#[116, 114, 117, 115, 116, 101, 100, 46, 111, 118, 101, 114, 108, 97, 121, 46, 110, 108, 105, 110, 107]⟩, .string ⟨#[51]⟩] 50))) B)
  obtain ⟨u1, hu1, -⟩ := at_ats HX.out 2 (by decide)
  have f1 := HX.out.frozen (2 * 8 + 3)
  have HG9 := Lib.hid hg9; have HH9 := Lib.hid (Nat.lt_of_lt_of_le hh9 (ext_alloc w9 (.cells #[.string ⟨#[116, 114, 117, 115, 116, 101, 100, 46, 111, 118, 101, 114, 108, 97, 121, 46, 110, 108, 105, 110, 107]⟩, .string ⟨#[51]⟩] 50)).size); have HS89 := Lib.hid hb9.size; have HH8 := Lib.hid hh9; have E9 := Lib.hid hb9
  clear ho9 hb9 hg9 hh9
  go_upto_region 7 with (go_at_call 41; refine (law21one _ _ _).mono ?_; rintro e w' ⟨rfl, rfl⟩)
  refine name_world (P := fun W => Code.wp _ _ _ _ W) _ ?_
  intro W hW
  have HS1 : Hid (OwnL cdT w8.heap.size W (.slice (some ⟨g9, 0, none⟩) 6 c9) (rawO.set 2 ⟨2, (ofL [102]), 2, [((ofL [116, 114, 117, 115, 116, 101, 100, 46, 111, 118, 101, 114, 108, 97, 121, 46, 110, 108, 105, 110, 107]), (ofL [51]))], (ofL [49]), 0, 0, 1⟩)) := Lib.hid (by
    rw [hW]
    first
    | exact put_ats HX.out (k := 2) (by decide) rfl (HQ.out _)
    | (have h := put_ats HX.out (k := 2) (by decide) rfl (HQ.out _)
       rw [World.setCell_alloc_past _ _ _ _ HH8.out] at h
       exact h))
  have E10 : Hid (Ext w8 W) := Lib.hid (by
    rw [hW]
    first
    | exact Below.setCell (p := ⟨g9, 2 * 8 + 3, none⟩) (E9.out.trans (ext_alloc _ _)) HG9.out _
    | exact Below.alloc (Below.setCell (p := ⟨g9, 2 * 8 + 3, none⟩) E9.out HG9.out _) (by simp; exact E9.out.size) _)
  clear hu1 f1 u1 hW
  obtain ⟨u2, hu2, hv2⟩ := at_ats HS1.out 2 (by decide)
  obtain ⟨u4, hu4, -⟩ := at_ats HS1.out 4 (by decide)
  obtain ⟨a2', c2', rfl⟩ := hv2.form
  have HV2 := Lib.hid hv2
  have f4 := HS1.out.frozen (4 * 8 + 3)
  clear hv2
  go_upto_region 8 with fail
  refine name_world (P := fun W => Code.wp _ _ _ _ W) _ ?_
  intro W4 hW4
  have HS2 : Hid (OwnL cdT w8.heap.size W4 (.slice (some ⟨g9, 0, none⟩) 6 c9) rawN) := Lib.hid (by rw [hW4]; exact put_ats HS1.out (k := 4) (by decide) rfl HV2.out)
  have E11 : Hid (Ext w8 W4) := Lib.hid (by rw [hW4]; exact Below.setCell (p := ⟨g9, 4 * 8 + 3, none⟩) E10.out HG9.out _)
  clear hW4 hu2 hu4 f4
  go_wp2_with fail
  refine (ovGood w8.heap.size _ _ rawN (HL.out.ext (B8.out.trans E11.out)) (HS2.out.in okT) rawN_small).mono ?_
  rintro e w10 ⟨rfl, hb10⟩
  rw [HDN.out.2.1, HDN.out.2.2]
  have B10 := Lib.hid (Ext.trans (B8.out.trans E11.out) hb10)
  clear hb10
  go_wp2_with fail
  refine (law21Raw w10).mono ?_
  rintro e w11 ⟨⟨g11, c11, rfl, ho11, hg11, hh11⟩, hb11⟩
  have E12 := Lib.hid hb11; have HH11 := Lib.hid hh11; have HG11 := Lib.hid hg11
  have HX2 : Hid (OwnL cdT w10.heap.size (w11.alloc (.cells #[.string ⟨#[116, 114, 117, 115, 116, 101, 100, 46, 111, 118, 101, 114, 108, 97, 121, 46, 111, 112, 97, 113, 117, 101]⟩, .string ⟨#[110]⟩] 50)) (.slice (some ⟨g11, 0, none⟩) 6 c11) rawO) := Lib.hid (ho11.ext okT (ext_alloc _ _))
  have HQ2 := Lib.hid (fun B => one_in w11 _ _ _ _ rfl (Below.refl _ (w11.alloc (.cells #[.string ⟨#[116, 114, 117, 115, 116, 101, 100, 46, 111, 118, 101, 114, 108, 97, 121, 46, 111, 112, 97, 113, 117, 101]⟩, .string ⟨#[110]⟩] 50))) B)
  obtain ⟨u1, hu1, -⟩ := at_ats HX2.out 1 (by decide)
  have f1 := HX2.out.frozen (1 * 8 + 3)
  clear ho11 hb11 hg11 hh11
  go_upto_region 11 with (go_at_call 41; refine (law21one _ _ _).mono ?_; rintro e w' ⟨rfl, rfl⟩)
  refine name_world (P := fun W => Code.wp _ _ _ _ W) _ ?_
  intro W6 hW6
  have HS3 : Hid (OwnL cdT w10.heap.size W6 (.slice (some ⟨g11, 0, none⟩) 6 c11) rawP) := Lib.hid (by
    rw [hW6]
    first
    | exact put_ats HX2.out (k := 1) (by decide) rfl (HQ2.out _)
    | (have h := put_ats HX2.out (k := 1) (by decide) rfl (HQ2.out _)
       rw [World.setCell_alloc_past _ _ _ _ HH11.out] at h
       exact h))
  have E13 : Hid (Ext w10 W6) := Lib.hid (by
    rw [hW6]
    first
    | exact Below.setCell (p := ⟨g11, 1 * 8 + 3, none⟩) (E12.out.trans (ext_alloc _ _)) HG11.out _
    | exact Below.alloc (Below.setCell (p := ⟨g11, 1 * 8 + 3, none⟩) E12.out HG11.out _) (by simp; exact E12.out.size) _)
  clear hu1 f1 hW6
  go_wp2_with fail
  refine (ovGood w10.heap.size _ _ rawP (HL.out.ext (B10.out.trans E13.out)) (HS3.out.in okT) rawP_small).mono ?_
  rintro e w12 ⟨rfl, hb12⟩
  rw [HDP.out.2.1, HDP.out.2.2]
  have B12 := Lib.hid (Ext.trans (B10.out.trans E13.out) hb12)
  clear hb12
  go_wp2_with fail
  refine (law21Example w12).mono ?_
  rintro e w13 ⟨⟨g13, c13, rfl, ho13, hg13, hh13⟩, hb13⟩
  have HO13 := Lib.hid ho13; have E14 := Lib.hid hb13; have HG13 := Lib.hid hg13
  have k5 := at_kd HO13.out 5 (by decide)
  have f5 := HO13.out.frozen (5 * 10 + 2)
  clear ho13 hb13 hg13 hh13
  go_upto_region 14 with fail
  refine name_world (P := fun W => Code.wp _ _ _ _ W) _ ?_
  intro W8 hW8
  have HS4 : Hid (OwnL cdB w12.heap.size W8 (.slice (some ⟨g13, 0, none⟩) 6 c13) exD) := Lib.hid (by rw [hW8]; exact put_kd HO13.out (k := 5) (by decide) rfl)
  have E15 : Hid (Ext w12 W8) := Lib.hid (by rw [hW8]; exact Below.setCell (p := ⟨g13, 5 * 10 + 2, none⟩) E14.out HG13.out _)
  clear hW8 k5 f5
  go_wp2_with fail
  refine (ovCan w12.heap.size _ _ exD (HL.out.ext (B12.out.trans E15.out)) (HS4.out.in okB) exD_small).mono ?_
  rintro e w14 ⟨rfl, hb14⟩
  rw [HED.out.2.1, HED.out.2.2]
  have B14 := Lib.hid (Ext.trans (B12.out.trans E15.out) hb14)
  clear hb14
  go_wp2
  go_ret
  exact ⟨rfl, B14.out⟩
end Go.Proofs.YtiliglpolcpnbaaGreatDoor

namespace Go.Proofs.YtiliglpolcpnbaaGreatDoor
open Go.ChangeShapes Go.WideShapes Go.Deep Go.RowKit

theorem weights_all {H : Type} {P : Program} {e : TypeId} {l : List (DataW H)} {d : DataW H} (hd : d ∈ l) {n : Nat} (hn : n ∈ d.weights P e) : n ∈ DataW.weightsAll P e l := by
  induction l with
  | nil => cases hd
  | cons x r ih =>
    simp only [DataW.weightsAll, List.mem_append]
    rcases List.mem_cons.1 hd with rfl | hd
    · exact .inl hn
    · exact .inr (ih hd)
section
variable {H : Type} {enc : TypeId × Value → H} {P : Program} {w : World} {base : Nat} {spare : Nat → Bool} {held : Bool}
theorem open_fieldsW {t e : TypeId} {fs : Array Field} {fuel : Nat} {cs : List Value} {x : DataW H × List MemPlace} {N : Nat} (ht : P.underlying t = some (.slice e)) (he : P.underlying e = some (.struct fs))
    (hone : oneCellFields P fs = true) (hC : P.cellsOf e = fs.size) (h : DataW.trod enc P w base spare held fuel t cs = some x) (hw : ∀ n ∈ x.1.weights P t, n ≤ N) :
    cs = [.slice none 0 0] ∨
    ∃ (a : Addr) (len cap _m : Nat), cs = [.slice (some a) len cap] ∧ len ≤ cap ∧ len * P.bytesOf e ≤ N ∧
      ∀ i, i < len → ∃ n : Nat, ∀ (j : Nat) (f : Field), fs[j]? = some f → ∃ (v : Value) (y : DataW H × List MemPlace), w.cell? (a.add (i * fs.size + j)) = some v ∧ DataW.trod enc P w base spare held n f.type [v] = some y ∧ ∀ n ∈ y.1.weights P f.type, n ≤ N := by
  rcases open_slice ht h with h0 | ⟨a, len, cap, m, n, D, Pl, hcs, hb, hl, hm, hmm, hx, hi⟩
  · exact .inl h0.1
  · have hwx : x.1.weights P t = (len + (m - len)) * P.bytesOf e :: (DataW.weightsAll P e ((List.range len).map D) ++ DataW.weightsAll P e ((List.range (m - len)).map fun j => D (len + j))) := by
      rw [hx]; simp [DataW.weights, ht]
    rw [hwx] at hw
    refine .inr ⟨a, len, cap, m, hcs, hl, ?_, fun i him => ?_⟩
    · have := hw _ (List.mem_cons_self ..)
      exact Nat.le_trans (Nat.mul_le_mul_right _ (Nat.le_add_right _ _)) this
    obtain ⟨cs', hc, ht'⟩ := hi i (by rw [hmm]; split <;> omega)
    rw [hC] at hc
    obtain ⟨ys, n', hn', hy, hlen, hyl, hf⟩ := DataW.trod_struct he ht'
    obtain ⟨_, hcl, hat⟩ := World.cells?_some hc
    refine ⟨n', fun j f hj => ?_⟩
    obtain ⟨ho, hk⟩ := hone_of hone j f hj
    have hjl : j < fs.size := (Array.getElem?_eq_some_iff.1 hj).1
    have hcell := hat j hjl
    have hv : cs'[j]? = some (cs'[j]'(by omega)) := List.getElem?_eq_getElem (by omega)
    have h1 := hf j f hj
    rw [ho, hk] at h1
    have hone' : (cs'.drop j).take 1 = [cs'[j]'(by omega)] := by
      rw [List.drop_eq_getElem_cons (by omega)]
      rfl
    rw [hone'] at h1
    have hys : ys[j]? = some (ys[j]'(by omega)) := List.getElem?_eq_getElem (by omega)
    refine ⟨_, _, ?_, h1.trans hys, fun q hq => hw q (List.mem_cons_of_mem _ (List.mem_append_left _ (weights_all (d := D i) (List.mem_map.2 ⟨i, List.mem_range.2 him, rfl⟩) ?_)))⟩
    · rw [← Go.Deep.add_add, hcell, hv]
    · have hD : D i = .agg (ys.map (·.1)) := congrArg Prod.fst hy
      rw [hD]
      simp only [DataW.weights, he]
      refine DataW.weights_mem_each (j := j) (t := f.type) (d := (ys[j]'(by omega)).1) ?_ ?_ q hq
      · rw [List.getElem?_map, Array.getElem?_toList, hj]; rfl
      · rw [List.getElem?_map, hys]; rfl
end
section
variable {H : Type} {enc : TypeId × Value → H} {w : World} {base : Nat} {spare : Nat → Bool} {held : Bool} {fuel : Nat} {u : Value} {x : DataW H × List MemPlace}
set_option maxRecDepth 100000 in
theorem open_attrsW {N : Nat} (h : DataW.trod enc Tryz.prog w base spare held fuel 38 [u] = some x) (hw : ∀ n ∈ x.1.weights Tryz.prog 38, n ≤ N) : ∃ l, AttrsAt w u l ∧ l.length * 32 ≤ N := by
  rcases open_fieldsW Tryz.underlying38 Tryz.underlying50 (by kernel_rfl) (by kernel_rfl) h hw with h0 | ⟨a, len, cap, m, hcs, hl, hm, hi⟩
  · simp at h0; subst h0; exact ⟨[], AttrsAt.nil _ _ _, by simp⟩
  · simp at hcs; subst hcs
    have hm : len * 32 ≤ N := hm
    obtain ⟨l, h1, h2⟩ := choose_list (p := fun i (y : Attr) => w.cell? (a.add (i * 2)) = some (.string y.1) ∧ w.cell? (a.add (i * 2 + 1)) = some (.string y.2)) len (by
      intro i hil
      obtain ⟨n, hf⟩ := hi i (by omega)
      obtain ⟨v0, y0, hc0, ht0, -⟩ := hf 0 _ rfl
      obtain ⟨v1, y1, hc1, ht1, -⟩ := hf 1 _ rfl
      obtain ⟨s0, e0, _⟩ := DataW.trod_string Tryz.underlying9 ht0
      obtain ⟨s1, e1, _⟩ := DataW.trod_string Tryz.underlying9 ht1
      simp only [List.cons.injEq, and_true] at e0 e1
      subst e0 e1
      exact ⟨(s0, s1), hc0, hc1⟩)
    subst h1
    refine ⟨l, ⟨some a, cap, rfl, hl, fun k hk => ?_⟩, hm⟩
    have hsp := addr_plain (by simpa using (h2 0 (by omega)).1)
    obtain ⟨b, off, sp⟩ := a
    obtain rfl : sp = none := hsp
    obtain ⟨c1, c2⟩ := h2 k hk
    rw [Addr.add_lit] at c1 c2
    exact ⟨b, off, rfl, World.block_lt_of_cell? _ _ c1, c1, by rw [← c2, Nat.add_assoc]⟩
set_option maxRecDepth 100000 in
theorem open_nodesW {N : Nat} (h : DataW.trod enc Tryz.prog w base spare held fuel 22 [u] = some x) (hw : ∀ n ∈ x.1.weights Tryz.prog 22, n ≤ N) : ∃ l, BrIn w.heap.size w u l ∧ ∀ y ∈ l, y.ats.length * 32 ≤ N := by
  rcases open_fieldsW Tryz.underlying22 Tryz.underlying41 (by kernel_rfl) (by kernel_rfl) h hw with h0 | ⟨a, len, cap, m, hcs, hl, hm, hi⟩
  · simp at h0; subst h0; exact ⟨[], ListIn.nil _ _ _ _, fun y hy => by cases hy⟩
  · simp at hcs; subst hcs
    obtain ⟨l, h1, h2⟩ := choose_list (p := fun i (y : BrN × Value × Value) => y.1.ats.length * 32 ≤ N ∧ AttIn w.heap.size w y.2.1 y.1.ats ∧ StrIn w.heap.size w y.2.2 y.1.red ∧ ∀ j c, (brC y.1 y.2.1 y.2.2)[j]? = some c → w.cell? (a.add (i * 10 + j)) = some c) len (by
      intro i hil
      obtain ⟨n, hf⟩ := hi i (by omega)
      obtain ⟨v0, y0, hc0, ht0, hz0⟩ := hf 0 _ rfl
      obtain ⟨v1, y1, hc1, ht1, hz1⟩ := hf 1 _ rfl
      obtain ⟨v2, y2, hc2, ht2, hz2⟩ := hf 2 _ rfl
      obtain ⟨v3, y3, hc3, ht3, hz3⟩ := hf 3 _ rfl
      obtain ⟨v4, y4, hc4, ht4, hz4⟩ := hf 4 _ rfl
      obtain ⟨v5, y5, hc5, ht5, hz5⟩ := hf 5 _ rfl
      obtain ⟨v6, y6, hc6, ht6, hz6⟩ := hf 6 _ rfl
      obtain ⟨v7, y7, hc7, ht7, hz7⟩ := hf 7 _ rfl
      obtain ⟨v8, y8, hc8, ht8, hz8⟩ := hf 8 _ rfl
      obtain ⟨v9, y9, hc9, ht9, hz9⟩ := hf 9 _ rfl
      obtain ⟨s0, e0, _⟩ := DataW.trod_int Tryz.underlying3 ht0
      obtain ⟨s1, e1, _⟩ := DataW.trod_string Tryz.underlying9 ht1
      obtain ⟨s2, e2, _⟩ := DataW.trod_int Tryz.underlying3 ht2
      obtain ⟨s3, e3, k3⟩ := open_attrsW ht3 hz3
      obtain ⟨s4, e4, _⟩ := DataW.trod_string Tryz.underlying9 ht4
      obtain ⟨s5, e5, _⟩ := DataW.trod_int Tryz.underlying3 ht5
      obtain ⟨s6, e6, _⟩ := DataW.trod_int Tryz.underlying3 ht6
      obtain ⟨s7, e7, _⟩ := DataW.trod_int Tryz.underlying3 ht7
      obtain ⟨s8, e8, _⟩ := DataW.trod_bool Tryz.underlying4 ht8
      obtain ⟨s9, e9⟩ := open_strsC ht9
      simp only [List.cons.injEq, and_true] at e0 e1 e2 e4 e5 e6 e7 e8
      subst e0 e1 e2 e4 e5 e6 e7 e8
      refine ⟨(⟨⟨s0, s1, s2, s3, s4, s5, s6, s7⟩, s8, s9⟩, v3, v9), k3, nb_attrs e3, nb_strs e9, fun j c hj => ?_⟩
      match j, hj with
      | 0, hj => cases hj; exact hc0
      | 1, hj => cases hj; exact hc1
      | 2, hj => cases hj; exact hc2
      | 3, hj => cases hj; exact hc3
      | 4, hj => cases hj; exact hc4
      | 5, hj => cases hj; exact hc5
      | 6, hj => cases hj; exact hc6
      | 7, hj => cases hj; exact hc7
      | 8, hj => cases hj; exact hc8
      | 9, hj => cases hj; exact hc9
      | j + 10, hj => simp [brC] at hj)
    subst h1
    have hsp : 0 < l.length → a.spot = none := fun h0 => addr_plain (by simpa using (h2 0 h0).2.2.2 0 _ rfl)
    have hlm : l.length = (l.map Prod.fst).length := by simp
    refine ⟨l.map Prod.fst, ⟨some a, cap, by rw [hlm], by rw [← hlm]; exact hl, fun h0 b hb => .inl ?_, fun k hk => ?_⟩, fun y hy => ?_⟩
    · have h0 : 0 < l.length := h0
      have hc := (h2 0 h0).2.2.2 0 _ rfl
      have hs := hsp h0
      obtain ⟨b', off, sp⟩ := a
      obtain rfl : sp = none := hs
      cases hb
      rw [Addr.add_lit] at hc
      exact World.block_lt_of_cell? _ _ hc
    · have hk' : k < l.length := by rw [hlm]; exact hk
      have hs := hsp (by omega)
      obtain ⟨b, off, sp⟩ := a
      obtain rfl : sp = none := hs
      obtain ⟨-, h3, h3', h4⟩ := h2 k hk'
      have hc := h4 0 _ rfl
      rw [Addr.add_lit] at hc
      refine ⟨b, off, brC (l[k]'hk').1 (l[k]'hk').2.1 (l[k]'hk').2.2, rfl, World.block_lt_of_cell? _ _ hc, ⟨_, _, by rw [List.getElem_map]; exact h3, by rw [List.getElem_map]; exact h3', by rw [List.getElem_map]⟩, fun j c hj => ?_⟩
      have := h4 j c hj
      rw [Addr.add_lit] at this
      rw [← this, Nat.add_assoc]; rfl
    · obtain ⟨z, hz, rfl⟩ := List.mem_map.1 hy
      obtain ⟨k, hk, rfl⟩ := List.getElem_of_mem hz
      exact (h2 k hk).1
end
set_option maxRecDepth 100000 in
theorem open_nodesS {H : Type} {enc : TypeId × Value → H} {w : World} {base : Nat} {spare : Nat → Bool} {held : Bool} {v : Value} {d : DataW H} {p : List MemPlace} {N : Nat}
    (hval : Value.okWide Tryz.prog w .any base 22 v) (h : DataW.Trod enc Tryz.prog w 0 spare held 22 v d p) (hw : ∀ n ∈ d.weights Tryz.prog 22, n ≤ N) : ∃ l, BrIn w.heap.size w v l ∧ ∀ y ∈ l, y.ats.length * 32 ≤ N := by
  obtain ⟨a0, len0, cap0, rfl⟩ := okWide_slice Tryz.underlying22 hval
  obtain ⟨fuel, hf⟩ := h
  exact open_nodesW (x := (d, p)) (by simpa [Value.cells] using hf) hw
end Go.Proofs.YtiliglpolcpnbaaGreatDoor

namespace Go.Proofs.YtiliglpolcpnbaaGreatDoor
open Go.RowKit

theorem fewB_smallO {n : Nat} (hn : n ≤ 500) {b : List BrN} (h : FewB n b) : SmallB b := by
  have hl := h.len
  refine small_of (by omega) fun x hx => ?_
  obtain ⟨h1, h2, h3, h4, h5⟩ := h.ok x hx
  exact ⟨by omega, by have := h1.1; omega, fun a ha => by have := h1.2 a ha; omega, by omega, fun s hs => by have := h5 s hs; omega⟩
theorem gen_nil {b : List BrN} {E : Nat → Int} {X : Nat → TrN} (h : (genT b E X).2.2 ≠ 0) : (genT b E X).1 = [] := by
  by_cases h1 : brEr b = 0
  case neg => rw [gen_br h1]
  cases hf : findB (fun i => E i != 0) 0 b.length with
  | some i => unfold genT; rw [if_neg (by simp [h1]), hf]
  | none => exact absurd (by rw [gen_ok h1 (fun j hj => bne_eq_false_iff_eq.1 (findB_none_iff _ _ hf j (Nat.zero_le _) (by omega)))]) h
/-- What is written is not too long. -/
theorem oeL_small {b : List BrN} (hs : SmallB b) : SmallT (oeL b) := by
  by_cases h : oeF b = 0
  case neg =>
    have : oeL b = [] := gen_nil h
    rw [this]; intro x hx; cases hx
  have ht := (oe_back h).1
  obtain ⟨h1, h2, h3, h4⟩ := oe_parts h
  intro x hx
  obtain ⟨k, hk, rfl⟩ := List.getElem_of_mem hx
  have hc := getT_chk ht hk
  rw [getT_at _ k hk] at hc
  refine ⟨?_, (fun a ha => by have := size_of_chk hc a ha; omega), by have := (chk_parts hc).1; omega⟩
  have hkb : k < b.length := by rw [h3] at hk; simpa using hk
  have hg : (oeL b)[k]'hk = oeX b k := by simp only [h3, List.getElem_map, List.getElem_range]
  rw [hg, (oe_says h hkb).nm]
  have hm : (getB b k).toTrN ∈ plT b := by
    rw [← getT_plT b k hkb, getT_at _ k (by rw [plT_len]; exact hkb)]; exact List.getElem_mem _
  exact (hs.tree _ hm).1
end Go.Proofs.YtiliglpolcpnbaaGreatDoor
