/- Plain notions that all later texts share: byte strings as lists of bytes, and small facts on them. -/
import Derived.Test.YtnemfapegbehlaaDoorRows
import Derived.WalkKit
import Derived.WalkSpells
import Derived.WalkLawsBesides
import Derived.Lib.Hide
namespace Go.Proofs.YtnemfapegbehlaaDoor
open Go.RowKit

/-- The bytes of a string, and the string of bytes. -/
def L (s : ByteArray) : List UInt8 := s.data.toList
def ofL (l : List UInt8) : ByteArray := ⟨l.toArray⟩

theorem L_ofL (l : List UInt8) : L (ofL l) = l := rfl
theorem ofL_L (s : ByteArray) : ofL (L s) = s := rfl
theorem L_inj {a b : ByteArray} (h : L a = L b) : a = b := by rw [← ofL_L a, ← ofL_L b, h]
theorem L_eq_iff {a b : ByteArray} : L a = L b ↔ a = b := ⟨L_inj, fun h => by rw [h]⟩
theorem size_L (s : ByteArray) : s.size = (L s).length := by
  obtain ⟨⟨l⟩⟩ := s; rfl
theorem size_ofL (l : List UInt8) : (ofL l).size = l.length := by rw [size_L, L_ofL]
theorem toList_L (s : ByteArray) : s.toList = L s := ByteArray.toList_eq s
theorem L_extract (s : ByteArray) (a b : Nat) : L (s.extract a b) = ((L s).drop a).take (b - a) := by
  simp [L, List.extract_eq_take_drop]
theorem L_drop (s : ByteArray) (a : Nat) : L (s.extract a s.size) = (L s).drop a := by
  rw [L_extract, List.take_of_length_le]; rw [List.length_drop, size_L]; exact Nat.le_refl _
theorem L_take (s : ByteArray) (b : Nat) : L (s.extract 0 b) = (L s).take b := by
  rw [L_extract]; simp
theorem L_append (a b : ByteArray) : L (a ++ b) = L a ++ L b := by
  simp [L]
theorem getElem_L (s : ByteArray) (k : Nat) (h : k < s.size) : s[k]'h = (L s)[k]'(by rw [← size_L]; exact h) := by
  obtain ⟨⟨l⟩⟩ := s; rfl

theorem ret_val {a b : Value} (h : a = b) : Ending.returned a = .returned b := by rw [h]
theorem str_eq {a b : ByteArray} (h : L a = L b) : Value.string a = .string b := by rw [L_inj h]

/-- The call returns the value, and the world is as it was. -/
def Ret (P : Program) (f : FuncId) (args : Array Value) (w : World) (v : Value) : Prop :=
  Calls P f args w fun e w' => e = .returned v ∧ w = w'
/-- The call returns the value; what was there is as it was. -/
def RetB (P : Program) (f : FuncId) (args : Array Value) (w : World) (v : Value) : Prop :=
  Calls P f args w fun e w' => e = .returned v ∧ Below w.heap.size w w'
theorem Ret.toB {P : Program} {f : FuncId} {args : Array Value} {w : World} {v : Value} (h : Ret P f args w v) : RetB P f args w v :=
  Calls.mono h fun _ _ ⟨a, b⟩ => ⟨a, b ▸ Below.refl _ _⟩

theorem bcell {W w1 : World} {B : Nat} (hb : Below B W w1) : (∀ b o, b < B → w1.cell? ⟨b, o, none⟩ = W.cell? ⟨b, o, none⟩) ∧ (∀ b o, b < B → w1.frozen? ⟨b, o, none⟩ = W.frozen? ⟨b, o, none⟩) :=
  ⟨fun b o h => hb.cell (p := ⟨b, o, none⟩) h, fun b o h => hb.frozen (p := ⟨b, o, none⟩) h⟩
end Go.Proofs.YtnemfapegbehlaaDoor
