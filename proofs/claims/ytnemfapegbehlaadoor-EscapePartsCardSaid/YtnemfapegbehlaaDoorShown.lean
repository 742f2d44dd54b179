/- Escape: what every statement asks first: some calls return what the document says. -/
import Derived.Test.YtnemfapegbehlaaDoorKeyR
namespace Go.Proofs.YtnemfapegbehlaaDoor
open Go.RowKit

def shN : ByteArray := ⟨#[46, 119, 104, 46, 97]⟩
def shA : ByteArray := ⟨#[116, 114, 117, 115, 116, 101, 100, 46, 111, 118, 101, 114, 108, 97, 121, 46, 120]⟩
def shM : ByteArray := ⟨#[111, 112, 97, 113, 117, 101]⟩
def shB : ByteArray := ⟨#[116, 114, 117, 115, 116, 101, 100, 46, 111, 118, 101, 114, 108, 97, 121, 46, 111, 118, 101, 114, 108, 97, 121, 46, 111, 112, 97, 113, 117, 101]⟩
theorem sh1 : nmS 3 shN = ⟨#[46, 119, 104, 46, 46, 119, 104, 46, 120, 97]⟩ ∧ nmE 3 shN = 0 := by decide +kernel
theorem sh2 : wtS 3 shN = ⟨#[46, 119, 104, 46, 46, 119, 104, 46, 46, 119, 104, 46, 120, 97]⟩ ∧ wtE 3 shN = 0 := by decide +kernel
theorem sh3 : bkS 3 shN = ⟨#[97]⟩ ∧ bkW 3 shN = 2 ∧ bkE 3 shN = 0 := by decide +kernel
theorem sh4 : atS 1 shA = ⟨#[116, 114, 117, 115, 116, 101, 100, 46, 111, 118, 101, 114, 108, 97, 121, 46, 111, 118, 101, 114, 108, 97, 121, 46, 120]⟩ ∧ atE 1 shA = 0 := by decide +kernel
theorem sh5 : mrS 1 shM = ⟨#[116, 114, 117, 115, 116, 101, 100, 46, 111, 118, 101, 114, 108, 97, 121, 46, 111, 112, 97, 113, 117, 101]⟩ ∧ mrE 1 shM = 0 := by decide +kernel
theorem sh6 : baS 1 shB = ⟨#[116, 114, 117, 115, 116, 101, 100, 46, 111, 118, 101, 114, 108, 97, 121, 46, 111, 112, 97, 113, 117, 101]⟩ ∧ baO 1 shB = false ∧ baE 1 shB = 0 := by decide +kernel
theorem shown (w : World) (hL : Laid w) : RetB Tryd.prog 10 #[] w (.bool true) := by
  unfold RetB
  have HL := Lib.hid hL; clear hL
  have HB : Hid (Ext w w) := Below.refl _ _
  go_enter Tryd.func10, Tryd.ntmps10
  go_wp2_with (first
    | (go_at_call 11; refine (escName 3 shN _ (by decide)).mono ?_; rw [sh1.1, sh1.2]; rintro e w1 ⟨rfl, hb⟩; replace HB := Lib.hid (Ext.trans HB.out hb); clear hb)
    | (go_at_call 13; refine (escWhite 3 shN _ (by decide)).mono ?_; rw [sh2.1, sh2.2]; rintro e w1 ⟨rfl, hb⟩; replace HB := Lib.hid (Ext.trans HB.out hb); clear hb)
    | (go_at_call 15; refine (escBack 3 shN _ (by decide)).mono ?_; rw [sh3.1, sh3.2.1, sh3.2.2]; rintro e w1 ⟨rfl, hb⟩; replace HB := Lib.hid (Ext.trans HB.out hb); clear hb)
    | (go_at_call 17; refine (escAttr 1 shA _ (HL.out.ext HB.out) (by decide)).mono ?_; rw [sh4.1, sh4.2]; rintro e w1 ⟨rfl, hb⟩; replace HB := Lib.hid (Ext.trans HB.out hb); clear hb)
    | (go_at_call 19; refine (escMark 1 shM _ (HL.out.ext HB.out) (by decide)).mono ?_; rw [sh5.1, sh5.2]; rintro e w1 ⟨rfl, hb⟩; replace HB := Lib.hid (Ext.trans HB.out hb); clear hb)
    | (go_at_call 21; refine (escBackAttr 1 shB _ (HL.out.ext HB.out) (by decide)).mono ?_; rw [sh6.1, sh6.2.1, sh6.2.2]; rintro e w1 ⟨rfl, hb⟩; replace HB := Lib.hid (Ext.trans HB.out hb); clear hb))
  go_goals
  go_ret
  exact ⟨rfl, HB.out⟩
end Go.Proofs.YtnemfapegbehlaaDoor
