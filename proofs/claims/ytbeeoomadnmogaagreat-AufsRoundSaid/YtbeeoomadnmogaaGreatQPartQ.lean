/- PartQ SetP -/
import Derived.Test.YtbeeoomadnmogaaGreatQI1
import Derived.Test.YtbeeoomadnmogaaGreatQBase
namespace Go.Proofs.YtbeeoomadnmogaaGreat
open Go.RowKit
theorem zSm {l:List UInt8} (h:zHB l=0):l.length<=40:=by
 unfold zHB at h
 split at h
 ·cases h
 ·split at h
  ·cases h
  ·omega
theorem zOi {l:List zAr} (h:zBD l=0):∀ a ∈ l,zA2 a=0:=by
 induction l with
 | nil=>intro a ha;cases ha
 | cons x r ih=>
  unfold zBD at h
  by_cases hx:zA2 x ≠ 0
  ·rw [if_pos hx] at h;exact absurd h hx
  ·rw [if_neg hx] at h
   intro a ha
   rcases List.mem_cons.1 ha with rfl | ha
   ·simpa using hx
   ·exact ih h a ha
theorem zKL {l:List zAr} (h:zBR l=0):l.length<=6/\(∀ a ∈ l,zA2 a=0)/\zVV l=false/\zSG l=false/\zBw l<=288:=by
 unfold zBR at h
 split at h
 ·cases h
 split at h
 ·rename_i h2;exact absurd h h2
 split at h
 ·cases h
 split at h
 ·cases h
 split at h
 ·cases h
 ·rename_i h1 h2 h3 h4 h5
  exact⟨by omega,zOi (by simpa using h2),Bool.eq_false_iff.2 h3,Bool.eq_false_iff.2 h4,by omega⟩
theorem zQ8 {a:zAr} (h:zA2 a=0):zHB (L a.1)=0/\a.2.size<=200:=by
 unfold zA2 at h
 by_cases hk:zHB (L a.1) ≠ 0
 ·rw [if_pos hk] at h;exact absurd h hk
 ·rw [if_neg hk] at h
  split at h
  ·cases h
  ·exact⟨by omega,by omega⟩
def spF (l:List zAr) (x:zAr):Bool:=decide (6 < l.length+1) || decide (288 < zBw (zRU l x))
def spL (l:List zAr) (x:zAr):List zAr:=if spF l x=true then [] else zRU l x
def spE (l:List zAr) (x:zAr):Int:=if spF l x=true then 5 else 0
end Go.Proofs.YtbeeoomadnmogaaGreat
