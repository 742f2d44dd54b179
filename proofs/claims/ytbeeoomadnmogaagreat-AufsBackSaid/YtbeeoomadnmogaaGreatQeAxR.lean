/- AxR -/
import Derived.Test.YtbeeoomadnmogaaGreatQI6
import Derived.Handy
import Derived.Test.YtbeeoomadnmogaaGreatQeAfX
namespace Go.Proofs.YtbeeoomadnmogaaGreat
open Go.RowKit
theorem zUW {t:List TrN} (h:zRu t ≠ 0):zWR t= []:=by
 unfold zRu at h
 unfold zWR
 generalize hx:zGw t=x at h
 unfold zGw at hx
 by_cases h1:zAs t ≠ 0
 ·rw [if_pos h1] at hx;subst hx;rfl
 rw [if_neg h1] at hx
 cases hf:zBs (fun i=>zH1 (zC6 t) i != 0) 0 (zC6 t).length with
 | some i=>rw [hf] at hx;subst hx;rfl
 | none=>
  rw [hf] at hx
  have hx:(if awF (zEm t) ≠ 0\/zBW (awL (zEm t)) t=false then (([],((zDz t:Nat):Int),18):List BrN × Int × Int) else (zEm t,0,0))=x:=hx
  by_cases h2:awF (zEm t) ≠ 0\/zBW (awL (zEm t)) t=false
  ·rw [if_pos h2] at hx;subst hx;rfl
  ·rw [if_neg h2] at hx;subst hx;exact absurd rfl h
theorem zSY {b:List BrN} (h:awF b=0):zB1 b=0:=(zHb h).1.br
theorem zXr {b:List BrN} {t:List TrN} (h:awF b=0) (e:awL b=t):awT b=(t,0,0):=by
 have h1:=zTD (zHb h).1
 rw [<- e];unfold awL;rw [h1]
theorem zNy {t:List TrN} (h:zRu t=0):zAs t=0/\∀ i,i < (zC6 t).length->zH1 (zC6 t) i=0:=by
 unfold zRu zGw at h
 by_cases h1:zAs t ≠ 0
 ·rw [if_pos h1] at h;exact absurd h h1
 rw [if_neg h1] at h
 refine⟨Decidable.not_not.1 h1,?_⟩
 cases hf:zBs (fun i=>zH1 (zC6 t) i != 0) 0 (zC6 t).length with
 | some i=>
  rw [hf] at h
  have h:zH1 (zC6 t) i=0:=h
  have:=(zBo _ _ _ hf).1
  simp [h] at this
 | none=>intro i hi;have:=zAC _ _ hf i (Nat.zero_le _) (by omega);simpa using this
theorem zLj {t:List TrN} (h:zRu t=0):zBr (zEm t):=zIo (zNy h).1 (zNy h).2
end Go.Proofs.YtbeeoomadnmogaaGreat
