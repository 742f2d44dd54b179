/- AfX -/
import Derived.Test.YtbeeoomadnmogaaGreatQI5
import Derived.Test.YtbeeoomadnmogaaGreatQAfM3
namespace Go.Proofs.YtbeeoomadnmogaaGreat
open Go.RowKit
noncomputable def zRu (t:List TrN):Int:=(zGw t).2.2
noncomputable def zWR (t:List TrN):List BrN:=(zGw t).1
theorem zV8 {t:List TrN} {x:List BrN} {y z:Int} (h:zGw t=(x,y,z)):zWR t=x/\(zGw t).2.1=y/\zRu t=z:=by unfold zWR zRu;rw [h];exact⟨rfl,rfl,rfl⟩
theorem zO0 {a b:List TrN} (h:zBW a b ≠ false):a=b:=by
 unfold zBW at h
 exact Classical.byContradiction fun e=>h (by rw [decide_eq_false_iff_not];exact e)
theorem zJx {P:BrN->For->Prop} {Q:BrN->Prop} (h:∀ x k d,P x k->Q (x.at d)):∀ {f:For} {d:Int},zCT P f->∀ y ∈ flt d f,Q y
 | .nil,_,_,y,hy=>by cases hy
 | .node x k r,d,hp,y,hy=>by
  rw [zBe] at hy
  rcases List.mem_cons.1 hy with rfl | hy
  ·exact h x k d hp.1
  ·rcases List.mem_append.1 hy with hy | hy
   ·exact zJx h hp.2.1 y hy
   ·exact zJx h hp.2.2 y hy
theorem zV6 {b:List BrN} (h:awF b=0):∀ y ∈ b,y.red= []:=by
 obtain⟨hk,_⟩:=zHb h
 obtain⟨x,f,e,hs,h0,h1,_⟩:=zDf (zAp hk.br).1
 obtain⟨_,hc⟩:=zBN hk.br hk.dirs e hs
 obtain⟨ha,hr⟩:=zHp hk.dirs e h0 h1
 intro y hy
 rw [e] at hy
 rcases List.mem_cons.1 hy with rfl | hy
 ·have:=(zCp ha).2.1
  rw [show (zAo b 0).red=y.red from(congrArg BrN.red (zAM hr).2).trans rfl] at this
  exact this
 ·exact zJx (P:=zGJ) (Q:=fun y=>y.red= []) (fun x k d hc=>hc.2.1) hc y hy
theorem zS1 {t:List TrN} (h:zRu t=0):zGw t=(zEm t,0,0)/\awF (zEm t)=0/\awL (zEm t)=t/\zAs t=0/\∀ y ∈ zEm t,y.red= []:=by
 unfold zRu at h
 unfold zGw at h ⊢
 by_cases h1:zAs t=0
 case neg=>rw [if_pos h1] at h;exact absurd h h1
 rw [if_neg (by rw [h1];decide)] at h ⊢
 cases hf:zBs (fun i=>zH1 (zC6 t) i != 0) 0 (zC6 t).length with
 | some i=>
  rw [hf] at h
  exact absurd h (bne_iff_ne.1 (zBo _ _ _ hf).1)
 | none=>
  rw [hf] at h
  have h:(if awF (zEm t) ≠ 0\/zBW (awL (zEm t)) t=false then (([],(zDz t:Int),18):List BrN × Int × Int) else (zEm t,0,0)).2.2=0:=h
  by_cases h2:awF (zEm t) ≠ 0\/zBW (awL (zEm t)) t=false
  ·rw [if_pos h2] at h;cases h
  have h3:awF (zEm t)=0:=Decidable.not_not.1 fun e=>h2 (.inl e)
  refine⟨?_,h3,zO0 fun e=>h2 (.inr e),h1,zV6 h3⟩
  show (if awF (zEm t) ≠ 0\/zBW (awL (zEm t)) t=false then _ else _)=_
  rw [if_neg h2]
end Go.Proofs.YtbeeoomadnmogaaGreat
