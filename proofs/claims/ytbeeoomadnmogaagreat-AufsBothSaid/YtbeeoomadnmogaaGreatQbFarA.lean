/- FarA -/
import Derived.Test.YtbeeoomadnmogaaGreatQI6
import Derived.Handy
import Derived.Test.YtbeeoomadnmogaaGreatQPthW
set_option maxRecDepth 100000
set_option maxHeartbeats 64000000
namespace Go.Proofs.YtbeeoomadnmogaaGreat
open Go.RowKit
theorem zKx (v:Value) (l:List ByteArray) (w:World) (hv:zBY w v l):Calls Tryz.prog 39 #[v] w (zWy (l.length<=12/\∀ s ∈ l,s.size<=100) w):=by
 obtain⟨aa,cap,rfl,hcap,hc⟩:=hv
 have HC:=hQq hc;clear hc
 by_cases h10:12 < l.length
 ·go_enter Tryz.func39,Tryz.ntmps39
  go_wp2
  go_ret
  exact⟨_,rfl,(fun h=>by cases h),rfl⟩
 go_enter Tryz.func39,Tryz.ntmps39
 go_wp2
 go_loop [3] (fun i=>∃ k:Nat,i= .int .i64 k/\k<=l.length/\∀ j (_:j < k) (hj:j < l.length),(l[j]'hj).size<=100) (fun i=>l.length - (intOf i).toNat)
 case atStart=>exact⟨0,rfl,Nat.zero_le _,fun j hj=>absurd hj (by omega)⟩
 case round=>
  obtain⟨k,rfl,hk,hs⟩:=hrel
  have HS:=hQq hs;clear hs
  by_cases hlt:k < l.length
  case neg=>
   obtain rfl:k=l.length:=by omega
   go_wp2
   go_ret
   exact⟨_,rfl,(fun _=>⟨by omega,fun s hs=>by
    obtain⟨j,hj,rfl⟩:=List.getElem_of_mem hs
    exact HS.out j hj hj⟩),rfl⟩
  obtain⟨b,off,hex,hb,c1⟩:=HC.out k hlt
  subst hex
  have HG:Hid (∀ x,x=l[k]'hlt->x.size<=100->∀ j (_:j < k+1) (hj:j < l.length),(l[j]'hj).size<=100):=hQq (fun x hx hs j hj hjl=>by
   by_cases e:j=k
   ·subst e;rw [<- hx];exact hs
   ·exact HS.out j (by omega) hjl)
  obtain⟨x,hx⟩:∃ x,x=l[k]'hlt:=⟨_,rfl⟩
  rw [<- hx] at c1
  have HX:=hQq hx
  have j1:((k:Nat):Int) < (l.length:Int):=by omega
  have j0:(0:Int)<=(k:Int):=by omega
  clear hx
  by_cases g1:100 < x.size
  ·go_wp2
   go_ret
   exact⟨_,rfl,(fun h=>by cases h),rfl⟩
  go_wp2
  go_round
  case rel=>exact⟨k+1,by go_num,by omega,HG.out x HX.out (by omega)⟩
  case measure=>simp [intOf] <;> omega
end Go.Proofs.YtbeeoomadnmogaaGreat
