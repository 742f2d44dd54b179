/- NodA -/
import Derived.Test.YtbeeoomadnmogaaGreatQI2
import Derived.Test.YtbeeoomadnmogaaGreatQaEsc
import Derived.Test.YtbeeoomadnmogaaGreatQOwnA
namespace Go.Proofs.YtbeeoomadnmogaaGreat
open Go.RowKit
theorem zGD (v:Value) (l:List ByteArray) (w:World) (hv:zBY w v l) (hm:∀ s ∈ l,s.size<=1000000):Ret Tryz.prog 96 #[v] w (.int .i64 (zAY l)):=by
 unfold Ret
 obtain⟨a,cap,rfl,hcap,hc⟩:=hv
 have HC:=hQq hc;clear hc
 have HM:=hQq hm;clear hm
 by_cases hl:8 < l.length
 ·rw [zIp hl]
  go_enter Tryz.func96,Tryz.ntmps96
  go_wp2
  go_ret
  exact⟨rfl,rfl⟩
 rw [zMz hl]
 go_enter Tryz.func96,Tryz.ntmps96
 go_wp2
 go_loop [3] (fun i=>∃ k:Nat,k<=l.length/\i= .int .i64 k/\zBT (l.take k)=0) (fun i=>l.length - (intOf i).toNat)
 case atStart=>exact⟨0,Nat.zero_le _,rfl,rfl⟩
 case round=>
  obtain⟨k,hk,rfl,hf⟩:=hrel
  have HF:=hQq hf;clear hf
  by_cases hlt:k < l.length
  ·obtain⟨b,off,rfl,hbs,h1⟩:=HC.out k hlt
   have hm1:=HM.out _ (List.getElem_mem hlt)
   by_cases he:zAq (L (l[k]'hlt))=0
   ·have HN:=hQq (zHF l k hlt HF.out he)
    generalize l[k]'hlt=x at h1 hm1 he
    go_wp2_with (go_at_call 38;refine(zI6 _ _ hm1).mono ?_;rintro e w' ⟨rfl,rfl⟩)
    go_round
    case rel=>exact⟨k+1,by omega,by go_num,HN.out⟩
    case measure=>simp [intOf];omega
   ·have HN:=hQq (zIE l k hlt HF.out he)
    have he1:(zAq (L (l[k]'hlt)) != 0)=true:=bne_iff_ne.2 he
    clear he
    generalize l[k]'hlt=x at h1 hm1 he1 HN
    go_wp2_with (go_at_call 38;refine(zI6 _ _ hm1).mono ?_;rintro e w' ⟨rfl,rfl⟩)
    go_ret
    exact⟨by rw [HN.out];rfl,rfl⟩
  ·have HN:Hid (zBT l=0):=by have:=HF.out;rw [List.take_of_length_le (by omega)] at this;exact this
   go_wp2
   go_ret
   exact⟨by rw [HN.out];rfl,rfl⟩
end Go.Proofs.YtbeeoomadnmogaaGreat
