/- FarA AxR -/
import Derived.Test.YtbeeoomadnmogaaGreatQI6
import Derived.Test.YtbeeoomadnmogaaGreatQbFarO
import Derived.Test.YtbeeoomadnmogaaGreatQdOpenN
import Derived.Test.YtbeeoomadnmogaaGreatQbFarA
import Derived.Test.YtbeeoomadnmogaaGreatQAxR
set_option maxRecDepth 100000
set_option maxHeartbeats 64000000
namespace Go.Proofs.YtbeeoomadnmogaaGreat
open Go.RowKit
theorem zIb (B:Nat) (v:Value) (b:List BrN) (w:World) (hv:zC4 B w v b) (hB:B<=w.heap.size) (hzl:b.length * 128<=140737488355328) (hz:∀ x ∈ b,x.ats.length * 32<=140737488355328):Calls Tryz.prog 23 #[v] w (zWz (zXV 500 b) w):=by
 obtain⟨aa,cap,rfl⟩:=hv.form
 have HV:=hQq hv;have HZ:=hQq hz
 clear hv hz
 go_enter Tryz.func23,Tryz.ntmps23
 go_wp2
 go_loop [3] (fun i=>∃ k:Nat,i= .int .i64 k/\k<=b.length/\∀ j (_:j < k) (hj:j < b.length),(b[j]'hj).red.length<=12/\∀ s ∈ (b[j]'hj).red,s.size<=100) (fun i=>b.length - (intOf i).toNat)
 case atStart=>exact⟨0,rfl,Nat.zero_le _,fun j hj=>absurd hj (by omega)⟩
 case round=>
  obtain⟨k,rfl,hk,hs⟩:=hrel
  have HS:=hQq hs;clear hs
  by_cases hlt:k < b.length
  case neg=>
   obtain rfl:k=b.length:=by omega
   go_wp2_with (first
    | (go_at_call 78;refine(zRR B _ _ b HV.out hB hzl HZ.out).mono ?_;rintro e w2 ⟨⟨a5,cap5,rfl,ho⟩,hb2⟩;have HO:=hQq ho;have HB2:=hQq hb2;clear ho hb2)
    | (go_at_call 18;refine(zGZ w.heap.size _ (b.map BrN.toTrN) _ (HO.out.in okT)).mono ?_;rintro e w3 ⟨r,rfl,hr,rfl⟩;have HR:=hQq hr;clear hr)
    | fail)
   go_ret
   refine⟨_,rfl,fun h=>?_,HB2.out⟩
   have h3:=HR.out h
   refine⟨by have:=h3.len;rw [List.length_map] at this;exact this,fun x hx=>?_⟩
   obtain⟨q1,q2,q3⟩:=h3.ok x.toTrN (List.mem_map.2 ⟨x,hx,rfl⟩)
   obtain⟨j,hj,rfl⟩:=List.getElem_of_mem hx
   exact⟨q1,q2,q3,(HS.out j hj hj).1,fun s hs=>Nat.le_trans ((HS.out j hj hj).2 s hs) (by decide)⟩
  obtain⟨bb,off,va,vr,hex,hb,hva,hvr,c0,c1,c2,c3,c4,c5,c6,c7,c8,c9⟩:=HV.out.br k hlt
  cases hex
  have HVR:=hQq hvr.strs
  have HG:Hid (∀ x,x=b[k]'hlt->x.red.length<=12/\(∀ s ∈ x.red,s.size<=100)->∀ j (_:j < k+1) (hj:j < b.length),(b[j]'hj).red.length<=12/\∀ s ∈ (b[j]'hj).red,s.size<=100):=hQq (fun x hx hs j hj hjl=>by
   by_cases e:j=k
   ·subst e;rw [<- hx];exact hs
   ·exact HS.out j (by omega) hjl)
  obtain⟨x,hx⟩:∃ x,x=b[k]'hlt:=⟨_,rfl⟩
  rw [<- hx] at HVR
  have HX:=hQq hx
  have j1:((k:Nat):Int) < (b.length:Int):=by omega
  have j0:(0:Int)<=(k:Int):=by omega
  clear hx hva hvr c0 c1 c2 c3 c4 c5 c6 c7 c8
  go_wp2_with (go_at_call 39;refine(zKx _ x.red w HVR.out).mono ?_;rintro e w1 ⟨r,rfl,hr,rfl⟩;have HR:=hQq hr;clear hr)
  ·go_ret
   exact⟨_,rfl,(fun h=>by cases h),bR _ _⟩
  ·go_round
   case rel=>exact⟨k+1,by go_num,by omega,HG.out x HX.out (HR.out (by first | assumption | exact Bool.eq_false_iff.2 (by assumption)))⟩
   case measure=>simp [intOf] <;> omega
theorem zV7 {b:List BrN} (h:awF b ≠ 0):awL b= []:=by
 rcases zNu b with ⟨e,_⟩ | ⟨_,_,e⟩
 ·exact e
 ·exact absurd e h
end Go.Proofs.YtbeeoomadnmogaaGreat
