/- FarA -/
import Derived.Test.YtbeeoomadnmogaaGreatQI6
import Derived.Test.YtbeeoomadnmogaaGreatQbFarO
import Derived.Test.YtbeeoomadnmogaaGreatQbFarA
import Derived.Test.YtbeeoomadnmogaaGreatQFarA
set_option maxRecDepth 100000
set_option maxHeartbeats 64000000
namespace Go.Proofs.YtbeeoomadnmogaaGreat
open Go.RowKit
theorem zK7 {d:DiN} (h:zWq d):zGH d where
 ats:=fun a ha=>by have:=h.ats.2 a ha;omega
 atl:=by have:=h.ats.1;omega
 red:=fun s hs=>Nat.le_trans (h.red.2 s hs) (by decide)
 ens:=fun x hx=>by
  obtain⟨j,hj,rfl⟩:=List.getElem_of_mem hx
  obtain⟨h4,h5⟩:=h.ens j hj
  exact⟨by omega,fun a ha=>by have:=h5.2 a ha;omega,by have:=h5.1;omega⟩
 len:=by have:=h.len;omega
theorem zPs {x:TrN} (h:zXE 500 [x]):Few 500 x.ats:=(h.ok _ (List.mem_singleton.2 rfl)).1
theorem zLD (B:Nat) (v:Value) (d:DiN) (w:World) (hd:zBK B w v d) (hB:B<=w.heap.size):Calls Tryz.prog 11 #[v] w (zWz (zWq d) w):=by
 obtain⟨va,vr,ve,rfl,ha,hr,he⟩:=hd
 have HA:=hQq ha;have HR:=hQq hr.strs;have HE:=hQq he
 obtain⟨a3,cap3,rfl⟩:=ha.form
 obtain⟨a4,cap4,rfl⟩:=hr.form
 obtain⟨a5,cap5,rfl⟩:=he.form
 clear ha hr he
 have HPT:=hQq (fun W (h:Ext w W)=>zKx _ d.red W (HR.out.ext h))
 by_cases h40:30 < d.ens.length
 case pos=>
  have q1:decide ((30:Int) < (d.ens.length:Int))=true:=decide_eq_true (by omega)
  have q1n:decide (30 < d.ens.length)=true:=decide_eq_true h40
  go_enter Tryz.func11,Tryz.ntmps11
  go_wp2
  go_ret
  exact⟨_,rfl,(fun h=>by cases h),eA _ _⟩
 have q1:decide ((30:Int) < (d.ens.length:Int))=false:=decide_eq_false (by omega)
 have q1n:decide (30 < d.ens.length)=false:=decide_eq_false h40
 have HN40:=hQq h40
 go_enter Tryz.func11,Tryz.ntmps11
 go_wp2_with fail
 refine(HPT.out _ (eA _ _)).mono ?_
 rintro e w1 ⟨r,rfl,hpath,rfl⟩
 cases r
 case true=>
  clear hpath
  go_wp2_with fail
  go_ret
  exact⟨_,rfl,(fun h=>by cases h),eA _ _⟩
 have HFR:=hQq (hpath rfl)
 clear hpath
 go_wp2_with fail
 refine nW (P:=fun W=>Calls _ _ _ W _) _ ?_
 intro W1 hW1
 have QB:Hid (W1.heap[w.heap.size]? = some (.cells #[.slice a3 d.ats.length cap3,.bool d.opq,.slice a4 d.red.length cap4,.slice a5 d.ens.length cap5] 26 (0,0))):=hQq (by rw [hW1];exact bA (bN _ _))
 have HW:Hid (Ext w W1):=hQq (by rw [hW1];exact(eA _ _).trans (eA _ _))
 have HN1:Hid (zCt W1.heap.size W1 (.slice (some ⟨w.heap.size+1,0,none⟩) 1 1) [⟨0,⟨#[]⟩,0,d.ats,⟨#[]⟩,0,0,0⟩]):=hQq (by
  rw [hW1]
  exact(zAn okT _ (⟨0,⟨#[]⟩,0,d.ats,⟨#[]⟩,0,0,0⟩:TrN) (trC ⟨0,⟨#[]⟩,0,d.ats,⟨#[]⟩,0,0,0⟩ _) _ (by simp) ⟨_,(HA.out.ext okA (eA _ _)).mono okA (by simp;omega),rfl⟩))
 clear hW1
 refine(zGZ _ _ _ W1 HN1.out).mono ?_
 rintro e w1 ⟨r,rfl,hfew,rfl⟩
 cases r
 case true=>
  clear hfew
  go_wp2_with fail
  go_ret
  exact⟨_,rfl,(fun h=>by cases h),HW.out⟩
 have HFA:Hid (Few 500 d.ats):=hQq (zPs (hfew rfl))
 clear hfew
 go_wp2_with fail
 go_loopw [3] (fun i w'=>∃ (wi:World) (k:Nat),wi=w'/\k<=d.ens.length/\i= .int .i64 k/\(∀ j (_:j < k) (hj:j < d.ens.length),(d.ens[j]'hj).nm.size<=100/\Few 500 (d.ens[j]'hj).nd.ats)/\Ext W1 wi) (fun i _=>d.ens.length - (intOf i).toNat)
 case atStart=>exact⟨_,0,rfl,Nat.zero_le _,rfl,fun j hj=>absurd hj (by omega),bR _ _⟩
 case round=>
  obtain⟨wi,k,rfl,hk,rfl,hok,hE⟩:=hrel
  have HOK:=hQq hok;have HI:=hQq (HW.out.trans hE)
  have QI:=hQq (bX hE QB.out)
  obtain⟨k0,k1,k2,k3⟩:=b4C QI.out
  have HEI:=hQq hE
  clear hok hE
  by_cases hlt:k < d.ens.length
  case neg=>
   obtain rfl:k=d.ens.length:=by omega
   go_wp2
   go_ret
   exact⟨_,rfl,(fun _=>⟨by have:=HN40.out;omega,HFA.out,HFR.out,fun j hj=>HOK.out j hj hj⟩),HI.out⟩
  obtain⟨b,off,vx,hex,hbx,hva,c0,c1,c2,c3,c4,c5,c6,c7,c8,c9,c10,c11⟩:=(HE.out.ext okE HI.out).en k hlt
  cases hex
  have HVA:=hQq hva
  obtain⟨a6,cap6,rfl⟩:=hva.form
  have HG:Hid (∀ x,x=d.ens[k]'hlt->x.nm.size<=100->Few 500 x.nd.ats->∀ j (_:j < k+1) (hj:j < d.ens.length),(d.ens[j]'hj).nm.size<=100/\Few 500 (d.ens[j]'hj).nd.ats):=hQq (fun x hx h1 h2 j hj hjl=>by
   by_cases e:j=k
   ·subst e;rw [<- hx];exact⟨h1,h2⟩
   ·exact HOK.out j (by omega) hjl)
  obtain⟨x,hx⟩:∃ x,x=d.ens[k]'hlt:=⟨_,rfl⟩
  rw [<- hx] at c0 c1 c2 c3 c4 c5 c6 c7 c8 c9 c10 c11 HVA
  have HX:=hQq hx
  have j1:((k:Nat):Int) < (d.ens.length:Int):=by omega
  have j0:(0:Int)<=(k:Int):=by omega
  clear hx hva
  by_cases g1:100 < x.nm.size
  case pos=>
   have g1':decide ((100:Int) < (x.nm.size:Int))=true:=decide_eq_true (by omega)
   have g1n:decide (100 < x.nm.size)=true:=decide_eq_true g1
   go_wp2
   go_ret
   exact⟨_,rfl,(fun h=>by cases h),HI.out⟩
  have g1':decide ((100:Int) < (x.nm.size:Int))=false:=decide_eq_false (by omega)
  have g1n:decide (100 < x.nm.size)=false:=decide_eq_false g1
  have HN1:Hid (x.nm.size<=100):=hQq (by omega)
  clear g1
  go_wp2_with fail
  refine nW (P:=fun W=>Calls _ _ _ W _) _ ?_
  intro W2 hW2
  have HE2:Hid (Ext wi W2):=hQq (by rw [hW2];exact eA _ _)
  have HN2:Hid (zCt W2.heap.size W2 (.slice (some ⟨wi.heap.size,0,none⟩) 1 1) [x.nd]):=hQq (by
   rw [hW2]
   exact(zAn okT wi x.nd (trC x.nd (.slice a6 x.nd.ats.length cap6)) _ rfl ⟨_,HVA.out.mono okA (by have:=HI.out.size;simp;omega),rfl⟩))
  clear hW2
  refine(zGZ _ _ _ W2 HN2.out).mono ?_
  rintro e w4 ⟨r,rfl,hr,rfl⟩
  cases r
  case true=>
   clear hr
   go_wp2_with fail
   go_ret
   exact⟨_,rfl,(fun h=>by cases h),HI.out.trans HE2.out⟩
  have HFX:=hQq (zPs (hr rfl))
  clear hr
  go_wp2_with fail
  go_roundw
  case rel=>exact⟨_,k+1,rfl,by omega,by go_num,HG.out x HX.out HN1.out HFX.out,HEI.out.trans HE2.out⟩
  case measure=>simp [intOf] <;> omega
end Go.Proofs.YtbeeoomadnmogaaGreat
