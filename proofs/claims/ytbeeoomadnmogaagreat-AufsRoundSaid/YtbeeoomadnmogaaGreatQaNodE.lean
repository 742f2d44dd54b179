/- NodE -/
import Derived.Test.YtbeeoomadnmogaaGreatQI2
import Derived.Test.YtbeeoomadnmogaaGreatQaNodC
import Derived.Test.YtbeeoomadnmogaaGreatQaNodB
set_option maxRecDepth 100000
set_option maxHeartbeats 64000000
namespace Go.Proofs.YtbeeoomadnmogaaGreat
open Go.RowKit
theorem zEy (B:Nat) (v:Value) (t:List TrN) (w:World) (hv:zCt B w v t) (hsm:zAP t) :
  zAt Tryz.prog 25 #[v] w (.tuple #[.int .i64 (zFp t),.int .i64 (zAs t)]):=by
 unfold zAt
 obtain⟨aa,cap,rfl⟩:=hv.form
 have HV:=hQq hv;clear hv
 have HSM:=hQq hsm;clear hsm
 have HAT:Hid (∀ x ∈ t,x.ats.length<=1000000):=fun x hx=>(HSM.out x hx).2.2
 by_cases h0:t.length=0
 ·obtain⟨e1,e2⟩:=zBj (zKa h0)
  rw [e1,e2];clear e1 e2
  go_enter Tryz.func25,Tryz.ntmps25
  go_wp2
  go_ret2
  exact⟨rfl,bR _ _⟩
 have g0:(((t.length:Nat):Int) == 0)=false:=nB (by omega)
 have g1:0 < t.length:=by omega
 by_cases h1:120 < t.length
 ·obtain⟨e1,e2⟩:=zBj (zIj h1)
  rw [e1,e2];clear e1 e2
  go_enter Tryz.func25,Tryz.ntmps25
  go_wp2
  go_ret2
  exact⟨rfl,bR _ _⟩
 have H0:=hQq h0;clear h0
 go_enter Tryz.func25,Tryz.ntmps25
 go_wp2
 clear g0
 go_loopw [4] (fun i w'=>∃ (wi:World) (k:Nat),wi=w'/\k<=t.length/\i= .int .i64 k/\zAW t k/\Ext w w') (fun i _=>t.length - (intOf i).toNat)
 case atStart=>exact⟨_,0,rfl,Nat.zero_le _,rfl,fun j hj=>absurd hj (by omega),bR _ _⟩
 case round=>
  obtain⟨wi,k,rfl,hk,rfl,hok,hb⟩:=hrel
  have HOK:=hQq hok;clear hok
  by_cases hlt:k < t.length
  case neg=>
   obtain rfl:k=t.length:=by omega
   have HB:=hQq hb;clear hb
   go_wp2
   go_loopw [6] (fun i w'=>∃ (wi:World) (k:Nat),wi=w'/\k<=t.length/\i= .int .i64 k/\(∀ j,j < k->zDM t j=false)/\Ext w w') (fun i _=>t.length - (intOf i).toNat)
   case atStart=>exact⟨_,0,rfl,Nat.zero_le _,rfl,fun j hj=>absurd hj (by omega),HB.out⟩
   case round=>
    clear HB hk hlt
    obtain⟨wi,k,rfl,hk,rfl,hlo,hb⟩:=hrel
    have HLO:=hQq hlo;clear hlo
    by_cases hlt:k < t.length
    case neg=>
     obtain rfl:k=t.length:=by omega
     have HR:=hQq (zBj (zEO H0.out h1 HOK.out HLO.out))
     have HB:=hQq hb;clear hb
     go_wp2
     go_ret2
     exact⟨by rw [HR.out.1,HR.out.2];rfl,HB.out⟩
    obtain⟨b,off,va,he,hbx,_,_,_,_,_,_,_,_,c7⟩:=HV.out.tr k hlt
    cases he
    have HGT:=hQq (zAm t k hlt)
    have d7:=(eC hb hbx).trans c7
    have HB:=hQq hb
    generalize t[k]'hlt=x at c7 d7 HGT
    have j1:((k:Nat):Int) < (t.length:Int):=by omega
    have j0:(0:Int)<=(k:Int):=by omega
    by_cases p1:0 < x.cl
    case neg=>
     have HN:Hid (∀ j,j < k+1->zDM t j=false):=by
      intro j hj
      by_cases e:j=k
      ·subst e;unfold zDM;rw [HGT.out];simp [p1]
      ·exact HLO.out j (by omega)
     have p1':decide (0 < x.cl)=false:=decide_eq_false p1
     clear hb c7
     go_wp2
     go_roundw
     case rel=>exact⟨_,k+1,rfl,by omega,by go_num,HN.out,HB.out⟩
     case measure=>simp [intOf] <;> omega
    by_cases p2:zAi t x.cl t.length=1
    case neg=>
     have HN:Hid (∀ j,j < k+1->zDM t j=false):=by
      intro j hj
      by_cases e:j=k
      ·subst e;unfold zDM;rw [HGT.out];simp [p2]
      ·exact HLO.out j (by omega)
     have p2':(((zAi t x.cl t.length:Nat):Int) == 1)=false:=nB (by omega)
     clear hb c7 p2
     go_wp2_with (go_at_call 93;refine(zMu B _ t x.cl _ (HV.out.ext okT HB.out) (by omega)).mono ?_;rintro e w1 ⟨rfl,hb1⟩;replace HB:=hQq (Ext.trans HB.out hb1);clear hb1)
     go_roundw
     case rel=>exact⟨_,k+1,rfl,by omega,by go_num,HN.out,HB.out⟩
     case measure=>simp [intOf] <;> omega
    ·have HR:=hQq (zBj (zIk h1 HOK.out hlt HLO.out (by unfold zDM;rw [HGT.out];simp [p1,p2])))
     have p2':(((zAi t x.cl t.length:Nat):Int) == 1)=true:=beq_iff_eq.2 (by omega)
     clear hb c7 p2
     go_wp2_with (go_at_call 93;refine(zMu B _ t x.cl _ (HV.out.ext okT HB.out) (by omega)).mono ?_;rintro e w1 ⟨rfl,hb1⟩;replace HB:=hQq (Ext.trans HB.out hb1);clear hb1)
     go_ret2
     exact⟨by rw [HR.out.1,HR.out.2];rfl,HB.out⟩
  obtain⟨b,off,va,he,hbx,hva,xx⟩:=HV.out.tr k hlt
  cases he
  have HGT:=hQq (zAm t k hlt)
  have hvx:=zAj.attrs hva
  obtain⟨ax,capx,rfl⟩:=hva.form
  have HNS:Hid ((zAa t k).nm.size<=1000000):=hQq (by rw [HGT.out];exact(HSM.out _ (List.getElem_mem hlt)).1)
  have HAM:Hid (∀ a ∈ (t[k]'hlt).ats,a.1.size<=1000000/\a.2.size<=1000000):=(HSM.out _ (List.getElem_mem hlt)).2.1
  generalize t[k]'hlt=x at xx HGT hvx HAM hva
  have XX:=hQq xx
  have HVX:=hQq hvx
  obtain⟨c0,c1,c2,c3,c4,c5,c6,c7⟩:=zAG hb hbx xx
  have HB:=hQq hb
  have HP:Hid (k ≠ 0->0<=(zAa t (k - 1)).dep/\(zAa t (k - 1)).dep<=1000):=fun hk0=>by
   obtain⟨a,_⟩:=zAd (HOK.out (k - 1) (by omega))
   have:=zA4 a;omega
  have HMC:Hid (∀ j,j<=k->0<=zAJ t j/\zAJ t j<=1000):=fun j hj=>by
   have:=zEW j (fun i hi=>HOK.out i (by omega));omega
  have j1:((k:Nat):Int) < (t.length:Int):=by omega
  have j0:(0:Int)<=(k:Int):=by omega
  clear xx hvx hva hb
  by_cases hk0:k=0
  ·have HK0:=hQq hk0
   have z0:decide ((0:Int) < (k:Int))=false:=decide_eq_false (by omega)
   have z1:decide (0 < k)=false:=decide_eq_false (by omega)
   clear hk0
   by_cases hx:zAz t k=0
   case neg=>
    have hn:zBf t k=zAz t k:=zFg hx
    have HR:=hQq (zBj (zBF (by omega) hlt HOK.out (show zBf t k ≠ 0 by rw [hn];exact hx)))
    have HR2:=hQq hn
    have q1:(zAz t k == 0)=false:=nB hx
    have q2:(zAz t k != 0)=true:=bne_iff_ne.2 hx
    clear hx hn
    go_wp2_with (first | (go_at_call 88;refine(zCe B _ t k _ (HV.out.ext okT HB.out) hlt (by omega) HP.out).mono ?_;rintro e w1 ⟨rfl,hb1⟩;replace HB:=hQq (Ext.trans HB.out hb1);clear hb1;obtain⟨c0,c1,c2,c3,c4,c5,c6,c7⟩:=zAG HB.out hbx XX.out) | (go_at_call 89;refine(zCf B _ t k _ (HV.out.ext okT HB.out) hlt (by omega) HNS.out).mono ?_;rintro e w1 ⟨rfl,hb1⟩;replace HB:=hQq (Ext.trans HB.out hb1);clear hb1;obtain⟨c0,c1,c2,c3,c4,c5,c6,c7⟩:=zAG HB.out hbx XX.out) | (go_at_call 90;refine(zDd x _ _ ⟨_,_,rfl⟩).mono ?_;rintro e w1 ⟨rfl,hb1⟩;replace HB:=hQq (Ext.trans HB.out hb1);clear hb1;obtain⟨c0,c1,c2,c3,c4,c5,c6,c7⟩:=zAG HB.out hbx XX.out) | (go_at_call 91;refine(zCh _ x.ats _ (HVX.out.ext HB.out) HAM.out).mono ?_;rintro e w1 ⟨rfl,hb1⟩;replace HB:=hQq (Ext.trans HB.out hb1);clear hb1) | (go_at_call 92;refine(zCg B _ t k _ (HV.out.ext okT HB.out) hlt (by omega) HMC.out HAT.out).mono ?_;rintro e w1 ⟨rfl,hb1⟩;replace HB:=hQq (Ext.trans HB.out hb1);clear hb1))
    go_ret2
    exact⟨by rw [HR.out.1,HR.out.2,HR2.out];rfl,HB.out⟩
   have s1:=hx
   clear hx
   have HE2:Hid (k ≠ 0->zAT t k=0):=hQq (fun h=>absurd HK0.out h)
   by_cases hx:zAc x=0
   case neg=>
    have hn:zBf t k=zAc x:=zGg HGT.out s1 HE2.out hx
    have HR:=hQq (zBj (zBF (by omega) hlt HOK.out (show zBf t k ≠ 0 by rw [hn];exact hx)))
    have HR2:=hQq hn
    have q1:(zAc x == 0)=false:=nB hx
    have q2:(zAc x != 0)=true:=bne_iff_ne.2 hx
    clear hx hn
    go_wp2_with (first | (go_at_call 88;refine(zCe B _ t k _ (HV.out.ext okT HB.out) hlt (by omega) HP.out).mono ?_;rintro e w1 ⟨rfl,hb1⟩;replace HB:=hQq (Ext.trans HB.out hb1);clear hb1;obtain⟨c0,c1,c2,c3,c4,c5,c6,c7⟩:=zAG HB.out hbx XX.out) | (go_at_call 89;refine(zCf B _ t k _ (HV.out.ext okT HB.out) hlt (by omega) HNS.out).mono ?_;rintro e w1 ⟨rfl,hb1⟩;replace HB:=hQq (Ext.trans HB.out hb1);clear hb1;obtain⟨c0,c1,c2,c3,c4,c5,c6,c7⟩:=zAG HB.out hbx XX.out) | (go_at_call 90;refine(zDd x _ _ ⟨_,_,rfl⟩).mono ?_;rintro e w1 ⟨rfl,hb1⟩;replace HB:=hQq (Ext.trans HB.out hb1);clear hb1;obtain⟨c0,c1,c2,c3,c4,c5,c6,c7⟩:=zAG HB.out hbx XX.out) | (go_at_call 91;refine(zCh _ x.ats _ (HVX.out.ext HB.out) HAM.out).mono ?_;rintro e w1 ⟨rfl,hb1⟩;replace HB:=hQq (Ext.trans HB.out hb1);clear hb1) | (go_at_call 92;refine(zCg B _ t k _ (HV.out.ext okT HB.out) hlt (by omega) HMC.out HAT.out).mono ?_;rintro e w1 ⟨rfl,hb1⟩;replace HB:=hQq (Ext.trans HB.out hb1);clear hb1))
    go_ret2
    exact⟨by rw [HR.out.1,HR.out.2,HR2.out];rfl,HB.out⟩
   have s3:=hx
   clear hx
   by_cases hx:zBR x.ats=0
   case neg=>
    have hn:zBf t k=zBR x.ats:=zFh HGT.out s1 HE2.out s3 hx
    have HR:=hQq (zBj (zBF (by omega) hlt HOK.out (show zBf t k ≠ 0 by rw [hn];exact hx)))
    have HR2:=hQq hn
    have q1:(zBR x.ats == 0)=false:=nB hx
    have q2:(zBR x.ats != 0)=true:=bne_iff_ne.2 hx
    clear hx hn
    go_wp2_with (first | (go_at_call 88;refine(zCe B _ t k _ (HV.out.ext okT HB.out) hlt (by omega) HP.out).mono ?_;rintro e w1 ⟨rfl,hb1⟩;replace HB:=hQq (Ext.trans HB.out hb1);clear hb1;obtain⟨c0,c1,c2,c3,c4,c5,c6,c7⟩:=zAG HB.out hbx XX.out) | (go_at_call 89;refine(zCf B _ t k _ (HV.out.ext okT HB.out) hlt (by omega) HNS.out).mono ?_;rintro e w1 ⟨rfl,hb1⟩;replace HB:=hQq (Ext.trans HB.out hb1);clear hb1;obtain⟨c0,c1,c2,c3,c4,c5,c6,c7⟩:=zAG HB.out hbx XX.out) | (go_at_call 90;refine(zDd x _ _ ⟨_,_,rfl⟩).mono ?_;rintro e w1 ⟨rfl,hb1⟩;replace HB:=hQq (Ext.trans HB.out hb1);clear hb1;obtain⟨c0,c1,c2,c3,c4,c5,c6,c7⟩:=zAG HB.out hbx XX.out) | (go_at_call 91;refine(zCh _ x.ats _ (HVX.out.ext HB.out) HAM.out).mono ?_;rintro e w1 ⟨rfl,hb1⟩;replace HB:=hQq (Ext.trans HB.out hb1);clear hb1) | (go_at_call 92;refine(zCg B _ t k _ (HV.out.ext okT HB.out) hlt (by omega) HMC.out HAT.out).mono ?_;rintro e w1 ⟨rfl,hb1⟩;replace HB:=hQq (Ext.trans HB.out hb1);clear hb1))
    go_ret2
    exact⟨by rw [HR.out.1,HR.out.2,HR2.out];rfl,HB.out⟩
   have s4:=hx
   clear hx
   by_cases hx:zF4 t k=0
   case neg=>
    have hn:zBf t k=zF4 t k:=zBL HGT.out s1 HE2.out s3 s4
    have HR:=hQq (zBj (zBF (by omega) hlt HOK.out (show zBf t k ≠ 0 by rw [hn];exact hx)))
    have HR2:=hQq hn
    have q1:(zF4 t k == 0)=false:=nB hx
    have q2:(zF4 t k != 0)=true:=bne_iff_ne.2 hx
    clear hx hn
    go_wp2_with (first | (go_at_call 88;refine(zCe B _ t k _ (HV.out.ext okT HB.out) hlt (by omega) HP.out).mono ?_;rintro e w1 ⟨rfl,hb1⟩;replace HB:=hQq (Ext.trans HB.out hb1);clear hb1;obtain⟨c0,c1,c2,c3,c4,c5,c6,c7⟩:=zAG HB.out hbx XX.out) | (go_at_call 89;refine(zCf B _ t k _ (HV.out.ext okT HB.out) hlt (by omega) HNS.out).mono ?_;rintro e w1 ⟨rfl,hb1⟩;replace HB:=hQq (Ext.trans HB.out hb1);clear hb1;obtain⟨c0,c1,c2,c3,c4,c5,c6,c7⟩:=zAG HB.out hbx XX.out) | (go_at_call 90;refine(zDd x _ _ ⟨_,_,rfl⟩).mono ?_;rintro e w1 ⟨rfl,hb1⟩;replace HB:=hQq (Ext.trans HB.out hb1);clear hb1;obtain⟨c0,c1,c2,c3,c4,c5,c6,c7⟩:=zAG HB.out hbx XX.out) | (go_at_call 91;refine(zCh _ x.ats _ (HVX.out.ext HB.out) HAM.out).mono ?_;rintro e w1 ⟨rfl,hb1⟩;replace HB:=hQq (Ext.trans HB.out hb1);clear hb1) | (go_at_call 92;refine(zCg B _ t k _ (HV.out.ext okT HB.out) hlt (by omega) HMC.out HAT.out).mono ?_;rintro e w1 ⟨rfl,hb1⟩;replace HB:=hQq (Ext.trans HB.out hb1);clear hb1))
    go_ret2
    exact⟨by rw [HR.out.1,HR.out.2,HR2.out];rfl,HB.out⟩
   have s5:=hx
   clear hx
   have HN:=hQq (HOK.out.step ((zBL HGT.out s1 HE2.out s3 s4).trans s5))
   go_wp2_with (first | (go_at_call 88;refine(zCe B _ t k _ (HV.out.ext okT HB.out) hlt (by omega) HP.out).mono ?_;rintro e w1 ⟨rfl,hb1⟩;replace HB:=hQq (Ext.trans HB.out hb1);clear hb1;obtain⟨c0,c1,c2,c3,c4,c5,c6,c7⟩:=zAG HB.out hbx XX.out) | (go_at_call 89;refine(zCf B _ t k _ (HV.out.ext okT HB.out) hlt (by omega) HNS.out).mono ?_;rintro e w1 ⟨rfl,hb1⟩;replace HB:=hQq (Ext.trans HB.out hb1);clear hb1;obtain⟨c0,c1,c2,c3,c4,c5,c6,c7⟩:=zAG HB.out hbx XX.out) | (go_at_call 90;refine(zDd x _ _ ⟨_,_,rfl⟩).mono ?_;rintro e w1 ⟨rfl,hb1⟩;replace HB:=hQq (Ext.trans HB.out hb1);clear hb1;obtain⟨c0,c1,c2,c3,c4,c5,c6,c7⟩:=zAG HB.out hbx XX.out) | (go_at_call 91;refine(zCh _ x.ats _ (HVX.out.ext HB.out) HAM.out).mono ?_;rintro e w1 ⟨rfl,hb1⟩;replace HB:=hQq (Ext.trans HB.out hb1);clear hb1) | (go_at_call 92;refine(zCg B _ t k _ (HV.out.ext okT HB.out) hlt (by omega) HMC.out HAT.out).mono ?_;rintro e w1 ⟨rfl,hb1⟩;replace HB:=hQq (Ext.trans HB.out hb1);clear hb1))
   go_roundw
   case rel=>exact⟨_,k+1,rfl,by omega,by go_num,HN.out,HB.out⟩
   case measure=>simp [intOf] <;> omega
  ·have HK0:=hQq hk0
   have z0:decide ((0:Int) < (k:Int))=true:=decide_eq_true (by omega)
   have z1:0 < k:=by omega
   clear hk0
   by_cases hx:zAz t k=0
   case neg=>
    have hn:zBf t k=zAz t k:=zFg hx
    have HR:=hQq (zBj (zBF (by omega) hlt HOK.out (show zBf t k ≠ 0 by rw [hn];exact hx)))
    have HR2:=hQq hn
    have q1:(zAz t k == 0)=false:=nB hx
    have q2:(zAz t k != 0)=true:=bne_iff_ne.2 hx
    clear hx hn
    go_wp2_with (first | (go_at_call 88;refine(zCe B _ t k _ (HV.out.ext okT HB.out) hlt (by omega) HP.out).mono ?_;rintro e w1 ⟨rfl,hb1⟩;replace HB:=hQq (Ext.trans HB.out hb1);clear hb1;obtain⟨c0,c1,c2,c3,c4,c5,c6,c7⟩:=zAG HB.out hbx XX.out) | (go_at_call 89;refine(zCf B _ t k _ (HV.out.ext okT HB.out) hlt (by omega) HNS.out).mono ?_;rintro e w1 ⟨rfl,hb1⟩;replace HB:=hQq (Ext.trans HB.out hb1);clear hb1;obtain⟨c0,c1,c2,c3,c4,c5,c6,c7⟩:=zAG HB.out hbx XX.out) | (go_at_call 90;refine(zDd x _ _ ⟨_,_,rfl⟩).mono ?_;rintro e w1 ⟨rfl,hb1⟩;replace HB:=hQq (Ext.trans HB.out hb1);clear hb1;obtain⟨c0,c1,c2,c3,c4,c5,c6,c7⟩:=zAG HB.out hbx XX.out) | (go_at_call 91;refine(zCh _ x.ats _ (HVX.out.ext HB.out) HAM.out).mono ?_;rintro e w1 ⟨rfl,hb1⟩;replace HB:=hQq (Ext.trans HB.out hb1);clear hb1) | (go_at_call 92;refine(zCg B _ t k _ (HV.out.ext okT HB.out) hlt (by omega) HMC.out HAT.out).mono ?_;rintro e w1 ⟨rfl,hb1⟩;replace HB:=hQq (Ext.trans HB.out hb1);clear hb1))
    go_ret2
    exact⟨by rw [HR.out.1,HR.out.2,HR2.out];rfl,HB.out⟩
   have s1:=hx
   clear hx
   by_cases hx:zAT t k=0
   case neg=>
    have hn:zBf t k=zAT t k:=zHu s1 HK0.out hx
    have HR:=hQq (zBj (zBF (by omega) hlt HOK.out (show zBf t k ≠ 0 by rw [hn];exact hx)))
    have HR2:=hQq hn
    have q1:(zAT t k == 0)=false:=nB hx
    have q2:(zAT t k != 0)=true:=bne_iff_ne.2 hx
    clear hx hn
    go_wp2_with (first | (go_at_call 88;refine(zCe B _ t k _ (HV.out.ext okT HB.out) hlt (by omega) HP.out).mono ?_;rintro e w1 ⟨rfl,hb1⟩;replace HB:=hQq (Ext.trans HB.out hb1);clear hb1;obtain⟨c0,c1,c2,c3,c4,c5,c6,c7⟩:=zAG HB.out hbx XX.out) | (go_at_call 89;refine(zCf B _ t k _ (HV.out.ext okT HB.out) hlt (by omega) HNS.out).mono ?_;rintro e w1 ⟨rfl,hb1⟩;replace HB:=hQq (Ext.trans HB.out hb1);clear hb1;obtain⟨c0,c1,c2,c3,c4,c5,c6,c7⟩:=zAG HB.out hbx XX.out) | (go_at_call 90;refine(zDd x _ _ ⟨_,_,rfl⟩).mono ?_;rintro e w1 ⟨rfl,hb1⟩;replace HB:=hQq (Ext.trans HB.out hb1);clear hb1;obtain⟨c0,c1,c2,c3,c4,c5,c6,c7⟩:=zAG HB.out hbx XX.out) | (go_at_call 91;refine(zCh _ x.ats _ (HVX.out.ext HB.out) HAM.out).mono ?_;rintro e w1 ⟨rfl,hb1⟩;replace HB:=hQq (Ext.trans HB.out hb1);clear hb1) | (go_at_call 92;refine(zCg B _ t k _ (HV.out.ext okT HB.out) hlt (by omega) HMC.out HAT.out).mono ?_;rintro e w1 ⟨rfl,hb1⟩;replace HB:=hQq (Ext.trans HB.out hb1);clear hb1))
    go_ret2
    exact⟨by rw [HR.out.1,HR.out.2,HR2.out];rfl,HB.out⟩
   have s2:=hx
   clear hx
   have HE2:Hid (k ≠ 0->zAT t k=0):=hQq (fun _=>s2)
   by_cases hx:zAc x=0
   case neg=>
    have hn:zBf t k=zAc x:=zGg HGT.out s1 HE2.out hx
    have HR:=hQq (zBj (zBF (by omega) hlt HOK.out (show zBf t k ≠ 0 by rw [hn];exact hx)))
    have HR2:=hQq hn
    have q1:(zAc x == 0)=false:=nB hx
    have q2:(zAc x != 0)=true:=bne_iff_ne.2 hx
    clear hx hn
    go_wp2_with (first | (go_at_call 88;refine(zCe B _ t k _ (HV.out.ext okT HB.out) hlt (by omega) HP.out).mono ?_;rintro e w1 ⟨rfl,hb1⟩;replace HB:=hQq (Ext.trans HB.out hb1);clear hb1;obtain⟨c0,c1,c2,c3,c4,c5,c6,c7⟩:=zAG HB.out hbx XX.out) | (go_at_call 89;refine(zCf B _ t k _ (HV.out.ext okT HB.out) hlt (by omega) HNS.out).mono ?_;rintro e w1 ⟨rfl,hb1⟩;replace HB:=hQq (Ext.trans HB.out hb1);clear hb1;obtain⟨c0,c1,c2,c3,c4,c5,c6,c7⟩:=zAG HB.out hbx XX.out) | (go_at_call 90;refine(zDd x _ _ ⟨_,_,rfl⟩).mono ?_;rintro e w1 ⟨rfl,hb1⟩;replace HB:=hQq (Ext.trans HB.out hb1);clear hb1;obtain⟨c0,c1,c2,c3,c4,c5,c6,c7⟩:=zAG HB.out hbx XX.out) | (go_at_call 91;refine(zCh _ x.ats _ (HVX.out.ext HB.out) HAM.out).mono ?_;rintro e w1 ⟨rfl,hb1⟩;replace HB:=hQq (Ext.trans HB.out hb1);clear hb1) | (go_at_call 92;refine(zCg B _ t k _ (HV.out.ext okT HB.out) hlt (by omega) HMC.out HAT.out).mono ?_;rintro e w1 ⟨rfl,hb1⟩;replace HB:=hQq (Ext.trans HB.out hb1);clear hb1))
    go_ret2
    exact⟨by rw [HR.out.1,HR.out.2,HR2.out];rfl,HB.out⟩
   have s3:=hx
   clear hx
   by_cases hx:zBR x.ats=0
   case neg=>
    have hn:zBf t k=zBR x.ats:=zFh HGT.out s1 HE2.out s3 hx
    have HR:=hQq (zBj (zBF (by omega) hlt HOK.out (show zBf t k ≠ 0 by rw [hn];exact hx)))
    have HR2:=hQq hn
    have q1:(zBR x.ats == 0)=false:=nB hx
    have q2:(zBR x.ats != 0)=true:=bne_iff_ne.2 hx
    clear hx hn
    go_wp2_with (first | (go_at_call 88;refine(zCe B _ t k _ (HV.out.ext okT HB.out) hlt (by omega) HP.out).mono ?_;rintro e w1 ⟨rfl,hb1⟩;replace HB:=hQq (Ext.trans HB.out hb1);clear hb1;obtain⟨c0,c1,c2,c3,c4,c5,c6,c7⟩:=zAG HB.out hbx XX.out) | (go_at_call 89;refine(zCf B _ t k _ (HV.out.ext okT HB.out) hlt (by omega) HNS.out).mono ?_;rintro e w1 ⟨rfl,hb1⟩;replace HB:=hQq (Ext.trans HB.out hb1);clear hb1;obtain⟨c0,c1,c2,c3,c4,c5,c6,c7⟩:=zAG HB.out hbx XX.out) | (go_at_call 90;refine(zDd x _ _ ⟨_,_,rfl⟩).mono ?_;rintro e w1 ⟨rfl,hb1⟩;replace HB:=hQq (Ext.trans HB.out hb1);clear hb1;obtain⟨c0,c1,c2,c3,c4,c5,c6,c7⟩:=zAG HB.out hbx XX.out) | (go_at_call 91;refine(zCh _ x.ats _ (HVX.out.ext HB.out) HAM.out).mono ?_;rintro e w1 ⟨rfl,hb1⟩;replace HB:=hQq (Ext.trans HB.out hb1);clear hb1) | (go_at_call 92;refine(zCg B _ t k _ (HV.out.ext okT HB.out) hlt (by omega) HMC.out HAT.out).mono ?_;rintro e w1 ⟨rfl,hb1⟩;replace HB:=hQq (Ext.trans HB.out hb1);clear hb1))
    go_ret2
    exact⟨by rw [HR.out.1,HR.out.2,HR2.out];rfl,HB.out⟩
   have s4:=hx
   clear hx
   by_cases hx:zF4 t k=0
   case neg=>
    have hn:zBf t k=zF4 t k:=zBL HGT.out s1 HE2.out s3 s4
    have HR:=hQq (zBj (zBF (by omega) hlt HOK.out (show zBf t k ≠ 0 by rw [hn];exact hx)))
    have HR2:=hQq hn
    have q1:(zF4 t k == 0)=false:=nB hx
    have q2:(zF4 t k != 0)=true:=bne_iff_ne.2 hx
    clear hx hn
    go_wp2_with (first | (go_at_call 88;refine(zCe B _ t k _ (HV.out.ext okT HB.out) hlt (by omega) HP.out).mono ?_;rintro e w1 ⟨rfl,hb1⟩;replace HB:=hQq (Ext.trans HB.out hb1);clear hb1;obtain⟨c0,c1,c2,c3,c4,c5,c6,c7⟩:=zAG HB.out hbx XX.out) | (go_at_call 89;refine(zCf B _ t k _ (HV.out.ext okT HB.out) hlt (by omega) HNS.out).mono ?_;rintro e w1 ⟨rfl,hb1⟩;replace HB:=hQq (Ext.trans HB.out hb1);clear hb1;obtain⟨c0,c1,c2,c3,c4,c5,c6,c7⟩:=zAG HB.out hbx XX.out) | (go_at_call 90;refine(zDd x _ _ ⟨_,_,rfl⟩).mono ?_;rintro e w1 ⟨rfl,hb1⟩;replace HB:=hQq (Ext.trans HB.out hb1);clear hb1;obtain⟨c0,c1,c2,c3,c4,c5,c6,c7⟩:=zAG HB.out hbx XX.out) | (go_at_call 91;refine(zCh _ x.ats _ (HVX.out.ext HB.out) HAM.out).mono ?_;rintro e w1 ⟨rfl,hb1⟩;replace HB:=hQq (Ext.trans HB.out hb1);clear hb1) | (go_at_call 92;refine(zCg B _ t k _ (HV.out.ext okT HB.out) hlt (by omega) HMC.out HAT.out).mono ?_;rintro e w1 ⟨rfl,hb1⟩;replace HB:=hQq (Ext.trans HB.out hb1);clear hb1))
    go_ret2
    exact⟨by rw [HR.out.1,HR.out.2,HR2.out];rfl,HB.out⟩
   have s5:=hx
   clear hx
   have HN:=hQq (HOK.out.step ((zBL HGT.out s1 HE2.out s3 s4).trans s5))
   go_wp2_with (first | (go_at_call 88;refine(zCe B _ t k _ (HV.out.ext okT HB.out) hlt (by omega) HP.out).mono ?_;rintro e w1 ⟨rfl,hb1⟩;replace HB:=hQq (Ext.trans HB.out hb1);clear hb1;obtain⟨c0,c1,c2,c3,c4,c5,c6,c7⟩:=zAG HB.out hbx XX.out) | (go_at_call 89;refine(zCf B _ t k _ (HV.out.ext okT HB.out) hlt (by omega) HNS.out).mono ?_;rintro e w1 ⟨rfl,hb1⟩;replace HB:=hQq (Ext.trans HB.out hb1);clear hb1;obtain⟨c0,c1,c2,c3,c4,c5,c6,c7⟩:=zAG HB.out hbx XX.out) | (go_at_call 90;refine(zDd x _ _ ⟨_,_,rfl⟩).mono ?_;rintro e w1 ⟨rfl,hb1⟩;replace HB:=hQq (Ext.trans HB.out hb1);clear hb1;obtain⟨c0,c1,c2,c3,c4,c5,c6,c7⟩:=zAG HB.out hbx XX.out) | (go_at_call 91;refine(zCh _ x.ats _ (HVX.out.ext HB.out) HAM.out).mono ?_;rintro e w1 ⟨rfl,hb1⟩;replace HB:=hQq (Ext.trans HB.out hb1);clear hb1) | (go_at_call 92;refine(zCg B _ t k _ (HV.out.ext okT HB.out) hlt (by omega) HMC.out HAT.out).mono ?_;rintro e w1 ⟨rfl,hb1⟩;replace HB:=hQq (Ext.trans HB.out hb1);clear hb1))
   go_roundw
   case rel=>exact⟨_,k+1,rfl,by omega,by go_num,HN.out,HB.out⟩
   case measure=>simp [intOf] <;> omega
end Go.Proofs.YtbeeoomadnmogaaGreat
