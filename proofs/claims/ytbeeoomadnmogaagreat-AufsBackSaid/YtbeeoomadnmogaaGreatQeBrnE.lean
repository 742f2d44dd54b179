/- BrnE BrnG BrnH BrnI BrnJ -/
import Derived.Test.YtbeeoomadnmogaaGreatQI3
import Derived.Test.YtbeeoomadnmogaaGreatQeNodA
import Derived.Test.YtbeeoomadnmogaaGreatQaNodE
import Derived.Test.YtbeeoomadnmogaaGreatQChkBx
set_option maxRecDepth 100000
set_option maxHeartbeats 64000000
namespace Go.Proofs.YtbeeoomadnmogaaGreat
open Go.RowKit
theorem zMw (B:Nat) (w:World) (v:Value) (b:List BrN) (i:Nat) (hb:zC4 B w v b) (hl:b.length<=1000) (hi:i < b.length) :
  zAt Tryz.prog 141 #[v,.int .i64 i] w (.int .i64 (abv (plT b) i)):=by
 unfold zAt
 obtain⟨aa,cap,rfl⟩:=hb.form
 have HV:=hQq hb;clear hb
 have j1:((i:Nat):Int) < (b.length:Int):=by omega
 have j0:(0:Int)<=(i:Int):=by omega
 have jw:IntKind.i64.wrap ((i:Int) - 1)=(i:Int) - 1:=IntWalk.i64_in _ (by omega)
 obtain⟨bi,offi,vai,vri,hei,hbi,_,_,di,_⟩:=HV.out.br i hi
 have HGI:=hQq ((zAv b i hi).trans (congrArg BrN.toTrN (zAw b i hi)))
 go_enter Tryz.func141,Tryz.ntmps141
 go_wp2
 go_loopw [5] (fun o w'=>∃ (wi:World) (k:Nat) (e:Int),wi=w'/\k<=i/\o= .int .i64 e/\e=(k:Int) - 1/\zDB (plT b) (zAa (plT b) i).dep k=abv (plT b) i/\Ext w wi) (fun o _=>(intOf o+1).toNat)
 case atStart=>exact⟨_,i,_,rfl,Nat.le_refl _,by go_num,rfl,rfl,bR _ _⟩
 case round=>
  obtain⟨wi,k,e,rfl,hk,rfl,he,ha,hE⟩:=hrel
  have HA:=hQq ha;have HE:=hQq hE
  clear ha
  cases k with
  | zero=>
   obtain rfl:e= -1:=by omega
   clear he hE
   go_wp2
   go_ret
   exact⟨by rw [<- HA.out];rfl,HE.out⟩
  | succ k=>
   obtain rfl:e=(k:Int):=by omega
   clear he
   have hkb:k < b.length:=by omega
   obtain⟨bb,off,va,vr,hex,hbx,_,_,dk,_⟩:=HV.out.br k hkb
   cases hei
   cases hex
   have HGK:=hQq ((zAv b k hkb).trans (congrArg BrN.toTrN (zAw b k hkb)))
   have ck:wi.cell? _=_:=(eC hE hbx).trans dk
   have ci:wi.cell? _=_:=(eC hE hbi).trans di
   have k1:((k:Nat):Int) < (b.length:Int):=by omega
   have k0:(0:Int)<=(k:Int):=by omega
   have kw:IntKind.i64.wrap ((k:Int) - 1)=(k:Int) - 1:=IntWalk.i64_in _ (by omega)
   clear hE dk di
   by_cases hd:(b[k]'hkb).dep < (b[i]'hi).dep
   ·have HR:Hid (zDB (plT b) (zAa (plT b) i).dep (k+1)=k):=hQq (by unfold zDB;rw [HGI.out,HGK.out,if_pos hd])
    go_wp2
    go_quiet (fail)
    go_wp2
    go_ret
    exact⟨by rw [<- HA.out,HR.out];rfl,HE.out.trans (eDn _ _)⟩
   ·have HR:Hid (zDB (plT b) (zAa (plT b) i).dep (k+1)=zDB (plT b) (zAa (plT b) i).dep k):=hQq (by rw [zDB.eq_2,HGI.out,HGK.out,if_neg hd])
    have hd':decide ((b[k]'hkb).dep < (b[i]'hi).dep)=false:=decide_eq_false hd
    go_wp2
    go_quiet (fail)
    go_wp2
    go_roundw
    case rel=>exact⟨_,k,_,rfl,by omega,by go_num,rfl,by rw [<- HR.out];exact HA.out,HE.out.trans (eDn _ _)⟩
    case measure=>simp [intOf] <;> omega
theorem zO9 (t : List TrN) (hl : t.length <= 1000) (hok : zAW t t.length) : ∀ (i B : Nat) (w : World) (v : Value), zCt B w v t -> i < t.length ->
  Calls Tryz.prog 30 #[v, .int .i64 i] w (zXR cdS w (zAx t i)) := by
 intro i
 induction i using Nat.strongRecOn with
 | ind i ih =>
 intro B w v hv hi
 obtain ⟨aa, cap, rfl⟩ := hv.form
 have HV := hQq hv; clear hv
 have IH := hQq ih; clear ih
 by_cases h0 : i = 0
 ·subst h0
  go_enter Tryz.func30, Tryz.ntmps30
  go_wp2
  go_ret
  exact ⟨⟨_, _, _, rfl, zAg.nil _ _ _⟩, bR _ _⟩
 have h0' : ((i : Int) == 0) = false := nB (by omega)
 have j1 : ((i : Nat) : Int) < (t.length : Int) := by omega
 have j0 : (0 : Int) <= (i : Int) := by omega
 have jw : IntKind.i64.wrap ((i : Int) - 1) = (i : Int) - 1 := IntWalk.i64_in _ (by omega)
 have HGE := hQq (zTK hok hi h0)
 have HPS := hQq (zCz t i h0)
 obtain ⟨bi, offi, vai, hei, hbi, _, di, ni, _⟩ := HV.out.tr i hi
 have HGI := hQq (zAm t i hi)
 have HNI := hQq ni
 cases hei
 go_enter Tryz.func30, Tryz.ntmps30
 go_wp2
 go_loopw [5] (fun o w' => ∃ (wi : World) (k : Nat), wi = w' /\ k < i /\ o = .int .i64 k /\ zDB t (zAa t i).dep (k + 1) = abv t i /\ Ext w wi) (fun o _ => (intOf o + 1).toNat)
 case atStart =>
  obtain ⟨i', rfl⟩ : ∃ i', i = i' + 1 := ⟨i - 1, by omega⟩
  exact ⟨_, i', rfl, by omega, by go_num, rfl, bR _ _⟩
 case round =>
  obtain ⟨wi, k, rfl, hk, rfl, ha, hE⟩ := hrel
  have HA := hQq ha; have HE := hQq hE
  clear ha
  have hkb : k < t.length := by omega
  obtain ⟨bb, off, va, hex, hbx, _, dk, _⟩ := HV.out.tr k hkb
  cases hex
  have HGK := hQq (zAm t k hkb)
  have ck : wi.cell? _ = _ := (eC hE hbx).trans dk
  have ci : wi.cell? _ = _ := (eC hE hbi).trans di
  have cn : wi.cell? _ = _ := (eC hE hbi).trans ni
  have k1 : ((k : Nat) : Int) < (t.length : Int) := by omega
  have k0 : (0 : Int) <= (k : Int) := by omega
  have kw : IntKind.i64.wrap ((k : Int) - 1) = (k : Int) - 1 := IntWalk.i64_in _ (by omega)
  clear hE dk di ni
  by_cases hd : (t[k]'hkb).dep < (t[i]'hi).dep
  case neg =>
   have hR : zDB t (zAa t i).dep (k + 1) = zDB t (zAa t i).dep k := by rw [zDB.eq_2, HGI.out, HGK.out, if_neg hd]
   have hkz : k ≠ 0 := by
    rintro rfl
    have h1 := HGE.out
    rw [<- HA.out, hR] at h1
    exact absurd h1 (by show ¬ (0 : Int) <= -1; decide)
   obtain ⟨k, rfl⟩ : ∃ k', k = k' + 1 := ⟨k - 1, by omega⟩
   have HR := hQq hR; clear hR
   have hd' : decide ((t[i]'hi).dep <= (t[k + 1]'hkb).dep) = true := decide_eq_true (by omega)
   go_wp2
   go_quiet (fail)
   go_wp2
   go_roundw
   case rel => exact ⟨_, k, rfl, by omega, by go_num, by rw [<- HR.out]; exact HA.out, HE.out.trans (eDn _ _)⟩
   case measure => simp [intOf] <;> omega
  have HR : Hid ((k : Int) = abv t i) := hQq (by rw [<- HA.out]; unfold zDB; rw [HGI.out, HGK.out, if_pos hd])
  have hd' : decide ((t[i]'hi).dep <= (t[k]'hkb).dep) = false := decide_eq_false (by omega)
  go_wp2
  go_quiet (fail)
  go_wp2
  refine nW (P := fun W => Code.wp _ _ _ _ W) _ ?_
  intro W hW
  have HEW : Hid (Ext w W) := hQq (by rw [hW]; exact HE.out.trans (by first | exact eDn _ _ | exact eD _))
  clear hW ck ci cn
  have hcn : W.cell? ⟨bi, offi + i * 8 + 1, none⟩ = some (.string (t[i]'hi).nm) := (eC HEW.out hbi).trans HNI.out
  have HL : Hid ((zAx t k).length <= 1000) := hQq (by have := zDK t k; omega)
  have HPK : Hid (zAx t i = zAx t k ++ [(t[i]'hi).nm]) := hQq (by rw [HPS.out, <- HR.out, HGI.out]; rfl)
  go_region_held3 (fun w' => w'.cell? ⟨bi, offi + i * 8 + 1, none⟩ = some (.string (t[i]'hi).nm)) (first | go_keep | skip)
   (first
    | (go_at_call 30; refine (IH.out k hk B _ _ (by first | exact HV.out.ext okT (HEW.out.trans (eD _)) | exact HV.out.ext okT (HEW.out.trans ((eA _ _).trans (eD _)))) hkb).mono ?_; rintro e w1 ⟨⟨a1, n1, cap1, rfl, ho⟩, hb1⟩; have HB1 := hQq hb1; have HO1 := hQq ho; have HE1 : Hid (Ext W w1) := hQq (by first | exact (eD _).trans hb1 | exact ((eA _ _).trans (eD _)).trans hb1); have HO2 : Hid (zAg cdS w.heap.size w1 (.slice a1 n1 cap1) (zAx t k)) := hQq (zAg.le (B' := w.heap.size) ho okS (fun _ _ _ h => h) (by have := HEW.out.size; simp; omega)); have cn1 : w1.cell? ⟨bi, offi + i * 8 + 1, none⟩ = some (.string (t[i]'hi).nm) := (eC (HEW.out.trans HE1.out) hbi).trans HNI.out; clear hb1 ho)
    | (refine zCO okS (.tmp 25) (.tmp 31) (by rfl) (.slice a1 n1 cap1) _ (zAx t k) [(t[i]'hi).nm] w _ (by rfl) (by rfl) (by first | exact HO2.out | exact HO2.out.ext okS (eA _ _)) (by first | exact zAn okS _ (t[i]'hi).nm [.string (t[i]'hi).nm] _ rfl rfl | exact ((zAn okS W (t[i]'hi).nm [.string (t[i]'hi).nm] _ rfl rfl).ext okS (eD _)).ext okS HB1.out) (by first | exact HEW.out.trans HE1.out | exact (HEW.out.trans HE1.out).trans (eA _ _)) (by have := HEW.out.size; have := HE1.out.size; first | omega | (simp; omega)) (by have := HL.out; simp; omega) ?_; intro v5 w3 ha; have HAP := hQq ha; clear ha; have cn3 : w3.cell? ⟨bi, offi + i * 8 + 1, none⟩ = some (.string (t[i]'hi).nm) := (eC HAP.out.below hbi).trans HNI.out)
    | fail)
  all_goals
   go_wp2
   obtain ⟨a6, cap6, rfl⟩ := HAP.out.own.form
   go_ret
   exact ⟨⟨_, _, _, rfl, by rw [HPK.out]; exact HAP.out.own⟩, HAP.out.below⟩
theorem zHk {b:List BrN} {r:List ByteArray}:∀ {n k:Nat},k < n->r=(zAk b k).red->zFd b r n=true
 | n+1,k,hk,h=>by
  unfold zFd
  by_cases e:k=n
  ·subst e;rw [decide_eq_true h,Bool.or_true]
  ·rw [zHk (by omega) h,Bool.true_or]
theorem zPb (B:Nat) (w:World) (v:Value) (b:List BrN) (i:Nat) (hb:zC4 B w v b) (_hB:B<=w.heap.size) (hsm:zBr b) (hok:zAW (plT b) (plT b).length) (hi:i < b.length) (hled:¬ 0 < (zAk b i).red.length) :
  zAt Tryz.prog 94 #[v,.int .i64 i] w (.int .i64 (zAO b i)):=by
 unfold zAt
 obtain⟨aa,cap,rfl⟩:=hb.form
 have HV:=hQq hb;clear hb
 have HSM:=hQq hsm;have HOK:=hQq hok
 have hlen:=hsm.len
 clear hsm hok
 obtain⟨bi,offi,vai,vri,hei,hbi,hva,hvr,xx⟩:=HV.out.br i hi
 cases hei
 have HG:=hQq (zAw b i hi)
 rw [zAw b i hi] at hled
 have HRL:=hQq (HSM.out.red _ (List.getElem_mem hi))
 obtain⟨a3,cap3,rfl⟩:=hva.form
 obtain⟨a4,cap4,rfl⟩:=hvr.form
 have HVR:=hQq hvr
 generalize b[i]'hi=x at HG HRL HVR hva xx hled
 obtain⟨c0,c1,c2,c3,c4,c5,c6,c7,c8,c9⟩:=xx
 have j1:((i:Nat):Int) < (b.length:Int):=by omega
 have j0:(0:Int)<=(i:Int):=by omega
 clear hva hvr
 have hled':=zVF hled
 by_cases hk:x.opq=true/\x.kd ≠ 1
 ·have HR:=hQq (zCB HG.out (.inl ⟨.inl hk.1,hk.2⟩))
  have q1:(x.kd != 1)=true:=bne_iff_ne.2 hk.2
  have q2:=hk.1
  rw [q2] at c8
  clear hk
  go_enter Tryz.func94,Tryz.ntmps94
  go_wp2
  go_ret
  exact⟨by rw [HR.out];rfl,eA _ _⟩
 have HR:=hQq (zD4 HG.out hk hled)
 have HC8:=hQq c8
 have HU0:Hid ((x.kd == 5)=false->zDo b i=false):=hQq (fun h=>by unfold zDo;rw [HG.out,h];rfl)
 have HU1:Hid (¬ 0<=abv (plT b) i->zDo b i=false):=hQq (fun h=>by unfold zDo;rw [decide_eq_false h];simp)
 have HU2:Hid ((x.kd == 5)=true->∀ m:Nat,abv (plT b) i=m->zDo b i=(zAk b m).opq):=hQq (fun h m e=>by unfold zDo;rw [HG.out,h,e,decide_eq_true (by omega)];simp)
 cases hop:x.opq <;> cases hz:((i:Int) == 0) <;> cases h5:(x.kd == 5)
 all_goals rw [hop] at c8
 all_goals
  have q1:x.opq=true->(x.kd != 1)=false:=fun e=>by
   by_cases e1:x.kd=1
   ·exact bne_eq_false_iff_eq.2 e1
   ·exact absurd ⟨e,e1⟩ hk
 case' false.false.false | false.true.false | true.false.false | true.true.false=>
  have HU:=hQq (HU0.out h5)
  obtain⟨A,hA⟩:∃ A,abv (plT b) i=A:=⟨_,rfl⟩
  have HAB:=hQq hA
  have HM:∃ (m:Nat) (om:Bool),w.cell? ⟨bi,offi+m * 10+8,none⟩=some (.bool om):=⟨i,_,c8⟩
  obtain⟨m,om,hmc⟩:=HM
  have m1:(0:Int)<=(i:Int):=j0
  have m2:(0:Int)<=(i:Int):=j0
  clear hA
 case' true.false.true | true.true.true=>
  exfalso
  have:=q1 hop
  rw [bne_eq_false_iff_eq] at this;rw [beq_iff_eq] at h5;omega
 case' false.false.true | false.true.true=>
  have hbd:=zCN (plT b) i
  by_cases hge:0<=abv (plT b) i
  case' neg=>
   have HU:=hQq (HU1.out hge)
   have hA:abv (plT b) i= -1:=by omega
   obtain⟨A,hA⟩:∃ A,abv (plT b) i=A:=⟨_,rfl⟩
   obtain rfl:A= -1:=by omega
   have HAB:=hQq hA
   have HM:∃ (m:Nat) (om:Bool),w.cell? ⟨bi,offi+m * 10+8,none⟩=some (.bool om):=⟨i,_,c8⟩
   obtain⟨m,om,hmc⟩:=HM
   have m1:(0:Int)<=(i:Int):=j0
   have m2:(0:Int)<=(i:Int):=j0
   clear hA hge hbd
  case' pos=>
   obtain⟨m,hm⟩:∃ m:Nat,abv (plT b) i=m:=⟨(abv (plT b) i).toNat,by omega⟩
   have hmb:m < b.length:=by omega
   obtain⟨bm,offm,vam,vrm,hem,hbm,_,_,_,_,_,_,_,_,_,_,d8,_⟩:=HV.out.br m hmb
   cases hem
   have HU:=hQq (HU2.out h5 m hm)
   rw [zAw b m hmb] at HU
   have HAB:=hQq hm
   have m1:(0:Int)<=(m:Int):=by omega
   have m2:(m:Int) < (b.length:Int):=by omega
   cases hom:(b[m]'hmb).opq
   all_goals
    rw [hom] at HU d8
    have hmc:=d8
    clear hm hge hbd d8
 all_goals
  try have q2:=q1 hop
  clear hk q1 hop
  go_enter Tryz.func94,Tryz.ntmps94
  go_wp2_with (go_at_call 141;refine(zMw B _ _ b i (HV.out.ext okB (eA _ _)) hlen hi).mono ?_;rintro e w1 ⟨rfl,hb1⟩;rw [HAB.out];have HB1:Hid (Ext w w1):=hQq (Ext.trans (eA _ _) hb1);have X1:=hQq (bX hb1 (bN w _));clear hb1;have y2:=bC X1.out 2;have y8:=(eC HB1.out hbi).trans hmc)
  go_ret
  exact⟨by rw [HR.out,HU.out];rfl,HB1.out⟩
theorem zPa (B : Nat) (w : World) (v : Value) (b : List BrN) (i : Nat) (hb : zC4 B w v b) (hB : B <= w.heap.size) (hsm : zBr b) (hok : zAW (plT b) (plT b).length) (hi : i < b.length) (hled : 0 < (zAk b i).red.length) :
  zAt Tryz.prog 94 #[v, .int .i64 i] w (.int .i64 (zAO b i)) := by
 unfold zAt
 obtain ⟨aa, cap, rfl⟩ := hb.form
 have HV := hQq hb; clear hb
 have HSM := hQq hsm; have HOK := hQq hok
 have hlen := hsm.len
 clear hsm hok
 obtain ⟨bi, offi, vai, vri, hei, hbi, hva, hvr, xx⟩ := HV.out.br i hi
 cases hei
 have HG := hQq (zAw b i hi)
 rw [zAw b i hi] at hled
 have HRL := hQq (HSM.out.red _ (List.getElem_mem hi))
 obtain ⟨a3, cap3, rfl⟩ := hva.form
 obtain ⟨a4, cap4, rfl⟩ := hvr.form
 have HVR := hQq hvr
 generalize b[i]'hi = x at HG HRL HVR hva xx hled
 obtain ⟨c0, c1, c2, c3, c4, c5, c6, c7, c8, c9⟩ := xx
 have j1 : ((i : Nat) : Int) < (b.length : Int) := by omega
 have j0 : (0 : Int) <= (i : Int) := by omega
 clear hva hvr
 have hled' := zVG hled
 by_cases hk1 : x.kd = 1
 case neg =>
  have HR := hQq (zCB HG.out (.inl ⟨.inr hled, hk1⟩))
  have q1 : (x.kd != 1) = true := bne_iff_ne.2 hk1
  clear hk1
  cases hop : x.opq
  all_goals
   rw [hop] at c8
   go_enter Tryz.func94, Tryz.ntmps94
   go_wp2
   go_ret
   exact ⟨by rw [HR.out]; rfl, eA _ _⟩
 have q1 : (x.kd != 1) = false := bne_eq_false_iff_eq.2 hk1
 by_cases hi0 : i = 0
 ·have HR := hQq (zCB HG.out (.inr ⟨hi0, hled⟩))
  have hz : ((i : Int) == 0) = true := beq_iff_eq.2 (by omega)
  clear hi0 hk1
  cases hop : x.opq
  all_goals
   rw [hop] at c8
   go_enter Tryz.func94, Tryz.ntmps94
   go_wp2
   go_ret
   exact ⟨by rw [HR.out]; rfl, eA _ _⟩
 have hz : ((i : Int) == 0) = false := nB (by omega)
 cases hop : x.opq
 case true =>
  have HR := hQq (zIx HG.out hk1 hi0 hop hled)
  rw [hop] at c8
  clear hk1 hi0
  go_enter Tryz.func94, Tryz.ntmps94
  go_wp2
  go_ret
  exact ⟨by rw [HR.out]; rfl, eA _ _⟩
 have HC := hQq (And.intro hk1 (And.intro hi0 (And.intro hop hled)))
 rw [hop] at c8
 have HP0 : Hid (∀ o, zBY (w.alloc o) (.slice a4 x.red.length cap4) x.red) := hQq (fun o => zBd HVR.out (eA _ _))
 by_cases hpe : zAY x.red = 0
 case neg =>
  have HR := hQq (zIw HG.out hk1 hi0 hop hled hpe)
  have q2 : (zAY x.red != 0) = true := bne_iff_ne.2 hpe
  clear hk1 hi0 hop hpe
  go_enter Tryz.func94, Tryz.ntmps94
  go_wp2_with (go_at_call 96; refine (zGD _ x.red _ (HP0.out _) HRL.out.2).mono ?_; rintro e w1 ⟨rfl, rfl⟩)
  go_ret
  exact ⟨by rw [HR.out]; rfl, eA _ _⟩
 have q2 : (zAY x.red != 0) = false := bne_eq_false_iff_eq.2 hpe
 have HPE := hQq hpe
 clear hk1 hi0 hop hpe
 go_enter Tryz.func94, Tryz.ntmps94
 go_wp2_with (go_at_call 96; refine (zGD _ x.red _ (HP0.out _) HRL.out.2).mono ?_; rintro e w1 ⟨rfl, rfl⟩)
 refine nW (P := fun W => Code.wp _ _ _ _ W) _ ?_
 intro W hW
 have HXB : Hid (W.heap[w.heap.size]? = some (.cells #[.int .i64 x.dep, .string x.nm, .int .i64 x.kd, .slice a3 x.ats.length cap3, .string x.dat, .int .i64 x.ma, .int .i64 x.mi, .int .i64 x.cl, .bool false, .slice a4 x.red.length cap4] 46 (0, 0))) := hQq (by rw [hW]; exact bN w _)
 have HE : Hid (Ext w W) := hQq (by rw [hW]; exact eA _ _)
 clear hW c0 c1 c2 c3 c4 c5 c6 c7 c8 c9
 have y9 : W.cell? ⟨w.heap.size, 9, none⟩ = some (.slice a4 x.red.length cap4) := bC HXB.out 9
 have HPL : Hid ((plT b).length <= 1000) := hQq (by rw [zAh]; exact hlen)
 by_cases heq : x.red = zAx (plT b) i
 ·have HR := hQq (zIu HG.out HC.out.1 HC.out.2.1 HC.out.2.2.1 HC.out.2.2.2 HPE.out heq)
  have HQ := hQq (decide_eq_true heq)
  clear heq
  go_region_held3 (fun w' => w'.cell? ⟨w.heap.size, 9, none⟩ = some (.slice a4 x.red.length cap4)) (first | go_keep | skip)
   (first
    | (go_at_call 78; refine (zGb B _ _ b (by first | exact HV.out.ext okB (HE.out.trans (eD _)) | exact HV.out.ext okB (HE.out.trans (eDn _ _))) (by have := HE.out.size; simp; omega) hlen HSM.out.ats).mono ?_; rintro e w1 ⟨⟨a5, cap5, rfl, ho⟩, hb1⟩; have HO1 := hQq ho; have HB1 : Hid (Ext W w1) := hQq (by first | exact (eD _).trans hb1 | exact (eDn _ _).trans hb1); have z9 : w1.cell? ⟨w.heap.size, 9, none⟩ = some (.slice a4 x.red.length cap4) := bC (bX HB1.out HXB.out) 9; clear ho hb1)
    | (go_at_call 30; refine (zO9 (plT b) HPL.out HOK.out i _ _ _ (HO1.out.in okT) (by rw [zAh]; exact hi)).mono ?_; rintro e w2 ⟨⟨a6, n6, cap6, rfl, ho⟩, hb2⟩; have HO2 := hQq ho; have HB2 : Hid (Ext W w2) := hQq (HB1.out.trans hb2); have z9 : w2.cell? ⟨w.heap.size, 9, none⟩ = some (.slice a4 x.red.length cap4) := bC (bX HB2.out HXB.out) 9; clear ho hb2)
    | (go_at_call 62; refine (zFC _ _ x.red (zAx (plT b) i) _ (zBd HVR.out (HE.out.trans HB2.out)) (HO2.out.in okS).strs (by have := HRL.out.1; omega)).mono ?_; rintro e w3 ⟨rfl, hb3⟩; rw [HQ.out]; have HB4 : Hid (Ext W w3) := hQq (HB2.out.trans hb3); have HB3 : Hid (Ext w w3) := hQq (HE.out.trans HB4.out); have z9 : w3.cell? ⟨w.heap.size, 9, none⟩ = some (.slice a4 x.red.length cap4) := bC (bX HB4.out HXB.out) 9; clear hb3)
    | fail)
  all_goals
   go_wp2
   go_ret
   exact ⟨by rw [HR.out]; rfl, HB3.out⟩
 have HNE := hQq heq
 have HQ := hQq (decide_eq_false heq)
 clear heq
 go_region_held3 (fun w' => w'.cell? ⟨w.heap.size, 9, none⟩ = some (.slice a4 x.red.length cap4)) (first | go_keep | skip)
  (first
    | (go_at_call 78; refine (zGb B _ _ b (by first | exact HV.out.ext okB (HE.out.trans (eD _)) | exact HV.out.ext okB (HE.out.trans (eDn _ _))) (by have := HE.out.size; simp; omega) hlen HSM.out.ats).mono ?_; rintro e w1 ⟨⟨a5, cap5, rfl, ho⟩, hb1⟩; have HO1 := hQq ho; have HB1 : Hid (Ext W w1) := hQq (by first | exact (eD _).trans hb1 | exact (eDn _ _).trans hb1); have z9 : w1.cell? ⟨w.heap.size, 9, none⟩ = some (.slice a4 x.red.length cap4) := bC (bX HB1.out HXB.out) 9; clear ho hb1)
    | (go_at_call 30; refine (zO9 (plT b) HPL.out HOK.out i _ _ _ (HO1.out.in okT) (by rw [zAh]; exact hi)).mono ?_; rintro e w2 ⟨⟨a6, n6, cap6, rfl, ho⟩, hb2⟩; have HO2 := hQq ho; have HB2 : Hid (Ext W w2) := hQq (HB1.out.trans hb2); have z9 : w2.cell? ⟨w.heap.size, 9, none⟩ = some (.slice a4 x.red.length cap4) := bC (bX HB2.out HXB.out) 9; clear ho hb2)
    | (go_at_call 62; refine (zFC _ _ x.red (zAx (plT b) i) _ (zBd HVR.out (HE.out.trans HB2.out)) (HO2.out.in okS).strs (by have := HRL.out.1; omega)).mono ?_; rintro e w3 ⟨rfl, hb3⟩; rw [HQ.out]; have HB4 : Hid (Ext W w3) := hQq (HB2.out.trans hb3); have HB3 : Hid (Ext w w3) := hQq (HE.out.trans HB4.out); have z9 : w3.cell? ⟨w.heap.size, 9, none⟩ = some (.slice a4 x.red.length cap4) := bC (bX HB4.out HXB.out) 9; clear hb3)
    | fail)
 go_wp2
 have q5 : (x.kd == 5) = false := by rw [HC.out.1]; rfl
 clear z9 y9
 go_loopw [7] (fun o w' => ∃ (wi : World) (k : Nat), wi = w' /\ k <= i /\ o = .int .i64 k /\ zFd b x.red k = false /\ Ext W wi) (fun o _ => i - (intOf o).toNat)
 case atStart => exact ⟨_, 0, rfl, Nat.zero_le _, rfl, rfl, HB4.out⟩
 case round =>
  clear HB3 HB4 HB2 HB1 HO1 HO2
  obtain ⟨wi, k, rfl, hk, rfl, hs, hb⟩ := hrel
  have HS := hQq hs; have HB := hQq hb
  clear hs hb
  have HWI : Hid (Ext w wi) := hQq (HE.out.trans HB.out)
  by_cases hlt : k < i
  case neg =>
   obtain rfl : k = i := by omega
   have HR := hQq (zKu HG.out HC.out.1 HC.out.2.1 HC.out.2.2.1 HC.out.2.2.2 HPE.out HNE.out HS.out)
   go_wp2_with (go_at_call 141; refine (zMw B _ _ b k (HV.out.ext okB HWI.out) hlen hi).mono ?_; rintro e w1 ⟨rfl, hb1⟩; have HB1 : Hid (Ext W w1) := hQq (Ext.trans HB.out hb1); clear hb1; have y2 : w1.cell? ⟨w.heap.size, 2, none⟩ = some (.int .i64 x.kd) := bC (bX HB1.out HXB.out) 2)
   go_ret
   exact ⟨by rw [HR.out]; rfl, HE.out.trans HB1.out⟩
  have hkb : k < b.length := by omega
  obtain ⟨bk, offk, vak, vrk, hek, hbk, _, hvrk, _, _, _, _, _, _, _, _, _, d9⟩ := HV.out.br k hkb
  cases hek
  obtain ⟨ak, capk, rfl⟩ := hvrk.form
  have HVK := hQq hvrk
  have HGK := hQq (zAw b k hkb)
  generalize b[k]'hkb = y at HVK HGK d9
  have HD9 := hQq d9
  clear hvrk d9
  have y9 : wi.cell? ⟨w.heap.size, 9, none⟩ = some (.slice a4 x.red.length cap4) := bC (bX HB.out HXB.out) 9
  have x9 : wi.cell? ⟨bi, offi + k * 10 + 9, none⟩ = some (.slice ak y.red.length capk) := (eC HWI.out hbi).trans HD9.out
  have k1 : ((k : Nat) : Int) < (b.length : Int) := by omega
  have k0 : (0 : Int) <= (k : Int) := by omega
  have k2 : ((k : Nat) : Int) < (i : Int) := by omega
  by_cases he : x.red = y.red
  ·have HR := hQq (zIv HG.out HC.out.1 HC.out.2.1 HC.out.2.2.1 HC.out.2.2.2 HPE.out HNE.out (zHk hlt (by rw [HGK.out]; exact he)))
   have HQ2 := hQq (decide_eq_true he)
   clear he
   go_wp2
   go_region_held3 (fun w' => w'.cell? ⟨w.heap.size, 9, none⟩ = some (.slice a4 x.red.length cap4) /\ w'.cell? ⟨bi, offi + k * 10 + 9, none⟩ = some (.slice ak y.red.length capk)) (first | go_keep | skip)
    (first
     | (go_at_call 62; refine (zFC _ _ x.red y.red _ (by first | exact zBd HVR.out (HWI.out.trans (eD _)) | exact zBd HVR.out (HWI.out.trans (eDn _ _))) (by first | exact zBd HVK.out (HWI.out.trans (eD _)) | exact zBd HVK.out (HWI.out.trans (eDn _ _))) (by have := HRL.out.1; omega)).mono ?_; rintro e w3 ⟨rfl, hb3⟩; rw [HQ2.out]; have HB5 : Hid (Ext W w3) := hQq (by first | exact (HB.out.trans (eD _)).trans hb3 | exact (HB.out.trans (eDn _ _)).trans hb3); have z9 : w3.cell? ⟨w.heap.size, 9, none⟩ = some (.slice a4 x.red.length cap4) := bC (bX HB5.out HXB.out) 9; have t9 : w3.cell? ⟨bi, offi + k * 10 + 9, none⟩ = some (.slice ak y.red.length capk) := (eC (HE.out.trans HB5.out) hbi).trans HD9.out; clear hb3)
     | fail)
   all_goals
    go_wp2
    go_ret
    exact ⟨by rw [HR.out]; rfl, HE.out.trans HB5.out⟩
  ·have HN : Hid (zFd b x.red (k + 1) = false) := hQq (by rw [zFd.eq_2, HS.out, HGK.out, decide_eq_false he]; rfl)
   have HQ2 := hQq (decide_eq_false he)
   clear he
   go_wp2
   go_region_held3 (fun w' => w'.cell? ⟨w.heap.size, 9, none⟩ = some (.slice a4 x.red.length cap4) /\ w'.cell? ⟨bi, offi + k * 10 + 9, none⟩ = some (.slice ak y.red.length capk)) (first | go_keep | skip)
    (first
     | (go_at_call 62; refine (zFC _ _ x.red y.red _ (by first | exact zBd HVR.out (HWI.out.trans (eD _)) | exact zBd HVR.out (HWI.out.trans (eDn _ _))) (by first | exact zBd HVK.out (HWI.out.trans (eD _)) | exact zBd HVK.out (HWI.out.trans (eDn _ _))) (by have := HRL.out.1; omega)).mono ?_; rintro e w3 ⟨rfl, hb3⟩; rw [HQ2.out]; have HB5 : Hid (Ext W w3) := hQq (by first | exact (HB.out.trans (eD _)).trans hb3 | exact (HB.out.trans (eDn _ _)).trans hb3); have z9 : w3.cell? ⟨w.heap.size, 9, none⟩ = some (.slice a4 x.red.length cap4) := bC (bX HB5.out HXB.out) 9; have t9 : w3.cell? ⟨bi, offi + k * 10 + 9, none⟩ = some (.slice ak y.red.length capk) := (eC (HE.out.trans HB5.out) hbi).trans HD9.out; clear hb3)
     | fail)
   go_wp2
   go_roundw
   case rel => exact ⟨_, k + 1, rfl, by omega, by go_num, HN.out, HB5.out⟩
   case measure => simp [intOf] <;> omega
theorem zIn (B:Nat) (w:World) (v:Value) (b:List BrN) (i:Nat) (hb:zC4 B w v b) (hB:B<=w.heap.size) (hsm:zBr b) (hok:zAW (plT b) (plT b).length) (hi:i < b.length) :
  zAt Tryz.prog 94 #[v,.int .i64 i] w (.int .i64 (zAO b i)):=by
 by_cases h:0 < (zAk b i).red.length
 ·exact zPa B w v b i hb hB hsm hok hi h
 ·exact zPb B w v b i hb hB hsm hok hi h
theorem zNV (B:Nat) (w:World) (v:Value) (b:List BrN) (hb:zC4 B w v b) (hB:B<=w.heap.size) (hsm:zBr b) :
  zAt Tryz.prog 26 #[v] w (.tuple #[.int .i64 (zLW b),.int .i64 (zB1 b)]):=by
 unfold zAt
 obtain⟨aa,cap,rfl⟩:=hb.form
 have HV:=hQq hb;clear hb
 have HSM:=hQq hsm
 have hlen:=hsm.len
 clear hsm
 by_cases ht:zAs (plT b)=0
 case neg=>
  have HR:=hQq (zFY (zNn ht))
  have q1:(zAs (plT b) != 0)=true:=bne_iff_ne.2 ht
  clear ht
  go_enter Tryz.func26,Tryz.ntmps26
  go_wp2_with (first | (go_at_call 78;refine(zGb B _ _ b HV.out hB hlen HSM.out.ats).mono ?_;rintro e w1 ⟨⟨a5,cap5,rfl,ho⟩,hb1⟩;have HO1:=hQq ho;have HB1:=hQq hb1;clear ho hb1) | (go_at_call 25;refine(zEy _ _ (plT b) _ (HO1.out.in okT) HSM.out.tree).mono ?_;rintro e w2 ⟨rfl,hb2⟩;have HB2:=hQq (Ext.trans HB1.out hb2);clear hb2))
  go_ret2
  exact⟨by rw [HR.out.1,HR.out.2];rfl,HB2.out⟩
 have HT:=hQq ht
 have HZ:=hQq (zAf ht)
 have q1:(zAs (plT b) != 0)=false:=bne_eq_false_iff_eq.2 ht
 clear ht
 go_enter Tryz.func26,Tryz.ntmps26
 go_wp2_with (first | (go_at_call 78;refine(zGb B _ _ b HV.out hB hlen HSM.out.ats).mono ?_;rintro e w1 ⟨⟨a5,cap5,rfl,ho⟩,hb1⟩;have HO1:=hQq ho;have HB1:=hQq hb1;clear ho hb1) | (go_at_call 25;refine(zEy _ _ (plT b) _ (HO1.out.in okT) HSM.out.tree).mono ?_;rintro e w2 ⟨rfl,hb2⟩;have HB2:=hQq (Ext.trans HB1.out hb2);clear hb2))
 go_loopw [5,6] (fun _ i w'=>∃ (wi:World) (k:Nat),wi=w'/\k<=b.length/\i= .int .i64 k/\(∀ j,j < k->zAO b j=0)/\Ext w wi) (fun _ i _=>b.length - (intOf i).toNat)
 case atStart=>exact⟨_,0,rfl,Nat.zero_le _,rfl,fun j hj=>absurd hj (by omega),HB2.out⟩
 case round=>
  clear HB2 HO1 HB1
  obtain⟨wi,k,rfl,hk,rfl,hp,hE⟩:=hrel
  have HP:=hQq hp;have HE:=hQq hE
  clear hp hE
  by_cases hlt:k < b.length
  case neg=>
   obtain rfl:k=b.length:=by omega
   have HR:=hQq (zFY (zQP HT.out HP.out))
   go_wp2
   go_ret2
   exact⟨by rw [HR.out.1,HR.out.2];rfl,HE.out⟩
  have j1:((k:Nat):Int) < (b.length:Int):=by omega
  have j0:(0:Int)<=(k:Int):=by omega
  by_cases he:zAO b k=0
  case neg=>
   have HR:=hQq (zFY (zC3 HT.out hlt HP.out he))
   have q2:(zAO b k != 0)=true:=bne_iff_ne.2 he
   clear he
   go_wp2_with (go_at_call 94;refine(zIn B _ _ b k (HV.out.ext okB HE.out) (Nat.le_trans hB HE.out.size) HSM.out HZ.out.2.2.1 hlt).mono ?_;rintro e w3 ⟨rfl,hb3⟩;have HB3:=hQq (Ext.trans HE.out hb3);clear hb3)
   go_ret2
   exact⟨by rw [HR.out.1,HR.out.2];rfl,HB3.out⟩
  have q2:(zAO b k != 0)=false:=bne_eq_false_iff_eq.2 he
  have HN:Hid (∀ j,j < k+1->zAO b j=0):=by
   intro j hj
   by_cases e:j=k
   ·subst e;exact he
   ·exact HP.out j (by omega)
  clear he
  go_wp2_with (go_at_call 94;refine(zIn B _ _ b k (HV.out.ext okB HE.out) (Nat.le_trans hB HE.out.size) HSM.out HZ.out.2.2.1 hlt).mono ?_;rintro e w3 ⟨rfl,hb3⟩;have HB3:=hQq (Ext.trans HE.out hb3);clear hb3)
  go_roundw
  case rel=>exact⟨_,k+1,rfl,by omega,by go_num,HN.out,HB3.out⟩
  case measure=>simp [intOf] <;> omega
end Go.Proofs.YtbeeoomadnmogaaGreat
