/- SamD -/
import Derived.Test.YtbeeoomadnmogaaGreatQI5
import Derived.Handy
import Derived.Test.YtbeeoomadnmogaaGreatQChkBx
import Derived.Test.YtbeeoomadnmogaaGreatQBsdP
set_option maxRecDepth 100000
set_option maxHeartbeats 64000000
namespace Go.Proofs.YtbeeoomadnmogaaGreat
open Go.RowKit
theorem zRN (u v:Value) (l:List zAr) (w:World) {B:Nat} (hu:zAK B w u l) (hv:zAK B w v l) (hl:l.length<=1000000) :
  zAt Tryz.prog 61 #[u,v] w (.bool true):=by
 have:=zI5 u v l l w hu.attrs hv.attrs hl
 rw [show decide (l=l)=true from decide_eq_true rfl] at this
 exact this
theorem zGc (B B':Nat) (u v:Value) (d:DiN) (w:World) (hu:zBK B w u d) (hv:zBK B' w v d) (ha:d.ats.length<=1000000) (hr:d.red.length<=1000000) (hl:d.ens.length<=1000) (he:∀ x ∈ d.ens,x.nd.ats.length<=1000000) :
  zAt Tryz.prog 17 #[u,v] w (.bool true):=by
 unfold zAt
 obtain⟨va,vr,ve,rfl,h1,h2,h3⟩:=hu
 obtain⟨va',vr',ve',rfl,h1',h2',h3'⟩:=hv
 obtain⟨a3,cap3,rfl⟩:=h1.form
 obtain⟨a4,cap4,rfl⟩:=h2.form
 obtain⟨a5,cap5,rfl⟩:=h3.form
 obtain⟨b3,dap3,rfl⟩:=h1'.form
 obtain⟨b4,dap4,rfl⟩:=h2'.form
 obtain⟨b5,dap5,rfl⟩:=h3'.form
 have HA:=hQq h1.attrs;have HA':=hQq h1'.attrs;have HR:=hQq h2.strs;have HR':=hQq h2'.strs
 have HE:=hQq h3;have HE':=hQq h3';have HX:=hQq he
 clear h1 h2 h3 h1' h2' h3' he
 have HS1:=hQq (fun W (hW:Ext w W)=>zI5 _ _ d.ats d.ats W (HA.out.ext hW) (HA'.out.ext hW) ha)
 have HS2:=hQq (fun W (hW:Ext w W)=>zMt _ _ d.red W (HR.out.ext hW) (HR'.out.ext hW) hr)
 unfold zAt at HS2
 have qb:(d.opq != d.opq)=false:=by cases d.opq <;> rfl
 go_enter Tryz.func17,Tryz.ntmps17
 go_upto_region 1 with fail
 refine nW (P:=fun W=>Code.wp _ _ _ _ W) _ ?_
 intro W hW
 have Q1:Hid (W.heap[w.heap.size]? = some (.cells #[.slice a3 d.ats.length cap3,.bool d.opq,.slice a4 d.red.length cap4,.slice a5 d.ens.length cap5] 26 (0,0))):=hQq (by rw [hW];exact bA (bN w _))
 have Q2:Hid (W.heap[w.heap.size+1]? = some (.cells #[.slice b3 d.ats.length dap3,.bool d.opq,.slice b4 d.red.length dap4,.slice b5 d.ens.length dap5] 26 (0,0))):=hQq (by rw [hW];exact zAH (by simp))
 have HW:Hid (Ext w W):=hQq (by rw [hW];exact(eA _ _).trans (eA _ _))
 clear hW
 obtain⟨k0,k1,k2,k3⟩:=b4C Q1.out
 obtain⟨m0,m1,m2,m3⟩:=b4C Q2.out
 go_wp2_with (first
  | (go_at_call 61;go_loud (refine(zRN _ _ d.ats _ (B:=W.heap.size) (zF1 (HA.out.ext HW.out)) (zF1 (HA'.out.ext HW.out)) ha).mono ?_;rintro e w1 ⟨rfl,hb1⟩;have n1:=bC (bX hb1 Q1.out) 1;have n2:=bC (bX hb1 Q1.out) 2;have n3:=bC (bX hb1 Q1.out) 3;have o1:=bC (bX hb1 Q2.out) 1;have o2:=bC (bX hb1 Q2.out) 2;have o3:=bC (bX hb1 Q2.out) 3;have HB1:=hQq hb1;clear hb1))
  | (go_at_call 62;go_loud (refine(HS2.out _ (HW.out.trans HB1.out)).mono ?_;rintro e w2 ⟨rfl,hb2⟩;have t3:=bC (bX (Ext.trans HB1.out hb2) Q1.out) 3;have s3:=bC (bX (Ext.trans HB1.out hb2) Q2.out) 3;have HB2:=hQq (Ext.trans HB1.out hb2);clear hb2))
  | fail)
 clear k0 k1 k2 k3 m0 m1 m2 m3 n1 n2 n3 o1 o2 o3 t3 s3
 go_loopw [5] (fun i w'=>∃ (wi:World) (k:Nat),wi=w'/\k<=d.ens.length/\i= .int .i64 k/\Ext W wi) (fun i _=>d.ens.length - (intOf i).toNat)
 case atStart=>exact⟨_,0,rfl,Nat.zero_le _,rfl,HB2.out⟩
 case round=>
  clear HB1 HB2
  obtain⟨wi,k,rfl,hk,rfl,hE⟩:=hrel
  have HI:=hQq hE
  have k3:=bC (bX hE Q1.out) 3
  have m3:=bC (bX hE Q2.out) 3
  have hz1:=bL (bX hE Q1.out)
  have hz2:=bL (bX hE Q2.out)
  clear hE
  by_cases hlt:k < d.ens.length
  case neg=>
   obtain rfl:k=d.ens.length:=by omega
   go_wp2
   go_ret
   exact⟨rfl,HW.out.trans HI.out⟩
  obtain⟨b,off,vx,hex,hbx,hva,c0,c1,c2,c3,c4,c5,c6,c7,c8,c9,c10,c11⟩:=(HE.out.ext okE (HW.out.trans HI.out)).en k hlt
  obtain⟨b',off',vy,hey,hby,hvb,d0,d1,d2,d3,d4,d5,d6,d7,d8,d9,d10,d11⟩:=(HE'.out.ext okE (HW.out.trans HI.out)).en k hlt
  cases hex
  cases hey
  have HXL:=hQq (HX.out _ (List.getElem_mem hlt))
  have HVA:=hQq (zF1 hva.attrs);have HVB:=hQq (zF1 hvb.attrs)
  obtain⟨a6,cap6,rfl⟩:=hva.form
  obtain⟨b6,dap6,rfl⟩:=hvb.form
  generalize d.ens[k]'hlt=x at c0 c1 c2 c3 c4 c5 c6 c7 c8 c9 c10 c11 d0 d1 d2 d3 d4 d5 d6 d7 d8 d9 d10 d11 HVA HVB HXL
  have j1:((k:Nat):Int) < (d.ens.length:Int):=by omega
  have j0:(0:Int)<=(k:Int):=by omega
  clear hva hvb
  go_upto_region 6 with fail
  go_cut [6,7] (fun p q wx=>∃ g1 g2,p= .pointer (some ⟨g1,0,none⟩)/\q= .pointer (some ⟨g2,0,none⟩)/\Ext wi wx /\
   wx.heap[g1]? = some (.cells #[.string x.nm,.int .i64 x.nd.dep,.string x.nd.nm,.int .i64 x.nd.kd,.slice a6 x.nd.ats.length cap6,.string x.nd.dat,.int .i64 x.nd.ma,.int .i64 x.nd.mi,.int .i64 x.nd.cl,.bool x.wh,.bool x.fi,.int .i64 x.ns] 66 (0,0)) /\
   wx.heap[g2]? = some (.cells #[.string x.nm,.int .i64 x.nd.dep,.string x.nd.nm,.int .i64 x.nd.kd,.slice b6 x.nd.ats.length dap6,.string x.nd.dat,.int .i64 x.nd.ma,.int .i64 x.nd.mi,.int .i64 x.nd.cl,.bool x.wh,.bool x.fi,.int .i64 x.ns] 66 (0,0)))
  case first=>
   go_region
   all_goals
    go_wp2_with fail
    go_meet
    refine⟨_,_,rfl,rfl,?_,?_,?_⟩
    ·first | exact((eA _ _).trans (eA _ _)).trans (eD _) | exact((eA _ _).trans (eA _ _)).trans (eDn _ _) | exact(eA _ _).trans (eA _ _)
    ·first | exact bX (eD _) (bA (bN _ _)) | exact bX (eD _) (zAH (by simp)) | exact bX (eDn _ _) (bA (bN _ _)) | exact bX (eDn _ _) (zAH (by simp)) | exact bA (bN _ _) | exact zAH (by simp)
    ·first | exact bX (eD _) (bA (bN _ _)) | exact bX (eD _) (zAH (by simp)) | exact bX (eDn _ _) (bA (bN _ _)) | exact bX (eDn _ _) (zAH (by simp)) | exact bA (bN _ _) | exact zAH (by simp)
  case rest=>
  obtain⟨g1,g2,rfl,rfl,hE2,hg1,hg2⟩:=hcut
  have HI2:=hQq (HI.out.trans hE2);have HE2:=hQq hE2
  obtain⟨e0,e1,e2,e3,e4,e5,e6,e7,e8,e9,e10,e11⟩:=zIa hg1
  obtain⟨f0,f1,f2,f3,f4,f5,f6,f7,f8,f9,f10,f11⟩:=zIa hg2
  have hz3:=bL hg1;have hz4:=bL hg2
  clear hE2 hg1 hg2 c0 c1 c2 c3 c4 c5 c6 c7 c8 c9 c10 c11 d0 d1 d2 d3 d4 d5 d6 d7 d8 d9 d10 d11 k3 m3
  have q1:(x.wh != x.wh)=false:=by cases x.wh <;> rfl
  have q2:(x.fi != x.fi)=false:=by cases x.fi <;> rfl
  have HY:=hQq (zCx (a:=[x.nd]) rfl)
  go_wp2_with fail
  have HT1:=hQq (fun (o2:Obj)=>((zAn (B:=wi.heap.size) okT wc x.nd (trC x.nd (.slice a6 x.nd.ats.length cap6)) _ rfl ⟨_,HVA.out.ext okA HE2.out,rfl⟩).ext okT (eA _ o2)))
  have HT2:=hQq (fun (o1:Obj)=>zAn (B:=wi.heap.size) okT (wc.alloc o1) x.nd (trC x.nd (.slice b6 x.nd.ats.length dap6)) (wc.heap.size+1) (by simp) ⟨_,HVB.out.ext okA (HE2.out.trans (eA _ o1)),rfl⟩)
  refine(zD0 _ _ _ _ [x.nd] [x.nd] _ (HT1.out _) (HT2.out _) (by simp) (fun y hy=>by rw [List.mem_singleton.1 hy];exact HXL.out)).mono ?_
  rintro e w5 ⟨rfl,hb5⟩
  rw [HY.out]
  have HB5:=hQq (((eA _ _).trans (eA _ _)).trans hb5)
  clear hb5
  go_wp2
  go_roundw
  case rel=>exact⟨_,k+1,rfl,by omega,by go_num,HI2.out.trans HB5.out⟩
  case measure=>simp [intOf] <;> omega
end Go.Proofs.YtbeeoomadnmogaaGreat
