/- AwA AwK AwE AxD -/
import Derived.Test.YtbeeoomadnmogaaGreatQI5
import Derived.Test.YtbeeoomadnmogaaGreatQWlkR
import Derived.Test.YtbeeoomadnmogaaGreatQFarB
set_option maxRecDepth 100000
set_option maxHeartbeats 64000000
namespace Go.Proofs.YtbeeoomadnmogaaGreat
open Go.RowKit
theorem zVu (B:Nat)(w:World)(v:Value)(b:List BrN)(i:Nat)(hb:zEi B w v b)(hsm:zBN b)(h0:zB9 b=0)(hi:i<b.length):
  zAs Tryz.prog 181 #[v,.int .i64 i] w (.int .i64 0):=by
 unfold zAs;obtain⟨aa,cap,rfl⟩:=hb.form;have HV:=hQq hb;have HSM:=hQq hsm;have H0:=hQq h0;have hlen:=hsm.len;have j1:¬((i:Nat):Int)<0:=by omega
 have j3:¬(b.length:Int)<=(i:Int):=by omega
 clear hb hsm h0;go_enter Tryz.func181,Tryz.ntmps181;go_wp2_with (go_at_call 79;refine(zL2 B _ _ b HV.out HSM.out).mono ?_;rintro e w1 ⟨rfl,hb1⟩;rw[H0.out];have HB1:=hQq hb1;clear hb1)
 go_ret;exact⟨rfl,HB1.out⟩
theorem zVt (B:Nat)(w:World)(v:Value)(b:List BrN)(n:Nat)(hb:zEi B w v b)(hlen:b.length<=1000)(hn:n<b.length):
  Calls Tryz.prog 177 #[v,.int .i64 n] w (zYR w (zAS b n)):=by
 obtain⟨aa,cap,rfl⟩:=hb.form;have HV:=hQq hb;have j1:((n:Nat):Int)<(b.length:Int):=by omega
 have j0:(0:Int)<=(n:Int):=by omega
 have HG:=hQq (zAx b n hn);have HN:=hQq hn;obtain⟨bb',off',va',vr',hex',hbx',_,_,_,_,_,_,_,_,_,d7,_⟩:=hb.br n hn;cases hex';rw[<- zAN b n hn]at d7;clear hb;by_cases e2:(zAm b n).cl=0
 ·have q2:((zAm b n).cl==0)=true:=beq_iff_eq.2 e2;have HL:Hid (zAS b n= [n]):=hQq (by unfold zAS;rw[zGo (by rw[HG.out];exact e2),if_pos hn]);clear e2;go_enter Tryz.func177,Tryz.ntmps177;go_wp2;go_ret;exact⟨⟨_,_,by rw[HL.out];rfl,by rw[HL.out];exact zUU w n⟩,eA _ _⟩
 have q2:((zAm b n).cl==0)=false:=nB e2;have HE2:=hQq e2;have HCB:Hid (∀k,zDg (plT b) n k=decide ((zAa (plT b) k).cl=(zAm b n).cl)):=hQq (fun k=>by
  unfold zDg;rw[HG.out,decide_eq_true (show (zAm b n).toTrN.cl≠0 from e2),Bool.true_and];by_cases e:k=n
  ·rw[e,HG.out];simp
  ·rw[decide_eq_false e,Bool.false_or])
 clear e2;go_enter Tryz.func177,Tryz.ntmps177;go_wp2;go_loopw [5,18] (fun o i w'=>∃(wi:World) (k:Nat),wi=w'/\k<=b.length/\i= .int .i64 k/\zAg cdN w.heap.size wi o (zCt (plT b) n k)/\Ext w wi) (fun _ i _=>b.length-(intOf i).toNat)
 case atStart=>exact⟨_,0,rfl,by omega,by go_num,zAg.nil _ _ _,bR _ _⟩
 case round=>
  clear d7;obtain⟨wi,k,rfl,hk,rfl,ho,hE⟩:=hrel;have HO:=hQq ho;have HE:=hQq hE;obtain⟨a5,cap5,rfl⟩:=ho.form;clear ho hE;by_cases hlt:k<b.length
  case neg=>
   obtain rfl:k=b.length:=by omega
   go_wp2;go_ret;exact⟨⟨_,_,rfl,HO.out⟩,HE.out⟩
  have k1:((k:Nat):Int)<(b.length:Int):=by omega
  have k0:(0:Int)<=(k:Int):=by omega
  have HL:=hQq (zE5 (zDg (plT b) n) k);obtain⟨bb,off,va,vr,hex,hbx,hva,hvr,c0,c1,c2,c3,c4,c5,c6,c7,c8,c9⟩:=(HV.out.ext okB HE.out).br k hlt;cases hex;obtain⟨bb2,off2,va2,vr2,hex2,_,_,_,_,_,_,_,_,_,_,d7,_⟩:=(HV.out.ext okB HE.out).br n HN.out;cases hex2;rw[<- zAN b n HN.out]at d7;have HGK:=hQq (zAx b k hlt);rw[<- zAN b k hlt]at hva hvr c0 c1 c2 c4 c5 c6 c7 c8;obtain⟨a3,cap3,rfl⟩:=hva.form;obtain⟨a4,cap4,rfl⟩:=hvr.form;clear hva hvr;generalize hx:zAm b k=x at c0 c1 c2 c3 c4 c5 c6 c7 c8 c9;have HXK:=hQq hx;clear hx;have d8:=(eC (eA wi (.cells #[.int .i64 x.dep,.string x.nm,.int .i64 x.kd,.slice a3 x.ats.length cap3,.string x.dat,.int .i64 x.ma,.int .i64 x.mi,.int .i64 x.cl,.bool x.opq,.slice a4 x.red.length cap4] 46 (0,0))) hbx).trans d7;by_cases e1:x.cl=(zAm b n).cl
  ·have HS:=hQq (zKy (t:=plT b) (n:=n) (k:=k) (by rw[HCB.out,HGK.out];exact decide_eq_true (by rw[HXK.out];exact e1)));have q1:(x.cl==(zAm b n).cl)=true:=beq_iff_eq.2 e1;clear e1;go_wp2;go_quiet (fail)
   refine nW (P:=fun W=>Exit.then _ _ _ _ W) _ ?_;intro W hW;have HB3:Hid (Ext wi W):=hQq (by rw[hW];first|exact(eA _ _).trans (eDn _ _)|exact(eA _ _).trans (eD _)|exact eA _ _);clear hW;go_wp2_with (at_builtin;refine zIX okN rfl (.tmp 31) (.tmp 33) rfl _ _ (zCt (plT b) n k) [k] w _ rfl rfl (by exact(HO.out.ext okN HB3.out).ext okN (eA _ _)) (by exact zAj okN _ k [.int .i64 k] _ rfl rfl) (by exact(HE.out.trans HB3.out).trans (eA _ _)) (by have:=HB3.out.size;have:=HE.out.size;simp;omega) (by have:=HL.out;unfold zCt;simp;omega) ?_;intro v2 w2 ha;have HA:=hQq ha;clear ha)
   go_roundw
   case rel=>exact⟨_,k+1,rfl,by omega,by go_num,by rw[HS.out];exact HA.out.own,HA.out.below⟩
   case measure=>simp[intOf]<;>omega
  ·have HS:=hQq (zMO (t:=plT b) (n:=n) (k:=k) (by rw[HCB.out,HGK.out];exact decide_eq_false (by rw[HXK.out];exact e1)));have q1:(x.cl==(zAm b n).cl)=false:=nB e1;clear e1;go_wp2;go_quiet (fail)
   refine nW (P:=fun W=>Exit.then _ _ _ _ W) _ ?_;intro W hW;have HB3:Hid (Ext wi W):=hQq (by rw[hW];first|exact(eA _ _).trans (eDn _ _)|exact(eA _ _).trans (eD _)|exact eA _ _);clear hW;go_wp2;go_roundw
   case rel=>exact⟨_,k+1,rfl,by omega,by go_num,by rw[HS.out];exact HO.out.ext okN HB3.out,HE.out.trans HB3.out⟩
   case measure=>simp[intOf]<;>omega
attribute [local go_sem] Oper.semAt_some
theorem zQY (B:Nat)(w:World)(v:Value)(b:List BrN)(n:Nat)(hb:zEi B w v b)(hsm:zBN b)(h0:zB9 b=0)(hn:n<b.length)(hk:(zAm b n).kd=1):
  Calls Tryz.prog 133 #[v,.int .i64 n] w (zYU w (zAF b n)):=by
 obtain⟨aa,cap,rfl⟩:=hb.form;have HV:=hQq hb;have HSM:=hQq hsm;have H0:=hQq h0;have hlen:=hsm.len;have HOK:=hQq (zAf (zAp h0).1).2.2.1;have j1:((n:Nat):Int)<(b.length:Int):=by omega
 have j0:(0:Int)<=(n:Int):=by omega
 have HN:=hQq hn;rw[zAN b n hn]at hk;have HK:Hid (∀W,Ext w W->∃bb off,aa=some ⟨bb,off,none⟩/\W.cell? ⟨bb,off+n*10+2,none⟩=some (.int .i64 1)):=hQq (fun W hW=>by
  obtain⟨bb,off,va,vr,hex,_,_,_,_,_,c2,_⟩:=(HV.out.ext okB hW).br n HN.out;rw[hk]at c2;exact⟨bb,off,hex,c2⟩)
 clear hb hsm h0 hk hn;refine(callsIn_wide (n:=8)).1 ?_;refine callsIn_of_wp_marks Tryz.func133 rfl trivial ?_ rfl;refine wpIn_wide.2 ?_;simp only[Tryz.ntmps133,List.size_toArray,List.length_cons,List.length_nil,Nat.reduceAdd,Nat.reduceSub,Array.replicate_succ,Array.replicate_zero,List.push_toArray,List.append_toArray,List.nil_append,List.cons_append];go_wp2_with (first
  | (go_at_call 181;refine(zVu B _ _ b n (HV.out.ext okB (eA _ _)) HSM.out H0.out HN.out).mono ?_;rintro e w1 ⟨rfl,hb1⟩;have HB1:Hid (Ext w w1):=hQq ((eA _ _).trans hb1);have Q1:=hQq (bX hb1 (bN w (.cells #[.int .i64 n] 3 (0,0))));obtain⟨bb,off,rfl,y2⟩:=HK.out _ HB1.out;have y3:=bC Q1.out 0;have hy:=bL Q1.out;clear hb1)
  | (go_at_call 143;refine(zQW _ _ _ _).mono ?_;rintro e w3 ⟨rfl,rfl⟩)
  | fail)
 refine nW (P:=fun W=>Code.wp _ _ _ _ W) _ ?_;intro W0 hW0;have HE0:Hid (Ext w W0):=hQq (by rw[hW0];exact HB1.out.trans ((eA _ _).trans (eA _ _)));have HS0:Hid (W0.heap.size=w1.heap.size+2):=hQq (by rw[hW0];simp);have HO0:Hid (W0.heap[w1.heap.size]? = some (.cells #[.slice none 0 0] 49 (0,0))):=hQq (by rw[hW0];exact bA (bN _ _));have HM2:Hid (W0.cell? ⟨w1.heap.size+1,0,none⟩=some (.slice (some ⟨bb,off,none⟩) b.length cap)):=hQq (by rw[hW0];exact bC (zAu (by simp)) 0);have HN0:Hid (W0.heap[w.heap.size]? = some (.cells #[.int .i64 n] 3 (0,0))):=hQq (by rw[hW0];exact bA (bA Q1.out));clear hW0 y2 y3;have hsz:=HS0.out;refine(wpIn_wide (n:=8)).1 ?_;refine zFm (w:=W0) (w0:=W0) rfl (by omega) (gf:=185) (lb:=#[.pointer (some ⟨w1.heap.size+1,0,none⟩)]) rfl trivial (enters_of Tryz.func185 (by kernel_rfl) rfl) (zUo w1.heap.size) (fun W l r o' h=>zUn w1.heap.size W l _ o' h rfl)
  (zOS w1.heap.size 7 (by omega) B w W0 _ b (w1.heap.size+1) HV.out (Kc.of_ext HE0.out) HM2.out (by omega) hlen HOK.out (by omega) (by rw[zNa HO0.out];rfl) HE0.out.size) KcX.trans (fun W l o o' hl ho hc=>zU9 (by omega) ho hc) (bR _ _) (fun _=>rfl) zG1
  (fun pre W=>KdI w W0 w1.heap.size n b pre.length W) (fun c _ W=>False)
  (fun s W W' h hx hX=>h.ab (by omega) (by omega) hx hX) (fun c s W W' h _ _=>h)
  ⟨⟨_,HO0.out,zAg.nil _ _ _⟩,HN0.out,HE0.out,Nat.le_refl _⟩
  (zXR w w1.heap.size b) (zSA w w1.heap.size b) ?assign ?body ?done ?stop
 case assign=>
  intro l pre x W K hi hok hK;unfold zJL;gi_wp2;exact hK _ _ (eA _ _) (zP8 (eA _ _) (by have:=hi.size;omega)) ⟨W.heap.size,[_,_,undef,undef,_,_,_,undef,undef,undef,_,_,_,_,_,_,_,_,_,_,_,_,_,_,_,_,_,_,_,_,_,_,_,_,_],bN W _,rfl⟩ ⟨hok.1,hok.2.ext okS (eA _ _)⟩
 case body=>
  rintro l pre x a2 W hI hlt hok ⟨Bx,M,hBx,rfl⟩;obtain⟨xi,xa,xn,xc⟩:=x;obtain⟨hxi,hxs⟩:=hok;dsimp only at hxi hxs hBx ⊢;subst hxi;have HPI:Hid (∀y:PlI,(pre++ [y]).length=pre.length+1):=hQq (fun y=>by simp);generalize pre.length=k at hI hlt hBx HPI ⊢;have HI:=hQq hI;have HBX:=hQq hBx;obtain⟨vo,ho1,ho2⟩:=hI.box;have HO1:=hQq ho1;have HO2:=hQq ho2;obtain⟨ao,co,rfl⟩:=ho2.form;have p3:W.cell? ⟨w.heap.size,0,none⟩=some (.int .i64 n):=bC hI.node 0;have p4:W.cell? ⟨Bx,0,none⟩=some (.int .i64 (abv (plT b) k)):=bC hBx 0;have p7:W.cell? ⟨w1.heap.size,0,none⟩=some (.slice ao (zBe (plT b) n k).length co):=bC ho1 0;have z3:=bL hI.node;have z4:=bL hBx;have z7:=bL ho1;have HL:=hQq (zE5 (zHb (plT b) n) k);have HLT:=hQq hlt;clear hI hBx hxs ho1 ho2 hlt;by_cases ha:abv (plT b) k=(n:Int)
  ·have q1:(abv (plT b) k==(n:Int))=true:=beq_iff_eq.2 ha;have HS:=hQq (zSw ha);clear ha;gi_wp2_with (gi_at_builtin;refine zWR (B:=W0.heap.size) okN rfl (.tmp 30) (.tmp 32) rfl _ _ (zBe (plT b) n k) [k] W _ rfl rfl (by exact HO2.out.ext okN (eA _ _)) (by exact zAj okN _ k [.int .i64 k] _ rfl rfl) (by exact(eA W _).mono HI.out.size) (by have:=HI.out.size;simp;omega) (by have:=HL.out;have:=HLT.out;unfold zBe;simp;omega) ?_;intro v2 w2 ha;obtain⟨a9,cap9,rfl⟩:=ha.own.form;have hln:(zBe (plT b) n k++ [k]).length=(zBe (plT b) n k).length+1:=by {simp};rw[hln]at ha;clear hln;have HA:=hQq ha;have hou:=ha.chg.keep _ _ (bA HO1.out) (fun e=>by obtain⟨_,c,f,h9⟩:=(HO2.out.ext okN (eA W (.cells #[.int .i64 k] 3))).row rfl _ e;rw[bA HO1.out]at h9;cases h9);have HOU:=hQq hou;have f7:w2.frozen? ⟨w1.heap.size,0,none⟩=false:=bT hou 0;have z8:=bL hou;have p8:=bC hou 0;clear ha hou);obtain⟨g1,g2,g3⟩:=zU8 HI.out HO1.out HO2.out HA.out (by omega) (by omega) HS.out;exact⟨g1.from _,g2,by show KdI w W0 _ n b (pre++ [_]).length _;rw[HPI.out];exact g3⟩
  ·have q1:(abv (plT b) k==(n:Int))=false:=nB ha;have HS:=hQq (zU7 ha);clear ha;gi_wp2;exact⟨(KeepsOthers.refl _).from _,zP8 (bR _ _) (by omega),by
    show KdI w W0 _ n b (pre++ [_]).length _;rw[HPI.out];obtain⟨⟨vo,g1,g2⟩,g3,g4,g5⟩:=HI.out;exact⟨⟨vo,g1,by rw[HS.out];exact g2⟩,g3,g4,g5⟩⟩
 case done=>
  intro D xs W hD hS hI hdf;rw[hS]at hI;obtain⟨⟨vo,ho1,ho2⟩,-,hE,hs⟩:=hI;have HD:=hQq hdf;have HDL:=hQq hD;have HE:=hQq hE;obtain⟨ao,co,rfl⟩:=ho2.form;have HO2:=hQq ho2;have p7:W.cell? ⟨w1.heap.size,0,none⟩=some (.slice ao (zBe (plT b) n b.length).length co):=bC ho1 0;have z7:=bL ho1;clear hS hdf hD hE ho1 ho2;go_wp2;refine⟨by simp,.inl ⟨_,_,rfl,run_takeDeferred HD.out,?_⟩⟩;refine⟨.tuple #[.slice ao (zBe (plT b) n b.length).length co,.int .i64 0],?_,⟨⟨ao,co,rfl,?_⟩,Below.trans HE.out (zAO HD.out (Nat.le_trans HE0.out.size HDL.out))⟩⟩
  ·simp[results,Tryz.f133,go_sem]
  ·refine(zAg.le (B':=w.heap.size) HO2.out okN (fun _ _ _ h=>h) HE0.out.size).keep1 fun q c e f _ hk=>(World.putObj_heap_other (by rintro rfl;have:=HD.out;rw[hk]at this;cases this)).trans hk
 case stop=>
  rintro D c pre W hD _ h;exact h.elim
theorem zUc (nm:ByteArray)(w:World):zAs Tryz.prog 44 #[.string nm] w (deV (mkN nm) (.slice none 0 0)):=by
 unfold zAs;go_enter Tryz.func44,Tryz.ntmps44;go_wp2;refine bodyPost_ret (v:=deV (mkN nm) (.slice none 0 0)) (by simp[results,Tryz.f44,go_sem];exact⟨rfl,rfl,rfl,rfl,rfl,rfl,rfl,rfl,rfl,rfl,rfl⟩) rfl ?_;exact⟨rfl,eA _ _⟩
theorem zGF (x:DeN)(a:Option Addr)(cap:Nat)(w:World):zAs Tryz.prog 121 #[deV x (.slice a x.nd.ats.length cap)] w (.bool (zFk x)):=by
 unfold zAs zFk;have e1:(x.nd.dat.toList== [])=(x.nd.dat.size==0):=by
  rw[Bool.eq_iff_iff,beq_iff_eq,beq_iff_eq,tL,zAG,List.length_eq_zero_iff]
 go_enter Tryz.func121,Tryz.ntmps121;cases h1:x.ns==1
 ·go_wp2;go_ret;exact⟨rfl,eA _ _⟩
 cases h2:x.nd.kd==2
 ·go_wp2;go_ret;exact⟨rfl,eA _ _⟩
 cases h3:x.nd.dat.size==0
 ·rw[h3]at e1;go_wp2;go_ret;exact⟨rfl,eA _ _⟩
 rw[h3]at e1;go_wp2;go_ret;exact⟨congrArg (fun b=>Ending.returned (Value.bool b)) (show ((x.nd.ats.length:Int)==0)=(x.nd.ats.length==0) by rw[Bool.eq_iff_iff];simp),eA _ _⟩
theorem zVE (x:DeN)(va:Value)(w:World)(hv:aA w va x.nd.ats)(hl:x.nd.ats.length<=1000):
  Calls Tryz.prog 45 #[deV x va] w fun e w'=>(∃a cap,e= .returned (deV x (.slice a x.nd.ats.length cap))/\zAH 0 w' (.slice a x.nd.ats.length cap) x.nd.ats)/\Ext w w':=by
 obtain⟨a3,cap3,rfl,hcap3,hxc⟩:=hv;have HX:Hid (aA w (.slice a3 x.nd.ats.length cap3) x.nd.ats):=⟨a3,cap3,rfl,hcap3,hxc⟩;clear hxc;go_enter Tryz.func45,Tryz.ntmps45;go_wp2_with ((go_at_call 41;refine(zGg _ x.nd.ats _ (HX.out.ext ((eA _ _).trans (eA _ _))) hl).mono ?_;rintro e w3 ⟨⟨a5,cap5,rfl,ho⟩,hb3⟩;have HO:=hQq ho;have X3:Hid (w3.heap[w.heap.size]? = some (.cells #[.string x.nm,.int .i64 x.nd.dep,.string x.nd.nm,.int .i64 x.nd.kd,.slice a3 x.nd.ats.length cap3,.string x.nd.dat,.int .i64 x.nd.ma,.int .i64 x.nd.mi,.int .i64 x.nd.cl,.bool x.wh,.bool x.fi,.int .i64 x.ns] 66 (0,0))):=hQq (bX hb3 (bA (bN w _)));have Z3:Hid (w3.heap[w.heap.size+1]? = some (.cells #[.string ⟨#[]⟩,.int .i64 0,.string ⟨#[]⟩,.int .i64 0,.slice none 0 0,.string ⟨#[]⟩,.int .i64 0,.int .i64 0,.int .i64 0,.bool false,.bool false,.int .i64 0] 66 (0,0))):=hQq (bX hb3 (zAu (by simp)));have HE3:Hid (Ext w w3):=hQq (((eA _ _).trans (eA _ _)).trans hb3);have c0:w3.cell? ⟨w.heap.size,0,none⟩=some (.string x.nm):=bC X3.out 0;have c1:w3.cell? ⟨w.heap.size,1,none⟩=some (.int .i64 x.nd.dep):=bC X3.out 1;have c2:w3.cell? ⟨w.heap.size,2,none⟩=some (.string x.nd.nm):=bC X3.out 2;have c3:w3.cell? ⟨w.heap.size,3,none⟩=some (.int .i64 x.nd.kd):=bC X3.out 3;have c4:w3.cell? ⟨w.heap.size,4,none⟩=some (.slice a3 x.nd.ats.length cap3):=bC X3.out 4;have c5:w3.cell? ⟨w.heap.size,5,none⟩=some (.string x.nd.dat):=bC X3.out 5;have c6:w3.cell? ⟨w.heap.size,6,none⟩=some (.int .i64 x.nd.ma):=bC X3.out 6;have c7:w3.cell? ⟨w.heap.size,7,none⟩=some (.int .i64 x.nd.mi):=bC X3.out 7;have c8:w3.cell? ⟨w.heap.size,8,none⟩=some (.int .i64 x.nd.cl):=bC X3.out 8;have c9:w3.cell? ⟨w.heap.size,9,none⟩=some (.bool x.wh):=bC X3.out 9;have c10:w3.cell? ⟨w.heap.size,10,none⟩=some (.bool x.fi):=bC X3.out 10;have c11:w3.cell? ⟨w.heap.size,11,none⟩=some (.int .i64 x.ns):=bC X3.out 11;have r0:w3.cell? ⟨w.heap.size+1,0,none⟩=some (.string ⟨#[]⟩):=bC Z3.out 0;have r1:w3.cell? ⟨w.heap.size+1,1,none⟩=some (.int .i64 0):=bC Z3.out 1;have r2:w3.cell? ⟨w.heap.size+1,2,none⟩=some (.string ⟨#[]⟩):=bC Z3.out 2;have r3:w3.cell? ⟨w.heap.size+1,3,none⟩=some (.int .i64 0):=bC Z3.out 3;have r4:w3.cell? ⟨w.heap.size+1,4,none⟩=some (.slice none 0 0):=bC Z3.out 4;have r5:w3.cell? ⟨w.heap.size+1,5,none⟩=some (.string ⟨#[]⟩):=bC Z3.out 5;have r6:w3.cell? ⟨w.heap.size+1,6,none⟩=some (.int .i64 0):=bC Z3.out 6;have r7:w3.cell? ⟨w.heap.size+1,7,none⟩=some (.int .i64 0):=bC Z3.out 7;have r8:w3.cell? ⟨w.heap.size+1,8,none⟩=some (.int .i64 0):=bC Z3.out 8;have r9:w3.cell? ⟨w.heap.size+1,9,none⟩=some (.bool false):=bC Z3.out 9;have r10:w3.cell? ⟨w.heap.size+1,10,none⟩=some (.bool false):=bC Z3.out 10;have r11:w3.cell? ⟨w.heap.size+1,11,none⟩=some (.int .i64 0):=bC Z3.out 11;have fz:∀j,w3.frozen? ⟨w.heap.size,j,none⟩=false:=fun j=>bT X3.out j;have fz1:∀j,w3.frozen? ⟨w.heap.size+1,j,none⟩=false:=fun j=>bT Z3.out j;have hsz:w.heap.size+1<w3.heap.size:=bL Z3.out;clear ho hb3))
 refine nW (P:=fun W=>bodyPost _ _ _ Exit.ret _ W) _ ?_;intro W2 hW2;replace hW2:W2=zFp (zFp w3 w.heap.size 4 [.slice a5 x.nd.ats.length cap5]) (w.heap.size+1) 0 [.string x.nm,.int .i64 x.nd.dep,.string x.nd.nm,.int .i64 x.nd.kd,.slice a5 x.nd.ats.length cap5,.string x.nd.dat,.int .i64 x.nd.ma,.int .i64 x.nd.mi,.int .i64 x.nd.cl,.bool x.wh,.bool x.fi,.int .i64 x.ns]:=hW2;have hk:=zEy (g:=w.heap.size) [.slice a5 x.nd.ats.length cap5] w3 4;have hc:Chg 0 66 (some w.heap.size) w3 (zFp w3 w.heap.size 4 [.slice a5 x.nd.ats.length cap5]):=⟨hk,Nat.le_of_eq (zFL _ w3 4).symm,fun g' e=>by cases e;exact⟨Nat.zero_le _,_,_,X3.out⟩⟩;have hb:=zBw (Nat.le_refl w.heap.size) [.slice a5 x.nd.ats.length cap5] w3 4 HE3.out;generalize zFp w3 w.heap.size 4 [.slice a5 x.nd.ats.length cap5]=Y at hW2 hk hc hb;obtain⟨p1,p2,p3⟩:=zTE (hk _ _ Z3.out (by simp)) (by omega) hb hW2;clear c0 c1 c2 c3 c4 c5 c6 c7 c8 c9 c10 c11 r0 r1 r2 r3 r4 r5 r6 r7 r8 r9 r10 r11 hW2;have HA:Hid (zAH 0 W2 (.slice a5 x.nd.ats.length cap5) x.nd.ats):=hQq (((HO.out.toIn).chg okA hc (by decide) (by decide)).chg okA p3 (by decide) (by decide));have t0:=bC p1 0;have t1:=bC p1 1;have t2:=bC p1 2;have t3:=bC p1 3;have t4:=bC p1 4;have t5:=bC p1 5;have t6:=bC p1 6;have t7:=bC p1 7;have t8:=bC p1 8;have t9:=bC p1 9;have t10:=bC p1 10;have t11:=bC p1 11;refine bodyPost_ret (v:=deV x (.slice a5 x.nd.ats.length cap5)) (by simp[results,Tryz.f45,go_sem,t0,t1,t2,t3,t4,t5,t6,t7,t8,t9,t10,t11]) rfl ?_;exact⟨⟨_,_,rfl,HA.out⟩,p2⟩
theorem zIu {α:Type}(P:α->Bool): ∀ (l : List α) (k : Nat) (_ : k < (l.takeWhile P).length), ∃ h', P (l[k]'h') = true
 | x :: r,k,h=>by
  rw[List.takeWhile_cons]at h;by_cases e:P x=true
  ·rw[if_pos e]at h
   cases k with
   | zero=>exact⟨by simp,e⟩
   | succ k=>
    obtain⟨h',h2⟩:=zIu P r k (by simpa using h);exact⟨by simpa using h',h2⟩
  ·rw[if_neg e]at h;simp at h
theorem zUs {α:Type}(P:α->Bool)(l:List α):(l.takeWhile P).length<=l.length:=(List.takeWhile_sublist P).length_le
theorem zRH {α:Type}(P:α->Bool):∀(l:List α) (h:(l.takeWhile P).length<l.length),P (l[(l.takeWhile P).length]'h)=false
 | x :: r,h=>by
  by_cases e:P x=true
  ·have he:((x :: r).takeWhile P).length=(r.takeWhile P).length+1:=by rw[List.takeWhile_cons,if_pos e];rfl
   have:=zRH P r (by rw[he]at h;simpa using h);simp only[he];exact this
  ·have he:((x :: r).takeWhile P).length=0:=by rw[List.takeWhile_cons,if_neg e];rfl
   simp only[he];simpa using e
theorem zHV {α:Type}(P:α->Bool):∀l:List α,l.drop (l.takeWhile P).length=l.dropWhile P
 | []=>rfl
 | x :: r=>by
  by_cases e:P x=true
  ·rw[List.takeWhile_cons,if_pos e,List.dropWhile_cons,if_pos e,List.length_cons,List.drop_succ_cons];exact zHV P r
  ·rw[List.takeWhile_cons,if_neg e,List.dropWhile_cons,if_neg e];rfl
theorem zCx {α:Type}{C:Cd α}{B:Nat}{w:World}{b off n cap:Nat}{l:List α}(h:zAh C B w (.slice (some ⟨b,off,none⟩) n cap) l)(i m:Nat)(hm:i+m<=l.length)(c2:Nat)(hc2:m<=c2)(o2:Nat)(ho2:o2=off+i*C.n):
  zAh C B w (.slice (some ⟨b,o2,none⟩) m c2) ((l.drop i).take m):=by
 subst ho2;obtain⟨a,cap',he,_,hn,hc⟩:=h;cases he;have hl:((l.drop i).take m).length=m:=by rw[List.length_take,List.length_drop];omega
 refine⟨_,_,by rw[hl],by rw[hl];exact hc2,fun h0 b' hb'=>?_,fun k hk=>?_⟩
 ·cases hb'
  exact hn (show 0<l.length by have:0<m:=h0;omega) b rfl
 ·rw[hl]at hk;obtain⟨b2,off2,cs,he,hb,hr,hrow⟩:=hc (i+k) (by omega);cases he;refine⟨_,_,cs,rfl,hb,?_,?_⟩
  ·rw[List.getElem_take,List.getElem_drop];exact hr
  ·rw[Nat.add_assoc,<- Nat.add_mul];exact hrow
def zAM (t:List TrN)(i:Nat):List TrN:=t.take i++(t.drop (i+1)).dropWhile fun y=>decide ((zAa t i).dep<y.dep)
def zH4 (t:List TrN)(i:Nat):Nat:=((t.drop (i+1)).takeWhile fun y=>decide ((zAa t i).dep<y.dep)).length
theorem zH3 (t:List TrN)(i:Nat)(hi:i<t.length):i+1+zH4 t i<=t.length:=by
 have:=zUs (fun y=>decide ((zAa t i).dep<y.dep)) (t.drop (i+1));rw[List.length_drop]at this;unfold zH4;omega
theorem zL4 {t:List TrN}{i k:Nat}(hk:k<zH4 t i):∃h:i+1+k<t.length,(zAa t i).dep<(t[i+1+k]'h).dep:=by
 obtain⟨h,h2⟩:=zIu _ _ k hk;rw[List.getElem_drop]at h2;exact⟨by rw[List.length_drop]at h;omega,of_decide_eq_true h2⟩
theorem zQ3 {t:List TrN}{i:Nat}(h:i+1+zH4 t i<t.length):¬(zAa t i).dep<(t[i+1+zH4 t i]'h).dep:=by
 have:=zRH (fun y=>decide ((zAa t i).dep<y.dep)) (t.drop (i+1)) (by rw[List.length_drop];unfold zH4 at h;omega);rw[List.getElem_drop]at this;exact of_decide_eq_false this
theorem zQG (t:List TrN)(i:Nat):zAM t i=t.take i++t.drop (i+1+zH4 t i):=by
 unfold zAM zH4;rw[<- zHV,List.drop_drop]
def zXs (SV V2 V5:Value)(ix e B0:Nat)(CT RL:List TrN)(RE:Int):Nat->Value->World->Prop
 | 0,v,_=>v=SV
 | 1,v,_=>v= .int .i64 ix
 | 2,v,_=>v=V2
 | 3,v,_=>v=SV
 | 4,v,_=>v= .int .i64 e
 | 5,v,_=>v=V5
 | 6,v,w=>∃g,v= .slice (some ⟨g,0,none⟩) 2 2/\w.heap[g]? = some (.cells #[V2,V5] 33 (0,0))
 | 7,v,w=>∃a c B2,v= .slice a CT.length c/\B2<=w.heap.size/\zCa B2 w (.slice a CT.length c) CT
 | 8,v,w=>∃a c B2,v= .tuple #[.slice a RL.length c,.int .i64 RE]/\B0<=B2/\B2<=w.heap.size/\zAg cdT B2 w (.slice a RL.length c) RL
 | 9,v,w=>∃a c B2,v= .slice a RL.length c/\B0<=B2/\B2<=w.heap.size/\zAg cdT B2 w (.slice a RL.length c) RL
 | 10,v,_=>v= .int .i64 RE
 | 11,v,w=>∃a c B2,v= .slice a RL.length c/\B0<=B2/\B2<=w.heap.size/\zAg cdT B2 w (.slice a RL.length c) RL
 | 12,v,_=>v= .int .i64 RE
 | _,_,_=>True
theorem zKU {SV V2 V5:Value}{ix e B0:Nat}{CT RL:List TrN}{RE:Int}:∀(i:Nat) (v:Value) (w w':World),zXs SV V2 V5 ix e B0 CT RL RE i v w->Ext w w'->zXs SV V2 V5 ix e B0 CT RL RE i v w':=by
 intro i v w w' hh he
 match i,hh with
 | 0,h=>exact h
 | 1,h=>exact h
 | 2,h=>exact h
 | 3,h=>exact h
 | 4,h=>exact h
 | 5,h=>exact h
 | 6,⟨g,h,h2⟩=>exact⟨g,h,bX he h2⟩
 | 7,⟨a,c,B2,h,h2⟩=>exact⟨a,c,B2,h,⟨Nat.le_trans h2.1 he.size,h2.2.ext okT he⟩⟩
 | 8,⟨a,c,B2,h,h2⟩=>exact⟨a,c,B2,h,⟨h2.1,Nat.le_trans h2.2.1 he.size,h2.2.2.ext okT he⟩⟩
 | 9,⟨a,c,B2,h,h2⟩=>exact⟨a,c,B2,h,⟨h2.1,Nat.le_trans h2.2.1 he.size,h2.2.2.ext okT he⟩⟩
 | 10,h=>exact h
 | 11,⟨a,c,B2,h,h2⟩=>exact⟨a,c,B2,h,⟨h2.1,Nat.le_trans h2.2.1 he.size,h2.2.2.ext okT he⟩⟩
 | 12,h=>exact h
 | i+13,_=>trivial
end Go.Proofs.YtbeeoomadnmogaaGreat
