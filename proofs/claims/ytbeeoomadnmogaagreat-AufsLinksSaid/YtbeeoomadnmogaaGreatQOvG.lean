/- OvG AwD AxJ AwM -/
import Derived.Test.YtbeeoomadnmogaaGreatQI6
import Derived.Test.YtbeeoomadnmogaaGreatQAfS
import Derived.Test.YtbeeoomadnmogaaGreatQBsdJ
set_option maxRecDepth 100000
set_option maxHeartbeats 64000000
namespace Go.Proofs.YtbeeoomadnmogaaGreat
open Go.RowKit
structure zHn (w:World) (bo:Nat) (bx:Array Value) (lv:Value) (ls:List zAq) (o:Bool) (vr:Value) (rs:List ByteArray) (ve:Value) (es:List DeN) (W:World):Prop where
 box:W.heap[w.heap.size]? = some (.cells bx 26 (0,0))
 res:W.heap[w.heap.size+1]? = some (.cells #[.slice none 0 0,.bool false,.slice none 0 0,.slice none 0 0] 26 (0,0))
 out:W.heap[bo]? = some (.cells #[lv,.bool o,vr,ve] 26 (0,0))
 own:zAg cdE w.heap.size W ve es
 ats:zAH w.heap.size W lv ls
 red:zBV w.heap.size W vr rs
 ext:Ext w W
theorem zHn.up {w W V:World}{bo:Nat}{bx:Array Value}{lv vr ve:Value}{ls:List zAq}{o:Bool}{rs:List ByteArray}{es:List DeN}(h:zHn w bo bx lv ls o vr rs ve es W)(he:Ext W V):zHn w bo bx lv ls o vr rs ve es V:=
 ⟨bX he h.box,bX he h.res,bX he h.out,h.own.ext okE he,h.ats.ext okA he,h.red.ext okS he,h.ext.trans he⟩
theorem zHn.app {w W W':World}{bo:Nat}{bx:Array Value}{lv vr ve ve':Value}{ls:List zAq}{o:Bool}{rs:List ByteArray}{es es':List DeN}(h:zHn w bo bx lv ls o vr rs ve es W)(ha:zIr cdE w.heap.size ve ve' es' w W W'):
 W'.heap[bo]? = some (.cells #[lv,.bool o,vr,ve] 26 (0,0)):=ha.chg.keep _ _ h.out (zCO h.own h.out)
theorem zHn.step {w W W':World}{bo:Nat}{bx:Array Value}{lv vr ve ve':Value}{ls:List zAq}{o:Bool}{rs:List ByteArray}{es es':List DeN}(h:zHn w bo bx lv ls o vr rs ve es W)(ha:zIr cdE w.heap.size ve ve' es' w W W')(hb:w.heap.size+1<bo):
  zHn w bo bx lv ls o vr rs ve' es' (W'.setCell ⟨bo,3,none⟩ ve'):=by
 have hout:=h.app ha;have hc:Chg w.heap.size 26 (some bo) W' (W'.setCell ⟨bo,3,none⟩ ve'):=⟨fun b o hb hne=>bSn hb _ _ (fun e=>hne (by rw[e])),by simp[World.setCell],fun g hg=>by cases hg;exact⟨by omega,_,_,hout⟩⟩;refine⟨?_,?_,bS hout _,ha.own.other okE hc (by decide) (by decide),(h.ats.chg okA ha.chg (by decide) (by decide)).chg okA hc (by decide) (by decide),(h.red.chg okS ha.chg (by decide) (by decide)).chg okS hc (by decide) (by decide),Below.setCell (p:=⟨bo,3,none⟩) ha.below (by show w.heap.size<=bo;omega) _⟩
 ·exact bSn (ha.chg.keep _ _ h.box (zCO h.own h.box)) _ _ (by show w.heap.size≠bo;omega)
 ·exact bSn (ha.chg.keep _ _ h.res (zCO h.own h.res)) _ _ (by show w.heap.size+1≠bo;omega)
theorem zKi {X:DeN->DeN}(l:List DeN)(k:Nat)(h:k<l.length):(l.take (k+1)).map X=(l.take k).map X++ [X (l[k]'h)]:=by
 rw[List.take_succ_eq_append_getElem h,List.map_append];rfl
structure RbE (g:Nat) (w w':World):Prop where
 below:Below g w w'
 keep:zAy (some g) w w'
 typed:(∃c,w.heap[g]? = some (.cells c 66 (0,0)))->∃c,w'.heap[g]? = some (.cells c 66 (0,0))
theorem RbE.trans {g:Nat}{w w' w'':World}(h:RbE g w w')(k:RbE g w' w''):RbE g w w'':=⟨h.below.trans k.below,fun b o hb hne=>k.keep b o (h.keep b o hb hne) hne,fun ht=>k.typed (h.typed ht)⟩
theorem zEc (B:Nat)(w:World)(v:Value)(d:DiN)(hd:zBA B w v d)(hB:B<=w.heap.size)(hsm:zDR d):
  Calls Tryz.prog 13 #[v] w (zXe w.heap.size w (acD d) (acN d) (acE d)):=by
 have HD:=hQq hd;obtain⟨va,vr,ve,rfl,ha,hr,he⟩:=hd;have HA:=hQq ha;have HR:=hQq hr;have HE:=hQq he;have HSM:=hQq hsm;obtain⟨a3,cap3,rfl⟩:=ha.form;obtain⟨a4,cap4,rfl⟩:=hr.form;obtain⟨a5,cap5,rfl⟩:=he.form;have hlen:=hsm.len;clear ha hr he hsm;by_cases e1:zCs d=0
 case neg=>
  have HX:=hQq (zCd (zJ3 e1));have q1:(zCs d != 0)=true:=bne_iff_ne.2 e1;clear e1;go_enter Tryz.func13,Tryz.ntmps13;go_wp2_with (go_at_call 40;refine(zCB B _ _ d (HD.out.ext ((eA _ _).trans (eA _ _))) HSM.out).mono ?_;rintro e w1 ⟨rfl,hb1⟩;have q2:w1.heap[w.heap.size+1]? = some (.cells #[.slice none 0 0,.bool false,.slice none 0 0,.slice none 0 0] 26 (0,0)):=bX hb1 (zAu (by simp));obtain⟨r0,r1,r2,r3⟩:=b4C q2;have fz:∀j,w1.frozen? ⟨w.heap.size+1,j,none⟩=false:=fun j=>bT q2 j;have Q2:=hQq q2;clear q2;have q1:w1.heap[w.heap.size]? = some (.cells #[.slice a3 d.ats.length cap3,.bool d.opq,.slice a4 d.red.length cap4,.slice a5 d.ens.length cap5] 26 (0,0)):=bX hb1 (bA (bN w _));obtain⟨k0,k1,k2,k3⟩:=b4C q1;have Q1:=hQq q1;have hz1:=bL q1;have hz2:=bL Q2.out;clear q1;have HB1:=hQq (((eA _ _).trans (eA _ _)).trans hb1);clear hb1)
  refine nW (P:=fun W=>bodyPost _ _ _ _ _ W) _ ?_;intro W2 hW2;obtain⟨hq,hx,hc⟩:=zGN Q2.out (by omega) HB1.out hW2;refine bodyPost_ret (v:=.tuple #[.agg #[.slice none 0 0,.bool false,.slice none 0 0,.slice none 0 0],.int .i64 (zNk d),.int .i64 (zCs d)]) (by simp[results,Tryz.f13,go_sem,bC hq 0,bC hq 1,bC hq 2,bC hq 3]) rfl ?_;exact⟨⟨_,by rw[HX.out.2.1,HX.out.2.2],by rw[HX.out.1];exact zBu _ _⟩,hx⟩
 have q1:(zCs d != 0)=false:=bne_eq_false_iff_eq.2 e1;have E1:=hQq e1;clear e1;by_cases e2:0<d.red.length
 case pos=>
  have HX:=hQq (zCd (zJ2 E1.out e2));have j2:(0:Int)<(d.red.length:Int):=by omega
  go_enter Tryz.func13,Tryz.ntmps13;go_wp2_with (go_at_call 40;refine(zCB B _ _ d (HD.out.ext ((eA _ _).trans (eA _ _))) HSM.out).mono ?_;rintro e w1 ⟨rfl,hb1⟩;have q2:w1.heap[w.heap.size+1]? = some (.cells #[.slice none 0 0,.bool false,.slice none 0 0,.slice none 0 0] 26 (0,0)):=bX hb1 (zAu (by simp));obtain⟨r0,r1,r2,r3⟩:=b4C q2;have fz:∀j,w1.frozen? ⟨w.heap.size+1,j,none⟩=false:=fun j=>bT q2 j;have Q2:=hQq q2;clear q2;have q1:w1.heap[w.heap.size]? = some (.cells #[.slice a3 d.ats.length cap3,.bool d.opq,.slice a4 d.red.length cap4,.slice a5 d.ens.length cap5] 26 (0,0)):=bX hb1 (bA (bN w _));obtain⟨k0,k1,k2,k3⟩:=b4C q1;have Q1:=hQq q1;have hz1:=bL q1;have hz2:=bL Q2.out;clear q1;have HB1:=hQq (((eA _ _).trans (eA _ _)).trans hb1);clear hb1)
  refine nW (P:=fun W=>bodyPost _ _ _ _ _ W) _ ?_;intro W2 hW2;obtain⟨hq,hx,hc⟩:=zGN Q2.out (by omega) HB1.out hW2;refine bodyPost_ret (v:=.tuple #[.agg #[.slice none 0 0,.bool false,.slice none 0 0,.slice none 0 0],.int .i64 (-1),.int .i64 15]) (by simp[results,Tryz.f13,go_sem,bC hq 0,bC hq 1,bC hq 2,bC hq 3]) rfl ?_;exact⟨⟨_,by rw[HX.out.2.1,HX.out.2.2],by rw[HX.out.1];exact zBu _ _⟩,hx⟩
 have E2:=hQq e2;have j2:¬(0:Int)<(d.red.length:Int):=by omega
 clear e2;go_enter Tryz.func13,Tryz.ntmps13;go_wp2_with (first
  | (go_at_call 40;refine(zCB B _ _ d (HD.out.ext ((eA _ _).trans (eA _ _))) HSM.out).mono ?_;rintro e w1 ⟨rfl,hb1⟩;have q2:w1.heap[w.heap.size+1]? = some (.cells #[.slice none 0 0,.bool false,.slice none 0 0,.slice none 0 0] 26 (0,0)):=bX hb1 (zAu (by simp));obtain⟨r0,r1,r2,r3⟩:=b4C q2;have fz:∀j,w1.frozen? ⟨w.heap.size+1,j,none⟩=false:=fun j=>bT q2 j;have Q2:=hQq q2;clear q2;have q1:w1.heap[w.heap.size]? = some (.cells #[.slice a3 d.ats.length cap3,.bool d.opq,.slice a4 d.red.length cap4,.slice a5 d.ens.length cap5] 26 (0,0)):=bX hb1 (bA (bN w _));obtain⟨k0,k1,k2,k3⟩:=b4C q1;have Q1:=hQq q1;have hz1:=bL q1;have hz2:=bL Q2.out;clear q1;have HB1:=hQq (((eA _ _).trans (eA _ _)).trans hb1);clear hb1)
  | (go_at_call 41;refine(zGg _ d.ats _ ((HA.out.ext okA HB1.out).attrs) (HSM.out.atl)).mono ?_;rintro e w2 ⟨⟨a7,cap7,rfl,ho⟩,hb2⟩;have HO:=hQq (show zAH w.heap.size w2 (.slice a7 d.ats.length cap7) d.ats from ho.toIn);clear r0 r1 r2 r3 fz k0 k1 k2 k3 hz1 hz2;have q2:w2.heap[w.heap.size+1]? = some (.cells #[.slice none 0 0,.bool false,.slice none 0 0,.slice none 0 0] 26 (0,0)):=bX hb2 Q2.out;obtain⟨r0,r1,r2,r3⟩:=b4C q2;have fz:∀j,w2.frozen? ⟨w.heap.size+1,j,none⟩=false:=fun j=>bT q2 j;have Q2:=hQq q2;clear q2;have q1:w2.heap[w.heap.size]? = some (.cells #[.slice a3 d.ats.length cap3,.bool d.opq,.slice a4 d.red.length cap4,.slice a5 d.ens.length cap5] 26 (0,0)):=bX hb2 Q1.out;obtain⟨k0,k1,k2,k3⟩:=b4C q1;have Q1:=hQq q1;have hz1:=bL q1;have hz2:=bL Q2.out;clear q1;have HB2:=hQq (HB1.out.trans hb2);clear hb2 ho))
 have HBO:Hid (w.heap.size+1<w2.heap.size):=hQq hz2;have HST0:Hid (zHn w w2.heap.size #[.slice a3 d.ats.length cap3,.bool d.opq,.slice a4 d.red.length cap4,.slice a5 d.ens.length cap5] (.slice a7 d.ats.length cap7) d.ats false (.slice none 0 0) [] (.slice none 0 0) [] (w2.alloc (.cells #[.slice a7 d.ats.length cap7,.bool false,.slice none 0 0,.slice none 0 0] 26 (0,0)))):=hQq ⟨bA Q1.out,bA Q2.out,bN _ _,zAg.nil _ _ _,HO.out.ext okA (eA _ _),zBm _ _ _,HB2.out.trans (eA _ _)⟩;clear r0 r1 r2 r3 fz k0 k1 k2 k3 hz1 hz2;go_loopw [35] (fun i w'=>∃(wi:World) (k:Nat) (ve:Value),wi=w'/\k<=d.ens.length/\i= .int .i64 k/\(∀j,j<k->aeE (zBq d.ens j)=0)/\zHn w w2.heap.size #[.slice a3 d.ats.length cap3,.bool d.opq,.slice a4 d.red.length cap4,.slice a5 d.ens.length cap5] (.slice a7 d.ats.length cap7) d.ats false (.slice none 0 0) [] ve ((d.ens.take k).map aeX) wi) (fun i _=>d.ens.length-(intOf i).toNat)
 case atStart=>exact⟨_,0,_,rfl,Nat.zero_le _,rfl,fun j hj=>absurd hj (by omega),HST0.out⟩
 case round=>
  clear HST0;obtain⟨wi,k,ve,rfl,hk,rfl,hok,hst⟩:=hrel;obtain⟨es,hes⟩:∃es,es=(d.ens.take k).map aeX:=⟨_,rfl⟩;rw[<- hes]at hst;have HES:=hQq hes;have HOK:=hQq hok;have HST:=hQq hst;clear hes;obtain⟨a8,cap8,rfl⟩:=hst.own.form;obtain⟨k0,k1,k2,k3⟩:=b4C HST.out.box;obtain⟨r0,r1,r2,r3⟩:=b4C HST.out.res;have fz:∀j,wi.frozen? ⟨w.heap.size+1,j,none⟩=false:=fun j=>bT HST.out.res j;have hb0:=bL HST.out.box;clear hok hst;by_cases hlt:k<d.ens.length
  case neg=>
   obtain rfl:k=d.ens.length:=by omega
   have HGN:Hid ((gnT aeE d.ens).2=0):=hQq (by rw[zTW HOK.out]);have HTK:Hid (es=d.ens.map aeX):=hQq (by rw[HES.out,List.take_length]);have HAE:Hid (∀x∈d.ens,aeE x=0):=hQq (fun x hx=>by obtain⟨j,hj,rfl⟩:=List.mem_iff_getElem.1 hx;have:=HOK.out j hj;rw[zAL d.ens j hj]at this;exact this);cases ho:d.opq
   case true=>
    rw[ho]at k1;have HHO:=hQq ho;clear ho;obtain⟨y,hy⟩:∃y,y=mkN zDx:=⟨_,rfl⟩;have HYM:=hQq hy;have HYA:Hid (y.nd.ats= []):=hQq (by rw[hy];rfl);have HLN:Hid (es.length<=1000):=hQq (by rw[HTK.out,List.length_map];exact hlen);clear hy;go_upto_region 22 with fail
    refine nW (P:=fun W=>Code.wp _ _ _ _ W) _ ?_;intro W hW;have HXW:Hid (Ext wi W):=hQq (by rw[hW];first|exact bR _ _|exact eD _);clear hW;have HSW:=hQq (HST.out.up HXW.out);clear k0 k1 k2 k3 r0 r1 r2 r3 fz hb0;refine zAX (zYL ⟨w2.heap.size,3,none⟩ (.slice a8 es.length cap8) (undef)) (apI w.heap.size w W (fun ve es V=>zHn w w2.heap.size #[.slice a3 d.ats.length cap3,.bool d.opq,.slice a4 d.red.length cap4,.slice a5 d.ens.length cap5] (.slice a7 d.ats.length cap7) d.ats false (.slice none 0 0) [] ve es V) (.slice a8 es.length cap8) es (y) 2 3 4 6 71 72 73) rfl (by kernel_rfl) (by kernel_rfl) ?_ ?_ ?_
    ·intro vs;exact zDt rfl ⟨eD W,HSW.out.up (eD W),fun h=>(by cases h),fun h=>(by cases h)⟩
    ·intro i o a wx z vs ho hz0 hdn hpd hI hvs hk hp;have n7:=eV (show a.eval (.tmp 7)= .pointer (some ⟨w2.heap.size,0,none⟩)from hk 7 (of_decide_eq_true (by kernel_rfl)));clear hk
     match i,ho,hz0,hpd,hp with
     | 0,ho,hz0,hpd,hp=>
      obtain rfl:=oI ho;clear ho hp hpd hdn hvs;unfold Oper.wp;go_simp;exact⟨_,rfl,rfl,zAv rfl rfl rfl rfl rfl rfl rfl hI⟩
     | 1,ho,hz0,hpd,hp=>
      obtain rfl:=oI ho;have h5:z 4=false:=hdn 4 1 (of_decide_eq_true (by kernel_rfl)) (of_decide_eq_true (by kernel_rfl)) (by kernel_rfl) hz0;have hS:=(zBb h5 hI).2.1;have o3:=bC hS.out 3;have p0:=eV (show a.eval (.tmp 69)= .pointer (some ⟨w2.heap.size,3,none⟩)from hp 0 _ 69 (by kernel_rfl) rfl rfl);clear ho hp hpd hdn hvs;unfold Oper.wp;go_simp;exact⟨_,rfl,rfl,zAv rfl rfl rfl rfl rfl rfl rfl hI⟩
     | 2,ho,hz0,hpd,hp=>
      obtain rfl:=oI ho;have h4:z 3=false:=hdn 3 2 (of_decide_eq_true (by kernel_rfl)) (of_decide_eq_true (by kernel_rfl)) (by kernel_rfl) hz0;have h5:z 4=false:=hdn 4 3 (of_decide_eq_true (by kernel_rfl)) (of_decide_eq_true (by kernel_rfl)) (by kernel_rfl) h4;obtain⟨hE,hS,-,-⟩:=zBb h5 hI;clear ho hp hpd hdn hvs hI;unfold Oper.wp;go_simp;refine(zUc _ _).mono ?_;rintro e w5 ⟨rfl,hb5⟩;exact⟨_,rfl,trivial,zDt h5 ⟨hE.trans hb5,hS.up hb5,fun _=>⟨none,0,by show deV (mkN zDx) _=_;rw[<- HYM.out,HYA.out];rfl,by rw[HYA.out];exact zAh.nil _ _ _ _⟩,fun h=>by cases h4.symm.trans h⟩⟩
     | 3,ho,hz0,hpd,hp=>
      obtain rfl:=oI ho;have h5:z 4=false:=hdn 4 3 (of_decide_eq_true (by kernel_rfl)) (of_decide_eq_true (by kernel_rfl)) (by kernel_rfl) hz0;obtain⟨hE,hS,h3,-⟩:=zBb h5 hI;obtain⟨a9,c9,e62,ha9⟩:=h3 (hpd 2 (of_decide_eq_true (by kernel_rfl)) (by kernel_rfl));have p62:=eV (show a.eval (.tmp 71)=_ from(hvs 71 (of_decide_eq_true (by kernel_rfl))).symm.trans e62);clear ho hp hpd hdn hvs hI;unfold Oper.wp;go_simp;exact⟨_,rfl,trivial,zDt h5 ⟨hE.trans (eA _ _),hS.up (eA _ _),fun h=>⟨a9,c9,e62,ha9.ext okA (eA _ _)⟩,fun _=>zAj okE _ (y) [.string y.nm,.int .i64 y.nd.dep,.string y.nd.nm,.int .i64 y.nd.kd,.slice a9 y.nd.ats.length c9,.string y.nd.dat,.int .i64 y.nd.ma,.int .i64 y.nd.mi,.int .i64 y.nd.cl,.bool y.wh,.bool y.fi,.int .i64 y.ns] _ (by first|rfl|simp) ⟨_,ha9,rfl⟩⟩⟩
     | 4,ho,hz0,hpd,hp=>
      obtain rfl:=oI ho;have h7:z 6=false:=hdn 6 4 (of_decide_eq_true (by kernel_rfl)) (of_decide_eq_true (by kernel_rfl)) (by kernel_rfl) hz0;obtain⟨hE,hS,-,h4⟩:=zBb hz0 hI;have hL:=h4 (hpd 3 (of_decide_eq_true (by kernel_rfl)) (by kernel_rfl));have p60:a.eval (.tmp 70)= .slice a8 es.length cap8:=hp 1 _ 70 (by kernel_rfl) rfl rfl;refine zCK okE (.tmp 70) (.tmp 72) (by rfl) (.slice a8 es.length cap8) (vs 72) es [y] w _ p60 (hvs 72 (of_decide_eq_true (by kernel_rfl))).symm hS.own hL hS.ext hS.ext.size (by have:=HLN.out;simp only[List.length_singleton];omega) ?_;intro v6 w6 hap;exact⟨v6,rfl,trivial,zIc rfl h7 ⟨wx,hS,hap⟩⟩
     | 5,ho,hz0,hpd,hp=>
      obtain rfl:=oI ho;clear ho hp hpd hdn hvs;unfold Oper.wp;go_simp;exact⟨_,rfl,rfl,zAv rfl rfl rfl rfl rfl rfl rfl hI⟩
     | 6,ho,hz0,hpd,hp=>
      obtain rfl:=oI ho;have h5:z 4=true:=hpd 4 (of_decide_eq_true (by kernel_rfl)) (by kernel_rfl);obtain⟨V0,hS,hap⟩:=zIb h5 hz0 hI;have p6:=eV (show a.eval (.tmp 74)= .pointer (some ⟨w2.heap.size,3,none⟩)from hp 5 _ 74 (by kernel_rfl) rfl rfl);obtain⟨v6,e6⟩:∃v6,vs 73=v6:=⟨_,rfl⟩;have p5:=eV (show a.eval (.tmp 73)=v6 from(hvs 73 (of_decide_eq_true (by kernel_rfl))).symm.trans e6);rw[e6]at hap;obtain⟨a10,cap10,rfl⟩:=hap.own.form;rw[zFT]at hap e6 p5;have hou:=hS.app hap;have o3:=bC hou 3;have fo:∀j,wx.frozen? ⟨w2.heap.size,j,none⟩=false:=fun j=>bT hou j;clear ho hp hpd hdn hvs hI;unfold Oper.wp;go_simp;refine⟨undef,trivial,(zDz (z:=zOF z 6) (vs:=zLk vs none undef) (i5:=4) (i7:=6) h5 rfl).2 ?_⟩;show zHn _ _ _ _ _ _ _ _ (vs 73) _ _;rw[e6];exact hS.step hap HBO.out
     | i+7,ho,_,_,_=>exact absurd (Array.getElem?_eq_some_iff.1 ho).1 (by simp)
    ·intro z vs wx hz hI hf;have hS9:=hQq ((zDz (hz 4 (of_decide_eq_true (by kernel_rfl))) (hz 6 (of_decide_eq_true (by kernel_rfl)))).1 hI);clear hf hz hI;generalize hA:zAC _ _ _=A1;have hA2:=hA.symm.trans (congrArg (fun D=>zAC _ D vs) (show zCu _ 7= [69,70,71,72,73,74] by kernel_rfl));rw[hA2];clear hA2 hA;simp only[zAC,List.foldl,Act.put,List.setIfInBounds_toArray,List.set_cons_succ,List.set_cons_zero];have h9:=hS9.out;obtain⟨es2,hes2⟩:∃e,e=es++ [y]:=⟨_,rfl⟩;obtain⟨v10,hv10⟩:∃v,v=vs 73:=⟨_,rfl⟩;have HLQ:Hid (acL d=es2):=hQq (by unfold acL;rw[hes2,HTK.out,HHO.out,HYM.out];simp);rw[<- hes2,<- hv10]at h9;clear hv10 hes2 hS9;obtain⟨a10,cap10,rfl⟩:=h9.own.form;have HS9:=hQq h9;obtain⟨r0,r1,r2,r3⟩:=b4C HS9.out.res;have fz:∀j,wx.frozen? ⟨w.heap.size+1,j,none⟩=false:=fun j=>bT HS9.out.res j;have hb9:=bL HS9.out.res;clear h9;obtain⟨o0,o1,o2,o3⟩:=b4C HS9.out.out;by_cases h24:24<es2.length
     case pos=>
      have HX:=hQq (zCd (zFb E1.out E2.out HGN.out (by rw[HLQ.out];exact h24)));have j24:(24:Int)<(es2.length:Int):=by omega
      go_wp2_with fail
      refine nW (P:=fun W=>bodyPost _ _ _ _ _ W) _ ?_;intro W2 hW2;obtain⟨hq,hx,hc⟩:=zGN HS9.out.res (by omega) HS9.out.ext hW2;refine bodyPost_ret (v:=.tuple #[.agg #[.slice none 0 0,.bool false,.slice none 0 0,.slice none 0 0],.int .i64 (-1),.int .i64 5]) (by simp[results,Tryz.f13,go_sem,bC hq 0,bC hq 1,bC hq 2,bC hq 3]) rfl ?_;exact⟨⟨_,by rw[HX.out.2.1,HX.out.2.2],by rw[HX.out.1];exact zBu _ _⟩,hx⟩
     have HX:=hQq (zCd (zI0 E1.out E2.out HGN.out (by rw[HLQ.out];exact h24)));have j24:¬(24:Int)<(es2.length:Int):=by omega
     have HLE:Hid (es2.length<=1000):=hQq (by omega);clear h24;go_wp2_with (go_at_call 46;refine(zJZ w.heap.size _ es2 _ HS9.out.own HS9.out.ext.size HLE.out).mono ?_;rintro e w7 ⟨rfl,hs⟩;have HS:=hQq hs;have HR7:=hQq (hs.2.2.keep _ _ HS9.out.res (zCO HS9.out.own HS9.out.res));have HU7:=hQq (hs.2.2.keep _ _ HS9.out.out (zCO HS9.out.own HS9.out.out));clear hs r0 r1 r2 r3 o0 o1 o2 o3 fz;obtain⟨r0,r1,r2,r3⟩:=b4C HR7.out;have fz:∀j,w7.frozen? ⟨w.heap.size+1,j,none⟩=false:=fun j=>bT HR7.out j;obtain⟨o0,o1,o2,o3⟩:=b4C HU7.out)
     obtain⟨m,hm1,hm2,hm3⟩:=HS.out.1;have HM:=hQq (zJa (zMh (zF6 E1.out) HAE.out) (by rw[HLQ.out];exact hm1) hm2);have HM3:=hQq hm3;have HE7:Hid (Ext w w7):=hQq (Below.trans HS9.out.ext HS.out.2.1);refine nW (P:=fun W=>bodyPost _ _ _ _ _ W) _ ?_;intro W2 hW2;obtain⟨hq,hx,hc⟩:=zGN HR7.out (by omega) HE7.out hW2;refine bodyPost_ret (v:=.tuple #[.agg #[.slice a7 d.ats.length cap7,.bool false,.slice none 0 0,.slice a10 es2.length cap10],.int .i64 0,.int .i64 0]) (by simp[results,Tryz.f13,go_sem,bC hq 0,bC hq 1,bC hq 2,bC hq 3]) rfl ?_;exact⟨⟨_,by rw[HX.out.2.1,HX.out.2.2],by rw[HX.out.1];exact⟨_,_,_,rfl,(HS9.out.ats.chg okA HS.out.2.2 (by decide) (by decide)).chg okA (hcB (Nat.le_refl _) hc HR7.out) (by decide) (by decide),zBm _ _ _,by have h:=HM3.out.chg okE (hcB (Nat.le_refl _) hc HR7.out) (by decide) (by decide);rw[HM.out]at h;exact h⟩⟩,hx⟩
   rw[ho]at k1;have HLQ:Hid (acL d=es):=hQq (by unfold acL;rw[HTK.out,ho];simp);obtain⟨o0,o1,o2,o3⟩:=b4C HST.out.out;by_cases h24:24<es.length
   case pos=>
    have HX:=hQq (zCd (zFb E1.out E2.out HGN.out (by rw[HLQ.out];exact h24)));have j24:(24:Int)<(es.length:Int):=by omega
    go_wp2_with fail
    refine nW (P:=fun W=>bodyPost _ _ _ _ _ W) _ ?_;intro W2 hW2;obtain⟨hq,hx,hc⟩:=zGN HST.out.res (by omega) HST.out.ext hW2;refine bodyPost_ret (v:=.tuple #[.agg #[.slice none 0 0,.bool false,.slice none 0 0,.slice none 0 0],.int .i64 (-1),.int .i64 5]) (by simp[results,Tryz.f13,go_sem,bC hq 0,bC hq 1,bC hq 2,bC hq 3]) rfl ?_;exact⟨⟨_,by rw[HX.out.2.1,HX.out.2.2],by rw[HX.out.1];exact zBu _ _⟩,hx⟩
   have HX:=hQq (zCd (zI0 E1.out E2.out HGN.out (by rw[HLQ.out];exact h24)));have j24:¬(24:Int)<(es.length:Int):=by omega
   have HLE:Hid (es.length<=1000):=hQq (by omega);clear h24;go_wp2_with (go_at_call 46;refine(zJZ w.heap.size _ es _ HST.out.own HST.out.ext.size HLE.out).mono ?_;rintro e w7 ⟨rfl,hs⟩;have HS:=hQq hs;have HR7:=hQq (hs.2.2.keep _ _ HST.out.res (zCO HST.out.own HST.out.res));have HU7:=hQq (hs.2.2.keep _ _ HST.out.out (zCO HST.out.own HST.out.out));clear hs r0 r1 r2 r3 o0 o1 o2 o3 fz;obtain⟨r0,r1,r2,r3⟩:=b4C HR7.out;have fz:∀j,w7.frozen? ⟨w.heap.size+1,j,none⟩=false:=fun j=>bT HR7.out j;obtain⟨o0,o1,o2,o3⟩:=b4C HU7.out)
   obtain⟨m,hm1,hm2,hm3⟩:=HS.out.1;have HM:=hQq (zJa (zMh (zF6 E1.out) HAE.out) (by rw[HLQ.out];exact hm1) hm2);have HM3:=hQq hm3;have HE7:Hid (Ext w w7):=hQq (Below.trans HST.out.ext HS.out.2.1);refine nW (P:=fun W=>bodyPost _ _ _ _ _ W) _ ?_;intro W2 hW2;obtain⟨hq,hx,hc⟩:=zGN HR7.out (by omega) HE7.out hW2;refine bodyPost_ret (v:=.tuple #[.agg #[.slice a7 d.ats.length cap7,.bool false,.slice none 0 0,.slice a8 es.length cap8],.int .i64 0,.int .i64 0]) (by simp[results,Tryz.f13,go_sem,bC hq 0,bC hq 1,bC hq 2,bC hq 3]) rfl ?_;exact⟨⟨_,by rw[HX.out.2.1,HX.out.2.2],by rw[HX.out.1];exact⟨_,_,_,rfl,(HST.out.ats.chg okA HS.out.2.2 (by decide) (by decide)).chg okA (hcB (Nat.le_refl _) hc HR7.out) (by decide) (by decide),zBm _ _ _,by have h:=HM3.out.chg okE (hcB (Nat.le_refl _) hc HR7.out) (by decide) (by decide);rw[HM.out]at h;exact h⟩⟩,hx⟩
  obtain⟨b,off,va,hex,hbx,hva,c0,c1,c2,c3,c4,c5,c6,c7,c8,c9,c10,c11⟩:=(HE.out.ext okE HST.out.ext).en k hlt;cases hex;have HVA:=hQq (hva.mono okA hB);obtain⟨a6,cap6,rfl⟩:=hva.form;have HG:=hQq (zAL d.ens k hlt);have HMEM:=hQq (HSM.out.ens _ (List.getElem_mem hlt));have HTK:=hQq (zKi (X:=aeX) d.ens k hlt);rw[<- HES.out]at HTK;generalize d.ens[k]'hlt=x at c0 c1 c2 c3 c4 c5 c6 c7 c8 c9 c10 c11 HVA HG HMEM HTK;have HLN:Hid (es.length<=k):=hQq (by rw[HES.out,List.length_map,List.length_take];omega);have j1:((k:Nat):Int)<(d.ens.length:Int):=by omega
  have j0:(0:Int)<=(k:Int):=by omega
  have HNX:Hid (aeE x=0->∀j,j<k+1->aeE (zBq d.ens j)=0):=hQq (fun h j hj=>by
   by_cases e:j=k
   ·subst e;rw[HG.out];exact h
   ·exact HOK.out j (by omega))
  have HNE:Hid (∀n,aeE x=n->n≠0->gnT aeE d.ens=((k:Int),n)):=hQq (fun n hn h=>by
   subst hn;have:=zTX (E:=aeE) hlt HOK.out (by rw[HG.out];exact h);rw[HG.out]at this;exact this)
  clear hva;cases hw:x.wh
  case false=>
   rw[hw]at c9;by_cases e4:nmE 3 x.nm=0
   case neg=>
    have h17:aeE x=17:=by unfold aeE;simp[hw,e4]
    have HNN:=hQq (HNE.out 17 h17 (by decide));have HX:=hQq (zCd (zGH E1.out E2.out HNN.out (by decide)));have q4:(nmE 3 x.nm != 0)=true:=bne_iff_ne.2 e4;clear e4 h17;go_wp2_with (go_at_call 42;(refine(zLQ 3 x.nm _ (by have:=HMEM.out.1;omega)).mono ?_;rintro e w4 ⟨rfl,hb4⟩;have HB4:Hid (Ext wi w4):=hQq ((eA _ _).trans hb4);have hr2:=bX HB4.out HST.out.res;obtain⟨r0,r1,r2,r3⟩:=b4C hr2;have fz:∀j,w4.frozen? ⟨w.heap.size+1,j,none⟩=false:=fun j=>bT hr2 j;have hrs:=bL hr2;have HR2:=hQq hr2;have hx2:=bX hb4 (bN wi _);obtain⟨x0,x1,x2,x3,x4,x5,x6,x7,x8,x9,x10,x11⟩:=zDC hx2;have fx:∀j,w4.frozen? ⟨wi.heap.size,j,none⟩=false:=fun j=>bT hx2 j;have HX2:=hQq hx2;have hxs:=bL hx2;clear hb4 hr2 hx2))
    refine nW (P:=fun W=>bodyPost _ _ _ _ _ W) _ ?_;intro W2 hW2;obtain⟨hq,hx,hc⟩:=zGN HR2.out (by omega) (HST.out.ext.trans HB4.out) hW2;refine bodyPost_ret (v:=.tuple #[.agg #[.slice none 0 0,.bool false,.slice none 0 0,.slice none 0 0],.int .i64 k,.int .i64 17]) (by simp[results,Tryz.f13,go_sem,bC hq 0,bC hq 1,bC hq 2,bC hq 3]) rfl ?_;exact⟨⟨_,by rw[HX.out.2.1,HX.out.2.2],by rw[HX.out.1];exact zBu _ _⟩,hx⟩
   have q4:(nmE 3 x.nm != 0)=false:=bne_eq_false_iff_eq.2 e4;have HE4:=hQq (show aeE x=0 by unfold aeE;simp[hw,e4]);have HN:=hQq (HNX.out HE4.out);clear e4;go_upto_region 19 with (go_at_call 42;(refine(zLQ 3 x.nm _ (by have:=HMEM.out.1;omega)).mono ?_;rintro e w4 ⟨rfl,hb4⟩;have HB4:Hid (Ext wi w4):=hQq ((eA _ _).trans hb4);have hr2:=bX HB4.out HST.out.res;obtain⟨r0,r1,r2,r3⟩:=b4C hr2;have fz:∀j,w4.frozen? ⟨w.heap.size+1,j,none⟩=false:=fun j=>bT hr2 j;have hrs:=bL hr2;have HR2:=hQq hr2;have hx2:=bX hb4 (bN wi _);obtain⟨x0,x1,x2,x3,x4,x5,x6,x7,x8,x9,x10,x11⟩:=zDC hx2;have fx:∀j,w4.frozen? ⟨wi.heap.size,j,none⟩=false:=fun j=>bT hx2 j;have HX2:=hQq hx2;have hxs:=bL hx2;clear hb4 hr2 hx2))
   refine nW (P:=fun W=>Code.wp _ _ _ _ W) _ ?_;intro W hW;have hW2:W=w4.setCell ⟨wi.heap.size,0,none⟩ (.string (nmS 3 x.nm)):=hW;obtain⟨y,hy⟩:∃y,y=(⟨nmS 3 x.nm,x.nd,false,x.fi,x.ns⟩:DeN):=⟨_,rfl⟩;have HQW:Hid (W.heap[wi.heap.size]? = some (.cells #[.string y.nm,.int .i64 y.nd.dep,.string y.nd.nm,.int .i64 y.nd.kd,.slice a6 y.nd.ats.length cap6,.string y.nd.dat,.int .i64 y.nd.ma,.int .i64 y.nd.mi,.int .i64 y.nd.cl,.bool y.wh,.bool y.fi,.int .i64 y.ns] 66 (0,0))):=hQq (by rw[hW2,bS HX2.out,hy];rfl);have HXW:Hid (Ext wi W):=hQq (by rw[hW2];exact Below.setCell (p:=⟨wi.heap.size,0,none⟩) HB4.out (Nat.le_refl _) _);have HVY:Hid (zAH w.heap.size W (.slice a6 y.nd.ats.length cap6) y.nd.ats):=hQq (by rw[hW2,hy];exact(HVA.out.ext okA HB4.out).chg okA (zQP HX2.out HST.out.ext.size) (by decide) (by decide));have HY:Hid (aeX x=y):=hQq (by rw[zBM hw,hy];show (⟨nmS 3 x.nm,x.nd,x.wh,x.fi,x.ns⟩:DeN)=_;rw[hw]);have HYL:Hid (y.nd.ats.length<=1000):=hQq (by rw[hy];exact HMEM.out.2.2);clear hW hW2 hy c0 c1 c2 c3 c4 c5 c6 c7 c8 c9 c10 c11 k0 k1 k2 k3 r0 r1 r2 r3 fz fx hxs hrs x0 x1 x2 x3 x4 x5 x6 x7 x8 x9 x10 x11;have HSW:=hQq (HST.out.up HXW.out);refine zAX (zYq ⟨w2.heap.size,3,none⟩ (.slice a8 es.length cap8) (.agg #[.string y.nm,.int .i64 y.nd.dep,.string y.nd.nm,.int .i64 y.nd.kd,.slice a6 y.nd.ats.length cap6,.string y.nd.dat,.int .i64 y.nd.ma,.int .i64 y.nd.mi,.int .i64 y.nd.cl,.bool y.wh,.bool y.fi,.int .i64 y.ns])) (apI w.heap.size w W (fun ve es V=>zHn w w2.heap.size #[.slice a3 d.ats.length cap3,.bool d.opq,.slice a4 d.red.length cap4,.slice (some ⟨b,off,none⟩) d.ens.length cap5] (.slice a7 d.ats.length cap7) d.ats false (.slice none 0 0) [] ve es V) (.slice a8 es.length cap8) es (y) 3 4 5 7 62 63 64) rfl (by kernel_rfl) (by kernel_rfl) ?_ ?_ ?_
   ·intro vs;exact zDt rfl ⟨eD W,HSW.out.up (eD W),fun h=>(by cases h),fun h=>(by cases h)⟩
   ·intro i o a wx z vs ho hz0 hdn hpd hI hvs hk hp;have n7:=eV (show a.eval (.tmp 7)= .pointer (some ⟨w2.heap.size,0,none⟩)from hk 7 (of_decide_eq_true (by kernel_rfl)));have n9:=eV (show a.eval (.tmp 9)= .pointer (some ⟨wi.heap.size,0,none⟩)from hk 9 (of_decide_eq_true (by kernel_rfl)));clear hk
    match i,ho,hz0,hpd,hp with
    | 0,ho,hz0,hpd,hp=>
     obtain rfl:=oI ho;clear ho hp hpd hdn hvs;unfold Oper.wp;go_simp;exact⟨_,rfl,rfl,zAv rfl rfl rfl rfl rfl rfl rfl hI⟩
    | 1,ho,hz0,hpd,hp=>
     obtain rfl:=oI ho;have h5:z 5=false:=hdn 5 1 (of_decide_eq_true (by kernel_rfl)) (of_decide_eq_true (by kernel_rfl)) (by kernel_rfl) hz0;have hS:=(zBb h5 hI).2.1;have o3:=bC hS.out 3;have p0:=eV (show a.eval (.tmp 59)= .pointer (some ⟨w2.heap.size,3,none⟩)from hp 0 _ 59 (by kernel_rfl) rfl rfl);clear ho hp hpd hdn hvs;unfold Oper.wp;go_simp;exact⟨_,rfl,rfl,zAv rfl rfl rfl rfl rfl rfl rfl hI⟩
    | 2,ho,hz0,hpd,hp=>
     obtain rfl:=oI ho;have h5:z 5=false:=hdn 5 4 (of_decide_eq_true (by kernel_rfl)) (of_decide_eq_true (by kernel_rfl)) (by kernel_rfl) (hdn 4 3 (of_decide_eq_true (by kernel_rfl)) (of_decide_eq_true (by kernel_rfl)) (by kernel_rfl) (hdn 3 2 (of_decide_eq_true (by kernel_rfl)) (of_decide_eq_true (by kernel_rfl)) (by kernel_rfl) hz0));have hE:=(zBb h5 hI).1;have hQx:=bX hE HQW.out;obtain⟨q0,q1,q2,q3,q4,q5,q6,q7,q8,q9,q10,q11⟩:=zDC hQx;clear ho hp hpd hdn hvs;unfold Oper.wp;go_simp;exact⟨_,rfl,rfl,zAv rfl rfl rfl rfl rfl rfl rfl hI⟩
    | 3,ho,hz0,hpd,hp=>
     obtain rfl:=oI ho;have h4:z 4=false:=hdn 4 3 (of_decide_eq_true (by kernel_rfl)) (of_decide_eq_true (by kernel_rfl)) (by kernel_rfl) hz0;have h5:z 5=false:=hdn 5 4 (of_decide_eq_true (by kernel_rfl)) (of_decide_eq_true (by kernel_rfl)) (by kernel_rfl) h4;obtain⟨hE,hS,-,-⟩:=zBb h5 hI;have p61:=eV (show a.eval (.tmp 61)= .agg #[.string y.nm,.int .i64 y.nd.dep,.string y.nd.nm,.int .i64 y.nd.kd,.slice a6 y.nd.ats.length cap6,.string y.nd.dat,.int .i64 y.nd.ma,.int .i64 y.nd.mi,.int .i64 y.nd.cl,.bool y.wh,.bool y.fi,.int .i64 y.ns]from hp 2 _ 61 (by kernel_rfl) rfl rfl);clear ho hp hpd hdn hvs hI;unfold Oper.wp;go_simp;refine(zVE y (.slice a6 y.nd.ats.length cap6) _ ((HVY.out.ext okA hE).attrs) HYL.out).mono ?_;rintro e w5 ⟨⟨a9,cap9,rfl,ha9⟩,hb5⟩;exact⟨_,rfl,trivial,zDt h5 ⟨hE.trans hb5,hS.up hb5,fun _=>⟨a9,cap9,rfl,ha9.mono okA (Nat.zero_le _)⟩,fun h=>by cases h4.symm.trans h⟩⟩
    | 4,ho,hz0,hpd,hp=>
     obtain rfl:=oI ho;have h5:z 5=false:=hdn 5 4 (of_decide_eq_true (by kernel_rfl)) (of_decide_eq_true (by kernel_rfl)) (by kernel_rfl) hz0;obtain⟨hE,hS,h3,-⟩:=zBb h5 hI;obtain⟨a9,c9,e62,ha9⟩:=h3 (hpd 3 (of_decide_eq_true (by kernel_rfl)) (by kernel_rfl));have p62:=eV (show a.eval (.tmp 62)=_ from(hvs 62 (of_decide_eq_true (by kernel_rfl))).symm.trans e62);clear ho hp hpd hdn hvs hI;unfold Oper.wp;go_simp;exact⟨_,rfl,trivial,zDt h5 ⟨hE.trans (eA _ _),hS.up (eA _ _),fun h=>⟨a9,c9,e62,ha9.ext okA (eA _ _)⟩,fun _=>zAj okE _ (y) [.string y.nm,.int .i64 y.nd.dep,.string y.nd.nm,.int .i64 y.nd.kd,.slice a9 y.nd.ats.length c9,.string y.nd.dat,.int .i64 y.nd.ma,.int .i64 y.nd.mi,.int .i64 y.nd.cl,.bool y.wh,.bool y.fi,.int .i64 y.ns] _ (by first|rfl|simp) ⟨_,ha9,rfl⟩⟩⟩
    | 5,ho,hz0,hpd,hp=>
     obtain rfl:=oI ho;have h7:z 7=false:=hdn 7 5 (of_decide_eq_true (by kernel_rfl)) (of_decide_eq_true (by kernel_rfl)) (by kernel_rfl) hz0;obtain⟨hE,hS,-,h4⟩:=zBb hz0 hI;have hL:=h4 (hpd 4 (of_decide_eq_true (by kernel_rfl)) (by kernel_rfl));have p60:a.eval (.tmp 60)= .slice a8 es.length cap8:=hp 1 _ 60 (by kernel_rfl) rfl rfl;refine zCK okE (.tmp 60) (.tmp 63) (by rfl) (.slice a8 es.length cap8) (vs 63) es [y] w _ p60 (hvs 63 (of_decide_eq_true (by kernel_rfl))).symm hS.own hL hS.ext hS.ext.size (by have:=HLN.out;simp only[List.length_singleton];omega) ?_;intro v6 w6 hap;exact⟨v6,rfl,trivial,zIc rfl h7 ⟨wx,hS,hap⟩⟩
    | 6,ho,hz0,hpd,hp=>
     obtain rfl:=oI ho;clear ho hp hpd hdn hvs;unfold Oper.wp;go_simp;exact⟨_,rfl,rfl,zAv rfl rfl rfl rfl rfl rfl rfl hI⟩
    | 7,ho,hz0,hpd,hp=>
     obtain rfl:=oI ho;have h5:z 5=true:=hpd 5 (of_decide_eq_true (by kernel_rfl)) (by kernel_rfl);obtain⟨V0,hS,hap⟩:=zIb h5 hz0 hI;have p6:=eV (show a.eval (.tmp 65)= .pointer (some ⟨w2.heap.size,3,none⟩)from hp 6 _ 65 (by kernel_rfl) rfl rfl);obtain⟨v6,e6⟩:∃v6,vs 64=v6:=⟨_,rfl⟩;have p5:=eV (show a.eval (.tmp 64)=v6 from(hvs 64 (of_decide_eq_true (by kernel_rfl))).symm.trans e6);rw[e6]at hap;obtain⟨a10,cap10,rfl⟩:=hap.own.form;rw[zFT]at hap e6 p5;have hou:=hS.app hap;have o3:=bC hou 3;have fo:∀j,wx.frozen? ⟨w2.heap.size,j,none⟩=false:=fun j=>bT hou j;clear ho hp hpd hdn hvs hI;unfold Oper.wp;go_simp;refine⟨undef,trivial,(zDz (z:=zOF z 7) (vs:=zLk vs none undef) (i5:=5) (i7:=7) h5 rfl).2 ?_⟩;show zHn _ _ _ _ _ _ _ _ (vs 64) _ _;rw[e6];exact hS.step hap HBO.out
    | i+8,ho,_,_,_=>exact absurd (Array.getElem?_eq_some_iff.1 ho).1 (by simp)
   ·intro z vs wx hz hI hf;have hS9:=hQq ((zDz (hz 5 (of_decide_eq_true (by kernel_rfl))) (hz 7 (of_decide_eq_true (by kernel_rfl)))).1 hI);clear hf hz hI;generalize hA:zAC _ _ _=A1;have hA2:=hA.symm.trans (congrArg (fun D=>zAC _ D vs) (show zCu _ 8= [59,60,61,62,63,64,65] by kernel_rfl));rw[hA2];clear hA2 hA;simp only[zAC,List.foldl,Act.put,List.setIfInBounds_toArray,List.set_cons_succ,List.set_cons_zero];go_wp2;go_roundw
    case rel=>exact⟨_,k+1,_,rfl,by omega,by go_num,HN.out,by rw[HTK.out,HY.out];exact hS9.out⟩
    case measure=>simp[intOf]<;>omega
  case true=>
   rw[hw]at c9;by_cases e4:wtE 3 x.nm=0
   case neg=>
    have h17:aeE x=17:=by unfold aeE;simp[hw,e4]
    have HNN:=hQq (HNE.out 17 h17 (by decide));have HX:=hQq (zCd (zGH E1.out E2.out HNN.out (by decide)));have q4:(wtE 3 x.nm != 0)=true:=bne_iff_ne.2 e4;clear e4 h17;go_wp2_with (go_at_call 43;(refine(zNb 3 x.nm _ (by have:=HMEM.out.1;omega)).mono ?_;rintro e w4 ⟨rfl,hb4⟩;have HB4:Hid (Ext wi w4):=hQq ((eA _ _).trans hb4);have hr2:=bX HB4.out HST.out.res;obtain⟨r0,r1,r2,r3⟩:=b4C hr2;have fz:∀j,w4.frozen? ⟨w.heap.size+1,j,none⟩=false:=fun j=>bT hr2 j;have hrs:=bL hr2;have HR2:=hQq hr2;have hx2:=bX hb4 (bN wi _);obtain⟨x0,x1,x2,x3,x4,x5,x6,x7,x8,x9,x10,x11⟩:=zDC hx2;have fx:∀j,w4.frozen? ⟨wi.heap.size,j,none⟩=false:=fun j=>bT hx2 j;have HX2:=hQq hx2;have hxs:=bL hx2;clear hb4 hr2 hx2))
    refine nW (P:=fun W=>bodyPost _ _ _ _ _ W) _ ?_;intro W2 hW2;obtain⟨hq,hx,hc⟩:=zGN HR2.out (by omega) (HST.out.ext.trans HB4.out) hW2;refine bodyPost_ret (v:=.tuple #[.agg #[.slice none 0 0,.bool false,.slice none 0 0,.slice none 0 0],.int .i64 k,.int .i64 17]) (by simp[results,Tryz.f13,go_sem,bC hq 0,bC hq 1,bC hq 2,bC hq 3]) rfl ?_;exact⟨⟨_,by rw[HX.out.2.1,HX.out.2.2],by rw[HX.out.1];exact zBu _ _⟩,hx⟩
   have q4:(wtE 3 x.nm != 0)=false:=bne_eq_false_iff_eq.2 e4;have HE4:=hQq (show aeE x=0 by unfold aeE;simp[hw,e4]);have HN:=hQq (HNX.out HE4.out);clear e4;obtain⟨y,hy⟩:∃y,y=mkN (wtS 3 x.nm):=⟨_,rfl⟩;have HYM:=hQq hy;clear hy;go_upto_region 19 with (first|(go_at_call 43;(refine(zNb 3 x.nm _ (by have:=HMEM.out.1;omega)).mono ?_;rintro e w4 ⟨rfl,hb4⟩;have HB4:Hid (Ext wi w4):=hQq ((eA _ _).trans hb4);have hr2:=bX HB4.out HST.out.res;obtain⟨r0,r1,r2,r3⟩:=b4C hr2;have fz:∀j,w4.frozen? ⟨w.heap.size+1,j,none⟩=false:=fun j=>bT hr2 j;have hrs:=bL hr2;have HR2:=hQq hr2;have hx2:=bX hb4 (bN wi _);obtain⟨x0,x1,x2,x3,x4,x5,x6,x7,x8,x9,x10,x11⟩:=zDC hx2;have fx:∀j,w4.frozen? ⟨wi.heap.size,j,none⟩=false:=fun j=>bT hx2 j;have HX2:=hQq hx2;have hxs:=bL hx2;clear hb4 hr2 hx2))|(go_at_call 44;refine(zUc _ _).mono ?_;rw[<- HYM.out];rintro e w5 ⟨rfl,hb5⟩;have hx5:=bX hb5 HX2.out;clear fx x0 x1 x2 x3 x4 x5 x6 x7 x8 x9 x10 x11;have fx:∀j,w5.frozen? ⟨wi.heap.size,j,none⟩=false:=fun j=>bT hx5 j;obtain⟨x0,x1,x2,x3,x4,x5,x6,x7,x8,x9,x10,x11⟩:=zDC hx5;have HX5:=hQq hx5;have HE5:=hQq (HB4.out.trans hb5);clear hb5 hx5)|fail)
   refine nW (P:=fun W=>Code.wp _ _ _ _ W) _ ?_;intro W hW;have hW2:W=(zFp w5 wi.heap.size 0 [.string y.nm,.int .i64 y.nd.dep,.string y.nd.nm,.int .i64 y.nd.kd,.slice none 0 0,.string y.nd.dat,.int .i64 y.nd.ma,.int .i64 y.nd.mi,.int .i64 y.nd.cl,.bool y.wh,.bool y.fi,.int .i64 y.ns]).setCell ⟨wi.heap.size,0,none⟩ (.string (wtS 3 x.nm)):=hW;obtain⟨m1,m2,m3⟩:=zTE (w:=wi) HX5.out (Nat.le_refl _) HE5.out (rfl:zFp w5 wi.heap.size 0 [.string y.nm,.int .i64 y.nd.dep,.string y.nd.nm,.int .i64 y.nd.kd,.slice none 0 0,.string y.nd.dat,.int .i64 y.nd.ma,.int .i64 y.nd.mi,.int .i64 y.nd.cl,.bool y.wh,.bool y.fi,.int .i64 y.ns]=_);generalize zFp w5 wi.heap.size 0 [.string y.nm,.int .i64 y.nd.dep,.string y.nd.nm,.int .i64 y.nd.kd,.slice none 0 0,.string y.nd.dat,.int .i64 y.nd.ma,.int .i64 y.nd.mi,.int .i64 y.nd.cl,.bool y.wh,.bool y.fi,.int .i64 y.ns]=W1 at hW2 m1 m2 m3;have HQW:Hid (W.heap[wi.heap.size]? = some (.cells #[.string (wtS 3 x.nm),.int .i64 y.nd.dep,.string y.nd.nm,.int .i64 y.nd.kd,.slice none 0 0,.string y.nd.dat,.int .i64 y.nd.ma,.int .i64 y.nd.mi,.int .i64 y.nd.cl,.bool y.wh,.bool y.fi,.int .i64 y.ns] 66 (0,0))):=hQq (by rw[hW2,bS m1];rfl);have HXW:Hid (Ext wi W):=hQq (by rw[hW2];exact Below.setCell (p:=⟨wi.heap.size,0,none⟩) m2 (Nat.le_refl _) _);have HYA:Hid (y.nd.ats= []):=hQq (by rw[HYM.out];rfl);have HVY:Hid (zAH w.heap.size W (.slice none 0 0) y.nd.ats):=hQq (by rw[HYA.out];exact zAh.nil _ _ _ _);have HY:Hid (aeX x=y):=hQq (by rw[zBL hw,HYM.out]);have HYL:Hid (y.nd.ats.length<=1000):=hQq (by rw[HYA.out];simp);have hyn:wtS 3 x.nm=y.nm:=by rw[HYM.out];rfl
   rw[hyn]at HQW;clear hW hW2 hyn m1 m2 m3 c0 c1 c2 c3 c4 c5 c6 c7 c8 c9 c10 c11 k0 k1 k2 k3 r0 r1 r2 r3 fz fx hxs hrs x0 x1 x2 x3 x4 x5 x6 x7 x8 x9 x10 x11;have HSW:=hQq (HST.out.up HXW.out);refine zAX (zYq ⟨w2.heap.size,3,none⟩ (.slice a8 es.length cap8) (.agg #[.string y.nm,.int .i64 y.nd.dep,.string y.nd.nm,.int .i64 y.nd.kd,.slice none 0 0,.string y.nd.dat,.int .i64 y.nd.ma,.int .i64 y.nd.mi,.int .i64 y.nd.cl,.bool y.wh,.bool y.fi,.int .i64 y.ns])) (apI w.heap.size w W (fun ve es V=>zHn w w2.heap.size #[.slice a3 d.ats.length cap3,.bool d.opq,.slice a4 d.red.length cap4,.slice (some ⟨b,off,none⟩) d.ens.length cap5] (.slice a7 d.ats.length cap7) d.ats false (.slice none 0 0) [] ve es V) (.slice a8 es.length cap8) es (y) 3 4 5 7 62 63 64) rfl (by kernel_rfl) (by kernel_rfl) ?_ ?_ ?_
   ·intro vs;exact zDt rfl ⟨eD W,HSW.out.up (eD W),fun h=>(by cases h),fun h=>(by cases h)⟩
   ·intro i o a wx z vs ho hz0 hdn hpd hI hvs hk hp;have n7:=eV (show a.eval (.tmp 7)= .pointer (some ⟨w2.heap.size,0,none⟩)from hk 7 (of_decide_eq_true (by kernel_rfl)));have n9:=eV (show a.eval (.tmp 9)= .pointer (some ⟨wi.heap.size,0,none⟩)from hk 9 (of_decide_eq_true (by kernel_rfl)));clear hk
    match i,ho,hz0,hpd,hp with
    | 0,ho,hz0,hpd,hp=>
     obtain rfl:=oI ho;clear ho hp hpd hdn hvs;unfold Oper.wp;go_simp;exact⟨_,rfl,rfl,zAv rfl rfl rfl rfl rfl rfl rfl hI⟩
    | 1,ho,hz0,hpd,hp=>
     obtain rfl:=oI ho;have h5:z 5=false:=hdn 5 1 (of_decide_eq_true (by kernel_rfl)) (of_decide_eq_true (by kernel_rfl)) (by kernel_rfl) hz0;have hS:=(zBb h5 hI).2.1;have o3:=bC hS.out 3;have p0:=eV (show a.eval (.tmp 59)= .pointer (some ⟨w2.heap.size,3,none⟩)from hp 0 _ 59 (by kernel_rfl) rfl rfl);clear ho hp hpd hdn hvs;unfold Oper.wp;go_simp;exact⟨_,rfl,rfl,zAv rfl rfl rfl rfl rfl rfl rfl hI⟩
    | 2,ho,hz0,hpd,hp=>
     obtain rfl:=oI ho;have h5:z 5=false:=hdn 5 4 (of_decide_eq_true (by kernel_rfl)) (of_decide_eq_true (by kernel_rfl)) (by kernel_rfl) (hdn 4 3 (of_decide_eq_true (by kernel_rfl)) (of_decide_eq_true (by kernel_rfl)) (by kernel_rfl) (hdn 3 2 (of_decide_eq_true (by kernel_rfl)) (of_decide_eq_true (by kernel_rfl)) (by kernel_rfl) hz0));have hE:=(zBb h5 hI).1;have hQx:=bX hE HQW.out;obtain⟨q0,q1,q2,q3,q4,q5,q6,q7,q8,q9,q10,q11⟩:=zDC hQx;clear ho hp hpd hdn hvs;unfold Oper.wp;go_simp;exact⟨_,rfl,rfl,zAv rfl rfl rfl rfl rfl rfl rfl hI⟩
    | 3,ho,hz0,hpd,hp=>
     obtain rfl:=oI ho;have h4:z 4=false:=hdn 4 3 (of_decide_eq_true (by kernel_rfl)) (of_decide_eq_true (by kernel_rfl)) (by kernel_rfl) hz0;have h5:z 5=false:=hdn 5 4 (of_decide_eq_true (by kernel_rfl)) (of_decide_eq_true (by kernel_rfl)) (by kernel_rfl) h4;obtain⟨hE,hS,-,-⟩:=zBb h5 hI;have p61:=eV (show a.eval (.tmp 61)= .agg #[.string y.nm,.int .i64 y.nd.dep,.string y.nd.nm,.int .i64 y.nd.kd,.slice none 0 0,.string y.nd.dat,.int .i64 y.nd.ma,.int .i64 y.nd.mi,.int .i64 y.nd.cl,.bool y.wh,.bool y.fi,.int .i64 y.ns]from hp 2 _ 61 (by kernel_rfl) rfl rfl);clear ho hp hpd hdn hvs hI;unfold Oper.wp;go_simp;refine(zVE y (.slice none 0 0) _ ((HVY.out.ext okA hE).attrs) HYL.out).mono ?_;rintro e w5 ⟨⟨a9,cap9,rfl,ha9⟩,hb5⟩;exact⟨_,rfl,trivial,zDt h5 ⟨hE.trans hb5,hS.up hb5,fun _=>⟨a9,cap9,rfl,ha9.mono okA (Nat.zero_le _)⟩,fun h=>by cases h4.symm.trans h⟩⟩
    | 4,ho,hz0,hpd,hp=>
     obtain rfl:=oI ho;have h5:z 5=false:=hdn 5 4 (of_decide_eq_true (by kernel_rfl)) (of_decide_eq_true (by kernel_rfl)) (by kernel_rfl) hz0;obtain⟨hE,hS,h3,-⟩:=zBb h5 hI;obtain⟨a9,c9,e62,ha9⟩:=h3 (hpd 3 (of_decide_eq_true (by kernel_rfl)) (by kernel_rfl));have p62:=eV (show a.eval (.tmp 62)=_ from(hvs 62 (of_decide_eq_true (by kernel_rfl))).symm.trans e62);clear ho hp hpd hdn hvs hI;unfold Oper.wp;go_simp;exact⟨_,rfl,trivial,zDt h5 ⟨hE.trans (eA _ _),hS.up (eA _ _),fun h=>⟨a9,c9,e62,ha9.ext okA (eA _ _)⟩,fun _=>zAj okE _ (y) [.string y.nm,.int .i64 y.nd.dep,.string y.nd.nm,.int .i64 y.nd.kd,.slice a9 y.nd.ats.length c9,.string y.nd.dat,.int .i64 y.nd.ma,.int .i64 y.nd.mi,.int .i64 y.nd.cl,.bool y.wh,.bool y.fi,.int .i64 y.ns] _ (by first|rfl|simp) ⟨_,ha9,rfl⟩⟩⟩
    | 5,ho,hz0,hpd,hp=>
     obtain rfl:=oI ho;have h7:z 7=false:=hdn 7 5 (of_decide_eq_true (by kernel_rfl)) (of_decide_eq_true (by kernel_rfl)) (by kernel_rfl) hz0;obtain⟨hE,hS,-,h4⟩:=zBb hz0 hI;have hL:=h4 (hpd 4 (of_decide_eq_true (by kernel_rfl)) (by kernel_rfl));have p60:a.eval (.tmp 60)= .slice a8 es.length cap8:=hp 1 _ 60 (by kernel_rfl) rfl rfl;refine zCK okE (.tmp 60) (.tmp 63) (by rfl) (.slice a8 es.length cap8) (vs 63) es [y] w _ p60 (hvs 63 (of_decide_eq_true (by kernel_rfl))).symm hS.own hL hS.ext hS.ext.size (by have:=HLN.out;simp only[List.length_singleton];omega) ?_;intro v6 w6 hap;exact⟨v6,rfl,trivial,zIc rfl h7 ⟨wx,hS,hap⟩⟩
    | 6,ho,hz0,hpd,hp=>
     obtain rfl:=oI ho;clear ho hp hpd hdn hvs;unfold Oper.wp;go_simp;exact⟨_,rfl,rfl,zAv rfl rfl rfl rfl rfl rfl rfl hI⟩
    | 7,ho,hz0,hpd,hp=>
     obtain rfl:=oI ho;have h5:z 5=true:=hpd 5 (of_decide_eq_true (by kernel_rfl)) (by kernel_rfl);obtain⟨V0,hS,hap⟩:=zIb h5 hz0 hI;have p6:=eV (show a.eval (.tmp 65)= .pointer (some ⟨w2.heap.size,3,none⟩)from hp 6 _ 65 (by kernel_rfl) rfl rfl);obtain⟨v6,e6⟩:∃v6,vs 64=v6:=⟨_,rfl⟩;have p5:=eV (show a.eval (.tmp 64)=v6 from(hvs 64 (of_decide_eq_true (by kernel_rfl))).symm.trans e6);rw[e6]at hap;obtain⟨a10,cap10,rfl⟩:=hap.own.form;rw[zFT]at hap e6 p5;have hou:=hS.app hap;have o3:=bC hou 3;have fo:∀j,wx.frozen? ⟨w2.heap.size,j,none⟩=false:=fun j=>bT hou j;clear ho hp hpd hdn hvs hI;unfold Oper.wp;go_simp;refine⟨undef,trivial,(zDz (z:=zOF z 7) (vs:=zLk vs none undef) (i5:=5) (i7:=7) h5 rfl).2 ?_⟩;show zHn _ _ _ _ _ _ _ _ (vs 64) _ _;rw[e6];exact hS.step hap HBO.out
    | i+8,ho,_,_,_=>exact absurd (Array.getElem?_eq_some_iff.1 ho).1 (by simp)
   ·intro z vs wx hz hI hf;have hS9:=hQq ((zDz (hz 5 (of_decide_eq_true (by kernel_rfl))) (hz 7 (of_decide_eq_true (by kernel_rfl)))).1 hI);clear hf hz hI;generalize hA:zAC _ _ _=A1;have hA2:=hA.symm.trans (congrArg (fun D=>zAC _ D vs) (show zCu _ 8= [59,60,61,62,63,64,65] by kernel_rfl));rw[hA2];clear hA2 hA;simp only[zAC,List.foldl,Act.put,List.setIfInBounds_toArray,List.set_cons_succ,List.set_cons_zero];go_wp2;go_roundw
    case rel=>exact⟨_,k+1,_,rfl,by omega,by go_num,HN.out,by rw[HTK.out,HY.out];exact hS9.out⟩
    case measure=>simp[intOf]<;>omega
attribute [local go_sem] Oper.semAt_some
def AwP (w:World)(r:List TrN × Int × Int)(e:Ending)(w':World):Prop:=(∃a cap B,e= .returned (.tuple #[.slice a r.1.length cap,.int .i64 r.2.1,.int .i64 r.2.2])/\w.heap.size<=B/\B<=w'.heap.size/\zAg cdT B w' (.slice a r.1.length cap) r.1)/\Ext w w'
def zSP (w:World)(v:Value):World:=(((w.alloc (.cells #[v] 35 (0,0))).alloc (.cells #[.slice none 0 0] 33 (0,0))).alloc (.cells #[.int .i64 0] 3 (0,0))).alloc (.cells #[.int .i64 0] 29 (0,0))
theorem zHe (w:World)(v:Value):Ext w (zSP w v):=(((eA _ _).trans (eA _ _)).trans (eA _ _)).trans (eA _ _)
theorem zNg (w:World)(v:Value):(zSP w v).heap[w.heap.size]? = some (.cells #[v] 35 (0,0))/\(zSP w v).heap[w.heap.size+1]? = some (.cells #[.slice none 0 0] 33 (0,0))/\(zSP w v).heap[w.heap.size+1+1]? = some (.cells #[.int .i64 0] 3 (0,0))/\(zSP w v).heap[w.heap.size+1+1+1]? = some (.cells #[.int .i64 0] 29 (0,0))/\(zSP w v).heap.size=w.heap.size+4:=by
 unfold zSP;exact⟨bA (bA (bA (bN w _))),bA (bA (zAu (by simp))),bA (zAu (by simp)),zAu (by simp),by simp⟩
theorem zEw {w w2:World}{a c d:Value}{t1 t2 t3:TypeId}{f1 f2 f3:Nat × Nat}(h:Ext w w2)(c1:w2.heap[w.heap.size+1]? = some (.cells #[a] t1 f1))(c2:w2.heap[w.heap.size+1+1]? = some (.cells #[c] t2 f2))(c3:w2.heap[w.heap.size+1+1+1]? = some (.cells #[d] t3 f3))(x y z:Value){V:World}(hV:V=((w2.setCell ⟨w.heap.size+1,0,none⟩ x).setCell ⟨w.heap.size+1+1,0,none⟩ y).setCell ⟨w.heap.size+1+1+1,0,none⟩ z):
  V.heap[w.heap.size+1]? = some (.cells #[x] t1 f1)/\V.heap[w.heap.size+1+1]? = some (.cells #[y] t2 f2)/\V.heap[w.heap.size+1+1+1]? = some (.cells #[z] t3 f3)/\Ext w V/\KeepsOthers w2 V/\V.heap.size=w2.heap.size/\∀q o,w2.heap[q]? = some o->q≠w.heap.size+1->q≠w.heap.size+1+1->q≠w.heap.size+1+1+1->V.heap[q]? = some o:=by
 subst hV;have g1:=bS (o:=0) c1 x;have g2:=bS (o:=0) (bSn c2 ⟨w.heap.size+1,0,none⟩ x (by dsimp only;omega)) y;refine⟨bSn (bSn g1 _ _ (by dsimp only;omega)) _ _ (by dsimp only;omega),bSn g2 _ _ (by dsimp only;omega),bS (bSn (bSn c3 _ _ (by dsimp only;omega)) _ _ (by dsimp only;omega)) _,?_,?_,by simp[World.setCell],?_⟩
 ·exact Below.setCell (p:=⟨w.heap.size+1+1+1,0,none⟩) (Below.setCell (p:=⟨w.heap.size+1+1,0,none⟩) (Below.setCell (p:=⟨w.heap.size+1,0,none⟩) h (by simp) _) (by simp;omega) _) (by simp;omega) _
 ·exact((KeepsOthers.setCell _ _ _).trans (KeepsOthers.setCell _ _ _)).trans (KeepsOthers.setCell _ _ _)
 ·intro q o hq h1 h2 h3;exact bSn (bSn (bSn hq _ _ (fun e=>h1 (by first|exact e|exact e.symm))) _ _ (fun e=>h2 (by first|exact e|exact e.symm))) _ _ (fun e=>h3 (by first|exact e|exact e.symm))
theorem zK7 {w Wc W:World}{pb:Nat}{vo:Value}(h:Ext w Wc)(hp:w.heap.size<=pb)(hB:Bd Wc pb vo W):Ext w W:=Below.trans (Below.setCell (p:=⟨pb,3,none⟩) h hp _) (Below.mono hB h.size)
theorem zBF {Wc W:World}{pb q:Nat}{vo:Value}{o:Obj}(hq:Wc.heap[q]? = some o)(hne:q≠pb)(hB:Bd Wc pb vo W):W.heap[q]? = some o:=(hB.block q (bL hq)).trans (bSn hq _ _ (fun e=>hne (by first|exact e|exact e.symm)))
section
variable {bad:Nat->Prop} {B:Nat} {W V:World} {v:Value}
theorem zIS (hk:∀q o,W.heap[q]? = some o->¬bad q->V.heap[q]? = some o){p:Addr}{u:Value}(h:W.cell? p=some u)(hb:¬bad p.block):V.cell? p=some u:=by
 unfold World.cell? at h ⊢;grind
theorem zH7 {l:List zAq}(h:zAH B W v l)(hk:∀q o,W.heap[q]? = some o->¬bad q->V.heap[q]? = some o)(hs:W.heap.size<=V.heap.size)(hb:∀q off s,bad q->W.cell? ⟨q,off,none⟩≠some (.string s)):zAH B V v l:=by
 obtain⟨a,cap,rfl,hcap,hn,hc⟩:=h;have hne:∀k (h:k<l.length) b' off,a=some ⟨b',off,none⟩->¬bad b':=by
  rintro k hk' b' off rfl hbad;obtain⟨b2,off2,cs,he,_,hr,hrow⟩:=hc k hk';cases he;obtain⟨s,h0⟩:=zVP hr;exact hb _ _ s hbad (hrow 0 _ h0)
 refine⟨a,cap,rfl,hcap,fun h0 b' hb'=>?_,fun i hi=>?_⟩
 ·obtain⟨b2,off2,cs2,rfl,_⟩:=hc 0 h0;cases hb';exact(hn h0 b2 rfl).imp_right fun ⟨cs,f,h1⟩=>⟨cs,f,hk _ _ h1 (hne 0 h0 b2 off2 rfl)⟩
 ·obtain⟨b2,off2,cs,rfl,hb2,hr,hrow⟩:=hc i hi;exact⟨b2,off2,cs,rfl,Nat.lt_of_lt_of_le hb2 hs,hr,fun j u hj=>zIS hk (hrow j u hj) (hne i hi b2 off2 rfl)⟩
theorem zGl {l:List TrN}(h:zAg cdT B W v l)(hk:∀q o,W.heap[q]? = some o->¬bad q->V.heap[q]? = some o)(hs:W.heap.size<=V.heap.size)(hb:∀q off s,bad q->W.cell? ⟨q,off,none⟩≠some (.string s))(hne:∀g,v.ownBlock=some g->¬bad g):zAg cdT B V v l:=by
 obtain⟨css,hl,hR,ho⟩:=h;refine⟨css,hl,fun i hi hi'=>?_,ho.1,?_⟩
 ·obtain⟨va,h1,h2⟩:=hR i hi hi';exact⟨va,zH7 h1 hk hs hb,h2⟩
 ·rcases ho.2 with h1|⟨g,cap,cur,rfl,hb',hg,h3⟩
  ·exact .inl h1
  ·exact .inr ⟨g,cap,cur,rfl,hb',hk _ _ hg (hne g rfl),h3⟩
end
def zYm (p D q:Nat):Prop:=q=p+1\/q=p+1+1\/q=p+1+1+1\/q=D
/-! What the directories' loop keeps, and how it is left. -/
theorem zP9 {W W':World}(h:XeM W W')(hs:W.heap.size<=W'.heap.size):KcA W W':=⟨hs,fun _ _ _ _ _ hk=>h _ _ hk (fun _ e=>by cases e)⟩
structure EnI (w W0:World) (mb:Nat) (D:Nat->DiN) (E:Nat->Int) (ds:List Nat) (k:Nat) (W:World):Prop where
 map:∃n f,zAA kI W mb n f/\∀j,j<k->∃v,f ((ds.getD j 0:Nat):Int)=some v/\zBA W.heap.size W v (D (ds.getD j 0))
 ok:∀j,j<k->E (ds.getD j 0)=0
 kc:KcA W0 W
 ext:Ext w W
section
variable {w W0 W W' V U:World} {mb k:Nat} {D:Nat->DiN} {E:Nat->Int} {ds:List Nat}
theorem EnI.ab (hb:mb<W0.heap.size)(h0:w.heap.size<=W0.heap.size)(h:EnI w W0 mb D E ds k W)(hx:Below W0.heap.size W W')(hX:XeM W W'):EnI w W0 mb D E ds k W' where
 map:=by
  obtain⟨n,f,⟨es,c,hh,r⟩,hm⟩:=h.map;refine⟨n,f,⟨es,c,(hx.block _ hb).trans hh,r⟩,fun j hj=>?_⟩;obtain⟨v,h1,h2⟩:=hm j hj;exact⟨v,h1,(h2.kc (zP9 hX hx.size)).mono hx.size⟩
 ok:=h.ok;kc:=h.kc.trans (zP9 hX hx.size);ext:=Below.trans h.ext (hx.mono h0)
theorem EnI.up (h:EnI w W0 mb D E ds k W)(he:Ext W V):EnI w W0 mb D E ds k V where
 map:=by
  obtain⟨n,f,h1,h2⟩:=h.map;refine⟨n,f,h1.ext he,fun j hj=>?_⟩;obtain⟨v,h3,h4⟩:=h2 j hj;exact⟨v,h3,(h4.ext he).mono he.size⟩
 ok:=h.ok;kc:=h.kc.trans (Kc.of_ext he);ext:=Ext.trans h.ext he
theorem zQz {n n':Nat}{f:Int->Option Value}{v:Value}{i:Nat}(h:EnI w W0 mb D E ds k V)(hb:mb<W0.heap.size)(hw:w.heap.size<=mb)(hi:i=ds.getD k 0)(hm:zAA kI V mb n f)(hf:∀j,j<k->∃v,f ((ds.getD j 0:Nat):Int)=some v/\zBA V.heap.size V v (D (ds.getD j 0)))
  (hv:zBA V.heap.size V v (D i)) (hE:E i=0) (hu:zAA kI U mb n' (upd f (i:Int) v)) (hg:V.grownBy U (some mb)):KeepsFrom W0.heap.size V U/\KcA V U/\EnI w W0 mb D E ds (k+1) U:=by
 obtain⟨es,c,hh,-⟩:=hm;have hk:=zM3 hh hg;refine⟨⟨hg.size,fun q o hB hq _=>zAV hg hq (fun e=>by injection e with e;omega)⟩,hk,⟨⟨n',_,hu,fun j hj=>?_⟩,fun j hj=>?_,h.kc.trans hk,Below.grown h.ext hg (Nat.le_trans (Nat.le_of_lt (Nat.lt_of_le_of_lt hw hb)) h.kc.size) (fun q e=>by injection e with e;omega)⟩⟩
 ·unfold upd;by_cases e:(ds.getD j 0:Int)=i
  ·have e':ds.getD j 0=i:=by omega
   rw[if_pos e,e'];exact⟨v,rfl,(hv.kc hk).mono hk.size⟩
  ·rw[if_neg e];have hjk:j<k:=by
    by_cases q:j=k
    ·subst q;exact absurd (by rw[hi]) e
    ·omega
   obtain⟨v',h1,h2⟩:=hf j hjk;exact⟨v',h1,(h2.kc hk).mono hk.size⟩
 ·by_cases q:j=k
  ·subst q;rw[<- hi];exact hE
  ·exact h.ok j (by omega)
end
structure EnX (w:World) (t:TypeId) (no er:Int) (W:World):Prop where
 li:W.heap[w.heap.size+1]? = some (.cells #[.slice none 0 0] t (0,0))
 no:W.heap[w.heap.size+1+1]? = some (.cells #[.int .i64 no] 3 (0,0))
 er:W.heap[w.heap.size+1+1+1]? = some (.cells #[.int .i64 er] 29 (0,0))
 ext:Ext w W
theorem EnX.ab {w W W':World}{B:Nat}{t:TypeId}{no er:Int}(h0:w.heap.size+3<B)(h:EnX w t no er W)(hx:Below B W W'):EnX w t no er W':=
 ⟨(hx.block _ (by omega)).trans h.li,(hx.block _ (by omega)).trans h.no,(hx.block _ (by omega)).trans h.er,Below.trans h.ext (hx.mono (by omega))⟩
theorem zSS (b:List BrN){j k:Nat}(hj:j<k)(hk:k<(zCQ b).length):(zCQ b).getD j 0<(zCQ b).getD k 0:=by
 have h:List.Pairwise (· < ·) (zCQ b):=List.Pairwise.filter _ List.pairwise_lt_range;rw[List.getD_eq_getElem?_getD,List.getD_eq_getElem?_getD,List.getElem?_eq_getElem hk,List.getElem?_eq_getElem (show j<(zCQ b).length by omega)];exact List.pairwise_iff_getElem.1 h j k (by omega) hk hj
theorem zJF {b:List BrN}{E:Nat->Int}(hE:∀i,(zAm b i).kd≠1->E i=0){k:Nat}(_hk:k<(zCQ b).length)(hi:(zCQ b).getD k 0<b.length)(h0:∀j,j<k->E ((zCQ b).getD j 0)=0)(h1:E ((zCQ b).getD k 0)≠0):zBy (fun i=>E i != 0) 0 b.length=some ((zCQ b).getD k 0):=by
 refine zB7 b.length 0 _ (Nat.zero_le _) (by omega) (fun j _ hj=>?_) (bne_iff_ne.2 h1);refine bne_eq_false_iff_eq.2 ?_;by_cases hd:(zAm b j).kd=1
 ·obtain⟨e1,e2⟩:=zHW (show j<b.length by omega) hd;rw[<- e1];refine h0 _ ?_;rcases Nat.lt_or_ge (zEL b j).length k with h|h
  ·exact h
  ·rcases Nat.eq_or_lt_of_le h with e|h
   ·rw[<- e]at e1;omega
   ·have:=zSS b h e2;rw[e1]at this;omega
 ·exact hE j hd
theorem zQo {b:List BrN}{E:Nat->Int}(hE:∀i,(zAm b i).kd≠1->E i=0)(h0:∀j,j<(zCQ b).length->E ((zCQ b).getD j 0)=0):zBy (fun i=>E i != 0) 0 b.length=none:=by
 refine zBl b.length 0 fun j _ hj=>bne_eq_false_iff_eq.2 ?_;by_cases hd:(zAm b j).kd=1
 ·obtain⟨e1,e2⟩:=zHW (show j<b.length by omega) hd;rw[<- e1];exact h0 _ e2
 ·exact hE j hd
theorem zT0 {b:List BrN}{k:Nat}(hk:k<(zCQ b).length):(zCQ b).getD k 0<b.length/\(zAm b ((zCQ b).getD k 0)).kd=1:=by
 have hm:(zCQ b).getD k 0∈zCQ b:=by
  rw[List.getD_eq_getElem?_getD,List.getElem?_eq_getElem hk];exact List.getElem_mem hk
 obtain⟨h1,h2⟩:=List.mem_filter.1 hm;exact⟨List.mem_range.1 h1,by simpa using h2⟩
theorem zWp {E:DeN->Int}{l:List DeN}(h:(gnT E l).2≠0):(gnT E l).1<l.length:=by
 unfold gnT at *
 cases hf:zBy (gnB E l) 0 l.length with
 | none=>rw[hf]at h;exact absurd rfl h
 | some i=>have:=(zBD _ _ _ hf).2.2;show (i:Int)<_;omega
theorem zW3 {b:List BrN}{i:Nat}(hb:zB9 b=0)(hi:i<b.length)(hk:(zAm b i).kd=1)(h:acE (zAo b i)≠0):acN (zAo b i)<(zAF b i).length:=by
 have hl:(zAo b i).ens.length=(zAF b i).length:=List.length_map ..;have h0:zCs (zAo b i)=0:=zGB hb hi hk;rw[<- hl];unfold acN acE at *;unfold acT at *;rw[if_neg (by simp[h0])]at h ⊢;by_cases h1:0<(zAo b i).red.length
 ·rw[if_pos h1];show (-1:Int)<_;omega
 rw[if_neg h1]at h ⊢;by_cases h2:(gnT aeE (zAo b i).ens).2≠0
 ·rw[if_pos h2];show (gnT aeE (zAo b i).ens).1<_;exact zWp h2
 rw[if_neg h2]at h ⊢;by_cases h3:24<(acL (zAo b i)).length
 ·rw[if_pos h3];show (-1:Int)<_;omega
 ·rw[if_neg h3]at h;exact absurd rfl h
def zXU (w:World)(wb:Nat)(x:Nat × Value)(a:Act)(W:World):Prop:=∃(Bx:Nat) (M:List Value) (a1 a2 a3:Option Addr) (n1 n2 n3 c1 c2 c3:Nat) (o:Bool),x.2= .agg #[.slice a1 n1 c1,.bool o,.slice a2 n2 c2,.slice a3 n3 c3]/\W.heap[Bx]? = some (.cells #[.slice a1 n1 c1,.bool o,.slice a2 n2 c2,.slice a3 n3 c3] 26 (0,0))/\a= {tmps:=#[zAb M 0,.pointer (some ⟨w.heap.size,0,none⟩),.pointer (some ⟨w.heap.size+1,0,none⟩),.pointer (some ⟨w.heap.size+1+1,0,none⟩),.pointer (some ⟨w.heap.size+1+1+1,0,none⟩),zAb M 5,zAb M 6,.pointer (some ⟨wb,0,none⟩),.int .i64 x.1,.pointer (some ⟨Bx,0,none⟩),zAb M 10,zAb M 11,zAb M 12,zAb M 13,zAb M 14,zAb M 15,zAb M 16,zAb M 17,zAb M 18,zAb M 19,zAb M 20,zAb M 21,zAb M 22,zAb M 23,zAb M 24,zAb M 25,zAb M 26,zAb M 27,zAb M 28,zAb M 29,zAb M 30,zAb M 31,zAb M 32,zAb M 33,zAb M 34,zAb M 35,zAb M 36,zAb M 37,zAb M 38,zAb M 39,zAb M 40,zAb M 41,zAb M 42,zAb M 43,zAb M 44,zAb M 45,zAb M 46,zAb M 47,zAb M 48,zAb M 49,zAb M 50,zAb M 51,zAb M 52,zAb M 53,zAb M 54,zAb M 55,zAb M 56,zAb M 57,zAb M 58,zAb M 59,zAb M 60,zAb M 61,zAb M 62,zAb M 63,zAb M 64,zAb M 65,zAb M 66,zAb M 67,zAb M 68,zAb M 69,zAb M 70,zAb M 71,zAb M 72,zAb M 73,zAb M 74,zAb M 75,zAb M 76,zAb M 77,zAb M 78,zAb M 79,zAb M 80,zAb M 81,zAb M 82,zAb M 83,zAb M 84,zAb M 85,zAb M 86,zAb M 87,zAb M 88,zAb M 89,zAb M 90,zAb M 91,zAb M 92,zAb M 93,zAb M 94,zAb M 95,zAb M 96,zAb M 97,zAb M 98,zAb M 99,zAb M 100,zAb M 101,zAb M 102,zAb M 103,zAb M 104,zAb M 105,zAb M 106,zAb M 107,zAb M 108,zAb M 109,zAb M 110,zAb M 111,zAb M 112],defers:=[]}
theorem zSQ (w:World)(wb:Nat)(x:Nat × Value)(a:Act)(W:World)(l:Nat)(o o':Obj)(h:W.heap[l]? = some o)(hc:o.isCells=false)(hx:zXU w wb x a W):zXU w wb x a (W.putObj l o'):=by
 obtain⟨Bx,M,a1,a2,a3,n1,n2,n3,c1,c2,c3,op,h0,h1,h2⟩:=hx;refine⟨Bx,M,a1,a2,a3,n1,n2,n3,c1,c2,c3,op,h0,(World.putObj_heap_other ?_).trans h1,h2⟩;rintro rfl;rw[h]at h1;cases h1;cases hc
def snF (s:ByteArray->Bool):ByteArray->Option Value:=fun x=>if s x=true then some (.bool true)else none
def snA (x:ByteArray)(s:ByteArray->Bool):ByteArray->Bool:=fun y=>decide (x=y)||s y
theorem zRO (s:ByteArray->Bool)(x:ByteArray):(snF s x).getD (.bool false)= .bool (s x):=by
 unfold snF;cases h:s x<;>rfl
theorem zUB (s:ByteArray->Bool)(x y:ByteArray):upd (snF s) x (.bool true) y=snF (snA x s) y:=by
 unfold upd snF snA;by_cases h:y=x
 ·subst h;simp
 ·rw[if_neg h,decide_eq_false (fun e=>h e.symm),Bool.false_or]
theorem zAg.keepM {B b:Nat}{w W:World}{v:Value}{l:List DeN}(h:zAg cdE B w v l)(hk:zAy (some b) w W)(hs:w.heap.size<=W.heap.size)(hb:∀o s,w.cell? ⟨b,o,none⟩≠some (.string s))(hne:v.ownBlock≠some b):zAg cdE B W v l:=by
 obtain⟨css,hl,hR,ho⟩:=h;refine⟨css,hl,fun i hi hi'=>?_,ho.1,?_⟩
 ·obtain⟨va,g1,g2⟩:=hR i hi hi';exact⟨va,g1.keepX zVP hk hs hb fun _ _ h=>h,g2⟩
 ·rcases ho.2 with h1|⟨g,cap,cur,rfl,hb',hg,h3⟩
  ·exact .inl h1
  ·exact .inr ⟨g,cap,cur,rfl,hb',hk _ _ hg (fun x=>hne (by rw[x];rfl)),h3⟩
def KpR (rb mb:Nat)(row:Option Nat)(W W':World):Prop:=W.heap.size<=W'.heap.size/\∀b o,W.heap[b]? = some o->b≠rb->b≠mb->row≠some b->W'.heap[b]? = some o
theorem zBi {rb mb:Nat}{row:Option Nat}{W W':World}(h:Ext W W'):KpR rb mb row W W':=⟨h.size,fun _ _ hb _ _ _=>bX h hb⟩
theorem KpR.trans {rb mb:Nat}{row:Option Nat}{W W' W2:World}(h:KpR rb mb row W W')(k:KpR rb mb row W' W2):KpR rb mb row W W2:=⟨Nat.le_trans h.1 k.1,fun b o hb h1 h2 h3=>k.2 b o (h.2 b o hb h1 h2 h3) h1 h2 h3⟩
structure RdS (w:World) (rb mb:Nat) (lv:Value) (ls:List zAq) (o:Bool) (sn:ByteArray->Bool) (ve:Value) (es:List DeN) (W:World):Prop where
 box:W.heap[rb]? = some (.cells #[lv,.bool o,.slice none 0 0,ve,.map (some mb)] 78 (0,0))
 map:∃n,zAA kS W mb n (snF sn)
 own:zAg cdE w.heap.size W ve es
 ats:zAH w.heap.size W lv ls
 rbl:w.heap.size<=rb
 mbl:w.heap.size<=mb
 ext:Ext w W
section
variable {w W V:World} {rb mb:Nat} {lv ve ve':Value} {ls:List zAq} {o:Bool} {sn:ByteArray->Bool} {es es':List DeN}
theorem RdS.up (h:RdS w rb mb lv ls o sn ve es W)(he:Ext W V):RdS w rb mb lv ls o sn ve es V:=
 ⟨bX he h.box,(h.map).imp fun _ m=>m.ext he,h.own.ext okE he,h.ats.ext okA he,h.rbl,h.mbl,h.ext.trans he⟩
theorem RdS.noB (h:RdS w rb mb lv ls o sn ve es W):ve.ownBlock≠some rb:=fun e=>by
 obtain⟨_,c,f,h2⟩:=h.own.row rfl _ e;have h1:=h.box;rw[h2]at h1;cases h1
theorem RdS.noM (h:RdS w rb mb lv ls o sn ve es W):ve.ownBlock≠some mb:=fun e=>by
 obtain⟨_,c,f,h2⟩:=h.own.row rfl _ e;obtain⟨n,es,ck,h1,_⟩:=h.map;rw[h2]at h1;cases h1
theorem RdS.ne (h:RdS w rb mb lv ls o sn ve es W):rb≠mb:=by
 rintro rfl;obtain⟨n,es,ck,h1,_⟩:=h.map;rw[h.box]at h1;cases h1
theorem RdS.map_str (h:RdS w rb mb lv ls o sn ve es W):∀i s,W.cell? ⟨mb,i,none⟩≠some (.string s):=by
 obtain⟨n,es,ck,h1,_⟩:=h.map;intro i s e;simp[World.cell?,h1]at e
theorem RdS.note {n:Nat}{nm:ByteArray}(h:RdS w rb mb lv ls o sn ve es W)(hm:zAA kS V mb n (upd (snF sn) nm (.bool true)))(hg:W.grownBy V (some mb)):RdS w rb mb lv ls o (snA nm sn) ve es V/\KpR rb mb ve.ownBlock W V:=by
 have hk:zAy (some mb) W V:=fun b o hb hne=>zAV hg hb hne;have hs:=hg.size;refine⟨⟨hk _ _ h.box (fun e=>h.ne (by injection e with e;exact e.symm)),⟨n,hm.same (zUB sn nm)⟩,h.own.keepM hk hs h.map_str h.noM,h.ats.keepX zVP hk hs h.map_str fun _ _ h=>h,h.rbl,h.mbl,Below.grown h.ext hg h.ext.size (fun k e=>by injection e with e;rw[<- e];exact h.mbl)⟩,hs,fun b o hb _ h2 _=>hk _ _ hb (fun e=>h2 (by injection e with e;exact e.symm))⟩
theorem RdS.app (h:RdS w rb mb lv ls o sn ve es W)(ha:zIr cdE w.heap.size ve ve' es' w W V):V.heap[rb]? = some (.cells #[lv,.bool o,.slice none 0 0,ve,.map (some mb)] 78 (0,0)):=ha.chg.keep _ _ h.box h.noB
theorem RdS.step (h:RdS w rb mb lv ls o sn ve es W)(ha:zIr cdE w.heap.size ve ve' es' w W V):RdS w rb mb lv ls o sn ve' es' (V.setCell ⟨rb,3,none⟩ ve')/\KpR rb mb ve.ownBlock W (V.setCell ⟨rb,3,none⟩ ve'):=by
 have hout:=h.app ha;have hc:Chg w.heap.size 78 (some rb) V (V.setCell ⟨rb,3,none⟩ ve'):=⟨fun b o hb hne=>bSn hb _ _ (fun e=>hne (by rw[e])),by simp[World.setCell],fun g hg=>by cases hg;exact⟨h.rbl,_,_,hout⟩⟩;obtain⟨n,hm⟩:=h.map;refine⟨⟨bS hout _,⟨n,(hm.keep ha.chg.keep h.noM).setCell _ _⟩,ha.own.other okE hc (by decide) (by decide),(h.ats.chg okA ha.chg (by decide) (by decide)).chg okA hc (by decide) (by decide),h.rbl,h.mbl,Below.setCell (p:=⟨rb,3,none⟩) ha.below h.rbl _⟩,Nat.le_trans ha.chg.size hc.size,fun b o hb h1 h2 h3=>hc.keep _ _ (ha.chg.keep _ _ hb h3) (fun e=>h1 (by injection e with e;exact e.symm))⟩
end
def RdP (w:World)(rb mb:Nat)(lv:Value)(ls:List zAq)(o:Bool)(ve:Value)(sn2:ByteArray->Bool)(es2:List DeN)(er:Int)(W:World)(e:Ending)(W':World):Prop:=
 e= .returned (.int .i64 er)/\Ext w W'/\KpR rb mb ve.ownBlock W W'/\(er=0->∃ve',RdS w rb mb lv ls o sn2 ve' es2 W')
def plE (sn:ByteArray->Bool)(x:DeN):Int:=if x.nd.kd=5\/sn x.nm=true then 6 else 0
def whE (o:Bool)(sn:ByteArray->Bool)(x:DeN):Int:=if zFk x=false\/sn x.nm=true\/o=true then 6 else 0
def oqE (x:DeN):Int:=if zFk x=false then 6 else 0
end Go.Proofs.YtbeeoomadnmogaaGreat
