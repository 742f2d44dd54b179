/- FarA AyB AyE AyD -/
import Derived.Test.YtbeeoomadnmogaaGreatQI6
import Derived.Test.YtbeeoomadnmogaaGreatQaEsc
import Derived.Test.YtbeeoomadnmogaaGreatQOvG
import Derived.Test.YtbeeoomadnmogaaGreatQaDirR
set_option maxRecDepth 100000
set_option maxHeartbeats 64000000
namespace Go.Proofs.YtbeeoomadnmogaaGreat
open Go.RowKit
structure zW4 (d:DiN):Prop where
 len:d.ens.length<=30
 ats:Few 500 d.ats
 red:d.red.length<=12/\∀s∈d.red,s.size<=100
 ens:∀j (hj:j<d.ens.length),(d.ens[j]'hj).nm.size<=100/\Few 500 (d.ens[j]'hj).nd.ats
theorem zLj {d:DiN}(h:zW4 d):zDR d where
 ats:=fun a ha=>by have:=h.ats.2 a ha;omega
 atl:=by have:=h.ats.1;omega
 red:=fun s hs=>Nat.le_trans (h.red.2 s hs) (by decide);ens:=fun x hx=>by
  obtain⟨j,hj,rfl⟩:=List.getElem_of_mem hx;obtain⟨h4,h5⟩:=h.ens j hj;exact⟨by omega,fun a ha=>by have:=h5.2 a ha;omega,by have:=h5.1;omega⟩
 len:=by have:=h.len;omega
theorem zPB {x:TrN}(h:zYv 500 [x]):Few 500 x.ats:=(h.ok _ (List.mem_singleton.2 rfl)).1
theorem zGY {α:Type}(key:α->ByteArray)(l:List α):(zCV key l).length=l.length:=(zAr l).length_eq
theorem zHn.set {w W:World}{bo:Nat}{bx:Array Value}{lv vr ve ve':Value}{ls:List zAq}{o:Bool}{rs:List ByteArray}{es es':List DeN}(h:zHn w bo bx lv ls o vr rs ve es W)(ho:zAg cdE w.heap.size W ve' es')(hb:w.heap.size+1<bo):
  zHn w bo bx lv ls o vr rs ve' es' (W.setCell ⟨bo,3,none⟩ ve'):=by
 have hc:Chg w.heap.size 26 (some bo) W (W.setCell ⟨bo,3,none⟩ ve'):=⟨fun b o hb hne=>bSn hb _ _ (fun e=>hne (by rw[e])),by simp[World.setCell],fun g hg=>by cases hg;exact⟨by omega,_,_,h.out⟩⟩;refine⟨?_,?_,bS h.out _,ho.other okE hc (by decide) (by decide),h.ats.chg okA hc (by decide) (by decide),h.red.chg okS hc (by decide) (by decide),Below.setCell (p:=⟨bo,3,none⟩) h.ext (by show w.heap.size<=bo;omega) _⟩
 ·exact bSn h.box _ _ (by show w.heap.size≠bo;omega)
 ·exact bSn h.res _ _ (by show w.heap.size+1≠bo;omega)
theorem zKo {w W2:World}{g:Nat}{t:TypeId}{x0 x1 x2 x3 x4 x5 x6 x7 x8 x9 x10 x11 y0 y1 y2 y3 y4 y5 y6 y7 y8 y9 y10 y11:Value}(hq:w.heap[g]? = some (.cells #[x0,x1,x2,x3,x4,x5,x6,x7,x8,x9,x10,x11] t (0,0)))(hW:W2=((((((((((((w.setCell ⟨g,0,none⟩ y0).setCell ⟨g,1,none⟩ y1).setCell ⟨g,2,none⟩ y2).setCell ⟨g,3,none⟩ y3).setCell ⟨g,4,none⟩ y4).setCell ⟨g,5,none⟩ y5).setCell ⟨g,6,none⟩ y6).setCell ⟨g,7,none⟩ y7).setCell ⟨g,8,none⟩ y8).setCell ⟨g,9,none⟩ y9).setCell ⟨g,10,none⟩ y10).setCell ⟨g,11,none⟩ y11)):
  W2.heap[g]? = some (.cells #[y0,y1,y2,y3,y4,y5,y6,y7,y8,y9,y10,y11] t (0,0))/\∀w0:World,Ext w0 w->w0.heap.size<=g->Ext w0 W2:=by
 have h:W2=zFp w g 0 [y0,y1,y2,y3,y4,y5,y6,y7,y8,y9,y10,y11]:=by rw[hW];simp only[zFp,Nat.reduceAdd,Nat.zero_add]
 subst h;exact⟨by rw[zCF _ _ _ _ hq];simp only[zVO,List.setIfInBounds_toArray,List.set_cons_zero,List.set_cons_succ],fun w0 he hg=>zBw hg _ _ _ he⟩
theorem zLs (B:Nat)(w:World)(v:Value)(d:DiN)(hd:zBA B w v d)(hB:B<=w.heap.size)(hsm:zDR d):
  Calls Tryz.prog 14 #[v] w (zXe w.heap.size w (acD d) (acN d) (acE d)):=by
 have HD:=hQq hd;obtain⟨va,vr,ve,rfl,ha,hr,he⟩:=hd;have HA:=hQq ha;have HE:=hQq he;have HSM:=hQq hsm;obtain⟨a3,cap3,rfl⟩:=ha.form;obtain⟨a4,cap4,rfl⟩:=hr.form;obtain⟨a5,cap5,rfl⟩:=he.form;have hlen:=hsm.len;clear ha hr he hsm;by_cases e1:zCs d=0
 case neg=>
  have HX:=hQq (zCd (zJ3 e1));have q1:(zCs d != 0)=true:=bne_iff_ne.2 e1;clear e1;go_enter Tryz.func14,Tryz.ntmps14;go_wp2_with (go_at_call 47;refine(zDX B _ _ d (HD.out.ext ((eA _ _).trans (eA _ _))) HSM.out).mono ?_;rintro e w1 ⟨rfl,hb1⟩;have q2:w1.heap[w.heap.size+1]? = some (.cells #[.slice none 0 0,.bool false,.slice none 0 0,.slice none 0 0] 26 (0,0)):=bX hb1 (zAu (by simp));obtain⟨r0,r1,r2,r3⟩:=b4C q2;have fz:∀j,w1.frozen? ⟨w.heap.size+1,j,none⟩=false:=fun j=>bT q2 j;have Q2:=hQq q2;clear q2;have q1:w1.heap[w.heap.size]? = some (.cells #[.slice a3 d.ats.length cap3,.bool d.opq,.slice a4 d.red.length cap4,.slice a5 d.ens.length cap5] 26 (0,0)):=bX hb1 (bA (bN w _));obtain⟨k0,k1,k2,k3⟩:=b4C q1;have Q1:=hQq q1;have hz1:=bL q1;have hz2:=bL Q2.out;clear q1;have HB1:=hQq (((eA _ _).trans (eA _ _)).trans hb1);clear hb1)
  refine nW (P:=fun W=>bodyPost _ _ _ _ _ W) _ ?_;intro W2 hW2;obtain⟨hq,hx,hc⟩:=zGN Q2.out (by omega) HB1.out hW2;refine bodyPost_ret (v:=.tuple #[.agg #[.slice none 0 0,.bool false,.slice none 0 0,.slice none 0 0],.int .i64 (zNk d),.int .i64 (zCs d)]) (by simp[results,Tryz.f14,go_sem,bC hq 0,bC hq 1,bC hq 2,bC hq 3]) rfl ?_;exact⟨⟨_,by rw[HX.out.2.1,HX.out.2.2],by rw[HX.out.1];exact zBu _ _⟩,hx⟩
 have q1:(zCs d != 0)=false:=bne_eq_false_iff_eq.2 e1;have E1:=hQq e1;clear e1;by_cases e2:0<d.red.length
 case pos=>
  have HX:=hQq (zCd (zJ2 E1.out e2));have q2:=zSv e2;have q2n:decide (0<d.red.length)=true:=decide_eq_true e2;go_enter Tryz.func14,Tryz.ntmps14;go_wp2_with (go_at_call 47;refine(zDX B _ _ d (HD.out.ext ((eA _ _).trans (eA _ _))) HSM.out).mono ?_;rintro e w1 ⟨rfl,hb1⟩;have q2:w1.heap[w.heap.size+1]? = some (.cells #[.slice none 0 0,.bool false,.slice none 0 0,.slice none 0 0] 26 (0,0)):=bX hb1 (zAu (by simp));obtain⟨r0,r1,r2,r3⟩:=b4C q2;have fz:∀j,w1.frozen? ⟨w.heap.size+1,j,none⟩=false:=fun j=>bT q2 j;have Q2:=hQq q2;clear q2;have q1:w1.heap[w.heap.size]? = some (.cells #[.slice a3 d.ats.length cap3,.bool d.opq,.slice a4 d.red.length cap4,.slice a5 d.ens.length cap5] 26 (0,0)):=bX hb1 (bA (bN w _));obtain⟨k0,k1,k2,k3⟩:=b4C q1;have Q1:=hQq q1;have hz1:=bL q1;have hz2:=bL Q2.out;clear q1;have HB1:=hQq (((eA _ _).trans (eA _ _)).trans hb1);clear hb1)
  refine nW (P:=fun W=>bodyPost _ _ _ _ _ W) _ ?_;intro W2 hW2;obtain⟨hq,hx,hc⟩:=zGN Q2.out (by omega) HB1.out hW2;refine bodyPost_ret (v:=.tuple #[.agg #[.slice none 0 0,.bool false,.slice none 0 0,.slice none 0 0],.int .i64 (-1),.int .i64 (15)]) (by simp[results,Tryz.f14,go_sem,bC hq 0,bC hq 1,bC hq 2,bC hq 3]) rfl ?_;exact⟨⟨_,by rw[HX.out.2.1,HX.out.2.2],by rw[HX.out.1];exact zBu _ _⟩,hx⟩
 have q2:=zSu e2;have q2n:decide (0<d.red.length)=false:=decide_eq_false e2;have E2:=hQq e2;go_enter Tryz.func14,Tryz.ntmps14;go_upto_region 6 with (first
  | (go_at_call 47;refine(zDX B _ _ d (HD.out.ext ((eA _ _).trans (eA _ _))) HSM.out).mono ?_;rintro e w1 ⟨rfl,hb1⟩;have q2:w1.heap[w.heap.size+1]? = some (.cells #[.slice none 0 0,.bool false,.slice none 0 0,.slice none 0 0] 26 (0,0)):=bX hb1 (zAu (by simp));obtain⟨r0,r1,r2,r3⟩:=b4C q2;have fz:∀j,w1.frozen? ⟨w.heap.size+1,j,none⟩=false:=fun j=>bT q2 j;have Q2:=hQq q2;clear q2;have q1:w1.heap[w.heap.size]? = some (.cells #[.slice a3 d.ats.length cap3,.bool d.opq,.slice a4 d.red.length cap4,.slice a5 d.ens.length cap5] 26 (0,0)):=bX hb1 (bA (bN w _));obtain⟨k0,k1,k2,k3⟩:=b4C q1;have Q1:=hQq q1;have hz1:=bL q1;have hz2:=bL Q2.out;clear q1;have HB1:=hQq (((eA _ _).trans (eA _ _)).trans hb1);clear hb1)
  | fail)
 go_wp2_with (first
  | (at_builtin;refine zWS okA rfl (.tmp 29) (.tmp 31) rfl B _ d.ats w1 _ rfl rfl rfl (by exact HA.out.ext okA HB1.out) (Nat.le_trans hB HB1.out.size) (by have:=HSM.out.atl;omega) ?_;intro v3 w3 ha;obtain⟨a7,cap7,hv3⟩:=ha.own.form;subst hv3;clear r0 r1 r2 r3 fz k0 k1 k2 k3;have q2':=bX ha.ext Q2.out;have q1':=bX ha.ext Q1.out;have Q3:=hQq q2';have R1:=hQq q1';have HB3:=hQq (HB1.out.trans ha.ext);have HV3:=hQq ((ha.own.in okA).mono okA hB);clear ha q1' q2')
  | fail)
 have HBO:Hid (w.heap.size+1<w3.heap.size):=hQq (bL Q3.out);have HST0:Hid (zHn w w3.heap.size #[.slice a3 d.ats.length cap3,.bool d.opq,.slice a4 d.red.length cap4,.slice a5 d.ens.length cap5] (.slice a7 d.ats.length cap7) d.ats false (.slice none 0 0) [] (.slice none 0 0) [] (w3.alloc (.cells #[.slice a7 d.ats.length cap7,.bool false,.slice none 0 0,.slice none 0 0] 26))):=hQq ⟨bA R1.out,bA Q3.out,bN _ _,zAg.nil _ _ _,HV3.out.ext okA (eA _ _),zBm _ _ _,HB3.out.trans (eA _ _)⟩;go_loopw [8] (fun i w'=>∃(wi:World) (k:Nat) (ve:Value),wi=w'/\k<=d.ens.length/\i= .int .i64 k/\(∀j,j<k->aeE (zBq d.ens j)=0)/\zHn w w3.heap.size #[.slice a3 d.ats.length cap3,.bool d.opq,.slice a4 d.red.length cap4,.slice a5 d.ens.length cap5] (.slice a7 d.ats.length cap7) d.ats false (.slice none 0 0) [] ve (zCV DeN.nm ((d.ens.take k).map aeX)) wi) (fun i _=>d.ens.length-(intOf i).toNat)
 case atStart=>exact⟨_,0,_,rfl,Nat.zero_le _,rfl,fun j hj=>absurd hj (by omega),HST0.out⟩
 case round=>
  clear HST0;obtain⟨wi,k,ve,rfl,hk,rfl,hok,hst⟩:=hrel;obtain⟨es,hes⟩:∃es,es=zCV DeN.nm ((d.ens.take k).map aeX):=⟨_,rfl⟩;rw[<- hes]at hst;have HES:=hQq hes;have HOK:=hQq hok;have HST:=hQq hst;clear hes;have HLN:Hid (es.length<=k):=hQq (by rw[HES.out,zGY,List.length_map,List.length_take];omega);obtain⟨a8,cap8,rfl⟩:=hst.own.form;obtain⟨k0,k1,k2,k3⟩:=b4C HST.out.box;have hb0:=bL HST.out.box;clear hok hst;by_cases hlt:k<d.ens.length
  case neg=>
   obtain rfl:k=d.ens.length:=by omega
   have HG0:=hQq (zTW HOK.out);have HTK:Hid (es=zCV DeN.nm (d.ens.map aeX)):=hQq (by rw[HES.out,List.take_length]);cases hop:d.opq
   case false=>
    rw[hop]at k1;have HSR:Hid (es=zIg (acL d)):=hQq (by rw[HTK.out];unfold acL;rw[hop,if_neg (by decide),List.append_nil]);have HAL:Hid ((acL d).length=es.length):=hQq (by rw[HSR.out];exact(zGY _ _).symm);clear hop;by_cases h24:24<es.length
    case pos=>
     have HX:=hQq (zCd (zFb E1.out E2.out (by rw[HG0.out]) (by have:=HAL.out;omega)));have q7:decide ((24:Int)<(es.length:Int))=true:=decide_eq_true (by omega);have o3:=bC HST.out.out 3;obtain⟨r0,r1,r2,r3⟩:=b4C HST.out.res;have fz:∀j,wi.frozen? ⟨w.heap.size+1,j,none⟩=false:=fun j=>bT HST.out.res j;have hrs:=bL HST.out.res;have hro:=bL HST.out.out;go_wp2;refine nW (P:=fun W=>bodyPost _ _ _ _ _ W) _ ?_;intro W2 hW2;obtain⟨hq,hx,hc⟩:=zGN HST.out.res (by omega) HST.out.ext hW2;refine bodyPost_ret (v:=.tuple #[.agg #[.slice none 0 0,.bool false,.slice none 0 0,.slice none 0 0],.int .i64 (-1),.int .i64 (5)]) (by simp[results,Tryz.f14,go_sem,bC hq 0,bC hq 1,bC hq 2,bC hq 3]) rfl ?_;exact⟨⟨_,by rw[HX.out.2.1,HX.out.2.2],by rw[HX.out.1];exact zBu _ _⟩,hx⟩
    have HX:=hQq (zCd (zI0 E1.out E2.out (by rw[HG0.out]) (by have:=HAL.out;omega)));have q7:decide ((24:Int)<(es.length:Int))=false:=decide_eq_false (by omega);obtain⟨o0,o1,o2,o3⟩:=b4C HST.out.out;obtain⟨r0,r1,r2,r3⟩:=b4C HST.out.res;have fz:∀j,wi.frozen? ⟨w.heap.size+1,j,none⟩=false:=fun j=>bT HST.out.res j;have hrs:=bL HST.out.res;have hro:=bL HST.out.out;go_wp2;refine nW (P:=fun W=>bodyPost _ _ _ _ _ W) _ ?_;intro W2 hW2;obtain⟨hq,hx,hc⟩:=zGN HST.out.res (by omega) HST.out.ext hW2;refine bodyPost_ret (v:=.tuple #[.agg #[.slice a7 d.ats.length cap7,.bool false,.slice none 0 0,.slice a8 es.length cap8],.int .i64 (0),.int .i64 (0)]) (by simp[results,Tryz.f14,go_sem,bC hq 0,bC hq 1,bC hq 2,bC hq 3]) rfl ?_;exact⟨⟨_,by rw[HX.out.2.1,HX.out.2.2],by rw[HX.out.1];exact⟨_,_,_,rfl,HST.out.ats.chg okA (hcB (Nat.le_refl _) hc HST.out.res) (by decide) (by decide),zBm _ _ _,by have h:=(HST.out.own.in okE).chg okE (hcB (Nat.le_refl _) hc HST.out.res) (by decide) (by decide);rw[<- HSR.out];exact h⟩⟩,hx⟩
   rw[hop]at k1;have HOP:=hQq hop;clear hop;obtain⟨es2,hes2⟩:∃es2,es2=zDY DeN.nm es (mkN zDx):=⟨_,rfl⟩;have HSR:Hid (es2=zIg (acL d)):=hQq (by rw[hes2,HTK.out];unfold acL;rw[HOP.out,if_pos rfl];exact(zFF _ _).symm);have HAL:Hid ((acL d).length=es2.length):=hQq (by rw[HSR.out];exact(zGY _ _).symm);have HMK:Hid (∀W,zAs Tryz.prog 49 #[.string ⟨#[46,119,104,46,46,119,104,46,111,112,113]⟩] W (.agg #[.string ⟨#[46,119,104,46,46,119,104,46,111,112,113]⟩,.int .i64 0,.string ⟨#[]⟩,.int .i64 2,.slice none 0 0,.string ⟨#[]⟩,.int .i64 0,.int .i64 0,.int .i64 0,.bool false,.bool true,.int .i64 1])):=hQq (fun W=>zTz zDx W);have HPU:Hid (∀W,Ext wi W->Calls Tryz.prog 51 #[.slice a8 es.length cap8,.agg #[.string ⟨#[46,119,104,46,46,119,104,46,111,112,113]⟩,.int .i64 0,.string ⟨#[]⟩,.int .i64 2,.slice none 0 0,.string ⟨#[]⟩,.int .i64 0,.int .i64 0,.int .i64 0,.bool false,.bool true,.int .i64 1]] W (fun e w'=>(∃a cap,e= .returned (.slice a es2.length cap)/\zAg cdE w.heap.size w' (.slice a es2.length cap) es2)/\Ext W w')):=hQq (fun W hW=>by
    have h:=zRX w.heap.size W _ (.slice none 0 0) es (mkN zDx) ((HST.out.up hW).own.in okE) (zBp _ _ _) (HST.out.up hW).ext.size (by have:=HLN.out;omega);rw[<- hes2]at h;exact h)
   clear hes2;have u3:=bC HST.out.out 3;have uf:=bT HST.out.out 3;have ul:=bL HST.out.out;go_upto_region 22 with fail
   go_region_with (first
    | (go_at_call 49;refine(HMK.out _).mono ?_;rintro e w4 ⟨rfl,hb4⟩;have HE4:Hid (Ext wi w4):=hQq (Ext.trans (by first|exact bR _ _|exact eD _) hb4);have p3:=bC (bX HE4.out HST.out.out) 3;have pf:=bT (bX HE4.out HST.out.out) 3;have pl:=bL (bX HE4.out HST.out.out);clear hb4)
    | (go_at_call 51;refine(HPU.out _ HE4.out).mono ?_;rintro e w5 ⟨⟨a9,cap9,rfl,ho5⟩,hb5⟩;have HS5:=hQq (HST.out.up (Ext.trans HE4.out hb5));have HO5:=hQq ho5;have v3:=bC HS5.out.out 3;have vf:=bT HS5.out.out 3;have vl:=bL HS5.out.out;clear ho5 hb5)
    | fail)
   all_goals
    first|refine nW (P:=fun W=>Exit.then _ _ _ _ W) _ ?_|refine nW (P:=fun W=>Code.wp _ _ _ _ W) _ ?_
    intro W6 hW6;have HS6:Hid (zHn w w3.heap.size #[.slice a3 d.ats.length cap3,.bool d.opq,.slice a4 d.red.length cap4,.slice a5 d.ens.length cap5] (.slice a7 d.ats.length cap7) d.ats false (.slice none 0 0) [] (.slice a9 es2.length cap9) es2 W6):=hQq (by rw[hW6];exact HS5.out.set HO5.out HBO.out);clear hW6 u3 uf ul k0 k1 k2 k3 hb0;by_cases h24:24<es2.length
    case pos=>
     have HX:=hQq (zCd (zFb E1.out E2.out (by rw[HG0.out]) (by have:=HAL.out;omega)));have q7:decide ((24:Int)<(es2.length:Int))=true:=decide_eq_true (by omega);have o3:=bC HS6.out.out 3;obtain⟨r0,r1,r2,r3⟩:=b4C HS6.out.res;have fz:∀j,W6.frozen? ⟨w.heap.size+1,j,none⟩=false:=fun j=>bT HS6.out.res j;have hrs:=bL HS6.out.res;have hro:=bL HS6.out.out;go_wp2;refine nW (P:=fun W=>bodyPost _ _ _ _ _ W) _ ?_;intro W2 hW2;obtain⟨hq,hx,hc⟩:=zGN HS6.out.res (by omega) HS6.out.ext hW2;refine bodyPost_ret (v:=.tuple #[.agg #[.slice none 0 0,.bool false,.slice none 0 0,.slice none 0 0],.int .i64 (-1),.int .i64 (5)]) (by simp[results,Tryz.f14,go_sem,bC hq 0,bC hq 1,bC hq 2,bC hq 3]) rfl ?_;exact⟨⟨_,by rw[HX.out.2.1,HX.out.2.2],by rw[HX.out.1];exact zBu _ _⟩,hx⟩
    have HX:=hQq (zCd (zI0 E1.out E2.out (by rw[HG0.out]) (by have:=HAL.out;omega)));have q7:decide ((24:Int)<(es2.length:Int))=false:=decide_eq_false (by omega);obtain⟨o0,o1,o2,o3⟩:=b4C HS6.out.out;obtain⟨r0,r1,r2,r3⟩:=b4C HS6.out.res;have fz:∀j,W6.frozen? ⟨w.heap.size+1,j,none⟩=false:=fun j=>bT HS6.out.res j;have hrs:=bL HS6.out.res;have hro:=bL HS6.out.out;go_wp2;refine nW (P:=fun W=>bodyPost _ _ _ _ _ W) _ ?_;intro W2 hW2;obtain⟨hq,hx,hc⟩:=zGN HS6.out.res (by omega) HS6.out.ext hW2;refine bodyPost_ret (v:=.tuple #[.agg #[.slice a7 d.ats.length cap7,.bool false,.slice none 0 0,.slice a9 es2.length cap9],.int .i64 (0),.int .i64 (0)]) (by simp[results,Tryz.f14,go_sem,bC hq 0,bC hq 1,bC hq 2,bC hq 3]) rfl ?_;exact⟨⟨_,by rw[HX.out.2.1,HX.out.2.2],by rw[HX.out.1];exact⟨_,_,_,rfl,HS6.out.ats.chg okA (hcB (Nat.le_refl _) hc HS6.out.res) (by decide) (by decide),zBm _ _ _,by have h:=(HS6.out.own.in okE).chg okE (hcB (Nat.le_refl _) hc HS6.out.res) (by decide) (by decide);rw[<- HSR.out];exact h⟩⟩,hx⟩
  obtain⟨b,off,va,hex,hbx,hva,c0,c1,c2,c3,c4,c5,c6,c7,c8,c9,c10,c11⟩:=(HE.out.ext okE HST.out.ext).en k hlt;cases hex;have HVA:=hQq (hva.mono okA hB);obtain⟨a6,cap6,rfl⟩:=hva.form;have HG:=hQq (zAL d.ens k hlt);have HTK:Hid (zCV DeN.nm ((d.ens.take (k+1)).map aeX)=zDY DeN.nm es (aeX (d.ens[k]'hlt))):=hQq (by rw[zKi,zFF,HES.out]);have HNM:Hid ((d.ens[k]'hlt).nm.size<=900000):=hQq (HSM.out.ens _ (List.getElem_mem hlt)).1;generalize d.ens[k]'hlt=x at c0 c1 c2 c3 c4 c5 c6 c7 c8 c9 c10 c11 HVA HG HTK HNM;have j1:((k:Nat):Int)<(d.ens.length:Int):=by omega
  have j0:(0:Int)<=(k:Int):=by omega
  have HNE:Hid (∀n,aeE x=n->n≠0->gnT aeE d.ens=((k:Int),n)):=hQq (fun n hn h=>by
   subst hn;have:=zTX (E:=aeE) hlt HOK.out (by rw[HG.out];exact h);rw[HG.out]at this;exact this)
  have HNX:Hid (aeE x=0->∀j,j<k+1->aeE (zBq d.ens j)=0):=hQq (fun h j hj=>by
   by_cases e:j=k
   ·subst e;rw[HG.out];exact h
   ·exact HOK.out j (by omega))
  clear hva;cases hwh:x.wh
  case true=>
   rw[hwh]at c9;have HWH:=hQq hwh;clear hwh;by_cases e4:wtE 3 x.nm=0
   case neg=>
    have HAE:Hid (aeE x=17):=hQq (by unfold aeE;rw[if_pos HWH.out,if_pos e4]);have HX:=hQq (zCd (zGH E1.out E2.out (HNE.out 17 HAE.out (by decide)) (by decide)));have q4:(wtE 3 x.nm != 0)=true:=bne_iff_ne.2 e4;clear e4;go_upto_region 14 with (first|(go_at_call 48;refine(zV7 3 x.nm _ (by have:=HNM.out;omega)).mono ?_;rintro e w4 ⟨rfl,rfl⟩)|fail)
    refine nW (P:=fun W=>Code.wp _ _ _ _ W) _ ?_;intro W4 hW4;have HE4:Hid (Ext wi W4):=hQq (by rw[hW4];exact eA _ _);clear hW4;have hr2:=bX HE4.out HST.out.res;obtain⟨r0,r1,r2,r3⟩:=b4C hr2;have fz:∀j,W4.frozen? ⟨w.heap.size+1,j,none⟩=false:=fun j=>bT hr2 j;have hrs:=bL hr2;have Q4:=hQq hr2;clear hr2;go_wp2;refine nW (P:=fun W=>bodyPost _ _ _ _ _ W) _ ?_;intro W2 hW2;obtain⟨hq,hx,hc⟩:=zGN Q4.out (by omega) (HST.out.ext.trans HE4.out) hW2;refine bodyPost_ret (v:=.tuple #[.agg #[.slice none 0 0,.bool false,.slice none 0 0,.slice none 0 0],.int .i64 (k:Int),.int .i64 17]) (by simp[results,Tryz.f14,go_sem,bC hq 0,bC hq 1,bC hq 2,bC hq 3]) rfl ?_;exact⟨⟨_,by rw[HX.out.2.1,HX.out.2.2],by rw[HX.out.1];exact zBu _ _⟩,hx⟩
   have q4:(wtE 3 x.nm != 0)=false:=bne_eq_false_iff_eq.2 e4;have HNN:=hQq (HNX.out (by unfold aeE;rw[if_pos HWH.out,if_neg (by simp[e4])]));have HY:Hid (aeX x=mkN (wtS 3 x.nm)):=hQq (zBL HWH.out);clear e4;have HMK:Hid (∀W,zAs Tryz.prog 49 #[.string (wtS 3 x.nm)] W (.agg #[.string (wtS 3 x.nm),.int .i64 0,.string ⟨#[]⟩,.int .i64 2,.slice none 0 0,.string ⟨#[]⟩,.int .i64 0,.int .i64 0,.int .i64 0,.bool false,.bool true,.int .i64 1])):=hQq (fun W=>zTz _ W);go_upto_region 15 with (first|(go_at_call 48;refine(zV7 3 x.nm _ (by have:=HNM.out;omega)).mono ?_;rintro e w4 ⟨rfl,rfl⟩)|fail)
   refine nW (P:=fun W=>Code.wp _ _ _ _ W) _ ?_;intro W4 hW4;have HX4:Hid (W4.heap[wi.heap.size]? = some (.cells #[.string x.nm,.int .i64 x.nd.dep,.string x.nd.nm,.int .i64 x.nd.kd,.slice a6 x.nd.ats.length cap6,.string x.nd.dat,.int .i64 x.nd.ma,.int .i64 x.nd.mi,.int .i64 x.nd.cl,.bool true,.bool x.fi,.int .i64 x.ns] 66 (0,0))):=hQq (by rw[hW4];exact bN _ _);have HE4:Hid (Ext wi W4):=hQq (by rw[hW4];exact eA _ _);clear hW4;go_wp2_with fail
   refine(HMK.out _).mono ?_;rintro e w5 ⟨rfl,hb5⟩;have HX5:=hQq (bX hb5 HX4.out);have HE5:=hQq (Ext.trans HE4.out hb5);obtain⟨z0,z1,z2,z3,z4,z5,z6,z7,z8,z9,z10,z11⟩:=zDC HX5.out;have fx:∀j,w5.frozen? ⟨wi.heap.size,j,none⟩=false:=fun j=>bT HX5.out j;have hsx:=bL HX5.out;clear hb5;go_upto_region 20 with fail
   refine nW (P:=fun W=>Code.wp _ _ _ _ W) _ ?_;intro W hW;have HXW:Hid (W.heap[wi.heap.size]? = some (.cells #[.string (wtS 3 x.nm),.int .i64 0,.string ⟨#[]⟩,.int .i64 2,.slice none 0 0,.string ⟨#[]⟩,.int .i64 0,.int .i64 0,.int .i64 0,.bool false,.bool true,.int .i64 1] 66 (0,0))):=hQq (by exact(zKo HX5.out hW).1);have HEW:Hid (Ext wi W):=hQq (by exact(zKo HX5.out hW).2 _ HE5.out (Nat.le_refl _));clear hW;have HSW:=hQq (HST.out.up HEW.out);have HVY:Hid (zAH w.heap.size W (.slice none 0 0) (aeX x).nd.ats):=hQq (by rw[HY.out];exact zBp _ _ _);obtain⟨z0,z1,z2,z3,z4,z5,z6,z7,z8,z9,z10,z11⟩:=zDC HXW.out;have hsx:=bL HXW.out;have u3:=bC HSW.out.out 3;have uf:=bT HSW.out.out 3;have ul:=bL HSW.out.out;obtain⟨es2,hes2⟩:∃es2,es2=zCV DeN.nm ((d.ens.take (k+1)).map aeX):=⟨_,rfl⟩;have HES2:=hQq hes2;have HPU:Hid (Calls Tryz.prog 51 #[.slice a8 es.length cap8,.agg #[.string (wtS 3 x.nm),.int .i64 0,.string ⟨#[]⟩,.int .i64 2,.slice none 0 0,.string ⟨#[]⟩,.int .i64 0,.int .i64 0,.int .i64 0,.bool false,.bool true,.int .i64 1]] W (fun e w'=>(∃a cap,e= .returned (.slice a es2.length cap)/\zAg cdE w.heap.size w' (.slice a es2.length cap) es2)/\Ext W w')):=hQq (by
    have h:=zRX w.heap.size W _ (.slice none 0 0) es (aeX x) (HSW.out.own.in okE) HVY.out HSW.out.ext.size (by have:=HLN.out;omega);rw[<- HTK.out,<- hes2,HY.out]at h;exact h)
   clear hes2;go_wp2_with (first
    | (go_at_call 51;refine HPU.out.mono ?_;rintro e w6 ⟨⟨a9,cap9,rfl,ho6⟩,hb6⟩;have HS6:=hQq (HSW.out.up hb6);have HO6:=hQq ho6;have v3:=bC HS6.out.out 3;have vf:=bT HS6.out.out 3;have vl:=bL HS6.out.out;clear ho6 hb6)
    | fail)
   go_roundw
   case rel=>exact⟨_,k+1,_,rfl,by omega,by go_num,HNN.out,by rw[<- HES2.out];exact HS6.out.set HO6.out HBO.out⟩
   case measure=>simp[intOf]<;>omega
  rw[hwh]at c9;have HWH:=hQq hwh;clear hwh;by_cases e4:nmE 3 x.nm=0
  case neg=>
   have HAE:Hid (aeE x=17):=hQq (by unfold aeE;rw[if_neg (by rw[HWH.out];decide),if_pos e4]);have HX:=hQq (zCd (zGH E1.out E2.out (HNE.out 17 HAE.out (by decide)) (by decide)));have q4:(nmE 3 x.nm != 0)=true:=bne_iff_ne.2 e4;clear e4;go_upto_region 18 with (first|(go_at_call 50;refine(zV8 3 x.nm _ (by have:=HNM.out;omega)).mono ?_;rintro e w4 ⟨rfl,rfl⟩)|fail)
   refine nW (P:=fun W=>Code.wp _ _ _ _ W) _ ?_;intro W4 hW4;have HE4:Hid (Ext wi W4):=hQq (by rw[hW4];exact eA _ _);clear hW4;have hr2:=bX HE4.out HST.out.res;obtain⟨r0,r1,r2,r3⟩:=b4C hr2;have fz:∀j,W4.frozen? ⟨w.heap.size+1,j,none⟩=false:=fun j=>bT hr2 j;have hrs:=bL hr2;have Q4:=hQq hr2;clear hr2;go_wp2;refine nW (P:=fun W=>bodyPost _ _ _ _ _ W) _ ?_;intro W2 hW2;obtain⟨hq,hx,hc⟩:=zGN Q4.out (by omega) (HST.out.ext.trans HE4.out) hW2;refine bodyPost_ret (v:=.tuple #[.agg #[.slice none 0 0,.bool false,.slice none 0 0,.slice none 0 0],.int .i64 (k:Int),.int .i64 17]) (by simp[results,Tryz.f14,go_sem,bC hq 0,bC hq 1,bC hq 2,bC hq 3]) rfl ?_;exact⟨⟨_,by rw[HX.out.2.1,HX.out.2.2],by rw[HX.out.1];exact zBu _ _⟩,hx⟩
  have q4:(nmE 3 x.nm != 0)=false:=bne_eq_false_iff_eq.2 e4;have HNN:=hQq (HNX.out (by unfold aeE;rw[if_neg (by rw[HWH.out];decide),if_neg (by simp[e4])]));have HY:Hid (aeX x= {x with nm:=nmS 3 x.nm}):=hQq (zBM HWH.out);clear e4;go_upto_region 20 with (first|(go_at_call 50;refine(zV8 3 x.nm _ (by have:=HNM.out;omega)).mono ?_;rintro e w4 ⟨rfl,rfl⟩)|fail)
  refine nW (P:=fun W=>Code.wp _ _ _ _ W) _ ?_;intro W hW;have HXW:Hid (W.heap[wi.heap.size]? = some (.cells #[.string (nmS 3 x.nm),.int .i64 x.nd.dep,.string x.nd.nm,.int .i64 x.nd.kd,.slice a6 x.nd.ats.length cap6,.string x.nd.dat,.int .i64 x.nd.ma,.int .i64 x.nd.mi,.int .i64 x.nd.cl,.bool false,.bool x.fi,.int .i64 x.ns] 66 (0,0))):=hQq (by rw[hW];first|exact bN _ _|exact bS (bN _ _) _);have HEW:Hid (Ext wi W):=hQq (by rw[hW];first|exact eA _ _|exact Below.setCell (p:=⟨wi.heap.size,0,none⟩) (eA _ _) (Nat.le_refl _) _);clear hW;have HSW:=hQq (HST.out.up HEW.out);have HVY:Hid (zAH w.heap.size W (.slice a6 x.nd.ats.length cap6) (aeX x).nd.ats):=hQq (by rw[HY.out];exact HVA.out.ext okA HEW.out);obtain⟨z0,z1,z2,z3,z4,z5,z6,z7,z8,z9,z10,z11⟩:=zDC HXW.out;have hsx:=bL HXW.out;have u3:=bC HSW.out.out 3;have uf:=bT HSW.out.out 3;have ul:=bL HSW.out.out;obtain⟨es2,hes2⟩:∃es2,es2=zCV DeN.nm ((d.ens.take (k+1)).map aeX):=⟨_,rfl⟩;have HES2:=hQq hes2;have HPU:Hid (Calls Tryz.prog 51 #[.slice a8 es.length cap8,.agg #[.string (nmS 3 x.nm),.int .i64 x.nd.dep,.string x.nd.nm,.int .i64 x.nd.kd,.slice a6 x.nd.ats.length cap6,.string x.nd.dat,.int .i64 x.nd.ma,.int .i64 x.nd.mi,.int .i64 x.nd.cl,.bool false,.bool x.fi,.int .i64 x.ns]] W (fun e w'=>(∃a cap,e= .returned (.slice a es2.length cap)/\zAg cdE w.heap.size w' (.slice a es2.length cap) es2)/\Ext W w')):=hQq (by
   have h:=zRX w.heap.size W _ (.slice a6 x.nd.ats.length cap6) es (aeX x) (HSW.out.own.in okE) HVY.out HSW.out.ext.size (by have:=HLN.out;omega);rw[<- HTK.out,<- hes2,HY.out]at h;unfold deV at h;rw[show ({x with nm:=nmS 3 x.nm}:DeN).wh=false from HWH.out]at h;exact h)
  clear hes2;go_wp2_with (first
   | (go_at_call 51;refine HPU.out.mono ?_;rintro e w6 ⟨⟨a9,cap9,rfl,ho6⟩,hb6⟩;have HS6:=hQq (HSW.out.up hb6);have HO6:=hQq ho6;have v3:=bC HS6.out.out 3;have vf:=bT HS6.out.out 3;have vl:=bL HS6.out.out;clear ho6 hb6)
   | fail)
  go_roundw
  case rel=>exact⟨_,k+1,_,rfl,by omega,by go_num,HNN.out,by rw[<- HES2.out];exact HS6.out.set HO6.out HBO.out⟩
  case measure=>simp[intOf]<;>omega
theorem zV2 {w w1 W2:World}{g:Nat}{t:TypeId}{x0 x1 x2 x3 x4 x5 x6 x7 x8 x9 x10 x11 y0 y1 y2 y3 y4 y5 y6 y7 y8 y9:Value}(hq:w1.heap[g]? = some (.cells #[x0,x1,x2,x3,x4,x5,x6,x7,x8,x9,x10,x11] t (0,0)))(hg:w.heap.size<=g)(he:Ext w w1)(hW:W2=((((((((((w1.setCell ⟨g,0,none⟩ y0).setCell ⟨g,1,none⟩ y1).setCell ⟨g,2,none⟩ y2).setCell ⟨g,3,none⟩ y3).setCell ⟨g,4,none⟩ y4).setCell ⟨g,5,none⟩ y5).setCell ⟨g,6,none⟩ y6).setCell ⟨g,7,none⟩ y7).setCell ⟨g,8,none⟩ y8).setCell ⟨g,9,none⟩ y9)):
  W2.heap[g]? = some (.cells #[y0,y1,y2,y3,y4,y5,y6,y7,y8,y9,x10,x11] t (0,0))/\(∀b o,w1.heap[b]? = some o->b≠g->W2.heap[b]? = some o)/\Ext w W2:=by
 have h:W2=zFp w1 g 0 [y0,y1,y2,y3,y4,y5,y6,y7,y8,y9]:=by rw[hW];simp only[zFp,Nat.reduceAdd,Nat.zero_add]
 refine⟨?_,?_,?_⟩
 ·subst h;rw[zCF _ _ _ _ hq];simp only[zVO,List.setIfInBounds_toArray,List.set_cons_zero,List.set_cons_succ]
 ·subst h;exact fun b o hb hne=>zEy _ _ _ b o hb (fun e=>hne (by injection e with e;exact e.symm))
 ·subst h;exact zBw hg _ _ _ he
def EyP (B:Nat)(w:World)(l:List DeN)(i:Nat)(e:Ending)(w':World):Prop:=
 (∃(y:DeN) (a:Option Addr) (c:Nat) (t:Int),e= .returned (.tuple #[deV y (.slice a y.nd.ats.length c),.int .i64 t,.int .i64 (adE (adO l) l i)])/\(adE (adO l) l i=0->y=adX (zBq l i)/\t=bkW 3 (zBq l i).nm/\zAH B w' (.slice a y.nd.ats.length c) y.nd.ats))/\Ext w w'
def zVc (s:ByteArray)(y:DeN):Bool:=(bkW 3 y.nm==1||bkW 3 y.nm==2)&&decide (bkS 3 y.nm=s)
theorem zVk {x:DeN}(h:zFk x=true):x.ns=1:=by
 unfold zFk at h;simp only[Bool.and_eq_true,beq_iff_eq]at h;exact h.1
theorem zWz {l:List DeN} {i:Nat} (h:∀ j,j < i->zVc (bkS 3 (zBq l i).nm) (zBq l j)=false):zNh l i=false:=by
 unfold zNh
 rw [List.any_eq_false]
 intro j hj
 rw [List.mem_range] at hj
 have:=h j hj
 unfold zVc at this
 simp [this]
theorem zVl {l:List DeN} {i j:Nat} (hj:j < i) (h:zVc (bkS 3 (zBq l i).nm) (zBq l j)=true):zNh l i=true:=by
 unfold zNh
 rw [List.any_eq_true]
 exact⟨j,List.mem_range.2 hj,h⟩
theorem zQh (s:ByteArray)(y:DeN):(zVc s y=true/\bkE 3 y.nm=0/\(bkW 3 y.nm=1\/bkW 3 y.nm=2)/\((bkS 3 y.nm).toList==s.toList)=true) \/
  (zVc s y=false/\((bkE 3 y.nm==0)=false\/(bkE 3 y.nm=0/\(bkW 3 y.nm=3\/bkW 3 y.nm=4))\/(bkE 3 y.nm=0/\(bkW 3 y.nm=1\/bkW 3 y.nm=2)/\((bkS 3 y.nm).toList==s.toList)=false))):=by
 have q1:bkS 3 y.nm=s->((bkS 3 y.nm).toList==s.toList)=true:=fun e=>by rw[e];exact beq_iff_eq.2 rfl
 have q2:bkS 3 y.nm≠s->((bkS 3 y.nm).toList==s.toList)=false:=fun e=>nB (fun h=>e (zBG (by rw[<- tL,<- tL];exact h)));unfold zVc;rcases zFa 3 y.nm with ⟨h1,_,h2⟩|⟨h1,h2,_⟩|⟨h1,h2,_⟩|⟨h1,h2,_⟩|⟨h1,h2,_⟩
 ·exact .inr ⟨by rw[h2];rfl,.inl h1⟩
 ·by_cases e:bkS 3 y.nm=s
  ·exact .inl ⟨by rw[h2,decide_eq_true e];rfl,h1,.inl h2,q1 e⟩
  ·exact .inr ⟨by rw[decide_eq_false e,Bool.and_false],.inr (.inr ⟨h1,.inl h2,q2 e⟩)⟩
 ·by_cases e:bkS 3 y.nm=s
  ·exact .inl ⟨by rw[h2,decide_eq_true e];rfl,h1,.inr h2,q1 e⟩
  ·exact .inr ⟨by rw[decide_eq_false e,Bool.and_false],.inr (.inr ⟨h1,.inr h2,q2 e⟩)⟩
 ·exact .inr ⟨by rw[h2];rfl,.inr (.inl ⟨h1,.inl h2⟩)⟩
 ·exact .inr ⟨by rw[h2];rfl,.inr (.inl ⟨h1,.inr h2⟩)⟩
theorem zVj {d:DiN}(h:zCs d=0):∀x∈d.ens,x.ns=1->x.fi=true/\x.nd.cl=0:=fun x hx hn=>by
 obtain⟨j,hj,rfl⟩:=List.getElem_of_mem hx;have h1:=(zBz h).2.2.2.2.2 j hj;unfold zFA at h1;rw[zAL d.ens j hj]at h1;have h2:=(zCI h1).2.2.2.2.2.2;exact⟨zKK h1 hn,by omega⟩
theorem zTp (l:List DeN)(k:Nat)(hk:k<l.length):adL (l.take (k+1))=if bkW 3 (zBq l k).nm=3 then adL (l.take k)else adL (l.take k)++ [adX (zBq l k)]:=by
 unfold adL;rw[List.take_succ_eq_append_getElem hk,List.filter_append,List.map_append,<- zAL l k hk];by_cases h:bkW 3 (zBq l k).nm=3
 ·rw[if_pos h];simp[h]
 ·rw[if_neg h];simp[h]
def zXI (xb n3 c3 n5 c5 B0 B1:Nat)(a3 a5:Option Addr)(o:Bool)(ls:List zAq):Nat->Value->World->Prop
 | 0,v,_=>∃ad,v= .slice (some ad) 0 0/\True
 | 1,v,_=>v= .pointer (some ⟨xb,0,none⟩)
 | 2,v,_=>v= .slice a3 n3 c3
 | 3,v,w=>∃ar cr,v= .slice ar n3 cr/\zAH B0 w (.slice ar n3 cr) ls
 | 4,v,_=>v= .pointer (some ⟨xb,3,none⟩)
 | 5,v,_=>v= .slice a5 n5 c5
 | 6,v,_=>v= .bool o
 | 7,v,w=>∃ar cr,v= .agg #[.slice ar n3 cr,.bool o,.slice none 0 0,.slice none 0 0]/\zAH B0 w (.slice ar n3 cr) ls
 | 8,v,w=>∃g,v= .pointer (some ⟨g,0,none⟩)/\B1<=g/\w.heap[g]? = some (.cells #[.slice none 0 0,.bool false,.slice none 0 0,.slice none 0 0] 26 (0,0))
 | _,_,_=>True
theorem zPl {xb n3 c3 n5 c5 B0 B1:Nat}{a3 a5:Option Addr}{o:Bool}{ls:List zAq}:∀(i:Nat) (v:Value) (w w':World),zXI xb n3 c3 n5 c5 B0 B1 a3 a5 o ls i v w->Ext w w'->zXI xb n3 c3 n5 c5 B0 B1 a3 a5 o ls i v w':=by
 intro i v w w' hh he
 match i,hh with
 | 0,⟨ad,h,h2⟩=>exact⟨ad,h,h2⟩
 | 1,h=>exact h
 | 2,h=>exact h
 | 3,⟨ar,cr,h,h2⟩=>exact⟨ar,cr,h,h2.ext okA he⟩
 | 4,h=>exact h
 | 5,h=>exact h
 | 6,h=>exact h
 | 7,⟨ar,cr,h,h2⟩=>exact⟨ar,cr,h,h2.ext okA he⟩
 | 8,⟨g,h,h2⟩=>exact⟨g,h,⟨h2.1,bX he h2.2⟩⟩
 | i+9,_=>trivial
end Go.Proofs.YtbeeoomadnmogaaGreat
