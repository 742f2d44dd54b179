/- AwI AwW -/
import Derived.Test.YtbeeoomadnmogaaGreatQI5
import Derived.Test.YtbeeoomadnmogaaGreatQAwA
import Derived.Test.YtbeeoomadnmogaaGreatQFarO
set_option maxRecDepth 100000
set_option maxHeartbeats 64000000
namespace Go.Proofs.YtbeeoomadnmogaaGreat
open Go.RowKit
attribute [local go_sem] Oper.semAt_some
theorem zX1 (B:Nat)(w:World)(v:Value)(b:List BrN)(n:Nat)(hb:zEi B w v b)(hB:B<=w.heap.size)(hsm:zBN b)(h0:zB9 b=0)(hn:n<b.length)(hk:(zAm b n).kd=1):
  Calls Tryz.prog 132 #[v,.int .i64 n] w fun e w'=>(∃vd,e= .returned (.tuple #[vd,.int .i64 0])/\zBA w.heap.size w' vd (zAo b n))/\Ext w w':=by
 obtain⟨aa,cap,rfl⟩:=hb.form;have HV:=hQq hb;have HSM:=hQq hsm;have H0:=hQq h0;have HN:=hQq hn;have HKD:=hQq hk;have hlen:=hsm.len;have HOK:=hQq (zAf (zAp h0).1).2.2.1;have j1:((n:Nat):Int)<(b.length:Int):=by omega
 have j0:(0:Int)<=(n:Int):=by omega
 clear hb hsm h0 hk;refine(callsIn_wide (n:=8)).1 ?_;refine callsIn_of_wp_marks Tryz.func132 rfl trivial ?_ rfl;refine wpIn_wide.2 ?_;simp only[Tryz.ntmps132,List.size_toArray,List.length_cons,List.length_nil,Nat.reduceAdd,Nat.reduceSub,Array.replicate_succ,Array.replicate_zero,List.push_toArray,List.append_toArray,List.nil_append,List.cons_append];go_upto_region 4 with (go_at_call 133;refine(zQY B _ _ b n (HV.out.ext okB (eA _ _)) HSM.out H0.out HN.out HKD.out).mono ?_;rintro e w1 ⟨⟨ak,ck,rfl,ho⟩,hb1⟩;have HKL:=hQq ho;have HB1:Hid (Ext w w1):=hQq ((eA _ _).trans hb1);have QR:=hQq (bX hb1 (bN w (.cells #[.slice none 0 0,.bool false,.slice none 0 0,.slice none 0 0] 26 (0,0))));obtain⟨r0,r1,r2,r3⟩:=b4C QR.out;have hy:=bL QR.out;clear ho hb1)
 refine nW (P:=fun W=>Code.wp _ _ _ _ W) _ ?_;intro W hW;obtain rfl:W=w1:=hW;obtain⟨bb,off,va,vr,hex,hbx0,hva,hvr,g0,g1,g2,g3,g4,g5,g6,g7,g8,g9⟩:=HV.out.br n hn;cases hex;have HVA:=hQq ((hva.mono okA hB).ext okA HB1.out);have HVR:=hQq ((hvr.mono okS hB).ext okS HB1.out);have c3:=(eC HB1.out hbx0).trans g3;have c8:=(eC HB1.out hbx0).trans g8;have c9:=(eC HB1.out hbx0).trans g9;have hbx:bb<W.heap.size:=Nat.lt_of_lt_of_le hbx0 HB1.out.size;have HAL:=hQq (HSM.out.ats _ (List.getElem_mem hn));have HRL:=hQq (HSM.out.red _ (List.getElem_mem hn)).1;have HW:=HB1;rw[<- zAN b n hn]at HVA HVR HAL HRL c8;obtain⟨a3,cap3,rfl⟩:=hva.form;obtain⟨a4,cap4,rfl⟩:=hvr.form;rw[<- zAN b n hn]at HVA HVR c3 c9;obtain⟨x,hx⟩:∃x,x=zAm b n:=⟨_,rfl⟩;rw[<- hx]at HVA HVR HAL HRL c3 c8 c9;have HX:=hQq hx;clear hva hvr hx g0 g1 g2 g3 g4 g5 g6 g7 g8 g9;go_cut [8]from 27 to 44 (fun p wx=>∃g va vr,p= .pointer (some ⟨g,0,none⟩)/\W.heap.size<=g/\Ext W wx/\wx.heap[g]? = some (.cells #[va,.bool x.opq,vr,.slice none 0 0] 26 (0,0))/\zAH w.heap.size wx va x.ats/\zBV w.heap.size wx vr x.red)
 case first=>
  rename_i K1 hK1 J1 K2 hJ1 hK2
  clear r0 r1 r2 r3 hy;refine zCU (zXV bb off n cap b.length w.heap.size W.heap.size (.slice a3 x.ats.length cap3) (.slice a4 x.red.length cap4) x) 19 rfl (by kernel_rfl) (by kernel_rfl) zQB ?_ ?_
  ·intro i1 o a wx hi ho hE hk hp;have n0:=zAe (show a.eval (.tmp 0)= .slice (some ⟨bb,off,none⟩) b.length cap from hk 0 (of_decide_eq_true (by kernel_rfl)));have n1:=zAe (show a.eval (.tmp 1)= .int .i64 n from hk 1 (of_decide_eq_true (by kernel_rfl)));clear hk
   match i1,hi,ho,hp with
   | 0,_,ho,hp=>
    obtain rfl:=oI ho;clear ho hp;unfold Oper.wp;go_simp;exact⟨_,rfl,rfl,bR _ _⟩
   | 1,_,ho,hp=>
    obtain rfl:=oI ho;clear ho hp;unfold Oper.wp;go_simp;exact⟨_,rfl,rfl,bR _ _⟩
   | 2,_,ho,hp=>
    obtain rfl:=oI ho;have p27:=zAe (show a.eval (.tmp 27)= .slice (some ⟨bb,off,none⟩) b.length cap from hp 0 _ 27 (by kernel_rfl) rfl rfl);have p28:=zAe (show a.eval (.tmp 28)= .int .i64 n from hp 1 _ 28 (by kernel_rfl) rfl rfl);clear ho hp;unfold Oper.wp;go_simp;exact⟨_,rfl,rfl,bR _ _⟩
   | 3,_,ho,hp=>
    obtain rfl:=oI ho;have p29:=zAe (show a.eval (.tmp 29)= .pointer (some ⟨bb,off+n*10,none⟩)from hp 2 _ 29 (by kernel_rfl) rfl rfl);clear ho hp;unfold Oper.wp;go_simp;exact⟨_,rfl,rfl,bR _ _⟩
   | 4,_,ho,hp=>
    obtain rfl:=oI ho;have p30:=zAe (show a.eval (.tmp 30)= .pointer (some ⟨bb,off+n*10+3,none⟩)from hp 3 _ 30 (by kernel_rfl) rfl rfl);have d:=(eC hE hbx).trans c3;clear ho hp;unfold Oper.wp;go_simp;exact⟨_,rfl,rfl,bR _ _⟩
   | 5,_,ho,hp=>
    obtain rfl:=oI ho;have p31:=zAe (show a.eval (.tmp 31)= .slice a3 x.ats.length cap3 from hp 4 _ 31 (by kernel_rfl) rfl rfl);clear ho hp;unfold Oper.wp;go_simp;refine(zGg _ x.ats _ ((HVA.out.ext okA hE).attrs) HAL.out).mono ?_;rintro e w5 ⟨⟨a9,c9,rfl,h9⟩,hb5⟩;exact⟨_,rfl,⟨a9,c9,rfl,h9.toIn⟩,hb5⟩
   | 6,_,ho,hp=>
    obtain rfl:=oI ho;clear ho hp;unfold Oper.wp;go_simp;exact⟨_,rfl,rfl,bR _ _⟩
   | 7,_,ho,hp=>
    obtain rfl:=oI ho;clear ho hp;unfold Oper.wp;go_simp;exact⟨_,rfl,rfl,bR _ _⟩
   | 8,_,ho,hp=>
    obtain rfl:=oI ho;have p33:=zAe (show a.eval (.tmp 33)= .slice (some ⟨bb,off,none⟩) b.length cap from hp 6 _ 33 (by kernel_rfl) rfl rfl);have p34:=zAe (show a.eval (.tmp 34)= .int .i64 n from hp 7 _ 34 (by kernel_rfl) rfl rfl);clear ho hp;unfold Oper.wp;go_simp;exact⟨_,rfl,rfl,bR _ _⟩
   | 9,_,ho,hp=>
    obtain rfl:=oI ho;have p35:=zAe (show a.eval (.tmp 35)= .pointer (some ⟨bb,off+n*10,none⟩)from hp 8 _ 35 (by kernel_rfl) rfl rfl);clear ho hp;unfold Oper.wp;go_simp;exact⟨_,rfl,rfl,bR _ _⟩
   | 10,_,ho,hp=>
    obtain rfl:=oI ho;have p36:=zAe (show a.eval (.tmp 36)= .pointer (some ⟨bb,off+n*10+8,none⟩)from hp 9 _ 36 (by kernel_rfl) rfl rfl);have d:=(eC hE hbx).trans c8;clear ho hp;unfold Oper.wp;go_simp;exact⟨_,rfl,rfl,bR _ _⟩
   | 11,_,ho,hp=>
    obtain rfl:=oI ho;clear ho hp;unfold Oper.wp;go_simp;exact⟨_,rfl,rfl,bR _ _⟩
   | 12,_,ho,hp=>
    obtain rfl:=oI ho;clear ho hp;unfold Oper.wp;go_simp;exact⟨_,rfl,rfl,bR _ _⟩
   | 13,_,ho,hp=>
    obtain rfl:=oI ho;have p38:=zAe (show a.eval (.tmp 38)= .slice (some ⟨bb,off,none⟩) b.length cap from hp 11 _ 38 (by kernel_rfl) rfl rfl);have p39:=zAe (show a.eval (.tmp 39)= .int .i64 n from hp 12 _ 39 (by kernel_rfl) rfl rfl);clear ho hp;unfold Oper.wp;go_simp;exact⟨_,rfl,rfl,bR _ _⟩
   | 14,_,ho,hp=>
    obtain rfl:=oI ho;have p40:=zAe (show a.eval (.tmp 40)= .pointer (some ⟨bb,off+n*10,none⟩)from hp 13 _ 40 (by kernel_rfl) rfl rfl);clear ho hp;unfold Oper.wp;go_simp;exact⟨_,rfl,rfl,bR _ _⟩
   | 15,_,ho,hp=>
    obtain rfl:=oI ho;have p41:=zAe (show a.eval (.tmp 41)= .pointer (some ⟨bb,off+n*10+9,none⟩)from hp 14 _ 41 (by kernel_rfl) rfl rfl);have d:=(eC hE hbx).trans c9;clear ho hp;unfold Oper.wp;go_simp;exact⟨_,rfl,rfl,bR _ _⟩
   | 16,_,ho,hp=>
    obtain rfl:=oI ho;have p42:=zAe (show a.eval (.tmp 42)= .slice a4 x.red.length cap4 from hp 15 _ 42 (by kernel_rfl) rfl rfl);clear ho hp;unfold Oper.wp;go_simp;refine(zFI w.heap.size _ x.red _ (HVR.out.ext okS hE) (Nat.le_trans HW.out.size hE.size) HRL.out).mono ?_;rintro e w5 ⟨⟨a9,n9,c9,rfl,h9⟩,hb5⟩;obtain⟨a8,c8,e8⟩:=h9.form;cases e8;exact⟨_,rfl,⟨_,_,rfl,(zAg.le (B':=w.heap.size) h9 okS (fun _ _ _ h=>h) (Nat.le_trans HW.out.size hE.size)).in okS⟩,hb5⟩
   | 17,_,ho,hp=>
    obtain rfl:=oI ho;obtain⟨ar,cr,e32,f32⟩:∃ar cr,a.eval (.tmp 32)= .slice ar x.ats.length cr/\zAH w.heap.size wx (.slice ar x.ats.length cr) x.ats:=hp 5 _ 32 (by kernel_rfl) rfl rfl;have p32:=zAe e32;clear e32;have p37:=zAe (show a.eval (.tmp 37)= .bool x.opq from hp 10 _ 37 (by kernel_rfl) rfl rfl);obtain⟨ar,cr,e43,f43⟩:∃ar cr,a.eval (.tmp 43)= .slice ar x.red.length cr/\zBV w.heap.size wx (.slice ar x.red.length cr) x.red:=hp 16 _ 43 (by kernel_rfl) rfl rfl;have p43:=zAe e43;clear e43;clear ho hp;unfold Oper.wp;go_simp;exact⟨_,rfl,⟨_,_,_,_,rfl,f32,f43⟩,bR _ _⟩
   | 18,_,ho,hp=>
    obtain rfl:=oI ho;clear ho hp;unfold Oper.wp;go_simp;exact⟨_,rfl,⟨_,rfl,hE.size,bN _ _⟩,eA _ _⟩
   | i1+19,h,_,_=>exact absurd h (by omega)
  ·intro o vs wx ho hE hf;obtain rfl:=oI ho;generalize hA:zAC _ _ _=A1;obtain⟨g,p8,f8⟩:∃g,vs 8= .pointer (some ⟨g,0,none⟩)/\W.heap.size<=g/\wx.heap[g]? = some (.cells #[.slice none 0 0,.bool false,.slice none 0 0,.slice none 0 0] 26 (0,0)):=hf 18 _ 8 (by omega) rfl rfl;obtain⟨ar,cr,ar2,cr2,p44,f44⟩:∃ar cr ar2 cr2,vs 44= .agg #[.slice ar x.ats.length cr,.bool x.opq,.slice ar2 x.red.length cr2,.slice none 0 0]/\zAH w.heap.size wx (.slice ar x.ats.length cr) x.ats/\zBV w.heap.size wx (.slice ar2 x.red.length cr2) x.red:=hf 17 _ 44 (by omega) rfl rfl;clear hf ho;have hA2:=hA.symm.trans (congrArg (fun D=>zAC _ D vs) (show zCu _ 19= [27,28,29,30,31,32,33,34,35,36,37,38,39,40,41,42,43,44,8] by kernel_rfl));rw[hA2];clear hA2 hA;simp only[zAC,List.foldl,Act.put,List.setIfInBounds_toArray,List.set_cons_succ,List.set_cons_zero];rw[p8,p44];obtain⟨hg,hq⟩:=f8;obtain⟨s0,s1,s2,s3⟩:=b4C hq;have fz:∀j,wx.frozen? ⟨g,j,none⟩=false:=fun j=>bT hq j;have hzg:=bL hq;unfold Oper.wp;go_simp;refine hK2 _ _ ?_;go_meet;exact⟨g,_,_,rfl,hg,zBw hg [.slice ar x.ats.length cr,.bool x.opq,.slice ar2 x.red.length cr2,.slice none 0 0] wx 0 hE,(zCF [.slice ar x.ats.length cr,.bool x.opq,.slice ar2 x.red.length cr2,.slice none 0 0] wx 0 _ hq).trans rfl,f44.1.chg okA (zCX (Nat.le_trans HW.out.size hg) hq [.slice ar x.ats.length cr,.bool x.opq,.slice ar2 x.red.length cr2,.slice none 0 0]) (by decide) (by decide),f44.2.chg okS (zCX (Nat.le_trans HW.out.size hg) hq [.slice ar x.ats.length cr,.bool x.opq,.slice ar2 x.red.length cr2,.slice none 0 0]) (by decide) (by decide)⟩
 case rest=>
 obtain⟨g,va,vr,rfl,hg,hWx,hq,h1,h2⟩:=hcut;obtain⟨w5,hw5⟩:∃w5,w5=wc:=⟨_,rfl⟩;subst hw5;obtain⟨a5,cap5,rfl⟩:=h1.form;obtain⟨a6,cap6,rfl⟩:=h2.form;have HG:=hQq hq;have HAT:=hQq h1;have HRE:=hQq h2;have HGW:=hQq hg;have HC:=hQq (Ext.trans HB1.out hWx);have HRS:=hQq (bX hWx QR.out);have HKC:=hQq ((zAg.le (B':=w.heap.size) HKL.out okN (fun _ _ _ h=>h) (by simp)).ext okN hWx);have hmm:=@run_makeMap Tryz.prog;have hzg:=bL hq;clear hq h1 h2 hg hWx c3 c8 c9 r0 r1 r2 r3 hy HVA HVR HKL;go_wp2_with (go_at_call 143;refine(zQW _ _ _ _).mono ?_;rintro e w3 ⟨rfl,rfl⟩)
 refine nW (P:=fun W=>Code.wp _ _ _ _ W) _ ?_;intro W0 hW0;have HE0:Hid (Ext w5 W0):=hQq (by rw[hW0];exact((eA _ _).trans (eA _ _)).trans (eA _ _));have HS0:Hid (W0.heap.size=w5.heap.size+3):=hQq (by rw[hW0];simp);have HM0:Hid (zAA kI W0 w5.heap.size 0 (fun _=>none)):=hQq (by rw[hW0];exact((zBJ w5 kI).ext (eA _ _)).ext (eA _ _));have HM1:Hid (W0.heap[w5.heap.size+1]? = some (.cells #[.map (some w5.heap.size)] 146 (0,0))):=hQq (by rw[hW0];exact bA (zAu (by simp)));have HM2:Hid (W0.cell? ⟨w5.heap.size+1+1,0,none⟩=some (.slice (some ⟨bb,off,none⟩) b.length cap)):=hQq (by rw[hW0];exact bC (zAu (by simp)) 0);clear hW0 hmm;have hsz:=HS0.out;have hwc:=HC.out.size;have HCW:=hQq (HC.out.trans HE0.out);refine(wpIn_wide (n:=8)).1 ?_;refine zFn (w:=W0) (w0:=W0) rfl (by omega) (gf:=185) (lb:=#[.pointer (some ⟨w5.heap.size+1+1,0,none⟩)]) rfl trivial (enters_of Tryz.func185 (by kernel_rfl) rfl)
  (zMm 7 (by omega) B w W0 _ b (w5.heap.size+1+1) HV.out (Kc.of_ext HCW.out) HM2.out (by omega) hlen HOK.out) Kc.trans (fun W l o o' hl ho hc=>Kc.put ho hc) (bR _ _) (fun _=>rfl) zG1
  (fun pre W=>DrI w W0 w5.heap.size b pre.length W) (fun c _ W=>False)
  (fun s W W' h hx=>h.ab (by omega) HCW.out.size hx) (fun c s W W' h _=>h)
  ⟨⟨_,_,HM0.out,fun i hi=>absurd hi (by simp)⟩,Kc.refl _ _ _,HCW.out⟩
  (zXW (w5.heap.size+1) b) (zSR (w5.heap.size+1) b) ?assign ?body ?done ?stop
 case assign=>
  intro l pre x W K hi hok hK;unfold zJL;gi_wp2;exact hK _ _ (eA _ _) (Kc.of_ext (eA _ _)) ⟨W.heap.size,[_,_,_,_,_,_,_,_,_,undef,undef,undef,_,_,_,_,_,_,_,_,_,_,_,_,_,_,_,_,_,_,_,_,_,_,_,_,_,_,_,_,_,_,_,_,_,_,_,_,_,_,_,_,_,_,_,_,_,_,_,_,_,_,_,_,_,_,_,_,_,_,_,_,_,_,_,_,_,_,_,_,_,_,_,_,_,_,_,_,_,_,_,_,_,_,_,_,_,_,_,_,_,_,_,_,_,_],bN W _,rfl⟩ ⟨hok.1,hok.2.ext okS (eA _ _)⟩
 case body=>
  rintro l pre x a2 W hI hlt hok ⟨Bx,M,hBx,rfl⟩;obtain⟨xi,xa,xn,xc⟩:=x;obtain⟨hxi,hxs⟩:=hok;dsimp only at hxi hxs hBx ⊢;subst hxi;have HPI:Hid (∀y:PlI,(pre++ [y]).length=pre.length+1):=hQq (fun y=>by simp);generalize pre.length=k at hI hlt hBx HPI ⊢;have HI:=hQq hI;obtain⟨n0,f,hm,hf⟩:=hI.map;have HM:=hQq hm;have HF:=hQq hf;have p9:W.cell? ⟨w5.heap.size+1,0,none⟩=some (.map (some w5.heap.size)):=bC (hI.kc.keep _ _ _ _ (.inr (Nat.zero_le _)) HM1.out) 0;have p4:W.cell? ⟨Bx,0,none⟩=some (.int .i64 (abv (plT b) k)):=bC hBx 0;have z4:=bL hBx;have z9:=hI.kc.size;clear hI hBx hxs hm hf hlt;gi_wp2_with (gi_at_mapUpdate;refine zIt rfl (.tmp 50) (.tmp 51) (.tmp 53) 146 rfl 3 3 zA4 zAz rfl HM.out (k:Int) (.int .i64 (abv (plT b) k)) rfl rfl ?_;intro U hm3 hg3;have HM3:=hQq hm3;have HG3:=hQq hg3;clear hm3 hg3);obtain⟨q1,q2,q3⟩:=zVm HI.out HM.out HF.out HM3.out HG3.out (by omega) hwc;exact⟨q1,q2.any,by show DrI w W0 _ b (pre++ [_]).length _;rw[HPI.out];exact q3⟩
 case stop=>
  rintro D c pre W hD _ h;exact h.elim
 case done=>
  intro D xs W hD hS hI hdf;rw[hS]at hI;have h0:Hid (DsI w g (.slice a5 x.ats.length cap5) x.ats x.opq (.slice a6 x.red.length cap6) x.red (.slice none 0 0) [] W):=hQq (by
   have hq:∀(q:Nat) cs e f,w5.heap[q]? = some (Obj.cells cs e f)->W.heap[q]? = some (Obj.cells cs e f):=fun q cs e f hh=>hI.kc.keep _ _ _ _ (.inr (Nat.zero_le _)) (bX HE0.out hh);have hka:KcA w5 W:=(Kc.of_ext HE0.out).trans hI.kc;exact⟨hq _ _ _ _ HRS.out,hq _ _ _ _ HG.out,zAg.nil _ _ _,zDs HAT.out hka,zEU HRE.out hka,hI.ext⟩)
  have h1:Hid (DrC b (w5.heap.size+1) w5.heap.size D 0 (.slice ak (zAF b n).length ck) (zAF b n) w.heap.size W):=hQq (by
   obtain⟨n0,f,hm,hf⟩:=hI.map;exact⟨hI.kc.keep _ _ _ _ (.inr (Nat.zero_le _)) HM1.out,⟨n0,f,hm,hf⟩,(HKC.out.kc ((Kc.of_ext HE0.out).trans hI.kc:KcA w5 W) (Nat.zero_le _) (fun _ _ h=>h)),hdf⟩)
  have HGW2:Hid (w.heap.size<g):=hQq (by have:=HGW.out;have:=HB1.out.size;have:=bL QR.out;omega);have hlk:(zAF b n).length<=1000:=by have h:=zE5 (zHb (plT b) n) b.length;unfold zAF zBe;omega
  have HDL:=hQq hD;clear hS hI hdf hD;go_wp2;go_loopw [56] (fun i w'=>∃(wi:World) (k:Nat) (ve:Value),wi=w'/\k<=(zAF b n).length/\i= .int .i64 k/\DsI w g (.slice a5 x.ats.length cap5) x.ats x.opq (.slice a6 x.red.length cap6) x.red ve (((zAF b n).take k).map (zBj b n)) wi/\DrC b (w5.heap.size+1) w5.heap.size D 0 (.slice ak (zAF b n).length ck) (zAF b n) w.heap.size wi) (fun i _=>(zAF b n).length-(intOf i).toNat)
  case atStart=>exact⟨_,0,_,rfl,Nat.zero_le _,rfl,h0.out,h1.out⟩
  case round=>
   clear h0 h1;obtain⟨wi,k,ve,rfl,hk,rfl,hs,hc⟩:=hrel;obtain⟨es,hes⟩:∃es,es=((zAF b n).take k).map (zBj b n):=⟨_,rfl⟩;rw[<- hes]at hs;have HES:=hQq hes;have HST:=hQq hs;have HCC:=hQq hc;clear hes hc;obtain⟨a8,cap8,rfl⟩:=hs.own.form;clear hs;by_cases hlt:k<(zAF b n).length
   case neg=>
    obtain rfl:k=(zAF b n).length:=by omega
    obtain⟨o0,o1,o2,o3⟩:=b4C HST.out.out;obtain⟨r0,r1,r2,r3⟩:=b4C HST.out.res;have fz:∀j,wi.frozen? ⟨w.heap.size,j,none⟩=false:=fun j=>bT HST.out.res j;have hz1:=bL HST.out.out;have hz2:=bL HST.out.res;go_wp2;refine nW (P:=fun W=>bodyPostM _ _ _ _ _ _ _ W) _ ?_;intro W2 hW2;obtain⟨hq,hx,hcx⟩:=zV1 HST.out.res (Nat.le_refl _) HST.out.ext hW2;have hcx2:Chg w.heap.size 26 (some w.heap.size) wi W2:=⟨hcx.keep,hcx.size,fun q hq2=>by cases hq2;exact⟨Nat.le_refl _,_,_,HST.out.res⟩⟩;have hne:D≠w.heap.size:=fun e=>by have h:=HCC.out.dfr;rw[e,HST.out.res]at h;cases h
    have hD2:W2.heap[D]? = some (.deferred (some [])):=hcx.keep _ _ HCC.out.dfr (fun e=>by injection e with e;exact hne e.symm);have hkp:KcA W2 (W2.putObj D (.deferred none)):=Kc.put hD2 rfl;have h9:=(World.putObj_heap_other (o:=.deferred none) (w:=W2) hne.symm).trans hq;have HDD:zAo b n=⟨x.ats,x.opq,x.red,es⟩:=by unfold zAo;rw[HES.out,List.take_length,HX.out]
    refine⟨by simp,.inl ⟨_,_,rfl,run_takeDeferred hD2,?_⟩⟩;refine⟨.tuple #[.agg #[.slice a5 x.ats.length cap5,.bool x.opq,.slice a6 x.red.length cap6,.slice a8 es.length cap8],.int .i64 0],?_,⟨_,rfl,?_⟩,Below.trans hx (zAO hD2 (Nat.le_trans HCW.out.size HDL.out))⟩
    ·simp[results,Tryz.f132,go_sem,bC h9 0,bC h9 1,bC h9 2,bC h9 3]
    ·rw[HDD];exact⟨_,_,_,rfl,zDs (HST.out.ats.chg okA hcx2 (by decide) (by decide)) hkp,zEU (HST.out.red.chg okS hcx2 (by decide) (by decide)) hkp,((HST.out.own.in okE).chg okE hcx2 (by decide) (by decide)).kc hkp (fun _ _ ⟨va,h1,h2⟩=>⟨va,zDs h1 hkp,h2⟩)⟩
   obtain⟨gk,rfl,hg1,hg2,-⟩:=HCC.out.kids.addr (by omega);have y3:=(HCC.out.kids.in okN).num k hlt;obtain⟨i,hi⟩:∃i,i=(zAF b n)[k]'hlt:=⟨_,rfl⟩;rw[<- hi]at y3;have HIM:=hQq (zJv (hi ▸ List.getElem_mem hlt));have HTK:Hid (((zAF b n).take (k+1)).map (zBj b n)=es++ [zBj b n i]):=hQq (by rw[List.take_succ_eq_append_getElem hlt,List.map_append,<- HES.out,hi];rfl);have HEL:Hid (es.length<=k):=hQq (by rw[HES.out,List.length_map,List.length_take];omega);have k1:((k:Nat):Int)<((zAF b n).length:Int):=by omega
   have k0:(0:Int)<=(k:Int):=by omega
   have hil:=HIM.out.1;have i1:((i:Nat):Int)<(b.length:Int):=by omega
   have i0:(0:Int)<=(i:Int):=by omega
   clear hi;go_upto_region 15 with (first
    | (go_at_call 177;refine(zVt B _ _ b i (HV.out.ext okB HST.out.ext) hlen HIM.out.1).mono ?_;rintro e w6 ⟨⟨an,cn,rfl,ho⟩,hb6⟩;have HN6:=hQq ho;have HB6:=hQq hb6;clear ho hb6)
    | (go_at_call 178;refine(zXH b (w5.heap.size+1) _ _ _ (zAS b i) HN6.out (List.length_pos_of_mem (zHC HIM.out.1)) ((HCC.out.up HB6.out).abv) hlen (by have h:=zE5 (zDg (plT b) i) b.length;unfold zAS zCt;omega) (fun x hx=>zOg hx)).mono ?_;rintro e w7 ⟨⟨m,hm,rfl,hmin⟩,hb7⟩;have HMN:=hQq (zQm HIM.out.2 hm (zHC HIM.out.1) hmin);have HB7:=hQq (HB6.out.trans hb7);clear hm hmin hb7)
    | fail)
   refine nW (P:=fun W=>Code.wp _ _ _ _ W) _ ?_;intro W6 hW6;have HE6:Hid (Ext wi W6):=hQq (by rw[hW6];first|exact HB7.out|exact HB7.out.trans (eD _)|exact HB7.out.trans (eDn _ _));clear hW6 y3;obtain⟨bb2,off2,va,vr,hex,hbx0,hva,hvr,g0,g1,g2,g3,g4,g5,g6,g7,g8,g9⟩:=HV.out.br i hil;cases hex;have HE6w:=hQq (Ext.trans HST.out.ext HE6.out);have HVA:=hQq ((hva.mono okA hB).ext okA HE6w.out);have HVR:=hQq ((hvr.mono okS hB).ext okS HE6w.out);have c0:=(eC HE6w.out hbx0).trans g0;have c1:=(eC HE6w.out hbx0).trans g1;have c2:=(eC HE6w.out hbx0).trans g2;have c3:=(eC HE6w.out hbx0).trans g3;have c4:=(eC HE6w.out hbx0).trans g4;have c5:=(eC HE6w.out hbx0).trans g5;have c6:=(eC HE6w.out hbx0).trans g6;have c7:=(eC HE6w.out hbx0).trans g7;have c8:=(eC HE6w.out hbx0).trans g8;have c9:=(eC HE6w.out hbx0).trans g9;have hbx:bb<W6.heap.size:=Nat.lt_of_lt_of_le hbx0 HE6w.out.size;have HAL:=hQq (HSM.out.ats _ (List.getElem_mem hil));obtain⟨y,hyy⟩:∃y,y=zAm b i:=⟨_,rfl⟩;rw[<- zAN b i hil,<- hyy]at HVA HVR HAL c0 c1 c2 c4 c5 c6 c7 c8;obtain⟨a3,cap3,rfl⟩:=hva.form;obtain⟨a4,cap4,rfl⟩:=hvr.form;rw[<- zAN b i hil,<- hyy]at HVA HVR c3 c9;have HYB:=hQq hyy;have HWS6:=HE6w;clear hva hvr hyy g0 g1 g2 g3 g4 g5 g6 g7 g8 g9;go_cut [16]from 66 to 87 (fun p wx=>∃g2 ar cr,p= .pointer (some ⟨g2,0,none⟩)/\W6.heap.size<=g2/\Ext W6 wx/\wx.heap[g2]? = some (.cells #[.string y.nm,.int .i64 y.dep,.string y.nm,.int .i64 y.kd,.slice ar y.ats.length cr,.string y.dat,.int .i64 y.ma,.int .i64 y.mi,.int .i64 y.cl,.bool (y.kd==5),.bool ((m:Int)==(i:Int)),.int .i64 ((zAS b i).length:Nat)] 66 (0,0))/\zAH w.heap.size wx (.slice ar y.ats.length cr) y.ats)
   case first=>
    rename_i K1 hK1 J1 K2 hJ1 hK2
    refine zCU (zVn bb off i m cap b.length (zAS b i).length cn w.heap.size W6.heap.size an (.slice a3 y.ats.length cap3) (.slice a4 y.red.length cap4) y) 23 rfl (by kernel_rfl) (by kernel_rfl) zOv ?_ ?_
    ·intro i1 o a wx hi ho hE hk hp;have n0:=zAe (show a.eval (.tmp 0)= .slice (some ⟨bb,off,none⟩) b.length cap from hk 0 (of_decide_eq_true (by kernel_rfl)));have n13:=zAe (show a.eval (.tmp 13)= .int .i64 i from hk 13 (of_decide_eq_true (by kernel_rfl)));have n14:=zAe (show a.eval (.tmp 14)= .slice an (zAS b i).length cn from hk 14 (of_decide_eq_true (by kernel_rfl)));have n15:=zAe (show a.eval (.tmp 15)= .int .i64 m from hk 15 (of_decide_eq_true (by kernel_rfl)));clear hk
     match i1,hi,ho,hp with
     | 0,_,ho,hp=>
      obtain rfl:=oI ho;clear ho hp;unfold Oper.wp;go_simp;exact⟨_,rfl,rfl,bR _ _⟩
     | 1,_,ho,hp=>
      obtain rfl:=oI ho;clear ho hp;unfold Oper.wp;go_simp;exact⟨_,rfl,rfl,bR _ _⟩
     | 2,_,ho,hp=>
      obtain rfl:=oI ho;have p66:=zAe (show a.eval (.tmp 66)= .slice (some ⟨bb,off,none⟩) b.length cap from hp 0 _ 66 (by kernel_rfl) rfl rfl);have p67:=zAe (show a.eval (.tmp 67)= .int .i64 i from hp 1 _ 67 (by kernel_rfl) rfl rfl);clear ho hp;unfold Oper.wp;go_simp;exact⟨_,rfl,rfl,bR _ _⟩
     | 3,_,ho,hp=>
      obtain rfl:=oI ho;have p68:=zAe (show a.eval (.tmp 68)= .pointer (some ⟨bb,off+i*10,none⟩)from hp 2 _ 68 (by kernel_rfl) rfl rfl);clear ho hp;unfold Oper.wp;go_simp;exact⟨_,rfl,rfl,bR _ _⟩
     | 4,_,ho,hp=>
      obtain rfl:=oI ho;have p69:=zAe (show a.eval (.tmp 69)= .pointer (some ⟨bb,off+i*10+1,none⟩)from hp 3 _ 69 (by kernel_rfl) rfl rfl);have d1:=(eC hE hbx).trans c1;clear ho hp;unfold Oper.wp;go_simp;exact⟨_,rfl,rfl,bR _ _⟩
     | 5,_,ho,hp=>
      obtain rfl:=oI ho;clear ho hp;unfold Oper.wp;go_simp;exact⟨_,rfl,rfl,bR _ _⟩
     | 6,_,ho,hp=>
      obtain rfl:=oI ho;clear ho hp;unfold Oper.wp;go_simp;exact⟨_,rfl,rfl,bR _ _⟩
     | 7,_,ho,hp=>
      obtain rfl:=oI ho;have p71:=zAe (show a.eval (.tmp 71)= .slice (some ⟨bb,off,none⟩) b.length cap from hp 5 _ 71 (by kernel_rfl) rfl rfl);have p72:=zAe (show a.eval (.tmp 72)= .int .i64 i from hp 6 _ 72 (by kernel_rfl) rfl rfl);clear ho hp;unfold Oper.wp;go_simp;exact⟨_,rfl,rfl,bR _ _⟩
     | 8,_,ho,hp=>
      obtain rfl:=oI ho;have p73:=zAe (show a.eval (.tmp 73)= .pointer (some ⟨bb,off+i*10,none⟩)from hp 7 _ 73 (by kernel_rfl) rfl rfl);have d0:=(eC hE hbx).trans c0;have d1:=(eC hE hbx).trans c1;have d2:=(eC hE hbx).trans c2;have d3:=(eC hE hbx).trans c3;have d4:=(eC hE hbx).trans c4;have d5:=(eC hE hbx).trans c5;have d6:=(eC hE hbx).trans c6;have d7:=(eC hE hbx).trans c7;have d8:=(eC hE hbx).trans c8;have d9:=(eC hE hbx).trans c9;clear ho hp;unfold Oper.wp;go_simp;exact⟨_,rfl,rfl,bR _ _⟩
     | 9,_,ho,hp=>
      obtain rfl:=oI ho;have p74:=zAe (show a.eval (.tmp 74)= .agg #[.int .i64 y.dep,.string y.nm,.int .i64 y.kd,.slice a3 y.ats.length cap3,.string y.dat,.int .i64 y.ma,.int .i64 y.mi,.int .i64 y.cl,.bool y.opq,.slice a4 y.red.length cap4]from hp 8 _ 74 (by kernel_rfl) rfl rfl);clear ho hp;unfold Oper.wp;go_simp;refine(zQX _ y (.slice a3 y.ats.length cap3) (.slice a4 y.red.length cap4) ((HVA.out.ext okA hE).attrs) HAL.out ⟨_,_,_,rfl⟩).mono ?_;rintro e w5 ⟨⟨va9,rfl,h9⟩,hb5⟩;obtain⟨a9,c9,rfl⟩:=h9.form;exact⟨_,rfl,⟨a9,c9,rfl,h9.mono okA (Nat.zero_le _)⟩,hb5⟩
     | 10,_,ho,hp=>
      obtain rfl:=oI ho;clear ho hp;unfold Oper.wp;go_simp;exact⟨_,rfl,rfl,bR _ _⟩
     | 11,_,ho,hp=>
      obtain rfl:=oI ho;clear ho hp;unfold Oper.wp;go_simp;exact⟨_,rfl,rfl,bR _ _⟩
     | 12,_,ho,hp=>
      obtain rfl:=oI ho;have p76:=zAe (show a.eval (.tmp 76)= .slice (some ⟨bb,off,none⟩) b.length cap from hp 10 _ 76 (by kernel_rfl) rfl rfl);have p77:=zAe (show a.eval (.tmp 77)= .int .i64 i from hp 11 _ 77 (by kernel_rfl) rfl rfl);clear ho hp;unfold Oper.wp;go_simp;exact⟨_,rfl,rfl,bR _ _⟩
     | 13,_,ho,hp=>
      obtain rfl:=oI ho;have p78:=zAe (show a.eval (.tmp 78)= .pointer (some ⟨bb,off+i*10,none⟩)from hp 12 _ 78 (by kernel_rfl) rfl rfl);clear ho hp;unfold Oper.wp;go_simp;exact⟨_,rfl,rfl,bR _ _⟩
     | 14,_,ho,hp=>
      obtain rfl:=oI ho;have p79:=zAe (show a.eval (.tmp 79)= .pointer (some ⟨bb,off+i*10+2,none⟩)from hp 13 _ 79 (by kernel_rfl) rfl rfl);have d2:=(eC hE hbx).trans c2;clear ho hp;unfold Oper.wp;go_simp;exact⟨_,rfl,rfl,bR _ _⟩
     | 15,_,ho,hp=>
      obtain rfl:=oI ho;have p80:=zAe (show a.eval (.tmp 80)= .int .i64 y.kd from hp 14 _ 80 (by kernel_rfl) rfl rfl);clear ho hp;unfold Oper.wp;go_simp;exact⟨_,rfl,rfl,bR _ _⟩
     | 16,_,ho,hp=>
      obtain rfl:=oI ho;clear ho hp;unfold Oper.wp;go_simp;exact⟨_,rfl,rfl,bR _ _⟩
     | 17,_,ho,hp=>
      obtain rfl:=oI ho;clear ho hp;unfold Oper.wp;go_simp;exact⟨_,rfl,rfl,bR _ _⟩
     | 18,_,ho,hp=>
      obtain rfl:=oI ho;have p82:=zAe (show a.eval (.tmp 82)= .int .i64 m from hp 16 _ 82 (by kernel_rfl) rfl rfl);have p83:=zAe (show a.eval (.tmp 83)= .int .i64 i from hp 17 _ 83 (by kernel_rfl) rfl rfl);clear ho hp;unfold Oper.wp;go_simp;exact⟨_,rfl,rfl,bR _ _⟩
     | 19,_,ho,hp=>
      obtain rfl:=oI ho;clear ho hp;unfold Oper.wp;go_simp;exact⟨_,rfl,rfl,bR _ _⟩
     | 20,_,ho,hp=>
      obtain rfl:=oI ho;have p85:=zAe (show a.eval (.tmp 85)= .slice an (zAS b i).length cn from hp 19 _ 85 (by kernel_rfl) rfl rfl);clear ho hp;unfold Oper.wp;go_simp;exact⟨_,rfl,rfl,bR _ _⟩
     | 21,_,ho,hp=>
      obtain rfl:=oI ho;have p70:=zAe (show a.eval (.tmp 70)= .string y.nm from hp 4 _ 70 (by kernel_rfl) rfl rfl);obtain⟨ar,cr,e75,f75⟩:∃ar cr,a.eval (.tmp 75)= .agg #[.int .i64 y.dep,.string y.nm,.int .i64 y.kd,.slice ar y.ats.length cr,.string y.dat,.int .i64 y.ma,.int .i64 y.mi,.int .i64 y.cl]/\zAH w.heap.size wx (.slice ar y.ats.length cr) y.ats:=hp 9 _ 75 (by kernel_rfl) rfl rfl;have p75:=zAe e75;clear e75;have p81:=zAe (show a.eval (.tmp 81)= .bool (y.kd==5)from hp 15 _ 81 (by kernel_rfl) rfl rfl);have p84:=zAe (show a.eval (.tmp 84)= .bool ((m:Int)==(i:Int))from hp 18 _ 84 (by kernel_rfl) rfl rfl);have p86:=zAe (show a.eval (.tmp 86)= .int .i64 ((zAS b i).length:Nat)from hp 20 _ 86 (by kernel_rfl) rfl rfl);clear ho hp;unfold Oper.wp;go_simp;exact⟨_,rfl,⟨_,_,rfl,f75⟩,bR _ _⟩
     | 22,_,ho,hp=>
      obtain rfl:=oI ho;clear ho hp;unfold Oper.wp;go_simp;exact⟨_,rfl,⟨_,rfl,hE.size,bN _ _⟩,eA _ _⟩
     | i1+23,h,_,_=>exact absurd h (by omega)
    ·intro o vs wx ho hE hf;obtain rfl:=oI ho;generalize hA:zAC _ _ _=A1;obtain⟨g2,p16,f16⟩:∃g2,vs 16= .pointer (some ⟨g2,0,none⟩)/\W6.heap.size<=g2/\wx.heap[g2]? = some (.cells #[.string ⟨#[]⟩,.int .i64 0,.string ⟨#[]⟩,.int .i64 0,.slice none 0 0,.string ⟨#[]⟩,.int .i64 0,.int .i64 0,.int .i64 0,.bool false,.bool false,.int .i64 0] 66 (0,0)):=hf 22 _ 16 (by omega) rfl rfl;obtain⟨ar,cr,p87,f87⟩:∃ar cr,vs 87= .agg #[.string y.nm,.int .i64 y.dep,.string y.nm,.int .i64 y.kd,.slice ar y.ats.length cr,.string y.dat,.int .i64 y.ma,.int .i64 y.mi,.int .i64 y.cl,.bool (y.kd==5),.bool ((m:Int)==(i:Int)),.int .i64 ((zAS b i).length:Nat)]/\zAH w.heap.size wx (.slice ar y.ats.length cr) y.ats:=hf 21 _ 87 (by omega) rfl rfl;clear hf ho;have hA2:=hA.symm.trans (congrArg (fun D=>zAC _ D vs) (show zCu _ 23= [66,67,68,69,70,71,72,73,74,75,76,77,78,79,80,81,82,83,84,85,86,87,16] by kernel_rfl));rw[hA2];clear hA2 hA;simp only[zAC,List.foldl,Act.put,List.setIfInBounds_toArray,List.set_cons_succ,List.set_cons_zero];rw[p16,p87];obtain⟨hg,hq⟩:=f16;obtain⟨s0,s1,s2,s3,s4,s5,s6,s7,s8,s9,s10,s11⟩:=zDC hq;have fz:∀j,wx.frozen? ⟨g2,j,none⟩=false:=fun j=>bT hq j;have hzg:=bL hq;unfold Oper.wp;go_simp;refine hK2 _ _ ?_;go_meet;obtain⟨p1,p2,p3⟩:=zV9 (B:=w.heap.size) hq hg (Nat.le_trans HWS6.out.size hg) hE (rfl:zFp wx g2 0 [.string y.nm,.int .i64 y.dep,.string y.nm,.int .i64 y.kd,.slice ar y.ats.length cr,.string y.dat,.int .i64 y.ma,.int .i64 y.mi,.int .i64 y.cl,.bool (y.kd==5),.bool ((m:Int)==(i:Int)),.int .i64 ((zAS b i).length:Nat)]=_);exact⟨g2,ar,cr,rfl,hg,p2,p1,f87.chg okA p3 (by decide) (by decide)⟩
   case rest=>
   obtain⟨g2,ar,cr,rfl,hg2x,hWx,hq,h1⟩:=hcut;obtain⟨w7,hw7⟩:∃w7,w7=wc:=⟨_,rfl⟩;subst hw7;have HQ7:=hQq hq;have HA7:=hQq h1;have HE7:=hQq hWx;have HG2:=hQq hg2x;obtain⟨q0,q1,q2,q3,q4,q5,q6,q7,q8,q9,q10,q11⟩:=zDC hq;have fq:∀j,w7.frozen? ⟨g2,j,none⟩=false:=fun j=>bT hq j;have hzq:=bL hq;obtain⟨z,hzz⟩:∃z,z=zBj b n i:=⟨_,rfl⟩;have HZ:=hQq hzz;clear hq h1 hWx hg2x hzz c0 c1 c2 c3 c4 c5 c6 c7 c8 c9;by_cases hkd:y.kd=1
   case pos=>
    have qk:(y.kd==1)=true:=beq_iff_eq.2 hkd;have hz:z=⟨y.nm,zCb,y.kd==5,((m:Int)==(i:Int)),((zAS b i).length:Nat)⟩:=by
     rw[HZ.out,HMN.out];unfold zBj zEo;rw[<- HYB.out];rw[if_pos hkd]
    go_upto_region 19 with fail
    refine nW (P:=fun W=>Code.wp _ _ _ _ W) _ ?_;intro W8 hW8;have hle:w.heap.size<=g2:=Nat.le_trans HWS6.out.size HG2.out;have hli:wi.heap.size<=g2:=Nat.le_trans HE6.out.size HG2.out;have HE8:Hid (Ext wi W8):=hQq (by rw[hW8];exact(Below.setCell (p:=⟨g2,8,none⟩) (Below.setCell (p:=⟨g2,7,none⟩) (Below.setCell (p:=⟨g2,6,none⟩) (Below.setCell (p:=⟨g2,5,none⟩) (Below.setCell (p:=⟨g2,4,none⟩) (Below.setCell (p:=⟨g2,3,none⟩) (Below.setCell (p:=⟨g2,2,none⟩) (Below.setCell (p:=⟨g2,1,none⟩) (Below.setCell (p:=⟨g2,2,none⟩) (Below.setCell (p:=⟨g2,1,none⟩) (HE6.out.trans HE7.out) hli _) hli _) hli _) hli _) hli _) hli _) hli _) hli _) hli _) hli _));have HQ8:Hid (W8.heap[g2]? = some (.cells #[.string z.nm,.int .i64 z.nd.dep,.string z.nd.nm,.int .i64 z.nd.kd,.slice none z.nd.ats.length 0,.string z.nd.dat,.int .i64 z.nd.ma,.int .i64 z.nd.mi,.int .i64 z.nd.cl,.bool z.wh,.bool z.fi,.int .i64 z.ns] 66 (0,0))):=hQq (by rw[hW8,(bS (bS (bS (bS (bS (bS (bS (bS (bS (bS HQ7.out _) _) _) _) _) _) _) _) _) _),hz];simp only[List.setIfInBounds_toArray,List.set_cons_zero,List.set_cons_succ];try rfl);have HZA:Hid (zAH w.heap.size W8 (.slice none z.nd.ats.length 0) z.nd.ats):=hQq (by rw[hz];exact zAh.nil _ _ _ _);have HS8:=hQq (HST.out.up HE8.out);have HC8:=hQq (HCC.out.up HE8.out);clear hW8 hz q0 q1 q2 q3 q4 q5 q6 q7 q8 q9 q10 q11 fq hzq;obtain⟨q0,q1,q2,q3,q4,q5,q6,q7,q8,q9,q10,q11⟩:=zDC HQ8.out;have o3:=bC HS8.out.out 3;have hzq:=bL HQ8.out;have hzo:=bL HS8.out.out;go_wp2_with (at_builtin;refine zIX okE rfl (.tmp 99) (.tmp 101) rfl (.slice a8 es.length cap8) _ es [z] w _ (by rfl) (by rfl) (by exact HS8.out.own.ext okE (eA _ _)) (by exact zAj okE _ z [.string z.nm,.int .i64 z.nd.dep,.string z.nd.nm,.int .i64 z.nd.kd,.slice none z.nd.ats.length 0,.string z.nd.dat,.int .i64 z.nd.ma,.int .i64 z.nd.mi,.int .i64 z.nd.cl,.bool z.wh,.bool z.fi,.int .i64 z.ns] _ (by first|rfl|simp) ⟨_,HZA.out,rfl⟩) (by exact HS8.out.ext.trans (eA _ _)) (by exact(HS8.out.ext.trans (eA _ _)).size) (by have:=HEL.out;simp only[List.length_singleton];omega) ?_;intro v9 w9 hap;obtain⟨a10,cap10,rfl⟩:=hap.own.form;have hln:(es++ [z]).length=es.length+1:=by {simp};rw[hln]at hap;clear hln;have hou:=DsI.app (HS8.out.up (eA _ _)) hap;have p3:=bC hou 3;have fp:∀j,w9.frozen? ⟨g,j,none⟩=false:=fun j=>bT hou j;have hz9:=bL hou;have HAP:=hQq hap;clear hap hou)
    obtain⟨u1,u2,u3⟩:=(HS8.out.up (eA _ _)).step HAP.out HGW2.out;have HU1:=hQq u1;have HU2:=hQq ((HC8.out.up (eA _ _)).step (HS8.out.up (eA _ _)).own (HS8.out.up (eA _ _)).out u3);clear u1 u2 u3;go_roundw
    case rel=>exact⟨_,k+1,_,rfl,by omega,by go_num,by rw[HTK.out,<- HZ.out];exact HU1.out,HU2.out⟩
    case measure=>simp[intOf]<;>omega
   have qk:(y.kd==1)=false:=nB hkd;have hz:z=⟨y.nm,{y.toTrN with dep:=0,nm:=⟨#[]⟩},y.kd==5,((m:Int)==(i:Int)),((zAS b i).length:Nat)⟩:=by
    rw[HZ.out,HMN.out];unfold zBj zEo;rw[<- HYB.out];rw[if_neg hkd]
   go_upto_region 19 with fail
   refine nW (P:=fun W=>Code.wp _ _ _ _ W) _ ?_;intro W8 hW8;have hle:w.heap.size<=g2:=Nat.le_trans HWS6.out.size HG2.out;have hli:wi.heap.size<=g2:=Nat.le_trans HE6.out.size HG2.out;have HE8:Hid (Ext wi W8):=hQq (by rw[hW8];exact(Below.setCell (p:=⟨g2,2,none⟩) (Below.setCell (p:=⟨g2,1,none⟩) (HE6.out.trans HE7.out) hli _) hli _));have HQ8:Hid (W8.heap[g2]? = some (.cells #[.string z.nm,.int .i64 z.nd.dep,.string z.nd.nm,.int .i64 z.nd.kd,.slice ar z.nd.ats.length cr,.string z.nd.dat,.int .i64 z.nd.ma,.int .i64 z.nd.mi,.int .i64 z.nd.cl,.bool z.wh,.bool z.fi,.int .i64 z.ns] 66 (0,0))):=hQq (by rw[hW8,(bS (bS HQ7.out _) _),hz];simp only[List.setIfInBounds_toArray,List.set_cons_zero,List.set_cons_succ];try rfl);have HZA:Hid (zAH w.heap.size W8 (.slice ar z.nd.ats.length cr) z.nd.ats):=hQq (by rw[hW8,hz];exact(HA7.out.chg okA (zNs HQ7.out hle) (by decide) (by decide)).chg okA (zNs (bS HQ7.out _) hle) (by decide) (by decide));have HS8:=hQq (HST.out.up HE8.out);have HC8:=hQq (HCC.out.up HE8.out);clear hW8 hz q0 q1 q2 q3 q4 q5 q6 q7 q8 q9 q10 q11 fq hzq;obtain⟨q0,q1,q2,q3,q4,q5,q6,q7,q8,q9,q10,q11⟩:=zDC HQ8.out;have o3:=bC HS8.out.out 3;have hzq:=bL HQ8.out;have hzo:=bL HS8.out.out;go_wp2_with (at_builtin;refine zIX okE rfl (.tmp 99) (.tmp 101) rfl (.slice a8 es.length cap8) _ es [z] w _ (by rfl) (by rfl) (by exact HS8.out.own.ext okE (eA _ _)) (by exact zAj okE _ z [.string z.nm,.int .i64 z.nd.dep,.string z.nd.nm,.int .i64 z.nd.kd,.slice ar z.nd.ats.length cr,.string z.nd.dat,.int .i64 z.nd.ma,.int .i64 z.nd.mi,.int .i64 z.nd.cl,.bool z.wh,.bool z.fi,.int .i64 z.ns] _ (by first|rfl|simp) ⟨_,HZA.out,rfl⟩) (by exact HS8.out.ext.trans (eA _ _)) (by exact(HS8.out.ext.trans (eA _ _)).size) (by have:=HEL.out;simp only[List.length_singleton];omega) ?_;intro v9 w9 hap;obtain⟨a10,cap10,rfl⟩:=hap.own.form;have hln:(es++ [z]).length=es.length+1:=by {simp};rw[hln]at hap;clear hln;have hou:=DsI.app (HS8.out.up (eA _ _)) hap;have p3:=bC hou 3;have fp:∀j,w9.frozen? ⟨g,j,none⟩=false:=fun j=>bT hou j;have hz9:=bL hou;have HAP:=hQq hap;clear hap hou)
   obtain⟨u1,u2,u3⟩:=(HS8.out.up (eA _ _)).step HAP.out HGW2.out;have HU1:=hQq u1;have HU2:=hQq ((HC8.out.up (eA _ _)).step (HS8.out.up (eA _ _)).own (HS8.out.up (eA _ _)).out u3);clear u1 u2 u3;go_roundw
   case rel=>exact⟨_,k+1,_,rfl,by omega,by go_num,by rw[HTK.out,<- HZ.out];exact HU1.out,HU2.out⟩
   case measure=>simp[intOf]<;>omega
attribute [local go_sem] Oper.semAt_some
theorem zUb (w:World)(a:Option Addr)(n cap:Nat):
  Calls Tryz.prog 66 #[.slice a n cap] w (fun e w'=>e= .returned (.func (.func 131) #[] #[.pointer (some ⟨w.heap.size,0,none⟩)])/\w'=w.alloc (.cells #[.slice a n cap] 35 (0,0))):=by
 have hmf:∀(fn:Fn) (first cap:Array Value) (w:World),(Instr.makeFunc fn first cap).run Tryz.prog w= .ok (.func fn first cap) w:=fun _ _ _ _=>rfl;go_enter Tryz.func66,Tryz.ntmps66;go_wp2;go_ret;exact⟨rfl,rfl⟩
theorem zIY (n:Nat)(hn:2<=n)(B:Nat)(w0 w:World)(v:Value)(b:List BrN)(bx:Nat)(hb:zEi B w0 v b)(hB:B<=w0.heap.size)(h0:KcA w0 w)(hbx:w.heap[bx]? = some (.cells #[v] 35 (0,0)))(_hbw:w0.heap.size<=bx)(hsm:zBN b)(hr:zB9 b=0):
  zX7 Fence.wide n Tryz.prog 131 #[.pointer (some ⟨bx,0,none⟩)] zSN XeM (Kc w0.heap.size bx) (zYc b) (fun xs=>xs.length=(zCQ b).length) (fun _=>True) (zCQ b).length w:=by
 intro l J Jx W hW hJ hJx hY hJ0;obtain⟨aa,cap,rfl⟩:=hb.form;have HV:=hQq hb;clear hb;have HSM:=hQq hsm;have HR0:=hQq hr;clear hr;have hlen:=hsm.len;have HY:=hQq hY;clear hY;have HJ:=hQq hJ;have HJX:=hQq hJx;clear hJ hJx;have hbl:=bL hbx;have HB0:=hQq ((hW.block _ hbl).trans hbx);have cb:W.cell? ⟨bx,0,none⟩=some (.slice aa b.length cap):=bC HB0.out 0;have HK0:Hid (KcA w0 W):=hQq (h0.trans (Kc.of_ext hW));have h1:1<=n:=by omega
 have hWs:=hW.size;clear hsm;refine callsIn_of_wp Tryz.func131 rfl trivial ?_ rfl;refine wpIn_wide.2 ?_;simp only[Tryz.ntmps131,List.size_toArray,List.length_cons,List.length_nil,Nat.reduceAdd,Nat.reduceSub,Array.replicate_succ,Array.replicate_zero,List.push_toArray,List.append_toArray,List.nil_append,List.cons_append];go_wp2;go_loopw [3,4,5,6,9] (fun _ _ _ _ i w'=>∃(wi:World) (k:Nat) (pre:List (Nat × Value)),wi=w'/\k<=b.length/\i= .int .i64 k/\pre.length=(zEL b k).length/\J pre wi/\KcA w0 wi/\W.heap.size<=wi.heap.size/\wi.heap[bx]? = some (.cells #[.slice aa b.length cap] 35 (0,0))) (fun _ _ _ _ i _=>b.length-(intOf i).toNat)
 case atStart=>exact⟨_,0,[],rfl,Nat.zero_le _,rfl,rfl,hJ0,HK0.out,Nat.le_refl _,HB0.out⟩
 case round=>
  clear hJ0 cb;obtain⟨wi,k,pre,rfl,hk,rfl,hpl,hj,hkc,hsz,hbi⟩:=hrel;have HJW:=hQq hj;have HKC:=hQq hkc;have HSZ:=hQq hsz;have HPL:=hQq hpl;have HBI:=hQq hbi;clear hj hkc hsz hpl hbi;by_cases hlt:k<b.length
  case neg=>
   obtain rfl:k=b.length:=by omega
   go_wp2;go_end0;exact⟨⟨_,rfl⟩,.inl ⟨pre,HPL.out,HJW.out⟩⟩
  have HVI:=hQq (zEO HV.out HKC.out);obtain⟨bb,off,va,vr,hex,hbb,hva,hvr,c0,c1,c2,c3,c4,c5,c6,c7,c8,c9⟩:=HVI.out.br k hlt;cases hex;rw[<- zAN b k hlt]at hva hvr c0 c1 c2 c4 c5 c6 c7 c8;obtain⟨a4,cap4,rfl⟩:=hvr.form;obtain⟨a3,cap3,rfl⟩:=hva.form;have HLT:=hQq hlt;generalize hx:zAm b k=x at c0 c1 c2 c3 c4 c5 c6 c7 c8 c9;have HX:=hQq hx;have j1:((k:Nat):Int)<(b.length:Int):=by omega
  have j0:(0:Int)<=(k:Int):=by omega
  have pbx:wi.cell? ⟨bx,0,none⟩=some (.slice (some ⟨bb,off,none⟩) b.length cap):=bC HBI.out 0;have zbx:=bL HBI.out;clear hva hvr hx;by_cases hkd:x.kd=1
  case neg=>
   have q1:(x.kd != 1)=true:=bne_iff_ne.2 hkd;have HD:Hid (zEL b (k+1)=zEL b k):=hQq (zQD (by rw[HX.out];exact hkd));clear hkd;go_wp2;go_roundw
   case rel=>exact⟨_,k+1,pre,rfl,by omega,by go_num,by rw[HD.out];exact HPL.out,HJ.out _ _ _ HJW.out ((eA _ _).mono HSZ.out) (zI2 _ _ (eA _ _)),HKC.out.trans (Kc.of_ext (eA _ _)),Nat.le_trans HSZ.out (eA _ _).size,bA HBI.out⟩
   case measure=>simp[intOf]<;>omega
  have q1:(x.kd != 1)=false:=bne_eq_false_iff_eq.2 hkd;have HD:Hid (zEL b (k+1)=zEL b k++ [k]):=hQq (zJM (by rw[HX.out];exact hkd));have HKD:Hid ((zAm b k).kd=1):=hQq (by rw[HX.out];exact hkd);clear hkd;go_upto_region 5 with (first
   | (go_at_call 132;refine(zX1 B _ _ b k (HVI.out.ext okB (eA _ _)) (Nat.le_trans hB (Nat.le_trans HKC.out.size (eA _ _).size)) HSM.out HR0.out HLT.out HKD.out).mono ?_;rintro e w2 ⟨⟨vd,rfl,hd⟩,hb2⟩;have HE2:Hid (Ext wi w2):=hQq ((eA _ _).trans hb2);have HDI:=hQq hd;obtain⟨va,vr,ve,rfl,h1',h2',h3'⟩:=hd;obtain⟨a5,cap5,rfl⟩:=h1'.form;obtain⟨a6,cap6,rfl⟩:=h2'.form;obtain⟨a7,cap7,rfl⟩:=h3'.form;clear h1' h2' h3' hb2)
   | fail)
  refine nW (P:=fun W=>Code.wp _ _ _ _ W) _ ?_;intro W4 hW4;replace hW4:W4=w2.alloc (.cells #[.slice a5 (zAo b k).ats.length cap5,.bool (zAo b k).opq,.slice a6 (zAo b k).red.length cap6,.slice a7 (zAo b k).ens.length cap7] 26 (0,0)):=hW4;have p1:W4.heap[w2.heap.size]? = some (.cells #[.slice a5 (zAo b k).ats.length cap5,.bool (zAo b k).opq,.slice a6 (zAo b k).red.length cap6,.slice a7 (zAo b k).ens.length cap7] 26 (0,0)):=by rw[hW4];exact bN _ _
  have p2:Ext w2 W4:=by rw[hW4];exact eA _ _
  have HQ4:=hQq p1;have HE4:Hid (Ext wi W4):=hQq (HE2.out.trans p2);have HD4:Hid (zBA W4.heap.size W4 (.agg #[.slice a5 (zAo b k).ats.length cap5,.bool (zAo b k).opq,.slice a6 (zAo b k).red.length cap6,.slice a7 (zAo b k).ens.length cap7]) (zAo b k)):=hQq ((HDI.out.ext p2).mono (by have h1:=HE4.out.size;have h2:=p2.size;have h3:=bL p1;have h4:=HE2.out.size;simp;omega));have HJ4:Hid (J pre W4):=hQq (HJ.out _ _ _ HJW.out (HE4.out.mono HSZ.out) (zI2 _ _ HE4.out));obtain⟨y0,y1,y2,y3⟩:=b4C p1;have zy:=bL p1;have HDA:=hQq (zHW HLT.out HKD.out);clear hW4 p1 p2 c0 c1 c2 c3 c4 c5 c6 c7 c8 c9 pbx;refine zXF (n:=n) ?_;obtain⟨fn,tmps,assign,body,hy,hR⟩:=HY.out pre (k,.agg #[.slice a5 (zAo b k).ats.length cap5,.bool (zAo b k).opq,.slice a6 (zAo b k).red.length cap6,.slice a7 (zAo b k).ens.length cap7]) W4 HJ4.out (by rw[HPL.out];exact HDA.out.2) ⟨by rw[HPL.out];exact HDA.out.1.symm,HD4.out⟩;have HR:=hQq hR;clear hR;unfold zSN at hy;dsimp only at hy;gi_wp2;refine HR.out.mono ?_;rintro e W5 (⟨rfl,hJ5,hk5⟩|⟨rfl,hJx5⟩)
  ·have HJ5:=hQq hJ5;have HK5:=hQq hk5;clear hJ5 hk5;gi_wp2;go_wp2;go_roundw
   case rel=>exact⟨_,k+1,pre++ [(k,_)],rfl,by omega,by go_num,by rw[HD.out,List.length_append,List.length_append,HPL.out];rfl,HJ5.out,Kc.all (HKC.out.trans (Kc.of_ext HE4.out)) HK5.out (Nat.le_refl _),Nat.le_trans HSZ.out (Nat.le_trans HE4.out.size HK5.out.size),HK5.out.keep _ _ _ _ (.inr (Nat.le_refl _)) (bX HE4.out HBI.out)⟩
   case measure=>simp[intOf]<;>omega
  ·gi_wp2;go_wp2;refine bodyPost_ret (results_none rfl _ _ _) rfl ?_;exact⟨⟨_,rfl⟩,.inr ⟨_,trivial,hJx5⟩⟩
end Go.Proofs.YtbeeoomadnmogaaGreat
