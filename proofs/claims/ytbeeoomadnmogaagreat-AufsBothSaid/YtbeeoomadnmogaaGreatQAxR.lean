/- AxR AwM AwC AwHp AwH -/
import Derived.Test.YtbeeoomadnmogaaGreatQI6
import Derived.Test.YtbeeoomadnmogaaGreatQAwkB
import Derived.Test.YtbeeoomadnmogaaGreatQFarA
set_option maxRecDepth 100000
set_option maxHeartbeats 64000000
namespace Go.Proofs.YtbeeoomadnmogaaGreat
open Go.RowKit
theorem zQL (t:List TrN):((zBh t).1= []/\(zBh t).2 ≠ 0)\/zBh t=(zCV t,0):=by
 by_cases h1:120 < t.length
 ·rw [zFX h1];exact .inl ⟨rfl,(by decide:(3:Int) ≠ 0)⟩
 by_cases h2:zAs (t.map (clM fun _=>0)) ≠ 0
 ·rw [zG8 h1 h2];exact .inl ⟨rfl,h2⟩
 by_cases h3:zKq t=0
 ·rw [zJK h1 h2 h3];exact .inr rfl
 ·rw [(zJL h1 h2 h3).1];exact .inl ⟨rfl,(by decide:(6:Int) ≠ 0)⟩
theorem zNu (b:List BrN):(awL b= []/\awF b ≠ 0)\/(zB1 b=0/\awL b=zCV (zA8 b)/\awF b=0):=by
 unfold awL awF
 generalize hx:awT b=x
 unfold awT at hx
 by_cases h:zB1 b ≠ 0
 ·rw [if_pos h] at hx;subst hx;exact .inl ⟨rfl,h⟩
 rw [if_neg h] at hx
 cases hf:zBs (fun i=>awE b i != 0) 0 b.length with
 | some i=>rw [hf] at hx;subst hx;exact .inl ⟨rfl,by have:=(zBo _ _ _ hf).1;simpa using this⟩
 | none=>
  rw [hf] at hx
  have hx:(if (0 < zB0 b/\(acD (zAo b 0)).ens.length=24)\/24 < zB0 b then (([],0,5):List TrN × Int × Int) else if 120 < (zA8 b).length then ([],0,3) else ((zBh (zA8 b)).1,0,(zBh (zA8 b)).2))=x:=hx
  by_cases h2:(0 < zB0 b/\(acD (zAo b 0)).ens.length=24)\/24 < zB0 b
  ·rw [if_pos h2] at hx;subst hx;exact .inl ⟨rfl,(by decide:(5:Int) ≠ 0)⟩
  rw [if_neg h2] at hx
  by_cases h3:120 < (zA8 b).length
  ·rw [if_pos h3] at hx;subst hx;exact .inl ⟨rfl,(by decide:(3:Int) ≠ 0)⟩
  rw [if_neg h3] at hx
  subst hx
  rcases zQL (zA8 b) with e | e
  ·exact .inl e
  ·exact .inr ⟨Decidable.not_not.1 h,congrArg Prod.fst e,congrArg Prod.snd e⟩
theorem zNt (b:List BrN):zAP (awL b):=by
 rcases zNu b with ⟨e,_⟩ | ⟨h,e,_⟩
 ·rw [e];intro x hx;cases hx
 ·rw [e]
  intro x hx
  obtain⟨y,hy,rfl⟩:=List.mem_map.1 hx
  exact zFD h y hy
section
variable {bad:Nat->Prop} {B:Nat} {W V:World} {v:Value}
theorem zLc {l:List ByteArray} (h:zCu B W v l) (hk:∀ q o,W.heap[q]? = some o->¬ bad q->V.heap[q]? = some o) (hs:W.heap.size<=V.heap.size) (hb:∀ q off s,bad q->W.cell? ⟨q,off,none⟩ ≠ some (.string s)):zCu B V v l:=by
 obtain⟨a,cap,rfl,hcap,hn,hc⟩:=h
 have hne:∀ k (h:k < l.length) b' off,a=some ⟨b',off,none⟩->¬ bad b':=by
  rintro k hk' b' off rfl hbad
  obtain⟨b2,off2,cs,he,_,hr,hrow⟩:=hc k hk'
  cases he
  obtain⟨s,h0⟩:=zXc hr
  exact hb _ _ s hbad (hrow 0 _ h0)
 refine⟨a,cap,rfl,hcap,fun h0 b' hb'=>?_,fun i hi=>?_⟩
 ·obtain⟨b2,off2,cs2,rfl,_⟩:=hc 0 h0
  cases hb'
  exact(hn h0 b2 rfl).imp_right fun ⟨cs,f,h1⟩=>⟨cs,f,hk _ _ h1 (hne 0 h0 b2 off2 rfl)⟩
 ·obtain⟨b2,off2,cs,rfl,hb2,hr,hrow⟩:=hc i hi
  exact⟨b2,off2,cs,rfl,Nat.lt_of_lt_of_le hb2 hs,hr,fun j u hj=>zIJ hk (hrow j u hj) (hne i hi b2 off2 rfl)⟩
theorem zIq {l:List BrN} (h:zAg cdB B W v l) (hk:∀ q o,W.heap[q]? = some o->¬ bad q->V.heap[q]? = some o) (hs:W.heap.size<=V.heap.size) (hb:∀ q off s,bad q->W.cell? ⟨q,off,none⟩ ≠ some (.string s)) (hne:∀ g,v.ownBlock=some g->¬ bad g):zAg cdB B V v l:=by
 obtain⟨css,hl,hR,ho⟩:=h
 refine⟨css,hl,fun i hi hi'=>?_,ho.1,?_⟩
 ·obtain⟨va,vr,h1,h2,h3⟩:=hR i hi hi'
  exact⟨va,vr,zHZ h1 hk hs hb,zLc h2 hk hs hb,h3⟩
 ·rcases ho.2 with h1 | ⟨g,cap,cur,rfl,hb',hg,h3⟩
  ·exact .inl h1
  ·exact .inr ⟨g,cap,cur,rfl,hb',hk _ _ hg (hne g rfl),h3⟩
end
def zYt (p D q:Nat):Prop:=q=p\/q=p+1\/q=p+1+1\/q=D
def snF (s:ByteArray->Bool):ByteArray->Option Value:=fun x=>if s x=true then some (.bool true) else none
def snA (x:ByteArray) (s:ByteArray->Bool):ByteArray->Bool:=fun y=>decide (x=y) || s y
theorem zRF (s:ByteArray->Bool) (x:ByteArray):(snF s x).getD (.bool false)= .bool (s x):=by
 unfold snF
 cases h:s x <;> rfl
theorem zT2 (s:ByteArray->Bool) (x y:ByteArray):upd (snF s) x (.bool true) y=snF (snA x s) y:=by
 unfold upd snF snA
 by_cases h:y=x
 ·subst h;simp
 ·rw [if_neg h,decide_eq_false (fun e=>h e.symm),Bool.false_or]
theorem zAg.keepM {B b:Nat} {w W:World} {v:Value} {l:List DeN} (h:zAg cdE B w v l) (hk:zAA (some b) w W) (hs:w.heap.size<=W.heap.size) (hb:∀ o s,w.cell? ⟨b,o,none⟩ ≠ some (.string s)) (hne:v.ownBlock ≠ some b):zAg cdE B W v l:=by
 obtain⟨css,hl,hR,ho⟩:=h
 refine⟨css,hl,fun i hi hi'=>?_,ho.1,?_⟩
 ·obtain⟨va,g1,g2⟩:=hR i hi hi'
  exact⟨va,g1.keepX zVd hk hs hb fun _ _ h=>h,g2⟩
 ·rcases ho.2 with h1 | ⟨g,cap,cur,rfl,hb',hg,h3⟩
  ·exact .inl h1
  ·exact .inr ⟨g,cap,cur,rfl,hb',hk _ _ hg (fun x=>hne (by rw [x];rfl)),h3⟩
def KpR (rb mb:Nat) (row:Option Nat) (W W':World):Prop:=W.heap.size<=W'.heap.size/\∀ b o,W.heap[b]? = some o->b ≠ rb->b ≠ mb->row ≠ some b->W'.heap[b]? = some o
theorem zBk {rb mb:Nat} {row:Option Nat} {W W':World} (h:Ext W W'):KpR rb mb row W W':=⟨h.size,fun _ _ hb _ _ _=>bX h hb⟩
theorem KpR.trans {rb mb:Nat} {row:Option Nat} {W W' W2:World} (h:KpR rb mb row W W') (k:KpR rb mb row W' W2):KpR rb mb row W W2:=⟨Nat.le_trans h.1 k.1,fun b o hb h1 h2 h3=>k.2 b o (h.2 b o hb h1 h2 h3) h1 h2 h3⟩
structure RdS (w:World) (rb mb:Nat) (lv:Value) (ls:List zAr) (o:Bool) (sn:ByteArray->Bool) (ve:Value) (es:List DeN) (W:World):Prop where
 box:W.heap[rb]? = some (.cells #[lv,.bool o,.slice none 0 0,ve,.map (some mb)] 78 (0,0))
 map:∃ n,zAD kS W mb n (snF sn)
 own:zAg cdE w.heap.size W ve es
 ats:zAK w.heap.size W lv ls
 rbl:w.heap.size<=rb
 mbl:w.heap.size<=mb
 ext:Ext w W
section
variable {w W V:World} {rb mb:Nat} {lv ve ve':Value} {ls:List zAr} {o:Bool} {sn:ByteArray->Bool} {es es':List DeN}
theorem RdS.up (h:RdS w rb mb lv ls o sn ve es W) (he:Ext W V):RdS w rb mb lv ls o sn ve es V:=
 ⟨bX he h.box,(h.map).imp fun _ m=>m.ext he,h.own.ext okE he,h.ats.ext okA he,h.rbl,h.mbl,h.ext.trans he⟩
theorem RdS.noB (h:RdS w rb mb lv ls o sn ve es W):ve.ownBlock ≠ some rb:=fun e=>by
 obtain⟨_,c,f,h2⟩:=h.own.row rfl _ e
 have h1:=h.box
 rw [h2] at h1;cases h1
theorem RdS.noM (h:RdS w rb mb lv ls o sn ve es W):ve.ownBlock ≠ some mb:=fun e=>by
 obtain⟨_,c,f,h2⟩:=h.own.row rfl _ e
 obtain⟨n,es,ck,h1,_⟩:=h.map
 rw [h2] at h1;cases h1
theorem RdS.ne (h:RdS w rb mb lv ls o sn ve es W):rb ≠ mb:=by
 rintro rfl
 obtain⟨n,es,ck,h1,_⟩:=h.map
 rw [h.box] at h1;cases h1
theorem RdS.map_str (h:RdS w rb mb lv ls o sn ve es W):∀ i s,W.cell? ⟨mb,i,none⟩ ≠ some (.string s):=by
 obtain⟨n,es,ck,h1,_⟩:=h.map
 intro i s e
 simp [World.cell?,h1] at e
theorem RdS.note {n:Nat} {nm:ByteArray} (h:RdS w rb mb lv ls o sn ve es W) (hm:zAD kS V mb n (upd (snF sn) nm (.bool true))) (hg:W.grownBy V (some mb)):RdS w rb mb lv ls o (snA nm sn) ve es V/\KpR rb mb ve.ownBlock W V:=by
 have hk:zAA (some mb) W V:=fun b o hb hne=>zAU hg hb hne
 have hs:=hg.size
 refine⟨⟨hk _ _ h.box (fun e=>h.ne (by injection e with e;exact e.symm)),⟨n,hm.same (zT2 sn nm)⟩,h.own.keepM hk hs h.map_str h.noM,h.ats.keepX zVd hk hs h.map_str fun _ _ h=>h,h.rbl,h.mbl,Below.grown h.ext hg h.ext.size (fun k e=>by injection e with e;rw [<- e];exact h.mbl)⟩,hs,fun b o hb _ h2 _=>hk _ _ hb (fun e=>h2 (by injection e with e;exact e.symm))⟩
theorem RdS.app (h:RdS w rb mb lv ls o sn ve es W) (ha:zH6 cdE w.heap.size ve ve' es' w W V):V.heap[rb]? = some (.cells #[lv,.bool o,.slice none 0 0,ve,.map (some mb)] 78 (0,0)):=ha.chg.keep _ _ h.box h.noB
theorem RdS.step (h:RdS w rb mb lv ls o sn ve es W) (ha:zH6 cdE w.heap.size ve ve' es' w W V):RdS w rb mb lv ls o sn ve' es' (V.setCell ⟨rb,3,none⟩ ve')/\KpR rb mb ve.ownBlock W (V.setCell ⟨rb,3,none⟩ ve'):=by
 have hout:=h.app ha
 have hc:Chg w.heap.size 78 (some rb) V (V.setCell ⟨rb,3,none⟩ ve'):=⟨fun b o hb hne=>bSn hb _ _ (fun e=>hne (by rw [e])),by simp [World.setCell],fun g hg=>by cases hg;exact⟨h.rbl,_,_,hout⟩⟩
 obtain⟨n,hm⟩:=h.map
 refine⟨⟨bS hout _,⟨n,(hm.keep ha.chg.keep h.noM).setCell _ _⟩,ha.own.other okE hc (by decide) (by decide),(h.ats.chg okA ha.chg (by decide) (by decide)).chg okA hc (by decide) (by decide),h.rbl,h.mbl,Below.setCell (p:=⟨rb,3,none⟩) ha.below h.rbl _⟩,Nat.le_trans ha.chg.size hc.size,fun b o hb h1 h2 h3=>hc.keep _ _ (ha.chg.keep _ _ hb h3) (fun e=>h1 (by injection e with e;exact e.symm))⟩
end
def RdP (w:World) (rb mb:Nat) (lv:Value) (ls:List zAr) (o:Bool) (ve:Value) (sn2:ByteArray->Bool) (es2:List DeN) (er:Int) (W:World) (e:Ending) (W':World):Prop:=
 e= .returned (.int .i64 er)/\Ext w W'/\KpR rb mb ve.ownBlock W W'/\(er=0->∃ ve',RdS w rb mb lv ls o sn2 ve' es2 W')
def plE (sn:ByteArray->Bool) (x:DeN):Int:=if x.nd.kd=5\/sn x.nm=true then 6 else 0
def whE (o:Bool) (sn:ByteArray->Bool) (x:DeN):Int:=if zG5 x=false\/sn x.nm=true\/o=true then 6 else 0
def oqE (x:DeN):Int:=if zG5 x=false then 6 else 0
theorem zIP (w W:World) (rb mb:Nat) (lv ve:Value) (ls:List zAr) (o:Bool) (sn:ByteArray->Bool) (es:List DeN) (nm:ByteArray) (h:RdS w rb mb lv ls o sn ve es W) :
  Calls Tryz.prog 120 #[.pointer (some ⟨rb,0,none⟩),.string nm] W fun e W'=>e= .returned (.bool (!sn nm))/\RdS w rb mb lv ls o (snA nm sn) ve es W'/\KpR rb mb ve.ownBlock W W':=by
 obtain⟨n,hm⟩:=h.map
 have HM:=hQq hm;have HS:=hQq h
 have r4:=bC h.box 4
 have hr:=bL h.box
 clear hm h
 go_enter Tryz.func120,Tryz.ntmps120
 go_wp2_with (first
  | (at_lookup;refine zCa rfl (.tmp 9) (.tmp 10) 76 false rfl 9 4 zEC zFH (.bool false) zIQ rfl HM.out nm rfl ?_;rw [if_neg Bool.false_ne_true,zRF])
  | (at_mapUpdate;refine zDX rfl (.tmp 15) (.tmp 16) (.const (.bool true)) 76 rfl _ _ zEC zFH rfl (by exact HM.out) nm (.bool true) rfl rfl ?_;intro w4 hm4 hg4;have HM4:=hQq hm4;have HG4:=hQq hg4;clear hm4 hg4)
  | fail)
 go_ret
 exact⟨rfl,HS.out.note HM4.out HG4.out⟩
theorem zUZ (w W:World) (rb mb:Nat) (lv ve va:Value) (ls:List zAr) (o:Bool) (sn:ByteArray->Bool) (es:List DeN) (x:DeN) (h:RdS w rb mb lv ls o sn ve es W) (hv:zAK w.heap.size w va x.nd.ats) (hl:x.nd.ats.length<=1000) (hn:es.length<=1000) :
  Calls Tryz.prog 54 #[.pointer (some ⟨rb,0,none⟩),deV x va] W (RdP w rb mb lv ls o ve (snA x.nm sn) (es ++ [x]) (plE sn x) W):=by
 have HS:=hQq h;have HV:=hQq hv;have HLN:=hQq hn
 obtain⟨a3,cap3,rfl⟩:=hv.form
 have HO3:=hQq hv
 have r0:=bC h.box 0;have r1:=bC h.box 1;have r2:=bC h.box 2;have r3:=bC h.box 3;have r4:=bC h.box 4
 have hr:=bL h.box
 have fr:∀ j,W.frozen? ⟨rb,j,none⟩=false:=fun j=>bT h.box j
 have HL:=hQq hl
 clear h hv hl hn
 by_cases hk:x.nd.kd=5
 case pos=>
  have HP:Hid (plE sn x=6):=hQq (if_pos (.inl hk))
  go_enter Tryz.func54,Tryz.ntmps54
  go_wp2
  go_ret
  rw [HP.out]
  exact⟨rfl,HS.out.ext.trans (eA _ _),zBk (eA _ _),fun e=>absurd e (by decide)⟩
 have q1:(x.nd.kd == 5)=false:=nB hk
 cases hm:sn x.nm
 case true=>
  have HP:Hid (plE sn x=6):=hQq (if_pos (.inr hm))
  have q2:=hQq hm
  clear hk hm
  go_enter Tryz.func54,Tryz.ntmps54
  go_wp2_with (go_at_call 120;refine(zIP w _ rb mb lv ve ls o sn es x.nm (HS.out.up (eA _ _))).mono ?_;rw [q2.out];rintro e w2 ⟨rfl,h2,h3⟩;have HS2:=hQq h2;have HK2:=hQq ((zBk (eA _ _)).trans h3);clear h2 h3)
  go_ret
  rw [HP.out]
  exact⟨rfl,HS2.out.ext,HK2.out,fun e=>absurd e (by decide)⟩
 have HP:Hid (plE sn x=0):=hQq (if_neg (by simp [hk,hm]))
 have q2:=hQq hm
 clear hk hm
 go_enter Tryz.func54,Tryz.ntmps54
 go_upto_region 3 with (go_at_call 120;refine(zIP w _ rb mb lv ve ls o sn es x.nm (HS.out.up (eA _ _))).mono ?_;rw [q2.out];rintro e w2 ⟨rfl,h2,h3⟩;have HS2:=hQq h2;have HX2:=hQq (h3.2 _ _ (bN W _) (by omega) (fun e=>by have:=HS.out.map;obtain⟨_,_,_,m,_⟩:=this;have:=bL m;omega) (fun e=>by obtain⟨_,c,f,h9⟩:=HS.out.own.row rfl _ e;have:=bL h9;omega));have HK2:=hQq ((zBk (eA _ _)).trans h3);have hs3:=h3.1;clear h2 h3)
 refine nW (P:=fun W=>Code.wp _ _ _ _ W) _ ?_
 intro W3 hW
 have HE3:Hid (Ext w2 W3):=hQq (by rw [hW];first | exact bR _ _ | exact eD _ | exact eDn _ _)
 have HS3:Hid (RdS w rb mb lv ls o (snA x.nm sn) ve es W3/\KpR rb mb ve.ownBlock W W3):=hQq ⟨HS2.out.up HE3.out,HK2.out.trans (zBk HE3.out)⟩
 have HX3:=hQq (bX HE3.out HX2.out)
 have HV3:Hid (zAK w.heap.size W3 (.slice a3 x.nd.ats.length cap3) x.nd.ats):=hQq (HV.out.ext okA HS3.out.1.ext)
 clear hW r0 r1 r2 r3 r4 fr
 refine zAV (apG (fun i=>match i with | 0=>some (.pointer (some ⟨rb,0,none⟩)) | 1=>some (.pointer (some ⟨rb,0,none⟩)) | 2=>some (.pointer (some ⟨rb,0,none⟩)) | 3=>some (.pointer (some ⟨rb,0,none⟩)) | 4=>some (.pointer (some ⟨rb,3,none⟩)) | 5=>some (ve) | 6=>some (.agg #[.string x.nm,.int .i64 x.nd.dep,.string x.nd.nm,.int .i64 x.nd.kd,.slice a3 x.nd.ats.length cap3,.string x.nd.dat,.int .i64 x.nd.ma,.int .i64 x.nd.mi,.int .i64 x.nd.cl,.bool x.wh,.bool x.fi,.int .i64 x.ns]) | 10=>some (.pointer (some ⟨rb,0,none⟩)) | 11=>some (.pointer (some ⟨rb,0,none⟩)) | 12=>some (.pointer (some ⟨rb,3,none⟩)) | _=>none)) (apI w.heap.size w W3 (fun v l V=>RdS w rb mb lv ls o (snA x.nm sn) v l V/\KpR rb mb ve.ownBlock W V) (ve) es (x) 7 8 9 13 23 24 25) rfl (by kernel_rfl) (by kernel_rfl) ?_ ?_ ?_
 ·intro vs
  exact zDt rfl ⟨eD W3,⟨HS3.out.1.up (eD W3),HS3.out.2.trans (zBk (eD W3))⟩,fun h=>(by cases h),fun h=>(by cases h)⟩
 ·intro i o a wx z vs ho hz0 hdn hpd hI hvs hk hp
  have n0:=eV (show a.eval (.tmp 0)= .pointer (some ⟨rb,0,none⟩) from hk 0 (of_decide_eq_true (by kernel_rfl)))
  have n3:=eV (show a.eval (.tmp 3)= .pointer (some ⟨W.heap.size,0,none⟩) from hk 3 (of_decide_eq_true (by kernel_rfl)))
  clear hk
  match i,ho,hz0,hpd,hp with
  | 0,ho,hz0,hpd,hp=>
   obtain rfl:=oI ho
   clear ho hp hpd hdn hvs
   unfold Oper.wp;go_simp
   exact⟨_,rfl,rfl,zAu rfl rfl rfl rfl rfl rfl rfl hI⟩
  | 1,ho,hz0,hpd,hp=>
   obtain rfl:=oI ho
   clear ho hp hpd hdn hvs
   unfold Oper.wp;go_simp
   exact⟨_,rfl,rfl,zAu rfl rfl rfl rfl rfl rfl rfl hI⟩
  | 2,ho,hz0,hpd,hp=>
   obtain rfl:=oI ho
   have p17:=eV (show a.eval (.tmp 17)= .pointer (some ⟨rb,0,none⟩) from hp 1 _ 17 (by kernel_rfl) rfl rfl)
   clear ho hp hpd hdn hvs
   unfold Oper.wp;go_simp
   exact⟨_,rfl,rfl,zAu rfl rfl rfl rfl rfl rfl rfl hI⟩
  | 3,ho,hz0,hpd,hp=>
   obtain rfl:=oI ho
   have p18:=eV (show a.eval (.tmp 18)= .pointer (some ⟨rb,0,none⟩) from hp 2 _ 18 (by kernel_rfl) rfl rfl)
   clear ho hp hpd hdn hvs
   unfold Oper.wp;go_simp
   exact⟨_,rfl,rfl,zAu rfl rfl rfl rfl rfl rfl rfl hI⟩
  | 4,ho,hz0,hpd,hp=>
   obtain rfl:=oI ho
   have p19:=eV (show a.eval (.tmp 19)= .pointer (some ⟨rb,0,none⟩) from hp 3 _ 19 (by kernel_rfl) rfl rfl)
   clear ho hp hpd hdn hvs
   unfold Oper.wp;go_simp
   exact⟨_,rfl,rfl,zAu rfl rfl rfl rfl rfl rfl rfl hI⟩
  | 5,ho,hz0,hpd,hp=>
   obtain rfl:=oI ho
   have h5:z 9=false:=(hdn 9 5 (of_decide_eq_true (by kernel_rfl)) (of_decide_eq_true (by kernel_rfl)) (by kernel_rfl) hz0)
   obtain⟨hE,hS,-,-⟩:=zBc h5 hI
   have o0:=bC hS.1.box 0;have o1:=bC hS.1.box 1;have o2:=bC hS.1.box 2;have o3:=bC hS.1.box 3;have o4:=bC hS.1.box 4;have ob:=bL hS.1.box
   have p20:=eV (show a.eval (.tmp 20)= .pointer (some ⟨rb,3,none⟩) from hp 4 _ 20 (by kernel_rfl) rfl rfl)
   clear ho hp hpd hdn hvs
   unfold Oper.wp;go_simp
   exact⟨_,rfl,rfl,zAu rfl rfl rfl rfl rfl rfl rfl hI⟩
  | 6,ho,hz0,hpd,hp=>
   obtain rfl:=oI ho
   have h5:z 9=false:=(hdn 9 8 (of_decide_eq_true (by kernel_rfl)) (of_decide_eq_true (by kernel_rfl)) (by kernel_rfl) (hdn 8 7 (of_decide_eq_true (by kernel_rfl)) (of_decide_eq_true (by kernel_rfl)) (by kernel_rfl) (hdn 7 6 (of_decide_eq_true (by kernel_rfl)) (of_decide_eq_true (by kernel_rfl)) (by kernel_rfl) hz0)))
   obtain⟨hE,hS,-,-⟩:=zBc h5 hI
   have hQx:=bX hE HX3.out;obtain⟨q0,q1,q2,q3,q4,q5,q6,q7,q8,q9,q10,q11⟩:=zIa hQx
   clear ho hp hpd hdn hvs
   unfold Oper.wp;go_simp
   exact⟨_,rfl,rfl,zAu rfl rfl rfl rfl rfl rfl rfl hI⟩
  | 7,ho,hz0,hpd,hp=>
   obtain rfl:=oI ho
   have h4:z 8=false:=(hdn 8 7 (of_decide_eq_true (by kernel_rfl)) (of_decide_eq_true (by kernel_rfl)) (by kernel_rfl) hz0)
   have h5:z 9=false:=(hdn 9 8 (of_decide_eq_true (by kernel_rfl)) (of_decide_eq_true (by kernel_rfl)) (by kernel_rfl) (hdn 8 7 (of_decide_eq_true (by kernel_rfl)) (of_decide_eq_true (by kernel_rfl)) (by kernel_rfl) hz0))
   obtain⟨hE,hS,-,-⟩:=zBc h5 hI
   have p22:=eV (show a.eval (.tmp 22)= .agg #[.string x.nm,.int .i64 x.nd.dep,.string x.nd.nm,.int .i64 x.nd.kd,.slice a3 x.nd.ats.length cap3,.string x.nd.dat,.int .i64 x.nd.ma,.int .i64 x.nd.mi,.int .i64 x.nd.cl,.bool x.wh,.bool x.fi,.int .i64 x.ns] from hp 6 _ 22 (by kernel_rfl) rfl rfl)
   clear ho hp hpd hdn hvs hI
   unfold Oper.wp;go_simp
   refine(zU0 x (.slice a3 x.nd.ats.length cap3) _ ((HV3.out.ext okA hE).attrs) HL.out).mono ?_
   rintro e w5 ⟨⟨a9,cap9,rfl,ha9⟩,hb5⟩
   exact⟨_,rfl,trivial,zDt h5 ⟨hE.trans hb5,⟨hS.1.up hb5,hS.2.trans (zBk hb5)⟩,fun _=>⟨a9,cap9,rfl,ha9.mono okA (Nat.zero_le _)⟩,fun h=>by cases h4.symm.trans h⟩⟩
  | 8,ho,hz0,hpd,hp=>
   obtain rfl:=oI ho
   have h5:z 9=false:=(hdn 9 8 (of_decide_eq_true (by kernel_rfl)) (of_decide_eq_true (by kernel_rfl)) (by kernel_rfl) hz0)
   obtain⟨hE,hS,h3,-⟩:=zBc h5 hI
   obtain⟨a9,c9,e62,ha9⟩:=h3 (hpd 7 (of_decide_eq_true (by kernel_rfl)) (by kernel_rfl))
   have p62:=eV (show a.eval (.tmp 23)=_ from(hvs 23 (of_decide_eq_true (by kernel_rfl))).symm.trans e62)
   clear ho hp hpd hdn hvs hI
   unfold Oper.wp;go_simp
   exact⟨_,rfl,trivial,zDt h5 ⟨hE.trans (eA _ _),⟨hS.1.up (eA _ _),hS.2.trans (zBk (eA _ _))⟩,fun h=>⟨a9,c9,e62,ha9.ext okA (eA _ _)⟩,fun _=>zAn okE _ (x) [.string x.nm,.int .i64 x.nd.dep,.string x.nd.nm,.int .i64 x.nd.kd,.slice a9 x.nd.ats.length c9,.string x.nd.dat,.int .i64 x.nd.ma,.int .i64 x.nd.mi,.int .i64 x.nd.cl,.bool x.wh,.bool x.fi,.int .i64 x.ns] _ (by first | rfl | simp) ⟨_,ha9,rfl⟩⟩⟩
  | 9,ho,hz0,hpd,hp=>
   obtain rfl:=oI ho
   have h7:z 13=false:=(hdn 13 9 (of_decide_eq_true (by kernel_rfl)) (of_decide_eq_true (by kernel_rfl)) (by kernel_rfl) hz0)
   obtain⟨hE,hS,-,h4⟩:=zBc hz0 hI
   have hL:=h4 (hpd 8 (of_decide_eq_true (by kernel_rfl)) (by kernel_rfl))
   have p60:a.eval (.tmp 21)=ve:=hp 5 _ 21 (by kernel_rfl) rfl rfl
   refine zCO okE (.tmp 21) (.tmp 24) (by rfl) (ve) (vs 24) es [x] w _ p60 (hvs 24 (of_decide_eq_true (by kernel_rfl))).symm hS.1.own hL hS.1.ext hS.1.ext.size (by have:=HLN.out;simp only [List.length_singleton];omega) ?_
   intro v6 w6 hap
   exact⟨v6,rfl,trivial,zH3 rfl h7 ⟨wx,hS,hap⟩⟩
  | 10,ho,hz0,hpd,hp=>
   obtain rfl:=oI ho
   have p16:=eV (show a.eval (.tmp 16)= .pointer (some ⟨rb,0,none⟩) from hp 0 _ 16 (by kernel_rfl) rfl rfl)
   clear ho hp hpd hdn hvs
   unfold Oper.wp;go_simp
   exact⟨_,rfl,rfl,zAu rfl rfl rfl rfl rfl rfl rfl hI⟩
  | 11,ho,hz0,hpd,hp=>
   obtain rfl:=oI ho
   have p26:=eV (show a.eval (.tmp 26)= .pointer (some ⟨rb,0,none⟩) from hp 10 _ 26 (by kernel_rfl) rfl rfl)
   clear ho hp hpd hdn hvs
   unfold Oper.wp;go_simp
   exact⟨_,rfl,rfl,zAu rfl rfl rfl rfl rfl rfl rfl hI⟩
  | 12,ho,hz0,hpd,hp=>
   obtain rfl:=oI ho
   have p27:=eV (show a.eval (.tmp 27)= .pointer (some ⟨rb,0,none⟩) from hp 11 _ 27 (by kernel_rfl) rfl rfl)
   clear ho hp hpd hdn hvs
   unfold Oper.wp;go_simp
   exact⟨_,rfl,rfl,zAu rfl rfl rfl rfl rfl rfl rfl hI⟩
  | 13,ho,hz0,hpd,hp=>
   obtain rfl:=oI ho
   have h5:z 9=true:=hpd 9 (of_decide_eq_true (by kernel_rfl)) (by kernel_rfl)
   obtain⟨V0,hS,hap⟩:=zH2 h5 hz0 hI
   have p28:=eV (show a.eval (.tmp 28)= .pointer (some ⟨rb,3,none⟩) from hp 12 _ 28 (by kernel_rfl) rfl rfl)
   obtain⟨v6,e6⟩:∃ v6,vs 25=v6:=⟨_,rfl⟩
   have p5:=eV (show a.eval (.tmp 25)=v6 from(hvs 25 (of_decide_eq_true (by kernel_rfl))).symm.trans e6)
   rw [e6] at hap
   obtain⟨a10,cap10,rfl⟩:=hap.own.form
   rw [zFI] at hap e6 p5
   have hou:=hS.1.app hap
   have o3:=bC hou 3
   have fo:∀ j,wx.frozen? ⟨rb,j,none⟩=false:=fun j=>bT hou j
   clear ho hp hpd hdn hvs hI
   unfold Oper.wp;go_simp
   refine⟨undef,trivial,(zDx (z:=zOu z 13) (vs:=zK9 vs none undef) (i5:=9) (i7:=13) h5 rfl).2 ?_⟩
   show RdS _ _ _ _ _ _ _ _ _ _/\KpR _ _ _ _ _
   rw [show zK9 vs none undef 25=vs 25 from rfl,e6]
   exact⟨(hS.1.step hap).1,hS.2.trans (hS.1.step hap).2⟩
  | i+14,ho,_,_,_=>exact absurd (Array.getElem?_eq_some_iff.1 ho).1 (by simp)
 ·intro z vs wx hz hI hf
  have hS9:=hQq ((zDx (hz 9 (of_decide_eq_true (by kernel_rfl))) (hz 13 (of_decide_eq_true (by kernel_rfl)))).1 hI)
  clear hf hz hI
  generalize hA:zAI _ _ _=A1
  have hA2:=hA.symm.trans (congrArg (fun D=>zAI _ D vs) (show zCE _ 14= [16,17,18,19,20,21,22,23,24,25,26,27,28] by kernel_rfl))
  rw [hA2]
  clear hA2 hA
  simp only [zAI,List.foldl,Act.put,List.setIfInBounds_toArray,List.set_cons_succ,List.set_cons_zero]
  go_wp2
  go_ret
  rw [HP.out]
  exact⟨rfl,hS9.out.1.ext,hS9.out.2,fun _=>⟨_,hS9.out.1⟩⟩
theorem zUY (w W:World) (rb mb:Nat) (lv ve va:Value) (ls:List zAr) (o:Bool) (sn:ByteArray->Bool) (es:List DeN) (x:DeN) (h:RdS w rb mb lv ls o sn ve es W) (hv:zAK w.heap.size w va x.nd.ats) (hn:es.length<=1000) :
  Calls Tryz.prog 55 #[.pointer (some ⟨rb,0,none⟩),deV x va] W (RdP w rb mb lv ls o ve (snA x.nm sn) (es ++ [⟨x.nm,kdN 5,true,true,1⟩]) (whE o sn x) W):=by
 have HS:=hQq h;have HV:=hQq hv;have HLN:=hQq hn
 obtain⟨a3,cap3,rfl⟩:=hv.form
 have HO3:=hQq hv
 have r0:=bC h.box 0;have r1:=bC h.box 1;have r2:=bC h.box 2;have r3:=bC h.box 3;have r4:=bC h.box 4
 have hr:=bL h.box
 have fr:∀ j,W.frozen? ⟨rb,j,none⟩=false:=fun j=>bT h.box j
 clear h hv hn
 cases hk:zG5 x
 case false=>
  have HP:Hid (whE o sn x=6):=hQq (if_pos (.inl hk))
  have q1:=hQq hk
  clear hk
  go_enter Tryz.func55,Tryz.ntmps55
  go_wp2_with (first | (go_at_call 121;refine(zGx x a3 cap3 _).mono ?_;rw [q1.out];rintro e w1 ⟨rfl,hb1⟩;have HX1:=hQq (bX hb1 (bN W (.cells #[.string x.nm,.int .i64 x.nd.dep,.string x.nd.nm,.int .i64 x.nd.kd,.slice a3 x.nd.ats.length cap3,.string x.nd.dat,.int .i64 x.nd.ma,.int .i64 x.nd.mi,.int .i64 x.nd.cl,.bool x.wh,.bool x.fi,.int .i64 x.ns] 66 (0,0))));have HE1:Hid (Ext W w1):=hQq ((eA _ _).trans hb1);have x0:=bC HX1.out 0;have hx1:=bL HX1.out;clear hb1) | (go_at_call 120;refine(zIP w _ rb mb lv ve ls o sn es x.nm (HS.out.up HE1.out)).mono ?_;rw [q2.out];rintro e w2 ⟨rfl,h2,h3⟩;have HS2:=hQq h2;have HX2:=hQq (h3.2 _ _ HX1.out (by omega) (fun e=>by have:=HS.out.map;obtain⟨_,_,_,m,_⟩:=this;have:=bL m;omega) (fun e=>by obtain⟨_,c,f,h9⟩:=HS.out.own.row rfl _ e;have:=bL h9;omega));have HK2:=hQq ((zBk HE1.out).trans h3);have hs3:=h3.1;have k1:=bC h2.box 1;have k2:=bL h2.box;clear h2 h3) | fail)
  go_ret
  rw [HP.out]
  exact⟨rfl,HS.out.ext.trans HE1.out,zBk HE1.out,fun e=>absurd e (by decide)⟩
 have q1:=hQq hk
 cases hm:sn x.nm
 case true=>
  have HP:Hid (whE o sn x=6):=hQq (if_pos (.inr (.inl hm)))
  have q2:=hQq hm
  clear hk hm
  go_enter Tryz.func55,Tryz.ntmps55
  go_wp2_with (first | (go_at_call 121;refine(zGx x a3 cap3 _).mono ?_;rw [q1.out];rintro e w1 ⟨rfl,hb1⟩;have HX1:=hQq (bX hb1 (bN W (.cells #[.string x.nm,.int .i64 x.nd.dep,.string x.nd.nm,.int .i64 x.nd.kd,.slice a3 x.nd.ats.length cap3,.string x.nd.dat,.int .i64 x.nd.ma,.int .i64 x.nd.mi,.int .i64 x.nd.cl,.bool x.wh,.bool x.fi,.int .i64 x.ns] 66 (0,0))));have HE1:Hid (Ext W w1):=hQq ((eA _ _).trans hb1);have x0:=bC HX1.out 0;have hx1:=bL HX1.out;clear hb1) | (go_at_call 120;refine(zIP w _ rb mb lv ve ls o sn es x.nm (HS.out.up HE1.out)).mono ?_;rw [q2.out];rintro e w2 ⟨rfl,h2,h3⟩;have HS2:=hQq h2;have HX2:=hQq (h3.2 _ _ HX1.out (by omega) (fun e=>by have:=HS.out.map;obtain⟨_,_,_,m,_⟩:=this;have:=bL m;omega) (fun e=>by obtain⟨_,c,f,h9⟩:=HS.out.own.row rfl _ e;have:=bL h9;omega));have HK2:=hQq ((zBk HE1.out).trans h3);have hs3:=h3.1;have k1:=bC h2.box 1;have k2:=bL h2.box;clear h2 h3) | fail)
  go_ret
  rw [HP.out]
  exact⟨rfl,HS2.out.ext,HK2.out,fun e=>absurd e (by decide)⟩
 have q2:=hQq hm
 cases ho:o
 case true=>
  have HP:Hid (whE true sn x=6):=hQq (if_pos (.inr (.inr rfl)))
  subst ho
  clear hk hm
  go_enter Tryz.func55,Tryz.ntmps55
  go_wp2_with (first | (go_at_call 121;refine(zGx x a3 cap3 _).mono ?_;rw [q1.out];rintro e w1 ⟨rfl,hb1⟩;have HX1:=hQq (bX hb1 (bN W (.cells #[.string x.nm,.int .i64 x.nd.dep,.string x.nd.nm,.int .i64 x.nd.kd,.slice a3 x.nd.ats.length cap3,.string x.nd.dat,.int .i64 x.nd.ma,.int .i64 x.nd.mi,.int .i64 x.nd.cl,.bool x.wh,.bool x.fi,.int .i64 x.ns] 66 (0,0))));have HE1:Hid (Ext W w1):=hQq ((eA _ _).trans hb1);have x0:=bC HX1.out 0;have hx1:=bL HX1.out;clear hb1) | (go_at_call 120;refine(zIP w _ rb mb lv ve ls true sn es x.nm (HS.out.up HE1.out)).mono ?_;rw [q2.out];rintro e w2 ⟨rfl,h2,h3⟩;have HS2:=hQq h2;have HX2:=hQq (h3.2 _ _ HX1.out (by omega) (fun e=>by have:=HS.out.map;obtain⟨_,_,_,m,_⟩:=this;have:=bL m;omega) (fun e=>by obtain⟨_,c,f,h9⟩:=HS.out.own.row rfl _ e;have:=bL h9;omega));have HK2:=hQq ((zBk HE1.out).trans h3);have hs3:=h3.1;have k1:=bC h2.box 1;have k2:=bL h2.box;clear h2 h3) | fail)
  go_ret
  rw [HP.out]
  exact⟨rfl,HS2.out.ext,HK2.out,fun e=>absurd e (by decide)⟩
 have HP:Hid (whE false sn x=0):=hQq (if_neg (by simp [hk,hm]))
 subst ho
 clear hk hm
 go_enter Tryz.func55,Tryz.ntmps55
 go_upto_region 3 with (first | (go_at_call 121;refine(zGx x a3 cap3 _).mono ?_;rw [q1.out];rintro e w1 ⟨rfl,hb1⟩;have HX1:=hQq (bX hb1 (bN W (.cells #[.string x.nm,.int .i64 x.nd.dep,.string x.nd.nm,.int .i64 x.nd.kd,.slice a3 x.nd.ats.length cap3,.string x.nd.dat,.int .i64 x.nd.ma,.int .i64 x.nd.mi,.int .i64 x.nd.cl,.bool x.wh,.bool x.fi,.int .i64 x.ns] 66 (0,0))));have HE1:Hid (Ext W w1):=hQq ((eA _ _).trans hb1);have x0:=bC HX1.out 0;have hx1:=bL HX1.out;clear hb1) | (go_at_call 120;refine(zIP w _ rb mb lv ve ls false sn es x.nm (HS.out.up HE1.out)).mono ?_;rw [q2.out];rintro e w2 ⟨rfl,h2,h3⟩;have HS2:=hQq h2;have HX2:=hQq (h3.2 _ _ HX1.out (by omega) (fun e=>by have:=HS.out.map;obtain⟨_,_,_,m,_⟩:=this;have:=bL m;omega) (fun e=>by obtain⟨_,c,f,h9⟩:=HS.out.own.row rfl _ e;have:=bL h9;omega));have HK2:=hQq ((zBk HE1.out).trans h3);have hs3:=h3.1;have k1:=bC h2.box 1;have k2:=bL h2.box;clear h2 h3) | fail)
 refine nW (P:=fun W=>Code.wp _ _ _ _ W) _ ?_
 intro W3 hW
 have HE3:Hid (Ext w2 W3):=hQq (by rw [hW];first | exact bR _ _ | exact eD _ | exact eDn _ _)
 have HS3:Hid (RdS w rb mb lv ls false (snA x.nm sn) ve es W3/\KpR rb mb ve.ownBlock W W3):=hQq ⟨HS2.out.up HE3.out,HK2.out.trans (zBk HE3.out)⟩
 have HX3:=hQq (bX HE3.out HX2.out)
 clear hW r0 r1 r2 r3 r4 fr x0 k1 k2
 refine zAV (apG (fun i=>match i with | 0=>some (.pointer (some ⟨rb,0,none⟩)) | 1=>some (.pointer (some ⟨rb,0,none⟩)) | 2=>some (.pointer (some ⟨rb,0,none⟩)) | 3=>some (.pointer (some ⟨rb,0,none⟩)) | 4=>some (.pointer (some ⟨rb,3,none⟩)) | 5=>some (ve) | 6=>some (.pointer (some ⟨W.heap.size,0,none⟩)) | 7=>some (.string x.nm) | 8=>some (.agg #[.int .i64 0,.string ⟨#[]⟩,.int .i64 5,.slice none 0 0,.string ⟨#[]⟩,.int .i64 0,.int .i64 0,.int .i64 0]) | 9=>some (.agg #[.string x.nm,.int .i64 0,.string ⟨#[]⟩,.int .i64 5,.slice none 0 0,.string ⟨#[]⟩,.int .i64 0,.int .i64 0,.int .i64 0,.bool true,.bool true,.int .i64 1]) | 12=>some (.pointer (some ⟨rb,0,none⟩)) | 13=>some (.pointer (some ⟨rb,0,none⟩)) | 14=>some (.pointer (some ⟨rb,3,none⟩)) | _=>none)) (apI w.heap.size w W3 (fun v l V=>RdS w rb mb lv ls false (snA x.nm sn) v l V/\KpR rb mb ve.ownBlock W V) (ve) es ((⟨x.nm,kdN 5,true,true,1⟩:DeN)) 16 10 11 15 99999 32 33) rfl (by kernel_rfl) (by kernel_rfl) ?_ ?_ ?_
 ·intro vs
  exact zDt rfl ⟨eD W3,⟨HS3.out.1.up (eD W3),HS3.out.2.trans (zBk (eD W3))⟩,fun h=>(by cases h),fun h=>(by cases h)⟩
 ·intro i o a wx z vs ho hz0 hdn hpd hI hvs hk hp
  have n0:=eV (show a.eval (.tmp 0)= .pointer (some ⟨rb,0,none⟩) from hk 0 (of_decide_eq_true (by kernel_rfl)))
  have n3:=eV (show a.eval (.tmp 3)= .pointer (some ⟨W.heap.size,0,none⟩) from hk 3 (of_decide_eq_true (by kernel_rfl)))
  clear hk
  match i,ho,hz0,hpd,hp with
  | 0,ho,hz0,hpd,hp=>
   obtain rfl:=oI ho
   clear ho hp hpd hdn hvs
   unfold Oper.wp;go_simp
   exact⟨_,rfl,rfl,zAu rfl rfl rfl rfl rfl rfl rfl hI⟩
  | 1,ho,hz0,hpd,hp=>
   obtain rfl:=oI ho
   clear ho hp hpd hdn hvs
   unfold Oper.wp;go_simp
   exact⟨_,rfl,rfl,zAu rfl rfl rfl rfl rfl rfl rfl hI⟩
  | 2,ho,hz0,hpd,hp=>
   obtain rfl:=oI ho
   have p23:=eV (show a.eval (.tmp 23)= .pointer (some ⟨rb,0,none⟩) from hp 1 _ 23 (by kernel_rfl) rfl rfl)
   clear ho hp hpd hdn hvs
   unfold Oper.wp;go_simp
   exact⟨_,rfl,rfl,zAu rfl rfl rfl rfl rfl rfl rfl hI⟩
  | 3,ho,hz0,hpd,hp=>
   obtain rfl:=oI ho
   have p24:=eV (show a.eval (.tmp 24)= .pointer (some ⟨rb,0,none⟩) from hp 2 _ 24 (by kernel_rfl) rfl rfl)
   clear ho hp hpd hdn hvs
   unfold Oper.wp;go_simp
   exact⟨_,rfl,rfl,zAu rfl rfl rfl rfl rfl rfl rfl hI⟩
  | 4,ho,hz0,hpd,hp=>
   obtain rfl:=oI ho
   have p25:=eV (show a.eval (.tmp 25)= .pointer (some ⟨rb,0,none⟩) from hp 3 _ 25 (by kernel_rfl) rfl rfl)
   clear ho hp hpd hdn hvs
   unfold Oper.wp;go_simp
   exact⟨_,rfl,rfl,zAu rfl rfl rfl rfl rfl rfl rfl hI⟩
  | 5,ho,hz0,hpd,hp=>
   obtain rfl:=oI ho
   have h5:z 11=false:=(hdn 11 5 (of_decide_eq_true (by kernel_rfl)) (of_decide_eq_true (by kernel_rfl)) (by kernel_rfl) hz0)
   obtain⟨hE,hS,-,-⟩:=zBc h5 hI
   have o0:=bC hS.1.box 0;have o1:=bC hS.1.box 1;have o2:=bC hS.1.box 2;have o3:=bC hS.1.box 3;have o4:=bC hS.1.box 4;have ob:=bL hS.1.box
   have p26:=eV (show a.eval (.tmp 26)= .pointer (some ⟨rb,3,none⟩) from hp 4 _ 26 (by kernel_rfl) rfl rfl)
   clear ho hp hpd hdn hvs
   unfold Oper.wp;go_simp
   exact⟨_,rfl,rfl,zAu rfl rfl rfl rfl rfl rfl rfl hI⟩
  | 6,ho,hz0,hpd,hp=>
   obtain rfl:=oI ho
   clear ho hp hpd hdn hvs
   unfold Oper.wp;go_simp
   exact⟨_,rfl,rfl,zAu rfl rfl rfl rfl rfl rfl rfl hI⟩
  | 7,ho,hz0,hpd,hp=>
   obtain rfl:=oI ho
   have h5:z 11=false:=(hdn 11 10 (of_decide_eq_true (by kernel_rfl)) (of_decide_eq_true (by kernel_rfl)) (by kernel_rfl) (hdn 10 9 (of_decide_eq_true (by kernel_rfl)) (of_decide_eq_true (by kernel_rfl)) (by kernel_rfl) (hdn 9 7 (of_decide_eq_true (by kernel_rfl)) (of_decide_eq_true (by kernel_rfl)) (by kernel_rfl) hz0)))
   obtain⟨hE,hS,-,-⟩:=zBc h5 hI
   have hQx:=bX hE HX3.out;obtain⟨q0,q1,q2,q3,q4,q5,q6,q7,q8,q9,q10,q11⟩:=zIa hQx
   have p28:=eV (show a.eval (.tmp 28)= .pointer (some ⟨W.heap.size,0,none⟩) from hp 6 _ 28 (by kernel_rfl) rfl rfl)
   clear ho hp hpd hdn hvs
   unfold Oper.wp;go_simp
   exact⟨_,rfl,rfl,zAu rfl rfl rfl rfl rfl rfl rfl hI⟩
  | 8,ho,hz0,hpd,hp=>
   obtain rfl:=oI ho
   clear ho hp hpd hdn hvs
   unfold Oper.wp;go_simp
   exact⟨_,rfl,rfl,zAu rfl rfl rfl rfl rfl rfl rfl hI⟩
  | 9,ho,hz0,hpd,hp=>
   obtain rfl:=oI ho
   have p29:=eV (show a.eval (.tmp 29)= .string x.nm from hp 7 _ 29 (by kernel_rfl) rfl rfl)
   have p30:=eV (show a.eval (.tmp 30)= .agg #[.int .i64 0,.string ⟨#[]⟩,.int .i64 5,.slice none 0 0,.string ⟨#[]⟩,.int .i64 0,.int .i64 0,.int .i64 0] from hp 8 _ 30 (by kernel_rfl) rfl rfl)
   clear ho hp hpd hdn hvs
   unfold Oper.wp;go_simp
   exact⟨_,rfl,rfl,zAu rfl rfl rfl rfl rfl rfl rfl hI⟩
  | 10,ho,hz0,hpd,hp=>
   obtain rfl:=oI ho
   have h5:z 11=false:=(hdn 11 10 (of_decide_eq_true (by kernel_rfl)) (of_decide_eq_true (by kernel_rfl)) (by kernel_rfl) hz0)
   obtain⟨hE,hS,h3,-⟩:=zBc h5 hI
   have p31:=eV (show a.eval (.tmp 31)= .agg #[.string x.nm,.int .i64 0,.string ⟨#[]⟩,.int .i64 5,.slice none 0 0,.string ⟨#[]⟩,.int .i64 0,.int .i64 0,.int .i64 0,.bool true,.bool true,.int .i64 1] from hp 9 _ 31 (by kernel_rfl) rfl rfl)
   clear ho hp hpd hdn hvs hI
   unfold Oper.wp;go_simp
   exact⟨_,rfl,trivial,zDt h5 ⟨hE.trans (eA _ _),⟨hS.1.up (eA _ _),hS.2.trans (zBk (eA _ _))⟩,fun h=>(by rw [show zOu z 10 16=z 16 from rfl] at h;obtain⟨a,c,e,h'⟩:=h3 h;exact⟨a,c,e,h'.ext okA (eA _ _)⟩),fun _=>zAn okE _ ((⟨x.nm,kdN 5,true,true,1⟩:DeN)) [.string x.nm,.int .i64 0,.string ⟨#[]⟩,.int .i64 5,.slice none 0 0,.string ⟨#[]⟩,.int .i64 0,.int .i64 0,.int .i64 0,.bool true,.bool true,.int .i64 1] _ (by first | rfl | simp) ⟨_,zAj.nil _ _ _ _,rfl⟩⟩⟩
  | 11,ho,hz0,hpd,hp=>
   obtain rfl:=oI ho
   have h7:z 15=false:=(hdn 15 11 (of_decide_eq_true (by kernel_rfl)) (of_decide_eq_true (by kernel_rfl)) (by kernel_rfl) hz0)
   obtain⟨hE,hS,-,h4⟩:=zBc hz0 hI
   have hL:=h4 (hpd 10 (of_decide_eq_true (by kernel_rfl)) (by kernel_rfl))
   have p60:a.eval (.tmp 27)=ve:=hp 5 _ 27 (by kernel_rfl) rfl rfl
   refine zCO okE (.tmp 27) (.tmp 32) (by rfl) (ve) (vs 32) es [(⟨x.nm,kdN 5,true,true,1⟩:DeN)] w _ p60 (hvs 32 (of_decide_eq_true (by kernel_rfl))).symm hS.1.own hL hS.1.ext hS.1.ext.size (by have:=HLN.out;simp only [List.length_singleton];omega) ?_
   intro v6 w6 hap
   exact⟨v6,rfl,trivial,zH3 rfl h7 ⟨wx,hS,hap⟩⟩
  | 12,ho,hz0,hpd,hp=>
   obtain rfl:=oI ho
   have p22:=eV (show a.eval (.tmp 22)= .pointer (some ⟨rb,0,none⟩) from hp 0 _ 22 (by kernel_rfl) rfl rfl)
   clear ho hp hpd hdn hvs
   unfold Oper.wp;go_simp
   exact⟨_,rfl,rfl,zAu rfl rfl rfl rfl rfl rfl rfl hI⟩
  | 13,ho,hz0,hpd,hp=>
   obtain rfl:=oI ho
   have p34:=eV (show a.eval (.tmp 34)= .pointer (some ⟨rb,0,none⟩) from hp 12 _ 34 (by kernel_rfl) rfl rfl)
   clear ho hp hpd hdn hvs
   unfold Oper.wp;go_simp
   exact⟨_,rfl,rfl,zAu rfl rfl rfl rfl rfl rfl rfl hI⟩
  | 14,ho,hz0,hpd,hp=>
   obtain rfl:=oI ho
   have p35:=eV (show a.eval (.tmp 35)= .pointer (some ⟨rb,0,none⟩) from hp 13 _ 35 (by kernel_rfl) rfl rfl)
   clear ho hp hpd hdn hvs
   unfold Oper.wp;go_simp
   exact⟨_,rfl,rfl,zAu rfl rfl rfl rfl rfl rfl rfl hI⟩
  | 15,ho,hz0,hpd,hp=>
   obtain rfl:=oI ho
   have h5:z 11=true:=hpd 11 (of_decide_eq_true (by kernel_rfl)) (by kernel_rfl)
   obtain⟨V0,hS,hap⟩:=zH2 h5 hz0 hI
   have p36:=eV (show a.eval (.tmp 36)= .pointer (some ⟨rb,3,none⟩) from hp 14 _ 36 (by kernel_rfl) rfl rfl)
   obtain⟨v6,e6⟩:∃ v6,vs 33=v6:=⟨_,rfl⟩
   have p5:=eV (show a.eval (.tmp 33)=v6 from(hvs 33 (of_decide_eq_true (by kernel_rfl))).symm.trans e6)
   rw [e6] at hap
   obtain⟨a10,cap10,rfl⟩:=hap.own.form
   rw [zFI] at hap e6 p5
   have hou:=hS.1.app hap
   have o3:=bC hou 3
   have fo:∀ j,wx.frozen? ⟨rb,j,none⟩=false:=fun j=>bT hou j
   clear ho hp hpd hdn hvs hI
   unfold Oper.wp;go_simp
   refine⟨undef,trivial,(zDx (z:=zOu z 15) (vs:=zK9 vs none undef) (i5:=11) (i7:=15) h5 rfl).2 ?_⟩
   show RdS _ _ _ _ _ _ _ _ _ _/\KpR _ _ _ _ _
   rw [show zK9 vs none undef 33=vs 33 from rfl,e6]
   exact⟨(hS.1.step hap).1,hS.2.trans (hS.1.step hap).2⟩
  | i+16,ho,_,_,_=>exact absurd (Array.getElem?_eq_some_iff.1 ho).1 (by simp)
 ·intro z vs wx hz hI hf
  have hS9:=hQq ((zDx (hz 11 (of_decide_eq_true (by kernel_rfl))) (hz 15 (of_decide_eq_true (by kernel_rfl)))).1 hI)
  clear hf hz hI
  generalize hA:zAI _ _ _=A1
  have hA2:=hA.symm.trans (congrArg (fun D=>zAI _ D vs) (show zCE _ 16= [22,23,24,25,26,27,28,29,30,31,32,33,34,35,36] by kernel_rfl))
  rw [hA2]
  clear hA2 hA
  simp only [zAI,List.foldl,Act.put,List.setIfInBounds_toArray,List.set_cons_succ,List.set_cons_zero]
  go_wp2
  go_ret
  rw [HP.out]
  exact⟨rfl,hS9.out.1.ext,hS9.out.2,fun _=>⟨_,hS9.out.1⟩⟩
theorem zS3 (w W:World) (rb mb:Nat) (lv ve va:Value) (ls:List zAr) (o:Bool) (sn:ByteArray->Bool) (es:List DeN) (x:DeN) (h:RdS w rb mb lv ls o sn ve es W) (hv:zAK w.heap.size w va x.nd.ats) :
  Calls Tryz.prog 56 #[.pointer (some ⟨rb,0,none⟩),deV x va] W (RdP w rb mb lv ls o ve sn es (oqE x) W):=by
 have HS:=hQq h
 obtain⟨a3,cap3,rfl⟩:=hv.form
 clear h hv
 cases hk:zG5 x
 case false=>
  have HP:Hid (oqE x=6):=hQq (if_pos hk)
  have q1:=hQq hk
  clear hk
  go_enter Tryz.func56,Tryz.ntmps56
  go_wp2_with (go_at_call 121;refine(zGx x a3 cap3 _).mono ?_;rw [q1.out];rintro e w1 ⟨rfl,hb1⟩;have HX1:=hQq (bX hb1 (bN W (.cells #[.string x.nm,.int .i64 x.nd.dep,.string x.nd.nm,.int .i64 x.nd.kd,.slice a3 x.nd.ats.length cap3,.string x.nd.dat,.int .i64 x.nd.ma,.int .i64 x.nd.mi,.int .i64 x.nd.cl,.bool x.wh,.bool x.fi,.int .i64 x.ns] 66 (0,0))));have HE1:Hid (Ext W w1):=hQq ((eA _ _).trans hb1);have x0:=bC HX1.out 0;have hx1:=bL HX1.out;clear hb1)
  go_ret
  rw [HP.out]
  exact⟨rfl,HS.out.ext.trans HE1.out,zBk HE1.out,fun e=>absurd e (by decide)⟩
 have HP:Hid (oqE x=0):=hQq (if_neg (by simp [hk]))
 have q1:=hQq hk
 clear hk
 go_enter Tryz.func56,Tryz.ntmps56
 go_wp2_with (go_at_call 121;refine(zGx x a3 cap3 _).mono ?_;rw [q1.out];rintro e w1 ⟨rfl,hb1⟩;have HX1:=hQq (bX hb1 (bN W (.cells #[.string x.nm,.int .i64 x.nd.dep,.string x.nd.nm,.int .i64 x.nd.kd,.slice a3 x.nd.ats.length cap3,.string x.nd.dat,.int .i64 x.nd.ma,.int .i64 x.nd.mi,.int .i64 x.nd.cl,.bool x.wh,.bool x.fi,.int .i64 x.ns] 66 (0,0))));have HE1:Hid (Ext W w1):=hQq ((eA _ _).trans hb1);have x0:=bC HX1.out 0;have hx1:=bL HX1.out;clear hb1)
 go_ret
 rw [HP.out]
 exact⟨rfl,HS.out.ext.trans HE1.out,zBk HE1.out,fun _=>⟨_,HS.out.up HE1.out⟩⟩
theorem zU2 (w W:World) (rb mb:Nat) (lv ve v:Value) (ls:List zAr) (o:Bool) (sn:ByteArray->Bool) (es:List DeN) (x:DeN) (va:Value) (hv:v=deV x va) (h:RdS w rb mb lv ls o sn ve es W) :
  Calls Tryz.prog 57 #[.pointer (some ⟨rb,0,none⟩),v] W (RdP w rb mb lv ls o ve sn es 18 W):=by
 have HS:=hQq h
 subst hv
 clear h
 go_enter Tryz.func57,Tryz.ntmps57
 go_wp2
 go_ret
 exact⟨rfl,HS.out.ext.trans (eA _ _),zBk (eA _ _),fun e=>absurd e (by decide)⟩
theorem zU3 (x:DeN) (va:Value) (w:World):zAt Tryz.prog 53 #[deV x va] w (.bool (decide (x.nm=zDy))):=by
 unfold zAt
 have e1:(x.nm.toList == zLq)=decide (x.nm=zDy):=by
  rw [Bool.eq_iff_iff,beq_iff_eq,decide_eq_true_eq,tL]
  exact⟨fun h=>by unfold zDy;rw [<- h,zUl],fun h=>by rw [h];exact zMc _⟩
 rw [<- e1]
 unfold zLq
 go_enter Tryz.func53,Tryz.ntmps53
 go_wp2
 go_ret
 exact⟨rfl,eA _ _⟩
theorem zNE (B:Nat) (w:World) (v:Value) (l:List DeN) (hv:zVa B w v l) (hl:l.length<=1000000) :
  zAt Tryz.prog 119 #[v,.func (.func 53) #[] #[]] w (.int .i64 (zG1 (zRs l) l.length)):=by
 unfold zAt
 obtain⟨aa,cap,rfl⟩:=hv.form
 have HV:=hQq hv
 clear hv
 have he:∀ args w,(callFunc 53 args).run Tryz.prog w= .ok (.enter 53 args) w:=enters_of Tryz.func53 (by kernel_rfl) rfl
 go_enter Tryz.func119,Tryz.ntmps119
 go_wp2
 go_loopw [5,8] (fun _ i w'=>∃ (wi:World) (k:Nat),wi=w'/\k<=l.length/\i= .int .i64 k/\(∀ j,j < k->zRs l j=false)/\Ext w w') (fun _ i _=>l.length - (intOf i).toNat)
 case atStart=>exact⟨_,0,rfl,Nat.zero_le _,rfl,fun j hj=>absurd hj (by omega),bR _ _⟩
 case round=>
  obtain⟨wi,k,rfl,hk,rfl,hp,hb⟩:=hrel
  have HP:=hQq hp;clear hp
  have HB:=hQq hb;clear hb
  by_cases hlt:k < l.length
  case neg=>
   obtain rfl:k=l.length:=by omega
   have HR:=hQq (zCk HP.out)
   go_wp2
   go_ret
   exact⟨by rw [HR.out];rfl,HB.out⟩
  obtain⟨b,off,va,hex,hbx,hva,c0,c1,c2,c3,c4,c5,c6,c7,c8,c9,c10,c11⟩:=(HV.out.ext okE HB.out).en k hlt
  cases hex
  obtain⟨a6,cap6,rfl⟩:=hva.form
  have HKB:Hid (zRs l k=decide ((l[k]'hlt).nm=zDy)):=hQq (by unfold zRs;rw [zAy l k hlt])
  generalize l[k]'hlt=x at c0 c1 c2 c3 c4 c5 c6 c7 c8 c9 c10 c11 HKB hva
  clear hva
  have j1:((k:Nat):Int) < (l.length:Int):=by omega
  have j0:(0:Int)<=(k:Int):=by omega
  have HG:=hQq (zU3 x (.slice a6 x.nd.ats.length cap6) wi)
  unfold zAt deV at HG
  have HLT:=hQq hlt
  obtain⟨xw,hxw⟩:∃ xw,decide (x.nm=zDy)=xw:=⟨_,rfl⟩
  rw [hxw] at HG HKB
  clear hxw
  cases xw
  all_goals
   go_wp2_with (refine HG.out.mono ?_;rintro e w1 ⟨rfl,hb1⟩;replace HB:=hQq (Ext.trans HB.out hb1);clear hb1)
  ·have HN:Hid (∀ j,j < k+1->zRs l j=false):=by
    intro j hj
    by_cases e:j=k
    ·subst e;exact HKB.out
    ·exact HP.out j (by omega)
   go_roundw
   case rel=>exact⟨_,k+1,rfl,by omega,by go_num,HN.out,HB.out⟩
   case measure=>simp [intOf] <;> omega
  ·have HR:=hQq (zBX HLT.out HP.out HKB.out)
   go_ret
   exact⟨by rw [HR.out];rfl,HB.out⟩
theorem zS5 (B:Nat) (w:World) (v:Value) (l:List DeN) (hv:zVa B w v l) (hl:l.length<=1000000) :
  zAt Tryz.prog 52 #[v,.func (.func 53) #[] #[]] w (.bool (adO l)):=by
 unfold zAt
 have HV:=hQq hv
 obtain⟨aa,cap,rfl⟩:=hv.form
 clear hv
 rcases zIF (zRs l) l.length with h | ⟨i,hi,h2,h3⟩
 ·have HI:=hQq (zCk h)
  have HA:=hQq (zQi h)
  clear h
  go_enter Tryz.func52,Tryz.ntmps52
  go_wp2_with (refine(zNE B _ _ l HV.out hl).mono ?_;rintro e w1 ⟨rfl,hb1⟩;rw [HI.out];have HB:=hQq hb1;clear hb1)
  go_ret
  exact⟨by rw [HA.out];rfl,HB.out⟩
 ·have HI:=hQq (zBX hi h2 h3)
  have HA:=hQq (zQh hi h3)
  have j0:(0:Int)<=(i:Int):=by omega
  clear h2 h3
  go_enter Tryz.func52,Tryz.ntmps52
  go_wp2_with (refine(zNE B _ _ l HV.out hl).mono ?_;rintro e w1 ⟨rfl,hb1⟩;rw [HI.out];have HB:=hQq hb1;clear hb1)
  go_ret
  exact⟨by rw [HA.out];rfl,HB.out⟩
def snK (l:List DeN) (k:Nat):ByteArray->Bool:=fun y=>(List.range k).any fun j=>(bkW 3 (zA6 l j).nm == 1 || bkW 3 (zA6 l j).nm == 2) && decide (bkS 3 (zA6 l j).nm=y)
def rwE (o:Bool) (sn:ByteArray->Bool) (t:Int) (y:DeN):Int:=if t=4 then 18 else if t=1 then plE sn y else if t=2 then whE o sn y else oqE y
def rwS (sn:ByteArray->Bool) (t:Int) (y:DeN):ByteArray->Bool:=if t=1\/t=2 then snA y.nm sn else sn
def rwL (es:List DeN) (t:Int) (y:DeN):List DeN:=if t=1 then es ++ [y] else if t=2 then es ++ [⟨y.nm,kdN 5,true,true,1⟩] else es
theorem bk4 {s:ByteArray} (h:bkE 3 s=0):bkW 3 s=1\/bkW 3 s=2\/bkW 3 s=3\/bkW 3 s=4:=by
 rcases zE6 3 s with ⟨a1,_,_⟩ | ⟨_,a2,_⟩ | ⟨_,a2,_⟩ | ⟨_,a2,_⟩ | ⟨_,a2,_⟩
 ·rw [h] at a1;cases a1
 ·exact .inl a2
 ·exact .inr (.inl a2)
 ·exact .inr (.inr (.inl a2))
 ·exact .inr (.inr (.inr a2))
theorem zRE (l:List DeN) (k:Nat) (y:DeN) (hy:y.nm=bkS 3 (zA6 l k).nm):snK l (k+1)=rwS (snK l k) (bkW 3 (zA6 l k).nm) y:=by
 funext z
 unfold rwS snA
 rw [show snK l (k+1) z=(snK l k z || ((bkW 3 (zA6 l k).nm == 1 || bkW 3 (zA6 l k).nm == 2) && decide (bkS 3 (zA6 l k).nm=z))) from by unfold snK;rw [List.range_succ,List.any_append];simp]
 rw [hy]
 by_cases h:bkW 3 (zA6 l k).nm=1\/bkW 3 (zA6 l k).nm=2
 ·rw [if_pos h]
  have:(bkW 3 (zA6 l k).nm == 1 || bkW 3 (zA6 l k).nm == 2)=true:=by
   rcases h with h | h <;> rw [h] <;> rfl
  rw [this,Bool.true_and,Bool.or_comm]
 ·rw [if_neg h]
  have:(bkW 3 (zA6 l k).nm == 1 || bkW 3 (zA6 l k).nm == 2)=false:=by
   rw [Bool.or_eq_false_iff,beq_eq_false_iff_ne,beq_eq_false_iff_ne]
   exact⟨fun e=>h (.inl e),fun e=>h (.inr e)⟩
  rw [this,Bool.false_and,Bool.or_false]
theorem zS7 (l:List DeN) (k:Nat) (hk:k < l.length) (y:DeN) (hy:y= {zA6 l k with nm:=bkS 3 (zA6 l k).nm}) (h4:bkW 3 (zA6 l k).nm ≠ 4) (hb:bkE 3 (zA6 l k).nm=0):adL (l.take (k+1))=rwL (adL (l.take k)) (bkW 3 (zA6 l k).nm) y:=by
 unfold adL
 rw [List.take_succ_eq_append_getElem hk,List.filter_append,List.map_append]
 rw [<- zAy l k hk]
 generalize zA6 l k=x at hy h4 hb ⊢
 subst hy
 unfold rwL
 rcases bk4 hb with h | h | h | h
 ·rw [if_pos h]
  have:(bkW 3 x.nm != 3)=true:=by rw [h];rfl
  simp only [List.filter_cons,this,List.filter_nil,if_true,List.map_cons,List.map_nil]
  rw [show adX x= {x with nm:=bkS 3 x.nm} from if_neg (by rw [h];decide)]
 ·rw [if_neg (by rw [h];decide),if_pos h]
  have:(bkW 3 x.nm != 3)=true:=by rw [h];rfl
  simp only [List.filter_cons,this,List.filter_nil,if_true,List.map_cons,List.map_nil]
  rw [show adX x=⟨bkS 3 x.nm,kdN 5,true,true,1⟩ from if_pos h]
 ·rw [if_neg (by rw [h];decide),if_neg (by rw [h];decide)]
  have:(bkW 3 x.nm != 3)=false:=by rw [h];rfl
  simp [this]
 ·exact absurd h h4
theorem zWj (o:Bool) (l:List DeN) (k:Nat) (y:DeN) (hy:y= {zA6 l k with nm:=bkS 3 (zA6 l k).nm}) (hb:bkE 3 (zA6 l k).nm=0):adE o l k=rwE o (snK l k) (bkW 3 (zA6 l k).nm) y:=by
 have hd:zRt l k=snK l k y.nm:=by subst hy;rfl
 have he:zG5 (zA6 l k)=zG5 y:=by subst hy;rfl
 have hkd:(zA6 l k).nd.kd=y.nd.kd:=by subst hy;rfl
 unfold adE rwE plE whE oqE
 rw [if_neg (by simp [hb]),hd,he,hkd]
 rcases bk4 hb with h | h | h | h <;> rw [h]
 ·cases h1:snK l k y.nm <;> by_cases h2:y.nd.kd=5 <;> simp [h2]
 ·cases h1:snK l k y.nm <;> cases h2:zG5 y <;> cases o <;> simp
 ·cases h2:zG5 y <;> simp
 ·simp
theorem zWH (o:Bool) (sn:ByteArray->Bool) (es:List DeN) (y:DeN):rwE o sn 1 y=plE sn y/\rwS sn 1 y=snA y.nm sn/\rwL es 1 y=es ++ [y]:=⟨by unfold rwE;simp,by unfold rwS;simp,by unfold rwL;simp⟩
theorem zWG (o:Bool) (sn:ByteArray->Bool) (es:List DeN) (y:DeN):rwE o sn 2 y=whE o sn y/\rwS sn 2 y=snA y.nm sn/\rwL es 2 y=es ++ [⟨y.nm,kdN 5,true,true,1⟩]:=⟨by unfold rwE;simp,by unfold rwS;simp,by unfold rwL;simp⟩
theorem zWF (o:Bool) (sn:ByteArray->Bool) (es:List DeN) (y:DeN):rwE o sn 3 y=oqE y/\rwS sn 3 y=sn/\rwL es 3 y=es:=⟨by unfold rwE;simp,by unfold rwS;simp,by unfold rwL;simp⟩
theorem zVv (o:Bool) (sn:ByteArray->Bool) (es:List DeN) (y:DeN):rwE o sn 4 y=18/\rwS sn 4 y=sn/\rwL es 4 y=es:=⟨by unfold rwE;simp,by unfold rwS;simp,by unfold rwL;simp⟩
theorem zU7 (l:List DeN) (k:Nat):(adL (l.take k)).length<=k:=by
 unfold adL
 rw [List.length_map]
 refine Nat.le_trans (List.length_filter_le _ _) ?_
 rw [List.length_take];omega
structure DhI (w:World) (rb mb tb:Nat) (tab:Array Value) (tt:TypeId) (lv:Value) (ls:List zAr) (o:Bool) (sn:ByteArray->Bool) (ve:Value) (es:List DeN) (W:World):Prop where
 st:RdS w rb mb lv ls o sn ve es W
 tab:W.heap[tb]? = some (.cells tab tt (0,0))
 res:W.heap[w.heap.size+1]? = some (.cells #[.slice none 0 0,.bool false,.slice none 0 0,.slice none 0 0] 26 (0,0))
 ext:Ext w W
theorem DhI.up {w W V:World} {rb mb tb:Nat} {tab:Array Value} {tt:TypeId} {lv ve:Value} {ls:List zAr} {o:Bool} {sn:ByteArray->Bool} {es:List DeN} (h:DhI w rb mb tb tab tt lv ls o sn ve es W) (he:Ext W V):DhI w rb mb tb tab tt lv ls o sn ve es V:=
 ⟨h.st.up he,bX he h.tab,bX he h.res,h.ext.trans he⟩
theorem DhI.call {w W V:World} {rb mb tb:Nat} {tab:Array Value} {tt:TypeId} {lv ve:Value} {ls:List zAr} {o:Bool} {sn:ByteArray->Bool} {es:List DeN} (h:DhI w rb mb tb tab tt lv ls o sn ve es W) (hk:KpR rb mb ve.ownBlock W V) (h1:tb ≠ rb) (h2:tb ≠ mb) (h3:w.heap.size+1 < rb) (h4:w.heap.size+1 < mb) (ht:tt ≠ 66) :
  V.heap[tb]? = some (.cells tab tt (0,0))/\V.heap[w.heap.size+1]? = some (.cells #[.slice none 0 0,.bool false,.slice none 0 0,.slice none 0 0] 26 (0,0)):=
 ⟨hk.2 _ _ h.tab h1 h2 (fun e=>by obtain⟨_,c,f,h9⟩:=h.st.own.row rfl _ e;have h8:=h.tab;rw [h9] at h8;cases h8;exact ht rfl),hk.2 _ _ h.res (by omega) (by omega) (zCQ h.st.own h.res)⟩
def InI (w:World) (rb mb tb:Nat) (tab:Array Value) (tt:TypeId) (lv:Value) (ls:List zAr) (o:Bool) (sn:ByteArray->Bool) (ve:Value) (es:List DeN) (xb:Nat) (xc:Array Value) (t:Int) (y:DeN) (j:Nat) (e:Value) (W:World):Prop:=
 W.heap[tb]? = some (.cells tab tt (0,0))/\W.heap[w.heap.size+1]? = some (.cells #[.slice none 0 0,.bool false,.slice none 0 0,.slice none 0 0] 26 (0,0))/\Ext w W /\
 ((j:Int) < t->e= .int .i64 0/\RdS w rb mb lv ls o sn ve es W/\W.heap[xb]? = some (.cells xc 66 (0,0))) /\
 (t<=(j:Int)->e= .int .i64 (rwE o sn t y)/\(rwE o sn t y=0->∃ ve',RdS w rb mb lv ls o (rwS sn t y) ve' (rwL es t y) W))
section
variable {w W V:World} {rb mb tb:Nat} {tab:Array Value} {tt:TypeId} {lv ve:Value} {ls:List zAr} {o:Bool} {sn:ByteArray->Bool} {es:List DeN} {xb:Nat} {xc:Array Value} {t:Int} {y:DeN} {j:Nat} {e:Value}
theorem InI.skip (h:InI w rb mb tb tab tt lv ls o sn ve es xb xc t y j e W) (hne:t ≠ (j:Int)+1) (he:Ext W V):InI w rb mb tb tab tt lv ls o sn ve es xb xc t y (j+1) e V:=
 ⟨bX he h.1,bX he h.2.1,h.2.2.1.trans he,fun hj=>have g:=h.2.2.2.1 (by omega);⟨g.1,g.2.1.up he,bX he g.2.2⟩,fun hj=>have g:=h.2.2.2.2 (by omega);⟨g.1,fun e0=>(g.2 e0).imp fun _ r=>r.up he⟩⟩
theorem InI.done (h:InI w rb mb tb tab tt lv ls o sn ve es xb xc t y j e W) (ht:t=(j:Int)+1) (hk:KpR rb mb ve.ownBlock W V) (hx:Ext w V) (hr:rwE o sn t y=0->∃ ve',RdS w rb mb lv ls o (rwS sn t y) ve' (rwL es t y) V) (h1:tb ≠ rb) (h2:tb ≠ mb) (h3:w.heap.size+1 < rb) (h4:w.heap.size+1 < mb) (htt:tt ≠ 66) :
  InI w rb mb tb tab tt lv ls o sn ve es xb xc t y (j+1) (.int .i64 (rwE o sn t y)) V:=by
 obtain⟨-,g,-⟩:=h.2.2.2.1 (by omega)
 obtain⟨q1,q2⟩:=DhI.call ⟨g,h.1,h.2.1,h.2.2.1⟩ hk h1 h2 h3 h4 htt
 exact⟨q1,q2,hx,fun hj=>absurd hj (by omega),fun _=>⟨rfl,hr⟩⟩
theorem RdS.setO (h:RdS w rb mb lv ls o sn ve es V) (o':Bool):RdS w rb mb lv ls o' sn ve es (V.setCell ⟨rb,1,none⟩ (.bool o'))/\zAA (some rb) V (V.setCell ⟨rb,1,none⟩ (.bool o')):=by
 have hc:Chg w.heap.size 78 (some rb) V (V.setCell ⟨rb,1,none⟩ (.bool o')):=⟨fun b o hb hne=>bSn hb _ _ (fun e=>hne (by rw [e])),by simp [World.setCell],fun g hg=>by cases hg;exact⟨h.rbl,_,_,h.box⟩⟩
 obtain⟨n,hm⟩:=h.map
 exact⟨⟨bS h.box _,⟨n,hm.setCell _ _⟩,h.own.other okE hc (by decide) (by decide),h.ats.chg okA hc (by decide) (by decide),h.rbl,h.mbl,Below.setCell (p:=⟨rb,1,none⟩) h.ext h.rbl _⟩,hc.keep⟩
end
theorem zBA (B:Nat) (w:World) (v:Value) (d:DiN) (hd:zBK B w v d) (hB:B<=w.heap.size) (hsm:zGH d) :
  Calls Tryz.prog 15 #[v] w (zXF w.heap.size w (arD d) (arN d) (arE d)):=by
 have HD:=hQq hd
 obtain⟨va,vr,ve,rfl,ha,hr,he⟩:=hd
 have HA:=hQq ha;have HR:=hQq hr;have HE:=hQq he;have HSM:=hQq hsm
 obtain⟨a3,cap3,rfl⟩:=ha.form
 obtain⟨a4,cap4,rfl⟩:=hr.form
 obtain⟨a5,cap5,rfl⟩:=he.form
 have hlen:=hsm.len
 clear ha hr he hsm
 by_cases e1:zDA d=0
 case neg=>
  have HX:=hQq (zDS (zQ6 e1))
  have q1:(zDA d != 0)=true:=bne_iff_ne.2 e1
  clear e1
  go_enter Tryz.func15,Tryz.ntmps15
  go_wp2_with (go_at_call 40;refine(zCG B _ _ d (HD.out.ext ((eA _ _).trans (eA _ _))) HSM.out).mono ?_;rintro e w1 ⟨rfl,hb1⟩;have q2:w1.heap[w.heap.size+1]? = some (.cells #[.slice none 0 0,.bool false,.slice none 0 0,.slice none 0 0] 26 (0,0)):=bX hb1 (zAH (by simp));obtain⟨r0,r1,r2,r3⟩:=b4C q2;have fz:∀ j,w1.frozen? ⟨w.heap.size+1,j,none⟩=false:=fun j=>bT q2 j;have Q2:=hQq q2;have hz2:=bL q2;clear q2;have q1:w1.heap[w.heap.size]? = some (.cells #[.slice a3 d.ats.length cap3,.bool d.opq,.slice a4 d.red.length cap4,.slice a5 d.ens.length cap5] 26 (0,0)):=bX hb1 (bA (bN w _));obtain⟨k0,k1,k2,k3⟩:=b4C q1;have Q1:=hQq q1;have hz1:=bL q1;clear q1;have HB1:=hQq (((eA _ _).trans (eA _ _)).trans hb1);clear hb1)
  refine nW (P:=fun W=>bodyPost _ _ _ _ _ W) _ ?_
  intro W2 hW2
  obtain⟨hq,hx,hc⟩:=zMq Q2.out (by omega) HB1.out hW2
  refine bodyPost_ret (v:=.tuple #[.agg #[.slice none 0 0,.bool false,.slice none 0 0,.slice none 0 0],.int .i64 (zQx d),.int .i64 (zDA d)]) (by simp [results,Tryz.f15,go_sem,bC hq 0,bC hq 1,bC hq 2,bC hq 3]) rfl ?_
  exact⟨⟨_,by rw [HX.out.2.1,HX.out.2.2],by rw [HX.out.1];exact zC9 _ _⟩,hx⟩
 have q1:(zDA d != 0)=false:=bne_eq_false_iff_eq.2 e1
 have E1:=hQq e1
 clear e1
 cases ho:d.opq
 case true=>
  have HX:=hQq (zDS (zJT E1.out (.inl ho)))
  rw [ho] at HD
  go_enter Tryz.func15,Tryz.ntmps15
  go_wp2_with (go_at_call 40;refine(zCG B _ _ d (HD.out.ext ((eA _ _).trans (eA _ _))) HSM.out).mono ?_;rintro e w1 ⟨rfl,hb1⟩;have q2:w1.heap[w.heap.size+1]? = some (.cells #[.slice none 0 0,.bool false,.slice none 0 0,.slice none 0 0] 26 (0,0)):=bX hb1 (zAH (by simp));obtain⟨r0,r1,r2,r3⟩:=b4C q2;have fz:∀ j,w1.frozen? ⟨w.heap.size+1,j,none⟩=false:=fun j=>bT q2 j;have Q2:=hQq q2;have hz2:=bL q2;clear q2;have q1:w1.heap[w.heap.size]? = some (.cells #[.slice a3 d.ats.length cap3,.bool true,.slice a4 d.red.length cap4,.slice a5 d.ens.length cap5] 26 (0,0)):=bX hb1 (bA (bN w _));obtain⟨k0,k1,k2,k3⟩:=b4C q1;have Q1:=hQq q1;have hz1:=bL q1;clear q1;have HB1:=hQq (((eA _ _).trans (eA _ _)).trans hb1);clear hb1)
  refine nW (P:=fun W=>bodyPost _ _ _ _ _ W) _ ?_
  intro W2 hW2
  obtain⟨hq,hx,hc⟩:=zMq Q2.out (by omega) HB1.out hW2
  refine bodyPost_ret (v:=.tuple #[.agg #[.slice none 0 0,.bool false,.slice none 0 0,.slice none 0 0],.int .i64 (-1),.int .i64 6]) (by simp [results,Tryz.f15,go_sem,bC hq 0,bC hq 1,bC hq 2,bC hq 3]) rfl ?_
  exact⟨⟨_,by rw [HX.out.2.1,HX.out.2.2],by rw [HX.out.1];exact zC9 _ _⟩,hx⟩
 rw [ho] at HD
 by_cases e2:0 < d.red.length
 case pos=>
  have HX:=hQq (zDS (zJT E1.out (.inr e2)))
  have j2:(0:Int) < (d.red.length:Int):=by omega
  go_enter Tryz.func15,Tryz.ntmps15
  go_wp2_with (go_at_call 40;refine(zCG B _ _ d (HD.out.ext ((eA _ _).trans (eA _ _))) HSM.out).mono ?_;rintro e w1 ⟨rfl,hb1⟩;have q2:w1.heap[w.heap.size+1]? = some (.cells #[.slice none 0 0,.bool false,.slice none 0 0,.slice none 0 0] 26 (0,0)):=bX hb1 (zAH (by simp));obtain⟨r0,r1,r2,r3⟩:=b4C q2;have fz:∀ j,w1.frozen? ⟨w.heap.size+1,j,none⟩=false:=fun j=>bT q2 j;have Q2:=hQq q2;have hz2:=bL q2;clear q2;have q1:w1.heap[w.heap.size]? = some (.cells #[.slice a3 d.ats.length cap3,.bool false,.slice a4 d.red.length cap4,.slice a5 d.ens.length cap5] 26 (0,0)):=bX hb1 (bA (bN w _));obtain⟨k0,k1,k2,k3⟩:=b4C q1;have Q1:=hQq q1;have hz1:=bL q1;clear q1;have HB1:=hQq (((eA _ _).trans (eA _ _)).trans hb1);clear hb1)
  refine nW (P:=fun W=>bodyPost _ _ _ _ _ W) _ ?_
  intro W2 hW2
  obtain⟨hq,hx,hc⟩:=zMq Q2.out (by omega) HB1.out hW2
  refine bodyPost_ret (v:=.tuple #[.agg #[.slice none 0 0,.bool false,.slice none 0 0,.slice none 0 0],.int .i64 (-1),.int .i64 6]) (by simp [results,Tryz.f15,go_sem,bC hq 0,bC hq 1,bC hq 2,bC hq 3]) rfl ?_
  exact⟨⟨_,by rw [HX.out.2.1,HX.out.2.2],by rw [HX.out.1];exact zC9 _ _⟩,hx⟩
 have HO2:=hQq ho
 have E2:Hid (¬ (d.opq=true\/0 < d.red.length)):=hQq (by rw [ho];intro h;rcases h with h | h;cases h;exact e2 h)
 have j2:¬ (0:Int) < (d.red.length:Int):=by omega
 clear e2 ho
 have hmm:=@run_makeMap Tryz.prog
 go_enter Tryz.func15,Tryz.ntmps15
 go_upto_region 7 with (first
  | (go_at_call 40;refine(zCG B _ _ d (HD.out.ext ((eA _ _).trans (eA _ _))) HSM.out).mono ?_;rintro e w1 ⟨rfl,hb1⟩;have q2:w1.heap[w.heap.size+1]? = some (.cells #[.slice none 0 0,.bool false,.slice none 0 0,.slice none 0 0] 26 (0,0)):=bX hb1 (zAH (by simp));obtain⟨r0,r1,r2,r3⟩:=b4C q2;have fz:∀ j,w1.frozen? ⟨w.heap.size+1,j,none⟩=false:=fun j=>bT q2 j;have Q2:=hQq q2;have hz2:=bL q2;clear q2;have q1:w1.heap[w.heap.size]? = some (.cells #[.slice a3 d.ats.length cap3,.bool false,.slice a4 d.red.length cap4,.slice a5 d.ens.length cap5] 26 (0,0)):=bX hb1 (bA (bN w _));obtain⟨k0,k1,k2,k3⟩:=b4C q1;have Q1:=hQq q1;have hz1:=bL q1;clear q1;have HB1:=hQq (((eA _ _).trans (eA _ _)).trans hb1);clear hb1)
  | (go_at_call 41;refine(zF9 _ d.ats _ ((HA.out.ext okA HB1.out).attrs) (HSM.out.atl)).mono ?_;rintro e w2 ⟨⟨a7,cap7,rfl,ho⟩,hb2⟩;have HO:=hQq (show zAK w.heap.size w2 (.slice a7 d.ats.length cap7) d.ats from ho.toIn);clear r0 r1 r2 r3 fz k0 k1 k2 k3 hz1 hz2;have q2:w2.heap[w.heap.size+1]? = some (.cells #[.slice none 0 0,.bool false,.slice none 0 0,.slice none 0 0] 26 (0,0)):=bX hb2 Q2.out;obtain⟨r0,r1,r2,r3⟩:=b4C q2;have fz:∀ j,w2.frozen? ⟨w.heap.size+1,j,none⟩=false:=fun j=>bT q2 j;have Q2:=hQq q2;have hz2:=bL q2;clear q2;have q1:w2.heap[w.heap.size]? = some (.cells #[.slice a3 d.ats.length cap3,.bool false,.slice a4 d.red.length cap4,.slice a5 d.ens.length cap5] 26 (0,0)):=bX hb2 Q1.out;obtain⟨k0,k1,k2,k3⟩:=b4C q1;have Q1:=hQq q1;have hz1:=bL q1;clear q1;have HB2:=hQq (HB1.out.trans hb2);clear hb2 ho)
  | fail)
 refine nW (P:=fun W=>Code.wp _ _ _ _ W) _ ?_
 intro W3 hW
 have HB3:Hid (Ext w2 W3):=hQq (by rw [hW];exact(eA _ _).trans (eA _ _))
 have HR3:Hid (RdS w (w2.heap.size+1) w2.heap.size (.slice a7 d.ats.length cap7) d.ats false (fun _=>false) (.slice none 0 0) [] W3):=hQq (by
  have h1:=HB2.out.size
  refine⟨by rw [hW];exact zAH (by simp),⟨0,?_⟩,zAg.nil _ _ _,HO.out.ext okA HB3.out,by omega,h1,HB2.out.trans HB3.out⟩
  rw [hW]
  exact((zBI w2 kS).ext (eA _ _)).same fun x=>(if_neg Bool.false_ne_true).symm)
 have HBO:Hid (w.heap.size+1 < w2.heap.size):=hQq hz2
 clear hW hmm
 clear r0 r1 r2 r3 fz k0 k1 k2 k3 hz1 hz2;have q2:W3.heap[w.heap.size+1]? = some (.cells #[.slice none 0 0,.bool false,.slice none 0 0,.slice none 0 0] 26 (0,0)):=bX HB3.out Q2.out;obtain⟨r0,r1,r2,r3⟩:=b4C q2;have fz:∀ j,W3.frozen? ⟨w.heap.size+1,j,none⟩=false:=fun j=>bT q2 j;have Q2:=hQq q2;have hz2:=bL q2;clear q2
 have q1:W3.heap[w.heap.size]? = some (.cells #[.slice a3 d.ats.length cap3,.bool false,.slice a4 d.red.length cap4,.slice a5 d.ens.length cap5] 26 (0,0)):=bX HB3.out Q1.out;obtain⟨k0,k1,k2,k3⟩:=b4C q1;have Q1:=hQq q1;have hz1:=bL q1;clear q1
 go_upto_region 9 with (go_at_call 52;refine(zS5 B _ _ d.ens (HE.out.ext okE (HB2.out.trans HB3.out)) (by have:=HSM.out.len;omega)).mono ?_;rintro e w4 ⟨rfl,hb4⟩;have HB4:=hQq hb4;clear r0 r1 r2 r3 fz k0 k1 k2 k3 hz1 hz2;have q2:w4.heap[w.heap.size+1]? = some (.cells #[.slice none 0 0,.bool false,.slice none 0 0,.slice none 0 0] 26 (0,0)):=bX hb4 Q2.out;obtain⟨r0,r1,r2,r3⟩:=b4C q2;have fz:∀ j,w4.frozen? ⟨w.heap.size+1,j,none⟩=false:=fun j=>bT q2 j;have Q2:=hQq q2;have hz2:=bL q2;clear q2;have q1:w4.heap[w.heap.size]? = some (.cells #[.slice a3 d.ats.length cap3,.bool false,.slice a4 d.red.length cap4,.slice a5 d.ens.length cap5] 26 (0,0)):=bX hb4 Q1.out;obtain⟨k0,k1,k2,k3⟩:=b4C q1;have Q1:=hQq q1;have hz1:=bL q1;clear q1;have HR4:=hQq (HR3.out.up hb4);have s0:=bC HR4.out.box 0;have s1:=bC HR4.out.box 1;have s2:=bC HR4.out.box 2;have s3:=bC HR4.out.box 3;have s4:=bC HR4.out.box 4;have fs:∀ j,w4.frozen? ⟨w2.heap.size+1,j,none⟩=false:=fun j=>bT HR4.out.box j;have hz3:=bL HR4.out.box;clear hb4)
 refine nW (P:=fun W=>Code.wp _ _ _ _ W) _ ?_
 intro W5 hW
 replace hW:W5=(w4.setCell ⟨w2.heap.size+1,1,none⟩ (.bool (adO d.ens))).alloc _:=hW
 obtain⟨h5,h6⟩:=HR4.out.setO (adO d.ens)
 obtain⟨tt,htab,htt⟩:∃ tt:TypeId,W5.heap[w4.heap.size]? = some (.cells #[.int .i64 1,.func (.func 54) #[.pointer (some ⟨w2.heap.size+1,0,none⟩)] #[],.int .i64 2,.func (.func 55) #[.pointer (some ⟨w2.heap.size+1,0,none⟩)] #[],.int .i64 3,.func (.func 56) #[.pointer (some ⟨w2.heap.size+1,0,none⟩)] #[],.int .i64 4,.func (.func 57) #[.pointer (some ⟨w2.heap.size+1,0,none⟩)] #[]] tt (0,0))/\tt ≠ 66:=by
  rw [hW]
  exact⟨_,zAH (by simp [World.setCell]),by decide⟩
 have HE5:Hid (Ext (w4.setCell ⟨w2.heap.size+1,1,none⟩ (.bool (adO d.ens))) W5):=hQq (by rw [hW];exact eA _ _)
 have HTT:=hQq htt
 have HI5:Hid (DhI w (w2.heap.size+1) w2.heap.size w4.heap.size #[.int .i64 1,.func (.func 54) #[.pointer (some ⟨w2.heap.size+1,0,none⟩)] #[],.int .i64 2,.func (.func 55) #[.pointer (some ⟨w2.heap.size+1,0,none⟩)] #[],.int .i64 3,.func (.func 56) #[.pointer (some ⟨w2.heap.size+1,0,none⟩)] #[],.int .i64 4,.func (.func 57) #[.pointer (some ⟨w2.heap.size+1,0,none⟩)] #[]] tt (.slice a7 d.ats.length cap7) d.ats (adO d.ens) (fun _=>false) (.slice none 0 0) [] W5):=hQq ⟨h5.up HE5.out,htab,bX HE5.out (h6 _ _ Q2.out (fun e=>by have:=HBO.out;injection e with e;omega)),h5.ext.trans HE5.out⟩
 have Q5:=bX HE5.out (h6 _ _ Q1.out (fun e=>by have:=HBO.out;injection e with e;omega))
 have HTB:Hid (w2.heap.size+1 < w4.heap.size):=hQq hz3
 clear hW h5 h6 htab htt r0 r1 r2 r3 fz k0 k1 k2 k3 hz1 hz2 hz3 s0 s1 s2 s3 s4 fs
 have k3:=bC Q5 3
 have hz1:=bL Q5
 clear Q5
 go_wp2
 go_loopw [65] (fun i w'=>∃ (wi:World) (k:Nat) (ve:Value),wi=w'/\k<=d.ens.length/\i= .int .i64 k/\(∀ j,j < k->adE (adO d.ens) d.ens j=0)/\DhI w (w2.heap.size+1) w2.heap.size w4.heap.size #[.int .i64 1,.func (.func 54) #[.pointer (some ⟨w2.heap.size+1,0,none⟩)] #[],.int .i64 2,.func (.func 55) #[.pointer (some ⟨w2.heap.size+1,0,none⟩)] #[],.int .i64 3,.func (.func 56) #[.pointer (some ⟨w2.heap.size+1,0,none⟩)] #[],.int .i64 4,.func (.func 57) #[.pointer (some ⟨w2.heap.size+1,0,none⟩)] #[]] tt (.slice a7 d.ats.length cap7) d.ats (adO d.ens) (snK d.ens k) ve (adL (d.ens.take k)) wi) (fun i _=>d.ens.length - (intOf i).toNat)
 case atStart=>exact⟨_,0,_,rfl,Nat.zero_le _,rfl,fun j hj=>absurd hj (by omega),HI5.out⟩
 case round=>
  clear HI5 HE5 k3 hz1
  obtain⟨wi,k,ve,rfl,hk,rfl,hok,hi⟩:=hrel
  obtain⟨es,hes⟩:∃ es,es=adL (d.ens.take k):=⟨_,rfl⟩
  obtain⟨sn,hsn⟩:∃ sn,sn=snK d.ens k:=⟨_,rfl⟩
  rw [<- hes,<- hsn] at hi
  have HES:=hQq hes;have HSN:=hQq hsn;have HOK:=hQq hok;have HI:=hQq hi
  have HLN:Hid (es.length<=k):=hQq (by rw [hes];exact zU7 _ _)
  clear hes hsn hok
  obtain⟨a8,cap8,rfl⟩:=hi.st.own.form
  clear hi
  obtain⟨r0,r1,r2,r3⟩:=b4C HI.out.res
  have fz:∀ j,wi.frozen? ⟨w.heap.size+1,j,none⟩=false:=fun j=>bT HI.out.res j
  have hb0:=bL HI.out.res
  by_cases hlt:k < d.ens.length
  case neg=>
   obtain rfl:k=d.ens.length:=by omega
   have HTK:Hid (es=adL d.ens):=hQq (by rw [HES.out,List.take_length])
   have HX:=hQq (zDS (zNA E1.out E2.out (by rw [zP7 HOK.out])))
   have s0:=bC HI.out.st.box 0;have s1:=bC HI.out.st.box 1;have s2:=bC HI.out.st.box 2;have s3:=bC HI.out.st.box 3;have s4:=bC HI.out.st.box 4
   have hs9:=bL HI.out.st.box
   have HLE:Hid (es.length<=1000):=hQq (by have:=HLN.out;omega)
   go_wp2_with (go_at_call 46;refine(zJX w.heap.size _ es _ HI.out.st.own HI.out.ext.size HLE.out).mono ?_;rintro e w7 ⟨rfl,hs⟩;have HS:=hQq hs;have HR7:=hQq (hs.2.2.keep _ _ HI.out.res (zCQ HI.out.st.own HI.out.res));have HU7:=hQq (hs.2.2.keep _ _ HI.out.st.box HI.out.st.noB);clear hs r0 r1 r2 r3 s0 s1 s2 s3 s4 fz;obtain⟨r0,r1,r2,r3⟩:=b4C HR7.out;have fz:∀ j,w7.frozen? ⟨w.heap.size+1,j,none⟩=false:=fun j=>bT HR7.out j;have s0:=bC HU7.out 0;have s1:=bC HU7.out 1;have s2:=bC HU7.out 2;have s3:=bC HU7.out 3;have s4:=bC HU7.out 4;have hs8:=bL HU7.out)
   obtain⟨m,hm1,hm2,hm3⟩:=HS.out.1
   have HM:=hQq (zF8 (zRg HX.out.2.2) (by rw [<- HTK.out];exact hm1) hm2)
   have HM3:=hQq hm3
   have HE7:Hid (Ext w w7):=hQq (Below.trans HI.out.ext HS.out.2.1)
   refine nW (P:=fun W=>bodyPost _ _ _ _ _ W) _ ?_
   intro W2 hW2
   obtain⟨hq,hx,hc⟩:=zMq HR7.out (by omega) HE7.out hW2
   refine bodyPost_ret (v:=.tuple #[.agg #[.slice a7 d.ats.length cap7,.bool (adO d.ens),.slice none 0 0,.slice a8 es.length cap8],.int .i64 0,.int .i64 0]) (by simp [results,Tryz.f15,go_sem,bC hq 0,bC hq 1,bC hq 2,bC hq 3]) rfl ?_
   exact⟨⟨_,by rw [HX.out.2.1,HX.out.2.2],by rw [HX.out.1];exact⟨_,_,_,rfl,(HI.out.st.ats.chg okA HS.out.2.2 (by decide) (by decide)).chg okA (hcB (Nat.le_refl _) hc HR7.out) (by decide) (by decide),zCc _ _ _,by have h:=HM3.out.chg okE (hcB (Nat.le_refl _) hc HR7.out) (by decide) (by decide);rw [HM.out] at h;exact h⟩⟩,hx⟩
  obtain⟨b,off,va,hex,hbx,hva,g0,g1,g2,g3,g4,g5,g6,g7,g8,g9,g10,g11⟩:=HE.out.en k hlt
  cases hex
  have c0:=(eC HI.out.ext hbx).trans g0;have c1:=(eC HI.out.ext hbx).trans g1;have c2:=(eC HI.out.ext hbx).trans g2;have c3:=(eC HI.out.ext hbx).trans g3;have c4:=(eC HI.out.ext hbx).trans g4;have c5:=(eC HI.out.ext hbx).trans g5;have c6:=(eC HI.out.ext hbx).trans g6;have c7:=(eC HI.out.ext hbx).trans g7;have c8:=(eC HI.out.ext hbx).trans g8;have c9:=(eC HI.out.ext hbx).trans g9;have c10:=(eC HI.out.ext hbx).trans g10;have c11:=(eC HI.out.ext hbx).trans g11
  clear g0 g1 g2 g3 g4 g5 g6 g7 g8 g9 g10 g11
  have HVA:Hid (zAK w.heap.size w va (d.ens[k]'hlt).nd.ats):=hQq (hva.mono okA hB)
  obtain⟨a6,cap6,rfl⟩:=hva.form
  have HG:=hQq (zAy d.ens k hlt)
  have HMEM:=hQq (HSM.out.ens _ (List.getElem_mem hlt))
  obtain⟨x,hx⟩:∃ x,x=zA6 d.ens k:=⟨_,rfl⟩
  rw [<- zAy d.ens k hlt,<- hx] at c0 c1 c2 c3 c4 c5 c6 c7 c8 c9 c10 c11 HVA HMEM
  have HGX:=hQq hx
  have j1:((k:Nat):Int) < (d.ens.length:Int):=by omega
  have j0:(0:Int)<=(k:Int):=by omega
  have HLT:=hQq hlt
  clear hva hx
  have HGO:Hid (∀ e,adE (adO d.ens) d.ens k=e->e ≠ 0->arD d=zJ4/\arN d=(k:Int)/\arE d=e):=hQq (fun e he hne=>zDS (zQ5 E1.out E2.out (by rw [zVN HLT.out HOK.out (by rw [he];exact hne),he]) hne))
  obtain⟨t,hT⟩:∃ t,bkW 3 x.nm=t:=⟨_,rfl⟩
  have HT:=hQq hT
  clear hT
  have s0:=bC HI.out.st.box 0;have s1:=bC HI.out.st.box 1;have s2:=bC HI.out.st.box 2;have s3:=bC HI.out.st.box 3;have s4:=bC HI.out.st.box 4
  by_cases e4:bkE 3 x.nm=0
  case neg=>
   have HX:=hQq (HGO.out 6 (by unfold adE;rw [<- HGX.out,if_pos e4]) (by decide))
   have q4:(bkE 3 x.nm != 0)=true:=bne_iff_ne.2 e4
   clear e4
   go_wp2_with (go_at_call 58;refine(zLM 3 x.nm _ (by have:=HMEM.out.1;omega)).mono ?_;rw [HT.out];rintro e w6 ⟨rfl,hb6⟩;have HB4:Hid (Ext wi w6):=hQq ((eA _ _).trans hb6);have HR2:=hQq (bX HB4.out HI.out.res);clear r0 r1 r2 r3 fz;obtain⟨r0,r1,r2,r3⟩:=b4C HR2.out;have fz:∀ j,w6.frozen? ⟨w.heap.size+1,j,none⟩=false:=fun j=>bT HR2.out j;have hrs:=bL HR2.out;have HX2:=hQq (bX hb6 (bN wi (.cells #[.string x.nm,.int .i64 x.nd.dep,.string x.nd.nm,.int .i64 x.nd.kd,.slice a6 x.nd.ats.length cap6,.string x.nd.dat,.int .i64 x.nd.ma,.int .i64 x.nd.mi,.int .i64 x.nd.cl,.bool x.wh,.bool x.fi,.int .i64 x.ns] 66 (0,0))));obtain⟨x0,x1,x2,x3,x4,x5,x6,x7,x8,x9,x10,x11⟩:=zIa HX2.out;have fx:∀ j,w6.frozen? ⟨wi.heap.size,j,none⟩=false:=fun j=>bT HX2.out j;have hxs:=bL HX2.out;clear hb6)
   refine nW (P:=fun W=>bodyPost _ _ _ _ _ W) _ ?_
   intro W2 hW2
   obtain⟨hq,hx,hc⟩:=zMq HR2.out (by omega) (HI.out.ext.trans HB4.out) hW2
   refine bodyPost_ret (v:=.tuple #[.agg #[.slice none 0 0,.bool false,.slice none 0 0,.slice none 0 0],.int .i64 k,.int .i64 6]) (by simp [results,Tryz.f15,go_sem,bC hq 0,bC hq 1,bC hq 2,bC hq 3]) rfl ?_
   exact⟨⟨_,by rw [HX.out.2.1,HX.out.2.2],by rw [HX.out.1];exact zC9 _ _⟩,hx⟩
  have q4:(bkE 3 x.nm != 0)=false:=bne_eq_false_iff_eq.2 e4
  have HE4:=hQq e4
  clear e4
  go_upto_region 16 with (go_at_call 58;refine(zLM 3 x.nm _ (by have:=HMEM.out.1;omega)).mono ?_;rw [HT.out];rintro e w6 ⟨rfl,hb6⟩;have HB4:Hid (Ext wi w6):=hQq ((eA _ _).trans hb6);have HR2:=hQq (bX HB4.out HI.out.res);clear r0 r1 r2 r3 fz;obtain⟨r0,r1,r2,r3⟩:=b4C HR2.out;have fz:∀ j,w6.frozen? ⟨w.heap.size+1,j,none⟩=false:=fun j=>bT HR2.out j;have hrs:=bL HR2.out;have HX2:=hQq (bX hb6 (bN wi (.cells #[.string x.nm,.int .i64 x.nd.dep,.string x.nd.nm,.int .i64 x.nd.kd,.slice a6 x.nd.ats.length cap6,.string x.nd.dat,.int .i64 x.nd.ma,.int .i64 x.nd.mi,.int .i64 x.nd.cl,.bool x.wh,.bool x.fi,.int .i64 x.ns] 66 (0,0))));obtain⟨x0,x1,x2,x3,x4,x5,x6,x7,x8,x9,x10,x11⟩:=zIa HX2.out;have fx:∀ j,w6.frozen? ⟨wi.heap.size,j,none⟩=false:=fun j=>bT HX2.out j;have hxs:=bL HX2.out;clear hb6)
  refine nW (P:=fun W=>Code.wp _ _ _ _ W) _ ?_
  intro W hW
  have hW2:W=w6.setCell ⟨wi.heap.size,0,none⟩ (.string (bkS 3 x.nm)):=hW
  obtain⟨y,hy⟩:∃ y,y= {x with nm:=bkS 3 x.nm}:=⟨_,rfl⟩
  have HQW:Hid (W.heap[wi.heap.size]? = some (.cells #[.string y.nm,.int .i64 y.nd.dep,.string y.nd.nm,.int .i64 y.nd.kd,.slice a6 y.nd.ats.length cap6,.string y.nd.dat,.int .i64 y.nd.ma,.int .i64 y.nd.mi,.int .i64 y.nd.cl,.bool y.wh,.bool y.fi,.int .i64 y.ns] 66 (0,0))):=hQq (by rw [hW2,bS HX2.out,hy];rfl)
  have HXW:Hid (Ext wi W):=hQq (by rw [hW2];exact Below.setCell (p:=⟨wi.heap.size,0,none⟩) HB4.out (Nat.le_refl _) _)
  have HVY:Hid (zAK w.heap.size w (.slice a6 y.nd.ats.length cap6) y.nd.ats):=hQq (by rw [hy];exact HVA.out)
  have HYL:Hid (y.nd.ats.length<=1000):=hQq (by rw [hy];exact HMEM.out.2.2)
  have HY:Hid (y= {zA6 d.ens k with nm:=bkS 3 (zA6 d.ens k).nm}):=hQq (by rw [hy,HGX.out])
  have HIW:=hQq (HI.out.up HXW.out)
  clear hW hW2 hy c0 c1 c2 c3 c4 c5 c6 c7 c8 c9 c10 c11 r0 r1 r2 r3 fz fx x0 x1 x2 x3 x4 x5 x6 x7 x8 x9 x10 x11 hxs hrs s0 s1 s2 s3 s4
  have HT4:Hid (t=1\/t=2\/t=3\/t=4):=hQq (by rw [<- HT.out];exact bk4 HE4.out)
  have HXB:Hid (wi.heap.size ≠ w2.heap.size+1/\wi.heap.size ≠ w2.heap.size):=hQq (by have:=bL HI.out.st.box;omega)
  go_wp2
  go_loopw [13,85] (fun e m w'=>∃ (wj:World) (j:Nat),wj=w'/\j<=4/\m= .int .i64 j/\InI w (w2.heap.size+1) w2.heap.size w4.heap.size #[.int .i64 1,.func (.func 54) #[.pointer (some ⟨w2.heap.size+1,0,none⟩)] #[],.int .i64 2,.func (.func 55) #[.pointer (some ⟨w2.heap.size+1,0,none⟩)] #[],.int .i64 3,.func (.func 56) #[.pointer (some ⟨w2.heap.size+1,0,none⟩)] #[],.int .i64 4,.func (.func 57) #[.pointer (some ⟨w2.heap.size+1,0,none⟩)] #[]] tt (.slice a7 d.ats.length cap7) d.ats (adO d.ens) sn (.slice a8 es.length cap8) es wi.heap.size #[.string y.nm,.int .i64 y.nd.dep,.string y.nd.nm,.int .i64 y.nd.kd,.slice a6 y.nd.ats.length cap6,.string y.nd.dat,.int .i64 y.nd.ma,.int .i64 y.nd.mi,.int .i64 y.nd.cl,.bool y.wh,.bool y.fi,.int .i64 y.ns] t y j e wj) (fun _ m _=>4 - (intOf m).toNat)
  case atStart=>
   exact⟨_,0,rfl,by omega,rfl,HIW.out.tab,HIW.out.res,HIW.out.ext,fun _=>⟨by rw [HE4.out],HIW.out.st,HQW.out⟩,fun h=>by have:=HT4.out;omega⟩
  case round=>
   clear HIW HQW HXW
   obtain⟨wj,j,rfl,hj,rfl,hI⟩:=hrel
   have HIJ:=hQq hI
   obtain⟨t0,t1,t2,t3,t4,t5,t6,t7⟩:=b8C hI.1
   have ht9:=bL hI.1
   obtain⟨r0,r1,r2,r3⟩:=b4C hI.2.1
   have fz:∀ j,wj.frozen? ⟨w.heap.size+1,j,none⟩=false:=fun j=>bT hI.2.1 j
   have hrs:=bL hI.2.1
   clear hI
   have HT':Hid (bkW 3 (zA6 d.ens k).nm=t):=hQq (by rw [<- HGX.out];exact HT.out)
   have HRW:Hid (adE (adO d.ens) d.ens k=rwE (adO d.ens) sn t y):=hQq (by rw [zWj (adO d.ens) d.ens k y HY.out (by rw [<- HGX.out];exact HE4.out),HT'.out,<- HSN.out])
   by_cases h4:j=4
   case pos=>
    subst h4
    obtain⟨rfl,hok⟩:=HIJ.out.2.2.2.2 (by have:=HT4.out;omega)
    have HOK2:=hQq hok
    clear hok t0 t1 t2 t3 t4 t5 t6 t7 ht9
    by_cases e5:rwE (adO d.ens) sn t y=0
    case neg=>
     have HX:=hQq (HGO.out _ HRW.out e5)
     have q5:(rwE (adO d.ens) sn t y != 0)=true:=bne_iff_ne.2 e5
     clear e5
     go_wp2
     refine nW (P:=fun W=>bodyPost _ _ _ _ _ W) _ ?_
     intro W2 hW2
     obtain⟨hq,hx,hc⟩:=zMq HIJ.out.2.1 (by omega) HIJ.out.2.2.1 hW2
     refine bodyPost_ret (v:=.tuple #[.agg #[.slice none 0 0,.bool false,.slice none 0 0,.slice none 0 0],.int .i64 k,.int .i64 (rwE (adO d.ens) sn t y)]) (by simp [results,Tryz.f15,go_sem,bC hq 0,bC hq 1,bC hq 2,bC hq 3]) rfl ?_
     exact⟨⟨_,by rw [HX.out.2.1,HX.out.2.2],by rw [HX.out.1];exact zC9 _ _⟩,hx⟩
    have q5:(rwE (adO d.ens) sn t y != 0)=false:=bne_eq_false_iff_eq.2 e5
    obtain⟨ve',hS⟩:=HOK2.out e5
    have HS:=hQq hS
    have HT5:Hid (t ≠ 4):=hQq (fun e=>by rw [e,(zVv (adO d.ens) sn es y).1] at e5;exact absurd e5 (by decide))
    have HN:Hid (∀ j,j < k+1->adE (adO d.ens) d.ens j=0):=hQq (fun j hj=>by
     by_cases e:j=k
     ·rw [e,HRW.out];exact e5
     ·exact HOK.out j (by omega))
    clear e5 hS
    go_wp2
    go_roundw
    case rel=>exact⟨_,k+1,_,rfl,by omega,by go_num,HN.out,by rw [zRE d.ens k y (by rw [HY.out]),zS7 d.ens k HLT.out y HY.out (by rw [HT'.out];exact HT5.out) (by rw [<- HGX.out];exact HE4.out),HT'.out,<- HES.out,<- HSN.out];exact HS.out,HIJ.out.1,HIJ.out.2.1,HIJ.out.2.2.1⟩
    case measure=>simp [intOf] <;> omega
   have hj4:j=0\/j=1\/j=2\/j=3:=by omega
   clear h4 hj r0 r1 r2 r3 fz hrs
   rcases hj4 with rfl | rfl | rfl | rfl
   ·by_cases hm:t=1
    case pos=>
     subst hm
     obtain⟨rfl,hS,hX⟩:=HIJ.out.2.2.2.1 (by omega)
     have HS:=hQq hS
     obtain⟨x0,x1,x2,x3,x4,x5,x6,x7,x8,x9,x10,x11⟩:=zIa hX
     have hxs:=bL hX
     clear hS hX
     go_wp2_with (go_at_call 54;refine(zUZ w _ (w2.heap.size+1) w2.heap.size (.slice a7 d.ats.length cap7) (.slice a8 es.length cap8) (.slice a6 y.nd.ats.length cap6) d.ats (adO d.ens) sn es y (HS.out.up (by repeat (first | exact bR _ _ | refine Ext.trans ?_ (eA _ _) | refine Ext.trans ?_ (eDn _ _) | refine Ext.trans ?_ (eD _)))) HVY.out HYL.out (by have:=HLN.out;omega)).mono ?_;rintro e w8 ⟨rfl,g1,g2,g3⟩;have HE8:=hQq g1;have HK8:Hid (KpR (w2.heap.size+1) w2.heap.size (Value.ownBlock (.slice a8 es.length cap8)) wj w8):=hQq ((zBk (by repeat (first | exact bR _ _ | refine Ext.trans ?_ (eA _ _) | refine Ext.trans ?_ (eDn _ _) | refine Ext.trans ?_ (eD _)))).trans g2);have HR8:=hQq g3;clear g1 g2 g3)
     go_roundw
     case rel=>exact⟨_,1,rfl,by omega,by first | rfl | go_num,by have h:=HIJ.out.done (j:=0) (by omega) HK8.out HE8.out (by rw [(zWH (adO d.ens) sn es y).1,(zWH (adO d.ens) sn es y).2.1,(zWH (adO d.ens) sn es y).2.2];exact HR8.out) (by have:=HTB.out;omega) (by have:=HTB.out;omega) (by have:=HBO.out;omega) (by have:=HBO.out;omega) HTT.out;rw [(zWH (adO d.ens) sn es y).1] at h;exact h⟩
     case measure=>simp [intOf] <;> omega
    have qm:((1:Int) == t)=false:=nB (fun e=>hm e.symm)
    have HM9:=hQq hm
    clear hm
    go_wp2
    go_roundw
    case rel=>exact⟨_,1,rfl,by omega,by first | rfl | go_num,HIJ.out.skip (j:=0) (by have:=HM9.out;omega) (by repeat (first | exact bR _ _ | refine Ext.trans ?_ (eA _ _) | refine Ext.trans ?_ (eDn _ _) | refine Ext.trans ?_ (eD _)))⟩
    case measure=>simp [intOf] <;> omega
   ·by_cases hm:t=2
    case pos=>
     subst hm
     obtain⟨rfl,hS,hX⟩:=HIJ.out.2.2.2.1 (by omega)
     have HS:=hQq hS
     obtain⟨x0,x1,x2,x3,x4,x5,x6,x7,x8,x9,x10,x11⟩:=zIa hX
     have hxs:=bL hX
     clear hS hX
     go_wp2_with (go_at_call 55;refine(zUY w _ (w2.heap.size+1) w2.heap.size (.slice a7 d.ats.length cap7) (.slice a8 es.length cap8) (.slice a6 y.nd.ats.length cap6) d.ats (adO d.ens) sn es y (HS.out.up (by repeat (first | exact bR _ _ | refine Ext.trans ?_ (eA _ _) | refine Ext.trans ?_ (eDn _ _) | refine Ext.trans ?_ (eD _)))) HVY.out (by have:=HLN.out;omega)).mono ?_;rintro e w8 ⟨rfl,g1,g2,g3⟩;have HE8:=hQq g1;have HK8:Hid (KpR (w2.heap.size+1) w2.heap.size (Value.ownBlock (.slice a8 es.length cap8)) wj w8):=hQq ((zBk (by repeat (first | exact bR _ _ | refine Ext.trans ?_ (eA _ _) | refine Ext.trans ?_ (eDn _ _) | refine Ext.trans ?_ (eD _)))).trans g2);have HR8:=hQq g3;clear g1 g2 g3)
     go_roundw
     case rel=>exact⟨_,2,rfl,by omega,by first | rfl | go_num,by have h:=HIJ.out.done (j:=1) (by omega) HK8.out HE8.out (by rw [(zWG (adO d.ens) sn es y).1,(zWG (adO d.ens) sn es y).2.1,(zWG (adO d.ens) sn es y).2.2];exact HR8.out) (by have:=HTB.out;omega) (by have:=HTB.out;omega) (by have:=HBO.out;omega) (by have:=HBO.out;omega) HTT.out;rw [(zWG (adO d.ens) sn es y).1] at h;exact h⟩
     case measure=>simp [intOf] <;> omega
    have qm:((2:Int) == t)=false:=nB (fun e=>hm e.symm)
    have HM9:=hQq hm
    clear hm
    go_wp2
    go_roundw
    case rel=>exact⟨_,2,rfl,by omega,by first | rfl | go_num,HIJ.out.skip (j:=1) (by have:=HM9.out;omega) (by repeat (first | exact bR _ _ | refine Ext.trans ?_ (eA _ _) | refine Ext.trans ?_ (eDn _ _) | refine Ext.trans ?_ (eD _)))⟩
    case measure=>simp [intOf] <;> omega
   ·by_cases hm:t=3
    case pos=>
     subst hm
     obtain⟨rfl,hS,hX⟩:=HIJ.out.2.2.2.1 (by omega)
     have HS:=hQq hS
     obtain⟨x0,x1,x2,x3,x4,x5,x6,x7,x8,x9,x10,x11⟩:=zIa hX
     have hxs:=bL hX
     clear hS hX
     go_wp2_with (go_at_call 56;refine(zS3 w _ (w2.heap.size+1) w2.heap.size (.slice a7 d.ats.length cap7) (.slice a8 es.length cap8) (.slice a6 y.nd.ats.length cap6) d.ats (adO d.ens) sn es y (HS.out.up (by repeat (first | exact bR _ _ | refine Ext.trans ?_ (eA _ _) | refine Ext.trans ?_ (eDn _ _) | refine Ext.trans ?_ (eD _)))) HVY.out).mono ?_;rintro e w8 ⟨rfl,g1,g2,g3⟩;have HE8:=hQq g1;have HK8:Hid (KpR (w2.heap.size+1) w2.heap.size (Value.ownBlock (.slice a8 es.length cap8)) wj w8):=hQq ((zBk (by repeat (first | exact bR _ _ | refine Ext.trans ?_ (eA _ _) | refine Ext.trans ?_ (eDn _ _) | refine Ext.trans ?_ (eD _)))).trans g2);have HR8:=hQq g3;clear g1 g2 g3)
     go_roundw
     case rel=>exact⟨_,3,rfl,by omega,by first | rfl | go_num,by have h:=HIJ.out.done (j:=2) (by omega) HK8.out HE8.out (by rw [(zWF (adO d.ens) sn es y).1,(zWF (adO d.ens) sn es y).2.1,(zWF (adO d.ens) sn es y).2.2];exact HR8.out) (by have:=HTB.out;omega) (by have:=HTB.out;omega) (by have:=HBO.out;omega) (by have:=HBO.out;omega) HTT.out;rw [(zWF (adO d.ens) sn es y).1] at h;exact h⟩
     case measure=>simp [intOf] <;> omega
    have qm:((3:Int) == t)=false:=nB (fun e=>hm e.symm)
    have HM9:=hQq hm
    clear hm
    go_wp2
    go_roundw
    case rel=>exact⟨_,3,rfl,by omega,by first | rfl | go_num,HIJ.out.skip (j:=2) (by have:=HM9.out;omega) (by repeat (first | exact bR _ _ | refine Ext.trans ?_ (eA _ _) | refine Ext.trans ?_ (eDn _ _) | refine Ext.trans ?_ (eD _)))⟩
    case measure=>simp [intOf] <;> omega
   ·by_cases hm:t=4
    case pos=>
     subst hm
     obtain⟨rfl,hS,hX⟩:=HIJ.out.2.2.2.1 (by omega)
     have HS:=hQq hS
     obtain⟨x0,x1,x2,x3,x4,x5,x6,x7,x8,x9,x10,x11⟩:=zIa hX
     have hxs:=bL hX
     clear hS hX
     go_wp2_with (go_at_call 57;refine(zU2 w _ (w2.heap.size+1) w2.heap.size (.slice a7 d.ats.length cap7) (.slice a8 es.length cap8) _ d.ats (adO d.ens) sn es y (.slice a6 y.nd.ats.length cap6) rfl (HS.out.up (by repeat (first | exact bR _ _ | refine Ext.trans ?_ (eA _ _) | refine Ext.trans ?_ (eDn _ _) | refine Ext.trans ?_ (eD _))))).mono ?_;rintro e w8 ⟨rfl,g1,g2,g3⟩;have HE8:=hQq g1;have HK8:Hid (KpR (w2.heap.size+1) w2.heap.size (Value.ownBlock (.slice a8 es.length cap8)) wj w8):=hQq ((zBk (by repeat (first | exact bR _ _ | refine Ext.trans ?_ (eA _ _) | refine Ext.trans ?_ (eDn _ _) | refine Ext.trans ?_ (eD _)))).trans g2);have HR8:=hQq g3;clear g1 g2 g3)
     go_roundw
     case rel=>exact⟨_,4,rfl,by omega,by first | rfl | go_num,by have h:=HIJ.out.done (j:=3) (by omega) HK8.out HE8.out (by rw [(zVv (adO d.ens) sn es y).1,(zVv (adO d.ens) sn es y).2.1,(zVv (adO d.ens) sn es y).2.2];exact HR8.out) (by have:=HTB.out;omega) (by have:=HTB.out;omega) (by have:=HBO.out;omega) (by have:=HBO.out;omega) HTT.out;rw [(zVv (adO d.ens) sn es y).1] at h;exact h⟩
     case measure=>simp [intOf] <;> omega
    have qm:((4:Int) == t)=false:=nB (fun e=>hm e.symm)
    have HM9:=hQq hm
    clear hm
    go_wp2
    go_roundw
    case rel=>exact⟨_,4,rfl,by omega,by first | rfl | go_num,HIJ.out.skip (j:=3) (by have:=HM9.out;omega) (by repeat (first | exact bR _ _ | refine Ext.trans ?_ (eA _ _) | refine Ext.trans ?_ (eDn _ _) | refine Ext.trans ?_ (eD _)))⟩
    case measure=>simp [intOf] <;> omega
end Go.Proofs.YtbeeoomadnmogaaGreat
