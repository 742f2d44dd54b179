/- BrnA BrnB BrnD BrnJ BrnK SamB zXF DirB RawW AfT -/
import Derived.Test.YtbeeoomadnmogaaGreatQI3
import Derived.Test.YtbeeoomadnmogaaGreatQChkB
set_option maxRecDepth 100000
set_option maxHeartbeats 64000000
namespace Go.Proofs.YtbeeoomadnmogaaGreat
open Go.RowKit
abbrev brV (x:BrN) (va vr:Value):Value:=.agg #[.int .i64 x.dep,.string x.nm,.int .i64 x.kd,va,.string x.dat,.int .i64 x.ma,.int .i64 x.mi,.int .i64 x.cl,.bool x.opq,vr]
def zGa (w:World) (g:Nat):Nat->List Value->World
 | _,[]=>w
 | j,v :: r=>zGa (w.setCell ⟨g,j,none⟩ v) g (j+1) r
def zWE (cs:Array Value):Nat->List Value->Array Value
 | _,[]=>cs
 | j,v :: r=>zWE (cs.setIfInBounds j v) (j+1) r
theorem zCY {g:Nat} {t:TypeId} {f:Nat × Nat}:∀ (vs:List Value) (w:World) (j:Nat) (cs:Array Value),w.heap[g]? = some (.cells cs t f)->(zGa w g j vs).heap[g]? = some (.cells (zWE cs j vs) t f)
 | [],_,_,_,h=>h
 | v :: r,_w,j,_cs,h=>zCY r _ (j+1) _ (bS h v)
theorem zFy {g:Nat}:∀ (vs:List Value) (w:World) (j:Nat),zAA (some g) w (zGa w g j vs)
 | [],_,_=>fun _ _ h _=>h
 | v :: r,w,j=>fun b o h hne=>zFy r _ (j+1) b o (bSn h _ _ (fun e=>hne (by rw [e]))) hne
theorem zFx {g:Nat}:∀ (vs:List Value) (w:World) (j:Nat),(zGa w g j vs).heap.size=w.heap.size
 | [],_,_=>rfl
 | v :: r,w,j=>by unfold zGa;rw [zFx r];simp [World.setCell]
theorem zBG {B g:Nat} {W:World} (hB:B<=g):∀ (vs:List Value) (w:World) (j:Nat),Below B W w->Below B W (zGa w g j vs)
 | [],_,_,h=>h
 | v :: r,_w,j,h=>zBG hB r _ (j+1) (h.setCell (p:=⟨g,j,none⟩) hB v)
theorem zCX {B g:Nat} {t:TypeId} {f:Nat × Nat} {cs:Array Value} {w:World} (hB:B<=g) (h:w.heap[g]? = some (.cells cs t f)) (vs:List Value):Chg B t (some g) w (zGa w g 0 vs):=
 ⟨zFy vs w 0,Nat.le_of_eq (zFx vs w 0).symm,fun g' e=>by cases e;exact⟨hB,_,_,h⟩⟩
def zRn (w:World) (x:BrN) (e:Ending) (w':World):Prop:=(∃ va,e= .returned (trV x.toTrN va)/\zAK 0 w' va x.ats)/\Ext w w'
theorem zQQ (w:World) (x:BrN) (va vr:Value) (hx:aA w va x.ats) (hl:x.ats.length<=1000) (hr:∃ a n cap,vr= .slice a n cap) :
  Calls Tryz.prog 146 #[brV x va vr] w (zRn w x):=by
 obtain⟨a4,n4,cap4,rfl⟩:=hr
 obtain⟨a3,cap3,rfl,hcap3,hxc⟩:=hx
 have HX:Hid (aA w (.slice a3 x.ats.length cap3) x.ats):=⟨a3,cap3,rfl,hcap3,hxc⟩
 clear hxc
 unfold brV
 go_enter Tryz.func146,Tryz.ntmps146
 go_wp2
 refine nW (P:=fun W=>Code.wp _ _ _ _ W) _ ?_
 intro W hW
 have HXB:Hid (W.heap[w.heap.size]? = some (.cells #[.int .i64 x.dep,.string x.nm,.int .i64 x.kd,.slice a3 x.ats.length cap3,.string x.dat,.int .i64 x.ma,.int .i64 x.mi,.int .i64 x.cl,.bool x.opq,.slice a4 n4 cap4] 46 (0,0))):=hQq (by rw [hW];exact bA (bN w _))
 have HZB:Hid (W.heap[w.heap.size+1]? = some (.cells #[.int .i64 0,.string ⟨#[]⟩,.int .i64 0,.slice none 0 0,.string ⟨#[]⟩,.int .i64 0,.int .i64 0,.int .i64 0] 59 (0,0))):=hQq (by rw [hW];exact zAH (by simp))
 have HE:Hid (Ext w W):=hQq (by rw [hW];exact(eA _ _).trans (eA _ _))
 clear hW
 have c0:W.cell? ⟨w.heap.size,0,none⟩=some (.int .i64 x.dep):=bC HXB.out 0
 have c1:W.cell? ⟨w.heap.size,1,none⟩=some (.string x.nm):=bC HXB.out 1
 have c2:W.cell? ⟨w.heap.size,2,none⟩=some (.int .i64 x.kd):=bC HXB.out 2
 have c3:W.cell? ⟨w.heap.size,3,none⟩=some (.slice a3 x.ats.length cap3):=bC HXB.out 3
 have c4:W.cell? ⟨w.heap.size,4,none⟩=some (.string x.dat):=bC HXB.out 4
 have c5:W.cell? ⟨w.heap.size,5,none⟩=some (.int .i64 x.ma):=bC HXB.out 5
 have c6:W.cell? ⟨w.heap.size,6,none⟩=some (.int .i64 x.mi):=bC HXB.out 6
 have c7:W.cell? ⟨w.heap.size,7,none⟩=some (.int .i64 x.cl):=bC HXB.out 7
 have fz:∀ j,W.frozen? ⟨w.heap.size+1,j,none⟩=false:=fun j=>bT HZB.out j
 go_region_held3 (fun w'=>w'.cell? ⟨w.heap.size,0,none⟩=some (.int .i64 x.dep)/\w'.cell? ⟨w.heap.size,1,none⟩=some (.string x.nm)/\w'.cell? ⟨w.heap.size,2,none⟩=some (.int .i64 x.kd)/\w'.cell? ⟨w.heap.size,3,none⟩=some (.slice a3 x.ats.length cap3)/\w'.cell? ⟨w.heap.size,4,none⟩=some (.string x.dat)/\w'.cell? ⟨w.heap.size,5,none⟩=some (.int .i64 x.ma)/\w'.cell? ⟨w.heap.size,6,none⟩=some (.int .i64 x.mi)/\w'.cell? ⟨w.heap.size,7,none⟩=some (.int .i64 x.cl)/\∀ j,w'.frozen? ⟨w.heap.size+1,j,none⟩=false) (first | go_keep | skip)
  ((go_at_call 41;refine(zF9 _ x.ats _ (HX.out.ext (HE.out.trans (eD _))) hl).mono ?_;rintro e w3 ⟨⟨a5,cap5,rfl,ho⟩,hb3⟩;have HO:=hQq ho;have HE3:Hid (Ext W w3):=(eD _).trans hb3;have X3:=hQq (bX HE3.out HXB.out);have Z3:=hQq (bX HE3.out HZB.out);have d0:w3.cell? ⟨w.heap.size,0,none⟩=some (.int .i64 x.dep):=bC X3.out 0;have d1:w3.cell? ⟨w.heap.size,1,none⟩=some (.string x.nm):=bC X3.out 1;have d2:w3.cell? ⟨w.heap.size,2,none⟩=some (.int .i64 x.kd):=bC X3.out 2;have d3:w3.cell? ⟨w.heap.size,3,none⟩=some (.slice a3 x.ats.length cap3):=bC X3.out 3;have d4:w3.cell? ⟨w.heap.size,4,none⟩=some (.string x.dat):=bC X3.out 4;have d5:w3.cell? ⟨w.heap.size,5,none⟩=some (.int .i64 x.ma):=bC X3.out 5;have d6:w3.cell? ⟨w.heap.size,6,none⟩=some (.int .i64 x.mi):=bC X3.out 6;have d7:w3.cell? ⟨w.heap.size,7,none⟩=some (.int .i64 x.cl):=bC X3.out 7;have fz3:∀ j,w3.frozen? ⟨w.heap.size+1,j,none⟩=false:=fun j=>bT Z3.out j;have r0:w3.cell? ⟨w.heap.size+1,0,none⟩=some (.int .i64 0):=bC Z3.out 0;have r1:w3.cell? ⟨w.heap.size+1,1,none⟩=some (.string ⟨#[]⟩):=bC Z3.out 1;have r2:w3.cell? ⟨w.heap.size+1,2,none⟩=some (.int .i64 0):=bC Z3.out 2;have r3:w3.cell? ⟨w.heap.size+1,3,none⟩=some (.slice none 0 0):=bC Z3.out 3;have r4:w3.cell? ⟨w.heap.size+1,4,none⟩=some (.string ⟨#[]⟩):=bC Z3.out 4;have r5:w3.cell? ⟨w.heap.size+1,5,none⟩=some (.int .i64 0):=bC Z3.out 5;have r6:w3.cell? ⟨w.heap.size+1,6,none⟩=some (.int .i64 0):=bC Z3.out 6;have r7:w3.cell? ⟨w.heap.size+1,7,none⟩=some (.int .i64 0):=bC Z3.out 7;have hsz:w.heap.size+1 < w3.heap.size:=bL Z3.out;clear hb3 ho))
 refine nW (P:=fun W=>Exit.then _ _ _ _ W) _ ?_
 intro W2 hW2
 replace hW2:W2=zGa w3 (w.heap.size+1) 0 [.int .i64 x.dep,.string x.nm,.int .i64 x.kd,.slice a5 x.ats.length cap5,.string x.dat,.int .i64 x.ma,.int .i64 x.mi,.int .i64 x.cl]:=hW2
 have HZ2:Hid (W2.heap[w.heap.size+1]? = some (.cells #[.int .i64 x.dep,.string x.nm,.int .i64 x.kd,.slice a5 x.ats.length cap5,.string x.dat,.int .i64 x.ma,.int .i64 x.mi,.int .i64 x.cl] 59 (0,0))):=hQq (by rw [hW2,zCY _ _ _ _ Z3.out];rfl)
 have HB2:Hid (Ext w W2):=hQq (by rw [hW2];exact zBG (by omega) _ _ _ (HE.out.trans HE3.out))
 have HA2:Hid (zAK 0 W2 (.slice a5 x.ats.length cap5) x.ats):=hQq (by rw [hW2];exact(HO.out.toIn).chg okA (zCX (by omega) Z3.out _) (by decide) (by decide))
 clear hW2 c0 c1 c2 c3 c4 c5 c6 c7 d0 d1 d2 d3 d4 d5 d6 d7 r0 r1 r2 r3 r4 r5 r6 r7
 have t0:W2.cell? ⟨w.heap.size+1,0,none⟩=some (.int .i64 x.dep):=bC HZ2.out 0
 have t1:W2.cell? ⟨w.heap.size+1,1,none⟩=some (.string x.nm):=bC HZ2.out 1
 have t2:W2.cell? ⟨w.heap.size+1,2,none⟩=some (.int .i64 x.kd):=bC HZ2.out 2
 have t3:W2.cell? ⟨w.heap.size+1,3,none⟩=some (.slice a5 x.ats.length cap5):=bC HZ2.out 3
 have t4:W2.cell? ⟨w.heap.size+1,4,none⟩=some (.string x.dat):=bC HZ2.out 4
 have t5:W2.cell? ⟨w.heap.size+1,5,none⟩=some (.int .i64 x.ma):=bC HZ2.out 5
 have t6:W2.cell? ⟨w.heap.size+1,6,none⟩=some (.int .i64 x.mi):=bC HZ2.out 6
 have t7:W2.cell? ⟨w.heap.size+1,7,none⟩=some (.int .i64 x.cl):=bC HZ2.out 7
 go_wp2
 refine bodyPost_ret (v:=trV x.toTrN (.slice a5 x.ats.length cap5)) (by simp [results,Tryz.f146,go_sem,t0,t1,t2,t3,t4,t5,t6,t7]) rfl ?_
 exact⟨⟨_,rfl,HA2.out⟩,HB2.out⟩
theorem zFZ {w w':World} {b:Nat} {o:Obj} (h:w.heap[b]? = some o) (he:Ext w w'):w'.heap[b]? = some o:=bX he h
theorem zD7 (B:Nat) (w:World) (v:Value) (b:List BrN) (hb:zC4 B w v b) (hl:b.length<=1000) (hats:∀ x ∈ b,x.ats.length<=1000) :
  Calls Tryz.prog 82 #[v] w (zTL w b):=by
 obtain⟨aa,cap,rfl⟩:=hb.form
 have HV:=hQq hb;clear hb
 have HAT:=hQq hats;clear hats
 go_enter Tryz.func82,Tryz.ntmps82
 go_wp2_with (refine zW7 zK4 _ rfl _ _ rfl b.length rfl rfl (by omega) ?_;intro w0 ho0 hE0;have HO0:=hQq ho0;have HE0:=hQq hE0;clear ho0 hE0)
 go_loopw [3,5,11] (fun o _ i w'=>∃ (wi:World) (k:Nat),wi=w'/\k<=b.length/\i= .int .i64 k/\zAg zOB w.heap.size wi o (plT (b.take k))/\Ext w wi) (fun _ _ i _=>b.length - (intOf i).toNat)
 case atStart=>exact⟨_,0,rfl,Nat.zero_le _,rfl,HO0.out,HE0.out⟩
 case round=>
  clear HO0 HE0
  obtain⟨wi,k,rfl,hk,rfl,ho,hE⟩:=hrel
  have HO:=hQq ho;have HE:=hQq hE
  obtain⟨a5,cap5,rfl⟩:=ho.form
  clear ho hE
  by_cases hlt:k < b.length
  case neg=>
   obtain rfl:k=b.length:=by omega
   have HR:Hid (zAg zOB w.heap.size wi (.slice a5 b.length cap5) (plT b)):=hQq (by have:=HO.out;rw [zGe,zAh] at this;exact this)
   have hq:(plT (b.take b.length)).length=b.length:=by rw [zGe,zAh]
   go_wp2
   go_ret
   exact⟨⟨a5,cap5,by rw [hq];rfl,HR.out⟩,HE.out⟩
  obtain⟨bb,off,va,vr,hex,hbx,hva,hvr,xx⟩:=HV.out.br k hlt
  cases hex
  obtain⟨c0,c1,c2,c3,c4,c5,c6,c7,c8,c9⟩:=zLV HE.out hbx xx
  have HVA:=hQq hva
  obtain⟨a4,cap4,rfl⟩:=hvr.form
  obtain⟨a3,cap3,rfl⟩:=hva.form
  have HL:Hid ((b[k]'hlt).ats.length<=1000):=HAT.out _ (List.getElem_mem hlt)
  have HS:=hQq (zJa b k hlt)
  generalize b[k]'hlt=x at c0 c1 c2 c3 c4 c5 c6 c7 c8 c9 HVA HL HS
  have HW:Hid (w.heap.size<=wi.heap.size):=HE.out.size
  have j1:((k:Nat):Int) < (b.length:Int):=by omega
  have j0:(0:Int)<=(k:Int):=by omega
  have hq:(plT (b.take k)).length=k:=by rw [zAh,List.length_take];omega
  have HQ:=hQq hq;clear hq
  clear xx hva hvr
  go_wp2_with (first | (go_at_call 146;refine(zQQ _ x _ _ ((HVA.out.attrs).ext (HE.out.trans (eA _ _))) HL.out ⟨_,_,_,rfl⟩).mono ?_;rintro e w1 ⟨⟨va1,rfl,hv1⟩,hb1⟩;have HV1:=hQq hv1;have HB1:Hid (Ext wi w1):=hQq (Ext.trans (eA _ _) hb1);clear hv1 hb1) | (at_builtin;refine zJU zK4 rfl (.tmp 15) (.tmp 18) rfl _ _ (plT (b.take k)) [x.toTrN] w _ rfl rfl (by exact(HO.out.ext zK4 HB1.out).ext zK4 (eA _ _)) (by exact zAn zK4 _ x.toTrN (trC x.toTrN va1) _ rfl ⟨va1,HV1.out,rfl⟩) (by exact(HE.out.trans HB1.out).trans (eA _ _)) (by have:=HB1.out.size;have:=HW.out;simp;omega) (by have:=HQ.out;simp;omega) ?_;intro v2 w2 ha;have HA:=hQq ha;clear ha))
  go_roundw
  case rel=>exact⟨_,k+1,rfl,by omega,by go_num,by rw [HS.out];exact HA.out.own,HA.out.below⟩
  case measure=>simp [intOf] <;> omega
theorem zTy (B:Nat) (w:World) (v:Value) (b:List BrN) (hb:zC4 B w v b) (hl:b.length<=1000) (hats:∀ x ∈ b,x.ats.length<=1000) :
  Calls Tryz.prog 82 #[v] w (zU9 w b):=
 (zD7 B w v b hb hl hats).mono fun _ _ ⟨⟨a,c,h1,h2⟩,h3⟩=>⟨⟨a,c,h1,h2.to (Nat.le_refl _)⟩,h3⟩
theorem zAC {p:Nat->Bool}:∀ (n a:Nat),zBs p a n=none->∀ j,a<=j->j < a+n->p j=false
 | 0,a,_,j,h1,h2=>by omega
 | n+1,a,h,j,h1,h2=>by
  unfold zBs at h
  by_cases e:p a=true
  ·rw [if_pos e] at h;cases h
  ·rw [if_neg e] at h
   by_cases e2:j=a
   ·subst e2;exact Bool.eq_false_iff.2 e
   ·exact zAC n (a+1) h j (by omega) (by omega)
theorem zBo {p:Nat->Bool}:∀ (n a i:Nat),zBs p a n=some i->p i=true/\a<=i/\i < a+n
 | 0,_,_,h=>by cases h
 | n+1,a,i,h=>by
  unfold zBs at h
  by_cases e:p a=true
  ·rw [if_pos e] at h;cases h;exact⟨e,Nat.le_refl _,by omega⟩
  ·rw [if_neg e] at h
   have:=zBo n (a+1) i h
   exact⟨this.1,by omega,by omega⟩
theorem zAf {t:List TrN} (h:zAs t=0):t.length ≠ 0/\t.length<=120/\zAW t t.length/\zFp t=0/\∀ j,j < t.length->zDM t j=false:=by
 unfold zAs zFp at *
 unfold zF6 at *
 by_cases h0:t.length=0
 ·rw [if_pos h0] at h;cases h
 rw [if_neg h0] at h ⊢
 by_cases h1:120 < t.length
 ·rw [if_pos h1] at h;cases h
 rw [if_neg h1] at h ⊢
 cases hf:zBs (zV5 t) 0 t.length with
 | some i=>
  rw [hf] at h
  have:=(zBo _ _ _ hf).1
  exact absurd h (bne_iff_ne.1 this)
 | none=>
  rw [hf] at h
  cases hg:zBs (zDM t) 0 t.length with
  | some i=>rw [hg] at h;cases h
  | none=>
   refine⟨h0,by omega,fun j hj=>?_,rfl,fun j hj=>zAC _ _ hg j (Nat.zero_le _) (by omega)⟩
   have:=zAC _ _ hf j (Nat.zero_le _) (by omega)
   exact bne_eq_false_iff_eq.1 this
def zV4 (b:List BrN) (i:Nat):Bool:=zAO b i != 0
def brT (b:List BrN):Int × Int:=
 if zAs (plT b) ≠ 0 then (zFp (plT b),zAs (plT b)) else match zBs (zV4 b) 0 b.length with
  | some i=>(i,zAO b i)
  | none=>(0,0)
def zLW (b:List BrN):Int:=(brT b).1
def zB1 (b:List BrN):Int:=(brT b).2
theorem zFY {b:List BrN} {x y:Int} (h:brT b=(x,y)):zLW b=x/\zB1 b=y:=by unfold zLW zB1;rw [h];exact⟨rfl,rfl⟩
theorem zNn {b:List BrN} (h:zAs (plT b) ≠ 0):brT b=(zFp (plT b),zAs (plT b)):=if_pos h
theorem zC3 {b:List BrN} (h:zAs (plT b)=0) {i:Nat} (hi:i < b.length) (hl:∀ j,j < i->zAO b j=0) (he:zAO b i ≠ 0):brT b=((i:Int),zAO b i):=by
 unfold brT;rw [if_neg (by omega),zBQ b.length 0 i (Nat.zero_le _) (by omega) (fun j _ hj=>by unfold zV4;rw [hl j hj];rfl) (show zV4 b i=true from bne_iff_ne.2 he)]
theorem zQP {b:List BrN} (h:zAs (plT b)=0) (hl:∀ j,j < b.length->zAO b j=0):brT b=(0,0):=by
 unfold brT;rw [if_neg (by omega),zBm b.length 0 (fun j _ hj=>by unfold zV4;rw [hl j (by omega)];rfl)]
theorem zAp {b:List BrN} (h:zB1 b=0):zAs (plT b)=0/\zLW b=0/\∀ j,j < b.length->zAO b j=0:=by
 unfold zB1 zLW brT at *
 by_cases h0:zAs (plT b) ≠ 0
 ·rw [if_pos h0] at h;exact absurd h h0
 rw [if_neg h0] at h ⊢
 cases hf:zBs (zV4 b) 0 b.length with
 | some i=>
  rw [hf] at h
  exact absurd h (bne_iff_ne.1 (zBo _ _ _ hf).1)
 | none=>exact⟨by omega,rfl,fun j hj=>bne_eq_false_iff_eq.1 (zAC _ _ hf j (Nat.zero_le _) (by omega))⟩
theorem zFu (B:Nat) (v:Value) (l:List ByteArray) (w:World) (hv:zCu B w v l) (hB:B<=w.heap.size) (hl:l.length<=1000) :
  Calls Tryz.prog 176 #[v] w (zXR cdS w l):=by
 obtain⟨a,cap,rfl⟩:=hv.form
 have HV:=hQq hv;clear hv
 cases a with
 | none=>
  have:=HV.out.zero ⟨_,_,rfl⟩
  subst this
  have hnil:=fun wx=>Lib.run_eql_slice_nil (P:=Tryz.prog) wx 23 9 none 0 cap 0 0 okS.sl.und
  go_enter Tryz.func176,Tryz.ntmps176
  go_wp2
  go_ret
  exact⟨⟨_,_,_,rfl,zAg.nil _ _ _⟩,bR _ _⟩
 | some ad=>
  have hnil:=fun wx=>Lib.run_eql_slice_nil (P:=Tryz.prog) wx 23 9 (some ad) l.length cap 0 0 okS.sl.und
  go_enter Tryz.func176,Tryz.ntmps176
  go_wp2_with (at_builtin;refine zJU okS rfl (.tmp 5) (.tmp 6) rfl _ _ [] l w (w.alloc (.cells #[] 9)) rfl rfl (zAg.fresh cdS w) ((HV.out.mono okS hB).ext okS (eA _ _)) (eA _ _) (by simp) (by simp;omega) ?_;intro v1 w1 ha;have HA:=hQq ha;clear ha)
  obtain⟨a6,cap6,rfl⟩:=HA.out.own.form
  go_ret
  exact⟨⟨_,_,_,rfl,HA.out.own⟩,HA.out.below⟩
theorem zMt (u v:Value) (a:List ByteArray) (w:World) (hu:zBY w u a) (hv:zBY w v a) (hl:a.length<=1000000):zAt Tryz.prog 62 #[u,v] w (.bool true):=by
 have h:=zFC u v a a w hu hv hl
 have e:∀ (i:Decidable (a=a)),@decide (a=a) i=true:=fun i=>by cases i with | isTrue _=>rfl | isFalse h=>exact absurd rfl h
 rw [e] at h
 exact h
def zA6 (l:List DeN) (i:Nat):DeN:=l.getD i zWA
theorem zAy (l:List DeN) (i:Nat) (h:i < l.length):zA6 l i=l[i]'h:=by unfold zA6;simp [List.getD,h]
def zCK:TrN:={zVj with kd:=1}
def zT1:ByteArray:=ofL [110]
def zCw (x:TrN):TrN:={x with dep:=1,nm:=zT1,cl:=0}
def zDE (x:TrN):Int:=zAs [zCK,zCw x]
def zB8 (o:Bool) (x:DeN):Bool:=
 ((x.nd.kd == 1) && (decide (0 < x.nd.ats.length) || decide (0 < x.nd.cl))) || ((x.nd.kd == 5) && (decide (0 < x.nd.cl) || o)) || (x.wh != (x.nd.kd == 5)) || (!x.fi && (x.ns == 1))
def zEh (o:Bool) (last:ByteArray) (x:DeN):Int:=
 if zAq (L x.nm) ≠ 0 then zAq (L x.nm)
 else if x.nm=last then 8
 else if L x.nm < L last\/x.nd.dep ≠ 0\/¬ x.nd.nm.toList= [] then 6
 else if zDE x.nd ≠ 0 then zDE x.nd
 else if x.nd.cl < 0\/(0 < x.nd.cl/\x.ns<=1)\/(x.nd.cl<=0/\1 < x.ns) then 6
 else if x.ns < 1 then 7
 else if zB8 o x=true then 6 else 0
theorem zQm {o:Bool} {z:ByteArray} {x:DeN} (h:zAq (L x.nm) ≠ 0):zEh o z x=zAq (L x.nm):=if_pos h
theorem zSx {o:Bool} {z:ByteArray} {x:DeN} (h:zAq (L x.nm)=0) (h1:x.nm=z):zEh o z x=8:=by unfold zEh;rw [if_neg (by simp [h]),if_pos h1]
theorem zJB {o:Bool} {z:ByteArray} {x:DeN} (h:zAq (L x.nm)=0) (h1:¬ x.nm=z) (h2:L x.nm < L z\/x.nd.dep ≠ 0\/¬ x.nd.nm.toList= []):zEh o z x=6:=by
 unfold zEh;rw [if_neg (by simp [h]),if_neg h1,if_pos h2]
theorem zQl {o:Bool} {z:ByteArray} {x:DeN} (h:zAq (L x.nm)=0) (h1:¬ x.nm=z) (h2:¬ L x.nm < L z) (h3:x.nd.dep=0) (h4:x.nd.nm.toList= []) (h5:zDE x.nd ≠ 0):zEh o z x=zDE x.nd:=by
 unfold zEh;rw [if_neg (by simp [h]),if_neg h1,if_neg (by simp [h2,h3,h4]),if_pos h5]
def zBV (o:Bool) (x:DeN):Int:=
 if x.nd.cl < 0\/(0 < x.nd.cl/\x.ns<=1)\/(x.nd.cl<=0/\1 < x.ns) then 6
 else if x.ns < 1 then 7
 else if zB8 o x=true then 6 else 0
theorem zHI {o:Bool} {z:ByteArray} {x:DeN} (h:zAq (L x.nm)=0) (h1:¬ x.nm=z) (h2:¬ L x.nm < L z) (h3:x.nd.dep=0) (h4:x.nd.nm.toList= []) (h5:zDE x.nd=0):zEh o z x=zBV o x:=by
 unfold zEh zBV;rw [if_neg (by simp [h]),if_neg h1,if_neg (by simp [h2,h3,h4]),if_neg (by simp [h5])]
def zCZ (l:List DeN) (i:Nat):ByteArray:=if i=0 then ⟨#[]⟩ else (zA6 l (i - 1)).nm
theorem zGk (l:List DeN):zCZ l 0=⟨#[]⟩:=rfl
theorem zGl (l:List DeN) (i:Nat):zCZ l (i+1)=(zA6 l i).nm:=rfl
def zIc (o:Bool) (l:List DeN) (i:Nat):Int:=zEh o (zCZ l i) (zA6 l i)
def zV3 (o:Bool) (l:List DeN) (i:Nat):Bool:=zIc o l i != 0
def zLP (d:DiN):Int × Int:=
 if zBR d.ats ≠ 0 then (-1,zBR d.ats)
 else if d.opq=true/\0 < d.red.length then (-1,6)
 else if zAY d.red ≠ 0 then (-1,zAY d.red)
 else if 24 < d.ens.length then (-1,3)
 else match zBs (zV3 d.opq d.ens) 0 d.ens.length with
  | some i=>(i,zIc d.opq d.ens i)
  | none=>(0,0)
def zQx (d:DiN):Int:=(zLP d).1
def zDA (d:DiN):Int:=(zLP d).2
theorem zBi {d:DiN} {a b:Int} (h:zLP d=(a,b)):zQx d=a/\zDA d=b:=by unfold zQx zDA;rw [h];exact⟨rfl,rfl⟩
theorem zSF {d:DiN} (h:zBR d.ats ≠ 0):zLP d=(-1,zBR d.ats):=if_pos h
theorem zQw {d:DiN} (h:zBR d.ats=0) (h1:d.opq=true) (h2:0 < d.red.length):zLP d=(-1,6):=by unfold zLP;rw [if_neg (by simp [h]),if_pos ⟨h1,h2⟩]
theorem zQu {d:DiN} (h:zBR d.ats=0) (h1:¬ (d.opq=true/\0 < d.red.length)) (h2:zAY d.red ≠ 0):zLP d=(-1,zAY d.red):=by unfold zLP;rw [if_neg (by simp [h]),if_neg h1,if_pos h2]
theorem zQv {d:DiN} (h:zBR d.ats=0) (h1:¬ (d.opq=true/\0 < d.red.length)) (h2:zAY d.red=0) (h3:24 < d.ens.length):zLP d=(-1,3):=by unfold zLP;rw [if_neg (by simp [h]),if_neg h1,if_neg (by simp [h2]),if_pos h3]
theorem zAQ {d:DiN} (h:zBR d.ats=0) (h1:¬ (d.opq=true/\0 < d.red.length)) (h2:zAY d.red=0) (h3:¬ 24 < d.ens.length) {i:Nat} (hi:i < d.ens.length) (hl:∀ j,j < i->zIc d.opq d.ens j=0) (he:zIc d.opq d.ens i ≠ 0):zLP d=((i:Int),zIc d.opq d.ens i):=by
 unfold zLP;rw [if_neg (by simp [h]),if_neg h1,if_neg (by simp [h2]),if_neg h3,zBQ d.ens.length 0 i (Nat.zero_le _) (by omega) (fun j _ hj=>by unfold zV3;rw [hl j hj];rfl) (show zV3 d.opq d.ens i=true from bne_iff_ne.2 he)]
theorem zJG {d:DiN} (h:zBR d.ats=0) (h1:¬ (d.opq=true/\0 < d.red.length)) (h2:zAY d.red=0) (h3:¬ 24 < d.ens.length) (hl:∀ j,j < d.ens.length->zIc d.opq d.ens j=0):zLP d=(0,0):=by
 unfold zLP;rw [if_neg (by simp [h]),if_neg h1,if_neg (by simp [h2]),if_neg h3,zBm d.ens.length 0 (fun j _ hj=>by unfold zV3;rw [hl j (by omega)];rfl)]
theorem zA0 {d:DiN} (h:zDA d=0):zQx d=0/\zBR d.ats=0/\¬ (d.opq=true/\0 < d.red.length)/\zAY d.red=0/\d.ens.length<=24/\∀ j,j < d.ens.length->zIc d.opq d.ens j=0:=by
 unfold zDA zQx zLP at *
 by_cases h0:zBR d.ats ≠ 0
 ·rw [if_pos h0] at h;exact absurd h h0
 rw [if_neg h0] at h ⊢
 by_cases h1:d.opq=true/\0 < d.red.length
 ·rw [if_pos h1] at h;cases h
 rw [if_neg h1] at h ⊢
 by_cases h2:zAY d.red ≠ 0
 ·rw [if_pos h2] at h;exact absurd h h2
 rw [if_neg h2] at h ⊢
 by_cases h3:24 < d.ens.length
 ·rw [if_pos h3] at h;cases h
 rw [if_neg h3] at h ⊢
 cases hf:zBs (zV3 d.opq d.ens) 0 d.ens.length with
 | some i=>
  rw [hf] at h
  exact absurd h (bne_iff_ne.1 (zBo _ _ _ hf).1)
 | none=>exact⟨rfl,by omega,h1,by omega,by omega,fun j hj=>bne_eq_false_iff_eq.1 (zAC _ _ hf j (Nat.zero_le _) (by omega))⟩
theorem zCm {o:Bool} {z:ByteArray} {x:DeN} (h:zEh o z x=0):zAq (L x.nm)=0/\¬ x.nm=z/\¬ L x.nm < L z/\x.nd.dep=0/\x.nd.nm.toList= []/\zDE x.nd=0/\0<=x.nd.cl/\(0 < x.nd.cl ↔ 1 < x.ns)/\1<=x.ns/\zB8 o x=false:=by
 unfold zEh at h
 by_cases h1:zAq (L x.nm) ≠ 0
 ·rw [if_pos h1] at h;exact absurd h h1
 rw [if_neg h1] at h
 by_cases h2:x.nm=z
 ·rw [if_pos h2] at h;cases h
 rw [if_neg h2] at h
 by_cases h3:L x.nm < L z\/x.nd.dep ≠ 0\/¬ x.nd.nm.toList= []
 ·rw [if_pos h3] at h;cases h
 rw [if_neg h3] at h
 by_cases h4:zDE x.nd ≠ 0
 ·rw [if_pos h4] at h;exact absurd h h4
 rw [if_neg h4] at h
 by_cases h5:x.nd.cl < 0\/(0 < x.nd.cl/\x.ns<=1)\/(x.nd.cl<=0/\1 < x.ns)
 ·rw [if_pos h5] at h;cases h
 rw [if_neg h5] at h
 by_cases h6:x.ns < 1
 ·rw [if_pos h6] at h;cases h
 rw [if_neg h6] at h
 by_cases h7:zB8 o x=true
 ·rw [if_pos h7] at h;cases h
 have h3a:¬ L x.nm < L z:=fun e=>h3 (.inl e)
 have h3b:x.nd.dep=0:=Decidable.not_not.1 fun e=>h3 (.inr (.inl e))
 have h3c:x.nd.nm.toList= []:=Decidable.not_not.1 fun e=>h3 (.inr (.inr e))
 exact⟨by omega,h2,h3a,h3b,h3c,by omega,by omega,by omega,by omega,Bool.eq_false_iff.2 h7⟩
theorem zMm {x:TrN} (h:zDE x=0):zBR x.ats=0:=
 (zAd ((zAf h).2.2.1 1 (by simp))).2.2.2.1
theorem zKe {x:TrN} (h:zDE x=0):zAc (zCw x)=0:=
 (zAd ((zAf h).2.2.1 1 (by simp))).2.2.1
/-! Entries of a filtered range. -/
theorem zFO {p:Nat->Bool}:∀ {m q i:Nat},((List.range m).filter p)[q]? = some i->p i=true/\i < m/\(List.range i).filter p=((List.range m).filter p).take q
 | 0,q,i,h=>by simp at h
 | m+1,q,i,h=>by
  rw [List.range_succ,List.filter_append] at h ⊢
  by_cases hq:q < ((List.range m).filter p).length
  ·rw [List.getElem?_append_left hq] at h
   obtain⟨h1,h2,h3⟩:=zFO h
   exact⟨h1,by omega,by rw [h3,List.take_append_of_le_length (by omega)]⟩
  ·rw [List.getElem?_append_right (by omega)] at h
   by_cases hp:p m=true
   ·rw [List.filter_cons_of_pos hp] at h ⊢
    have hq2:q - ((List.range m).filter p).length=0:=by
     have:=(List.getElem?_eq_some_iff.1 h).1
     simp at this;omega
    rw [hq2] at h
    simp at h
    subst h
    refine⟨hp,by omega,?_⟩
    rw [show q=((List.range m).filter p).length by omega,List.take_left]
   ·rw [List.filter_cons_of_neg hp] at h
    simp at h
theorem zCl (p:Nat->Bool) (m:Nat):(List.range (m+1)).filter p=(List.range m).filter p ++ (if p m=true then [m] else []):=by
 rw [List.range_succ,List.filter_append]
 by_cases hp:p m=true
 ·rw [List.filter_cons_of_pos hp,if_pos hp];rfl
 ·rw [List.filter_cons_of_neg hp,if_neg hp];rfl
def zG0 (t:List TrN) (n i:Nat):Bool:=decide (abv t i=(n:Int))
def zBg (t:List TrN) (n k:Nat):List Nat:=(List.range k).filter (zG0 t n)
def zAE (b:List BrN) (n:Nat):List Nat:=zBg (plT b) n b.length
def zDi (t:List TrN) (n i:Nat):Bool:=decide (i=n) || (decide ((zAa t n).cl ≠ 0) && decide ((zAa t i).cl=(zAa t n).cl))
def zCv (t:List TrN) (n k:Nat):List Nat:=(List.range k).filter (zDi t n)
def zAR (b:List BrN) (n:Nat):List Nat:=zCv (plT b) n b.length
def zW5 (t:List TrN) (n i k:Nat):Bool:=decide ((n:Int) < abv t k) || (decide (abv t k=(n:Int)) && decide (i<=k))
def zQb (b:List BrN) (n i:Nat):Bool:=(zAR b i).all (zW5 (plT b) n i)
def zEs (x:TrN):TrN:=if x.kd=1 then zCK else {x with dep:=0,nm:=⟨#[]⟩}
def zBl (b:List BrN) (n i:Nat):DeN:=⟨(zAk b i).nm,zEs (zAk b i).toTrN,(zAk b i).kd == 5,zQb b n i,(zAR b i).length⟩
def zAo (b:List BrN) (n:Nat):DiN:=⟨(zAk b n).ats,(zAk b n).opq,(zAk b n).red,(zAE b n).map (zBl b n)⟩
/-! What is above a node of a right tree. -/
theorem zH4 {t:List TrN} {d:Int}:∀ {m n:Nat},zDB t d m=(n:Int)->n < m/\(zAa t n).dep < d/\∀ k,n < k->k < m->d<=(zAa t k).dep
 | 0,n,h=>by unfold zDB at h;omega
 | m+1,n,h=>by
  unfold zDB at h
  by_cases e:(zAa t m).dep < d
  ·rw [if_pos e] at h
   obtain rfl:m=n:=by omega
   exact⟨by omega,e,fun k h1 h2=>by omega⟩
  ·rw [if_neg e] at h
   obtain⟨h1,h2,h3⟩:=zH4 h
   refine⟨by omega,h2,fun k h4 h5=>?_⟩
   by_cases e2:k=m
   ·subst e2;omega
   ·exact h3 k h4 (by omega)
theorem zJ3 {t:List TrN} {d:Int}:∀ {m n:Nat},n < m->(zAa t n).dep < d->(∀ k,n < k->k < m->d<=(zAa t k).dep)->zDB t d m=(n:Int)
 | m+1,n,h1,h2,h3=>by
  unfold zDB
  by_cases e:n=m
  ·subst e;rw [if_pos h2]
  ·rw [if_neg (by have:=h3 m (by omega) (by omega);omega)]
   exact zJ3 (by omega) h2 fun k h4 h5=>h3 k h4 (by omega)
theorem zGz {t:List TrN} {i n:Nat} (hok:zAW t (i+1)) (h:abv t i=(n:Int)):n < i/\(zAa t i).dep=(zAa t n).dep+1/\(zAa t n).kd=1/\∀ k,n < k->k<=i->(zAa t i).dep<=(zAa t k).dep:=by
 obtain⟨h1,h2,h3⟩:=zH4 h
 obtain⟨s1,_⟩:=zAd (hok (n+1) (by omega))
 have h4:=((zA4 s1).2.2.2 (by omega)).2
 rw [Nat.add_sub_cancel] at h4
 have h5:(zAa t i).dep<=(zAa t (n+1)).dep:=by
  by_cases e:n+1=i
  ·rw [e];exact Int.le_refl _
  ·exact h3 (n+1) (by omega) (by omega)
 unfold zEn at h4
 by_cases hk:(zAa t n).kd=1
 ·rw [if_pos hk] at h4
  refine⟨h1,by omega,hk,fun k h6 h7=>?_⟩
  by_cases e:k=i
  ·rw [e];exact Int.le_refl _
  ·exact h3 k h6 (by omega)
 ·rw [if_neg hk] at h4;omega
theorem zHl {t:List TrN} {n:Nat}:∀ {j:Nat},zAW t j->j<=t.length->n < j->(∀ k,n < k->k < j->(zAa t n).dep+1<=(zAa t k).dep) ->
  (zCr (zCP t j) ((zAa t n).dep+1)).1=(zBg t n j).length/\(zCr (zCP t j) ((zAa t n).dep+1)).2=(zBg t n j).getLast?.map fun k=>(zAa t k).nm
 | 0,_,_,h,_=>by omega
 | j+1,hok,hl,hn,hd=>by
  rw [zDH t j (by omega),<- zAm t j (by omega)]
  have hs:zBg t n (j+1)=zBg t n j ++ (if zG0 t n j=true then [j] else []):=zCl _ _
  by_cases e:n=j
  ·subst e
   rw [zFe (by omega)]
   have h0:∀ m,m<=n->zBg t n m= []:=fun m hm=>List.filter_eq_nil_iff.2 fun k hk=>by
    have hk:=List.mem_range.1 hk
    have:=zCN t k
    unfold zG0
    rw [decide_eq_true_iff];omega
   have hk:zG0 t n n=false:=by unfold zG0;have:=zCN t n;rw [decide_eq_false_iff_not];omega
   rw [hs,h0 n (Nat.le_refl _),hk]
   exact⟨rfl,rfl⟩
  ·obtain⟨h1,h2⟩:=zHl (j:=j) (fun k hk=>hok k (by omega)) (by omega) (by omega) (fun k h1 h2=>hd k h1 (by omega))
   have h3:=hd j (by omega) (by omega)
   by_cases e2:(zAa t j).dep=(zAa t n).dep+1
   ·have hk:zG0 t n j=true:=by
     unfold zG0
     rw [decide_eq_true_iff]
     exact zJ3 (by omega) (by omega) fun k h4 h5=>by have:=hd k h4 (by omega);omega
    rw [zHn e2,hs,hk,h1]
    exact⟨by simp,by simp⟩
   ·have hk:zG0 t n j=false:=by
     unfold zG0
     rw [decide_eq_false_iff_not]
     intro h
     have:=(zGz hok h).2.1;omega
    rw [zHm (by omega),hs,hk,h1,h2]
    exact⟨by simp,by simp⟩
theorem zPz {m:Nat} {z:Option ByteArray} {nm:ByteArray} (hz:z=none->m=0) (h:zDL m z nm=0):m < 24/\∀ x,z=some x->¬ nm=x/\¬ L nm < L x:=by
 unfold zDL at h
 cases z with
 | none=>exact⟨by rw [hz rfl];decide,fun x e=>by cases e⟩
 | some x=>
  simp only at h
  by_cases h1:x=nm
  ·rw [if_pos h1] at h;cases h
  rw [if_neg h1] at h
  by_cases h2:L nm < L x
  ·rw [if_pos h2] at h;cases h
  rw [if_neg h2] at h
  by_cases h3:24<=m
  ·rw [if_pos h3] at h;cases h
  exact⟨by omega,fun y e=>by cases e;exact⟨fun e=>h1 e.symm,h2⟩⟩
theorem zFK {t:List TrN} {n i:Nat} (hok:zAW t t.length) (hi:i < t.length) (h:abv t i=(n:Int)) :
  zAq (L (zAa t i).nm)=0/\(zBg t n i).length < 24/\∀ k,(zBg t n i).getLast? = some k->¬ (zAa t i).nm=(zAa t k).nm/\¬ L (zAa t i).nm < L (zAa t k).nm:=by
 obtain⟨h1,h2,h3,h4⟩:=zGz (fun j hj=>hok j (by omega)) h
 obtain⟨_,he,_⟩:=zAd (hok i hi)
 have he:=he (by omega)
 unfold zAT at he
 by_cases hn:zAq (L (zAa t i).nm) ≠ 0
 ·rw [if_pos hn] at he;exact absurd he hn
 rw [if_neg hn] at he
 obtain⟨s1,s2⟩:=zHl (t:=t) (n:=n) (j:=i) (fun k hk=>hok k (by omega)) (by omega) h1 (fun k h5 h6=>by have:=h4 k h5 (by omega);omega)
 rw [h2,s1,s2] at he
 obtain⟨e1,e2⟩:=zPz (fun hz=>by
  cases hg:(zBg t n i).getLast? with
  | none=>rw [List.getLast?_eq_none_iff.1 hg];rfl
  | some k=>rw [hg] at hz;cases hz) he
 exact⟨by omega,e1,fun k hk=>e2 _ (by rw [hk];rfl)⟩
theorem zOe {t:List TrN} {n:Nat} (hok:zAW t t.length):(zBg t n t.length).length<=24:=by
 by_cases h:(zBg t n t.length).length<=24
 ·exact h
 exfalso
 obtain⟨i,hi⟩:∃ i,(zBg t n t.length)[24]? = some i:=⟨_,List.getElem?_eq_getElem (by omega)⟩
 obtain⟨h1,h2,h3⟩:=zFO hi
 have:=(zFK hok h2 (of_decide_eq_true h1)).2.1
 unfold zBg at this h
 rw [h3,List.length_take] at this
 omega
/-! A node as the only entry of a root. -/
theorem zPK:zAc zCK=0:=by kernel_rfl
theorem zNT (x:TrN):zAz [zCK,zCw x] 0=0:=by
 unfold zAz
 rw [if_pos rfl,if_pos ⟨rfl,(by show (ByteArray.toList ⟨#[]⟩)= [];kernel_rfl),rfl⟩]
theorem zOd:zAc (zCw zCK)=0:=by kernel_rfl
theorem zT0 {x:TrN} (hk:zAc (zCw x)=0) (hc:zBR x.ats=0):zDE x=0:=by
 unfold zDE
 refine(zBj (zEO (t:=[zCK,zCw x]) (by simp) (by simp) ?_ ?_)).2
 ·intro j hj
  have hj:j < 2:=hj
  match j,hj with
  | 0,_=>
   rw [zBL (t:=[zCK,zCw x]) (i:=0) (x:=zCK) rfl (zNT x) (fun h=>absurd rfl h) zPK rfl]
   unfold zF4
   rw [if_neg (by unfold zBS;exact Bool.false_ne_true),if_neg]
   show ¬ ((0:Int) < 0\/zAJ [zCK,zCw x] 0+1 < 0)
   unfold zAJ;omega
  | 1,_=>
   have he:zAT [zCK,zCw x] 1=0:=by
    unfold zAT
    have h1:zAq (L (zAa [zCK,zCw x] 1).nm)=0:=by show zAq (L zT1)=0;decide
    rw [if_neg (by rw [h1];decide)]
    have h2:zCr (zCP [zCK,zCw x] 1) (zAa [zCK,zCw x] 1).dep=(0,none):=zFe (by show (0:Int) < 1;decide)
    rw [h2];rfl
   have hs:zAz [zCK,zCw x] 1=0:=by
    unfold zAz
    rw [if_neg (by decide),if_neg,if_neg]
    ·show ¬ (8:Int) < 1;decide
    ·show ¬ ((1:Int) < 1\/zEn zCK < 1);decide
   rw [zBL (t:=[zCK,zCw x]) (i:=1) (x:=zCw x) rfl hs (fun _=>he) hk hc]
   unfold zF4
   have hu:zBS [zCK,zCw x] 1 1=false:=by
    unfold zBS zBS
    show (false || (decide ((0:Int) < 0) && _ && _))=false
    simp
   rw [if_neg (by rw [hu];exact Bool.false_ne_true),if_neg]
   show ¬ ((0:Int) < 0\/zAJ [zCK,zCw x] 1+1 < 0)
   have:zAJ [zCK,zCw x] 1=0:=rfl
   omega
 ·intro j hj
  have hj:j < 2:=hj
  match j,hj with
  | 0,_=>rfl
  | 1,_=>rfl
theorem zPJ {x:TrN} (h:zAc x=0):zAc (zCw (zEs x))=0:=by
 unfold zEs
 by_cases hk:x.kd=1
 ·rw [if_pos hk];exact zOd
 ·rw [if_neg hk]
  unfold zAc zCw at *
  by_cases h0:x.kd < 1\/5 < x.kd
  ·rw [if_pos h0] at h;cases h
  rw [if_neg h0,if_neg hk] at h ⊢
  by_cases h2:x.kd=2
  ·rw [if_pos h2] at h ⊢;exact h
  rw [if_neg h2] at h ⊢
  by_cases h3:x.kd=3
  ·rw [if_pos h3] at h ⊢;exact h
  rw [if_neg h3] at h ⊢
  by_cases h4:x.kd=4
  ·rw [if_pos h4] at h ⊢;exact h
  rw [if_neg h4] at h ⊢
  split at h
  ·rename_i hh
   rw [if_pos ⟨hh.1,hh.2.1,hh.2.2.1,rfl,hh.2.2.2.2⟩]
  ·cases h
theorem zGm {x:TrN} (h:zAc x=0):(x.kd=1->x.cl=0)/\(x.kd=5->x.cl=0/\x.ats= [])/\1<=x.kd/\x.kd<=5:=by
 unfold zAc at h
 by_cases h0:x.kd < 1\/5 < x.kd
 ·rw [if_pos h0] at h;cases h
 rw [if_neg h0] at h
 refine⟨fun h1=>?_,fun h5=>?_,by omega,by omega⟩
 ·rw [if_pos h1] at h
  split at h
  ·rename_i hh;exact hh.2.2.2
  ·cases h
 ·rw [if_neg (by omega),if_neg (by omega),if_neg (by omega),if_neg (by omega)] at h
  split at h
  ·rename_i hh;exact⟨hh.2.2.2.1,List.length_eq_zero_iff.1 hh.2.2.2.2⟩
  ·cases h
/-! The names of a node. -/
theorem zHw {t:List TrN} {i:Nat} (hi:i < t.length) (hc:(zAa t i).cl ≠ 0):∀ k,k<=t.length->(zCv t i k).length=zAi t (zAa t i).cl k
 | 0,_=>rfl
 | k+1,hk=>by
  unfold zCv
  rw [zCl,List.length_append]
  have ih:=zHw hi hc k (by omega)
  unfold zCv at ih
  rw [ih,show zAi t (zAa t i).cl (k+1)=zAi t (zAa t i).cl k+(if (zAa t k).cl=(zAa t i).cl then 1 else 0) from rfl]
  have:zDi t i k=decide ((zAa t k).cl=(zAa t i).cl):=by
   unfold zDi
   by_cases e:k=i
   ·subst e;simp
   ·simp [e,hc]
  rw [this]
  by_cases e:(zAa t k).cl=(zAa t i).cl
  ·rw [if_pos e,if_pos (decide_eq_true e)];rfl
  ·rw [if_neg e,if_neg (by rw [decide_eq_false e];exact Bool.false_ne_true)];rfl
theorem zN6 {t:List TrN} {i:Nat} (hi:i < t.length):i ∈ zCv t i t.length:=List.mem_filter.2 ⟨List.mem_range.2 hi,by unfold zDi;simp⟩
theorem zHx {t:List TrN} {i:Nat} (hi:i < t.length) (hc:(zAa t i).cl=0):zCv t i t.length= [i]:=by
 unfold zCv
 have:∀ k,zDi t i k=decide (k=i):=fun k=>by unfold zDi;simp [hc]
 rw [List.filter_congr (q:=fun k=>decide (k=i)) fun k _=>this k]
 have h:∀ m,(List.range m).filter (fun k=>decide (k=i))=if i < m then [i] else []:=by
  intro m
  induction m with
  | zero=>rfl
  | succ m ih=>
   rw [zCl,ih]
   by_cases e:m=i
   ·subst e;simp
   ·by_cases e2:i < m
    ·rw [if_pos e2,if_pos (show i < m+1 by omega),decide_eq_false e];rfl
    ·rw [if_neg e2,if_neg (show ¬ i < m+1 by omega),decide_eq_false e];rfl
 rw [h,if_pos hi]
theorem zGs {b:List BrN} (hb:zB1 b=0) {n:Nat} (hn:n < b.length) (_hk:(zAk b n).kd=1):zDA (zAo b n)=0:=by
 obtain⟨h0,_,hm⟩:=zAp hb
 obtain⟨_,_,hok,_,hlone⟩:=zAf h0
 have hlen:(plT b).length=b.length:=zAh b
 have hG:∀ j,j < b.length->zAa (plT b) j=(zAk b j).toTrN:=fun j hj=>zAv b j hj
 have hmn:=hm n hn
 have hno:¬ ((zAk b n).opq=true/\0 < (zAk b n).red.length):=by
  intro h
  unfold zAO at hmn
  split at hmn
  ·cases hmn
  ·cases hmn
 have hpa:zAY (zAk b n).red=0:=by
  by_cases e:0 < (zAk b n).red.length
  ·unfold zAO at hmn
   split at hmn
   ·cases hmn
   ·by_cases e2:zAY (zAk b n).red=0
    ·exact e2
    ·rw [if_pos ⟨e,e2⟩] at hmn;exact hmn
  ·rw [List.length_eq_zero_iff.1 (show (zAk b n).red.length=0 by omega)];rfl
 have hc:zBR (zAk b n).ats=0:=by
  have:=(zAd (hok n (by omega))).2.2.2.1
  rw [hG n hn] at this;exact this
 refine(zBi (zJG (d:=zAo b n) hc hno hpa ?_ ?_)).2
 ·show ¬ 24 < ((zAE b n).map (zBl b n)).length
  rw [List.length_map]
  have:=zOe (n:=n) hok
  unfold zAE
  rw [<- hlen];omega
 intro q hq
 have hq:q < ((zAE b n).map (zBl b n)).length:=hq
 rw [List.length_map] at hq
 obtain⟨i,hi⟩:∃ i,(zAE b n)[q]? = some i:=⟨_,List.getElem?_eq_getElem hq⟩
 obtain⟨hp,hil,htk⟩:=zFO hi
 have hp:abv (plT b) i=(n:Int):=of_decide_eq_true hp
 have hge:zA6 (zAo b n).ens q=zBl b n i:=by
  show ((zAE b n).map (zBl b n)).getD q zWA=_
  simp [List.getD,hi]
 obtain⟨e1,e2,e3⟩:=zFK hok (by rw [hlen];exact hil) hp
 rw [hG i hil] at e1 e3
 obtain⟨_,_,hki,hci,hcl⟩:=zAd (hok i (by omega))
 rw [hG i hil] at hki hci
 obtain⟨p1,p5,_⟩:=zGm hki
 have hsolo:zDE (zEs (zAk b i).toTrN)=0:=by
  refine zT0 (zPJ hki) ?_
  unfold zEs
  split
  ·decide
  ·exact hci
 have hcl0:0<=(zAk b i).toTrN.cl:=by have:=(zEK hcl).1;rwa [hG i hil] at this
 have hncl:(zEs (zAk b i).toTrN).cl=(zAk b i).toTrN.cl:=by
  unfold zEs
  split
  ·rename_i h1;exact(p1 h1).symm
  ·rfl
 have hnm:∀ j,j ≠ 0->q=j->zCZ (zAo b n).ens q=(zAk b ((zAE b n).getD (q - 1) 0)).nm:=by
  rintro j hj rfl
  unfold zCZ
  rw [if_neg hj]
  show (((zAE b n).map (zBl b n)).getD (q - 1) zWA).nm=_
  have:q - 1 < (zAE b n).length:=by omega
  simp [List.getD,this,zBl]
 have hlast:¬ (zAk b i).nm=zCZ (zAo b n).ens q/\¬ L (zAk b i).nm < L (zCZ (zAo b n).ens q):=by
  by_cases h0:q=0
  ·subst h0
   rw [zGk]
   refine⟨fun e=>?_,fun e=>absurd e (List.not_lt_nil _)⟩
   have e1:zAq (L (zAk b i).nm)=0:=e1
   rw [e] at e1
   cases e1
  ·rw [hnm q h0 rfl]
   have hg:(zBg (plT b) n i).getLast? = some ((zAE b n).getD (q - 1) 0):=by
    unfold zBg
    rw [htk,List.getLast?_eq_getElem?]
    have hle:(List.take q (zAE b n)).length=q:=by rw [List.length_take];omega
    show (List.take q (zAE b n))[(List.take q (zAE b n)).length - 1]? = _
    rw [hle,List.getElem?_take,if_pos (by omega),List.getElem?_eq_getElem (by omega)]
    simp [List.getD,show q - 1 < (zAE b n).length by omega]
   have h5:=e3 _ hg
   have hkl:(zAE b n).getD (q - 1) 0 < b.length:=by
    obtain⟨k,hk⟩:∃ k,(zAE b n)[q - 1]? = some k:=⟨_,List.getElem?_eq_getElem (by omega)⟩
    have:=(zFO hk).2.1
    simp [List.getD,hk,this]
   rw [hG _ hkl] at h5
   exact h5
 have hrest:zBV (zAk b n).opq (zBl b n i)=0:=by
  have hns:(zBl b n i).ns=((zAR b i).length:Int):=rfl
  have hmem:i ∈ zAR b i:=by unfold zAR;rw [<- hlen];exact zN6 (by rw [hlen];exact hil)
  have hpos:0 < (zAR b i).length:=List.length_pos_of_mem hmem
  have hnc:(zBl b n i).nd.cl=(zAk b i).toTrN.cl:=hncl
  have hone:(zAk b i).toTrN.cl<=0->(zAR b i).length=1:=fun h=>by
   unfold zAR
   rw [<- hlen,zHx (by rw [hlen];exact hil) (by rw [hG i hil];omega)];rfl
  have hmany:0 < (zAk b i).toTrN.cl->1 < (zAR b i).length:=fun h=>by
   have h1:=hlone i (by omega)
   unfold zDM at h1
   rw [hG i hil,decide_eq_true h,Bool.true_and] at h1
   have h2:=zHw (t:=plT b) (i:=i) (by omega) (by rw [hG i hil];omega) b.length (by omega)
   rw [hG i hil] at h2
   have h3:zAi (plT b) (zAk b i).toTrN.cl (plT b).length ≠ 1:=bne_iff_ne.1 (by rw [bne,h1];rfl)
   unfold zAR at hpos ⊢
   rw [hlen] at h3
   omega
  unfold zBV
  rw [hns,hnc,if_neg (by
   rintro(h | ⟨h,h2⟩ | ⟨h,h2⟩)
   ·omega
   ·have:=hmany h;omega
   ·have:=hone h;omega),if_neg (by omega),if_neg]
  unfold zB8
  have hkd:(zBl b n i).nd.kd=(zAk b i).toTrN.kd:=by
   show (zEs _).kd=_
   unfold zEs
   split
   ·rename_i h;exact h.symm
   ·rfl
  have hwh:(zBl b n i).wh=((zAk b i).toTrN.kd == 5):=rfl
  have hu:(zAk b i).toTrN.kd=5->(zAk b n).opq=false:=fun h5=>by
   have hmi:=hm i hil
   by_cases hcase:¬ ((zAk b i).opq=true/\(zAk b i).kd ≠ 1)/\¬ 0 < (zAk b i).red.length
   ·rw [zD4 rfl hcase.1 hcase.2] at hmi
    cases ho:(zAk b n).opq with
    | false=>rfl
    | true=>
     rw [if_pos] at hmi
     ·cases hmi
     unfold zDo
     have h5:((zAk b i).kd == 5)=true:=beq_iff_eq.2 h5
     rw [h5,hp,decide_eq_true (by omega)]
     show (true && true && (zAk b n).opq)=true
     rw [ho];rfl
   ·exfalso
    unfold zAO at hmi
    rw [if_pos] at hmi
    ·cases hmi
    left
    have h5:(zAk b i).kd=5:=h5
    refine⟨?_,by omega⟩
    by_cases e:(zAk b i).opq=true
    ·exact .inl e
    ·refine .inr (Decidable.not_not.1 fun e2=>hcase ⟨fun h=>e h.1,e2⟩)
  have hfi:(zAR b i).length=1->(zBl b n i).fi=true:=fun h1=>by
   show (zAR b i).all _=true
   obtain⟨k,hk⟩:=List.length_eq_one_iff.1 h1
   rw [hk] at hmem ⊢
   obtain rfl:i=k:=by simpa using hmem
   unfold zW5
   simp [hp]
  have hns':((zBl b n i).ns == 1)=decide ((zAR b i).length=1):=by
   rw [hns]
   by_cases e:(zAR b i).length=1
   ·rw [e];rfl
   ·rw [decide_eq_false e];exact nB (by omega)
  rw [hkd,hwh,hnc,hns']
  have t1:(((zAk b i).toTrN.kd == 1) && (decide (0 < (zBl b n i).nd.ats.length) || decide (0 < (zAk b i).toTrN.cl)))=false:=by
   by_cases h1:(zAk b i).toTrN.kd=1
   ·have ha:(zBl b n i).nd.ats= []:=by show (zEs _).ats= [];unfold zEs;rw [if_pos h1];rfl
    rw [ha,p1 h1];simp
   ·rw [nB h1];rfl
  have t2:(((zAk b i).toTrN.kd == 5) && (decide (0 < (zAk b i).toTrN.cl) || (zAk b n).opq))=false:=by
   by_cases h1:(zAk b i).toTrN.kd=5
   ·rw [(p5 h1).1,hu h1];simp
   ·rw [nB h1];rfl
  have t3:(!(zBl b n i).fi && decide ((zAR b i).length=1))=false:=by
   by_cases e:(zAR b i).length=1
   ·rw [hfi e];rfl
   ·rw [decide_eq_false e,Bool.and_false]
  rw [t1,t2,t3]
  simp
 show zEh (zAk b n).opq (zCZ (zAo b n).ens q) (zA6 (zAo b n).ens q)=0
 rw [hge]
 have hx0:(zEs (zAk b i).toTrN).dep=0/\(zEs (zAk b i).toTrN).nm.toList= []:=by
  unfold zEs
  have he:ByteArray.toList ⟨#[]⟩= []:=by kernel_rfl
  split
  ·exact⟨rfl,he⟩
  ·exact⟨rfl,he⟩
 rw [zHI (x:=zBl b n i) e1 hlast.1 hlast.2 hx0.1 hx0.2 hsolo]
 exact hrest
def zVt (cs:List Value):Nat->List Value->List Value
 | _,[]=>cs
 | j,u :: r=>zVt (cs.set j u) (j+1) r
theorem zMp:∀ (vs cs:List Value) (j i:Nat),j+vs.length<=cs.length->(zVt cs j vs)[i]? = if j<=i/\i < j+vs.length then vs[i - j]? else cs[i]?
 | [],cs,j,i,_=>by rw [if_neg (by simp only [List.length_nil];omega)];rfl
 | u :: r,cs,j,i,h=>by
  rw [List.length_cons] at h
  show (zVt (cs.set j u) (j+1) r)[i]? = _
  rw [zMp r (cs.set j u) (j+1) i (by rw [List.length_set];omega),List.length_cons]
  by_cases e1:i=j
  ·subst e1
   rw [if_neg (by omega),if_pos (by omega),Nat.sub_self,List.getElem?_set,if_pos rfl,if_pos (by omega)];rfl
  ·by_cases e2:j+1<=i/\i < j+1+r.length
   ·rw [if_pos e2,if_pos (by omega)]
    obtain⟨q,hq⟩:∃ q,i - j=q+1:=⟨i - j - 1,by omega⟩
    rw [hq,show i - (j+1)=q by omega];rfl
   ·rw [if_neg e2,if_neg (by omega),List.getElem?_set,if_neg (fun e=>e1 e.symm)]
theorem zRK (vs cs:List Value) (h:vs.length=cs.length):zVt cs 0 vs=vs:=by
 refine List.ext_getElem? fun i=>?_
 rw [zMp vs cs 0 i (by omega)]
 by_cases e:i < vs.length
 ·rw [if_pos (by omega),Nat.sub_zero]
 ·rw [if_neg (by omega),List.getElem?_eq_none (by omega),List.getElem?_eq_none (by omega)]
theorem zMs {B g n len cap:Nat} {e:TypeId} {k:Nat}:∀ (vs:List Value) (j:Nat) (w:World) (css:List (List Value)) (hk:k < css.length),(∀ cs ∈ css,cs.length=n)->j+vs.length<=n->w.ownsRow B e n (.slice (some ⟨g,0,none⟩) len cap) len css.flatten ->
  (zGa w g (k * n+j) vs).ownsRow B e n (.slice (some ⟨g,0,none⟩) len cap) len (css.set k (zVt (css[k]'hk) j vs)).flatten
 | [],j,w,css,hk,_,_,h=>by
  show w.ownsRow _ _ _ _ _ (css.set k (css[k]'hk)).flatten
  rw [List.set_getElem_self];exact h
 | u :: r,j,w,css,hk,hl,hj,h=>by
  rw [List.length_cons] at hj
  have h2:=(h.stored (k * n+j) u).1
  rw [zM3 hl k j (by omega) hk u] at h2
  have hk':k < (css.set k ((css[k]'hk).set j u)).length:=by rw [List.length_set];exact hk
  have h3:=zMs r (j+1) (w.setCell ⟨g,k * n+j,none⟩ u) (css.set k ((css[k]'hk).set j u)) hk' (fun cs hcs=>by
   rcases List.mem_or_eq_of_mem_set hcs with hcs | rfl
   ·exact hl cs hcs
   ·rw [List.length_set];exact hl _ (List.getElem_mem hk)) (by omega) h2
  rw [List.getElem_set_self,List.set_set] at h3
  exact h3
section
variable {P:Program} {α:Type} {C:Cd α} {B:Nat} {w:World} {l:List α}
theorem zOZ {B g j:Nat} {t:TypeId} {f:Nat × Nat} {cs:Array Value} {w:World} (hB:B<=g) (h:w.heap[g]? = some (.cells cs t f)) (vs:List Value):Chg B t (some g) w (zGa w g j vs):=
 ⟨zFy vs w j,Nat.le_of_eq (zFx vs w j).symm,fun g' e=>by cases e;exact⟨hB,_,_,h⟩⟩
theorem zAg.put {n cap g:Nat} (h:zAg C B w (.slice (some ⟨g,0,none⟩) n cap) l) (K:zEN P C) (k:Nat) (hk:k < l.length) (x:α) (cs:List Value) (hcs:cs.length=C.n) (hx:C.R B w x cs) :
  zAg C B (zGa w g (k * C.n) cs) (.slice (some ⟨g,0,none⟩) n cap) (l.set k x)/\Chg B C.e (some g) w (zGa w g (k * C.n) cs):=by
 obtain⟨_,h1,_,_,rfl⟩:=h.addr (by omega)
 have hrow:=h.row rfl
 obtain⟨css,hl,hR,ho⟩:=h
 have hlen:=zAg.lens K hl hR
 have hkc:k < css.length:=by omega
 obtain⟨hB,c,f,hq⟩:=hrow g rfl
 have hc:Chg B C.e (some g) w (zGa w g (k * C.n) cs):=zOZ hB hq cs
 refine⟨⟨css.set k cs,by simp [hl],fun i hi hi'=>?_,?_⟩,hc⟩
 ·refine K.chg ?_ hc K.self
  rw [List.getElem_set,List.getElem_set]
  by_cases e:k=i
  ·subst e;rw [if_pos rfl,if_pos rfl];exact hx
  ·rw [if_neg e,if_neg e];exact hR i (by simpa using hi) (by simpa using hi')
 ·have h3:=zMs cs 0 w css hkc hlen (by omega) ho
  rw [zRK cs _ (by rw [hcs,hlen _ (List.getElem_mem hkc)]),Nat.add_zero] at h3
  rw [List.length_set];exact h3
end
inductive For where
 | nil:For
 | node (x:BrN) (k r:For):For
def BrN.at (x:BrN) (d:Int):BrN:={x with dep:=d}
def flt:Int->For->List BrN
 | _,.nil=>[]
 | d,.node x k r=>x.at d :: (flt (d+1) k ++ flt d r)
theorem zBe (d:Int) (x:BrN) (k r:For):flt d (.node x k r)=x.at d :: (flt (d+1) k ++ flt d r):=rfl
def siz:For->Nat
 | .nil=>0
 | .node _ k r=>1+siz k+siz r
theorem zA9:∀ (f:For) (d:Int),(flt d f).length=siz f
 | .nil,_=>rfl
 | .node x k r,d=>by
  unfold flt siz
  rw [List.length_cons,List.length_append,zA9 k,zA9 r];omega
theorem zEE:∀ (f:For) (d:Int),∀ y ∈ flt d f,d<=y.dep
 | .nil,_,y,h=>by cases h
 | .node x k r,d,y,h=>by
  unfold flt at h
  rcases List.mem_cons.1 h with rfl | h
  ·exact Int.le_refl _
  ·rcases List.mem_append.1 h with h | h
   ·have:=zEE k (d+1) y h;omega
   ·exact zEE r d y h
def zBU:For->List (BrN × For)
 | .nil=>[]
 | .node x k r=>(x,k) :: zBU r
def ofS:List (BrN × For)->For
 | []=>.nil
 | (x,k) :: r=>.node x k (ofS r)
theorem zFE:∀ f:For,ofS (zBU f)=f
 | .nil=>rfl
 | .node x k r=>by unfold zBU ofS;rw [zFE r]
theorem zCI:∀ l:List (BrN × For),zBU (ofS l)=l
 | []=>rfl
 | (x,k) :: r=>by unfold ofS zBU;rw [zCI r]
theorem zDg (d:Int):∀ l:List (BrN × For),flt d (ofS l)=l.flatMap fun q=>q.1.at d :: flt (d+1) q.2
 | []=>rfl
 | (x,k) :: r=>by
  show x.at d :: (flt (d+1) k ++ flt d (ofS r))=_
  rw [zDg d r];rfl
def zCT (P:BrN->For->Prop):For->Prop
 | .nil=>True
 | .node x k r=>P x k/\zCT P k/\zCT P r
def zB6 (P:Int->BrN->For->Prop):Int->For->Prop
 | _,.nil=>True
 | d,.node x k r=>P d x k/\zB6 P (d+1) k/\zB6 P d r
theorem zB6.each {P:Int->BrN->For->Prop} {Q R:BrN->For->Prop} (h:∀ d x k,P d x k->R x k->Q x k):∀ {f:For} {d:Int},zB6 P d f->zCT R f->zCT Q f
 | .nil,_,_,_=>trivial
 | .node _ _ _,_,hp,hr=>⟨h _ _ _ hp.1 hr.1,zB6.each h hp.2.1 hr.2.1,zB6.each h hp.2.2 hr.2.2⟩
theorem zB6.imp {P:Int->BrN->For->Prop} {Q:Int->BrN->For->Prop} {R:BrN->For->Prop} (h:∀ d x k,P d x k->R x k->Q d x k):∀ {f:For} {d:Int},zB6 P d f->zCT R f->zB6 Q d f
 | .nil,_,_,_=>trivial
 | .node _ _ _,_,hp,hr=>⟨h _ _ _ hp.1 hr.1,zB6.imp h hp.2.1 hr.2.1,zB6.imp h hp.2.2 hr.2.2⟩
theorem zKE {P:Int->BrN->For->Prop} {d:Int}:∀ {f:For},zB6 P d f->∀ q ∈ zBU f,P d q.1 q.2/\zB6 P (d+1) q.2
 | .nil,_,q,h=>by cases h
 | .node x k r,he,q,h=>by
  unfold zBU at h
  rcases List.mem_cons.1 h with rfl | h
  ·exact⟨he.1,he.2.1⟩
  ·exact zKE he.2.2 q h
theorem zDP {P:Int->BrN->For->Prop} {d:Int}:∀ {l:List (BrN × For)},(∀ q ∈ l,P d q.1 q.2/\zB6 P (d+1) q.2)->zB6 P d (ofS l)
 | [],_=>trivial
 | (x,k) :: _,h=>⟨(h (x,k) (List.mem_cons_self ..)).1,(h (x,k) (List.mem_cons_self ..)).2,zDP fun q hq=>h q (List.mem_cons_of_mem _ hq)⟩
def Shp (x:BrN) (k:For):Prop:=x.dep=0/\(x.kd ≠ 1->k= .nil)
theorem zE2 {P:BrN->For->Prop}:∀ {f:For},zCT P f->∀ q ∈ zBU f,P q.1 q.2/\zCT P q.2
 | .nil,_,q,h=>by cases h
 | .node x k r,he,q,h=>by
  unfold zBU at h
  rcases List.mem_cons.1 h with rfl | h
  ·exact⟨he.1,he.2.1⟩
  ·exact zE2 he.2.2 q h
/-! Every list of nodes whose depths are right is a forest. -/
def Chn:Int->List BrN->Prop
 | _,[]=>True
 | m,x :: r=>1<=x.dep/\x.dep<=m/\Chn (if x.kd=1 then x.dep+1 else x.dep) r
theorem zUK {m d:Int} {l:List BrN} (h:Chn m l) (hd:∀ y,l.head? = some y->y.dep<=d):Chn d l:=by
 cases l with
 | nil=>trivial
 | cons x r=>obtain⟨h1,_,h3⟩:=h;exact⟨h1,hd x rfl,h3⟩
theorem zUB {d m:Int} {f:For} {l:List BrN} (h:Chn m (flt d f ++ l)) (hm:m < d):f= .nil:=by
 cases f with
 | nil=>rfl
 | node x k r=>
  unfold flt at h
  obtain⟨_,h2,_⟩:=h
  have:(x.at d).dep=d:=rfl
  omega
theorem zUh:∀ (n:Nat) (l:List BrN) (m d:Int),l.length<=n->Chn m l->m<=d->∃ f rest m',l=flt d f ++ rest/\(∀ y,rest.head? = some y->y.dep < d)/\zCT Shp f/\Chn m' rest
 | _,[],m,d,_,_,_=>⟨.nil,[],m,rfl,fun y h=>(by cases h),trivial,trivial⟩
 | 0,x :: r,_,_,h,_,_=>by simp at h
 | n+1,x :: r,m,d,h,hc,hm=>by
  obtain⟨c1,c2,c3⟩:=hc
  by_cases e:x.dep=d
  ·have hle:(if x.kd=1 then x.dep+1 else x.dep)<=d+1:=by split <;> omega
   obtain⟨k,rest1,m1,e1,e2,e3,e4⟩:=zUh n r _ (d+1) (by simpa using h) c3 hle
   have hl:rest1.length<=n:=by
    have:=congrArg List.length e1
    rw [List.length_append] at this
    have h:r.length+1<=n+1:=h
    omega
   obtain⟨f,rest,m2,g1,g2,g3,g4⟩:=zUh n rest1 d d hl (zUK e4 fun y hy=>by have:=e2 y hy;omega) (Int.le_refl _)
   have hx:(x.at 0).at d=x:=by
    unfold BrN.at
    obtain⟨⟨dep,nm,kd,ats,dat,ma,mi,cl⟩,opq,red⟩:=x
    simp only at e;subst e;rfl
   refine⟨.node (x.at 0) k f,rest,m2,?_,g2,⟨⟨rfl,fun hk=>?_⟩,e3,g3⟩,g4⟩
   ·unfold flt
    rw [hx,e1,g1,List.cons_append,List.append_assoc]
   ·rw [if_neg (show ¬ x.kd=1 from hk),e1] at c3
    exact zUB c3 (by omega)
  ·exact⟨.nil,x :: r,m,rfl,fun y hy=>(by cases hy;omega),trivial,⟨c1,c2,c3⟩⟩
theorem zTw {b:List BrN} (hok:zAW (plT b) b.length):∀ (n i:Nat),n+i=b.length->0 < i->Chn (zEn (zAk b (i - 1)).toTrN) (b.drop i)
 | 0,i,h,_=>by rw [List.drop_eq_nil_of_le (by omega)];trivial
 | n+1,i,h,hi=>by
  have hil:i < b.length:=by omega
  rw [List.drop_eq_getElem_cons hil]
  obtain⟨hs,_⟩:=zAd (hok i hil)
  have h4:=(zA4 hs).2.2.2 (by omega)
  rw [zAv b i hil,zAv b (i - 1) (by omega)] at h4
  have hg:=zAw b i hil
  rw [<- hg]
  refine⟨h4.1,h4.2,?_⟩
  have:=zTw hok n (i+1) (by omega) (by omega)
  rw [Nat.add_sub_cancel] at this
  exact this
theorem zDf {b:List BrN} (h:zAs (plT b)=0):∃ x f,b=x :: flt 1 f/\zCT Shp f/\x.dep=0/\x.kd=1/\x.nm.toList= []:=by
 obtain⟨h0,_,hok,_⟩:=zAf h
 rw [zAh] at h0 hok
 cases b with
 | nil=>exact absurd rfl h0
 | cons x r=>
  obtain⟨hs,_⟩:=zAd (hok 0 (by simp))
  have h3:=hs
  unfold zAz at h3
  rw [if_pos rfl] at h3
  split at h3
  case isFalse=>cases h3
  rename_i hh
  have hx:zAa (plT (x :: r)) 0=x.toTrN:=rfl
  rw [hx] at hh
  have hc:=zTw hok r.length 1 (by simp) (by omega)
  have hm:zEn (zAk (x :: r) (1 - 1)).toTrN=1:=by
   show (if x.kd=1 then x.dep+1 else x.dep)=1
   rw [if_pos hh.2.2,hh.1];rfl
  rw [hm] at hc
  have hc:Chn 1 r:=hc
  obtain⟨f,rest,m',e1,e2,e3,e4⟩:=zUh r.length r 1 1 (Nat.le_refl _) hc (Int.le_refl _)
  have:rest= []:=by
   cases rest with
   | nil=>rfl
   | cons y q=>
    have:=e2 y rfl
    obtain⟨c1,_⟩:=e4
    omega
  rw [this,List.append_nil] at e1
  exact⟨x,f,by rw [e1],e3,hh.1,hh.2.2,hh.2.1⟩
/-! Where a node and its entries are. -/
def Sub (b:List BrN) (i:Nat) (d:Int) (x:BrN) (k:For):Prop:=∃ pre post,b=pre ++ (x.at d :: flt (d+1) k) ++ post/\pre.length=i/\∀ y,post.head? = some y->y.dep<=d
def kp:Nat->For->List Nat
 | _,.nil=>[]
 | p,.node _ k r=>p :: kp (p+1+siz k) r
theorem zEF {p:Nat->Bool}:∀ (n a:Nat),(∀ j,a<=j->j < a+n->p j=false)->(List.range' a n).filter p= []
 | 0,_,_=>rfl
 | n+1,a,h=>by
  rw [List.range'_succ,List.filter_cons_of_neg (by rw [h a (Nat.le_refl _) (by omega)];exact Bool.false_ne_true)]
  exact zEF n (a+1) fun j h1 h2=>h j (by omega) (by omega)
theorem zD5 {pre post:List BrN} {l:List BrN} {b:List BrN} (h:b=pre ++ l ++ post) {j:Nat} (h1:pre.length<=j) (h2:j < pre.length+l.length):zAk b j ∈ l:=by
 subst h
 have hj:j < (pre ++ l ++ post).length:=by rw [List.length_append,List.length_append];omega
 rw [zAw _ _ hj,List.getElem_append_left (by rw [List.length_append];omega),List.getElem_append_right h1]
 exact List.getElem_mem _
theorem zQd {p:Nat->Bool} {b:List BrN} {d:Int}:∀ (f:For) (pre post:List BrN),b=pre ++ flt d f ++ post->(∀ j,pre.length<=j->j < pre.length+siz f->(p j=true ↔ (zAk b j).dep=d))->(List.range' pre.length (siz f)).filter p=kp pre.length f
 | .nil,_,_,_,_=>rfl
 | .node x k r,pre,post,h,hp=>by
  have hb:b=pre ++ [x.at d] ++ (flt (d+1) k ++ flt d r ++ post):=by rw [h,zBe];simp [List.append_assoc]
  have hs:siz (.node x k r)=1+(siz k+siz r):=by show 1+siz k+siz r=_;omega
  have hq:=zD5 hb (j:=pre.length) (Nat.le_refl _) (by simp)
  rw [List.mem_singleton] at hq
  have hp0:p pre.length=true:=(hp _ (Nat.le_refl _) (by rw [hs];omega)).2 (by rw [hq];rfl)
  have hb2:b=(pre ++ [x.at d]) ++ flt (d+1) k ++ (flt d r ++ post):=by rw [hb];simp [List.append_assoc]
  have hb3:b=(pre ++ [x.at d] ++ flt (d+1) k) ++ flt d r ++ post:=by rw [hb];simp [List.append_assoc]
  have hl2:(pre ++ [x.at d]).length=pre.length+1:=by simp
  have hl3:(pre ++ [x.at d] ++ flt (d+1) k).length=pre.length+1+siz k:=by rw [List.length_append,hl2,zA9]
  rw [hs,<- List.range'_append_1 (m:=1),List.filter_append,show List.range' pre.length 1= [pre.length] from rfl,List.filter_cons_of_pos hp0,<- List.range'_append_1 (m:=siz k),List.filter_append]
  rw [zEF (siz k) (pre.length+1) fun j h1 h2=>by
   have hm:=zD5 hb2 (j:=j) (by omega) (by rw [hl2,zA9];omega)
   have hd:=zEE _ _ _ hm
   rw [<- Bool.not_eq_true]
   intro e
   have:=(hp j (by omega) (by rw [hs];omega)).1 e
   omega]
  have ih:=zQd r (pre ++ [x.at d] ++ flt (d+1) k) post hb3 fun j h1 h2=>hp j (by omega) (by rw [hs];omega)
  rw [hl3] at ih
  rw [ih];rfl
theorem zJs {b:List BrN} (hok:zAW (plT b) (plT b).length) {i:Nat} {d:Int} {x:BrN} {k:For} (h:Sub b i d x k):zAE b i=kp (i+1) k:=by
 obtain⟨pre,post,hb,hpre,hpost⟩:=h
 have hlen:b.length=(i+1)+(siz k+post.length):=by rw [hb,List.length_append,List.length_append,List.length_cons,zA9,hpre];omega
 have hbi:b=pre ++ [x.at d] ++ (flt (d+1) k ++ post):=by rw [hb];simp [List.append_assoc]
 have hbk:b=(pre ++ [x.at d]) ++ flt (d+1) k ++ post:=by rw [hb];simp [List.append_assoc]
 have hbp:b=(pre ++ (x.at d :: flt (d+1) k)) ++ post ++ []:=by rw [hb,List.append_nil]
 have hl2:(pre ++ [x.at d]).length=i+1:=by simp [hpre]
 have hl3:(pre ++ (x.at d :: flt (d+1) k)).length=i+1+siz k:=by rw [List.length_append,List.length_cons,zA9,hpre];omega
 have hG:∀ j,j < b.length->zAa (plT b) j=(zAk b j).toTrN:=fun j hj=>zAv b j hj
 have hi:zAk b i=x.at d:=by
  have:=zD5 hbi (j:=i) (by omega) (by rw [hpre];simp)
  exact List.mem_singleton.1 this
 have hin:∀ j,i+1<=j->j < i+1+siz k->d+1<=(zAk b j).dep:=fun j h1 h2=>zEE _ _ _ (zD5 hbk (by rw [hl2];exact h1) (by rw [hl2,zA9];exact h2))
 unfold zAE zBg
 rw [hlen,List.range_eq_range',<- List.range'_append_1 (m:=i+1),List.filter_append,<- List.range'_append_1 (m:=siz k) (n:=post.length),List.filter_append]
 rw [zEF (i+1) 0 fun j _ hj=>by
  unfold zG0
  have:=zCN (plT b) j
  rw [decide_eq_false_iff_not];omega]
 rw [zEF post.length (0+(i+1)+siz k) fun j h1 h2=>by
  unfold zG0
  rw [decide_eq_false_iff_not]
  intro e
  obtain⟨s1,s2,s3⟩:=zH4 e
  have hp0:0 < post.length:=by omega
  obtain⟨y,hy⟩:∃ y,post.head? = some y:=by
   cases post with
   | nil=>simp at hp0
   | cons y q=>exact⟨y,rfl⟩
  have hyd:=hpost y hy
  have hend:zAk b (i+1+siz k)=y:=by
   rw [zAw b _ (by omega)]
   simp only [hb]
   rw [List.getElem_append_right (by rw [hl3];exact Nat.le_refl _)]
   cases post with
   | nil=>cases hy
   | cons z q=>cases hy;simp [hl3]
  rw [hG j (by omega),hG i (by omega),hi] at s2
  have hxd:(x.at d).dep=d:=rfl
  by_cases ej:j=i+1+siz k
  ·rw [ej,hend] at s2;omega
  ·have:=s3 (i+1+siz k) (by omega) (by omega)
   rw [hG j (by omega),hG (i+1+siz k) (by omega),hend] at this
   omega]
 rw [List.nil_append,List.append_nil,Nat.zero_add]
 have:=zQd (p:=zG0 (plT b) i) (b:=b) (d:=d+1) k (pre ++ [x.at d]) post hbk fun j h1 h2=>by
  rw [hl2] at h1 h2
  unfold zG0
  rw [decide_eq_true_iff]
  have hxd:(x.at d).dep=d:=rfl
  constructor
  ·intro e
   have:=(zGz (fun m hm=>hok m (by rw [zAh];omega)) e).2.1
   rw [hG j (by omega),hG i (by omega),hi] at this
   exact this
  ·intro e
   exact zJ3 (by omega) (by rw [hG i (by omega),hG j (by omega),hi];omega) fun m h3 h4=>by
    rw [hG j (by omega),hG m (by omega)]
    have:=hin m (by omega) (by omega);omega
 rw [hl2] at this
 exact this
def kq:Nat->For->List (Nat × (BrN × For))
 | _,.nil=>[]
 | p,.node x k r=>(p,(x,k)) :: kq (p+1+siz k) r
theorem zMT:∀ (f:For) (p:Nat),(kq p f).map (·.1)=kp p f
 | .nil,_=>rfl
 | .node x k r,p=>by unfold kq kp;rw [List.map_cons,zMT r]
theorem zFa:∀ (f:For) (p:Nat),(kq p f).map (·.2)=zBU f
 | .nil,_=>rfl
 | .node x k r,p=>by unfold kq zBU;rw [List.map_cons,zFa r]
theorem zTm {b:List BrN} {d:Int}:∀ (f:For) (pre post:List BrN),b=pre ++ flt d f ++ post->(∀ y,post.head? = some y->y.dep<=d)->∀ q ∈ kq pre.length f,Sub b q.1 d q.2.1 q.2.2/\siz q.2.2 < siz f
 | .nil,_,_,_,_,q,h=>by cases h
 | .node x k r,pre,post,hb,hp,q,h=>by
  have hs:siz (.node x k r)=1+siz k+siz r:=rfl
  unfold kq at h
  rcases List.mem_cons.1 h with rfl | h
  ·refine⟨⟨pre,flt d r ++ post,by rw [hb,zBe];simp [List.append_assoc],rfl,fun y hy=>?_⟩,by show siz k < _;omega⟩
   cases r with
   | nil=>exact hp y hy
   | node z k2 r2=>
    unfold flt at hy
    cases hy
    exact Int.le_refl _
  ·have hl:(pre ++ [x.at d] ++ flt (d+1) k).length=pre.length+1+siz k:=by rw [List.length_append,List.length_append,zA9];rfl
   rw [<- hl] at h
   obtain⟨h1,h2⟩:=zTm (b:=b) r (pre ++ [x.at d] ++ flt (d+1) k) post (by rw [hb,zBe];simp [List.append_assoc]) hp q h
   exact⟨h1,by omega⟩
theorem zEv {b:List BrN} {i:Nat} {d:Int} {x:BrN} {k:For} (h:Sub b i d x k):∀ q ∈ kq (i+1) k,Sub b q.1 (d+1) q.2.1 q.2.2/\siz q.2.2 < siz k:=by
 obtain⟨pre,post,hb,hpre,hpost⟩:=h
 have hl2:(pre ++ [x.at d]).length=i+1:=by simp [hpre]
 rw [<- hl2]
 exact zTm k (pre ++ [x.at d]) post (by rw [hb];simp [List.append_assoc]) fun y hy=>by have:=hpost y hy;omega
theorem zAM {b:List BrN} {i:Nat} {d:Int} {x:BrN} {k:For} (h:Sub b i d x k):i < b.length/\zAk b i=x.at d:=by
 obtain⟨pre,post,hb,hpre,_⟩:=h
 have hbi:b=pre ++ [x.at d] ++ (flt (d+1) k ++ post):=by rw [hb];simp [List.append_assoc]
 exact⟨by rw [hb,List.length_append,List.length_append,List.length_cons];omega,List.mem_singleton.1 (zD5 hbi (j:=i) (by omega) (by rw [hpre];simp))⟩
theorem zGO (x:BrN) (f:For) (hx:x.dep=0):Sub (x :: flt 1 f) 0 0 x f:=by
 refine⟨[],[],?_,rfl,fun y h=>by cases h⟩
 have:x.at 0=x:=by
  unfold BrN.at
  obtain⟨⟨dep,nm,kd,ats,dat,ma,mi,cl⟩,opq,red⟩:=x
  simp only at hx;subst hx;rfl
 rw [this,List.append_nil];rfl
end Go.Proofs.YtbeeoomadnmogaaGreat
