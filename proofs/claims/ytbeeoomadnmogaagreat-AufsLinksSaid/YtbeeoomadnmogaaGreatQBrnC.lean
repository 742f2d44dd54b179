/- BrnC SamB DirA AwQ AwU RAny -/
import Derived.Test.YtbeeoomadnmogaaGreatQI3
import Derived.Test.YtbeeoomadnmogaaGreatQNodD
import Derived.Test.YtbeeoomadnmogaaGreatQChkBx
import Derived.Test.YtbeeoomadnmogaaGreatQBrnB
set_option maxRecDepth 100000
set_option maxHeartbeats 64000000
namespace Go.Proofs.YtbeeoomadnmogaaGreat
open Go.RowKit
theorem zPd (B:Nat)(w:World)(v:Value)(b:List BrN)(hb:zEi B w v b)(hB:B<=w.heap.size)(hl:b.length<=1000)(hats:∀x∈b,x.ats.length<=1000):
  Calls Tryz.prog 78 #[v] w (zW5 w b):=by
 obtain⟨aa,cap,rfl⟩:=hb.form;have HV:=hQq hb;clear hb;have HAT:=hQq hats;clear hats;go_enter Tryz.func78,Tryz.ntmps78;go_wp2;go_loopw [3,4] (fun o i w'=>∃(wi:World) (k:Nat),wi=w'/\k<=b.length/\i= .int .i64 k/\zAg cdT w.heap.size wi o (plT (b.take k))/\Ext w wi) (fun _ i _=>b.length-(intOf i).toNat)
 case atStart=>exact⟨_,0,rfl,Nat.zero_le _,rfl,zAg.nil _ _ _,bR _ _⟩
 case round=>
  obtain⟨wi,k,rfl,hk,rfl,ho,hE⟩:=hrel;have HO:=hQq ho;have HE:=hQq hE;obtain⟨a5,cap5,rfl⟩:=ho.form;clear ho hE;by_cases hlt:k<b.length
  case neg=>
   obtain rfl:k=b.length:=by omega
   have HR:Hid (zAg cdT w.heap.size wi (.slice a5 b.length cap5) (plT b)):=hQq (by have:=HO.out;rw[zJk,zAk]at this;exact this);have hq:(plT (b.take b.length)).length=b.length:=by rw[zJk,zAk]
   go_wp2;go_ret;exact⟨⟨a5,cap5,by rw[hq];rfl,HR.out⟩,HE.out⟩
  obtain⟨bb,off,va,vr,hex,hbx,hva,hvr,xx⟩:=HV.out.br k hlt;cases hex;obtain⟨c0,c1,c2,c3,c4,c5,c6,c7,c8,c9⟩:=zJQ HE.out hbx xx;have HVA:=hQq hva;obtain⟨a4,cap4,rfl⟩:=hvr.form;obtain⟨a3,cap3,rfl⟩:=hva.form;have HL:Hid ((b[k]'hlt).ats.length<=1000):=HAT.out _ (List.getElem_mem hlt);have HS:=hQq (zMB b k hlt);generalize b[k]'hlt=x at c0 c1 c2 c3 c4 c5 c6 c7 c8 c9 HVA HL HS;have HW:Hid (w.heap.size<=wi.heap.size):=HE.out.size;have j1:((k:Nat):Int)<(b.length:Int):=by omega
  have j0:(0:Int)<=(k:Int):=by omega
  have hq:(plT (b.take k)).length=k:=by rw[zAk,List.length_take];omega
  have HQ:=hQq hq;clear hq;clear xx hva hvr;go_wp2_with (first|(go_at_call 139;refine(zUL B _ x _ _ (HVA.out.ext okA HE.out) (Nat.le_trans hB HW.out) HL.out ⟨_,_,_,rfl⟩).mono ?_;rintro e w1 ⟨⟨va1,rfl,hv1⟩,hb1⟩;have HV1:=hQq hv1;have HB1:=hQq hb1;clear hv1 hb1)|(at_builtin;refine zIX okT rfl (.tmp 11) (.tmp 17) rfl _ _ (plT (b.take k)) [x.toTrN] w _ rfl rfl (by exact(HO.out.ext okT HB1.out).ext okT (eA _ _)) (by exact zAj okT _ x.toTrN (trC x.toTrN va1) _ rfl ⟨va1,HV1.out.mono okA (Nat.zero_le _),rfl⟩) (by exact(HE.out.trans HB1.out).trans (eA _ _)) (by have:=HB1.out.size;have:=HW.out;simp;omega) (by have:=HQ.out;simp;omega) ?_;intro v2 w2 ha;have HA:=hQq ha;clear ha))
  go_roundw
  case rel=>exact⟨_,k+1,rfl,by omega,by go_num,by rw[HS.out];exact HA.out.own,HA.out.below⟩
  case measure=>simp[intOf]<;>omega
theorem zMx (u v:Value)(a:List ByteArray)(w:World)(hu:zCp w u a)(hv:zCp w v a)(hl:a.length<=1000000):zAs Tryz.prog 62 #[u,v] w (.bool true):=by
 have h:=zMy u v a a w hu hv hl;grind
theorem zPj (B B' : Nat) (u v : Value) (b : List BrN) (w : World) (hu : zEi B w u b) (hv : zEi B' w v b) (hB : B <= w.heap.size) (hB' : B' <= w.heap.size) (hl : b.length <= 1000) (hats : ∀ x ∈ b, x.ats.length <= 1000) (hred : ∀ x ∈ b, x.red.length <= 1000) :
  zAs Tryz.prog 22 #[u, v] w (.bool true) := by
 unfold zAs;obtain ⟨aa, cap, rfl⟩ := hu.form;obtain ⟨ba, cap2, rfl⟩ := hv.form;have HU := hQq hu; have HV := hQq hv; have HA := hQq hats; have HRD := hQq hred;have HTA : Hid (∀ x ∈ plT b, x.ats.length <= 1000000) := hQq (fun x hx => by
  obtain ⟨y, hy, rfl⟩ := List.mem_map.1 hx;have := hats y hy;show y.ats.length <= _; omega)
 have HTL : Hid ((plT b).length <= 1000000) := hQq (by rw [zAk]; omega);have HY := hQq (zC3 (a := plT b) rfl);clear hu hv hats hred;go_enter Tryz.func22, Tryz.ntmps22;go_wp2_with fail
 refine (zPd B _ _ b HU.out hB hl HA.out).mono ?_;rintro e w1 ⟨⟨a5, cap5, rfl, ho⟩, hb1⟩;have HO1 := hQq ho; have HB1 := hQq hb1; clear ho hb1;go_wp2_with fail
 refine (zPd B' _ _ b (HV.out.ext okB HB1.out) (Nat.le_trans hB' HB1.out.size) hl HA.out).mono ?_;rintro e w2 ⟨⟨a6, cap6, rfl, ho⟩, hb2⟩;have HO2 := hQq ho; have HO3 := hQq (HO1.out.ext okT hb2); have HB2 := hQq (Ext.trans HB1.out hb2); clear ho hb2;go_wp2_with fail
 have hq : b.length = (plT b).length := (zAk b).symm;rw [hq];refine (zFq _ _ _ _ (plT b) (plT b) _ (by have := HO3.out.in okT; rw [hq] at this; exact this) (by have := HO2.out.in okT; rw [hq] at this; exact this) HTL.out HTA.out).mono ?_;rintro e w3 ⟨rfl, hb3⟩;rw [HY.out]; have HB3 := hQq (Ext.trans HB2.out hb3); clear hb3;rw [<- hq];clear hq;go_wp2;go_loopw [5] (fun i w' => ∃ (wi : World) (k : Nat), wi = w' /\ k <= b.length /\ i = .int .i64 k /\ Ext w wi) (fun i _ => b.length - (intOf i).toNat)
 case atStart => exact ⟨_, 0, rfl, Nat.zero_le _, rfl, HB3.out⟩
 case round =>
  clear HB3 HB2 HB1 HO1 HO2 HO3;obtain ⟨wi, k, rfl, hk, rfl, hE⟩ := hrel;have HE := hQq hE;by_cases hlt : k < b.length
  case neg =>
   obtain rfl : k = b.length := by omega
   clear hE;go_wp2;go_ret;exact ⟨rfl, HE.out⟩
  obtain ⟨b1, o1, va1, vr1, hex1, hb1, _, hvr1, _, _, _, _, _, _, _, _, c8, c9⟩ := (HU.out.ext okB HE.out).br k hlt;obtain ⟨b2, o2, va2, vr2, hex2, hb2, _, hvr2, _, _, _, _, _, _, _, _, d8, d9⟩ := (HV.out.ext okB HE.out).br k hlt;cases hex1;cases hex2;have HR1 := hQq hvr1.strs; have HR2 := hQq hvr2.strs;obtain ⟨a4, cap4, rfl⟩ := hvr1.form;obtain ⟨a7, cap7, rfl⟩ := hvr2.form;have HRL := hQq (HRD.out _ (List.getElem_mem hlt));generalize b[k]'hlt = x at c8 c9 d8 d9 HR1 HR2 HRL;have j1 : ((k : Nat) : Int) < (b.length : Int) := by omega
  have j0 : (0 : Int) <= (k : Int) := by omega
  have HC1 := hQq c8; have HC2 := hQq c9; have HC3 := hQq d8; have HC4 := hQq d9;clear hvr1 hvr2 hE;have qb : (x.opq != x.opq) = false := by cases x.opq <;> rfl
  go_wp2;go_region_held3 (fun w' => w'.cell? ⟨b1, o1 + k * 10 + 8, none⟩ = some (.bool x.opq) /\ w'.cell? ⟨b1, o1 + k * 10 + 9, none⟩ = some (.slice a4 x.red.length cap4) /\ w'.cell? ⟨b2, o2 + k * 10 + 8, none⟩ = some (.bool x.opq) /\ w'.cell? ⟨b2, o2 + k * 10 + 9, none⟩ = some (.slice a7 x.red.length cap7)) (first | go_keep | exact ⟨by assumption, by assumption, by assumption, by assumption⟩)
   (first
    | (go_at_call 62; refine (zMx _ _ x.red _ (by first | exact HR1.out.ext (eD _) | exact HR1.out) (by first | exact HR2.out.ext (eD _) | exact HR2.out) (by have := HRL.out; omega)).mono ?_; rintro e w4 ⟨rfl, hb4⟩; have HB4 : Hid (Ext wi w4) := hQq (by first | exact (eD _).trans hb4 | exact hb4); have y0 := (eC HB4.out hb1).trans HC1.out; have y1 := (eC HB4.out hb1).trans HC2.out; have y2 := (eC HB4.out hb2).trans HC3.out; have y3 := (eC HB4.out hb2).trans HC4.out; clear hb4)
    | fail)
  go_wp2;go_roundw
  case rel => exact ⟨_, k + 1, rfl, by omega, by go_num, HE.out.trans HB4.out⟩
  case measure => simp [intOf] <;> omega
theorem zE9 {w:World}{v:Value}{l:List zAq}(h:aA w v l):zAH w.heap.size w v l:=by
 refine zJT h fun h0 b hb=>.inl (h.block ?_ b hb);obtain⟨a,cap,rfl,_⟩:=h;exact h0
theorem zIK {P:Program}{α:Type}{C:Cd α}{B:Nat}(K:zEq P C)(w:World)(x y:α)(cx cy:List Value)(n:Nat)(hn:n=w.heap.size)(hx:C.R B w x cx)(hy:C.R B w y cy):
  zAh C B (w.alloc (.cells (cx++cy).toArray C.e)) (.slice (some ⟨n,0,none⟩) 2 2) [x,y]:=by
 subst hn;have l1:=K.len hx;have l2:=K.len hy;refine⟨_,_,rfl,by simp,fun _ b hb=>.inr ⟨_,_,by cases hb;exact bN w _⟩,fun k hk=>?_⟩;have hk:k<2:=hk
 match k,hk with
 | 0,_=>
  refine⟨w.heap.size,0,cx,rfl,by simp,K.chg hx (Chg.of_ext (eA _ _) B C.e) K.self,fun j u hj=>?_⟩;rw[Nat.zero_add,Nat.zero_mul,Nat.zero_add,bC (bN w _)];grind
 | 1,_=>
  refine⟨w.heap.size,0,cy,rfl,by simp,K.chg hy (Chg.of_ext (eA _ _) B C.e) K.self,fun j u hj=>?_⟩;rw[Nat.zero_add,Nat.one_mul,bC (bN w _)];grind
theorem zIy {x:TrN}(hm:∀a∈x.ats,a.1.size<=1000000/\a.2.size<=1000000)(hl:x.ats.length<=1000000):zAI [zCb,zCh x]:=by
 intro y hy;rcases List.mem_cons.1 hy with rfl|hy
 ·exact⟨by decide,fun a ha=>(by cases ha),by decide⟩
 ·rcases List.mem_cons.1 hy with rfl|hy
  ·exact⟨by show zUA.size<=_;decide,hm,hl⟩
  ·cases hy
theorem zVv (w:World)(x:TrN)(va:Value)(hv:aA w va x.ats)(hm:∀a∈x.ats,a.1.size<=1000000/\a.2.size<=1000000)(hl:x.ats.length<=1000000):
  zAs Tryz.prog 107 #[trV x va] w (.int .i64 (zCW x)):=by
 unfold zAs;have HV:=hQq hv;have HS:=hQq (zIy hm hl);have HI:=hQq (zE9 hv);obtain⟨a3,cap3,rfl,-,-⟩:=hv;clear hm;go_enter Tryz.func107,Tryz.ntmps107;go_wp2_with fail
 refine(zC7 w.heap.size _ [zCb,zCh x] _ (zIK okT (w.alloc _) zCb (zCh x) (trC zCb (.slice none 0 0)) (trC (zCh x) (.slice a3 x.ats.length cap3)) (w.heap.size+1) (by simp) ⟨_,zBp _ _ _,rfl⟩ ⟨_,HI.out.ext okA (eA _ _),rfl⟩) HS.out).mono ?_;rintro e w1 ⟨rfl,hb1⟩;have HB1:Hid (Ext w w1):=hQq (((eA _ _).trans (eA _ _)).trans hb1);clear hb1;go_wp2;go_ret;exact⟨rfl,HB1.out⟩
theorem zOW (x y:TrN)(va vb:Value)(w:World)(ha:aA w va x.ats)(hb:aA w vb y.ats)(hl:x.ats.length<=1000000):
  zAs Tryz.prog 137 #[trV x va,trV y vb] w (.bool (eqB x y)):=by
 unfold zAs eqB;obtain⟨a3,cap3,rfl,hc3,hx3⟩:=ha;obtain⟨a4,cap4,rfl,hc4,hx4⟩:=hb;have HA:Hid (aA w (.slice a3 x.ats.length cap3) x.ats):=⟨a3,cap3,rfl,hc3,hx3⟩;have HB:Hid (aA w (.slice a4 y.ats.length cap4) y.ats):=⟨a4,cap4,rfl,hc4,hx4⟩;have HE:Hid (Ext w ((w.alloc (.cells #[.int .i64 x.dep,.string x.nm,.int .i64 x.kd,.slice a3 x.ats.length cap3,.string x.dat,.int .i64 x.ma,.int .i64 x.mi,.int .i64 x.cl] 59)).alloc (.cells #[.int .i64 y.dep,.string y.nm,.int .i64 y.kd,.slice a4 y.ats.length cap4,.string y.dat,.int .i64 y.ma,.int .i64 y.mi,.int .i64 y.cl] 59))):=hQq ((eA _ _).trans (eA _ _));have HL:Hid (∀W,Ext w W->zAs Tryz.prog 184 #[trV x (.slice a3 x.ats.length cap3),trV y (.slice a4 y.ats.length cap4)] W (.bool (zAT x y))):=hQq (fun W he=>zGV x y _ _ W (HA.out.ext he) (HB.out.ext he) hl);generalize zAT x y=lk at HL ⊢;clear hx3 hx4;unfold trV;cases h1:x.dep==y.dep
 ·go_enter Tryz.func137,Tryz.ntmps137;go_wp2;go_ret;exact⟨rfl,HE.out⟩
 cases h2:x.nm.toList==y.nm.toList
 ·go_enter Tryz.func137,Tryz.ntmps137;go_wp2;go_ret;exact⟨rfl,HE.out⟩
 cases h3:x.cl==y.cl
 ·go_enter Tryz.func137,Tryz.ntmps137;go_wp2;go_ret;exact⟨rfl,HE.out⟩
 go_enter Tryz.func137,Tryz.ntmps137;go_wp2_with (go_at_call 184;refine(HL.out _ HE.out).mono ?_;rintro e w3 ⟨rfl,hb3⟩;have HB3:=hQq hb3;clear hb3)
 go_ret;exact⟨rfl,HE.out.trans HB3.out⟩
theorem zRP (B:Nat)(w:World)(v u:Value)(s t:List TrN)(hv:zCa B w v s)(hu:zCa B w u t)(hl:s.length<=1000)(hal:∀x∈s,x.ats.length<=1000000):
  zAs Tryz.prog 136 #[v,u,.func (.func 137) #[] #[]] w (.bool (zCS s t)):=by
 unfold zAs;obtain⟨aa,cap,rfl⟩:=hv.form;obtain⟨ab,capb,rfl⟩:=hu.form;have HV:=hQq hv;have HU:=hQq hu;have HAL:=hQq hal;clear hv hu hal;have he:∀args w,(callFunc 137 args).run Tryz.prog w= .ok (.enter 137 args) w:=enters_of Tryz.func137 (by kernel_rfl) rfl;by_cases hn:s.length=t.length
 case neg=>
  have HS:Hid (zCS s t=false):=hQq (zFM fun e=>hn (by rw[e]));have q1:((s.length:Int) != (t.length:Int))=true:=bne_iff_ne.2 (by omega);clear hn;go_enter Tryz.func136,Tryz.ntmps136;go_wp2;go_ret;exact⟨by rw[HS.out];rfl,bR _ _⟩
 have q1:((s.length:Int) != (t.length:Int))=false:=bne_eq_false_iff_eq.2 (by omega);have HN:=hQq hn;clear hn;go_enter Tryz.func136,Tryz.ntmps136;go_wp2;go_loopw [17] (fun i w'=>∃(wi:World) (k:Nat),wi=w'/\k<=s.length/\i= .int .i64 k/\zGJ s t k/\Ext w wi) (fun i _=>s.length-(intOf i).toNat)
 case atStart=>exact⟨_,0,rfl,Nat.zero_le _,rfl,fun j hj=>absurd hj (by omega),bR _ _⟩
 case round=>
  obtain⟨wi,k,rfl,hk,rfl,hs,hE⟩:=hrel;have HS:=hQq hs;have HE:=hQq hE;clear hs hE;by_cases hlt:k<s.length
  case neg=>
   obtain rfl:k=s.length:=by omega
   have HR:=hQq (zC3 (zDF HN.out HS.out));go_wp2;go_ret;exact⟨by rw[HR.out];rfl,HE.out⟩
  have hlt2:k<t.length:=by have:=HN.out;omega
  have k1:((k:Nat):Int)<(s.length:Int):=by omega
  have k2:((k:Nat):Int)<(t.length:Int):=by omega
  have k0:(0:Int)<=(k:Int):=by omega
  obtain⟨b,off,va,hex,hbx,hva,c0,c1,c2,c3,c4,c5,c6,c7⟩:=(HV.out.ext okT HE.out).tr k hlt;cases hex;obtain⟨b',off',vb,hex,hbx',hvb,d0,d1,d2,d3,d4,d5,d6,d7⟩:=(HU.out.ext okT HE.out).tr k hlt2;cases hex;obtain⟨a3,cap3,rfl⟩:=hva.form;obtain⟨a4,cap4,rfl⟩:=hvb.form;have HXA:=hQq hva;have HYA:=hQq hvb;have HAK:=hQq (HAL.out _ (List.getElem_mem hlt));have HSX:Hid (s[k]? = some (s[k]'hlt)/\t[k]? = some (t[k]'hlt2)):=hQq ⟨List.getElem?_eq_getElem hlt,List.getElem?_eq_getElem hlt2⟩;generalize s[k]'hlt=x at c0 c1 c2 c3 c4 c5 c6 c7 HXA HAK HSX;generalize t[k]'hlt2=y at d0 d1 d2 d3 d4 d5 d6 d7 HYA HSX;clear hva hvb;have E1:Hid (Ext wi ((wi.alloc (.cells #[.int .i64 x.dep,.string x.nm,.int .i64 x.kd,.slice a3 x.ats.length cap3,.string x.dat,.int .i64 x.ma,.int .i64 x.mi,.int .i64 x.cl] 59)).alloc (.cells #[.int .i64 y.dep,.string y.nm,.int .i64 y.kd,.slice a4 y.ats.length cap4,.string y.dat,.int .i64 y.ma,.int .i64 y.mi,.int .i64 y.cl] 59))):=hQq ((eA _ _).trans (eA _ _));have d0':=(eC (eA wi (.cells #[.int .i64 x.dep,.string x.nm,.int .i64 x.kd,.slice a3 x.ats.length cap3,.string x.dat,.int .i64 x.ma,.int .i64 x.mi,.int .i64 x.cl] 59)) hbx').trans d0;have HG:=hQq (zOW x y _ _ _ ((HXA.out.ext okA E1.out).attrs) ((HYA.out.ext okA E1.out).attrs) HAK.out);unfold zAs trV at HG;cases hq:eqB x y
  ·rw[hq]at HG;have HR:Hid (zCS s t=false):=hQq (zFM fun e=>by
    have h:=HSX.out;rw[e,h.2]at h;have h9:=oI h.1;rw[(zQs x y).2 h9.symm]at hq;cases hq)
   clear hq;go_wp2_with (refine HG.out.mono ?_;rintro e w1 ⟨rfl,hb1⟩;have HB1:=hQq (E1.out.trans hb1);clear hb1)
   go_ret;exact⟨by rw[HR.out];rfl,HE.out.trans HB1.out⟩
  ·rw[hq]at HG;have HS2:Hid (zGJ s t (k+1)):=hQq (fun j hj=>by
    by_cases e:j=k
    ·subst e;rw[HSX.out.1,HSX.out.2,(zQs x y).1 hq]
    ·exact HS.out j (by omega))
   clear hq;go_wp2_with (refine HG.out.mono ?_;rintro e w1 ⟨rfl,hb1⟩;have HB1:=hQq (E1.out.trans hb1);clear hb1)
   go_roundw
   case rel=>exact⟨_,k+1,rfl,by omega,by go_num,HS2.out,HE.out.trans HB1.out⟩
   case measure=>simp[intOf]<;>omega
theorem zIx (B:Nat)(w:World)(g n:Nat)(L:List (Value × List TrN))(hn:n=L.length)(hg:g<w.heap.size)(hL:L.length<=1000)(hc:∀k (hk:k<L.length),w.cell? ⟨g,k,none⟩=some ((L[k]'hk).1))(h:∀p∈L,zCa B w p.1 p.2/\zAI p.2/\zAt p.2=0):
  zAs Tryz.prog 135 #[.slice (some ⟨g,0,none⟩) n n] w (.int .i64 0):=by
 unfold zAs;have HC:=hQq hc;have HL:=hQq h;have HN:=hQq hn;clear hc h hn;go_enter Tryz.func135,Tryz.ntmps135;go_wp2;go_loopw [9] (fun i w'=>∃(wi:World) (k:Nat),wi=w'/\k<=n/\i= .int .i64 k/\Ext w wi) (fun i _=>n-(intOf i).toNat)
 case atStart=>exact⟨_,0,rfl,Nat.zero_le _,rfl,bR _ _⟩
 case round=>
  obtain⟨wi,k,rfl,hk,rfl,hE⟩:=hrel;have HE:=hQq hE;clear hE;by_cases hlt:k<n
  case neg=>
   obtain rfl:k=n:=by omega
   go_wp2;go_ret;exact⟨rfl,HE.out⟩
  have k1:((k:Nat):Int)<(n:Int):=by omega
  have k0:(0:Int)<=(k:Int):=by omega
  have hk2:k<L.length:=by rw[<- HN.out];exact hlt
  have c:=(eC HE.out hg).trans (HC.out k hk2);obtain⟨h1,h2,h3⟩:=HL.out _ (List.getElem_mem hk2);generalize L[k]'hk2=p at c h1 h2 h3;obtain⟨pv,pt⟩:=p;simp only at c h1 h2 h3;obtain⟨a3,cap3,rfl⟩:=h1.form;have H1:=hQq h1;have H2:=hQq h2;have H3:=hQq h3;clear h1 h2 h3;go_wp2_with (go_at_call 63;refine(zC7 B _ pt _ (H1.out.ext okT HE.out) H2.out).mono ?_;rw[H3.out];rintro e w2 ⟨rfl,hb2⟩;have HB2:=hQq (HE.out.trans hb2);clear hb2)
  go_roundw
  case rel=>exact⟨_,k+1,rfl,by omega,by go_num,HB2.out⟩
  case measure=>simp[intOf]<;>omega
theorem zRI (B:Nat)(w:World)(v u:Value)(s t:List TrN)(hv:zCa B w v s)(hu:zCa B w u t)(hs:zAI s)(ht:zAI t)(h1:zAt s=0)(h2:zAt t=0)(hl:s.length<=1000)(hal:∀x∈s,x.ats.length<=1000000):
  zAs Tryz.prog 71 #[v,u] w (.tuple #[.bool (zCS s t),.int .i64 0]):=by
 unfold zAs;obtain⟨aa,cap,rfl⟩:=hv.form;obtain⟨ab,capb,rfl⟩:=hu.form;have HV:=hQq hv;have HU:=hQq hu;have HAL:=hQq hal;have HX:Hid ((zAI s/\zAt s=0)/\zAI t/\zAt t=0):=hQq ⟨⟨hs,h1⟩,ht,h2⟩;clear hv hu hal hs ht h1 h2;go_enter Tryz.func71,Tryz.ntmps71;go_wp2_with (first
  | (go_at_call 135;refine(zIx B _ w.heap.size 2 [(.slice aa s.length cap,s),(.slice ab t.length capb,t)] rfl (by simp) (by simp) (fun k hk=>by
   have hq:=bN w (.cells #[.slice aa s.length cap,.slice ab t.length capb] 33 (0,0))
   match k,hk with
   | 0,_=>exact bC hq 0
   | 1,_=>exact bC hq 1) (fun p hp=>by
   simp only[List.mem_cons,List.not_mem_nil,or_false]at hp;rcases hp with rfl|rfl
   ·exact⟨HV.out.ext okT (eA _ _),HX.out.1⟩
   ·exact⟨HU.out.ext okT (eA _ _),HX.out.2⟩)).mono ?_;rintro e w2 ⟨rfl,hb2⟩;have HB2:=hQq ((eA _ _).trans hb2);clear hb2)
  | (go_at_call 136;refine(zRP B _ _ _ s t (HV.out.ext okT HB2.out) (HU.out.ext okT HB2.out) hl HAL.out).mono ?_;rintro e w3 ⟨rfl,hb3⟩;have HB3:=hQq (HB2.out.trans hb3);clear hb3)
  | fail)
 go_ret2;exact⟨rfl,HB3.out⟩
section
variable {P:Program} {Q:Exit->Act->World->Prop} {ops:Array Oper}
def zOF (z:Nat->Bool)(i:Nat):Nat->Bool:=fun j=>if i=j then true else z j
def zLk (vs:Tmp->Value)(d:Option Tmp)(v:Value):Tmp->Value:=fun t=>match d with|none=>vs t|some d=>if d=t then v else vs t
structure RaK (ops:Array Oper) (a0:Act) (F:Nat->Value->Prop) (I:(Nat->Bool)->(Tmp->Value)->World->Prop) (listed:Array Bool) (a:Act) (w:World):Prop where
 size:listed.size=ops.size
 tsz:a.tmps.size=a0.tmps.size
 defers:a.defers=a0.defers
 kept:∀t,t ∉ zCu ops ops.size->a.eval (.tmp t)=a0.eval (.tmp t)
 fact:∀(j:Nat) (oj:Oper) (d:Tmp),ops[j]? = some oj->oj.dst=some d->listed.getD j false=true->F j (a.eval (.tmp d))
 inv:∃(z:Nat->Bool) (vs:Tmp->Value),(∀j,j<ops.size->z j=listed.getD j false)/\(∀t,t<a.tmps.size->vs t=a.eval (.tmp t))/\I z vs w
 down:∀k j,listed.getD k false=true->zCc ops k j=true->listed.getD j false=true
theorem zNT {a0 : Act} {F : Nat -> Value -> Prop} {I : (Nat -> Bool) -> (Tmp -> Value) -> World -> Prop} (hB : zVQ ops = true) (hD : ∀ d ∈ zCu ops ops.size, d < a0.tmps.size)
  (hstep : ∀ (i : Nat) (o : Oper) (a : Act) (w : World) (z : Nat -> Bool) (vs : Tmp -> Value), ops[i]? = some o -> z i = false -> (∀ k j, k < ops.size -> j < ops.size -> zCc ops k j = true -> z j = false -> z k = false) -> (∀ j, j < ops.size -> zCc ops i j = true -> z j = true) -> I z vs w ->
   (∀ t, t < a0.tmps.size -> vs t = a.eval (.tmp t)) -> (∀ t, t ∉ zCu ops ops.size -> a.eval (.tmp t) = a0.eval (.tmp t)) ->
   (∀ (j : Nat) (oj : Oper) (d : Tmp), zCc ops i j = true -> ops[j]? = some oj -> oj.dst = some d -> F j (a.eval (.tmp d))) -> o.wp P a w (fun a' w' => ∃ v, a' = a.put o.dst v /\ F i v /\ I (zOF z i) (zLk vs o.dst v) w') Q)
  (hlast : ∀ (z : Nat -> Bool) (vs : Tmp -> Value) (w : World), (∀ i, i < ops.size -> z i = true) -> I z vs w -> (∀ (j : Nat) (oj : Oper) (d : Tmp), ops[j]? = some oj -> oj.dst = some d -> F j (vs d)) -> Q .normal (zAC a0 (zCu ops ops.size) vs) w) :
  ∀ (fuel : Nat) (listed : Array Bool) (a : Act) (w : World), RaK ops a0 F I listed a w -> (listed.toList.filter (! ·)).length <= fuel -> wpAny P .any ops Q fuel listed a w := by
 obtain ⟨h2, h3, h5⟩ := zK1 hB;have hdl : ∀ (i : Nat) (o : Oper) (d : Tmp), ops[i]? = some o -> o.dst = some d -> d ∈ zCu ops ops.size := by
  intro i o d ho hd;unfold zCu;refine List.mem_filterMap.2 ⟨o, ?_, hd⟩;refine List.mem_iff_getElem?.2 ⟨i, ?_⟩;rw [List.getElem?_take, if_pos (Array.getElem?_eq_some_iff.1 ho).1, Array.getElem?_toList]; exact ho
 have hend : ∀ (listed : Array Bool) (a : Act) (w : World), RaK ops a0 F I listed a w -> (∀ i, i < ops.size -> listed.getD i false = true) -> Q .normal a w := by
  intro listed a w hI hall;obtain ⟨z, vs, hz, hv, hi⟩ := hI.inv;have e : zAC a0 (zCu ops ops.size) (fun t => a.eval (.tmp t)) = zAC a0 (zCu ops ops.size) vs := by
   have hgen : ∀ (D : List Tmp) (b : Act), (∀ d ∈ D, d < a.tmps.size) -> zAC b D (fun t => a.eval (.tmp t)) = zAC b D vs := by
    intro D
    induction D with
    | nil => intro b _; rfl
    | cons d r ih =>
     intro b hd;show zAC (b.put (some d) (a.eval (.tmp d))) r _ = zAC (b.put (some d) (vs d)) r _;rw [hv d (hd d (by simp))];exact ih _ fun x hx => hd x (by simp [hx])
   exact hgen _ _ fun d hd => by rw [hI.tsz]; exact hD d hd
  rw [zHm hI.tsz hI.defers hI.kept, e];refine hlast z vs w (fun i h => by rw [hz i h]; exact hall i h) hi fun j oj d hoj hd => ?_;rw [hv d (by rw [hI.tsz]; exact hD d (hdl j oj d hoj hd))];exact hI.fact j oj d hoj hd (hall j (Array.getElem?_eq_some_iff.1 hoj).1)
 have hnone : ∀ (listed : Array Bool), listed.size = ops.size -> Region.ready .any ops listed = [] -> ∀ i, i < ops.size -> listed.getD i false = true := by
  intro listed hsz hr;have hall : ∀ k i, i < k -> i < ops.size -> listed.getD i false = true := by
   intro k
   induction k with
   | zero => intro i hi; omega
   | succ k ihk =>
    intro i hi hin;by_cases e : i < k
    ·exact ihk i e hin
    cases hl : listed.getD i false with
    | true => rfl
    | false =>
     exfalso;obtain ⟨o, ho⟩ : ∃ o, ops[i]? = some o := ⟨_, Array.getElem?_eq_getElem hin⟩;have hm : i ∈ Region.ready .any ops listed := mem_ready.2 ⟨by rw [zBC (by omega) true false]; exact hl, o, ho, fun e he hb => by
      have h6 := h3 i o e ho he hb;exact ihk e.on (by omega) (by omega)⟩
     rw [hr] at hm; cases hm
  exact fun i hi => hall (i + 1) i (by omega) hi
 intro fuel
 induction fuel with
 | zero =>
  intro listed a w hI hc;have hall : ∀ i, i < ops.size -> listed.getD i false = true := by
   intro i hi
   cases hl : listed.getD i false with
   | true => rfl
   | false =>
    exfalso;have := zCA listed i (by rw [zBC (by rw [hI.size]; exact hi) true false]; exact hl);omega
  refine ⟨?_, hend listed a w hI hall⟩
  cases hrd : Region.ready .any ops listed with
  | nil => rfl
  | cons z q =>
   exfalso;have hz : z ∈ Region.ready .any ops listed := by rw [hrd]; simp
   obtain ⟨hu, o, ho, _⟩ := mem_ready.1 hz;have hzl : z < ops.size := (Array.getElem?_eq_some_iff.1 ho).1;have := hall z hzl;rw [zBC (by rw [hI.size]; exact hzl) false true, hu] at this; cases this
 | succ fuel ih =>
  intro listed a w hI hc;refine ⟨fun hr => hend listed a w hI (hnone listed hI.size hr), fun i hi => ?_⟩;obtain ⟨hu, o, ho, hp⟩ := mem_ready.1 hi;have hpr := zF5 ho hp;have hin : i < ops.size := (Array.getElem?_eq_some_iff.1 ho).1;have hil : listed.getD i false = false := by rw [zBC (by rw [hI.size]; exact hin) false true]; exact hu
  obtain ⟨z, vs, hz, hv, hinv⟩ := hI.inv;refine wpOp_step ho fun K' hK => ?_;have hg := h2 i o ho;rw [if_pos (by unfold Region.wanted; rw [hg])];refine Oper.wp_mono ?_ (hstep i o a w z vs ho ((hz i hin).trans hil) (fun k j hk hj hkj hzj => ?_) (fun j hj hij => (hz j hj).trans (hpr j hij)) hinv (fun t ht => hv t (by rw [hI.tsz]; exact ht)) hI.kept fun j oj d hj hoj hd => hI.fact j oj d hoj hd (hpr j hj))
  ·rintro a' w' ⟨v, rfl, hF, hG⟩;refine hK _ _ (ih _ _ _ ?_ ?_)
   ·refine ⟨by rw [Array.size_setIfInBounds]; exact hI.size, ?_, ?_, ?_, ?_, ⟨zOF z i, zLk vs o.dst v, ?_, ?_, hG⟩, ?_⟩
    ·cases hd : o.dst with
     | none => exact hI.tsz
     | some d => simp only [Act.put, Array.size_setIfInBounds]; exact hI.tsz
    ·cases hd : o.dst with
     | none => exact hI.defers
     | some d => exact hI.defers
    ·intro t ht
     cases hd : o.dst with
     | none => exact hI.kept t ht
     | some d =>
      have hne : d ≠ t := fun e => ht (by rw [<- e]; exact hdl i o d ho hd);rw [zBr hne]; exact hI.kept t ht
    ·intro j oj d hoj hd hlj;by_cases e : i = j
     ·subst e;obtain rfl := oI (ho.symm.trans hoj);have hdl : d < a.tmps.size := by
       rw [hI.tsz];exact hD d (hdl i o d ho hd)
      rw [hd, zCz hdl]; exact hF
     ·rw [getD_set_ne false e] at hlj;have hf := hI.fact j oj d hoj hd hlj
      cases hdo : o.dst with
      | none => exact hf
      | some d' =>
       have hne : d' ≠ d := fun x => e (h5 i j o oj d ho hoj (by rw [hdo, x]) hd);rw [zBr hne]; exact hf
    ·intro j hj;unfold zOF;by_cases e : i = j
     ·subst e;have : i < listed.size := by rw [hI.size]; exact hin
      simp [Array.getD_eq_getD_getElem?, this]
     ·rw [if_neg e, getD_set_ne false e]; exact hz j hj
    ·intro t ht;unfold zLk
     cases hdo : o.dst with
     | none =>
      rw [hdo] at ht;exact hv t ht
     | some d' =>
      have ht : t < a.tmps.size := by
       rw [hdo] at ht;simpa [Act.put] using ht
      by_cases e : d' = t
      ·subst e;rw [zCz ht]; simp
      ·rw [zBr e];simp only [if_neg e];exact hv t ht
    ·intro k j hlk hkj;by_cases e : i = k
     ·subst e; exact getD_set_true (hpr j hkj)
     ·rw [getD_set_ne false e] at hlk;exact getD_set_true (hI.down k j hlk hkj)
   ·have := zCA listed i hu; omega
  ·rw [hz j hj] at hzj;rw [hz k hk]
   cases hl : listed.getD k false with
   | false => rfl
   | true => have := hI.down k j hl hkj; rw [hzj] at this; cases this
theorem zAX {id : Nat} {a0 : Act} {w0 : World} (F : Nat -> Value -> Prop) (I : (Nat -> Bool) -> (Tmp -> Value) -> World -> Prop) (hm : P.follows .mixedOrders = true) (hB : zVQ ops = true) (hD : (zCu ops ops.size).all (fun d => decide (d < a0.tmps.size)) = true)
  (h0 : ∀ vs, I (fun _ => false) vs { w0 with drawn := w0.drawn + 1 })
  (hstep : ∀ (i : Nat) (o : Oper) (a : Act) (w : World) (z : Nat -> Bool) (vs : Tmp -> Value), ops[i]? = some o -> z i = false -> (∀ k j, k < ops.size -> j < ops.size -> zCc ops k j = true -> z j = false -> z k = false) -> (∀ j, j < ops.size -> zCc ops i j = true -> z j = true) -> I z vs w ->
   (∀ t, t < a0.tmps.size -> vs t = a.eval (.tmp t)) -> (∀ t, t ∉ zCu ops ops.size -> a.eval (.tmp t) = a0.eval (.tmp t)) ->
   (∀ (j : Nat) (oj : Oper) (d : Tmp), zCc ops i j = true -> ops[j]? = some oj -> oj.dst = some d -> F j (a.eval (.tmp d))) -> o.wp P a w (fun a' w' => ∃ v, a' = a.put o.dst v /\ F i v /\ I (zOF z i) (zLk vs o.dst v) w') Q)
  (hlast : ∀ (z : Nat -> Bool) (vs : Tmp -> Value) (w : World), (∀ i, i < ops.size -> z i = true) -> I z vs w -> (∀ (j : Nat) (oj : Oper) (d : Tmp), ops[j]? = some oj -> oj.dst = some d -> F j (vs d)) -> Q .normal (zAC a0 (zCu ops ops.size) vs) w) :
  (Code.region id ops true).wp P Q a0 w0 := by
 refine wp_region_any hm ?_;have hrep : ∀ i, (Array.replicate ops.size false).getD i false = false := fun i => by
  by_cases e : i < ops.size
  ·simp [Array.getD_eq_getD_getElem?, e]
  ·simp [Array.getD_eq_getD_getElem?, e]
 refine zNT (a0 := a0) (F := F) (I := I) hB (fun d hd => of_decide_eq_true (List.all_eq_true.1 hD d hd)) hstep hlast ops.size _ _ _ ?_ ?_
 ·refine ⟨by simp, rfl, rfl, fun _ _ => rfl, fun i o d _ _ hl => ?_, ⟨fun _ => false, fun t => a0.eval (.tmp t), fun j _ => (hrep j).symm, fun _ _ => rfl, h0 _⟩, fun i j hl _ => ?_⟩
  ·rw [hrep] at hl; cases hl
  ·rw [hrep] at hl; cases hl
 ·refine Nat.le_trans (List.length_filter_le _ _) ?_;simp
end
end Go.Proofs.YtbeeoomadnmogaaGreat
