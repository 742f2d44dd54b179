/- AwT AwZ AxB AxH AxL -/
import Derived.Test.YtbeeoomadnmogaaGreatQI5
import Derived.Test.YtbeeoomadnmogaaGreatQAfS
set_option maxRecDepth 100000
set_option maxHeartbeats 64000000
namespace Go.Proofs.YtbeeoomadnmogaaGreat
open Go.RowKit
theorem zMt (B:Nat)(v:Value)(l:List TrN)(w:World)(hv:zCa B w v l)(hB:B<=w.heap.size)(hl:l.length<=1000):
  Calls Tryz.prog 151 #[v] w (zYQ cdT B w l):=by
 obtain⟨a,cap,rfl⟩:=hv.form;have HV:=hQq hv;clear hv
 cases a with
 | none=>
  have:=HV.out.zero ⟨_,_,rfl⟩;subst this;have hnil:=fun wx=>Lib.run_eql_slice_nil (P:=Tryz.prog) wx 33 59 none 0 cap 0 0 okT.sl.und;go_enter Tryz.func151,Tryz.ntmps151;go_wp2;go_ret;exact⟨⟨_,_,rfl,zAg.nil _ _ _,fun g h=>by cases h⟩,bR _ _⟩
 | some ad=>
  have hnil:=fun wx=>Lib.run_eql_slice_nil (P:=Tryz.prog) wx 33 59 (some ad) l.length cap 0 0 okT.sl.und;go_enter Tryz.func151,Tryz.ntmps151;go_wp2_with (at_builtin;refine zWS okT rfl (.tmp 5) (.tmp 6) rfl B _ l w _ rfl rfl rfl HV.out hB (by omega) ?_;intro v1 w1 ha;have HA:=hQq ha;clear ha)
  obtain⟨a6,cap6,rfl⟩:=HA.out.own.form;go_ret;exact⟨⟨_,_,rfl,HA.out.own,fun g h=>HA.out.far g (by rw[h];rfl)⟩,HA.out.ext⟩
theorem zOX (B:Nat)(w:World)(v:Value)(t:List TrN)(ht:zCa B w v t)(hB:B<=w.heap.size)(hlen:t.length<=1000)(hal:∀x∈t,x.ats.length<=1000):
  Calls Tryz.prog 152 #[v] w (zTu cdT w t):=by
 have HV:=hQq (ht.mono okT hB);have HAL:=hQq hal;obtain⟨aa,cap,rfl⟩:=ht.form;clear ht hal;go_enter Tryz.func152,Tryz.ntmps152;go_wp2_with (go_at_call 151;refine(zMt w.heap.size _ t _ HV.out (Nat.le_refl _) hlen).mono ?_;rintro e w1 ⟨⟨a6,cap6,rfl,ho,hf⟩,hb1⟩;have HO:=hQq ho;have HB1:=hQq hb1;clear ho hf hb1)
 go_loopw [9] (fun i w'=>∃(wi:World) (k:Nat),wi=w'/\k<=t.length/\i= .int .i64 k/\zAg cdT w.heap.size wi (.slice a6 t.length cap6) t/\Ext w wi) (fun i _=>t.length-(intOf i).toNat)
 case atStart=>exact⟨_,0,rfl,Nat.zero_le _,rfl,HO.out,HB1.out⟩
 case round=>
  clear HO HB1;obtain⟨wi,k,rfl,hk,rfl,ho,hE⟩:=hrel;have HO:=hQq ho;have HE:=hQq hE;clear hE;by_cases hlt:k<t.length
  case neg=>
   obtain rfl:k=t.length:=by omega
   clear ho;go_wp2;go_ret;exact⟨⟨_,_,rfl,HO.out⟩,HE.out⟩
  have k1:((k:Nat):Int)<(t.length:Int):=by omega
  have k0:(0:Int)<=(k:Int):=by omega
  obtain⟨g,rfl,hg1,hg2,-⟩:=ho.addr (by omega);obtain⟨b,off,va,hex,hbx,hva,c0,c1,c2,c3,c4,c5,c6,c7⟩:=(ho.in okT).tr k hlt;cases hex;obtain⟨a3,cap3,rfl⟩:=hva.form;have HVA:=hQq hva;have HAK:=hQq (HAL.out _ (List.getElem_mem hlt));have HLT:=hQq hlt;rw[Nat.zero_add]at c3;clear hva c0 c1 c2 c4 c5 c6 c7;go_wp2_with (go_at_call 41;refine(zGg _ (t[k]'HLT.out).ats _ (HVA.out.attrs) HAK.out).mono ?_;rintro e w5 ⟨⟨a9,c9,rfl,h9⟩,hb5⟩;have H9:=hQq (show zAH w.heap.size w5 (.slice a9 (t[k]'HLT.out).ats.length c9) (t[k]'HLT.out).ats from h9.toIn);have HB5:=hQq hb5;have ho5:=HO.out.ext okT hb5;have c5:=(eC hb5 hg2).trans c3;have f5:∀j,w5.frozen? ⟨g,j,none⟩=false:=fun j=>ho5.frozen j;have hz5:=Nat.lt_of_lt_of_le hg2 hb5.size;have HO5:=hQq ho5;clear h9 hb5 ho5)
  obtain⟨u1,u2,u3⟩:=HO5.out.store okT k HLT.out 3 (by decide) (.slice a9 (t[k]'HLT.out).ats.length c9) (t[k]'HLT.out) (fun cs ⟨va,h1,h2⟩=>⟨_,H9.out,by rw[h2];rfl⟩);rw[List.set_getElem_self]at u1;have HU1:=hQq u1;have HU2:Hid (Ext w _):=hQq (Below.grown (HE.out.trans HB5.out) u2 (HE.out.trans HB5.out).size (fun q e=>by injection e with e;omega));clear u1 u2 u3;go_roundw
  case rel=>exact⟨_,k+1,rfl,by omega,by go_num,HU1.out,HU2.out⟩
  case measure=>simp[intOf]<;>omega
def zRD (w:World)(r:List TrN × Int)(e:Ending)(w':World):Prop:=(∃a cap B,e= .returned (.tuple #[.slice a r.1.length cap,.int .i64 r.2])/\w.heap.size<=B/\B<=w'.heap.size/\zAg cdT B w' (.slice a r.1.length cap) r.1)/\Ext w w'
theorem zDo {w w':World}{r:List TrN × Int}{c:Int}(h:r=([],c))(he:Ext w w'):zRD w r (.returned (.tuple #[.slice none 0 0,.int .i64 c])) w':=by
 subst h;exact⟨⟨none,0,_,rfl,Nat.le_refl _,he.size,zAg.nil _ _ _⟩,he⟩
theorem zKl {s:Int->Int}{t:List TrN}(h:zAI t):zAI (t.map (clM s)):=fun x hx=>by
 obtain⟨y,hy,rfl⟩:=List.mem_map.1 hx;exact h y hy
theorem zF9 {t:List TrN}(h:120<t.length):zA5 t=([],3):=if_pos h
theorem zHh {t:List TrN}(h:¬120<t.length)(h2:zAt (t.map (clM fun _=>0))≠0):zA5 t=([],zAt (t.map (clM fun _=>0))):=by unfold zA5;rw[if_neg h,if_pos h2]
theorem zNv {t:List TrN}(h:¬120<t.length)(h2:¬zAt (t.map (clM fun _=>0))≠0)(h3:zLh t≠0):zA5 t=([],6)/\zLh t=6:=by grind[zLh,zA5,zEm]
theorem zL1 {t:List TrN}(h:¬120<t.length)(h2:¬zAt (t.map (clM fun _=>0))≠0)(h3:zLh t=0):zA5 t=(zCr t,0):=by grind[zLh,zA5,zEm]
theorem zS2 {l:List zAq}(h:zBS l=0):l.length<=1000:=by
 unfold zBS at h;by_cases e:6<l.length
 ·rw[if_pos e]at h;cases h
 ·omega
theorem zP1 {x:TrN}{s:Int->Int}(h:zAc (clM s x)=0):1<=x.kd/\x.kd<=5:=by grind[zAc,clM]
theorem zVb (B:Nat)(w:World)(v x:Value)(l:List TrN)(ys:List TrN)(hv:zAg cdT B w v l)(hx:zCa B w x ys)(hB:B<=w.heap.size)(hl:l.length<=1000)(hm0:0<ys.length)(hml:ys.length<=1000):
  Calls Tryz.prog 85 #[v,.int .i64 l.length,x] w (zXc cdT B w (l++ys)):=by
 have HV:=hQq hv;obtain⟨a,cap,rfl⟩:=hv.form;have HX:=hQq hx;obtain⟨ax,capx,rfl⟩:=hx.form;have hz1:((ys.length:Int)==0)=false:=nB (by omega);obtain⟨a',cap',he,hcc,_⟩:=hv.in okT;cases he;clear hv hx
 cases a with
 | none=>
  have h0:l.length=0:=by
   cases h:l.length with
   | zero=>rfl
   | succ k=>obtain⟨g,e,_⟩:=HV.out.addr (by omega);cases e
  obtain rfl:l= []:=List.length_eq_zero_iff.1 h0;rw[List.length_nil]at HV hcc h0 ⊢;clear h0;go_enter Tryz.func85,Tryz.ntmps85;go_wp2_with (at_builtin;refine zIX okT rfl (.tmp 23) (.tmp 24) rfl _ _ [] ys w _ rfl rfl HV.out HX.out (bR _ _) hB (by rw[List.length_nil];omega) ?_;intro v3 w3 ha;have HA:=hQq ha;clear ha)
  obtain⟨a3,cap3,rfl⟩:=HA.out.own.form;go_ret;exact⟨_,_,_,rfl,HA.out.own,HA.out.below⟩
 | some ad=>
  obtain⟨g,o,sp⟩:=ad;have HLN:Hid (l.length+ys.length<=1000000):=hQq (by omega);by_cases hce:cap=l.length
  all_goals
   go_enter Tryz.func85,Tryz.ntmps85;go_wp2_with (at_builtin;refine zIX okT rfl (.tmp 23) (.tmp 24) rfl _ _ l ys w _ rfl rfl HV.out HX.out (bR _ _) hB HLN.out ?_;intro v3 w3 ha;have HA:=hQq ha;clear ha)
   obtain⟨a3,cap3,rfl⟩:=HA.out.own.form;go_ret;exact⟨_,_,_,rfl,HA.out.own,HA.out.below⟩
theorem zQe (B : Nat) (w : World) (g cap gx capx i m : Nat) (l ys : List TrN) (dss : List (List Value)) (cx : Array Value) (hv : zAg cdT B w (.slice (some ⟨g, 0, none⟩) l.length cap) l) (hx : w.heap[gx]? = some (.cells cx 59 (0, 0))) (hne : gx ≠ g) (hi : i < l.length) (hm : m = ys.length) (hm0 : 0 < m) (hds : dss.length = ys.length) (hdR : ∀ k (h : k < ys.length) (h' : k < dss.length), cdT.R B w (ys[k]'h) (dss[k]'h')) (hcx : cx.toList.take (m * 8) = dss.flatten) (hroom : l.length + m <= cap) (hl : l.length <= 1000) (hml : m <= 1000) :
  Calls Tryz.prog 85 #[.slice (some ⟨g,0,none⟩) l.length cap,.int .i64 i,.slice (some ⟨gx,0,none⟩) m capx] w (zXc cdT B w (l.take i++ys++l.drop i)):=by
 obtain⟨css,hcl,hR,hxl,ho⟩:=hv;have HM:=hQq hm;obtain⟨cur,hbg,hg,hcm,hcs,htake⟩:∃cur:Array Value,B<=g/\w.heap[g]? = some (.cells cur 59 (0,0))/\cap<=maxLen/\cur.size=cap*8/\cur.toList.take (l.length*8)=css.flatten:=by
  rcases ho with ⟨_,h0⟩|⟨g',cap',cur,he,hb,hg,_,hcm,hcs,ht⟩
  ·omega
  ·cases he;exact⟨cur,hb,hg,hcm,hcs,ht⟩
 obtain⟨vs,hvs⟩:∃vs,vs=dss.flatten:=⟨_,rfl⟩;have hvl:vs.length=m*8:=by rw[hvs,zCy (zAg.lens okT hds hdR),hds,hm];rfl
 rw[<- hvs]at hcx;have hvc:∀u∈vs,u.oneCell'=true:=by rw[hvs];exact zXp hds hdR
 have hxj:∀j u,vs[j]? = some u->cx[j]? = some u:=fun j u hj=>by
  rw[<- hcx,List.getElem?_take]at hj;split at hj
  ·simpa using hj
  ·cases hj
 have hxl:css.flatten.length=l.length*8:=hxl;obtain⟨xs,hxs⟩:∃xs,xs=css.flatten:=⟨_,rfl⟩;rw[<- hxs]at htake hxl;have h1x:∀u∈xs,u.oneCell'=true:=by rw[hxs];exact zXp hcl hR
 obtain⟨n,hn⟩:∃n,n=l.length:=⟨_,rfl⟩;have HN:Hid (n=l.length):=hQq hn;rw[<- hn]at hxl htake hi hroom hl ⊢;have hcl':css.length=n:=by omega
 clear hn;unfold maxLen at hcm;have hz1:((m:Int)==0)=false:=nB (by omega);have hz2:((i:Int)==(n:Int))=false:=nB (by omega);have hw1:IntKind.i64.wrap ((i:Int)+m)=(i:Int)+m:=by rw[IntKind.wrap_i64];omega
 have hw2:IntKind.i64.wrap ((n:Int)+m)=(n:Int)+m:=by rw[IntKind.wrap_i64];omega
 have hb1:(0:Int)<=(i:Int)+m:=by omega
 have hin:i<=n:=by omega
 have htn:((i:Int)+m).toNat=i+m:=by omega
 have hb2:¬(cap=i+m):=by omega
 have hb3:(i:Int)<=(n:Int)+m:=by omega
 have hb4:¬(cap=i):=by omega
 have hr1:(n:Int)+m<=(cap:Int):=by omega
 have hr2:¬((cap:Int)<(n:Int)+m):=by omega
 have hr3:(0:Int)<=(n:Int)+m:=by omega
 have hr4:((n:Int)+m).toNat=n+m:=by omega
 have hov:∀lb cb,(callFunc 147 #[.slice (some ⟨gx,0,none⟩) m capx,.slice (some ⟨g,(i+m)*8,none⟩) lb cb]).run Tryz.prog w= .ok (.value (.bool false)) w:=fun lb cb=>by
  rw[run_callFunc_extern Tryz.func147 (by kernel_rfl) (by kernel_rfl) (by kernel_rfl) (e:=Extern.SlicesOverlaps.overlaps #[33,33] #[4]) (by kernel_rfl),
   Lib.run_overlaps_apart w 33 4 59 Tryz.underlying33 8 zXE ⟨gx,0,none⟩ ⟨g,(i+m)*8,none⟩ m capx lb cb hne 59 59 cx.size cur.size (by simp[World.shape?,hx]) (by simp[World.shape?,hg]) (by omega) (by simp[World.frozen?,hx]) (by simp[World.frozen?,hx])]
  rfl
 have hC0:cur.toList.length=cap*8:=by rw[Array.length_toList,hcs]
 have hxc:∀j u,xs[j]? = some u->w.cell? ⟨g,j,none⟩=some u:=fun j u hj=>by
  rw[<- htake,List.getElem?_take]at hj;split at hj
  ·rw[bC hg];simpa using hj
  ·cases hj
 have hdl:(xs.drop (i*8)).length=(n-i)*8:=by rw[List.length_drop,hxl];omega
 obtain⟨c1,hc1⟩:∃c1:Array Value,c1=(cur.toList.take ((i+m)*8)++xs.drop (i*8)++cur.toList.drop ((i+m)*8+(xs.drop (i*8)).length)).toArray:=⟨_,rfl⟩;obtain⟨c2,hc2⟩:∃c2:Array Value,c2=(c1.toList.take (i*8)++vs++c1.toList.drop (i*8+vs.length)).toArray:=⟨_,rfl⟩;have hc1l:c1.toList.length=cap*8:=by rw[hc1,List.toList_toArray,zPT _ _ _ (by rw[hdl,hC0];omega),hC0]
 have hcp1:∀ty dc sc,(Builtin.copy_ #[33,33] ty #[.slice (some ⟨g,(i+m)*8,none⟩) (n+m-(i+m)) dc,.slice (some ⟨g,i*8,none⟩) (n+m-i) sc]).run Tryz.prog w.drew= .ok (goInt (Nat.min (n+m-i) (n+m-(i+m)))) (w.drew.setRow g c1):=fun ty dc sc=>by
  rw[hc1];exact zFN w.drew _ _ ty 59 8 g ((i+m)*8) (n+m-(i+m)) dc ⟨g,i*8,none⟩ (n+m-i) sc cur 59 (xs.drop (i*8)) Tryz.underlying33 szT hg
   (by rw[hdl];simp only[Nat.min_def];split<;>omega) (fun j u hj=>by rw[Addr.add_lit];exact hxc (i*8+j) u (by rwa [List.getElem?_drop]at hj)) (by rw[hdl,hcs];omega) (fun u hu=>h1x u (List.mem_of_mem_drop hu))
 have hcp2:∀W:World,W.heap=(w.drew.setRow g c1).heap->∀ty dc,(Builtin.copy_ #[33,33] ty #[.slice (some ⟨g,i*8,none⟩) (n+m-i) dc,.slice (some ⟨gx,0,none⟩) m capx]).run Tryz.prog W= .ok (goInt (Nat.min m (n+m-i))) (W.setRow g c2):=fun W hW ty dc=>by
  have h1:W.heap[g]? = some (.cells c1 59 (0,0)):=by rw[hW];exact setRow_heap w.drew g cur c1 _ _ hg
  have h2:W.heap[gx]? = some (.cells cx 59 (0,0)):=by rw[hW,setRow_other w.drew g gx c1 hne];exact hx
  rw[hc2];exact zFN W _ _ ty 59 8 g (i*8) (n+m-i) dc ⟨gx,0,none⟩ m capx c1 59 vs Tryz.underlying33 szT h1
   (by rw[hvl];simp only[Nat.min_def];split<;>omega) (fun j u hj=>by rw[Addr.add_lit,bC h2,Nat.zero_add];exact hxj j u hj) (by rw[<- Array.length_toList,hc1l,hvl];omega) hvc
 have HOK:Hid (zAg cdT B (w.drew.setRow g c2) (.slice (some ⟨g,0,none⟩) (n+m) cap) (l.take i++ys++l.drop i)):=hQq (by
  have hn:=HN.out;refine zME (xs:=ys) (css:=css) (dss:=dss) (cur:=c2) okT i (by omega) hcl hds hR hdR (zL0 (w:=w) hg hbg c2) (by rw[<- hm,hn]) hbg (setRow_heap w.drew g cur c2 _ _ hg) (by omega) (by unfold maxLen;omega) ?_ ?_
  ·rw[<- Array.length_toList,hc2,List.toList_toArray];show _=cap*8;simp only[List.length_append,List.length_take,List.length_drop,hc1l,hvl];omega
  ·rw[<- hxs];have:=zQc cur.toList xs vs (n*8) (i*8) (by omega) (by rw[hC0,hvl];omega) htake.symm;rw[hc2,hc1,List.toList_toArray];rw[<- hvs];show _=xs.take (i*8)++vs++xs.drop (i*8);rw[<- this];rw[hvl];simp only[cdT];rw[show (i+m)*8=i*8+m*8 by omega,show (n+m)*8=n*8+m*8 by omega])
 have HBL:Hid (Below B w (w.drew.setRow g c2)):=hQq (below_setRow ((bR B w).drew) hbg c2);clear hc1 hc2 hc1l hC0 hxc hdl hxs h1x htake hxl hR hcl hcl' hcs ho hm hds hdR hcx hxj hvl hvc hvs;go_enter Tryz.func85,Tryz.ntmps85;go_wp2_with (simp only[hov])
 go_region_law (refine step_copy_runI rfl _ _ 33 33 rfl _ _ (by simp[Act.eval,Act.put]) (by simp[Act.eval,Act.put]) (hcp1 _ _ _) ?_);go_wp2_with (at_builtin;refine wpList_copy_runI _ rfl _ _ 33 33 rfl _ _ rfl rfl (hcp2 _ rfl _ _) ?_)
 go_ret;refine⟨_,_,_,rfl,?_,?_⟩
 ·first|exact HOK.out|(rw[setRow_setRow];exact HOK.out)
 ·first|exact HBL.out|(rw[setRow_setRow];exact HBL.out)
theorem zSD (B : Nat) (w : World) (g cap gx capx i m : Nat) (l ys : List TrN) (dss : List (List Value)) (cx : Array Value) (hv : zAg cdT B w (.slice (some ⟨g, 0, none⟩) l.length cap) l) (hx : w.heap[gx]? = some (.cells cx 59 (0, 0))) (hB : B <= w.heap.size) (hi : i < l.length) (hm : m = ys.length) (hm0 : 0 < m) (hds : dss.length = ys.length) (hdR : ∀ k (h : k < ys.length) (h' : k < dss.length), cdT.R B w (ys[k]'h) (dss[k]'h')) (hcx : cx.toList.take (m * 8) = dss.flatten) (hroom : cap < l.length + m) (hl : l.length <= 1000) (hml : m <= 1000) :
  Calls Tryz.prog 85 #[.slice (some ⟨g, 0, none⟩) l.length cap, .int .i64 i, .slice (some ⟨gx, 0, none⟩) m capx] w (zXc cdT B w (l.take i ++ ys ++ l.drop i)) := by
 obtain ⟨css, hcl, hR, hxl, ho⟩ := hv;have HM := hQq hm;obtain ⟨cur, hbg, hg, hnc, hcs, htake⟩ : ∃ cur : Array Value, B <= g /\ w.heap[g]? = some (.cells cur 59 (0, 0)) /\ l.length <= cap /\ cur.size = cap * 8 /\ cur.toList.take (l.length * 8) = css.flatten := by
  rcases ho with ⟨_, h0⟩ | ⟨g', cap', cur, he, hb, hg, hnc, hcm, hcs, ht⟩
  ·omega
  ·cases he; exact ⟨cur, hb, hg, hnc, hcs, ht⟩
 obtain ⟨vs, hvs⟩ : ∃ vs, vs = dss.flatten := ⟨_, rfl⟩;have hvl : vs.length = m * 8 := by rw [hvs, zCy (zAg.lens okT hds hdR), hds, hm]; rfl
 rw [<- hvs] at hcx;have hvc : ∀ u ∈ vs, u.oneCell' = true := by rw [hvs]; exact zXp hds hdR
 have hxj : ∀ j u, vs[j]? = some u -> cx[j]? = some u := fun j u hj => by
  rw [<- hcx, List.getElem?_take] at hj;split at hj
  ·simpa using hj
  ·cases hj
 have hxl : css.flatten.length = l.length * 8 := hxl;obtain ⟨xs, hxs⟩ : ∃ xs, xs = css.flatten := ⟨_, rfl⟩;rw [<- hxs] at htake hxl;have h1x : ∀ u ∈ xs, u.oneCell' = true := by rw [hxs]; exact zXp hcl hR
 obtain ⟨n, hn⟩ : ∃ n, n = l.length := ⟨_, rfl⟩;have HN : Hid (n = l.length) := hQq hn;rw [<- hn] at hxl htake hi hl hnc hroom ⊢;have hcl' : css.length = n := by omega
 clear hn;have hz1 : ((m : Int) == 0) = false := nB (by omega);have hz2 : ((i : Int) == (n : Int)) = false := nB (by omega);have hz3 : (cap : Int) < (n : Int) + m := by omega
 have hw1 : IntKind.i64.wrap ((i : Int) + m) = (i : Int) + m := by rw [IntKind.wrap_i64]; omega
 have hb1 : (0 : Int) <= (i : Int) + m := by omega
 have hin : i <= n := by omega
 have htn : ((i : Int) + m).toNat = i + m := by omega
 have hb3 : (i : Int) <= (cap : Int) := by omega
 have hkk : (n : Int) + m - (i : Int) = ((n + m - i : Nat) : Int) := by omega
 have hik : i + (n + m - i) = n + m := by omega
 obtain ⟨i0, hi0, hz0, hzs', hzb'⟩ := okT.sl.info;have hzs : i0.size = 8 := hzs';have hzb : i0.bytes = 96 := hzb';clear hzs' hzb';have hxc : ∀ j u, xs[j]? = some u -> w.cell? ⟨g, j, none⟩ = some u := fun j u hj => by
  rw [<- htake, List.getElem?_take] at hj;split at hj
  ·rw [bC hg]; simpa using hj
  ·cases hj
 have hold : (Builtin.firstCells i0.size i (.slice (some ⟨g, 0, none⟩) i cap)).run Tryz.prog w.drew = .ok (xs.take (i * 8)).toArray w.drew := by
  rw [hzs];exact run_firstCells_some (w := w.drew) 8 i ⟨g, 0, none⟩ i cap (xs.take (i * 8)) (by rw [List.length_take, hxl]; omega) (fun j u hj => by
   rw [Addr.add_lit, Nat.zero_add];rw [List.getElem?_take] at hj;split at hj
   ·exact hxc j u hj
   ·cases hj)
 have hrz : ∀ ty, (Builtin.append_ #[33, 3] ty #[.slice (some ⟨g, 0, none⟩) i cap, .int .i64 ((n : Int) + m - (i : Int))]).run Tryz.prog w =
   .ok (.slice (some ⟨w.heap.size, 0, none⟩) (n + m) (grownCap w (n + m) cap 59)) (w.drew.alloc (.cells ((xs.take (i * 8)).toArray ++ Builtin.zeroCells cdT.z.cells (n + m - i) ++ Builtin.zeroCells cdT.z.cells (grownCap w (n + m) cap 59 - (n + m))) 59)) := fun ty => by
  have h := Lib.run_append_grow_zeros w 33 3 ty 59 i0 _ .i64 .i64 Tryz.underlying33 Tryz.underlying3 hi0 hz0 (some ⟨g, 0, none⟩) i cap (xs.take (i * 8)) hold (n + m - i) (by omega) (by rw [hzs]; omega) (by omega) (by omega) (by rw [hzb]; omega) (by rw [hzb, hik]; exact growslice_fits (by omega) (by omega));rw [hik] at h;rw [hkk];exact h
 obtain ⟨G, hG⟩ : ∃ G, G = grownCap w (n + m) cap 59 := ⟨_, rfl⟩;obtain ⟨ROW, hROW⟩ : ∃ ROW : Array Value, ROW = (xs.take (i * 8)).toArray ++ Builtin.zeroCells cdT.z.cells (n + m - i) ++ Builtin.zeroCells cdT.z.cells (G - (n + m)) := ⟨_, rfl⟩;rw [<- hG] at hrz;rw [<- hROW] at hrz;have hGn : n + m <= G := by rw [hG]; exact grownCap_ge w _ _ _
 have hGm : G <= maxLen := by rw [hG]; exact grownCap_le_maxLen w (n + m) cap 59 (by unfold maxLen; omega)
 have hG63 : G <= 9223372036854775807 := by
  have := grownCap_le_maxLen w (n + m) cap 59 (by unfold maxLen; omega);rw [<- hG] at this;unfold maxLen at this;omega
 have hRl : ROW.size = G * 8 := by
  rw [hROW];simp [Builtin.zeroCells, Value.cells, hxl, cdT];omega
 have hRt : ROW.toList.take (i * 8) = xs.take (i * 8) := by
  rw [hROW];simp only [Array.toList_append, List.append_assoc];rw [List.take_append_of_le_length (by rw [List.length_take, hxl]; omega), List.take_take, Nat.min_self]
 have hGi : ¬ (G = i) := by omega
 have hGim : ¬ (G = i + m) := by omega
 have hci : ¬ (cap = i) := by omega
 have hbN : g ≠ w.heap.size := fun e => by have := bL hg; omega
 have hxN : gx ≠ w.heap.size := fun e => by have := bL hx; omega
 have hdl : (xs.drop (i * 8)).length = (n - i) * 8 := by rw [List.length_drop, hxl]; omega
 obtain ⟨c1, hc1⟩ : ∃ c1 : Array Value, c1 = (ROW.toList.take (i * 8) ++ vs ++ ROW.toList.drop (i * 8 + vs.length)).toArray := ⟨_, rfl⟩;obtain ⟨c2, hc2⟩ : ∃ c2 : Array Value, c2 = (c1.toList.take ((i + m) * 8) ++ xs.drop (i * 8) ++ c1.toList.drop ((i + m) * 8 + (xs.drop (i * 8)).length)).toArray := ⟨_, rfl⟩;have hRL : ROW.toList.length = G * 8 := by rw [Array.length_toList, hRl]
 have hc1l : c1.toList.length = G * 8 := by
  rw [hc1, List.toList_toArray];simp only [List.length_append, List.length_take, List.length_drop, hRL, hvl]; omega
 obtain ⟨W0, hW0⟩ : ∃ W0, W0 = w.drew.alloc (.cells ROW 59) := ⟨_, rfl⟩;have hg0 : W0.heap[w.heap.size]? = some (.cells ROW 59 (0, 0)) := by rw [hW0]; exact bN w.drew _
 have hgo : ∀ b o, w.heap[b]? = some o -> W0.heap[b]? = some o := fun b o h => by rw [hW0]; exact bA (w := w.drew) h
 have hcpA : ∀ W : World, W.heap = W0.heap -> ∀ ty dc, (Builtin.copy_ #[33, 33] ty #[.slice (some ⟨w.heap.size, i * 8, none⟩) (n + m - i) dc, .slice (some ⟨gx, 0, none⟩) m capx]).run Tryz.prog W = .ok (goInt (Nat.min m (n + m - i))) (W.setRow w.heap.size c1) := fun W hW ty dc => by
  have h1 : W.heap[w.heap.size]? = some (.cells ROW 59 (0, 0)) := by rw [hW]; exact hg0
  have h2 : W.heap[gx]? = some (.cells cx 59 (0, 0)) := by rw [hW]; exact hgo _ _ hx
  rw [hc1];exact zFN W _ _ ty 59 8 w.heap.size (i * 8) (n + m - i) dc ⟨gx, 0, none⟩ m capx ROW 59 vs Tryz.underlying33 szT h1
   (by rw [hvl]; simp only [Nat.min_def]; split <;> omega) (fun j u hj => by rw [Addr.add_lit, bC h2, Nat.zero_add]; exact hxj j u hj) (by rw [hRl, hvl]; omega) hvc
 have hcpB : ∀ W : World, W.heap = (W0.setRow w.heap.size c1).heap -> ∀ ty dc sc, (Builtin.copy_ #[33, 33] ty #[.slice (some ⟨w.heap.size, (i + m) * 8, none⟩) (n + m - (i + m)) dc, .slice (some ⟨g, i * 8, none⟩) (n - i) sc]).run Tryz.prog W = .ok (goInt (Nat.min (n - i) (n + m - (i + m)))) (W.setRow w.heap.size c2) := fun W hW ty dc sc => by
  have h1 : W.heap[w.heap.size]? = some (.cells c1 59 (0, 0)) := by rw [hW]; exact setRow_heap W0 _ ROW c1 _ _ hg0
  have h2 : W.heap[g]? = some (.cells cur 59 (0, 0)) := by rw [hW, setRow_other W0 w.heap.size g c1 hbN]; exact hgo _ _ hg
  rw [hc2];exact zFN W _ _ ty 59 8 w.heap.size ((i + m) * 8) (n + m - (i + m)) dc ⟨g, i * 8, none⟩ (n - i) sc c1 59 (xs.drop (i * 8)) Tryz.underlying33 szT h1
   (by rw [hdl]; simp only [Nat.min_def]; split <;> omega) (fun j u hj => by
    rw [Addr.add_lit, bC h2];have := hxc (i * 8 + j) u (by rwa [List.getElem?_drop] at hj);rw [bC hg] at this; exact this) (by rw [<- Array.length_toList, hc1l, hdl]; omega) (fun u hu => h1x u (List.mem_of_mem_drop hu))
 have hCH : ∀ W : World, W.heap = (W0.setRow w.heap.size c1).heap -> Chg B cdT.e none w (W.setRow w.heap.size c2) := fun W hW => ⟨fun b o hb _ => by
  have hne : b ≠ w.heap.size := fun e => by have := bL hb; omega
  rw [setRow_other W w.heap.size b c2 hne, hW, setRow_other W0 w.heap.size b c1 hne]; exact hgo _ _ hb, by
  have h1 : (W.setRow w.heap.size c2).heap.size = W.heap.size := by simp [World.setRow]
  have h2 : (W0.setRow w.heap.size c1).heap.size = W0.heap.size := by simp [World.setRow]
  rw [h1, hW, h2, hW0]; simp, fun g hg => by cases hg⟩
 have HOK : Hid (∀ W : World, W.heap = (W0.setRow w.heap.size c1).heap -> zAg cdT B (W.setRow w.heap.size c2) (.slice (some ⟨w.heap.size, 0, none⟩) (n + m) G) (l.take i ++ ys ++ l.drop i)) := hQq (fun W hW => by
  have hn := HN.out;have h2 : W.heap[w.heap.size]? = some (.cells c1 59 (0, 0)) := by rw [hW]; exact setRow_heap W0 _ ROW c1 _ _ hg0
  refine zPz (W := W.setRow w.heap.size c2) ?_ rfl;refine zME (w := W.setRow w.heap.size c2) (row := none) (xs := ys) (css := css) (dss := dss) (cur := c2) okT i (by omega) hcl hds (fun k h h' => okT.chg (hR k h h') (hCH W hW) okT.self) (fun k h h' => okT.chg (hdR k h h') (hCH W hW) okT.self) (Chg.of_ext (bR _ _) B _) (by rw [<- hm, hn]) hB (setRow_heap W w.heap.size c1 c2 _ _ h2) (by omega) hGm ?_ ?_
  ·rw [<- Array.length_toList, hc2, List.toList_toArray, zPT _ _ _ (by rw [hdl, hc1l]; omega), hc1l]; rfl
  ·rw [<- hxs];have := zSC ROW.toList xs vs (n * 8) (i * 8) (by omega) (by rw [hRL, hvl]; omega) hxl hRt.symm;rw [hc2, hc1, List.toList_toArray];rw [<- hvs];show _ = xs.take (i * 8) ++ vs ++ xs.drop (i * 8);rw [<- this];rw [hvl];simp only [cdT];rw [show (i + m) * 8 = i * 8 + m * 8 by omega, show (n + m) * 8 = n * 8 + m * 8 by omega])
 subst hW0;clear hc1 hc2 hc1l hRL hRl hRt hROW hG hxc hdl hxs h1x htake hxl hR hcl hcl' hcs ho hkk hik hold hg0 hgo hCH hnc hm hds hdR hcx hxj hvl hvc hvs;have hcpC := hcpB (((w.alloc (.cells ROW 59)).drew.setRow w.heap.size c1).drew) rfl;go_enter Tryz.func85, Tryz.ntmps85;go_wp2_with (first
  | (at_builtin; refine Lib.wpList_append_run _ rfl _ _ _ _ rfl _ _ rfl rfl _ _ (hrz _) ?_)
  | (with_reducible refine wpList_copy_runI _ rfl (.tmp 43) (.tmp 44) 33 33 rfl _ _ rfl rfl (hcpA ((w.alloc (.cells ROW 59)).drew) rfl _ _) ?_))
 go_region_law (refine step_copy_runI rfl _ _ 33 33 rfl (.slice (some ⟨w.heap.size, (i + m) * 8, none⟩) (n + m - (i + m)) (G - (i + m))) (.slice (some ⟨g, i * 8, none⟩) (n - i) (cap - i)) (by simp [Act.eval, Act.put]) (by simp [Act.eval, Act.put]) (hcpC 3 (G - (i + m)) (cap - i)) ?_);go_wp2;go_ret;exact ⟨_, _, _, rfl, HOK.out _ rfl, below_setRow ((below_setRow (((bR B w).alloc hB _).drew) hB c1).drew) hB c2⟩
def zKq (d:DiN):BrN:={kdN 1 with ats:=d.ats,opq:=d.opq,red:=[]}
theorem zR8 {P:Program}{α:Type}{C:Cd α}(K:zEq P C)(w:World)(g B:Nat)(x:α)(cs:List Value)(hB:B<=g)(hg:w.heap[g]? = some (.cells cs.toArray C.e (0,0)))(hR:C.R B w x cs):zAg C B w (.slice (some ⟨g,0,none⟩) 1 1) [x]:=by
 have hl:=K.len hR;refine⟨[cs],rfl,fun k h h'=>?_,by simp[hl],.inr ⟨g,1,cs.toArray,rfl,hB,hg,Nat.le_refl _,by unfold maxLen;omega,by simp[hl],by simp[<- hl]⟩⟩;grind
def zX0 (pb mb B1 n1 n2 n3 ca cr ce:Nat)(aa ar ae:Option Addr)(o:Bool):Nat->Value->World->Prop
 | 0,v,_=>v= .pointer (some ⟨pb,0,none⟩)
 | 1,v,_=>v= .pointer (some ⟨pb,0,none⟩)
 | 2,v,_=>v= .pointer (some ⟨pb,0,none⟩)
 | 3,v,_=>v= .pointer (some ⟨pb,1,none⟩)
 | 4,v,_=>v= .map (some mb)
 | 5,v,_=>v= .agg #[.slice aa n1 ca,.bool o,.slice ar n2 cr,.slice ae n3 ce]
 | 6,v,_=>v= .slice aa n1 ca
 | 7,v,_=>v= .pointer (some ⟨pb,0,none⟩)
 | 8,v,_=>v= .pointer (some ⟨pb,0,none⟩)
 | 9,v,_=>v= .pointer (some ⟨pb,1,none⟩)
 | 10,v,_=>v= .map (some mb)
 | 11,v,_=>v= .agg #[.slice aa n1 ca,.bool o,.slice ar n2 cr,.slice ae n3 ce]
 | 12,v,_=>v= .bool o
 | 13,v,_=>v= .agg #[.int .i64 0,.string ⟨#[]⟩,.int .i64 1,.slice aa n1 ca,.string ⟨#[]⟩,.int .i64 0,.int .i64 0,.int .i64 0,.bool o,.slice none 0 0]
 | 14,v,w=>∃g,v= .slice (some ⟨g,0,none⟩) 1 1/\B1<=g/\w.heap[g]? = some (.cells #[.int .i64 0,.string ⟨#[]⟩,.int .i64 1,.slice aa n1 ca,.string ⟨#[]⟩,.int .i64 0,.int .i64 0,.int .i64 0,.bool o,.slice none 0 0] 46 (0,0))
 | _,_,_=>True
theorem zQU {pb mb B1 n1 n2 n3 ca cr ce:Nat}{aa ar ae:Option Addr}{o:Bool}:∀(i:Nat) (v:Value) (w w':World),zX0 pb mb B1 n1 n2 n3 ca cr ce aa ar ae o i v w->Ext w w'->zX0 pb mb B1 n1 n2 n3 ca cr ce aa ar ae o i v w':=by
 intro i v w w' hh he
 match i,hh with
 | 0,h=>exact h
 | 1,h=>exact h
 | 2,h=>exact h
 | 3,h=>exact h
 | 4,h=>exact h
 | 5,h=>exact h
 | 6,h=>exact h
 | 7,h=>exact h
 | 8,h=>exact h
 | 9,h=>exact h
 | 10,h=>exact h
 | 11,h=>exact h
 | 12,h=>exact h
 | 13,h=>exact h
 | 14,⟨g,h,h2⟩=>exact⟨g,h,⟨h2.1,bX he h2.2⟩⟩
 | i+15,_=>trivial
theorem zV0 (B B2:Nat)(w:World)(v vy:Value)(l ys:List TrN)(i:Nat)(hv:zAg cdT B w v l)(hy:zAg zNt B2 w vy ys)(hB:B<=w.heap.size)(hne:∀q,v.ownBlock=some q->vy.ownBlock≠some q)(h0:0<ys.length)(hi:i<=l.length)(hl:l.length<=1000)(hyl:ys.length<=1000):
  Calls Tryz.prog 85 #[v,.int .i64 i,vy] w (zXc cdT B w (l.take i++ys++l.drop i)):=by
 have hx:zCa B w vy ys:=((zAg.to (B':=0) hy (Nat.zero_le _)).in okT).mono okT (Nat.zero_le _);by_cases hil:i=l.length
 ·subst hil;rw[List.take_length,List.drop_length,List.append_nil];exact zVb B w v vy l ys hv hx hB hl h0 hyl
 obtain⟨a,cap,rfl⟩:=hv.form;obtain⟨g,rfl,hgB,hgl,-⟩:=hv.addr (by omega);obtain⟨dss,hdl,hdR,hdn,ho⟩:=hy;rcases ho with ⟨_,h1⟩|⟨gx,capx,cx,rfl,hb,hg,hnc,hcm,hcs,htk⟩
 ·omega
 have hg' : gx ≠ g := fun e => hne g rfl (by rw [e]; rfl);have hdR' : ∀ k (h : k < ys.length) (h' : k < dss.length), cdT.R B w (ys[k]'h) (dss[k]'h') := fun k h h' => okT.mono (B := 0) (Nat.zero_le _) (hdR k h h');by_cases hr : l.length + ys.length <= cap
 ·exact zQe B w g cap gx capx i ys.length l ys dss cx hv hg hg' (by omega) rfl h0 hdl hdR' htk hr hl hyl
 ·exact zSD B w g cap gx capx i ys.length l ys dss cx hv hg hB (by omega) rfl h0 hdl hdR' htk (by omega) hl hyl
end Go.Proofs.YtbeeoomadnmogaaGreat
