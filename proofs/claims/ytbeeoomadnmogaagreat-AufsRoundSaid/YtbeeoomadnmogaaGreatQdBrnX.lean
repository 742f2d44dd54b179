/- BrnX -/
import Derived.Test.YtbeeoomadnmogaaGreatQI3
import Derived.Test.YtbeeoomadnmogaaGreatQBrnA
set_option maxRecDepth 100000
set_option maxHeartbeats 64000000
namespace Go.Proofs.YtbeeoomadnmogaaGreat
open Go.RowKit
section
variable {P:Program} {α:Type} {C:Cd α} {B B':Nat} {w w':World} {v:Value} {l:List α}
theorem zO2 (K:zEN P C) (ty:TypeId) (v x:Value) (l1 l2:List α) (w:World) (h1:zAg C B w v l1) (h2:zAj C B w x l2) (hB:B<=w.heap.size) (hl:l1.length+l2.length<=1000000000000000000) (hby:(l1.length+l2.length) * C.bytes<=140737488355328) :
  ∃ v' w',(Builtin.append_ #[C.t,C.t] ty #[v,x]).run P w= .ok v' w'/\zAg C B w' v' (l1 ++ l2)/\w.grownBy w' v.ownBlock/\(v'.ownBlock=v.ownBlock\/v'.ownBlock=some w.heap.size)/\Chg B C.e v.ownBlock w w':=by
 obtain⟨i,hi,hz,h3,h4⟩:=K.sl.info
 have hrow:=h1.row rfl
 obtain⟨a,cap,rfl,hcap,hn,hc⟩:=h2
 obtain⟨css,hcl,hR,ho⟩:=h1
 have hlen:=zAg.lens K hcl hR
 cases a with
 | none=>
  obtain rfl:l2= []:=by
   cases l2 with
   | nil=>rfl
   | cons y r=>obtain⟨b,off,cs,h0,_⟩:=hc 0 (by simp);cases h0
  refine⟨v,w,?_,by rw [List.append_nil];exact⟨css,hcl,hR,ho⟩,⟨rfl,rfl,rfl,Nat.le_refl _,fun _ _ _=>rfl⟩,.inl rfl,⟨fun _ _ hb _=>hb,Nat.le_refl _,hrow⟩⟩
  rcases ho.2 with ⟨rfl,h0⟩ | ⟨g,cap',cur,rfl,_,_,hnc,_⟩
  ·simp [Builtin.append_,run_underlying K.sl.und,sizeOf,typeInfo,hi,Builtin.lenOf,Builtin.firstCells]
  ·simp [Builtin.append_,run_underlying K.sl.und,sizeOf,typeInfo,hi,Builtin.lenOf,Builtin.firstCells,hnc,storeCells]
 | some ad=>
  have hex : ∃ dss : List (List Value), dss.length = l2.length /\ ∀ k (h : k < l2.length) (h' : k < dss.length), C.R B w (l2[k]'h) (dss[k]'h') /\ ∀ j c, (dss[k]'h')[j]? = some c -> w.cell? (ad.add (k * C.n + j)) = some c := by
   have : ∀ m, m <= l2.length -> ∃ dss : List (List Value), dss.length = m /\ ∀ k (h : k < l2.length) (h' : k < dss.length), C.R B w (l2[k]'h) (dss[k]'h') /\ ∀ j c, (dss[k]'h')[j]? = some c -> w.cell? (ad.add (k * C.n + j)) = some c := by
    intro m
    induction m with
    | zero=>intro _;exact⟨[],rfl,fun k _ h'=>absurd h' (by simp)⟩
    | succ m ih=>
     intro hm
     obtain⟨dss,hd,hh⟩:=ih (by omega)
     obtain⟨b,off,cs,h0,hb,hr,hrw⟩:=hc m (by omega)
     refine⟨dss ++ [cs],by simp [hd],fun k h h'=>?_⟩
     rw [List.getElem_append]
     split
     ·exact hh k h _
     ·have hkm:k=m:=by simp at h';omega
      subst hkm
      simp only [List.getElem_singleton]
      refine⟨hr,fun j c hj=>?_⟩
      cases h0
      rw [Addr.add_lit,<- Nat.add_assoc];exact hrw j c hj
   exact this _ (Nat.le_refl _)
  obtain⟨dss,hdl,hd⟩:=hex
  have hdlen:∀ cs ∈ dss,cs.length=C.n:=by
   intro cs hcs
   obtain⟨k,hk,rfl⟩:=List.getElem_of_mem hcs
   exact K.len (hd k (by omega) hk).1
  have hcell:∀ j u,dss.flatten[j]? = some u->w.cell? (ad.add j)=some u:=by
   intro j u hj
   have hp:=K.sl.pos
   have hdm:j / C.n * C.n+j % C.n=j:=by rw [Nat.mul_comm];exact Nat.div_add_mod j C.n
   have hml:=Nat.mod_lt j hp
   rw [<- hdm,zG3 hdlen _ _ hml] at hj
   rcases Nat.lt_or_ge (j / C.n) dss.length with hk | hk
   ·rw [List.getElem?_eq_getElem hk] at hj
    have:=(hd (j / C.n) (by omega) hk).2 (j % C.n) u hj
    rwa [hdm] at this
   ·rw [List.getElem?_eq_none hk] at hj;cases hj
  have hone:∀ u ∈ dss.flatten,u.oneCell'=true:=by
   intro u hu
   obtain⟨cs,hcs,hu⟩:=List.mem_flatten.1 hu
   obtain⟨k,hk,rfl⟩:=List.getElem_of_mem hcs
   exact K.one (hd k (by omega) hk).1 u hu
  obtain⟨v',w',hr,ho',hg,_,hlies⟩:=run_append_own_at (P:=P) (w:=w) B C.t ty C.e i _ C.n C.bytes K.sl.und hi hz h3 h4 K.sl.zs K.sl.pos v l1.length css.flatten ho ad l2.length cap dss.flatten (by rw [zB3 hdlen,hdl]) hcell hone (by unfold maxLen;omega) hby hB
  have hchg:Chg B C.e v.ownBlock w w':=⟨zC1 hg,hg.size,hrow⟩
  refine⟨v',w',hr,⟨css ++ dss,by simp [hcl,hdl],fun k hk hk'=>K.chg ?_ hchg K.self,?_⟩,hg,hlies,hchg⟩
  ·rw [List.getElem_append,List.getElem_append]
   by_cases hkl:k < l1.length
   ·rw [dif_pos hkl,dif_pos (by omega)];exact hR k hkl (by omega)
   ·rw [dif_neg hkl,dif_neg (by omega)]
    have:=(hd (k - l1.length) (by simp at hk;omega) (by simp at hk;omega)).1
    simp only [hcl];exact this
  ·rw [List.length_append,List.flatten_append];exact ho'
variable {o:Oper} {a:Act} {Kx:Act->World->Prop} {Q:Exit->Act->World->Prop}
theorem zMf (K:zEN P C) (s x:Operand) (ho:o.op= .call {callee:=.builtin .append,args:=#[s,x],argTypes:=#[C.t,C.t]})
  (v xv:Value) (l1 l2:List α) (W0 w:World) (hs:a.eval s=v) (hx:a.eval x=xv) (h1:zAg C B w v l1) (h2:zAj C B w xv l2) (hb:Below B W0 w) (hB:B<=w.heap.size) (hl:l1.length+l2.length<=1000000000000000000) (hby:(l1.length+l2.length) * C.bytes<=140737488355328)
  (h:∀ v' w',zH6 C B v v' (l1 ++ l2) W0 w w'->Kx (a.put o.dst v') w'):o.wp P a w Kx Q:=by
 obtain⟨v',w',hr,h3,h4,h5,h6⟩:=zO2 K o.type v xv l1 l2 w h1 h2 hB hl hby
 unfold Oper.wp execOp
 simp only [ho,resolve,invoke,builtin,Sem.run_bind,Sem.run_pure,Result.andThen_ok,List.map_toArray,List.map_cons,List.map_nil,hs,hx,hr]
 exact h v' w' ⟨h3,zHV hb h4 h1 hB,h6,h5⟩
end
theorem zRS (B:Nat) (w:World) (x:BrN) (va vr:Value) (hx:zAK B w va x.ats) (hB:B<=w.heap.size) (hl:x.ats.length * 32<=140737488355328) (hr:∃ a n cap,vr= .slice a n cap) :
  Calls Tryz.prog 139 #[brV x va vr] w (zRn w x):=by
 obtain⟨a4,n4,cap4,rfl⟩:=hr
 obtain⟨a3,cap3,rfl⟩:=hx.form
 have HX:=hQq hx
 clear hx
 unfold brV
 go_enter Tryz.func139,Tryz.ntmps139
 go_wp2
 refine nW (P:=fun W=>Code.wp _ _ _ _ W) _ ?_
 intro W hW
 have HXB:Hid (W.heap[w.heap.size]? = some (.cells #[.int .i64 x.dep,.string x.nm,.int .i64 x.kd,.slice a3 x.ats.length cap3,.string x.dat,.int .i64 x.ma,.int .i64 x.mi,.int .i64 x.cl,.bool x.opq,.slice a4 n4 cap4] 46 (0,0))):=hQq (by rw [hW];exact bA (bN w _))
 have HZB:Hid (W.heap[w.heap.size+1]? = some (.cells #[.int .i64 0,.string ⟨#[]⟩,.int .i64 0,.slice none 0 0,.string ⟨#[]⟩,.int .i64 0,.int .i64 0,.int .i64 0] 59 (0,0))):=hQq (by rw [hW];exact zAH (by simp))
 have HE:Hid (Ext w W):=hQq (by rw [hW];exact(eA _ _).trans (eA _ _))
 clear hW
 have c0:W.cell? ⟨w.heap.size,0,none⟩=some (.int .i64 x.dep):=bC HXB.out 0
 have c1:W.cell? ⟨w.heap.size,1,none⟩=some (.string x.nm):=bC HXB.out 1
 have c2:W.cell? ⟨w.heap.size,2,none⟩=some (.int .i64 x.kd):=bC HXB.out 2
 have c3:W.cell? ⟨w.heap.size,3,none⟩=some (.slice a3 x.ats.length cap3):=bC HXB.out 3
 have c4:W.cell? ⟨w.heap.size,4,none⟩=some (.string x.dat):=bC HXB.out 4
 have c5:W.cell? ⟨w.heap.size,5,none⟩=some (.int .i64 x.ma):=bC HXB.out 5
 have c6:W.cell? ⟨w.heap.size,6,none⟩=some (.int .i64 x.mi):=bC HXB.out 6
 have c7:W.cell? ⟨w.heap.size,7,none⟩=some (.int .i64 x.cl):=bC HXB.out 7
 have fz:∀ j,W.frozen? ⟨w.heap.size+1,j,none⟩=false:=fun j=>bT HZB.out j
 have HX1:Hid (∀ o,zAK W.heap.size (W.alloc o).drew (.slice a3 x.ats.length cap3) x.ats):=hQq (fun o=>(HX.out.mono okA (Nat.le_trans hB HE.out.size)).ext okA ((HE.out.trans (eA _ _)).trans (eD _)))
 have HF1:Hid (zAg cdA W.heap.size (W.alloc (.cells #[] cdA.e)).drew (.slice (some ⟨W.heap.size,0,none⟩) 0 0) []):=hQq ((zAg.fresh cdA W).ext okA (eD _))
 have fzA:∀ o j,(W.alloc o).drew.frozen? ⟨w.heap.size+1,j,none⟩=false:=fun o j=>bT (bX ((eA W o).trans (eD _)) HZB.out) j
 go_region_held3 (fun w'=>w'.cell? ⟨w.heap.size,0,none⟩=some (.int .i64 x.dep)/\w'.cell? ⟨w.heap.size,1,none⟩=some (.string x.nm)/\w'.cell? ⟨w.heap.size,2,none⟩=some (.int .i64 x.kd)/\w'.cell? ⟨w.heap.size,3,none⟩=some (.slice a3 x.ats.length cap3)/\w'.cell? ⟨w.heap.size,4,none⟩=some (.string x.dat)/\w'.cell? ⟨w.heap.size,5,none⟩=some (.int .i64 x.ma)/\w'.cell? ⟨w.heap.size,6,none⟩=some (.int .i64 x.mi)/\w'.cell? ⟨w.heap.size,7,none⟩=some (.int .i64 x.cl)/\∀ j,w'.frozen? ⟨w.heap.size+1,j,none⟩=false) (first | go_keep | skip)
  ((refine zMf okA (.tmp 9) (.tmp 11) (by rfl) (.slice (some ⟨W.heap.size,0,none⟩) 0 0) _ [] x.ats W _ (by rfl) (by rfl) (by exact HF1.out) (by exact HX1.out _) (by exact(eA _ _).trans (eD _)) (by simp) (by simp;omega) (by simp [cdA];omega) ?_;intro v5 w3 ha;have HAP:=hQq ha;clear ha;have HE3:Hid (Ext W w3):=HAP.out.below;have X3:=hQq (zFZ HXB.out HE3.out);have Z3:=hQq (zFZ HZB.out HE3.out);obtain⟨a5,cap5,rfl⟩:=HAP.out.own.form;have d0:w3.cell? ⟨w.heap.size,0,none⟩=some (.int .i64 x.dep):=bC X3.out 0;have d1:w3.cell? ⟨w.heap.size,1,none⟩=some (.string x.nm):=bC X3.out 1;have d2:w3.cell? ⟨w.heap.size,2,none⟩=some (.int .i64 x.kd):=bC X3.out 2;have d3:w3.cell? ⟨w.heap.size,3,none⟩=some (.slice a3 x.ats.length cap3):=bC X3.out 3;have d4:w3.cell? ⟨w.heap.size,4,none⟩=some (.string x.dat):=bC X3.out 4;have d5:w3.cell? ⟨w.heap.size,5,none⟩=some (.int .i64 x.ma):=bC X3.out 5;have d6:w3.cell? ⟨w.heap.size,6,none⟩=some (.int .i64 x.mi):=bC X3.out 6;have d7:w3.cell? ⟨w.heap.size,7,none⟩=some (.int .i64 x.cl):=bC X3.out 7;have fz3:∀ j,w3.frozen? ⟨w.heap.size+1,j,none⟩=false:=fun j=>bT Z3.out j;have r0:w3.cell? ⟨w.heap.size+1,0,none⟩=some (.int .i64 0):=bC Z3.out 0;have r1:w3.cell? ⟨w.heap.size+1,1,none⟩=some (.string ⟨#[]⟩):=bC Z3.out 1;have r2:w3.cell? ⟨w.heap.size+1,2,none⟩=some (.int .i64 0):=bC Z3.out 2;have r3:w3.cell? ⟨w.heap.size+1,3,none⟩=some (.slice none 0 0):=bC Z3.out 3;have r4:w3.cell? ⟨w.heap.size+1,4,none⟩=some (.string ⟨#[]⟩):=bC Z3.out 4;have r5:w3.cell? ⟨w.heap.size+1,5,none⟩=some (.int .i64 0):=bC Z3.out 5;have r6:w3.cell? ⟨w.heap.size+1,6,none⟩=some (.int .i64 0):=bC Z3.out 6;have r7:w3.cell? ⟨w.heap.size+1,7,none⟩=some (.int .i64 0):=bC Z3.out 7;have hsz:w.heap.size+1 < w3.heap.size:=bL Z3.out))
 refine nW (P:=fun W=>Exit.then _ _ _ _ W) _ ?_
 intro W2 hW2
 replace hW2:W2=zGa w3 (w.heap.size+1) 0 [.int .i64 x.dep,.string x.nm,.int .i64 x.kd,.slice a5 x.ats.length cap5,.string x.dat,.int .i64 x.ma,.int .i64 x.mi,.int .i64 x.cl]:=hW2
 have HZ2:Hid (W2.heap[w.heap.size+1]? = some (.cells #[.int .i64 x.dep,.string x.nm,.int .i64 x.kd,.slice a5 x.ats.length cap5,.string x.dat,.int .i64 x.ma,.int .i64 x.mi,.int .i64 x.cl] 59 (0,0))):=hQq (by rw [hW2,zCY _ _ _ _ Z3.out];rfl)
 have HB2:Hid (Ext w W2):=hQq (by rw [hW2];exact zBG (by omega) _ _ _ (HE.out.trans HE3.out))
 have HO:Hid (zAK 0 w3 (.slice a5 x.ats.length cap5) x.ats):=hQq ((zAg.le (B':=0) HAP.out.own okA (fun _ _ _ h=>h) (Nat.zero_le _)).in okA)
 have HA2:Hid (zAK 0 W2 (.slice a5 x.ats.length cap5) x.ats):=hQq (by rw [hW2];exact HO.out.chg okA (zCX (by omega) Z3.out _) (by decide) (by decide))
 clear hW2 c0 c1 c2 c3 c4 c5 c6 c7 d0 d1 d2 d3 d4 d5 d6 d7 r0 r1 r2 r3 r4 r5 r6 r7
 have t0:W2.cell? ⟨w.heap.size+1,0,none⟩=some (.int .i64 x.dep):=bC HZ2.out 0
 have t1:W2.cell? ⟨w.heap.size+1,1,none⟩=some (.string x.nm):=bC HZ2.out 1
 have t2:W2.cell? ⟨w.heap.size+1,2,none⟩=some (.int .i64 x.kd):=bC HZ2.out 2
 have t3:W2.cell? ⟨w.heap.size+1,3,none⟩=some (.slice a5 x.ats.length cap5):=bC HZ2.out 3
 have t4:W2.cell? ⟨w.heap.size+1,4,none⟩=some (.string x.dat):=bC HZ2.out 4
 have t5:W2.cell? ⟨w.heap.size+1,5,none⟩=some (.int .i64 x.ma):=bC HZ2.out 5
 have t6:W2.cell? ⟨w.heap.size+1,6,none⟩=some (.int .i64 x.mi):=bC HZ2.out 6
 have t7:W2.cell? ⟨w.heap.size+1,7,none⟩=some (.int .i64 x.cl):=bC HZ2.out 7
 go_wp2
 refine bodyPost_ret (v:=trV x.toTrN (.slice a5 x.ats.length cap5)) (by simp [results,Tryz.f139,go_sem,t0,t1,t2,t3,t4,t5,t6,t7]) rfl ?_
 exact⟨⟨_,rfl,HA2.out⟩,HB2.out⟩
end Go.Proofs.YtbeeoomadnmogaaGreat
