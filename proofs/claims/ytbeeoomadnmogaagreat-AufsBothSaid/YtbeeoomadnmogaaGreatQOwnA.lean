/- zEp Cod NodT NodA NodB MapW -/
import Derived.Test.YtbeeoomadnmogaaGreatQI2
import Derived.Test.YtbeeoomadnmogaaGreatQBase
namespace Go.Proofs.YtbeeoomadnmogaaGreat
open Go.RowKit
theorem zFv:SlT Tryz.prog 22 57 2 32 (.agg #[.string ⟨#[]⟩,.string ⟨#[]⟩]) where
 und:=Tryz.underlying22
 info:=info_parts (by kernel_rfl)
 zs:=rfl
 pos:=by decide
 small:=by decide
theorem zC1 {w w':World} {row:Option Nat} (h:w.grownBy w' row):zAA row w w':=fun _ _ hb hne=>zAU h hb hne
theorem zAA.trans {row:Option Nat} {w w' w'':World} (h:zAA row w w') (k:zAA row w' w''):zAA row w w'':=fun b o hb hne=>k b o (h b o hb hne) hne
theorem zP5 {w:World} {b:Nat} (h:b < w.heap.size):∃ o,w.heap[b]? = some o:=⟨_,Array.getElem?_eq_getElem h⟩
def TyA (w:World) (v:Value):Prop:=∀ b,v.ownBlock=some b->∃ cs f,w.heap[b]? = some (.cells cs 57 f)
theorem TyA.ext {w w':World} {v:Value} (h:TyA w v) (he:Ext w w'):TyA w' v:=fun b hb=>by obtain⟨cs,f,h1⟩:=h b hb;exact⟨cs,f,bX he h1⟩
def zRv (w:World) (v:Value) (l:List zAr):Prop:=aA w v l/\TyA w v
theorem zRv.nil (w:World) (n c:Nat) (h:aA w (.slice none n c) []):zRv w (.slice none n c) []:=⟨h,fun b hb=>by cases hb⟩
theorem zRv.ext {w w':World} {v:Value} {l:List zAr} (h:zRv w v l) (he:Ext w w'):zRv w' v l:=⟨h.1.ext he,h.2.ext he⟩
theorem zEL {row:Option Nat} {w w':World} (h:zAA row w w') {b o:Nat} (hb:b < w.heap.size) (hne:row ≠ some b):w'.cell? ⟨b,o,none⟩=w.cell? ⟨b,o,none⟩:=by
 obtain⟨x,hx⟩:=zP5 hb
 have:=h b x hx hne
 simp only [World.cell?,hx,this]
theorem aA.keep {row:Option Nat} {w w':World} {v:Value} {l:List zAr} (h:aA w v l) (hk:zAA row w w') (hs:w.heap.size<=w'.heap.size) (hne:row=none\/v.ownBlock ≠ row):aA w' v l:=by
 obtain⟨a,cap,rfl,hcap,hc⟩:=h
 refine⟨a,cap,rfl,hcap,fun k hk'=>?_⟩
 obtain⟨b,off,rfl,hb,h1,h2⟩:=hc k hk'
 have hne':row ≠ some b:=by
  rcases hne with rfl | hne
  ·exact fun x=>by cases x
  ·exact fun x=>hne (by rw [x];rfl)
 exact⟨b,off,rfl,Nat.lt_of_lt_of_le hb hs,by rw [zEL hk hb hne'];exact h1,by rw [zEL hk hb hne'];exact h2⟩
theorem zRv.keep {row:Option Nat} {w w':World} {v:Value} {l:List zAr} (h:zRv w v l) (hk:zAA row w w') (hs:w.heap.size<=w'.heap.size) (hne:row=none\/v.ownBlock ≠ row):zRv w' v l:=by
 refine⟨h.1.keep hk hs hne,fun b hb=>?_⟩
 obtain⟨cs,f,h1⟩:=h.2 b hb
 refine⟨cs,f,hk _ _ h1 ?_⟩
 rcases hne with rfl | hne
 ·exact fun x=>by cases x
 ·exact fun x=>hne (by rw [x];exact hb)
theorem zEp.keep {B:Nat} {row:Option Nat} {w w':World} {v:Value} {l:List zAr} (h:zEp B w v l) (hk:zAA row w w') (hne:row=none\/v.ownBlock ≠ row):zEp B w' v l:=by
 refine⟨h.1,?_⟩
 rcases h.2 with ⟨h1,h2⟩ | ⟨g,cap,cur,rfl,hb,hg,h3⟩
 ·exact .inl ⟨h1,h2⟩
 ·refine .inr ⟨g,cap,cur,rfl,hb,hk _ _ hg ?_,h3⟩
  rcases hne with rfl | hne
  ·exact fun x=>by cases x
  ·exact fun x=>hne (by rw [x];rfl)
theorem zEp.ext {B:Nat} {w w':World} {v:Value} {l:List zAr} (h:zEp B w v l) (he:Ext w w'):zEp B w' v l:=h.keep (row:=none) (fun _ _ hb _=>bX he hb) (.inl rfl)
theorem zEp.form {B:Nat} {w:World} {v:Value} {l:List zAr} (h:zEp B w v l):∃ a cap,v= .slice a l.length cap:=by
 rcases h.2 with ⟨rfl,h0⟩ | ⟨g,cap,cur,rfl,_⟩
 ·rw [h0];exact⟨_,_,rfl⟩
 ·exact⟨_,_,rfl⟩
theorem zEp.addr {B n cap:Nat} {w:World} {a:Option Addr} {l:List zAr} (h:zEp B w (.slice a n cap) l) (hl:0 < l.length):∃ g,a=some ⟨g,0,none⟩/\B<=g/\g < w.heap.size/\n=l.length:=by
 rcases h.2 with ⟨h1,h0⟩ | ⟨g,cap',cur,h1,hb,hg,_⟩
 ·omega
 ·injection h1 with e1 e2 e3
  exact⟨g,e1,hb,bL hg,e2⟩
theorem zEp.frozen {B n cap g:Nat} {w:World} {l:List zAr} (h:zEp B w (.slice (some ⟨g,0,none⟩) n cap) l) (j:Nat):w.frozen? ⟨g,j,none⟩=false:=by
 obtain⟨a,c,he⟩:=h.form
 injection he with _ e2 _
 subst e2
 exact World.ownsRow.frozenAt h j
theorem zS0 (l:List zAr) (k:Nat) (hk:k < l.length) (s:ByteArray):(zKT l).set (k * 2) (.string s)=zKT (l.set k (s,(l[k]'hk).2)):=by
 induction l generalizing k with
 | nil=>simp at hk
 | cons a r ih=>
  cases k with
  | zero=>rfl
  | succ k=>
   rw [List.set_cons_succ,zF2,zF2,show (k+1) * 2=k * 2+1+1 by omega,List.set_cons_succ,List.set_cons_succ,ih k (by simpa using hk)]
   rfl
theorem zEp.store {B n cap g:Nat} {w:World} {l:List zAr} (h:zEp B w (.slice (some ⟨g,0,none⟩) n cap) l) (k:Nat) (hk:k < l.length) (s:ByteArray) :
  zEp B (w.setCell ⟨g,k * 2,none⟩ (.string s)) (.slice (some ⟨g,0,none⟩) n cap) (l.set k (s,(l[k]'hk).2))/\w.grownBy (w.setCell ⟨g,k * 2,none⟩ (.string s)) (some g):=by
 obtain⟨_,h1,_,_,rfl⟩:=h.addr (by omega)
 have hh:w.ownsRow B 57 2 (.slice (some ⟨g,0,none⟩) l.length cap) l.length (zKT l):=h
 have h2:=hh.stored (k * 2) (.string s)
 refine⟨?_,h2.2⟩
 unfold zEp
 rw [<- zS0 l k hk s,List.length_set]
 exact h2.1
theorem zEp.nil (B:Nat) (w:World):zEp B w (.slice none 0 0) []:=World.ownsRow_nil _ _ _ _
theorem zEp.le {B B':Nat} {w:World} {v:Value} {l:List zAr} (h:zEp B w v l) (hb:B'<=B):zEp B' w v l:=⟨h.1,h.2.imp_right fun ⟨g,cap,cur,h1,h2,h3⟩=>⟨g,cap,cur,h1,Nat.le_trans hb h2,h3⟩⟩
theorem aA.take {w:World} {a:Option Addr} {n cap:Nat} {l:List zAr} (h:aA w (.slice a n cap) l) (i:Nat) (hi:i<=l.length):aA w (.slice a i cap) (l.take i):=by
 obtain⟨a',cap',he,hcap,hc⟩:=h
 cases he
 refine⟨a,cap,by rw [List.length_take,Nat.min_eq_left hi],by rw [List.length_take];omega,fun k hk=>?_⟩
 have hk':k < l.length:=by rw [List.length_take] at hk;omega
 obtain⟨b,off,h0,h1,h2,h3⟩:=hc k hk'
 exact⟨b,off,h0,h1,by rw [List.getElem_take];exact h2,by rw [List.getElem_take];exact h3⟩
theorem zRP (ty:TypeId) (B:Nat) (v x:Value) (l1 l2:List zAr) (w:World) (h1:zEp B w v l1) (h2:aA w x l2) (hB:B<=w.heap.size) (hl:l1.length+l2.length<=1000) :
  ∃ v' w',(Builtin.append_ #[22,22] ty #[v,x]).run Tryz.prog w= .ok v' w'/\zEp B w' v' (l1 ++ l2)/\w.grownBy w' v.ownBlock/\(v'.ownBlock=v.ownBlock\/v'.ownBlock=some w.heap.size):=by
 obtain⟨i,hi,hz,h3,h4⟩:=zFv.info
 obtain⟨a,cap,rfl,hcap,hc⟩:=h2
 cases a with
 | none=>
  obtain rfl:l2= []:=by
   cases l2 with
   | nil=>rfl
   | cons y r=>obtain⟨b,off,h0,_⟩:=hc 0 (by simp);cases h0
  refine⟨v,w,?_,by rw [List.append_nil];exact h1,⟨rfl,rfl,rfl,Nat.le_refl _,fun _ _ _=>rfl⟩,.inl rfl⟩
  rcases h1.2 with ⟨rfl,h0⟩ | ⟨g,cap',cur,rfl,_,_,hnc,_⟩
  ·simp [Builtin.append_,run_underlying zFv.und,sizeOf,typeInfo,hi,Builtin.lenOf,Builtin.firstCells]
  ·simp [Builtin.append_,run_underlying zFv.und,sizeOf,typeInfo,hi,Builtin.lenOf,Builtin.firstCells,hnc,storeCells]
 | some ad=>
  have hcell:∀ j u,(zKT l2)[j]? = some u->w.cell? (ad.add j)=some u:=by
   intro j u hj
   rw [zJR] at hj
   rcases Nat.lt_or_ge (j / 2) l2.length with hk | hk
   ·rw [List.getElem?_eq_getElem hk] at hj
    obtain⟨b,off,h0,hb,c1,c2⟩:=hc (j / 2) hk
    cases h0
    have hm:j % 2=0\/j % 2=1:=by omega
    rcases hm with hm | hm
    ·rw [hm] at hj
     have:u= .string l2[j / 2].1:=by simpa [zOz] using hj.symm
     rw [this,<- c1]
     show w.cell? (Addr.add _ _)=_
     rw [Addr.add_lit,show off+j=off+j / 2 * 2 by omega]
    ·rw [hm] at hj
     have:u= .string l2[j / 2].2:=by simpa [zOz] using hj.symm
     rw [this,<- c2]
     rw [Addr.add_lit,show off+j=off+j / 2 * 2+1 by omega]
   ·rw [List.getElem?_eq_none hk] at hj;cases hj
  have hone:∀ u ∈ zKT l2,u.oneCell'=true:=by
   intro u hu
   obtain⟨y,_,hy⟩:=List.mem_flatMap.1 hu
   simp [zOz] at hy
   rcases hy with rfl | rfl <;> rfl
  obtain⟨v',w',hr,ho,hg,_,hlies⟩:=run_append_own_at (P:=Tryz.prog) (w:=w) B 22 ty 57 i _ 2 32 zFv.und hi hz h3 h4 zFv.zs zFv.pos v l1.length (zKT l1) h1 ad l2.length cap (zKT l2) (zL3 l2) hcell hone (by unfold maxLen;omega) (by omega) hB
  refine⟨v',w',hr,?_,hg,hlies⟩
  unfold zEp;rw [List.length_append,zL4];exact ho
structure zXX (B:Nat) (v v':Value) (l:List zAr) (W0 w w':World):Prop where
 own:zEp B w' v' l
 below:Below B W0 w'
 keep:zAA v.ownBlock w w'
 lies:v'.ownBlock=v.ownBlock\/v'.ownBlock=some w.heap.size
 size:w.heap.size<=w'.heap.size
section
variable {o:Oper} {a:Act} {K:Act->World->Prop} {Q:Exit->Act->World->Prop}
theorem zTS (s x:Operand) (ho:o.op= .call {callee:=.builtin .append,args:=#[s,x],argTypes:=#[22,22]})
  (B:Nat) (v xv:Value) (l1 l2:List zAr) (W0 w:World) (hs:a.eval s=v) (hx:a.eval x=xv) (h1:zEp B w v l1) (h2:aA w xv l2) (hb:Below B W0 w) (hB:B<=w.heap.size) (hl:l1.length+l2.length<=1000)
  (h:∀ v' w',zXX B v v' (l1 ++ l2) W0 w w'->K (a.put o.dst v') w'):o.wp Tryz.prog a w K Q:=by
 obtain⟨v',w',hr,h3,h4,h5⟩:=zRP o.type B v xv l1 l2 w h1 h2 hB hl
 unfold Oper.wp execOp
 simp only [ho,resolve,invoke,builtin,Sem.run_bind,Sem.run_pure,Result.andThen_ok,List.map_toArray,List.map_cons,List.map_nil,hs,hx,hr]
 exact h v' w' ⟨h3,zDj hb h1 (Nat.le_refl _) hB h4,zC1 h4,h5,h4.size⟩
theorem zYb {ops:Array Oper} {rest:List Oper} (hgd:o.guard=none) (s x:Operand) (ho:o.op= .call {callee:=.builtin .append,args:=#[s,x],argTypes:=#[22,22]})
  (B:Nat) (v xv:Value) (l1 l2:List zAr) (W0 w:World) (hs:a.eval s=v) (hx:a.eval x=xv) (h1:zEp B w v l1) (h2:aA w xv l2) (hb:Below B W0 w) (hB:B<=w.heap.size) (hl:l1.length+l2.length<=1000)
  (h:∀ v' w',zXX B v v' (l1 ++ l2) W0 w w'->wpList Tryz.prog ops Q rest (a.put o.dst v') w'):wpList Tryz.prog ops Q (o :: rest) a w:=
 wpList_plain hgd fun _ hK=>zTS s x ho B v xv l1 l2 W0 w hs hx h1 h2 hb hB hl fun v' w' h3=>hK _ _ (h v' w' h3)
end
theorem zEp.fresh (w:World) (_c:Nat):zEp w.heap.size (w.alloc (.cells #[] 57)) (.slice (some ⟨w.heap.size,0,none⟩) 0 0) []:=
 World.ownsRow_lit w #[] 0 (Nat.le_refl _) (Nat.zero_le _) rfl
theorem zF9 (v:Value) (l:List zAr) (w:World) (hv:aA w v l) (hl:l.length<=1000) :
  Calls Tryz.prog 41 #[v] w fun e w'=>(∃ a cap,e= .returned (.slice a l.length cap)/\zEp w.heap.size w' (.slice a l.length cap) l)/\Ext w w':=by
 obtain⟨a,cap,rfl,hcap,hc⟩:=hv
 have HV:=hQq (show aA w (.slice a l.length cap) l from⟨a,cap,rfl,hcap,hc⟩)
 clear hc
 cases a with
 | none=>
  have:l= []:=by
   obtain⟨a',cap',he,_,hc⟩:=HV.out
   cases he
   cases l with
   | nil=>rfl
   | cons y r=>obtain⟨b,off,h0,_⟩:=hc 0 (by simp);cases h0
  subst this
  have hnil:=fun wx=>Lib.run_eql_slice_nil (P:=Tryz.prog) wx 22 57 none 0 cap 0 0 zFv.und
  go_enter Tryz.func41,Tryz.ntmps41
  go_wp2
  go_ret
  exact⟨⟨_,_,rfl,zEp.nil _ _⟩,bR _ _⟩
 | some ad=>
  have hnil:=fun wx=>Lib.run_eql_slice_nil (P:=Tryz.prog) wx 22 57 (some ad) l.length cap 0 0 zFv.und
  go_enter Tryz.func41,Tryz.ntmps41
  go_wp2_with (at_builtin;refine zYb rfl (.tmp 5) (.tmp 6) rfl w.heap.size _ _ [] l w (w.alloc (.cells #[] 57)) rfl rfl (zEp.fresh w 0) (HV.out.ext (eA _ _)) (eA _ _) (by simp) (by simpa using hl) ?_;intro v1 w1 ha;have HA:=hQq ha;clear ha)
  go_ret
  obtain⟨a1,c1,rfl⟩:=HA.out.own.form
  exact⟨⟨_,_,rfl,HA.out.own⟩,HA.out.below⟩
def zXw (w:World) (b off:Nat) (cs:List Value):Prop:=∀ j c,cs[j]? = some c->w.cell? ⟨b,off+j,none⟩=some c
def zXK:Value->Nat
 | .slice _ n _=>n
 | _=>0
def Nb (B:Nat) (w:World) (v:Value) (e:TypeId):Prop:=0 < zXK v->∀ b,v.ownBlock=some b->b < B\/∃ cs f,w.heap[b]? = some (.cells cs e f)
structure Chg (B:Nat) (E:TypeId) (row:Option Nat) (w w':World):Prop where
 keep:zAA row w w'
 size:w.heap.size<=w'.heap.size
 isrow:∀ g,row=some g->B<=g/\∃ c f,w.heap[g]? = some (.cells c E f)
theorem Chg.of_ext {w w':World} (h:Ext w w') (B:Nat) (E:TypeId):Chg B E none w w':=⟨fun _ _ hb _=>bX h hb,h.size,fun g hg=>by cases hg⟩
theorem Nb.chg {B:Nat} {w w':World} {v:Value} {e E:TypeId} {row:Option Nat} (h:Nb B w v e) (c:Chg B E row w w') (hE:E ≠ e):Nb B w' v e:=by
 intro h0 b hb
 rcases h h0 b hb with h1 | ⟨cs,f,h1⟩
 ·exact .inl h1
 ·refine .inr ⟨cs,f,c.keep _ _ h1 ?_⟩
  rintro rfl
  obtain⟨_,c',f',h2⟩:=c.isrow b rfl
  rw [h1] at h2;cases h2;exact hE rfl
theorem Nb.ext {B:Nat} {w w':World} {v:Value} {e:TypeId} (h:Nb B w v e) (he:Ext w w'):Nb B w' v e:=h.chg (Chg.of_ext he B (e+1)) (Nat.succ_ne_self e)
theorem Nb.ne {B:Nat} {w w':World} {v:Value} {e E:TypeId} {row:Option Nat} (h:Nb B w v e) (h0:0 < zXK v) (c:Chg B E row w w') (hE:E ≠ e):row=none\/v.ownBlock ≠ row:=by
 cases row with
 | none=>exact .inl rfl
 | some g=>
  refine .inr fun hv=>?_
  obtain⟨h1,c',f',h2⟩:=c.isrow g rfl
  rcases h h0 g hv with h3 | ⟨cs,f,h3⟩
  ·omega
  ·rw [h2] at h3;cases h3;exact hE rfl
theorem Nb.mono {B B':Nat} {w:World} {v:Value} {e:TypeId} (h:Nb B w v e) (hB:B<=B'):Nb B' w v e:=fun h0 b hb=>(h h0 b hb).imp_left (fun x=>Nat.lt_of_lt_of_le x hB)
theorem Nb.nil (B:Nat) (w:World) (n c:Nat) (e:TypeId):Nb B w (.slice none n c) e:=fun _ b hb=>by cases hb
theorem Nb.own {B B' e size n:Nat} {w:World} {v:Value} {xs:List Value} (h:w.ownsRow B e size v n xs):Nb B' w v e:=by
 intro _ b hb
 rcases h.2 with ⟨rfl,_⟩ | ⟨g,cap,cur,rfl,_,hg,_⟩
 ·cases hb
 ·cases hb;exact .inr ⟨cur,_,hg⟩
structure Cd (α:Type) where
 t:TypeId
 e:TypeId
 n:Nat
 bytes:Nat
 z:Value
 inner:List TypeId
 R:Nat->World->α->List Value->Prop
structure zEN (P:Program) {α:Type} (C:Cd α):Prop where
 sl:SlT P C.t C.e C.n C.bytes C.z
 len:∀ {B w x cs},C.R B w x cs->cs.length=C.n
 one:∀ {B w x cs},C.R B w x cs->∀ u ∈ cs,u.oneCell'=true
 chg:∀ {B w w' x cs E row},C.R B w x cs->Chg B E row w w'->E ∉ C.inner->C.R B w' x cs
 mono:∀ {B B' w x cs},B<=B'->C.R B w x cs->C.R B' w x cs
 self:C.e ∉ C.inner
def zAj {α:Type} (C:Cd α) (B:Nat) (w:World) (v:Value) (l:List α):Prop:=
 ∃ a cap,v= .slice a l.length cap/\l.length<=cap/\Nb B w v C.e/\∀ k (h:k < l.length),∃ b off cs,a=some ⟨b,off,none⟩/\b < w.heap.size/\C.R B w (l[k]'h) cs/\zXw w b (off+k * C.n) cs
def zAg {α:Type} (C:Cd α) (B:Nat) (w:World) (v:Value) (l:List α):Prop:=
 ∃ css : List (List Value), css.length = l.length /\ (∀ k (h : k < l.length) (h' : k < css.length), C.R B w (l[k]'h) (css[k]'h')) /\ w.ownsRow B C.e C.n v l.length css.flatten
theorem zG3 {n:Nat} {css:List (List Value)} (h:∀ cs ∈ css,cs.length=n) (k j:Nat) (hj:j < n):css.flatten[k * n+j]? = css[k]?.bind (·[j]?):=by
 induction css generalizing k with
 | nil=>simp
 | cons c r ih=>
  have hc:=h c (by simp)
  rw [List.flatten_cons]
  cases k with
  | zero=>rw [Nat.zero_mul,Nat.zero_add,List.getElem?_append_left (by omega)];rfl
  | succ k=>
   rw [List.getElem?_append_right (by rw [hc,Nat.succ_mul];omega),hc,show (k+1) * n+j - n=k * n+j by rw [Nat.succ_mul];omega,ih (fun cs hcs=>h cs (by simp [hcs])) k]
   rfl
theorem zM3 {n:Nat} {css:List (List Value)} (h:∀ cs ∈ css,cs.length=n) (k j:Nat) (hj:j < n) (hk:k < css.length) (u:Value):css.flatten.set (k * n+j) u=(css.set k ((css[k]'hk).set j u)).flatten:=by
 induction css generalizing k with
 | nil=>simp at hk
 | cons c r ih=>
  have hc:=h c (by simp)
  cases k with
  | zero=>rw [Nat.zero_mul,Nat.zero_add,List.flatten_cons,List.set_append_left _ _ (by omega)];rfl
  | succ k=>
   rw [List.flatten_cons,List.set_append_right _ _ (by rw [hc,Nat.succ_mul];omega),hc,show (k+1) * n+j - n=k * n+j by rw [Nat.succ_mul];omega,ih (fun cs hcs=>h cs (by simp [hcs])) k (by simpa using hk)]
   rfl
theorem zB3 {n:Nat} {css:List (List Value)} (h:∀ cs ∈ css,cs.length=n):css.flatten.length=css.length * n:=by
 induction css with
 | nil=>simp
 | cons c r ih=>rw [List.flatten_cons,List.length_append,h c (by simp),ih (fun cs hcs=>h cs (by simp [hcs])),List.length_cons,Nat.succ_mul];omega
section
variable {P:Program} {α:Type} {C:Cd α} {B B':Nat} {w w':World} {v:Value} {l:List α}
theorem zAj.chg {E:TypeId} {row:Option Nat} (h:zAj C B w v l) (k:zEN P C) (c:Chg B E row w w') (h1:E ≠ C.e) (h2:E ∉ C.inner):zAj C B w' v l:=by
 obtain⟨a,cap,rfl,hcap,hn,hc⟩:=h
 refine⟨a,cap,rfl,hcap,hn.chg c h1,fun i hi=>?_⟩
 obtain⟨b,off,cs,rfl,hb,hr,hrow⟩:=hc i hi
 refine⟨b,off,cs,rfl,Nat.lt_of_lt_of_le hb c.size,k.chg hr c h2,fun j u hj=>?_⟩
 rw [zEL c.keep hb ?_]
 ·exact hrow j u hj
 ·rcases hn.ne (show 0 < l.length by omega) c h1 with rfl | h3
  ·exact fun x=>by cases x
  ·exact fun x=>h3 (by rw [x];rfl)
theorem zAj.ext (h:zAj C B w v l) (k:zEN P C) (he:Ext w w'):zAj C B w' v l:=by
 obtain⟨a,cap,rfl,hcap,hn,hc⟩:=h
 refine⟨a,cap,rfl,hcap,hn.ext he,fun i hi=>?_⟩
 obtain⟨b,off,cs,rfl,hb,hr,hrow⟩:=hc i hi
 exact⟨b,off,cs,rfl,Nat.lt_of_lt_of_le hb he.size,k.chg hr (Chg.of_ext he B C.e) k.self,fun j u hj=>by rw [eC he hb];exact hrow j u hj⟩
theorem zAj.mono (h:zAj C B w v l) (k:zEN P C) (hB:B<=B'):zAj C B' w v l:=by
 obtain⟨a,cap,rfl,hcap,hn,hc⟩:=h
 refine⟨a,cap,rfl,hcap,hn.mono hB,fun i hi=>?_⟩
 obtain⟨b,off,cs,h1,h2,h3,h4⟩:=hc i hi
 exact⟨b,off,cs,h1,h2,k.mono hB h3,h4⟩
theorem zAj.nil (C:Cd α) (B:Nat) (w:World) (c:Nat):zAj C B w (.slice none 0 c) []:=⟨none,c,rfl,Nat.zero_le _,Nb.nil _ _ _ _ _,fun k hk=>absurd hk (by simp)⟩
theorem zAj.form (h:zAj C B w v l):∃ a cap,v= .slice a l.length cap:=by obtain⟨a,cap,h,_⟩:=h;exact⟨a,cap,h⟩
theorem zAg.lens (k : zEN P C) {css : List (List Value)} (hl : css.length = l.length) (hR : ∀ k (h : k < l.length) (h' : k < css.length), C.R B w (l[k]'h) (css[k]'h')) : ∀ cs ∈ css, cs.length = C.n := by
 intro cs hcs
 obtain⟨i,hi,rfl⟩:=List.getElem_of_mem hcs
 exact k.len (hR i (by omega) hi)
theorem zAg.in (h:zAg C B w v l) (k:zEN P C):zAj C B w v l:=by
 obtain⟨css,hl,hR,ho⟩:=h
 have hlen:=zAg.lens k hl hR
 have ho':=ho
 rcases ho.2 with ⟨rfl,h0⟩ | ⟨g,cap,cur,rfl,hb,hg,hnc,_⟩
 ·obtain rfl:l= []:=List.length_eq_zero_iff.1 h0
  exact zAj.nil _ _ _ _
 ·refine⟨_,_,rfl,hnc,Nb.own ho',fun i hi=>⟨g,0,css[i]'(by omega),rfl,bL hg,hR i hi (by omega),fun j u hj=>?_⟩⟩
  have hj':j < C.n:=by
   have:=hlen _ (List.getElem_mem (show i < css.length by omega))
   have:=(List.getElem?_eq_some_iff.1 hj).1;omega
  have h2:i * C.n+j < l.length * C.n:=by
   have:(i+1) * C.n<=l.length * C.n:=Nat.mul_le_mul_right _ hi
   rw [Nat.succ_mul] at this;omega
  have:=World.ownsRow.cellAt ho' (i * C.n+j) h2
  rw [Nat.zero_add,this,zG3 hlen i j hj',List.getElem?_eq_getElem (show i < css.length by omega)]
  exact hj
theorem zAg.nil (C:Cd α) (B:Nat) (w:World):zAg C B w (.slice none 0 0) []:=⟨[],rfl,fun k hk=>absurd hk (by simp),World.ownsRow_nil _ _ _ _⟩
theorem zAg.fresh (C:Cd α) (w:World):zAg C w.heap.size (w.alloc (.cells #[] C.e)) (.slice (some ⟨w.heap.size,0,none⟩) 0 0) []:=
 ⟨[],rfl,fun k hk=>absurd hk (by simp),World.ownsRow_lit w #[] 0 (Nat.le_refl _) (Nat.zero_le _) (by simp)⟩
theorem zAg.chg {E:TypeId} {row:Option Nat} (h:zAg C B w v l) (k:zEN P C) (c:Chg B E row w w') (h2:E ∉ C.inner) (hne:row=none\/v.ownBlock ≠ row):zAg C B w' v l:=by
 obtain⟨css,hl,hR,ho⟩:=h
 refine⟨css,hl,fun i hi hi'=>k.chg (hR i hi hi') c h2,ho.1,?_⟩
 rcases ho.2 with h1 | ⟨g,cap,cur,rfl,hb,hg,h3⟩
 ·exact .inl h1
 ·refine .inr ⟨g,cap,cur,rfl,hb,c.keep _ _ hg ?_,h3⟩
  rcases hne with rfl | hne
  ·exact fun x=>by cases x
  ·exact fun x=>hne (by rw [x];rfl)
theorem zAg.ext (h:zAg C B w v l) (k:zEN P C) (he:Ext w w'):zAg C B w' v l:=h.chg k (Chg.of_ext he B C.e) k.self (.inl rfl)
theorem zAg.other {E:TypeId} {row:Option Nat} (h:zAg C B w v l) (k:zEN P C) (c:Chg B E row w w') (h1:E ≠ C.e) (h2:E ∉ C.inner):zAg C B w' v l:=by
 obtain⟨css,hl,hR,ho⟩:=h
 refine zAg.chg ⟨css,hl,hR,ho⟩ k c h2 ?_
 cases row with
 | none=>exact .inl rfl
 | some g=>
  refine .inr fun hv=>?_
  obtain⟨_,c',f',h3⟩:=c.isrow g rfl
  rcases ho.2 with ⟨rfl,_⟩ | ⟨g',cap,cur,rfl,_,hg,_⟩
  ·cases hv
  ·cases hv;rw [h3] at hg;cases hg;exact h1 rfl
theorem zAg.le (h:zAg C B w v l) (_k:zEN P C) (hk:∀ i (h:i < l.length) cs,C.R B w (l[i]'h) cs->C.R B' w (l[i]'h) cs) (hB:B'<=B):zAg C B' w v l:=by
 obtain⟨css,hl,hR,ho⟩:=h
 exact⟨css,hl,fun i hi hi'=>hk i hi _ (hR i hi hi'),ho.1,ho.2.imp_right fun ⟨g,cap,cur,h1,h2,h3⟩=>⟨g,cap,cur,h1,Nat.le_trans hB h2,h3⟩⟩
theorem zAg.form (h:zAg C B w v l):∃ a cap,v= .slice a l.length cap:=by
 obtain⟨css,_,_,ho⟩:=h
 rcases ho.2 with ⟨rfl,h0⟩ | ⟨g,cap,cur,rfl,_⟩
 ·rw [h0];exact⟨_,_,rfl⟩
 ·exact⟨_,_,rfl⟩
theorem zAg.addr {n cap:Nat} {a:Option Addr} (h:zAg C B w (.slice a n cap) l) (hl:0 < l.length):∃ g,a=some ⟨g,0,none⟩/\B<=g/\g < w.heap.size/\n=l.length:=by
 obtain⟨css,_,_,ho⟩:=h
 rcases ho.2 with ⟨h1,h0⟩ | ⟨g,cap',cur,h1,hb,hg,_⟩
 ·omega
 ·injection h1 with e1 e2 e3
  exact⟨g,e1,hb,bL hg,e2⟩
theorem zAg.frozen {n cap g:Nat} (h:zAg C B w (.slice (some ⟨g,0,none⟩) n cap) l) (j:Nat):w.frozen? ⟨g,j,none⟩=false:=by
 obtain⟨a,c,he⟩:=h.form
 injection he with _ e2 _
 subst e2
 obtain⟨css,_,_,ho⟩:=h
 exact World.ownsRow.frozenAt ho j
theorem zAg.row (h:zAg C B w v l) {row:Option Nat} (hr:v.ownBlock=row):∀ g,row=some g->B<=g/\∃ c f,w.heap[g]? = some (.cells c C.e f):=by
 obtain⟨css,_,_,ho⟩:=h
 intro g hg
 rcases ho.2 with ⟨rfl,_⟩ | ⟨g',cap,cur,rfl,hb,hgg,_⟩
 ·rw [hg] at hr;cases hr
 ·rw [hg] at hr;cases hr;exact⟨hb,_,_,hgg⟩
theorem zAg.store {n cap g:Nat} (h:zAg C B w (.slice (some ⟨g,0,none⟩) n cap) l) (K:zEN P C) (k:Nat) (hk:k < l.length) (j:Nat) (hj:j < C.n) (u:Value) (x:α) (hx:∀ cs,C.R B w (l[k]'hk) cs->C.R B w x (cs.set j u)) :
  zAg C B (w.setCell ⟨g,k * C.n+j,none⟩ u) (.slice (some ⟨g,0,none⟩) n cap) (l.set k x)/\w.grownBy (w.setCell ⟨g,k * C.n+j,none⟩ u) (some g)/\Chg B C.e (some g) w (w.setCell ⟨g,k * C.n+j,none⟩ u):=by
 obtain⟨_,h1,_,_,rfl⟩:=h.addr (by omega)
 have hrow:=h.row rfl
 obtain⟨css,hl,hR,ho⟩:=h
 have hlen:=zAg.lens K hl hR
 have h2:=ho.stored (k * C.n+j) u
 have hc:Chg B C.e (some g) w (w.setCell ⟨g,k * C.n+j,none⟩ u):=⟨zC1 h2.2,h2.2.size,hrow⟩
 have hkc:k < css.length:=by omega
 refine⟨⟨css.set k ((css[k]'hkc).set j u),by simp [hl],fun i hi hi'=>?_,?_⟩,h2.2,hc⟩
 ·refine K.chg ?_ hc K.self
  rw [List.getElem_set,List.getElem_set]
  by_cases e:k=i
  ·subst e;rw [if_pos rfl,if_pos rfl];exact hx _ (hR k hk hkc)
  ·rw [if_neg e,if_neg e];exact hR i (by simpa using hi) (by simpa using hi')
 ·rw [List.length_set,<- zM3 hlen k j hj hkc u];exact h2.1
theorem zAn (K:zEN P C) (w:World) (x:α) (cs:List Value) (n:Nat) (hn:n=w.heap.size) (h:C.R B w x cs):zAj C B (w.alloc (.cells cs.toArray C.e)) (.slice (some ⟨n,0,none⟩) 1 1) [x]:=by
 subst hn
 refine⟨_,_,rfl,by simp,fun _ b hb=>.inr ⟨_,_,by cases hb;exact bN w _⟩,fun k hk=>?_⟩
 obtain rfl:k=0:=by simp at hk;omega
 refine⟨w.heap.size,0,cs,rfl,by simp,K.chg h (Chg.of_ext (eA _ _) B C.e) K.self,fun j u hj=>?_⟩
 rw [Nat.zero_add,Nat.zero_mul,Nat.zero_add,bC (bN w _)];simpa using hj
theorem zI3 (K:zEN P C) (ty:TypeId) (v x:Value) (l1 l2:List α) (w:World) (h1:zAg C B w v l1) (h2:zAj C B w x l2) (hB:B<=w.heap.size) (hl:l1.length+l2.length<=1000000) :
  ∃ v' w',(Builtin.append_ #[C.t,C.t] ty #[v,x]).run P w= .ok v' w'/\zAg C B w' v' (l1 ++ l2)/\w.grownBy w' v.ownBlock/\(v'.ownBlock=v.ownBlock\/v'.ownBlock=some w.heap.size)/\Chg B C.e v.ownBlock w w':=by
 obtain⟨i,hi,hz,h3,h4⟩:=K.sl.info
 have hsm:=K.sl.small
 have hrow:=h1.row rfl
 obtain⟨a,cap,rfl,hcap,hn,hc⟩:=h2
 obtain⟨css,hcl,hR,ho⟩:=h1
 have hlen:=zAg.lens K hcl hR
 cases a with
 | none=>
  obtain rfl:l2= []:=by
   cases l2 with
   | nil=>rfl
   | cons y r=>obtain⟨b,off,cs,h0,_⟩:=hc 0 (by simp);cases h0
  refine⟨v,w,?_,by rw [List.append_nil];exact⟨css,hcl,hR,ho⟩,⟨rfl,rfl,rfl,Nat.le_refl _,fun _ _ _=>rfl⟩,.inl rfl,⟨fun _ _ hb _=>hb,Nat.le_refl _,hrow⟩⟩
  rcases ho.2 with ⟨rfl,h0⟩ | ⟨g,cap',cur,rfl,_,_,hnc,_⟩
  ·simp [Builtin.append_,run_underlying K.sl.und,sizeOf,typeInfo,hi,Builtin.lenOf,Builtin.firstCells]
  ·simp [Builtin.append_,run_underlying K.sl.und,sizeOf,typeInfo,hi,Builtin.lenOf,Builtin.firstCells,hnc,storeCells]
 | some ad=>
  have hex : ∃ dss : List (List Value), dss.length = l2.length /\ ∀ k (h : k < l2.length) (h' : k < dss.length), C.R B w (l2[k]'h) (dss[k]'h') /\ ∀ j c, (dss[k]'h')[j]? = some c -> w.cell? (ad.add (k * C.n + j)) = some c := by
   have : ∀ m, m <= l2.length -> ∃ dss : List (List Value), dss.length = m /\ ∀ k (h : k < l2.length) (h' : k < dss.length), C.R B w (l2[k]'h) (dss[k]'h') /\ ∀ j c, (dss[k]'h')[j]? = some c -> w.cell? (ad.add (k * C.n + j)) = some c := by
    intro m
    induction m with
    | zero=>intro _;exact⟨[],rfl,fun k _ h'=>absurd h' (by simp)⟩
    | succ m ih=>
     intro hm
     obtain⟨dss,hd,hh⟩:=ih (by omega)
     obtain⟨b,off,cs,h0,hb,hr,hrw⟩:=hc m (by omega)
     refine⟨dss ++ [cs],by simp [hd],fun k h h'=>?_⟩
     rw [List.getElem_append]
     split
     ·exact hh k h _
     ·have hkm:k=m:=by simp at h';omega
      subst hkm
      simp only [List.getElem_singleton]
      refine⟨hr,fun j c hj=>?_⟩
      cases h0
      rw [Addr.add_lit,<- Nat.add_assoc];exact hrw j c hj
   exact this _ (Nat.le_refl _)
  obtain⟨dss,hdl,hd⟩:=hex
  have hdlen:∀ cs ∈ dss,cs.length=C.n:=by
   intro cs hcs
   obtain⟨k,hk,rfl⟩:=List.getElem_of_mem hcs
   exact K.len (hd k (by omega) hk).1
  have hcell:∀ j u,dss.flatten[j]? = some u->w.cell? (ad.add j)=some u:=by
   intro j u hj
   have hp:=K.sl.pos
   have hdm:j / C.n * C.n+j % C.n=j:=by rw [Nat.mul_comm];exact Nat.div_add_mod j C.n
   have hml:=Nat.mod_lt j hp
   rw [<- hdm,zG3 hdlen _ _ hml] at hj
   rcases Nat.lt_or_ge (j / C.n) dss.length with hk | hk
   ·rw [List.getElem?_eq_getElem hk] at hj
    have:=(hd (j / C.n) (by omega) hk).2 (j % C.n) u hj
    rwa [hdm] at this
   ·rw [List.getElem?_eq_none hk] at hj;cases hj
  have hone:∀ u ∈ dss.flatten,u.oneCell'=true:=by
   intro u hu
   obtain⟨cs,hcs,hu⟩:=List.mem_flatten.1 hu
   obtain⟨k,hk,rfl⟩:=List.getElem_of_mem hcs
   exact K.one (hd k (by omega) hk).1 u hu
  have hby:(l1.length+l2.length) * C.bytes<=140737488355328:=by
   have:(l1.length+l2.length) * C.bytes<=1000000 * 1000:=Nat.mul_le_mul hl hsm
   omega
  obtain⟨v',w',hr,ho',hg,_,hlies⟩:=run_append_own_at (P:=P) (w:=w) B C.t ty C.e i _ C.n C.bytes K.sl.und hi hz h3 h4 K.sl.zs K.sl.pos v l1.length css.flatten ho ad l2.length cap dss.flatten (by rw [zB3 hdlen,hdl]) hcell hone (by unfold maxLen;omega) hby hB
  have hchg:Chg B C.e v.ownBlock w w':=⟨zC1 hg,hg.size,hrow⟩
  refine⟨v',w',hr,⟨css ++ dss,by simp [hcl,hdl],fun k hk hk'=>K.chg ?_ hchg K.self,?_⟩,hg,hlies,hchg⟩
  ·rw [List.getElem_append,List.getElem_append]
   by_cases hkl:k < l1.length
   ·rw [dif_pos hkl,dif_pos (by omega)];exact hR k hkl (by omega)
   ·rw [dif_neg hkl,dif_neg (by omega)]
    have:=(hd (k - l1.length) (by simp at hk;omega) (by simp at hk;omega)).1
    simp only [hcl];exact this
  ·rw [List.length_append,List.flatten_append];exact ho'
structure zH6 {α:Type} (C:Cd α) (B:Nat) (v v':Value) (l:List α) (W0 w w':World):Prop where
 own:zAg C B w' v' l
 below:Below B W0 w'
 chg:Chg B C.e v.ownBlock w w'
 lies:v'.ownBlock=v.ownBlock\/v'.ownBlock=some w.heap.size
variable {o:Oper} {a:Act} {Kx:Act->World->Prop} {Q:Exit->Act->World->Prop}
theorem zHV {W0:World} (hb:Below B W0 w) (hg:w.grownBy w' v.ownBlock) (ho:zAg C B w v l) (hB:B<=w.heap.size):Below B W0 w':=by
 obtain⟨css,_,_,ho⟩:=ho
 exact zDj hb ho (Nat.le_refl _) hB hg
theorem zCO (K:zEN P C) (s x:Operand) (ho:o.op= .call {callee:=.builtin .append,args:=#[s,x],argTypes:=#[C.t,C.t]})
  (v xv:Value) (l1 l2:List α) (W0 w:World) (hs:a.eval s=v) (hx:a.eval x=xv) (h1:zAg C B w v l1) (h2:zAj C B w xv l2) (hb:Below B W0 w) (hB:B<=w.heap.size) (hl:l1.length+l2.length<=1000000)
  (h:∀ v' w',zH6 C B v v' (l1 ++ l2) W0 w w'->Kx (a.put o.dst v') w'):o.wp P a w Kx Q:=by
 obtain⟨v',w',hr,h3,h4,h5,h6⟩:=zI3 K o.type v xv l1 l2 w h1 h2 hB hl
 unfold Oper.wp execOp
 simp only [ho,resolve,invoke,builtin,Sem.run_bind,Sem.run_pure,Result.andThen_ok,List.map_toArray,List.map_cons,List.map_nil,hs,hx,hr]
 exact h v' w' ⟨h3,zHV hb h4 h1 hB,h6,h5⟩
theorem zJU (K:zEN P C) {ops:Array Oper} {rest:List Oper} (hgd:o.guard=none) (s x:Operand) (ho:o.op= .call {callee:=.builtin .append,args:=#[s,x],argTypes:=#[C.t,C.t]})
  (v xv:Value) (l1 l2:List α) (W0 w:World) (hs:a.eval s=v) (hx:a.eval x=xv) (h1:zAg C B w v l1) (h2:zAj C B w xv l2) (hb:Below B W0 w) (hB:B<=w.heap.size) (hl:l1.length+l2.length<=1000000)
  (h:∀ v' w',zH6 C B v v' (l1 ++ l2) W0 w w'->wpList P ops Q rest (a.put o.dst v') w'):wpList P ops Q (o :: rest) a w:=
 wpList_plain hgd fun _ hK=>zCO K s x ho v xv l1 l2 W0 w hs hx h1 h2 hb hB hl fun v' w' h3=>hK _ _ (h v' w' h3)
theorem zVr (K:zEN P C) {ops:Array Oper} {E:Prop} (hgd:o.guard=none) (s x:Operand) (ho:o.op= .call {callee:=.builtin .append,args:=#[s,x],argTypes:=#[C.t,C.t]})
  (v xv:Value) (l1 l2:List α) (W0 w:World) (hs:a.eval s=v) (hx:a.eval x=xv) (h1:zAg C B w v l1) (h2:zAj C B w xv l2) (hb:Below B W0 w) (hB:B<=w.heap.size) (hl:l1.length+l2.length<=1000000)
  (h:∀ v' w',zH6 C B v v' (l1 ++ l2) W0 w w'->Kx (a.put o.dst v') w'):if Region.wanted o (yielded ops a.tmps)=true then Oper.wp P o a w Kx Q else E:=by
 have hw:Region.wanted o (yielded ops a.tmps)=true:=by simp [Region.wanted,hgd]
 rw [if_pos hw]
 exact zCO K s x ho v xv l1 l2 W0 w hs hx h1 h2 hb hB hl h
end
def cdA:Cd zAr:={t:=22,e:=57,n:=2,bytes:=32,z:=.agg #[.string ⟨#[]⟩,.string ⟨#[]⟩],inner:=[],R:=fun _ _ x cs=>cs=zOz x}
theorem okA:zEN Tryz.prog cdA where
 sl:=zFv
 len:=fun h=>by subst h;rfl
 one:=fun h u hu=>by subst h;simp [zOz] at hu;rcases hu with rfl | rfl <;> rfl
 chg:=fun h _ _=>h
 mono:=fun _ h=>h
 self:=by simp [cdA]
abbrev zAK (B:Nat) (w:World) (v:Value) (l:List zAr):Prop:=zAj cdA B w v l
theorem zAj.attrs {B:Nat} {w:World} {v:Value} {l:List zAr} (h:zAK B w v l):aA w v l:=by
 obtain⟨a,cap,rfl,hcap,_,hc⟩:=h
 refine⟨a,cap,rfl,hcap,fun k hk=>?_⟩
 obtain⟨b,off,cs,h1,h2,h3,h4⟩:=hc k hk
 have h3:cs=zOz (l[k]'hk):=h3
 subst h3
 exact⟨b,off,h1,h2,h4 0 _ rfl,h4 1 _ rfl⟩
theorem zJQ {B:Nat} {w:World} {v:Value} {l:List zAr} (h:aA w v l) (hn:Nb B w v 57):zAK B w v l:=by
 obtain⟨a,cap,rfl,hcap,hc⟩:=h
 refine⟨a,cap,rfl,hcap,hn,fun k hk=>?_⟩
 obtain⟨b,off,h1,h2,h3,h4⟩:=hc k hk
 refine⟨b,off,zOz (l[k]'hk),h1,h2,rfl,fun j c hj=>?_⟩
 match j,hj with
 | 0,hj=>cases hj;exact h3
 | 1,hj=>cases hj;exact h4
 | j+2,hj=>simp [zOz] at hj
theorem aA.block {w:World} {v:Value} {l:List zAr} (h:aA w v l) (hl:0 < l.length):∀ b,v.ownBlock=some b->b < w.heap.size:=by
 obtain⟨a,cap,rfl,hcap,hc⟩:=h
 obtain⟨b,off,rfl,h2,_⟩:=hc 0 hl
 intro b' hb';cases hb';exact h2
theorem zEp.toIn {B B':Nat} {w:World} {v:Value} {l:List zAr} (h:zEp B w v l):zAK B' w v l:=zJQ h.at (Nb.own h)
theorem zCM (B:Nat) (w:World) (c:Nat):zAK B w (.slice none 0 c) []:=zAj.nil _ _ _ _
def cdS:Cd ByteArray:={t:=23,e:=9,n:=1,bytes:=16,z:=.string ⟨#[]⟩,inner:=[],R:=fun _ _ x cs=>cs= [.string x]}
theorem okS:zEN Tryz.prog cdS where
 sl:={und:=Tryz.underlying23,info:=info_parts (by kernel_rfl),zs:=rfl,pos:=by decide,small:=by decide}
 len:=fun h=>by subst h;rfl
 one:=fun h u hu=>by subst h;simp at hu;subst hu;rfl
 chg:=fun h _ _=>h
 mono:=fun _ h=>h
 self:=by simp [cdS]
abbrev zCu (B:Nat) (w:World) (v:Value) (l:List ByteArray):Prop:=zAj cdS B w v l
theorem zAj.strs {B:Nat} {w:World} {v:Value} {l:List ByteArray} (h:zCu B w v l):zBY w v l:=by
 obtain⟨a,cap,rfl,hcap,_,hc⟩:=h
 refine⟨a,cap,rfl,hcap,fun k hk=>?_⟩
 obtain⟨b,off,cs,h1,h2,h3,h4⟩:=hc k hk
 have h3:cs= [.string (l[k]'hk)]:=h3
 subst h3
 have:=h4 0 _ rfl
 exact⟨b,off,h1,h2,by rw [Nat.add_zero,show off+k * cdS.n=off+k from by rw [show cdS.n=1 from rfl,Nat.mul_one]] at this;exact this⟩
theorem zCc (B:Nat) (w:World) (c:Nat):zCu B w (.slice none 0 c) []:=zAj.nil _ _ _ _
structure TrN where
 dep:Int
 nm:ByteArray
 kd:Int
 ats:List zAr
 dat:ByteArray
 ma:Int
 mi:Int
 cl:Int
def trC (x:TrN) (va:Value):List Value:=[.int .i64 x.dep,.string x.nm,.int .i64 x.kd,va,.string x.dat,.int .i64 x.ma,.int .i64 x.mi,.int .i64 x.cl]
def zVj:TrN:=⟨0,⟨#[]⟩,0,[],⟨#[]⟩,0,0,0⟩
def cdT:Cd TrN:={t:=33,e:=59,n:=8,bytes:=96,z:=.agg #[.int .i64 0,.string ⟨#[]⟩,.int .i64 0,.slice none 0 0,.string ⟨#[]⟩,.int .i64 0,.int .i64 0,.int .i64 0],inner:=[57],R:=fun B w x cs=>∃ va,zAK B w va x.ats/\cs=trC x va}
theorem zFt {α:Type} {C:Cd α} {B:Nat} {w:World} {v:Value} {l:List α} (h:zAj C B w v l):v.oneCell'=true:=by
 obtain⟨a,cap,rfl⟩:=h.form;rfl
theorem okT:zEN Tryz.prog cdT where
 sl:={und:=Tryz.underlying33,info:=info_parts (by kernel_rfl),zs:=rfl,pos:=by decide,small:=by decide}
 len:=fun h=>by obtain⟨va,_,rfl⟩:=h;rfl
 one:=fun h u hu=>by
  obtain⟨va,h1,rfl⟩:=h
  have:=zFt h1
  simp [trC] at hu
  rcases hu with rfl | rfl | rfl | rfl | rfl | rfl | rfl | rfl <;> first | rfl | exact this
 chg:=fun h c hE=>by
  obtain⟨va,h1,rfl⟩:=h
  exact⟨va,h1.chg okA c (fun e=>hE (by rw [e];simp [cdT,cdA])) (by simp [cdA]),rfl⟩
 mono:=fun hB h=>by obtain⟨va,h1,rfl⟩:=h;exact⟨va,h1.mono okA hB,rfl⟩
 self:=by decide
abbrev zCt (B:Nat) (w:World) (v:Value) (l:List TrN):Prop:=zAj cdT B w v l
structure BrN extends TrN where
 opq:Bool
 red:List ByteArray
def brC (x:BrN) (va vr:Value):List Value:=[.int .i64 x.dep,.string x.nm,.int .i64 x.kd,va,.string x.dat,.int .i64 x.ma,.int .i64 x.mi,.int .i64 x.cl,.bool x.opq,vr]
def cdB:Cd BrN:={t:=35,e:=46,n:=10,bytes:=128,z:=.agg #[.int .i64 0,.string ⟨#[]⟩,.int .i64 0,.slice none 0 0,.string ⟨#[]⟩,.int .i64 0,.int .i64 0,.int .i64 0,.bool false,.slice none 0 0],inner:=[57,9],R:=fun B w x cs=>∃ va vr,zAK B w va x.ats/\zCu B w vr x.red/\cs=brC x va vr}
theorem okB:zEN Tryz.prog cdB where
 sl:={und:=Tryz.underlying35,info:=info_parts (by kernel_rfl),zs:=rfl,pos:=by decide,small:=by decide}
 len:=fun h=>by obtain⟨va,vr,_,_,rfl⟩:=h;rfl
 one:=fun h u hu=>by
  obtain⟨va,vr,h1,h2,rfl⟩:=h
  have:=zFt h1;have:=zFt h2
  simp [brC] at hu
  rcases hu with rfl | rfl | rfl | rfl | rfl | rfl | rfl | rfl | rfl | rfl <;> first | rfl | assumption
 chg:=fun h c hE=>by
  obtain⟨va,vr,h1,h2,rfl⟩:=h
  exact⟨va,vr,h1.chg okA c (fun e=>hE (by rw [e];simp [cdB,cdA])) (by simp [cdA]),h2.chg okS c (fun e=>hE (by rw [e];simp [cdB,cdS])) (by simp [cdS]),rfl⟩
 mono:=fun hB h=>by obtain⟨va,vr,h1,h2,rfl⟩:=h;exact⟨va,vr,h1.mono okA hB,h2.mono okS hB,rfl⟩
 self:=by decide
abbrev zC4 (B:Nat) (w:World) (v:Value) (l:List BrN):Prop:=zAj cdB B w v l
theorem zAj.tr {B:Nat} {w:World} {a:Option Addr} {n cap:Nat} {l:List TrN} (h:zCt B w (.slice a n cap) l) (k:Nat) (hk:k < l.length):∃ b off va,a=some ⟨b,off,none⟩/\b < w.heap.size/\zAK B w va (l[k]'hk).ats /\
  w.cell? ⟨b,off+k * 8,none⟩=some (.int .i64 (l[k]'hk).dep)/\w.cell? ⟨b,off+k * 8+1,none⟩=some (.string (l[k]'hk).nm)/\w.cell? ⟨b,off+k * 8+2,none⟩=some (.int .i64 (l[k]'hk).kd)/\w.cell? ⟨b,off+k * 8+3,none⟩=some va /\
  w.cell? ⟨b,off+k * 8+4,none⟩=some (.string (l[k]'hk).dat)/\w.cell? ⟨b,off+k * 8+5,none⟩=some (.int .i64 (l[k]'hk).ma)/\w.cell? ⟨b,off+k * 8+6,none⟩=some (.int .i64 (l[k]'hk).mi)/\w.cell? ⟨b,off+k * 8+7,none⟩=some (.int .i64 (l[k]'hk).cl):=by
 obtain⟨a',cap',he,_,_,hc⟩:=h
 cases he
 obtain⟨b,off,cs,h1,h2,⟨va,h3,rfl⟩,h4⟩:=hc k hk
 exact⟨b,off,va,h1,h2,h3,h4 0 _ rfl,h4 1 _ rfl,h4 2 _ rfl,h4 3 _ rfl,h4 4 _ rfl,h4 5 _ rfl,h4 6 _ rfl,h4 7 _ rfl⟩
theorem zAj.br {B:Nat} {w:World} {a:Option Addr} {n cap:Nat} {l:List BrN} (h:zC4 B w (.slice a n cap) l) (k:Nat) (hk:k < l.length):∃ b off va vr,a=some ⟨b,off,none⟩/\b < w.heap.size/\zAK B w va (l[k]'hk).ats/\zCu B w vr (l[k]'hk).red /\
  w.cell? ⟨b,off+k * 10,none⟩=some (.int .i64 (l[k]'hk).dep)/\w.cell? ⟨b,off+k * 10+1,none⟩=some (.string (l[k]'hk).nm)/\w.cell? ⟨b,off+k * 10+2,none⟩=some (.int .i64 (l[k]'hk).kd)/\w.cell? ⟨b,off+k * 10+3,none⟩=some va /\
  w.cell? ⟨b,off+k * 10+4,none⟩=some (.string (l[k]'hk).dat)/\w.cell? ⟨b,off+k * 10+5,none⟩=some (.int .i64 (l[k]'hk).ma)/\w.cell? ⟨b,off+k * 10+6,none⟩=some (.int .i64 (l[k]'hk).mi)/\w.cell? ⟨b,off+k * 10+7,none⟩=some (.int .i64 (l[k]'hk).cl) /\
  w.cell? ⟨b,off+k * 10+8,none⟩=some (.bool (l[k]'hk).opq)/\w.cell? ⟨b,off+k * 10+9,none⟩=some vr:=by
 obtain⟨a',cap',he,_,_,hc⟩:=h
 cases he
 obtain⟨b,off,cs,h1,h2,⟨va,vr,h3,h5,rfl⟩,h4⟩:=hc k hk
 exact⟨b,off,va,vr,h1,h2,h3,h5,h4 0 _ rfl,h4 1 _ rfl,h4 2 _ rfl,h4 3 _ rfl,h4 4 _ rfl,h4 5 _ rfl,h4 6 _ rfl,h4 7 _ rfl,h4 8 _ rfl,h4 9 _ rfl⟩
def zBT:List ByteArray->Int
 | []=>0
 | a :: r=>if zAq (L a) ≠ 0 then zAq (L a) else zBT r
theorem zFM (l m:List ByteArray) (h:zBT l=0):zBT (l ++ m)=zBT m:=by
 induction l with
 | nil=>rfl
 | cons a r ih=>
  unfold zBT at h
  by_cases ha:zAq (L a) ≠ 0
  ·rw [if_pos ha] at h;exact absurd h ha
  ·rw [if_neg ha] at h;show (if zAq (L a) ≠ 0 then zAq (L a) else zBT (r ++ m))=zBT m;rw [if_neg ha];exact ih h
theorem zHF (l:List ByteArray) (k:Nat) (h:k < l.length) (h0:zBT (l.take k)=0) (ha:zAq (L (l[k]'h))=0):zBT (l.take (k+1))=0:=by
 rw [List.take_succ_eq_append_getElem h,zFM _ _ h0];unfold zBT;rw [if_neg (by simpa using ha)];rfl
theorem zIE (l:List ByteArray) (k:Nat) (h:k < l.length) (h0:zBT (l.take k)=0) (ha:zAq (L (l[k]'h)) ≠ 0):zBT l=zAq (L (l[k]'h)):=by
 have e:l=l.take k ++ l[k]'h :: l.drop (k+1):=by simp
 have:zBT (l.take k ++ l[k]'h :: l.drop (k+1))=zAq (L (l[k]'h)):=by
  rw [zFM _ _ h0];show (if zAq (L (l[k]'h)) ≠ 0 then zAq (L (l[k]'h)) else zBT (l.drop (k+1)))=_;rw [if_pos ha]
 rw [<- e] at this;exact this
def zAY (l:List ByteArray):Int:=if 8 < l.length then 3 else zBT l
theorem zIp {l:List ByteArray} (h:8 < l.length):zAY l=3:=if_pos h
theorem zMz {l:List ByteArray} (h:¬ 8 < l.length):zAY l=zBT l:=if_neg h
def zGA {α:Type} (a b:List α) (k:Nat):Prop:=∀ j,j < k->a[j]? = b[j]?
theorem zDG {α:Type} {a b:List α} (hl:a.length=b.length) (h:zGA a b a.length):a=b:=by
 apply List.ext_getElem?
 intro i
 rcases Nat.lt_or_ge i a.length with hi | hi
 ·exact h i hi
 ·rw [List.getElem?_eq_none hi,List.getElem?_eq_none (by omega)]
abbrev trV (x:TrN) (va:Value):Value:=.agg #[.int .i64 x.dep,.string x.nm,.int .i64 x.kd,va,.string x.dat,.int .i64 x.ma,.int .i64 x.mi,.int .i64 x.cl]
def zA5 (x y:TrN):Bool:=(x.kd == y.kd) && decide (x.ats=y.ats) && (x.dat.toList == y.dat.toList) && (x.ma == y.ma) && (x.mi == y.mi)
def zAc (x:TrN):Int:=
 if x.kd < 1\/5 < x.kd then 14
 else if x.kd=1 then (if x.dat.toList= []/\x.ma=0/\x.mi=0/\x.cl=0 then 0 else 6)
 else if x.kd=2 then (if x.ma=0/\x.mi=0 then (if 384 < x.dat.size then 3 else 0) else 6)
 else if x.kd=3 then (if ¬ x.dat.toList= []/\x.ma=0/\x.mi=0 then (if 200 < x.dat.size then 3 else 0) else 6)
 else if x.kd=4 then (if x.dat.toList= [] then (if x.ma < 0\/255 < x.ma\/x.mi < 0\/255 < x.mi then 7 else 0) else 6)
 else (if x.dat.toList= []/\x.ma=0/\x.mi=0/\x.cl=0/\x.ats.length=0 then 0 else 6)
theorem zA7 {s:ByteArray} (h:s.toList= []):s.size=0:=by rw [tL] at h;rw [zAN,h];rfl
open Go.RowKit Go.MapKept
structure zRo (P:Program) (k:TypeId) {K:Type} (κ:K->Value):Prop where
 ex:∃ d,P.underlying k=some d/\∀ x,IsKey d (κ x)
 inj:∀ x y,κ x=κ y->x=y
def kI (i:Int):Value:=.int .i64 i
def kS (s:ByteArray):Value:=.string s
theorem zSl {P:Program} {k:TypeId} (h:P.underlying k=some (.int .i64)):zRo P k kI:=⟨⟨_,h,fun _=>rfl⟩,fun _ _ h=>by injection h⟩
theorem zSk {P:Program} {k:TypeId} (h:P.underlying k=some .string):zRo P k kS:=⟨⟨_,h,fun _=>trivial⟩,fun _ _ h=>by injection h⟩
def zAD {K:Type} (κ:K->Value) (w:World) (b n:Nat) (f:K->Option Value):Prop:=
 ∃ es clock,w.heap[b]? = some (.map es clock)/\Stamped es clock/\es.size=n/\(∀ e ∈ es.toList,∃ x,e.key=κ x)/\∀ x v,f x=some v ↔ ∃ e ∈ es.toList,e.key=κ x/\e.val=v
def upd {K:Type} [DecidableEq K] (f:K->Option Value) (x:K) (v:Value):K->Option Value:=fun y=>if y=x then some v else f y
section
variable {P:Program} {K:Type} {κ:K->Value} {w w':World} {b n:Nat} {f:K->Option Value}
theorem zBI (w:World) (κ:K->Value):zAD κ (w.alloc (.map #[] 0)) w.heap.size 0 (fun _=>none):=
 ⟨#[],0,bN w _,stamped_empty 0,rfl,fun e he=>by simp at he,fun x v=>by simp⟩
theorem zAD.lt (h:zAD κ w b n f):b < w.heap.size:=by obtain⟨es,c,hb,_⟩:=h;exact bL hb
theorem zAD.keep {row:Option Nat} (h:zAD κ w b n f) (hk:zAA row w w') (hne:row ≠ some b):zAD κ w' b n f:=by
 obtain⟨es,c,hb,r⟩:=h;exact⟨es,c,hk _ _ hb hne,r⟩
theorem zAD.grown {row:Option Nat} (h:zAD κ w b n f) (hg:w.grownBy w' row) (hne:row ≠ some b):zAD κ w' b n f:=by
 obtain⟨es,c,hb,r⟩:=h;exact⟨es,c,zAU hg hb hne,r⟩
theorem zAD.ext (h:zAD κ w b n f) (he:Ext w w'):zAD κ w' b n f:=by
 obtain⟨es,c,hb,r⟩:=h;exact⟨es,c,bX he hb,r⟩
theorem zAD.same {g:K->Option Value} (h:zAD κ w b n f) (e:∀ x,f x=g x):zAD κ w b n g:=by
 rw [show g=f from funext fun x=>(e x).symm];exact h
theorem zAD.setCell (h:zAD κ w b n f) (p:Addr) (v:Value):zAD κ (w.setCell p v) b n f:=by
 obtain⟨es,c,hb,r⟩:=h
 refine⟨es,c,?_,r⟩
 unfold World.setCell
 by_cases e:p.block=b
 ·subst e;simp [Array.getElem?_modify,hb]
 ·simp [Array.getElem?_modify,e,hb]
theorem zIy {k:TypeId} (T:zRo P k κ) {es:Array MapEntry} {c:Nat} (hk:∀ e ∈ es.toList,∃ x,e.key=κ x) (_hs:Stamped es c) (hf:∀ x v,f x=some v ↔ ∃ e ∈ es.toList,e.key=κ x/\e.val=v) (x:K) :
  ((Instr.findKey k (κ x) es.toList).run P w= .ok none w/\f x=none/\∀ e ∈ es.toList,e.key ≠ κ x) \/
  ∃ j e,(Instr.findKey k (κ x) es.toList).run P w= .ok (some (j,e.val)) w/\f x=some e.val/\es.toList[j]? = some e/\e.key=κ x:=by
 obtain⟨d,hd,his⟩:=T.ex
 have hks:∀ e ∈ es.toList,IsKey d e.key:=fun e he=>by obtain⟨y,hy⟩:=hk e he;rw [hy];exact his y
 rcases findNow_spec (his x) es.toList 0 hks with ⟨h1,h2⟩ | ⟨j,e0,h1,h2,h3⟩
 ·refine .inl ⟨run_findKey hd h1,?_,h2⟩
  cases hx:f x with
  | none=>rfl
  | some v=>obtain⟨e,he,h4,_⟩:=(hf x v).1 hx;exact absurd h4 (h2 e he)
 ·exact .inr ⟨j,e0,by simpa using run_findKey hd h1,(hf x _).2 ⟨e0,List.mem_of_getElem? h2,h3,rfl⟩,h2,h3⟩
theorem zAD.look {t k e:TypeId} (h:zAD κ w b n f) (T:zRo P k κ) (ht:P.underlying t=some (.map k e)) {z:Value} (hz:(zeroValue e).run P w= .ok z w) (x:K) (ok:Bool) :
  (Instr.lookup t (.map (some b)) (κ x) ok).run P w= .ok (if ok then .tuple #[(f x).getD z,.bool (f x).isSome] else (f x).getD z) w:=by
 obtain⟨es,c,hb,hs,hn,hk,hf⟩:=h
 obtain⟨d,hd,his⟩:=T.ex
 have hc:=run_checkKey (P:=P) (w:=w) hd (his x) es.isEmpty 9999
 rcases zIy (P:=P) (w:=w) T hk hs hf x with ⟨h1,h2,_⟩ | ⟨j,e0,h1,h2,_⟩
 ·simp [Instr.lookup,run_underlying ht,MapKept.run_getObj_map hb,hc,h1,h2,hz]
 ·simp [Instr.lookup,run_underlying ht,MapKept.run_getObj_map hb,hc,h1,h2]
theorem zAD.update [DecidableEq K] {t k e:TypeId} (h:zAD κ w b n f) (T:zRo P k κ) (ht:P.underlying t=some (.map k e)) (x:K) (v:Value) :
  ∃ w',(Instr.mapUpdate t (.map (some b)) (κ x) v).run P w= .ok () w'/\zAD κ w' b (if (f x).isSome then n else n+1) (upd f x v)/\w.grownBy w' (some b):=by
 obtain⟨es,c,hb,hs,hn,hk,hf⟩:=h
 obtain⟨d,hd,his⟩:=T.ex
 have hc:=run_checkKey (P:=P) (w:=w) hd (his x) false 9999
 have hset:∀ o:Obj,w.grownBy {w with heap:=w.heap.setIfInBounds b o} (some b):=fun o=>
  ⟨rfl,rfl,rfl,by simp,fun i _ hi=>by simp [show b ≠ i from fun e=>hi (by rw [e])]⟩
 have hnew:∀ o:Obj,({w with heap:=w.heap.setIfInBounds b o}:World).heap[b]? = some o:=fun o=>by
  simp [bL hb]
 rcases zIy (P:=P) (w:=w) T hk hs hf x with ⟨h1,h2,h3⟩ | ⟨j,e0,h1,h2,h3,h4⟩
 ·refine⟨_,by simp [Instr.mapUpdate,run_underlying ht,MapKept.run_getObj_map hb,hc,h1,MapKept.run_setObj_map _ hb];rfl,⟨_,_,hnew _,stamped_push hs (fun e he=>h3 e he),?_,?_,?_⟩,hset _⟩
  ·simp [hn,h2]
  ·intro e he
   simp only [Array.toList_push,List.mem_append,List.mem_singleton] at he
   rcases he with he | rfl
   ·exact hk e he
   ·exact⟨x,rfl⟩
  ·intro y u
   unfold upd
   simp only [Array.toList_push,List.mem_append,List.mem_singleton]
   by_cases e:y=x
   ·subst e
    rw [if_pos rfl]
    constructor
    ·intro hv;cases hv;exact⟨_,.inr rfl,rfl,rfl⟩
    ·rintro⟨e,he | rfl,h5,h6⟩
     ·exact absurd h5 (h3 e he)
     ·rw [<- h6]
   ·rw [if_neg e,hf]
    constructor
    ·rintro⟨e',he,h5⟩;exact⟨e',.inl he,h5⟩
    ·rintro⟨e',he | rfl,h5,h6⟩
     ·exact⟨e',he,h5,h6⟩
     ·exact absurd (T.inj _ _ h5) (fun q=>e q.symm)
 ·have hkey:((es[j]?).map (·.key)).getD (κ x)=κ x:=by rw [<- Array.getElem?_toList,h3];exact h4
  have hst:=run_keyThatStays (P:=P) (w:=w) (his x)
  have hj:j < es.size:=by
   have:=(List.getElem?_eq_some_iff.1 h3).1;simpa using this
  have hl:∀ g:MapEntry->MapEntry,(es.modify j g).toList=es.toList.set j (g e0):=by
   intro g
   apply List.ext_getElem?
   intro i
   rw [Array.getElem?_toList,Array.getElem?_modify,List.getElem?_set]
   by_cases e:j=i
   ·subst e
    rw [if_pos rfl,if_pos rfl,if_pos (by simpa using hj),<- Array.getElem?_toList,h3];rfl
   ·rw [if_neg e,if_neg e,Array.getElem?_toList]
  refine⟨{w with heap:=w.heap.setIfInBounds b (.map (es.modify j fun e=>{e with key:=κ x,val:=v}) c)},by simp [Instr.mapUpdate,run_underlying ht,MapKept.run_getObj_map hb,hc,h1,hkey,hst,MapKept.run_setObj_map _ hb],⟨_,_,hnew _,stamped_modify hs j _ (fun e _=>rfl) (fun e he hj'=>?_),?_,?_,?_⟩,hset _⟩
  ·rw [<- Array.getElem?_toList,h3] at hj';cases hj';exact h4.symm
  ·simp [hn,h2]
  ·intro e he
   rw [hl] at he
   rcases List.mem_or_eq_of_mem_set he with he | rfl
   ·exact hk e he
   ·exact⟨x,rfl⟩
  ·intro y u
   rw [hl]
   have hnd:=((stamped_iff es c).1 hs).2.2
   unfold upd
   by_cases e:y=x
   ·subst e
    rw [if_pos rfl]
    constructor
    ·intro hv;cases hv
     exact⟨_,List.mem_set (by simpa using hj) _,rfl,rfl⟩
    ·rintro⟨e',he,h5,h6⟩
     obtain⟨i,hi,rfl⟩:=List.getElem_of_mem he
     rw [List.getElem_set] at h5 h6
     by_cases ei:j=i
     ·rw [if_pos ei] at h6;rw [<- h6]
     ·rw [if_neg ei] at h5
      have hi':i < es.toList.length:=by simpa using hi
      have h0:es.toList[j]'(by simpa using hj)=e0:=(List.getElem?_eq_some_iff.1 h3).2
      rcases Nat.lt_or_ge j i with hlt | hge
      ·exact absurd (by rw [h0,h4,h5]) (List.pairwise_iff_getElem.1 hnd j i (by simpa using hj) hi' hlt)
      ·exact absurd (by rw [h0,h4,h5]) (List.pairwise_iff_getElem.1 hnd i j hi' (by simpa using hj) (by omega))
   ·rw [if_neg e,hf]
    constructor
    ·rintro⟨e',he,h5,h6⟩
     obtain⟨i,hi,rfl⟩:=List.getElem_of_mem he
     have h0:es.toList[j]'(by simpa using hj)=e0:=(List.getElem?_eq_some_iff.1 h3).2
     have ei:j ≠ i:=by
      rintro rfl;rw [h0,h4] at h5;exact e (T.inj _ _ h5).symm
     refine⟨es.toList[i],List.mem_iff_getElem.2 ⟨i,by simpa using hi,?_⟩,h5,h6⟩
     rw [List.getElem_set,if_neg ei]
    ·rintro⟨e',he,h5,h6⟩
     obtain⟨i,hi,rfl⟩:=List.getElem_of_mem he
     rw [List.getElem_set] at h5 h6
     by_cases ei:j=i
     ·rw [if_pos ei] at h5;exact absurd (T.inj _ _ h5) (fun q=>e q.symm)
     ·rw [if_neg ei] at h5 h6
      exact⟨_,List.getElem_mem _,h5,h6⟩
variable {ops:Array Oper} {rest:List Oper} {o:Oper} {a:Act} {Q:Exit->Act->World->Prop}
theorem zCa (hg:o.guard=none) (m x:Operand) (t:TypeId) (ok:Bool) (hop:o.op=Op.lookup t m x ok) (k e:TypeId) (T:zRo P k κ) (ht:P.underlying t=some (.map k e)) (z:Value) (hz:∀ w,(zeroValue e).run P w= .ok z w)
  (hm:a.eval m= .map (some b)) (h:zAD κ w b n f) (y:K) (hx:a.eval x=κ y)
  (hK:wpList P ops Q rest (a.put o.dst (if ok then .tuple #[(f y).getD z,.bool (f y).isSome] else (f y).getD z)) w):wpList P ops Q (o :: rest) a w:=by
 refine wpList_plain hg fun K' hK'=>?_
 unfold Oper.wp
 simp only [execOp,hop,hm,hx]
 have:=h.look T ht (hz w) y ok
 simp [this,Result.andThen]
 exact hK' _ _ hK
theorem zDX [DecidableEq K] (hg:o.guard=none) (m x y:Operand) (t:TypeId) (hop:o.op=Op.mapUpdate t m x y) (k e:TypeId) (T:zRo P k κ) (ht:P.underlying t=some (.map k e))
  (hm:a.eval m= .map (some b)) (h:zAD κ w b n f) (q:K) (v:Value) (hx:a.eval x=κ q) (hy:a.eval y=v)
  (hK:∀ w',zAD κ w' b (if (f q).isSome then n else n+1) (upd f q v)->w.grownBy w' (some b)->wpList P ops Q rest (a.put o.dst undef) w'):wpList P ops Q (o :: rest) a w:=by
 obtain⟨w',hr,h1,h2⟩:=h.update T ht q v
 refine wpList_plain hg fun K' hK'=>?_
 unfold Oper.wp
 simp [execOp,hop,hm,hx,hy,hr,Result.andThen]
 exact hK' _ _ (hK w' h1 h2)
end
end Go.Proofs.YtbeeoomadnmogaaGreat
