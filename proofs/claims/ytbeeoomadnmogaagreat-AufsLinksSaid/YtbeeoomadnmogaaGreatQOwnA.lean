/- zEg Cod MapW -/
import Derived.Test.YtbeeoomadnmogaaGreatQI2
import Derived.Test.YtbeeoomadnmogaaGreatQBase
namespace Go.Proofs.YtbeeoomadnmogaaGreat
open Go.RowKit
theorem zFJ:SlT Tryz.prog 22 57 2 32 (.agg #[.string ⟨#[]⟩,.string ⟨#[]⟩]) where
 und:=Tryz.underlying22;info:=info_parts (by kernel_rfl);zs:=rfl;pos:=by decide
 small:=by decide
theorem zD3 {w w':World}{row:Option Nat}(h:w.grownBy w' row):zAy row w w':=fun _ _ hb hne=>zAV h hb hne
theorem zAy.trans {row:Option Nat}{w w' w'':World}(h:zAy row w w')(k:zAy row w' w''):zAy row w w'':=fun b o hb hne=>k b o (h b o hb hne) hne
theorem zQi {w:World}{b:Nat}(h:b<w.heap.size):∃o,w.heap[b]? = some o:=⟨_,Array.getElem?_eq_getElem h⟩
def TyA (w:World)(v:Value):Prop:=∀b,v.ownBlock=some b->∃cs f,w.heap[b]? = some (.cells cs 57 f)
theorem TyA.ext {w w':World}{v:Value}(h:TyA w v)(he:Ext w w'):TyA w' v:=fun b hb=>by obtain⟨cs,f,h1⟩:=h b hb;exact⟨cs,f,bX he h1⟩
def zRE (w:World)(v:Value)(l:List zAq):Prop:=aA w v l/\TyA w v
theorem zRE.nil (w:World) (n c:Nat) (h:aA w (.slice none n c) []):zRE w (.slice none n c) []:=⟨h,fun b hb=>by cases hb⟩
theorem zRE.ext {w w':World}{v:Value}{l:List zAq}(h:zRE w v l)(he:Ext w w'):zRE w' v l:=⟨h.1.ext he,h.2.ext he⟩
theorem zF8 {row:Option Nat}{w w':World}(h:zAy row w w'){b o:Nat}(hb:b<w.heap.size)(hne:row≠some b):w'.cell? ⟨b,o,none⟩=w.cell? ⟨b,o,none⟩:=by
 obtain⟨x,hx⟩:=zQi hb;have:=h b x hx hne;simp only[World.cell?,hx,this]
theorem aA.keep {row:Option Nat}{w w':World}{v:Value}{l:List zAq}(h:aA w v l)(hk:zAy row w w')(hs:w.heap.size<=w'.heap.size)(hne:row=none\/v.ownBlock≠row):aA w' v l:=by
 obtain⟨a,cap,rfl,hcap,hc⟩:=h;refine⟨a,cap,rfl,hcap,fun k hk'=>?_⟩;obtain⟨b,off,rfl,hb,h1,h2⟩:=hc k hk';have hne':row≠some b:=by
  rcases hne with rfl|hne
  ·grind
  ·exact fun x=>hne (by rw[x];rfl)
 grind[zF8]
theorem zRE.keep {row:Option Nat}{w w':World}{v:Value}{l:List zAq}(h:zRE w v l)(hk:zAy row w w')(hs:w.heap.size<=w'.heap.size)(hne:row=none\/v.ownBlock≠row):zRE w' v l:=by
 refine⟨h.1.keep hk hs hne,fun b hb=>?_⟩;obtain⟨cs,f,h1⟩:=h.2 b hb;refine⟨cs,f,hk _ _ h1 ?_⟩;grind
theorem zEg.keep {B:Nat}{row:Option Nat}{w w':World}{v:Value}{l:List zAq}(h:zEg B w v l)(hk:zAy row w w')(hne:row=none\/v.ownBlock≠row):zEg B w' v l:=by
 refine⟨h.1,?_⟩;rcases h.2 with ⟨h1,h2⟩|⟨g,cap,cur,rfl,hb,hg,h3⟩
 ·grind
 ·refine .inr ⟨g,cap,cur,rfl,hb,hk _ _ hg ?_,h3⟩;rcases hne with rfl|hne
  ·grind
  ·exact fun x=>hne (by rw[x];rfl)
theorem zEg.ext {B:Nat}{w w':World}{v:Value}{l:List zAq}(h:zEg B w v l)(he:Ext w w'):zEg B w' v l:=h.keep (row:=none) (fun _ _ hb _=>bX he hb) (.inl rfl)
theorem zEg.form {B:Nat}{w:World}{v:Value}{l:List zAq}(h:zEg B w v l):∃a cap,v= .slice a l.length cap:=by
 rcases h.2 with ⟨rfl,h0⟩|⟨g,cap,cur,rfl,_⟩
 ·rw[h0];exact⟨_,_,rfl⟩
 ·exact⟨_,_,rfl⟩
theorem zEg.addr {B n cap:Nat}{w:World}{a:Option Addr}{l:List zAq}(h:zEg B w (.slice a n cap) l)(hl:0<l.length):∃g,a=some ⟨g,0,none⟩/\B<=g/\g<w.heap.size/\n=l.length:=by
 rcases h.2 with ⟨h1,h0⟩|⟨g,cap',cur,h1,hb,hg,_⟩
 ·omega
 grind
theorem zEg.frozen {B n cap g:Nat}{w:World}{l:List zAq}(h:zEg B w (.slice (some ⟨g,0,none⟩) n cap) l)(j:Nat):w.frozen? ⟨g,j,none⟩=false:=by
 obtain⟨a,c,he⟩:=h.form;injection he with _ e2 _;subst e2;exact World.ownsRow.frozenAt h j
theorem zTj (l:List zAq)(k:Nat)(hk:k<l.length)(s:ByteArray):(zLa l).set (k*2) (.string s)=zLa (l.set k (s,(l[k]'hk).2)):=by
 induction l generalizing k with
 | nil=>simp at hk
 | cons a r ih=>
  cases k with
  | zero=>rfl
  | succ k=>
   grind[zH8]
theorem zEg.store {B n cap g:Nat}{w:World}{l:List zAq}(h:zEg B w (.slice (some ⟨g,0,none⟩) n cap) l)(k:Nat)(hk:k<l.length)(s:ByteArray):
  zEg B (w.setCell ⟨g,k*2,none⟩ (.string s)) (.slice (some ⟨g,0,none⟩) n cap) (l.set k (s,(l[k]'hk).2))/\w.grownBy (w.setCell ⟨g,k*2,none⟩ (.string s)) (some g):=by
 obtain⟨_,h1,_,_,rfl⟩:=h.addr (by omega);have hh:w.ownsRow B 57 2 (.slice (some ⟨g,0,none⟩) l.length cap) l.length (zLa l):=h;have h2:=hh.stored (k*2) (.string s);refine⟨?_,h2.2⟩;unfold zEg;rw[<- zTj l k hk s,List.length_set];exact h2.1
theorem zEg.nil (B:Nat)(w:World):zEg B w (.slice none 0 0) []:=World.ownsRow_nil _ _ _ _
theorem zEg.le {B B':Nat}{w:World}{v:Value}{l:List zAq}(h:zEg B w v l)(hb:B'<=B):zEg B' w v l:=⟨h.1,h.2.imp_right fun ⟨g,cap,cur,h1,h2,h3⟩=>⟨g,cap,cur,h1,Nat.le_trans hb h2,h3⟩⟩
theorem aA.take {w:World}{a:Option Addr}{n cap:Nat}{l:List zAq}(h:aA w (.slice a n cap) l)(i:Nat)(hi:i<=l.length):aA w (.slice a i cap) (l.take i):=by
 obtain⟨a',cap',he,hcap,hc⟩:=h;cases he;refine⟨a,cap,by rw[List.length_take,Nat.min_eq_left hi],by rw[List.length_take];omega,fun k hk=>?_⟩;simp_all
theorem zR0 (ty:TypeId)(B:Nat)(v x:Value)(l1 l2:List zAq)(w:World)(h1:zEg B w v l1)(h2:aA w x l2)(hB:B<=w.heap.size)(hl:l1.length+l2.length<=1000):
  ∃v' w',(Builtin.append_ #[22,22] ty #[v,x]).run Tryz.prog w= .ok v' w'/\zEg B w' v' (l1++l2)/\w.grownBy w' v.ownBlock/\(v'.ownBlock=v.ownBlock\/v'.ownBlock=some w.heap.size):=by
 obtain⟨i,hi,hz,h3,h4⟩:=zFJ.info;obtain⟨a,cap,rfl,hcap,hc⟩:=h2
 cases a with
 | none=>
  obtain rfl:l2= []:=by
   cases l2 with
   | nil=>rfl
   | cons y r=>obtain⟨b,off,h0,_⟩:=hc 0 (by simp);cases h0
  refine⟨v,w,?_,by rw[List.append_nil];exact h1,⟨rfl,rfl,rfl,Nat.le_refl _,fun _ _ _=>rfl⟩,.inl rfl⟩;rcases h1.2 with ⟨rfl,h0⟩|⟨g,cap',cur,rfl,_,_,hnc,_⟩
  ·simp[Builtin.append_,run_underlying zFJ.und,sizeOf,typeInfo,hi,Builtin.lenOf,Builtin.firstCells]
  ·simp[Builtin.append_,run_underlying zFJ.und,sizeOf,typeInfo,hi,Builtin.lenOf,Builtin.firstCells,hnc,storeCells]
 | some ad=>
  have hcell:∀j u,(zLa l2)[j]? = some u->w.cell? (ad.add j)=some u:=by
   intro j u hj;rw[zJU]at hj;rcases Nat.lt_or_ge (j / 2) l2.length with hk|hk
   ·rw[List.getElem?_eq_getElem hk]at hj;obtain⟨b,off,h0,hb,c1,c2⟩:=hc (j / 2) hk;cases h0;have hm:j % 2=0\/j % 2=1:=by omega
    rcases hm with hm|hm
    ·rw[hm]at hj;have:u= .string l2[j / 2].1:=by simpa [zQy] using hj.symm
     rw[this,<- c1];show w.cell? (Addr.add _ _)=_;rw[Addr.add_lit,show off+j=off+j / 2*2 by omega]
    ·rw[hm]at hj;have:u= .string l2[j / 2].2:=by simpa [zQy] using hj.symm
     rw[this,<- c2];rw[Addr.add_lit,show off+j=off+j / 2*2+1 by omega]
   ·rw[List.getElem?_eq_none hk]at hj;cases hj
  have hone:∀u∈zLa l2,u.oneCell'=true:=by
   intro u hu;obtain⟨y,_,hy⟩:=List.mem_flatMap.1 hu;simp[zQy]at hy;rcases hy with rfl|rfl<;>rfl
  obtain⟨v',w',hr,ho,hg,_,hlies⟩:=run_append_own_at (P:=Tryz.prog) (w:=w) B 22 ty 57 i _ 2 32 zFJ.und hi hz h3 h4 zFJ.zs zFJ.pos v l1.length (zLa l1) h1 ad l2.length cap (zLa l2) (zL8 l2) hcell hone (by unfold maxLen;omega) (by omega) hB;refine⟨v',w',hr,?_,hg,hlies⟩;unfold zEg;rw[List.length_append,zL9];exact ho
structure zYy (B:Nat) (v v':Value) (l:List zAq) (W0 w w':World):Prop where
 own:zEg B w' v' l
 below:Below B W0 w'
 keep:zAy v.ownBlock w w'
 lies:v'.ownBlock=v.ownBlock\/v'.ownBlock=some w.heap.size
 size:w.heap.size<=w'.heap.size
section
variable {o:Oper} {a:Act} {K:Act->World->Prop} {Q:Exit->Act->World->Prop}
theorem zUr (s x:Operand)(ho:o.op= .call {callee:=.builtin .append,args:=#[s,x],argTypes:=#[22,22]})
  (B:Nat) (v xv:Value) (l1 l2:List zAq) (W0 w:World) (hs:a.eval s=v) (hx:a.eval x=xv) (h1:zEg B w v l1) (h2:aA w xv l2) (hb:Below B W0 w) (hB:B<=w.heap.size) (hl:l1.length+l2.length<=1000)
  (h:∀v' w',zYy B v v' (l1++l2) W0 w w'->K (a.put o.dst v') w'):o.wp Tryz.prog a w K Q:=by
 obtain⟨v',w',hr,h3,h4,h5⟩:=zR0 o.type B v xv l1 l2 w h1 h2 hB hl;unfold Oper.wp execOp;simp only[ho,resolve,invoke,builtin,Sem.run_bind,Sem.run_pure,Result.andThen_ok,List.map_toArray,List.map_cons,List.map_nil,hs,hx,hr];exact h v' w' ⟨h3,zDi hb h1 (Nat.le_refl _) hB h4,zD3 h4,h5,h4.size⟩
theorem zYK {ops:Array Oper}{rest:List Oper}(hgd:o.guard=none)(s x:Operand)(ho:o.op= .call {callee:=.builtin .append,args:=#[s,x],argTypes:=#[22,22]})
  (B:Nat) (v xv:Value) (l1 l2:List zAq) (W0 w:World) (hs:a.eval s=v) (hx:a.eval x=xv) (h1:zEg B w v l1) (h2:aA w xv l2) (hb:Below B W0 w) (hB:B<=w.heap.size) (hl:l1.length+l2.length<=1000)
  (h:∀v' w',zYy B v v' (l1++l2) W0 w w'->wpList Tryz.prog ops Q rest (a.put o.dst v') w'):wpList Tryz.prog ops Q (o :: rest) a w:=
 wpList_plain hgd fun _ hK=>zUr s x ho B v xv l1 l2 W0 w hs hx h1 h2 hb hB hl fun v' w' h3=>hK _ _ (h v' w' h3)
end
theorem zEg.fresh (w:World)(_c:Nat):zEg w.heap.size (w.alloc (.cells #[] 57)) (.slice (some ⟨w.heap.size,0,none⟩) 0 0) []:=
 World.ownsRow_lit w #[] 0 (Nat.le_refl _) (Nat.zero_le _) rfl
def zX9 (w:World)(b off:Nat)(cs:List Value):Prop:=∀j c,cs[j]? = some c->w.cell? ⟨b,off+j,none⟩=some c
def zXQ:Value->Nat
 | .slice _ n _=>n
 | _=>0
def Nb (B:Nat)(w:World)(v:Value)(e:TypeId):Prop:=0<zXQ v->∀b,v.ownBlock=some b->b<B\/∃cs f,w.heap[b]? = some (.cells cs e f)
structure Chg (B:Nat) (E:TypeId) (row:Option Nat) (w w':World):Prop where
 keep:zAy row w w'
 size:w.heap.size<=w'.heap.size
 isrow:∀g,row=some g->B<=g/\∃c f,w.heap[g]? = some (.cells c E f)
theorem Chg.of_ext {w w':World}(h:Ext w w')(B:Nat)(E:TypeId):Chg B E none w w':=⟨fun _ _ hb _=>bX h hb,h.size,fun g hg=>by cases hg⟩
theorem Nb.chg {B:Nat}{w w':World}{v:Value}{e E:TypeId}{row:Option Nat}(h:Nb B w v e)(c:Chg B E row w w')(hE:E≠e):Nb B w' v e:=by
 intro h0 b hb;rcases h h0 b hb with h1|⟨cs,f,h1⟩
 ·omega
 ·refine .inr ⟨cs,f,c.keep _ _ h1 ?_⟩;rintro rfl;obtain⟨_,c',f',h2⟩:=c.isrow b rfl;grind
theorem Nb.ext {B:Nat}{w w':World}{v:Value}{e:TypeId}(h:Nb B w v e)(he:Ext w w'):Nb B w' v e:=h.chg (Chg.of_ext he B (e+1)) (Nat.succ_ne_self e)
theorem Nb.ne {B:Nat}{w w':World}{v:Value}{e E:TypeId}{row:Option Nat}(h:Nb B w v e)(h0:0<zXQ v)(c:Chg B E row w w')(hE:E≠e):row=none\/v.ownBlock≠row:=by
 cases row with
 | none=>exact .inl rfl
 | some g=>
  refine .inr fun hv=>?_;obtain⟨h1,c',f',h2⟩:=c.isrow g rfl;rcases h h0 g hv with h3|⟨cs,f,h3⟩
  ·omega
  ·rw[h2]at h3;cases h3;exact hE rfl
theorem Nb.mono {B B':Nat}{w:World}{v:Value}{e:TypeId}(h:Nb B w v e)(hB:B<=B'):Nb B' w v e:=fun h0 b hb=>(h h0 b hb).imp_left (fun x=>Nat.lt_of_lt_of_le x hB)
theorem Nb.nil (B:Nat)(w:World)(n c:Nat)(e:TypeId):Nb B w (.slice none n c) e:=fun _ b hb=>by cases hb
theorem Nb.own {B B' e size n:Nat}{w:World}{v:Value}{xs:List Value}(h:w.ownsRow B e size v n xs):Nb B' w v e:=by
 intro _ b hb;rcases h.2 with ⟨rfl,_⟩|⟨g,cap,cur,rfl,_,hg,_⟩
 ·cases hb
 ·cases hb;exact .inr ⟨cur,_,hg⟩
structure Cd (α:Type) where
 t:TypeId
 e:TypeId
 n:Nat
 bytes:Nat
 z:Value
 inner:List TypeId
 R:Nat->World->α->List Value->Prop
structure zEq (P:Program) {α:Type} (C:Cd α):Prop where
 sl:SlT P C.t C.e C.n C.bytes C.z
 len:∀{B w x cs},C.R B w x cs->cs.length=C.n
 one:∀{B w x cs},C.R B w x cs->∀u∈cs,u.oneCell'=true
 chg:∀{B w w' x cs E row},C.R B w x cs->Chg B E row w w'->E ∉ C.inner->C.R B w' x cs
 mono:∀{B B' w x cs},B<=B'->C.R B w x cs->C.R B' w x cs
 self:C.e ∉ C.inner
def zAh {α:Type}(C:Cd α)(B:Nat)(w:World)(v:Value)(l:List α):Prop:=
 ∃a cap,v= .slice a l.length cap/\l.length<=cap/\Nb B w v C.e/\∀k (h:k<l.length),∃b off cs,a=some ⟨b,off,none⟩/\b<w.heap.size/\C.R B w (l[k]'h) cs/\zX9 w b (off+k*C.n) cs
def zAg {α:Type}(C:Cd α)(B:Nat)(w:World)(v:Value)(l:List α):Prop:=
 ∃ css : List (List Value), css.length = l.length /\ (∀ k (h : k < l.length) (h' : k < css.length), C.R B w (l[k]'h) (css[k]'h')) /\ w.ownsRow B C.e C.n v l.length css.flatten
theorem zJE {n:Nat}{css:List (List Value)}(h:∀cs∈css,cs.length=n)(k j:Nat)(hj:j<n):css.flatten[k*n+j]? = css[k]?.bind (·[j]?):=by
 induction css generalizing k with
 | nil=>simp
 | cons c r ih=>
  have hc:=h c (by simp);rw[List.flatten_cons]
  cases k with
  | zero=>rw[Nat.zero_mul,Nat.zero_add,List.getElem?_append_left (by omega)];rfl
  | succ k=>
   rw[List.getElem?_append_right (by rw[hc,Nat.succ_mul];omega),hc,show (k+1)*n+j-n=k*n+j by rw[Nat.succ_mul];omega,ih (fun cs hcs=>h cs (by simp[hcs])) k];rfl
theorem zM8 {n:Nat}{css:List (List Value)}(h:∀cs∈css,cs.length=n)(k j:Nat)(hj:j<n)(hk:k<css.length)(u:Value):css.flatten.set (k*n+j) u=(css.set k ((css[k]'hk).set j u)).flatten:=by
 induction css generalizing k with
 | nil=>simp at hk
 | cons c r ih=>
  have hc:=h c (by simp)
  cases k with
  | zero=>rw[Nat.zero_mul,Nat.zero_add,List.flatten_cons,List.set_append_left _ _ (by omega)];rfl
  | succ k=>
   rw[List.flatten_cons,List.set_append_right _ _ (by rw[hc,Nat.succ_mul];omega),hc,show (k+1)*n+j-n=k*n+j by rw[Nat.succ_mul];omega,ih (fun cs hcs=>h cs (by simp[hcs])) k (by simpa using hk)];rfl
theorem zCy {n:Nat}{css:List (List Value)}(h:∀cs∈css,cs.length=n):css.flatten.length=css.length*n:=by induction css<;>grind
section
variable {P:Program} {α:Type} {C:Cd α} {B B':Nat} {w w':World} {v:Value} {l:List α}
theorem zAh.chg {E:TypeId}{row:Option Nat}(h:zAh C B w v l)(k:zEq P C)(c:Chg B E row w w')(h1:E≠C.e)(h2:E ∉ C.inner):zAh C B w' v l:=by
 obtain⟨a,cap,rfl,hcap,hn,hc⟩:=h;refine⟨a,cap,rfl,hcap,hn.chg c h1,fun i hi=>?_⟩;obtain⟨b,off,cs,rfl,hb,hr,hrow⟩:=hc i hi;refine⟨b,off,cs,rfl,Nat.lt_of_lt_of_le hb c.size,k.chg hr c h2,fun j u hj=>?_⟩;rw[zF8 c.keep hb ?_]
 ·exact hrow j u hj
 ·rcases hn.ne (show 0<l.length by omega) c h1 with rfl|h3
  ·grind
  ·exact fun x=>h3 (by rw[x];rfl)
theorem zAh.ext (h:zAh C B w v l)(k:zEq P C)(he:Ext w w'):zAh C B w' v l:=by
 obtain⟨a,cap,rfl,hcap,hn,hc⟩:=h;refine⟨a,cap,rfl,hcap,hn.ext he,fun i hi=>?_⟩;obtain⟨b,off,cs,rfl,hb,hr,hrow⟩:=hc i hi;exact⟨b,off,cs,rfl,Nat.lt_of_lt_of_le hb he.size,k.chg hr (Chg.of_ext he B C.e) k.self,fun j u hj=>by rw[eC he hb];exact hrow j u hj⟩
theorem zAh.mono (h:zAh C B w v l)(k:zEq P C)(hB:B<=B'):zAh C B' w v l:=by
 obtain⟨a,cap,rfl,hcap,hn,hc⟩:=h;refine⟨a,cap,rfl,hcap,hn.mono hB,fun i hi=>?_⟩;obtain⟨b,off,cs,h1,h2,h3,h4⟩:=hc i hi;exact⟨b,off,cs,h1,h2,k.mono hB h3,h4⟩
theorem zAh.nil (C:Cd α)(B:Nat)(w:World)(c:Nat):zAh C B w (.slice none 0 c) []:=⟨none,c,rfl,Nat.zero_le _,Nb.nil _ _ _ _ _,fun k hk=>absurd hk (by simp)⟩
theorem zAh.form (h:zAh C B w v l):∃a cap,v= .slice a l.length cap:=by obtain⟨a,cap,h,_⟩:=h;exact⟨a,cap,h⟩
theorem zAg.lens (k : zEq P C) {css : List (List Value)} (hl : css.length = l.length) (hR : ∀ k (h : k < l.length) (h' : k < css.length), C.R B w (l[k]'h) (css[k]'h')) : ∀ cs ∈ css, cs.length = C.n := by
 intro cs hcs;obtain⟨i,hi,rfl⟩:=List.getElem_of_mem hcs;exact k.len (hR i (by omega) hi)
theorem zAg.in (h:zAg C B w v l)(k:zEq P C):zAh C B w v l:=by
 obtain⟨css,hl,hR,ho⟩:=h;have hlen:=zAg.lens k hl hR;have ho':=ho;rcases ho.2 with ⟨rfl,h0⟩|⟨g,cap,cur,rfl,hb,hg,hnc,_⟩
 ·grind[zAh.nil]
 ·refine⟨_,_,rfl,hnc,Nb.own ho',fun i hi=>⟨g,0,css[i]'(by omega),rfl,bL hg,hR i hi (by omega),fun j u hj=>?_⟩⟩;have hj':j<C.n:=by
   grind
  have h2:i*C.n+j<l.length*C.n:=by
   have:(i+1)*C.n<=l.length*C.n:=Nat.mul_le_mul_right _ hi;grind
  have:=World.ownsRow.cellAt ho' (i*C.n+j) h2;grind[zJE]
theorem zAg.nil (C:Cd α)(B:Nat)(w:World):zAg C B w (.slice none 0 0) []:=⟨[],rfl,fun k hk=>absurd hk (by simp),World.ownsRow_nil _ _ _ _⟩
theorem zAg.fresh (C:Cd α)(w:World):zAg C w.heap.size (w.alloc (.cells #[] C.e)) (.slice (some ⟨w.heap.size,0,none⟩) 0 0) []:=
 ⟨[],rfl,fun k hk=>absurd hk (by simp),World.ownsRow_lit w #[] 0 (Nat.le_refl _) (Nat.zero_le _) (by simp)⟩
theorem zAg.chg {E:TypeId}{row:Option Nat}(h:zAg C B w v l)(k:zEq P C)(c:Chg B E row w w')(h2:E ∉ C.inner)(hne:row=none\/v.ownBlock≠row):zAg C B w' v l:=by
 obtain⟨css,hl,hR,ho⟩:=h;refine⟨css,hl,fun i hi hi'=>k.chg (hR i hi hi') c h2,ho.1,?_⟩;rcases ho.2 with h1|⟨g,cap,cur,rfl,hb,hg,h3⟩
 ·grind
 ·refine .inr ⟨g,cap,cur,rfl,hb,c.keep _ _ hg ?_,h3⟩;rcases hne with rfl|hne
  ·grind
  ·exact fun x=>hne (by rw[x];rfl)
theorem zAg.ext (h:zAg C B w v l)(k:zEq P C)(he:Ext w w'):zAg C B w' v l:=h.chg k (Chg.of_ext he B C.e) k.self (.inl rfl)
theorem zAg.other {E:TypeId}{row:Option Nat}(h:zAg C B w v l)(k:zEq P C)(c:Chg B E row w w')(h1:E≠C.e)(h2:E ∉ C.inner):zAg C B w' v l:=by
 obtain⟨css,hl,hR,ho⟩:=h;refine zAg.chg ⟨css,hl,hR,ho⟩ k c h2 ?_
 cases row with
 | none=>exact .inl rfl
 | some g=>
  refine .inr fun hv=>?_;obtain⟨_,c',f',h3⟩:=c.isrow g rfl;rcases ho.2 with ⟨rfl,_⟩|⟨g',cap,cur,rfl,_,hg,_⟩
  ·cases hv
  ·cases hv;rw[h3]at hg;cases hg;exact h1 rfl
theorem zAg.le (h:zAg C B w v l)(_k:zEq P C)(hk:∀i (h:i<l.length) cs,C.R B w (l[i]'h) cs->C.R B' w (l[i]'h) cs)(hB:B'<=B):zAg C B' w v l:=by
 obtain⟨css,hl,hR,ho⟩:=h;exact⟨css,hl,fun i hi hi'=>hk i hi _ (hR i hi hi'),ho.1,ho.2.imp_right fun ⟨g,cap,cur,h1,h2,h3⟩=>⟨g,cap,cur,h1,Nat.le_trans hB h2,h3⟩⟩
theorem zAg.form (h:zAg C B w v l):∃a cap,v= .slice a l.length cap:=by
 obtain⟨css,_,_,ho⟩:=h;rcases ho.2 with ⟨rfl,h0⟩|⟨g,cap,cur,rfl,_⟩
 ·grind
 grind
theorem zAg.addr {n cap:Nat}{a:Option Addr}(h:zAg C B w (.slice a n cap) l)(hl:0<l.length):∃g,a=some ⟨g,0,none⟩/\B<=g/\g<w.heap.size/\n=l.length:=by
 obtain⟨css,_,_,ho⟩:=h;rcases ho.2 with ⟨h1,h0⟩|⟨g,cap',cur,h1,hb,hg,_⟩
 ·omega
 grind
theorem zAg.frozen {n cap g:Nat}(h:zAg C B w (.slice (some ⟨g,0,none⟩) n cap) l)(j:Nat):w.frozen? ⟨g,j,none⟩=false:=by
 obtain⟨a,c,he⟩:=h.form;injection he with _ e2 _;subst e2;obtain⟨css,_,_,ho⟩:=h;exact World.ownsRow.frozenAt ho j
theorem zAg.row (h:zAg C B w v l){row:Option Nat}(hr:v.ownBlock=row):∀g,row=some g->B<=g/\∃c f,w.heap[g]? = some (.cells c C.e f):=by
 obtain⟨css,_,_,ho⟩:=h;intro g hg;rcases ho.2 with ⟨rfl,_⟩|⟨g',cap,cur,rfl,hb,hgg,_⟩
 ·rw[hg]at hr;cases hr
 ·rw[hg]at hr;cases hr;exact⟨hb,_,_,hgg⟩
theorem zAg.store {n cap g:Nat}(h:zAg C B w (.slice (some ⟨g,0,none⟩) n cap) l)(K:zEq P C)(k:Nat)(hk:k<l.length)(j:Nat)(hj:j<C.n)(u:Value)(x:α)(hx:∀cs,C.R B w (l[k]'hk) cs->C.R B w x (cs.set j u)):
  zAg C B (w.setCell ⟨g,k*C.n+j,none⟩ u) (.slice (some ⟨g,0,none⟩) n cap) (l.set k x)/\w.grownBy (w.setCell ⟨g,k*C.n+j,none⟩ u) (some g)/\Chg B C.e (some g) w (w.setCell ⟨g,k*C.n+j,none⟩ u):=by
 obtain⟨_,h1,_,_,rfl⟩:=h.addr (by omega);have hrow:=h.row rfl;obtain⟨css,hl,hR,ho⟩:=h;have hlen:=zAg.lens K hl hR;have h2:=ho.stored (k*C.n+j) u;have hc:Chg B C.e (some g) w (w.setCell ⟨g,k*C.n+j,none⟩ u):=⟨zD3 h2.2,h2.2.size,hrow⟩;have hkc:k<css.length:=by omega
 refine⟨⟨css.set k ((css[k]'hkc).set j u),by simp[hl],fun i hi hi'=>?_,?_⟩,h2.2,hc⟩
 ·refine K.chg ?_ hc K.self;grind
 grind[zM8]
theorem zAj (K:zEq P C)(w:World)(x:α)(cs:List Value)(n:Nat)(hn:n=w.heap.size)(h:C.R B w x cs):zAh C B (w.alloc (.cells cs.toArray C.e)) (.slice (some ⟨n,0,none⟩) 1 1) [x]:=by
 subst hn;refine⟨_,_,rfl,by simp,fun _ b hb=>.inr ⟨_,_,by cases hb;exact bN w _⟩,fun k hk=>?_⟩;obtain rfl:k=0:=by simp at hk;omega
 refine⟨w.heap.size,0,cs,rfl,by simp,K.chg h (Chg.of_ext (eA _ _) B C.e) K.self,fun j u hj=>?_⟩;simp_all
theorem zFO (K:zEq P C)(ty:TypeId)(v x:Value)(l1 l2:List α)(w:World)(h1:zAg C B w v l1)(h2:zAh C B w x l2)(hB:B<=w.heap.size)(hl:l1.length+l2.length<=1000000):
  ∃v' w',(Builtin.append_ #[C.t,C.t] ty #[v,x]).run P w= .ok v' w'/\zAg C B w' v' (l1++l2)/\w.grownBy w' v.ownBlock/\(v'.ownBlock=v.ownBlock\/v'.ownBlock=some w.heap.size)/\Chg B C.e v.ownBlock w w':=by
 obtain⟨i,hi,hz,h3,h4⟩:=K.sl.info;have hsm:=K.sl.small;have hrow:=h1.row rfl;obtain⟨a,cap,rfl,hcap,hn,hc⟩:=h2;obtain⟨css,hcl,hR,ho⟩:=h1;have hlen:=zAg.lens K hcl hR
 cases a with
 | none=>
  obtain rfl:l2= []:=by
   cases l2 with
   | nil=>rfl
   | cons y r=>obtain⟨b,off,cs,h0,_⟩:=hc 0 (by simp);cases h0
  refine⟨v,w,?_,by rw[List.append_nil];exact⟨css,hcl,hR,ho⟩,⟨rfl,rfl,rfl,Nat.le_refl _,fun _ _ _=>rfl⟩,.inl rfl,⟨fun _ _ hb _=>hb,Nat.le_refl _,hrow⟩⟩;rcases ho.2 with ⟨rfl,h0⟩|⟨g,cap',cur,rfl,_,_,hnc,_⟩
  ·simp[Builtin.append_,run_underlying K.sl.und,sizeOf,typeInfo,hi,Builtin.lenOf,Builtin.firstCells]
  ·simp[Builtin.append_,run_underlying K.sl.und,sizeOf,typeInfo,hi,Builtin.lenOf,Builtin.firstCells,hnc,storeCells]
 | some ad=>
  have hex : ∃ dss : List (List Value), dss.length = l2.length /\ ∀ k (h : k < l2.length) (h' : k < dss.length), C.R B w (l2[k]'h) (dss[k]'h') /\ ∀ j c, (dss[k]'h')[j]? = some c -> w.cell? (ad.add (k * C.n + j)) = some c := by
   have : ∀ m, m <= l2.length -> ∃ dss : List (List Value), dss.length = m /\ ∀ k (h : k < l2.length) (h' : k < dss.length), C.R B w (l2[k]'h) (dss[k]'h') /\ ∀ j c, (dss[k]'h')[j]? = some c -> w.cell? (ad.add (k * C.n + j)) = some c := by
    intro m
    induction m with
    | zero=>intro _;exact⟨[],rfl,fun k _ h'=>absurd h' (by simp)⟩
    | succ m ih=>
     intro hm;obtain⟨dss,hd,hh⟩:=ih (by omega);obtain⟨b,off,cs,h0,hb,hr,hrw⟩:=hc m (by omega);refine⟨dss++ [cs],by simp[hd],fun k h h'=>?_⟩;rw[List.getElem_append];split
     ·exact hh k h _
     ·have hkm:k=m:=by simp at h';omega
      subst hkm;simp only[List.getElem_singleton];refine⟨hr,fun j c hj=>?_⟩;cases h0;rw[Addr.add_lit,<- Nat.add_assoc];exact hrw j c hj
   exact this _ (Nat.le_refl _)
  obtain⟨dss,hdl,hd⟩:=hex;have hdlen:∀cs∈dss,cs.length=C.n:=by
   intro cs hcs;obtain⟨k,hk,rfl⟩:=List.getElem_of_mem hcs;exact K.len (hd k (by omega) hk).1
  have hcell:∀j u,dss.flatten[j]? = some u->w.cell? (ad.add j)=some u:=by
   intro j u hj;have hp:=K.sl.pos;have hdm:j / C.n*C.n+j % C.n=j:=by rw[Nat.mul_comm];exact Nat.div_add_mod j C.n
   have hml:=Nat.mod_lt j hp;rw[<- hdm,zJE hdlen _ _ hml]at hj;rcases Nat.lt_or_ge (j / C.n) dss.length with hk|hk
   ·rw[List.getElem?_eq_getElem hk]at hj;have:=(hd (j / C.n) (by omega) hk).2 (j % C.n) u hj;rwa [hdm]at this
   ·rw[List.getElem?_eq_none hk]at hj;cases hj
  have hone:∀u∈dss.flatten,u.oneCell'=true:=by
   intro u hu;obtain⟨cs,hcs,hu⟩:=List.mem_flatten.1 hu;obtain⟨k,hk,rfl⟩:=List.getElem_of_mem hcs;exact K.one (hd k (by omega) hk).1 u hu
  have hby:(l1.length+l2.length)*C.bytes<=140737488355328:=by
   have:(l1.length+l2.length)*C.bytes<=1000000*1000:=Nat.mul_le_mul hl hsm;omega
  obtain⟨v',w',hr,ho',hg,_,hlies⟩:=run_append_own_at (P:=P) (w:=w) B C.t ty C.e i _ C.n C.bytes K.sl.und hi hz h3 h4 K.sl.zs K.sl.pos v l1.length css.flatten ho ad l2.length cap dss.flatten (by rw[zCy hdlen,hdl]) hcell hone (by unfold maxLen;omega) hby hB;have hchg:Chg B C.e v.ownBlock w w':=⟨zD3 hg,hg.size,hrow⟩;refine⟨v',w',hr,⟨css++dss,by simp[hcl,hdl],fun k hk hk'=>K.chg ?_ hchg K.self,?_⟩,hg,hlies,hchg⟩
  ·rw[List.getElem_append,List.getElem_append];by_cases hkl:k<l1.length
   ·rw[dif_pos hkl,dif_pos (by omega)];exact hR k hkl (by omega)
   ·rw[dif_neg hkl,dif_neg (by omega)];have:=(hd (k-l1.length) (by simp at hk;omega) (by simp at hk;omega)).1;simp only[hcl];exact this
  ·rw[List.length_append,List.flatten_append];exact ho'
structure zIr {α:Type} (C:Cd α) (B:Nat) (v v':Value) (l:List α) (W0 w w':World):Prop where
 own:zAg C B w' v' l
 below:Below B W0 w'
 chg:Chg B C.e v.ownBlock w w'
 lies:v'.ownBlock=v.ownBlock\/v'.ownBlock=some w.heap.size
variable {o:Oper} {a:Act} {Kx:Act->World->Prop} {Q:Exit->Act->World->Prop}
theorem zK5 {W0:World}(hb:Below B W0 w)(hg:w.grownBy w' v.ownBlock)(ho:zAg C B w v l)(hB:B<=w.heap.size):Below B W0 w':=by
 obtain⟨css,_,_,ho⟩:=ho;exact zDi hb ho (Nat.le_refl _) hB hg
theorem zCK (K:zEq P C)(s x:Operand)(ho:o.op= .call {callee:=.builtin .append,args:=#[s,x],argTypes:=#[C.t,C.t]})
  (v xv:Value) (l1 l2:List α) (W0 w:World) (hs:a.eval s=v) (hx:a.eval x=xv) (h1:zAg C B w v l1) (h2:zAh C B w xv l2) (hb:Below B W0 w) (hB:B<=w.heap.size) (hl:l1.length+l2.length<=1000000)
  (h:∀v' w',zIr C B v v' (l1++l2) W0 w w'->Kx (a.put o.dst v') w'):o.wp P a w Kx Q:=by
 obtain⟨v',w',hr,h3,h4,h5,h6⟩:=zFO K o.type v xv l1 l2 w h1 h2 hB hl;unfold Oper.wp execOp;simp only[ho,resolve,invoke,builtin,Sem.run_bind,Sem.run_pure,Result.andThen_ok,List.map_toArray,List.map_cons,List.map_nil,hs,hx,hr];exact h v' w' ⟨h3,zK5 hb h4 h1 hB,h6,h5⟩
theorem zIX (K:zEq P C){ops:Array Oper}{rest:List Oper}(hgd:o.guard=none)(s x:Operand)(ho:o.op= .call {callee:=.builtin .append,args:=#[s,x],argTypes:=#[C.t,C.t]})
  (v xv:Value) (l1 l2:List α) (W0 w:World) (hs:a.eval s=v) (hx:a.eval x=xv) (h1:zAg C B w v l1) (h2:zAh C B w xv l2) (hb:Below B W0 w) (hB:B<=w.heap.size) (hl:l1.length+l2.length<=1000000)
  (h:∀v' w',zIr C B v v' (l1++l2) W0 w w'->wpList P ops Q rest (a.put o.dst v') w'):wpList P ops Q (o :: rest) a w:=
 wpList_plain hgd fun _ hK=>zCK K s x ho v xv l1 l2 W0 w hs hx h1 h2 hb hB hl fun v' w' h3=>hK _ _ (h v' w' h3)
theorem zUy (K:zEq P C){ops:Array Oper}{E:Prop}(hgd:o.guard=none)(s x:Operand)(ho:o.op= .call {callee:=.builtin .append,args:=#[s,x],argTypes:=#[C.t,C.t]})
  (v xv:Value) (l1 l2:List α) (W0 w:World) (hs:a.eval s=v) (hx:a.eval x=xv) (h1:zAg C B w v l1) (h2:zAh C B w xv l2) (hb:Below B W0 w) (hB:B<=w.heap.size) (hl:l1.length+l2.length<=1000000)
  (h:∀v' w',zIr C B v v' (l1++l2) W0 w w'->Kx (a.put o.dst v') w'):if Region.wanted o (yielded ops a.tmps)=true then Oper.wp P o a w Kx Q else E:=by
 have hw:Region.wanted o (yielded ops a.tmps)=true:=by simp[Region.wanted,hgd]
 grind[zCK]
end
open Go.RowKit Go.MapKept
structure zRx (P:Program) (k:TypeId) {K:Type} (κ:K->Value):Prop where
 ex:∃d,P.underlying k=some d/\∀x,IsKey d (κ x)
 inj:∀x y,κ x=κ y->x=y
def kI (i:Int):Value:=.int .i64 i
def kS (s:ByteArray):Value:=.string s
theorem zSy {P:Program}{k:TypeId}(h:P.underlying k=some (.int .i64)):zRx P k kI:=⟨⟨_,h,fun _=>rfl⟩,fun _ _ h=>by injection h⟩
theorem zSx {P:Program}{k:TypeId}(h:P.underlying k=some .string):zRx P k kS:=⟨⟨_,h,fun _=>trivial⟩,fun _ _ h=>by injection h⟩
def zAA {K:Type}(κ:K->Value)(w:World)(b n:Nat)(f:K->Option Value):Prop:=
 ∃es clock,w.heap[b]? = some (.map es clock)/\Stamped es clock/\es.size=n/\(∀e∈es.toList,∃x,e.key=κ x)/\∀x v,f x=some v↔ ∃e∈es.toList,e.key=κ x/\e.val=v
def upd {K:Type}[DecidableEq K](f:K->Option Value)(x:K)(v:Value):K->Option Value:=fun y=>if y=x then some v else f y
section
variable {P:Program} {K:Type} {κ:K->Value} {w w':World} {b n:Nat} {f:K->Option Value}
theorem zBJ (w:World)(κ:K->Value):zAA κ (w.alloc (.map #[] 0)) w.heap.size 0 (fun _=>none):=
 ⟨#[],0,bN w _,stamped_empty 0,rfl,fun e he=>by simp at he,fun x v=>by simp⟩
theorem zAA.lt (h:zAA κ w b n f):b<w.heap.size:=by obtain⟨es,c,hb,_⟩:=h;exact bL hb
theorem zAA.keep {row:Option Nat}(h:zAA κ w b n f)(hk:zAy row w w')(hne:row≠some b):zAA κ w' b n f:=by
 obtain⟨es,c,hb,r⟩:=h;exact⟨es,c,hk _ _ hb hne,r⟩
theorem zAA.grown {row:Option Nat}(h:zAA κ w b n f)(hg:w.grownBy w' row)(hne:row≠some b):zAA κ w' b n f:=by
 obtain⟨es,c,hb,r⟩:=h;exact⟨es,c,zAV hg hb hne,r⟩
theorem zAA.ext (h:zAA κ w b n f)(he:Ext w w'):zAA κ w' b n f:=by
 obtain⟨es,c,hb,r⟩:=h;exact⟨es,c,bX he hb,r⟩
theorem zAA.same {g:K->Option Value}(h:zAA κ w b n f)(e:∀x,f x=g x):zAA κ w b n g:=by
 rw[show g=f from funext fun x=>(e x).symm];exact h
theorem zAA.setCell (h:zAA κ w b n f)(p:Addr)(v:Value):zAA κ (w.setCell p v) b n f:=by
 obtain⟨es,c,hb,r⟩:=h;refine⟨es,c,?_,r⟩;unfold World.setCell;grind
theorem zIJ {k:TypeId}(T:zRx P k κ){es:Array MapEntry}{c:Nat}(hk:∀e∈es.toList,∃x,e.key=κ x)(_hs:Stamped es c)(hf:∀x v,f x=some v↔ ∃e∈es.toList,e.key=κ x/\e.val=v)(x:K):
  ((Instr.findKey k (κ x) es.toList).run P w= .ok none w/\f x=none/\∀e∈es.toList,e.key≠κ x) \/
  ∃j e,(Instr.findKey k (κ x) es.toList).run P w= .ok (some (j,e.val)) w/\f x=some e.val/\es.toList[j]? = some e/\e.key=κ x:=by
 obtain⟨d,hd,his⟩:=T.ex;have hks:∀e∈es.toList,IsKey d e.key:=fun e he=>by obtain⟨y,hy⟩:=hk e he;rw[hy];exact his y
 rcases findNow_spec (his x) es.toList 0 hks with ⟨h1,h2⟩|⟨j,e0,h1,h2,h3⟩
 ·refine .inl ⟨run_findKey hd h1,?_,h2⟩
  cases hx:f x with
  | none=>rfl
  | some v=>obtain⟨e,he,h4,_⟩:=(hf x v).1 hx;exact absurd h4 (h2 e he)
 ·exact .inr ⟨j,e0,by simpa using run_findKey hd h1,(hf x _).2 ⟨e0,List.mem_of_getElem? h2,h3,rfl⟩,h2,h3⟩
theorem zAA.look {t k e:TypeId}(h:zAA κ w b n f)(T:zRx P k κ)(ht:P.underlying t=some (.map k e)){z:Value}(hz:(zeroValue e).run P w= .ok z w)(x:K)(ok:Bool):
  (Instr.lookup t (.map (some b)) (κ x) ok).run P w= .ok (if ok then .tuple #[(f x).getD z,.bool (f x).isSome]else (f x).getD z) w:=by
 obtain⟨es,c,hb,hs,hn,hk,hf⟩:=h;obtain⟨d,hd,his⟩:=T.ex;have hc:=run_checkKey (P:=P) (w:=w) hd (his x) es.isEmpty 9999;rcases zIJ (P:=P) (w:=w) T hk hs hf x with ⟨h1,h2,_⟩|⟨j,e0,h1,h2,_⟩
 ·simp[Instr.lookup,run_underlying ht,MapKept.run_getObj_map hb,hc,h1,h2,hz]
 ·simp[Instr.lookup,run_underlying ht,MapKept.run_getObj_map hb,hc,h1,h2]
theorem zAA.update [DecidableEq K]{t k e:TypeId}(h:zAA κ w b n f)(T:zRx P k κ)(ht:P.underlying t=some (.map k e))(x:K)(v:Value):
  ∃w',(Instr.mapUpdate t (.map (some b)) (κ x) v).run P w= .ok () w'/\zAA κ w' b (if (f x).isSome then n else n+1) (upd f x v)/\w.grownBy w' (some b):=by
 obtain⟨es,c,hb,hs,hn,hk,hf⟩:=h;obtain⟨d,hd,his⟩:=T.ex;have hc:=run_checkKey (P:=P) (w:=w) hd (his x) false 9999;have hset:∀o:Obj,w.grownBy {w with heap:=w.heap.setIfInBounds b o} (some b):=fun o=>
  ⟨rfl,rfl,rfl,by simp,fun i _ hi=>by simp[show b≠i from fun e=>hi (by rw[e])]⟩
 have hnew:∀o:Obj,({w with heap:=w.heap.setIfInBounds b o}:World).heap[b]? = some o:=fun o=>by
  simp[bL hb]
 rcases zIJ (P:=P) (w:=w) T hk hs hf x with ⟨h1,h2,h3⟩|⟨j,e0,h1,h2,h3,h4⟩
 ·refine⟨_,by simp[Instr.mapUpdate,run_underlying ht,MapKept.run_getObj_map hb,hc,h1,MapKept.run_setObj_map _ hb];rfl,⟨_,_,hnew _,stamped_push hs (fun e he=>h3 e he),?_,?_,?_⟩,hset _⟩
  ·simp[hn,h2]
  ·intro e he;simp only[Array.toList_push,List.mem_append,List.mem_singleton]at he;rcases he with he|rfl
   ·exact hk e he
   ·exact⟨x,rfl⟩
  ·intro y u;unfold upd;simp only[Array.toList_push,List.mem_append,List.mem_singleton];by_cases e:y=x
   ·subst e;rw[if_pos rfl];constructor
    ·intro hv;cases hv;exact⟨_,.inr rfl,rfl,rfl⟩
    ·rintro⟨e,he|rfl,h5,h6⟩
     ·exact absurd h5 (h3 e he)
     ·rw[<- h6]
   ·rw[if_neg e,hf];constructor
    ·rintro⟨e',he,h5⟩;exact⟨e',.inl he,h5⟩
    ·rintro⟨e',he|rfl,h5,h6⟩
     ·exact⟨e',he,h5,h6⟩
     ·exact absurd (T.inj _ _ h5) (fun q=>e q.symm)
 ·have hkey:((es[j]?).map (·.key)).getD (κ x)=κ x:=by rw[<- Array.getElem?_toList,h3];exact h4
  have hst:=run_keyThatStays (P:=P) (w:=w) (his x);have hj:j<es.size:=by
   have:=(List.getElem?_eq_some_iff.1 h3).1;simpa using this
  have hl:∀g:MapEntry->MapEntry,(es.modify j g).toList=es.toList.set j (g e0):=by
   intro g;apply List.ext_getElem?;intro i;rw[Array.getElem?_toList,Array.getElem?_modify,List.getElem?_set];by_cases e:j=i
   ·subst e;rw[if_pos rfl,if_pos rfl,if_pos (by simpa using hj),<- Array.getElem?_toList,h3];rfl
   ·rw[if_neg e,if_neg e,Array.getElem?_toList]
  refine⟨{w with heap:=w.heap.setIfInBounds b (.map (es.modify j fun e=>{e with key:=κ x,val:=v}) c)},by simp[Instr.mapUpdate,run_underlying ht,MapKept.run_getObj_map hb,hc,h1,hkey,hst,MapKept.run_setObj_map _ hb],⟨_,_,hnew _,stamped_modify hs j _ (fun e _=>rfl) (fun e he hj'=>?_),?_,?_,?_⟩,hset _⟩
  ·rw[<- Array.getElem?_toList,h3]at hj';cases hj';exact h4.symm
  ·simp[hn,h2]
  ·intro e he;rw[hl]at he;rcases List.mem_or_eq_of_mem_set he with he|rfl
   ·exact hk e he
   ·exact⟨x,rfl⟩
  ·intro y u;rw[hl];have hnd:=((stamped_iff es c).1 hs).2.2;unfold upd;by_cases e:y=x
   ·subst e;rw[if_pos rfl];constructor
    ·intro hv;cases hv;exact⟨_,List.mem_set (by simpa using hj) _,rfl,rfl⟩
    ·rintro⟨e',he,h5,h6⟩;obtain⟨i,hi,rfl⟩:=List.getElem_of_mem he;rw[List.getElem_set]at h5 h6;by_cases ei:j=i
     ·rw[if_pos ei]at h6;rw[<- h6]
     ·rw[if_neg ei]at h5;have hi':i<es.toList.length:=by simpa using hi
      have h0:es.toList[j]'(by simpa using hj)=e0:=(List.getElem?_eq_some_iff.1 h3).2;rcases Nat.lt_or_ge j i with hlt|hge
      ·exact absurd (by rw[h0,h4,h5]) (List.pairwise_iff_getElem.1 hnd j i (by simpa using hj) hi' hlt)
      ·exact absurd (by rw[h0,h4,h5]) (List.pairwise_iff_getElem.1 hnd i j hi' (by simpa using hj) (by omega))
   ·rw[if_neg e,hf];constructor
    ·rintro⟨e',he,h5,h6⟩;obtain⟨i,hi,rfl⟩:=List.getElem_of_mem he;have h0:es.toList[j]'(by simpa using hj)=e0:=(List.getElem?_eq_some_iff.1 h3).2;have ei:j≠i:=by
      rintro rfl;rw[h0,h4]at h5;exact e (T.inj _ _ h5).symm
     refine⟨es.toList[i],List.mem_iff_getElem.2 ⟨i,by simpa using hi,?_⟩,h5,h6⟩;rw[List.getElem_set,if_neg ei]
    ·rintro⟨e',he,h5,h6⟩;obtain⟨i,hi,rfl⟩:=List.getElem_of_mem he;rw[List.getElem_set]at h5 h6;by_cases ei:j=i
     ·rw[if_pos ei]at h5;exact absurd (T.inj _ _ h5) (fun q=>e q.symm)
     ·rw[if_neg ei]at h5 h6;exact⟨_,List.getElem_mem _,h5,h6⟩
variable {ops:Array Oper} {rest:List Oper} {o:Oper} {a:Act} {Q:Exit->Act->World->Prop}
theorem zCf (hg:o.guard=none)(m x:Operand)(t:TypeId)(ok:Bool)(hop:o.op=Op.lookup t m x ok)(k e:TypeId)(T:zRx P k κ)(ht:P.underlying t=some (.map k e))(z:Value)(hz:∀w,(zeroValue e).run P w= .ok z w)
  (hm:a.eval m= .map (some b)) (h:zAA κ w b n f) (y:K) (hx:a.eval x=κ y)
  (hK:wpList P ops Q rest (a.put o.dst (if ok then .tuple #[(f y).getD z,.bool (f y).isSome]else (f y).getD z)) w):wpList P ops Q (o :: rest) a w:=by
 refine wpList_plain hg fun K' hK'=>?_;unfold Oper.wp;simp only[execOp,hop,hm,hx];have:=h.look T ht (hz w) y ok;simp[this,Result.andThen];exact hK' _ _ hK
theorem zDU [DecidableEq K](hg:o.guard=none)(m x y:Operand)(t:TypeId)(hop:o.op=Op.mapUpdate t m x y)(k e:TypeId)(T:zRx P k κ)(ht:P.underlying t=some (.map k e))
  (hm:a.eval m= .map (some b)) (h:zAA κ w b n f) (q:K) (v:Value) (hx:a.eval x=κ q) (hy:a.eval y=v)
  (hK:∀w',zAA κ w' b (if (f q).isSome then n else n+1) (upd f q v)->w.grownBy w' (some b)->wpList P ops Q rest (a.put o.dst undef) w'):wpList P ops Q (o :: rest) a w:=by
 obtain⟨w',hr,h1,h2⟩:=h.update T ht q v;refine wpList_plain hg fun K' hK'=>?_;unfold Oper.wp;simp[execOp,hop,hm,hx,hy,hr,Result.andThen];exact hK' _ _ (hK w' h1 h2)
end
end Go.Proofs.YtbeeoomadnmogaaGreat
