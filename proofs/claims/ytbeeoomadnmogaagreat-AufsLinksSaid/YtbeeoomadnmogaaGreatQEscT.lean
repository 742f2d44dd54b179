/- EscT SrtG -/
import Derived.Test.YtbeeoomadnmogaaGreatQI2
import Derived.Shelf.SlSortCmp.NoneTotal
import Derived.Test.YtbeeoomadnmogaaGreatQOwnA
namespace Go.Proofs.YtbeeoomadnmogaaGreat
open Go.RowKit
def zRz (p o:Value):Prop:=∀b,p.ownBlock=some b->o.ownBlock≠some b
theorem zRz.symm {p o:Value}(h:zRz p o):zRz o p:=fun b h1 h2=>h b h2 h1
theorem zRz.keep {p o:Value}(h:zRz p o):p.ownBlock=none\/o.ownBlock≠p.ownBlock:=by
 cases e:p.ownBlock with
 | none=>exact .inl rfl
 | some b=>exact .inr (h b e)
open Go.RowKit Go.Sort
theorem zN5 {α:Type}[Inhabited α]{enc:α->List Value}{k:Nat}(hk:∀x,(enc x).length=k)(k0:0<k){B E g n cap:Nat}{w:World}{D:List α}(h:w.ownsRow B E k (.slice (some ⟨g,0,none⟩) n cap) n (D.map enc).flatten)(hn:n=D.length):HoldsK enc k w g 0 D.toArray:=by
 subst hn;intro j hj;rw[size_flatK]at hj;have hj':j<D.length*k:=by simpa using hj
 have hi:j / k<D.length:=Nat.div_lt_of_lt_mul (by rw[Nat.mul_comm];exact hj');have hc:j % k<k:=Nat.mod_lt _ k0;have hl:∀cs∈D.map enc,cs.length=k:=fun cs hcs=>by
  obtain⟨x,_,rfl⟩:=List.mem_map.1 hcs;exact hk x
 refine⟨?_,h.frozenAt _⟩;have e:=zJE hl (j / k) (j % k) hc;rw[Nat.div_add_mod']at e;have h2:D.toArray[j / k]! = D[j / k]:=by simp[hi]
 have hlen:j % k<(enc D[j / k]).length:=by rw[hk];exact hc
 rw[Nat.zero_add,h.cellAt j hj',e,get_flatK _ _ _ _ hj,h2,List.getElem?_map,List.getElem?_eq_getElem hi];show (enc D[j / k])[j % k]? = some (enc D[j / k])[j % k]!;rw[List.getElem?_eq_getElem hlen,getElem!_pos (enc D[j / k]) (j % k) hlen]
theorem zOr {α β:Type} [Inhabited α] {enc:α->List Value} {k:Nat} (hk:∀ x,(enc x).length=k) {C:Cd β} (hC:C.n=k) {B g n cap:Nat} {w:World} {d:Array α} {f:α->β} (h:HoldsK enc k w g 0 d) (hn:n=d.size) (hc:n<=cap) (hg:∃ cs fz,w.heap[g]? = some (.cells cs C.e fz)) (hR:∀ x ∈ d.toList,C.R B w (f x) (enc x)) :
  zAh C B w (.slice (some ⟨g,0,none⟩) n cap) (d.toList.map f):=by
 subst hn
 obtain⟨cs,fz,hb⟩:=hg
 have hlen:(d.toList.map f).length=d.size:=by simp
 refine⟨some ⟨g,0,none⟩,cap,by rw [hlen],by rw [hlen];exact hc,fun _ b hb'=>by cases hb';exact .inr ⟨cs,fz,hb⟩,fun i hi=>?_⟩
 have hi':i < d.size:=by rw [hlen] at hi;exact hi
 refine⟨g,0,enc d[i],rfl,bL hb,?_,fun j u hj=>?_⟩
 ·rw [List.getElem_map]
  exact hR _ (List.getElem_mem _)
 ·have hj':j < k:=by
   rw [<- hk d[i]]
   exact(List.getElem?_eq_some_iff.1 hj).1
  have hc:=(h.cell hi' hj').1
  rw [hC,hc,getElem!_pos d i hi',getElem!_pos (enc d[i]) j (by rw [hk];exact hj')]
  rw [List.getElem?_eq_getElem (by rw [hk];exact hj')] at hj
  exact hj
theorem zIn {α:Type}[Inhabited α]{enc:α->List Value}{k B E g m:Nat}{w:World}{d:Array α}{os:Array Obj}(hB:B<=g){cs:Array Value}{f:Nat × Nat}(hb:w.heap[g]? = some (.cells cs E f)):Chg B E (some g) w (sortWorldK enc k w g 0 m d os)/\Below B w (sortWorldK enc k w g 0 m d os)/\∃cs' f',(sortWorldK enc k w g 0 m d os).heap[g]? = some (.cells cs' E f'):=by
 have hgl:=bL hb;refine⟨⟨fun b o hb' hne=>?_,?_,fun g' hg'=>by cases hg';exact⟨hB,_,_,hb⟩⟩,⟨rfl,rfl,rfl,?_,fun b hlt=>?_⟩,?_⟩
 ·have hlt:=bL hb';unfold sortWorldK;rw[heap_grow_old _ _ (by rw[size_putRowK];exact hlt)];show (w.heap.modify g _)[b]? = _;rw[Array.getElem?_modify,if_neg (fun e=>hne (by rw[e]))];exact hb'
 ·unfold sortWorldK;rw[size_grow,size_putRowK];exact Nat.le_add_right _ _
 ·unfold sortWorldK;rw[size_grow,size_putRowK];exact Nat.le_add_right _ _
 ·unfold sortWorldK;rw[heap_grow_old _ _ (by rw[size_putRowK];show b<w.heap.size;omega)];show (w.heap.modify g _)[b]? = _;rw[Array.getElem?_modify,if_neg (by omega)]
 ·unfold sortWorldK;rw[heap_grow_old _ _ (by rw[size_putRowK];exact hgl)];show ∃cs' f',(w.heap.modify g _)[g]? = _;rw[Array.getElem?_modify,if_pos rfl,hb];exact⟨_,_,rfl⟩
theorem zMD {α β γ:Type}{R:β->List γ->Prop}{enc:α->List γ}{f:α->β}(hR:∀y cs,R y cs->∃x,f x=y/\enc x=cs): ∀ (l : List β) (css : List (List γ)), css.length = l.length -> (∀ k (h : k < l.length) (h' : k < css.length), R (l[k]'h) (css[k]'h')) -> ∃ D : List α, D.map f = l /\ D.map enc = css /\ ∀ x ∈ D, R (f x) (enc x)
 | [],[],_,_=>⟨[],rfl,rfl,fun x h=>by cases h⟩
 | [],_ :: _,h,_=>by cases h
 | _ :: _,[],h,_=>by cases h
 | y :: l,cs :: css,h,hr=>by
  obtain⟨D,h1,h2,h3⟩:=zMD hR l css (by simpa using h) fun k hk hk'=>hr (k+1) (by simpa using hk) (by simpa using hk');obtain⟨x,e1,e2⟩:=hR y cs (hr 0 (by simp) (by simp));refine⟨x :: D,by rw[List.map_cons,e1,h1],by rw[List.map_cons,e2,h2],fun z hz=>?_⟩;rcases List.mem_cons.1 hz with rfl|hz
  ·rw[e1,e2];exact hr 0 (by simp) (by simp)
  ·exact h3 z hz
end Go.Proofs.YtbeeoomadnmogaaGreat
