/- QbBrnG QbAfX QbAzA QbAzB -/
import Derived.Test.YtbeeoomadnmogaaGreatQI5
import Derived.Test.YtbeeoomadnmogaaGreatQAxD
import Derived.Test.YtbeeoomadnmogaaGreatQBsdJ
import Derived.Test.YtbeeoomadnmogaaGreatQChkB
import Derived.Test.YtbeeoomadnmogaaGreatQChkC
import Derived.Test.YtbeeoomadnmogaaGreatQChkE
import Derived.Test.YtbeeoomadnmogaaGreatQOvX
set_option maxRecDepth 100000
set_option maxHeartbeats 64000000
namespace Go.Proofs.YtbeeoomadnmogaaGreat
open Go.RowKit
theorem zUK (t : List TrN) (hl : t.length <= 1000) (hok : zA1 t t.length) : ∀ (i B : Nat) (w : World) (v : Value), zCa B w v t -> i < t.length ->
  Calls Tryz.prog 30 #[v, .int .i64 i] w (zXw cdS w (zAw t i)) := by
 intro i
 induction i using Nat.strongRecOn with
 | ind i ih =>
 intro B w v hv hi;obtain ⟨aa, cap, rfl⟩ := hv.form;have HV := hQq hv; clear hv;have IH := hQq ih; clear ih;by_cases h0 : i = 0
 ·subst h0;go_enter Tryz.func30, Tryz.ntmps30;go_wp2;go_ret;exact ⟨⟨_, _, _, rfl, zAg.nil _ _ _⟩, bR _ _⟩
 have h0' : ((i : Int) == 0) = false := nB (by omega);have j1 : ((i : Nat) : Int) < (t.length : Int) := by omega
 have j0 : (0 : Int) <= (i : Int) := by omega
 have jw : IntKind.i64.wrap ((i : Int) - 1) = (i : Int) - 1 := IntWalk.i64_in _ (by omega);have HGE := hQq (zUg hok hi h0);have HPS := hQq (zCw t i h0);obtain ⟨bi, offi, vai, hei, hbi, _, di, ni, _⟩ := HV.out.tr i hi;have HGI := hQq (zAl t i hi);have HNI := hQq ni;cases hei;go_enter Tryz.func30, Tryz.ntmps30;go_wp2;go_loopw [5] (fun o w' => ∃ (wi : World) (k : Nat), wi = w' /\ k < i /\ o = .int .i64 k /\ zEp t (zAa t i).dep (k + 1) = abv t i /\ Ext w wi) (fun o _ => (intOf o + 1).toNat)
 case atStart =>
  obtain ⟨i', rfl⟩ : ∃ i', i = i' + 1 := ⟨i - 1, by omega⟩;exact ⟨_, i', rfl, by omega, by go_num, rfl, bR _ _⟩
 case round =>
  obtain ⟨wi, k, rfl, hk, rfl, ha, hE⟩ := hrel;have HA := hQq ha; have HE := hQq hE;clear ha;have hkb : k < t.length := by omega
  obtain ⟨bb, off, va, hex, hbx, _, dk, _⟩ := HV.out.tr k hkb;cases hex;have HGK := hQq (zAl t k hkb);have ck : wi.cell? _ = _ := (eC hE hbx).trans dk;have ci : wi.cell? _ = _ := (eC hE hbi).trans di;have cn : wi.cell? _ = _ := (eC hE hbi).trans ni;have k1 : ((k : Nat) : Int) < (t.length : Int) := by omega
  have k0 : (0 : Int) <= (k : Int) := by omega
  have kw : IntKind.i64.wrap ((k : Int) - 1) = (k : Int) - 1 := IntWalk.i64_in _ (by omega);clear hE dk di ni;by_cases hd : (t[k]'hkb).dep < (t[i]'hi).dep
  case neg =>
   have hR : zEp t (zAa t i).dep (k + 1) = zEp t (zAa t i).dep k := by rw [zEp.eq_2, HGI.out, HGK.out, if_neg hd]
   have hkz : k ≠ 0 := by
    rintro rfl;have h1 := HGE.out;rw [<- HA.out, hR] at h1;exact absurd h1 (by show ¬ (0 : Int) <= -1; decide)
   obtain ⟨k, rfl⟩ : ∃ k', k = k' + 1 := ⟨k - 1, by omega⟩;have HR := hQq hR; clear hR;have hd' : decide ((t[i]'hi).dep <= (t[k + 1]'hkb).dep) = true := decide_eq_true (by omega);go_wp2;go_quiet (fail)
   go_wp2;go_roundw
   case rel => exact ⟨_, k, rfl, by omega, by go_num, by rw [<- HR.out]; exact HA.out, HE.out.trans (eDn _ _)⟩
   case measure => simp [intOf] <;> omega
  have HR : Hid ((k : Int) = abv t i) := hQq (by rw [<- HA.out]; unfold zEp; rw [HGI.out, HGK.out, if_pos hd]);have hd' : decide ((t[i]'hi).dep <= (t[k]'hkb).dep) = false := decide_eq_false (by omega);go_wp2;go_quiet (fail)
  go_wp2;refine nW (P := fun W => Code.wp _ _ _ _ W) _ ?_;intro W hW;have HEW : Hid (Ext w W) := hQq (by rw [hW]; exact HE.out.trans (by first | exact eDn _ _ | exact eD _));clear hW ck ci cn;have hcn : W.cell? ⟨bi, offi + i * 8 + 1, none⟩ = some (.string (t[i]'hi).nm) := (eC HEW.out hbi).trans HNI.out;have HL : Hid ((zAw t k).length <= 1000) := hQq (by have := zDc t k; omega);have HPK : Hid (zAw t i = zAw t k ++ [(t[i]'hi).nm]) := hQq (by rw [HPS.out, <- HR.out, HGI.out]; rfl);go_region_held3 (fun w' => w'.cell? ⟨bi, offi + i * 8 + 1, none⟩ = some (.string (t[i]'hi).nm)) (first | go_keep | skip)
   (first
    | (go_at_call 30; refine (IH.out k hk B _ _ (by first | exact HV.out.ext okT (HEW.out.trans (eD _)) | exact HV.out.ext okT (HEW.out.trans ((eA _ _).trans (eD _)))) hkb).mono ?_; rintro e w1 ⟨⟨a1, n1, cap1, rfl, ho⟩, hb1⟩; have HB1 := hQq hb1; have HO1 := hQq ho; have HE1 : Hid (Ext W w1) := hQq (by first | exact (eD _).trans hb1 | exact ((eA _ _).trans (eD _)).trans hb1); have HO2 : Hid (zAg cdS w.heap.size w1 (.slice a1 n1 cap1) (zAw t k)) := hQq (zAg.le (B' := w.heap.size) ho okS (fun _ _ _ h => h) (by have := HEW.out.size; simp; omega)); have cn1 : w1.cell? ⟨bi, offi + i * 8 + 1, none⟩ = some (.string (t[i]'hi).nm) := (eC (HEW.out.trans HE1.out) hbi).trans HNI.out; clear hb1 ho)
    | (refine zCK okS (.tmp 25) (.tmp 31) (by rfl) (.slice a1 n1 cap1) _ (zAw t k) [(t[i]'hi).nm] w _ (by rfl) (by rfl) (by first | exact HO2.out | exact HO2.out.ext okS (eA _ _)) (by first | exact zAj okS _ (t[i]'hi).nm [.string (t[i]'hi).nm] _ rfl rfl | exact ((zAj okS W (t[i]'hi).nm [.string (t[i]'hi).nm] _ rfl rfl).ext okS (eD _)).ext okS HB1.out) (by first | exact HEW.out.trans HE1.out | exact (HEW.out.trans HE1.out).trans (eA _ _)) (by have := HEW.out.size; have := HE1.out.size; first | omega | (simp; omega)) (by have := HL.out; simp; omega) ?_; intro v5 w3 ha; have HAP := hQq ha; clear ha; have cn3 : w3.cell? ⟨bi, offi + i * 8 + 1, none⟩ = some (.string (t[i]'hi).nm) := (eC HAP.out.below hbi).trans HNI.out)
    | fail)
  all_goals
   go_wp2;obtain ⟨a6, cap6, rfl⟩ := HAP.out.own.form;go_ret;exact ⟨⟨_, _, _, rfl, by rw [HPK.out]; exact HAP.out.own⟩, HAP.out.below⟩
end Go.Proofs.YtbeeoomadnmogaaGreat
namespace Go.Proofs.YtbeeoomadnmogaaGreat
open Go.RowKit
theorem zNI {b:List BrN}(h:awF b=0){u:List TrN}(hu:zAt u=0)(hr:zDH u=zDH (awL b))(hne:u≠awL b):zIp u=([],(zDT u:Int),18):=by
 obtain⟨hk,hL⟩:=zNF h;obtain⟨x,f,e,hs,h0,h1,_⟩:=zDe (zAp hk.br).1;obtain⟨o1,o2⟩:=zMF hk.br hk.dirs e hs h0 h1 hk.len;have hold:zDB u=zDB (zCr (zBk b)):=by unfold zDB;rw[hr,hL]
 have hred:zIk u=b:=by
  unfold zIk;rw[hold,o2];exact zMI (zAp hk.br).1 (zWM hk.br hk.dirs e hs h0 h1)
 unfold zIp;rw[if_neg (by rw[hu];decide),hold,zBl _ 0 (fun j _ hj=>by rw[o1 j (by omega)];rfl)];show (if awF (zIk u)≠0\/zCS (awL (zIk u)) u=false then _ else _)=_;rw[hred,if_pos];right;unfold zCS;rw[decide_eq_false_iff_not];exact fun e=>hne e.symm
def mx2 (t:List TrN)(k:Nat):List TrN:=(t.take k).map (clM (zBd t))++(t.drop k).map (clM fun _=>0)
section
variable {t:List TrN} {k:Nat}
theorem zU4:mx2 t t.length=zCr t:=by unfold mx2 zCr;simp
theorem zGp:(mx2 t k).length=t.length:=by unfold mx2;simp;omega
theorem zTH (hk:k<t.length):(mx2 t k)[k]'(by rw[zGp];exact hk)=clM (fun _=>0) (zAa t k):=by
 unfold mx2;rw[List.getElem_append_right (by simp;omega),zAl t k hk];simp[Nat.min_eq_left (Nat.le_of_lt hk)]
theorem zWe {j:Nat}(hj:j<k)(hk:k<=t.length):(mx2 t k)[j]'(by rw[zGp];omega)=clM (zBd t) (zAa t j):=by
 unfold mx2;rw[List.getElem_append_left (by simp;omega),zAl t j (by omega)];simp
theorem zPM (hk:k<t.length):(mx2 t k).set k (clM (zBd t) (zAa t k))=mx2 t (k+1):=by
 unfold mx2;rw[zAl t k hk,List.set_append_right _ _ (by simp;omega),List.take_succ_eq_append_getElem hk,List.map_append,List.append_assoc];congr 1;rw[List.length_map,List.length_take,Nat.min_eq_left (Nat.le_of_lt hk),Nat.sub_self,List.drop_eq_getElem_cons hk];rfl
theorem zMR (hk:k<t.length)(h:zBd t (zAa t k).cl=0):mx2 t (k+1)=mx2 t k:=by
 have h2:clM (zBd t) (zAa t k)=clM (fun _=>0) (zAa t k):=by unfold clM;rw[h]
 rw[<- zPM hk,h2,<- zTH hk,List.set_getElem_self]
theorem zKA {B:Nat} {w:World} {g n cap:Nat} {c:Int} (h:zAg cdT B w (.slice (some ⟨g,0,none⟩) n cap) (mx2 t k)) (hk:k < t.length) (hc:zBd t (zAa t k).cl=c) :
  zAg cdT B (w.setCell ⟨g,k * 8+7,none⟩ (.int .i64 c)) (.slice (some ⟨g,0,none⟩) n cap) (mx2 t (k+1))/\w.grownBy (w.setCell ⟨g,k * 8+7,none⟩ (.int .i64 c)) (some g):=by
 have hkm:k < (mx2 t k).length:=by rw [zGp];exact hk
 obtain⟨u1,u2,-⟩:=h.store okT k hkm 7 (by decide) (.int .i64 c) (clM (zBd t) (zAa t k)) (fun cs hc2=>by
  rw [zTH hk] at hc2
  obtain⟨va,h1,rfl⟩:=hc2
  exact⟨va,h1,by unfold clM;rw [hc];rfl⟩)
 rw [zPM hk] at u1
 exact⟨u1,u2⟩
/-! The steps of the numbering. -/
theorem zWq {f:Nat}(hk:k<t.length)(_hf:f<=k)(h1:(zAa t f).cl=(zAa t k).cl)(h2:∀j,j<f->(zAa t j).cl≠(zAa t k).cl):zCe t (zAa t k).cl=f:=by
 obtain⟨a1,a2,a3⟩:=zAU hk;rcases Nat.lt_trichotomy (zCe t (zAa t k).cl) f with h|h|h
 ·exact absurd a2 (h2 _ h)
 ·exact h
 ·exact absurd h1 (a3 f h)
theorem zSi (h:(zAa t k).cl=0):zBd t (zAa t k).cl=0/\nfC t (k+1)=nfC t k/\zEm t k=false:=by
 have hm:zDS t (zAa t k).cl=false:=by unfold zDS;rw[h];rfl
 refine⟨by unfold zBd;rw[hm,if_neg (by decide)],by rw[nfC.eq_2];unfold zJt;rw[hm];rfl,by unfold zEm;rw[h];rfl⟩
theorem zU1 {f:Nat}(hf:zCe t (zAa t k).cl=f)(hlt:f<k):nfC t (k+1)=nfC t k:=by
 rw[nfC.eq_2];unfold zJt;rw[hf];have:(f==k)=false:=nB (by omega);rw[this,Bool.and_false];rfl
theorem zPL (hf:zCe t (zAa t k).cl=k)(h0:(zAa t k).cl≠0)(hm:1<zAi t (zAa t k).cl t.length):zBd t (zAa t k).cl=(nfC t k:Int)+1/\nfC t (k+1)=nfC t k+1:=by
 have h:zDS t (zAa t k).cl=true:=by unfold zDS;rw[decide_eq_true h0,decide_eq_true hm];rfl
 refine⟨by unfold zBd;rw[if_pos h,hf],?_⟩;rw[nfC.eq_2];unfold zJt;rw[h,hf,beq_self_eq_true];rfl
theorem zSj (hm:¬1<zAi t (zAa t k).cl t.length):zBd t (zAa t k).cl=0/\nfC t (k+1)=nfC t k:=by
 have h:zDS t (zAa t k).cl=false:=by unfold zDS;rw[decide_eq_false hm,Bool.and_false]
 refine⟨by unfold zBd;rw[h,if_neg (by decide)],?_⟩;rw[nfC.eq_2];unfold zJt;rw[h];rfl
theorem zWI (h0:(zAa t k).cl≠0)(h:(zAa t k).kd=1\/(zAa t k).kd=5):zEm t k=true:=by
 unfold zEm;rw[bne_iff_ne.2 h0];rcases h with h|h<;>rw[h]<;>rfl
theorem zND {b:Bool} {f:Nat} (h0:(zAa t k).cl ≠ 0) (h1:(zAa t k).kd ≠ 1) (h5:(zAa t k).kd ≠ 5) (hf:zCe t (zAa t k).cl=f) (hb:zAT (zAa t f) (zAa t k)=b):zEm t k= !b:=by
 unfold zEm
 rw [bne_iff_ne.2 h0,nB h1,nB h5,hf,hb];rfl
theorem zK0 (hl:¬120<t.length)(h2:zAt (t.map (clM fun _=>0))=0)(hk:k<t.length)(hb:zEm t k=true):zA5 t=([],6):=by
 unfold zA5;rw[if_neg hl,if_neg (by simp[h2]),if_pos (List.any_eq_true.2 ⟨k,List.mem_range.2 hk,hb⟩)]
theorem zS7 (hl:¬120<t.length)(h2:zAt (t.map (clM fun _=>0))=0)(hb:∀j,j<t.length->zEm t j=false):zA5 t=(zCr t,0):=by
 unfold zA5;rw[if_neg hl,if_neg (by simp[h2]),if_neg (by rw[Bool.not_eq_true,List.any_eq_false];intro j hj;rw[List.mem_range]at hj;rw[hb j hj];decide)]
end
end Go.Proofs.YtbeeoomadnmogaaGreat
namespace Go.Proofs.YtbeeoomadnmogaaGreat
open Go.RowKit
theorem zTA (B:Nat)(w:World)(v:Value)(t:List TrN)(hv:zCa B w v t)(hB:B<=w.heap.size)(hl:t.length<=1000)(hats:∀x∈t,x.ats.length<=1000000):
  Calls Tryz.prog 33 #[v] w (zXw zNt w t):=by
 obtain⟨aa,cap,rfl⟩:=hv.form;have HV:=hQq hv;clear hv;have HAT:=hQq hats;clear hats;go_enter Tryz.func33,Tryz.ntmps33;go_wp2;go_loopw [3,4] (fun o i w'=>∃(wi:World) (k:Nat),wi=w'/\k<=t.length/\i= .int .i64 k/\zAg zNt w.heap.size wi o (t.take k)/\Ext w wi) (fun _ i _=>t.length-(intOf i).toNat)
 case atStart=>exact⟨_,0,rfl,Nat.zero_le _,rfl,zAg.nil _ _ _,bR _ _⟩
 case round=>
  obtain⟨wi,k,rfl,hk,rfl,ho,hE⟩:=hrel;obtain⟨l0,hl0⟩:∃l0,l0=t.take k:=⟨_,rfl⟩;rw[<- hl0]at ho;have HO:=hQq ho;have HE:=hQq hE;have HL0:=hQq hl0;obtain⟨a5,cap5,rfl⟩:=ho.form;clear ho hE hl0;by_cases hlt:k<t.length
  case neg=>
   obtain rfl:k=t.length:=by omega
   go_wp2;go_ret;exact⟨⟨_,_,_,rfl,by have:=HO.out;rw[HL0.out,List.take_length]at this ⊢;exact this⟩,HE.out⟩
  obtain⟨bb,off,va,hex,hbx,hva,d0,d1,d2,d3,d4,d5,d6,d7⟩:=(HV.out.ext okT HE.out).tr k hlt;cases hex;have HVA:=hQq hva;obtain⟨a3,cap3,rfl⟩:=hva.form;have HL:Hid ((t[k]'hlt).ats.length<=1000000):=hQq (HAT.out _ (List.getElem_mem hlt));have HS:Hid (t.take (k+1)=l0++ [t[k]'hlt]):=hQq (by rw[HL0.out];exact List.take_succ_eq_append_getElem hlt);generalize t[k]'hlt=x at d0 d1 d2 d3 d4 d5 d6 d7 HVA HL HS;have j1:((k:Nat):Int)<(t.length:Int):=by omega
  have j0:(0:Int)<=(k:Int):=by omega
  have HQ:Hid (l0.length=k):=hQq (by rw[HL0.out,List.length_take];omega);clear hva;go_upto_region 6 with fail
  refine nW (P:=fun W=>Code.wp _ _ _ _ W) _ ?_;intro W6 hW6;have Q6:Hid (W6.heap[wi.heap.size]? = some (.cells #[.int .i64 x.dep,.string x.nm,.int .i64 x.kd,.slice a3 x.ats.length cap3,.string x.dat,.int .i64 x.ma,.int .i64 x.mi,.int .i64 x.cl] 59 (0,0))):=hQq (by rw[hW6];exact bN _ _);have HE6:Hid (Ext wi W6):=hQq (by rw[hW6];exact eA _ _);clear hW6;obtain⟨q0,q1,q2,q3,q4,q5,q6,q7⟩:=b8C Q6.out;have zq:=bL Q6.out;go_upto_region 7 with (first
   | (at_builtin;refine zWS okA rfl (.tmp 16) (.tmp 18) rfl B _ x.ats W6 _ rfl rfl rfl (by exact HVA.out.ext okA HE6.out) (Nat.le_trans hB (HE.out.trans HE6.out).size) (by have:=HL.out;omega) ?_;intro v3 w3 ha;obtain⟨a9,c9,hv3⟩:=ha.own.form;subst hv3;have HA:=hQq ha;have Q3:=hQq (bX ha.ext Q6.out);clear ha q0 q1 q2 q3 q4 q5 q6 q7 zq;obtain⟨q0,q1,q2,q3,q4,q5,q6,q7⟩:=b8C Q3.out;have zq:=bL Q3.out;have fq:=bT Q3.out 3)
   | fail)
  refine nW (P:=fun W=>Code.wp _ _ _ _ W) _ ?_;intro W7 hW7;have HE3:Hid (Ext wi w3):=hQq (Ext.trans HE6.out HA.out.ext);replace hW7:W7=w3.setCell ⟨wi.heap.size,3,none⟩ (.slice a9 x.ats.length c9):=hW7;have Q7:Hid (W7.heap[wi.heap.size]? = some (.cells #[.int .i64 x.dep,.string x.nm,.int .i64 x.kd,.slice a9 x.ats.length c9,.string x.dat,.int .i64 x.ma,.int .i64 x.mi,.int .i64 x.cl] 59 (0,0))):=hQq (by rw[hW7];exact bS Q3.out _);have HE7:Hid (Ext wi W7):=hQq (by rw[hW7];exact Below.setCell (p:=⟨wi.heap.size,3,none⟩) HE3.out (Nat.le_refl _) _);have HA7:Hid (zAH 0 W7 (.slice a9 x.ats.length c9) x.ats):=hQq (by rw[hW7];exact((zAg.le (B':=0) HA.out.own okA (fun _ _ _ h=>h) (Nat.zero_le _)).in okA).chg okA (zQP Q3.out (Nat.zero_le _)) (by decide) (by decide));clear hW7 q0 q1 q2 q3 q4 q5 q6 q7 zq fq d0 d1 d2 d3 d4 d5 d6 d7;obtain⟨q0,q1,q2,q3,q4,q5,q6,q7⟩:=b8C Q7.out;have zq:=bL Q7.out;go_wp2_with (at_builtin;refine zIX zIF rfl (.tmp 21) (.tmp 23) rfl _ _ l0 [x] w _ rfl rfl (by exact(HO.out.ext zIF HE7.out).ext zIF (eA _ _)) (by exact zAj zIF _ x (trC x (.slice a9 x.ats.length c9)) _ rfl ⟨_,HA7.out,rfl⟩) (by exact(HE.out.trans HE7.out).trans (eA _ _)) (by have:=HE7.out.size;have:=HE.out.size;simp;omega) (by have:=HQ.out;simp;omega) ?_;intro v2 w2 ha;have HAP:=hQq ha;clear ha)
  go_roundw
  case rel=>exact⟨_,k+1,rfl,by omega,by go_num,by rw[HS.out];exact HAP.out.own,HAP.out.below⟩
  case measure=>simp[intOf]<;>omega
theorem zYD (B Bp : Nat) (w : World) (v vp : Value) (t : List TrN) (p : List ByteArray) (hb : zCa B w v t) (hp : zBV Bp w vp p) (hlen : t.length <= 1000) (hok : zA1 t t.length) :
    zAs Tryz.prog 97 #[v, vp] w (.int .i64 (zGv (isP t p) t.length)) := by
  unfold zAs;obtain ⟨aa, cap, rfl⟩ := hb.form;obtain ⟨ap, capp, rfl⟩ := hp.form;have HV := hQq hb; have HP := hQq hp; have HOK := hQq hok;clear hb hp hok;go_enter Tryz.func97, Tryz.ntmps97;go_wp2;go_loopw [5] (fun i w' => ∃ (wi : World) (k : Nat), wi = w' /\ k <= t.length /\ i = .int .i64 k /\ (∀ j, j < k -> isP t p j = false) /\ Ext w wi) (fun i _ => t.length - (intOf i).toNat)
  case atStart => exact ⟨_, 0, rfl, Nat.zero_le _, rfl, fun j hj => absurd hj (by omega), bR _ _⟩
  case round =>
    obtain ⟨wi, k, rfl, hk, rfl, hno, hE⟩ := hrel;have HN := hQq hno; have HE := hQq hE;clear hno hE;by_cases hlt : k < t.length
    case neg =>
      obtain rfl : k = t.length := by omega
      go_wp2;go_ret;exact ⟨by rw [zBY HN.out]; rfl, HE.out⟩
    have j1 : ((k : Nat) : Int) < (t.length : Int) := by omega
    have j0 : (0 : Int) <= (k : Int) := by omega
    have HPT : Hid (∀ W, Ext w W -> Calls Tryz.prog 30 #[.slice aa t.length cap, .int .i64 k] W (zXw cdS W (zAw t k))) := hQq (fun W h => zUK t hlen HOK.out k B W _ (HV.out.ext okT h) hlt);cases hq : isP t p k
    all_goals
      have HQ := hQq hq;have HSM : Hid (∀ W u B', Ext w W -> zAh cdS B' W u (zAw t k) -> zAs Tryz.prog 62 #[u, .slice ap p.length capp] W (.bool (decide (zAw t k = p)))) := hQq (fun W u _ h1 h2 => zMy u _ _ p W h2.strs (HP.out.ext okS h1).strs (by have := zDc t k; omega));unfold isP at hq;rw [hq] at HSM;clear hq;go_wp2_with (first
        | (go_at_call 30; refine (HPT.out _ HE.out).mono ?_; rintro e w3 ⟨⟨a3, n3, c3, rfl, ho3⟩, hb3⟩; have HO3 := hQq (ho3.in okS); have HE3 := hQq (HE.out.trans hb3); clear ho3 hb3)
        | (go_at_call 62; refine (HSM.out _ _ _ HE3.out HO3.out).mono ?_; rintro e w4 ⟨rfl, hb4⟩; have HE4 := hQq (HE3.out.trans hb4); clear hb4)
        | fail)
      first
        | (go_roundw
           case rel => exact ⟨_, k + 1, rfl, by omega, by go_num, fun j hj => by
             by_cases e : j = k
             · subst e; exact HQ.out
             · exact HN.out j (by omega), HE4.out⟩
           case measure => simp [intOf] <;> omega)
        | (go_ret
           exact ⟨by rw [zBP hlt HN.out HQ.out]; rfl, HE4.out⟩)
theorem zV3 (B Bp:Nat)(w:World)(v vp:Value)(t:List TrN)(p:List ByteArray)(hb:zCa B w v t)(_hB:B<=w.heap.size)(hp:zBV Bp w vp p)(hsm:zAI t)(h0:zAt t=0)(hpe:zAR p=0)(hps:∀s∈p,s.size<=zD2)(hlen:t.length<=1000):
  zAs Tryz.prog 28 #[v,vp] w (.tuple #[.int .i64 (zKJ t p).1,.int .i64 (zKJ t p).2]):=by
 unfold zAs;obtain⟨aa,cap,rfl⟩:=hb.form;obtain⟨ap,capp,rfl⟩:=hp.form;have HCK:Hid (∀W,Ext w W->zAs Tryz.prog 25 #[.slice aa t.length cap] W (.tuple #[.int .i64 (zFc t),.int .i64 0])):=hQq (fun W h=>by have:=zEz B _ t W (hb.ext okT h) hsm;rw[h0]at this;exact this);have HPC:Hid (∀W,Ext w W->Ret Tryz.prog 96 #[.slice ap p.length capp] W (.int .i64 0)):=hQq (fun W h=>by have:=zCY _ p W (hp.ext okS h).strs hps;rw[hpe]at this;exact this);have HAT:Hid (∀W,Ext w W->zAs Tryz.prog 97 #[.slice aa t.length cap,.slice ap p.length capp] W (.int .i64 (zGv (isP t p) t.length))):=hQq (fun W h=>zYD B Bp W _ _ t p (hb.ext okT h) (hp.ext okS h) hlen (zAf h0).2.2.1);clear hb hp hsm h0 hpe hps;unfold zKJ;go_enter Tryz.func28,Tryz.ntmps28;generalize zGv (isP t p) t.length=ix at HAT ⊢;by_cases hi:ix<0
 all_goals
  first|rw[if_pos hi]|rw[if_neg hi]
  go_wp2_with (first
   | (go_at_call 25;refine(HCK.out _ (bR _ _)).mono ?_;rintro e w1 ⟨rfl,hb1⟩;have HB1:=hQq hb1;clear hb1)
   | (go_at_call 96;refine(HPC.out _ HB1.out).mono ?_;rintro e w2 ⟨rfl,rfl⟩)
   | (go_at_call 97;refine(HAT.out _ HB1.out).mono ?_;rintro e w3 ⟨rfl,hb3⟩;have HB3:=hQq (Ext.trans HB1.out hb3);clear hb3)
   | fail)
  go_ret2;exact⟨rfl,HB3.out⟩
structure CnR (w:World) (v:Value) (t:List TrN) (k:Nat) (W:World):Prop where
 own:zAg cdT w.heap.size W v (mx2 t k)
 ok:∀j,j<k->zEm t j=false
 ext:Ext w W
theorem zKk {P:Program}{ops:Array Oper}{o:Oper}{a:Act}{w:World}{Kx:Act->World->Prop}{Q:Exit->Act->World->Prop}{E:Prop}(hgd:o.guard=none)(h:Oper.wp P o a w Kx Q):if Region.wanted o (yielded ops a.tmps)=true then Oper.wp P o a w Kx Q else E:=by
 rw[if_pos (by simp[Region.wanted,hgd])];exact h
end Go.Proofs.YtbeeoomadnmogaaGreat
namespace Go.Proofs.YtbeeoomadnmogaaGreat
open Go.RowKit
theorem zUH (B:Nat)(w:World)(v:Value)(t:List TrN)(ht:zCa B w v t)(hB:B<=w.heap.size)(hsm:zAI t):
  Calls Tryz.prog 73 #[v] w (zRD w (zA5 t)):=by
 obtain⟨aa,cap,rfl⟩:=ht.form;have HV:=hQq ht;have HSM:=hQq hsm;have hat:∀x∈t,x.ats.length<=1000000:=fun x hx=>(hsm x hx).2.2;have HCT:Hid (t.length<=1000->∀c W,Ext w W->zAs Tryz.prog 93 #[.slice aa t.length cap,.int .i64 c] W (.int .i64 (zAi t c t.length:Nat))):=hQq (fun hl c W h=>zJi B _ t c W (ht.ext okT h) hl);clear ht hsm;by_cases hl:120<t.length
 ·have HR:=hQq (zF9 hl);have q1:decide ((120:Int)<(t.length:Int))=true:=decide_eq_true (by omega);go_enter Tryz.func73,Tryz.ntmps73;go_wp2;go_ret2;exact zDo HR.out (bR _ _)
 have HL:=hQq hl;have hl2:t.length<=120:=by omega
 have q1:decide ((120:Int)<(t.length:Int))=false:=decide_eq_false (by omega);have HAT:=hQq hat;clear hl hat;go_enter Tryz.func73,Tryz.ntmps73;go_wp2_with (go_at_call 33;refine(zTA B w _ t HV.out hB (by omega) HAT.out).mono ?_;rintro e w1 ⟨⟨a6,n6,cap6,rfl,ho⟩,hb1⟩;obtain⟨a6',cap6',e6⟩:=ho.form;cases e6;have HO:=hQq (ho.to (Nat.le_refl _));have HB1:=hQq hb1;clear ho hb1)
 go_loopw [5] (fun i w'=>∃(wi:World) (k:Nat),wi=w'/\k<=t.length/\i= .int .i64 k/\zAg cdT w.heap.size wi (.slice a6 t.length cap6) (zJ8 (fun _=>0) t k)/\Ext w wi) (fun i _=>t.length-(intOf i).toNat)
 case atStart=>exact⟨_,0,rfl,Nat.zero_le _,rfl,HO.out,HB1.out⟩
 case round=>
  clear HO HB1;obtain⟨wi,k,rfl,hk,rfl,ho,hE⟩:=hrel;have HO:=hQq ho;have HE:=hQq hE;clear hE;by_cases hlt:k<t.length
  case pos=>
   have k1:((k:Nat):Int)<(t.length:Int):=by omega
   have k0:(0:Int)<=(k:Int):=by omega
   obtain⟨g,rfl,hg1,hg2,-⟩:=ho.addr (by rw[zD1];omega);have f5:∀j,wi.frozen? ⟨g,j,none⟩=false:=fun j=>ho.frozen j;obtain⟨b,off,va,hex,hbx,hva,c0,c1,c2,c3,c4,c5,c6,c7⟩:=(ho.in okT).tr k (by rw[zD1];exact hlt);cases hex;rw[Nat.zero_add]at c7;have HLT:=hQq hlt;clear c0 c1 c2 c3 c4 c5 c6 hva ho;go_wp2;obtain⟨u1,u2⟩:=zDL HO.out HLT.out;go_roundw
   case rel=>exact⟨_,k+1,rfl,by omega,by go_num,u1,Below.grown HE.out u2 HE.out.size (fun q e=>by injection e with e;subst e;exact hg1)⟩
   case measure=>simp[intOf]<;>omega
  obtain rfl:k=t.length:=by omega
  clear ho;have HO2:Hid (zAg cdT w.heap.size wi (.slice a6 t.length cap6) (mx2 t 0)):=hQq (by have h:=HO.out;rw[zJu]at h;exact h);have HP:Hid (zCa w.heap.size wi (.slice a6 t.length cap6) (t.map (clM fun _=>0))):=hQq (HO2.out.in okT);clear HO;have HSP:Hid (zAI (t.map (clM fun _=>0))):=hQq (zKl HSM.out);have HC:Hid (∀W,Ext wi W->zAs Tryz.prog 25 #[.slice a6 t.length cap6] W (.tuple #[.int .i64 (zFc (t.map (clM fun _=>0))),.int .i64 (zAt (t.map (clM fun _=>0)))])):=hQq (fun W he=>by
   have h:=HP.out.ext okT he;exact zEz w.heap.size _ _ W h HSP.out)
  by_cases h2:zAt (t.map (clM fun _=>0))=0
  case neg=>
   have HR:=hQq (zHh HL.out h2);have q2:(zAt (t.map (clM fun _=>0)) != 0)=true:=bne_iff_ne.2 h2;clear h2;generalize zAt (t.map (clM fun _=>0))=ee at *;go_wp2_with (go_at_call 25;refine(HC.out wi (bR _ _)).mono ?_;rintro e w5 ⟨rfl,hb5⟩;have HB5:Hid (Ext w w5):=hQq (HE.out.trans hb5);clear hb5)
   go_ret2;exact zDo HR.out HB5.out
  have H2:=hQq h2;rw[h2]at HC;clear h2;go_wp2_with (go_at_call 25;refine(HC.out wi (bR _ _)).mono ?_;rintro e w5 ⟨rfl,hb5⟩;have HB5:Hid (Ext w w5):=hQq (HE.out.trans hb5);have HO5:=hQq (HO2.out.ext okT hb5);clear hb5)
  go_loopw [8,9] (fun n i w'=>∃(wj:World) (k:Nat),wj=w'/\k<=t.length/\i= .int .i64 k/\n= .int .i64 (nfC t k:Nat)/\CnR w (.slice a6 t.length cap6) t k wj) (fun _ i _=>t.length-(intOf i).toNat)
  case atStart=>exact⟨_,0,rfl,Nat.zero_le _,rfl,rfl,HO5.out,fun j hj=>absurd hj (by omega),HB5.out⟩
  case round=>
   clear HO2 HP HSP HC HB5 HO5 HE;obtain⟨wj,k,rfl,hk,rfl,rfl,hr⟩:=hrel;have HR:=hQq hr;clear hr;by_cases hlt:k<t.length
   case neg=>
    obtain rfl:k=t.length:=by omega
    have HX:=hQq (zS7 HL.out H2.out HR.out.ok);go_wp2;go_ret2;refine⟨⟨a6,cap6,w.heap.size,by rw[HX.out,show (zCr t).length=t.length from List.length_map ..];rfl,Nat.le_refl _,HR.out.ext.size,?_⟩,HR.out.ext⟩;rw[HX.out,show (zCr t).length=t.length from List.length_map ..];have h:=HR.out.own;rw[zU4]at h;exact h
   have HLT:=hQq hlt;have k1:((k:Nat):Int)<(t.length:Int):=by omega
   have k0:(0:Int)<=(k:Int):=by omega
   obtain⟨b,off,va,hex,hbx,hva,c0,c1,c2,c3,c4,c5,c6,c7⟩:=(HV.out.ext okT HR.out.ext).tr k hlt;cases hex;have HGX:=hQq (zAl t k hlt);generalize t[k]'hlt=x at c0 c1 c2 c3 c4 c5 c6 c7 hva HGX;have HBD:Hid ((nfC t k:Nat)<=k):=hQq (zPJ t k);by_cases h0:x.cl=0
   case pos=>
    have HN:=hQq (zSi (t:=t) (k:=k) (by rw[HGX.out];exact h0));have q7:(x.cl==0)=true:=beq_iff_eq.2 h0;go_wp2;go_roundw
    case rel=>exact⟨_,k+1,rfl,by omega,by go_num,by rw[HN.out.2.1],⟨by rw[zMR HLT.out HN.out.1];exact HR.out.own,fun j hj=>by
     by_cases e:j=k
     ·subst e;exact HN.out.2.2
     ·exact HR.out.ok j (by omega),HR.out.ext⟩⟩
    case measure=>simp[intOf]<;>omega
   have H0:Hid ((zAa t k).cl≠0):=hQq (by rw[HGX.out];exact h0);have q7:(x.cl==0)=false:=nB h0;clear h0;by_cases h15:x.kd=1\/x.kd=5
   case pos=>
    have HX:=hQq (zK0 HL.out H2.out HLT.out (zWI H0.out (by rw[HGX.out];exact h15)));rcases h15 with h|h
    ·have q8:(x.kd==1)=true:=beq_iff_eq.2 h;clear h;go_wp2;go_ret2;exact zDo HX.out HR.out.ext
    ·have q8:(x.kd==1)=false:=by rw[h];rfl
     have q9:(x.kd==5)=true:=beq_iff_eq.2 h;clear h;go_wp2;go_ret2;exact zDo HX.out HR.out.ext
   have H1:Hid ((zAa t k).kd≠1):=hQq (by rw[HGX.out];exact fun h=>h15 (.inl h));have H5:Hid ((zAa t k).kd≠5):=hQq (by rw[HGX.out];exact fun h=>h15 (.inr h));have q8:(x.kd==1)=false:=nB (fun h=>h15 (.inl h));have q9:(x.kd==5)=false:=nB (fun h=>h15 (.inr h));clear h15;have HCE:=hQq c7;have HBX:=hQq hbx;have jw:IntKind.i64.wrap ((k:Int)-1)=(k:Int)-1:=IntWalk.i64_in _ (by omega);go_wp2;go_loopw [10,11] (fun f m w'=>∃(wl:World) (fn:Nat) (mi:Int),wl=w'/\f= .int .i64 fn/\m= .int .i64 mi/\ -1<=mi/\mi<k/\fn<=k/\mi<fn/\(zAa t fn).cl=x.cl/\(∀j:Nat,mi<j->j<fn->(zAa t j).cl≠x.cl)/\Ext wj wl) (fun _ m _=>(intOf m+1).toNat)
   case atStart=>exact⟨_,k,(k:Int)-1,rfl,rfl,by go_num,by omega,by omega,Nat.le_refl _,by omega,by rw[HGX.out],fun j h1 h2=>by omega,bR _ _⟩
   case round=>
    obtain⟨wl,fn,mi,rfl,rfl,rfl,hm1,hmk,hfk,hmf,hcf,hno,hEl⟩:=hrel;have HNO:=hQq hno;have HEL:=hQq hEl;have HCF:=hQq hcf;clear hno hEl hcf;by_cases hmz:0<=mi
    case pos=>
     obtain⟨m,rfl⟩:∃m:Nat,mi=m:=⟨mi.toNat,by omega⟩;have hml:m<t.length:=by omega
     obtain⟨b2,off2,va2,hex2,hbx2,hva2,d0,d1,d2,d3,d4,d5,d6,d7⟩:=(HV.out.ext okT HR.out.ext).tr m hml;cases hex2;have HGY:=hQq (zAl t m hml);generalize t[m]'hml=y at d0 d1 d2 d3 d4 d5 d6 d7 hva2 HGY;have e7:=(eC HEL.out hbx2).trans d7;have e7x:=(eC HEL.out HBX.out).trans HCE.out;have m1:((m:Nat):Int)<(t.length:Int):=by omega
     have mw:IntKind.i64.wrap ((m:Int)-1)=(m:Int)-1:=IntWalk.i64_in _ (by omega);clear d0 d1 d2 d3 d4 d5 d6 d7 hva2 hbx2 c0 c1 c2 c3 c4 c5 c6 c7;cases hq:(y.cl==x.cl)
     all_goals
      have HQ:=hQq hq;go_wp2_with fail
      go_quiet (fail)
      go_wp2_with fail
      go_roundw
     ·exact⟨_,fn,(m:Int)-1,rfl,rfl,by go_num,by omega,by omega,hfk,by omega,HCF.out,fun j h1 h2=>by
       by_cases e:j=m
       ·subst e;rw[HGY.out];exact beq_eq_false_iff_ne.1 HQ.out
       ·exact HNO.out j (by omega) h2,HEL.out.trans (eDn _ _)⟩
     ·first|(simp[intOf];done)|(simp[intOf];omega)
     ·exact⟨_,m,(m:Int)-1,rfl,rfl,by go_num,by omega,by omega,by omega,by omega,by rw[HGY.out];exact beq_iff_eq.1 HQ.out,fun j h1 h2=>by omega,HEL.out.trans (eDn _ _)⟩
     ·first|(simp[intOf];done)|(simp[intOf];omega)
    obtain rfl:mi= -1:=by omega
    have HFS:=hQq (zWq (f:=fn) HLT.out hfk (by rw[HCF.out,HGX.out]) (fun j hj=>by rw[HGX.out];exact HNO.out j (by omega) hj));have hfl:fn<t.length:=by omega
    obtain⟨b2,off2,va2,hex2,hbx2,hva2,d0,d1,d2,d3,d4,d5,d6,d7⟩:=(HV.out.ext okT HR.out.ext).tr fn hfl;cases hex2;have HGY:=hQq (zAl t fn hfl);have HYL:Hid ((t[fn]'hfl).ats.length<=1000000):=hQq (HSM.out _ (List.getElem_mem hfl)).2.2;generalize t[fn]'hfl=y at d0 d1 d2 d3 d4 d5 d6 d7 hva2 HGY HYL;obtain⟨y0,y1,y2,y3,y4,y5,y6,y7⟩:=zAB HEL.out hbx2 ⟨d0,d1,d2,d3,d4,d5,d6,d7⟩;obtain⟨x0,x1,x2,x3,x4,x5,x6,x7⟩:=zAB HEL.out HBX.out ⟨c0,c1,c2,c3,c4,c5,c6,c7⟩;have HLK:Hid (∀W,Ext wl W->zAs Tryz.prog 95 #[trV y va2,trV x va] W (.bool (zAT y x))):=hQq (fun W h=>zHv y x _ _ W ((hva2.ext okA (HEL.out.trans h)).attrs) ((hva.ext okA (HEL.out.trans h)).attrs) HYL.out);have HLX:Hid (zAT (zAa t fn) (zAa t k)=zAT y x):=hQq (by rw[HGY.out,HGX.out]);have f1:((fn:Nat):Int)<(t.length:Int):=by omega
    have f0:(0:Int)<=(fn:Int):=by omega
    clear c0 c1 c2 c3 c4 c5 c6 c7 d0 d1 d2 d3 d4 d5 d6 d7 hva hva2;cases hq:zAT y x
    case false=>
     have HX:=hQq (zK0 HL.out H2.out HLT.out (by rw[zND H0.out H1.out H5.out HFS.out (HLX.out.trans hq)];rfl));rw[hq]at HLK;clear hq;go_wp2_with fail
     go_region_with (first|(go_at_call 95;refine(HLK.out _ (by first|exact eDn _ _|exact bR _ _)).mono ?_;rintro e w5 ⟨rfl,hb5⟩;have HB5:Hid (Ext wl w5):=hQq (Ext.trans (by first|exact eDn _ _|exact bR _ _) hb5);clear hb5)|fail)
     all_goals
      go_wp2_with fail
      go_ret2;exact zDo HX.out ((HR.out.ext.trans HEL.out).trans HB5.out)
    have HB0:=hQq (zND H0.out H1.out H5.out HFS.out (HLX.out.trans hq));rw[hq]at HLK;clear hq;have HOJ:=hQq HR.out.own;obtain⟨g,rfl,hg1,hg2,-⟩:=HR.out.own.addr (by rw[zGp];omega);have HG1:=hQq hg1;go_wp2_with fail
    go_cut [89] (fun s wx=>s= .bool false/\Ext wl wx)
    case first=>
     clear hg1 hg2;go_region_with (first|(go_at_call 95;refine(HLK.out _ (by first|exact eDn _ _|exact bR _ _)).mono ?_;rintro e w5 ⟨rfl,hb5⟩;have HB5:Hid (Ext wl w5):=hQq (Ext.trans (by first|exact eDn _ _|exact bR _ _) hb5);clear hb5)|fail)
     all_goals
      go_wp2_with fail
      go_meet;exact⟨rfl,HB5.out⟩
    case rest=>
    obtain⟨rfl,hE5⟩:=hcut;obtain⟨w5,hw5⟩:∃w5,w5=wc:=⟨_,rfl⟩;subst hw5;have HE5:Hid (Ext w w5):=hQq ((HR.out.ext.trans HEL.out).trans hE5);have HO5:=hQq (HOJ.out.ext okT (HEL.out.trans hE5));have f5:∀j,w5.frozen? ⟨g,j,none⟩=false:=fun j=>HO5.out.frozen j;obtain⟨b3,off3,va3,hex3,hbx3,hva3,z0,z1,z2,z3,z4,z5,z6,z7⟩:=(HO5.out.in okT).tr k (by rw[zGp];exact hlt);cases hex3;rw[Nat.zero_add]at z7;clear z0 z1 z2 z3 z4 z5 z6 hva3 hg1 hg2;have HXI:=hQq ((HV.out.ext okT HE5.out));obtain⟨b4,off4,va4,hex4,hbx4,hva4,v0,v1,v2,v3,v4,v5,v6,v7⟩:=HXI.out.tr k hlt;cases hex4;rw[<- zAl t k hlt,HGX.out]at v7;clear v0 v1 v2 v3 v4 v5 v6 hva4 hE5;clear x0 x1 x2 x3 x4 x5 x6 x7 y0 y1 y2 y3 y4 y5 y6 y7;by_cases hfk2:fn<k
    case pos=>
     have q10:decide ((fn:Int)<(k:Int))=true:=decide_eq_true (by omega);have hfm:fn<(mx2 t k).length:=by rw[zGp];omega
     obtain⟨b6,off6,va6,hex6,hbx6,hva6,u0,u1,u2,u3,u4,u5,u6,u7⟩:=(HO5.out.in okT).tr fn hfm;cases hex6;rw[Nat.zero_add,zWe hfk2 (by omega),show (clM (zBd t) (zAa t fn)).cl=zBd t (zAa t k).cl from by show zBd t (zAa t fn).cl=_;rw[HCF.out,HGX.out]]at u7;have HNF:=hQq (zU1 HFS.out hfk2);clear u0 u1 u2 u3 u4 u5 u6 hva6;obtain⟨nc,hnc⟩:∃nc,nc=zBd t (zAa t k).cl:=⟨_,rfl⟩;rw[<- hnc]at u7;have HNC:=hQq hnc;clear hnc;go_wp2;obtain⟨s1,s2⟩:=zKA HO5.out HLT.out HNC.out.symm;go_roundw
     case rel=>exact⟨_,k+1,rfl,by omega,by go_num,by rw[HNF.out],⟨s1,fun j hj=>by
      by_cases e:j=k
      ·subst e;exact HB0.out
      ·exact HR.out.ok j (by omega),Below.grown HE5.out s2 HE5.out.size (fun q e=>by injection e with e;subst e;exact HG1.out)⟩⟩
     case measure=>simp[intOf]<;>omega
    obtain rfl:fn=k:=by omega
    have q10:decide ((fn:Int)<(fn:Int))=false:=decide_eq_false (by omega);have HBN:Hid (nfC t fn<=1000):=hQq (by have:=HBD.out;omega);have HLB:Hid (t.length<=1000):=hQq (by omega);by_cases hm:1<zAi t (zAa t fn).cl t.length
    case pos=>
     have HN:=hQq (zPL HFS.out H0.out hm);rw[HGX.out]at hm;have q11:decide ((1:Int)<((zAi t x.cl t.length:Nat):Int))=true:=decide_eq_true (by omega);generalize hcn:zAi t x.cl t.length=cn at q11;have HCN:=hQq hcn;have HCC:Hid (∀W,Ext w W->zAs Tryz.prog 93 #[.slice (some ⟨b,off,none⟩) t.length cap,.int .i64 x.cl] W (.int .i64 (cn:Nat))):=hQq (fun W h=>by have:=HCT.out HLB.out x.cl W h;rw[hcn]at this;exact this);clear hcn hm;generalize hnn:nfC t fn=nn;have HNN:=hQq hnn;clear hnn;have w1:IntKind.i64.wrap ((nn:Int)+1)=(nn:Int)+1:=IntWalk.i64_in _ (by have:=HBN.out;have:=HNN.out;omega);go_upto_region 29 with (first|(go_at_call 93;refine(HCC.out _ HE5.out).mono ?_;rintro e w6 ⟨rfl,hb6⟩;have HB6:=hQq hb6;clear hb6)|fail)
     have HO6:=hQq (HO5.out.ext okT HB6.out);have f6:∀j,w6.frozen? ⟨g,j,none⟩=false:=fun j=>HO6.out.frozen j;have z8:=(eC HB6.out hbx3).trans z7;have hb8:=Nat.lt_of_lt_of_le hbx3 HB6.out.size;clear z7 f5;go_wp2;obtain⟨s1,s2⟩:=zKA HO6.out HLT.out (c:=(nn:Int)+1) (by rw[HN.out.1,HNN.out]);go_roundw
     case rel=>exact⟨_,fn+1,rfl,by omega,by go_num,by rw[HN.out.2,HNN.out];rfl,⟨s1,fun j hj=>by
      by_cases e:j=fn
      ·subst e;exact HB0.out
      ·exact HR.out.ok j (by omega),Below.grown (Ext.trans HE5.out HB6.out) s2 (Ext.trans HE5.out HB6.out).size (fun q e=>by injection e with e;subst e;exact HG1.out)⟩⟩
     case measure=>simp[intOf]<;>omega
    have HN:=hQq (zSj hm);rw[HGX.out]at hm;have q11:decide ((1:Int)<((zAi t x.cl t.length:Nat):Int))=false:=decide_eq_false (by omega);generalize hcn:zAi t x.cl t.length=cn at q11;have HCC:Hid (∀W,Ext w W->zAs Tryz.prog 93 #[.slice (some ⟨b,off,none⟩) t.length cap,.int .i64 x.cl] W (.int .i64 (cn:Nat))):=hQq (fun W h=>by have:=HCT.out HLB.out x.cl W h;rw[hcn]at this;exact this);clear hcn hm;go_wp2_with (first|(go_at_call 93;refine(HCC.out _ HE5.out).mono ?_;rintro e w6 ⟨rfl,hb6⟩;have HB6:=hQq hb6;clear hb6)|fail)
    go_roundw
    case rel=>exact⟨_,fn+1,rfl,by omega,by go_num,by rw[HN.out.2],⟨by rw[zMR HLT.out HN.out.1];exact HO5.out.ext okT HB6.out,fun j hj=>by
     by_cases e:j=fn
     ·subst e;exact HB0.out
     ·exact HR.out.ok j (by omega),Ext.trans HE5.out HB6.out⟩⟩
    case measure=>simp[intOf]<;>omega
theorem zV4 (B Bp:Nat)(w:World)(v vp:Value)(t:List TrN)(p:List ByteArray)(i:Nat)(hb:zCa B w v t)(hp:zBV Bp w vp p)(hB:B<=w.heap.size)(hsm:zAI t)(h0:zAt t=0)(hpe:zAR p=0)(hps:∀s∈p,s.size<=zD2)(hlen:t.length<=1000)(hf:zKJ t p=((i:Int),0))(hi0:0<i)(hi:i<t.length):
  Calls Tryz.prog 31 #[v,vp] w (zRD w (zA5 (zAM t i))):=by
 obtain⟨aa,cap,rfl⟩:=hb.form;obtain⟨ap,capp,rfl⟩:=hp.form;have HFD:=hQq (zV3 B Bp w _ _ t p hb hB hp hsm h0 hpe hps hlen);rw[hf]at HFD;have HV:=hQq hb;have HSM:=hQq hsm;clear hb hp hsm h0 hpe hf hps;have q1:((i:Int)==0)=false:=nB (by omega);have hw1:IntKind.i64.wrap ((i:Int)+1)=((i+1:Nat):Int):=by rw[IntKind.wrap_i64];omega
 go_enter Tryz.func31,Tryz.ntmps31;go_wp2_with (go_at_call 28;refine HFD.out.mono ?_;rintro e w1 ⟨rfl,hb1⟩;have HB1:=hQq hb1;clear hb1)
 go_loopw [8] (fun q w'=>∃(wi:World) (k:Nat),wi=w'/\k<=zH4 t i/\q= .int .i64 ((i+1+k:Nat))/\Ext w wi) (fun q _=>t.length-(intOf q).toNat)
 case atStart=>exact⟨_,0,rfl,Nat.zero_le _,rfl,HB1.out⟩
 case round=>
  clear HB1;obtain⟨wi,k,rfl,hk,rfl,hE⟩:=hrel;have HB9:=hQq hE;clear hE;have hbe:=zH3 t i hi;obtain⟨bb,off,va,hex,hbx,-,c0,-⟩:=(HV.out.ext okT HB9.out).tr i hi;cases hex;rw[<- zAl t i hi]at c0;have hcap:t.length<=cap:=by obtain⟨_,_,e,h,_⟩:=HV.out;cases e;exact h
  have k1:((i:Nat):Int)<(t.length:Int):=by omega
  have k0:(0:Int)<=(i:Int):=by omega
  by_cases hlt:k<zH4 t i
  ·obtain⟨hb2,hd⟩:=zL4 hlt;obtain⟨_,_,_,e2,_,-,d0,-⟩:=(HV.out.ext okT HB9.out).tr (i+1+k) hb2;cases e2;generalize (t[i+1+k]'hb2).dep=dp at d0 hd;obtain⟨e,he⟩:∃e,e=i+1+k:=⟨_,rfl⟩;have HEQ:=hQq he;rw[<- he]at d0 hb2 ⊢;clear he;have k2:((e:Nat):Int)<(t.length:Int):=by omega
   have k3:(0:Int)<=(e:Int):=by omega
   have q5:decide ((zAa t i).dep<dp)=true:=decide_eq_true hd;go_wp2;go_quiet (fail)
   go_wp2;go_roundw
   case rel=>exact⟨_,k+1,rfl,hlt,by have:=HEQ.out;subst this;go_num,by first|exact HB9.out|exact HB9.out.trans (eD _)|exact HB9.out.trans (eDn _ _)⟩
   case measure=>simp[intOf]<;>omega
  obtain rfl:k=zH4 t i:=by omega
  obtain⟨e,he⟩:∃e,e=i+1+zH4 t i:=⟨_,rfl⟩;have hce:=zQG t i;have hno:=@zQ3 t i;rw[<- he]at hce hbe ⊢;have HCE:=hQq hce;have hno2:∀h:e<t.length,¬(zAa t i).dep<(t[e]'h).dep:=by subst he;exact hno
  clear hce hno hlt hk he;have k3:(0:Int)<=(e:Int):=by omega
  rcases Nat.lt_or_ge e t.length with hb2|hb2
  case' inl=>
   obtain⟨_,_,_,e2,_,-,d0,-⟩:=(HV.out.ext okT HB9.out).tr e hb2;cases e2;have hd:=hno2 hb2;generalize (t[e]'hb2).dep=dp at d0 hd;have k2:((e:Nat):Int)<(t.length:Int):=by omega
   have q5:decide ((zAa t i).dep<dp)=false:=decide_eq_false hd;clear hno2 hd
  case' inr=>
   have hee:e=t.length:=by omega
   have q5:decide ((e:Int)<(t.length:Int))=false:=decide_eq_false (by omega);have q7:decide (e<t.length)=false:=decide_eq_false (by omega);clear hno2 hee
  all_goals
   go_wp2;go_quiet (fail)
   go_wp2;refine nW (P:=fun W=>Code.wp _ _ _ _ W) _ ?_;intro W9 hW9;have HB10:Hid (Ext wi W9):=hQq (by rw[hW9];first|exact bR _ _|exact eD _|exact eDn _ _);replace HB9:=hQq (Ext.trans HB9.out HB10.out);have hi2:(i:Int)<=(cap:Int):=by omega
   clear hW9 c0 q1 hw1 q5 hb2;try clear q7
   obtain⟨a5,ha5⟩:∃a5:Option Addr,a5=(if cap=e then some ⟨bb,off,none⟩else some ⟨bb,off+e*8,none⟩):=⟨_,rfl⟩;obtain⟨TL,hTL⟩:∃TL,TL=t.take i:=⟨_,rfl⟩;have HLL:Hid (TL.length=i):=hQq (by rw[hTL,List.length_take];omega);have HCP:Hid (∀V,Ext W9 V->Calls Tryz.prog 33 #[.slice (some ⟨bb,off,none⟩) i cap] V (fun e w'=>(∃a c,e= .returned (.slice a TL.length c)/\zAg cdT w.heap.size w' (.slice a TL.length c) TL)/\Ext V w')):=hQq (fun V hV=>by
    have h1:=zCx (HV.out.ext okT (Ext.trans HB9.out hV)) 0 i (by omega) cap (by omega) off (by simp);rw[List.drop_zero,<- hTL]at h1;refine(zTA B V _ TL h1 (Nat.le_trans hB (Ext.trans HB9.out hV).size) (by have:=HLL.out;omega) (fun x hx=>(HSM.out x (by rw[hTL]at hx;exact List.mem_of_mem_take hx)).2.2)).mono ?_;rintro e5 w5 ⟨⟨a,n,c,rfl,ho⟩,hb⟩;obtain⟨a',c',e'⟩:=ho.form;cases e';exact⟨⟨_,_,rfl,ho.to (Ext.trans HB9.out hV).size⟩,hb⟩)
   have HDR:Hid (∀V,Ext W9 V->zCa B V (.slice a5 (t.length-e) (cap-e)) (t.drop e)):=hQq (fun V hV=>by
    exact zHG (HV.out.ext okT (Ext.trans HB9.out hV)) e (by omega) (by rw[ha5,Addr.add_lit];rfl))
   have HCN:Hid (∀V v B2,B2<=V.heap.size->zCa B2 V v (zAM t i)->Calls Tryz.prog 73 #[v] V (zRD V (zA5 (zAM t i)))):=hQq (fun V v B2 h1 h2=>zUH B2 V v _ h2 h1 (fun x hx=>HSM.out x (by
    rw[HCE.out]at hx;rcases List.mem_append.1 hx with h|h
    ·exact List.mem_of_mem_take h
    ·exact List.mem_of_mem_drop h)))
   rw[<- hTL]at HCE;have hfa5:(if cap=e then some ({block:=bb,off:=off,spot:=none}:Addr)else some {block:=bb,off:=off+e*8,spot:=none})=a5:=ha5.symm;clear ha5 hTL;go_region_law (first
    | (refine zKk (by rfl) ?_;unfold Oper.wp;go_simp;go_at_call 33;refine(HCP.out _ (by first|exact eDn _ _|exact eD _|exact bR _ _)).mono ?_;rintro e3 w3 ⟨⟨ar,cr,rfl,ho3⟩,hb3⟩;have HO3:=hQq ho3;have HE3:Hid (Ext W9 w3):=hQq (Ext.trans (by first|exact eDn _ _|exact eD _|exact bR _ _) hb3);clear ho3 hb3)
    | (refine zUy (B:=w.heap.size) okT (by rfl) (.tmp 48) (.tmp 51) (by rfl) (.slice ar TL.length cr) (.slice a5 (t.length-e) (cap-e)) TL (t.drop e) w _ (by rfl) (by rfl) (by exact HO3.out) (by exact(HDR.out _ HE3.out).mono okT hB) (by exact Ext.trans HB9.out HE3.out) (by exact(Ext.trans HB9.out HE3.out).size) (by have:=HLL.out;rw[List.length_drop];omega) ?_;intro v5 w5 ha;rw[<- HCE.out]at ha;obtain⟨a8,c8,hv5⟩:=ha.own.form;subst hv5;have HA:=hQq ha;clear ha)
    | (refine zKk (by rfl) ?_;unfold Oper.wp;go_simp;go_at_call 73;refine(HCN.out w5 _ w.heap.size HA.out.below.size (HA.out.own.in okT)).mono ?_;rintro e6 w6 ⟨⟨a9,c9,B2,rfl,hB2,hB3,ho6⟩,hb6⟩;have HX6:Hid ((w.heap.size<=B2/\B2<=w6.heap.size/\zAg cdT B2 w6 (.slice a9 (zA5 (zAM t i)).1.length c9) (zA5 (zAM t i)).1)/\Ext w w6):=hQq ⟨⟨Nat.le_trans HA.out.below.size hB2,hB3,ho6⟩,Ext.trans HA.out.below hb6⟩;clear hB2 hB3 ho6 hb6)
    | fail)
   all_goals
    go_wp2_with fail
    go_ret2;exact⟨⟨a9,c9,B2,rfl,HX6.out.1⟩,HX6.out.2⟩
end Go.Proofs.YtbeeoomadnmogaaGreat
