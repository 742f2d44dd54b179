/- NodC -/
import Derived.Test.YtbeeoomadnmogaaGreatQI2
import Derived.Test.YtbeeoomadnmogaaGreatQaEsc
import Derived.Test.YtbeeoomadnmogaaGreatQNodA
set_option maxRecDepth 100000
set_option maxHeartbeats 64000000
namespace Go.Proofs.YtbeeoomadnmogaaGreat
open Go.RowKit
theorem zO8 (B:Nat) (v:Value) (t:List TrN) (w:World) (hv:zCt B w v t) (h0:0 < t.length):zAt Tryz.prog 88 #[v,.int .i64 0] w (.int .i64 (zAz t 0)):=by
 unfold zAt
 obtain⟨aa,cap,rfl⟩:=hv.form
 obtain⟨b,off,va,rfl,hb,hva,c0,c1,c2,c3,c4,c5,c6,c7⟩:=hv.tr 0 h0
 obtain⟨a3,cap3,rfl⟩:=hva.form
 clear hva
 clear hv
 have hs:zAz t 0=if (t[0]'h0).dep=0/\(t[0]'h0).nm.toList= []/\(t[0]'h0).kd=1 then 0 else 6:=by unfold zAz;rw [if_pos rfl,zAm t 0 h0]
 rw [hs];clear hs
 generalize t[0]'h0=x at c0 c1 c2 c3 c4 c5 c6 c7
 simp only [Nat.zero_mul,Nat.add_zero] at c0 c1 c2 c3 c4 c5 c6 c7
 by_cases e1:x.dep=0
 case neg=>
  have d1:(x.dep != 0)=true:=bne_iff_ne.2 e1
  rw [if_neg (fun h=>e1 h.1)];clear e1
  go_enter Tryz.func88,Tryz.ntmps88
  go_wp2
  go_ret
  exact⟨rfl,eA _ _⟩
 by_cases e2:x.nm.toList= []
 case neg=>
  have d2:x.nm.toList.isEmpty=false:=by simpa using e2
  rw [if_neg (fun h=>e2 h.2.1)];clear e2
  go_enter Tryz.func88,Tryz.ntmps88
  go_wp2
  go_ret
  exact⟨rfl,eA _ _⟩
 have d2:x.nm.toList.isEmpty=true:=by rw [e2];rfl
 by_cases e3:x.kd=1
 ·rw [if_pos ⟨e1,e2,e3⟩];clear e2
  go_enter Tryz.func88,Tryz.ntmps88
  go_wp2
  go_ret
  exact⟨rfl,eA _ _⟩
 ·have d3:(x.kd != 1)=true:=bne_iff_ne.2 e3
  rw [if_neg (fun h=>e3 h.2.2)];clear e3 e2
  go_enter Tryz.func88,Tryz.ntmps88
  go_wp2
  go_ret
  exact⟨rfl,eA _ _⟩
theorem zO7 (B:Nat) (v:Value) (t:List TrN) (j:Nat) (w:World) (hv:zCt B w v t) (h0:j+1 < t.length) (hm:t.length<=1000) (hp:(zAa t j).dep<=1000) (hq:0<=(zAa t j).dep):zAt Tryz.prog 88 #[v,.int .i64 ((j:Int)+1)] w (.int .i64 (zAz t (j+1))):=by
 unfold zAt
 obtain⟨aa,cap,rfl⟩:=hv.form
 obtain⟨b,off,va,rfl,hb,hva,c0,c1,c2,c3,c4,c5,c6,c7⟩:=hv.tr (j+1) h0
 obtain⟨a3,cap3,rfl⟩:=hva.form
 clear hva
 obtain⟨b',off',vb,he,hb',_,d0,_,d2,_⟩:=hv.tr j (by omega)
 cases he
 clear hv
 have hs:zAz t (j+1)=if (t[j+1]'h0).dep < 1\/zEn (t[j]'(by omega)) < (t[j+1]'h0).dep then 6 else if 8 < (t[j+1]'h0).dep then 3 else 0:=by
  unfold zAz;rw [if_neg (by omega),zAm t (j+1) h0,Nat.add_sub_cancel,zAm t j (by omega)]
 rw [zAm t j (by omega)] at hp hq
 rw [hs];clear hs
 generalize t[j+1]'h0=x at c0 c1 c2 c3 c4 c5 c6 c7
 generalize t[j]'(by omega)=y at d0 d2 hp hq
 unfold zEn
 have j1:((j:Nat):Int) < (t.length:Int):=by omega
 have j2:((j:Nat):Int)+1 < (t.length:Int):=by omega
 by_cases e1:x.dep < 1
 ·rw [if_pos (.inl e1)]
  by_cases e2:y.kd=1
  ·go_enter Tryz.func88,Tryz.ntmps88
   go_wp2
   go_ret
   exact⟨rfl,eA _ _⟩
  ·have e3:(y.kd == 1)=false:=nB e2
   go_enter Tryz.func88,Tryz.ntmps88
   go_wp2
   go_ret
   exact⟨rfl,eA _ _⟩
 by_cases e2:y.kd=1
 ·rw [if_pos e2]
  by_cases e3:y.dep+1 < x.dep
  ·rw [if_pos (.inr e3)]
   go_enter Tryz.func88,Tryz.ntmps88
   go_wp2
   go_ret
   exact⟨rfl,eA _ _⟩
  rw [if_neg (by simp [e1,e3])]
  by_cases e4:8 < x.dep
  ·rw [if_pos e4]
   go_enter Tryz.func88,Tryz.ntmps88
   go_wp2
   go_ret
   exact⟨rfl,eA _ _⟩
  ·rw [if_neg e4]
   go_enter Tryz.func88,Tryz.ntmps88
   go_wp2
   go_ret
   exact⟨rfl,eA _ _⟩
 ·have f1:(y.kd == 1)=false:=nB e2
  rw [if_neg e2]
  by_cases e3:y.dep < x.dep
  ·rw [if_pos (.inr e3)]
   go_enter Tryz.func88,Tryz.ntmps88
   go_wp2
   go_ret
   exact⟨rfl,eA _ _⟩
  rw [if_neg (by simp [e1,e3])]
  by_cases e4:8 < x.dep
  ·rw [if_pos e4]
   go_enter Tryz.func88,Tryz.ntmps88
   go_wp2
   go_ret
   exact⟨rfl,eA _ _⟩
  ·rw [if_neg e4]
   go_enter Tryz.func88,Tryz.ntmps88
   go_wp2
   go_ret
   exact⟨rfl,eA _ _⟩
theorem zCe (B:Nat) (v:Value) (t:List TrN) (i:Nat) (w:World) (hv:zCt B w v t) (hi:i < t.length) (hm:t.length<=1000) (hp:i ≠ 0->0<=(zAa t (i - 1)).dep/\(zAa t (i - 1)).dep<=1000):zAt Tryz.prog 88 #[v,.int .i64 i] w (.int .i64 (zAz t i)):=by
 cases i with
 | zero=>exact zO8 B v t w hv hi
 | succ j=>exact zO7 B v t j w hv hi hm (hp (by omega)).2 (hp (by omega)).1
theorem zCf (B:Nat) (v:Value) (t:List TrN) (i:Nat) (w:World) (hv:zCt B w v t) (hi:i < t.length) (hm:t.length<=1000) (hs:(zAa t i).nm.size<=1000000):zAt Tryz.prog 89 #[v,.int .i64 i] w (.int .i64 (zAT t i)):=by
 unfold zAt
 obtain⟨aa,cap,rfl⟩:=hv.form
 obtain⟨b,off,va,rfl,hb,_,c0,c1,_⟩:=hv.tr i hi
 have HV:=hQq hv;clear hv
 have hg:=zAm t i hi
 have HE:Hid (zAT t i=if zAq (L (t[i]'hi).nm) ≠ 0 then zAq (L (t[i]'hi).nm) else zDL (zCr (zCP t i) (t[i]'hi).dep).1 (zCr (zCP t i) (t[i]'hi).dep).2 (t[i]'hi).nm):=by
  unfold zAT;rw [hg];exact rfl
 rw [hg] at hs
 clear hg
 generalize t[i]'hi=x at c0 c1 HE hs
 have ji:((i:Nat):Int) < (t.length:Int):=by omega
 by_cases hn:zAq (L x.nm)=0
 case neg=>
  have hn1:(zAq (L x.nm) != 0)=true:=bne_iff_ne.2 hn
  rw [HE.out,if_pos hn];clear hn HE
  go_enter Tryz.func89,Tryz.ntmps89
  go_wp2_with (go_at_call 38;refine(zI6 _ _ hs).mono ?_;rintro e w' ⟨rfl,rfl⟩)
  go_ret
  exact⟨rfl,bR _ _⟩
 have HE2:Hid (zAT t i=zDL (zCr (zCP t i) x.dep).1 (zCr (zCP t i) x.dep).2 x.nm):=by rw [HE.out,if_neg (by simpa using hn)];exact rfl
 rw [HE2.out];clear HE HE2
 go_enter Tryz.func89,Tryz.ntmps89
 go_wp2_with (go_at_call 38;refine(zI6 _ _ hs).mono ?_;rintro e w' ⟨rfl,rfl⟩)
 clear hn
 go_loopw [6,7,8] (fun m la kk w'=>∃ (wi:World) (j n:Nat) (z:Int),wi=w'/\j<=i/\n+j<=i/\m= .int .i64 n/\la= .int .i64 z/\kk= .int .i64 ((j:Int) - 1)/\zCW t i x.dep j n z/\Ext w w') (fun _ _ kk _=>(intOf kk+1).toNat)
 case atStart=>exact⟨_,i,0,-1,rfl,Nat.le_refl _,by omega,rfl,rfl,rfl,zCW.start t i x.dep,bR _ _⟩
 case round=>
  obtain⟨wi,j,n,z,rfl,hj,hnj,rfl,rfl,rfl,hst,hbw⟩:=hrel
  have HS:=hQq hst;clear hst
  replace c0:=(eC hbw hb).trans c0
  replace c1:=(eC hbw hb).trans c1
  have HB:=hQq hbw;clear hbw
  have hgo:(∃ p,j=p+1/\∃ h:p < t.length,x.dep<=(t[p]'h).dep)\/zCW t i x.dep 0 n z/\(j=0\/∃ p,j=p+1/\∃ h:p < t.length,(t[p]'h).dep < x.dep):=by
   cases j with
   | zero=>exact .inr ⟨HS.out,.inl rfl⟩
   | succ p=>
    have hp:p < t.length:=by omega
    by_cases hd:x.dep<=(t[p]'hp).dep
    ·exact .inl ⟨p,rfl,hp,hd⟩
    ·exact .inr ⟨HS.out.low hp (by omega),.inr ⟨p,rfl,hp,by omega⟩⟩
  rcases hgo with ⟨p,rfl,hp,hd⟩ | ⟨hend,hwhy⟩
  ·obtain⟨b',off',vb,he,hb',_,d0,_⟩:=HV.out.tr p hp
   cases he
   replace d0:=(eC HB.out hb').trans d0
   have jp:((p:Nat):Int) < (t.length:Int):=by omega
   have jc:((p+1:Nat):Int) - 1=(p:Int):=by omega
   rw [jc]
   clear jc
   by_cases heq:(t[p]'hp).dep=x.dep
   ·have HN:=hQq (HS.out.hit (by omega) hp heq)
    generalize t[p]'hp=y at d0 hd heq
    have q1:(y.dep == x.dep)=true:=beq_iff_eq.2 heq
    clear heq
    by_cases hz:z < 0
    ·rw [if_pos hz] at HN
     go_wp2
     go_quiet (fail)
     go_wp2
     go_quiet (fail)
     go_wp2
     go_roundw
     case rel=>exact⟨_,p,n+1,p,rfl,by omega,by omega,by go_num,rfl,rfl,HN.out,Ext.trans HB.out (by first | exact eDn _ _ | exact Ext.trans (eDn _ _) (eDn _ _))⟩
     case measure=>simp [intOf] <;> omega
    ·rw [if_neg hz] at HN
     go_wp2
     go_quiet (fail)
     go_wp2
     go_quiet (fail)
     go_wp2
     go_roundw
     case rel=>exact⟨_,p,n+1,z,rfl,by omega,by omega,by go_num,rfl,rfl,HN.out,Ext.trans HB.out (by first | exact eDn _ _ | exact Ext.trans (eDn _ _) (eDn _ _))⟩
     case measure=>simp [intOf] <;> omega
   ·have HN:=hQq (HS.out.skip hp (by omega))
    generalize t[p]'hp=y at d0 hd heq
    have q1:(y.dep == x.dep)=false:=nB heq
    clear heq
    go_wp2
    go_quiet (fail)
    go_wp2
    go_quiet (fail)
    go_wp2
    go_roundw
    case rel=>exact⟨_,p,n,z,rfl,by omega,by omega,rfl,rfl,rfl,HN.out,Ext.trans HB.out (by first | exact eDn _ _ | exact Ext.trans (eDn _ _) (eDn _ _))⟩
    case measure=>simp [intOf] <;> omega
  ·obtain⟨s1,s2⟩:=hend.end
   clear hend HS
   rcases s2 with ⟨rfl,rfl,s2⟩ | ⟨q,rfl,hq,s2⟩
   ·have HR:Hid (zDL (zCr (zCP t i) x.dep).1 (zCr (zCP t i) x.dep).2 x.nm=0):=hQq (by rw [s1,s2];simp [zDL])
    clear s1 s2
    rcases hwhy with rfl | ⟨p,rfl,hp,hd⟩
    ·have jc:((0:Nat):Int) - 1= -1:=rfl
     rw [jc];clear jc
     go_wp2
     go_quiet (fail)
     go_wp2
     go_quiet (fail)
     go_wp2
     go_quiet (fail)
     go_wp2
     go_ret
     exact⟨by rw [HR.out];rfl,Ext.trans HB.out (by first | exact eDn _ _ | exact Ext.trans (eDn _ _) (eDn _ _) | exact Ext.trans (eDn _ _) (Ext.trans (eDn _ _) (eDn _ _)))⟩
    ·obtain⟨b',off',vb,he,hb',_,d0,_⟩:=HV.out.tr p hp
     cases he
     replace d0:=(eC HB.out hb').trans d0
     have jp:((p:Nat):Int) < (t.length:Int):=by omega
     have jc:((p+1:Nat):Int) - 1=(p:Int):=by omega
     rw [jc];clear jc
     generalize t[p]'hp=y' at d0 hd
     go_wp2
     go_quiet (fail)
     go_wp2
     go_quiet (fail)
     go_wp2
     go_quiet (fail)
     go_wp2
     go_ret
     exact⟨by rw [HR.out];rfl,Ext.trans HB.out (by first | exact eDn _ _ | exact Ext.trans (eDn _ _) (eDn _ _) | exact Ext.trans (eDn _ _) (Ext.trans (eDn _ _) (eDn _ _)))⟩
   ·have hqt:q < t.length:=by omega
    rw [zAm t q hqt] at s2
    obtain⟨b2,off2,vb2,he2,hb2,_,_,e1,_⟩:=HV.out.tr q hqt
    cases he2
    replace e1:=(eC HB.out hb2).trans e1
    have jq:((q:Nat):Int) < (t.length:Int):=by omega
    generalize t[q]'hqt=y at e1 s2
    by_cases k1:y.nm=x.nm
    ·have HR:Hid (zDL (zCr (zCP t i) x.dep).1 (zCr (zCP t i) x.dep).2 x.nm=8):=hQq (by rw [s1,s2];simp [zDL,k1])
     have g1:(y.nm.toList == x.nm.toList)=true:=by rw [k1];simp
     clear s1 s2 k1
     rcases hwhy with rfl | ⟨p,rfl,hp,hd⟩
     ·have jc:((0:Nat):Int) - 1= -1:=rfl
      rw [jc];clear jc
      go_wp2
      go_quiet (fail)
      go_wp2
      go_quiet (fail)
      go_wp2
      go_ret
      exact⟨by rw [HR.out];rfl,Ext.trans HB.out (by first | exact eDn _ _ | exact Ext.trans (eDn _ _) (eDn _ _) | exact Ext.trans (eDn _ _) (Ext.trans (eDn _ _) (eDn _ _)))⟩
     ·obtain⟨b',off',vb,he,hb',_,d0,_⟩:=HV.out.tr p hp
      cases he
      replace d0:=(eC HB.out hb').trans d0
      have jp:((p:Nat):Int) < (t.length:Int):=by omega
      have jc:((p+1:Nat):Int) - 1=(p:Int):=by omega
      rw [jc];clear jc
      generalize t[p]'hp=y' at d0 hd
      go_wp2
      go_quiet (fail)
      go_wp2
      go_quiet (fail)
      go_wp2
      go_ret
      exact⟨by rw [HR.out];rfl,Ext.trans HB.out (by first | exact eDn _ _ | exact Ext.trans (eDn _ _) (eDn _ _) | exact Ext.trans (eDn _ _) (Ext.trans (eDn _ _) (eDn _ _)))⟩
    have g1:(y.nm.toList == x.nm.toList)=false:=by rw [beq_eq_false_iff_ne];intro h;exact k1 (zBJ (by rw [<- tL,<- tL];exact h))
    by_cases k2:L x.nm < L y.nm
    ·have HR:Hid (zDL (zCr (zCP t i) x.dep).1 (zCr (zCP t i) x.dep).2 x.nm=6):=hQq (by rw [s1,s2];simp [zDL,k1,k2])
     have g2:=zF0 (fun h=>List.lt_irrefl _ (List.lt_trans k2 h))
     clear s1 s2 k1 k2
     rcases hwhy with rfl | ⟨p,rfl,hp,hd⟩
     ·have jc:((0:Nat):Int) - 1= -1:=rfl
      rw [jc];clear jc
      go_wp2
      go_quiet (fail)
      go_wp2
      go_quiet (fail)
      go_wp2
      go_quiet (fail)
      go_wp2
      go_ret
      exact⟨by rw [HR.out];rfl,Ext.trans HB.out (by first | exact eDn _ _ | exact Ext.trans (eDn _ _) (eDn _ _) | exact Ext.trans (eDn _ _) (Ext.trans (eDn _ _) (eDn _ _)))⟩
     ·obtain⟨b',off',vb,he,hb',_,d0,_⟩:=HV.out.tr p hp
      cases he
      replace d0:=(eC HB.out hb').trans d0
      have jp:((p:Nat):Int) < (t.length:Int):=by omega
      have jc:((p+1:Nat):Int) - 1=(p:Int):=by omega
      rw [jc];clear jc
      generalize t[p]'hp=y' at d0 hd
      go_wp2
      go_quiet (fail)
      go_wp2
      go_quiet (fail)
      go_wp2
      go_quiet (fail)
      go_wp2
      go_ret
      exact⟨by rw [HR.out];rfl,Ext.trans HB.out (by first | exact eDn _ _ | exact Ext.trans (eDn _ _) (eDn _ _) | exact Ext.trans (eDn _ _) (Ext.trans (eDn _ _) (eDn _ _)))⟩
    have g2:=zGu (zJm k1 k2)
    by_cases k3:24<=n
    ·have HR:Hid (zDL (zCr (zCP t i) x.dep).1 (zCr (zCP t i) x.dep).2 x.nm=3):=hQq (by rw [s1,s2];simp [zDL,k1,k2,k3])
     clear s1 s2 k1 k2
     rcases hwhy with rfl | ⟨p,rfl,hp,hd⟩
     ·have jc:((0:Nat):Int) - 1= -1:=rfl
      rw [jc];clear jc
      go_wp2
      go_quiet (fail)
      go_wp2
      go_quiet (fail)
      go_wp2
      go_quiet (fail)
      go_wp2
      go_ret
      exact⟨by rw [HR.out];rfl,Ext.trans HB.out (by first | exact eDn _ _ | exact Ext.trans (eDn _ _) (eDn _ _) | exact Ext.trans (eDn _ _) (Ext.trans (eDn _ _) (eDn _ _)))⟩
     ·obtain⟨b',off',vb,he,hb',_,d0,_⟩:=HV.out.tr p hp
      cases he
      replace d0:=(eC HB.out hb').trans d0
      have jp:((p:Nat):Int) < (t.length:Int):=by omega
      have jc:((p+1:Nat):Int) - 1=(p:Int):=by omega
      rw [jc];clear jc
      generalize t[p]'hp=y' at d0 hd
      go_wp2
      go_quiet (fail)
      go_wp2
      go_quiet (fail)
      go_wp2
      go_quiet (fail)
      go_wp2
      go_ret
      exact⟨by rw [HR.out];rfl,Ext.trans HB.out (by first | exact eDn _ _ | exact Ext.trans (eDn _ _) (eDn _ _) | exact Ext.trans (eDn _ _) (Ext.trans (eDn _ _) (eDn _ _)))⟩
    ·have HR:Hid (zDL (zCr (zCP t i) x.dep).1 (zCr (zCP t i) x.dep).2 x.nm=0):=hQq (by rw [s1,s2];simp [zDL,k1,k2,k3])
     clear s1 s2 k1 k2
     rcases hwhy with rfl | ⟨p,rfl,hp,hd⟩
     ·have jc:((0:Nat):Int) - 1= -1:=rfl
      rw [jc];clear jc
      go_wp2
      go_quiet (fail)
      go_wp2
      go_quiet (fail)
      go_wp2
      go_quiet (fail)
      go_wp2
      go_ret
      exact⟨by rw [HR.out];rfl,Ext.trans HB.out (by first | exact eDn _ _ | exact Ext.trans (eDn _ _) (eDn _ _) | exact Ext.trans (eDn _ _) (Ext.trans (eDn _ _) (eDn _ _)))⟩
     ·obtain⟨b',off',vb,he,hb',_,d0,_⟩:=HV.out.tr p hp
      cases he
      replace d0:=(eC HB.out hb').trans d0
      have jp:((p:Nat):Int) < (t.length:Int):=by omega
      have jc:((p+1:Nat):Int) - 1=(p:Int):=by omega
      rw [jc];clear jc
      generalize t[p]'hp=y' at d0 hd
      go_wp2
      go_quiet (fail)
      go_wp2
      go_quiet (fail)
      go_wp2
      go_quiet (fail)
      go_wp2
      go_ret
      exact⟨by rw [HR.out];rfl,Ext.trans HB.out (by first | exact eDn _ _ | exact Ext.trans (eDn _ _) (eDn _ _) | exact Ext.trans (eDn _ _) (Ext.trans (eDn _ _) (eDn _ _)))⟩
end Go.Proofs.YtbeeoomadnmogaaGreat
