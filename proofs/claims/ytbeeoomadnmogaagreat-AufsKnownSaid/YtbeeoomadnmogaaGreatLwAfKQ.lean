/- AufsKnown is proved: the law returns true. (walk printed by gen/lwafk.py) -/
import Derived.Test.YtbeeoomadnmogaaGreatQI6
import Derived.Test.YtbeeoomadnmogaaGreatQFrameA
import Derived.Test.YtbeeoomadnmogaaGreatQbAll
import Derived.Test.YtbeeoomadnmogaaGreatQdAll
set_option maxRecDepth 100000
set_option maxHeartbeats 64000000
namespace Go.Proofs.YtbeeoomadnmogaaGreat.lwAufsKnown
open Go.ChangeShapes Go.WideShapes Go.ChangeAt Go.RowKit
open Go.ChangeMaps (open_string shut_string)
theorem path2 (a b:ByteArray)(w:World):zBV w.heap.size (w.alloc (.cells #[.string a,.string b] 9)) (.slice (some ⟨w.heap.size,0,none⟩) 2 2) [a,b]:=by
 refine zAh.mono (B:=w.heap.size) (zAg.in (C:=cdS) ⟨[[.string a],[.string b]],rfl,fun k h h'=>?_,?_⟩ okS) okS (Nat.le_refl _)
 ·match k,h with
  | 0,_=>rfl
  | 1,_=>rfl
 ·exact World.ownsRow_lit (base:=w.heap.size) (e:=9) (size:=1) w ([[.string a],[.string b]].flatten.toArray) 2 (Nat.le_refl _) (by unfold maxLen;omega) rfl
theorem path1 (a:ByteArray)(w:World):zBV w.heap.size (w.alloc (.cells #[.string a] 9)) (.slice (some ⟨w.heap.size,0,none⟩) 1 1) [a]:=zAj okS w a [.string a] _ rfl rfl
theorem long_lit (w:World):zAg cdB w.heap.size (w.alloc (.cells ([brC (zAm exL 0) (.slice none 0 0) (.slice none 0 0),brC (zAm exL 1) (.slice none 0 0) (.slice none 0 0)].flatten.toArray) 46)) (.slice (some ⟨w.heap.size,0,none⟩) 2 2) exL:=by
 refine⟨[brC (zAm exL 0) (.slice none 0 0) (.slice none 0 0),brC (zAm exL 1) (.slice none 0 0) (.slice none 0 0)],rfl,fun k h h'=>?_,?_⟩
 ·match k,h with
  | 0,_=>exact⟨_,_,zBp _ _ _,zAh.nil _ _ _ _,rfl⟩
  | 1,_=>exact⟨_,_,zBp _ _ _,zAh.nil _ _ _ _,rfl⟩
 ·exact World.ownsRow_lit (base:=w.heap.size) (e:=46) (size:=10) w ([brC (zAm exL 0) (.slice none 0 0) (.slice none 0 0),brC (zAm exL 1) (.slice none 0 0) (.slice none 0 0)].flatten.toArray) 2 (Nat.le_refl _) (by unfold maxLen;omega) rfl
theorem moved {B:Nat}{w:World}{g c:Nat}(h:zAg cdB B w (.slice (some ⟨g,0,none⟩) 5 c) exA)(hB:B<=w.heap.size):zAg cdB B (((w.setCell ⟨g,18,none⟩ (.bool false)).setCell ⟨g,19,none⟩ (.slice (some ⟨w.heap.size,0,none⟩) 1 1)).alloc (.cells #[.string ⟨#[111]⟩] 9)) (.slice (some ⟨g,0,none⟩) 5 c) exM/\Below B w (((w.setCell ⟨g,18,none⟩ (.bool false)).setCell ⟨g,19,none⟩ (.slice (some ⟨w.heap.size,0,none⟩) 1 1)).alloc (.cells #[.string ⟨#[111]⟩] 9)):=by
 obtain⟨_,h2,h3,h4,_⟩:=h.addr (by decide);cases h2;rw[<- World.setCell_alloc_past _ _ _ _ (by simpa using h4),<- World.setCell_alloc_past _ _ _ _ h4];have h1:=h.ext okB (eA w (.cells #[.string ⟨#[111]⟩] 9));obtain⟨u1,u2,u3⟩:=h1.store okB 1 (by decide) 8 (by decide) (.bool false) {zAm exA 1 with opq:=false} (fun cs hc=>by obtain⟨va,vr,a,b,rfl⟩:=hc;exact⟨va,vr,a,b,rfl⟩);have hp:zBV B ((w.alloc (.cells #[.string ⟨#[111]⟩] 9)).setCell ⟨g,1*10+8,none⟩ (.bool false)) (.slice (some ⟨w.heap.size,0,none⟩) 1 1) [ofL [111]]:=(zAj okS w (ofL [111]) [.string (ofL [111])] _ rfl rfl).chg okS u3 (by decide) (by decide);obtain⟨k1,k2,-⟩:=u1.store okB 1 (by decide) 9 (by decide) (.slice (some ⟨w.heap.size,0,none⟩) 1 1) zYk (fun cs hc=>by obtain⟨va,vr,a,b,rfl⟩:=hc;exact⟨va,_,a,hp,rfl⟩);exact⟨k1,Below.grown (Below.grown ((eA _ _).mono hB) u2 (Nat.le_trans hB (eA _ _).size) (fun k e=>by cases e;exact h3)) k2 (Nat.le_trans hB (Nat.le_trans (eA _ _).size u2.size)) (fun k e=>by cases e;exact h3)⟩
theorem walk (w:World):zAs Tryz.prog 10 #[] w (.bool true):=by
 unfold zAs;go_enter Tryz.func10,Tryz.ntmps10;go_wp2_with fail
 refine(zG9 w).mono ?_;rintro e u1 ⟨⟨gr1,cr1,rfl,hr1,hgr1,hhr1⟩,hb⟩;have HR1:=hQq hr1;have BR1:=hQq hb;clear hr1 hgr1 hhr1 hb;have HP1:=hQq (path2 zA6 (ofL [48,49]) u1);go_wp2_with fail
 refine(zV4 w.heap.size u1.heap.size _ _ _ zFd zXK 2 ((HR1.out.in okT).ext okT (eA _ _)) HP1.out (Nat.le_trans BR1.out.size (eA _ _).size) zGi zFj.2.2.1 (by first|exact zFj.2.2.2.1|exact zFj.2.2.2.2) (by decide +kernel) (by decide) (by first|exact zFj.1|exact zFj.2.1) (by decide) (by decide)).mono ?_;rw[zTN.1];rintro e v1 ⟨⟨ac1,cc1,B1,rfl,hB1,hB2,hc⟩,hb⟩;have HC1:=hQq hc;have HB1:=hQq hB2;have BC1:=hQq (Ext.trans (Ext.trans BR1.out (eA _ _)) hb);clear hc hb hB1 hB2 HP1 HR1 BR1;go_wp2_with fail
 refine(zG9 v1).mono ?_;rintro e u2 ⟨⟨gr2,cr2,rfl,hr2,hgr2,hhr2⟩,hb⟩;have HR2:=hQq hr2;have BR2:=hQq hb;clear hr2 hgr2 hhr2 hb;have HP2:=hQq (path1 zA6 u2);go_wp2_with fail
 refine(zV4 v1.heap.size u2.heap.size _ _ _ zFd [zA6] 1 ((HR2.out.in okT).ext okT (eA _ _)) HP2.out (Nat.le_trans BR2.out.size (eA _ _).size) zGi zFj.2.2.1 (by first|exact zFj.2.2.2.1|exact zFj.2.2.2.2) (by decide +kernel) (by decide) (by first|exact zFj.1|exact zFj.2.1) (by decide) (by decide)).mono ?_;rw[zTN.2];rintro e v2 ⟨⟨ac2,cc2,B2,rfl,hB1,hB2,hc⟩,hb⟩;have HC2:=hQq hc;have HB2:=hQq hB2;have BC2:=hQq (Ext.trans (Ext.trans BR2.out (eA _ _)) hb);clear hc hb hB1 hB2 HP2 HR2 BR2;go_wp2_with fail
 refine(zRl B1 v2 _ zPS ((HC1.out.in okT).ext okT BC2.out) (Nat.le_trans HB1.out BC2.out.size) zHa.1).mono ?_;rw[zPX.1];rintro e w3 ⟨rfl,hb⟩;have B3:=hQq (Ext.trans BC1.out (Ext.trans BC2.out hb));have HC3:=hQq ((HC2.out.in okT).ext okT hb);have HS3:=hQq (Nat.le_trans HB2.out hb.size);clear hb HC1 HC2 HB1 HB2 BC1 BC2;go_wp2_with fail
 refine(zRl B2 w3 _ zPH HC3.out HS3.out zHa.2.1).mono ?_;rw[zPX.2];rintro e w4 ⟨rfl,hb⟩;have B4:=hQq (Ext.trans B3.out hb);have HB4:=hQq B4.out.size;clear hb HC3 HS3 B3;go_wp2_with fail
 refine(zED w4).mono ?_;rintro e w5 ⟨⟨g5,c5,rfl,ho5,hg5,hh5⟩,hb5⟩;have HO5:=hQq (moved ho5 hb5.size);have B5:=hQq (Ext.trans B4.out hb5);have HS5:=hQq hb5.size;have HG5:=hQq hg5;have f5:∀j,w5.frozen? ⟨g5,j,none⟩=false:=fun j=>ho5.frozen j;obtain⟨b5,off5,va5,vr5,hex5,hbx5,hva5,hvr5,x5⟩:=(ho5.in okB).br 1 (by decide);cases hex5;obtain⟨c0,c1,c2,c3,c4,c5',c6,c7,c8,c9⟩:=zJQ (bR _ _) hbx5 x5;simp only[Nat.zero_add,Nat.one_mul,Nat.reduceAdd]at c8 c9;clear x5 c0 c1 c2 c3 c4 c5' c6 c7 hva5 hvr5 hg5 hh5;clear ho5 hb5 B4;go_wp2_with fail
 refine(zWY w4.heap.size _ _ exM (HO5.out.1.in okB) (Nat.le_trans HS5.out HO5.out.2.size) zHa.2.2.1).mono ?_;rw[zPY.1];rintro e w6 ⟨rfl,hb⟩;have B6:=hQq (Below.trans B5.out (Below.trans (HO5.out.2.mono HB4.out) (hb.mono (Nat.le_trans HB4.out (Nat.le_trans HS5.out HO5.out.2.size)))));clear hb c8 c9 f5 hbx5 HG5 B5 HO5 HS5 HB4;go_wp2_with fail
 refine(zWY w6.heap.size _ _ exL ((long_lit w6).in okB) (eA _ _).size zHa.2.2.2).mono ?_;rw[zPY.2.1];rintro e w7 ⟨rfl,hb⟩;have B7:=hQq (Ext.trans B6.out (Ext.trans (eA _ _) hb));obtain⟨b5,off5,va5,vr5,hex5,hbx5,hva5,hvr5,x5⟩:=(((long_lit w6).in okB).ext okB hb).br 1 (by decide);cases hex5;obtain⟨c0,c1,c2,c3,c4,c5',c6,c7,c8,c9⟩:=zJQ (bR _ _) hbx5 x5;simp only[Nat.zero_add,Nat.one_mul,Nat.reduceAdd]at c1;have d1:w7.cell? ⟨w6.heap.size,11,none⟩=some (.string zSs):=c1;clear hb hva5 hvr5 x5 c0 c1 c2 c3 c4 c5' c6 c7 c8 c9 B6;go_wp2_with (first
  | (go_at_call 38;refine(zJh zSs _ (by decide)).mono ?_;rw[zPY.2.2];rintro e w8 ⟨rfl,rfl⟩)
  | (go_at_call 12;refine(zGr _).mono ?_;rintro e w9 ⟨rfl,hb9⟩;have HB9:=hQq hb9;clear hb9)
  | fail)
 go_ret;exact⟨rfl,B7.out.trans HB9.out⟩
theorem contract (H:Type)(enc:TypeId × Value->H)(W:World)(base:Nat)(args:Array Value)(ds gs:List (DataW H))(before:List MemPlace)
  (hval:∀(j:Nat) t v,Tryz.f10.params[j]? = some t->args[j]? = some v->Value.okWide Tryz.prog W .any base t v)
  (hW:DataW.Whole enc Tryz.prog Tryz.f10.params.toList Rows.aufsKnownSpec.vars false W args.toList ds gs before) (_hz:(DataW.weightsEach Tryz.prog (Tryz.f10.params.toList++(OpenSpec.ofChange Rows.aufsKnownSpec).bare.plain.varTypes Tryz.prog) (ds++gs)).all (· <=reachBytes)=true) (_hL:laidMetH Tryz.prog Rows.aufsKnownRow.laid W) (_hS:W.ShapedOpen Tryz.prog) :
  Calls Tryz.prog 10 args W fun e W'=>∃v,e= .returned v/\Rows.aufsKnownSpec.post enc Tryz.prog Tryz.f10 false true false false W args v W':=by
 have hW':=hW;obtain⟨p,q,hA0,hV,rfl,hfz,hnd⟩:=hW;have hA:DataW.TrodAll enc Tryz.prog W 0 (fun _=>true) true Tryz.f10.params.toList args.toList ds p:=hA0;rw[Tryz.params10]at hA hval;obtain⟨hargs,rfl,rfl⟩:=trodAll_nil hA;obtain rfl:args= #[]:=by cases args;simp_all
 refine(walk W).mono fun e W' ⟨he,hb⟩=>?_;subst he;exact⟨_,rfl,zMX hW' rfl rfl rfl (by intro t ht;rw[Tryz.params10]at ht;simp at ht) hb⟩
theorem reads (os:Os){H:Type}(enc:TypeId × Value->H):∃places,DataW.whole enc Tryz.prog ((zDN os).forCall (fun _ _=>0) ⟨#[],(#[]:Array Value),[]⟩).memory Tryz.f10.params.toList Rows.aufsKnownSpec.vars false (#[]:Array Value).toList 8=some ([],[],places):=
 ⟨[],by kernel_rfl⟩
theorem lifted (os : Os) (started : os.Started) (H : Type) (enc : TypeId × Value -> H) (F : Stop.Interp) :
  ReturnsInHanded {} Tryz.checked os 10 .any ((OpenSpec.ofChange Rows.aufsKnownSpec).preRow enc Tryz.prog Tryz.f10 Rows.aufsKnownRow.domain false Rows.aufsKnownRow.laid) (((OpenSpec.ofChange Rows.aufsKnownSpec).at F).post enc Tryz.prog Tryz.f10 false true false false) := by
 obtain ⟨places, hx⟩ := reads os enc;refine returnsInHanded_of_row (C := Tryz.checked) (s := OpenSpec.ofChange Rows.aufsKnownSpec) own started (by kernel_rfl) Tryz.func10
  (witness_row_atRef (enc := enc) (C := Tryz.checked) false (zDN os) (#[] : Array Value) rfl (by kernel_rfl) (by kernel_rfl) (by kernel_rfl)
   (OpenSpec.preRow_of_cond 8 hx (by kernel_rfl) (fun k hk => by cases hk) (by kernel_rfl) (zKE os _))) ?_
 intro W base args ds gs before hval hW _ _ hz hL hS _;exact contract H enc W base args ds gs before hval hW hz hL hS
theorem j0:(Rows.aufsKnownRow.wf (OpenSpec.ofChange Rows.aufsKnownSpec))=true:=by kernel_rfl
theorem j1:(laidOutB Tryz.prog)=true:=zLK
theorem j2:(mapsRowed Tryz.prog)=true:=zWm
theorem j3:(Tryz.f10.params.all (Tryz.prog.readableRec ·))=true:=by kernel_rfl
theorem j4:(namedTie Tryz.prog Rows.aufsKnownRow.named Rows.aufsKnownSpec.vars)=true:=by kernel_rfl
theorem j5:((Rows.aufsKnownRow.stops== []))=true:=by kernel_rfl
theorem j6:((Tryz.prog.stops== []))=true:=zTP
theorem j7:((Rows.aufsKnownRow.knobs== []))=true:=by kernel_rfl
theorem j8:((Tryz.prog.stopKnobs== []))=true:=zTS
theorem j9:((Rows.aufsKnownRow.inPlace==Tryz.prog.inPlace 10))=true:=by kernel_rfl
theorem j10:((Rows.aufsKnownRow.unfollowed==Tryz.prog.unfollowed 10))=true:=by kernel_rfl
theorem j11:((Rows.aufsKnownRow.recurses==Tryz.prog.recurses 10))=true:=by kernel_rfl
theorem j12:((Rows.aufsKnownRow.named==Tryz.prog.varsNamed 10))=true:=by kernel_rfl
theorem j13:((Rows.aufsKnownRow.maps==(Tryz.f10.params.toList++Rows.aufsKnownSpec.plain.varTypes Tryz.prog).any (Tryz.prog.mapsRec ·)))=true:=by kernel_rfl
theorem j14:((Rows.aufsKnownRow.ifaces==(Tryz.f10.params.toList++Rows.aufsKnownSpec.plain.varTypes Tryz.prog).any (Tryz.prog.ifacesRec ·)))=true:=by kernel_rfl
theorem j15:((Rows.aufsKnownRow.mapsOut==Tryz.prog.mapsAmong Tryz.f10.resultTypes.toList))=true:=by kernel_rfl
theorem j16:((Rows.aufsKnownRow.loops==(Tryz.f10.params.toList++Rows.aufsKnownSpec.plain.varTypes Tryz.prog).any (Tryz.prog.loopsFrom ·)))=true:=by kernel_rfl
theorem j17:((Rows.aufsKnownRow.wideKeys==(Tryz.f10.params.toList++Rows.aufsKnownSpec.plain.varTypes Tryz.prog++Tryz.f10.resultTypes.toList).any (Tryz.prog.wideKeysFrom ·)))=true:=by kernel_rfl
theorem j18:(Rows.aufsKnownSpec.vars.all (Tryz.prog.varReadable ·))=true:=by kernel_rfl
theorem j19:(Tryz.f10.resultTypes.all (fun t=>Tryz.prog.readableRec t&&decide (t<Tryz.prog.types.size)))=true:=by kernel_rfl
theorem j20:((Rows.aufsKnownRow.ifacesOut==Tryz.f10.resultTypes.toList.any (Tryz.prog.ifacesRec ·)))=true:=by kernel_rfl
theorem j21:((Rows.aufsKnownRow.loopsOut==Tryz.f10.resultTypes.toList.any (Tryz.prog.loopsFrom ·)))=true:=by kernel_rfl
theorem j22:((Rows.aufsKnownRow.plainKeys==Tryz.prog.plainKeys))=true:=zTQ
theorem j23:(Rows.aufsKnownRow.shortTexts.isNone)=true:=by kernel_rfl
theorem j24:(Tryz.prog.stopsHeard)=true:=zTT
theorem j25:(Tryz.prog.mayEnter)=true:=zTU
theorem j26:((Rows.aufsKnownRow.lifted==Tryz.prog.liftsFinal))=true:=zTR
theorem j27:((Tryz.prog.make==some Rows.aufsKnownRow.make))=true:=zWn
theorem j28:((Rows.aufsKnownRow.kinds==(if Rows.aufsKnownRow.domain.isEmpty then []else Tryz.f10.params.toList.map fun t=>match Tryz.prog.underlying t with|some (.int k)=>some k|_=>none)))=true:=by kernel_rfl
theorem j29:((Rows.aufsKnownRow.pinned==Rows.aufsKnownRow.pinnedBy))=true:=by kernel_rfl
theorem j30:((Rows.aufsKnownRow.veiled==(Tryz.f10.params.toList++Rows.aufsKnownSpec.plain.varTypes Tryz.prog++Tryz.f10.resultTypes.toList).any (Tryz.prog.veiledRec ·)))=true:=by kernel_rfl
theorem j31:(Rows.aufsKnownRow.veiledFits Tryz.prog Tryz.f10.params.toList (Tryz.f10.params.toList++Rows.aufsKnownSpec.plain.varTypes Tryz.prog++Tryz.f10.resultTypes.toList))=true:=by kernel_rfl
theorem facts:joinedFacts Tryz.prog 10 Tryz.f10 Rows.aufsKnownSpec Rows.aufsKnownRow=true:=by
 unfold joinedFacts;simp only[Bool.and_eq_true];exact⟨⟨⟨⟨⟨⟨⟨⟨⟨⟨⟨⟨⟨⟨⟨⟨⟨⟨⟨⟨⟨⟨⟨⟨⟨⟨⟨⟨⟨⟨⟨j0,j1⟩,j2⟩,j3⟩,j4⟩,j5⟩,j6⟩,j7⟩,j8⟩,j9⟩,j10⟩,j11⟩,j12⟩,j13⟩,j14⟩,j15⟩,j16⟩,j17⟩,j18⟩,j19⟩,j20⟩,j21⟩,j22⟩,j23⟩,j24⟩,j25⟩,j26⟩,j27⟩,j28⟩,j29⟩,j30⟩,j31⟩
theorem said:Rows.AufsKnownSaid:=
 OpenClaim.holds_of_cond 10 Tryz.f10 rfl rfl rfl rfl rfl rfl rfl ⟨rfl,rfl,rfl,rfl,rfl⟩ rfl rfl rfl rfl rfl (by kernel_rfl) Tryz.func10 facts
  (of_decide_eq_true (by kernel_rfl)) (by unfold Func.isWrapper;rw[if_neg (of_decide_eq_false (by kernel_rfl))];exact⟨rfl,rfl⟩)
  (fun os started H enc _ F=>by rw[OpenClaim.pre_eq_preRow];exact lifted os started H enc F)
#print axioms said
end Go.Proofs.YtbeeoomadnmogaaGreat.lwAufsKnown
