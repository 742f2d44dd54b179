/- FrameA -/
import Derived.Test.YtbeeoomadnmogaaGreatQI6
import Derived.Test.YtbeeoomadnmogaaGreatRows
import Derived.Test.YtbeeoomadnmogaaGreatQOwnAx
set_option maxRecDepth 100000
set_option maxHeartbeats 64000000
namespace Go.Proofs.YtbeeoomadnmogaaGreat
open Go.ChangeShapes Go.WideShapes Go.ChangeAt Go.RowKit
theorem own:ownKnob Tryz.prog.godebug=none:=by kernel_rfl
theorem zLK:laidOutB Tryz.prog=true:=by kernel_rfl
theorem zFC {H:Type}{enc:TypeId × Value->H}{W W':World}(hb:Below W.heap.size W W'):
  ∀(ts:List TypeId) (vs:List Value) (ds:List (DataW H)) (ps:List MemPlace),(∀t∈ts,Tryz.prog.readableRec t=true/\t<Tryz.prog.types.size)->(∀x∈ps,x.block<W.heap.size) ->
   DataW.TrodAll enc Tryz.prog W 0 (fun _=>true) true ts vs ds ps->DataW.TrodAll enc Tryz.prog W' 0 (fun b=>decide (b<W.heap.size)) true ts vs ds ps
 | [],[],[],ps,_,_,h=>h
 | t :: ts,v :: vs,d :: ds,ps,ht,hl,h=>by
  obtain⟨p,q,h1,h2,rfl⟩:=h;obtain⟨r1,r2⟩:=ht t (by simp);exact⟨p,q,Below.trod zLK r1 r2 h1 hb (fun x hx=>hl x (by simp[hx])),zFC hb ts vs ds q (fun t ht'=>ht t (by simp[ht'])) (fun x hx=>hl x (by simp[hx])) h2,rfl⟩
 | [],_ :: _,_,_,_,_,h=>h.elim
 | _ :: _,[],_,_,_,_,h=>h.elim
 | [],[],_ :: _,_,_,_,h=>h.elim
 | _ :: _,_ :: _,[],_,_,_,h=>h.elim
theorem zMX {H:Type}{enc:TypeId × Value->H}{f:Func}{s:ChangeSpec}{W W':World}{args:Array Value}{ds gs:List (DataW H)}{before:List MemPlace}
  (hW:DataW.Whole enc Tryz.prog f.params.toList s.vars false W args.toList ds gs before) (hv:s.vars= []) (hr:f.resultTypes= #[4])
  (hs:s.fn H ds= {results:=[.lit (.bool true)],args:=ds}) (hp:∀t∈f.params.toList,Tryz.prog.readableRec t=true/\t<Tryz.prog.types.size) (hb:Below W.heap.size W W') :
  s.post enc Tryz.prog f false true false false W args (.bool true) W':=by
 have hlt:∀x∈before,x.block<W.heap.size:=fun x hx=>by simpa using hW.lt x hx
 have hW':=hW;obtain⟨p,q,hA,hV,rfl,hfz,hnd⟩:=hW;rw[hv]at hV;obtain⟨rfl,rfl⟩:=trodVars_none hV;have e:s.fn H (ds++ [])= {results:=[.lit (.bool true)],args:=ds}:=by rw[List.append_nil];exact hs
 refine⟨ds,[],p++ [],[],p,[],hW',?_,?_,?_,?_,fun h=>by cases h⟩
 ·rw[e,hr];exact trodAll_mk1 (shut_bool Tryz.underlying4 true)
 ·rw[e];exact zFC hb _ _ _ _ hp (fun x hx=>hlt x (by simp[hx])) hA
 ·rw[e,hv];exact rfl
 ·exact World.keptBut_mono (fun x hx=>⟨hx,.inr (.inl (by simpa using hx))⟩) (hb.frame (· ∈p++ []))
noncomputable def zDN (os:Os):World:=World.holding Tryz.prog os ⟨#[],#[],[]⟩
theorem zKE (os:Os)(args:Array Value):laidMet Tryz.prog [] ((zDN os).forCall (fun _ _=>0) ⟨#[],args,[]⟩).memory:=
 laidMet_of_run' 10 (by kernel_rfl) (by kernel_rfl)
theorem zWm:(mapsRowed Tryz.prog)=true:=by kernel_rfl
theorem zTP:((Tryz.prog.stops== []))=true:=by kernel_rfl
theorem zTS:((Tryz.prog.stopKnobs== []))=true:=by kernel_rfl
theorem zTQ:((Rows.aufsDirsRow.plainKeys==Tryz.prog.plainKeys))=true:=by kernel_rfl
theorem zTT:(Tryz.prog.stopsHeard)=true:=by kernel_rfl
theorem zTU:(Tryz.prog.mayEnter)=true:=by kernel_rfl
theorem zTR:((Rows.aufsDirsRow.lifted==Tryz.prog.liftsFinal))=true:=by kernel_rfl
theorem zWn:((Tryz.prog.make==some Rows.aufsDirsRow.make))=true:=by kernel_rfl
end Go.Proofs.YtbeeoomadnmogaaGreat
