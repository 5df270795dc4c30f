/- What a row of a law asks behind a call that returns true and leaves all that was there as it was: for any program and any parameters. -/
import Derived.OpenShut
import GoSem.PinnedTables
namespace Go.Proofs.YtlkbkclnbppigaaGreatDoor
open Go.RowKit Go.ChangeShapes Go.WideShapes
section
variable {H:Type} {enc:TypeId × Value→H} {P:Program}
def rowed (P:Program) (ts:List TypeId):Bool:=ts.all fun t=>P.readableRec t&&decide (t<P.types.size)
theorem args_stay (hl:laidOutB P=true) {W W':World} (hb:Below W.heap.size W W') (sp:Nat→Bool) :
  ∀ {ts:List TypeId} {vs:List Value} {ds:List (DataW H)} {ps:List MemPlace},rowed P ts=true→DataW.TrodAll enc P W 0 (fun _=>true) true ts vs ds ps→(∀ x∈ps,x.block<W.heap.size)→(∀ x∈ps,sp x.block=true)→DataW.TrodAll enc P W' 0 sp true ts vs ds ps
 | [],vs,ds,ps,_,h,_,_=>by
  obtain⟨rfl,rfl,rfl⟩:=trodAll_nil h
  exact trodAll_mk0
 | t :: ts,vs,ds,ps,hr,h,h1,h2=>by
  obtain⟨v,vs',d,ds',p,q,rfl,rfl,rfl,hv,hs⟩:=trodAll_cons h
  simp only[rowed,List.all_cons,Bool.and_eq_true,decide_eq_true_eq]at hr
  exact trodAll_cons_mk (WideElems.Trod_stays hl hr.1.1 hr.1.2 hv (fun x hx=>hb.same (h1 x (by simp[hx]))) (fun x hx=>h2 x (by simp[hx])))
   (args_stay hl hb sp (by simpa[rowed] using hr.2) hs (fun x hx=>h1 x (by simp[hx])) (fun x hx=>h2 x (by simp[hx])))
theorem bool_reads {t:TypeId} {W:World} {b:Nat} {sp:Nat→Bool} {hd:Bool} (ht:P.underlying t=some .bool) (x:Bool):DataW.TrodAll enc P W b sp hd [t] [.bool x] [.lit (.bool x)] []:=trodAll_mk1 (shut_bool ht x)
theorem law_post {f:Func} {s:ChangeSpec} {apart fresh handsOn again:Bool} {W W':World} {args:Array Value} {ds gs:List (DataW H)} {before:List MemPlace} {t:TypeId}
  (hW:DataW.Whole enc P f.params.toList s.vars apart W args.toList ds gs before) (hvars:s.vars=[]) (hl:laidOutB P=true) (hrow:rowed P f.params.toList=true) (hres:f.resultTypes=#[t]) (ht:P.underlying t=some .bool)
  (hfn:s.fn H (ds++gs)={ results:=[.lit (.bool true)],args:=ds }) (hb:Below W.heap.size W W'):s.post enc P f apart fresh handsOn again W args (.bool true) W':=by
 have hlt:∀ x∈before,x.block<W.heap.size:=fun x hx=>hW.lt x hx
 have hW0:=hW
 obtain⟨p,q,hA,hV,hp,hfz,hnd⟩:=hW
 rw[hvars]at hV
 obtain⟨rfl,rfl⟩:=trodVars_none hV
 rw[List.append_nil]at hp
 subst hp
 have hr1:(Value.bool true).resultList f.resultTypes.size=[.bool true]:=by rw[hres];rfl
 have hr2:f.resultTypes.toList=[t]:=by rw[hres]
 have hvs:∀ sp,DataW.TrodVars enc P W' sp s.vars [] []:=fun sp=>by rw[hvars];rfl
 refine⟨ds,[],before,[],before,[],hW0,?_,?_,?_,?_,fun _=>⟨?_,.lit (.bool true) :: ds,[],before,?_,fun x hx _=>hx⟩⟩
 ·rw[hfn,hr1,hr2];exact bool_reads ht true
 ·rw[hfn];exact args_stay hl hb _ hrow hA hlt (fun x hx=>by simpa using hlt x hx)
 ·rw[hfn];exact hvs _
 ·exact World.keptBut_mono (fun x hx=>⟨hx,.inr (.inl hx)⟩) (hb.frame (·∈before))
 ·exact ok_one hres rfl (okWide_bool_mk ht true)
 ·refine⟨before,[],?_,hvs _,by simp,?_,hnd⟩
  ·rw[hr1,hr2]
   have:=trodAll_append (args_stay hl hb (fun _=>true) hrow hA hlt (fun _ _=>rfl)) (bool_reads (enc:=enc) (P:=P) (W:=W') (b:=0) (sp:=fun _=>true) (hd:=true) ht true)
   simpa using this
  ·intro b off hx
   rw[hb.frozen (hlt _ hx)]
   exact hfz b off hx
end
end Go.Proofs.YtlkbkclnbppigaaGreatDoor
