/- ChainReadsAsSpecified, the tied card: for every input the law returns true, and the input reads as it did. -/
import Derived.Test.YtlkbkclnbppigaaGreatDoorRY5
namespace Go.Proofs.YtlkbkclnbppigaaGreatDoor
open Go.ChangeShapes Go.WideShapes Go.ChangeAt Go.RowKit Go.ChangeMaps
set_option linter.unusedVariables false
def argsRs:Array Value:=#[.agg #[.int .i64 0,.int .i64 0,.string ByteArray.empty,.slice none 0 0,.int .u8 0,.int .u8 0,.int .u8 0,.int .u8 0,.int .u8 0,.int .u8 0,.int .u8 0,.int .u8 0,.int .u8 0,.int .u8 0,.int .u8 0,.int .u8 0,.int .u8 0,.int .u8 0,.int .u8 0,.int .u8 0],.string ByteArray.empty]
theorem laid_metRs (os:Os):laidMet Tryz.prog Rows.chainReadsAsSpecifiedRow.laid ((laidWorldR os).forCall (fun _ _=>0) ⟨#[],argsRs,[]⟩).memory :=
 laidMet_of_run' 8 (by kernel_rfl) (by kernel_rfl)
theorem readsRs (os:Os) {H:Type} (enc:TypeId × Value→H):∃ places,DataW.whole enc Tryz.prog ((laidWorldR os).forCall (fun _ _=>0) ⟨#[],argsRs,[]⟩).memory Tryz.f6.params.toList Rows.chainReadsAsSpecifiedSpec.vars false argsRs.toList 8=some ([.agg [.lit (.int .i64 0),.lit (.int .i64 0),.lit (.string []),.nil,.agg [.lit (.int .u8 0),.lit (.int .u8 0),.lit (.int .u8 0),.lit (.int .u8 0),.lit (.int .u8 0),.lit (.int .u8 0),.lit (.int .u8 0),.lit (.int .u8 0),.lit (.int .u8 0),.lit (.int .u8 0),.lit (.int .u8 0),.lit (.int .u8 0),.lit (.int .u8 0),.lit (.int .u8 0),.lit (.int .u8 0),.lit (.int .u8 0)]],.lit (.string [])],[],places) :=
 ⟨[],by kernel_rfl⟩
set_option maxRecDepth 100000 in
theorem contractRs (H:Type) (enc:TypeId × Value→H) (W:World) (base:Nat) (args:Array Value) (ds gs:List (DataW H)) (before:List MemPlace)
  (hval:∀ (j:Nat) t v,Tryz.f6.params[j]? = some t→args[j]? = some v→Value.okWide Tryz.prog W .any base t v)
  (hW:DataW.Whole enc Tryz.prog Tryz.f6.params.toList Rows.chainReadsAsSpecifiedSpec.vars false W args.toList ds gs before) (hL:laidMetH Tryz.prog Rows.chainReadsAsSpecifiedRow.laid W) (hS:W.ShapedOpen Tryz.prog) :
  Calls Tryz.prog 6 args W fun e W'=>∃ v,e=.returned v∧Rows.chainReadsAsSpecifiedSpec.post enc Tryz.prog Tryz.f6 false true false false W args v W':=by
 have hL':laidMet Tryz.prog Rows.chainReadsAsSpecifiedRow.laid W:=hL
 have hW':=hW
 obtain⟨p,q,hA0,hV,rfl,hfz,hnd⟩:=hW
 have hA:DataW.TrodAll enc Tryz.prog W 0 (fun _=>true) true Tryz.f6.params.toList args.toList ds p:=hA0
 rw[Tryz.params6]at hA hval
 obtain⟨v0,vs0,d0,ds0,p0,q0,hargs,rfl,rfl,h0,r0⟩:=trodAll_cons hA
 obtain⟨v1,vs1,d1,ds1,p1,q1,rfl,rfl,rfl,h1,r1⟩:=trodAll_cons r0
 obtain⟨rfl,rfl,rfl⟩:=trodAll_nil r1
 obtain rfl:args=#[v0,v1]:=by cases args;simp_all
 obtain⟨x0,rfl,z0,zn0⟩:=open_tok (hval 0 32 v0 rfl rfl) h0
 obtain⟨s1,rfl,rfl,-,z1⟩:=open_string Tryz.underlying9 (hval 1 9 v1 rfl rfl) h1
 obtain⟨rfl,rfl⟩:=trodVars_none hV
 unfold maxLen at z1
 refine (lawReads25 x0 s1 W z0 zn0 z1 (lawe_of hS hL')).mono fun e W' ⟨he,hb⟩=>?_
 subst he
 exact⟨_,rfl,law_post (t:=4) hW' rfl laidOut (by kernel_rfl) (by kernel_rfl) Tryz.underlying4 rfl hb⟩
set_option maxRecDepth 100000 in
theorem liftedRs (os:Os) (started:os.Started) (H:Type) (enc:TypeId × Value→H) (F:Stop.Interp) :
  ReturnsInHanded {} Tryz.checked os 6 .any ((OpenSpec.ofChange Rows.chainReadsAsSpecifiedSpec).preRow enc Tryz.prog Tryz.f6 Rows.chainReadsAsSpecifiedRow.domain false Rows.chainReadsAsSpecifiedRow.laid) (((OpenSpec.ofChange Rows.chainReadsAsSpecifiedSpec).at F).post enc Tryz.prog Tryz.f6 false true false false):=by
 obtain⟨places,hx⟩:=readsRs os enc
 refine returnsInHanded_of_row (C:=Tryz.checked) (s:=OpenSpec.ofChange Rows.chainReadsAsSpecifiedSpec) own started (by kernel_rfl) Tryz.func6
  (witness_row_at (enc:=enc) (C:=Tryz.checked) false (laidWorldR os) argsRs rfl (by kernel_rfl) (by kernel_rfl) (by kernel_rfl)
   (OpenSpec.preRow_of_cond 8 hx (by kernel_rfl) (fun k hk=>by cases hk) (by kernel_rfl) (laid_metRs os))) ?_
 intro W base args ds gs before hval hW _ _ _ hL hS _
 exact contractRs H enc W base args ds gs before hval hW hL hS
theorem and2 {a b:Bool} (h:a=true) (k:b=true):(a&&b)=true:=by rw[h,k];rfl
theorem factRs1:laidOutB Tryz.pinned.checked.prog=true:=by kernel_rfl
theorem factRs2:mapsRowed Tryz.pinned.checked.prog=true:=by kernel_rfl
theorem factRs9:(Rows.chainReadsAsSpecifiedRow.inPlace==Tryz.pinned.checked.prog.inPlace 6)=true:=by kernel_rfl
theorem factRs10:(Rows.chainReadsAsSpecifiedRow.unfollowed==Tryz.pinned.checked.prog.unfollowed 6)=true:=by kernel_rfl
theorem factRs11:(Rows.chainReadsAsSpecifiedRow.recurses==Tryz.pinned.checked.prog.recurses 6)=true:=by kernel_rfl
theorem factRs12:(Rows.chainReadsAsSpecifiedRow.named==Tryz.pinned.checked.prog.varsNamed 6)=true:=by kernel_rfl
theorem factRs22:(Rows.chainReadsAsSpecifiedRow.plainKeys==Tryz.pinned.checked.prog.plainKeys)=true:=by kernel_rfl
theorem factRs24:Tryz.pinned.checked.prog.stopsHeard=true:=by kernel_rfl
theorem factRs25:Tryz.pinned.checked.prog.mayEnter=true:=by kernel_rfl
theorem factRs26:(Rows.chainReadsAsSpecifiedRow.lifted==Tryz.pinned.checked.prog.liftsFinal)=true:=by kernel_rfl
theorem closedRs:joinedFacts Tryz.pinned.checked.prog 6 Tryz.f6 (OpenSpec.ofChange Rows.chainReadsAsSpecifiedSpec).bare Rows.chainReadsAsSpecifiedRow=true:=by
 unfold joinedFacts
 exact (and2 (and2 (and2 (and2 (and2 (and2 (and2 (and2 (and2 (and2 (and2 (and2 (and2 (and2 (and2 (and2 (and2 (and2 (and2 (and2 (and2 (and2 (and2 (and2 (and2 (and2 (and2 (and2 (and2 (and2 (and2 (by kernel_rfl) factRs1) factRs2) (by kernel_rfl)) (by kernel_rfl)) (by kernel_rfl)) (by kernel_rfl)) (by kernel_rfl)) (by kernel_rfl)) factRs9) factRs10) factRs11) factRs12) (by kernel_rfl)) (by kernel_rfl)) (by kernel_rfl)) (by kernel_rfl)) (by kernel_rfl)) (by kernel_rfl)) (by kernel_rfl)) (by kernel_rfl)) (by kernel_rfl)) factRs22) (by kernel_rfl)) factRs24) factRs25) factRs26) (by kernel_rfl)) (by kernel_rfl)) (by kernel_rfl)) (by kernel_rfl)) (by kernel_rfl))
theorem saidRs:Rows.ChainReadsAsSpecifiedSaid :=
 OpenClaim.holds_of_cond 6 Tryz.f6 rfl rfl rfl rfl rfl rfl rfl ⟨rfl,rfl,rfl,rfl,rfl⟩ rfl rfl rfl rfl rfl (by kernel_rfl) Tryz.func6 closedRs
  (of_decide_eq_true (by kernel_rfl)) (by unfold Func.isWrapper;first | (rw[if_pos (by decide +kernel)];kernel_rfl) | (rw[if_neg (by decide +kernel)];exact⟨rfl,rfl⟩))
  (fun os started H enc _ F=>by rw[OpenClaim.pre_eq_preRow];exact liftedRs os started H enc F)
theorem plainRs (f:FuncId) (fn:Func) (hf:Tryz.pinned.checked.prog.funcNamed "weirgate/weirgatelaw25.ChainReadsAsSpecified" = some f) (hfn:Tryz.pinned.checked.prog.funcs[f]? = some fn) :
  true=Tryz.pinned.checked.prog.looks []∧∀ (j:Nat) t,fn.params[j]? = some t→Tryz.pinned.checked.prog.wantsStandIn t=false:=by
 obtain rfl:f=6:=Option.some.inj ((show Tryz.prog.funcNamed "weirgate/weirgatelaw25.ChainReadsAsSpecified" = some 6 by kernel_rfl).symm.trans hf) |>.symm
 obtain rfl:fn=Tryz.f6:=(Option.some.inj (Tryz.func6.symm.trans hfn)).symm
 refine⟨by kernel_rfl,fun j t ht=>?_⟩
 rw[Tryz.params6]at ht
 have hall:∀ t∈#[32,9],Tryz.prog.wantsStandIn t=false:=by
  intro t ht
  simp at ht
  rcases ht with rfl | rfl
  all_goals kernel_rfl
 exact hall t (Array.mem_of_getElem? ht)
theorem cardRs:Rows.ChainReadsAsSpecifiedCardSaid :=
 Claim7.holds_tied_plain_at .later [] _ _ _ _ saidRs (fun _ h=>by cases h) (by kernel_rfl) (fun _ h=>by cases h) chainReadsAsSpecified_row_tie rfl ⟨rfl,rfl⟩ (by kernel_rfl) rfl plainRs (by kernel_rfl)
end Go.Proofs.YtlkbkclnbppigaaGreatDoor
