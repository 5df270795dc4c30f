/- ChainReadsBack, the tied card: for every input the law returns true, and the input reads as it did. -/
import Derived.Test.YtlkbkclnbppigaaGreatDoorIZ47
namespace Go.Proofs.YtlkbkclnbppigaaGreatDoor
open Go.ChangeShapes Go.WideShapes Go.ChangeAt Go.RowKit Go.ChangeMaps
set_option linter.unusedVariables false
def argsRb:Array Value:=#[.agg #[.int .i64 0,.int .i64 0,.string ByteArray.empty,.slice none 0 0,.int .u8 0,.int .u8 0,.int .u8 0,.int .u8 0,.int .u8 0,.int .u8 0,.int .u8 0,.int .u8 0,.int .u8 0,.int .u8 0,.int .u8 0,.int .u8 0,.int .u8 0,.int .u8 0,.int .u8 0,.int .u8 0],.string ByteArray.empty]
theorem laid_metRb (os:Os):laidMet Tryz.prog Rows.chainReadsBackRow.laid ((laidWorldR os).forCall (fun _ _=>0) ⟨#[],argsRb,[]⟩).memory :=
 laidMet_of_run' 8 (by kernel_rfl) (by kernel_rfl)
theorem readsRb (os:Os) {H:Type} (enc:TypeId × Value→H):∃ places,DataW.whole enc Tryz.prog ((laidWorldR os).forCall (fun _ _=>0) ⟨#[],argsRb,[]⟩).memory Tryz.f7.params.toList Rows.chainReadsBackSpec.vars false argsRb.toList 8=some ([.agg [.lit (.int .i64 0),.lit (.int .i64 0),.lit (.string []),.nil,.agg [.lit (.int .u8 0),.lit (.int .u8 0),.lit (.int .u8 0),.lit (.int .u8 0),.lit (.int .u8 0),.lit (.int .u8 0),.lit (.int .u8 0),.lit (.int .u8 0),.lit (.int .u8 0),.lit (.int .u8 0),.lit (.int .u8 0),.lit (.int .u8 0),.lit (.int .u8 0),.lit (.int .u8 0),.lit (.int .u8 0),.lit (.int .u8 0)]],.lit (.string [])],[],places) :=
 ⟨[],by kernel_rfl⟩
set_option maxRecDepth 100000 in
theorem contractRb (H:Type) (enc:TypeId × Value→H) (W:World) (base:Nat) (args:Array Value) (ds gs:List (DataW H)) (before:List MemPlace)
  (hval:∀ (j:Nat) t v,Tryz.f7.params[j]? = some t→args[j]? = some v→Value.okWide Tryz.prog W .any base t v)
  (hW:DataW.Whole enc Tryz.prog Tryz.f7.params.toList Rows.chainReadsBackSpec.vars false W args.toList ds gs before) (hL:laidMetH Tryz.prog Rows.chainReadsBackRow.laid W) (hS:W.ShapedOpen Tryz.prog) :
  Calls Tryz.prog 7 args W fun e W'=>∃ v,e=.returned v∧Rows.chainReadsBackSpec.post enc Tryz.prog Tryz.f7 false true false false W args v W':=by
 have hL':laidMet Tryz.prog Rows.chainReadsBackRow.laid W:=hL
 have hW':=hW
 obtain⟨p,q,hA0,hV,rfl,hfz,hnd⟩:=hW
 have hA:DataW.TrodAll enc Tryz.prog W 0 (fun _=>true) true Tryz.f7.params.toList args.toList ds p:=hA0
 rw[Tryz.params7]at hA hval
 obtain⟨v0,vs0,d0,ds0,p0,q0,hargs,rfl,rfl,h0,r0⟩:=trodAll_cons hA
 obtain⟨v1,vs1,d1,ds1,p1,q1,rfl,rfl,rfl,h1,r1⟩:=trodAll_cons r0
 obtain⟨rfl,rfl,rfl⟩:=trodAll_nil r1
 obtain rfl:args=#[v0,v1]:=by cases args;simp_all
 obtain⟨x0,rfl,z0,zn0⟩:=open_tok (hval 0 32 v0 rfl rfl) h0
 obtain⟨s1,rfl,rfl,-,z1⟩:=open_string Tryz.underlying9 (hval 1 9 v1 rfl rfl) h1
 obtain⟨rfl,rfl⟩:=trodVars_none hV
 unfold maxLen at z1
 refine (lawReadsBack x0 s1 W z0 zn0 z1 (lawe_of hS hL')).mono fun e W' ⟨he,hb⟩=>?_
 subst he
 exact⟨_,rfl,law_post (t:=4) hW' rfl laidOut (by kernel_rfl) (by kernel_rfl) Tryz.underlying4 rfl hb⟩
set_option maxRecDepth 100000 in
theorem liftedRb (os:Os) (started:os.Started) (H:Type) (enc:TypeId × Value→H) (F:Stop.Interp) :
  ReturnsInHanded {} Tryz.checked os 7 .any ((OpenSpec.ofChange Rows.chainReadsBackSpec).preRow enc Tryz.prog Tryz.f7 Rows.chainReadsBackRow.domain false Rows.chainReadsBackRow.laid) (((OpenSpec.ofChange Rows.chainReadsBackSpec).at F).post enc Tryz.prog Tryz.f7 false true false false):=by
 obtain⟨places,hx⟩:=readsRb os enc
 refine returnsInHanded_of_row (C:=Tryz.checked) (s:=OpenSpec.ofChange Rows.chainReadsBackSpec) own started (by kernel_rfl) Tryz.func7
  (witness_row_at (enc:=enc) (C:=Tryz.checked) false (laidWorldR os) argsRb rfl (by kernel_rfl) (by kernel_rfl) (by kernel_rfl)
   (OpenSpec.preRow_of_cond 8 hx (by kernel_rfl) (fun k hk=>by cases hk) (by kernel_rfl) (laid_metRb os))) ?_
 intro W base args ds gs before hval hW _ _ _ hL hS _
 exact contractRb H enc W base args ds gs before hval hW hL hS
theorem and2 {a b:Bool} (h:a=true) (k:b=true):(a&&b)=true:=by rw[h,k];rfl
theorem factRb1:laidOutB Tryz.pinned.checked.prog=true:=by kernel_rfl
theorem factRb2:mapsRowed Tryz.pinned.checked.prog=true:=by kernel_rfl
theorem factRb9:(Rows.chainReadsBackRow.inPlace==Tryz.pinned.checked.prog.inPlace 7)=true:=by kernel_rfl
theorem factRb10:(Rows.chainReadsBackRow.unfollowed==Tryz.pinned.checked.prog.unfollowed 7)=true:=by kernel_rfl
theorem factRb11:(Rows.chainReadsBackRow.recurses==Tryz.pinned.checked.prog.recurses 7)=true:=by kernel_rfl
theorem factRb12:(Rows.chainReadsBackRow.named==Tryz.pinned.checked.prog.varsNamed 7)=true:=by kernel_rfl
theorem factRb22:(Rows.chainReadsBackRow.plainKeys==Tryz.pinned.checked.prog.plainKeys)=true:=by kernel_rfl
theorem factRb24:Tryz.pinned.checked.prog.stopsHeard=true:=by kernel_rfl
theorem factRb25:Tryz.pinned.checked.prog.mayEnter=true:=by kernel_rfl
theorem factRb26:(Rows.chainReadsBackRow.lifted==Tryz.pinned.checked.prog.liftsFinal)=true:=by kernel_rfl
theorem closedRb:joinedFacts Tryz.pinned.checked.prog 7 Tryz.f7 (OpenSpec.ofChange Rows.chainReadsBackSpec).bare Rows.chainReadsBackRow=true:=by
 unfold joinedFacts
 exact (and2 (and2 (and2 (and2 (and2 (and2 (and2 (and2 (and2 (and2 (and2 (and2 (and2 (and2 (and2 (and2 (and2 (and2 (and2 (and2 (and2 (and2 (and2 (and2 (and2 (and2 (and2 (and2 (and2 (and2 (and2 (by kernel_rfl) factRb1) factRb2) (by kernel_rfl)) (by kernel_rfl)) (by kernel_rfl)) (by kernel_rfl)) (by kernel_rfl)) (by kernel_rfl)) factRb9) factRb10) factRb11) factRb12) (by kernel_rfl)) (by kernel_rfl)) (by kernel_rfl)) (by kernel_rfl)) (by kernel_rfl)) (by kernel_rfl)) (by kernel_rfl)) (by kernel_rfl)) (by kernel_rfl)) factRb22) (by kernel_rfl)) factRb24) factRb25) factRb26) (by kernel_rfl)) (by kernel_rfl)) (by kernel_rfl)) (by kernel_rfl)) (by kernel_rfl))
theorem saidRb:Rows.ChainReadsBackSaid :=
 OpenClaim.holds_of_cond 7 Tryz.f7 rfl rfl rfl rfl rfl rfl rfl ⟨rfl,rfl,rfl,rfl,rfl⟩ rfl rfl rfl rfl rfl (by kernel_rfl) Tryz.func7 closedRb
  (of_decide_eq_true (by kernel_rfl)) (by unfold Func.isWrapper;first | (rw[if_pos (by decide +kernel)];kernel_rfl) | (rw[if_neg (by decide +kernel)];exact⟨rfl,rfl⟩))
  (fun os started H enc _ F=>by rw[OpenClaim.pre_eq_preRow];exact liftedRb os started H enc F)
theorem plainRb (f:FuncId) (fn:Func) (hf:Tryz.pinned.checked.prog.funcNamed "weirgate/weirgatelaw25.ChainReadsBack" = some f) (hfn:Tryz.pinned.checked.prog.funcs[f]? = some fn) :
  true=Tryz.pinned.checked.prog.looks []∧∀ (j:Nat) t,fn.params[j]? = some t→Tryz.pinned.checked.prog.wantsStandIn t=false:=by
 obtain rfl:f=7:=Option.some.inj ((show Tryz.prog.funcNamed "weirgate/weirgatelaw25.ChainReadsBack" = some 7 by kernel_rfl).symm.trans hf) |>.symm
 obtain rfl:fn=Tryz.f7:=(Option.some.inj (Tryz.func7.symm.trans hfn)).symm
 refine⟨by kernel_rfl,fun j t ht=>?_⟩
 rw[Tryz.params7]at ht
 have hall:∀ t∈#[32,9],Tryz.prog.wantsStandIn t=false:=by
  intro t ht
  simp at ht
  rcases ht with rfl | rfl
  all_goals kernel_rfl
 exact hall t (Array.mem_of_getElem? ht)
theorem cardRb:Rows.ChainReadsBackCardSaid :=
 Claim7.holds_tied_plain_at .later [] _ _ _ _ saidRb (fun _ h=>by cases h) (by kernel_rfl) (fun _ h=>by cases h) chainReadsBack_row_tie rfl ⟨rfl,rfl⟩ (by kernel_rfl) rfl plainRb (by kernel_rfl)
end Go.Proofs.YtlkbkclnbppigaaGreatDoor
