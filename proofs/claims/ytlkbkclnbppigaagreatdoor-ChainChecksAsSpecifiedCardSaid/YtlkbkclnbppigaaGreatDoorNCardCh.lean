/- ChainChecksAsSpecified, the tied card: for every input the law returns true, and the input reads as it did. -/
import Derived.Test.YtlkbkclnbppigaaGreatDoorNY7
namespace Go.Proofs.YtlkbkclnbppigaaGreatDoor
open _root_.Go.Proofs.Tryz _root_.Go.Proofs.YtlkbkclnbppigaaGreatDoor.Tryz
open Go.ChangeShapes Go.WideShapes Go.ChangeAt Go.RowKit Go.ChangeMaps
set_option linter.unusedVariables false
def Dv:Array Value:=#[.slice none 0 0,.agg #[.int .i64 0,.int .i64 0,.string ByteArray.empty,.slice none 0 0,.int .u8 0,.int .u8 0,.int .u8 0,.int .u8 0,.int .u8 0,.int .u8 0,.int .u8 0,.int .u8 0,.int .u8 0,.int .u8 0,.int .u8 0,.int .u8 0,.int .u8 0,.int .u8 0,.int .u8 0,.int .u8 0],.agg #[.string ByteArray.empty,.string ByteArray.empty,.string ByteArray.empty,.int .i64 0,.int .i64 0,.int .i64 0]]
theorem aKf(os:Os):laidMet prog Rows.chainChecksAsSpecifiedRow.laid ((JH os).forCall (fun _ _=>0) ⟨#[],Dv,[]⟩).memory :=
 laidMet_of_run' 8 aC aC
theorem aKg(os:Os){H:Type}(enc:TypeId × Value->H):∃ places,DataW.whole enc prog ((JH os).forCall (fun _ _=>0) ⟨#[],Dv,[]⟩).memory Tryz.f4.params.toList Rows.chainChecksAsSpecifiedSpec.vars false Dv.toList 8=some ([.nil,.agg [.lit (.int .i64 0),.lit (.int .i64 0),.lit (.string []),.nil,.agg [.lit (.int .u8 0),.lit (.int .u8 0),.lit (.int .u8 0),.lit (.int .u8 0),.lit (.int .u8 0),.lit (.int .u8 0),.lit (.int .u8 0),.lit (.int .u8 0),.lit (.int .u8 0),.lit (.int .u8 0),.lit (.int .u8 0),.lit (.int .u8 0),.lit (.int .u8 0),.lit (.int .u8 0),.lit (.int .u8 0),.lit (.int .u8 0)]],.agg [.lit (.string []),.lit (.string []),.lit (.string []),.lit (.int .i64 0),.agg [.lit (.int .i64 0),.lit (.int .i64 0)]]],[],places) :=
 ⟨[],aC⟩
set_option maxRecDepth 100000 in
theorem aKh(H:Type)(enc:TypeId × Value->H)(W:World)(base:Nat)(args:Array Value)(ds gs:List (DataW H))(before:List MemPlace)
  (hval:∀ (j:Nat) t v,Tryz.f4.params[j]? = some t->args[j]? = some v->Value.okWide prog W .any base t v)
  (hW:DataW.Whole enc prog Tryz.f4.params.toList Rows.chainChecksAsSpecifiedSpec.vars false W args.toList ds gs before) (hL:laidMetH prog Rows.chainChecksAsSpecifiedRow.laid W) (hS:W.ShapedOpen prog) :
  Calls prog 4 args W fun e W'=>∃ v,e=.returned v/\Rows.chainChecksAsSpecifiedSpec.post enc prog Tryz.f4 false true false false W args v W':=by
 have hL':laidMet prog Rows.chainChecksAsSpecifiedRow.laid W:=hL;have hW':=hW;obtain⟨p,q,hA0,hV,rfl,hfz,hnd⟩:=hW;have hA:DataW.TrodAll enc prog W 0 (fun _=>true) true Tryz.f4.params.toList args.toList ds p:=hA0;rw[params4]at hA hval;obtain⟨v0,vs0,d0,ds0,p0,q0,hargs,rfl,rfl,h0,r0⟩:=trodAll_cons hA;obtain⟨v1,vs1,d1,ds1,p1,q1,rfl,rfl,rfl,h1,r1⟩:=trodAll_cons r0;obtain⟨v2,vs2,d2,ds2,p2,q2,rfl,rfl,rfl,h2,r2⟩:=trodAll_cons r1;obtain⟨rfl,rfl,rfl⟩:=trodAll_nil r2;obtain rfl:args=#[v0,v1,v2]:=by cases args;simp_all
 obtain⟨A0,n0,c0,L0,rfl,z0,zn0⟩:=aKi (hval 0 55 v0 rfl rfl) h0;obtain⟨x1,rfl,z1,zn1⟩:=aKj (hval 1 32 v1 rfl rfl) h1;obtain⟨q2,rfl⟩:=aKk (hval 2 59 v2 rfl rfl) h2;obtain⟨rfl,rfl⟩:=trodVars_none hV;refine (aKl A0 n0 c0 L0 x1  q2 W z0 zn0 z1 zn1  (aKm hS hL')).mono fun e W' ⟨he,hb⟩=>?_
 subst he;exact⟨_,rfl,aKn (t:=4) hW' rfl aKo aC aC underlying4 rfl hb⟩
set_option maxRecDepth 100000 in
theorem aKp(os:Os)(started:os.Started)(H:Type)(enc:TypeId × Value->H)(F:Stop.Interp) :
  ReturnsInHanded {} checked os 4 .any ((OpenSpec.ofChange Rows.chainChecksAsSpecifiedSpec).preRow enc prog Tryz.f4 Rows.chainChecksAsSpecifiedRow.domain false Rows.chainChecksAsSpecifiedRow.laid) (((OpenSpec.ofChange Rows.chainChecksAsSpecifiedSpec).at F).post enc prog Tryz.f4 false true false false):=by
 obtain⟨places,hx⟩:=aKg os enc;refine returnsInHanded_of_row (C:=checked) (s:=OpenSpec.ofChange Rows.chainChecksAsSpecifiedSpec) own started aC func4
  (witness_row_at (enc:=enc) (C:=checked) false (JH os) Dv rfl aC aC aC
   (OpenSpec.preRow_of_cond 8 hx aC (fun k hk=>by cases hk) aC (aKf os))) ?_
 intro W base args ds gs before hval hW _ _ _ hL hS _;exact aKh H enc W base args ds gs before hval hW hL hS
theorem eX{a b:Bool}(h:a=true)(k:b=true):(a&&b)=true:=by rw[h,k];rfl
theorem aKq:laidOutB pinned.checked.prog=true:=by kernel_rfl
theorem aKr:mapsRowed pinned.checked.prog=true:=by kernel_rfl
theorem aKs:(Rows.chainChecksAsSpecifiedRow.inPlace==pinned.checked.prog.inPlace 4)=true:=by kernel_rfl
theorem aKt:(Rows.chainChecksAsSpecifiedRow.unfollowed==pinned.checked.prog.unfollowed 4)=true:=by kernel_rfl
theorem aKu:(Rows.chainChecksAsSpecifiedRow.recurses==pinned.checked.prog.recurses 4)=true:=by kernel_rfl
theorem aKv:(Rows.chainChecksAsSpecifiedRow.named==pinned.checked.prog.varsNamed 4)=true:=by kernel_rfl
theorem aKw:(Rows.chainChecksAsSpecifiedRow.plainKeys==pinned.checked.prog.plainKeys)=true:=by kernel_rfl
theorem aKx:pinned.checked.prog.stopsHeard=true:=by kernel_rfl
theorem aKy:pinned.checked.prog.mayEnter=true:=by kernel_rfl
theorem aKz:(Rows.chainChecksAsSpecifiedRow.lifted==pinned.checked.prog.liftsFinal)=true:=by kernel_rfl
theorem aLa:joinedFacts pinned.checked.prog 4 Tryz.f4 (OpenSpec.ofChange Rows.chainChecksAsSpecifiedSpec).bare Rows.chainChecksAsSpecifiedRow=true:=by
 unfold joinedFacts;exact (eX (eX (eX (eX (eX (eX (eX (eX (eX (eX (eX (eX (eX (eX (eX (eX (eX (eX (eX (eX (eX (eX (eX (eX (eX (eX (eX (eX (eX (eX (eX aC aKq) aKr) aC) aC) aC) aC) aC) aC) aKs) aKt) aKu) aKv) aC) aC) aC) aC) aC) aC) aC) aC) aC) aKw) aC) aKx) aKy) aKz) aC) aC) aC) aC) aC)
theorem aLb:Rows.ChainChecksAsSpecifiedSaid :=
 OpenClaim.holds_of_cond 4 Tryz.f4 rfl rfl rfl rfl rfl rfl rfl ⟨rfl,rfl,rfl,rfl,rfl⟩ rfl rfl rfl rfl rfl aC func4 aLa
  (of_decide_eq_true aC) (by unfold Func.isWrapper;first | (rw[if_pos (by decide +kernel)];kernel_rfl) | (rw[if_neg (by decide +kernel)];exact⟨rfl,rfl⟩))
  (fun os started H enc _ F=>by rw[OpenClaim.pre_eq_preRow];exact aKp os started H enc F)
theorem aLc(f:FuncId)(fn:Func)(hf:pinned.checked.prog.funcNamed "weirgate/weirgatelaw25.ChainChecksAsSpecified" = some f)(hfn:pinned.checked.prog.funcs[f]? = some fn) :
  true=pinned.checked.prog.looks []/\∀ (j:Nat) t,fn.params[j]? = some t->pinned.checked.prog.wantsStandIn t=false:=by
 obtain rfl:f=4:=Option.some.inj ((show prog.funcNamed "weirgate/weirgatelaw25.ChainChecksAsSpecified" = some 4 by kernel_rfl).symm.trans hf) |>.symm
 obtain rfl:fn=Tryz.f4:=(Option.some.inj (func4.symm.trans hfn)).symm;refine⟨aC,fun j t ht=>?_⟩;rw[params4]at ht;have hall:∀ t∈#[55,32,59],prog.wantsStandIn t=false:=by
  intro t ht;simp at ht;rcases ht with rfl | rfl | rfl
  all_goals kernel_rfl
 exact hall t (Array.mem_of_getElem? ht)
theorem aRn:Rows.ChainChecksAsSpecifiedCardSaid :=
 Claim7.holds_tied_plain_at .later [] _ _ _ _ aLb (fun _ h=>nP) aC (fun _ h=>nP) chainChecksAsSpecified_row_tie rfl ⟨rfl,rfl⟩ aC rfl aLc aC
end Go.Proofs.YtlkbkclnbppigaaGreatDoor
