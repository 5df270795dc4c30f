/- ChainMakesAsSpecified, the tied card: for every input the law returns true, and the input reads as it did. -/
import Derived.Test.YtlkbkclnbppigaaGreatDoorQY7
namespace Go.Proofs.YtlkbkclnbppigaaGreatDoor
open _root_.Go.Proofs.Tryz _root_.Go.Proofs.YtlkbkclnbppigaaGreatDoor.Tryz
open Go.ChangeShapes Go.WideShapes Go.ChangeAt Go.RowKit Go.ChangeMaps
set_option linter.unusedVariables false
def aDp:Array Value:=#[.agg #[.int .i64 0,.int .i64 0,.string ByteArray.empty,.int .i64 0,.int .i64 0],.string ByteArray.empty,.agg #[.int .i64 0,.int .i64 0,.string ByteArray.empty,.slice none 0 0,.slice none 0 0,.slice none 0 0,.int .i64 0],.agg #[.int .i64 0,.int .i64 0,.string ByteArray.empty,.slice none 0 0,.int .u8 0,.int .u8 0,.int .u8 0,.int .u8 0,.int .u8 0,.int .u8 0,.int .u8 0,.int .u8 0,.int .u8 0,.int .u8 0,.int .u8 0,.int .u8 0,.int .u8 0,.int .u8 0,.int .u8 0,.int .u8 0]]
theorem aOv(os:Os):laidMet prog Rows.chainMakesAsSpecifiedRow.laid ((aFl os).forCall (fun _ _=>0) ⟨#[],aDp,[]⟩).memory :=
 laidMet_of_run' 8 aG aG
theorem aOw(os:Os){H:Type}(enc:TypeId × Value->H):∃ places,DataW.whole enc prog ((aFl os).forCall (fun _ _=>0) ⟨#[],aDp,[]⟩).memory Tryz.f3.params.toList Rows.chainMakesAsSpecifiedSpec.vars false aDp.toList 8=some ([.agg [.lit (.int .i64 0),.lit (.int .i64 0),.lit (.string []),.lit (.int .i64 0),.lit (.int .i64 0)],.lit (.string []),.agg [.lit (.int .i64 0),.lit (.int .i64 0),.lit (.string []),.nil,.nil,.nil,.lit (.int .i64 0)],.agg [.lit (.int .i64 0),.lit (.int .i64 0),.lit (.string []),.nil,.agg [.lit (.int .u8 0),.lit (.int .u8 0),.lit (.int .u8 0),.lit (.int .u8 0),.lit (.int .u8 0),.lit (.int .u8 0),.lit (.int .u8 0),.lit (.int .u8 0),.lit (.int .u8 0),.lit (.int .u8 0),.lit (.int .u8 0),.lit (.int .u8 0),.lit (.int .u8 0),.lit (.int .u8 0),.lit (.int .u8 0),.lit (.int .u8 0)]]],[],places) :=
 ⟨[],aG⟩
set_option maxRecDepth 100000 in
theorem aOx(H:Type)(enc:TypeId × Value->H)(W:World)(base:Nat)(args:Array Value)(ds gs:List (DataW H))(before:List MemPlace)
  (hval:∀ (j:Nat) t v,Tryz.f3.params[j]? = some t->args[j]? = some v->Value.okWide prog W .any base t v)
  (hW:DataW.Whole enc prog Tryz.f3.params.toList Rows.chainMakesAsSpecifiedSpec.vars false W args.toList ds gs before) (hL:laidMetH prog Rows.chainMakesAsSpecifiedRow.laid W) (hS:W.ShapedOpen prog) :
  Calls prog 3 args W fun e W'=>∃ v,e=.returned v/\Rows.chainMakesAsSpecifiedSpec.post enc prog Tryz.f3 false true false false W args v W':=by
 have hL':laidMet prog Rows.chainMakesAsSpecifiedRow.laid W:=hL;have hW':=hW;obtain⟨p,q,hA0,hV,rfl,hfz,hnd⟩:=hW;have hA:DataW.TrodAll enc prog W 0 (fun _=>true) true Tryz.f3.params.toList args.toList ds p:=hA0;rw[params3]at hA hval;obtain⟨v0,vs0,d0,ds0,p0,q0,hargs,rfl,rfl,h0,r0⟩:=trodAll_cons hA;obtain⟨v1,vs1,d1,ds1,p1,q1,rfl,rfl,rfl,h1,r1⟩:=trodAll_cons r0;obtain⟨v2,vs2,d2,ds2,p2,q2,rfl,rfl,rfl,h2,r2⟩:=trodAll_cons r1;obtain⟨v3,vs3,d3,ds3,p3,q3,rfl,rfl,rfl,h3,r3⟩:=trodAll_cons r2;obtain⟨rfl,rfl,rfl⟩:=trodAll_nil r3;obtain rfl:args=#[v0,v1,v2,v3]:=by cases args;simp_all
 obtain⟨k0,rfl⟩:=aOt (hval 0 23 v0 rfl rfl) h0;obtain⟨s1,rfl,rfl,-,z1⟩:=open_string underlying9 (hval 1 9 v1 rfl rfl) h1;obtain⟨c2,m2,rfl,z2⟩:=aOi (hval 2 27 v2 rfl rfl) h2;obtain⟨x3,rfl,z3,zn3⟩:=aOu (hval 3 32 v3 rfl rfl) h3;obtain⟨rfl,rfl⟩:=trodVars_none hV;unfold maxLen at z1;refine (aNq k0 s1 c2 x3 m2 W  z1 z2 z3 zn3 (aOe hS hL')).mono fun e W' ⟨he,hb⟩=>?_
 subst he;exact⟨_,rfl,aNr (t:=4) hW' rfl aNs aG aG underlying4 rfl hb⟩
set_option maxRecDepth 100000 in
theorem aOy(os:Os)(started:os.Started)(H:Type)(enc:TypeId × Value->H)(F:Stop.Interp) :
  ReturnsInHanded {} checked os 3 .any ((OpenSpec.ofChange Rows.chainMakesAsSpecifiedSpec).preRow enc prog Tryz.f3 Rows.chainMakesAsSpecifiedRow.domain false Rows.chainMakesAsSpecifiedRow.laid) (((OpenSpec.ofChange Rows.chainMakesAsSpecifiedSpec).at F).post enc prog Tryz.f3 false true false false):=by
 obtain⟨places,hx⟩:=aOw os enc;refine returnsInHanded_of_row (C:=checked) (s:=OpenSpec.ofChange Rows.chainMakesAsSpecifiedSpec) own started aG func3
  (witness_row_at (enc:=enc) (C:=checked) false (aFl os) aDp rfl aG aG aG
   (OpenSpec.preRow_of_cond 8 hx aG (fun k hk=>by cases hk) aG (aOv os))) ?_
 intro W base args ds gs before hval hW _ _ _ hL hS _;exact aOx H enc W base args ds gs before hval hW hL hS
theorem lS{a b:Bool}(h:a=true)(k:b=true):(a&&b)=true:=by rw[h,k];rfl
theorem aOz:laidOutB pinned.checked.prog=true:=by kernel_rfl
theorem aPa:mapsRowed pinned.checked.prog=true:=by kernel_rfl
theorem aPb:(Rows.chainMakesAsSpecifiedRow.inPlace==pinned.checked.prog.inPlace 3)=true:=by kernel_rfl
theorem aPc:(Rows.chainMakesAsSpecifiedRow.unfollowed==pinned.checked.prog.unfollowed 3)=true:=by kernel_rfl
theorem aPd:(Rows.chainMakesAsSpecifiedRow.recurses==pinned.checked.prog.recurses 3)=true:=by kernel_rfl
theorem aPe:(Rows.chainMakesAsSpecifiedRow.named==pinned.checked.prog.varsNamed 3)=true:=by kernel_rfl
theorem aPf:(Rows.chainMakesAsSpecifiedRow.plainKeys==pinned.checked.prog.plainKeys)=true:=by kernel_rfl
theorem aPg:pinned.checked.prog.stopsHeard=true:=by kernel_rfl
theorem aPh:pinned.checked.prog.mayEnter=true:=by kernel_rfl
theorem aPi:(Rows.chainMakesAsSpecifiedRow.lifted==pinned.checked.prog.liftsFinal)=true:=by kernel_rfl
theorem aPj:joinedFacts pinned.checked.prog 3 Tryz.f3 (OpenSpec.ofChange Rows.chainMakesAsSpecifiedSpec).bare Rows.chainMakesAsSpecifiedRow=true:=by
 unfold joinedFacts;exact (lS (lS (lS (lS (lS (lS (lS (lS (lS (lS (lS (lS (lS (lS (lS (lS (lS (lS (lS (lS (lS (lS (lS (lS (lS (lS (lS (lS (lS (lS (lS aG aOz) aPa) aG) aG) aG) aG) aG) aG) aPb) aPc) aPd) aPe) aG) aG) aG) aG) aG) aG) aG) aG) aG) aPf) aG) aPg) aPh) aPi) aG) aG) aG) aG) aG)
theorem aPk:Rows.ChainMakesAsSpecifiedSaid :=
 OpenClaim.holds_of_cond 3 Tryz.f3 rfl rfl rfl rfl rfl rfl rfl ⟨rfl,rfl,rfl,rfl,rfl⟩ rfl rfl rfl rfl rfl aG func3 aPj
  (of_decide_eq_true aG) (by unfold Func.isWrapper;first | (rw[if_pos (by decide +kernel)];kernel_rfl) | (rw[if_neg (by decide +kernel)];exact⟨rfl,rfl⟩))
  (fun os started H enc _ F=>by rw[OpenClaim.pre_eq_preRow];exact aOy os started H enc F)
theorem aPl(f:FuncId)(fn:Func)(hf:pinned.checked.prog.funcNamed "weirgate/weirgatelaw25.ChainMakesAsSpecified" = some f)(hfn:pinned.checked.prog.funcs[f]? = some fn) :
  true=pinned.checked.prog.looks []/\∀ (j:Nat) t,fn.params[j]? = some t->pinned.checked.prog.wantsStandIn t=false:=by
 obtain rfl:f=3:=Option.some.inj ((show prog.funcNamed "weirgate/weirgatelaw25.ChainMakesAsSpecified" = some 3 by kernel_rfl).symm.trans hf) |>.symm
 obtain rfl:fn=Tryz.f3:=(Option.some.inj (func3.symm.trans hfn)).symm;refine⟨aG,fun j t ht=>?_⟩;rw[params3]at ht;have hall:∀ t∈#[23,9,27,32],prog.wantsStandIn t=false:=by
  intro t ht;simp at ht;rcases ht with rfl | rfl | rfl | rfl
  all_goals kernel_rfl
 exact hall t (Array.mem_of_getElem? ht)
theorem cardMk:Rows.ChainMakesAsSpecifiedCardSaid :=
 Claim7.holds_tied_plain_at .later [] _ _ _ _ aPk (fun _ h=>by cases h) aG (fun _ h=>by cases h) chainMakesAsSpecified_row_tie rfl ⟨rfl,rfl⟩ aG rfl aPl aG
end Go.Proofs.YtlkbkclnbppigaaGreatDoor
