/- ChainOnlyNarrows, the tied card: for every input the law returns true, and the input reads as it did. -/
import Derived.Test.YtlkbkclnbppigaaGreatDoorWY7
namespace Go.Proofs.YtlkbkclnbppigaaGreatDoor
open _root_.Go.Proofs.Tryz _root_.Go.Proofs.YtlkbkclnbppigaaGreatDoor.Tryz
open Go.ChangeShapes Go.WideShapes Go.ChangeAt Go.RowKit Go.ChangeMaps
set_option linter.unusedVariables false
def aEo:Array Value:=#[.agg #[.int .i64 0,.int .i64 0,.string ByteArray.empty,.int .i64 0,.int .i64 0],.string ByteArray.empty,.slice none 0 0,.agg #[.string ByteArray.empty,.string ByteArray.empty,.string ByteArray.empty,.int .i64 0,.int .i64 0,.int .i64 0]]
theorem aRw(os:Os):laidMet prog Rows.chainOnlyNarrowsRow.laid ((aGe os).forCall (fun _ _=>0) ⟨#[],aEo,[]⟩).memory :=
 laidMet_of_run' 8 aG aG
theorem aRx(os:Os){H:Type}(enc:TypeId × Value->H):∃ places,DataW.whole enc prog ((aGe os).forCall (fun _ _=>0) ⟨#[],aEo,[]⟩).memory Tryz.f8.params.toList Rows.chainOnlyNarrowsSpec.vars false aEo.toList 8=some ([.agg [.lit (.int .i64 0),.lit (.int .i64 0),.lit (.string []),.lit (.int .i64 0),.lit (.int .i64 0)],.lit (.string []),.nil,.agg [.lit (.string []),.lit (.string []),.lit (.string []),.lit (.int .i64 0),.agg [.lit (.int .i64 0),.lit (.int .i64 0)]]],[],places) :=
 ⟨[],aG⟩
set_option maxRecDepth 100000 in
theorem aRy(H:Type)(enc:TypeId × Value->H)(W:World)(base:Nat)(args:Array Value)(ds gs:List (DataW H))(before:List MemPlace)
  (hval:∀ (j:Nat) t v,Tryz.f8.params[j]? = some t->args[j]? = some v->Value.okWide prog W .any base t v)
  (hW:DataW.Whole enc prog Tryz.f8.params.toList Rows.chainOnlyNarrowsSpec.vars false W args.toList ds gs before) (hL:laidMetH prog Rows.chainOnlyNarrowsRow.laid W) (hS:W.ShapedOpen prog) :
  Calls prog 8 args W fun e W'=>∃ v,e=.returned v/\Rows.chainOnlyNarrowsSpec.post enc prog Tryz.f8 false true false false W args v W':=by
 have hL':laidMet prog Rows.chainOnlyNarrowsRow.laid W:=hL;have hW':=hW;obtain⟨p,q,hA0,hV,rfl,hfz,hnd⟩:=hW;have hA:DataW.TrodAll enc prog W 0 (fun _=>true) true Tryz.f8.params.toList args.toList ds p:=hA0;rw[params8]at hA hval;obtain⟨v0,vs0,d0,ds0,p0,q0,hargs,rfl,rfl,h0,r0⟩:=trodAll_cons hA;obtain⟨v1,vs1,d1,ds1,p1,q1,rfl,rfl,rfl,h1,r1⟩:=trodAll_cons r0;obtain⟨v2,vs2,d2,ds2,p2,q2,rfl,rfl,rfl,h2,r2⟩:=trodAll_cons r1;obtain⟨v3,vs3,d3,ds3,p3,q3,rfl,rfl,rfl,h3,r3⟩:=trodAll_cons r2;obtain⟨rfl,rfl,rfl⟩:=trodAll_nil r3;obtain rfl:args=#[v0,v1,v2,v3]:=by cases args;simp_all
 obtain⟨k0,rfl⟩:=aRu (hval 0 23 v0 rfl rfl) h0;obtain⟨s1,rfl,rfl,-,z1⟩:=open_string underlying9 (hval 1 9 v1 rfl rfl) h1;obtain⟨A2,n2,c2,L2,rfl,z2,zc2,zn2⟩:=aRv (hval 2 28 v2 rfl rfl) h2;obtain⟨q3,rfl⟩:=aRo (hval 3 59 v3 rfl rfl) h3;obtain⟨rfl,rfl⟩:=trodVars_none hV;unfold maxLen at z1;refine (aQw k0 s1 A2 n2 c2 L2  q3 W  z1 z2 zc2 zn2  (aRi hS hL')).mono fun e W' ⟨he,hb⟩=>?_
 subst he;exact⟨_,rfl,aQx (t:=4) hW' rfl aQy aG aG underlying4 rfl hb⟩
set_option maxRecDepth 100000 in
theorem aRz(os:Os)(started:os.Started)(H:Type)(enc:TypeId × Value->H)(F:Stop.Interp) :
  ReturnsInHanded {} checked os 8 .any ((OpenSpec.ofChange Rows.chainOnlyNarrowsSpec).preRow enc prog Tryz.f8 Rows.chainOnlyNarrowsRow.domain false Rows.chainOnlyNarrowsRow.laid) (((OpenSpec.ofChange Rows.chainOnlyNarrowsSpec).at F).post enc prog Tryz.f8 false true false false):=by
 obtain⟨places,hx⟩:=aRx os enc;refine returnsInHanded_of_row (C:=checked) (s:=OpenSpec.ofChange Rows.chainOnlyNarrowsSpec) own started aG func8
  (witness_row_at (enc:=enc) (C:=checked) false (aGe os) aEo rfl aG aG aG
   (OpenSpec.preRow_of_cond 8 hx aG (fun k hk=>by cases hk) aG (aRw os))) ?_
 intro W base args ds gs before hval hW _ _ _ hL hS _;exact aRy H enc W base args ds gs before hval hW hL hS
theorem o5{a b:Bool}(h:a=true)(k:b=true):(a&&b)=true:=by rw[h,k];rfl
theorem aSa:laidOutB pinned.checked.prog=true:=by kernel_rfl
theorem aSb:mapsRowed pinned.checked.prog=true:=by kernel_rfl
theorem aSc:(Rows.chainOnlyNarrowsRow.inPlace==pinned.checked.prog.inPlace 8)=true:=by kernel_rfl
theorem aSd:(Rows.chainOnlyNarrowsRow.unfollowed==pinned.checked.prog.unfollowed 8)=true:=by kernel_rfl
theorem aSe:(Rows.chainOnlyNarrowsRow.recurses==pinned.checked.prog.recurses 8)=true:=by kernel_rfl
theorem aSf:(Rows.chainOnlyNarrowsRow.named==pinned.checked.prog.varsNamed 8)=true:=by kernel_rfl
theorem aSg:(Rows.chainOnlyNarrowsRow.plainKeys==pinned.checked.prog.plainKeys)=true:=by kernel_rfl
theorem aSh:pinned.checked.prog.stopsHeard=true:=by kernel_rfl
theorem aSi:pinned.checked.prog.mayEnter=true:=by kernel_rfl
theorem aSj:(Rows.chainOnlyNarrowsRow.lifted==pinned.checked.prog.liftsFinal)=true:=by kernel_rfl
theorem aSk:joinedFacts pinned.checked.prog 8 Tryz.f8 (OpenSpec.ofChange Rows.chainOnlyNarrowsSpec).bare Rows.chainOnlyNarrowsRow=true:=by
 unfold joinedFacts;exact (o5 (o5 (o5 (o5 (o5 (o5 (o5 (o5 (o5 (o5 (o5 (o5 (o5 (o5 (o5 (o5 (o5 (o5 (o5 (o5 (o5 (o5 (o5 (o5 (o5 (o5 (o5 (o5 (o5 (o5 (o5 aG aSa) aSb) aG) aG) aG) aG) aG) aG) aSc) aSd) aSe) aSf) aG) aG) aG) aG) aG) aG) aG) aG) aG) aSg) aG) aSh) aSi) aSj) aG) aG) aG) aG) aG)
theorem aSl:Rows.ChainOnlyNarrowsSaid :=
 OpenClaim.holds_of_cond 8 Tryz.f8 rfl rfl rfl rfl rfl rfl rfl ⟨rfl,rfl,rfl,rfl,rfl⟩ rfl rfl rfl rfl rfl aG func8 aSk
  (of_decide_eq_true aG) (by unfold Func.isWrapper;first | (rw[if_pos aCu];kernel_rfl) | (rw[if_neg aCu];exact⟨rfl,rfl⟩))
  (fun os started H enc _ F=>by rw[OpenClaim.pre_eq_preRow];exact aRz os started H enc F)
theorem aSm(f:FuncId)(fn:Func)(hf:pinned.checked.prog.funcNamed "weirgate/weirgatelaw25.ChainOnlyNarrows" = some f)(hfn:pinned.checked.prog.funcs[f]? = some fn) :
  true=pinned.checked.prog.looks []/\∀ (j:Nat) t,fn.params[j]? = some t->pinned.checked.prog.wantsStandIn t=false:=by
 obtain rfl:f=8:=Option.some.inj ((show prog.funcNamed "weirgate/weirgatelaw25.ChainOnlyNarrows" = some 8 by kernel_rfl).symm.trans hf) |>.symm
 obtain rfl:fn=Tryz.f8:=(Option.some.inj (func8.symm.trans hfn)).symm;refine⟨aG,fun j t ht=>?_⟩;rw[params8]at ht;have hall:∀ t∈#[23,9,28,59],prog.wantsStandIn t=false:=by
  intro t ht;simp at ht;rcases ht with rfl | rfl | rfl | rfl
  all_goals kernel_rfl
 exact hall t (Array.mem_of_getElem? ht)
theorem cardNa:Rows.ChainOnlyNarrowsCardSaid :=
 Claim7.holds_tied_plain_at .later [] _ _ _ _ aSl (fun _ h=>by cases h) aG (fun _ h=>by cases h) chainOnlyNarrows_row_tie rfl ⟨rfl,rfl⟩ aG rfl aSm aG
end Go.Proofs.YtlkbkclnbppigaaGreatDoor
