/- ChainIsNotWidened, the tied card: for every input the law returns true, and the input reads as it did. -/
import Derived.Test.YtlkbkclnbppigaaGreatDoorWY7
namespace Go.Proofs.YtlkbkclnbppigaaGreatDoor
open _root_.Go.Proofs.Tryz _root_.Go.Proofs.YtlkbkclnbppigaaGreatDoor.Tryz
open Go.ChangeShapes Go.WideShapes Go.ChangeAt Go.RowKit Go.ChangeMaps
set_option linter.unusedVariables false
def aCy:Array Value:=#[.agg #[.int .i64 0,.int .i64 0,.string ByteArray.empty,.int .i64 0,.int .i64 0],.string ByteArray.empty,.slice none 0 0,.agg #[.int .i64 0,.int .i64 0,.string ByteArray.empty,.slice none 0 0,.slice none 0 0,.slice none 0 0,.int .i64 0],.int .u8 0,.int .u8 0,.int .u8 0]
theorem aLv(os:Os):laidMet prog Rows.chainIsNotWidenedRow.laid ((aDy os).forCall (fun _ _=>0) ⟨#[],aCy,[]⟩).memory :=
 laidMet_of_run' 8 aG aG
theorem aLw(os:Os){H:Type}(enc:TypeId × Value->H):∃ places,DataW.whole enc prog ((aDy os).forCall (fun _ _=>0) ⟨#[],aCy,[]⟩).memory Tryz.f5.params.toList Rows.chainIsNotWidenedSpec.vars false aCy.toList 8=some ([.agg [.lit (.int .i64 0),.lit (.int .i64 0),.lit (.string []),.lit (.int .i64 0),.lit (.int .i64 0)],.lit (.string []),.nil,.agg [.lit (.int .i64 0),.lit (.int .i64 0),.lit (.string []),.nil,.nil,.nil,.lit (.int .i64 0)],.lit (.int .u8 0),.lit (.int .u8 0),.lit (.int .u8 0)],[],places) :=
 ⟨[],aG⟩
set_option maxRecDepth 100000 in
theorem aLx(H:Type)(enc:TypeId × Value->H)(W:World)(base:Nat)(args:Array Value)(ds gs:List (DataW H))(before:List MemPlace)
  (hval:∀ (j:Nat) t v,Tryz.f5.params[j]? = some t->args[j]? = some v->Value.okWide prog W .any base t v)
  (hW:DataW.Whole enc prog Tryz.f5.params.toList Rows.chainIsNotWidenedSpec.vars false W args.toList ds gs before) (hL:laidMetH prog Rows.chainIsNotWidenedRow.laid W) (hS:W.ShapedOpen prog) :
  Calls prog 5 args W fun e W'=>∃ v,e=.returned v/\Rows.chainIsNotWidenedSpec.post enc prog Tryz.f5 false true false false W args v W':=by
 have hL':laidMet prog Rows.chainIsNotWidenedRow.laid W:=hL;have hW':=hW;obtain⟨p,q,hA0,hV,rfl,hfz,hnd⟩:=hW;have hA:DataW.TrodAll enc prog W 0 (fun _=>true) true Tryz.f5.params.toList args.toList ds p:=hA0;rw[params5]at hA hval;obtain⟨v0,vs0,d0,ds0,p0,q0,hargs,rfl,rfl,h0,r0⟩:=trodAll_cons hA;obtain⟨v1,vs1,d1,ds1,p1,q1,rfl,rfl,rfl,h1,r1⟩:=trodAll_cons r0;obtain⟨v2,vs2,d2,ds2,p2,q2,rfl,rfl,rfl,h2,r2⟩:=trodAll_cons r1;obtain⟨v3,vs3,d3,ds3,p3,q3,rfl,rfl,rfl,h3,r3⟩:=trodAll_cons r2;obtain⟨v4,vs4,d4,ds4,p4,q4,rfl,rfl,rfl,h4,r4⟩:=trodAll_cons r3;obtain⟨v5,vs5,d5,ds5,p5,q5,rfl,rfl,rfl,h5,r5⟩:=trodAll_cons r4;obtain⟨v6,vs6,d6,ds6,p6,q6,rfl,rfl,rfl,h6,r6⟩:=trodAll_cons r5;obtain⟨rfl,rfl,rfl⟩:=trodAll_nil r6;obtain rfl:args=#[v0,v1,v2,v3,v4,v5,v6]:=by cases args;simp_all
 obtain⟨k0,rfl⟩:=aLt (hval 0 23 v0 rfl rfl) h0;obtain⟨s1,rfl,rfl,-,z1⟩:=open_string underlying9 (hval 1 9 v1 rfl rfl) h1;obtain⟨A2,n2,c2,L2,rfl,z2,zc2,zn2⟩:=aLu (hval 2 28 v2 rfl rfl) h2;obtain⟨c3,m3,rfl,z3⟩:=aLn (hval 3 27 v3 rfl rfl) h3;obtain⟨k4,rfl,_,kw4⟩:=open_int underlying5 (hval 4 5 v4 rfl rfl) h4;obtain⟨k5,rfl,_,kw5⟩:=open_int underlying5 (hval 5 5 v5 rfl rfl) h5;obtain⟨k6,rfl,_,kw6⟩:=open_int underlying5 (hval 6 5 v6 rfl rfl) h6;obtain⟨rfl,rfl⟩:=trodVars_none hV;unfold maxLen at z1;refine (aKv k0 s1 A2 n2 c2 L2 c3 k4 k5 k6 m3 W  z1 z2 zc2 zn2 z3 (aBy kw4.2).1 (aBy kw4.2).2 (aBy kw5.2).1 (aBy kw5.2).2 (aBy kw6.2).1 (aBy kw6.2).2 (aLj hS hL')).mono fun e W' ⟨he,hb⟩=>?_
 subst he;exact⟨_,rfl,aKw (t:=4) hW' rfl aKx aG aG underlying4 rfl hb⟩
set_option maxRecDepth 100000 in
theorem aLy(os:Os)(started:os.Started)(H:Type)(enc:TypeId × Value->H)(F:Stop.Interp) :
  ReturnsInHanded {} checked os 5 .any ((OpenSpec.ofChange Rows.chainIsNotWidenedSpec).preRow enc prog Tryz.f5 Rows.chainIsNotWidenedRow.domain false Rows.chainIsNotWidenedRow.laid) (((OpenSpec.ofChange Rows.chainIsNotWidenedSpec).at F).post enc prog Tryz.f5 false true false false):=by
 obtain⟨places,hx⟩:=aLw os enc;refine returnsInHanded_of_row (C:=checked) (s:=OpenSpec.ofChange Rows.chainIsNotWidenedSpec) own started aG func5
  (witness_row_at (enc:=enc) (C:=checked) false (aDy os) aCy rfl aG aG aG
   (OpenSpec.preRow_of_cond 8 hx aG (fun k hk=>by cases hk) aG (aLv os))) ?_
 intro W base args ds gs before hval hW _ _ _ hL hS _;exact aLx H enc W base args ds gs before hval hW hL hS
theorem AL{a b:Bool}(h:a=true)(k:b=true):(a&&b)=true:=by rw[h,k];rfl
theorem aLz:laidOutB pinned.checked.prog=true:=by kernel_rfl
theorem aMa:mapsRowed pinned.checked.prog=true:=by kernel_rfl
theorem aMb:(Rows.chainIsNotWidenedRow.inPlace==pinned.checked.prog.inPlace 5)=true:=by kernel_rfl
theorem aMc:(Rows.chainIsNotWidenedRow.unfollowed==pinned.checked.prog.unfollowed 5)=true:=by kernel_rfl
theorem aMd:(Rows.chainIsNotWidenedRow.recurses==pinned.checked.prog.recurses 5)=true:=by kernel_rfl
theorem aMe:(Rows.chainIsNotWidenedRow.named==pinned.checked.prog.varsNamed 5)=true:=by kernel_rfl
theorem aMf:(Rows.chainIsNotWidenedRow.plainKeys==pinned.checked.prog.plainKeys)=true:=by kernel_rfl
theorem aMg:pinned.checked.prog.stopsHeard=true:=by kernel_rfl
theorem aMh:pinned.checked.prog.mayEnter=true:=by kernel_rfl
theorem aMi:(Rows.chainIsNotWidenedRow.lifted==pinned.checked.prog.liftsFinal)=true:=by kernel_rfl
theorem aMj:joinedFacts pinned.checked.prog 5 Tryz.f5 (OpenSpec.ofChange Rows.chainIsNotWidenedSpec).bare Rows.chainIsNotWidenedRow=true:=by
 unfold joinedFacts;exact (AL (AL (AL (AL (AL (AL (AL (AL (AL (AL (AL (AL (AL (AL (AL (AL (AL (AL (AL (AL (AL (AL (AL (AL (AL (AL (AL (AL (AL (AL (AL aG aLz) aMa) aG) aG) aG) aG) aG) aG) aMb) aMc) aMd) aMe) aG) aG) aG) aG) aG) aG) aG) aG) aG) aMf) aG) aMg) aMh) aMi) aG) aG) aG) aG) aG)
theorem aMk:Rows.ChainIsNotWidenedSaid :=
 OpenClaim.holds_of_cond 5 Tryz.f5 rfl rfl rfl rfl rfl rfl rfl ⟨rfl,rfl,rfl,rfl,rfl⟩ rfl rfl rfl rfl rfl aG func5 aMj
  (of_decide_eq_true aG) (by unfold Func.isWrapper;first | (rw[if_pos (by decide +kernel)];kernel_rfl) | (rw[if_neg (by decide +kernel)];exact⟨rfl,rfl⟩))
  (fun os started H enc _ F=>by rw[OpenClaim.pre_eq_preRow];exact aLy os started H enc F)
theorem aMl(f:FuncId)(fn:Func)(hf:pinned.checked.prog.funcNamed "weirgate/weirgatelaw25.ChainIsNotWidened" = some f)(hfn:pinned.checked.prog.funcs[f]? = some fn) :
  true=pinned.checked.prog.looks []/\∀ (j:Nat) t,fn.params[j]? = some t->pinned.checked.prog.wantsStandIn t=false:=by
 obtain rfl:f=5:=Option.some.inj ((show prog.funcNamed "weirgate/weirgatelaw25.ChainIsNotWidened" = some 5 by kernel_rfl).symm.trans hf) |>.symm
 obtain rfl:fn=Tryz.f5:=(Option.some.inj (func5.symm.trans hfn)).symm;refine⟨aG,fun j t ht=>?_⟩;rw[params5]at ht;have hall:∀ t∈#[23,9,28,27,5,5,5],prog.wantsStandIn t=false:=by
  intro t ht;simp at ht;rcases ht with rfl | rfl | rfl | rfl | rfl | rfl | rfl
  all_goals kernel_rfl
 exact hall t (Array.mem_of_getElem? ht)
theorem cardNw:Rows.ChainIsNotWidenedCardSaid :=
 Claim7.holds_tied_plain_at .later [] _ _ _ _ aMk (fun _ h=>by cases h) aG (fun _ h=>by cases h) chainIsNotWidened_row_tie rfl ⟨rfl,rfl⟩ aG rfl aMl aG
end Go.Proofs.YtlkbkclnbppigaaGreatDoor
