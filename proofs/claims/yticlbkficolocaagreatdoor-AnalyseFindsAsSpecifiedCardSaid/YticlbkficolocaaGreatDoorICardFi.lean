/- AnalyseFindsAsSpecified, the tied card: for every input the law returns true, and the input reads as it did. -/
import Derived.Test.YticlbkficolocaaGreatDoorIZ48
namespace Go.Proofs.YticlbkficolocaaGreatDoor
open Go.ChangeShapes Go.WideShapes Go.ChangeAt Go.RowKit Go.ChangeMaps
set_option linter.unusedVariables false
def argsFi:Array Value:=#[.string ByteArray.empty,.slice none 0 0,.agg #[.string ByteArray.empty,.int .i64 0,.slice none 0 0],.int .i64 0,.int .i64 0]
theorem laid_metFi (os:Os):laidMet Tryz.prog Rows.analyseFindsAsSpecifiedRow.laid ((laidWorld os).forCall (fun _ _=>0) ⟨#[],argsFi,[]⟩).memory :=
 laidMet_of_run' 8 (by kernel_rfl) (by kernel_rfl)
theorem readsFi (os:Os) {H:Type} (enc:TypeId × Value→H):∃ places,DataW.whole enc Tryz.prog ((laidWorld os).forCall (fun _ _=>0) ⟨#[],argsFi,[]⟩).memory Tryz.f3.params.toList Rows.analyseFindsAsSpecifiedSpec.vars false argsFi.toList 8=some ([.lit (.string []),.nil,.agg [.lit (.string []),.lit (.int .i64 0),.nil],.lit (.int .i64 0),.lit (.int .i64 0)],[],places) :=
 ⟨[],by kernel_rfl⟩
set_option maxRecDepth 100000 in
theorem contractFi (H:Type) (enc:TypeId × Value→H) (W:World) (base:Nat) (args:Array Value) (ds gs:List (DataW H)) (before:List MemPlace)
  (hval:∀ (j:Nat) t v,Tryz.f3.params[j]? = some t→args[j]? = some v→Value.okWide Tryz.prog W .any base t v)
  (hW:DataW.Whole enc Tryz.prog Tryz.f3.params.toList Rows.analyseFindsAsSpecifiedSpec.vars false W args.toList ds gs before) (hL:laidMetH Tryz.prog Rows.analyseFindsAsSpecifiedRow.laid W) (hS:W.ShapedOpen Tryz.prog) :
  Calls Tryz.prog 3 args W fun e W'=>∃ v,e=.returned v∧Rows.analyseFindsAsSpecifiedSpec.post enc Tryz.prog Tryz.f3 false true false false W args v W':=by
 have hL':laidMet Tryz.prog Rows.analyseFindsAsSpecifiedRow.laid W:=hL
 have hW':=hW
 obtain⟨p,q,hA0,hV,rfl,hfz,hnd⟩:=hW
 have hA:DataW.TrodAll enc Tryz.prog W 0 (fun _=>true) true Tryz.f3.params.toList args.toList ds p:=hA0
 rw[Tryz.params3]at hA hval
 obtain⟨v0,vs0,d0,ds0,p0,q0,hargs,rfl,rfl,h0,r0⟩:=trodAll_cons hA
 obtain⟨v1,vs1,d1,ds1,p1,q1,rfl,rfl,rfl,h1,r1⟩:=trodAll_cons r0
 obtain⟨v2,vs2,d2,ds2,p2,q2,rfl,rfl,rfl,h2,r2⟩:=trodAll_cons r1
 obtain⟨v3,vs3,d3,ds3,p3,q3,rfl,rfl,rfl,h3,r3⟩:=trodAll_cons r2
 obtain⟨v4,vs4,d4,ds4,p4,q4,rfl,rfl,rfl,h4,r4⟩:=trodAll_cons r3
 obtain⟨rfl,rfl,rfl⟩:=trodAll_nil r4
 obtain rfl:args=#[v0,v1,v2,v3,v4]:=by cases args;simp_all
 obtain⟨s0,rfl,rfl,-,z0⟩:=open_string Tryz.underlying9 (hval 0 9 v0 rfl rfl) h0
 obtain⟨A1,n1,c1,xs1,rfl,za1,zb1⟩:=open_texts (hval 1 22 v1 rfl rfl) h1
 obtain⟨cu2,pa2,A2,n2,c2,L2,rfl,z2,zn2,zc2,zd2⟩:=open_polC (hval 2 25 v2 rfl rfl) h2
 obtain⟨k3,rfl,_,kw3⟩:=open_int Tryz.underlying3 (hval 3 3 v3 rfl rfl) h3
 obtain⟨k4,rfl,_,kw4⟩:=open_int Tryz.underlying3 (hval 4 3 v4 rfl rfl) h4
 obtain⟨rfl,rfl⟩:=trodVars_none hV
 refine (lawFinds s0 A1 n1 c1 xs1 cu2 pa2 A2 n2 c2 L2 k3 k4 W  za1 zb1 z2 zn2 zc2 zd2   (env_of hS) (tab_of hL')).mono fun e W' ⟨he,hb⟩=>?_
 subst he
 exact⟨_,rfl,law_post (t:=4) hW' rfl laidOut (by kernel_rfl) (by kernel_rfl) Tryz.underlying4 rfl hb⟩
set_option maxRecDepth 100000 in
theorem liftedFi (os:Os) (started:os.Started) (H:Type) (enc:TypeId × Value→H) (F:Stop.Interp) :
  ReturnsInHanded {} Tryz.checked os 3 .any ((OpenSpec.ofChange Rows.analyseFindsAsSpecifiedSpec).preRow enc Tryz.prog Tryz.f3 Rows.analyseFindsAsSpecifiedRow.domain false Rows.analyseFindsAsSpecifiedRow.laid) (((OpenSpec.ofChange Rows.analyseFindsAsSpecifiedSpec).at F).post enc Tryz.prog Tryz.f3 false true false false):=by
 obtain⟨places,hx⟩:=readsFi os enc
 refine returnsInHanded_of_row (C:=Tryz.checked) (s:=OpenSpec.ofChange Rows.analyseFindsAsSpecifiedSpec) own started (by kernel_rfl) Tryz.func3
  (witness_row_at (enc:=enc) (C:=Tryz.checked) false (laidWorld os) argsFi rfl (by kernel_rfl) (by kernel_rfl) (by kernel_rfl)
   (OpenSpec.preRow_of_cond 8 hx (by kernel_rfl) (fun k hk=>by cases hk) (by kernel_rfl) (laid_metFi os))) ?_
 intro W base args ds gs before hval hW _ _ _ hL hS _
 exact contractFi H enc W base args ds gs before hval hW hL hS
theorem Uz {a b:Bool} (h:a=true) (k:b=true):(a&&b)=true:=by rw[h,k];rfl
theorem factFi1:laidOutB Tryz.pinned.checked.prog=true:=by kernel_rfl
theorem factFi2:mapsRowed Tryz.pinned.checked.prog=true:=by kernel_rfl
theorem factFi9:(Rows.analyseFindsAsSpecifiedRow.inPlace==Tryz.pinned.checked.prog.inPlace 3)=true:=by kernel_rfl
theorem factFi10:(Rows.analyseFindsAsSpecifiedRow.unfollowed==Tryz.pinned.checked.prog.unfollowed 3)=true:=by kernel_rfl
theorem factFi11:(Rows.analyseFindsAsSpecifiedRow.recurses==Tryz.pinned.checked.prog.recurses 3)=true:=by kernel_rfl
theorem factFi12:(Rows.analyseFindsAsSpecifiedRow.named==Tryz.pinned.checked.prog.varsNamed 3)=true:=by kernel_rfl
theorem factFi22:(Rows.analyseFindsAsSpecifiedRow.plainKeys==Tryz.pinned.checked.prog.plainKeys)=true:=by kernel_rfl
theorem factFi24:Tryz.pinned.checked.prog.stopsHeard=true:=by kernel_rfl
theorem factFi25:Tryz.pinned.checked.prog.mayEnter=true:=by kernel_rfl
theorem factFi26:(Rows.analyseFindsAsSpecifiedRow.lifted==Tryz.pinned.checked.prog.liftsFinal)=true:=by kernel_rfl
theorem closedFi:joinedFacts Tryz.pinned.checked.prog 3 Tryz.f3 (OpenSpec.ofChange Rows.analyseFindsAsSpecifiedSpec).bare Rows.analyseFindsAsSpecifiedRow=true:=by
 unfold joinedFacts
 exact (Uz (Uz (Uz (Uz (Uz (Uz (Uz (Uz (Uz (Uz (Uz (Uz (Uz (Uz (Uz (Uz (Uz (Uz (Uz (Uz (Uz (Uz (Uz (Uz (Uz (Uz (Uz (Uz (Uz (Uz (Uz (by kernel_rfl) factFi1) factFi2) (by kernel_rfl)) (by kernel_rfl)) (by kernel_rfl)) (by kernel_rfl)) (by kernel_rfl)) (by kernel_rfl)) factFi9) factFi10) factFi11) factFi12) (by kernel_rfl)) (by kernel_rfl)) (by kernel_rfl)) (by kernel_rfl)) (by kernel_rfl)) (by kernel_rfl)) (by kernel_rfl)) (by kernel_rfl)) (by kernel_rfl)) factFi22) (by kernel_rfl)) factFi24) factFi25) factFi26) (by kernel_rfl)) (by kernel_rfl)) (by kernel_rfl)) (by kernel_rfl)) (by kernel_rfl))
theorem saidFi:Rows.AnalyseFindsAsSpecifiedSaid :=
 OpenClaim.holds_of_cond 3 Tryz.f3 rfl rfl rfl rfl rfl rfl rfl ⟨rfl,rfl,rfl,rfl,rfl⟩ rfl rfl rfl rfl rfl (by kernel_rfl) Tryz.func3 closedFi
  (of_decide_eq_true (by kernel_rfl)) (by unfold Func.isWrapper;first | (rw[if_pos (by decide +kernel)];kernel_rfl) | (rw[if_neg (by decide +kernel)];exact⟨rfl,rfl⟩))
  (fun os started H enc _ F=>by rw[OpenClaim.pre_eq_preRow];exact liftedFi os started H enc F)
theorem plainFi (f:FuncId) (fn:Func) (hf:Tryz.pinned.checked.prog.funcNamed "weirgate/weirgatelaw24.AnalyseFindsAsSpecified" = some f) (hfn:Tryz.pinned.checked.prog.funcs[f]? = some fn) :
  false=Tryz.pinned.checked.prog.looks []∧∀ (j:Nat) t,fn.params[j]? = some t→Tryz.pinned.checked.prog.wantsStandIn t=false:=by
 obtain rfl:f=3:=Option.some.inj ((show Tryz.prog.funcNamed "weirgate/weirgatelaw24.AnalyseFindsAsSpecified" = some 3 by kernel_rfl).symm.trans hf) |>.symm
 obtain rfl:fn=Tryz.f3:=(Option.some.inj (Tryz.func3.symm.trans hfn)).symm
 refine⟨by kernel_rfl,fun j t ht=>?_⟩
 rw[Tryz.params3]at ht
 have hall:∀ t∈#[9,22,25,3,3],Tryz.prog.wantsStandIn t=false:=by
  intro t ht
  simp at ht
  rcases ht with rfl | rfl | rfl | rfl | rfl
  all_goals kernel_rfl
 exact hall t (Array.mem_of_getElem? ht)
theorem cardFi:Rows.AnalyseFindsAsSpecifiedCardSaid :=
 Claim7.holds_tied_plain_at .later [] _ _ _ _ saidFi (fun _ h=>by cases h) (by kernel_rfl) (fun _ h=>by cases h) analyseFindsAsSpecified_row_tie rfl ⟨rfl,rfl⟩ (by kernel_rfl) rfl plainFi (by kernel_rfl)
end Go.Proofs.YticlbkficolocaaGreatDoor
