/- PolicyChecksAsSpecified, the tied card: for every input the law returns true, and the input reads as it did. -/
import Derived.Test.YtjhlpkhfdghngaaGreatDoorXZ18
namespace Go.Proofs.YtjhlpkhfdghngaaGreatDoor
open Go.ChangeShapes Go.WideShapes Go.ChangeAt Go.RowKit Go.ChangeMaps
set_option linter.unusedVariables false
def argsPx : Array Value := #[.agg #[.string ByteArray.empty, .int .i64 0, .slice none 0 0]]
theorem laid_metPx (os : Os) : laidMet Tryz.prog Rows.policyChecksAsSpecifiedRow.laid ((laidWorldK os).forCall (fun _ _ => 0) ⟨#[], argsPx, []⟩).memory :=
  laidMet_of_run' 8 (by kernel_rfl) (by kernel_rfl)
theorem readsPx (os : Os) {H : Type} (enc : TypeId × Value → H) : ∃ places, DataW.whole enc Tryz.prog ((laidWorldK os).forCall (fun _ _ => 0) ⟨#[], argsPx, []⟩).memory Tryz.f3.params.toList Rows.policyChecksAsSpecifiedSpec.vars false argsPx.toList 8 = some ([.agg [.lit (.string []), .lit (.int .i64 0), .nil]], [], places) :=
  ⟨[], by kernel_rfl⟩
set_option maxRecDepth 100000 in
theorem contractPx (H : Type) (enc : TypeId × Value → H) (W : World) (base : Nat) (args : Array Value) (ds gs : List (DataW H)) (before : List MemPlace)
    (hval : ∀ (j : Nat) t v, Tryz.f3.params[j]? = some t → args[j]? = some v → Value.okWide Tryz.prog W .any base t v)
    (hW : DataW.Whole enc Tryz.prog Tryz.f3.params.toList Rows.policyChecksAsSpecifiedSpec.vars false W args.toList ds gs before) (hL : laidMetH Tryz.prog Rows.policyChecksAsSpecifiedRow.laid W) (hS : W.ShapedOpen Tryz.prog) :
    Calls Tryz.prog 3 args W fun e W' => ∃ v, e = .returned v ∧ Rows.policyChecksAsSpecifiedSpec.post enc Tryz.prog Tryz.f3 false true false false W args v W' := by
  have hL' : laidMet Tryz.prog Rows.policyChecksAsSpecifiedRow.laid W := hL
  have hW' := hW
  obtain ⟨p, q, hA0, hV, rfl, hfz, hnd⟩ := hW
  have hA : DataW.TrodAll enc Tryz.prog W 0 (fun _ => true) true Tryz.f3.params.toList args.toList ds p := hA0
  rw [Tryz.params3] at hA hval
  obtain ⟨v0, vs0, d0, ds0, p0, q0, hargs, rfl, rfl, h0, r0⟩ := trodAll_cons hA
  obtain ⟨rfl, rfl, rfl⟩ := trodAll_nil r0
  obtain rfl : args = #[v0] := by cases args; simp_all
  obtain ⟨cu0, pa0, A0, n0, c0, L0, rfl, z0, zn0, zc0⟩ := open_pol (hval 0 24 v0 rfl rfl) h0
  obtain ⟨rfl, rfl⟩ := trodVars_none hV
  refine (lawCk cu0 pa0 A0 n0 c0 L0 W z0 zn0 zc0 (lenvK_of hS hL').1 (lenvK_of hS hL').2).mono fun e W' ⟨he, hb⟩ => ?_
  subst he
  exact ⟨_, rfl, law_post (t := 4) hW' rfl laidOut (by kernel_rfl) (by kernel_rfl) Tryz.underlying4 rfl hb⟩
set_option maxRecDepth 100000 in
theorem liftedPx (os : Os) (started : os.Started) (H : Type) (enc : TypeId × Value → H) (F : Stop.Interp) :
    ReturnsInHanded {} Tryz.checked os 3 .any ((OpenSpec.ofChange Rows.policyChecksAsSpecifiedSpec).preRow enc Tryz.prog Tryz.f3 Rows.policyChecksAsSpecifiedRow.domain false Rows.policyChecksAsSpecifiedRow.laid) (((OpenSpec.ofChange Rows.policyChecksAsSpecifiedSpec).at F).post enc Tryz.prog Tryz.f3 false true false false) := by
  obtain ⟨places, hx⟩ := readsPx os enc
  refine returnsInHanded_of_row (C := Tryz.checked) (s := OpenSpec.ofChange Rows.policyChecksAsSpecifiedSpec) own started (by kernel_rfl) Tryz.func3
    (witness_row_at (enc := enc) (C := Tryz.checked) false (laidWorldK os) argsPx rfl (by kernel_rfl) (by kernel_rfl) (by kernel_rfl)
      (OpenSpec.preRow_of_cond 8 hx (by kernel_rfl) (fun k hk => by cases hk) (by kernel_rfl) (laid_metPx os))) ?_
  intro W base args ds gs before hval hW _ _ _ hL hS _
  exact contractPx H enc W base args ds gs before hval hW hL hS
theorem and2 {a b : Bool} (h : a = true) (k : b = true) : (a && b) = true := by rw [h, k]; rfl
theorem factPx1 : laidOutB Tryz.pinned.checked.prog = true := by kernel_rfl
theorem factPx2 : mapsRowed Tryz.pinned.checked.prog = true := by kernel_rfl
theorem factPx9 : (Rows.policyChecksAsSpecifiedRow.inPlace == Tryz.pinned.checked.prog.inPlace 3) = true := by kernel_rfl
theorem factPx10 : (Rows.policyChecksAsSpecifiedRow.unfollowed == Tryz.pinned.checked.prog.unfollowed 3) = true := by kernel_rfl
theorem factPx11 : (Rows.policyChecksAsSpecifiedRow.recurses == Tryz.pinned.checked.prog.recurses 3) = true := by kernel_rfl
theorem factPx12 : (Rows.policyChecksAsSpecifiedRow.named == Tryz.pinned.checked.prog.varsNamed 3) = true := by kernel_rfl
theorem factPx22 : (Rows.policyChecksAsSpecifiedRow.plainKeys == Tryz.pinned.checked.prog.plainKeys) = true := by kernel_rfl
theorem factPx24 : Tryz.pinned.checked.prog.stopsHeard = true := by kernel_rfl
theorem factPx25 : Tryz.pinned.checked.prog.mayEnter = true := by kernel_rfl
theorem factPx26 : (Rows.policyChecksAsSpecifiedRow.lifted == Tryz.pinned.checked.prog.liftsFinal) = true := by kernel_rfl
theorem closedPx : joinedFacts Tryz.pinned.checked.prog 3 Tryz.f3 (OpenSpec.ofChange Rows.policyChecksAsSpecifiedSpec).bare Rows.policyChecksAsSpecifiedRow = true := by
  unfold joinedFacts
  exact (and2 (and2 (and2 (and2 (and2 (and2 (and2 (and2 (and2 (and2 (and2 (and2 (and2 (and2 (and2 (and2 (and2 (and2 (and2 (and2 (and2 (and2 (and2 (and2 (and2 (and2 (and2 (and2 (and2 (and2 (and2 (by kernel_rfl) factPx1) factPx2) (by kernel_rfl)) (by kernel_rfl)) (by kernel_rfl)) (by kernel_rfl)) (by kernel_rfl)) (by kernel_rfl)) factPx9) factPx10) factPx11) factPx12) (by kernel_rfl)) (by kernel_rfl)) (by kernel_rfl)) (by kernel_rfl)) (by kernel_rfl)) (by kernel_rfl)) (by kernel_rfl)) (by kernel_rfl)) (by kernel_rfl)) factPx22) (by kernel_rfl)) factPx24) factPx25) factPx26) (by kernel_rfl)) (by kernel_rfl)) (by kernel_rfl)) (by kernel_rfl)) (by kernel_rfl))
theorem saidPx : Rows.PolicyChecksAsSpecifiedSaid :=
  OpenClaim.holds_of_cond 3 Tryz.f3 rfl rfl rfl rfl rfl rfl rfl ⟨rfl, rfl, rfl, rfl, rfl⟩ rfl rfl rfl rfl rfl (by kernel_rfl) Tryz.func3 closedPx
    (of_decide_eq_true (by kernel_rfl)) (by unfold Func.isWrapper; first | (rw [if_pos (by decide +kernel)]; kernel_rfl) | (rw [if_neg (by decide +kernel)]; exact ⟨rfl, rfl⟩))
    (fun os started H enc _ F => by rw [OpenClaim.pre_eq_preRow]; exact liftedPx os started H enc F)
theorem plainPx (f : FuncId) (fn : Func) (hf : Tryz.pinned.checked.prog.funcNamed "weirgate/weirgatelaw22.PolicyChecksAsSpecified" = some f) (hfn : Tryz.pinned.checked.prog.funcs[f]? = some fn) :
    false = Tryz.pinned.checked.prog.looks [] ∧ ∀ (j : Nat) t, fn.params[j]? = some t → Tryz.pinned.checked.prog.wantsStandIn t = false := by
  obtain rfl : f = 3 := Option.some.inj ((show Tryz.prog.funcNamed "weirgate/weirgatelaw22.PolicyChecksAsSpecified" = some 3 by kernel_rfl).symm.trans hf) |>.symm
  obtain rfl : fn = Tryz.f3 := (Option.some.inj (Tryz.func3.symm.trans hfn)).symm
  refine ⟨by kernel_rfl, fun j t ht => ?_⟩
  rw [Tryz.params3] at ht
  have hall : ∀ t ∈ #[24], Tryz.prog.wantsStandIn t = false := by
    intro t ht
    simp at ht
    subst ht
    exact (show Tryz.prog.wantsStandIn 24 = false by kernel_rfl)
  exact hall t (Array.mem_of_getElem? ht)
theorem cardPx : Rows.PolicyChecksAsSpecifiedCardSaid :=
  Claim7.holds_tied_plain_at .later [] _ _ _ _ saidPx (fun _ h => by cases h) (by kernel_rfl) (fun _ h => by cases h) policyChecksAsSpecified_row_tie rfl ⟨rfl, rfl⟩ (by kernel_rfl) rfl plainPx (by kernel_rfl)
end Go.Proofs.YtjhlpkhfdghngaaGreatDoor
