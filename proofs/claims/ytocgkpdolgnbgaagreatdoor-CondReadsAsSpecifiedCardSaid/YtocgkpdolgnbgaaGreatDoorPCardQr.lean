/- CondReadsAsSpecified, the tied card: for every input the law returns true, and the input reads as it did. -/
import Derived.Test.YtocgkpdolgnbgaaGreatDoorPC32
import Derived.Test.YtocgkpdolgnbgaaGreatDoorPJL
import Derived.Test.YtocgkpdolgnbgaaGreatDoorPLaidE
namespace Go.Proofs.YtocgkpdolgnbgaaGreatDoor
open Go.ChangeShapes Go.WideShapes Go.ChangeAt Go.RowKit Go.ChangeMaps
set_option linter.unusedVariables false
def argsQr : Array Value := #[.string ByteArray.empty, .agg #[.int .i64 0, .int .i64 0, .string ByteArray.empty, .slice none 0 0, .slice none 0 0, .slice none 0 0, .int .i64 0]]
theorem laid_metQr (os : Os) : laidMet Tryz.prog Rows.condReadsAsSpecifiedRow.laid ((laidWorldE os).forCall (fun _ _ => 0) ⟨#[], argsQr, []⟩).memory :=
  laidMet_of_run' 8 (by kernel_rfl) (by kernel_rfl)
theorem readsQr (os : Os) {H : Type} (enc : TypeId × Value → H) : ∃ places, DataW.whole enc Tryz.prog ((laidWorldE os).forCall (fun _ _ => 0) ⟨#[], argsQr, []⟩).memory Tryz.f5.params.toList Rows.condReadsAsSpecifiedSpec.vars false argsQr.toList 8 = some ([.lit (.string []), .agg [.lit (.int .i64 0), .lit (.int .i64 0), .lit (.string []), .nil, .nil, .nil, .lit (.int .i64 0)]], [], places) :=
  ⟨[], by kernel_rfl⟩
set_option maxRecDepth 100000 in
theorem contractQr (H : Type) (enc : TypeId × Value → H) (W : World) (base : Nat) (args : Array Value) (ds gs : List (DataW H)) (before : List MemPlace)
    (hval : ∀ (j : Nat) t v, Tryz.f5.params[j]? = some t → args[j]? = some v → Value.okWide Tryz.prog W .any base t v)
    (hW : DataW.Whole enc Tryz.prog Tryz.f5.params.toList Rows.condReadsAsSpecifiedSpec.vars false W args.toList ds gs before) (hL : laidMetH Tryz.prog Rows.condReadsAsSpecifiedRow.laid W) (hS : W.ShapedOpen Tryz.prog) :
    Calls Tryz.prog 5 args W fun e W' => ∃ v, e = .returned v ∧ Rows.condReadsAsSpecifiedSpec.post enc Tryz.prog Tryz.f5 false true false false W args v W' := by
  have hL' : laidMet Tryz.prog Rows.condReadsAsSpecifiedRow.laid W := hL
  have hW' := hW
  obtain ⟨p, q, hA0, hV, rfl, hfz, hnd⟩ := hW
  have hA : DataW.TrodAll enc Tryz.prog W 0 (fun _ => true) true Tryz.f5.params.toList args.toList ds p := hA0
  rw [Tryz.params5] at hA hval
  obtain ⟨v0, vs0, d0, ds0, p0, q0, hargs, rfl, rfl, h0, r0⟩ := trodAll_cons hA
  obtain ⟨v1, vs1, d1, ds1, p1, q1, rfl, rfl, rfl, h1, r1⟩ := trodAll_cons r0
  obtain ⟨rfl, rfl, rfl⟩ := trodAll_nil r1
  obtain rfl : args = #[v0, v1] := by cases args; simp_all
  obtain ⟨s0, rfl, rfl, -, z0⟩ := open_string Tryz.underlying9 (hval 0 9 v0 rfl rfl) h0
  obtain ⟨c1, m1, rfl, z1⟩ := open_cond (hval 1 25 v1 rfl rfl) h1
  obtain ⟨rfl, rfl⟩ := trodVars_none hV
  unfold maxLen at z0
  refine (lawReadsC s0 c1 m1 W z1 (env_of hS) (tab_of hL') (errs_of hL').1 (errs_of hL').2).mono fun e W' ⟨he, hb⟩ => ?_
  subst he
  exact ⟨_, rfl, law_post (t := 4) hW' rfl laidOut (by kernel_rfl) (by kernel_rfl) Tryz.underlying4 rfl hb⟩
set_option maxRecDepth 100000 in
theorem liftedQr (os : Os) (started : os.Started) (H : Type) (enc : TypeId × Value → H) (F : Stop.Interp) :
    ReturnsInHanded {} Tryz.checked os 5 .any ((OpenSpec.ofChange Rows.condReadsAsSpecifiedSpec).preRow enc Tryz.prog Tryz.f5 Rows.condReadsAsSpecifiedRow.domain false Rows.condReadsAsSpecifiedRow.laid) (((OpenSpec.ofChange Rows.condReadsAsSpecifiedSpec).at F).post enc Tryz.prog Tryz.f5 false true false false) := by
  obtain ⟨places, hx⟩ := readsQr os enc
  refine returnsInHanded_of_row (C := Tryz.checked) (s := OpenSpec.ofChange Rows.condReadsAsSpecifiedSpec) own started (by kernel_rfl) Tryz.func5
    (witness_row_at (enc := enc) (C := Tryz.checked) false (laidWorldE os) argsQr rfl (by kernel_rfl) (by kernel_rfl) (by kernel_rfl)
      (OpenSpec.preRow_of_cond 8 hx (by kernel_rfl) (fun k hk => by cases hk) (by kernel_rfl) (laid_metQr os))) ?_
  intro W base args ds gs before hval hW _ _ _ hL hS _
  exact contractQr H enc W base args ds gs before hval hW hL hS
theorem saidQr : Rows.CondReadsAsSpecifiedSaid :=
  OpenClaim.holds_of_cond 5 Tryz.f5 rfl rfl rfl rfl rfl rfl rfl ⟨rfl, rfl, rfl, rfl, rfl⟩ rfl rfl rfl rfl rfl (by kernel_rfl) Tryz.func5 (by kernel_rfl)
    (of_decide_eq_true (by kernel_rfl)) (by unfold Func.isWrapper; first | (rw [if_pos (by decide +kernel)]; kernel_rfl) | (rw [if_neg (by decide +kernel)]; exact ⟨rfl, rfl⟩))
    (fun os started H enc _ F => by rw [OpenClaim.pre_eq_preRow]; exact liftedQr os started H enc F)
theorem plainQr (f : FuncId) (fn : Func) (hf : Tryz.pinned.checked.prog.funcNamed "weirgate/weirgatelaw21.CondReadsAsSpecified" = some f) (hfn : Tryz.pinned.checked.prog.funcs[f]? = some fn) :
    true = Tryz.pinned.checked.prog.looks [] ∧ ∀ (j : Nat) t, fn.params[j]? = some t → Tryz.pinned.checked.prog.wantsStandIn t = false := by
  obtain rfl : f = 5 := Option.some.inj ((show Tryz.prog.funcNamed "weirgate/weirgatelaw21.CondReadsAsSpecified" = some 5 by kernel_rfl).symm.trans hf) |>.symm
  obtain rfl : fn = Tryz.f5 := (Option.some.inj (Tryz.func5.symm.trans hfn)).symm
  refine ⟨by kernel_rfl, fun j t ht => ?_⟩
  rw [Tryz.params5] at ht
  have hall : ∀ t ∈ #[9, 25], Tryz.prog.wantsStandIn t = false := by
    intro t ht
    simp at ht
    rcases ht with rfl | rfl
    all_goals kernel_rfl
  exact hall t (Array.mem_of_getElem? ht)
theorem cardQr : Rows.CondReadsAsSpecifiedCardSaid :=
  Claim7.holds_tied_plain_at .later [] _ _ _ _ saidQr (fun _ h => by cases h) (by kernel_rfl) (fun _ h => by cases h) condReadsAsSpecified_row_tie rfl ⟨rfl, rfl⟩ (by kernel_rfl) rfl plainQr (by kernel_rfl)
end Go.Proofs.YtocgkpdolgnbgaaGreatDoor
