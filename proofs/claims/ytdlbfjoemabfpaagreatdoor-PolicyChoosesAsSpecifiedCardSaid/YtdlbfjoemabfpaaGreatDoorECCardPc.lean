/- PolicyChoosesAsSpecified, the tied card: for every input the law returns true, and the input reads as it did. -/
import Derived.Test.YtdlbfjoemabfpaaGreatDoorECY1
namespace Go.Proofs.YtdlbfjoemabfpaaGreatDoor
open Go.ChangeShapes Go.WideShapes Go.ChangeAt Go.RowKit Go.ChangeMaps
set_option linter.unusedVariables false
def argsPc : Array Value := #[.slice none 0 0, .string ByteArray.empty, .string ByteArray.empty]
theorem laid_metPc (os : Os) : laidMet Tryz.prog Rows.policyChoosesAsSpecifiedRow.laid ((laidWorldP os).forCall (fun _ _ => 0) ⟨#[], argsPc, []⟩).memory :=
 laidMet_of_run' 8 (by kernel_rfl) (by kernel_rfl)
theorem readsPc (os : Os) {H : Type} (enc : TypeId × Value → H) : ∃ places, DataW.whole enc Tryz.prog ((laidWorldP os).forCall (fun _ _ => 0) ⟨#[], argsPc, []⟩).memory Tryz.f4.params.toList Rows.policyChoosesAsSpecifiedSpec.vars false argsPc.toList 8 = some ([.nil, .lit (.string []), .lit (.string [])], [], places) :=
 ⟨[], by kernel_rfl⟩
set_option maxRecDepth 100000 in
theorem contractPc (H : Type) (enc : TypeId × Value → H) (W : World) (base : Nat) (args : Array Value) (ds gs : List (DataW H)) (before : List MemPlace)
  (hval : ∀ (j : Nat) t v, Tryz.f4.params[j]? = some t → args[j]? = some v → Value.okWide Tryz.prog W .any base t v)
  (hW : DataW.Whole enc Tryz.prog Tryz.f4.params.toList Rows.policyChoosesAsSpecifiedSpec.vars false W args.toList ds gs before) (hL : laidMetH Tryz.prog Rows.policyChoosesAsSpecifiedRow.laid W) (hS : W.ShapedOpen Tryz.prog) :
  Calls Tryz.prog 4 args W fun e W' => ∃ v, e = .returned v ∧ Rows.policyChoosesAsSpecifiedSpec.post enc Tryz.prog Tryz.f4 false true false false W args v W' := by
 have hL' : laidMet Tryz.prog Rows.policyChoosesAsSpecifiedRow.laid W := hL
 have hW' := hW
 obtain ⟨p, q, hA0, hV, rfl, hfz, hnd⟩ := hW
 have hA : DataW.TrodAll enc Tryz.prog W 0 (fun _ => true) true Tryz.f4.params.toList args.toList ds p := hA0
 rw [Tryz.params4] at hA hval
 obtain ⟨v0, vs0, d0, ds0, p0, q0, hargs, rfl, rfl, h0, r0⟩ := trodAll_cons hA
 obtain ⟨v1, vs1, d1, ds1, p1, q1, rfl, rfl, rfl, h1, r1⟩ := trodAll_cons r0
 obtain ⟨v2, vs2, d2, ds2, p2, q2, rfl, rfl, rfl, h2, r2⟩ := trodAll_cons r1
 obtain ⟨rfl, rfl, rfl⟩ := trodAll_nil r2
 obtain rfl : args = #[v0, v1, v2] := by cases args; simp_all
 obtain ⟨A0, n0, c0, L0, rfl, z0, zn0⟩ := open_rules (hval 0 22 v0 rfl rfl) h0
 obtain ⟨s1, rfl, rfl, -, z1⟩ := open_string Tryz.underlying9 (hval 1 9 v1 rfl rfl) h1
 obtain ⟨s2, rfl, rfl, -, z2⟩ := open_string Tryz.underlying9 (hval 2 9 v2 rfl rfl) h2
 obtain ⟨rfl, rfl⟩ := trodVars_none hV
 refine (lawCh A0 n0 c0 L0 s1 s2 W z0 zn0   (lenv_of hS hL')).mono fun e W' ⟨he, hb⟩ => ?_
 subst he
 exact ⟨_, rfl, law_post (t := 4) hW' rfl laidOut (by kernel_rfl) (by kernel_rfl) Tryz.underlying4 rfl hb⟩
set_option maxRecDepth 100000 in
theorem liftedPc (os : Os) (started : os.Started) (H : Type) (enc : TypeId × Value → H) (F : Stop.Interp) :
  ReturnsInHanded {} Tryz.checked os 4 .any ((OpenSpec.ofChange Rows.policyChoosesAsSpecifiedSpec).preRow enc Tryz.prog Tryz.f4 Rows.policyChoosesAsSpecifiedRow.domain false Rows.policyChoosesAsSpecifiedRow.laid) (((OpenSpec.ofChange Rows.policyChoosesAsSpecifiedSpec).at F).post enc Tryz.prog Tryz.f4 false true false false) := by
 obtain ⟨places, hx⟩ := readsPc os enc
 refine returnsInHanded_of_row (C := Tryz.checked) (s := OpenSpec.ofChange Rows.policyChoosesAsSpecifiedSpec) own started (by kernel_rfl) Tryz.func4
  (witness_row_at (enc := enc) (C := Tryz.checked) false (laidWorldP os) argsPc rfl (by kernel_rfl) (by kernel_rfl) (by kernel_rfl)
   (OpenSpec.preRow_of_cond 8 hx (by kernel_rfl) (fun k hk => by cases hk) (by kernel_rfl) (laid_metPc os))) ?_
 intro W base args ds gs before hval hW _ _ _ hL hS _
 exact contractPc H enc W base args ds gs before hval hW hL hS
theorem saidPc : Rows.PolicyChoosesAsSpecifiedSaid :=
 OpenClaim.holds_of_cond 4 Tryz.f4 rfl rfl rfl rfl rfl rfl rfl ⟨rfl, rfl, rfl, rfl, rfl⟩ rfl rfl rfl rfl rfl (by kernel_rfl) Tryz.func4 (by kernel_rfl)
  (of_decide_eq_true (by kernel_rfl)) (by unfold Func.isWrapper; first | (rw [if_pos (by decide +kernel)]; kernel_rfl) | (rw [if_neg (by decide +kernel)]; exact ⟨rfl, rfl⟩))
  (fun os started H enc _ F => by rw [OpenClaim.pre_eq_preRow]; exact liftedPc os started H enc F)
theorem plainPc (f : FuncId) (fn : Func) (hf : Tryz.pinned.checked.prog.funcNamed "weirgate/weirgatelaw22.PolicyChoosesAsSpecified" = some f) (hfn : Tryz.pinned.checked.prog.funcs[f]? = some fn) :
  false = Tryz.pinned.checked.prog.looks [] ∧ ∀ (j : Nat) t, fn.params[j]? = some t → Tryz.pinned.checked.prog.wantsStandIn t = false := by
 obtain rfl : f = 4 := Option.some.inj ((show Tryz.prog.funcNamed "weirgate/weirgatelaw22.PolicyChoosesAsSpecified" = some 4 by kernel_rfl).symm.trans hf) |>.symm
 obtain rfl : fn = Tryz.f4 := (Option.some.inj (Tryz.func4.symm.trans hfn)).symm
 refine ⟨by kernel_rfl, fun j t ht => ?_⟩
 rw [Tryz.params4] at ht
 have hall : ∀ t ∈ #[22, 9, 9], Tryz.prog.wantsStandIn t = false := by
  intro t ht
  simp at ht
  rcases ht with rfl | rfl | rfl
  all_goals kernel_rfl
 exact hall t (Array.mem_of_getElem? ht)
theorem cardPc : Rows.PolicyChoosesAsSpecifiedCardSaid :=
 Claim7.holds_tied_plain_at .later [] _ _ _ _ saidPc (fun _ h => by cases h) (by kernel_rfl) (fun _ h => by cases h) policyChoosesAsSpecified_row_tie rfl ⟨rfl, rfl⟩ (by kernel_rfl) rfl plainPc (by kernel_rfl)
end Go.Proofs.YtdlbfjoemabfpaaGreatDoor
