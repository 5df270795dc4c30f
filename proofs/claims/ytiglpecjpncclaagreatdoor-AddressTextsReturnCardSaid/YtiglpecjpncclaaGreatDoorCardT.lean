/- AddressTextsReturn, the tied card: for every input the law returns true, and the input reads as it did. -/
import Derived.Test.YtiglpecjpncclaaGreatDoorLawT
import Derived.Test.YtiglpecjpncclaaGreatDoorLaid
import Derived.Test.YtiglpecjpncclaaGreatDoorOpen
namespace Go.Proofs.YtiglpecjpncclaaGreatDoor
open Go.ChangeShapes Go.WideShapes Go.ChangeAt Go.RowKit Go.ChangeMaps
set_option linter.unusedVariables false
def argsT : Array Value := #[.string ByteArray.empty, .agg #[.string ByteArray.empty, .slice none 0 0, .slice none 0 0]]
theorem laid_metT (os : Os) : laidMet Tryz.prog Rows.addressTextsReturnRow.laid ((laidWorld os).forCall (fun _ _ => 0) ⟨#[], argsT, []⟩).memory :=
  laidMet_of_run' 8 (by kernel_rfl) (by kernel_rfl)
theorem readsT (os : Os) {H : Type} (enc : TypeId × Value → H) : ∃ places, DataW.whole enc Tryz.prog ((laidWorld os).forCall (fun _ _ => 0) ⟨#[], argsT, []⟩).memory Tryz.f5.params.toList Rows.addressTextsReturnSpec.vars false argsT.toList 8 = some ([.lit (.string []), .agg [.lit (.string []), .nil, .nil]], [], places) :=
  ⟨[], by kernel_rfl⟩
set_option maxRecDepth 100000 in
theorem contractT (H : Type) (enc : TypeId × Value → H) (W : World) (base : Nat) (args : Array Value) (ds gs : List (DataW H)) (before : List MemPlace)
    (hval : ∀ (j : Nat) t v, Tryz.f5.params[j]? = some t → args[j]? = some v → Value.okWide Tryz.prog W .any base t v)
    (hW : DataW.Whole enc Tryz.prog Tryz.f5.params.toList Rows.addressTextsReturnSpec.vars false W args.toList ds gs before) (hS : W.ShapedOpen Tryz.prog) :
    Calls Tryz.prog 5 args W fun e W' => ∃ v, e = .returned v ∧ Rows.addressTextsReturnSpec.post enc Tryz.prog Tryz.f5 false true false false W args v W' := by
  have hW' := hW
  obtain ⟨p, q, hA0, hV, rfl, hfz, hnd⟩ := hW
  have hA : DataW.TrodAll enc Tryz.prog W 0 (fun _ => true) true Tryz.f5.params.toList args.toList ds p := hA0
  rw [Tryz.params5] at hA hval
  obtain ⟨v0, vs0, d0, ds0, p0, q0, hargs, rfl, rfl, h0, r0⟩ := trodAll_cons hA
  obtain ⟨v1, vs1, d1, ds1, p1, q1, rfl, rfl, rfl, h1, r1⟩ := trodAll_cons r0
  obtain ⟨rfl, rfl, rfl⟩ := trodAll_nil r1
  obtain rfl : args = #[v0, v1] := by cases args; simp_all
  obtain ⟨s0, rfl, rfl, -, z0⟩ := open_string Tryz.underlying9 (hval 0 9 v0 rfl rfl) h0
  obtain ⟨c1, P1, np1, cp1, Q1, nq1, cq1, xs1, qs1, rfl, za1, zb1, zc1, zd1⟩ := open_adr (hval 1 25 v1 rfl rfl) h1
  obtain ⟨rfl, rfl⟩ := trodVars_none hV
  unfold maxLen at z0
  refine (lawTexts s0 c1 P1 Q1 np1 cp1 nq1 cq1 xs1 qs1 W z0 za1 zb1 zc1 zd1 (env_of hS)).mono fun e W' ⟨he, hb⟩ => ?_
  subst he
  exact ⟨_, rfl, law_post (t := 4) hW' rfl laidOut (by kernel_rfl) (by kernel_rfl) Tryz.underlying4 rfl hb⟩
set_option maxRecDepth 100000 in
theorem liftedT (os : Os) (started : os.Started) (H : Type) (enc : TypeId × Value → H) (F : Stop.Interp) :
    ReturnsInHanded {} Tryz.checked os 5 .any ((OpenSpec.ofChange Rows.addressTextsReturnSpec).preRow enc Tryz.prog Tryz.f5 Rows.addressTextsReturnRow.domain false Rows.addressTextsReturnRow.laid) (((OpenSpec.ofChange Rows.addressTextsReturnSpec).at F).post enc Tryz.prog Tryz.f5 false true false false) := by
  obtain ⟨places, hx⟩ := readsT os enc
  refine returnsInHanded_of_row (C := Tryz.checked) (s := OpenSpec.ofChange Rows.addressTextsReturnSpec) own started (by kernel_rfl) Tryz.func5
    (witness_row_at (enc := enc) (C := Tryz.checked) false (laidWorld os) argsT rfl (by kernel_rfl) (by kernel_rfl) (by kernel_rfl)
      (OpenSpec.preRow_of_cond 8 hx (by kernel_rfl) (fun k hk => by cases hk) (by kernel_rfl) (laid_metT os))) ?_
  intro W base args ds gs before hval hW _ _ _ _ hS _
  exact contractT H enc W base args ds gs before hval hW hS
theorem saidT : Rows.AddressTextsReturnSaid :=
  OpenClaim.holds_of_cond 5 Tryz.f5 rfl rfl rfl rfl rfl rfl rfl ⟨rfl, rfl, rfl, rfl, rfl⟩ rfl rfl rfl rfl rfl (by kernel_rfl) Tryz.func5 (by kernel_rfl)
    (of_decide_eq_true (by kernel_rfl)) (by unfold Func.isWrapper; first | (rw [if_pos (by decide +kernel)]; kernel_rfl) | (rw [if_neg (by decide +kernel)]; exact ⟨rfl, rfl⟩))
    (fun os started H enc _ F => by rw [OpenClaim.pre_eq_preRow]; exact liftedT os started H enc F)
theorem plainT (f : FuncId) (fn : Func) (hf : Tryz.pinned.checked.prog.funcNamed "weirgate/weirgatelaw06.AddressTextsReturn" = some f) (hfn : Tryz.pinned.checked.prog.funcs[f]? = some fn) :
    false = Tryz.pinned.checked.prog.looks [] ∧ ∀ (j : Nat) t, fn.params[j]? = some t → Tryz.pinned.checked.prog.wantsStandIn t = false := by
  obtain rfl : f = 5 := Option.some.inj ((show Tryz.prog.funcNamed "weirgate/weirgatelaw06.AddressTextsReturn" = some 5 by kernel_rfl).symm.trans hf) |>.symm
  obtain rfl : fn = Tryz.f5 := (Option.some.inj (Tryz.func5.symm.trans hfn)).symm
  refine ⟨by kernel_rfl, fun j t ht => ?_⟩
  rw [Tryz.params5] at ht
  have hall : ∀ t ∈ #[9, 25], Tryz.prog.wantsStandIn t = false := by
    intro t ht
    simp at ht
    rcases ht with rfl | rfl
    all_goals kernel_rfl
  exact hall t (Array.mem_of_getElem? ht)
/-- The tied card. -/
theorem cardT : Rows.AddressTextsReturnCardSaid :=
  Claim7.holds_tied_plain_at .later [] _ _ _ _ saidT (fun _ h => by cases h) (by kernel_rfl) (fun _ h => by cases h) addressTextsReturn_row_tie rfl ⟨rfl, rfl⟩ (by kernel_rfl) rfl plainT (by kernel_rfl)
end Go.Proofs.YtiglpecjpncclaaGreatDoor
