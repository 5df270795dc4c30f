/- IndexNeverChanges, the tied card: for every input the law returns true, and the input reads as it did. -/
import Derived.Test.YtcjeddichookmaaGreatDoorIZ23
import Derived.Test.YtcjeddichookmaaGreatDoorIZ21
namespace Go.Proofs.YtcjeddichookmaaGreatDoor
open Go.ChangeShapes Go.WideShapes Go.ChangeAt Go.RowKit Go.ChangeMaps
set_option linter.unusedVariables false
def argsIne : Array Value := #[.slice none 0 0]
theorem laid_metIne (os : Os) : laidMet Tryz.prog Rows.indexNeverChangesRow.laid ((laidWorld os).forCall (fun _ _ => 0) ⟨#[], argsIne, []⟩).memory :=
  laidMet_of_run' 8 (by kernel_rfl) (by kernel_rfl)
theorem readsIne (os : Os) {H : Type} (enc : TypeId × Value → H) : ∃ places, DataW.whole enc Tryz.prog ((laidWorld os).forCall (fun _ _ => 0) ⟨#[], argsIne, []⟩).memory Tryz.f3.params.toList Rows.indexNeverChangesSpec.vars false argsIne.toList 8 = some ([.nil], [], places) :=
  ⟨[], by kernel_rfl⟩
set_option maxRecDepth 100000 in
theorem contractIne (H : Type) (enc : TypeId × Value → H) (W : World) (base : Nat) (args : Array Value) (ds gs : List (DataW H)) (before : List MemPlace)
    (hval : ∀ (j : Nat) t v, Tryz.f3.params[j]? = some t → args[j]? = some v → Value.okWide Tryz.prog W .any base t v)
    (hW : DataW.Whole enc Tryz.prog Tryz.f3.params.toList Rows.indexNeverChangesSpec.vars false W args.toList ds gs before) (hL : laidMetH Tryz.prog Rows.indexNeverChangesRow.laid W) (hS : W.ShapedOpen Tryz.prog) :
    Calls Tryz.prog 3 args W fun e W' => ∃ v, e = .returned v ∧ Rows.indexNeverChangesSpec.post enc Tryz.prog Tryz.f3 false true false false W args v W' := by
  have hL' : laidMet Tryz.prog Rows.indexNeverChangesRow.laid W := hL
  have hW' := hW
  obtain ⟨p, q, hA0, hV, rfl, hfz, hnd⟩ := hW
  have hA : DataW.TrodAll enc Tryz.prog W 0 (fun _ => true) true Tryz.f3.params.toList args.toList ds p := hA0
  rw [Tryz.params3] at hA hval
  obtain ⟨v0, vs0, d0, ds0, p0, q0, hargs, rfl, rfl, h0, r0⟩ := trodAll_cons hA
  obtain ⟨rfl, rfl, rfl⟩ := trodAll_nil r0
  obtain rfl : args = #[v0] := by cases args; simp_all
  obtain ⟨A0, n0, c0, L0, rfl, z0, zn0⟩ := open_ops (hval 0 22 v0 rfl rfl) h0
  obtain ⟨rfl, rfl⟩ := trodVars_none hV
  refine (lawNever15 A0 n0 c0 L0 W z0 zn0 (env_of hS) (tab_of hL')).mono fun e W' ⟨he, hb⟩ => ?_
  subst he
  exact ⟨_, rfl, law_post (t := 4) hW' rfl laidOut (by kernel_rfl) (by kernel_rfl) Tryz.underlying4 rfl hb⟩
set_option maxRecDepth 100000 in
theorem liftedIne (os : Os) (started : os.Started) (H : Type) (enc : TypeId × Value → H) (F : Stop.Interp) :
    ReturnsInHanded {} Tryz.checked os 3 .any ((OpenSpec.ofChange Rows.indexNeverChangesSpec).preRow enc Tryz.prog Tryz.f3 Rows.indexNeverChangesRow.domain false Rows.indexNeverChangesRow.laid) (((OpenSpec.ofChange Rows.indexNeverChangesSpec).at F).post enc Tryz.prog Tryz.f3 false true false false) := by
  obtain ⟨places, hx⟩ := readsIne os enc
  refine returnsInHanded_of_row (C := Tryz.checked) (s := OpenSpec.ofChange Rows.indexNeverChangesSpec) own started (by kernel_rfl) Tryz.func3
    (witness_row_at (enc := enc) (C := Tryz.checked) false (laidWorld os) argsIne rfl (by kernel_rfl) (by kernel_rfl) (by kernel_rfl)
      (OpenSpec.preRow_of_cond 8 hx (by kernel_rfl) (fun k hk => by cases hk) (by kernel_rfl) (laid_metIne os))) ?_
  intro W base args ds gs before hval hW _ _ _ hL hS _
  exact contractIne H enc W base args ds gs before hval hW hL hS
theorem and2 {a b : Bool} (h : a = true) (k : b = true) : (a && b) = true := by rw [h, k]; rfl
theorem factIne1 : laidOutB Tryz.pinned.checked.prog = true := by kernel_rfl
theorem factIne2 : mapsRowed Tryz.pinned.checked.prog = true := by kernel_rfl
theorem factIne9 : (Rows.indexNeverChangesRow.inPlace == Tryz.pinned.checked.prog.inPlace 3) = true := by kernel_rfl
theorem factIne10 : (Rows.indexNeverChangesRow.unfollowed == Tryz.pinned.checked.prog.unfollowed 3) = true := by kernel_rfl
theorem factIne11 : (Rows.indexNeverChangesRow.recurses == Tryz.pinned.checked.prog.recurses 3) = true := by kernel_rfl
theorem factIne12 : (Rows.indexNeverChangesRow.named == Tryz.pinned.checked.prog.varsNamed 3) = true := by kernel_rfl
theorem factIne22 : (Rows.indexNeverChangesRow.plainKeys == Tryz.pinned.checked.prog.plainKeys) = true := by kernel_rfl
theorem factIne24 : Tryz.pinned.checked.prog.stopsHeard = true := by kernel_rfl
theorem factIne25 : Tryz.pinned.checked.prog.mayEnter = true := by kernel_rfl
theorem factIne26 : (Rows.indexNeverChangesRow.lifted == Tryz.pinned.checked.prog.liftsFinal) = true := by kernel_rfl
theorem closedIne : joinedFacts Tryz.pinned.checked.prog 3 Tryz.f3 (OpenSpec.ofChange Rows.indexNeverChangesSpec).bare Rows.indexNeverChangesRow = true := by
  unfold joinedFacts
  exact (and2 (and2 (and2 (and2 (and2 (and2 (and2 (and2 (and2 (and2 (and2 (and2 (and2 (and2 (and2 (and2 (and2 (and2 (and2 (and2 (and2 (and2 (and2 (and2 (and2 (and2 (and2 (and2 (and2 (and2 (and2 (by kernel_rfl) factIne1) factIne2) (by kernel_rfl)) (by kernel_rfl)) (by kernel_rfl)) (by kernel_rfl)) (by kernel_rfl)) (by kernel_rfl)) factIne9) factIne10) factIne11) factIne12) (by kernel_rfl)) (by kernel_rfl)) (by kernel_rfl)) (by kernel_rfl)) (by kernel_rfl)) (by kernel_rfl)) (by kernel_rfl)) (by kernel_rfl)) (by kernel_rfl)) factIne22) (by kernel_rfl)) factIne24) factIne25) factIne26) (by kernel_rfl)) (by kernel_rfl)) (by kernel_rfl)) (by kernel_rfl)) (by kernel_rfl))
theorem saidIne : Rows.IndexNeverChangesSaid :=
  OpenClaim.holds_of_cond 3 Tryz.f3 rfl rfl rfl rfl rfl rfl rfl ⟨rfl, rfl, rfl, rfl, rfl⟩ rfl rfl rfl rfl rfl (by kernel_rfl) Tryz.func3 closedIne
    (of_decide_eq_true (by kernel_rfl)) (by unfold Func.isWrapper; first | (rw [if_pos (by decide +kernel)]; kernel_rfl) | (rw [if_neg (by decide +kernel)]; exact ⟨rfl, rfl⟩))
    (fun os started H enc _ F => by rw [OpenClaim.pre_eq_preRow]; exact liftedIne os started H enc F)
theorem plainIne (f : FuncId) (fn : Func) (hf : Tryz.pinned.checked.prog.funcNamed "weirgate/weirgatelaw15.IndexNeverChanges" = some f) (hfn : Tryz.pinned.checked.prog.funcs[f]? = some fn) :
    false = Tryz.pinned.checked.prog.looks [] ∧ ∀ (j : Nat) t, fn.params[j]? = some t → Tryz.pinned.checked.prog.wantsStandIn t = false := by
  obtain rfl : f = 3 := Option.some.inj ((show Tryz.prog.funcNamed "weirgate/weirgatelaw15.IndexNeverChanges" = some 3 by kernel_rfl).symm.trans hf) |>.symm
  obtain rfl : fn = Tryz.f3 := (Option.some.inj (Tryz.func3.symm.trans hfn)).symm
  refine ⟨by kernel_rfl, fun j t ht => ?_⟩
  rw [Tryz.params3] at ht
  have hall : ∀ t ∈ #[22], Tryz.prog.wantsStandIn t = false := by
    intro t ht
    simp at ht
    subst ht
    exact (show Tryz.prog.wantsStandIn 22 = false by kernel_rfl)
  exact hall t (Array.mem_of_getElem? ht)
theorem cardIne : Rows.IndexNeverChangesCardSaid :=
  Claim7.holds_tied_plain_at .later [] _ _ _ _ saidIne (fun _ h => by cases h) (by kernel_rfl) (fun _ h => by cases h) indexNeverChanges_row_tie rfl ⟨rfl, rfl⟩ (by kernel_rfl) rfl plainIne (by kernel_rfl)
end Go.Proofs.YtcjeddichookmaaGreatDoor
