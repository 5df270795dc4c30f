/- IndexChangesAsSpecified, the tied card: for every input the law returns true, and the input reads as it did. -/
import Derived.Test.YtokfclikhfpmhaaGreatDoorDY0
namespace Go.Proofs.YtokfclikhfpmhaaGreatDoor
open Go.ChangeShapes Go.WideShapes Go.ChangeAt Go.RowKit Go.ChangeMaps
set_option linter.unusedVariables false
def argsIch : Array Value := #[.slice none 0 0, .slice none 0 0]
theorem laid_metIch (os : Os) : laidMet Tryz.prog Rows.indexChangesAsSpecifiedRow.laid ((laidWorld os).forCall (fun _ _ => 0) ⟨#[], argsIch, []⟩).memory :=
 laidMet_of_run' 8 (by kernel_rfl) (by kernel_rfl)
theorem readsIch (os : Os) {H : Type} (enc : TypeId × Value → H) : ∃ places, DataW.whole enc Tryz.prog ((laidWorld os).forCall (fun _ _ => 0) ⟨#[], argsIch, []⟩).memory Tryz.f8.params.toList Rows.indexChangesAsSpecifiedSpec.vars false argsIch.toList 8 = some ([.nil, .nil], [], places) :=
 ⟨[], by kernel_rfl⟩
set_option maxRecDepth 100000 in
theorem contractIch (H : Type) (enc : TypeId × Value → H) (W : World) (base : Nat) (args : Array Value) (ds gs : List (DataW H)) (before : List MemPlace)
  (hval : ∀ (j : Nat) t v, Tryz.f8.params[j]? = some t → args[j]? = some v → Value.okWide Tryz.prog W .any base t v)
  (hW : DataW.Whole enc Tryz.prog Tryz.f8.params.toList Rows.indexChangesAsSpecifiedSpec.vars false W args.toList ds gs before) (hL : laidMetH Tryz.prog Rows.indexChangesAsSpecifiedRow.laid W) (hS : W.ShapedOpen Tryz.prog) :
  Calls Tryz.prog 8 args W fun e W' => ∃ v, e = .returned v ∧ Rows.indexChangesAsSpecifiedSpec.post enc Tryz.prog Tryz.f8 false true false false W args v W' := by
 have hL' : laidMet Tryz.prog Rows.indexChangesAsSpecifiedRow.laid W := hL
 have hW' := hW
 obtain ⟨p, q, hA0, hV, rfl, hfz, hnd⟩ := hW
 have hA : DataW.TrodAll enc Tryz.prog W 0 (fun _ => true) true Tryz.f8.params.toList args.toList ds p := hA0
 rw [Tryz.params8] at hA hval
 obtain ⟨v0, vs0, d0, ds0, p0, q0, hargs, rfl, rfl, h0, r0⟩ := trodAll_cons hA
 obtain ⟨v1, vs1, d1, ds1, p1, q1, rfl, rfl, rfl, h1, r1⟩ := trodAll_cons r0
 obtain ⟨rfl, rfl, rfl⟩ := trodAll_nil r1
 obtain rfl : args = #[v0, v1] := by cases args; simp_all
 obtain ⟨A0, n0, c0, L0, rfl, z0, zn0⟩ := open_ops (hval 0 22 v0 rfl rfl) h0
 obtain ⟨A1, n1, c1, L1, rfl, z1, zn1⟩ := open_ops (hval 1 22 v1 rfl rfl) h1
 obtain ⟨rfl, rfl⟩ := trodVars_none hV
 refine (lawChanges15 A0 n0 c0 L0 A1 n1 c1 L1 W z0 zn0 z1 zn1 (env_of hS) (tab_of hL')).mono fun e W' ⟨he, hb⟩ => ?_
 subst he
 exact ⟨_, rfl, law_post (t := 4) hW' rfl laidOut (by kernel_rfl) (by kernel_rfl) Tryz.underlying4 rfl hb⟩
set_option maxRecDepth 100000 in
theorem liftedIch (os : Os) (started : os.Started) (H : Type) (enc : TypeId × Value → H) (F : Stop.Interp) :
  ReturnsInHanded {} Tryz.checked os 8 .any ((OpenSpec.ofChange Rows.indexChangesAsSpecifiedSpec).preRow enc Tryz.prog Tryz.f8 Rows.indexChangesAsSpecifiedRow.domain false Rows.indexChangesAsSpecifiedRow.laid) (((OpenSpec.ofChange Rows.indexChangesAsSpecifiedSpec).at F).post enc Tryz.prog Tryz.f8 false true false false) := by
 obtain ⟨places, hx⟩ := readsIch os enc
 refine returnsInHanded_of_row (C := Tryz.checked) (s := OpenSpec.ofChange Rows.indexChangesAsSpecifiedSpec) own started (by kernel_rfl) Tryz.func8
  (witness_row_at (enc := enc) (C := Tryz.checked) false (laidWorld os) argsIch rfl (by kernel_rfl) (by kernel_rfl) (by kernel_rfl)
   (OpenSpec.preRow_of_cond 8 hx (by kernel_rfl) (fun k hk => by cases hk) (by kernel_rfl) (laid_metIch os))) ?_
 intro W base args ds gs before hval hW _ _ _ hL hS _
 exact contractIch H enc W base args ds gs before hval hW hL hS
theorem and2 {a b : Bool} (h : a = true) (k : b = true) : (a && b) = true := by rw [h, k]; rfl
theorem factIch1 : laidOutB Tryz.pinned.checked.prog = true := by kernel_rfl
theorem factIch2 : mapsRowed Tryz.pinned.checked.prog = true := by kernel_rfl
theorem factIch9 : (Rows.indexChangesAsSpecifiedRow.inPlace == Tryz.pinned.checked.prog.inPlace 8) = true := by kernel_rfl
theorem factIch10 : (Rows.indexChangesAsSpecifiedRow.unfollowed == Tryz.pinned.checked.prog.unfollowed 8) = true := by kernel_rfl
theorem factIch11 : (Rows.indexChangesAsSpecifiedRow.recurses == Tryz.pinned.checked.prog.recurses 8) = true := by kernel_rfl
theorem factIch12 : (Rows.indexChangesAsSpecifiedRow.named == Tryz.pinned.checked.prog.varsNamed 8) = true := by kernel_rfl
theorem factIch22 : (Rows.indexChangesAsSpecifiedRow.plainKeys == Tryz.pinned.checked.prog.plainKeys) = true := by kernel_rfl
theorem factIch24 : Tryz.pinned.checked.prog.stopsHeard = true := by kernel_rfl
theorem factIch25 : Tryz.pinned.checked.prog.mayEnter = true := by kernel_rfl
theorem factIch26 : (Rows.indexChangesAsSpecifiedRow.lifted == Tryz.pinned.checked.prog.liftsFinal) = true := by kernel_rfl
theorem closedIch : joinedFacts Tryz.pinned.checked.prog 8 Tryz.f8 (OpenSpec.ofChange Rows.indexChangesAsSpecifiedSpec).bare Rows.indexChangesAsSpecifiedRow = true := by
 unfold joinedFacts
 exact (and2 (and2 (and2 (and2 (and2 (and2 (and2 (and2 (and2 (and2 (and2 (and2 (and2 (and2 (and2 (and2 (and2 (and2 (and2 (and2 (and2 (and2 (and2 (and2 (and2 (and2 (and2 (and2 (and2 (and2 (and2 (by kernel_rfl) factIch1) factIch2) (by kernel_rfl)) (by kernel_rfl)) (by kernel_rfl)) (by kernel_rfl)) (by kernel_rfl)) (by kernel_rfl)) factIch9) factIch10) factIch11) factIch12) (by kernel_rfl)) (by kernel_rfl)) (by kernel_rfl)) (by kernel_rfl)) (by kernel_rfl)) (by kernel_rfl)) (by kernel_rfl)) (by kernel_rfl)) (by kernel_rfl)) factIch22) (by kernel_rfl)) factIch24) factIch25) factIch26) (by kernel_rfl)) (by kernel_rfl)) (by kernel_rfl)) (by kernel_rfl)) (by kernel_rfl))
theorem saidIch : Rows.IndexChangesAsSpecifiedSaid :=
 OpenClaim.holds_of_cond 8 Tryz.f8 rfl rfl rfl rfl rfl rfl rfl ⟨rfl, rfl, rfl, rfl, rfl⟩ rfl rfl rfl rfl rfl (by kernel_rfl) Tryz.func8 closedIch
  (of_decide_eq_true (by kernel_rfl)) (by unfold Func.isWrapper; first | (rw [if_pos (by decide +kernel)]; kernel_rfl) | (rw [if_neg (by decide +kernel)]; exact ⟨rfl, rfl⟩))
  (fun os started H enc _ F => by rw [OpenClaim.pre_eq_preRow]; exact liftedIch os started H enc F)
theorem plainIch (f : FuncId) (fn : Func) (hf : Tryz.pinned.checked.prog.funcNamed "weirgate/weirgatelaw15.IndexChangesAsSpecified" = some f) (hfn : Tryz.pinned.checked.prog.funcs[f]? = some fn) :
  false = Tryz.pinned.checked.prog.looks [] ∧ ∀ (j : Nat) t, fn.params[j]? = some t → Tryz.pinned.checked.prog.wantsStandIn t = false := by
 obtain rfl : f = 8 := Option.some.inj ((show Tryz.prog.funcNamed "weirgate/weirgatelaw15.IndexChangesAsSpecified" = some 8 by kernel_rfl).symm.trans hf) |>.symm
 obtain rfl : fn = Tryz.f8 := (Option.some.inj (Tryz.func8.symm.trans hfn)).symm
 refine ⟨by kernel_rfl, fun j t ht => ?_⟩
 rw [Tryz.params8] at ht
 have hall : ∀ t ∈ #[22, 22], Tryz.prog.wantsStandIn t = false := by
  intro t ht
  simp at ht
  subst ht
  exact (show Tryz.prog.wantsStandIn 22 = false by kernel_rfl)
 exact hall t (Array.mem_of_getElem? ht)
theorem cardIch : Rows.IndexChangesAsSpecifiedCardSaid :=
 Claim7.holds_tied_plain_at .later [] _ _ _ _ saidIch (fun _ h => by cases h) (by kernel_rfl) (fun _ h => by cases h) indexChangesAsSpecified_row_tie rfl ⟨rfl, rfl⟩ (by kernel_rfl) rfl plainIch (by kernel_rfl)
end Go.Proofs.YtokfclikhfpmhaaGreatDoor
