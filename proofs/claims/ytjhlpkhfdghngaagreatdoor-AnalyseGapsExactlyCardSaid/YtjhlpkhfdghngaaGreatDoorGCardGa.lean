/- AnalyseGapsExactly, the tied card: for every input the law returns true, and the input reads as it did. -/
import Derived.Test.YtjhlpkhfdghngaaGreatDoorGZ48
import Derived.Test.YtjhlpkhfdghngaaGreatDoorGZ21
import Derived.Test.YtjhlpkhfdghngaaGreatDoorGZ43
namespace Go.Proofs.YtjhlpkhfdghngaaGreatDoor
open Go.ChangeShapes Go.WideShapes Go.ChangeAt Go.RowKit Go.ChangeMaps
set_option linter.unusedVariables false
def argsGa : Array Value := #[.string ByteArray.empty, .slice none 0 0, .string ByteArray.empty]
theorem laid_metGa (os : Os) : laidMet Tryz.prog Rows.analyseGapsExactlyRow.laid ((laidWorld os).forCall (fun _ _ => 0) ⟨#[], argsGa, []⟩).memory :=
  laidMet_of_run' 8 (by kernel_rfl) (by kernel_rfl)
theorem readsGa (os : Os) {H : Type} (enc : TypeId × Value → H) : ∃ places, DataW.whole enc Tryz.prog ((laidWorld os).forCall (fun _ _ => 0) ⟨#[], argsGa, []⟩).memory Tryz.f4.params.toList Rows.analyseGapsExactlySpec.vars false argsGa.toList 8 = some ([.lit (.string []), .nil, .lit (.string [])], [], places) :=
  ⟨[], by kernel_rfl⟩
set_option maxRecDepth 100000 in
theorem contractGa (H : Type) (enc : TypeId × Value → H) (W : World) (base : Nat) (args : Array Value) (ds gs : List (DataW H)) (before : List MemPlace)
    (hval : ∀ (j : Nat) t v, Tryz.f4.params[j]? = some t → args[j]? = some v → Value.okWide Tryz.prog W .any base t v)
    (hW : DataW.Whole enc Tryz.prog Tryz.f4.params.toList Rows.analyseGapsExactlySpec.vars false W args.toList ds gs before) (hL : laidMetH Tryz.prog Rows.analyseGapsExactlyRow.laid W) (hS : W.ShapedOpen Tryz.prog) :
    Calls Tryz.prog 4 args W fun e W' => ∃ v, e = .returned v ∧ Rows.analyseGapsExactlySpec.post enc Tryz.prog Tryz.f4 false true false false W args v W' := by
  have hL' : laidMet Tryz.prog Rows.analyseGapsExactlyRow.laid W := hL
  have hW' := hW
  obtain ⟨p, q, hA0, hV, rfl, hfz, hnd⟩ := hW
  have hA : DataW.TrodAll enc Tryz.prog W 0 (fun _ => true) true Tryz.f4.params.toList args.toList ds p := hA0
  rw [Tryz.params4] at hA hval
  obtain ⟨v0, vs0, d0, ds0, p0, q0, hargs, rfl, rfl, h0, r0⟩ := trodAll_cons hA
  obtain ⟨v1, vs1, d1, ds1, p1, q1, rfl, rfl, rfl, h1, r1⟩ := trodAll_cons r0
  obtain ⟨v2, vs2, d2, ds2, p2, q2, rfl, rfl, rfl, h2, r2⟩ := trodAll_cons r1
  obtain ⟨rfl, rfl, rfl⟩ := trodAll_nil r2
  obtain rfl : args = #[v0, v1, v2] := by cases args; simp_all
  obtain ⟨s0, rfl, rfl, -, z0⟩ := open_string Tryz.underlying9 (hval 0 9 v0 rfl rfl) h0
  obtain ⟨A1, n1, c1, xs1, rfl, za1, zb1⟩ := open_texts (hval 1 27 v1 rfl rfl) h1
  obtain ⟨s2, rfl, rfl, -, z2⟩ := open_string Tryz.underlying9 (hval 2 9 v2 rfl rfl) h2
  obtain ⟨rfl, rfl⟩ := trodVars_none hV
  refine (lawGaps s0 A1 n1 c1 xs1 s2 W  za1 zb1  (env_of hS) (tab_of hL')).mono fun e W' ⟨he, hb⟩ => ?_
  subst he
  exact ⟨_, rfl, law_post (t := 4) hW' rfl laidOut (by kernel_rfl) (by kernel_rfl) Tryz.underlying4 rfl hb⟩
set_option maxRecDepth 100000 in
theorem liftedGa (os : Os) (started : os.Started) (H : Type) (enc : TypeId × Value → H) (F : Stop.Interp) :
    ReturnsInHanded {} Tryz.checked os 4 .any ((OpenSpec.ofChange Rows.analyseGapsExactlySpec).preRow enc Tryz.prog Tryz.f4 Rows.analyseGapsExactlyRow.domain false Rows.analyseGapsExactlyRow.laid) (((OpenSpec.ofChange Rows.analyseGapsExactlySpec).at F).post enc Tryz.prog Tryz.f4 false true false false) := by
  obtain ⟨places, hx⟩ := readsGa os enc
  refine returnsInHanded_of_row (C := Tryz.checked) (s := OpenSpec.ofChange Rows.analyseGapsExactlySpec) own started (by kernel_rfl) Tryz.func4
    (witness_row_at (enc := enc) (C := Tryz.checked) false (laidWorld os) argsGa rfl (by kernel_rfl) (by kernel_rfl) (by kernel_rfl)
      (OpenSpec.preRow_of_cond 8 hx (by kernel_rfl) (fun k hk => by cases hk) (by kernel_rfl) (laid_metGa os))) ?_
  intro W base args ds gs before hval hW _ _ _ hL hS _
  exact contractGa H enc W base args ds gs before hval hW hL hS
theorem and2 {a b : Bool} (h : a = true) (k : b = true) : (a && b) = true := by rw [h, k]; rfl
theorem factGa1 : laidOutB Tryz.pinned.checked.prog = true := by kernel_rfl
theorem factGa2 : mapsRowed Tryz.pinned.checked.prog = true := by kernel_rfl
theorem factGa9 : (Rows.analyseGapsExactlyRow.inPlace == Tryz.pinned.checked.prog.inPlace 4) = true := by kernel_rfl
theorem factGa10 : (Rows.analyseGapsExactlyRow.unfollowed == Tryz.pinned.checked.prog.unfollowed 4) = true := by kernel_rfl
theorem factGa11 : (Rows.analyseGapsExactlyRow.recurses == Tryz.pinned.checked.prog.recurses 4) = true := by kernel_rfl
theorem factGa12 : (Rows.analyseGapsExactlyRow.named == Tryz.pinned.checked.prog.varsNamed 4) = true := by kernel_rfl
theorem factGa22 : (Rows.analyseGapsExactlyRow.plainKeys == Tryz.pinned.checked.prog.plainKeys) = true := by kernel_rfl
theorem factGa24 : Tryz.pinned.checked.prog.stopsHeard = true := by kernel_rfl
theorem factGa25 : Tryz.pinned.checked.prog.mayEnter = true := by kernel_rfl
theorem factGa26 : (Rows.analyseGapsExactlyRow.lifted == Tryz.pinned.checked.prog.liftsFinal) = true := by kernel_rfl
theorem closedGa : joinedFacts Tryz.pinned.checked.prog 4 Tryz.f4 (OpenSpec.ofChange Rows.analyseGapsExactlySpec).bare Rows.analyseGapsExactlyRow = true := by
  unfold joinedFacts
  exact (and2 (and2 (and2 (and2 (and2 (and2 (and2 (and2 (and2 (and2 (and2 (and2 (and2 (and2 (and2 (and2 (and2 (and2 (and2 (and2 (and2 (and2 (and2 (and2 (and2 (and2 (and2 (and2 (and2 (and2 (and2 (by kernel_rfl) factGa1) factGa2) (by kernel_rfl)) (by kernel_rfl)) (by kernel_rfl)) (by kernel_rfl)) (by kernel_rfl)) (by kernel_rfl)) factGa9) factGa10) factGa11) factGa12) (by kernel_rfl)) (by kernel_rfl)) (by kernel_rfl)) (by kernel_rfl)) (by kernel_rfl)) (by kernel_rfl)) (by kernel_rfl)) (by kernel_rfl)) (by kernel_rfl)) factGa22) (by kernel_rfl)) factGa24) factGa25) factGa26) (by kernel_rfl)) (by kernel_rfl)) (by kernel_rfl)) (by kernel_rfl)) (by kernel_rfl))
theorem saidGa : Rows.AnalyseGapsExactlySaid :=
  OpenClaim.holds_of_cond 4 Tryz.f4 rfl rfl rfl rfl rfl rfl rfl ⟨rfl, rfl, rfl, rfl, rfl⟩ rfl rfl rfl rfl rfl (by kernel_rfl) Tryz.func4 closedGa
    (of_decide_eq_true (by kernel_rfl)) (by unfold Func.isWrapper; first | (rw [if_pos (by decide +kernel)]; kernel_rfl) | (rw [if_neg (by decide +kernel)]; exact ⟨rfl, rfl⟩))
    (fun os started H enc _ F => by rw [OpenClaim.pre_eq_preRow]; exact liftedGa os started H enc F)
theorem plainGa (f : FuncId) (fn : Func) (hf : Tryz.pinned.checked.prog.funcNamed "weirgate/weirgatelaw24.AnalyseGapsExactly" = some f) (hfn : Tryz.pinned.checked.prog.funcs[f]? = some fn) :
    false = Tryz.pinned.checked.prog.looks [] ∧ ∀ (j : Nat) t, fn.params[j]? = some t → Tryz.pinned.checked.prog.wantsStandIn t = false := by
  obtain rfl : f = 4 := Option.some.inj ((show Tryz.prog.funcNamed "weirgate/weirgatelaw24.AnalyseGapsExactly" = some 4 by kernel_rfl).symm.trans hf) |>.symm
  obtain rfl : fn = Tryz.f4 := (Option.some.inj (Tryz.func4.symm.trans hfn)).symm
  refine ⟨by kernel_rfl, fun j t ht => ?_⟩
  rw [Tryz.params4] at ht
  have hall : ∀ t ∈ #[9, 27, 9], Tryz.prog.wantsStandIn t = false := by
    intro t ht
    simp at ht
    rcases ht with rfl | rfl | rfl
    all_goals kernel_rfl
  exact hall t (Array.mem_of_getElem? ht)
theorem cardGa : Rows.AnalyseGapsExactlyCardSaid :=
  Claim7.holds_tied_plain_at .later [] _ _ _ _ saidGa (fun _ h => by cases h) (by kernel_rfl) (fun _ h => by cases h) analyseGapsExactly_row_tie rfl ⟨rfl, rfl⟩ (by kernel_rfl) rfl plainGa (by kernel_rfl)
end Go.Proofs.YtjhlpkhfdghngaaGreatDoor
