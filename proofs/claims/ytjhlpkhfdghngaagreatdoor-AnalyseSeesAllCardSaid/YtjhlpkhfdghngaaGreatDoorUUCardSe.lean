/- AnalyseSeesAll, the tied card: for every input the law returns true, and the input reads as it did. -/
import Derived.Test.YtjhlpkhfdghngaaGreatDoorUUY1
namespace Go.Proofs.YtjhlpkhfdghngaaGreatDoor
open Go.ChangeShapes Go.WideShapes Go.ChangeAt Go.RowKit Go.ChangeMaps
set_option linter.unusedVariables false
def argsSe : Array Value := #[.agg #[.string ByteArray.empty, .int .i64 0, .slice none 0 0], .string ByteArray.empty]
theorem laid_metSe (os : Os) : laidMet Tryz.prog Rows.analyseSeesAllRow.laid ((laidWorld os).forCall (fun _ _ => 0) ⟨#[], argsSe, []⟩).memory :=
  laidMet_of_run' 8 (by kernel_rfl) (by kernel_rfl)
theorem readsSe (os : Os) {H : Type} (enc : TypeId × Value → H) : ∃ places, DataW.whole enc Tryz.prog ((laidWorld os).forCall (fun _ _ => 0) ⟨#[], argsSe, []⟩).memory Tryz.f7.params.toList Rows.analyseSeesAllSpec.vars false argsSe.toList 8 = some ([.agg [.lit (.string []), .lit (.int .i64 0), .nil], .lit (.string [])], [], places) :=
  ⟨[], by kernel_rfl⟩
set_option maxRecDepth 100000 in
theorem contractSe (H : Type) (enc : TypeId × Value → H) (W : World) (base : Nat) (args : Array Value) (ds gs : List (DataW H)) (before : List MemPlace)
    (hval : ∀ (j : Nat) t v, Tryz.f7.params[j]? = some t → args[j]? = some v → Value.okWide Tryz.prog W .any base t v)
    (hW : DataW.Whole enc Tryz.prog Tryz.f7.params.toList Rows.analyseSeesAllSpec.vars false W args.toList ds gs before) (hL : laidMetH Tryz.prog Rows.analyseSeesAllRow.laid W) (hS : W.ShapedOpen Tryz.prog) :
    Calls Tryz.prog 7 args W fun e W' => ∃ v, e = .returned v ∧ Rows.analyseSeesAllSpec.post enc Tryz.prog Tryz.f7 false true false false W args v W' := by
  have hL' : laidMet Tryz.prog Rows.analyseSeesAllRow.laid W := hL
  have hW' := hW
  obtain ⟨p, q, hA0, hV, rfl, hfz, hnd⟩ := hW
  have hA : DataW.TrodAll enc Tryz.prog W 0 (fun _ => true) true Tryz.f7.params.toList args.toList ds p := hA0
  rw [Tryz.params7] at hA hval
  obtain ⟨v0, vs0, d0, ds0, p0, q0, hargs, rfl, rfl, h0, r0⟩ := trodAll_cons hA
  obtain ⟨v1, vs1, d1, ds1, p1, q1, rfl, rfl, rfl, h1, r1⟩ := trodAll_cons r0
  obtain ⟨rfl, rfl, rfl⟩ := trodAll_nil r1
  obtain rfl : args = #[v0, v1] := by cases args; simp_all
  obtain ⟨cu0, pa0, A0, n0, c0, L0, rfl, z0, zn0, zc0⟩ := open_pol (hval 0 24 v0 rfl rfl) h0
  obtain ⟨s1, rfl, rfl, -, z1⟩ := open_string Tryz.underlying9 (hval 1 9 v1 rfl rfl) h1
  obtain ⟨rfl, rfl⟩ := trodVars_none hV
  refine (lawSees cu0 pa0 A0 n0 c0 L0 s1 W z0 zn0 zc0  (env_of hS) (tab_of hL')).mono fun e W' ⟨he, hb⟩ => ?_
  subst he
  exact ⟨_, rfl, law_post (t := 4) hW' rfl laidOut (by kernel_rfl) (by kernel_rfl) Tryz.underlying4 rfl hb⟩
set_option maxRecDepth 100000 in
theorem liftedSe (os : Os) (started : os.Started) (H : Type) (enc : TypeId × Value → H) (F : Stop.Interp) :
    ReturnsInHanded {} Tryz.checked os 7 .any ((OpenSpec.ofChange Rows.analyseSeesAllSpec).preRow enc Tryz.prog Tryz.f7 Rows.analyseSeesAllRow.domain false Rows.analyseSeesAllRow.laid) (((OpenSpec.ofChange Rows.analyseSeesAllSpec).at F).post enc Tryz.prog Tryz.f7 false true false false) := by
  obtain ⟨places, hx⟩ := readsSe os enc
  refine returnsInHanded_of_row (C := Tryz.checked) (s := OpenSpec.ofChange Rows.analyseSeesAllSpec) own started (by kernel_rfl) Tryz.func7
    (witness_row_at (enc := enc) (C := Tryz.checked) false (laidWorld os) argsSe rfl (by kernel_rfl) (by kernel_rfl) (by kernel_rfl)
      (OpenSpec.preRow_of_cond 8 hx (by kernel_rfl) (fun k hk => by cases hk) (by kernel_rfl) (laid_metSe os))) ?_
  intro W base args ds gs before hval hW _ _ _ hL hS _
  exact contractSe H enc W base args ds gs before hval hW hL hS
theorem and2 {a b : Bool} (h : a = true) (k : b = true) : (a && b) = true := by rw [h, k]; rfl
theorem factSe1 : laidOutB Tryz.pinned.checked.prog = true := by kernel_rfl
theorem factSe2 : mapsRowed Tryz.pinned.checked.prog = true := by kernel_rfl
theorem factSe9 : (Rows.analyseSeesAllRow.inPlace == Tryz.pinned.checked.prog.inPlace 7) = true := by kernel_rfl
theorem factSe10 : (Rows.analyseSeesAllRow.unfollowed == Tryz.pinned.checked.prog.unfollowed 7) = true := by kernel_rfl
theorem factSe11 : (Rows.analyseSeesAllRow.recurses == Tryz.pinned.checked.prog.recurses 7) = true := by kernel_rfl
theorem factSe12 : (Rows.analyseSeesAllRow.named == Tryz.pinned.checked.prog.varsNamed 7) = true := by kernel_rfl
theorem factSe22 : (Rows.analyseSeesAllRow.plainKeys == Tryz.pinned.checked.prog.plainKeys) = true := by kernel_rfl
theorem factSe24 : Tryz.pinned.checked.prog.stopsHeard = true := by kernel_rfl
theorem factSe25 : Tryz.pinned.checked.prog.mayEnter = true := by kernel_rfl
theorem factSe26 : (Rows.analyseSeesAllRow.lifted == Tryz.pinned.checked.prog.liftsFinal) = true := by kernel_rfl
theorem closedSe : joinedFacts Tryz.pinned.checked.prog 7 Tryz.f7 (OpenSpec.ofChange Rows.analyseSeesAllSpec).bare Rows.analyseSeesAllRow = true := by
  unfold joinedFacts
  exact (and2 (and2 (and2 (and2 (and2 (and2 (and2 (and2 (and2 (and2 (and2 (and2 (and2 (and2 (and2 (and2 (and2 (and2 (and2 (and2 (and2 (and2 (and2 (and2 (and2 (and2 (and2 (and2 (and2 (and2 (and2 (by kernel_rfl) factSe1) factSe2) (by kernel_rfl)) (by kernel_rfl)) (by kernel_rfl)) (by kernel_rfl)) (by kernel_rfl)) (by kernel_rfl)) factSe9) factSe10) factSe11) factSe12) (by kernel_rfl)) (by kernel_rfl)) (by kernel_rfl)) (by kernel_rfl)) (by kernel_rfl)) (by kernel_rfl)) (by kernel_rfl)) (by kernel_rfl)) (by kernel_rfl)) factSe22) (by kernel_rfl)) factSe24) factSe25) factSe26) (by kernel_rfl)) (by kernel_rfl)) (by kernel_rfl)) (by kernel_rfl)) (by kernel_rfl))
theorem saidSe : Rows.AnalyseSeesAllSaid :=
  OpenClaim.holds_of_cond 7 Tryz.f7 rfl rfl rfl rfl rfl rfl rfl ⟨rfl, rfl, rfl, rfl, rfl⟩ rfl rfl rfl rfl rfl (by kernel_rfl) Tryz.func7 closedSe
    (of_decide_eq_true (by kernel_rfl)) (by unfold Func.isWrapper; first | (rw [if_pos (by decide +kernel)]; kernel_rfl) | (rw [if_neg (by decide +kernel)]; exact ⟨rfl, rfl⟩))
    (fun os started H enc _ F => by rw [OpenClaim.pre_eq_preRow]; exact liftedSe os started H enc F)
theorem plainSe (f : FuncId) (fn : Func) (hf : Tryz.pinned.checked.prog.funcNamed "weirgate/weirgatelaw24.AnalyseSeesAll" = some f) (hfn : Tryz.pinned.checked.prog.funcs[f]? = some fn) :
    false = Tryz.pinned.checked.prog.looks [] ∧ ∀ (j : Nat) t, fn.params[j]? = some t → Tryz.pinned.checked.prog.wantsStandIn t = false := by
  obtain rfl : f = 7 := Option.some.inj ((show Tryz.prog.funcNamed "weirgate/weirgatelaw24.AnalyseSeesAll" = some 7 by kernel_rfl).symm.trans hf) |>.symm
  obtain rfl : fn = Tryz.f7 := (Option.some.inj (Tryz.func7.symm.trans hfn)).symm
  refine ⟨by kernel_rfl, fun j t ht => ?_⟩
  rw [Tryz.params7] at ht
  have hall : ∀ t ∈ #[24, 9], Tryz.prog.wantsStandIn t = false := by
    intro t ht
    simp at ht
    rcases ht with rfl | rfl
    all_goals kernel_rfl
  exact hall t (Array.mem_of_getElem? ht)
theorem cardSe : Rows.AnalyseSeesAllCardSaid :=
  Claim7.holds_tied_plain_at .later [] _ _ _ _ saidSe (fun _ h => by cases h) (by kernel_rfl) (fun _ h => by cases h) analyseSeesAll_row_tie rfl ⟨rfl, rfl⟩ (by kernel_rfl) rfl plainSe (by kernel_rfl)
end Go.Proofs.YtjhlpkhfdghngaaGreatDoor
