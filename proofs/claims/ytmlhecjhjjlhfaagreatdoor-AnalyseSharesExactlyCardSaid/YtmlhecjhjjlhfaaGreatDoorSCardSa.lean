/- AnalyseSharesExactly, the tied card: for every input the law returns true, and the input reads as it did. -/
import Derived.Test.YtmlhecjhjjlhfaaGreatDoorSZ48
import Derived.Test.YtmlhecjhjjlhfaaGreatDoorSZ21
import Derived.Test.YtmlhecjhjjlhfaaGreatDoorSZ39
namespace Go.Proofs.YtmlhecjhjjlhfaaGreatDoor
open Go.ChangeShapes Go.WideShapes Go.ChangeAt Go.RowKit Go.ChangeMaps
set_option linter.unusedVariables false
def argsSa : Array Value := #[.slice none 0 0, .int .u8 0, .int .u8 0, .string ByteArray.empty, .slice none 0 0, .slice none 0 0]
theorem laid_metSa (os : Os) : laidMet Tryz.prog Rows.analyseSharesExactlyRow.laid ((laidWorld os).forCall (fun _ _ => 0) ⟨#[], argsSa, []⟩).memory :=
  laidMet_of_run' 8 (by kernel_rfl) (by kernel_rfl)
theorem readsSa (os : Os) {H : Type} (enc : TypeId × Value → H) : ∃ places, DataW.whole enc Tryz.prog ((laidWorld os).forCall (fun _ _ => 0) ⟨#[], argsSa, []⟩).memory Tryz.f3.params.toList Rows.analyseSharesExactlySpec.vars false argsSa.toList 8 = some ([.nil, .lit (.int .u8 0), .lit (.int .u8 0), .lit (.string []), .nil, .nil], [], places) :=
  ⟨[], by kernel_rfl⟩
set_option maxRecDepth 100000 in
theorem contractSa (H : Type) (enc : TypeId × Value → H) (W : World) (base : Nat) (args : Array Value) (ds gs : List (DataW H)) (before : List MemPlace)
    (hval : ∀ (j : Nat) t v, Tryz.f3.params[j]? = some t → args[j]? = some v → Value.okWide Tryz.prog W .any base t v)
    (hW : DataW.Whole enc Tryz.prog Tryz.f3.params.toList Rows.analyseSharesExactlySpec.vars false W args.toList ds gs before) (hL : laidMetH Tryz.prog Rows.analyseSharesExactlyRow.laid W) (hS : W.ShapedOpen Tryz.prog) :
    Calls Tryz.prog 3 args W fun e W' => ∃ v, e = .returned v ∧ Rows.analyseSharesExactlySpec.post enc Tryz.prog Tryz.f3 false true false false W args v W' := by
  have hL' : laidMet Tryz.prog Rows.analyseSharesExactlyRow.laid W := hL
  have hW' := hW
  obtain ⟨p, q, hA0, hV, rfl, hfz, hnd⟩ := hW
  have hA : DataW.TrodAll enc Tryz.prog W 0 (fun _ => true) true Tryz.f3.params.toList args.toList ds p := hA0
  rw [Tryz.params3] at hA hval
  obtain ⟨v0, vs0, d0, ds0, p0, q0, hargs, rfl, rfl, h0, r0⟩ := trodAll_cons hA
  obtain ⟨v1, vs1, d1, ds1, p1, q1, rfl, rfl, rfl, h1, r1⟩ := trodAll_cons r0
  obtain ⟨v2, vs2, d2, ds2, p2, q2, rfl, rfl, rfl, h2, r2⟩ := trodAll_cons r1
  obtain ⟨v3, vs3, d3, ds3, p3, q3, rfl, rfl, rfl, h3, r3⟩ := trodAll_cons r2
  obtain ⟨v4, vs4, d4, ds4, p4, q4, rfl, rfl, rfl, h4, r4⟩ := trodAll_cons r3
  obtain ⟨v5, vs5, d5, ds5, p5, q5, rfl, rfl, rfl, h5, r5⟩ := trodAll_cons r4
  obtain ⟨rfl, rfl, rfl⟩ := trodAll_nil r5
  obtain rfl : args = #[v0, v1, v2, v3, v4, v5] := by cases args; simp_all
  obtain ⟨A0, n0, c0, L0, rfl, z0, zn0, zc0, zd0⟩ := open_rulesC (hval 0 22 v0 rfl rfl) h0
  obtain ⟨k1, rfl, _, kw1⟩ := open_int Tryz.underlying5 (hval 1 5 v1 rfl rfl) h1
  obtain ⟨k2, rfl, _, kw2⟩ := open_int Tryz.underlying5 (hval 2 5 v2 rfl rfl) h2
  obtain ⟨s3, rfl, rfl, -, z3⟩ := open_string Tryz.underlying9 (hval 3 9 v3 rfl rfl) h3
  obtain ⟨A4, n4, c4, L4, rfl, z4, zn4⟩ := open_hdrs (hval 4 23 v4 rfl rfl) h4
  obtain ⟨A5, n5, c5, L5, rfl, z5, zn5⟩ := open_hdrs (hval 5 23 v5 rfl rfl) h5
  obtain ⟨rfl, rfl⟩ := trodVars_none hV
  refine (lawShares A0 n0 c0 L0 k1 k2 s3 A4 n4 c4 L4 A5 n5 c5 L5 W z0 zn0 zc0 zd0 (u8_range kw1.2).1 (u8_range kw1.2).2 (u8_range kw2.2).1 (u8_range kw2.2).2  z4 zn4 z5 zn5 (env_of hS) (tab_of hL')).mono fun e W' ⟨he, hb⟩ => ?_
  subst he
  exact ⟨_, rfl, law_post (t := 4) hW' rfl laidOut (by kernel_rfl) (by kernel_rfl) Tryz.underlying4 rfl hb⟩
set_option maxRecDepth 100000 in
theorem liftedSa (os : Os) (started : os.Started) (H : Type) (enc : TypeId × Value → H) (F : Stop.Interp) :
    ReturnsInHanded {} Tryz.checked os 3 .any ((OpenSpec.ofChange Rows.analyseSharesExactlySpec).preRow enc Tryz.prog Tryz.f3 Rows.analyseSharesExactlyRow.domain false Rows.analyseSharesExactlyRow.laid) (((OpenSpec.ofChange Rows.analyseSharesExactlySpec).at F).post enc Tryz.prog Tryz.f3 false true false false) := by
  obtain ⟨places, hx⟩ := readsSa os enc
  refine returnsInHanded_of_row (C := Tryz.checked) (s := OpenSpec.ofChange Rows.analyseSharesExactlySpec) own started (by kernel_rfl) Tryz.func3
    (witness_row_at (enc := enc) (C := Tryz.checked) false (laidWorld os) argsSa rfl (by kernel_rfl) (by kernel_rfl) (by kernel_rfl)
      (OpenSpec.preRow_of_cond 8 hx (by kernel_rfl) (fun k hk => by cases hk) (by kernel_rfl) (laid_metSa os))) ?_
  intro W base args ds gs before hval hW _ _ _ hL hS _
  exact contractSa H enc W base args ds gs before hval hW hL hS
theorem and2 {a b : Bool} (h : a = true) (k : b = true) : (a && b) = true := by rw [h, k]; rfl
theorem factSa1 : laidOutB Tryz.pinned.checked.prog = true := by kernel_rfl
theorem factSa2 : mapsRowed Tryz.pinned.checked.prog = true := by kernel_rfl
theorem factSa9 : (Rows.analyseSharesExactlyRow.inPlace == Tryz.pinned.checked.prog.inPlace 3) = true := by kernel_rfl
theorem factSa10 : (Rows.analyseSharesExactlyRow.unfollowed == Tryz.pinned.checked.prog.unfollowed 3) = true := by kernel_rfl
theorem factSa11 : (Rows.analyseSharesExactlyRow.recurses == Tryz.pinned.checked.prog.recurses 3) = true := by kernel_rfl
theorem factSa12 : (Rows.analyseSharesExactlyRow.named == Tryz.pinned.checked.prog.varsNamed 3) = true := by kernel_rfl
theorem factSa22 : (Rows.analyseSharesExactlyRow.plainKeys == Tryz.pinned.checked.prog.plainKeys) = true := by kernel_rfl
theorem factSa24 : Tryz.pinned.checked.prog.stopsHeard = true := by kernel_rfl
theorem factSa25 : Tryz.pinned.checked.prog.mayEnter = true := by kernel_rfl
theorem factSa26 : (Rows.analyseSharesExactlyRow.lifted == Tryz.pinned.checked.prog.liftsFinal) = true := by kernel_rfl
theorem closedSa : joinedFacts Tryz.pinned.checked.prog 3 Tryz.f3 (OpenSpec.ofChange Rows.analyseSharesExactlySpec).bare Rows.analyseSharesExactlyRow = true := by
  unfold joinedFacts
  exact (and2 (and2 (and2 (and2 (and2 (and2 (and2 (and2 (and2 (and2 (and2 (and2 (and2 (and2 (and2 (and2 (and2 (and2 (and2 (and2 (and2 (and2 (and2 (and2 (and2 (and2 (and2 (and2 (and2 (and2 (and2 (by kernel_rfl) factSa1) factSa2) (by kernel_rfl)) (by kernel_rfl)) (by kernel_rfl)) (by kernel_rfl)) (by kernel_rfl)) (by kernel_rfl)) factSa9) factSa10) factSa11) factSa12) (by kernel_rfl)) (by kernel_rfl)) (by kernel_rfl)) (by kernel_rfl)) (by kernel_rfl)) (by kernel_rfl)) (by kernel_rfl)) (by kernel_rfl)) (by kernel_rfl)) factSa22) (by kernel_rfl)) factSa24) factSa25) factSa26) (by kernel_rfl)) (by kernel_rfl)) (by kernel_rfl)) (by kernel_rfl)) (by kernel_rfl))
theorem saidSa : Rows.AnalyseSharesExactlySaid :=
  OpenClaim.holds_of_cond 3 Tryz.f3 rfl rfl rfl rfl rfl rfl rfl ⟨rfl, rfl, rfl, rfl, rfl⟩ rfl rfl rfl rfl rfl (by kernel_rfl) Tryz.func3 closedSa
    (of_decide_eq_true (by kernel_rfl)) (by unfold Func.isWrapper; first | (rw [if_pos (by decide +kernel)]; kernel_rfl) | (rw [if_neg (by decide +kernel)]; exact ⟨rfl, rfl⟩))
    (fun os started H enc _ F => by rw [OpenClaim.pre_eq_preRow]; exact liftedSa os started H enc F)
theorem plainSa (f : FuncId) (fn : Func) (hf : Tryz.pinned.checked.prog.funcNamed "weirgate/weirgatelaw24.AnalyseSharesExactly" = some f) (hfn : Tryz.pinned.checked.prog.funcs[f]? = some fn) :
    false = Tryz.pinned.checked.prog.looks [] ∧ ∀ (j : Nat) t, fn.params[j]? = some t → Tryz.pinned.checked.prog.wantsStandIn t = false := by
  obtain rfl : f = 3 := Option.some.inj ((show Tryz.prog.funcNamed "weirgate/weirgatelaw24.AnalyseSharesExactly" = some 3 by kernel_rfl).symm.trans hf) |>.symm
  obtain rfl : fn = Tryz.f3 := (Option.some.inj (Tryz.func3.symm.trans hfn)).symm
  refine ⟨by kernel_rfl, fun j t ht => ?_⟩
  rw [Tryz.params3] at ht
  have hall : ∀ t ∈ #[22, 5, 5, 9, 23, 23], Tryz.prog.wantsStandIn t = false := by
    intro t ht
    simp at ht
    rcases ht with rfl | rfl | rfl | rfl | rfl | rfl
    all_goals kernel_rfl
  exact hall t (Array.mem_of_getElem? ht)
theorem cardSa : Rows.AnalyseSharesExactlyCardSaid :=
  Claim7.holds_tied_plain_at .later [] _ _ _ _ saidSa (fun _ h => by cases h) (by kernel_rfl) (fun _ h => by cases h) analyseSharesExactly_row_tie rfl ⟨rfl, rfl⟩ (by kernel_rfl) rfl plainSa (by kernel_rfl)
end Go.Proofs.YtmlhecjhjjlhfaaGreatDoor
