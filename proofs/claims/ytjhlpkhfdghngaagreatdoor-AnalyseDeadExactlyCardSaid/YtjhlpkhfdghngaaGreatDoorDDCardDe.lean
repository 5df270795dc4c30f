/- AnalyseDeadExactly, the tied card: for every input the law returns true, and the input reads as it did. -/
import Derived.Test.YtjhlpkhfdghngaaGreatDoorDDY3
namespace Go.Proofs.YtjhlpkhfdghngaaGreatDoor
open Go.ChangeShapes Go.WideShapes Go.ChangeAt Go.RowKit Go.ChangeMaps
set_option linter.unusedVariables false
def argsDe : Array Value := #[.slice none 0 0, .int .u8 0, .agg #[.string ByteArray.empty, .string ByteArray.empty, .string ByteArray.empty, .int .i64 0, .int .i64 0, .int .i64 0]]
theorem laid_metDe (os : Os) : laidMet Tryz.prog Rows.analyseDeadExactlyRow.laid ((laidWorld os).forCall (fun _ _ => 0) ⟨#[], argsDe, []⟩).memory :=
 laidMet_of_run' 8 (by kernel_rfl) (by kernel_rfl)
theorem readsDe (os : Os) {H : Type} (enc : TypeId × Value → H) : ∃ places, DataW.whole enc Tryz.prog ((laidWorld os).forCall (fun _ _ => 0) ⟨#[], argsDe, []⟩).memory Tryz.f6.params.toList Rows.analyseDeadExactlySpec.vars false argsDe.toList 8 = some ([.nil, .lit (.int .u8 0), .agg [.lit (.string []), .lit (.string []), .lit (.string []), .lit (.int .i64 0), .agg [.lit (.int .i64 0), .lit (.int .i64 0)]]], [], places) :=
 ⟨[], by kernel_rfl⟩
set_option maxRecDepth 100000 in
theorem contractDe (H : Type) (enc : TypeId × Value → H) (W : World) (base : Nat) (args : Array Value) (ds gs : List (DataW H)) (before : List MemPlace)
  (hval : ∀ (j : Nat) t v, Tryz.f6.params[j]? = some t → args[j]? = some v → Value.okWide Tryz.prog W .any base t v)
  (hW : DataW.Whole enc Tryz.prog Tryz.f6.params.toList Rows.analyseDeadExactlySpec.vars false W args.toList ds gs before) (hL : laidMetH Tryz.prog Rows.analyseDeadExactlyRow.laid W) (hS : W.ShapedOpen Tryz.prog) :
  Calls Tryz.prog 6 args W fun e W' => ∃ v, e = .returned v ∧ Rows.analyseDeadExactlySpec.post enc Tryz.prog Tryz.f6 false true false false W args v W' := by
 have hL' : laidMet Tryz.prog Rows.analyseDeadExactlyRow.laid W := hL
 have hW' := hW
 obtain ⟨p, q, hA0, hV, rfl, hfz, hnd⟩ := hW
 have hA : DataW.TrodAll enc Tryz.prog W 0 (fun _ => true) true Tryz.f6.params.toList args.toList ds p := hA0
 rw [Tryz.params6] at hA hval
 obtain ⟨v0, vs0, d0, ds0, p0, q0, hargs, rfl, rfl, h0, r0⟩ := trodAll_cons hA
 obtain ⟨v1, vs1, d1, ds1, p1, q1, rfl, rfl, rfl, h1, r1⟩ := trodAll_cons r0
 obtain ⟨v2, vs2, d2, ds2, p2, q2, rfl, rfl, rfl, h2, r2⟩ := trodAll_cons r1
 obtain ⟨rfl, rfl, rfl⟩ := trodAll_nil r2
 obtain rfl : args = #[v0, v1, v2] := by cases args; simp_all
 obtain ⟨A0, n0, c0, L0, rfl, z0, zn0, zc0, zd0⟩ := open_rulesC (hval 0 22 v0 rfl rfl) h0
 obtain ⟨k1, rfl, _, kw1⟩ := open_int Tryz.underlying5 (hval 1 5 v1 rfl rfl) h1
 obtain ⟨q2, rfl⟩ := open_ask (hval 2 55 v2 rfl rfl) h2
 obtain ⟨rfl, rfl⟩ := trodVars_none hV
 refine (lawDead A0 n0 c0 L0 k1  q2 W z0 zn0 zc0 zd0 (u8_range kw1.2).1 (u8_range kw1.2).2  (env_of hS) (tab_of hL')).mono fun e W' ⟨he, hb⟩ => ?_
 subst he
 exact ⟨_, rfl, law_post (t := 4) hW' rfl laidOut (by kernel_rfl) (by kernel_rfl) Tryz.underlying4 rfl hb⟩
set_option maxRecDepth 100000 in
theorem liftedDe (os : Os) (started : os.Started) (H : Type) (enc : TypeId × Value → H) (F : Stop.Interp) :
  ReturnsInHanded {} Tryz.checked os 6 .any ((OpenSpec.ofChange Rows.analyseDeadExactlySpec).preRow enc Tryz.prog Tryz.f6 Rows.analyseDeadExactlyRow.domain false Rows.analyseDeadExactlyRow.laid) (((OpenSpec.ofChange Rows.analyseDeadExactlySpec).at F).post enc Tryz.prog Tryz.f6 false true false false) := by
 obtain ⟨places, hx⟩ := readsDe os enc
 refine returnsInHanded_of_row (C := Tryz.checked) (s := OpenSpec.ofChange Rows.analyseDeadExactlySpec) own started (by kernel_rfl) Tryz.func6
  (witness_row_at (enc := enc) (C := Tryz.checked) false (laidWorld os) argsDe rfl (by kernel_rfl) (by kernel_rfl) (by kernel_rfl)
   (OpenSpec.preRow_of_cond 8 hx (by kernel_rfl) (fun k hk => by cases hk) (by kernel_rfl) (laid_metDe os))) ?_
 intro W base args ds gs before hval hW _ _ _ hL hS _
 exact contractDe H enc W base args ds gs before hval hW hL hS
theorem and2 {a b : Bool} (h : a = true) (k : b = true) : (a && b) = true := by rw [h, k]; rfl
theorem factDe1 : laidOutB Tryz.pinned.checked.prog = true := by kernel_rfl
theorem factDe2 : mapsRowed Tryz.pinned.checked.prog = true := by kernel_rfl
theorem factDe9 : (Rows.analyseDeadExactlyRow.inPlace == Tryz.pinned.checked.prog.inPlace 6) = true := by kernel_rfl
theorem factDe10 : (Rows.analyseDeadExactlyRow.unfollowed == Tryz.pinned.checked.prog.unfollowed 6) = true := by kernel_rfl
theorem factDe11 : (Rows.analyseDeadExactlyRow.recurses == Tryz.pinned.checked.prog.recurses 6) = true := by kernel_rfl
theorem factDe12 : (Rows.analyseDeadExactlyRow.named == Tryz.pinned.checked.prog.varsNamed 6) = true := by kernel_rfl
theorem factDe22 : (Rows.analyseDeadExactlyRow.plainKeys == Tryz.pinned.checked.prog.plainKeys) = true := by kernel_rfl
theorem factDe24 : Tryz.pinned.checked.prog.stopsHeard = true := by kernel_rfl
theorem factDe25 : Tryz.pinned.checked.prog.mayEnter = true := by kernel_rfl
theorem factDe26 : (Rows.analyseDeadExactlyRow.lifted == Tryz.pinned.checked.prog.liftsFinal) = true := by kernel_rfl
theorem closedDe : joinedFacts Tryz.pinned.checked.prog 6 Tryz.f6 (OpenSpec.ofChange Rows.analyseDeadExactlySpec).bare Rows.analyseDeadExactlyRow = true := by
 unfold joinedFacts
 exact (and2 (and2 (and2 (and2 (and2 (and2 (and2 (and2 (and2 (and2 (and2 (and2 (and2 (and2 (and2 (and2 (and2 (and2 (and2 (and2 (and2 (and2 (and2 (and2 (and2 (and2 (and2 (and2 (and2 (and2 (and2 (by kernel_rfl) factDe1) factDe2) (by kernel_rfl)) (by kernel_rfl)) (by kernel_rfl)) (by kernel_rfl)) (by kernel_rfl)) (by kernel_rfl)) factDe9) factDe10) factDe11) factDe12) (by kernel_rfl)) (by kernel_rfl)) (by kernel_rfl)) (by kernel_rfl)) (by kernel_rfl)) (by kernel_rfl)) (by kernel_rfl)) (by kernel_rfl)) (by kernel_rfl)) factDe22) (by kernel_rfl)) factDe24) factDe25) factDe26) (by kernel_rfl)) (by kernel_rfl)) (by kernel_rfl)) (by kernel_rfl)) (by kernel_rfl))
theorem saidDe : Rows.AnalyseDeadExactlySaid :=
 OpenClaim.holds_of_cond 6 Tryz.f6 rfl rfl rfl rfl rfl rfl rfl ⟨rfl, rfl, rfl, rfl, rfl⟩ rfl rfl rfl rfl rfl (by kernel_rfl) Tryz.func6 closedDe
  (of_decide_eq_true (by kernel_rfl)) (by unfold Func.isWrapper; first | (rw [if_pos (by decide +kernel)]; kernel_rfl) | (rw [if_neg (by decide +kernel)]; exact ⟨rfl, rfl⟩))
  (fun os started H enc _ F => by rw [OpenClaim.pre_eq_preRow]; exact liftedDe os started H enc F)
theorem plainDe (f : FuncId) (fn : Func) (hf : Tryz.pinned.checked.prog.funcNamed "weirgate/weirgatelaw24.AnalyseDeadExactly" = some f) (hfn : Tryz.pinned.checked.prog.funcs[f]? = some fn) :
  false = Tryz.pinned.checked.prog.looks [] ∧ ∀ (j : Nat) t, fn.params[j]? = some t → Tryz.pinned.checked.prog.wantsStandIn t = false := by
 obtain rfl : f = 6 := Option.some.inj ((show Tryz.prog.funcNamed "weirgate/weirgatelaw24.AnalyseDeadExactly" = some 6 by kernel_rfl).symm.trans hf) |>.symm
 obtain rfl : fn = Tryz.f6 := (Option.some.inj (Tryz.func6.symm.trans hfn)).symm
 refine ⟨by kernel_rfl, fun j t ht => ?_⟩
 rw [Tryz.params6] at ht
 have hall : ∀ t ∈ #[22, 5, 55], Tryz.prog.wantsStandIn t = false := by
  intro t ht
  simp at ht
  rcases ht with rfl | rfl | rfl
  all_goals kernel_rfl
 exact hall t (Array.mem_of_getElem? ht)
theorem cardDe : Rows.AnalyseDeadExactlyCardSaid :=
 Claim7.holds_tied_plain_at .later [] _ _ _ _ saidDe (fun _ h => by cases h) (by kernel_rfl) (fun _ h => by cases h) analyseDeadExactly_row_tie rfl ⟨rfl, rfl⟩ (by kernel_rfl) rfl plainDe (by kernel_rfl)
end Go.Proofs.YtjhlpkhfdghngaaGreatDoor
