/- IndexOrderDoesNotMatter, the tied card: for every input the law returns true, and the input reads as it did. -/
import Derived.Test.YtokfclikhfpmhaaGreatDoorRY0
namespace Go.Proofs.YtokfclikhfpmhaaGreatDoor
open Go.ChangeShapes Go.WideShapes Go.ChangeAt Go.RowKit Go.ChangeMaps
set_option linter.unusedVariables false
def argsIor : Array Value := #[.slice none 0 0, .agg #[.string ByteArray.empty, .string ByteArray.empty, .int .i64 0, .int .i64 0], .agg #[.string ByteArray.empty, .string ByteArray.empty, .int .i64 0, .int .i64 0]]
theorem laid_metIor (os : Os) : laidMet Tryz.prog Rows.indexOrderDoesNotMatterRow.laid ((laidWorld os).forCall (fun _ _ => 0) ⟨#[], argsIor, []⟩).memory :=
 laidMet_of_run' 8 (by kernel_rfl) (by kernel_rfl)
theorem readsIor (os : Os) {H : Type} (enc : TypeId × Value → H) : ∃ places, DataW.whole enc Tryz.prog ((laidWorld os).forCall (fun _ _ => 0) ⟨#[], argsIor, []⟩).memory Tryz.f6.params.toList Rows.indexOrderDoesNotMatterSpec.vars false argsIor.toList 8 = some ([.nil, .agg [.lit (.string []), .lit (.string []), .lit (.int .i64 0), .lit (.int .i64 0)], .agg [.lit (.string []), .lit (.string []), .lit (.int .i64 0), .lit (.int .i64 0)]], [], places) :=
 ⟨[], by kernel_rfl⟩
set_option maxRecDepth 100000 in
theorem contractIor (H : Type) (enc : TypeId × Value → H) (W : World) (base : Nat) (args : Array Value) (ds gs : List (DataW H)) (before : List MemPlace)
  (hval : ∀ (j : Nat) t v, Tryz.f6.params[j]? = some t → args[j]? = some v → Value.okWide Tryz.prog W .any base t v)
  (hW : DataW.Whole enc Tryz.prog Tryz.f6.params.toList Rows.indexOrderDoesNotMatterSpec.vars false W args.toList ds gs before) (hL : laidMetH Tryz.prog Rows.indexOrderDoesNotMatterRow.laid W) (hS : W.ShapedOpen Tryz.prog) :
  Calls Tryz.prog 6 args W fun e W' => ∃ v, e = .returned v ∧ Rows.indexOrderDoesNotMatterSpec.post enc Tryz.prog Tryz.f6 false true false false W args v W' := by
 have hL' : laidMet Tryz.prog Rows.indexOrderDoesNotMatterRow.laid W := hL
 have hW' := hW
 obtain ⟨p, q, hA0, hV, rfl, hfz, hnd⟩ := hW
 have hA : DataW.TrodAll enc Tryz.prog W 0 (fun _ => true) true Tryz.f6.params.toList args.toList ds p := hA0
 rw [Tryz.params6] at hA hval
 obtain ⟨v0, vs0, d0, ds0, p0, q0, hargs, rfl, rfl, h0, r0⟩ := trodAll_cons hA
 obtain ⟨v1, vs1, d1, ds1, p1, q1, rfl, rfl, rfl, h1, r1⟩ := trodAll_cons r0
 obtain ⟨v2, vs2, d2, ds2, p2, q2, rfl, rfl, rfl, h2, r2⟩ := trodAll_cons r1
 obtain ⟨rfl, rfl, rfl⟩ := trodAll_nil r2
 obtain rfl : args = #[v0, v1, v2] := by cases args; simp_all
 obtain ⟨A0, n0, c0, L0, rfl, z0, zn0⟩ := open_ops (hval 0 22 v0 rfl rfl) h0
 obtain ⟨x1, rfl⟩ := open_item (hval 1 41 v1 rfl rfl) h1
 obtain ⟨x2, rfl⟩ := open_item (hval 2 41 v2 rfl rfl) h2
 obtain ⟨rfl, rfl⟩ := trodVars_none hV
 refine (lawOrder15 A0 n0 c0 L0 x1 x2 W z0 zn0   (env_of hS) (tab_of hL')).mono fun e W' ⟨he, hb⟩ => ?_
 subst he
 exact ⟨_, rfl, law_post (t := 4) hW' rfl laidOut (by kernel_rfl) (by kernel_rfl) Tryz.underlying4 rfl hb⟩
set_option maxRecDepth 100000 in
theorem liftedIor (os : Os) (started : os.Started) (H : Type) (enc : TypeId × Value → H) (F : Stop.Interp) :
  ReturnsInHanded {} Tryz.checked os 6 .any ((OpenSpec.ofChange Rows.indexOrderDoesNotMatterSpec).preRow enc Tryz.prog Tryz.f6 Rows.indexOrderDoesNotMatterRow.domain false Rows.indexOrderDoesNotMatterRow.laid) (((OpenSpec.ofChange Rows.indexOrderDoesNotMatterSpec).at F).post enc Tryz.prog Tryz.f6 false true false false) := by
 obtain ⟨places, hx⟩ := readsIor os enc
 refine returnsInHanded_of_row (C := Tryz.checked) (s := OpenSpec.ofChange Rows.indexOrderDoesNotMatterSpec) own started (by kernel_rfl) Tryz.func6
  (witness_row_at (enc := enc) (C := Tryz.checked) false (laidWorld os) argsIor rfl (by kernel_rfl) (by kernel_rfl) (by kernel_rfl)
   (OpenSpec.preRow_of_cond 8 hx (by kernel_rfl) (fun k hk => by cases hk) (by kernel_rfl) (laid_metIor os))) ?_
 intro W base args ds gs before hval hW _ _ _ hL hS _
 exact contractIor H enc W base args ds gs before hval hW hL hS
theorem and2 {a b : Bool} (h : a = true) (k : b = true) : (a && b) = true := by rw [h, k]; rfl
theorem factIor1 : laidOutB Tryz.pinned.checked.prog = true := by kernel_rfl
theorem factIor2 : mapsRowed Tryz.pinned.checked.prog = true := by kernel_rfl
theorem factIor9 : (Rows.indexOrderDoesNotMatterRow.inPlace == Tryz.pinned.checked.prog.inPlace 6) = true := by kernel_rfl
theorem factIor10 : (Rows.indexOrderDoesNotMatterRow.unfollowed == Tryz.pinned.checked.prog.unfollowed 6) = true := by kernel_rfl
theorem factIor11 : (Rows.indexOrderDoesNotMatterRow.recurses == Tryz.pinned.checked.prog.recurses 6) = true := by kernel_rfl
theorem factIor12 : (Rows.indexOrderDoesNotMatterRow.named == Tryz.pinned.checked.prog.varsNamed 6) = true := by kernel_rfl
theorem factIor22 : (Rows.indexOrderDoesNotMatterRow.plainKeys == Tryz.pinned.checked.prog.plainKeys) = true := by kernel_rfl
theorem factIor24 : Tryz.pinned.checked.prog.stopsHeard = true := by kernel_rfl
theorem factIor25 : Tryz.pinned.checked.prog.mayEnter = true := by kernel_rfl
theorem factIor26 : (Rows.indexOrderDoesNotMatterRow.lifted == Tryz.pinned.checked.prog.liftsFinal) = true := by kernel_rfl
theorem closedIor : joinedFacts Tryz.pinned.checked.prog 6 Tryz.f6 (OpenSpec.ofChange Rows.indexOrderDoesNotMatterSpec).bare Rows.indexOrderDoesNotMatterRow = true := by
 unfold joinedFacts
 exact (and2 (and2 (and2 (and2 (and2 (and2 (and2 (and2 (and2 (and2 (and2 (and2 (and2 (and2 (and2 (and2 (and2 (and2 (and2 (and2 (and2 (and2 (and2 (and2 (and2 (and2 (and2 (and2 (and2 (and2 (and2 (by kernel_rfl) factIor1) factIor2) (by kernel_rfl)) (by kernel_rfl)) (by kernel_rfl)) (by kernel_rfl)) (by kernel_rfl)) (by kernel_rfl)) factIor9) factIor10) factIor11) factIor12) (by kernel_rfl)) (by kernel_rfl)) (by kernel_rfl)) (by kernel_rfl)) (by kernel_rfl)) (by kernel_rfl)) (by kernel_rfl)) (by kernel_rfl)) (by kernel_rfl)) factIor22) (by kernel_rfl)) factIor24) factIor25) factIor26) (by kernel_rfl)) (by kernel_rfl)) (by kernel_rfl)) (by kernel_rfl)) (by kernel_rfl))
theorem saidIor : Rows.IndexOrderDoesNotMatterSaid :=
 OpenClaim.holds_of_cond 6 Tryz.f6 rfl rfl rfl rfl rfl rfl rfl ⟨rfl, rfl, rfl, rfl, rfl⟩ rfl rfl rfl rfl rfl (by kernel_rfl) Tryz.func6 closedIor
  (of_decide_eq_true (by kernel_rfl)) (by unfold Func.isWrapper; first | (rw [if_pos (by decide +kernel)]; kernel_rfl) | (rw [if_neg (by decide +kernel)]; exact ⟨rfl, rfl⟩))
  (fun os started H enc _ F => by rw [OpenClaim.pre_eq_preRow]; exact liftedIor os started H enc F)
theorem plainIor (f : FuncId) (fn : Func) (hf : Tryz.pinned.checked.prog.funcNamed "weirgate/weirgatelaw15.IndexOrderDoesNotMatter" = some f) (hfn : Tryz.pinned.checked.prog.funcs[f]? = some fn) :
  false = Tryz.pinned.checked.prog.looks [] ∧ ∀ (j : Nat) t, fn.params[j]? = some t → Tryz.pinned.checked.prog.wantsStandIn t = false := by
 obtain rfl : f = 6 := Option.some.inj ((show Tryz.prog.funcNamed "weirgate/weirgatelaw15.IndexOrderDoesNotMatter" = some 6 by kernel_rfl).symm.trans hf) |>.symm
 obtain rfl : fn = Tryz.f6 := (Option.some.inj (Tryz.func6.symm.trans hfn)).symm
 refine ⟨by kernel_rfl, fun j t ht => ?_⟩
 rw [Tryz.params6] at ht
 have hall : ∀ t ∈ #[22, 41, 41], Tryz.prog.wantsStandIn t = false := by
  intro t ht
  simp at ht
  rcases ht with rfl | rfl | rfl
  all_goals kernel_rfl
 exact hall t (Array.mem_of_getElem? ht)
theorem cardIor : Rows.IndexOrderDoesNotMatterCardSaid :=
 Claim7.holds_tied_plain_at .later [] _ _ _ _ saidIor (fun _ h => by cases h) (by kernel_rfl) (fun _ h => by cases h) indexOrderDoesNotMatter_row_tie rfl ⟨rfl, rfl⟩ (by kernel_rfl) rfl plainIor (by kernel_rfl)
end Go.Proofs.YtokfclikhfpmhaaGreatDoor
