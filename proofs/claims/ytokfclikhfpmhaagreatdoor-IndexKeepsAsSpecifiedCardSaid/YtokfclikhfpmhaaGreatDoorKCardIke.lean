/- IndexKeepsAsSpecified, the tied card: for every input the law returns true, and the input reads as it did. -/
import Derived.Test.YtokfclikhfpmhaaGreatDoorKY0
namespace Go.Proofs.YtokfclikhfpmhaaGreatDoor
open Go.ChangeShapes Go.WideShapes Go.ChangeAt Go.RowKit Go.ChangeMaps
set_option linter.unusedVariables false
def argsIke : Array Value := #[.slice none 0 0, .string ByteArray.empty, .int .i64 0]
theorem laid_metIke (os : Os) : laidMet Tryz.prog Rows.indexKeepsAsSpecifiedRow.laid ((laidWorld os).forCall (fun _ _ => 0) ⟨#[], argsIke, []⟩).memory :=
 laidMet_of_run' 8 (by kernel_rfl) (by kernel_rfl)
theorem readsIke (os : Os) {H : Type} (enc : TypeId × Value → H) : ∃ places, DataW.whole enc Tryz.prog ((laidWorld os).forCall (fun _ _ => 0) ⟨#[], argsIke, []⟩).memory Tryz.f7.params.toList Rows.indexKeepsAsSpecifiedSpec.vars false argsIke.toList 8 = some ([.nil, .lit (.string []), .lit (.int .i64 0)], [], places) :=
 ⟨[], by kernel_rfl⟩
set_option maxRecDepth 100000 in
theorem contractIke (H : Type) (enc : TypeId × Value → H) (W : World) (base : Nat) (args : Array Value) (ds gs : List (DataW H)) (before : List MemPlace)
  (hval : ∀ (j : Nat) t v, Tryz.f7.params[j]? = some t → args[j]? = some v → Value.okWide Tryz.prog W .any base t v)
  (hW : DataW.Whole enc Tryz.prog Tryz.f7.params.toList Rows.indexKeepsAsSpecifiedSpec.vars false W args.toList ds gs before) (hL : laidMetH Tryz.prog Rows.indexKeepsAsSpecifiedRow.laid W) (hS : W.ShapedOpen Tryz.prog) :
  Calls Tryz.prog 7 args W fun e W' => ∃ v, e = .returned v ∧ Rows.indexKeepsAsSpecifiedSpec.post enc Tryz.prog Tryz.f7 false true false false W args v W' := by
 have hL' : laidMet Tryz.prog Rows.indexKeepsAsSpecifiedRow.laid W := hL
 have hW' := hW
 obtain ⟨p, q, hA0, hV, rfl, hfz, hnd⟩ := hW
 have hA : DataW.TrodAll enc Tryz.prog W 0 (fun _ => true) true Tryz.f7.params.toList args.toList ds p := hA0
 rw [Tryz.params7] at hA hval
 obtain ⟨v0, vs0, d0, ds0, p0, q0, hargs, rfl, rfl, h0, r0⟩ := trodAll_cons hA
 obtain ⟨v1, vs1, d1, ds1, p1, q1, rfl, rfl, rfl, h1, r1⟩ := trodAll_cons r0
 obtain ⟨v2, vs2, d2, ds2, p2, q2, rfl, rfl, rfl, h2, r2⟩ := trodAll_cons r1
 obtain ⟨rfl, rfl, rfl⟩ := trodAll_nil r2
 obtain rfl : args = #[v0, v1, v2] := by cases args; simp_all
 obtain ⟨A0, n0, c0, L0, rfl, z0, zn0⟩ := open_ops (hval 0 22 v0 rfl rfl) h0
 obtain ⟨s1, rfl, rfl, -, z1⟩ := open_string Tryz.underlying9 (hval 1 9 v1 rfl rfl) h1
 obtain ⟨k2, rfl, _, kw2⟩ := open_int Tryz.underlying3 (hval 2 3 v2 rfl rfl) h2
 obtain ⟨rfl, rfl⟩ := trodVars_none hV
 refine (lawKeeps15 A0 n0 c0 L0 s1 k2 W z0 zn0   (env_of hS) (tab_of hL')).mono fun e W' ⟨he, hb⟩ => ?_
 subst he
 exact ⟨_, rfl, law_post (t := 4) hW' rfl laidOut (by kernel_rfl) (by kernel_rfl) Tryz.underlying4 rfl hb⟩
set_option maxRecDepth 100000 in
theorem liftedIke (os : Os) (started : os.Started) (H : Type) (enc : TypeId × Value → H) (F : Stop.Interp) :
  ReturnsInHanded {} Tryz.checked os 7 .any ((OpenSpec.ofChange Rows.indexKeepsAsSpecifiedSpec).preRow enc Tryz.prog Tryz.f7 Rows.indexKeepsAsSpecifiedRow.domain false Rows.indexKeepsAsSpecifiedRow.laid) (((OpenSpec.ofChange Rows.indexKeepsAsSpecifiedSpec).at F).post enc Tryz.prog Tryz.f7 false true false false) := by
 obtain ⟨places, hx⟩ := readsIke os enc
 refine returnsInHanded_of_row (C := Tryz.checked) (s := OpenSpec.ofChange Rows.indexKeepsAsSpecifiedSpec) own started (by kernel_rfl) Tryz.func7
  (witness_row_at (enc := enc) (C := Tryz.checked) false (laidWorld os) argsIke rfl (by kernel_rfl) (by kernel_rfl) (by kernel_rfl)
   (OpenSpec.preRow_of_cond 8 hx (by kernel_rfl) (fun k hk => by cases hk) (by kernel_rfl) (laid_metIke os))) ?_
 intro W base args ds gs before hval hW _ _ _ hL hS _
 exact contractIke H enc W base args ds gs before hval hW hL hS
theorem and2 {a b : Bool} (h : a = true) (k : b = true) : (a && b) = true := by rw [h, k]; rfl
theorem factIke1 : laidOutB Tryz.pinned.checked.prog = true := by kernel_rfl
theorem factIke2 : mapsRowed Tryz.pinned.checked.prog = true := by kernel_rfl
theorem factIke9 : (Rows.indexKeepsAsSpecifiedRow.inPlace == Tryz.pinned.checked.prog.inPlace 7) = true := by kernel_rfl
theorem factIke10 : (Rows.indexKeepsAsSpecifiedRow.unfollowed == Tryz.pinned.checked.prog.unfollowed 7) = true := by kernel_rfl
theorem factIke11 : (Rows.indexKeepsAsSpecifiedRow.recurses == Tryz.pinned.checked.prog.recurses 7) = true := by kernel_rfl
theorem factIke12 : (Rows.indexKeepsAsSpecifiedRow.named == Tryz.pinned.checked.prog.varsNamed 7) = true := by kernel_rfl
theorem factIke22 : (Rows.indexKeepsAsSpecifiedRow.plainKeys == Tryz.pinned.checked.prog.plainKeys) = true := by kernel_rfl
theorem factIke24 : Tryz.pinned.checked.prog.stopsHeard = true := by kernel_rfl
theorem factIke25 : Tryz.pinned.checked.prog.mayEnter = true := by kernel_rfl
theorem factIke26 : (Rows.indexKeepsAsSpecifiedRow.lifted == Tryz.pinned.checked.prog.liftsFinal) = true := by kernel_rfl
theorem closedIke : joinedFacts Tryz.pinned.checked.prog 7 Tryz.f7 (OpenSpec.ofChange Rows.indexKeepsAsSpecifiedSpec).bare Rows.indexKeepsAsSpecifiedRow = true := by
 unfold joinedFacts
 exact (and2 (and2 (and2 (and2 (and2 (and2 (and2 (and2 (and2 (and2 (and2 (and2 (and2 (and2 (and2 (and2 (and2 (and2 (and2 (and2 (and2 (and2 (and2 (and2 (and2 (and2 (and2 (and2 (and2 (and2 (and2 (by kernel_rfl) factIke1) factIke2) (by kernel_rfl)) (by kernel_rfl)) (by kernel_rfl)) (by kernel_rfl)) (by kernel_rfl)) (by kernel_rfl)) factIke9) factIke10) factIke11) factIke12) (by kernel_rfl)) (by kernel_rfl)) (by kernel_rfl)) (by kernel_rfl)) (by kernel_rfl)) (by kernel_rfl)) (by kernel_rfl)) (by kernel_rfl)) (by kernel_rfl)) factIke22) (by kernel_rfl)) factIke24) factIke25) factIke26) (by kernel_rfl)) (by kernel_rfl)) (by kernel_rfl)) (by kernel_rfl)) (by kernel_rfl))
theorem saidIke : Rows.IndexKeepsAsSpecifiedSaid :=
 OpenClaim.holds_of_cond 7 Tryz.f7 rfl rfl rfl rfl rfl rfl rfl ⟨rfl, rfl, rfl, rfl, rfl⟩ rfl rfl rfl rfl rfl (by kernel_rfl) Tryz.func7 closedIke
  (of_decide_eq_true (by kernel_rfl)) (by unfold Func.isWrapper; first | (rw [if_pos (by decide +kernel)]; kernel_rfl) | (rw [if_neg (by decide +kernel)]; exact ⟨rfl, rfl⟩))
  (fun os started H enc _ F => by rw [OpenClaim.pre_eq_preRow]; exact liftedIke os started H enc F)
theorem plainIke (f : FuncId) (fn : Func) (hf : Tryz.pinned.checked.prog.funcNamed "weirgate/weirgatelaw15.IndexKeepsAsSpecified" = some f) (hfn : Tryz.pinned.checked.prog.funcs[f]? = some fn) :
  false = Tryz.pinned.checked.prog.looks [] ∧ ∀ (j : Nat) t, fn.params[j]? = some t → Tryz.pinned.checked.prog.wantsStandIn t = false := by
 obtain rfl : f = 7 := Option.some.inj ((show Tryz.prog.funcNamed "weirgate/weirgatelaw15.IndexKeepsAsSpecified" = some 7 by kernel_rfl).symm.trans hf) |>.symm
 obtain rfl : fn = Tryz.f7 := (Option.some.inj (Tryz.func7.symm.trans hfn)).symm
 refine ⟨by kernel_rfl, fun j t ht => ?_⟩
 rw [Tryz.params7] at ht
 have hall : ∀ t ∈ #[22, 9, 3], Tryz.prog.wantsStandIn t = false := by
  intro t ht
  simp at ht
  rcases ht with rfl | rfl | rfl
  all_goals kernel_rfl
 exact hall t (Array.mem_of_getElem? ht)
theorem cardIke : Rows.IndexKeepsAsSpecifiedCardSaid :=
 Claim7.holds_tied_plain_at .later [] _ _ _ _ saidIke (fun _ h => by cases h) (by kernel_rfl) (fun _ h => by cases h) indexKeepsAsSpecified_row_tie rfl ⟨rfl, rfl⟩ (by kernel_rfl) rfl plainIke (by kernel_rfl)
end Go.Proofs.YtokfclikhfpmhaaGreatDoor
