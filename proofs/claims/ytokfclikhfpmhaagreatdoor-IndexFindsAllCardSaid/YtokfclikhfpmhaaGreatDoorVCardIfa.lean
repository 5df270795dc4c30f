/- IndexFindsAll, the tied card: for every input the law returns true, and the input reads as it did. -/
import Derived.Test.YtokfclikhfpmhaaGreatDoorVY0
namespace Go.Proofs.YtokfclikhfpmhaaGreatDoor
open Go.ChangeShapes Go.WideShapes Go.ChangeAt Go.RowKit Go.ChangeMaps
set_option linter.unusedVariables false
def argsIfa : Array Value := #[.slice none 0 0, .string ByteArray.empty]
theorem laid_metIfa (os : Os) : laidMet Tryz.prog Rows.indexFindsAllRow.laid ((laidWorld os).forCall (fun _ _ => 0) ⟨#[], argsIfa, []⟩).memory :=
 laidMet_of_run' 8 (by kernel_rfl) (by kernel_rfl)
theorem readsIfa (os : Os) {H : Type} (enc : TypeId × Value → H) : ∃ places, DataW.whole enc Tryz.prog ((laidWorld os).forCall (fun _ _ => 0) ⟨#[], argsIfa, []⟩).memory Tryz.f4.params.toList Rows.indexFindsAllSpec.vars false argsIfa.toList 8 = some ([.nil, .lit (.string [])], [], places) :=
 ⟨[], by kernel_rfl⟩
set_option maxRecDepth 100000 in
theorem contractIfa (H : Type) (enc : TypeId × Value → H) (W : World) (base : Nat) (args : Array Value) (ds gs : List (DataW H)) (before : List MemPlace)
  (hval : ∀ (j : Nat) t v, Tryz.f4.params[j]? = some t → args[j]? = some v → Value.okWide Tryz.prog W .any base t v)
  (hW : DataW.Whole enc Tryz.prog Tryz.f4.params.toList Rows.indexFindsAllSpec.vars false W args.toList ds gs before) (hL : laidMetH Tryz.prog Rows.indexFindsAllRow.laid W) (hS : W.ShapedOpen Tryz.prog) :
  Calls Tryz.prog 4 args W fun e W' => ∃ v, e = .returned v ∧ Rows.indexFindsAllSpec.post enc Tryz.prog Tryz.f4 false true false false W args v W' := by
 have hL' : laidMet Tryz.prog Rows.indexFindsAllRow.laid W := hL
 have hW' := hW
 obtain ⟨p, q, hA0, hV, rfl, hfz, hnd⟩ := hW
 have hA : DataW.TrodAll enc Tryz.prog W 0 (fun _ => true) true Tryz.f4.params.toList args.toList ds p := hA0
 rw [Tryz.params4] at hA hval
 obtain ⟨v0, vs0, d0, ds0, p0, q0, hargs, rfl, rfl, h0, r0⟩ := trodAll_cons hA
 obtain ⟨v1, vs1, d1, ds1, p1, q1, rfl, rfl, rfl, h1, r1⟩ := trodAll_cons r0
 obtain ⟨rfl, rfl, rfl⟩ := trodAll_nil r1
 obtain rfl : args = #[v0, v1] := by cases args; simp_all
 obtain ⟨A0, n0, c0, L0, rfl, z0, zn0⟩ := open_ops (hval 0 22 v0 rfl rfl) h0
 obtain ⟨s1, rfl, rfl, -, z1⟩ := open_string Tryz.underlying9 (hval 1 9 v1 rfl rfl) h1
 obtain ⟨rfl, rfl⟩ := trodVars_none hV
 refine (lawFindsAll15 A0 n0 c0 L0 s1 W z0 zn0  (env_of hS) (tab_of hL')).mono fun e W' ⟨he, hb⟩ => ?_
 subst he
 exact ⟨_, rfl, law_post (t := 4) hW' rfl laidOut (by kernel_rfl) (by kernel_rfl) Tryz.underlying4 rfl hb⟩
set_option maxRecDepth 100000 in
theorem liftedIfa (os : Os) (started : os.Started) (H : Type) (enc : TypeId × Value → H) (F : Stop.Interp) :
  ReturnsInHanded {} Tryz.checked os 4 .any ((OpenSpec.ofChange Rows.indexFindsAllSpec).preRow enc Tryz.prog Tryz.f4 Rows.indexFindsAllRow.domain false Rows.indexFindsAllRow.laid) (((OpenSpec.ofChange Rows.indexFindsAllSpec).at F).post enc Tryz.prog Tryz.f4 false true false false) := by
 obtain ⟨places, hx⟩ := readsIfa os enc
 refine returnsInHanded_of_row (C := Tryz.checked) (s := OpenSpec.ofChange Rows.indexFindsAllSpec) own started (by kernel_rfl) Tryz.func4
  (witness_row_at (enc := enc) (C := Tryz.checked) false (laidWorld os) argsIfa rfl (by kernel_rfl) (by kernel_rfl) (by kernel_rfl)
   (OpenSpec.preRow_of_cond 8 hx (by kernel_rfl) (fun k hk => by cases hk) (by kernel_rfl) (laid_metIfa os))) ?_
 intro W base args ds gs before hval hW _ _ _ hL hS _
 exact contractIfa H enc W base args ds gs before hval hW hL hS
theorem and2 {a b : Bool} (h : a = true) (k : b = true) : (a && b) = true := by rw [h, k]; rfl
theorem factIfa1 : laidOutB Tryz.pinned.checked.prog = true := by kernel_rfl
theorem factIfa2 : mapsRowed Tryz.pinned.checked.prog = true := by kernel_rfl
theorem factIfa9 : (Rows.indexFindsAllRow.inPlace == Tryz.pinned.checked.prog.inPlace 4) = true := by kernel_rfl
theorem factIfa10 : (Rows.indexFindsAllRow.unfollowed == Tryz.pinned.checked.prog.unfollowed 4) = true := by kernel_rfl
theorem factIfa11 : (Rows.indexFindsAllRow.recurses == Tryz.pinned.checked.prog.recurses 4) = true := by kernel_rfl
theorem factIfa12 : (Rows.indexFindsAllRow.named == Tryz.pinned.checked.prog.varsNamed 4) = true := by kernel_rfl
theorem factIfa22 : (Rows.indexFindsAllRow.plainKeys == Tryz.pinned.checked.prog.plainKeys) = true := by kernel_rfl
theorem factIfa24 : Tryz.pinned.checked.prog.stopsHeard = true := by kernel_rfl
theorem factIfa25 : Tryz.pinned.checked.prog.mayEnter = true := by kernel_rfl
theorem factIfa26 : (Rows.indexFindsAllRow.lifted == Tryz.pinned.checked.prog.liftsFinal) = true := by kernel_rfl
theorem closedIfa : joinedFacts Tryz.pinned.checked.prog 4 Tryz.f4 (OpenSpec.ofChange Rows.indexFindsAllSpec).bare Rows.indexFindsAllRow = true := by
 unfold joinedFacts
 exact (and2 (and2 (and2 (and2 (and2 (and2 (and2 (and2 (and2 (and2 (and2 (and2 (and2 (and2 (and2 (and2 (and2 (and2 (and2 (and2 (and2 (and2 (and2 (and2 (and2 (and2 (and2 (and2 (and2 (and2 (and2 (by kernel_rfl) factIfa1) factIfa2) (by kernel_rfl)) (by kernel_rfl)) (by kernel_rfl)) (by kernel_rfl)) (by kernel_rfl)) (by kernel_rfl)) factIfa9) factIfa10) factIfa11) factIfa12) (by kernel_rfl)) (by kernel_rfl)) (by kernel_rfl)) (by kernel_rfl)) (by kernel_rfl)) (by kernel_rfl)) (by kernel_rfl)) (by kernel_rfl)) (by kernel_rfl)) factIfa22) (by kernel_rfl)) factIfa24) factIfa25) factIfa26) (by kernel_rfl)) (by kernel_rfl)) (by kernel_rfl)) (by kernel_rfl)) (by kernel_rfl))
theorem saidIfa : Rows.IndexFindsAllSaid :=
 OpenClaim.holds_of_cond 4 Tryz.f4 rfl rfl rfl rfl rfl rfl rfl ⟨rfl, rfl, rfl, rfl, rfl⟩ rfl rfl rfl rfl rfl (by kernel_rfl) Tryz.func4 closedIfa
  (of_decide_eq_true (by kernel_rfl)) (by unfold Func.isWrapper; first | (rw [if_pos (by decide +kernel)]; kernel_rfl) | (rw [if_neg (by decide +kernel)]; exact ⟨rfl, rfl⟩))
  (fun os started H enc _ F => by rw [OpenClaim.pre_eq_preRow]; exact liftedIfa os started H enc F)
theorem plainIfa (f : FuncId) (fn : Func) (hf : Tryz.pinned.checked.prog.funcNamed "weirgate/weirgatelaw15.IndexFindsAll" = some f) (hfn : Tryz.pinned.checked.prog.funcs[f]? = some fn) :
  false = Tryz.pinned.checked.prog.looks [] ∧ ∀ (j : Nat) t, fn.params[j]? = some t → Tryz.pinned.checked.prog.wantsStandIn t = false := by
 obtain rfl : f = 4 := Option.some.inj ((show Tryz.prog.funcNamed "weirgate/weirgatelaw15.IndexFindsAll" = some 4 by kernel_rfl).symm.trans hf) |>.symm
 obtain rfl : fn = Tryz.f4 := (Option.some.inj (Tryz.func4.symm.trans hfn)).symm
 refine ⟨by kernel_rfl, fun j t ht => ?_⟩
 rw [Tryz.params4] at ht
 have hall : ∀ t ∈ #[22, 9], Tryz.prog.wantsStandIn t = false := by
  intro t ht
  simp at ht
  rcases ht with rfl | rfl
  all_goals kernel_rfl
 exact hall t (Array.mem_of_getElem? ht)
theorem cardIfa : Rows.IndexFindsAllCardSaid :=
 Claim7.holds_tied_plain_at .later [] _ _ _ _ saidIfa (fun _ h => by cases h) (by kernel_rfl) (fun _ h => by cases h) indexFindsAll_row_tie rfl ⟨rfl, rfl⟩ (by kernel_rfl) rfl plainIfa (by kernel_rfl)
end Go.Proofs.YtokfclikhfpmhaaGreatDoor
