/- AnalyseShadowsExactly, the tied card: for every input the law returns true, and the input reads as it did. -/
import Derived.Test.YtjhlpkhfdghngaaGreatDoorSCY0
namespace Go.Proofs.YtjhlpkhfdghngaaGreatDoor
open Go.ChangeShapes Go.WideShapes Go.ChangeAt Go.RowKit Go.ChangeMaps
set_option linter.unusedVariables false
def argsSh : Array Value := #[.slice none 0 0, .int .u8 0, .string ByteArray.empty, .slice none 0 0]
theorem laid_metSh (os : Os) : laidMet Tryz.prog Rows.analyseShadowsExactlyRow.laid ((laidWorld os).forCall (fun _ _ => 0) ⟨#[], argsSh, []⟩).memory :=
 laidMet_of_run' 8 (by kernel_rfl) (by kernel_rfl)
theorem readsSh (os : Os) {H : Type} (enc : TypeId × Value → H) : ∃ places, DataW.whole enc Tryz.prog ((laidWorld os).forCall (fun _ _ => 0) ⟨#[], argsSh, []⟩).memory Tryz.f5.params.toList Rows.analyseShadowsExactlySpec.vars false argsSh.toList 8 = some ([.nil, .lit (.int .u8 0), .lit (.string []), .nil], [], places) :=
 ⟨[], by kernel_rfl⟩
set_option maxRecDepth 100000 in
theorem contractSh (H : Type) (enc : TypeId × Value → H) (W : World) (base : Nat) (args : Array Value) (ds gs : List (DataW H)) (before : List MemPlace)
  (hval : ∀ (j : Nat) t v, Tryz.f5.params[j]? = some t → args[j]? = some v → Value.okWide Tryz.prog W .any base t v)
  (hW : DataW.Whole enc Tryz.prog Tryz.f5.params.toList Rows.analyseShadowsExactlySpec.vars false W args.toList ds gs before) (hL : laidMetH Tryz.prog Rows.analyseShadowsExactlyRow.laid W) (hS : W.ShapedOpen Tryz.prog) :
  Calls Tryz.prog 5 args W fun e W' => ∃ v, e = .returned v ∧ Rows.analyseShadowsExactlySpec.post enc Tryz.prog Tryz.f5 false true false false W args v W' := by
 have hL' : laidMet Tryz.prog Rows.analyseShadowsExactlyRow.laid W := hL
 have hW' := hW
 obtain ⟨p, q, hA0, hV, rfl, hfz, hnd⟩ := hW
 have hA : DataW.TrodAll enc Tryz.prog W 0 (fun _ => true) true Tryz.f5.params.toList args.toList ds p := hA0
 rw [Tryz.params5] at hA hval
 obtain ⟨v0, vs0, d0, ds0, p0, q0, hargs, rfl, rfl, h0, r0⟩ := trodAll_cons hA
 obtain ⟨v1, vs1, d1, ds1, p1, q1, rfl, rfl, rfl, h1, r1⟩ := trodAll_cons r0
 obtain ⟨v2, vs2, d2, ds2, p2, q2, rfl, rfl, rfl, h2, r2⟩ := trodAll_cons r1
 obtain ⟨v3, vs3, d3, ds3, p3, q3, rfl, rfl, rfl, h3, r3⟩ := trodAll_cons r2
 obtain ⟨rfl, rfl, rfl⟩ := trodAll_nil r3
 obtain rfl : args = #[v0, v1, v2, v3] := by cases args; simp_all
 obtain ⟨A0, n0, c0, L0, rfl, z0, zn0, zc0, zd0⟩ := open_rulesC (hval 0 22 v0 rfl rfl) h0
 obtain ⟨k1, rfl, _, kw1⟩ := open_int Tryz.underlying5 (hval 1 5 v1 rfl rfl) h1
 obtain ⟨s2, rfl, rfl, -, z2⟩ := open_string Tryz.underlying9 (hval 2 9 v2 rfl rfl) h2
 obtain ⟨A3, n3, c3, xs3, rfl, za3, zb3⟩ := open_texts (hval 3 27 v3 rfl rfl) h3
 obtain ⟨rfl, rfl⟩ := trodVars_none hV
 refine (lawShadows A0 n0 c0 L0 k1 s2 A3 n3 c3 xs3 W z0 zn0 zc0 zd0 (u8_range kw1.2).1 (u8_range kw1.2).2  za3 zb3 (env_of hS) (tab_of hL')).mono fun e W' ⟨he, hb⟩ => ?_
 subst he
 exact ⟨_, rfl, law_post (t := 4) hW' rfl laidOut (by kernel_rfl) (by kernel_rfl) Tryz.underlying4 rfl hb⟩
set_option maxRecDepth 100000 in
theorem liftedSh (os : Os) (started : os.Started) (H : Type) (enc : TypeId × Value → H) (F : Stop.Interp) :
  ReturnsInHanded {} Tryz.checked os 5 .any ((OpenSpec.ofChange Rows.analyseShadowsExactlySpec).preRow enc Tryz.prog Tryz.f5 Rows.analyseShadowsExactlyRow.domain false Rows.analyseShadowsExactlyRow.laid) (((OpenSpec.ofChange Rows.analyseShadowsExactlySpec).at F).post enc Tryz.prog Tryz.f5 false true false false) := by
 obtain ⟨places, hx⟩ := readsSh os enc
 refine returnsInHanded_of_row (C := Tryz.checked) (s := OpenSpec.ofChange Rows.analyseShadowsExactlySpec) own started (by kernel_rfl) Tryz.func5
  (witness_row_at (enc := enc) (C := Tryz.checked) false (laidWorld os) argsSh rfl (by kernel_rfl) (by kernel_rfl) (by kernel_rfl)
   (OpenSpec.preRow_of_cond 8 hx (by kernel_rfl) (fun k hk => by cases hk) (by kernel_rfl) (laid_metSh os))) ?_
 intro W base args ds gs before hval hW _ _ _ hL hS _
 exact contractSh H enc W base args ds gs before hval hW hL hS
theorem and2 {a b : Bool} (h : a = true) (k : b = true) : (a && b) = true := by rw [h, k]; rfl
theorem factSh1 : laidOutB Tryz.pinned.checked.prog = true := by kernel_rfl
theorem factSh2 : mapsRowed Tryz.pinned.checked.prog = true := by kernel_rfl
theorem factSh9 : (Rows.analyseShadowsExactlyRow.inPlace == Tryz.pinned.checked.prog.inPlace 5) = true := by kernel_rfl
theorem factSh10 : (Rows.analyseShadowsExactlyRow.unfollowed == Tryz.pinned.checked.prog.unfollowed 5) = true := by kernel_rfl
theorem factSh11 : (Rows.analyseShadowsExactlyRow.recurses == Tryz.pinned.checked.prog.recurses 5) = true := by kernel_rfl
theorem factSh12 : (Rows.analyseShadowsExactlyRow.named == Tryz.pinned.checked.prog.varsNamed 5) = true := by kernel_rfl
theorem factSh22 : (Rows.analyseShadowsExactlyRow.plainKeys == Tryz.pinned.checked.prog.plainKeys) = true := by kernel_rfl
theorem factSh24 : Tryz.pinned.checked.prog.stopsHeard = true := by kernel_rfl
theorem factSh25 : Tryz.pinned.checked.prog.mayEnter = true := by kernel_rfl
theorem factSh26 : (Rows.analyseShadowsExactlyRow.lifted == Tryz.pinned.checked.prog.liftsFinal) = true := by kernel_rfl
theorem closedSh : joinedFacts Tryz.pinned.checked.prog 5 Tryz.f5 (OpenSpec.ofChange Rows.analyseShadowsExactlySpec).bare Rows.analyseShadowsExactlyRow = true := by
 unfold joinedFacts
 exact (and2 (and2 (and2 (and2 (and2 (and2 (and2 (and2 (and2 (and2 (and2 (and2 (and2 (and2 (and2 (and2 (and2 (and2 (and2 (and2 (and2 (and2 (and2 (and2 (and2 (and2 (and2 (and2 (and2 (and2 (and2 (by kernel_rfl) factSh1) factSh2) (by kernel_rfl)) (by kernel_rfl)) (by kernel_rfl)) (by kernel_rfl)) (by kernel_rfl)) (by kernel_rfl)) factSh9) factSh10) factSh11) factSh12) (by kernel_rfl)) (by kernel_rfl)) (by kernel_rfl)) (by kernel_rfl)) (by kernel_rfl)) (by kernel_rfl)) (by kernel_rfl)) (by kernel_rfl)) (by kernel_rfl)) factSh22) (by kernel_rfl)) factSh24) factSh25) factSh26) (by kernel_rfl)) (by kernel_rfl)) (by kernel_rfl)) (by kernel_rfl)) (by kernel_rfl))
theorem saidSh : Rows.AnalyseShadowsExactlySaid :=
 OpenClaim.holds_of_cond 5 Tryz.f5 rfl rfl rfl rfl rfl rfl rfl ⟨rfl, rfl, rfl, rfl, rfl⟩ rfl rfl rfl rfl rfl (by kernel_rfl) Tryz.func5 closedSh
  (of_decide_eq_true (by kernel_rfl)) (by unfold Func.isWrapper; first | (rw [if_pos (by decide +kernel)]; kernel_rfl) | (rw [if_neg (by decide +kernel)]; exact ⟨rfl, rfl⟩))
  (fun os started H enc _ F => by rw [OpenClaim.pre_eq_preRow]; exact liftedSh os started H enc F)
theorem plainSh (f : FuncId) (fn : Func) (hf : Tryz.pinned.checked.prog.funcNamed "weirgate/weirgatelaw24.AnalyseShadowsExactly" = some f) (hfn : Tryz.pinned.checked.prog.funcs[f]? = some fn) :
  false = Tryz.pinned.checked.prog.looks [] ∧ ∀ (j : Nat) t, fn.params[j]? = some t → Tryz.pinned.checked.prog.wantsStandIn t = false := by
 obtain rfl : f = 5 := Option.some.inj ((show Tryz.prog.funcNamed "weirgate/weirgatelaw24.AnalyseShadowsExactly" = some 5 by kernel_rfl).symm.trans hf) |>.symm
 obtain rfl : fn = Tryz.f5 := (Option.some.inj (Tryz.func5.symm.trans hfn)).symm
 refine ⟨by kernel_rfl, fun j t ht => ?_⟩
 rw [Tryz.params5] at ht
 have hall : ∀ t ∈ #[22, 5, 9, 27], Tryz.prog.wantsStandIn t = false := by
  intro t ht
  simp at ht
  rcases ht with rfl | rfl | rfl | rfl
  all_goals kernel_rfl
 exact hall t (Array.mem_of_getElem? ht)
theorem cardSh : Rows.AnalyseShadowsExactlyCardSaid :=
 Claim7.holds_tied_plain_at .later [] _ _ _ _ saidSh (fun _ h => by cases h) (by kernel_rfl) (fun _ h => by cases h) analyseShadowsExactly_row_tie rfl ⟨rfl, rfl⟩ (by kernel_rfl) rfl plainSh (by kernel_rfl)
end Go.Proofs.YtjhlpkhfdghngaaGreatDoor
