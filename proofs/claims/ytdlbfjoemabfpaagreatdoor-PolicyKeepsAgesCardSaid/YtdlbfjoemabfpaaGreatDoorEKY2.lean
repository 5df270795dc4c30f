/- An argument that is a rule, a list of rules, a stamp or a period, opened. -/
import Derived.Test.YtdlbfjoemabfpaaGreatDoorEKY1
namespace Go.Proofs.YtdlbfjoemabfpaaGreatDoor
open Go.RowKit Go.Sort
set_option linter.unusedVariables false
set_option linter.unusedSimpArgs false
set_option maxRecDepth 100000
theorem cellsU8 : Tryz.prog.cellsOf 5 = 1 := by kernel_rfl
theorem cellsSt : Tryz.prog.cellsOf 56 = 41 := by kernel_rfl
section
variable {H : Type} {enc : TypeId × Value → H} {W : World} {base : Nat} {sp : Nat → Bool} {hd : Bool}
theorem digest_row {t : TypeId} (ht : Tryz.prog.underlying t = some (.array 16 5)) {fuel : Nat} {l : List Value} {x : DataW H × List MemPlace} (hl : l.length = 16) (h : DataW.trod enc Tryz.prog W base sp hd fuel t l = some x) : ∃ d : D16, l = d.cells := by
 obtain ⟨xs, m, _, _, _, hxl, hg⟩ := DataW.trod_array ht h
 have key : ∀ i, i < 16 → ∃ n, l[i]? = some (.int .u8 n) := by
  intro i hi
  have hh := hg i hi
  rw [cellsU8, Nat.mul_one, List.getElem?_eq_getElem (by omega)] at hh
  obtain ⟨n, e, _⟩ := DataW.trod_int Tryz.underlying5 hh
  refine ⟨n, ?_⟩
  have h0 : ((l.drop i).take 1)[0]? = some (.int .u8 n) := by rw [e]; rfl
  rw [List.getElem?_take_of_lt (by omega), List.getElem?_drop] at h0
  exact h0
 clear hg h
 match l, hl, key with
 | [c0, c1, c2, c3, c4, c5, c6, c7, c8, c9, c10, c11, c12, c13, c14, c15], _, key =>
  obtain ⟨n0, e0⟩ := key 0 (by omega)
  obtain ⟨n1, e1⟩ := key 1 (by omega)
  obtain ⟨n2, e2⟩ := key 2 (by omega)
  obtain ⟨n3, e3⟩ := key 3 (by omega)
  obtain ⟨n4, e4⟩ := key 4 (by omega)
  obtain ⟨n5, e5⟩ := key 5 (by omega)
  obtain ⟨n6, e6⟩ := key 6 (by omega)
  obtain ⟨n7, e7⟩ := key 7 (by omega)
  obtain ⟨n8, e8⟩ := key 8 (by omega)
  obtain ⟨n9, e9⟩ := key 9 (by omega)
  obtain ⟨n10, e10⟩ := key 10 (by omega)
  obtain ⟨n11, e11⟩ := key 11 (by omega)
  obtain ⟨n12, e12⟩ := key 12 (by omega)
  obtain ⟨n13, e13⟩ := key 13 (by omega)
  obtain ⟨n14, e14⟩ := key 14 (by omega)
  obtain ⟨n15, e15⟩ := key 15 (by omega)
  have e0 := Option.some.inj (show some c0 = some (Value.int .u8 n0) from e0)
  have e1 := Option.some.inj (show some c1 = some (Value.int .u8 n1) from e1)
  have e2 := Option.some.inj (show some c2 = some (Value.int .u8 n2) from e2)
  have e3 := Option.some.inj (show some c3 = some (Value.int .u8 n3) from e3)
  have e4 := Option.some.inj (show some c4 = some (Value.int .u8 n4) from e4)
  have e5 := Option.some.inj (show some c5 = some (Value.int .u8 n5) from e5)
  have e6 := Option.some.inj (show some c6 = some (Value.int .u8 n6) from e6)
  have e7 := Option.some.inj (show some c7 = some (Value.int .u8 n7) from e7)
  have e8 := Option.some.inj (show some c8 = some (Value.int .u8 n8) from e8)
  have e9 := Option.some.inj (show some c9 = some (Value.int .u8 n9) from e9)
  have e10 := Option.some.inj (show some c10 = some (Value.int .u8 n10) from e10)
  have e11 := Option.some.inj (show some c11 = some (Value.int .u8 n11) from e11)
  have e12 := Option.some.inj (show some c12 = some (Value.int .u8 n12) from e12)
  have e13 := Option.some.inj (show some c13 = some (Value.int .u8 n13) from e13)
  have e14 := Option.some.inj (show some c14 = some (Value.int .u8 n14) from e14)
  have e15 := Option.some.inj (show some c15 = some (Value.int .u8 n15) from e15)
  refine ⟨⟨n0, n1, n2, n3, n4, n5, n6, n7, n8, n9, n10, n11, n12, n13, n14, n15⟩, ?_⟩
  unfold D16.cells
  rw [e0, e1, e2, e3, e4, e5, e6, e7, e8, e9, e10, e11, e12, e13, e14, e15]
theorem open_period {r : Reach} {b0 : Nat} {v : Value} {d : DataW H} {ps : List MemPlace} (hval : Value.okWide Tryz.prog W r b0 53 v) (h : DataW.Trod enc Tryz.prog W base sp hd 53 v d ps) :
  ∃ lo hi : Int, v = perV lo hi := by
 obtain ⟨cs, rfl, hsz⟩ := Go.WideShapes.okWide_struct Tryz.underlying53 hval
 obtain ⟨l⟩ := cs
 obtain ⟨fuel, hf⟩ := h
 obtain ⟨lo, hi, e⟩ := period_two (hsz.trans cellsPe) hf
 have e2 : l = [.int .i64 lo, .int .i64 hi] := e
 subst e2
 exact ⟨lo, hi, rfl⟩
theorem open_stamp {r : Reach} {b0 : Nat} {v : Value} {d : DataW H} {ps : List MemPlace} (hval : Value.okWide Tryz.prog W r b0 56 v) (h : DataW.Trod enc Tryz.prog W base sp hd 56 v d ps) :
  ∃ s : StampV, v = s.val := by
 obtain ⟨cs, rfl, hsz⟩ := Go.WideShapes.okWide_struct Tryz.underlying56 hval
 obtain ⟨l⟩ := cs
 have hsz2 : l.length = 41 := hsz.trans cellsSt
 obtain ⟨fuel, hf⟩ := h
 obtain ⟨ys, n', hn', hy, hlen, hyl, hg⟩ := DataW.trod_struct Tryz.underlying56 hf
 have hyl2 : ys.length = 10 := hyl
 match l, hsz2 with
 | xa0 :: xa1 :: xa2 :: xa3 :: xb0 :: xb1 :: xb2 :: xb3 :: xb4 :: xb5 :: xb6 :: xb7 :: xb8 :: xb9 :: xb10 :: xb11 :: xb12 :: xb13 :: xb14 :: xb15 :: xt0 :: xl0 :: xl1 :: xg0 :: xs0 :: xc0 :: xc1 :: xc2 :: xc3 :: xc4 :: xc5 :: xc6 :: xc7 :: xc8 :: xc9 :: xc10 :: xc11 :: xc12 :: xc13 :: xc14 :: xc15 :: [], _ =>
  have h0 : DataW.trod enc Tryz.prog W base sp hd n' 9 [xa0] = ys[0]? := hg 0 _ rfl
  have h1 : DataW.trod enc Tryz.prog W base sp hd n' 9 [xa1] = ys[1]? := hg 1 _ rfl
  have h2 : DataW.trod enc Tryz.prog W base sp hd n' 3 [xa2] = ys[2]? := hg 2 _ rfl
  have h3 : DataW.trod enc Tryz.prog W base sp hd n' 3 [xa3] = ys[3]? := hg 3 _ rfl
  have h4 : DataW.trod enc Tryz.prog W base sp hd n' 38 [xb0, xb1, xb2, xb3, xb4, xb5, xb6, xb7, xb8, xb9, xb10, xb11, xb12, xb13, xb14, xb15] = ys[4]? := hg 4 _ rfl
  have h5 : DataW.trod enc Tryz.prog W base sp hd n' 9 [xt0] = ys[5]? := hg 5 _ rfl
  have h6 : DataW.trod enc Tryz.prog W base sp hd n' 53 [xl0, xl1] = ys[6]? := hg 6 _ rfl
  have h7 : DataW.trod enc Tryz.prog W base sp hd n' 3 [xg0] = ys[7]? := hg 7 _ rfl
  have h8 : DataW.trod enc Tryz.prog W base sp hd n' 3 [xs0] = ys[8]? := hg 8 _ rfl
  have h9 : DataW.trod enc Tryz.prog W base sp hd n' 54 [xc0, xc1, xc2, xc3, xc4, xc5, xc6, xc7, xc8, xc9, xc10, xc11, xc12, xc13, xc14, xc15] = ys[9]? := hg 9 _ rfl
  rw [List.getElem?_eq_getElem (by omega)] at h0 h1 h2 h3 h4 h5 h6 h7 h8 h9
  obtain ⟨ad, e0, _⟩ := DataW.trod_string Tryz.underlying9 h0
  obtain ⟨va, e1, _⟩ := DataW.trod_string Tryz.underlying9 h1
  obtain ⟨st, e2, _⟩ := DataW.trod_int Tryz.underlying3 h2
  obtain ⟨sz, e3, _⟩ := DataW.trod_int Tryz.underlying3 h3
  obtain ⟨bo, e4⟩ := digest_row Tryz.underlying38 rfl h4
  obtain ⟨tg, e5, _⟩ := DataW.trod_string Tryz.underlying9 h5
  obtain ⟨lo, hi, e6⟩ := period_two rfl h6
  obtain ⟨ga, e7, _⟩ := DataW.trod_int Tryz.underlying3 h7
  obtain ⟨se, e8, _⟩ := DataW.trod_int Tryz.underlying3 h8
  obtain ⟨sl, e9⟩ := digest_row Tryz.underlying54 rfl h9
  refine ⟨⟨ad, va, st, sz, bo, tg, lo, hi, ga, se, sl⟩, ?_⟩
  injection e0 with e0; injection e1 with e1; injection e2 with e2; injection e3 with e3; injection e5 with e5; injection e7 with e7; injection e8 with e8
  subst e0 e1 e2 e3 e5 e7 e8
  have e10 : [Value.string ad, .string va, .int .i64 st, .int .i64 sz] ++ [xb0, xb1, xb2, xb3, xb4, xb5, xb6, xb7, xb8, xb9, xb10, xb11, xb12, xb13, xb14, xb15] ++ [.string tg] ++ [xl0, xl1] ++ [.int .i64 ga, .int .i64 se] ++ [xc0, xc1, xc2, xc3, xc4, xc5, xc6, xc7, xc8, xc9, xc10, xc11, xc12, xc13, xc14, xc15] = (⟨ad, va, st, sz, bo, tg, lo, hi, ga, se, sl⟩ : StampV).cells := by
   rw [e4, e6, e9]; rfl
  unfold StampV.val
  rw [← e10]; rfl
end
theorem int_range {n : Int} (h : (Lit.int .i64 n).wf = true) : -9223372036854775808 ≤ n ∧ n ≤ 9223372036854775807 := by
 unfold Lit.wf at h
 simp only [Bool.and_eq_true, decide_eq_true_eq] at h
 have h1 : IntKind.i64.min = -9223372036854775808 := rfl
 have h2 : IntKind.i64.max = 9223372036854775807 := rfl
 omega
end Go.Proofs.YtdlbfjoemabfpaaGreatDoor
