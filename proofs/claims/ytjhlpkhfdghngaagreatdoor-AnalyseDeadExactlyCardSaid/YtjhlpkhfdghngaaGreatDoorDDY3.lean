/- An argument that is a condition, or an ask, opened: what it reads as. -/
import Derived.Test.YtjhlpkhfdghngaaGreatDoorDDY2
namespace Go.Proofs.YtjhlpkhfdghngaaGreatDoor
open Go.RowKit Go.Sort
set_option linter.unusedVariables false
set_option linter.unusedSimpArgs false
set_option maxRecDepth 100000
theorem cellsI : Tryz.prog.cellsOf 3 = 1 := by kernel_rfl
theorem cellsAs : Tryz.prog.cellsOf 55 = 6 := by kernel_rfl
section
variable {H : Type} {enc : TypeId × Value → H} {W : World} {base : Nat} {sp : Nat → Bool} {hd : Bool}
theorem ints_reads {fuel : Nat} {v : Value} {x : DataW H × List MemPlace} (h : DataW.trod enc Tryz.prog W base sp hd fuel 29 [v] = some x) : ∃ (A : Option Addr) (n c : Nat) (xs : List Int), v = .slice A n c ∧ xs.length = n ∧ Reads W 1 A n (xs.map (.int .i64)) := by
 rcases Go.Deep.open_slice Tryz.underlying29 h with ⟨h0, _⟩ | ⟨a, len, cap, m, n, D, Pl, hcs, hb, hl, hm, hmm, hx, hi⟩
 ·injection h0 with h0
  subst h0
  exact ⟨none, 0, 0, [], rfl, rfl, Reads.nil_ _ _ _⟩
 ·injection hcs with hcs
  subst hcs
  have hlm : len ≤ m := by rw [hmm]; split <;> omega
  obtain ⟨xs, h1, h2⟩ := list_of (p := fun i (s : Int) => W.cell? (a.add i) = some (.int .i64 s)) len (fun i hil => by
   obtain ⟨cs', hc, ht⟩ := hi i (by omega)
   rw [cellsI, Nat.mul_one] at hc
   obtain ⟨s, rfl, _, hs⟩ := DataW.trod_int Tryz.underlying3 ht
   have := (World.cells?_some hc).2.2 0 (by omega)
   exact ⟨s, by simpa [Addr.add] using this⟩)
  refine ⟨some a, len, cap, xs, rfl, h1, ⟨by simp [h1], fun hn => ?_⟩⟩
  obtain ⟨s0, hs0⟩ : ∃ s, xs[0]? = some s := ⟨_, List.getElem?_eq_getElem (by omega)⟩
  obtain ⟨b, o, rfl⟩ := plain_addr (h2 0 s0 hs0)
  refine ⟨b, o, rfl, fun j u hu => ?_⟩
  obtain ⟨s, hs, rfl⟩ := ints_at hu
  rw [← add_plain]
  exact h2 j s hs
theorem period_two {fuel : Nat} {cs : List Value} {x : DataW H × List MemPlace} (hl : cs.length = 2) (h : DataW.trod enc Tryz.prog W base sp hd fuel 53 cs = some x) : ∃ k v : Int, cs = [.int .i64 k, .int .i64 v] := by
 obtain ⟨ys, n', hn', hy, hlen, hyl, hf⟩ := DataW.trod_struct Tryz.underlying53 h
 match cs, hl with
 | [c0, c1], _ =>
  have h0 : DataW.trod enc Tryz.prog W base sp hd n' 3 (List.take (Tryz.prog.cellsOf 3) (List.drop 0 [c0, c1])) = ys[0]? := hf 0 _ rfl
  have h1 : DataW.trod enc Tryz.prog W base sp hd n' 3 (List.take (Tryz.prog.cellsOf 3) (List.drop 1 [c0, c1])) = ys[1]? := hf 1 _ rfl
  rw [cellsI] at h0 h1
  simp only [List.drop_zero, List.drop_succ_cons, List.take_succ_cons, List.take_zero] at h0 h1
  have hyl2 : ys.length = 2 := hyl
  have e0 : ys[0]? = some (ys[0]'(by omega)) := List.getElem?_eq_getElem (by omega)
  have e1 : ys[1]? = some (ys[1]'(by omega)) := List.getElem?_eq_getElem (by omega)
  rw [e0] at h0
  rw [e1] at h1
  obtain ⟨k, hk, _⟩ := DataW.trod_int Tryz.underlying3 h0
  obtain ⟨v, hv, _⟩ := DataW.trod_int Tryz.underlying3 h1
  injection hk with hk
  injection hv with hv
  exact ⟨k, v, by rw [hk, hv]⟩
theorem open_ask {r : Reach} {b0 : Nat} {v : Value} {d : DataW H} {ps : List MemPlace} (hval : Value.okWide Tryz.prog W r b0 55 v) (h : DataW.Trod enc Tryz.prog W base sp hd 55 v d ps) :
  ∃ a : AskV, v = AskV.val a := by
 obtain ⟨cs, rfl, hsz⟩ := Go.WideShapes.okWide_struct Tryz.underlying55 hval
 obtain ⟨l⟩ := cs
 match l, hsz.trans cellsAs with
 | [c0, c1, c2, c3, c4, c5], _ =>
  obtain ⟨fuel, hf⟩ := h
  obtain ⟨ys, n', hn', hy, hlen, hyl, hg⟩ := DataW.trod_struct Tryz.underlying55 hf
  have hyl2 : ys.length = 5 := hyl
  have h0 : DataW.trod enc Tryz.prog W base sp hd n' 9 [c0] = ys[0]? := hg 0 _ rfl
  have h1 : DataW.trod enc Tryz.prog W base sp hd n' 9 [c1] = ys[1]? := hg 1 _ rfl
  have h2 : DataW.trod enc Tryz.prog W base sp hd n' 9 [c2] = ys[2]? := hg 2 _ rfl
  have h3 : DataW.trod enc Tryz.prog W base sp hd n' 3 [c3] = ys[3]? := hg 3 _ rfl
  have h4 : DataW.trod enc Tryz.prog W base sp hd n' 53 [c4, c5] = ys[4]? := hg 4 _ rfl
  rw [List.getElem?_eq_getElem (by omega)] at h0 h1 h2 h3 h4
  obtain ⟨ad, e0, _⟩ := DataW.trod_string Tryz.underlying9 h0
  obtain ⟨kl, e1, _⟩ := DataW.trod_string Tryz.underlying9 h1
  obtain ⟨ko, e2, _⟩ := DataW.trod_string Tryz.underlying9 h2
  obtain ⟨st, e3, _⟩ := DataW.trod_int Tryz.underlying3 h3
  obtain ⟨lo, hi, e4⟩ := period_two rfl h4
  injection e0 with e0
  injection e1 with e1
  injection e2 with e2
  injection e3 with e3
  injection e4 with e4 e5
  injection e5 with e5
  subst e0; subst e1; subst e2; subst e3; subst e4; subst e5
  exact ⟨⟨ad, kl, ko, st, lo, hi⟩, rfl⟩
end
end Go.Proofs.YtjhlpkhfdghngaaGreatDoor
namespace Go.Proofs.YtjhlpkhfdghngaaGreatDoor
open Go.RowKit Go.Sort
set_option linter.unusedVariables false
set_option linter.unusedSimpArgs false
set_option maxRecDepth 100000
theorem cellsVa : Tryz.prog.cellsOf 99 = 3 := by kernel_rfl
theorem cellsRu : Tryz.prog.cellsOf 33 = 18 := by kernel_rfl
section
variable {H : Type} {enc : TypeId × Value → H} {W : World} {base : Nat} {sp : Nat → Bool} {hd : Bool}
theorem rows_reads {α : Type} {t e : TypeId} {size : Nat} (hs : 0 < size) (ht : Tryz.prog.underlying t = some (.slice e)) (hc : Tryz.prog.cellsOf e = size) (cells : α → List Value) (R : α → Prop) (hlen : ∀ a, (cells a).length = size)
  (hrow : ∀ fuel cs x, cs.length = size → DataW.trod enc Tryz.prog W base sp hd fuel e cs = some x → ∃ a, cs = cells a ∧ R a) {fuel : Nat} {v : Value} {x : DataW H × List MemPlace} (h : DataW.trod enc Tryz.prog W base sp hd fuel t [v] = some x) :
  ∃ (A : Option Addr) (n c : Nat) (L : List α), v = .slice A n c ∧ L.length = n ∧ Reads W size A n (L.flatMap cells) ∧ ∀ a ∈ L, R a := by
 rcases Go.Deep.open_slice ht h with ⟨h0, _⟩ | ⟨a, len, cap, m, n, D, Pl, hcs, hb, hl, hm, hmm, hx, hi⟩
 ·injection h0 with h0
  subst h0
  exact ⟨none, 0, 0, [], rfl, rfl, Reads.nil_ _ _ _, fun a ha => by cases ha⟩
 ·injection hcs with hcs
  subst hcs
  have hlm : len ≤ m := by rw [hmm]; split <;> omega
  obtain ⟨L, h1, h2⟩ := list_of (p := fun i (z : α) => (∀ j u, (cells z)[j]? = some u → W.cell? ((a.add (i * size)).add j) = some u) ∧ R z) len (fun i hil => by
   obtain ⟨cs', hcc, ht'⟩ := hi i (by omega)
   rw [hc] at hcc
   obtain ⟨_, hcl, hat⟩ := World.cells?_some hcc
   obtain ⟨z, rfl, hz⟩ := hrow _ _ _ hcl ht'
   refine ⟨z, fun j u hu => ?_, hz⟩
   have hj := (List.getElem?_eq_some_iff.1 hu).1
   rw [hlen z] at hj
   rw [hat j hj]; exact hu)
  refine ⟨some a, len, cap, L, rfl, h1, ⟨by rw [flat_len cells L (fun z _ => hlen z), h1], fun hn => ?_⟩, fun z hz => ?_⟩
  ·obtain ⟨z0, hz0⟩ : ∃ z, L[0]? = some z := ⟨_, List.getElem?_eq_getElem (by omega)⟩
   have hu0 : (cells z0)[0]? = some ((cells z0)[0]'(by rw [hlen]; exact hs)) := List.getElem?_eq_getElem _
   obtain ⟨b, o, rfl⟩ := plain_addr (a := a) (w := W) (by have := (h2 0 z0 hz0).1 0 _ hu0; simpa [Addr.add] using this)
   refine ⟨b, o, rfl, fun j u hu => ?_⟩
   have hjl := (List.getElem?_eq_some_iff.1 hu).1
   rw [flat_len cells L (fun z _ => hlen z)] at hjl
   have hq : j / size < L.length := Nat.div_lt_of_lt_mul (by rw [Nat.mul_comm]; exact hjl)
   obtain ⟨z, hz⟩ : ∃ z, L[j / size]? = some z := ⟨_, List.getElem?_eq_getElem hq⟩
   have hr : j % size < size := Nat.mod_lt _ hs
   have hj : j / size * size + j % size = j := by rw [Nat.mul_comm]; exact Nat.div_add_mod j size
   have h3 := flat_at cells L (fun z _ => hlen z) (j / size) (j % size) z hz hr
   rw [hj, hu] at h3
   have h4 := (h2 (j / size) z hz).1 (j % size) u h3.symm
   rw [add_plain, add_plain, Nat.add_assoc, hj] at h4
   exact h4
  ·obtain ⟨i, hi2, rfl⟩ := List.getElem_of_mem hz
   exact (h2 i _ (List.getElem?_eq_getElem hi2)).2
theorem slice_cap {t e : TypeId} (ht : Tryz.prog.underlying t = some (.slice e)) {A : Option Addr} {n c : Nat} {fuel : Nat} {x : DataW H × List MemPlace} (h : DataW.trod enc Tryz.prog W base sp hd fuel t [.slice A n c] = some x) : n ≤ c := by
 rcases Go.Deep.open_slice ht h with ⟨h0, _⟩ | ⟨a, len, cap, m, k, D, Pl, hcs, _, hl, hm, _⟩
 ·injection h0 with h0
  injection h0 with h1 h2 h3
  omega
 ·injection hcs with hcs
  injection hcs with h1 h2 h3
  omega
theorem vary_row {fuel : Nat} {cs : List Value} {x : DataW H × List MemPlace} (hl : cs.length = 3) (h : DataW.trod enc Tryz.prog W base sp hd fuel 99 cs = some x) : ∃ y : VaryM, cs = y.cells ∧ VaryReads W y ∧ y.v.values.length ≤ y.c := by
 obtain ⟨ys, n', hn', hy, hlen, hyl, hg⟩ := DataW.trod_struct Tryz.underlying99 h
 match cs, hl with
 | [c0, c1, c2], _ =>
  have hyl2 : ys.length = 3 := hyl
  have h0 : DataW.trod enc Tryz.prog W base sp hd n' 9 [c0] = ys[0]? := hg 0 _ rfl
  have h1 : DataW.trod enc Tryz.prog W base sp hd n' 27 [c1] = ys[1]? := hg 1 _ rfl
  have h2 : DataW.trod enc Tryz.prog W base sp hd n' 9 [c2] = ys[2]? := hg 2 _ rfl
  rw [List.getElem?_eq_getElem (by omega)] at h0 h1 h2
  obtain ⟨hdr, e0, _⟩ := DataW.trod_string Tryz.underlying9 h0
  obtain ⟨A, n, c, vs, rfl, l1, r1⟩ := strs_reads h1
  have k1 := slice_cap Tryz.underlying27 h1
  obtain ⟨df, e2, _⟩ := DataW.trod_string Tryz.underlying9 h2
  injection e0 with e0
  injection e2 with e2
  subst e0; subst e2; subst l1
  exact ⟨⟨⟨hdr, vs, df⟩, A, c⟩, rfl, r1, k1⟩
theorem cond_row {fuel : Nat} {c0 c1 c2 c3 c4 c5 c6 : Value} {x : DataW H × List MemPlace} (h : DataW.trod enc Tryz.prog W base sp hd fuel 31 [c0, c1, c2, c3, c4, c5, c6] = some x) : ∃ (c : CondV) (m : CondMem), [c0, c1, c2, c3, c4, c5, c6] = [.int .i64 c.fr, .int .i64 c.till, .string c.pat, .slice m.A c.cl.length m.ca, .slice m.B c.co.length m.cb, .slice m.S c.si.length m.cs, .int .i64 c.us] ∧ CondReads W c m := by
 obtain ⟨ys, n', hn', hy, hlen, hyl, hg⟩ := DataW.trod_struct Tryz.underlying31 h
 have hyl2 : ys.length = 7 := hyl
 have h0 : DataW.trod enc Tryz.prog W base sp hd n' 3 [c0] = ys[0]? := hg 0 _ rfl
 have h1 : DataW.trod enc Tryz.prog W base sp hd n' 3 [c1] = ys[1]? := hg 1 _ rfl
 have h2 : DataW.trod enc Tryz.prog W base sp hd n' 9 [c2] = ys[2]? := hg 2 _ rfl
 have h3 : DataW.trod enc Tryz.prog W base sp hd n' 27 [c3] = ys[3]? := hg 3 _ rfl
 have h4 : DataW.trod enc Tryz.prog W base sp hd n' 27 [c4] = ys[4]? := hg 4 _ rfl
 have h5 : DataW.trod enc Tryz.prog W base sp hd n' 29 [c5] = ys[5]? := hg 5 _ rfl
 have h6 : DataW.trod enc Tryz.prog W base sp hd n' 3 [c6] = ys[6]? := hg 6 _ rfl
 rw [List.getElem?_eq_getElem (by omega)] at h0 h1 h2 h3 h4 h5 h6
 obtain ⟨fr, e0, _⟩ := DataW.trod_int Tryz.underlying3 h0
 obtain ⟨till, e1, _⟩ := DataW.trod_int Tryz.underlying3 h1
 obtain ⟨pat, e2, _⟩ := DataW.trod_string Tryz.underlying9 h2
 obtain ⟨us, e6, _⟩ := DataW.trod_int Tryz.underlying3 h6
 obtain ⟨A, na, ca, cl, rfl, l1, r1⟩ := strs_reads h3
 obtain ⟨B, nb, cb, co, rfl, l2, r2⟩ := strs_reads h4
 obtain ⟨S, ns, cs, si, rfl, l3, r3⟩ := ints_reads h5
 injection e0 with e0
 injection e1 with e1
 injection e2 with e2
 injection e6 with e6
 subst e0; subst e1; subst e2; subst e6; subst l1; subst l2; subst l3
 exact ⟨⟨fr, till, pat, cl, co, si, us⟩, ⟨A, ca, B, cb, S, cs⟩, rfl, ⟨r1, r2, r3⟩⟩
theorem rule_row {fuel : Nat} {cs : List Value} {x : DataW H × List MemPlace} (hl : cs.length = 18) (h : DataW.trod enc Tryz.prog W base sp hd fuel 33 cs = some x) : ∃ y : RuleM, cs = y.cells ∧ RuleReads W y ∧ RuleCaps y := by
 obtain ⟨ys, n', hn', hy, hlen, hyl, hg⟩ := DataW.trod_struct Tryz.underlying33 h
 match cs, hl with
 | [c0, c1, c2, c3, c4, c5, c6, c7, c8, c9, c10, c11, c12, c13, c14, c15, c16, c17], _ =>
  have hyl2 : ys.length = 12 := hyl
  have h0 : DataW.trod enc Tryz.prog W base sp hd n' 9 [c0] = ys[0]? := hg 0 _ rfl
  have h1 : DataW.trod enc Tryz.prog W base sp hd n' 9 [c1] = ys[1]? := hg 1 _ rfl
  have h2 : DataW.trod enc Tryz.prog W base sp hd n' 27 [c2] = ys[2]? := hg 2 _ rfl
  have h3 : DataW.trod enc Tryz.prog W base sp hd n' 3 [c3] = ys[3]? := hg 3 _ rfl
  have h4 : DataW.trod enc Tryz.prog W base sp hd n' 3 [c4] = ys[4]? := hg 4 _ rfl
  have h5 : DataW.trod enc Tryz.prog W base sp hd n' 3 [c5] = ys[5]? := hg 5 _ rfl
  have h6 : DataW.trod enc Tryz.prog W base sp hd n' 3 [c6] = ys[6]? := hg 6 _ rfl
  have h7 : DataW.trod enc Tryz.prog W base sp hd n' 28 [c7] = ys[7]? := hg 7 _ rfl
  have h8 : DataW.trod enc Tryz.prog W base sp hd n' 31 [c8, c9, c10, c11, c12, c13, c14] = ys[8]? := hg 8 _ rfl
  have h9 : DataW.trod enc Tryz.prog W base sp hd n' 4 [c15] = ys[9]? := hg 9 _ rfl
  have h10 : DataW.trod enc Tryz.prog W base sp hd n' 3 [c16] = ys[10]? := hg 10 _ rfl
  have h11 : DataW.trod enc Tryz.prog W base sp hd n' 9 [c17] = ys[11]? := hg 11 _ rfl
  rw [List.getElem?_eq_getElem (by omega)] at h0 h1 h2 h3 h4 h5 h6 h7 h8 h9 h10 h11
  obtain ⟨nm, e0, _⟩ := DataW.trod_string Tryz.underlying9 h0
  obtain ⟨pa, e1, _⟩ := DataW.trod_string Tryz.underlying9 h1
  obtain ⟨T, nt, ct, ts, rfl, l2, r2⟩ := strs_reads h2
  have k2 := slice_cap Tryz.underlying27 h2
  obtain ⟨fr, e3, _⟩ := DataW.trod_int Tryz.underlying3 h3
  obtain ⟨st, e4, _⟩ := DataW.trod_int Tryz.underlying3 h4
  obtain ⟨dn, e5, _⟩ := DataW.trod_int Tryz.underlying3 h5
  obtain ⟨ng, e6, _⟩ := DataW.trod_int Tryz.underlying3 h6
  obtain ⟨V, nv, cv, L, e7, l7, r7, k7⟩ := rows_reads (by decide) Tryz.underlying28 cellsVa VaryM.cells (fun y => VaryReads W y ∧ y.v.values.length ≤ y.c) (fun a => a.cells_len) (fun f cs x hl h => vary_row hl h) h7
  subst e7
  have kv := slice_cap Tryz.underlying28 h7
  obtain ⟨c, m, e8, r8⟩ := cond_row h8
  obtain ⟨sg, e9, _⟩ := DataW.trod_bool Tryz.underlying4 h9
  obtain ⟨co, e10, _⟩ := DataW.trod_int Tryz.underlying3 h10
  obtain ⟨pg, e11, _⟩ := DataW.trod_string Tryz.underlying9 h11
  simp only [List.cons.injEq, and_true] at e0 e1 e3 e4 e5 e6 e8 e9 e10 e11
  obtain ⟨f0, f1, f2, f3, f4, f5, f6⟩ := e8
  subst e0 e1 e3 e4 e5 e6 e10 e11 f0 f1 f2 f3 f4 f5 f6 l2 l7
  refine ⟨⟨⟨nm, pa, ts, fr, st, dn, ng, L.map (·.v), c, sg, co, pg⟩, T, ct, V, cv, L, m⟩, ?_, ⟨r2, ?_, rfl, fun y hy => (k7 y hy).1, r8⟩, ⟨k2, fun y hy => (k7 y hy).2, by show (L.map (·.v)).length ≤ cv; rw [List.length_map]; exact kv⟩⟩
  ·simp [RuleM.cells, e9]
  ·show Reads W 3 V (L.map (·.v)).length _
   rw [List.length_map]; exact r7
end
end Go.Proofs.YtjhlpkhfdghngaaGreatDoor
namespace Go.Proofs.YtjhlpkhfdghngaaGreatDoor
open Go.RowKit Go.Sort
set_option linter.unusedVariables false
set_option linter.unusedSimpArgs false
set_option maxRecDepth 100000
section
variable {H : Type} {enc : TypeId × Value → H} {W : World} {base : Nat} {sp : Nat → Bool} {hd : Bool}
theorem open_rulesC {r : Reach} {b0 : Nat} {v : Value} {d : DataW H} {ps : List MemPlace} (hval : Value.okWide Tryz.prog W r b0 22 v) (h : DataW.Trod enc Tryz.prog W base sp hd 22 v d ps) :
  ∃ (A : Option Addr) (n c : Nat) (L : List RuleM), v = .slice A n c ∧ RulesRead W A n L ∧ n ≤ 9223372036854775807 ∧ (∀ x ∈ L, RuleCaps x) ∧ n ≤ c := by
 obtain ⟨fuel, hf⟩ := h
 obtain ⟨A, n, c, rfl⟩ := Go.WideShapes.okWide_slice Tryz.underlying22 hval
 have hf2 : DataW.trod enc Tryz.prog W base sp hd fuel 22 [.slice A n c] = some (d, ps) := by simpa [Value.cells] using hf
 obtain ⟨A', n', c', L, he, hl, hr, hx⟩ := rows_reads (v := .slice A n c) (by decide) Tryz.underlying22 cellsRu RuleM.cells (fun y => RuleReads W y ∧ RuleCaps y) (fun a => a.cells_len) (fun f cs x hl h => rule_row hl h) hf2
 injection he with e1 e2 e3
 subst e1; subst e2; subst e3
 exact ⟨A, n, c, L, rfl, ⟨hl, hr, fun x h => (hx x h).1⟩, slice_bound Tryz.underlying22 hf2, fun x h => (hx x h).2, slice_cap Tryz.underlying22 hf2⟩
end
end Go.Proofs.YtjhlpkhfdghngaaGreatDoor
namespace Go.Proofs.YtjhlpkhfdghngaaGreatDoor
open Go.RowKit Go.Sort
set_option linter.unusedVariables false
set_option linter.unusedSimpArgs false
set_option maxRecDepth 100000
theorem u8_range {n : Int} (h : (Lit.int .u8 n).wf = true) : 0 ≤ n ∧ n ≤ 255 := by
 unfold Lit.wf at h
 simp only [Bool.and_eq_true, decide_eq_true_eq] at h
 have h1 : IntKind.u8.min = 0 := rfl
 have h2 : IntKind.u8.max = 255 := rfl
 omega
end Go.Proofs.YtjhlpkhfdghngaaGreatDoor
