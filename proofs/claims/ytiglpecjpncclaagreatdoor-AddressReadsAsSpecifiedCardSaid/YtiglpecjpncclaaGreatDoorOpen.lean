/- An argument that is an address, or a list of texts, opened: what it reads as. -/
import Derived.Test.YtiglpecjpncclaaGreatDoorSame
import Derived.Test.YtiglpecjpncclaaGreatDoorLaid
import Derived.Lib.SmallJoins
import Derived.Deep.Slices
import Derived.Test.YtiglpecjpncclaaGreatDoorProg
import Derived.WalkKit
import Derived.WalkSpells
import Derived.WalkLawsBesides
import Derived.Below
import Derived.Deep.QuietTactic
import Derived.BigQuiet
import Derived.Lib.QuietBelow
import Derived.Lib.Strings
import Derived.Lib.Hide
import Derived.Deep.RegionWith
import Derived.Deep.RegionHeld3
import Derived.Lib.IndexBytes
namespace Go.Proofs.YtiglpecjpncclaaGreatDoor
open Go.RowKit Go.Sort
set_option linter.unusedVariables false
set_option linter.unusedSimpArgs false
set_option maxRecDepth 100000
theorem cellsS : Tryz.prog.cellsOf 9 = 1 := by kernel_rfl
theorem cellsP : Tryz.prog.cellsOf 66 = 2 := by kernel_rfl
theorem cellsA : Tryz.prog.cellsOf 25 = 3 := by kernel_rfl
theorem list_of {α : Type} {p : Nat → α → Prop} : ∀ n : Nat, (∀ i, i < n → ∃ x, p i x) → ∃ l : List α, l.length = n ∧ ∀ i x, l[i]? = some x → p i x
  | 0, _ => ⟨[], rfl, fun i x h => by simp at h⟩
  | n + 1, h => by
    obtain ⟨l, h1, h2⟩ := list_of n (fun i hi => h i (by omega))
    obtain ⟨x, hx⟩ := h n (by omega)
    refine ⟨l ++ [x], by simp [h1], fun i y hy => ?_⟩
    rw [List.getElem?_append] at hy
    split at hy
    · exact h2 i y hy
    · rename_i hn
      have hlt := (List.getElem?_eq_some_iff.1 hy).1
      simp at hlt
      have : i = n := by omega
      subst this
      rw [h1] at hy
      simp at hy
      subst hy
      exact hx
theorem plain_addr {w : World} {a : Addr} {v : Value} (h : w.cell? (a.add 0) = some v) : ∃ b o, a = ⟨b, o, none⟩ := by
  obtain ⟨b, o, s⟩ := a
  refine ⟨b, o, ?_⟩
  have e : (⟨b, o, s⟩ : Addr).add 0 = ⟨b, o, s⟩ := by simp [Addr.add]
  rw [e] at h
  cases s with
  | none => rfl
  | some s =>
    unfold World.cell? at h
    split at h <;> simp at h
theorem add_plain (b o j : Nat) : (⟨b, o, none⟩ : Addr).add j = ⟨b, o + j, none⟩ := by
  unfold Addr.add; split <;> simp_all
section
variable {H : Type} {enc : TypeId × Value → H} {W : World} {base : Nat} {sp : Nat → Bool} {hd : Bool}
theorem strs_reads {fuel : Nat} {v : Value} {x : DataW H × List MemPlace} (h : DataW.trod enc Tryz.prog W base sp hd fuel 22 [v] = some x) : ∃ (A : Option Addr) (n c : Nat) (xs : List ByteArray), v = .slice A n c ∧ Reads W 1 A n (xs.map .string) ∧ n ≤ maxLen ∧ ∀ y ∈ xs, y.size ≤ maxLen := by
  rcases Go.Deep.open_slice Tryz.underlying22 h with ⟨h0, _⟩ | ⟨a, len, cap, m, n, D, Pl, hcs, hb, hl, hm, hmm, hx, hi⟩
  · injection h0 with h0
    subst h0
    exact ⟨none, 0, 0, [], rfl, Reads.nil_ _ _ _, Nat.zero_le _, by simp⟩
  · injection hcs with hcs
    subst hcs
    have hlm : len ≤ m := by rw [hmm]; split <;> omega
    obtain ⟨xs, h1, h2⟩ := list_of (p := fun i (s : ByteArray) => W.cell? (a.add i) = some (.string s) ∧ s.size ≤ maxLen) len (fun i hil => by
      obtain ⟨cs', hc, ht⟩ := hi i (by omega)
      rw [cellsS, Nat.mul_one] at hc
      obtain ⟨s, rfl, _, hs⟩ := DataW.trod_string Tryz.underlying9 ht
      have := (World.cells?_some hc).2.2 0 (by omega)
      exact ⟨s, by simpa [Addr.add] using this, hs⟩)
    refine ⟨some a, len, cap, xs, rfl, ⟨by simp [h1], fun hn => ?_⟩, Nat.le_trans hl hm, fun y hy => ?_⟩
    · obtain ⟨s0, hs0⟩ : ∃ s, xs[0]? = some s := ⟨_, List.getElem?_eq_getElem (by omega)⟩
      obtain ⟨b, o, rfl⟩ := plain_addr (h2 0 s0 hs0).1
      refine ⟨b, o, rfl, fun j u hu => ?_⟩
      obtain ⟨s, hs, rfl⟩ := strs_at hu
      rw [← add_plain]
      exact (h2 j s hs).1
    · obtain ⟨i, hi2, rfl⟩ := List.getElem_of_mem hy
      exact (h2 i _ (List.getElem?_eq_getElem hi2)).2
theorem pair_two {fuel : Nat} {cs : List Value} {x : DataW H × List MemPlace} (hl : cs.length = 2) (h : DataW.trod enc Tryz.prog W base sp hd fuel 66 cs = some x) : ∃ k v : ByteArray, cs = [.string k, .string v] := by
  obtain ⟨ys, n', hn', hy, hlen, hyl, hf⟩ := DataW.trod_struct Tryz.underlying66 h
  match cs, hl with
  | [c0, c1], _ =>
    have h0 : DataW.trod enc Tryz.prog W base sp hd n' 9 (List.take (Tryz.prog.cellsOf 9) (List.drop 0 [c0, c1])) = ys[0]? := hf 0 _ rfl
    have h1 : DataW.trod enc Tryz.prog W base sp hd n' 9 (List.take (Tryz.prog.cellsOf 9) (List.drop 1 [c0, c1])) = ys[1]? := hf 1 _ rfl
    rw [cellsS] at h0 h1
    simp only [List.drop_zero, List.drop_succ_cons, List.take_succ_cons, List.take_zero, Value.cells] at h0 h1
    have hyl2 : ys.length = 2 := hyl
    have e0 : ys[0]? = some (ys[0]'(by omega)) := List.getElem?_eq_getElem (by omega)
    have e1 : ys[1]? = some (ys[1]'(by omega)) := List.getElem?_eq_getElem (by omega)
    rw [e0] at h0
    rw [e1] at h1
    obtain ⟨k, hk, _⟩ := DataW.trod_string Tryz.underlying9 h0
    obtain ⟨v, hv, _⟩ := DataW.trod_string Tryz.underlying9 h1
    injection hk with hk
    injection hv with hv
    exact ⟨k, v, by rw [hk, hv]⟩
theorem pairs_reads {fuel : Nat} {v : Value} {x : DataW H × List MemPlace} (h : DataW.trod enc Tryz.prog W base sp hd fuel 23 [v] = some x) : ∃ (A : Option Addr) (n c : Nat) (qs : List (ByteArray × ByteArray)), v = .slice A n c ∧ Reads W 2 A n (pairCells qs) := by
  rcases Go.Deep.open_slice Tryz.underlying23 h with ⟨h0, _⟩ | ⟨a, len, cap, m, n, D, Pl, hcs, hb, hl, hm, hmm, hx, hi⟩
  · injection h0 with h0
    subst h0
    exact ⟨none, 0, 0, [], rfl, Reads.nil_ _ _ _⟩
  · injection hcs with hcs
    subst hcs
    have hlm : len ≤ m := by rw [hmm]; split <;> omega
    obtain ⟨qs, h1, h2⟩ := list_of (p := fun i (q : ByteArray × ByteArray) => W.cell? ((a.add (i * 2)).add 0) = some (.string q.1) ∧ W.cell? ((a.add (i * 2)).add 1) = some (.string q.2)) len (fun i hil => by
      obtain ⟨cs', hc, ht⟩ := hi i (by omega)
      rw [cellsP] at hc
      obtain ⟨_, hcl, hat⟩ := World.cells?_some hc
      obtain ⟨k, v, rfl⟩ := pair_two hcl ht
      exact ⟨(k, v), hat 0 (by omega), hat 1 (by omega)⟩)
    refine ⟨some a, len, cap, qs, rfl, ⟨by rw [pairCells_length, h1], fun hn => ?_⟩⟩
    obtain ⟨q0, hq0⟩ : ∃ q, qs[0]? = some q := ⟨_, List.getElem?_eq_getElem (by omega)⟩
    obtain ⟨b, o, rfl⟩ := plain_addr (a := a) (w := W) (by have := (h2 0 q0 hq0).1; simpa [Addr.add] using this)
    refine ⟨b, o, rfl, fun j u hu => ?_⟩
    have hjl := (List.getElem?_eq_some_iff.1 hu).1
    rw [pairCells_length] at hjl
    obtain ⟨q, hq⟩ : ∃ q, qs[j / 2]? = some q := ⟨_, List.getElem?_eq_getElem (by omega)⟩
    obtain ⟨e1, e2⟩ := pairCells_at qs (j / 2) q hq
    have h3 := h2 (j / 2) q hq
    rw [add_plain, add_plain, add_plain] at h3
    rcases Nat.mod_two_eq_zero_or_one j with hj | hj
    · have ej : j / 2 * 2 = j := by omega
      rw [ej] at e1 h3
      rw [e1] at hu; injection hu with hu; subst hu
      exact h3.1
    · have ej : j / 2 * 2 + 1 = j := by omega
      rw [ej] at e2
      rw [e2] at hu; injection hu with hu; subst hu
      rw [show o + j = o + j / 2 * 2 + 1 by omega]
      exact h3.2
theorem open_adr {r : Reach} {b0 : Nat} {v : Value} {d : DataW H} {ps : List MemPlace} (hval : Value.okWide Tryz.prog W r b0 25 v) (h : DataW.Trod enc Tryz.prog W base sp hd 25 v d ps) :
    ∃ (c : ByteArray) (P : Option Addr) (np cp : Nat) (Q : Option Addr) (nq cq : Nat) (xs : List ByteArray) (qs : List (ByteArray × ByteArray)), v = .agg #[.string c, .slice P np cp, .slice Q nq cq] ∧ Reads W 1 P np (xs.map .string) ∧ Reads W 2 Q nq (pairCells qs) ∧ c.size ≤ maxLen ∧ True := by
  obtain ⟨v0, v1, v2, y0, y1, y2, n, rfl, _, _, h0, h1, h2⟩ := Go.Joins.open_agg3 Tryz.underlying25 (by kernel_rfl) cellsA hval h
  obtain ⟨c, hc, _, hcz⟩ := DataW.trod_string Tryz.underlying9 h0
  injection hc with hc
  subst hc
  obtain ⟨P, np, cp, xs, rfl, hP, _⟩ := strs_reads h1
  obtain ⟨Q, nq, cq, qs, rfl, hQ⟩ := pairs_reads h2
  exact ⟨c, P, np, cp, Q, nq, cq, xs, qs, rfl, hP, hQ, hcz, trivial⟩
theorem open_strs {r : Reach} {b0 : Nat} {v : Value} {d : DataW H} {ps : List MemPlace} (hval : Value.okWide Tryz.prog W r b0 22 v) (h : DataW.Trod enc Tryz.prog W base sp hd 22 v d ps) :
    ∃ (A : Option Addr) (n c : Nat) (xs : List ByteArray), v = .slice A n c ∧ Reads W 1 A n (xs.map .string) ∧ ∀ y ∈ xs, y.size ≤ maxLen := by
  obtain ⟨fuel, hf⟩ := h
  obtain ⟨A, n, c, rfl⟩ := Go.WideShapes.okWide_slice Tryz.underlying22 hval
  obtain ⟨A', n', c', xs, he, hR, hn, hz⟩ := strs_reads (v := .slice A n c) (by simpa [Value.cells] using hf)
  injection he with e1 e2 e3
  subst e1; subst e2; subst e3
  exact ⟨A, n, c, xs, rfl, hR, hz⟩
end

end Go.Proofs.YtiglpecjpncclaaGreatDoor
