/- An argument that is a condition, or an ask, opened: what it reads as. -/
import Derived.Test.YtjhlpkhfdghngaaGreatDoorXZ10
import Derived.Test.YtjhlpkhfdghngaaGreatDoorXZ17
import Derived.Lib.SmallJoins
import Derived.Deep.Slices
import Derived.Deep.Fields
import Derived.Test.YtjhlpkhfdghngaaGreatDoorProg
import Derived.WalkKit
import Derived.WalkSpells
import Derived.WalkLawsBesides
import Derived.Below
import Derived.Deep.QuietTactic
import Derived.BigQuiet
import Derived.Lib.QuietBelow
import Derived.Lib.Strings
import Derived.Lib.Hide
import Derived.Deep.RegionWith
import Derived.Deep.RegionHeld3
import Derived.Lib.IndexBytes
import Derived.Test.YtjhlpkhfdghngaaGreatDoorXZ4
import Derived.Test.YtjhlpkhfdghngaaGreatDoorXZ13
import Derived.Test.YtjhlpkhfdghngaaGreatDoorCards
import Derived.Test.YtjhlpkhfdghngaaGreatDoorTie
import Derived.Test.YtjhlpkhfdghngaaGreatDoorXZ7
import Derived.ProofKit
import Derived.OpenShut
import Derived.Deep.DeepHandedRow
import Derived.Lib.LaidTab
import Derived.Stop.LaidErr
import Derived.Shelf.Vars
import Derived.Test.YtjhlpkhfdghngaaGreatDoorXZ6
namespace Go.Proofs.YtjhlpkhfdghngaaGreatDoor
open Go.RowKit Go.Sort
set_option linter.unusedVariables false
set_option linter.unusedSimpArgs false
set_option maxRecDepth 100000
theorem cellsS : Tryz.prog.cellsOf 9 = 1 := by kernel_rfl
theorem cellsI : Tryz.prog.cellsOf 3 = 1 := by kernel_rfl
theorem list_of {α : Type} {p : Nat → α → Prop} : ∀ n : Nat, (∀ i, i < n → ∃ x, p i x) → ∃ l : List α, l.length = n ∧ ∀ i x, l[i]? = some x → p i x
  | 0, _ => ⟨[], rfl, fun i x h => by simp at h⟩
  | n + 1, h => by
    obtain ⟨l, h1, h2⟩ := list_of n (fun i hi => h i (by omega))
    obtain ⟨x, hx⟩ := h n (by omega)
    refine ⟨l ++ [x], by simp [h1], fun i y hy => ?_⟩
    rw [List.getElem?_append] at hy
    split at hy
    · exact h2 i y hy
    · rename_i hn
      have hlt := (List.getElem?_eq_some_iff.1 hy).1
      simp at hlt
      have : i = n := by omega
      subst this
      rw [h1] at hy
      simp at hy
      subst hy
      exact hx
theorem plain_addr {w : World} {a : Addr} {v : Value} (h : w.cell? (a.add 0) = some v) : ∃ b o, a = ⟨b, o, none⟩ := by
  obtain ⟨b, o, s⟩ := a
  refine ⟨b, o, ?_⟩
  have e : (⟨b, o, s⟩ : Addr).add 0 = ⟨b, o, s⟩ := by simp [Addr.add]
  rw [e] at h
  cases s with
  | none => rfl
  | some s =>
    unfold World.cell? at h
    split at h <;> simp at h
theorem add_plain (b o j : Nat) : (⟨b, o, none⟩ : Addr).add j = ⟨b, o + j, none⟩ := by
  unfold Addr.add; split <;> simp_all
section
variable {H : Type} {enc : TypeId × Value → H} {W : World} {base : Nat} {sp : Nat → Bool} {hd : Bool}
theorem strs_reads {fuel : Nat} {v : Value} {x : DataW H × List MemPlace} (h : DataW.trod enc Tryz.prog W base sp hd fuel 27 [v] = some x) : ∃ (A : Option Addr) (n c : Nat) (xs : List ByteArray), v = .slice A n c ∧ xs.length = n ∧ Reads W 1 A n (xs.map .string) := by
  rcases Go.Deep.open_slice Tryz.underlying27 h with ⟨h0, _⟩ | ⟨a, len, cap, m, n, D, Pl, hcs, hb, hl, hm, hmm, hx, hi⟩
  · injection h0 with h0
    subst h0
    exact ⟨none, 0, 0, [], rfl, rfl, Reads.nil_ _ _ _⟩
  · injection hcs with hcs
    subst hcs
    have hlm : len ≤ m := by rw [hmm]; split <;> omega
    obtain ⟨xs, h1, h2⟩ := list_of (p := fun i (s : ByteArray) => W.cell? (a.add i) = some (.string s)) len (fun i hil => by
      obtain ⟨cs', hc, ht⟩ := hi i (by omega)
      rw [cellsS, Nat.mul_one] at hc
      obtain ⟨s, rfl, _, hs⟩ := DataW.trod_string Tryz.underlying9 ht
      have := (World.cells?_some hc).2.2 0 (by omega)
      exact ⟨s, by simpa [Addr.add] using this⟩)
    refine ⟨some a, len, cap, xs, rfl, h1, ⟨by simp [h1], fun hn => ?_⟩⟩
    obtain ⟨s0, hs0⟩ : ∃ s, xs[0]? = some s := ⟨_, List.getElem?_eq_getElem (by omega)⟩
    obtain ⟨b, o, rfl⟩ := plain_addr (h2 0 s0 hs0)
    refine ⟨b, o, rfl, fun j u hu => ?_⟩
    obtain ⟨s, hs, rfl⟩ := strs_at hu
    rw [← add_plain]
    exact h2 j s hs
theorem ints_reads {fuel : Nat} {v : Value} {x : DataW H × List MemPlace} (h : DataW.trod enc Tryz.prog W base sp hd fuel 29 [v] = some x) : ∃ (A : Option Addr) (n c : Nat) (xs : List Int), v = .slice A n c ∧ xs.length = n ∧ Reads W 1 A n (xs.map (.int .i64)) := by
  rcases Go.Deep.open_slice Tryz.underlying29 h with ⟨h0, _⟩ | ⟨a, len, cap, m, n, D, Pl, hcs, hb, hl, hm, hmm, hx, hi⟩
  · injection h0 with h0
    subst h0
    exact ⟨none, 0, 0, [], rfl, rfl, Reads.nil_ _ _ _⟩
  · injection hcs with hcs
    subst hcs
    have hlm : len ≤ m := by rw [hmm]; split <;> omega
    obtain ⟨xs, h1, h2⟩ := list_of (p := fun i (s : Int) => W.cell? (a.add i) = some (.int .i64 s)) len (fun i hil => by
      obtain ⟨cs', hc, ht⟩ := hi i (by omega)
      rw [cellsI, Nat.mul_one] at hc
      obtain ⟨s, rfl, _, hs⟩ := DataW.trod_int Tryz.underlying3 ht
      have := (World.cells?_some hc).2.2 0 (by omega)
      exact ⟨s, by simpa [Addr.add] using this⟩)
    refine ⟨some a, len, cap, xs, rfl, h1, ⟨by simp [h1], fun hn => ?_⟩⟩
    obtain ⟨s0, hs0⟩ : ∃ s, xs[0]? = some s := ⟨_, List.getElem?_eq_getElem (by omega)⟩
    obtain ⟨b, o, rfl⟩ := plain_addr (h2 0 s0 hs0)
    refine ⟨b, o, rfl, fun j u hu => ?_⟩
    obtain ⟨s, hs, rfl⟩ := ints_at hu
    rw [← add_plain]
    exact h2 j s hs
end
end Go.Proofs.YtjhlpkhfdghngaaGreatDoor
namespace Go.Proofs.YtjhlpkhfdghngaaGreatDoor
open Go.RowKit Go.Sort
set_option linter.unusedVariables false
set_option linter.unusedSimpArgs false
set_option maxRecDepth 100000
theorem cellsVa : Tryz.prog.cellsOf 99 = 3 := by kernel_rfl
theorem cellsRu : Tryz.prog.cellsOf 33 = 18 := by kernel_rfl
structure RuleCaps (x : RuleM) : Prop where
  t : x.r.tags.length ≤ x.ct
  v : ∀ y ∈ x.L, y.v.values.length ≤ y.c
section
variable {H : Type} {enc : TypeId × Value → H} {W : World} {base : Nat} {sp : Nat → Bool} {hd : Bool}
theorem rows_reads {α : Type} {t e : TypeId} {size : Nat} (hs : 0 < size) (ht : Tryz.prog.underlying t = some (.slice e)) (hc : Tryz.prog.cellsOf e = size) (cells : α → List Value) (R : α → Prop) (hlen : ∀ a, (cells a).length = size)
    (hrow : ∀ fuel cs x, cs.length = size → DataW.trod enc Tryz.prog W base sp hd fuel e cs = some x → ∃ a, cs = cells a ∧ R a) {fuel : Nat} {v : Value} {x : DataW H × List MemPlace} (h : DataW.trod enc Tryz.prog W base sp hd fuel t [v] = some x) :
    ∃ (A : Option Addr) (n c : Nat) (L : List α), v = .slice A n c ∧ L.length = n ∧ Reads W size A n (L.flatMap cells) ∧ ∀ a ∈ L, R a := by
  rcases Go.Deep.open_slice ht h with ⟨h0, _⟩ | ⟨a, len, cap, m, n, D, Pl, hcs, hb, hl, hm, hmm, hx, hi⟩
  · injection h0 with h0
    subst h0
    exact ⟨none, 0, 0, [], rfl, rfl, Reads.nil_ _ _ _, fun a ha => by cases ha⟩
  · injection hcs with hcs
    subst hcs
    have hlm : len ≤ m := by rw [hmm]; split <;> omega
    obtain ⟨L, h1, h2⟩ := list_of (p := fun i (z : α) => (∀ j u, (cells z)[j]? = some u → W.cell? ((a.add (i * size)).add j) = some u) ∧ R z) len (fun i hil => by
      obtain ⟨cs', hcc, ht'⟩ := hi i (by omega)
      rw [hc] at hcc
      obtain ⟨_, hcl, hat⟩ := World.cells?_some hcc
      obtain ⟨z, rfl, hz⟩ := hrow _ _ _ hcl ht'
      refine ⟨z, fun j u hu => ?_, hz⟩
      have hj := (List.getElem?_eq_some_iff.1 hu).1
      rw [hlen z] at hj
      rw [hat j hj]; exact hu)
    refine ⟨some a, len, cap, L, rfl, h1, ⟨by rw [flat_len cells L (fun z _ => hlen z), h1], fun hn => ?_⟩, fun z hz => ?_⟩
    · obtain ⟨z0, hz0⟩ : ∃ z, L[0]? = some z := ⟨_, List.getElem?_eq_getElem (by omega)⟩
      have hu0 : (cells z0)[0]? = some ((cells z0)[0]'(by rw [hlen]; exact hs)) := List.getElem?_eq_getElem _
      obtain ⟨b, o, rfl⟩ := plain_addr (a := a) (w := W) (by have := (h2 0 z0 hz0).1 0 _ hu0; simpa [Addr.add] using this)
      refine ⟨b, o, rfl, fun j u hu => ?_⟩
      have hjl := (List.getElem?_eq_some_iff.1 hu).1
      rw [flat_len cells L (fun z _ => hlen z)] at hjl
      have hq : j / size < L.length := Nat.div_lt_of_lt_mul (by rw [Nat.mul_comm]; exact hjl)
      obtain ⟨z, hz⟩ : ∃ z, L[j / size]? = some z := ⟨_, List.getElem?_eq_getElem hq⟩
      have hr : j % size < size := Nat.mod_lt _ hs
      have hj : j / size * size + j % size = j := by rw [Nat.mul_comm]; exact Nat.div_add_mod j size
      have h3 := flat_at cells L (fun z _ => hlen z) (j / size) (j % size) z hz hr
      rw [hj, hu] at h3
      have h4 := (h2 (j / size) z hz).1 (j % size) u h3.symm
      rw [add_plain, add_plain, Nat.add_assoc, hj] at h4
      exact h4
    · obtain ⟨i, hi2, rfl⟩ := List.getElem_of_mem hz
      exact (h2 i _ (List.getElem?_eq_getElem hi2)).2
theorem slice_cap {t e : TypeId} (ht : Tryz.prog.underlying t = some (.slice e)) {A : Option Addr} {n c : Nat} {fuel : Nat} {x : DataW H × List MemPlace} (h : DataW.trod enc Tryz.prog W base sp hd fuel t [.slice A n c] = some x) : n ≤ c := by
  rcases Go.Deep.open_slice ht h with ⟨h0, _⟩ | ⟨a, len, cap, m, k, D, Pl, hcs, _, hl, hm, _⟩
  · injection h0 with h0
    injection h0 with h1 h2 h3
    omega
  · injection hcs with hcs
    injection hcs with h1 h2 h3
    omega
theorem vary_row {fuel : Nat} {cs : List Value} {x : DataW H × List MemPlace} (hl : cs.length = 3) (h : DataW.trod enc Tryz.prog W base sp hd fuel 99 cs = some x) : ∃ y : VaryM, cs = y.cells ∧ VaryReads W y ∧ y.v.values.length ≤ y.c := by
  obtain ⟨ys, n', hn', hy, hlen, hyl, hg⟩ := DataW.trod_struct Tryz.underlying99 h
  match cs, hl with
  | [c0, c1, c2], _ =>
    have hyl2 : ys.length = 3 := hyl
    have h0 : DataW.trod enc Tryz.prog W base sp hd n' 9 [c0] = ys[0]? := hg 0 _ rfl
    have h1 : DataW.trod enc Tryz.prog W base sp hd n' 27 [c1] = ys[1]? := hg 1 _ rfl
    have h2 : DataW.trod enc Tryz.prog W base sp hd n' 9 [c2] = ys[2]? := hg 2 _ rfl
    rw [List.getElem?_eq_getElem (by omega)] at h0 h1 h2
    obtain ⟨hdr, e0, _⟩ := DataW.trod_string Tryz.underlying9 h0
    obtain ⟨A, n, c, vs, rfl, l1, r1⟩ := strs_reads h1
    have k1 := slice_cap Tryz.underlying27 h1
    obtain ⟨df, e2, _⟩ := DataW.trod_string Tryz.underlying9 h2
    injection e0 with e0
    injection e2 with e2
    subst e0; subst e2; subst l1
    exact ⟨⟨⟨hdr, vs, df⟩, A, c⟩, rfl, r1, k1⟩
theorem cond_row {fuel : Nat} {c0 c1 c2 c3 c4 c5 c6 : Value} {x : DataW H × List MemPlace} (h : DataW.trod enc Tryz.prog W base sp hd fuel 31 [c0, c1, c2, c3, c4, c5, c6] = some x) : ∃ (c : CondV) (m : CondMem), [c0, c1, c2, c3, c4, c5, c6] = [.int .i64 c.fr, .int .i64 c.till, .string c.pat, .slice m.A c.cl.length m.ca, .slice m.B c.co.length m.cb, .slice m.S c.si.length m.cs, .int .i64 c.us] ∧ CondReads W c m := by
  obtain ⟨ys, n', hn', hy, hlen, hyl, hg⟩ := DataW.trod_struct Tryz.underlying31 h
  have hyl2 : ys.length = 7 := hyl
  have h0 : DataW.trod enc Tryz.prog W base sp hd n' 3 [c0] = ys[0]? := hg 0 _ rfl
  have h1 : DataW.trod enc Tryz.prog W base sp hd n' 3 [c1] = ys[1]? := hg 1 _ rfl
  have h2 : DataW.trod enc Tryz.prog W base sp hd n' 9 [c2] = ys[2]? := hg 2 _ rfl
  have h3 : DataW.trod enc Tryz.prog W base sp hd n' 27 [c3] = ys[3]? := hg 3 _ rfl
  have h4 : DataW.trod enc Tryz.prog W base sp hd n' 27 [c4] = ys[4]? := hg 4 _ rfl
  have h5 : DataW.trod enc Tryz.prog W base sp hd n' 29 [c5] = ys[5]? := hg 5 _ rfl
  have h6 : DataW.trod enc Tryz.prog W base sp hd n' 3 [c6] = ys[6]? := hg 6 _ rfl
  rw [List.getElem?_eq_getElem (by omega)] at h0 h1 h2 h3 h4 h5 h6
  obtain ⟨fr, e0, _⟩ := DataW.trod_int Tryz.underlying3 h0
  obtain ⟨till, e1, _⟩ := DataW.trod_int Tryz.underlying3 h1
  obtain ⟨pat, e2, _⟩ := DataW.trod_string Tryz.underlying9 h2
  obtain ⟨us, e6, _⟩ := DataW.trod_int Tryz.underlying3 h6
  obtain ⟨A, na, ca, cl, rfl, l1, r1⟩ := strs_reads h3
  obtain ⟨B, nb, cb, co, rfl, l2, r2⟩ := strs_reads h4
  obtain ⟨S, ns, cs, si, rfl, l3, r3⟩ := ints_reads h5
  injection e0 with e0
  injection e1 with e1
  injection e2 with e2
  injection e6 with e6
  subst e0; subst e1; subst e2; subst e6; subst l1; subst l2; subst l3
  exact ⟨⟨fr, till, pat, cl, co, si, us⟩, ⟨A, ca, B, cb, S, cs⟩, rfl, ⟨r1, r2, r3⟩⟩
theorem rule_row {fuel : Nat} {cs : List Value} {x : DataW H × List MemPlace} (hl : cs.length = 18) (h : DataW.trod enc Tryz.prog W base sp hd fuel 33 cs = some x) : ∃ y : RuleM, cs = y.cells ∧ RuleReads W y ∧ RuleCaps y := by
  obtain ⟨ys, n', hn', hy, hlen, hyl, hg⟩ := DataW.trod_struct Tryz.underlying33 h
  match cs, hl with
  | [c0, c1, c2, c3, c4, c5, c6, c7, c8, c9, c10, c11, c12, c13, c14, c15, c16, c17], _ =>
    have hyl2 : ys.length = 12 := hyl
    have h0 : DataW.trod enc Tryz.prog W base sp hd n' 9 [c0] = ys[0]? := hg 0 _ rfl
    have h1 : DataW.trod enc Tryz.prog W base sp hd n' 9 [c1] = ys[1]? := hg 1 _ rfl
    have h2 : DataW.trod enc Tryz.prog W base sp hd n' 27 [c2] = ys[2]? := hg 2 _ rfl
    have h3 : DataW.trod enc Tryz.prog W base sp hd n' 3 [c3] = ys[3]? := hg 3 _ rfl
    have h4 : DataW.trod enc Tryz.prog W base sp hd n' 3 [c4] = ys[4]? := hg 4 _ rfl
    have h5 : DataW.trod enc Tryz.prog W base sp hd n' 3 [c5] = ys[5]? := hg 5 _ rfl
    have h6 : DataW.trod enc Tryz.prog W base sp hd n' 3 [c6] = ys[6]? := hg 6 _ rfl
    have h7 : DataW.trod enc Tryz.prog W base sp hd n' 28 [c7] = ys[7]? := hg 7 _ rfl
    have h8 : DataW.trod enc Tryz.prog W base sp hd n' 31 [c8, c9, c10, c11, c12, c13, c14] = ys[8]? := hg 8 _ rfl
    have h9 : DataW.trod enc Tryz.prog W base sp hd n' 4 [c15] = ys[9]? := hg 9 _ rfl
    have h10 : DataW.trod enc Tryz.prog W base sp hd n' 3 [c16] = ys[10]? := hg 10 _ rfl
    have h11 : DataW.trod enc Tryz.prog W base sp hd n' 9 [c17] = ys[11]? := hg 11 _ rfl
    rw [List.getElem?_eq_getElem (by omega)] at h0 h1 h2 h3 h4 h5 h6 h7 h8 h9 h10 h11
    obtain ⟨nm, e0, _⟩ := DataW.trod_string Tryz.underlying9 h0
    obtain ⟨pa, e1, _⟩ := DataW.trod_string Tryz.underlying9 h1
    obtain ⟨T, nt, ct, ts, rfl, l2, r2⟩ := strs_reads h2
    have k2 := slice_cap Tryz.underlying27 h2
    obtain ⟨fr, e3, _⟩ := DataW.trod_int Tryz.underlying3 h3
    obtain ⟨st, e4, _⟩ := DataW.trod_int Tryz.underlying3 h4
    obtain ⟨dn, e5, _⟩ := DataW.trod_int Tryz.underlying3 h5
    obtain ⟨ng, e6, _⟩ := DataW.trod_int Tryz.underlying3 h6
    obtain ⟨V, nv, cv, L, rfl, l7, r7, k7⟩ := rows_reads (by decide) Tryz.underlying28 cellsVa VaryM.cells (fun y => VaryReads W y ∧ y.v.values.length ≤ y.c) (fun a => a.cells_len) (fun f cs x hl h => vary_row hl h) h7
    obtain ⟨c, m, e8, r8⟩ := cond_row h8
    obtain ⟨sg, e9, _⟩ := DataW.trod_bool Tryz.underlying4 h9
    obtain ⟨co, e10, _⟩ := DataW.trod_int Tryz.underlying3 h10
    obtain ⟨pg, e11, _⟩ := DataW.trod_string Tryz.underlying9 h11
    simp only [List.cons.injEq, and_true] at e0 e1 e3 e4 e5 e6 e8 e9 e10 e11
    obtain ⟨f0, f1, f2, f3, f4, f5, f6⟩ := e8
    subst e0 e1 e3 e4 e5 e6 e10 e11 f0 f1 f2 f3 f4 f5 f6 l2 l7
    refine ⟨⟨⟨nm, pa, ts, fr, st, dn, ng, L.map (·.v), c, sg, co, pg⟩, T, ct, V, cv, L, m⟩, ?_, ⟨r2, ?_, rfl, fun y hy => (k7 y hy).1, r8⟩, ⟨k2, fun y hy => (k7 y hy).2⟩⟩
    · simp [RuleM.cells, e9]
    · show Reads W 3 V (L.map (·.v)).length _
      rw [List.length_map]; exact r7
end
end Go.Proofs.YtjhlpkhfdghngaaGreatDoor
namespace Go.Proofs.YtjhlpkhfdghngaaGreatDoor
open Go.RowKit Go.Sort
set_option linter.unusedVariables false
set_option linter.unusedSimpArgs false
set_option maxRecDepth 100000
theorem checkL_ok (cust : ByteArray) : ∀ (l : List RuleV) (seen : List ByteArray), checkL cust l seen = 0 → ∀ r ∈ l, validR r = true
  | [], _, _, r, hr => by cases hr
  | x :: l, seen, h, r, hr => by
    unfold checkL at h
    split at h
    · exact absurd h (by decide)
    · rename_i h1
      split at h
      · exact absurd h (by decide)
      · split at h
        · exact absurd h (by decide)
        · rcases List.mem_cons.1 hr with rfl | hr
          · simpa using h1
          · exact checkL_ok cust l _ h r hr
theorem checkP_ok {cust : ByteArray} {party : Int} {l : List RuleV} (h : checkP cust party l = 0) : 1 ≤ party ∧ party ≤ 1073741824 ∧ ∀ r ∈ l, validR r = true := by
  unfold checkP at h
  split at h
  · exact absurd h (by decide)
  · rename_i h1
    split at h
    · exact absurd h (by decide)
    · have h2 := checkL_ok cust l [] h
      rw [not_or, not_or] at h1
      exact ⟨by omega, by omega, h2⟩
theorem nameok_of {x : RuleM} (hv : validR x.r = true) (hf : fewR x.r = true) (hc : RuleCaps x) : NameOk x := by
  have hfa : fewV x.r.allow = true := by
    unfold fewR at hf
    simp only [Bool.and_eq_true] at hf
    exact hf.1.1.2
  have hok := rule_ok hv
  refine ⟨hok, fewR_fits hf, hc.t, hc.v, ?_⟩
  unfold textE
  rw [if_pos hok.allow]
  exact Nat.le_trans (textC_size hok.allow hfa) (by decide)
theorem sum_lt (m : List Nat) : ∀ b ∈ Sha.sum m, b < 256 := by
  have hs := Sha.blocks_ok ((Sha.pad m).length / 64) Sha.st0 (Sha.pad m) Sha.st0_ok
  intro b hb
  unfold Sha.sum at hb
  generalize Sha.blocks ((Sha.pad m).length / 64) Sha.st0 (Sha.pad m) = s at *
  unfold Sha.out at hb
  simp only [List.mem_append] at hb
  rcases hb with ((((((hb | hb) | hb) | hb) | hb) | hb) | hb) | hb
  · exact Sha.bytes4_lt hs.a b hb
  · exact Sha.bytes4_lt hs.b b hb
  · exact Sha.bytes4_lt hs.c b hb
  · exact Sha.bytes4_lt hs.d b hb
  · exact Sha.bytes4_lt hs.e b hb
  · exact Sha.bytes4_lt hs.f b hb
  · exact Sha.bytes4_lt hs.g b hb
  · exact Sha.bytes4_lt hs.h b hb
theorem ofD_lt (tag : Nat) (ps : List (List Nat)) : ∀ b ∈ Sha.ofD tag ps, b < 256 := fun b hb => sum_lt _ b (List.mem_of_mem_take hb)
theorem b16 (d : List Nat) (hd : d.length = 16) (hl : ∀ x ∈ d, x < 256) (x y : Operand) (W : World) : (do eqGuard .eql 38 x y (.agg (b8 d).toArray) (.agg (b8 d).toArray); binOp .eql 38 (.agg (b8 d).toArray) (.agg (b8 d).toArray)).run Tryz.prog W = .ok (.bool true) W := by
  have hw : ∀ n : Nat, n < 256 → (Lit.int .u8 (n : Int)).wf = true := fun n h => by
    unfold Lit.wf
    have h1 : IntKind.u8.min = 0 := rfl
    have h2 : IntKind.u8.max = 255 := rfl
    simp only [Bool.and_eq_true, decide_eq_true_eq]
    omega
  match d, hd, hl with
  | [a0, a1, a2, a3, a4, a5, a6, a7, a8, a9, a10, a11, a12, a13, a14, a15], _, hl =>
    exact dig_same a0 a1 a2 a3 a4 a5 a6 a7 a8 a9 a10 a11 a12 a13 a14 a15 (hw a0 (hl a0 (by simp))) (hw a1 (hl a1 (by simp))) (hw a2 (hl a2 (by simp))) (hw a3 (hl a3 (by simp))) (hw a4 (hl a4 (by simp))) (hw a5 (hl a5 (by simp))) (hw a6 (hl a6 (by simp))) (hw a7 (hl a7 (by simp))) (hw a8 (hl a8 (by simp))) (hw a9 (hl a9 (by simp))) (hw a10 (hl a10 (by simp))) (hw a11 (hl a11 (by simp))) (hw a12 (hl a12 (by simp))) (hw a13 (hl a13 (by simp))) (hw a14 (hl a14 (by simp))) (hw a15 (hl a15 (by simp))) x y W
end Go.Proofs.YtjhlpkhfdghngaaGreatDoor
namespace Go.Proofs.YtjhlpkhfdghngaaGreatDoor
open Go.RowKit Go.Sort
set_option linter.unusedVariables false
set_option linter.unusedSimpArgs false
set_option maxRecDepth 100000
theorem infPol : (Tryz.prog.info? 24).map (·.size) = some 3 := by kernel_rfl
theorem Box1.pol {W : World} {g : Nat} {cust : ByteArray} {party : Int} {A : Option Addr} {n c : Nat} (h : Box1 W g 24 #[.string cust, .int .i64 party, .slice A n c]) : (loadVar 24 ⟨g, 0, none⟩).run Tryz.prog W = .ok (.agg #[.string cust, .int .i64 party, .slice A n c]) W :=
  run_loadVar_row (P := Tryz.prog) W g _ 24 _ _ _ h Tryz.underlying24 rfl infPol
set_option maxHeartbeats 8000000 in
theorem lawCk (cust : ByteArray) (party : Int) (A : Option Addr) (n c : Nat) (L : List RuleM) (w : World) (hL : RulesRead w A n L) (hn : n ≤ 9223372036854775807) (hcp : ∀ x ∈ L, RuleCaps x) (hE : LEnv w) (hK2 : Ks2 w) : Calls Tryz.prog 3 #[.agg #[.string cust, .int .i64 party, .slice A n c]] w (Ret w (.bool true)) := by
  have hfw := fun W (hb : Below w.heap.size w W) => rFewRules22_any (fun x => fewR x.r) A n c L 12 W (hL.keep hb) hn (fun x hx W' hb' => rFew22_any x W' ((hL.each x hx).keep (bstep hb hb')))
  have hfa := fun (h : (L.all (fun x => fewR x.r) && decide ((n : Int) ≤ 12)) = true) => few_all hL h
  have HF := Lib.hid hfw; have HE := Lib.hid hE
  clear hfw hE
  cases h1 : (L.all (fun x => fewR x.r) && decide ((n : Int) ≤ 12))
  · rw [h1] at HF
    clear hfa h1 hL hcp
    go_enter Tryz.func3, Tryz.ntmps3
    go_upto_region 1 with fail
    generalize hw0 : World.alloc _ _ = w0
    have hS : CkS w #[.string cust, .int .i64 party, .slice A n c] w0 := by
      rw [← hw0]
      exact ⟨heap_alloc_new w _, belB⟩
    clear hw0
    have y0 := hS.p.cell (k := 0) (v := .string cust) rfl; have y2 := hS.p.cell (k := 2) (v := .slice A n c) rfl
    go_wp2_with (first | (go_at_call 10; refine (HF.out _ hS.b).mono ?_; (rintro e w' ⟨rfl, hb'⟩; replace hS := hS.keep hb'; clear hb'; have y0 := hS.p.cell (k := 0) (v := .string cust) rfl; have y2 := hS.p.cell (k := 2) (v := .slice A n c) rfl)) | (go_at_call 11; refine (sanL _ (HE.out.keep hS.b)).mono ?_; (rintro e w' ⟨rfl, hb'⟩; replace hS := hS.keep hb'; clear hb'; have y0 := hS.p.cell (k := 0) (v := .string cust) rfl; have y2 := hS.p.cell (k := 2) (v := .slice A n c) rfl)))
    go_ret
    exact ⟨rfl, hS.b⟩
  rw [h1] at HF
  obtain ⟨hfit, hn12, hrf⟩ := hfa h1
  have hall : ∀ x ∈ L, fewR x.r = true := by
    rw [Bool.and_eq_true, List.all_eq_true] at h1
    exact h1.1
  clear hfa h1
  by_cases h3 : cust.size ≤ 200
  rotate_left
  · have d3 : decide ((200 : Int) < (cust.size : Int)) = true := decide_eq_true (by omega)
    clear hL hfit hrf hcp hall
    go_enter Tryz.func3, Tryz.ntmps3
    go_upto_region 1 with fail
    generalize hw0 : World.alloc _ _ = w0
    have hS : CkS w #[.string cust, .int .i64 party, .slice A n c] w0 := by
      rw [← hw0]
      exact ⟨heap_alloc_new w _, belB⟩
    clear hw0
    have y0 := hS.p.cell (k := 0) (v := .string cust) rfl; have y2 := hS.p.cell (k := 2) (v := .slice A n c) rfl
    go_wp2_with (first | (go_at_call 10; refine (HF.out _ hS.b).mono ?_; (rintro e w' ⟨rfl, hb'⟩; replace hS := hS.keep hb'; clear hb'; have y0 := hS.p.cell (k := 0) (v := .string cust) rfl; have y2 := hS.p.cell (k := 2) (v := .slice A n c) rfl)) | (go_at_call 11; refine (sanL _ (HE.out.keep hS.b)).mono ?_; (rintro e w' ⟨rfl, hb'⟩; replace hS := hS.keep hb'; clear hb'; have y0 := hS.p.cell (k := 0) (v := .string cust) rfl; have y2 := hS.p.cell (k := 2) (v := .slice A n c) rfl)))
    go_ret
    exact ⟨rfl, hS.b⟩
  have d3 : decide ((200 : Int) < (cust.size : Int)) = false := decide_eq_false (by omega)
  have hv1 := fun (x : RuleM) (hx : x ∈ L) (W : World) (hb : Below w.heap.size w W) => polValid_any x W ((hL.each x hx).keep hb) (hfit x hx) (HE.out.e.keep hb)
  have hv2 := fun (x : RuleM) (hx : x ∈ L) (W : World) (hb : Below w.heap.size w W) => rValid22_any x W ((hL.each x hx).keep hb) (hfit x hx)
  have hc1 := fun (W : World) (hb : Below w.heap.size w W) => check_any cust party A n c L W (hL.keep hb) hfit (by omega) (HE.out.e.keep hb)
  have hc2 := fun (W : World) (hb : Below w.heap.size w W) => rCheck22_any cust party A n c L W (hL.keep hb) hfit (by omega)
  have hok : checkP cust party (L.map (·.r)) = 0 → (0 ≤ party ∧ party ≤ 9223372036854775807) ∧ ∀ x ∈ L, NameOk x := fun h => by
    obtain ⟨p1, p2, hv⟩ := checkP_ok h
    exact ⟨by omega, fun x hx => nameok_of (hv x.r (List.mem_map.2 ⟨x, hx, rfl⟩)) (hall x hx) (hcp x hx)⟩
  have hn1 := fun (h : checkP cust party (L.map (·.r)) = 0) (W : World) (hb : Below w.heap.size w W) => name_any cust party A n c L W (hL.keep hb) (hok h).2 (by omega) (by omega) ⟨by have := (hok h).1; omega, (hok h).1.2⟩ (HE.out.e.keep hb) (HE.out.t.keep hb) (HE.out.k.keep hb)
  have hn2 := fun (h : checkP cust party (L.map (·.r)) = 0) (W : World) (hb : Below w.heap.size w W) => rName22_any cust party A n c L W (hL.keep hb) (hok h).2 (by omega) (by omega) (hok h).1 (hK2.keep hb)
  have hdg := b16 (Sha.ofD 22 ((partsP cust party (L.map (·.r))).map nb)) rfl (ofD_lt 22 _)
  have hlen := hL.len
  unfold polV at hc1 hc2 hn1 hn2
  obtain ⟨ev, hev⟩ : ∃ ev, ev = checkP cust party (L.map (·.r)) := ⟨_, rfl⟩
  rw [← hev] at hc1 hc2 hn1 hn2
  generalize (b8 (Sha.ofD 22 ((partsP cust party (L.map (·.r))).map nb))).toArray = DG at *
  have HL := Lib.hid hL; have HM1 := Lib.hid hv1; have HM2 := Lib.hid hv2; have HC1 := Lib.hid hc1; have HC2 := Lib.hid hc2; have HNN1 := Lib.hid hn1; have HNN2 := Lib.hid hn2; have HDG := Lib.hid hdg; have HLN := Lib.hid hlen
  clear hL hv1 hv2 hc1 hc2 hn1 hn2 hdg hlen hfit hrf hok hall hcp hev
  go_enter Tryz.func3, Tryz.ntmps3
  go_upto_region 1 with fail
  generalize hw0 : World.alloc _ _ = w0
  have hS : CkS w #[.string cust, .int .i64 party, .slice A n c] w0 := by
    rw [← hw0]
    exact ⟨heap_alloc_new w _, belB⟩
  clear hw0
  have y0 := hS.p.cell (k := 0) (v := .string cust) rfl; have y2 := hS.p.cell (k := 2) (v := .slice A n c) rfl
  go_wp2_with (first | (go_at_call 10; refine (HF.out _ hS.b).mono ?_; (rintro e w' ⟨rfl, hb'⟩; replace hS := hS.keep hb'; clear hb'; have y0 := hS.p.cell (k := 0) (v := .string cust) rfl; have y2 := hS.p.cell (k := 2) (v := .slice A n c) rfl)))
  clear y0 y2
  go_loopw [20] (fun iv wr => ∃ k : Nat, k ≤ n ∧ iv = .int .i64 k ∧ Hid (CkS w #[.string cust, .int .i64 party, .slice A n c] wr)) (fun iv _ => n - (intOf iv).toNat)
  case atStart => exact ⟨0, by omega, rfl, Lib.hid hS⟩
  case round =>
    obtain ⟨k, hk, rfl, HS⟩ := hrel
    clear hS
    have hbr := HS.out.b
    by_cases hlt : k < n
    · obtain ⟨x, hx⟩ : ∃ x, L[k]? = some x := ⟨_, List.getElem?_eq_getElem (by have := HLN.out; omega)⟩
      obtain ⟨_, b, o, rfl, hcell⟩ := (HL.out.keep hbr).at_ hx
      have hld := rule_load wr b (o + k * 18) x hcell
      have hxm := List.mem_of_getElem? hx
      have hv1 := HM1.out x hxm
      have hv2 := HM2.out x hxm
      have hone : x.cells.toArray.all (·.oneCell') = true := by rw [List.all_toArray]; rfl
      have hsz2 : x.cells.toArray.size = 18 := by rw [List.size_toArray, x.cells_len]
      have hi18 : (Tryz.prog.info? 33).map (·.size) = some x.cells.toArray.size := by rw [hsz2]; exact infRule
      have hsz : x.cells.toArray.size = (#[.string ⟨#[]⟩, .string ⟨#[]⟩, .slice none 0 0, .int .i64 0, .int .i64 0, .int .i64 0, .int .i64 0, .slice none 0 0, .int .i64 0, .int .i64 0, .string ⟨#[]⟩, .slice none 0 0, .slice none 0 0, .slice none 0 0, .int .i64 0, .bool false, .int .i64 0, .string ⟨#[]⟩] : Array Value).size := by rw [hsz2]; rfl
      unfold RuleM.val at hld hv1 hv2
      generalize x.cells.toArray = X at *
      generalize validR x.r = mv at *
      have HLD := Lib.hid hld; have HV1 := Lib.hid hv1; have HV2 := Lib.hid hv2; have HON := Lib.hid hone; have HXS := Lib.hid hsz2; have HI18 := Lib.hid hi18; have HSZ := Lib.hid hsz
      clear hld hv1 hv2 hone hsz2 hi18 hsz hcell hx hxm
      have hk0 : (0 : Int) ≤ (k : Int) := by omega
      have hk1 : (k : Int) < (n : Int) := by omega
      go_upto_region 6 with (first | (refine wpList_load_addr rfl 33 _ rfl ⟨b, o + k * 18, none⟩ (.agg X) rfl HLD.out ?_) | (refine wpList_store_row rfl 33 _ _ rfl wr.heap.size X rfl rfl _ #[.string ⟨#[]⟩, .string ⟨#[]⟩, .slice none 0 0, .int .i64 0, .int .i64 0, .int .i64 0, .int .i64 0, .slice none 0 0, .int .i64 0, .int .i64 0, .string ⟨#[]⟩, .slice none 0 0, .slice none 0 0, .slice none 0 0, .int .i64 0, .bool false, .int .i64 0, .string ⟨#[]⟩] ((heap_alloc_new wr _).trans rfl) HI18.out HSZ.out.symm HON.out ?_; generalize hw6 : World.setRow _ _ _ = w6; have B6 : Box1 w6 wr.heap.size 33 X := (by rw [← hw6]; exact setRow_heap _ _ _ _ _ _ (heap_alloc_new wr _)); have hb6 : Below wr.heap.size wr w6 := (by rw [← hw6]; exact below_setRow ((Below.refl _ _).alloc (Nat.le_refl _) _) (Nat.le_refl _) _); clear hw6))
      have HB := Lib.hid (RuS.mk (w0 := wr) B6 hb6)
      clear B6 hb6
      refine wp_det 5 (by kernel_rfl) (by kernel_rfl) (by kernel_rfl) (fun i => [.agg X, .bool mv, .agg X, .bool mv, .bool false].getD i undef) (RuS wr.heap.size X wr) (HB.out.keep (Below.drew (Below.refl _ _))) (fun _ _ h hb => h.keep hb) ?_ ?_
      · simp only [putL, List.take_succ_cons, List.take_zero, List.drop_succ_cons, List.drop_zero, Act.put, List.setIfInBounds_toArray, List.set_cons_succ, List.set_cons_zero, List.getD_cons_zero, List.getD_cons_succ]
        refine ⟨fun W hS => ?_, fun W hS => ?_, fun W hS => ?_, fun W hS => ?_, fun W hS => ?_, trivial⟩
        all_goals
          go_wp2_with (first | (refine wpList_load_addr rfl 33 _ rfl ⟨wr.heap.size, 0, none⟩ (.agg X) rfl (hS.x.rule HXS.out) ?_) | (go_at_call 12; refine (HV1.out _ (bstep hbr hS.b)).mono ?_; rintro e w2 ⟨rfl, hb2⟩) | (go_at_call 13; refine (HV2.out _ (bstep hbr hS.b)).mono ?_; rintro e w2 ⟨rfl, hb2⟩))
          exact ⟨rfl, rfl, belB⟩
      intro w9 hS9
      simp only [putL, List.take_succ_cons, List.take_zero, List.drop_succ_cons, List.drop_zero, Act.put, List.setIfInBounds_toArray, List.set_cons_succ, List.set_cons_zero, List.getD_cons_zero, List.getD_cons_succ]
      have HS9 := Lib.hid (HS.out.keep hS9.b)
      go_wp2
      exact ⟨⟨k + 1, by omega, by go_num, HS9⟩, by simp [intOf]; omega⟩
    · have hS := HS.out
      by_cases he : ev = 0
      · subst he
        have HN1 := Lib.hid (HNN1.out rfl); have HN2 := Lib.hid (HNN2.out rfl)
        clear hbr HS HNN1 HNN2
        go_upto_region 10 with (first | (refine wpList_load_addr rfl 24 _ rfl ⟨w.heap.size, 0, none⟩ (.agg #[.string cust, .int .i64 party, .slice A n c]) rfl hS.p.pol ?_) | (go_at_call 14; refine (HC1.out _ hS.b).mono ?_; (rintro e w' ⟨rfl, hb'⟩; replace hS := hS.keep hb'; clear hb'; have y0 := hS.p.cell (k := 0) (v := .string cust) rfl; have y2 := hS.p.cell (k := 2) (v := .slice A n c) rfl)))
        clear y0 y2
        have HS := Lib.hid hS
        clear hS
        refine wp_det 18 (by kernel_rfl) (by kernel_rfl) (by kernel_rfl) (fun i => [.bool true, .bool true, .int .i64 0, .agg #[.string cust, .int .i64 party, .slice A n c], .int .i64 0, .bool true, .bool true, .bool true, .int .i64 0, .bool false, .bool false, .agg #[.string cust, .int .i64 party, .slice A n c], .agg DG, .agg #[.string cust, .int .i64 party, .slice A n c], .agg DG, .bool true, .bool true, .bool true].getD i undef) (CkS w #[.string cust, .int .i64 party, .slice A n c]) (HS.out.keep (Below.drew (Below.refl _ _))) (fun _ _ h hb => h.keep hb) ?_ ?_
        · simp only [putL, List.take_succ_cons, List.take_zero, List.drop_succ_cons, List.drop_zero, Act.put, List.setIfInBounds_toArray, List.set_cons_succ, List.set_cons_zero, List.getD_cons_zero, List.getD_cons_succ]
          refine ⟨fun W hS => ?_, fun W hS => ?_, fun W hS => ?_, fun W hS => ?_, fun W hS => ?_, fun W hS => ?_, fun W hS => ?_, fun W hS => ?_, fun W hS => ?_, fun W hS => ?_, fun W hS => ?_, fun W hS => ?_, fun W hS => ?_, fun W hS => ?_, fun W hS => ?_, fun W hS => ?_, fun W hS => ?_, fun W hS => ?_, trivial⟩
          all_goals
            have hbw := hS.b
            go_wp2_with (first
              | (go_big_want; first | (refine wp_load_addr 24 _ rfl ⟨w.heap.size, 0, none⟩ (.agg #[.string cust, .int .i64 party, .slice A n c]) rfl hS.p.pol ?_; simp only [Act.put, List.setIfInBounds_toArray, List.set_cons_succ, List.set_cons_zero]) | (refine wp_binOp_as .eql 38 _ _ _ rfl _ (HDG.out _ _ _) ?_; simp only [Act.put, List.setIfInBounds_toArray, List.set_cons_succ, List.set_cons_zero]))
              | (go_at_call 11; refine (sanL _ (HE.out.keep hbw)).mono ?_; rintro e w2 ⟨rfl, hb2⟩)
              | (go_at_call 15; refine (HC2.out _ hbw).mono ?_; rintro e w2 ⟨rfl, hb2⟩)
              | (go_at_call 16; refine (HN1.out _ hbw).mono ?_; rintro e w2 ⟨rfl, hb2⟩)
              | (go_at_call 17; refine (HN2.out _ hbw).mono ?_; rintro e w2 ⟨rfl, hb2⟩))
            exact ⟨rfl, rfl, belB⟩
        intro w9 hS9
        have hbE := hS9.b
        simp only [putL, List.take_succ_cons, List.take_zero, List.drop_succ_cons, List.drop_zero, Act.put, List.setIfInBounds_toArray, List.set_cons_succ, List.set_cons_zero, List.getD_cons_zero, List.getD_cons_succ]
        go_wp2
        go_ret
        exact ⟨rfl, hbE⟩
      · have e1 : (ev == 0) = false := beq_eq_false_iff_ne.2 he
        have e2 : (ev != 0) = true := bne_iff_ne.2 he
        have e3 : decide (ev = 0) = false := decide_eq_false he
        have HN1 : Hid True := Lib.hid trivial; have HN2 : Hid True := Lib.hid trivial
        clear hbr HS HNN1 HNN2
        go_upto_region 10 with (first | (refine wpList_load_addr rfl 24 _ rfl ⟨w.heap.size, 0, none⟩ (.agg #[.string cust, .int .i64 party, .slice A n c]) rfl hS.p.pol ?_) | (go_at_call 14; refine (HC1.out _ hS.b).mono ?_; (rintro e w' ⟨rfl, hb'⟩; replace hS := hS.keep hb'; clear hb'; have y0 := hS.p.cell (k := 0) (v := .string cust) rfl; have y2 := hS.p.cell (k := 2) (v := .slice A n c) rfl)))
        clear y0 y2
        have HS := Lib.hid hS
        clear hS
        refine wp_det 18 (by kernel_rfl) (by kernel_rfl) (by kernel_rfl) (fun i => [.bool true, .bool true, .int .i64 ev, .agg #[.string cust, .int .i64 party, .slice A n c], .int .i64 ev, .bool true, .bool true, .bool true, .int .i64 ev, .bool true, .bool true, undef, undef, undef, undef, undef, .bool true, .bool true].getD i undef) (CkS w #[.string cust, .int .i64 party, .slice A n c]) (HS.out.keep (Below.drew (Below.refl _ _))) (fun _ _ h hb => h.keep hb) ?_ ?_
        · simp only [putL, List.take_succ_cons, List.take_zero, List.drop_succ_cons, List.drop_zero, Act.put, List.setIfInBounds_toArray, List.set_cons_succ, List.set_cons_zero, List.getD_cons_zero, List.getD_cons_succ]
          refine ⟨fun W hS => ?_, fun W hS => ?_, fun W hS => ?_, fun W hS => ?_, fun W hS => ?_, fun W hS => ?_, fun W hS => ?_, fun W hS => ?_, fun W hS => ?_, fun W hS => ?_, fun W hS => ?_, fun W hS => ?_, fun W hS => ?_, fun W hS => ?_, fun W hS => ?_, fun W hS => ?_, fun W hS => ?_, fun W hS => ?_, trivial⟩
          all_goals
            have hbw := hS.b
            go_wp2_with (first
              | (go_big_want; first | (refine wp_load_addr 24 _ rfl ⟨w.heap.size, 0, none⟩ (.agg #[.string cust, .int .i64 party, .slice A n c]) rfl hS.p.pol ?_; simp only [Act.put, List.setIfInBounds_toArray, List.set_cons_succ, List.set_cons_zero]) | (refine wp_binOp_as .eql 38 _ _ _ rfl _ (HDG.out _ _ _) ?_; simp only [Act.put, List.setIfInBounds_toArray, List.set_cons_succ, List.set_cons_zero]))
              | (go_at_call 11; refine (sanL _ (HE.out.keep hbw)).mono ?_; rintro e w2 ⟨rfl, hb2⟩)
              | (go_at_call 15; refine (HC2.out _ hbw).mono ?_; rintro e w2 ⟨rfl, hb2⟩)
              | (go_at_call 16; refine (HN1.out _ hbw).mono ?_; rintro e w2 ⟨rfl, hb2⟩)
              | (go_at_call 17; refine (HN2.out _ hbw).mono ?_; rintro e w2 ⟨rfl, hb2⟩))
            exact ⟨rfl, rfl, belB⟩
        intro w9 hS9
        have hbE := hS9.b
        simp only [putL, List.take_succ_cons, List.take_zero, List.drop_succ_cons, List.drop_zero, Act.put, List.setIfInBounds_toArray, List.set_cons_succ, List.set_cons_zero, List.getD_cons_zero, List.getD_cons_succ]
        go_wp2
        go_ret
        exact ⟨rfl, hbE⟩
end Go.Proofs.YtjhlpkhfdghngaaGreatDoor
namespace Go.Proofs.YtjhlpkhfdghngaaGreatDoor
open Go.ChangeShapes Go.WideShapes Go.ChangeAt Go.RowKit Go.ChangeMaps
theorem own : ownKnob Tryz.prog.godebug = none := by kernel_rfl
theorem laidOut : laidOutB Tryz.prog = true := by kernel_rfl
theorem env_of {W : World} (h : W.ShapedOpen Tryz.prog) : Env W :=
  Go.Proofs.cell_of_shapedOpen_int (zero := #[.int .i64 0]) (t := 3) h (of_decide_eq_true (by kernel_rfl)) (by kernel_rfl) rfl (by kernel_rfl) (by kernel_rfl) Tryz.underlying3
def laidCells (k : IntKind) (l : List Nat) : Obj → Obj
  | .cells _ t frozen => .cells (l.map fun (n : Nat) => Value.int k (n : Int)).toArray t frozen
  | o => o
def tabA : List Nat := [0, 1, 28, 2, 29, 14, 24, 3, 30, 22, 20, 15, 25, 17, 4, 8, 31, 27, 13, 23, 21, 19, 16, 7, 26, 12, 18, 6, 11, 5, 10, 9]
def tabB : List Nat := [0, 1, 56, 2, 57, 49, 28, 3, 61, 58, 42, 50, 38, 29, 17, 4, 62, 47, 59, 36, 45, 43, 51, 22, 53, 39, 33, 30, 24, 18, 12, 5, 63, 55, 48, 27, 60, 41, 37, 16, 46, 35, 44, 21, 52, 32, 23, 11, 54, 26, 40, 15, 34, 20, 31, 10, 25, 14, 19, 9, 13, 8, 7, 6]
def tabC : List Nat := [1, 10, 100, 1000, 10000, 100000, 1000000, 10000000, 100000000, 1000000000, 10000000000, 100000000000, 1000000000000, 10000000000000, 100000000000000, 1000000000000000, 10000000000000000, 100000000000000000, 1000000000000000000, 10000000000000000000]
noncomputable def laidWorld (os : Os) : World :=
  { World.holding Tryz.prog os ⟨#[], #[], []⟩ with heap := (((((World.holding Tryz.prog os ⟨#[], #[], []⟩).heap.modify 6 (laidCells .u8 tabA)).modify 7 (laidCells .u8 tabB)).modify 3 (laidCells .u64 tabC)).modify 5 (laidCells .u8 ([128, 191, 160, 191, 128, 159, 144, 191, 128, 143] ++ List.replicate 22 0))).modify 4 (laidCells .u8 Go.Pinned.utf8FirstZ) }
theorem tab_same : (Rows.laid_internal_strconv_uint64pow10 : DataW Unit) = Lib.tabData .u64 Lib.pow10Tab := by kernel_rfl
theorem tab_of {W : World} {d1 d2 : DataW Unit} {n1 n2 : String} {rest : List (String × DataW Unit)} (h : laidMet Tryz.prog ((n1, d1) :: (n2, d2) :: ("internal/strconv.uint64pow10", Rows.laid_internal_strconv_uint64pow10) :: rest) W) : Tab W := by
  have h2 := laidMet.tail (laidMet.tail h)
  rw [tab_same] at h2
  exact Lib.tabIs_of_head (g := 3) (by kernel_rfl) (by kernel_rfl) Tryz.underlying306 Tryz.underlying185 (by kernel_rfl) (by kernel_rfl) h2
end Go.Proofs.YtjhlpkhfdghngaaGreatDoor
namespace Go.Proofs.YtjhlpkhfdghngaaGreatDoor
open Go.ChangeShapes Go.WideShapes Go.ChangeAt Go.RowKit Go.ChangeMaps
def ksI : List Int := Sha.ks.map fun n : Nat => (n : Int)
noncomputable def laidWorldP (os : Os) : World :=
  { laidWorld os with heap := (laidWorld os).heap.modify 1 (laidCells .u32 Sha.ks) }
theorem ks_same : (Rows.laid_weirgate_hash_constants : DataW Unit) = Lib.tabData .u32 ksI := by kernel_rfl
theorem ks_of_tab {W : World} (h : Lib.TabIs Tryz.prog W "weirgate/hash.constants" .u32 ksI) : Ks W := by
  unfold Lib.TabIs World.var? at h
  rw [show Tryz.prog.globalNamed "weirgate/hash.constants" = some 1 by kernel_rfl] at h
  rw [Option.bind_some] at h
  split at h
  · rename_i cs t fr hc
    injection h with h
    refine ⟨t, fr, hc.trans ?_⟩
    rw [h]
    unfold ksI w32
    rw [List.map_map]
    rfl
  · cases h
end Go.Proofs.YtjhlpkhfdghngaaGreatDoor
namespace Go.Proofs.YtjhlpkhfdghngaaGreatDoor
open Go.ChangeShapes Go.WideShapes Go.ChangeAt Go.RowKit Go.ChangeMaps
noncomputable def laidWorldK (os : Os) : World :=
  { laidWorldP os with heap := (laidWorldP os).heap.modify 2 (laidCells .u32 Sha.ks) }
theorem ks2_same : (Rows.laid_weirgate_weirgateref02_constants : DataW Unit) = Lib.tabData .u32 ksI := by kernel_rfl
theorem ks2_of_tab {W : World} (h : Lib.TabIs Tryz.prog W "weirgate/weirgateref02.constants" .u32 ksI) : Ks2 W := by
  unfold Lib.TabIs World.var? at h
  rw [show Tryz.prog.globalNamed "weirgate/weirgateref02.constants" = some 2 by kernel_rfl] at h
  rw [Option.bind_some] at h
  split at h
  · rename_i cs t fr hc
    injection h with h
    refine ⟨t, fr, hc.trans ?_⟩
    rw [h]
    unfold ksI w32
    rw [List.map_map]
    rfl
  · cases h
theorem lenvK_of {W : World} {d1 d2 d4 : DataW Unit} {n1 n2 n4 : String} {rest : List (String × DataW Unit)} (hS : W.ShapedOpen Tryz.prog) (h : laidMet Tryz.prog ((n1, d1) :: (n2, d2) :: ("internal/strconv.uint64pow10", Rows.laid_internal_strconv_uint64pow10) :: (n4, d4) :: ("weirgate/weirgateref02.constants", Rows.laid_weirgate_weirgateref02_constants) :: ("weirgate/hash.constants", Rows.laid_weirgate_hash_constants) :: rest) W) : LEnv W ∧ Ks2 W := by
  have h2 := laidMet.tail (laidMet.tail (laidMet.tail (laidMet.tail h)))
  have h3 := laidMet.tail h2
  rw [ks2_same] at h2
  rw [ks_same] at h3
  exact ⟨⟨env_of hS, tab_of h, ks_of_tab (Lib.tabIs_of_head (g := 1) (by kernel_rfl) (by kernel_rfl) Tryz.underlying276 Tryz.underlying182 (by kernel_rfl) (by kernel_rfl) h3)⟩, ks2_of_tab (Lib.tabIs_of_head (g := 2) (by kernel_rfl) (by kernel_rfl) Tryz.underlying276 Tryz.underlying182 (by kernel_rfl) (by kernel_rfl) h2)⟩
end Go.Proofs.YtjhlpkhfdghngaaGreatDoor
namespace Go.Proofs.YtjhlpkhfdghngaaGreatDoor
open Go.RowKit Go.Sort
set_option linter.unusedVariables false
set_option linter.unusedSimpArgs false
set_option maxRecDepth 100000
section
variable {H : Type} {enc : TypeId × Value → H} {W : World} {base : Nat} {sp : Nat → Bool} {hd : Bool}
theorem slice_bound {t e : TypeId} (ht : Tryz.prog.underlying t = some (.slice e)) {A : Option Addr} {n c : Nat} {fuel : Nat} {x : DataW H × List MemPlace} (h : DataW.trod enc Tryz.prog W base sp hd fuel t [.slice A n c] = some x) : n ≤ 9223372036854775807 := by
  rcases Go.Deep.open_slice ht h with ⟨h0, _⟩ | ⟨a, len, cap, m, k, D, Pl, hcs, _, hl, hm, _⟩
  · injection h0 with h0
    injection h0 with h1 h2 h3
    omega
  · injection hcs with hcs
    injection hcs with h1 h2 h3
    unfold maxLen at hm
    omega
theorem cellsPol : Tryz.prog.cellsOf 24 = 3 := by kernel_rfl
theorem open_pol {r : Reach} {b0 : Nat} {v : Value} {d : DataW H} {ps : List MemPlace} (hval : Value.okWide Tryz.prog W r b0 24 v) (h : DataW.Trod enc Tryz.prog W base sp hd 24 v d ps) :
    ∃ (cu : ByteArray) (pa : Int) (A : Option Addr) (n c : Nat) (L : List RuleM), v = .agg #[.string cu, .int .i64 pa, .slice A n c] ∧ RulesRead W A n L ∧ n ≤ 9223372036854775807 ∧ ∀ x ∈ L, RuleCaps x := by
  obtain ⟨cs, rfl, hsz⟩ := Go.WideShapes.okWide_struct Tryz.underlying24 hval
  obtain ⟨l⟩ := cs
  obtain ⟨fuel, hf⟩ := h
  have hl : l.length = 3 := hsz.trans cellsPol
  obtain ⟨ys, n', hn', hy, hlen, hyl, hg⟩ := DataW.trod_struct Tryz.underlying24 hf
  match l, hl with
  | [c0, c1, c2], _ =>
    have hyl2 : ys.length = 3 := hyl
    have h0 : DataW.trod enc Tryz.prog W base sp hd n' 9 [c0] = ys[0]? := hg 0 _ rfl
    have h1 : DataW.trod enc Tryz.prog W base sp hd n' 3 [c1] = ys[1]? := hg 1 _ rfl
    have h2 : DataW.trod enc Tryz.prog W base sp hd n' 22 [c2] = ys[2]? := hg 2 _ rfl
    rw [List.getElem?_eq_getElem (by omega)] at h0 h1 h2
    obtain ⟨cu, e0, _⟩ := DataW.trod_string Tryz.underlying9 h0
    obtain ⟨pa, e1, _⟩ := DataW.trod_int Tryz.underlying3 h1
    obtain ⟨A, n, c, L, rfl, hl, hr, hx⟩ := rows_reads (by decide) Tryz.underlying22 cellsRu RuleM.cells (fun y => RuleReads W y ∧ RuleCaps y) (fun a => a.cells_len) (fun f cs x hl h => rule_row hl h) h2
    injection e0 with e0
    injection e1 with e1
    subst e0; subst e1
    exact ⟨cu, pa, A, n, c, L, rfl, ⟨hl, hr, fun x h => (hx x h).1⟩, slice_bound Tryz.underlying22 h2, fun x h => (hx x h).2⟩
def D16.cells (d : D16) : List Value := [.int .u8 d.a0, .int .u8 d.a1, .int .u8 d.a2, .int .u8 d.a3, .int .u8 d.a4, .int .u8 d.a5, .int .u8 d.a6, .int .u8 d.a7, .int .u8 d.a8, .int .u8 d.a9, .int .u8 d.a10, .int .u8 d.a11, .int .u8 d.a12, .int .u8 d.a13, .int .u8 d.a14, .int .u8 d.a15]
end
end Go.Proofs.YtjhlpkhfdghngaaGreatDoor
