/- Plain: what patterns match, cover and have in common; the string of a pattern. -/
import Derived.Test.YtocgkpdolgnbgaaGreatDoorPGC
import Derived.Test.YtocgkpdolgnbgaaGreatDoorPCommon
import Derived.Test.YtocgkpdolgnbgaaGreatDoorProg
import Derived.WalkKit
import Derived.WalkSpells
import Derived.WalkLawsBesides
import Derived.Below
import Derived.Deep.QuietTactic
import Derived.BigQuiet
import Derived.Lib.QuietBelow
import Derived.Lib.Strings
import Derived.Lib.Hide
import Derived.Deep.RegionWith
import Derived.Deep.RegionHeld3
import Derived.Lib.IndexBytes
namespace Go.Proofs.YtocgkpdolgnbgaaGreatDoor
open Go.RowKit Go.Sort
set_option linter.unusedVariables false
set_option linter.unusedSimpArgs false
set_option maxRecDepth 100000
structure PatFit (x : Pat) : Prop where
  cust : CustFit x.cust
  parts : ∀ p ∈ x.parts, PartFit p
  num : x.parts.length + (if x.tail then 1 else 0) ≤ 32
theorem extract_data (s : ByteArray) (i : Nat) : (s.extract i s.size).data.toList = s.data.toList.drop i := by
  rw [Lib.extract_to_end]
theorem extract_head (s : ByteArray) : (s.extract 0 1).data.toList = s.data.toList.take 1 := by
  rw [Lib.extract_data]; simp
theorem partOf_word {w : ByteArray} (h : isWordB w = true) : partOfP w = ⟨0, w⟩ := by
  obtain ⟨h1, _⟩ := word_ne h
  have h42 := (word_no h).2.2.2.2.1
  unfold partOfP
  split
  · rfl
  · rw [if_pos]
    rw [Lib.toList_data, extract_head]
    obtain ⟨b, l, hl⟩ := List.exists_cons_of_ne_nil h1
    rw [hl] at h42 ⊢
    simp only [List.mem_cons, not_or] at h42
    simp only [List.take_succ_cons, List.take_zero, Bool.not_eq_true', beq_eq_false_iff_ne, ne_eq, List.cons.injEq, and_true]
    exact fun e => h42.1 e.symm
theorem partOf_star {w : ByteArray} (r : List UInt8) (h : w.data.toList = 42 :: r) : partOfP w = if r.isEmpty then ⟨2, ⟨#[]⟩⟩ else ⟨1, ⟨r.toArray⟩⟩ := by
  have hz : w.size = r.length + 1 := by rw [size_data, h]; rfl
  have e1 : (w.extract 0 1).toList = [42] := by rw [Lib.toList_data, extract_head, h]; rfl
  have e2 : (w.extract 1 w.size).data.toList = r := by rw [extract_data, h]; rfl
  have e3 : w.extract 1 w.size = ⟨r.toArray⟩ := bytes_ext (by rw [e2])
  unfold partOfP
  rw [if_neg (by omega), e1, e3, Lib.toList_data]
  simp only [BEq.rfl, Bool.not_true, Bool.false_eq_true, if_false]
  cases r <;> rfl
theorem star_fit : PartFit ⟨2, ⟨#[]⟩⟩ := .inr (.inr ⟨rfl, rfl⟩)
theorem headOk_fit {w : ByteArray} (h : headOkB w = true) : CustFit (partOfP w) := by
  unfold headOkB at h
  rw [Bool.or_eq_true, Lib.toList_data, beq_iff_eq] at h
  rcases h with h | h
  · rw [partOf_star [] h]; exact .inr ⟨rfl, rfl⟩
  · rw [partOf_word (name_word h)]; exact .inl ⟨rfl, h⟩
theorem prefix_two {l : List UInt8} (h : Lib.hasPrefix l [42, 46] = true) : ∃ r, l = 42 :: 46 :: r := by
  unfold Lib.hasPrefix at h
  rw [List.isPrefixOf_iff_prefix] at h
  obtain ⟨r, hr⟩ := h
  exact ⟨r, hr.symm⟩
theorem partOk_fit {w : ByteArray} (h : partOkB w = true) : PartFit (partOfP w) := by
  unfold partOkB at h
  rw [Bool.or_eq_true, Bool.or_eq_true, Lib.toList_data, beq_iff_eq] at h
  rcases h with (h | h) | h
  · rw [partOf_star [] h]; exact star_fit
  · rw [partOf_word h]; exact .inl ⟨rfl, h⟩
  · simp only [Bool.and_eq_true, decide_eq_true_eq] at h
    obtain ⟨⟨h1, h2⟩, h3⟩ := h
    obtain ⟨r, hr⟩ := prefix_two h2
    rw [partOf_star (46 :: r) hr]
    have e : (w.extract 2 w.size).data.toList = r := by rw [extract_data, hr]; rfl
    have hz : w.size = r.length + 2 := by rw [size_data, hr]; rfl
    refine .inr (.inl ⟨rfl, w.extract 2 w.size, h3, ?_, ?_⟩)
    · rw [size_data, e]; omega
    · show (46 :: r) = 46 :: _
      rw [e]
theorem cmpL_fit : ∀ (l : List ByteArray) (acc : List Part) (r : List Part × Bool), (∀ p ∈ acc, PartFit p) → cmpL l acc = some r → (∀ p ∈ r.1, PartFit p) ∧ r.1.length + (if r.2 then 1 else 0) = acc.length + l.length
  | [], acc, r, h, e => by simp [cmpL] at e; subst e; exact ⟨h, by simp⟩
  | w :: l, acc, r, h, e => by
    rw [cmpL] at e
    split at e
    · rename_i hc
      injection e with e; subst e
      simp only [Bool.and_eq_true, List.isEmpty_iff] at hc
      exact ⟨h, by simp [hc.2]⟩
    · split at e
      · rename_i hk
        have := cmpL_fit l (acc ++ [partOfP w]) r (fun p hp => by
          rcases List.mem_append.1 hp with hp | hp
          · exact h p hp
          · rw [List.mem_singleton.1 hp]; exact partOk_fit hk) e
        exact ⟨this.1, by rw [this.2]; simp; omega⟩
      · cases e
theorem compL_fit {l : List ByteArray} {x : Pat} (h : compL l = some x) : PatFit x := by
  cases l with
  | nil => cases h
  | cons l0 r =>
    rw [compL] at h
    by_cases hc : (decide (r.length ≤ 32) && headOkB l0) = true
    · have hc2 := hc
      rw [Bool.and_eq_true, decide_eq_true_eq] at hc2
      rw [if_pos hc] at h
      obtain ⟨y, hy, rfl⟩ := Option.map_eq_some_iff.1 h
      have := cmpL_fit r [] y (fun p hp => by cases hp) hy
      exact ⟨headOk_fit hc2.2, this.1, by show y.1.length + (if y.2 = true then 1 else 0) ≤ 32; have h1 := hc2.1; have h2 := this.2; simp at h2; omega⟩
    · rw [if_neg (by simpa using hc)] at h; cases h
theorem compile_fit {s : ByteArray} {x : Pat} (h : compileB s = some x) : PatFit x := compL_fit h
def coverL : List Part → List Part → Bool
  | [], _ => true
  | _ :: _, [] => false
  | a :: xs, b :: ys => coversP a.kind a.text b.kind b.text && coverL xs ys
def coverB (x y : Pat) : Bool :=
  coversP x.cust.kind x.cust.text y.cust.kind y.cust.text && !decide (y.parts.length < x.parts.length) && !(decide (x.parts.length < y.parts.length) && !x.tail) && !(y.tail && !x.tail) && coverL x.parts y.parts
end Go.Proofs.YtocgkpdolgnbgaaGreatDoor
