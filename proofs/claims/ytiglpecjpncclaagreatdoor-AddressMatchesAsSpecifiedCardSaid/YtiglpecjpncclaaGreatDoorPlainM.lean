/- Plain: the specification's parts of patterns are the program's. -/
import Derived.Test.YtiglpecjpncclaaGreatDoorRef15
import Derived.Test.YtiglpecjpncclaaGreatDoorPlainX
import Derived.Test.YtiglpecjpncclaaGreatDoorProg
import Derived.WalkKit
import Derived.WalkSpells
import Derived.WalkLawsBesides
import Derived.Below
import Derived.Deep.QuietTactic
import Derived.BigQuiet
import Derived.Lib.QuietBelow
import Derived.Lib.Strings
import Derived.Lib.Hide
import Derived.Deep.RegionWith
import Derived.Deep.RegionHeld3
import Derived.Lib.IndexBytes
namespace Go.Proofs.YtiglpecjpncclaaGreatDoor
open Go.RowKit Go.Sort
set_option linter.unusedVariables false
set_option linter.unusedSimpArgs false
set_option maxRecDepth 100000
def strP (p : Part) : ByteArray := stringP p.kind p.text
theorem sufB_word {s : ByteArray} (h : isWordB s = true) : sufB s = false := by
  have h42 := (word_no h).2.2.2.2.1
  unfold sufB
  rw [Bool.and_eq_false_iff]
  right
  rw [beq_eq_false_iff_ne]
  intro e
  exact h42 (List.mem_of_mem_head? (by rw [e]; rfl))
theorem ends_star {p t : ByteArray} (w : ByteArray) (h : p.data.toList = 42 :: t.data.toList) : endsB p w = (decide (t.size < w.size) && Lib.hasSuffix w.data.toList t.data.toList) := by
  have hz : p.size = t.size + 1 := by rw [size_data, h, size_data]; rfl
  have e : p.extract 1 p.size = t := bytes_ext (by rw [extract_data, h]; rfl)
  unfold endsB
  rw [e, hz, hasSuffix_if, Nat.add_sub_cancel]
  by_cases hl : t.size < w.size
  · rw [decide_eq_true hl, decide_eq_true (show t.size ≤ w.size by omega), Bool.true_and, Bool.true_and]
  · rw [decide_eq_false hl, Bool.false_and, Bool.false_and]
theorem toList_eq (a b : ByteArray) : (a.toList == b.toList) = (a.data.toList == b.data.toList) := by rw [Lib.toList_data, Lib.toList_data]
theorem word_star {w : ByteArray} (h : isWordB w = true) (l : List UInt8) : w.data.toList ≠ 42 :: l := fun e => (word_no h).2.2.2.2.1 (by rw [e]; simp)
theorem fit_end {p : Part} (h : p.kind = 1 ∧ ∃ s : ByteArray, isWordB s = true ∧ s.size ≤ 32 ∧ p.text.data.toList = 46 :: s.data.toList) : p.text.data.toList ≠ [] ∧ 1 ≤ p.text.size := by
  obtain ⟨_, s, _, _, h⟩ := h
  rw [size_data, h]
  exact ⟨by simp, by simp⟩
theorem str0 {p : Part} (h : p.kind = 0) : strP p = p.text := by unfold strP stringP; rw [if_pos h]
theorem str_star {p : Part} (h : p.kind ≠ 0) : (strP p).data.toList = 42 :: p.text.data.toList := by
  unfold strP; rw [str_data, if_neg h]
theorem suf_star {p : Part} (h : p.kind ≠ 0) (hz : 1 ≤ p.text.size) : sufB (strP p) = true := by
  unfold sufB
  have e := str_star h
  rw [size_data, e]
  rw [size_data] at hz
  rw [decide_eq_true (show 1 < (42 :: p.text.data.toList).length by simp only [List.length_cons]; omega)]
  rfl
theorem mtch_has {p : Part} (hp : PartFit p) {w : ByteArray} (hw : isWordB w = true) : mtchB (strP p) w = hasP p.kind p.text w := by
  unfold mtchB
  rcases hp with ⟨hk, ht⟩ | h1 | ⟨hk, ht⟩
  · rw [str0 hk, sufB_word ht, toList_eq, hk]
    have h42 : (p.text.toList == [42]) = false := by
      rw [Lib.toList_data, beq_eq_false_iff_ne]; exact word_star ht []
    rw [h42, Bool.false_or, Bool.false_and, Bool.or_false]
    unfold hasP
    rw [if_pos rfl, toList_eq]
  · obtain ⟨hne, hz⟩ := fit_end h1
    have hk := h1.1
    have e := str_star (p := p) (by omega)
    have h42 : ((strP p).toList == [42]) = false := by
      rw [Lib.toList_data, e, beq_eq_false_iff_ne]
      intro h; injection h with _ h; exact hne h
    have h43 : ((strP p).toList == w.toList) = false := by
      rw [toList_eq, e, beq_eq_false_iff_ne]
      exact fun h => word_star hw _ h.symm
    rw [h42, h43, suf_star (by omega) hz, ends_star w e, hk]
    simp only [Bool.false_or, Bool.true_and]
    unfold hasP
    rw [if_neg (by decide), if_pos rfl]
  · have e := str_star (p := p) (by omega)
    rw [hk, ht, has2, Lib.toList_data, e, ht]
    rfl
theorem cov_covers {p q : Part} (hp : PartFit p) (hq : PartFit q) : covB (strP p) (strP q) = coversP p.kind p.text q.kind q.text := by
  rw [Bool.eq_iff_iff]
  unfold covB
  have sq : ∀ h : q.kind = 0, isWordB q.text = true := fun h => by
    rcases hq with ⟨_, h2⟩ | ⟨h2, _⟩ | ⟨h2, _⟩
    · exact h2
    · omega
    · omega
  rcases hp with ⟨hk, ht⟩ | h1 | ⟨hk, ht⟩
  · have h42 : ((strP p).toList == [42]) = false := by
      rw [str0 hk, Lib.toList_data, beq_eq_false_iff_ne]; exact word_star ht []
    rw [h42, Bool.false_or, str0 hk, sufB_word ht, Bool.false_and, Bool.false_and, Bool.or_false, hk, toList_eq, beq_iff_eq]
    rcases hq with ⟨hk2, ht2⟩ | h2 | ⟨hk2, ht2⟩
    · rw [hk2, cov0, has0, str0 hk2]
      exact ⟨fun h => bytes_ext h, fun h => by rw [h]⟩
    · rw [h2.1, cov1, str_star (p := q) (by omega)]
      constructor
      · intro h; exact absurd h (word_star ht _)
      · rintro (h | ⟨h, _⟩) <;> cases h
    · rw [hk2, cov2, str_star (p := q) (by omega)]
      constructor
      · intro h; exact absurd h (word_star ht _)
      · intro h; cases h
  · obtain ⟨hne, hz⟩ := fit_end h1
    have hk := h1.1
    have e := str_star (p := p) (by omega)
    have h42 : ((strP p).toList == [42]) = false := by
      rw [Lib.toList_data, e, beq_eq_false_iff_ne]
      intro h; injection h with _ h; exact hne h
    rw [h42, Bool.false_or, suf_star (by omega) hz, Bool.true_and, hk]
    rcases hq with ⟨hk2, ht2⟩ | h2 | ⟨hk2, ht2⟩
    · have h43 : ((strP p).toList == (strP q).toList) = false := by
        rw [toList_eq, e, str0 hk2, beq_eq_false_iff_ne]
        exact fun h => word_star ht2 _ h.symm
      have h44 : ((strP q).toList == [42]) = false := by
        rw [str0 hk2, Lib.toList_data, beq_eq_false_iff_ne]; exact word_star ht2 []
      rw [h43, h44, Bool.false_or, Bool.not_false, Bool.true_and, str0 hk2, sufB_word ht2, hk2, cov0, has1]
      simp only [Bool.false_eq_true, if_false]
      rw [ends_star _ e]
      simp only [Bool.and_eq_true, decide_eq_true_eq, Lib.hasSuffix, List.isSuffixOf_iff_suffix]
    · obtain ⟨hne2, hz2⟩ := fit_end h2
      have e2 := str_star (p := q) (by omega)
      have h44 : ((strP q).toList == [42]) = false := by
        rw [Lib.toList_data, e2, beq_eq_false_iff_ne]
        intro h; injection h with _ h; exact hne2 h
      have hx : ((⟨#[97]⟩ : ByteArray) ++ (strP q).extract 1 (strP q).size).data.toList = 97 :: q.text.data.toList := by
        have h3 : (strP q).extract 1 (strP q).size = q.text := bytes_ext (by rw [extract_data, e2]; rfl)
        rw [h3]; simp
      rw [h44, Bool.not_false, Bool.true_and, suf_star (by omega) hz2, if_pos rfl, ends_star _ e, h2.1, cov1, Bool.or_eq_true, toList_eq, e, e2, beq_iff_eq]
      rw [Bool.and_eq_true, decide_eq_true_eq, size_data, size_data, hx, Lib.hasSuffix, List.isSuffixOf_iff_suffix]
      constructor
      · rintro (h | ⟨h3, h4⟩)
        · injection h with _ h
          right; exact ⟨rfl, by rw [h]; exact List.suffix_refl _⟩
        · right
          refine ⟨rfl, ?_⟩
          rcases List.suffix_cons_iff.1 h4 with h5 | h5
          · rw [h5] at h3; simp at h3
          · exact h5
      · rintro (h | ⟨_, h⟩)
        · cases h
        · right
          have := h.length_le
          exact ⟨by simp only [List.length_cons]; omega, h.trans (List.suffix_cons _ _)⟩
    · have e2 := str_star (p := q) (by omega)
      have h43 : ((strP p).toList == (strP q).toList) = false := by
        rw [toList_eq, e, e2, beq_eq_false_iff_ne, ht2]
        intro h; injection h with _ h; exact hne h
      have h44 : ((strP q).toList == [42]) = true := by
        rw [Lib.toList_data, e2, ht2]; rfl
      rw [h43, h44, hk2, cov2]
      simp
  · have e := str_star (p := p) (by omega)
    have h42 : ((strP p).toList == [42]) = true := by rw [Lib.toList_data, e, ht]; rfl
    rw [h42, Bool.true_or, Bool.true_or, hk]
    refine ⟨fun _ => ?_, fun _ => rfl⟩
    rcases hq with ⟨hk2, ht2⟩ | h2 | ⟨hk2, ht2⟩
    · rw [hk2, cov0]; exact has2 _ _
    · rw [h2.1, cov1]; exact .inl rfl
    · rw [hk2, cov2]
theorem part_ok (s : ByteArray) : partR s = partOkB s := by
  unfold partR partOkB
  have hx : ((s.extract 0 2).toList == [42, 46]) = Lib.hasPrefix s.data.toList [42, 46] := by
    rw [Lib.toList_data, Lib.extract_data]
    unfold Lib.hasPrefix
    rw [Bool.eq_iff_iff, beq_iff_eq, List.isPrefixOf_iff_prefix]
    constructor
    · intro h
      refine ⟨s.data.toList.drop 2, ?_⟩
      rw [← h]
      simp
    · rintro ⟨r, h⟩
      rw [← h]; simp
  rw [hx]
  cases hp : Lib.hasPrefix s.data.toList [42, 46]
  · simp
  · obtain ⟨r, hr⟩ := prefix_two hp
    have e : (s.extract 2 s.size).data.toList = r := by rw [extract_data, hr]; rfl
    have hz : s.size = r.length + 2 := by rw [size_data, hr]; rfl
    have h42 : (s.toList == [42]) = false := by rw [Lib.toList_data, hr, beq_eq_false_iff_ne]; simp
    have hw : isWordB s = false := by
      cases h : isWordB s
      · rfl
      · exact absurd hr (word_star h _)
    rw [h42, hw]
    simp only [Bool.and_true, Bool.false_or, Bool.and_true]
    by_cases h2 : 2 < s.size
    · rw [if_pos (by simpa using h2)]
    · rw [if_neg (by simpa using h2)]
      have : isWordB (s.extract 2 s.size) = false := by
        cases h : isWordB (s.extract 2 s.size)
        · rfl
        · have := (word_ne h).1
          rw [e] at this
          exact absurd (List.eq_nil_of_length_eq_zero (by omega)) this
      rw [this, Bool.and_false]

end Go.Proofs.YtiglpecjpncclaaGreatDoor
