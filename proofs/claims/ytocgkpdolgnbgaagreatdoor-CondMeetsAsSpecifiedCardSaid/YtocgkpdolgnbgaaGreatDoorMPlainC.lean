/- Plain: what parts of patterns match, cover and have in common. -/
import Derived.Test.YtocgkpdolgnbgaaGreatDoorMParts
import Derived.Test.YtocgkpdolgnbgaaGreatDoorMPlainW
import Derived.Test.YtocgkpdolgnbgaaGreatDoorProg
import Derived.WalkKit
import Derived.WalkSpells
import Derived.WalkLawsBesides
import Derived.Below
import Derived.Deep.QuietTactic
import Derived.BigQuiet
import Derived.Lib.QuietBelow
import Derived.Lib.Strings
import Derived.Lib.Hide
import Derived.Deep.RegionWith
import Derived.Deep.RegionHeld3
import Derived.Lib.IndexBytes
namespace Go.Proofs.YtocgkpdolgnbgaaGreatDoor
open Go.RowKit Go.Sort
set_option linter.unusedVariables false
set_option linter.unusedSimpArgs false
set_option maxRecDepth 100000
theorem beq_bytes (a b : ByteArray) : (a.toList == b.toList) = true ↔ a = b := by
  rw [Lib.toList_data, Lib.toList_data, beq_iff_eq]
  exact ⟨bytes_ext, fun h => by rw [h]⟩
theorem isWord_iff (s : ByteArray) : isWordB s = true ↔ s.data.toList ≠ [] ∧ s.data.toList ≠ [46] ∧ s.data.toList ≠ [46, 46] ∧ s.size ≤ 64 ∧ ∀ b ∈ s.data.toList, letterB b = true := by
  constructor
  · intro h
    obtain ⟨h1, h2, h3, h4⟩ := word_ne h
    exact ⟨h1, h2, h3, h4, word_letters h⟩
  · rintro ⟨h1, h2, h3, h4, h5⟩
    unfold isWordB
    rw [Lib.toList_data]
    simp only [Bool.and_eq_true, Bool.not_eq_true', decide_eq_true_eq, List.all_eq_true, beq_eq_false_iff_ne]
    exact ⟨⟨⟨⟨by simpa using h1, h4⟩, h2⟩, h3⟩, h5⟩
theorem isName_iff (s : ByteArray) : isNameB s = true ↔ isWordB s = true ∧ 46 ∉ s.data.toList := by
  unfold isNameB
  simp only [Bool.and_eq_true, Bool.not_eq_true', decide_eq_false_iff_not]
  constructor
  · rintro ⟨h1, h2⟩
    exact ⟨h1, indexByte_mem _ _ (by omega)⟩
  · rintro ⟨h1, h2⟩
    exact ⟨h1, by rw [indexByte_miss _ _ h2]; omega⟩
theorem has0 (t w : ByteArray) : hasP 0 t w = true ↔ t = w := by
  unfold hasP; rw [if_pos rfl]; exact beq_bytes t w
theorem has1 (t w : ByteArray) : hasP 1 t w = true ↔ t.size < w.size ∧ t.data.toList <:+ w.data.toList := by
  unfold hasP
  rw [if_neg (by decide), if_pos rfl]
  simp only [Bool.and_eq_true, decide_eq_true_eq, Lib.hasSuffix, List.isSuffixOf_iff_suffix]
theorem has2 (t w : ByteArray) : hasP 2 t w = true := by
  unfold hasP; rw [if_neg (by decide), if_neg (by decide)]
theorem cov0 (k : Nat) (t t2 : ByteArray) : coversP k t 0 t2 = hasP k t t2 := by
  unfold coversP; rw [if_pos rfl]
theorem cov1 (k : Nat) (t t2 : ByteArray) : coversP k t 1 t2 = true ↔ k = 2 ∨ (k = 1 ∧ t.data.toList <:+ t2.data.toList) := by
  unfold coversP
  rw [if_neg (by decide), if_pos rfl]
  simp only [Bool.or_eq_true, Bool.and_eq_true, beq_iff_eq, Lib.hasSuffix, List.isSuffixOf_iff_suffix]
theorem cov2 (k : Nat) (t t2 : ByteArray) : coversP k t 2 t2 = true ↔ k = 2 := by
  unfold coversP
  rw [if_neg (by decide), if_neg (by decide), beq_iff_eq]
def PartFit (p : Part) : Prop :=
  (p.kind = 0 ∧ isWordB p.text = true) ∨ (p.kind = 1 ∧ ∃ s : ByteArray, isWordB s = true ∧ s.size ≤ 32 ∧ p.text.data.toList = 46 :: s.data.toList) ∨ (p.kind = 2 ∧ p.text = ⟨#[]⟩)
def CustFit (p : Part) : Prop := (p.kind = 0 ∧ isNameB p.text = true) ∨ (p.kind = 2 ∧ p.text = ⟨#[]⟩)
theorem CustFit.part {p : Part} (h : CustFit p) : PartFit p := by
  rcases h with ⟨h1, h2⟩ | h
  · exact .inl ⟨h1, name_word h2⟩
  · exact .inr (.inr h)
theorem size_data (s : ByteArray) : s.size = s.data.toList.length := Lib.size_eq s
theorem covers_sound {p q : Part} (hq : PartFit q) (h : coversP p.kind p.text q.kind q.text = true) (w : ByteArray) (hw : hasP q.kind q.text w = true) : hasP p.kind p.text w = true := by
  obtain ⟨k, t⟩ := p
  obtain ⟨k2, t2⟩ := q
  dsimp only at *
  rcases hq with ⟨hk, _⟩ | ⟨hk, _⟩ | ⟨hk, _⟩ <;> dsimp only at hk <;> subst hk
  · rw [cov0] at h
    rw [has0] at hw
    subst hw
    exact h
  · rw [has1] at hw
    rcases (cov1 k t t2).1 h with rfl | ⟨rfl, hs⟩
    · exact has2 _ _
    · rw [has1]
      have := hs.length_le
      rw [← size_data, ← size_data] at this
      exact ⟨by omega, hs.trans hw.2⟩
  · rw [cov2] at h
    subst h
    exact has2 _ _
theorem letter_ab {c : UInt8} (hc : c = 97 ∨ c = 98) : letterB c = true ∧ c ≠ 46 := by
  rcases hc with rfl | rfl <;> exact ⟨by decide, by decide⟩
theorem with_data (k : Nat) (t : ByteArray) (c : UInt8) : (withP k t ⟨#[c]⟩).data.toList = if k = 0 then t.data.toList else if k = 1 then c :: t.data.toList else [c] := by
  unfold withP
  split
  · rfl
  · split
    · simp
    · rfl
theorem word_one {c : UInt8} (hc : c = 97 ∨ c = 98) : isNameB ⟨#[c]⟩ = true := by
  rcases hc with rfl | rfl <;> decide +kernel
theorem with_fit {p : Part} (hp : PartFit p) {c : UInt8} (hc : c = 97 ∨ c = 98) : isWordB (withP p.kind p.text ⟨#[c]⟩) = true ∧ hasP p.kind p.text (withP p.kind p.text ⟨#[c]⟩) = true := by
  obtain ⟨k, t⟩ := p
  rcases hp with ⟨hk, hw⟩ | ⟨hk, s, hs, hs2, ht⟩ | ⟨hk, hw⟩ <;> dsimp only at * <;> subst hk
  · have e : withP 0 t ⟨#[c]⟩ = t := rfl
    rw [e, has0]
    exact ⟨hw, rfl⟩
  · have e := with_data 1 t c
    rw [if_neg (by decide), if_pos rfl] at e
    have hz : t.size = s.size + 1 := by rw [size_data, size_data, ht]; rfl
    have hz2 : (withP 1 t ⟨#[c]⟩).size = t.size + 1 := by rw [size_data, size_data, e]; rfl
    rw [has1, isWord_iff, e, hz2]
    obtain ⟨g1, g2, g3, g4, g5⟩ := (isWord_iff s).1 hs
    refine ⟨⟨by simp, by rw [ht]; simp, ?_, by omega, ?_⟩, by omega, List.suffix_cons _ _⟩
    · rw [ht]; intro h
      injection h with h1 h2
      exact (letter_ab hc).2 h1
    · intro b hb
      rw [ht] at hb
      rcases List.mem_cons.1 hb with rfl | hb
      · exact (letter_ab hc).1
      · rcases List.mem_cons.1 hb with rfl | hb
        · decide
        · exact g5 b hb
  · have e : withP 2 t ⟨#[c]⟩ = ⟨#[c]⟩ := rfl
    rw [e]
    exact ⟨name_word (word_one hc), has2 _ _⟩
theorem with_cust {p : Part} (hp : CustFit p) {c : UInt8} (hc : c = 97 ∨ c = 98) : isNameB (withP p.kind p.text ⟨#[c]⟩) = true := by
  obtain ⟨k, t⟩ := p
  rcases hp with ⟨hk, hw⟩ | ⟨hk, hw⟩ <;> dsimp only at * <;> subst hk
  · exact hw
  · exact word_one hc
theorem without_fit {p q : Part} (hp : PartFit p) (hq : PartFit q) (h : coversP q.kind q.text p.kind p.text = false) :
    isWordB (withoutP p.kind p.text q.kind q.text) = true ∧ hasP p.kind p.text (withoutP p.kind p.text q.kind q.text) = true ∧ hasP q.kind q.text (withoutP p.kind p.text q.kind q.text) = false := by
  have ha := with_fit hp (c := 97) (.inl rfl)
  have hb := with_fit hp (c := 98) (.inr rfl)
  unfold withoutP
  cases hh : hasP q.kind q.text (withP p.kind p.text ⟨#[97]⟩)
  · simp only [Bool.false_eq_true, if_false]
    exact ⟨ha.1, ha.2, hh⟩
  · simp only [if_true]
    refine ⟨hb.1, hb.2, ?_⟩
    have da := with_data p.kind p.text 97
    have db := with_data p.kind p.text 98
    obtain ⟨k, t⟩ := p
    obtain ⟨k2, t2⟩ := q
    dsimp only at *
    rw [Bool.eq_false_iff]
    intro hn
    have hne : coversP k2 t2 k t ≠ true := by rw [h]; decide
    rcases hp with ⟨hk, _⟩ | ⟨hk, _⟩ | ⟨hk, _⟩ <;> dsimp only at hk <;> subst hk
    · rw [cov0] at hne
      exact hne hh
    · rw [if_neg (by decide), if_pos rfl] at da db
      rcases hq with ⟨hk, _⟩ | ⟨hk, _⟩ | ⟨hk, _⟩ <;> dsimp only at hk <;> subst hk
      · rw [has0] at hh hn
        have := congrArg (fun s : ByteArray => s.data.toList) (hh.symm.trans hn)
        (try dsimp only at this)
        rw [da, db] at this
        injection this with e1 _
        exact absurd e1 (by decide)
      · rw [has1, da] at hh
        obtain ⟨hz, hs⟩ := hh
        rw [size_data, size_data, da] at hz
        rcases List.suffix_cons_iff.1 hs with e | e
        · rw [e] at hz; simp at hz
        · exact hne ((cov1 1 t2 t).2 (.inr ⟨rfl, e⟩))
      · exact hne ((cov1 2 t2 t).2 (.inl rfl))
    · rw [if_neg (by decide), if_neg (by decide)] at da db
      rcases hq with ⟨hk, _⟩ | ⟨hk, s, _, _, ht⟩ | ⟨hk, _⟩ <;> dsimp only at hk <;> subst hk
      · rw [has0] at hh hn
        have := congrArg (fun s : ByteArray => s.data.toList) (hh.symm.trans hn)
        (try dsimp only at this)
        rw [da, db] at this
        injection this with e1 _
        exact absurd e1 (by decide)
      · rw [has1] at hh
        dsimp only at ht
        have hz := hh.1
        rw [size_data, size_data, da, ht] at hz
        simp at hz
      · exact hne ((cov2 2 t2 t).2 rfl)
theorem suffix_total {a b w : List UInt8} (ha : a <:+ w) (hb : b <:+ w) : a <:+ b ∨ b <:+ a := by
  rcases Nat.le_total a.length b.length with h | h
  · exact .inl (List.suffix_of_suffix_length_le ha hb h)
  · exact .inr (List.suffix_of_suffix_length_le hb ha h)
theorem not_meets {p q : Part} (hp : PartFit p) (hq : PartFit q) (h : meetsP p q = false) (w : ByteArray) (h1 : hasP p.kind p.text w = true) (h2 : hasP q.kind q.text w = true) : False := by
  unfold meetsP at h
  rw [Bool.or_eq_false_iff] at h
  obtain ⟨k, t⟩ := p
  obtain ⟨k2, t2⟩ := q
  dsimp only at *
  have n1 : coversP k t k2 t2 ≠ true := by rw [h.1]; decide
  have n2 : coversP k2 t2 k t ≠ true := by rw [h.2]; decide
  rcases hp with ⟨hk, _⟩ | ⟨hk, _⟩ | ⟨hk, _⟩ <;> dsimp only at hk <;> subst hk
  · rw [has0] at h1; subst h1
    rw [cov0] at n2
    exact n2 h2
  · rcases hq with ⟨hk, _⟩ | ⟨hk, _⟩ | ⟨hk, _⟩ <;> dsimp only at hk <;> subst hk
    · rw [has0] at h2; subst h2
      rw [cov0] at n1
      exact n1 h1
    · rw [has1] at h1 h2
      rcases suffix_total h1.2 h2.2 with e | e
      · exact n1 ((cov1 _ _ _).2 (.inr ⟨rfl, e⟩))
      · exact n2 ((cov1 _ _ _).2 (.inr ⟨rfl, e⟩))
    · exact n2 ((cov1 _ _ _).2 (.inl rfl))
  · rcases hq with ⟨hk, _⟩ | ⟨hk, _⟩ | ⟨hk, _⟩ <;> dsimp only at hk <;> subst hk
    · rw [cov0] at n1; exact n1 (has2 _ _)
    · exact n1 ((cov1 _ _ _).2 (.inl rfl))
    · exact n1 ((cov2 _ _ _).2 rfl)
theorem meets_has {p q : Part} (hp : PartFit p) (hq : PartFit q) (h : meetsP p q = true) (w : ByteArray) :
    hasP (meetP p q).kind (meetP p q).text w = (hasP p.kind p.text w && hasP q.kind q.text w) := by
  unfold meetsP at h
  unfold meetP
  cases hc : coversP p.kind p.text q.kind q.text
  · rw [hc, Bool.false_or] at h
    simp only [Bool.false_eq_true, if_false]
    cases hw : hasP p.kind p.text w
    · rfl
    · rw [covers_sound hp h w hw]; rfl
  · simp only [if_true]
    cases hw : hasP q.kind q.text w
    · rw [Bool.and_false]
    · rw [covers_sound hq hc w hw]; rfl
theorem meetP_fit {p q : Part} (hp : PartFit p) (hq : PartFit q) : PartFit (meetP p q) := by
  unfold meetP; split <;> assumption
theorem meetP_cust {p q : Part} (hp : CustFit p) (hq : CustFit q) : CustFit (meetP p q) := by
  unfold meetP; split <;> assumption
theorem covers_anti {p q : Part} (hp : PartFit p) (hq : PartFit q) (h1 : coversP p.kind p.text q.kind q.text = true) (h2 : coversP q.kind q.text p.kind p.text = true) : p = q := by
  obtain ⟨k, t⟩ := p
  obtain ⟨k2, t2⟩ := q
  dsimp only at *
  rcases hp with ⟨hk, _⟩ | ⟨hk, _⟩ | ⟨hk, ht⟩ <;> dsimp only at hk <;> subst hk <;>
    rcases hq with ⟨hk, _⟩ | ⟨hk, _⟩ | ⟨hk, ht2⟩ <;> dsimp only at hk <;> subst hk
  · rw [cov0, has0] at h1; rw [h1]
  · rw [cov1] at h1; omega
  · rw [cov2] at h1; omega
  · rw [cov1] at h2; omega
  · have e1 := (cov1 _ _ _).1 h1
    have e2 := (cov1 _ _ _).1 h2
    rcases e1 with e1 | ⟨_, e1⟩
    · omega
    rcases e2 with e2 | ⟨_, e2⟩
    · omega
    rw [bytes_ext (e1.eq_of_length_le e2.length_le)]
  · rw [cov2] at h1; omega
  · rw [cov2] at h2; omega
  · rw [cov2] at h2; omega
  · dsimp only at ht ht2; rw [ht, ht2]
end Go.Proofs.YtocgkpdolgnbgaaGreatDoor
