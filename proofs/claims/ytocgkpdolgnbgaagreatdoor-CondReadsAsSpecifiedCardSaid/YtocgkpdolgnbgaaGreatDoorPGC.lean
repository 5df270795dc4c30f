/- Plain: an address that is well formed and whose text is not too long is read back from its text. -/
import Derived.Test.YtocgkpdolgnbgaaGreatDoorPGB
import Derived.Test.YtocgkpdolgnbgaaGreatDoorProg
import Derived.WalkKit
import Derived.WalkSpells
import Derived.WalkLawsBesides
import Derived.Below
import Derived.Deep.QuietTactic
import Derived.BigQuiet
import Derived.Lib.QuietBelow
import Derived.Lib.Strings
import Derived.Lib.Hide
import Derived.Deep.RegionWith
import Derived.Deep.RegionHeld3
import Derived.Lib.IndexBytes
import Derived.Test.YtocgkpdolgnbgaaGreatDoorPParts
namespace Go.Proofs.YtocgkpdolgnbgaaGreatDoor
open Go.RowKit Go.Sort
set_option linter.unusedVariables false
set_option linter.unusedSimpArgs false
set_option maxRecDepth 100000
theorem indexByte_miss (a : List UInt8) (c : UInt8) (h : c ∉ a) : Lib.indexByte a c = -1 := by
  induction a with
  | nil => rfl
  | cons x a ih =>
    simp only [List.mem_cons, not_or] at h
    rw [indexByte_cons, if_neg (fun e => h.1 e.symm), ih h.2, if_pos rfl]
theorem indexByte_mem (a : List UInt8) (c : UInt8) (h : Lib.indexByte a c < 0) : c ∉ a := by
  induction a with
  | nil => simp
  | cons x a ih =>
    have := indexByte_ge c a
    rw [indexByte_cons] at h
    split at h
    · omega
    · rename_i hne
      split at h
      · rename_i he
        simp only [List.mem_cons, not_or]
        exact ⟨fun e => hne e.symm, ih (by omega)⟩
      · omega
theorem split_hit (a b : List UInt8) (c : UInt8) (h : c ∉ a) : splitL c (a ++ c :: b) = a :: splitL c b := by
  induction a with
  | nil => simp [splitL]
  | cons x a ih =>
    simp only [List.mem_cons, not_or] at h
    rw [List.cons_append, splitL, if_neg (fun e => h.1 e.symm), ih h.2]
theorem split_none (a : List UInt8) (c : UInt8) (h : c ∉ a) : splitL c a = [a] := splitL_miss c a (by rw [indexByte_miss a c h]; omega)
theorem split_path : ∀ (x : List UInt8) (l : List (List UInt8)), 47 ∉ x → (∀ y ∈ l, 47 ∉ y) → splitL 47 (x ++ pathL l) = x :: l
  | x, [], h, _ => by simp [pathL, split_none x 47 h]
  | x, y :: l, h, hl => by
    have e : x ++ pathL (y :: l) = x ++ 47 :: (y ++ pathL l) := by simp [pathL]
    rw [e, split_hit _ _ _ h, split_path y l (hl y (by simp)) (fun z hz => hl z (by simp [hz]))]
theorem letter_no (b : UInt8) (h : letterB b = true) : b ≠ 47 ∧ b ≠ 63 ∧ b ≠ 38 ∧ b ≠ 61 ∧ b ≠ 42 ∧ b ≠ 44 ∧ ¬ (65 ≤ b.toNat ∧ b.toNat ≤ 90) := by
  unfold letterB isLetN at h
  simp only [decide_eq_true_eq] at h
  have k : ∀ c : Nat, c < 256 → b.toNat ≠ c → b ≠ UInt8.ofNat c := fun c hc h e => h (by rw [e, UInt8.toNat_ofNat']; omega)
  exact ⟨k 47 (by omega) (by omega), k 63 (by omega) (by omega), k 38 (by omega) (by omega), k 61 (by omega) (by omega), k 42 (by omega) (by omega), k 44 (by omega) (by omega), by omega⟩
theorem word_letters {s : ByteArray} (h : isWordB s = true) : ∀ b ∈ s.data.toList, letterB b = true := by
  unfold isWordB at h
  simp only [Bool.and_eq_true, List.all_eq_true] at h
  exact h.2
theorem name_word {s : ByteArray} (h : isNameB s = true) : isWordB s = true := by
  unfold isNameB at h
  simp only [Bool.and_eq_true] at h
  exact h.1
theorem word_no {s : ByteArray} (h : isWordB s = true) : 47 ∉ s.data.toList ∧ 63 ∉ s.data.toList ∧ 38 ∉ s.data.toList ∧ 61 ∉ s.data.toList ∧ 42 ∉ s.data.toList ∧ 44 ∉ s.data.toList :=
  ⟨fun hm => (letter_no _ (word_letters h _ hm)).1 rfl, fun hm => (letter_no _ (word_letters h _ hm)).2.1 rfl, fun hm => (letter_no _ (word_letters h _ hm)).2.2.1 rfl, fun hm => (letter_no _ (word_letters h _ hm)).2.2.2.1 rfl, fun hm => (letter_no _ (word_letters h _ hm)).2.2.2.2.1 rfl, fun hm => (letter_no _ (word_letters h _ hm)).2.2.2.2.2.1 rfl⟩
theorem word_ne {s : ByteArray} (h : isWordB s = true) : s.data.toList ≠ [] ∧ s.data.toList ≠ [46] ∧ s.data.toList ≠ [46, 46] ∧ s.size ≤ 64 := by
  unfold isWordB at h
  simp only [Bool.and_eq_true, Bool.not_eq_true', decide_eq_true_eq, Lib.toList_data] at h
  obtain ⟨⟨⟨⟨h1, h2⟩, h3⟩, h4⟩, _⟩ := h
  exact ⟨by intro e; simp [e] at h1, by intro e; simp [e] at h3, by intro e; simp [e] at h4, h2⟩
end Go.Proofs.YtocgkpdolgnbgaaGreatDoor
namespace Go.Proofs.YtocgkpdolgnbgaaGreatDoor
open Go.RowKit Go.Sort
set_option linter.unusedVariables false
set_option linter.unusedSimpArgs false
set_option maxRecDepth 100000
theorem has1 (t w : ByteArray) : hasP 1 t w = true ↔ t.size < w.size ∧ t.data.toList <:+ w.data.toList := by
  unfold hasP
  rw [if_neg (by decide), if_pos rfl]
  simp only [Bool.and_eq_true, decide_eq_true_eq, Lib.hasSuffix, List.isSuffixOf_iff_suffix]
theorem has2 (t w : ByteArray) : hasP 2 t w = true := by
  unfold hasP; rw [if_neg (by decide), if_neg (by decide)]
def PartFit (p : Part) : Prop :=
  (p.kind = 0 ∧ isWordB p.text = true) ∨ (p.kind = 1 ∧ ∃ s : ByteArray, isWordB s = true ∧ s.size ≤ 32 ∧ p.text.data.toList = 46 :: s.data.toList) ∨ (p.kind = 2 ∧ p.text = ⟨#[]⟩)
def CustFit (p : Part) : Prop := (p.kind = 0 ∧ isNameB p.text = true) ∨ (p.kind = 2 ∧ p.text = ⟨#[]⟩)
theorem CustFit.part {p : Part} (h : CustFit p) : PartFit p := by
  rcases h with ⟨h1, h2⟩ | h
  · exact .inl ⟨h1, name_word h2⟩
  · exact .inr (.inr h)
theorem size_data (s : ByteArray) : s.size = s.data.toList.length := Lib.size_eq s
end Go.Proofs.YtocgkpdolgnbgaaGreatDoor
