/- Plain: an address that is well formed and whose text is not too long is read back from its text. -/
import Derived.Test.YtocgkpdolgnbgaaGreatDoorHSplit2
import Derived.Test.YtocgkpdolgnbgaaGreatDoorHParseL
import Derived.Test.YtocgkpdolgnbgaaGreatDoorProg
import Derived.WalkKit
import Derived.WalkSpells
import Derived.WalkLawsBesides
import Derived.Below
import Derived.Deep.QuietTactic
import Derived.BigQuiet
import Derived.Lib.QuietBelow
import Derived.Lib.Strings
import Derived.Lib.Hide
import Derived.Deep.RegionWith
import Derived.Deep.RegionHeld3
import Derived.Lib.IndexBytes
namespace Go.Proofs.YtocgkpdolgnbgaaGreatDoor
open Go.RowKit Go.Sort
set_option linter.unusedVariables false
set_option linter.unusedSimpArgs false
set_option maxRecDepth 100000
theorem index_hit (a b : List UInt8) (c : UInt8) (h : c ∉ a) : Lib.index (a ++ c :: b) [c] = a.length := by
  rw [Lib.index_one]
  induction a with
  | nil => simp [indexByte_cons]
  | cons x a ih =>
    simp only [List.mem_cons, not_or] at h
    rw [List.cons_append, indexByte_cons, if_neg (fun e => h.1 e.symm), ih h.2, if_neg (by omega)]
    simp
theorem indexByte_miss (a : List UInt8) (c : UInt8) (h : c ∉ a) : Lib.indexByte a c = -1 := by
  induction a with
  | nil => rfl
  | cons x a ih =>
    simp only [List.mem_cons, not_or] at h
    rw [indexByte_cons, if_neg (fun e => h.1 e.symm), ih h.2, if_pos rfl]
theorem index_miss (a : List UInt8) (c : UInt8) (h : c ∉ a) : Lib.index a [c] = -1 := by
  rw [Lib.index_one]; exact indexByte_miss a c h
theorem indexByte_mem (a : List UInt8) (c : UInt8) (h : Lib.indexByte a c < 0) : c ∉ a := by
  induction a with
  | nil => simp
  | cons x a ih =>
    have := indexByte_ge c a
    rw [indexByte_cons] at h
    split at h
    · omega
    · rename_i hne
      split at h
      · rename_i he
        simp only [List.mem_cons, not_or]
        exact ⟨fun e => hne e.symm, ih (by omega)⟩
      · omega
theorem cut_hit (a b : List UInt8) (c : UInt8) (h : c ∉ a) : Lib.cut (a ++ c :: b) [c] = (a, b, true) := by
  unfold Lib.cut
  rw [index_hit a b c h, if_pos (by omega)]
  simp
theorem cut_none (a : List UInt8) (c : UInt8) (h : c ∉ a) : Lib.cut a [c] = (a, [], false) := by
  unfold Lib.cut
  rw [index_miss a c h, if_neg (by omega)]
theorem split_hit (a b : List UInt8) (c : UInt8) (h : c ∉ a) : splitL c (a ++ c :: b) = a :: splitL c b := by
  induction a with
  | nil => simp [splitL]
  | cons x a ih =>
    simp only [List.mem_cons, not_or] at h
    rw [List.cons_append, splitL, if_neg (fun e => h.1 e.symm), ih h.2]
theorem split_none (a : List UInt8) (c : UInt8) (h : c ∉ a) : splitL c a = [a] := splitL_miss c a (by rw [indexByte_miss a c h]; omega)
theorem split_path : ∀ (x : List UInt8) (l : List (List UInt8)), 47 ∉ x → (∀ y ∈ l, 47 ∉ y) → splitL 47 (x ++ pathL l) = x :: l
  | x, [], h, _ => by simp [pathL, split_none x 47 h]
  | x, y :: l, h, hl => by
    have e : x ++ pathL (y :: l) = x ++ 47 :: (y ++ pathL l) := by simp [pathL]
    rw [e, split_hit _ _ _ h, split_path y l (hl y (by simp)) (fun z hz => hl z (by simp [hz]))]
theorem letter_no (b : UInt8) (h : letterB b = true) : b ≠ 47 ∧ b ≠ 63 ∧ b ≠ 38 ∧ b ≠ 61 ∧ b ≠ 42 ∧ b ≠ 44 ∧ ¬ (65 ≤ b.toNat ∧ b.toNat ≤ 90) := by
  unfold letterB isLetN at h
  simp only [decide_eq_true_eq] at h
  have k : ∀ c : Nat, c < 256 → b.toNat ≠ c → b ≠ UInt8.ofNat c := fun c hc h e => h (by rw [e, UInt8.toNat_ofNat']; omega)
  exact ⟨k 47 (by omega) (by omega), k 63 (by omega) (by omega), k 38 (by omega) (by omega), k 61 (by omega) (by omega), k 42 (by omega) (by omega), k 44 (by omega) (by omega), by omega⟩
theorem word_letters {s : ByteArray} (h : isWordB s = true) : ∀ b ∈ s.data.toList, letterB b = true := by
  unfold isWordB at h
  simp only [Bool.and_eq_true, List.all_eq_true] at h
  exact h.2
theorem name_word {s : ByteArray} (h : isNameB s = true) : isWordB s = true := by
  unfold isNameB at h
  simp only [Bool.and_eq_true] at h
  exact h.1
theorem word_no {s : ByteArray} (h : isWordB s = true) : 47 ∉ s.data.toList ∧ 63 ∉ s.data.toList ∧ 38 ∉ s.data.toList ∧ 61 ∉ s.data.toList ∧ 42 ∉ s.data.toList ∧ 44 ∉ s.data.toList :=
  ⟨fun hm => (letter_no _ (word_letters h _ hm)).1 rfl, fun hm => (letter_no _ (word_letters h _ hm)).2.1 rfl, fun hm => (letter_no _ (word_letters h _ hm)).2.2.1 rfl, fun hm => (letter_no _ (word_letters h _ hm)).2.2.2.1 rfl, fun hm => (letter_no _ (word_letters h _ hm)).2.2.2.2.1 rfl, fun hm => (letter_no _ (word_letters h _ hm)).2.2.2.2.2.1 rfl⟩
theorem word_ne {s : ByteArray} (h : isWordB s = true) : s.data.toList ≠ [] ∧ s.data.toList ≠ [46] ∧ s.data.toList ≠ [46, 46] ∧ s.size ≤ 64 := by
  unfold isWordB at h
  simp only [Bool.and_eq_true, Bool.not_eq_true', decide_eq_true_eq, Lib.toList_data] at h
  obtain ⟨⟨⟨⟨h1, h2⟩, h3⟩, h4⟩, _⟩ := h
  exact ⟨by intro e; simp [e] at h1, by intro e; simp [e] at h3, by intro e; simp [e] at h4, h2⟩
theorem toB_data (s : ByteArray) : toB s.data.toList = s := bytes_ext rfl
theorem trim_none (l : List UInt8) (x : UInt8) (hx : x ≠ 47) : Lib.trimSuffix (l ++ [x]) [47] = l ++ [x] := by
  unfold Lib.trimSuffix
  rw [if_neg]
  unfold Lib.hasSuffix
  intro h
  rw [List.isSuffixOf_iff_suffix] at h
  obtain ⟨t, ht⟩ := h
  have := (List.append_inj' ht rfl).2
  simp at this
  exact hx this.symm
end Go.Proofs.YtocgkpdolgnbgaaGreatDoor
