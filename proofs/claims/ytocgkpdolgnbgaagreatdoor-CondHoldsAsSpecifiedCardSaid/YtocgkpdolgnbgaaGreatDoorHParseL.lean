/- Plain: what a parsed address is like. -/
import Derived.Test.YtocgkpdolgnbgaaGreatDoorHParse
import Derived.Test.YtocgkpdolgnbgaaGreatDoorHText
import Derived.Test.YtocgkpdolgnbgaaGreatDoorProg
import Derived.WalkKit
import Derived.WalkSpells
import Derived.WalkLawsBesides
import Derived.Below
import Derived.Deep.QuietTactic
import Derived.BigQuiet
import Derived.Lib.QuietBelow
import Derived.Lib.Strings
import Derived.Lib.Hide
import Derived.Deep.RegionWith
import Derived.Deep.RegionHeld3
import Derived.Lib.IndexBytes
namespace Go.Proofs.YtocgkpdolgnbgaaGreatDoor
open Go.RowKit Go.Sort
set_option linter.unusedVariables false
set_option linter.unusedSimpArgs false
theorem resB_words : ∀ (ps out r : List ByteArray), (∀ p ∈ out, isWordB p = true) → resB out ps = some r → ∀ p ∈ r, isWordB p = true
  | [], out, r, h, e => by simp [resB] at e; subst e; exact h
  | p :: ps, out, r, h, e => by
    rw [resB] at e
    cases hs : resStep out p with
    | none => rw [hs] at e; cases e
    | some o =>
      rw [hs, Option.bind_some] at e
      refine resB_words ps o r (fun q hq => ?_) e
      unfold resStep at hs
      split at hs
      · injection hs with hs; subst hs; exact h q hq
      · split at hs
        · injection hs with hs; subst hs; exact h q (List.dropLast_subset _ hq)
        · split at hs
          · injection hs with hs; subst hs
            rcases List.mem_append.1 hq with hq | hq
            · exact h q hq
            · rw [List.mem_singleton.1 hq]; assumption
          · cases hs
theorem qAcc_words : ∀ (ps : List ByteArray) (acc r : List (List UInt8 × List UInt8)), (∀ q ∈ acc, isNameB (toB q.1) = true ∧ isWordB (toB q.2) = true) → qAcc acc ps = some r → ∀ q ∈ r, isNameB (toB q.1) = true ∧ isWordB (toB q.2) = true
  | [], acc, r, h, e => by simp [qAcc] at e; subst e; exact h
  | p :: ps, acc, r, h, e => by
    rw [qAcc] at e
    cases hs : parsePair p with
    | none => rw [hs] at e; cases e
    | some x =>
      rw [hs] at e
      refine qAcc_words ps _ r (fun q hq => ?_) e
      rcases List.mem_append.1 hq with hq | hq
      · exact h q hq
      · rw [List.mem_singleton.1 hq]
        unfold parsePair at hs
        split at hs
        · rename_i hc
          simp only [Bool.and_eq_true] at hc
          injection hs with hs; subst hs
          exact ⟨hc.1.2, hc.2⟩
        · cases hs
def KeysUp (q : List (ByteArray × ByteArray)) : Prop := q.Pairwise fun a b => a.1.data.toList < b.1.data.toList
theorem pairsB_good (s : ByteArray) (r : List (ByteArray × ByteArray)) (h : pairsB s = some r) : (∀ q ∈ r, isNameB q.1 = true ∧ isWordB q.2 = true) ∧ KeysUp r := by
  unfold pairsB at h
  split at h
  · injection h with h; subst h; exact ⟨by simp, List.Pairwise.nil⟩
  · cases hq : qAcc [] (splitB 38 s) with
    | none => rw [hq] at h; cases h
    | some acc =>
      rw [hq, Option.map_some] at h
      injection h with h; subst h
      constructor
      · intro q hq'
        obtain ⟨x, hx, rfl⟩ := List.mem_map.1 hq'
        exact qAcc_words _ _ _ (by simp) hq x (mem_pairsL hx)
      · exact List.pairwise_map.2 ((good_pairs acc).2.2.1)
structure AdrGood (a : Adr) : Prop where
  name : isNameB a.cust = true
  words : ∀ p ∈ a.path, isWordB p = true
  parts : a.path.length ≤ 32
  pairs : a.query.length ≤ 16
  query : ∀ q ∈ a.query, isNameB q.1 = true ∧ isWordB q.2 = true
  up : KeysUp a.query
theorem parse_good (s : ByteArray) (h : (parseB s).2 = 0) : AdrGood (parseB s).1 := by
  unfold parseB at h ⊢
  split at h
  · cases h
  · rename_i hs
    rw [if_neg hs]
    generalize hrr : pathB (custL s) = rr at h ⊢
    generalize hqq : pairsB (toB (leftL s).2.1) = qq at h ⊢
    generalize hnm : isNameB (toB (custL s).1) = nm at h ⊢
    unfold adrOf at h ⊢
    split at h
    · split at h
      · rename_i hl
        simp only [hl, and_self, if_true]
        have hp := pairsB_good _ _ hqq
        refine ⟨hnm, ?_, hl.1, hl.2, hp.1, hp.2⟩
        unfold pathB at hrr
        split at hrr
        · exact resB_words _ _ _ (by simp) hrr
        · injection hrr with hrr; subst hrr; simp
      · cases h
    · cases h
theorem parse_err (s : ByteArray) (h : (parseB s).2 ≠ 0) : (parseB s).1 = noAdr := by
  unfold parseB at h ⊢
  split
  · rfl
  · rename_i hs
    rw [if_neg hs] at h
    generalize pathB (custL s) = rr at h ⊢
    generalize pairsB (toB (leftL s).2.1) = qq at h ⊢
    generalize isNameB (toB (custL s).1) = nm at h ⊢
    unfold adrOf at h ⊢
    split
    · split
      · rename_i hl; exact absurd (by simp [hl]) h
      · rfl
    · rfl
theorem parse_errno (s : ByteArray) : (parseB s).2 = 0 ∨ (parseB s).2 = 2 ∨ (parseB s).2 = 3 := by
  unfold parseB
  split
  · simp
  · unfold adrOf
    split
    · split <;> simp
    · simp
theorem pathL_bound : ∀ l : List (List UInt8), (∀ p ∈ l, p.length ≤ 64) → (pathL l).length ≤ l.length * 65
  | [], _ => by simp [pathL]
  | p :: l, h => by
    have h1 := h p (by simp)
    have h2 := pathL_bound l (fun q hq => h q (by simp [hq]))
    simp only [pathL, List.flatMap_cons, List.length_append, List.length_cons] at h2 ⊢
    omega
theorem queryL_bound : ∀ (sep : UInt8) (l : List (List UInt8 × List UInt8)), (∀ p ∈ l, p.1.length ≤ 64 ∧ p.2.length ≤ 64) → (queryL sep l).length ≤ l.length * 130
  | _, [], _ => by simp [queryL]
  | _, p :: l, h => by
    have h1 := h p (by simp)
    have h2 := queryL_bound 38 l (fun q hq => h q (by simp [hq]))
    simp only [queryL, List.length_append, List.length_cons] at h2 ⊢
    omega
theorem good_bound {a : Adr} (h : AdrGood a) : (W06 a.cust a.path a.query).length ≤ 10000 := by
  have h1 := pathL_bound (lists a.path) (by
    intro p hp
    obtain ⟨x, hx, rfl⟩ := List.mem_map.1 hp
    have := size_of_word (h.words x hx)
    rw [Lib.size_eq] at this; exact this)
  have h2 := queryL_bound 63 (lists2 a.query) (by
    intro p hp
    obtain ⟨x, hx, rfl⟩ := List.mem_map.1 hp
    have h3 := size_of_name (h.query x hx).1
    have h4 := size_of_word (h.query x hx).2
    rw [Lib.size_eq] at h3 h4; exact ⟨h3, h4⟩)
  have h3 := size_of_name h.name
  rw [Lib.size_eq] at h3
  have h4 := h.parts
  have h5 := h.pairs
  simp only [lists, lists2, List.length_map] at h1 h2
  simp only [W06, writeL, List.length_append, lists, lists2]
  omega
theorem parse_bound (s : ByteArray) : (W06 (parseB s).1.cust (parseB s).1.path (parseB s).1.query).length ≤ 10000 := by
  by_cases h : (parseB s).2 = 0
  · exact good_bound (parse_good s h)
  · rw [parse_err s h]
    simp [noAdr, W06, writeL, pathL, queryL, lists, lists2]
end Go.Proofs.YtocgkpdolgnbgaaGreatDoor
