/- Split of Tags is the tags. -/
import Derived.Test.YtiglpecjpncclaaGreatDoorPlainG
import Derived.Test.YtiglpecjpncclaaGreatDoorSplit2
import Derived.Test.YtiglpecjpncclaaGreatDoorSane
import Derived.Test.YtiglpecjpncclaaGreatDoorProg
import Derived.WalkKit
import Derived.WalkSpells
import Derived.WalkLawsBesides
import Derived.Below
import Derived.Deep.QuietTactic
import Derived.BigQuiet
import Derived.Lib.QuietBelow
import Derived.Lib.Strings
import Derived.Lib.Hide
import Derived.Deep.RegionWith
import Derived.Deep.RegionHeld3
import Derived.Lib.IndexBytes
namespace Go.Proofs.YtiglpecjpncclaaGreatDoor
open Go.RowKit Go.Sort
set_option linter.unusedVariables false
set_option linter.unusedSimpArgs false
set_option maxRecDepth 100000
theorem split_comma : ∀ (x : BL) (l : List BL), 44 ∉ x → (∀ y ∈ l, 44 ∉ y) → splitL 44 (x ++ Lib.joinTail [44] l) = x :: l
  | x, [], hx, _ => by simp [Lib.joinTail]; exact split_none x 44 hx
  | x, y :: l, hx, hl => by
    have e : Lib.joinTail [44] (y :: l) = 44 :: (y ++ Lib.joinTail [44] l) := by simp [Lib.joinTail]
    rw [e, split_hit x _ 44 hx, split_comma y l (hl y (by simp)) (fun z hz => hl z (by simp [hz]))]
theorem split_joined (zs : List BL) (h0 : zs ≠ []) (h : ∀ z ∈ zs, 44 ∉ z) : splitL 44 (Lib.join zs [44]) = zs := by
  cases zs with
  | nil => exact absurd rfl h0
  | cons x l => rw [Lib.join_cons]; exact split_comma x l (h x (by simp)) (fun z hz => h z (by simp [hz]))
theorem tagsL_compact (zs : List BL) (h : zs.Pairwise (· < ·)) : Lib.compact (sortL zs) = zs := by
  have hs : sortL zs = zs := sortL_of (List.Perm.refl _) (h.imp fun h => List.le_of_lt h)
  rw [hs]
  obtain ⟨h1, h2⟩ := compact_sorted zs (h.imp fun h => List.le_of_lt h)
  exact uniq_sorted _ _ h1 h h2
theorem tagsR_ok {ps : List ByteArray} {T : ByteArray} (h : tagsR ps = (T, 0)) : ps.any (fun p => !isNameB p) = false ∧ (tagsL ps).length ≤ 4096 ∧ T = toB (tagsL ps) := by
  unfold tagsR at h
  split at h
  · cases h
  · rename_i h1
    split at h
    · cases h
    · rename_i h2
      refine ⟨by simpa using h1, by omega, ?_⟩
      cases h; rfl
theorem splitR_tags {ps : List ByteArray} {T : ByteArray} (h : tagsR ps = (T, 0)) : splitR T = ((Lib.compact (sortL (lists ps))).map toB, 0) := by
  obtain ⟨h1, h2, rfl⟩ := tagsR_ok h
  have tr : ∀ a b c : BL, decide (a ≤ b) = true → decide (b ≤ c) = true → decide (a ≤ c) = true := fun a b c h1 h2 => by simp only [decide_eq_true_eq] at *; exact List.le_trans h1 h2
  have tot : ∀ a b : BL, (decide (a ≤ b) || decide (b ≤ a)) = true := fun a b => by simp only [Bool.or_eq_true, decide_eq_true_eq]; exact List.le_total a b
  obtain ⟨h3, h4⟩ := compact_sorted (sortL (lists ps)) ((List.pairwise_mergeSort tr tot _).imp fun h => by simpa using h)
  have hm : ∀ a ∈ Lib.compact (sortL (lists ps)), ∃ p ∈ ps, isNameB p = true ∧ p.data.toList = a := by
    intro a ha
    rw [h4, sortL, (List.mergeSort_perm _ _).mem_iff] at ha
    obtain ⟨p, hp, rfl⟩ := List.mem_map.1 ha
    have := List.any_eq_false.1 h1 p hp
    exact ⟨p, hp, by simpa using this, rfl⟩
  have hT : tagsL ps = Lib.join (Lib.compact (sortL (lists ps))) [44] := rfl
  rw [hT] at h2 ⊢
  generalize Lib.compact (sortL (lists ps)) = zs at *
  have hdata : (toB (Lib.join zs [44])).data.toList = Lib.join zs [44] := by simp [toB]
  cases zs with
  | nil =>
    have : (toB (Lib.join ([] : List BL) [44])).toList = [] := by rw [Lib.toList_data, hdata]; rfl
    unfold splitR
    rw [this]; rfl
  | cons x l =>
    have hne : (toB (Lib.join (x :: l) [44])).toList.isEmpty = false := by
      rw [Lib.toList_data, hdata, Lib.join_cons]
      obtain ⟨p, _, hp, rfl⟩ := hm x (by simp)
      cases hx : p.data.toList with
      | nil =>
        have : p = ⟨#[]⟩ := bytes_ext (by rw [hx])
        rw [this] at hp
        exact absurd hp (by simp [isNameB, isWordB, Lib.toList_data])
      | cons a r => rfl
    have hsp : splitB 44 (toB (Lib.join (x :: l) [44])) = (x :: l).map toB := by
      show (splitL 44 (toB (Lib.join (x :: l) [44])).data.toList).map toB = _
      rw [hdata, split_joined (x :: l) (by simp) (fun z hz => by
        obtain ⟨p, _, hp, rfl⟩ := hm z hz
        exact (word_no (name_word hp)).2.2.2.2.2)]
    have htg : tagsR ((x :: l).map toB) = (toB (Lib.join (x :: l) [44]), 0) := by
      have e : tagsL ((x :: l).map toB) = Lib.join (x :: l) [44] := by
        have : lists ((x :: l).map toB) = x :: l := toB_back _
        unfold tagsL
        rw [this, tagsL_compact _ h3]
      unfold tagsR
      rw [if_neg, e, if_neg (by omega)]
      simp only [List.any_map, List.any_eq_true, not_exists]
      rintro z ⟨hz, hz2⟩
      obtain ⟨p, _, hp, rfl⟩ := hm z hz
      have : toB p.data.toList = p := bytes_ext (by simp [toB])
      simp [this, hp] at hz2
    unfold splitR
    rw [hne, if_neg (by decide), hsp, htg, if_pos ⟨rfl, by simp⟩]
theorem hasTag_tags {ps : List ByteArray} {T : ByteArray} (h : tagsR ps = (T, 0)) (p : ByteArray) (hp : p ∈ ps) : hasTagB T p = true := by
  have tr : ∀ a b c : BL, decide (a ≤ b) = true → decide (b ≤ c) = true → decide (a ≤ c) = true := fun a b c h1 h2 => by simp only [decide_eq_true_eq] at *; exact List.le_trans h1 h2
  have tot : ∀ a b : BL, (decide (a ≤ b) || decide (b ≤ a)) = true := fun a b => by simp only [Bool.or_eq_true, decide_eq_true_eq]; exact List.le_total a b
  obtain ⟨h3, h4⟩ := compact_sorted (sortL (lists ps)) ((List.pairwise_mergeSort tr tot _).imp fun h => by simpa using h)
  unfold hasTagB
  rw [splitR_tags h, Lib.containsS_iff]
  refine List.mem_map.2 ⟨p.data.toList, ?_, bytes_ext (by simp [toB])⟩
  rw [h4, sortL, (List.mergeSort_perm _ _).mem_iff]
  exact List.mem_map_of_mem hp

end Go.Proofs.YtiglpecjpncclaaGreatDoor
