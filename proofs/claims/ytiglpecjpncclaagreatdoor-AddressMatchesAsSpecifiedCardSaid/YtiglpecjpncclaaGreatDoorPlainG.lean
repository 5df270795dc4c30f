/- The specification's tags are the program's. -/
import Derived.Test.YtiglpecjpncclaaGreatDoorRef6
import Derived.Test.YtiglpecjpncclaaGreatDoorPlainU
import Derived.Test.YtiglpecjpncclaaGreatDoorProg
import Derived.WalkKit
import Derived.WalkSpells
import Derived.WalkLawsBesides
import Derived.Below
import Derived.Deep.QuietTactic
import Derived.BigQuiet
import Derived.Lib.QuietBelow
import Derived.Lib.Strings
import Derived.Lib.Hide
import Derived.Deep.RegionWith
import Derived.Deep.RegionHeld3
import Derived.Lib.IndexBytes
namespace Go.Proofs.YtiglpecjpncclaaGreatDoor
open Go.RowKit Go.Sort
set_option linter.unusedVariables false
set_option linter.unusedSimpArgs false
set_option maxRecDepth 100000
abbrev BL := List UInt8
theorem uniq_sorted : ∀ (xs ys : List BL), xs.Pairwise (· < ·) → ys.Pairwise (· < ·) → (∀ a, a ∈ xs ↔ a ∈ ys) → xs = ys
  | [], [], _, _, _ => rfl
  | [], y :: _, _, _, h => absurd ((h y).2 (by simp)) (by simp)
  | x :: _, [], _, _, h => absurd ((h x).1 (by simp)) (by simp)
  | x :: xs, y :: ys, hx, hy, h => by
    have hx' := List.pairwise_cons.1 hx
    have hy' := List.pairwise_cons.1 hy
    have e : x = y := by
      rcases List.mem_cons.1 ((h x).1 (by simp)) with e | e
      · exact e
      · rcases List.mem_cons.1 ((h y).2 (by simp)) with e2 | e2
        · exact e2.symm
        · exact absurd (hy'.1 x e) (List.lt_asymm (hx'.1 y e2))
    subst e
    rw [uniq_sorted xs ys hx'.2 hy'.2 (fun a => ?_)]
    constructor
    · intro ha
      rcases List.mem_cons.1 ((h a).1 (by simp [ha])) with e | e
      · subst e; exact absurd (hx'.1 a ha) (List.lt_irrefl a)
      · exact e
    · intro ha
      rcases List.mem_cons.1 ((h a).2 (by simp [ha])) with e | e
      · subst e; exact absurd (hy'.1 a ha) (List.lt_irrefl a)
      · exact e
theorem lt_of_le_ne' {a b : BL} (h : a ≤ b) (hn : a ≠ b) : a < b := by
  rcases Decidable.em (a < b) with h1 | h1
  · exact h1
  · exact absurd (List.le_antisymm h (List.not_lt.1 h1)) hn
theorem compact_inv (d : Array BL) (hs : ∀ i j, i ≤ j → j < d.size → d[i]! ≤ d[j]!) : ∀ m, m ≤ d.size → (Lib.compactUpTo d m).Pairwise (· < ·) ∧ (∀ j, j < m → d[j]! ∈ Lib.compactUpTo d m) ∧ (∀ x ∈ Lib.compactUpTo d m, ∃ j, j < m ∧ x = d[j]!)
  | 0, _ => by simp [Lib.compactUpTo]
  | m + 1, hm => by
    obtain ⟨h1, h2, h3⟩ := compact_inv d hs m (by omega)
    rw [Lib.compactUpTo_succ]
    by_cases hk : Lib.keeps d m = true
    · rw [if_pos hk]
      refine ⟨List.pairwise_append.2 ⟨h1, by simp, fun a ha b hb => ?_⟩, fun j hj => ?_, fun x hx => ?_⟩
      · rw [List.mem_singleton.1 hb]
        obtain ⟨j, hj, rfl⟩ := h3 a ha
        have hne : d[m - 1]! ≠ d[m]! := by
          intro e
          simp [Lib.keeps] at hk
          rcases hk with hk | hk
          · omega
          · first | exact hk e.symm | exact hk e
        have l1 := hs j (m - 1) (by omega) (by omega)
        have l2 := lt_of_le_ne' (hs (m - 1) m (by omega) (by omega)) hne
        exact Std.lt_of_le_of_lt l1 l2
      · by_cases e : j = m
        · subst e; simp
        · exact List.mem_append_left _ (h2 j (by omega))
      · rcases List.mem_append.1 hx with hx | hx
        · obtain ⟨j, hj, rfl⟩ := h3 x hx
          exact ⟨j, by omega, rfl⟩
        · exact ⟨m, by omega, List.mem_singleton.1 hx⟩
    · rw [if_neg hk, List.append_nil]
      refine ⟨h1, fun j hj => ?_, fun x hx => ?_⟩
      · by_cases e : j = m
        · subst e
          have hj0 : j ≠ 0 ∧ d[j]! = d[j - 1]! := by
            simp [Lib.keeps] at hk
            first | exact hk | exact ⟨hk.1, hk.2.symm⟩
          rw [hj0.2]
          exact h2 (j - 1) (by omega)
        · exact h2 j (by omega)
      · obtain ⟨j, hj, rfl⟩ := h3 x hx
        exact ⟨j, by omega, rfl⟩
theorem compact_sorted (zs : List BL) (hs : zs.Pairwise (· ≤ ·)) : (Lib.compact zs).Pairwise (· < ·) ∧ ∀ a, a ∈ Lib.compact zs ↔ a ∈ zs := by
  have hd : ∀ i j, i ≤ j → j < zs.toArray.size → zs.toArray[i]! ≤ zs.toArray[j]! := by
    intro i j hij hj
    simp only [List.size_toArray] at hj
    rw [getElem!_pos _ i (by simp; omega), getElem!_pos _ j (by simpa using hj)]
    simp only [List.getElem_toArray]
    rcases Nat.lt_or_eq_of_le hij with h | h
    · exact List.pairwise_iff_getElem.1 hs i j (by omega) hj h
    · subst h; exact List.le_refl _
  obtain ⟨h1, h2, h3⟩ := compact_inv zs.toArray hd zs.length (by simp)
  refine ⟨h1, fun a => ⟨fun h => ?_, fun h => ?_⟩⟩
  · exact compact_mem zs a h
  · obtain ⟨j, hj, rfl⟩ := List.getElem_of_mem h
    have := h2 j hj
    rw [getElem!_pos _ j (by simpa using hj)] at this
    unfold Lib.compact
    simpa using this
def insP (s : ByteArray) : List ByteArray → List ByteArray
  | [] => [s]
  | x :: l => if leS s x then s :: (x :: l).filter (fun y => y.toList != s.toList) else x :: insP s l
theorem leS_iff (s x : ByteArray) : leS s x = true ↔ s.data.toList ≤ x.data.toList := by
  have h := key_less s x
  unfold leS
  rw [← List.not_lt]
  constructor
  · intro h1 h2
    rw [h1] at h
    simp [h2] at h
  · intro h1
    cases hb : (Op.bytesLess s.toList x.toList || s.toList == x.toList)
    · rw [hb] at h
      exact absurd (by simpa using h) h1
    · rfl
theorem ne_iff (s x : ByteArray) : (x.toList != s.toList) = true ↔ x.data.toList ≠ s.data.toList := by
  rw [Lib.toList_data, Lib.toList_data]; simp
theorem ins_true (s : ByteArray) : ∀ (l acc : List ByteArray), l.foldl (insSt s) (acc, true) = (acc ++ l.filter (fun y => y.toList != s.toList), true)
  | [], acc => by simp
  | x :: l, acc => by
    rw [List.foldl_cons]
    have e : insA s (acc, true) x = (acc, true) := by simp [insA]
    cases hne : (x.toList != s.toList)
    · rw [show insSt s (acc, true) x = (acc, true) by simp only [insSt, hne, e]; rfl, ins_true s l acc, List.filter_cons, if_neg (by rw [hne]; decide)]
    · rw [show insSt s (acc, true) x = (acc ++ [x], true) by simp only [insSt, hne, e]; rfl, ins_true s l (acc ++ [x]), List.filter_cons, if_pos hne]
      simp
theorem ins_false (s : ByteArray) : ∀ (l acc : List ByteArray), (if (l.foldl (insSt s) (acc, false)).2 then (l.foldl (insSt s) (acc, false)).1 else (l.foldl (insSt s) (acc, false)).1 ++ [s]) = acc ++ insP s l
  | [], acc => by simp [insP]
  | x :: l, acc => by
    rw [List.foldl_cons]
    cases hle : leS s x
    · have e : insA s (acc, false) x = (acc, false) := by simp [insA, hle]
      have hne : (x.toList != s.toList) = true := by
        rw [ne_iff]
        intro h
        have : leS s x = true := (leS_iff s x).2 (by rw [h]; exact List.le_refl _)
        rw [hle] at this; cases this
      rw [show insSt s (acc, false) x = (acc ++ [x], false) by simp only [insSt, hne, e]; rfl, ins_false s l (acc ++ [x]), insP, hle]
      simp
    · have e : insA s (acc, false) x = (acc ++ [s], true) := by simp [insA, hle]
      have hp : insP s (x :: l) = s :: (x :: l).filter (fun y => y.toList != s.toList) := by rw [insP, if_pos hle]
      cases hne : (x.toList != s.toList)
      · rw [show insSt s (acc, false) x = (acc ++ [s], true) by simp only [insSt, hne, e]; rfl, hp, ins_true]
        have hf : (x :: l).filter (fun y => y.toList != s.toList) = l.filter (fun y => y.toList != s.toList) := by rw [List.filter_cons, if_neg (by rw [hne]; decide)]
        rw [hf]
        simp
      · rw [show insSt s (acc, false) x = (acc ++ [s] ++ [x], true) by simp only [insSt, hne, e]; rfl, hp, ins_true]
        have hf : (x :: l).filter (fun y => y.toList != s.toList) = x :: l.filter (fun y => y.toList != s.toList) := by rw [List.filter_cons, if_pos hne]
        rw [hf]
        simp
theorem insB_eq (l : List ByteArray) (s : ByteArray) : insB l s = insP s l := by
  have := ins_false s l []
  unfold insB
  rw [this]; rfl
theorem insP_mem (s : ByteArray) (a : BL) : ∀ l, a ∈ lists (insP s l) ↔ a = s.data.toList ∨ a ∈ lists l
  | [] => by simp [insP, lists]
  | x :: l => by
    unfold insP
    split
    · simp only [lists, List.map_cons, List.mem_cons, List.mem_map, List.mem_filter]
      constructor
      · rintro (h | ⟨y, ⟨h1, _⟩, h2⟩)
        · exact .inl h
        · rcases h1 with rfl | h1
          · exact .inr (.inl h2.symm)
          · exact .inr (.inr ⟨y, h1, h2⟩)
      · intro h
        by_cases hs : a = s.data.toList
        · exact .inl hs
        · right
          rcases h with h | h | ⟨y, h1, h2⟩
          · exact absurd h hs
          · exact ⟨x, ⟨.inl rfl, (ne_iff s x).2 (by rw [← h]; exact hs)⟩, h.symm⟩
          · exact ⟨y, ⟨.inr h1, (ne_iff s y).2 (by rw [h2]; exact hs)⟩, h2⟩
    · have ih := insP_mem s a l
      simp only [lists, List.map_cons, List.mem_cons] at ih ⊢
      rw [ih]
      constructor
      · rintro (h | h | h)
        · exact .inr (.inl h)
        · exact .inl h
        · exact .inr (.inr h)
      · rintro (h | h | h)
        · exact .inr (.inl h)
        · exact .inl h
        · exact .inr (.inr h)
theorem insP_sorted (s : ByteArray) : ∀ l, (lists l).Pairwise (· < ·) → (lists (insP s l)).Pairwise (· < ·)
  | [], _ => by simp [insP, lists]
  | x :: l, h => by
    have h' := List.pairwise_cons.1 (show (x.data.toList :: lists l).Pairwise (· < ·) from h)
    unfold insP
    split
    · rename_i hle
      have hle := (leS_iff s x).1 hle
      show (s.data.toList :: lists ((x :: l).filter (fun y => y.toList != s.toList))).Pairwise (· < ·)
      refine List.pairwise_cons.2 ⟨fun a ha => ?_, h.sublist (List.filter_sublist.map _)⟩
      obtain ⟨y, hy, rfl⟩ := List.mem_map.1 ha
      obtain ⟨hy1, hy2⟩ := List.mem_filter.1 hy
      have hn := (ne_iff s y).1 hy2
      refine lt_of_le_ne' ?_ (fun e => hn e.symm)
      rcases List.mem_cons.1 hy1 with rfl | hy1
      · exact hle
      · exact List.le_trans hle (List.le_of_lt (h'.1 _ (List.mem_map_of_mem hy1)))
    · rename_i hle
      have hlt : x.data.toList < s.data.toList := by
        rw [← Decidable.not_not (p := x.data.toList < s.data.toList), List.not_lt]
        exact fun h => hle ((leS_iff s x).2 h)
      show (x.data.toList :: lists (insP s l)).Pairwise (· < ·)
      refine List.pairwise_cons.2 ⟨fun a ha => ?_, insP_sorted s l h'.2⟩
      rcases (insP_mem s a l).1 ha with rfl | ha
      · exact hlt
      · exact h'.1 a ha
theorem insFold_sorted (l : List ByteArray) : ∀ acc, (lists acc).Pairwise (· < ·) → (lists (l.foldl insB acc)).Pairwise (· < ·) ∧ ∀ a, a ∈ lists (l.foldl insB acc) ↔ a ∈ lists acc ∨ a ∈ lists l := by
  induction l with
  | nil => intro acc h; exact ⟨h, fun a => by simp [lists]⟩
  | cons x l ih =>
    intro acc h
    obtain ⟨h1, h2⟩ := ih (insB acc x) (by rw [insB_eq]; exact insP_sorted x acc h)
    refine ⟨h1, fun a => ?_⟩
    rw [List.foldl_cons, h2, insB_eq, insP_mem]
    simp only [lists, List.map_cons, List.mem_cons]
    constructor
    · rintro ((h | h) | h)
      · exact .inr (.inl h)
      · exact .inl h
      · exact .inr (.inr h)
    · rintro (h | h | h)
      · exact .inl (.inr h)
      · exact .inl (.inl h)
      · exact .inr h
theorem rTags_same (l : List ByteArray) : rTagsL l = tagsL l := by
  have tr : ∀ a b c : BL, decide (a ≤ b) = true → decide (b ≤ c) = true → decide (a ≤ c) = true := fun a b c h1 h2 => by simp only [decide_eq_true_eq] at *; exact List.le_trans h1 h2
  have tot : ∀ a b : BL, (decide (a ≤ b) || decide (b ≤ a)) = true := fun a b => by simp only [Bool.or_eq_true, decide_eq_true_eq]; exact List.le_total a b
  obtain ⟨h1, h2⟩ := insFold_sorted l [] (by simp [lists])
  obtain ⟨h3, h4⟩ := compact_sorted (sortL (lists l)) ((List.pairwise_mergeSort tr tot _).imp fun h => by simpa using h)
  unfold rTagsL tagsL
  congr 1
  refine uniq_sorted _ _ h1 h3 fun a => ?_
  rw [h2, h4, sortL, (List.mergeSort_perm _ _).mem_iff]
  simp [lists]
theorem rTagsR_eq (l : List ByteArray) : rTagsR l = tagsR l := by
  unfold rTagsR tagsR
  rw [rTags_same]

end Go.Proofs.YtiglpecjpncclaaGreatDoor
