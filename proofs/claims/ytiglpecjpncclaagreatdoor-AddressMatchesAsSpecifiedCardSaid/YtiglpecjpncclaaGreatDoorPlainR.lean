/- Plain: the specification's pairs, its query and its parts are the program's. -/
import Derived.Test.YtiglpecjpncclaaGreatDoorPlainG
import Derived.Test.YtiglpecjpncclaaGreatDoorPlainL
import Derived.Test.YtiglpecjpncclaaGreatDoorProg
import Derived.WalkKit
import Derived.WalkSpells
import Derived.WalkLawsBesides
import Derived.Below
import Derived.Deep.QuietTactic
import Derived.BigQuiet
import Derived.Lib.QuietBelow
import Derived.Lib.Strings
import Derived.Lib.Hide
import Derived.Deep.RegionWith
import Derived.Deep.RegionHeld3
import Derived.Lib.IndexBytes
namespace Go.Proofs.YtiglpecjpncclaaGreatDoor
open Go.RowKit Go.Sort
set_option linter.unusedVariables false
set_option linter.unusedSimpArgs false
set_option maxRecDepth 100000
abbrev BP := ByteArray × ByteArray
def putA (p : BP) (st : List BP × Bool) (x : BP) : List BP × Bool := if !st.2 && leS p.1 x.1 then (st.1 ++ [p], true) else st
def putSt (p : BP) (st : List BP × Bool) (x : BP) : List BP × Bool := if x.1.toList != p.1.toList then ((putA p st x).1 ++ [x], (putA p st x).2) else putA p st x
def putB (l : List BP) (p : BP) : List BP := if (l.foldl (putSt p) ([], false)).2 then (l.foldl (putSt p) ([], false)).1 else (l.foldl (putSt p) ([], false)).1 ++ [p]
def putP (p : BP) : List BP → List BP
  | [] => [p]
  | x :: l => if leS p.1 x.1 then p :: (x :: l).filter (fun y => y.1.toList != p.1.toList) else x :: putP p l
theorem put_true (p : BP) : ∀ (l acc : List BP), l.foldl (putSt p) (acc, true) = (acc ++ l.filter (fun y => y.1.toList != p.1.toList), true)
  | [], acc => by simp
  | x :: l, acc => by
    rw [List.foldl_cons]
    have e : putA p (acc, true) x = (acc, true) := by simp [putA]
    cases hne : (x.1.toList != p.1.toList)
    · rw [show putSt p (acc, true) x = (acc, true) by simp only [putSt, hne, e]; rfl, put_true p l acc, List.filter_cons, if_neg (by rw [hne]; decide)]
    · rw [show putSt p (acc, true) x = (acc ++ [x], true) by simp only [putSt, hne, e]; rfl, put_true p l (acc ++ [x]), List.filter_cons, if_pos hne]
      simp
theorem put_false (p : BP) : ∀ (l acc : List BP), (if (l.foldl (putSt p) (acc, false)).2 then (l.foldl (putSt p) (acc, false)).1 else (l.foldl (putSt p) (acc, false)).1 ++ [p]) = acc ++ putP p l
  | [], acc => by simp [putP]
  | x :: l, acc => by
    rw [List.foldl_cons]
    cases hle : leS p.1 x.1
    · have e : putA p (acc, false) x = (acc, false) := by simp [putA, hle]
      have hne : (x.1.toList != p.1.toList) = true := by
        rw [ne_iff]
        intro h
        have : leS p.1 x.1 = true := (leS_iff _ _).2 (by rw [h]; exact List.le_refl _)
        rw [hle] at this; cases this
      rw [show putSt p (acc, false) x = (acc ++ [x], false) by simp only [putSt, hne, e]; rfl, put_false p l (acc ++ [x]), putP, hle]
      simp
    · have e : putA p (acc, false) x = (acc ++ [p], true) := by simp [putA, hle]
      have hp : putP p (x :: l) = p :: (x :: l).filter (fun y => y.1.toList != p.1.toList) := by rw [putP, if_pos hle]
      cases hne : (x.1.toList != p.1.toList)
      · rw [show putSt p (acc, false) x = (acc ++ [p], true) by simp only [putSt, hne, e]; rfl, hp, put_true]
        have hf : (x :: l).filter (fun y => y.1.toList != p.1.toList) = l.filter (fun y => y.1.toList != p.1.toList) := by rw [List.filter_cons, if_neg (by rw [hne]; decide)]
        rw [hf]
        simp
      · rw [show putSt p (acc, false) x = (acc ++ [p] ++ [x], true) by simp only [putSt, hne, e]; rfl, hp, put_true]
        have hf : (x :: l).filter (fun y => y.1.toList != p.1.toList) = x :: l.filter (fun y => y.1.toList != p.1.toList) := by rw [List.filter_cons, if_pos hne]
        rw [hf]
        simp
theorem putB_eq (l : List BP) (p : BP) : putB l p = putP p l := by
  have := put_false p l []
  unfold putB
  rw [this]; rfl
theorem putP_ins (p : BP) : ∀ l : List BP, SortedK (lists2 l) → lists2 (putP p l) = insL (lists2 l) (p.1.data.toList, p.2.data.toList)
  | [], _ => rfl
  | x :: l, h => by
    have h' := List.pairwise_cons.1 (show SortedK ((x.1.data.toList, x.2.data.toList) :: lists2 l) from h)
    have hf : p.1.data.toList ≤ x.1.data.toList → l.filter (fun y => y.1.toList != p.1.toList) = l := fun hle => by
      refine List.filter_eq_self.2 fun y hy => (ne_iff _ _).2 fun e => ?_
      have := h'.1 (y.1.data.toList, y.2.data.toList) (List.mem_map_of_mem hy)
      dsimp only at this
      rw [e] at this
      exact List.not_lt.2 hle this
    unfold putP
    show _ = insL ((x.1.data.toList, x.2.data.toList) :: lists2 l) _
    rw [insL]
    by_cases e : p.1.data.toList = x.1.data.toList
    · have hle : p.1.data.toList ≤ x.1.data.toList := by rw [e]; exact List.le_refl _
      have hx : ¬ (x.1.toList != p.1.toList) = true := by rw [ne_iff]; exact fun h => h e.symm
      rw [if_pos ((leS_iff _ _).2 hle), if_pos e, List.filter_cons, if_neg hx, hf hle]
      rfl
    · by_cases e2 : p.1.data.toList < x.1.data.toList
      · have hle := List.le_of_lt e2
        have hx : (x.1.toList != p.1.toList) = true := by rw [ne_iff]; exact fun h => e h.symm
        rw [if_pos ((leS_iff _ _).2 hle), if_neg e, if_pos e2, List.filter_cons, if_pos hx, hf hle]
        rfl
      · rw [if_neg (fun h => e2 (lt_of_le_ne' ((leS_iff _ _).1 h) e)), if_neg e, if_neg e2]
        show _ :: lists2 (putP p l) = _
        rw [putP_ins p l h'.2]
theorem putB_sorted {l : List BP} {a : List (BL × BL)} (h : lists2 l = pairsL a) (q : BL × BL) : lists2 (putB l (toB q.1, toB q.2)) = pairsL (a ++ [q]) := by
  rw [putB_eq, putP_ins _ _ (by rw [h]; exact (good_pairs a).2.2.1), h]
  simp [pairsL, toB]
def qRef : List BP → List ByteArray → Option (List BP)
  | acc, [] => some acc
  | acc, p :: r => match parsePair p with
    | none => none
    | some q => qRef (putB acc (toB q.1, toB q.2)) r
theorem qRef_eq : ∀ (ps : List ByteArray) (acc : List BP) (a : List (BL × BL)), lists2 acc = pairsL a → (qRef acc ps).map lists2 = (qAcc a ps).map pairsL
  | [], acc, a, h => by simp [qRef, qAcc, h]
  | p :: r, acc, a, h => by
    rw [qRef, qAcc]
    cases parsePair p with
    | none => rfl
    | some q => exact qRef_eq r _ _ (putB_sorted h q)
theorem lists2_back (l : List BP) : (lists2 l).map (fun q => (toB q.1, toB q.2)) = l := by
  simp [lists2, Function.comp_def, toB_data]
theorem pairsB_ref (s : ByteArray) : pairsB s = if s.toList.isEmpty then some [] else qRef [] (splitB 38 s) := by
  unfold pairsB
  split
  · rfl
  · have h := qRef_eq (splitB 38 s) [] [] rfl
    have h2 := congrArg (Option.map fun l : List (BL × BL) => l.map fun q => (toB q.1, toB q.2)) h
    rw [Option.map_map, Option.map_map] at h2
    have e : (fun l : List (BL × BL) => l.map fun q => (toB q.1, toB q.2)) ∘ lists2 = id := funext lists2_back
    rw [e, Option.map_id] at h2
    exact h2.symm
theorem at_first (c : UInt8) : ∀ l : BL, c ∈ l → ∃ a b, l = a ++ c :: b ∧ c ∉ a
  | [], h => by simp at h
  | x :: l, h => by
    by_cases e : x = c
    · subst e; exact ⟨[], l, rfl, by simp⟩
    · rcases List.mem_cons.1 h with h | h
      · exact absurd h.symm e
      · obtain ⟨a, b, h1, h2⟩ := at_first c l h
        exact ⟨x :: a, b, by rw [h1]; rfl, by simp [h2]; exact fun e2 => e e2.symm⟩
theorem split_cut (c : UInt8) (t : BL) : splitL c t = (Lib.cut t [c]).1 :: (if (Lib.cut t [c]).2.2 then splitL c (Lib.cut t [c]).2.1 else []) := by
  by_cases h : c ∈ t
  · obtain ⟨a, b, rfl, hna⟩ := at_first c t h
    rw [cut_hit a b c hna, split_hit a b c hna]
    rfl
  · rw [cut_none t c h, split_none t c h]
    rfl
/-- The text that is split at slashes. -/
def stemB (s : ByteArray) : ByteArray := toB (Lib.trimSuffix (leftL s).1 [47])
theorem stem_split (s : ByteArray) : ∃ r, splitB 47 (stemB s) = toB (custL s).1 :: r ∧ pathB (custL s) = resB [] r := by
  refine ⟨if (custL s).2.2 then splitB 47 (toB (custL s).2.1) else [], ?_, ?_⟩
  · unfold splitB stemB
    rw [show (toB (Lib.trimSuffix (leftL s).1 [47])).data.toList = Lib.trimSuffix (leftL s).1 [47] from rfl, split_cut]
    unfold custL
    rw [List.map_cons]
    congr 1
    split <;> rfl
  · unfold pathB
    split <;> rfl

end Go.Proofs.YtiglpecjpncclaaGreatDoor
