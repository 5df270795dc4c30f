/- Plain: the texts of patterns and of the addresses that they match. -/
import Derived.Test.YtocgkpdolgnbgaaGreatDoorPPlainP
import Derived.Test.YtocgkpdolgnbgaaGreatDoorProg
import Derived.WalkKit
import Derived.WalkSpells
import Derived.WalkLawsBesides
import Derived.Below
import Derived.Deep.QuietTactic
import Derived.BigQuiet
import Derived.Lib.QuietBelow
import Derived.Lib.Strings
import Derived.Lib.Hide
import Derived.Deep.RegionWith
import Derived.Deep.RegionHeld3
import Derived.Lib.IndexBytes
namespace Go.Proofs.YtocgkpdolgnbgaaGreatDoor
open Go.RowKit Go.Sort
set_option linter.unusedVariables false
set_option linter.unusedSimpArgs false
set_option maxRecDepth 100000
theorem tail_path (l : List (List UInt8)) : Lib.joinTail [47] l = pathL l := by
  induction l with
  | nil => rfl
  | cons x l ih =>
    simp only [Lib.joinTail, pathL, List.map_cons, List.flatten_cons, List.flatMap_cons] at ih ⊢
    rw [ih]; rfl
theorem join_data (c : ByteArray) (ws : List ByteArray) : (joinS (c :: ws)).data.toList = c.data.toList ++ pathL (lists ws) := by
  unfold joinS lists
  rw [List.map_cons, Lib.join_cons, tail_path]
  rfl
theorem split_join (c : ByteArray) (ws : List ByteArray) (hc : 47 ∉ c.data.toList) (hw : ∀ w ∈ ws, 47 ∉ w.data.toList) : splitB 47 (joinS (c :: ws)) = c :: ws := by
  unfold splitB
  rw [join_data, split_path _ _ hc (by
    intro y hy
    obtain ⟨z, hz, rfl⟩ := List.mem_map.1 hy
    exact hw z hz)]
  have : ∀ z : ByteArray, (⟨z.data.toList.toArray⟩ : ByteArray) = z := fun z => bytes_ext rfl
  simp [lists, Function.comp_def]
theorem split_back : ∀ l : List UInt8, ∃ x r, splitL 47 l = x :: r ∧ l = x ++ pathL r
  | [] => ⟨[], [], rfl, rfl⟩
  | b :: l => by
    obtain ⟨x, r, h1, h2⟩ := split_back l
    unfold splitL
    split
    · rename_i e
      exact ⟨[], x :: r, by rw [h1], by rw [e, h2]; simp [pathL]⟩
    · rw [h1]
      exact ⟨b :: x, r, rfl, by rw [h2]; rfl⟩
theorem join_split (s : ByteArray) : joinS (splitB 47 s) = s := by
  obtain ⟨x, r, h1, h2⟩ := split_back s.data.toList
  unfold splitB
  rw [h1, List.map_cons]
  refine bytes_ext ?_
  rw [join_data]
  have : lists (r.map fun l => (⟨l.toArray⟩ : ByteArray)) = r := by simp [lists, Function.comp_def]
  rw [this, h2]
theorem str_data (k : Nat) (t : ByteArray) : (stringP k t).data.toList = if k = 0 then t.data.toList else 42 :: t.data.toList := by
  unfold stringP
  split
  · rfl
  · simp
theorem str_fit {p : Part} (hp : PartFit p) : partOkB (stringP p.kind p.text) = true ∧ partOfP (stringP p.kind p.text) = p ∧ 47 ∉ (stringP p.kind p.text).data.toList ∧ (stringP p.kind p.text).data.toList ≠ [42, 42] := by
  obtain ⟨k, t⟩ := p
  have e := str_data k t
  rcases hp with ⟨hk, hw⟩ | ⟨hk, s, hs, hs2, ht⟩ | ⟨hk, ht⟩ <;> dsimp only at * <;> subst hk
  · have e0 : stringP 0 t = t := rfl
    rw [e0]
    refine ⟨?_, partOf_word hw, (word_no hw).1, fun h => ?_⟩
    · unfold partOkB; rw [hw]; simp
    · exact (word_no hw).2.2.2.2.1 (by rw [h]; simp)
  · rw [if_neg (by decide), ht] at e
    refine ⟨?_, ?_, ?_, ?_⟩
    · have h2 : (stringP 1 t).extract 2 (stringP 1 t).size = s := bytes_ext (by rw [extract_data, e]; rfl)
      have hz : (stringP 1 t).size = s.size + 2 := by rw [size_data, size_data, e]; rfl
      unfold partOkB
      rw [h2, hs, e, hz]
      have h34 : decide (s.size + 2 ≤ 34) = true := by simp; omega
      rw [h34]
      simp [Lib.hasPrefix]
    · rw [partOf_star _ e]
      simp only [List.isEmpty_cons, Bool.false_eq_true, if_false]
      exact congrArg (Part.mk 1) (bytes_ext ht.symm)
    · rw [e]
      have := (word_no hs).1
      simp [this]
    · rw [e]; intro h; injection h with _ h; injection h with h _; exact absurd h (by decide)
  · subst ht
    rw [if_neg (by decide)] at e
    refine ⟨?_, ?_, ?_, ?_⟩
    · unfold partOkB; rw [Lib.toList_data, e]; rfl
    · rw [partOf_star _ e]; rfl
    · rw [e]; simp
    · rw [e]; simp
theorem str_cust {p : Part} (hp : CustFit p) : headOkB (stringP p.kind p.text) = true := by
  have e := str_data p.kind p.text
  obtain ⟨k, t⟩ := p
  rcases hp with ⟨hk, hw⟩ | ⟨hk, ht⟩ <;> dsimp only at * <;> subst hk
  · have e0 : stringP 0 t = t := rfl
    rw [e0]; unfold headOkB; rw [hw, Bool.or_true]
  · unfold headOkB
    rw [Lib.toList_data, e, ht]; rfl
def tailL (b : Bool) : List ByteArray := if b then [⟨#[42, 42]⟩] else []
theorem cmpL_str : ∀ (ps acc : List Part) (b : Bool), (∀ p ∈ ps, PartFit p) → cmpL (strL ps ++ tailL b) acc = some (acc ++ ps, b)
  | [], acc, b, _ => by
    cases b
    · simp [strL, tailL, cmpL]
    · simp only [strL, tailL, List.map_nil, List.nil_append, if_true, cmpL]
      rw [if_pos (by rw [Lib.toList_data]; rfl)]
      simp
  | p :: ps, acc, b, h => by
    obtain ⟨h1, h2, h3, h4⟩ := str_fit (h p (by simp))
    have e : strL (p :: ps) ++ tailL b = stringP p.kind p.text :: (strL ps ++ tailL b) := rfl
    rw [e, cmpL, if_neg (by rw [Lib.toList_data]; simp [h4]), if_pos h1, h2, cmpL_str ps _ b fun q hq => h q (by simp [hq])]
    simp
theorem patS_eq (z : Pat) : patS z = joinS (stringP z.cust.kind z.cust.text :: (strL z.parts ++ tailL z.tail)) := rfl
theorem compL_cons (l0 : ByteArray) (r : List ByteArray) : compL (l0 :: r) = if (decide (r.length ≤ 32) && headOkB l0) = true then (cmpL r []).map fun x => ⟨partOfP l0, x.1, x.2⟩ else none := rfl
theorem compile_str {z : Pat} (hz : PatFit z) : compileB (patS z) = some z := by
  unfold compileB
  rw [patS_eq, split_join _ _ (str_fit hz.cust.part).2.2.1 (by
    intro w hw
    rcases List.mem_append.1 hw with hw | hw
    · obtain ⟨p, hp, rfl⟩ := List.mem_map.1 hw
      exact (str_fit (hz.parts p hp)).2.2.1
    · unfold tailL at hw
      split at hw
      · rw [List.mem_singleton.1 hw]; decide
      · cases hw)]
  rw [compL_cons]
  have hn := hz.num
  have hl : (strL z.parts ++ tailL z.tail).length ≤ 32 := by
    unfold strL tailL
    rw [List.length_append, List.length_map]
    cases ht : z.tail <;> simp [ht] at hn ⊢ <;> omega
  rw [if_pos (by rw [Bool.and_eq_true, decide_eq_true_eq]; exact ⟨hl, str_cust hz.cust⟩), cmpL_str _ _ _ hz.parts, (str_fit hz.cust.part).2.1]
  rfl
theorem str_head {w : ByteArray} (h : headOkB w = true) : stringP (partOfP w).kind (partOfP w).text = w := by
  unfold headOkB at h
  rw [Bool.or_eq_true, Lib.toList_data, beq_iff_eq] at h
  rcases h with h | h
  · rw [partOf_star [] h]
    exact bytes_ext (by rw [str_data, if_neg (by decide), h]; rfl)
  · rw [partOf_word (name_word h)]; rfl
theorem str_part {w : ByteArray} (h : partOkB w = true) : stringP (partOfP w).kind (partOfP w).text = w := by
  have hf := partOk_fit h
  unfold partOkB at h
  rw [Bool.or_eq_true, Bool.or_eq_true, Lib.toList_data, beq_iff_eq] at h
  rcases h with (h | h) | h
  · rw [partOf_star [] h]
    exact bytes_ext (by rw [str_data, if_neg (by decide), h]; rfl)
  · rw [partOf_word h]; rfl
  · simp only [Bool.and_eq_true, decide_eq_true_eq] at h
    obtain ⟨⟨h1, h2⟩, h3⟩ := h
    obtain ⟨r, hr⟩ := prefix_two h2
    rw [partOf_star (46 :: r) hr]
    exact bytes_ext (by simp [str_data, hr])
theorem strL_back : ∀ (l : List ByteArray) (acc : List Part) (r : List Part × Bool), cmpL l acc = some r → strL r.1 ++ tailL r.2 = strL acc ++ l
  | [], acc, r, e => by simp [cmpL] at e; subst e; simp [tailL]
  | w :: l, acc, r, e => by
    rw [cmpL] at e
    split at e
    · rename_i hc
      injection e with e; subst e
      simp only [Bool.and_eq_true, List.isEmpty_iff, Lib.toList_data, beq_iff_eq] at hc
      rw [hc.2]
      have : w = ⟨#[42, 42]⟩ := bytes_ext hc.1
      rw [this]; rfl
    · split at e
      · rename_i hk
        rw [strL_back l _ r e]
        unfold strL
        rw [List.map_append, List.map_cons, str_part hk]
        simp
      · cases e
theorem str_compile {q : ByteArray} {y : Pat} (h : compileB q = some y) : patS y = q := by
  unfold compileB at h
  have hj := join_split q
  generalize splitB 47 q = l at h hj
  cases l with
  | nil => cases h
  | cons l0 r =>
    rw [compL_cons] at h
    split at h
    · rename_i hc
      rw [Bool.and_eq_true] at hc
      obtain ⟨x, hx, rfl⟩ := Option.map_eq_some_iff.1 h
      have hb := strL_back r [] x hx
      rw [patS_eq]
      show joinS (stringP (partOfP l0).kind (partOfP l0).text :: (strL x.1 ++ tailL x.2)) = q
      rw [str_head hc.2, hb, ← hj]
      rfl
    · cases h
def exText (z : Pat) : ByteArray := joinS (withP z.cust.kind z.cust.text ⟨#[97]⟩ :: wordsL z.parts)
def badL : List Part → List Part → Option (List ByteArray)
  | [], _ => none
  | _ :: _, [] => none
  | a :: xs, b :: ys => if coversP a.kind a.text b.kind b.text then (badL xs ys).map (withP b.kind b.text ⟨#[97]⟩ :: ·) else some (withoutP b.kind b.text a.kind a.text :: wordsL ys)
def coverW (x y : Pat) : ByteArray :=
  if !coversP x.cust.kind x.cust.text y.cust.kind y.cust.text then joinS (withoutP y.cust.kind y.cust.text x.cust.kind x.cust.text :: wordsL y.parts)
  else if decide (y.parts.length < x.parts.length) || (decide (x.parts.length < y.parts.length) && !x.tail) then exText y
  else if y.tail && !x.tail then joinS (withP y.cust.kind y.cust.text ⟨#[97]⟩ :: (wordsL y.parts ++ [⟨#[97]⟩]))
  else match badL x.parts y.parts with
    | some ws => joinS (withP y.cust.kind y.cust.text ⟨#[97]⟩ :: ws)
    | none => ⟨#[]⟩
end Go.Proofs.YtocgkpdolgnbgaaGreatDoor
