/- Plain: the texts of patterns and of the addresses that they match. -/
import Derived.Test.YtocgkpdolgnbgaaGreatDoorMPlainP
import Derived.Test.YtocgkpdolgnbgaaGreatDoorProg
import Derived.WalkKit
import Derived.WalkSpells
import Derived.WalkLawsBesides
import Derived.Below
import Derived.Deep.QuietTactic
import Derived.BigQuiet
import Derived.Lib.QuietBelow
import Derived.Lib.Strings
import Derived.Lib.Hide
import Derived.Deep.RegionWith
import Derived.Deep.RegionHeld3
import Derived.Lib.IndexBytes
namespace Go.Proofs.YtocgkpdolgnbgaaGreatDoor
open Go.RowKit Go.Sort
set_option linter.unusedVariables false
set_option linter.unusedSimpArgs false
set_option maxRecDepth 100000
theorem tail_path (l : List (List UInt8)) : Lib.joinTail [47] l = pathL l := by
  induction l with
  | nil => rfl
  | cons x l ih =>
    simp only [Lib.joinTail, pathL, List.map_cons, List.flatten_cons, List.flatMap_cons] at ih ⊢
    rw [ih]; rfl
theorem join_data (c : ByteArray) (ws : List ByteArray) : (joinS (c :: ws)).data.toList = c.data.toList ++ pathL (lists ws) := by
  unfold joinS lists
  rw [List.map_cons, Lib.join_cons, tail_path]
  rfl
theorem joinS_write (c : ByteArray) (ws : List ByteArray) : joinS (c :: ws) = toB (W06 c ws []) := by
  refine bytes_ext ?_
  rw [join_data]
  show _ = W06 c ws []
  unfold W06 writeL
  simp [lists2, queryL]
theorem split_join (c : ByteArray) (ws : List ByteArray) (hc : 47 ∉ c.data.toList) (hw : ∀ w ∈ ws, 47 ∉ w.data.toList) : splitB 47 (joinS (c :: ws)) = c :: ws := by
  unfold splitB
  rw [join_data, split_path _ _ hc (by
    intro y hy
    obtain ⟨z, hz, rfl⟩ := List.mem_map.1 hy
    exact hw z hz)]
  have : ∀ z : ByteArray, (⟨z.data.toList.toArray⟩ : ByteArray) = z := fun z => bytes_ext rfl
  simp [lists, Function.comp_def]
theorem str_data (k : Nat) (t : ByteArray) : (stringP k t).data.toList = if k = 0 then t.data.toList else 42 :: t.data.toList := by
  unfold stringP
  split
  · rfl
  · simp
theorem str_fit {p : Part} (hp : PartFit p) : partOkB (stringP p.kind p.text) = true ∧ partOfP (stringP p.kind p.text) = p ∧ 47 ∉ (stringP p.kind p.text).data.toList ∧ (stringP p.kind p.text).data.toList ≠ [42, 42] := by
  obtain ⟨k, t⟩ := p
  have e := str_data k t
  rcases hp with ⟨hk, hw⟩ | ⟨hk, s, hs, hs2, ht⟩ | ⟨hk, ht⟩ <;> dsimp only at * <;> subst hk
  · have e0 : stringP 0 t = t := rfl
    rw [e0]
    refine ⟨?_, partOf_word hw, (word_no hw).1, fun h => ?_⟩
    · unfold partOkB; rw [hw]; simp
    · exact (word_no hw).2.2.2.2.1 (by rw [h]; simp)
  · rw [if_neg (by decide), ht] at e
    refine ⟨?_, ?_, ?_, ?_⟩
    · have h2 : (stringP 1 t).extract 2 (stringP 1 t).size = s := bytes_ext (by rw [extract_data, e]; rfl)
      have hz : (stringP 1 t).size = s.size + 2 := by rw [size_data, size_data, e]; rfl
      unfold partOkB
      rw [h2, hs, e, hz]
      have h34 : decide (s.size + 2 ≤ 34) = true := by simp; omega
      rw [h34]
      simp [Lib.hasPrefix]
    · rw [partOf_star _ e]
      simp only [List.isEmpty_cons, Bool.false_eq_true, if_false]
      exact congrArg (Part.mk 1) (bytes_ext ht.symm)
    · rw [e]
      have := (word_no hs).1
      simp [this]
    · rw [e]; intro h; injection h with _ h; injection h with h _; exact absurd h (by decide)
  · subst ht
    rw [if_neg (by decide)] at e
    refine ⟨?_, ?_, ?_, ?_⟩
    · unfold partOkB; rw [Lib.toList_data, e]; rfl
    · rw [partOf_star _ e]; rfl
    · rw [e]; simp
    · rw [e]; simp
theorem str_cust {p : Part} (hp : CustFit p) : headOkB (stringP p.kind p.text) = true := by
  have e := str_data p.kind p.text
  obtain ⟨k, t⟩ := p
  rcases hp with ⟨hk, hw⟩ | ⟨hk, ht⟩ <;> dsimp only at * <;> subst hk
  · have e0 : stringP 0 t = t := rfl
    rw [e0]; unfold headOkB; rw [hw, Bool.or_true]
  · unfold headOkB
    rw [Lib.toList_data, e, ht]; rfl
def tailL (b : Bool) : List ByteArray := if b then [⟨#[42, 42]⟩] else []
theorem cmpL_str : ∀ (ps acc : List Part) (b : Bool), (∀ p ∈ ps, PartFit p) → cmpL (strL ps ++ tailL b) acc = some (acc ++ ps, b)
  | [], acc, b, _ => by
    cases b
    · simp [strL, tailL, cmpL]
    · simp only [strL, tailL, List.map_nil, List.nil_append, if_true, cmpL]
      rw [if_pos (by rw [Lib.toList_data]; rfl)]
      simp
  | p :: ps, acc, b, h => by
    obtain ⟨h1, h2, h3, h4⟩ := str_fit (h p (by simp))
    have e : strL (p :: ps) ++ tailL b = stringP p.kind p.text :: (strL ps ++ tailL b) := rfl
    rw [e, cmpL, if_neg (by rw [Lib.toList_data]; simp [h4]), if_pos h1, h2, cmpL_str ps _ b fun q hq => h q (by simp [hq])]
    simp
theorem patS_eq (z : Pat) : patS z = joinS (stringP z.cust.kind z.cust.text :: (strL z.parts ++ tailL z.tail)) := rfl
theorem compL_cons (l0 : ByteArray) (r : List ByteArray) : compL (l0 :: r) = if (decide (r.length ≤ 32) && headOkB l0) = true then (cmpL r []).map fun x => ⟨partOfP l0, x.1, x.2⟩ else none := rfl
theorem compile_str {z : Pat} (hz : PatFit z) : compileB (patS z) = some z := by
  unfold compileB
  rw [patS_eq, split_join _ _ (str_fit hz.cust.part).2.2.1 (by
    intro w hw
    rcases List.mem_append.1 hw with hw | hw
    · obtain ⟨p, hp, rfl⟩ := List.mem_map.1 hw
      exact (str_fit (hz.parts p hp)).2.2.1
    · unfold tailL at hw
      split at hw
      · rw [List.mem_singleton.1 hw]; decide
      · cases hw)]
  rw [compL_cons]
  have hn := hz.num
  have hl : (strL z.parts ++ tailL z.tail).length ≤ 32 := by
    unfold strL tailL
    rw [List.length_append, List.length_map]
    cases ht : z.tail <;> simp [ht] at hn ⊢ <;> omega
  rw [if_pos (by rw [Bool.and_eq_true, decide_eq_true_eq]; exact ⟨hl, str_cust hz.cust⟩), cmpL_str _ _ _ hz.parts, (str_fit hz.cust.part).2.1]
  rfl
theorem str_head {w : ByteArray} (h : headOkB w = true) : stringP (partOfP w).kind (partOfP w).text = w := by
  unfold headOkB at h
  rw [Bool.or_eq_true, Lib.toList_data, beq_iff_eq] at h
  rcases h with h | h
  · rw [partOf_star [] h]
    exact bytes_ext (by rw [str_data, if_neg (by decide), h]; rfl)
  · rw [partOf_word (name_word h)]; rfl
theorem str_part {w : ByteArray} (h : partOkB w = true) : stringP (partOfP w).kind (partOfP w).text = w := by
  have hf := partOk_fit h
  unfold partOkB at h
  rw [Bool.or_eq_true, Bool.or_eq_true, Lib.toList_data, beq_iff_eq] at h
  rcases h with (h | h) | h
  · rw [partOf_star [] h]
    exact bytes_ext (by rw [str_data, if_neg (by decide), h]; rfl)
  · rw [partOf_word h]; rfl
  · simp only [Bool.and_eq_true, decide_eq_true_eq] at h
    obtain ⟨⟨h1, h2⟩, h3⟩ := h
    obtain ⟨r, hr⟩ := prefix_two h2
    rw [partOf_star (46 :: r) hr]
    exact bytes_ext (by simp [str_data, hr])
theorem adr_words {c : ByteArray} {ws : List ByteArray} (hc : isNameB c = true) (hw : ∀ w ∈ ws, isWordB w = true) (hn : ws.length ≤ 32) : AdrGood ⟨c, ws, []⟩ :=
  ⟨hc, hw, hn, by simp, by simp, List.Pairwise.nil⟩
theorem adr_short {c : ByteArray} {ws : List ByteArray} (hc : isNameB c = true) (hw : ∀ w ∈ ws, isWordB w = true) (hn : ws.length ≤ 32) : (W06 c ws []).length ≤ 4096 := by
  have h1 := pathL_bound (lists ws) (by
    intro p hp
    obtain ⟨x, hx, rfl⟩ := List.mem_map.1 hp
    have := size_of_word (hw x hx)
    rw [Lib.size_eq] at this; exact this)
  have h2 := size_of_name hc
  rw [Lib.size_eq] at h2
  simp only [lists, List.length_map] at h1
  simp only [W06, writeL, List.length_append, lists, lists2, List.map_nil, queryL, List.length_nil]
  omega
theorem parse_join {c : ByteArray} {ws : List ByteArray} (hc : isNameB c = true) (hw : ∀ w ∈ ws, isWordB w = true) (hn : ws.length ≤ 32) : parseB (joinS (c :: ws)) = (⟨c, ws, []⟩, 0) ∧ readB (joinS (c :: ws)) = true := by
  rw [joinS_write]
  exact ⟨parse_write (adr_words hc hw hn) (adr_short hc hw hn), read_write (adr_words hc hw hn) (adr_short hc hw hn)⟩
theorem match_join {p : ByteArray} {x : Pat} (hx : compileB p = some x) {c : ByteArray} {ws : List ByteArray} (hc : isNameB c = true) (hw : ∀ w ∈ ws, isWordB w = true) (hn : ws.length ≤ 32) : matchB p (joinS (c :: ws)) = matchP x ⟨c, ws, []⟩ := by
  obtain ⟨h1, h2⟩ := parse_join hc hw hn
  unfold matchB
  rw [hx, h1, h2]
  simp
theorem words_ok {ps : List Part} (h : ∀ p ∈ ps, PartFit p) : ∀ w ∈ wordsL ps, isWordB w = true := by
  intro w hw
  obtain ⟨p, hp, rfl⟩ := List.mem_map.1 hw
  exact (with_fit (h p hp) (.inl rfl)).1
def exText (z : Pat) : ByteArray := joinS (withP z.cust.kind z.cust.text ⟨#[97]⟩ :: wordsL z.parts)
theorem match_exText {p : ByteArray} {x z : Pat} (hx : compileB p = some x) (hz : PatFit z) : matchB p (exText z) = matchP x (exA z) :=
  match_join hx (with_cust hz.cust (.inl rfl)) (words_ok hz.parts) (by rw [words_len]; have := hz.num; omega)
def badL : List Part → List Part → Option (List ByteArray)
  | [], _ => none
  | _ :: _, [] => none
  | a :: xs, b :: ys => if coversP a.kind a.text b.kind b.text then (badL xs ys).map (withP b.kind b.text ⟨#[97]⟩ :: ·) else some (withoutP b.kind b.text a.kind a.text :: wordsL ys)
def coverW (x y : Pat) : ByteArray :=
  if !coversP x.cust.kind x.cust.text y.cust.kind y.cust.text then joinS (withoutP y.cust.kind y.cust.text x.cust.kind x.cust.text :: wordsL y.parts)
  else if decide (y.parts.length < x.parts.length) || (decide (x.parts.length < y.parts.length) && !x.tail) then exText y
  else if y.tail && !x.tail then joinS (withP y.cust.kind y.cust.text ⟨#[97]⟩ :: (wordsL y.parts ++ [⟨#[97]⟩]))
  else match badL x.parts y.parts with
    | some ws => joinS (withP y.cust.kind y.cust.text ⟨#[97]⟩ :: ws)
    | none => ⟨#[]⟩
theorem badL_some : ∀ (xs ys : List Part) (ws : List ByteArray), (∀ p ∈ xs, PartFit p) → (∀ p ∈ ys, PartFit p) → badL xs ys = some ws → ws.length = ys.length ∧ (∀ w ∈ ws, isWordB w = true) ∧ matchesL ys ws = true ∧ matchesL xs ws = false
  | [], _, _, _, _, e => by simp [badL] at e
  | _ :: _, [], _, _, _, e => by simp [badL] at e
  | a :: xs, b :: ys, ws, hx, hy, e => by
    have ha := hx a (by simp)
    have hb := hy b (by simp)
    rw [badL] at e
    split at e
    · obtain ⟨r, hr, rfl⟩ := Option.map_eq_some_iff.1 e
      obtain ⟨h1, h2, h3, h4⟩ := badL_some xs ys r (fun p hp => hx p (by simp [hp])) (fun p hp => hy p (by simp [hp])) hr
      have hw := with_fit hb (c := 97) (.inl rfl)
      refine ⟨by simp [h1], ?_, by simp [matchesL, hw.2, h3], by simp [matchesL, h4]⟩
      intro w hm
      rcases List.mem_cons.1 hm with rfl | hm
      · exact hw.1
      · exact h2 w hm
    · rename_i hc
      injection e with e; subst e
      have hw := without_fit hb ha (by simpa using hc)
      have hys : ∀ p ∈ ys, PartFit p := fun p hp => hy p (by simp [hp])
      have hm := matchesL_words ys hys []
      rw [List.append_nil] at hm
      refine ⟨by simp [wordsL], ?_, by simp [matchesL, hw.2.1, hm], by simp [matchesL, hw.2.2]⟩
      intro w hm2
      rcases List.mem_cons.1 hm2 with rfl | hm2
      · exact hw.1
      · exact words_ok hys w hm2
theorem badL_none : ∀ (xs ys : List Part), xs.length ≤ ys.length → badL xs ys = none → coverL xs ys = true
  | [], _, _, _ => rfl
  | a :: xs, [], h, _ => by simp at h
  | a :: xs, b :: ys, h, e => by
    rw [badL] at e
    split at e
    · rename_i hc
      rw [Option.map_eq_none_iff] at e
      simp only [coverL, hc, Bool.true_and]
      exact badL_none xs ys (by simpa using h) e
    · cases e
theorem without_cust {p q : Part} (hp : CustFit p) : isNameB (withoutP p.kind p.text q.kind q.text) = true := by
  unfold withoutP
  split
  · exact with_cust hp (.inr rfl)
  · exact with_cust hp (.inl rfl)
theorem coverW_exact {p q : ByteArray} {x y : Pat} (hx : compileB p = some x) (hy : compileB q = some y) (h : coverB x y = false) : matchB q (coverW x y) = true ∧ matchB p (coverW x y) = false := by
  have fx := compile_fit hx
  have fy := compile_fit hy
  have hw := words_ok fy.parts
  have hn := fy.num
  have hm := matchesL_words y.parts fy.parts
  have hne : ¬ coverB x y = true := by rw [h]; decide
  rw [coverB_iff] at hne
  unfold coverW
  split
  · rename_i hc
    simp only [Bool.not_eq_true'] at hc
    have hwo := without_fit fy.cust.part fx.cust.part hc
    have hname := without_cust (q := x.cust) fy.cust
    rw [match_join hy hname hw (by rw [words_len]; omega), match_join hx hname hw (by rw [words_len]; omega)]
    constructor
    · rw [matchP_iff]
      exact ⟨hwo.2.1, by simpa using hm [], .inr (words_len _)⟩
    · rw [Bool.eq_false_iff]; intro hf
      rw [matchP_iff] at hf
      have := hf.1
      dsimp only at this
      rw [hwo.2.2] at this; cases this
  · rename_i hc
    simp only [Bool.not_eq_true', Bool.not_eq_false] at hc
    split
    · rename_i hl
      simp only [Bool.or_eq_true, Bool.and_eq_true, decide_eq_true_eq, Bool.not_eq_true'] at hl
      rw [match_exText hy fy, match_exText hx fy]
      refine ⟨exA_match fy, ?_⟩
      rw [Bool.eq_false_iff]; intro hf
      rw [matchP_iff] at hf
      have h1 := matchesL_len _ _ hf.2.1
      have h2 := hf.2.2
      simp only [exA, words_len] at h1 h2
      rcases hl with hl | ⟨hl, ht⟩
      · omega
      · rw [ht] at h2
        rcases h2 with h2 | h2
        · cases h2
        · omega
    · rename_i hl
      simp only [Bool.or_eq_true, Bool.and_eq_true, decide_eq_true_eq, Bool.not_eq_true', not_or, not_and, Bool.not_eq_false] at hl
      have hcn := with_cust fy.cust (c := 97) (.inl rfl)
      split
      · rename_i ht
        simp only [Bool.and_eq_true, Bool.not_eq_true'] at ht
        have hlen : y.parts.length + 1 ≤ 32 := by rw [ht.1] at hn; simpa using hn
        have hws : ∀ w ∈ wordsL y.parts ++ [⟨#[97]⟩], isWordB w = true := by
          intro w hmw
          rcases List.mem_append.1 hmw with hmw | hmw
          · exact hw w hmw
          · rw [List.mem_singleton.1 hmw]; exact name_word (word_one (.inl rfl))
        have hl2 : (wordsL y.parts ++ [(⟨#[97]⟩ : ByteArray)]).length = y.parts.length + 1 := by rw [List.length_append, words_len]; rfl
        rw [match_join hy hcn hws (by omega), match_join hx hcn hws (by omega)]
        constructor
        · rw [matchP_iff]
          exact ⟨(with_fit fy.cust.part (.inl rfl)).2, hm _, .inl ht.1⟩
        · rw [Bool.eq_false_iff]; intro hf
          rw [matchP_iff] at hf
          have h2 := hf.2.2
          rw [ht.2] at h2
          rcases h2 with h2 | h2
          · cases h2
          · dsimp only at h2
            rw [hl2] at h2
            have := hl.2
            rw [ht.2] at this
            rcases Nat.lt_or_ge x.parts.length y.parts.length with hlt | hlt
            · exact absurd (this hlt) (by decide)
            · omega
      · rename_i ht
        simp only [Bool.and_eq_true, Bool.not_eq_true', not_and, Bool.not_eq_false] at ht
        cases hb : badL x.parts y.parts with
        | none =>
          have hcv := badL_none _ _ (by omega) hb
          exact absurd ⟨hc, by omega, hl.2, ht, hcv⟩ hne
        | some ws =>
          obtain ⟨h1, h2, h3, h4⟩ := badL_some _ _ ws fx.parts fy.parts hb
          dsimp only
          rw [match_join hy hcn h2 (by omega), match_join hx hcn h2 (by omega)]
          constructor
          · rw [matchP_iff]
            exact ⟨(with_fit fy.cust.part (.inl rfl)).2, h3, .inr h1⟩
          · rw [Bool.eq_false_iff]; intro hf
            rw [matchP_iff] at hf
            have := hf.2.1
            dsimp only at this
            rw [h4] at this; cases this
end Go.Proofs.YtocgkpdolgnbgaaGreatDoor
