/- Plain: what patterns match, cover and have in common; the string of a pattern. -/
import Derived.Test.YtmlhecjhjjlhfaaGreatDoorSZ15
import Derived.Test.YtmlhecjhjjlhfaaGreatDoorSZ20
import Derived.Test.YtmlhecjhjjlhfaaGreatDoorProg
import Derived.WalkKit
import Derived.WalkSpells
import Derived.WalkLawsBesides
import Derived.Below
import Derived.Deep.QuietTactic
import Derived.BigQuiet
import Derived.Lib.QuietBelow
import Derived.Lib.Strings
import Derived.Lib.Hide
import Derived.Deep.RegionWith
import Derived.Deep.RegionHeld3
import Derived.Lib.IndexBytes
import Derived.Test.YtmlhecjhjjlhfaaGreatDoorSZ3
namespace Go.Proofs.YtmlhecjhjjlhfaaGreatDoor
open Go.RowKit Go.Sort
set_option linter.unusedVariables false
set_option linter.unusedSimpArgs false
set_option maxRecDepth 100000
structure PatFit (x : Pat) : Prop where
  cust : CustFit x.cust
  parts : ∀ p ∈ x.parts, PartFit p
  num : x.parts.length + (if x.tail then 1 else 0) ≤ 32
theorem extract_data (s : ByteArray) (i : Nat) : (s.extract i s.size).data.toList = s.data.toList.drop i := by
  rw [Lib.extract_to_end]
theorem extract_head (s : ByteArray) : (s.extract 0 1).data.toList = s.data.toList.take 1 := by
  rw [Lib.extract_data]; simp
theorem partOf_word {w : ByteArray} (h : isWordB w = true) : partOfP w = ⟨0, w⟩ := by
  obtain ⟨h1, _⟩ := word_ne h
  have h42 := (word_no h).2.2.2.2.1
  unfold partOfP
  split
  · rfl
  · rw [if_pos]
    rw [Lib.toList_data, extract_head]
    obtain ⟨b, l, hl⟩ := List.exists_cons_of_ne_nil h1
    rw [hl] at h42 ⊢
    simp only [List.mem_cons, not_or] at h42
    simp only [List.take_succ_cons, List.take_zero, Bool.not_eq_true', beq_eq_false_iff_ne, ne_eq, List.cons.injEq, and_true]
    exact fun e => h42.1 e.symm
theorem partOf_star {w : ByteArray} (r : List UInt8) (h : w.data.toList = 42 :: r) : partOfP w = if r.isEmpty then ⟨2, ⟨#[]⟩⟩ else ⟨1, ⟨r.toArray⟩⟩ := by
  have hz : w.size = r.length + 1 := by rw [size_data, h]; rfl
  have e1 : (w.extract 0 1).toList = [42] := by rw [Lib.toList_data, extract_head, h]; rfl
  have e2 : (w.extract 1 w.size).data.toList = r := by rw [extract_data, h]; rfl
  have e3 : w.extract 1 w.size = ⟨r.toArray⟩ := bytes_ext (by rw [e2])
  unfold partOfP
  rw [if_neg (by omega), e1, e3, Lib.toList_data]
  simp only [BEq.rfl, Bool.not_true, Bool.false_eq_true, if_false]
  cases r <;> rfl
theorem star_fit : PartFit ⟨2, ⟨#[]⟩⟩ := .inr (.inr ⟨rfl, rfl⟩)
theorem headOk_fit {w : ByteArray} (h : headOkB w = true) : CustFit (partOfP w) := by
  unfold headOkB at h
  rw [Bool.or_eq_true, Lib.toList_data, beq_iff_eq] at h
  rcases h with h | h
  · rw [partOf_star [] h]; exact .inr ⟨rfl, rfl⟩
  · rw [partOf_word (name_word h)]; exact .inl ⟨rfl, h⟩
theorem prefix_two {l : List UInt8} (h : Lib.hasPrefix l [42, 46] = true) : ∃ r, l = 42 :: 46 :: r := by
  unfold Lib.hasPrefix at h
  rw [List.isPrefixOf_iff_prefix] at h
  obtain ⟨r, hr⟩ := h
  exact ⟨r, hr.symm⟩
theorem partOk_fit {w : ByteArray} (h : partOkB w = true) : PartFit (partOfP w) := by
  unfold partOkB at h
  rw [Bool.or_eq_true, Bool.or_eq_true, Lib.toList_data, beq_iff_eq] at h
  rcases h with (h | h) | h
  · rw [partOf_star [] h]; exact star_fit
  · rw [partOf_word h]; exact .inl ⟨rfl, h⟩
  · simp only [Bool.and_eq_true, decide_eq_true_eq] at h
    obtain ⟨⟨h1, h2⟩, h3⟩ := h
    obtain ⟨r, hr⟩ := prefix_two h2
    rw [partOf_star (46 :: r) hr]
    have e : (w.extract 2 w.size).data.toList = r := by rw [extract_data, hr]; rfl
    have hz : w.size = r.length + 2 := by rw [size_data, hr]; rfl
    refine .inr (.inl ⟨rfl, w.extract 2 w.size, h3, ?_, ?_⟩)
    · rw [size_data, e]; omega
    · show (46 :: r) = 46 :: _
      rw [e]
theorem cmpL_fit : ∀ (l : List ByteArray) (acc : List Part) (r : List Part × Bool), (∀ p ∈ acc, PartFit p) → cmpL l acc = some r → (∀ p ∈ r.1, PartFit p) ∧ r.1.length + (if r.2 then 1 else 0) = acc.length + l.length
  | [], acc, r, h, e => by simp [cmpL] at e; subst e; exact ⟨h, by simp⟩
  | w :: l, acc, r, h, e => by
    rw [cmpL] at e
    split at e
    · rename_i hc
      injection e with e; subst e
      simp only [Bool.and_eq_true, List.isEmpty_iff] at hc
      exact ⟨h, by simp [hc.2]⟩
    · split at e
      · rename_i hk
        have := cmpL_fit l (acc ++ [partOfP w]) r (fun p hp => by
          rcases List.mem_append.1 hp with hp | hp
          · exact h p hp
          · rw [List.mem_singleton.1 hp]; exact partOk_fit hk) e
        exact ⟨this.1, by rw [this.2]; simp; omega⟩
      · cases e
theorem compL_fit {l : List ByteArray} {x : Pat} (h : compL l = some x) : PatFit x := by
  cases l with
  | nil => cases h
  | cons l0 r =>
    rw [compL] at h
    by_cases hc : (decide (r.length ≤ 32) && headOkB l0) = true
    · have hc2 := hc
      rw [Bool.and_eq_true, decide_eq_true_eq] at hc2
      rw [if_pos hc] at h
      obtain ⟨y, hy, rfl⟩ := Option.map_eq_some_iff.1 h
      have := cmpL_fit r [] y (fun p hp => by cases hp) hy
      exact ⟨headOk_fit hc2.2, this.1, by show y.1.length + (if y.2 = true then 1 else 0) ≤ 32; have h1 := hc2.1; have h2 := this.2; simp at h2; omega⟩
    · rw [if_neg (by simpa using hc)] at h; cases h
theorem compile_fit {s : ByteArray} {x : Pat} (h : compileB s = some x) : PatFit x := compL_fit h
theorem matchesL_len : ∀ (ps : List Part) (ws : List ByteArray), matchesL ps ws = true → ps.length ≤ ws.length
  | [], _, _ => by simp
  | p :: ps, [], h => by simp [matchesL] at h
  | p :: ps, w :: ws, h => by
    simp only [matchesL, Bool.and_eq_true] at h
    have := matchesL_len ps ws h.2
    simpa using this
theorem matchP_iff (x : Pat) (a : Adr) : matchP x a = true ↔ hasP x.cust.kind x.cust.text a.cust = true ∧ matchesL x.parts a.path = true ∧ (x.tail = true ∨ a.path.length = x.parts.length) := by
  unfold matchP
  have key : matchesL x.parts a.path = true → ((!decide (a.path.length < x.parts.length) && !(decide (x.parts.length < a.path.length) && !x.tail)) = true ↔ (x.tail = true ∨ a.path.length = x.parts.length)) := by
    intro h
    have := matchesL_len _ _ h
    cases x.tail <;> simp <;> omega
  cases h1 : hasP x.cust.kind x.cust.text a.cust
  · simp
  · cases h2 : matchesL x.parts a.path
    · simp
    · have := key h2
      rw [← this]
      simp
theorem matchesL_words : ∀ (ps : List Part), (∀ p ∈ ps, PartFit p) → ∀ ex, matchesL ps (wordsL ps ++ ex) = true
  | [], _, ex => by simp [matchesL]
  | p :: ps, h, ex => by
    have h1 := (with_fit (h p (by simp)) (c := 97) (.inl rfl)).2
    have h2 := matchesL_words ps (fun q hq => h q (by simp [hq])) ex
    simp only [wordsL, List.map_cons, List.cons_append, matchesL, h1, Bool.true_and] at h2 ⊢
    exact h2
theorem mtL_some : ∀ (xs ys acc r : List Part), (∀ p ∈ xs, PartFit p) → (∀ p ∈ ys, PartFit p) → ys.length ≤ xs.length → mtL acc xs ys = some r →
    ∃ r', r = acc ++ r' ∧ r'.length = xs.length ∧ (∀ p ∈ r', PartFit p) ∧ ∀ ws, matchesL r' ws = (matchesL xs ws && matchesL ys ws)
  | [], [], acc, r, _, _, _, e => by
    simp [mtL] at e; subst e
    exact ⟨[], by simp, rfl, by simp, fun ws => by simp [matchesL]⟩
  | [], b :: ys, acc, r, _, _, hl, _ => by simp at hl
  | a :: xs, [], acc, r, hx, hy, _, e => by
    rw [mtL] at e
    obtain ⟨r', h1, h2, h3, h4⟩ := mtL_some xs [] (acc ++ [a]) r (fun p hp => hx p (by simp [hp])) hy (by simp) e
    refine ⟨a :: r', by rw [h1]; simp, by simp [h2], ?_, fun ws => ?_⟩
    · intro p hp
      rcases List.mem_cons.1 hp with rfl | hp
      · exact hx p (by simp)
      · exact h3 p hp
    · cases ws with
      | nil => simp [matchesL]
      | cons w ws =>
        have := h4 ws
        simp only [matchesL, Bool.and_true] at this ⊢
        rw [this]
  | a :: xs, b :: ys, acc, r, hx, hy, hl, e => by
    rw [mtL] at e
    split at e
    · rename_i hm
      have ha := hx a (by simp)
      have hb := hy b (by simp)
      obtain ⟨r', h1, h2, h3, h4⟩ := mtL_some xs ys (acc ++ [meetP a b]) r (fun p hp => hx p (by simp [hp])) (fun p hp => hy p (by simp [hp])) (by simpa using hl) e
      refine ⟨meetP a b :: r', by rw [h1]; simp, by simp [h2], ?_, fun ws => ?_⟩
      · intro p hp
        rcases List.mem_cons.1 hp with rfl | hp
        · exact meetP_fit ha hb
        · exact h3 p hp
      · cases ws with
        | nil => simp [matchesL]
        | cons w ws =>
          simp only [matchesL]
          rw [h4 ws, meets_has ha hb hm w]
          cases hasP a.kind a.text w <;> cases hasP b.kind b.text w <;> cases matchesL xs ws <;> rfl
    · cases e
theorem mtL_none : ∀ (xs ys acc : List Part), (∀ p ∈ xs, PartFit p) → (∀ p ∈ ys, PartFit p) → mtL acc xs ys = none → ∀ ws, matchesL xs ws = true → matchesL ys ws = true → False
  | [], ys, acc, _, _, e, ws, _, _ => by
    have : mtL acc [] ys = some acc := by cases ys <;> rfl
    rw [this] at e; cases e
  | a :: xs, [], acc, hx, hy, e, ws, h1, h2 => by
    rw [mtL] at e
    cases ws with
    | nil => simp [matchesL] at h1
    | cons w ws =>
      simp only [matchesL, Bool.and_eq_true] at h1
      exact mtL_none xs [] (acc ++ [a]) (fun p hp => hx p (by simp [hp])) hy e ws h1.2 rfl
  | a :: xs, b :: ys, acc, hx, hy, e, ws, h1, h2 => by
    rw [mtL] at e
    cases ws with
    | nil => simp [matchesL] at h1
    | cons w ws =>
      simp only [matchesL, Bool.and_eq_true] at h1 h2
      split at e
      · exact mtL_none xs ys _ (fun p hp => hx p (by simp [hp])) (fun p hp => hy p (by simp [hp])) e ws h1.2 h2.2
      · rename_i hm
        exact not_meets (hx a (by simp)) (hy b (by simp)) (by simpa using hm) w h1.1 h2.1
theorem commonO_some {x y z : Pat} (hx : PatFit x) (hy : PatFit y) (hl : y.parts.length ≤ x.parts.length) (h : commonO x y = some z) : PatFit z ∧ ∀ a, matchP z a = (matchP x a && matchP y a) := by
  unfold commonO at h
  split at h
  · cases h
  · rename_i hc
    obtain ⟨l, hl2, rfl⟩ := Option.map_eq_some_iff.1 h
    simp only [Bool.not_eq_true, Bool.or_eq_false_iff, Bool.not_eq_false', Bool.and_eq_false_iff, decide_eq_false_iff_not, Bool.not_eq_eq_eq_not, Bool.not_false] at hc
    obtain ⟨hm, ht⟩ := hc
    obtain ⟨r', h1, h2, h3, h4⟩ := mtL_some _ _ [] l hx.parts hy.parts hl hl2
    rw [List.nil_append] at h1; subst h1
    constructor
    · refine ⟨meetP_cust hx.cust hy.cust, h3, ?_⟩
      show l.length + _ ≤ 32
      rw [h2]
      have := hx.num
      cases hxt : x.tail <;> simp [hxt] at this ⊢ <;> (try split) <;> omega
    · intro a
      rw [Bool.eq_iff_iff, Bool.and_eq_true, matchP_iff, matchP_iff, matchP_iff]
      show hasP (meetP x.cust y.cust).kind (meetP x.cust y.cust).text a.cust = true ∧ matchesL l a.path = true ∧ ((x.tail && y.tail) = true ∨ a.path.length = l.length) ↔ _
      rw [meets_has hx.cust.part hy.cust.part hm, h4, h2, Bool.and_eq_true, Bool.and_eq_true, Bool.and_eq_true]
      constructor
      · rintro ⟨⟨e1, e2⟩, ⟨e3, e4⟩, e5⟩
        refine ⟨⟨e1, e3, ?_⟩, e2, e4, ?_⟩
        · rcases e5 with e5 | e5
          · exact .inl e5.1
          · exact .inr e5
        · rcases e5 with e5 | e5
          · exact .inl e5.2
          · rcases ht with ht | ht
            · exact .inr (by omega)
            · exact .inl ht
      · rintro ⟨⟨e1, e3, e5⟩, e2, e4, e6⟩
        refine ⟨⟨e1, e2⟩, ⟨e3, e4⟩, ?_⟩
        have := matchesL_len _ _ e3
        rcases e5 with e5 | e5
        · rcases e6 with e6 | e6
          · exact .inl ⟨e5, e6⟩
          · exact .inr (by omega)
        · exact .inr e5
theorem commonO_none {x y : Pat} (hx : PatFit x) (hy : PatFit y) (h : commonO x y = none) (a : Adr) (h1 : matchP x a = true) (h2 : matchP y a = true) : False := by
  rw [matchP_iff] at h1 h2
  unfold commonO at h
  split at h
  · rename_i hc
    simp only [Bool.or_eq_true, Bool.not_eq_true', Bool.and_eq_true, decide_eq_true_eq] at hc
    rcases hc with hc | ⟨hc1, hc2⟩
    · exact not_meets hx.cust.part hy.cust.part hc a.cust h1.1 h2.1
    · have := matchesL_len _ _ h1.2.1
      rcases h2.2.2 with e | e
      · rw [hc2] at e; cases e
      · omega
  · rw [Option.map_eq_none_iff] at h
    exact mtL_none _ _ [] hx.parts hy.parts h a.path h1.2.1 h2.2.1
theorem commonP_some {x y z : Pat} (hx : PatFit x) (hy : PatFit y) (h : commonP x y = some z) : PatFit z ∧ ∀ a, matchP z a = (matchP x a && matchP y a) := by
  unfold commonP at h
  split at h
  · rename_i hl
    obtain ⟨h1, h2⟩ := commonO_some hy hx (by omega) h
    exact ⟨h1, fun a => by rw [h2, Bool.and_comm]⟩
  · rename_i hl
    exact commonO_some hx hy (by omega) h
theorem commonP_none {x y : Pat} (hx : PatFit x) (hy : PatFit y) (h : commonP x y = none) (a : Adr) : (matchP x a && matchP y a) = false := by
  rw [Bool.eq_false_iff]
  intro hm
  rw [Bool.and_eq_true] at hm
  unfold commonP at h
  split at h
  · exact commonO_none hy hx h a hm.2 hm.1
  · exact commonO_none hx hy h a hm.1 hm.2
def exA (z : Pat) : Adr := ⟨withP z.cust.kind z.cust.text ⟨#[97]⟩, wordsL z.parts, []⟩
theorem words_len (ps : List Part) : (wordsL ps).length = ps.length := by simp [wordsL]
theorem exA_match {z : Pat} (hz : PatFit z) : matchP z (exA z) = true := by
  rw [matchP_iff]
  refine ⟨(with_fit hz.cust.part (.inl rfl)).2, ?_, .inr (words_len _)⟩
  have := matchesL_words z.parts hz.parts []
  rwa [List.append_nil] at this
def coverL : List Part → List Part → Bool
  | [], _ => true
  | _ :: _, [] => false
  | a :: xs, b :: ys => coversP a.kind a.text b.kind b.text && coverL xs ys
def coverB (x y : Pat) : Bool :=
  coversP x.cust.kind x.cust.text y.cust.kind y.cust.text && !decide (y.parts.length < x.parts.length) && !(decide (x.parts.length < y.parts.length) && !x.tail) && !(y.tail && !x.tail) && coverL x.parts y.parts
end Go.Proofs.YtmlhecjhjjlhfaaGreatDoor
namespace Go.Proofs.YtmlhecjhjjlhfaaGreatDoor
open Go.RowKit Go.Sort
set_option linter.unusedVariables false
set_option linter.unusedSimpArgs false
set_option maxRecDepth 100000
theorem tail_path (l : List (List UInt8)) : Lib.joinTail [47] l = pathL l := by
  induction l with
  | nil => rfl
  | cons x l ih =>
    simp only [Lib.joinTail, pathL, List.map_cons, List.flatten_cons, List.flatMap_cons] at ih ⊢
    rw [ih]; rfl
theorem join_data (c : ByteArray) (ws : List ByteArray) : (joinS (c :: ws)).data.toList = c.data.toList ++ pathL (lists ws) := by
  unfold joinS lists
  rw [List.map_cons, Lib.join_cons, tail_path]
  rfl
theorem joinS_write (c : ByteArray) (ws : List ByteArray) : joinS (c :: ws) = toB (W06 c ws []) := by
  refine bytes_ext ?_
  rw [join_data]
  show _ = W06 c ws []
  unfold W06 writeL
  simp [lists2, queryL]
theorem split_join (c : ByteArray) (ws : List ByteArray) (hc : 47 ∉ c.data.toList) (hw : ∀ w ∈ ws, 47 ∉ w.data.toList) : splitB 47 (joinS (c :: ws)) = c :: ws := by
  unfold splitB
  rw [join_data, split_path _ _ hc (by
    intro y hy
    obtain ⟨z, hz, rfl⟩ := List.mem_map.1 hy
    exact hw z hz)]
  have : ∀ z : ByteArray, (⟨z.data.toList.toArray⟩ : ByteArray) = z := fun z => bytes_ext rfl
  simp [lists, Function.comp_def]
theorem split_back : ∀ l : List UInt8, ∃ x r, splitL 47 l = x :: r ∧ l = x ++ pathL r
  | [] => ⟨[], [], rfl, rfl⟩
  | b :: l => by
    obtain ⟨x, r, h1, h2⟩ := split_back l
    unfold splitL
    split
    · rename_i e
      exact ⟨[], x :: r, by rw [h1], by rw [e, h2]; simp [pathL]⟩
    · rw [h1]
      exact ⟨b :: x, r, rfl, by rw [h2]; rfl⟩
theorem join_split (s : ByteArray) : joinS (splitB 47 s) = s := by
  obtain ⟨x, r, h1, h2⟩ := split_back s.data.toList
  unfold splitB
  rw [h1, List.map_cons]
  refine bytes_ext ?_
  rw [join_data]
  have : lists (r.map fun l => (⟨l.toArray⟩ : ByteArray)) = r := by simp [lists, Function.comp_def]
  rw [this, h2]
theorem str_data (k : Nat) (t : ByteArray) : (stringP k t).data.toList = if k = 0 then t.data.toList else 42 :: t.data.toList := by
  unfold stringP
  split
  · rfl
  · simp
theorem str_fit {p : Part} (hp : PartFit p) : partOkB (stringP p.kind p.text) = true ∧ partOfP (stringP p.kind p.text) = p ∧ 47 ∉ (stringP p.kind p.text).data.toList ∧ (stringP p.kind p.text).data.toList ≠ [42, 42] := by
  obtain ⟨k, t⟩ := p
  have e := str_data k t
  rcases hp with ⟨hk, hw⟩ | ⟨hk, s, hs, hs2, ht⟩ | ⟨hk, ht⟩ <;> dsimp only at * <;> subst hk
  · have e0 : stringP 0 t = t := rfl
    rw [e0]
    refine ⟨?_, partOf_word hw, (word_no hw).1, fun h => ?_⟩
    · unfold partOkB; rw [hw]; simp
    · exact (word_no hw).2.2.2.2.1 (by rw [h]; simp)
  · rw [if_neg (by decide), ht] at e
    refine ⟨?_, ?_, ?_, ?_⟩
    · have h2 : (stringP 1 t).extract 2 (stringP 1 t).size = s := bytes_ext (by rw [extract_data, e]; rfl)
      have hz : (stringP 1 t).size = s.size + 2 := by rw [size_data, size_data, e]; rfl
      unfold partOkB
      rw [h2, hs, e, hz]
      have h34 : decide (s.size + 2 ≤ 34) = true := by simp; omega
      rw [h34]
      simp [Lib.hasPrefix]
    · rw [partOf_star _ e]
      simp only [List.isEmpty_cons, Bool.false_eq_true, if_false]
      exact congrArg (Part.mk 1) (bytes_ext ht.symm)
    · rw [e]
      have := (word_no hs).1
      simp [this]
    · rw [e]; intro h; injection h with _ h; injection h with h _; exact absurd h (by decide)
  · subst ht
    rw [if_neg (by decide)] at e
    refine ⟨?_, ?_, ?_, ?_⟩
    · unfold partOkB; rw [Lib.toList_data, e]; rfl
    · rw [partOf_star _ e]; rfl
    · rw [e]; simp
    · rw [e]; simp
theorem str_cust {p : Part} (hp : CustFit p) : headOkB (stringP p.kind p.text) = true := by
  have e := str_data p.kind p.text
  obtain ⟨k, t⟩ := p
  rcases hp with ⟨hk, hw⟩ | ⟨hk, ht⟩ <;> dsimp only at * <;> subst hk
  · have e0 : stringP 0 t = t := rfl
    rw [e0]; unfold headOkB; rw [hw, Bool.or_true]
  · unfold headOkB
    rw [Lib.toList_data, e, ht]; rfl
def tailL (b : Bool) : List ByteArray := if b then [⟨#[42, 42]⟩] else []
theorem cmpL_str : ∀ (ps acc : List Part) (b : Bool), (∀ p ∈ ps, PartFit p) → cmpL (strL ps ++ tailL b) acc = some (acc ++ ps, b)
  | [], acc, b, _ => by
    cases b
    · simp [strL, tailL, cmpL]
    · simp only [strL, tailL, List.map_nil, List.nil_append, if_true, cmpL]
      rw [if_pos (by rw [Lib.toList_data]; rfl)]
      simp
  | p :: ps, acc, b, h => by
    obtain ⟨h1, h2, h3, h4⟩ := str_fit (h p (by simp))
    have e : strL (p :: ps) ++ tailL b = stringP p.kind p.text :: (strL ps ++ tailL b) := rfl
    rw [e, cmpL, if_neg (by rw [Lib.toList_data]; simp [h4]), if_pos h1, h2, cmpL_str ps _ b fun q hq => h q (by simp [hq])]
    simp
theorem patS_eq (z : Pat) : patS z = joinS (stringP z.cust.kind z.cust.text :: (strL z.parts ++ tailL z.tail)) := rfl
theorem compL_cons (l0 : ByteArray) (r : List ByteArray) : compL (l0 :: r) = if (decide (r.length ≤ 32) && headOkB l0) = true then (cmpL r []).map fun x => ⟨partOfP l0, x.1, x.2⟩ else none := rfl
theorem compile_str {z : Pat} (hz : PatFit z) : compileB (patS z) = some z := by
  unfold compileB
  rw [patS_eq, split_join _ _ (str_fit hz.cust.part).2.2.1 (by
    intro w hw
    rcases List.mem_append.1 hw with hw | hw
    · obtain ⟨p, hp, rfl⟩ := List.mem_map.1 hw
      exact (str_fit (hz.parts p hp)).2.2.1
    · unfold tailL at hw
      split at hw
      · rw [List.mem_singleton.1 hw]; decide
      · cases hw)]
  rw [compL_cons]
  have hn := hz.num
  have hl : (strL z.parts ++ tailL z.tail).length ≤ 32 := by
    unfold strL tailL
    rw [List.length_append, List.length_map]
    cases ht : z.tail <;> simp [ht] at hn ⊢ <;> omega
  rw [if_pos (by rw [Bool.and_eq_true, decide_eq_true_eq]; exact ⟨hl, str_cust hz.cust⟩), cmpL_str _ _ _ hz.parts, (str_fit hz.cust.part).2.1]
  rfl
theorem str_head {w : ByteArray} (h : headOkB w = true) : stringP (partOfP w).kind (partOfP w).text = w := by
  unfold headOkB at h
  rw [Bool.or_eq_true, Lib.toList_data, beq_iff_eq] at h
  rcases h with h | h
  · rw [partOf_star [] h]
    exact bytes_ext (by rw [str_data, if_neg (by decide), h]; rfl)
  · rw [partOf_word (name_word h)]; rfl
theorem str_part {w : ByteArray} (h : partOkB w = true) : stringP (partOfP w).kind (partOfP w).text = w := by
  have hf := partOk_fit h
  unfold partOkB at h
  rw [Bool.or_eq_true, Bool.or_eq_true, Lib.toList_data, beq_iff_eq] at h
  rcases h with (h | h) | h
  · rw [partOf_star [] h]
    exact bytes_ext (by rw [str_data, if_neg (by decide), h]; rfl)
  · rw [partOf_word h]; rfl
  · simp only [Bool.and_eq_true, decide_eq_true_eq] at h
    obtain ⟨⟨h1, h2⟩, h3⟩ := h
    obtain ⟨r, hr⟩ := prefix_two h2
    rw [partOf_star (46 :: r) hr]
    exact bytes_ext (by simp [str_data, hr])
theorem strL_back : ∀ (l : List ByteArray) (acc : List Part) (r : List Part × Bool), cmpL l acc = some r → strL r.1 ++ tailL r.2 = strL acc ++ l
  | [], acc, r, e => by simp [cmpL] at e; subst e; simp [tailL]
  | w :: l, acc, r, e => by
    rw [cmpL] at e
    split at e
    · rename_i hc
      injection e with e; subst e
      simp only [Bool.and_eq_true, List.isEmpty_iff, Lib.toList_data, beq_iff_eq] at hc
      rw [hc.2]
      have : w = ⟨#[42, 42]⟩ := bytes_ext hc.1
      rw [this]; rfl
    · split at e
      · rename_i hk
        rw [strL_back l _ r e]
        unfold strL
        rw [List.map_append, List.map_cons, str_part hk]
        simp
      · cases e
theorem str_compile {q : ByteArray} {y : Pat} (h : compileB q = some y) : patS y = q := by
  unfold compileB at h
  have hj := join_split q
  generalize splitB 47 q = l at h hj
  cases l with
  | nil => cases h
  | cons l0 r =>
    rw [compL_cons] at h
    split at h
    · rename_i hc
      rw [Bool.and_eq_true] at hc
      obtain ⟨x, hx, rfl⟩ := Option.map_eq_some_iff.1 h
      have hb := strL_back r [] x hx
      rw [patS_eq]
      show joinS (stringP (partOfP l0).kind (partOfP l0).text :: (strL x.1 ++ tailL x.2)) = q
      rw [str_head hc.2, hb, ← hj]
      rfl
    · cases h
theorem adr_words {c : ByteArray} {ws : List ByteArray} (hc : isNameB c = true) (hw : ∀ w ∈ ws, isWordB w = true) (hn : ws.length ≤ 32) : AdrGood ⟨c, ws, []⟩ :=
  ⟨hc, hw, hn, by simp, by simp, List.Pairwise.nil⟩
theorem adr_short {c : ByteArray} {ws : List ByteArray} (hc : isNameB c = true) (hw : ∀ w ∈ ws, isWordB w = true) (hn : ws.length ≤ 32) : (W06 c ws []).length ≤ 4096 := by
  have h1 := pathL_bound (lists ws) (by
    intro p hp
    obtain ⟨x, hx, rfl⟩ := List.mem_map.1 hp
    have := size_of_word (hw x hx)
    rw [Lib.size_eq] at this; exact this)
  have h2 := size_of_name hc
  rw [Lib.size_eq] at h2
  simp only [lists, List.length_map] at h1
  simp only [W06, writeL, List.length_append, lists, lists2, List.map_nil, queryL, List.length_nil]
  omega
theorem parse_join {c : ByteArray} {ws : List ByteArray} (hc : isNameB c = true) (hw : ∀ w ∈ ws, isWordB w = true) (hn : ws.length ≤ 32) : parseB (joinS (c :: ws)) = (⟨c, ws, []⟩, 0) ∧ readB (joinS (c :: ws)) = true := by
  rw [joinS_write]
  exact ⟨parse_write (adr_words hc hw hn) (adr_short hc hw hn), read_write (adr_words hc hw hn) (adr_short hc hw hn)⟩
theorem match_join {p : ByteArray} {x : Pat} (hx : compileB p = some x) {c : ByteArray} {ws : List ByteArray} (hc : isNameB c = true) (hw : ∀ w ∈ ws, isWordB w = true) (hn : ws.length ≤ 32) : matchB p (joinS (c :: ws)) = matchP x ⟨c, ws, []⟩ := by
  obtain ⟨h1, h2⟩ := parse_join hc hw hn
  unfold matchB
  rw [hx, h1, h2]
  simp
theorem words_ok {ps : List Part} (h : ∀ p ∈ ps, PartFit p) : ∀ w ∈ wordsL ps, isWordB w = true := by
  intro w hw
  obtain ⟨p, hp, rfl⟩ := List.mem_map.1 hw
  exact (with_fit (h p hp) (.inl rfl)).1
def exText (z : Pat) : ByteArray := joinS (withP z.cust.kind z.cust.text ⟨#[97]⟩ :: wordsL z.parts)
theorem match_exText {p : ByteArray} {x z : Pat} (hx : compileB p = some x) (hz : PatFit z) : matchB p (exText z) = matchP x (exA z) :=
  match_join hx (with_cust hz.cust (.inl rfl)) (words_ok hz.parts) (by rw [words_len]; have := hz.num; omega)
def badL : List Part → List Part → Option (List ByteArray)
  | [], _ => none
  | _ :: _, [] => none
  | a :: xs, b :: ys => if coversP a.kind a.text b.kind b.text then (badL xs ys).map (withP b.kind b.text ⟨#[97]⟩ :: ·) else some (withoutP b.kind b.text a.kind a.text :: wordsL ys)
def coverW (x y : Pat) : ByteArray :=
  if !coversP x.cust.kind x.cust.text y.cust.kind y.cust.text then joinS (withoutP y.cust.kind y.cust.text x.cust.kind x.cust.text :: wordsL y.parts)
  else if decide (y.parts.length < x.parts.length) || (decide (x.parts.length < y.parts.length) && !x.tail) then exText y
  else if y.tail && !x.tail then joinS (withP y.cust.kind y.cust.text ⟨#[97]⟩ :: (wordsL y.parts ++ [⟨#[97]⟩]))
  else match badL x.parts y.parts with
    | some ws => joinS (withP y.cust.kind y.cust.text ⟨#[97]⟩ :: ws)
    | none => ⟨#[]⟩
end Go.Proofs.YtmlhecjhjjlhfaaGreatDoor
namespace Go.Proofs.YtmlhecjhjjlhfaaGreatDoor
open Go.RowKit Go.Sort
set_option linter.unusedVariables false
set_option linter.unusedSimpArgs false
set_option maxRecDepth 100000
def matchO (z : Option Pat) (a : Adr) : Bool := match z with
  | some z => matchP z a
  | none => false
theorem common_match {x y : Pat} (hx : PatFit x) (hy : PatFit y) (a : Adr) : matchO (commonP x y) a = (matchP x a && matchP y a) := by
  cases h : commonP x y with
  | none => exact (commonP_none hx hy h a).symm
  | some z => exact (commonP_some hx hy h).2 a
def patOk (p : ByteArray) : Bool := decide (p.size = 0) || (compileB p).isSome
def pmeet (p q : ByteArray) : Option ByteArray := if p.size = 0 then some q else if q.size = 0 then some p else match compileB p, compileB q with
  | some x, some y => (commonP x y).map patS
  | _, _ => none
theorem patS_ne {z : Pat} (hz : PatFit z) : (patS z).size ≠ 0 := by
  intro h
  have hc := compile_str hz
  have hd : patS z = ⟨#[]⟩ := bytes_ext (List.eq_nil_of_length_eq_zero (by rw [← Lib.size_eq]; exact h))
  rw [hd] at hc
  have : compileB ⟨#[]⟩ = none := by
    unfold compileB
    rw [show splitB 47 ⟨#[]⟩ = [⟨#[]⟩] from rfl, compL_cons]
    have : headOkB ⟨#[]⟩ = false := by
      unfold headOkB isNameB isWordB
      rw [Lib.toList_data]; rfl
    rw [this]; simp
  rw [this] at hc
  cases hc
theorem patOk_some {p : ByteArray} (h : patOk p = true) (h0 : p.size ≠ 0) : ∃ x, compileB p = some x := by
  unfold patOk at h
  rw [Bool.or_eq_true, decide_eq_true_eq] at h
  rcases h with h | h
  · exact absurd h h0
  · exact Option.isSome_iff_exists.1 h
theorem pmeet_two {p q : ByteArray} {x y : Pat} (h1 : p.size ≠ 0) (h2 : q.size ≠ 0) (hx : compileB p = some x) (hy : compileB q = some y) : pmeet p q = (commonP x y).map patS := by
  unfold pmeet
  rw [if_neg h1, if_neg h2, hx, hy]
end Go.Proofs.YtmlhecjhjjlhfaaGreatDoor
namespace Go.Proofs.YtmlhecjhjjlhfaaGreatDoor
open Go.RowKit Go.Sort
set_option linter.unusedVariables false
set_option linter.unusedSimpArgs false
set_option maxRecDepth 100000
section
variable {α : Type}
theorem okK_at {lt : α → α → Bool} {right : α → Bool} {l : List α} (h : (List.range l.length).all (okK lt right l) = true) (k : Nat) (hk : k < l.length) : right l[k] = true ∧ ∀ j, (hj : j + 1 = k) → lt (l[j]'(by omega)) l[k] = true := by
  have := (List.all_eq_true.1 h) k (by simpa using hk)
  unfold okK at this
  rw [List.getElem?_eq_getElem hk] at this
  simp only [Bool.and_eq_true] at this
  refine ⟨this.1, fun j hj => ?_⟩
  subst hj
  have h2 := this.2
  rw [Nat.add_sub_cancel, List.getElem?_eq_getElem (show j < l.length by omega)] at h2
  simpa using h2
theorem setB_iff {lt : α → α → Bool} (tr : ∀ a b c, lt a b = true → lt b c = true → lt a c = true) (right : α → Bool) (most : Nat) (l : List α) : setB lt right most l = true ↔ (∀ x ∈ l, right x = true) ∧ l.Pairwise (fun a b => lt a b = true) ∧ l.length ≤ most := by
  unfold setB
  rw [Bool.and_eq_true, decide_eq_true_eq]
  constructor
  · rintro ⟨h, hm⟩
    refine ⟨fun x hx => ?_, List.pairwise_iff_getElem.2 fun i j hi hj hij => ?_, hm⟩
    · obtain ⟨k, hk, rfl⟩ := List.getElem_of_mem hx
      exact (okK_at h k hk).1
    · have key : ∀ d i, (hd : i + d + 1 < l.length) → lt (l[i]'(by omega)) (l[i + d + 1]'hd) = true := by
        intro d
        induction d with
        | zero => intro i hd; exact (okK_at h (i + 1) hd).2 i rfl
        | succ d ih => intro i hd; exact tr _ _ _ (ih i (by omega)) ((okK_at h (i + (d + 1) + 1) hd).2 (i + d + 1) (by omega))
      have := key (j - i - 1) i (by omega)
      simpa [show i + (j - i - 1) + 1 = j by omega] using this
  · rintro ⟨h1, h2, h3⟩
    refine ⟨List.all_eq_true.2 fun k hk => ?_, h3⟩
    have hk : k < l.length := by simpa using hk
    unfold okK
    rw [List.getElem?_eq_getElem hk]
    simp only [Bool.and_eq_true, h1 _ (List.getElem_mem hk), true_and]
    cases k with
    | zero => rfl
    | succ k =>
      rw [Nat.add_sub_cancel, List.getElem?_eq_getElem (show k < l.length by omega)]
      simp [List.pairwise_iff_getElem.1 h2 k (k + 1) (by omega) hk (by omega)]
variable [DecidableEq α]
def allowsL (l : List α) (x : α) : Bool := l.isEmpty || l.contains x
def bothF (a b : List α) : List α := (if a.isEmpty then b else a).filter (allowsL b)
def bothOk (a b : List α) : Bool := !(bothF a b).isEmpty || (if a.isEmpty then b else a).isEmpty
def bothO (a b : List α) : Option (List α) := if bothOk a b then some (bothF a b) else none
end
end Go.Proofs.YtmlhecjhjjlhfaaGreatDoor
