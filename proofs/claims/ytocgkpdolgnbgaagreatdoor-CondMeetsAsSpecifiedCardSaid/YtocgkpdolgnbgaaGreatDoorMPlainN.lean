/- Plain: the patterns that the specification puts together are the program's. -/
import Derived.Test.YtocgkpdolgnbgaaGreatDoorMRef19
import Derived.Test.YtocgkpdolgnbgaaGreatDoorMJB
import Derived.Test.YtocgkpdolgnbgaaGreatDoorProg
import Derived.WalkKit
import Derived.WalkSpells
import Derived.WalkLawsBesides
import Derived.Below
import Derived.Deep.QuietTactic
import Derived.BigQuiet
import Derived.Lib.QuietBelow
import Derived.Lib.Strings
import Derived.Lib.Hide
import Derived.Deep.RegionWith
import Derived.Deep.RegionHeld3
import Derived.Lib.IndexBytes
namespace Go.Proofs.YtocgkpdolgnbgaaGreatDoor
open Go.RowKit Go.Sort
set_option linter.unusedVariables false
set_option linter.unusedSimpArgs false
set_option maxRecDepth 100000
def meetL (xs ys : List Part) : Bool := (mtL [] xs ys).isSome
theorem mtL_isSome : ∀ (xs ys acc : List Part), (mtL acc xs ys).isSome = true ↔ ∀ (k : Nat) (p q : Part), xs[k]? = some p → ys[k]? = some q → meetsP p q = true
  | [], ys, acc => by simp [mtL]
  | a :: xs, [], acc => by
    rw [mtL, mtL_isSome xs []]
    simp
  | a :: xs, b :: ys, acc => by
    rw [mtL]
    cases hm : meetsP a b
    · simp only [Bool.false_eq_true, if_false, Option.isSome_none, false_iff]
      intro h
      have := h 0 a b rfl rfl
      rw [hm] at this; cases this
    · rw [if_pos rfl, mtL_isSome xs ys]
      constructor
      · intro h k p q hp hq
        cases k with
        | zero => simp at hp hq; rw [← hp, ← hq]; exact hm
        | succ k => exact h k p q (by simpa using hp) (by simpa using hq)
      · intro h k p q hp hq
        exact h (k + 1) p q (by simpa using hp) (by simpa using hq)
theorem meetL_iff (xs ys : List Part) : meetL xs ys = true ↔ ∀ (k : Nat) (p q : Part), xs[k]? = some p → ys[k]? = some q → meetsP p q = true := mtL_isSome xs ys []
theorem meetsP_comm (p q : Part) : meetsP p q = meetsP q p := by unfold meetsP; exact Bool.or_comm _ _
theorem meetL_comm (xs ys : List Part) : meetL xs ys = meetL ys xs := by
  rw [Bool.eq_iff_iff, meetL_iff, meetL_iff]
  exact ⟨fun h k p q hp hq => by rw [meetsP_comm]; exact h k q p hq hp, fun h k p q hp hq => by rw [meetsP_comm]; exact h k q p hq hp⟩
theorem commonO_isSome (x y : Pat) : (commonO x y).isSome = (meetsP x.cust y.cust && !(decide (y.parts.length < x.parts.length) && !y.tail) && meetL x.parts y.parts) := by
  unfold commonO meetL
  cases hm : meetsP x.cust y.cust
  · simp
  · cases hd : (decide (y.parts.length < x.parts.length) && !y.tail)
    · simp
    · simp
theorem common_isSome (x y : Pat) : (commonP x y).isSome = (meetsP x.cust y.cust && !(decide (x.parts.length < y.parts.length) && !x.tail) && !(decide (y.parts.length < x.parts.length) && !y.tail) && meetL x.parts y.parts) := by
  unfold commonP
  by_cases h : x.parts.length < y.parts.length
  · rw [if_pos h, commonO_isSome, meetsP_comm, meetL_comm, decide_eq_true h, decide_eq_false (show ¬ y.parts.length < x.parts.length by omega)]
    simp
  · rw [if_neg h, commonO_isSome, decide_eq_false h]
    simp
theorem cust_meets {p q : Part} (hp : CustFit p) (hq : CustFit q) : meetsP p q = ((strP p).toList == [42] || (strP q).toList == [42] || (strP p).toList == (strP q).toList) := by
  unfold meetsP
  rw [cust_cov hp hq, cust_cov hq hp]
  have e : ((strP q).toList == (strP p).toList) = ((strP p).toList == (strP q).toList) := by
    rw [Bool.eq_iff_iff, beq_iff_eq, beq_iff_eq]; exact eq_comm
  rw [e]
  cases ((strP p).toList == [42]) <;> cases ((strP q).toList == [42]) <;> cases ((strP p).toList == (strP q).toList) <;> rfl
theorem part_meets {p q : Part} (hp : PartFit p) (hq : PartFit q) : meetsB (strP p) (strP q) = meetsP p q := by
  unfold meetsB meetsP
  rw [cov_covers hp hq, cov_covers hq hp]
theorem mtL_at : ∀ (xs ys acc r : List Part), mtL acc xs ys = some r → ∃ r', r = acc ++ r' ∧ r'.length = xs.length ∧ ∀ (k : Nat) (a : Part), xs[k]? = some a → r'[k]? = some (match ys[k]? with | some b => meetP a b | none => a)
  | [], ys, acc, r, e => by
    simp [mtL] at e; subst e
    exact ⟨[], by simp, rfl, by simp⟩
  | a :: xs, [], acc, r, e => by
    rw [mtL] at e
    obtain ⟨r', h1, h2, h3⟩ := mtL_at xs [] (acc ++ [a]) r e
    refine ⟨a :: r', by rw [h1]; simp, by simp [h2], fun k b hb => ?_⟩
    cases k with
    | zero => simp at hb ⊢; exact hb
    | succ k =>
      have := h3 k b (by simpa using hb)
      simpa using this
  | a :: xs, b :: ys, acc, r, e => by
    rw [mtL] at e
    split at e
    · obtain ⟨r', h1, h2, h3⟩ := mtL_at xs ys (acc ++ [meetP a b]) r e
      refine ⟨meetP a b :: r', by rw [h1]; simp, by simp [h2], fun k c hc => ?_⟩
      cases k with
      | zero => simp at hc ⊢; rw [hc]
      | succ k =>
        have := h3 k c (by simpa using hc)
        simpa using this
    · cases e
def wAt (x y : Pat) (k : Nat) : ByteArray :=
  let w := match x.parts[k]? with
    | some a => strP a
    | none => ⟨#[42]⟩
  match y.parts[k]? with
  | some b => if covB w (strP b) then strP b else w
  | none => w
theorem strP_meet {a b : Part} (ha : PartFit a) (hb : PartFit b) : strP (meetP a b) = if covB (strP a) (strP b) then strP b else strP a := by
  unfold meetP
  rw [cov_covers ha hb]
  split <;> rfl
theorem strP_meet2 {a b : Part} (ha : PartFit a) (hb : PartFit b) (hm : meetsP a b = true) : strP (meetP b a) = if covB (strP a) (strP b) then strP b else strP a := by
  unfold meetP
  rw [cov_covers ha hb]
  unfold meetsP at hm
  cases h1 : coversP a.kind a.text b.kind b.text
  · rw [h1, Bool.false_or] at hm
    rw [if_pos hm]; rfl
  · rw [if_pos rfl]
    split
    · rename_i h2
      rw [covers_anti ha hb h1 h2]
    · rfl
theorem common_at {x y z : Pat} (hx : PatFit x) (hy : PatFit y) (h : commonP x y = some z) : z.tail = (x.tail && y.tail) ∧ z.parts.length = max x.parts.length y.parts.length ∧ (∀ k, k < max x.parts.length y.parts.length → (strL z.parts)[k]? = some (wAt x y k)) ∧ strP z.cust = if (strP x.cust).toList == [42] then strP y.cust else strP x.cust := by
  have hsome : (commonP x y).isSome = true := by rw [h]; rfl
  rw [common_isSome] at hsome
  simp only [Bool.and_eq_true] at hsome
  obtain ⟨⟨⟨hc, hg1⟩, hg2⟩, hl⟩ := hsome
  rw [meetL_iff] at hl
  have hfx : ∀ (k : Nat) (a : Part), x.parts[k]? = some a → PartFit a := fun k a ha => hx.parts a (List.mem_of_getElem? ha)
  have hfy : ∀ (k : Nat) (a : Part), y.parts[k]? = some a → PartFit a := fun k a ha => hy.parts a (List.mem_of_getElem? ha)
  have hcv := cust_cov hx.cust hy.cust
  have hcv2 := cust_cov hy.cust hx.cust
  rw [cust_meets hx.cust hy.cust] at hc
  unfold commonP at h
  by_cases hlt : x.parts.length < y.parts.length
  · rw [if_pos hlt] at h
    unfold commonO at h
    split at h
    · cases h
    · cases hm : mtL [] y.parts x.parts with
      | none => rw [hm] at h; cases h
      | some l =>
        rw [hm, Option.map_some] at h
        injection h with h
        subst h
        obtain ⟨r', h1, h2, h3⟩ := mtL_at _ _ _ _ hm
        rw [List.nil_append] at h1
        subst h1
        refine ⟨Bool.and_comm _ _, by dsimp only; omega, fun k hk => ?_, ?_⟩
        · obtain ⟨b, hb⟩ : ∃ b, y.parts[k]? = some b := ⟨_, List.getElem?_eq_getElem (by omega)⟩
          have h4 := h3 k b hb
          unfold strL
          dsimp only
          rw [List.getElem?_map, h4, Option.map_some]
          congr 1
          show strP _ = _
          unfold wAt
          rw [hb]
          cases ha : x.parts[k]? with
          | none =>
            dsimp only
            rw [if_pos]
            unfold covB
            rw [show ((⟨#[42]⟩ : ByteArray).toList == [42]) = true by rw [Lib.toList_data]; rfl]
            rfl
          | some a => exact strP_meet2 (hfx k a ha) (hfy k b hb) (hl k a b ha hb)
        · dsimp only
          unfold meetP
          rw [hcv2]
          cases e1 : ((strP x.cust).toList == [42])
          · rw [e1, Bool.false_or] at hc
            have e3 : ((strP y.cust).toList == (strP x.cust).toList) = ((strP x.cust).toList == (strP y.cust).toList) := by
              rw [Bool.eq_iff_iff, beq_iff_eq, beq_iff_eq]; exact eq_comm
            rw [e3, hc]; rfl
          · cases e2 : ((strP y.cust).toList == [42])
            · have e3 : ((strP y.cust).toList == (strP x.cust).toList) = false := by
                rw [beq_eq_false_iff_ne]
                intro h
                rw [h] at e2
                rw [e1] at e2; cases e2
              rw [e3]; rfl
            · have : strP x.cust = strP y.cust := by
                rw [beq_iff_eq] at e1 e2
                exact (beq_bytes _ _).1 (by rw [e1, e2]; rfl)
              rw [Bool.true_or, if_pos rfl, if_pos rfl, this]
  · rw [if_neg hlt] at h
    unfold commonO at h
    split at h
    · cases h
    · cases hm : mtL [] x.parts y.parts with
      | none => rw [hm] at h; cases h
      | some l =>
        rw [hm, Option.map_some] at h
        injection h with h
        subst h
        obtain ⟨r', h1, h2, h3⟩ := mtL_at _ _ _ _ hm
        rw [List.nil_append] at h1
        subst h1
        refine ⟨rfl, by dsimp only; omega, fun k hk => ?_, ?_⟩
        · obtain ⟨a, ha⟩ : ∃ a, x.parts[k]? = some a := ⟨_, List.getElem?_eq_getElem (by omega)⟩
          have h4 := h3 k a ha
          unfold strL
          dsimp only
          rw [List.getElem?_map, h4, Option.map_some]
          congr 1
          show strP _ = _
          unfold wAt
          rw [ha]
          cases hb : y.parts[k]? with
          | none => rfl
          | some b => exact strP_meet (hfx k a ha) (hfy k b hb)
        · dsimp only
          unfold meetP
          rw [hcv]
          cases e1 : ((strP x.cust).toList == [42])
          · rw [Bool.false_or]
            cases e3 : ((strP x.cust).toList == (strP y.cust).toList)
            · rfl
            · rw [if_pos rfl, (beq_bytes _ _).1 e3]; rfl
          · rfl
end Go.Proofs.YtocgkpdolgnbgaaGreatDoor
