/- Plain: conditions: what is valid, what two have in common, which is within which. -/
import Derived.Test.YtocgkpdolgnbgaaGreatDoorPlainA
import Derived.Test.YtocgkpdolgnbgaaGreatDoorCondD
import Derived.Test.YtocgkpdolgnbgaaGreatDoorProg
import Derived.WalkKit
import Derived.WalkSpells
import Derived.WalkLawsBesides
import Derived.Below
import Derived.Deep.QuietTactic
import Derived.BigQuiet
import Derived.Lib.QuietBelow
import Derived.Lib.Strings
import Derived.Lib.Hide
import Derived.Deep.RegionWith
import Derived.Deep.RegionHeld3
import Derived.Lib.IndexBytes
namespace Go.Proofs.YtocgkpdolgnbgaaGreatDoor
open Go.RowKit Go.Sort
set_option linter.unusedVariables false
set_option linter.unusedSimpArgs false
set_option maxRecDepth 100000
section
variable {α : Type}
theorem okK_at {lt : α → α → Bool} {right : α → Bool} {l : List α} (h : (List.range l.length).all (okK lt right l) = true) (k : Nat) (hk : k < l.length) : right l[k] = true ∧ ∀ j, (hj : j + 1 = k) → lt (l[j]'(by omega)) l[k] = true := by
  have := (List.all_eq_true.1 h) k (by simpa using hk)
  unfold okK at this
  rw [List.getElem?_eq_getElem hk] at this
  simp only [Bool.and_eq_true] at this
  refine ⟨this.1, fun j hj => ?_⟩
  subst hj
  have h2 := this.2
  rw [Nat.add_sub_cancel, List.getElem?_eq_getElem (show j < l.length by omega)] at h2
  simpa using h2
theorem setB_iff {lt : α → α → Bool} (tr : ∀ a b c, lt a b = true → lt b c = true → lt a c = true) (right : α → Bool) (most : Nat) (l : List α) : setB lt right most l = true ↔ (∀ x ∈ l, right x = true) ∧ l.Pairwise (fun a b => lt a b = true) ∧ l.length ≤ most := by
  unfold setB
  rw [Bool.and_eq_true, decide_eq_true_eq]
  constructor
  · rintro ⟨h, hm⟩
    refine ⟨fun x hx => ?_, List.pairwise_iff_getElem.2 fun i j hi hj hij => ?_, hm⟩
    · obtain ⟨k, hk, rfl⟩ := List.getElem_of_mem hx
      exact (okK_at h k hk).1
    · have key : ∀ d i, (hd : i + d + 1 < l.length) → lt (l[i]'(by omega)) (l[i + d + 1]'hd) = true := by
        intro d
        induction d with
        | zero => intro i hd; exact (okK_at h (i + 1) hd).2 i rfl
        | succ d ih => intro i hd; exact tr _ _ _ (ih i (by omega)) ((okK_at h (i + (d + 1) + 1) hd).2 (i + d + 1) (by omega))
      have := key (j - i - 1) i (by omega)
      simpa [show i + (j - i - 1) + 1 = j by omega] using this
  · rintro ⟨h1, h2, h3⟩
    refine ⟨List.all_eq_true.2 fun k hk => ?_, h3⟩
    have hk : k < l.length := by simpa using hk
    unfold okK
    rw [List.getElem?_eq_getElem hk]
    simp only [Bool.and_eq_true, h1 _ (List.getElem_mem hk), true_and]
    cases k with
    | zero => rfl
    | succ k =>
      rw [Nat.add_sub_cancel, List.getElem?_eq_getElem (show k < l.length by omega)]
      simp [List.pairwise_iff_getElem.1 h2 k (k + 1) (by omega) hk (by omega)]
variable [DecidableEq α]
/-- Is something allowed by a list, of which an empty one allows everything? -/
def allowsL (l : List α) (x : α) : Bool := l.isEmpty || l.contains x
/-- What is in both lists. -/
def bothF (a b : List α) : List α := (if a.isEmpty then b else a).filter (allowsL b)
def bothOk (a b : List α) : Bool := !(bothF a b).isEmpty || (if a.isEmpty then b else a).isEmpty
def bothO (a b : List α) : Option (List α) := if bothOk a b then some (bothF a b) else none
theorem bothO_nil (b : List α) : bothO [] b = some b := by
  unfold bothO bothOk bothF
  have : b.filter (allowsL b) = b := List.filter_eq_self.2 fun x hx => by unfold allowsL; simp [hx]
  simp [this]
theorem bothO_nil2 (a : List α) : bothO a [] = some a := by
  unfold bothO bothOk bothF
  cases a with
  | nil => rfl
  | cons x a =>
    have : (x :: a).filter (allowsL []) = x :: a := List.filter_eq_self.2 fun y hy => rfl
    simp [this]
theorem bothO_ne {a b : List α} (ha : a ≠ []) (hb : b ≠ []) : bothO a b = if (a.filter fun x => decide (x ∈ b)) = [] then none else some (a.filter fun x => decide (x ∈ b)) := by
  have ea : a.isEmpty = false := by cases a; exact absurd rfl ha; rfl
  have eb : b.isEmpty = false := by cases b; exact absurd rfl hb; rfl
  have e : a.filter (allowsL b) = a.filter fun x => decide (x ∈ b) := List.filter_congr fun x _ => by unfold allowsL; rw [eb]; simp
  unfold bothO bothOk bothF
  rw [ea]
  simp only [Bool.false_eq_true, if_false, e, ea, Bool.or_false]
  cases h : (a.filter fun x => decide (x ∈ b)) with
  | nil => simp
  | cons x l => simp
theorem bothO_mem {a b s : List α} (h : bothO a b = some s) : (∀ x, allowsL s x = (allowsL a x && allowsL b x)) ∧ (s = [] ↔ a = [] ∧ b = []) ∧ s.Sublist (if a.isEmpty then b else a) := by
  by_cases ha : a = []
  · subst ha
    rw [bothO_nil] at h
    injection h with h; subst h
    exact ⟨fun x => by simp [allowsL], by simp, by simp⟩
  · by_cases hb : b = []
    · subst hb
      rw [bothO_nil2] at h
      injection h with h; subst h
      have ea : a.isEmpty = false := by cases a; exact absurd rfl ha; rfl
      exact ⟨fun x => by simp [allowsL], by simp [ha], by rw [ea]; exact List.Sublist.refl _⟩
    · rw [bothO_ne ha hb] at h
      split at h
      · cases h
      · rename_i hne
        injection h with h; subst h
        have ea : a.isEmpty = false := by cases a; exact absurd rfl ha; rfl
        have eb : b.isEmpty = false := by cases b; exact absurd rfl hb; rfl
        have es : (a.filter fun x => decide (x ∈ b)).isEmpty = false := by
          cases h : (a.filter fun x => decide (x ∈ b))
          · exact absurd h hne
          · rfl
        refine ⟨fun x => ?_, by simp [hne, ha], by rw [ea]; exact List.filter_sublist⟩
        unfold allowsL
        rw [ea, eb, es]
        simp only [Bool.false_or]
        rw [Bool.eq_iff_iff]
        simp
theorem bothO_none {a b : List α} (h : bothO a b = none) : a ≠ [] ∧ b ≠ [] ∧ ∀ x, ¬ (x ∈ a ∧ x ∈ b) := by
  have ha : a ≠ [] := by rintro rfl; rw [bothO_nil] at h; cases h
  have hb : b ≠ [] := by rintro rfl; rw [bothO_nil2] at h; cases h
  rw [bothO_ne ha hb] at h
  split at h
  · rename_i he
    refine ⟨ha, hb, fun x hx => ?_⟩
    have : x ∈ (a.filter fun x => decide (x ∈ b)) := List.mem_filter.2 ⟨hx.1, by simpa using hx.2⟩
    rw [he] at this; cases this
  · cases h
theorem bothO_assoc (a b c : List α) : ((bothO a b).bind fun s => bothO s c) = ((bothO b c).bind fun s => bothO a s) := by
  by_cases ha : a = []
  · subst ha
    rw [bothO_nil, Option.bind_some]
    cases h : bothO b c with
    | none => rfl
    | some s => rw [Option.bind_some, bothO_nil]
  · by_cases hb : b = []
    · subst hb
      rw [bothO_nil2, bothO_nil]; rfl
    · by_cases hc : c = []
      · subst hc
        rw [bothO_nil2, Option.bind_some]
        cases h : bothO a b with
        | none => rfl
        | some s => rw [Option.bind_some, bothO_nil2]
      · rw [bothO_ne ha hb, bothO_ne hb hc]
        by_cases h1 : (a.filter fun x => decide (x ∈ b)) = []
        · rw [if_pos h1]
          by_cases h2 : (b.filter fun x => decide (x ∈ c)) = []
          · rw [if_pos h2]; rfl
          · rw [if_neg h2, Option.bind_some, bothO_ne ha h2]
            have : (a.filter fun x => decide (x ∈ b.filter fun x => decide (x ∈ c))) = [] := by
              refine List.filter_eq_nil_iff.2 fun x hx => ?_
              have := List.filter_eq_nil_iff.1 h1 x hx
              simp at this ⊢
              exact fun h => absurd h this
            rw [if_pos this]; rfl
        · rw [if_neg h1, Option.bind_some, bothO_ne h1 hc]
          have e : ((a.filter fun x => decide (x ∈ b)).filter fun x => decide (x ∈ c)) = a.filter fun x => decide (x ∈ b.filter fun x => decide (x ∈ c)) := by
            rw [List.filter_filter]
            refine List.filter_congr fun x _ => ?_
            rw [Bool.eq_iff_iff]; simp [and_comm]
          rw [e]
          by_cases h2 : (b.filter fun x => decide (x ∈ c)) = []
          · rw [if_pos h2, h2]
            simp
          · rw [if_neg h2, Option.bind_some, bothO_ne ha h2]
/-- Is each element that a list allows allowed by another one? -/
def inclL (a b : List α) : Bool := b.isEmpty || (!a.isEmpty && a.all fun x => b.contains x)
theorem inclL_iff (a b : List α) : inclL a b = true ↔ b = [] ∨ (a ≠ [] ∧ ∀ x ∈ a, x ∈ b) := by
  unfold inclL
  simp only [Bool.or_eq_true, Bool.and_eq_true, List.isEmpty_iff, Bool.not_eq_true', List.all_eq_true, List.contains_iff_mem]
  constructor
  · rintro (h | ⟨h1, h2⟩)
    · exact .inl h
    · exact .inr ⟨(by intro e; rw [e] at h1; cases h1), h2⟩
  · rintro (h | ⟨h1, h2⟩)
    · exact .inl h
    · exact .inr ⟨(by cases a; exact absurd rfl h1; rfl), h2⟩
theorem inclL_both {a b s c : List α} (h : bothO a b = some s) : inclL c s = (inclL c a && inclL c b) := by
  obtain ⟨h1, h2, _⟩ := bothO_mem h
  rw [Bool.eq_iff_iff, Bool.and_eq_true, inclL_iff, inclL_iff, inclL_iff]
  have hm : s ≠ [] → ∀ x, x ∈ s ↔ (a = [] ∨ x ∈ a) ∧ (b = [] ∨ x ∈ b) := fun hs x => by
    have := h1 x
    unfold allowsL at this
    rw [Bool.eq_iff_iff] at this
    simpa [hs] using this
  constructor
  · rintro (h | ⟨h3, h4⟩)
    · obtain ⟨h5, h6⟩ := h2.1 h; exact ⟨.inl h5, .inl h6⟩
    · obtain ⟨x, hx⟩ := List.exists_mem_of_ne_nil _ h3
      have hs : s ≠ [] := List.ne_nil_of_mem (h4 x hx)
      refine ⟨?_, ?_⟩
      · by_cases ha : a = []
        · exact .inl ha
        · exact .inr ⟨h3, fun y hy => (((hm hs y).1 (h4 y hy)).1).resolve_left ha⟩
      · by_cases hb : b = []
        · exact .inl hb
        · exact .inr ⟨h3, fun y hy => (((hm hs y).1 (h4 y hy)).2).resolve_left hb⟩
  · rintro ⟨ha, hb⟩
    by_cases hs : s = []
    · exact .inl hs
    · right
      have hc : c ≠ [] := by
        rcases ha with rfl | ⟨h, _⟩
        · rcases hb with rfl | ⟨h, _⟩
          · exact absurd (h2.2 ⟨rfl, rfl⟩) hs
          · exact h
        · exact h
      refine ⟨hc, fun x hx => (hm hs x).2 ⟨?_, ?_⟩⟩
      · rcases ha with h | ⟨_, h⟩
        · exact .inl h
        · exact .inr (h x hx)
      · rcases hb with h | ⟨_, h⟩
        · exact .inl h
        · exact .inr (h x hx)
theorem inclL_trans {a b c : List α} (h1 : inclL a b = true) (h2 : inclL b c = true) : inclL a c = true := by
  rw [inclL_iff] at *
  rcases h2 with h2 | ⟨h3, h4⟩
  · exact .inl h2
  · rcases h1 with h1 | ⟨h5, h6⟩
    · exact absurd h1 h3
    · exact .inr ⟨h5, fun x hx => h4 x (h6 x hx)⟩
theorem incl_some {a b c : List α} (h1 : inclL c a = true) (h2 : inclL c b = true) : ∃ s, bothO a b = some s := by
  cases h : bothO a b with
  | some s => exact ⟨s, rfl⟩
  | none =>
    obtain ⟨ha, hb, hx⟩ := bothO_none h
    rw [inclL_iff] at h1 h2
    rcases h1 with h1 | ⟨hc, h1⟩
    · exact absurd h1 ha
    · rcases h2 with h2 | ⟨_, h2⟩
      · exact absurd h2 hb
      · obtain ⟨x, hxc⟩ := List.exists_mem_of_ne_nil _ hc
        exact absurd ⟨h1 x hxc, h2 x hxc⟩ (hx x)
end

end Go.Proofs.YtocgkpdolgnbgaaGreatDoor
