/- Plain: patterns are the same where they match the same; what two patterns have in common does not hang on order or brackets. -/
import Derived.Test.YtocgkpdolgnbgaaGreatDoorMPlainX
import Derived.Test.YtocgkpdolgnbgaaGreatDoorProg
import Derived.WalkKit
import Derived.WalkSpells
import Derived.WalkLawsBesides
import Derived.Below
import Derived.Deep.QuietTactic
import Derived.BigQuiet
import Derived.Lib.QuietBelow
import Derived.Lib.Strings
import Derived.Lib.Hide
import Derived.Deep.RegionWith
import Derived.Deep.RegionHeld3
import Derived.Lib.IndexBytes
import Derived.Test.YtocgkpdolgnbgaaGreatDoorMGA
namespace Go.Proofs.YtocgkpdolgnbgaaGreatDoor
open Go.RowKit Go.Sort
set_option linter.unusedVariables false
set_option linter.unusedSimpArgs false
set_option maxRecDepth 100000
theorem cover_of {x y : Pat} (hx : PatFit x) (hy : PatFit y) (h : ∀ a : Adr, matchP y a = true → matchP x a = true) : coverB x y = true := by
  cases hc : coverB x y
  · obtain ⟨h1, h2⟩ := coverW_exact (compile_str hx) (compile_str hy) hc
    unfold matchB at h1 h2
    rw [compile_str hy] at h1
    rw [compile_str hx] at h2
    have h1 : (readB (coverW x y) && matchP y (parseB (coverW x y)).1) = true := h1
    have h2 : (readB (coverW x y) && matchP x (parseB (coverW x y)).1) = false := h2
    rw [Bool.and_eq_true] at h1
    rw [h1.1, h _ h1.2] at h2
    cases h2
  · rfl
def matchO (z : Option Pat) (a : Adr) : Bool := match z with
  | some z => matchP z a
  | none => false
def patOk (p : ByteArray) : Bool := decide (p.size = 0) || (compileB p).isSome
def pmeet (p q : ByteArray) : Option ByteArray := if p.size = 0 then some q else if q.size = 0 then some p else match compileB p, compileB q with
  | some x, some y => (commonP x y).map patS
  | _, _ => none
theorem patOk_some {p : ByteArray} (h : patOk p = true) (h0 : p.size ≠ 0) : ∃ x, compileB p = some x := by
  unfold patOk at h
  rw [Bool.or_eq_true, decide_eq_true_eq] at h
  rcases h with h | h
  · exact absurd h h0
  · exact Option.isSome_iff_exists.1 h
theorem pmeet_ok {p q r : ByteArray} (hp : patOk p = true) (hq : patOk q = true) (h : pmeet p q = some r) : patOk r = true := by
  unfold pmeet at h
  split at h
  · injection h with h; rw [← h]; exact hq
  · split at h
    · injection h with h; rw [← h]; exact hp
    · rename_i h1 h2
      obtain ⟨x, hx⟩ := patOk_some hp h1
      obtain ⟨y, hy⟩ := patOk_some hq h2
      rw [hx, hy] at h
      obtain ⟨z, hz, hr⟩ := Option.map_eq_some_iff.1 h
      unfold patOk
      rw [← hr, compile_str (commonP_some (compile_fit hx) (compile_fit hy) hz).1]
      simp
theorem pmeet_two {p q : ByteArray} {x y : Pat} (h1 : p.size ≠ 0) (h2 : q.size ≠ 0) (hx : compileB p = some x) (hy : compileB q = some y) : pmeet p q = (commonP x y).map patS := by
  unfold pmeet
  rw [if_neg h1, if_neg h2, hx, hy]
end Go.Proofs.YtocgkpdolgnbgaaGreatDoor
namespace Go.Proofs.YtocgkpdolgnbgaaGreatDoor
open Go.RowKit Go.Sort
set_option linter.unusedVariables false
set_option linter.unusedSimpArgs false
set_option maxRecDepth 100000
section
variable {α : Type}
theorem okK_at {lt : α → α → Bool} {right : α → Bool} {l : List α} (h : (List.range l.length).all (okK lt right l) = true) (k : Nat) (hk : k < l.length) : right l[k] = true ∧ ∀ j, (hj : j + 1 = k) → lt (l[j]'(by omega)) l[k] = true := by
  have := (List.all_eq_true.1 h) k (by simpa using hk)
  unfold okK at this
  rw [List.getElem?_eq_getElem hk] at this
  simp only [Bool.and_eq_true] at this
  refine ⟨this.1, fun j hj => ?_⟩
  subst hj
  have h2 := this.2
  rw [Nat.add_sub_cancel, List.getElem?_eq_getElem (show j < l.length by omega)] at h2
  simpa using h2
theorem setB_iff {lt : α → α → Bool} (tr : ∀ a b c, lt a b = true → lt b c = true → lt a c = true) (right : α → Bool) (most : Nat) (l : List α) : setB lt right most l = true ↔ (∀ x ∈ l, right x = true) ∧ l.Pairwise (fun a b => lt a b = true) ∧ l.length ≤ most := by
  unfold setB
  rw [Bool.and_eq_true, decide_eq_true_eq]
  constructor
  · rintro ⟨h, hm⟩
    refine ⟨fun x hx => ?_, List.pairwise_iff_getElem.2 fun i j hi hj hij => ?_, hm⟩
    · obtain ⟨k, hk, rfl⟩ := List.getElem_of_mem hx
      exact (okK_at h k hk).1
    · have key : ∀ d i, (hd : i + d + 1 < l.length) → lt (l[i]'(by omega)) (l[i + d + 1]'hd) = true := by
        intro d
        induction d with
        | zero => intro i hd; exact (okK_at h (i + 1) hd).2 i rfl
        | succ d ih => intro i hd; exact tr _ _ _ (ih i (by omega)) ((okK_at h (i + (d + 1) + 1) hd).2 (i + d + 1) (by omega))
      have := key (j - i - 1) i (by omega)
      simpa [show i + (j - i - 1) + 1 = j by omega] using this
  · rintro ⟨h1, h2, h3⟩
    refine ⟨List.all_eq_true.2 fun k hk => ?_, h3⟩
    have hk : k < l.length := by simpa using hk
    unfold okK
    rw [List.getElem?_eq_getElem hk]
    simp only [Bool.and_eq_true, h1 _ (List.getElem_mem hk), true_and]
    cases k with
    | zero => rfl
    | succ k =>
      rw [Nat.add_sub_cancel, List.getElem?_eq_getElem (show k < l.length by omega)]
      simp [List.pairwise_iff_getElem.1 h2 k (k + 1) (by omega) hk (by omega)]
variable [DecidableEq α]
def allowsL (l : List α) (x : α) : Bool := l.isEmpty || l.contains x
def bothF (a b : List α) : List α := (if a.isEmpty then b else a).filter (allowsL b)
def bothOk (a b : List α) : Bool := !(bothF a b).isEmpty || (if a.isEmpty then b else a).isEmpty
def bothO (a b : List α) : Option (List α) := if bothOk a b then some (bothF a b) else none
theorem bothO_nil (b : List α) : bothO [] b = some b := by
  unfold bothO bothOk bothF
  have : b.filter (allowsL b) = b := List.filter_eq_self.2 fun x hx => by unfold allowsL; simp [hx]
  simp [this]
theorem bothO_nil2 (a : List α) : bothO a [] = some a := by
  unfold bothO bothOk bothF
  cases a with
  | nil => rfl
  | cons x a =>
    have : (x :: a).filter (allowsL []) = x :: a := List.filter_eq_self.2 fun y hy => rfl
    simp [this]
theorem bothO_ne {a b : List α} (ha : a ≠ []) (hb : b ≠ []) : bothO a b = if (a.filter fun x => decide (x ∈ b)) = [] then none else some (a.filter fun x => decide (x ∈ b)) := by
  have ea : a.isEmpty = false := by cases a; exact absurd rfl ha; rfl
  have eb : b.isEmpty = false := by cases b; exact absurd rfl hb; rfl
  have e : a.filter (allowsL b) = a.filter fun x => decide (x ∈ b) := List.filter_congr fun x _ => by unfold allowsL; rw [eb]; simp
  unfold bothO bothOk bothF
  rw [ea]
  simp only [Bool.false_eq_true, if_false, e, ea, Bool.or_false]
  cases h : (a.filter fun x => decide (x ∈ b)) with
  | nil => simp
  | cons x l => simp
theorem bothO_mem {a b s : List α} (h : bothO a b = some s) : (∀ x, allowsL s x = (allowsL a x && allowsL b x)) ∧ (s = [] ↔ a = [] ∧ b = []) ∧ s.Sublist (if a.isEmpty then b else a) := by
  by_cases ha : a = []
  · subst ha
    rw [bothO_nil] at h
    injection h with h; subst h
    exact ⟨fun x => by simp [allowsL], by simp, by simp⟩
  · by_cases hb : b = []
    · subst hb
      rw [bothO_nil2] at h
      injection h with h; subst h
      have ea : a.isEmpty = false := by cases a; exact absurd rfl ha; rfl
      exact ⟨fun x => by simp [allowsL], by simp [ha], by rw [ea]; exact List.Sublist.refl _⟩
    · rw [bothO_ne ha hb] at h
      split at h
      · cases h
      · rename_i hne
        injection h with h; subst h
        have ea : a.isEmpty = false := by cases a; exact absurd rfl ha; rfl
        have eb : b.isEmpty = false := by cases b; exact absurd rfl hb; rfl
        have es : (a.filter fun x => decide (x ∈ b)).isEmpty = false := by
          cases h : (a.filter fun x => decide (x ∈ b))
          · exact absurd h hne
          · rfl
        refine ⟨fun x => ?_, by simp [hne, ha], by rw [ea]; exact List.filter_sublist⟩
        unfold allowsL
        rw [ea, eb, es]
        simp only [Bool.false_or]
        rw [Bool.eq_iff_iff]
        simp
def inclL (a b : List α) : Bool := b.isEmpty || (!a.isEmpty && a.all fun x => b.contains x)
theorem inclL_iff (a b : List α) : inclL a b = true ↔ b = [] ∨ (a ≠ [] ∧ ∀ x ∈ a, x ∈ b) := by
  unfold inclL
  simp only [Bool.or_eq_true, Bool.and_eq_true, List.isEmpty_iff, Bool.not_eq_true', List.all_eq_true, List.contains_iff_mem]
  constructor
  · rintro (h | ⟨h1, h2⟩)
    · exact .inl h
    · exact .inr ⟨(by intro e; rw [e] at h1; cases h1), h2⟩
  · rintro (h | ⟨h1, h2⟩)
    · exact .inl h
    · exact .inr ⟨(by cases a; exact absurd rfl h1; rfl), h2⟩
end
end Go.Proofs.YtocgkpdolgnbgaaGreatDoor
