/- Plain: patterns are the same where they match the same; what two patterns have in common does not hang on order or brackets. -/
import Derived.Test.YtocgkpdolgnbgaaGreatDoorPPlainX
import Derived.Test.YtocgkpdolgnbgaaGreatDoorProg
import Derived.WalkKit
import Derived.WalkSpells
import Derived.WalkLawsBesides
import Derived.Below
import Derived.Deep.QuietTactic
import Derived.BigQuiet
import Derived.Lib.QuietBelow
import Derived.Lib.Strings
import Derived.Lib.Hide
import Derived.Deep.RegionWith
import Derived.Deep.RegionHeld3
import Derived.Lib.IndexBytes
import Derived.Test.YtocgkpdolgnbgaaGreatDoorPGA
namespace Go.Proofs.YtocgkpdolgnbgaaGreatDoor
open Go.RowKit Go.Sort
set_option linter.unusedVariables false
set_option linter.unusedSimpArgs false
set_option maxRecDepth 100000
def patOk (p : ByteArray) : Bool := decide (p.size = 0) || (compileB p).isSome
def pmeet (p q : ByteArray) : Option ByteArray := if p.size = 0 then some q else if q.size = 0 then some p else match compileB p, compileB q with
  | some x, some y => (commonP x y).map patS
  | _, _ => none
theorem patOk_some {p : ByteArray} (h : patOk p = true) (h0 : p.size ≠ 0) : ∃ x, compileB p = some x := by
  unfold patOk at h
  rw [Bool.or_eq_true, decide_eq_true_eq] at h
  rcases h with h | h
  · exact absurd h h0
  · exact Option.isSome_iff_exists.1 h
theorem pmeet_two {p q : ByteArray} {x y : Pat} (h1 : p.size ≠ 0) (h2 : q.size ≠ 0) (hx : compileB p = some x) (hy : compileB q = some y) : pmeet p q = (commonP x y).map patS := by
  unfold pmeet
  rw [if_neg h1, if_neg h2, hx, hy]
end Go.Proofs.YtocgkpdolgnbgaaGreatDoor
namespace Go.Proofs.YtocgkpdolgnbgaaGreatDoor
open Go.RowKit Go.Sort
set_option linter.unusedVariables false
set_option linter.unusedSimpArgs false
set_option maxRecDepth 100000
section
variable {α : Type}
theorem okK_at {lt : α → α → Bool} {right : α → Bool} {l : List α} (h : (List.range l.length).all (okK lt right l) = true) (k : Nat) (hk : k < l.length) : right l[k] = true ∧ ∀ j, (hj : j + 1 = k) → lt (l[j]'(by omega)) l[k] = true := by
  have := (List.all_eq_true.1 h) k (by simpa using hk)
  unfold okK at this
  rw [List.getElem?_eq_getElem hk] at this
  simp only [Bool.and_eq_true] at this
  refine ⟨this.1, fun j hj => ?_⟩
  subst hj
  have h2 := this.2
  rw [Nat.add_sub_cancel, List.getElem?_eq_getElem (show j < l.length by omega)] at h2
  simpa using h2
theorem setB_iff {lt : α → α → Bool} (tr : ∀ a b c, lt a b = true → lt b c = true → lt a c = true) (right : α → Bool) (most : Nat) (l : List α) : setB lt right most l = true ↔ (∀ x ∈ l, right x = true) ∧ l.Pairwise (fun a b => lt a b = true) ∧ l.length ≤ most := by
  unfold setB
  rw [Bool.and_eq_true, decide_eq_true_eq]
  constructor
  · rintro ⟨h, hm⟩
    refine ⟨fun x hx => ?_, List.pairwise_iff_getElem.2 fun i j hi hj hij => ?_, hm⟩
    · obtain ⟨k, hk, rfl⟩ := List.getElem_of_mem hx
      exact (okK_at h k hk).1
    · have key : ∀ d i, (hd : i + d + 1 < l.length) → lt (l[i]'(by omega)) (l[i + d + 1]'hd) = true := by
        intro d
        induction d with
        | zero => intro i hd; exact (okK_at h (i + 1) hd).2 i rfl
        | succ d ih => intro i hd; exact tr _ _ _ (ih i (by omega)) ((okK_at h (i + (d + 1) + 1) hd).2 (i + d + 1) (by omega))
      have := key (j - i - 1) i (by omega)
      simpa [show i + (j - i - 1) + 1 = j by omega] using this
  · rintro ⟨h1, h2, h3⟩
    refine ⟨List.all_eq_true.2 fun k hk => ?_, h3⟩
    have hk : k < l.length := by simpa using hk
    unfold okK
    rw [List.getElem?_eq_getElem hk]
    simp only [Bool.and_eq_true, h1 _ (List.getElem_mem hk), true_and]
    cases k with
    | zero => rfl
    | succ k =>
      rw [Nat.add_sub_cancel, List.getElem?_eq_getElem (show k < l.length by omega)]
      simp [List.pairwise_iff_getElem.1 h2 k (k + 1) (by omega) hk (by omega)]
variable [DecidableEq α]
def allowsL (l : List α) (x : α) : Bool := l.isEmpty || l.contains x
def bothF (a b : List α) : List α := (if a.isEmpty then b else a).filter (allowsL b)
def bothOk (a b : List α) : Bool := !(bothF a b).isEmpty || (if a.isEmpty then b else a).isEmpty
def bothO (a b : List α) : Option (List α) := if bothOk a b then some (bothF a b) else none
end
end Go.Proofs.YtocgkpdolgnbgaaGreatDoor
