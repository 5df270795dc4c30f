/- What the specification's Holds and Empty return. -/
import Derived.Test.YtocgkpdolgnbgaaGreatDoorMR3
import Derived.Test.YtocgkpdolgnbgaaGreatDoorMR1
import Derived.Test.YtocgkpdolgnbgaaGreatDoorMJA
import Derived.Test.YtocgkpdolgnbgaaGreatDoorMGH
import Derived.Test.YtocgkpdolgnbgaaGreatDoorMGB
import Derived.Test.YtocgkpdolgnbgaaGreatDoorProg
import Derived.WalkKit
import Derived.WalkSpells
import Derived.WalkLawsBesides
import Derived.Below
import Derived.Deep.QuietTactic
import Derived.BigQuiet
import Derived.Lib.QuietBelow
import Derived.Lib.Strings
import Derived.Lib.Hide
import Derived.Deep.RegionWith
import Derived.Deep.RegionHeld3
import Derived.Lib.IndexBytes
import Derived.Test.YtocgkpdolgnbgaaGreatDoorMJB
namespace Go.Proofs.YtocgkpdolgnbgaaGreatDoor
open Go.RowKit Go.Sort
set_option linter.unusedVariables false
set_option linter.unusedSimpArgs false
set_option maxRecDepth 100000
theorem allowsL_cases {α : Type} [DecidableEq α] (l : List α) (x : α) : (l.length = 0 ∧ allowsL l x = true) ∨ (0 < l.length ∧ hasL l x = true ∧ allowsL l x = true) ∨ (0 < l.length ∧ hasL l x = false ∧ allowsL l x = false) := by
  unfold allowsL
  cases l with
  | nil => exact .inl ⟨rfl, rfl⟩
  | cons a l =>
    have e : (a :: l).contains x = hasL (a :: l) x := rfl
    rw [e]
    cases hasL (a :: l) x
    · exact .inr (.inr ⟨by simp, rfl, rfl⟩)
    · exact .inr (.inl ⟨by simp, rfl, rfl⟩)
end Go.Proofs.YtocgkpdolgnbgaaGreatDoor
namespace Go.Proofs.YtocgkpdolgnbgaaGreatDoor
open Go.RowKit Go.Sort
set_option linter.unusedVariables false
set_option linter.unusedSimpArgs false
set_option maxRecDepth 100000
def knownV (b : Bool) (e : Int) : Value := .agg #[.bool b, .int .i64 e]
def K21 (w : World) (g : Nat) (b : Bool) (e : Int) : Prop := Blk w g 43 #[.bool b, .int .i64 e] (0, 0)
theorem K21.facts {w : World} {g : Nat} {b : Bool} {e : Int} (h : K21 w g b e) : w.cell? ⟨g, 0, none⟩ = some (.bool b) ∧ w.cell? ⟨g, 1, none⟩ = some (.int .i64 e) ∧ w.frozen? ⟨g, 0, none⟩ = false ∧ w.frozen? ⟨g, 1, none⟩ = false ∧ g < w.heap.size :=
  ⟨Blk.cell h 0, Blk.cell h 1, blk_free0 h 0, blk_free0 h 1, Blk.lt h⟩
end Go.Proofs.YtocgkpdolgnbgaaGreatDoor
