/- The hash of a message: Stream.Sum. -/
import Derived.Test.YtmlhecjhjjlhfaaGreatDoorSZ6
import Derived.Test.YtmlhecjhjjlhfaaGreatDoorProg
import Derived.WalkKit
import Derived.WalkSpells
import Derived.WalkLawsBesides
import Derived.Below
import Derived.Deep.QuietTactic
import Derived.BigQuiet
import Derived.Lib.QuietBelow
import Derived.Lib.Strings
import Derived.Lib.Hide
import Derived.Deep.RegionWith
import Derived.Deep.RegionHeld3
import Derived.Lib.IndexBytes
import Derived.Test.YtmlhecjhjjlhfaaGreatDoorSZ16
import Derived.Lib.AppendStr
import Derived.Test.YtmlhecjhjjlhfaaGreatDoorSZ7
namespace Go.Proofs.YtmlhecjhjjlhfaaGreatDoor
open Go.RowKit Go.Sort
set_option linter.unusedVariables false
set_option linter.unusedSimpArgs false
set_option maxRecDepth 100000
def toN (l : List Nat) : ByteArray := ⟨(l.map UInt8.ofNat).toArray⟩
end Go.Proofs.YtmlhecjhjjlhfaaGreatDoor
namespace Go.Proofs.YtmlhecjhjjlhfaaGreatDoor
open Go.RowKit Go.Sort
set_option linter.unusedVariables false
set_option linter.unusedSimpArgs false
set_option maxRecDepth 100000
def D2 (m : List Nat) (x : ByteArray) (j : Nat) (v : Value) (w : World) : Prop :=
  match j with
  | 0 => StrV m v
  | 1 => v = .string x
  | 2 => ∃ A c, v = .slice A (Sha.wireB (nb x)).length c ∧ Reads w 1 A (Sha.wireB (nb x)).length (b8 (Sha.wireB (nb x)))
  | 3 => v = .string (toN (Sha.wireB (nb x)))
  | 4 => StrV (m ++ Sha.wireB (nb x)) v
  | _ => True
theorem D2.keep {m : List Nat} {x : ByteArray} (j : Nat) (v : Value) (w w' : World) (h : D2 m x j v w) (hb : Below w.heap.size w w') : D2 m x j v w' := by
  unfold D2 at h
  split at h
  all_goals first
    | exact h
    | (obtain ⟨A, c, e, hR⟩ := h; exact ⟨A, c, e, hR.keep hb⟩)
    | (unfold D2; split <;> first | trivial | (exfalso; simp_all; done))
end Go.Proofs.YtmlhecjhjjlhfaaGreatDoor
namespace Go.Proofs.YtmlhecjhjjlhfaaGreatDoor
open Go.RowKit Go.Sort
set_option linter.unusedVariables false
set_option linter.unusedSimpArgs false
set_option maxRecDepth 100000
structure RuleCaps (x : RuleM) : Prop where
  t : x.r.tags.length ≤ x.ct
  v : ∀ y ∈ x.L, y.v.values.length ≤ y.c
  w : x.r.vary.length ≤ x.cv
end Go.Proofs.YtmlhecjhjjlhfaaGreatDoor
