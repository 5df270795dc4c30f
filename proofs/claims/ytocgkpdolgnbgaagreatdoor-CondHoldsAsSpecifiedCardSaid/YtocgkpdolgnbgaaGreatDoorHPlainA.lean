/- Plain: patterns are the same where they match the same; what two patterns have in common does not hang on order or brackets. -/
import Derived.Test.YtocgkpdolgnbgaaGreatDoorHPlainX
import Derived.Test.YtocgkpdolgnbgaaGreatDoorProg
import Derived.WalkKit
import Derived.WalkSpells
import Derived.WalkLawsBesides
import Derived.Below
import Derived.Deep.QuietTactic
import Derived.BigQuiet
import Derived.Lib.QuietBelow
import Derived.Lib.Strings
import Derived.Lib.Hide
import Derived.Deep.RegionWith
import Derived.Deep.RegionHeld3
import Derived.Lib.IndexBytes
namespace Go.Proofs.YtocgkpdolgnbgaaGreatDoor
open Go.RowKit Go.Sort
set_option linter.unusedVariables false
set_option linter.unusedSimpArgs false
set_option maxRecDepth 100000
def patOk (p : ByteArray) : Bool := decide (p.size = 0) || (compileB p).isSome
def pmeet (p q : ByteArray) : Option ByteArray := if p.size = 0 then some q else if q.size = 0 then some p else match compileB p, compileB q with
  | some x, some y => (commonP x y).map patS
  | _, _ => none
theorem patOk_some {p : ByteArray} (h : patOk p = true) (h0 : p.size ≠ 0) : ∃ x, compileB p = some x := by
  unfold patOk at h
  rw [Bool.or_eq_true, decide_eq_true_eq] at h
  rcases h with h | h
  · exact absurd h h0
  · exact Option.isSome_iff_exists.1 h
theorem pmeet_two {p q : ByteArray} {x y : Pat} (h1 : p.size ≠ 0) (h2 : q.size ≠ 0) (hx : compileB p = some x) (hy : compileB q = some y) : pmeet p q = (commonP x y).map patS := by
  unfold pmeet
  rw [if_neg h1, if_neg h2, hx, hy]
end Go.Proofs.YtocgkpdolgnbgaaGreatDoor
