/- What the specification's fields and list return. -/
import Derived.Test.YtocgkpdolgnbgaaGreatDoorMR3
import Derived.Test.YtocgkpdolgnbgaaGreatDoorMJC
import Derived.Test.YtocgkpdolgnbgaaGreatDoorMJB
import Derived.Test.YtocgkpdolgnbgaaGreatDoorMPlainX
import Derived.Lib.AtoiTie
import Derived.Lib.AtoiAllCases
import Derived.Test.YtocgkpdolgnbgaaGreatDoorProg
import Derived.WalkKit
import Derived.WalkSpells
import Derived.WalkLawsBesides
import Derived.Below
import Derived.Deep.QuietTactic
import Derived.BigQuiet
import Derived.Lib.QuietBelow
import Derived.Lib.Strings
import Derived.Lib.Hide
import Derived.Deep.RegionWith
import Derived.Deep.RegionHeld3
import Derived.Lib.IndexBytes
import Derived.Test.YtocgkpdolgnbgaaGreatDoorMGF
import Derived.Test.YtocgkpdolgnbgaaGreatDoorMGB
import Derived.Lib.Join
import Derived.Lib.SlicesCompact
import Derived.Lib.RowBridge
import Derived.Test.YtocgkpdolgnbgaaGreatDoorMGI
namespace Go.Proofs.YtocgkpdolgnbgaaGreatDoor
open Go.RowKit Go.Sort
set_option linter.unusedVariables false
set_option linter.unusedSimpArgs false
set_option maxRecDepth 100000
theorem OwnPost.reads {ps : List ByteArray} {w w' : World} {e : Ending} (h : OwnPost ps w e w') : ∃ A c, e = .returned (.slice A ps.length c) ∧ Reads w' 1 A ps.length (ps.map .string) ∧ Below w.heap.size w w' := by
  obtain ⟨A, c, h1, h2, h3⟩ := h
  exact ⟨A, c, h1, Reads.of_own h2, h3⟩
end Go.Proofs.YtocgkpdolgnbgaaGreatDoor
namespace Go.Proofs.YtocgkpdolgnbgaaGreatDoor
open Go.RowKit Go.Sort
set_option linter.unusedVariables false
set_option linter.unusedSimpArgs false
set_option maxRecDepth 100000
def WBox (w : World) (g : Nat) (s : ByteArray) (e : Int) : Prop := Blk w g 56 #[.string s, .int .i64 e] (0, 0)
theorem WBox.facts {w : World} {g : Nat} {s : ByteArray} {e : Int} (h : WBox w g s e) : w.cell? ⟨g, 0, none⟩ = some (.string s) ∧ w.cell? ⟨g, 1, none⟩ = some (.int .i64 e) ∧ w.frozen? ⟨g, 0, none⟩ = false ∧ w.frozen? ⟨g, 1, none⟩ = false ∧ g < w.heap.size :=
  ⟨Blk.cell h 0, Blk.cell h 1, blk_free0 h 0, blk_free0 h 1, Blk.lt h⟩
end Go.Proofs.YtocgkpdolgnbgaaGreatDoor
