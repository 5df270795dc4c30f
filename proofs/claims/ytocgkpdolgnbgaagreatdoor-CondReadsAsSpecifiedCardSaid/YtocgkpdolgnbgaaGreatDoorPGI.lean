/- What the specification's Empty returns. -/
import Derived.Test.YtocgkpdolgnbgaaGreatDoorPR3
import Derived.Test.YtocgkpdolgnbgaaGreatDoorPR1
import Derived.Test.YtocgkpdolgnbgaaGreatDoorPJA
import Derived.Test.YtocgkpdolgnbgaaGreatDoorPGH
import Derived.Test.YtocgkpdolgnbgaaGreatDoorPGB
import Derived.Test.YtocgkpdolgnbgaaGreatDoorProg
import Derived.WalkKit
import Derived.WalkSpells
import Derived.WalkLawsBesides
import Derived.Below
import Derived.Deep.QuietTactic
import Derived.BigQuiet
import Derived.Lib.QuietBelow
import Derived.Lib.Strings
import Derived.Lib.Hide
import Derived.Deep.RegionWith
import Derived.Deep.RegionHeld3
import Derived.Lib.IndexBytes
import Derived.Test.YtocgkpdolgnbgaaGreatDoorPJB
import Derived.Test.YtocgkpdolgnbgaaGreatDoorPPlainX
import Derived.Deep.DeepCutAuto
namespace Go.Proofs.YtocgkpdolgnbgaaGreatDoor
open Go.RowKit Go.Sort
set_option linter.unusedVariables false
set_option linter.unusedSimpArgs false
set_option maxRecDepth 100000
def K21 (w : World) (g : Nat) (b : Bool) (e : Int) : Prop := Blk w g 43 #[.bool b, .int .i64 e] (0, 0)
theorem K21.facts {w : World} {g : Nat} {b : Bool} {e : Int} (h : K21 w g b e) : w.cell? ⟨g, 0, none⟩ = some (.bool b) ∧ w.cell? ⟨g, 1, none⟩ = some (.int .i64 e) ∧ w.frozen? ⟨g, 0, none⟩ = false ∧ w.frozen? ⟨g, 1, none⟩ = false ∧ g < w.heap.size :=
  ⟨Blk.cell h 0, Blk.cell h 1, blk_free0 h 0, blk_free0 h 1, Blk.lt h⟩
end Go.Proofs.YtocgkpdolgnbgaaGreatDoor
namespace Go.Proofs.YtocgkpdolgnbgaaGreatDoor
open Go.RowKit Go.Sort
set_option linter.unusedVariables false
set_option linter.unusedSimpArgs false
set_option maxRecDepth 100000
def KBox (w : World) (g : Nat) (b : Bool) (e : Int) : Prop := Blk w g 83 #[.bool b, .int .i64 e] (0, 0)
theorem KBox.facts {w : World} {g : Nat} {b : Bool} {e : Int} (h : KBox w g b e) : w.cell? ⟨g, 0, none⟩ = some (.bool b) ∧ w.cell? ⟨g, 1, none⟩ = some (.int .i64 e) ∧ w.frozen? ⟨g, 0, none⟩ = false ∧ w.frozen? ⟨g, 1, none⟩ = false :=
  ⟨Blk.cell h 0, Blk.cell h 1, blk_free0 h 0, blk_free0 h 1⟩
end Go.Proofs.YtocgkpdolgnbgaaGreatDoor
namespace Go.Proofs.YtocgkpdolgnbgaaGreatDoor
open Go.RowKit Go.Sort
set_option linter.unusedVariables false
set_option linter.unusedSimpArgs false
set_option maxRecDepth 100000
def JBox (w : World) (g : Nat) (s : ByteArray) (b : Bool) (e : Int) : Prop := Blk w g 135 #[.string s, .bool b, .int .i64 e] (0, 0)
theorem JBox.facts {w : World} {g : Nat} {s : ByteArray} {b : Bool} {e : Int} (h : JBox w g s b e) : w.cell? ⟨g, 0, none⟩ = some (.string s) ∧ w.cell? ⟨g, 1, none⟩ = some (.bool b) ∧ w.cell? ⟨g, 2, none⟩ = some (.int .i64 e) ∧ w.frozen? ⟨g, 0, none⟩ = false ∧ w.frozen? ⟨g, 1, none⟩ = false ∧ w.frozen? ⟨g, 2, none⟩ = false :=
  ⟨Blk.cell h 0, Blk.cell h 1, Blk.cell h 2, blk_free0 h 0, blk_free0 h 1, blk_free0 h 2⟩
end Go.Proofs.YtocgkpdolgnbgaaGreatDoor
namespace Go.Proofs.YtocgkpdolgnbgaaGreatDoor
open Go.RowKit Go.Sort
set_option linter.unusedVariables false
set_option linter.unusedSimpArgs false
set_option maxRecDepth 100000
theorem infoInt7 : (Tryz.prog.info? 3).map (fun i => (i.zero, i.size, i.bytes)) = some (some (.int .i64 0), 1, 8) := by kernel_rfl
end Go.Proofs.YtocgkpdolgnbgaaGreatDoor
