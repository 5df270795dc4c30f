/- What the rows of this seat ask of the world: the tables, the search's variable. -/
import Derived.Test.YtiglpecjpncclaaGreatDoorSane
import Derived.Test.YtiglpecjpncclaaGreatDoorRow
import Derived.Test.YtiglpecjpncclaaGreatDoorCards
import Derived.Test.YtiglpecjpncclaaGreatDoorTie
import Derived.WalkKit
import Derived.ProofKit
import Derived.OpenShut
import Derived.Deep.DeepHandedRow
import Derived.Lib.LaidTab
import Derived.Shelf.Vars
namespace Go.Proofs.YtiglpecjpncclaaGreatDoor
open Go.ChangeShapes Go.WideShapes Go.ChangeAt Go.RowKit Go.ChangeMaps
theorem own : ownKnob Tryz.prog.godebug = none := by kernel_rfl
theorem laidOut : laidOutB Tryz.prog = true := by kernel_rfl
/-- The world's shape gives the variable that the library's search reads. -/
theorem env_of {W : World} (h : W.ShapedOpen Tryz.prog) : Env W :=
  Go.Proofs.cell_of_shapedOpen_int (zero := #[.int .i64 0]) (t := 3) h (of_decide_eq_true (by kernel_rfl)) (by kernel_rfl) rfl (by kernel_rfl) (by kernel_rfl) Tryz.underlying3
/-- A table's block, with these numbers in it. -/
def laidCells (l : List Nat) : Obj → Obj
  | .cells _ t frozen => .cells (l.map fun (n : Nat) => Value.int .u8 (n : Int)).toArray t frozen
  | o => o
/-- A world in which the listed tables hold what they are laid with. -/
noncomputable def laidWorld (os : Os) : World :=
  { World.holding Tryz.prog os ⟨#[], #[], []⟩ with heap := ((World.holding Tryz.prog os ⟨#[], #[], []⟩).heap.modify 2 (laidCells ([128, 191, 160, 191, 128, 159, 144, 191, 128, 143] ++ List.replicate 22 0))).modify 1 (laidCells Go.Pinned.utf8FirstZ) }
end Go.Proofs.YtiglpecjpncclaaGreatDoor
