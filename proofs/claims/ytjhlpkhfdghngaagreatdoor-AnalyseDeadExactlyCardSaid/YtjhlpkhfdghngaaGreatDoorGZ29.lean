/- What the specification's Split, HasTag and SameList return. -/
import Derived.Test.YtjhlpkhfdghngaaGreatDoorGZ27
import Derived.Test.YtjhlpkhfdghngaaGreatDoorGZ14
import Derived.Test.YtjhlpkhfdghngaaGreatDoorProg
import Derived.WalkKit
import Derived.WalkSpells
import Derived.WalkLawsBesides
import Derived.Below
import Derived.Deep.QuietTactic
import Derived.BigQuiet
import Derived.Lib.QuietBelow
import Derived.Lib.Strings
import Derived.Lib.Hide
import Derived.Deep.RegionWith
import Derived.Deep.RegionHeld3
import Derived.Lib.IndexBytes
namespace Go.Proofs.YtjhlpkhfdghngaaGreatDoor
open Go.RowKit Go.Sort
set_option linter.unusedVariables false
set_option linter.unusedSimpArgs false
set_option maxRecDepth 100000
def RListPost (r : List ByteArray × Int) (w : World) (e : Ending) (w' : World) : Prop := Below w.heap.size w w' ∧ ∃ A c, e = .returned (.agg #[.slice A r.1.length c, .int .i64 r.2]) ∧ Reads w' 1 A r.1.length (r.1.map .string)
theorem RListPost.none_ {w w' : World} {er : Int} (hb : Below w.heap.size w w') : RListPost ([], er) w (.returned (.agg #[.slice none 0 0, .int .i64 er])) w' := ⟨hb, none, 0, rfl, Reads.nil_ _ _ _⟩
end Go.Proofs.YtjhlpkhfdghngaaGreatDoor
