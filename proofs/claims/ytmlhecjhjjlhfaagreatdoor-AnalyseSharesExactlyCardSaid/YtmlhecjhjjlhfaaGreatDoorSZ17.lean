/- The specification's ascend and within. -/
import Derived.Test.YtmlhecjhjjlhfaaGreatDoorSZ7
import Derived.Test.YtmlhecjhjjlhfaaGreatDoorSZ3
import Derived.Test.YtmlhecjhjjlhfaaGreatDoorSZ15
import Derived.Test.YtmlhecjhjjlhfaaGreatDoorProg
import Derived.WalkKit
import Derived.WalkSpells
import Derived.WalkLawsBesides
import Derived.Below
import Derived.Deep.QuietTactic
import Derived.BigQuiet
import Derived.Lib.QuietBelow
import Derived.Lib.Strings
import Derived.Lib.Hide
import Derived.Deep.RegionWith
import Derived.Deep.RegionHeld3
import Derived.Lib.IndexBytes
namespace Go.Proofs.YtmlhecjhjjlhfaaGreatDoor
open Go.RowKit Go.Sort
set_option linter.unusedVariables false
set_option linter.unusedSimpArgs false
set_option maxRecDepth 100000
theorem le_prev2 (x y : ByteArray) : (Op.bytesLess x.toList y.toList || x.toList == y.toList) = !ltB y x := le_prev x y
end Go.Proofs.YtmlhecjhjjlhfaaGreatDoor
