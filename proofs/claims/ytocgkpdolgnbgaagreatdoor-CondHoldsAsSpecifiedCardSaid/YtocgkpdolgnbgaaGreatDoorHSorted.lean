/- slices.Sorted(slices.Values(l)) at []string: a new slice, sorted. -/
import Derived.Test.YtocgkpdolgnbgaaGreatDoorHResolve
import Derived.Test.YtocgkpdolgnbgaaGreatDoorHIter
import Derived.Shelf.SlIter.Sorted
import Derived.Test.YtocgkpdolgnbgaaGreatDoorProg
import Derived.WalkKit
import Derived.WalkSpells
import Derived.WalkLawsBesides
import Derived.Below
import Derived.Deep.QuietTactic
import Derived.BigQuiet
import Derived.Lib.QuietBelow
import Derived.Lib.Strings
import Derived.Lib.Hide
import Derived.Deep.RegionWith
import Derived.Deep.RegionHeld3
import Derived.Lib.IndexBytes
namespace Go.Proofs.YtocgkpdolgnbgaaGreatDoor
open Go.RowKit Go.Sort
set_option linter.unusedVariables false
set_option linter.unusedSimpArgs false
set_option maxRecDepth 100000
attribute [local go_sem] Oper.semAt_some
theorem Reads.keepsIn {w w' : World} {size n hI0 : Nat} {A : Option Addr} {vs : List Value} (h : Reads w size A n vs) (hk : KeepsIn 0 hI0 w w') (hA : ∀ a, A = some a → 0 < n → a.block < hI0) : Reads w' size A n vs := by
  refine ⟨h.1, fun h0 => ?_⟩
  obtain ⟨b, o, rfl, hc⟩ := h.2 h0
  exact ⟨b, o, rfl, fun j u hu => (World.cell?_of_block (hk b (Nat.zero_le _) (hA _ rfl h0))).trans (hc j u hu)⟩
end Go.Proofs.YtocgkpdolgnbgaaGreatDoor
