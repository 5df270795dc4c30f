/- Plain: what parts of patterns match, cover and have in common. -/
import Derived.Test.YtocgkpdolgnbgaaGreatDoorHParts
import Derived.Test.YtocgkpdolgnbgaaGreatDoorHPlainW
import Derived.Test.YtocgkpdolgnbgaaGreatDoorProg
import Derived.WalkKit
import Derived.WalkSpells
import Derived.WalkLawsBesides
import Derived.Below
import Derived.Deep.QuietTactic
import Derived.BigQuiet
import Derived.Lib.QuietBelow
import Derived.Lib.Strings
import Derived.Lib.Hide
import Derived.Deep.RegionWith
import Derived.Deep.RegionHeld3
import Derived.Lib.IndexBytes
namespace Go.Proofs.YtocgkpdolgnbgaaGreatDoor
open Go.RowKit Go.Sort
set_option linter.unusedVariables false
set_option linter.unusedSimpArgs false
set_option maxRecDepth 100000
theorem beq_bytes (a b : ByteArray) : (a.toList == b.toList) = true ↔ a = b := by
  rw [Lib.toList_data, Lib.toList_data, beq_iff_eq]
  exact ⟨bytes_ext, fun h => by rw [h]⟩
theorem has1 (t w : ByteArray) : hasP 1 t w = true ↔ t.size < w.size ∧ t.data.toList <:+ w.data.toList := by
  unfold hasP
  rw [if_neg (by decide), if_pos rfl]
  simp only [Bool.and_eq_true, decide_eq_true_eq, Lib.hasSuffix, List.isSuffixOf_iff_suffix]
theorem has2 (t w : ByteArray) : hasP 2 t w = true := by
  unfold hasP; rw [if_neg (by decide), if_neg (by decide)]
def PartFit (p : Part) : Prop :=
  (p.kind = 0 ∧ isWordB p.text = true) ∨ (p.kind = 1 ∧ ∃ s : ByteArray, isWordB s = true ∧ s.size ≤ 32 ∧ p.text.data.toList = 46 :: s.data.toList) ∨ (p.kind = 2 ∧ p.text = ⟨#[]⟩)
def CustFit (p : Part) : Prop := (p.kind = 0 ∧ isNameB p.text = true) ∨ (p.kind = 2 ∧ p.text = ⟨#[]⟩)
theorem CustFit.part {p : Part} (h : CustFit p) : PartFit p := by
  rcases h with ⟨h1, h2⟩ | h
  · exact .inl ⟨h1, name_word h2⟩
  · exact .inr (.inr h)
theorem size_data (s : ByteArray) : s.size = s.data.toList.length := Lib.size_eq s
end Go.Proofs.YtocgkpdolgnbgaaGreatDoor
