/- What the specification's put returns. -/
import Derived.Test.YtmlhecjhjjlhfaaGreatDoorSZ26
import Derived.Test.YtmlhecjhjjlhfaaGreatDoorSZ24
import Derived.Test.YtmlhecjhjjlhfaaGreatDoorProg
import Derived.WalkKit
import Derived.WalkSpells
import Derived.WalkLawsBesides
import Derived.Below
import Derived.Deep.QuietTactic
import Derived.BigQuiet
import Derived.Lib.QuietBelow
import Derived.Lib.Strings
import Derived.Lib.Hide
import Derived.Deep.RegionWith
import Derived.Deep.RegionHeld3
import Derived.Lib.IndexBytes
import Derived.Test.YtmlhecjhjjlhfaaGreatDoorSZ18
import Derived.Test.YtmlhecjhjjlhfaaGreatDoorSZ8
import Derived.Test.YtmlhecjhjjlhfaaGreatDoorSZ16
import Derived.Test.YtmlhecjhjjlhfaaGreatDoorSZ9
import Derived.Test.YtmlhecjhjjlhfaaGreatDoorSZ13
import Derived.Deep.DeepCutAuto
import Derived.Test.YtmlhecjhjjlhfaaGreatDoorSZ25
import Derived.Test.YtmlhecjhjjlhfaaGreatDoorSZ1
namespace Go.Proofs.YtmlhecjhjjlhfaaGreatDoor
open Go.RowKit Go.Sort
set_option linter.unusedVariables false
set_option linter.unusedSimpArgs false
set_option maxRecDepth 100000
def PairBox (w : World) (g : Nat) (k v : ByteArray) : Prop := Blk w g 183 #[.string k, .string v] (0, 0)
theorem PairBox.facts {w : World} {g : Nat} {k v : ByteArray} (h : PairBox w g k v) : w.cell? ⟨g, 0, none⟩ = some (.string k) ∧ w.cell? ⟨g, 1, none⟩ = some (.string v) := ⟨Blk.cell h 0, Blk.cell h 1⟩
end Go.Proofs.YtmlhecjhjjlhfaaGreatDoor
namespace Go.Proofs.YtmlhecjhjjlhfaaGreatDoor
open Go.RowKit Go.Sort
set_option linter.unusedVariables false
set_option linter.unusedSimpArgs false
set_option maxRecDepth 100000
theorem PairsPost.none_ {w w' : World} (hb : Below w.heap.size w w') : PairsPost none w (.returned (.tuple #[.slice none 0 0, .bool false])) w' := ⟨hb, rfl⟩
end Go.Proofs.YtmlhecjhjjlhfaaGreatDoor
namespace Go.Proofs.YtmlhecjhjjlhfaaGreatDoor
open Go.RowKit Go.Sort
set_option linter.unusedVariables false
set_option linter.unusedSimpArgs false
set_option maxRecDepth 100000
theorem RPathPost.some_ {rr : Option (List ByteArray)} {X w' : World} {e : Ending} (h : RPathPost rr X e w') : Below X.heap.size X w' ∧ ∃ A c, e = .returned (.tuple #[.slice A (rr.getD []).length c, .bool rr.isSome]) ∧ Reads w' 1 A (rr.getD []).length ((rr.getD []).map .string) ∧ (∀ a, A = some a → X.heap.size ≤ a.block) := by
  obtain ⟨hb, h⟩ := h
  cases rr with
  | none => exact ⟨hb, none, 0, h, Reads.nil_ _ _ _, fun a ha => (by cases ha)⟩
  | some p => exact ⟨hb, h⟩
end Go.Proofs.YtmlhecjhjjlhfaaGreatDoor
namespace Go.Proofs.YtmlhecjhjjlhfaaGreatDoor
open Go.RowKit Go.Sort
set_option linter.unusedVariables false
set_option linter.unusedSimpArgs false
set_option maxRecDepth 100000
def RListPost (r : List ByteArray × Int) (w : World) (e : Ending) (w' : World) : Prop := Below w.heap.size w w' ∧ ∃ A c, e = .returned (.agg #[.slice A r.1.length c, .int .i64 r.2]) ∧ Reads w' 1 A r.1.length (r.1.map .string)
theorem RListPost.none_ {w w' : World} {er : Int} (hb : Below w.heap.size w w') : RListPost ([], er) w (.returned (.agg #[.slice none 0 0, .int .i64 er])) w' := ⟨hb, none, 0, rfl, Reads.nil_ _ _ _⟩
end Go.Proofs.YtmlhecjhjjlhfaaGreatDoor
namespace Go.Proofs.YtmlhecjhjjlhfaaGreatDoor
open Go.RowKit Go.Sort
set_option linter.unusedVariables false
set_option linter.unusedSimpArgs false
set_option maxRecDepth 100000
attribute [local go_sem] Oper.semAt_some
theorem ints_at {xs : List Int} {k : Nat} {u : Value} (h : (xs.map (Value.int .i64))[k]? = some u) : ∃ x, xs[k]? = some x ∧ u = .int .i64 x := by
  rw [List.getElem?_map, Option.map_eq_some_iff] at h
  obtain ⟨x, hx, rfl⟩ := h
  exact ⟨x, hx, rfl⟩
end Go.Proofs.YtmlhecjhjjlhfaaGreatDoor
