/- What the specification's Parse and Canonical return. -/
import Derived.Test.YtjhlpkhfdghngaaGreatDoorGZ28
import Derived.Test.YtjhlpkhfdghngaaGreatDoorGZ17
import Derived.Test.YtjhlpkhfdghngaaGreatDoorProg
import Derived.WalkKit
import Derived.WalkSpells
import Derived.WalkLawsBesides
import Derived.Below
import Derived.Deep.QuietTactic
import Derived.BigQuiet
import Derived.Lib.QuietBelow
import Derived.Lib.Strings
import Derived.Lib.Hide
import Derived.Deep.RegionWith
import Derived.Deep.RegionHeld3
import Derived.Lib.IndexBytes
import Derived.Test.YtjhlpkhfdghngaaGreatDoorGZ10
import Derived.Test.YtjhlpkhfdghngaaGreatDoorGZ14
import Derived.Deep.DeepCutAuto
namespace Go.Proofs.YtjhlpkhfdghngaaGreatDoor
open Go.RowKit Go.Sort
set_option linter.unusedVariables false
set_option linter.unusedSimpArgs false
set_option maxRecDepth 100000
def ReadBox (w : World) (g : Nat) (c : ByteArray) (A : Option Addr) (na ca : Nat) (B : Option Addr) (nb cb : Nat) (e : Int) : Prop := Blk w g 264 #[.string c, .slice A na ca, .slice B nb cb, .int .i64 e] (0, 0)
theorem ReadBox.facts {w : World} {g : Nat} {c : ByteArray} {A B : Option Addr} {na ca nb cb : Nat} {e : Int} (h : ReadBox w g c A na ca B nb cb e) :
    w.cell? ⟨g, 0, none⟩ = some (.string c) ∧ w.cell? ⟨g, 1, none⟩ = some (.slice A na ca) ∧ w.cell? ⟨g, 2, none⟩ = some (.slice B nb cb) ∧ w.cell? ⟨g, 3, none⟩ = some (.int .i64 e) ∧
      w.frozen? ⟨g, 0, none⟩ = false ∧ w.frozen? ⟨g, 1, none⟩ = false ∧ w.frozen? ⟨g, 2, none⟩ = false ∧ w.frozen? ⟨g, 3, none⟩ = false :=
  ⟨Blk.cell h 0, Blk.cell h 1, Blk.cell h 2, Blk.cell h 3, blk_free0 h 0, blk_free0 h 1, blk_free0 h 2, blk_free0 h 3⟩
theorem RPathPost.some_ {rr : Option (List ByteArray)} {X w' : World} {e : Ending} (h : RPathPost rr X e w') : Below X.heap.size X w' ∧ ∃ A c, e = .returned (.tuple #[.slice A (rr.getD []).length c, .bool rr.isSome]) ∧ Reads w' 1 A (rr.getD []).length ((rr.getD []).map .string) ∧ (∀ a, A = some a → X.heap.size ≤ a.block) := by
  obtain ⟨hb, h⟩ := h
  cases rr with
  | none => exact ⟨hb, none, 0, h, Reads.nil_ _ _ _, fun a ha => (by cases ha)⟩
  | some p => exact ⟨hb, h⟩
end Go.Proofs.YtjhlpkhfdghngaaGreatDoor
