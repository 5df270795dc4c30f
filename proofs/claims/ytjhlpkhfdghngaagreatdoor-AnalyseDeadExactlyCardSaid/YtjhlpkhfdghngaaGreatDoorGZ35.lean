/- What the specification's fields and list return. -/
import Derived.Test.YtjhlpkhfdghngaaGreatDoorGZ18
import Derived.Test.YtjhlpkhfdghngaaGreatDoorGZ24
import Derived.Test.YtjhlpkhfdghngaaGreatDoorGZ16
import Derived.Test.YtjhlpkhfdghngaaGreatDoorGZ25
import Derived.Test.YtjhlpkhfdghngaaGreatDoorGZ31
import Derived.Test.YtjhlpkhfdghngaaGreatDoorGZ14
import Derived.Test.YtjhlpkhfdghngaaGreatDoorProg
import Derived.WalkKit
import Derived.WalkSpells
import Derived.WalkLawsBesides
import Derived.Below
import Derived.Deep.QuietTactic
import Derived.BigQuiet
import Derived.Lib.QuietBelow
import Derived.Lib.Strings
import Derived.Lib.Hide
import Derived.Deep.RegionWith
import Derived.Deep.RegionHeld3
import Derived.Lib.IndexBytes
import Derived.Test.YtjhlpkhfdghngaaGreatDoorGZ19
import Derived.Test.YtjhlpkhfdghngaaGreatDoorGZ26
import Derived.Test.YtjhlpkhfdghngaaGreatDoorGZ1
import Derived.Test.YtjhlpkhfdghngaaGreatDoorGZ3
import Derived.Test.YtjhlpkhfdghngaaGreatDoorGZ32
import Derived.Test.YtjhlpkhfdghngaaGreatDoorGZ17
import Derived.Test.YtjhlpkhfdghngaaGreatDoorGZ13
import Derived.Test.YtjhlpkhfdghngaaGreatDoorGZ7
import Derived.Test.YtjhlpkhfdghngaaGreatDoorGZ8
import Derived.Test.YtjhlpkhfdghngaaGreatDoorGZ30
namespace Go.Proofs.YtjhlpkhfdghngaaGreatDoor
open Go.RowKit Go.Sort
set_option linter.unusedVariables false
set_option linter.unusedSimpArgs false
set_option maxRecDepth 100000
theorem OwnPost.reads {ps : List ByteArray} {w w' : World} {e : Ending} (h : OwnPost ps w e w') : ∃ A c, e = .returned (.slice A ps.length c) ∧ Reads w' 1 A ps.length (ps.map .string) ∧ Below w.heap.size w w' := by
  obtain ⟨A, c, h1, h2, h3⟩ := h
  exact ⟨A, c, h1, Reads.of_own h2, h3⟩
end Go.Proofs.YtjhlpkhfdghngaaGreatDoor
namespace Go.Proofs.YtjhlpkhfdghngaaGreatDoor
open Go.RowKit Go.Sort
set_option linter.unusedVariables false
set_option linter.unusedSimpArgs false
set_option maxRecDepth 100000
def K21 (w : World) (g : Nat) (b : Bool) (e : Int) : Prop := Blk w g 153 #[.bool b, .int .i64 e] (0, 0)
theorem K21.facts {w : World} {g : Nat} {b : Bool} {e : Int} (h : K21 w g b e) : w.cell? ⟨g, 0, none⟩ = some (.bool b) ∧ w.cell? ⟨g, 1, none⟩ = some (.int .i64 e) ∧ w.frozen? ⟨g, 0, none⟩ = false ∧ w.frozen? ⟨g, 1, none⟩ = false ∧ g < w.heap.size :=
  ⟨Blk.cell h 0, Blk.cell h 1, blk_free0 h 0, blk_free0 h 1, Blk.lt h⟩
end Go.Proofs.YtjhlpkhfdghngaaGreatDoor
namespace Go.Proofs.YtjhlpkhfdghngaaGreatDoor
open Go.RowKit Go.Sort
set_option linter.unusedVariables false
set_option linter.unusedSimpArgs false
set_option maxRecDepth 100000
def WBox (w : World) (g : Nat) (s : ByteArray) (e : Int) : Prop := Blk w g 193 #[.string s, .int .i64 e] (0, 0)
theorem WBox.facts {w : World} {g : Nat} {s : ByteArray} {e : Int} (h : WBox w g s e) : w.cell? ⟨g, 0, none⟩ = some (.string s) ∧ w.cell? ⟨g, 1, none⟩ = some (.int .i64 e) ∧ w.frozen? ⟨g, 0, none⟩ = false ∧ w.frozen? ⟨g, 1, none⟩ = false ∧ g < w.heap.size :=
  ⟨Blk.cell h 0, Blk.cell h 1, blk_free0 h 0, blk_free0 h 1, Blk.lt h⟩
end Go.Proofs.YtjhlpkhfdghngaaGreatDoor
namespace Go.Proofs.YtjhlpkhfdghngaaGreatDoor
open Go.RowKit Go.Sort
set_option linter.unusedVariables false
set_option linter.unusedSimpArgs false
set_option maxRecDepth 100000
set_option maxHeartbeats 4000000 in
theorem permits_any (x : RuleM) (a : AskV) (w : World) (hR : RuleReads w x) (hc : CondFits x.r.allow) (ha : AskFits a) (hE : Env w) :
    Calls Tryz.prog 29 #[x.val, AskV.val a] w (Ret w (.bool (holdsC x.r.allow a))) := by
  have hh := fun W (hb : Below w.heap.size w W) => holds_any x.r.allow x.m a W (hR.allow.keep hb) hc ha (Env.keep hE hb)
  generalize holdsC x.r.allow a = V at *
  rw [RuleM.val_eq]
  unfold CondMem.val AskV.val at *
  have HH := Lib.hid hh
  clear hh hR hc ha hE
  go_enter Tryz.func29, Tryz.ntmps29
  go_wp2_with (go_at_call 91; refine (HH.out _ belB).mono ?_; rintro e w2 ⟨rfl, hb2⟩)
  go_ret
  exact ⟨rfl, belB⟩
end Go.Proofs.YtjhlpkhfdghngaaGreatDoor
