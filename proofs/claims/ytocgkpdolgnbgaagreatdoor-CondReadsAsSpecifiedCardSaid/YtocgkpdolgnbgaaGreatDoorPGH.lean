/- What the specification's put returns. -/
import Derived.Test.YtocgkpdolgnbgaaGreatDoorPGF
import Derived.Test.YtocgkpdolgnbgaaGreatDoorPJA
import Derived.Test.YtocgkpdolgnbgaaGreatDoorProg
import Derived.WalkKit
import Derived.WalkSpells
import Derived.WalkLawsBesides
import Derived.Below
import Derived.Deep.QuietTactic
import Derived.BigQuiet
import Derived.Lib.QuietBelow
import Derived.Lib.Strings
import Derived.Lib.Hide
import Derived.Deep.RegionWith
import Derived.Deep.RegionHeld3
import Derived.Lib.IndexBytes
import Derived.Test.YtocgkpdolgnbgaaGreatDoorPGB
import Derived.Deep.DeepCutAuto
import Derived.Test.YtocgkpdolgnbgaaGreatDoorPRef17
import Derived.Test.YtocgkpdolgnbgaaGreatDoorPMatch
namespace Go.Proofs.YtocgkpdolgnbgaaGreatDoor
open Go.RowKit Go.Sort
set_option linter.unusedVariables false
set_option linter.unusedSimpArgs false
set_option maxRecDepth 100000
def PairBox (w : World) (g : Nat) (k v : ByteArray) : Prop := Blk w g 183 #[.string k, .string v] (0, 0)
theorem PairBox.facts {w : World} {g : Nat} {k v : ByteArray} (h : PairBox w g k v) : w.cell? ⟨g, 0, none⟩ = some (.string k) ∧ w.cell? ⟨g, 1, none⟩ = some (.string v) := ⟨Blk.cell h 0, Blk.cell h 1⟩
end Go.Proofs.YtocgkpdolgnbgaaGreatDoor
namespace Go.Proofs.YtocgkpdolgnbgaaGreatDoor
open Go.RowKit Go.Sort
set_option linter.unusedVariables false
set_option linter.unusedSimpArgs false
set_option maxRecDepth 100000
theorem PairsPost.none_ {w w' : World} (hb : Below w.heap.size w w') : PairsPost none w (.returned (.tuple #[.slice none 0 0, .bool false])) w' := ⟨hb, rfl⟩
end Go.Proofs.YtocgkpdolgnbgaaGreatDoor
namespace Go.Proofs.YtocgkpdolgnbgaaGreatDoor
open Go.RowKit Go.Sort
set_option linter.unusedVariables false
set_option linter.unusedSimpArgs false
set_option maxRecDepth 100000
def ReadBox (w : World) (g : Nat) (c : ByteArray) (A : Option Addr) (na ca : Nat) (B : Option Addr) (nb cb : Nat) (e : Int) : Prop := Blk w g 162 #[.string c, .slice A na ca, .slice B nb cb, .int .i64 e] (0, 0)
theorem ReadBox.facts {w : World} {g : Nat} {c : ByteArray} {A B : Option Addr} {na ca nb cb : Nat} {e : Int} (h : ReadBox w g c A na ca B nb cb e) :
    w.cell? ⟨g, 0, none⟩ = some (.string c) ∧ w.cell? ⟨g, 1, none⟩ = some (.slice A na ca) ∧ w.cell? ⟨g, 2, none⟩ = some (.slice B nb cb) ∧ w.cell? ⟨g, 3, none⟩ = some (.int .i64 e) ∧
      w.frozen? ⟨g, 0, none⟩ = false ∧ w.frozen? ⟨g, 1, none⟩ = false ∧ w.frozen? ⟨g, 2, none⟩ = false ∧ w.frozen? ⟨g, 3, none⟩ = false :=
  ⟨Blk.cell h 0, Blk.cell h 1, Blk.cell h 2, Blk.cell h 3, blk_free0 h 0, blk_free0 h 1, blk_free0 h 2, blk_free0 h 3⟩
end Go.Proofs.YtocgkpdolgnbgaaGreatDoor
namespace Go.Proofs.YtocgkpdolgnbgaaGreatDoor
open Go.RowKit Go.Sort
set_option linter.unusedVariables false
set_option linter.unusedSimpArgs false
set_option maxRecDepth 100000
theorem RCompPost.any_ {r : Option Pat} {w w' : World} {e : Ending} (h : RCompPost r w e w') : Below w.heap.size w w' ∧ ∃ (c : ByteArray) (A : Option Addr) (n k : Nat) (t : Bool), e = .returned (.tuple #[.agg #[.string c, .slice A n k, .bool t], .bool r.isSome]) := by
  obtain ⟨hb, h⟩ := h
  cases r with
  | none => exact ⟨hb, _, none, 0, 0, _, h⟩
  | some x => obtain ⟨A, c, h, _⟩ := h; exact ⟨hb, _, A, _, c, _, h⟩
set_option maxHeartbeats 1000000 in
theorem rValid_any (s : ByteArray) (w : World) (hs : s.size ≤ 100000) : Calls Tryz.prog 75 #[.string s] w (Ret w (.bool (compileB s).isSome)) := by
  have cC := fun W => (rCompile_any s W hs).mono (fun e w' h => h.any_)
  generalize (compileB s).isSome = b at *
  have HC := Lib.hid cC
  clear cC
  go_enter Tryz.func75, Tryz.ntmps75
  go_wp2_with (go_at_call 105; refine (HC.out _).mono ?_; rintro e w1 ⟨hb1, c, A, n, k, t, rfl⟩)
  go_ret
  exact ⟨rfl, by (repeat (first | exact .refl _ _ | assumption | refine .drew ?_ | refine balloc ?_ _ | refine bdrewN ?_ _ | refine .setCell ?_ (by simp <;> omega) _ | refine bstep ?_ (by assumption)))⟩
end Go.Proofs.YtocgkpdolgnbgaaGreatDoor
