/- A digest of parts: the walk of hash.Of. -/
import Derived.Test.YtjhlpkhfdghngaaGreatDoorGZ19
import Derived.Test.YtjhlpkhfdghngaaGreatDoorProg
import Derived.WalkKit
import Derived.WalkSpells
import Derived.WalkLawsBesides
import Derived.Below
import Derived.Deep.QuietTactic
import Derived.BigQuiet
import Derived.Lib.QuietBelow
import Derived.Lib.Strings
import Derived.Lib.Hide
import Derived.Deep.RegionWith
import Derived.Deep.RegionHeld3
import Derived.Lib.IndexBytes
import Derived.Test.YtjhlpkhfdghngaaGreatDoorGZ8
import Derived.Test.YtjhlpkhfdghngaaGreatDoorGZ2
import Derived.Test.YtjhlpkhfdghngaaGreatDoorCards
import Derived.Test.YtjhlpkhfdghngaaGreatDoorTie
import Derived.ProofKit
import Derived.OpenShut
import Derived.Deep.DeepHandedRow
import Derived.Lib.LaidTab
import Derived.Stop.LaidErr
import Derived.Shelf.Vars
namespace Go.Proofs.YtjhlpkhfdghngaaGreatDoor
open Go.RowKit Go.Sort
set_option linter.unusedVariables false
set_option linter.unusedSimpArgs false
set_option maxRecDepth 100000
def StrR (w : World) (g : Nat) (m : List Nat) : Prop := ∃ X, StrV m (.agg X) ∧ w.heap[g]? = some (.cells X 187 (0, 0)) ∧ X.size = 73
theorem StrR.lt {w : World} {g : Nat} {m : List Nat} (h : StrR w g m) : g < w.heap.size := by
  obtain ⟨X, _, h, _⟩ := h
  rcases Nat.lt_or_ge g w.heap.size with hl | hl
  · exact hl
  · rw [Array.getElem?_eq_none hl] at h; cases h
theorem StrR.keep {w w' : World} {g : Nat} {m : List Nat} (h : StrR w g m) (hb : Below w.heap.size w w') : StrR w' g m := by
  have hl := h.lt
  obtain ⟨X, hv, h, hs⟩ := h
  exact ⟨X, hv, (hb.block g hl).trans h, hs⟩
def D1 (tag B : Nat) (j : Nat) (v : Value) (w : World) : Prop :=
  match j with
  | 0 => StrV [] v
  | 1 => v = .int .i64 (tag : Int)
  | 2 => v = .int .u8 (tag : Int)
  | 3 => ∃ b, v = .slice (some ⟨b, 0, none⟩) 1 1 ∧ w.cell? ⟨b, 0, none⟩ = some (.int .u8 (tag : Int))
  | 4 => v = .string (toN [tag])
  | 5 => StrV [tag] v
  | 6 => ∃ g, v = .pointer (some ⟨g, 0, none⟩) ∧ B ≤ g ∧ w.heap[g]? = some (.cells Tryz.zeroCells187 187 (0, 0))
  | _ => True
theorem heap_keep {w w' : World} {g : Nat} {o : Obj} (h : w.heap[g]? = some o) (hb : Below w.heap.size w w') : w'.heap[g]? = some o := by
  refine (hb.block g ?_).trans h
  rcases Nat.lt_or_ge g w.heap.size with hl | hl
  · exact hl
  · rw [Array.getElem?_eq_none hl] at h; cases h
theorem D1.keep {tag B : Nat} (j : Nat) (v : Value) (w w' : World) (h : D1 tag B j v w) (hb : Below w.heap.size w w') : D1 tag B j v w' := by
  unfold D1 at h
  split at h
  all_goals first
    | exact h
    | (obtain ⟨b, e, hc⟩ := h; exact ⟨b, e, cell_keep hb hc⟩)
    | (obtain ⟨g, e, hg, hx⟩ := h; exact ⟨g, e, hg, heap_keep hx hb⟩)
    | (unfold D1; split <;> first | trivial | (exfalso; simp_all; done))
def D2 (m : List Nat) (x : ByteArray) (j : Nat) (v : Value) (w : World) : Prop :=
  match j with
  | 0 => StrV m v
  | 1 => v = .string x
  | 2 => ∃ A c, v = .slice A (Sha.wireB (nb x)).length c ∧ Reads w 1 A (Sha.wireB (nb x)).length (b8 (Sha.wireB (nb x)))
  | 3 => v = .string (toN (Sha.wireB (nb x)))
  | 4 => StrV (m ++ Sha.wireB (nb x)) v
  | _ => True
theorem D2.keep {m : List Nat} {x : ByteArray} (j : Nat) (v : Value) (w w' : World) (h : D2 m x j v w) (hb : Below w.heap.size w w') : D2 m x j v w' := by
  unfold D2 at h
  split at h
  all_goals first
    | exact h
    | (obtain ⟨A, c, e, hR⟩ := h; exact ⟨A, c, e, hR.keep hb⟩)
    | (unfold D2; split <;> first | trivial | (exfalso; simp_all; done))
end Go.Proofs.YtjhlpkhfdghngaaGreatDoor
namespace Go.Proofs.YtjhlpkhfdghngaaGreatDoor
open Go.ChangeShapes Go.WideShapes Go.ChangeAt Go.RowKit Go.ChangeMaps
theorem own : ownKnob Tryz.prog.godebug = none := by kernel_rfl
theorem laidOut : laidOutB Tryz.prog = true := by kernel_rfl
theorem env_of {W : World} (h : W.ShapedOpen Tryz.prog) : Env W :=
  Go.Proofs.cell_of_shapedOpen_int (zero := #[.int .i64 0]) (t := 3) h (of_decide_eq_true (by kernel_rfl)) (by kernel_rfl) rfl (by kernel_rfl) (by kernel_rfl) Tryz.underlying3
def laidCells (k : IntKind) (l : List Nat) : Obj → Obj
  | .cells _ t frozen => .cells (l.map fun (n : Nat) => Value.int k (n : Int)).toArray t frozen
  | o => o
def tabA : List Nat := [0, 1, 28, 2, 29, 14, 24, 3, 30, 22, 20, 15, 25, 17, 4, 8, 31, 27, 13, 23, 21, 19, 16, 7, 26, 12, 18, 6, 11, 5, 10, 9]
def tabB : List Nat := [0, 1, 56, 2, 57, 49, 28, 3, 61, 58, 42, 50, 38, 29, 17, 4, 62, 47, 59, 36, 45, 43, 51, 22, 53, 39, 33, 30, 24, 18, 12, 5, 63, 55, 48, 27, 60, 41, 37, 16, 46, 35, 44, 21, 52, 32, 23, 11, 54, 26, 40, 15, 34, 20, 31, 10, 25, 14, 19, 9, 13, 8, 7, 6]
def tabC : List Nat := [1, 10, 100, 1000, 10000, 100000, 1000000, 10000000, 100000000, 1000000000, 10000000000, 100000000000, 1000000000000, 10000000000000, 100000000000000, 1000000000000000, 10000000000000000, 100000000000000000, 1000000000000000000, 10000000000000000000]
noncomputable def laidWorld (os : Os) : World :=
  { World.holding Tryz.prog os ⟨#[], #[], []⟩ with heap := (((((World.holding Tryz.prog os ⟨#[], #[], []⟩).heap.modify 6 (laidCells .u8 tabA)).modify 7 (laidCells .u8 tabB)).modify 3 (laidCells .u64 tabC)).modify 5 (laidCells .u8 ([128, 191, 160, 191, 128, 159, 144, 191, 128, 143] ++ List.replicate 22 0))).modify 4 (laidCells .u8 Go.Pinned.utf8FirstZ) }
theorem tab_same : (Rows.laid_internal_strconv_uint64pow10 : DataW Unit) = Lib.tabData .u64 Lib.pow10Tab := by kernel_rfl
theorem tab_of {W : World} {d1 d2 : DataW Unit} {n1 n2 : String} {rest : List (String × DataW Unit)} (h : laidMet Tryz.prog ((n1, d1) :: (n2, d2) :: ("internal/strconv.uint64pow10", Rows.laid_internal_strconv_uint64pow10) :: rest) W) : Tab W := by
  have h2 := laidMet.tail (laidMet.tail h)
  rw [tab_same] at h2
  exact Lib.tabIs_of_head (g := 3) (by kernel_rfl) (by kernel_rfl) Tryz.underlying306 Tryz.underlying185 (by kernel_rfl) (by kernel_rfl) h2
end Go.Proofs.YtjhlpkhfdghngaaGreatDoor
