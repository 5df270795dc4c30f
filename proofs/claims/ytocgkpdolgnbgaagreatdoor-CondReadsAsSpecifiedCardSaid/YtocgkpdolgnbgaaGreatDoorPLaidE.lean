/- What the row of CondReads asks of the world besides: the library's two errors. -/
import Derived.Test.YtocgkpdolgnbgaaGreatDoorPJL
import Derived.Test.YtocgkpdolgnbgaaGreatDoorPGL
import Derived.Stop.LaidErr
import Derived.LaidLaws
namespace Go.Proofs.YtocgkpdolgnbgaaGreatDoor
open Go.ChangeShapes Go.WideShapes Go.ChangeAt Go.RowKit Go.ChangeMaps
theorem errStar : "*" ++ "errors.errorString" = "*errors.errorString" := by decide
theorem errRow (u : TypeId) (h : Tryz.prog.typeName? 3 u = some "*errors.errorString") : u = 240 :=
  typeName_ptr_named (nm := "errors.errorString") (by rw [errStar]; kernel_rfl) (by kernel_rfl) (by decide) u (by rw [errStar]; exact h)
def errCell (n : Nat) : Obj → Obj
  | .cells _ t frozen => .cells #[.iface 240 (.pointer (some ⟨n, 0, none⟩))] t frozen
  | o => o
noncomputable def laidWorldE (os : Os) : World :=
  { laidWorld os with heap := ((((laidWorld os).heap.modify 2 (errCell (laidWorld os).heap.size)).modify 1 (errCell ((laidWorld os).heap.size + 1))).push (.cells #[.string (⟨#[118, 97, 108, 117, 101, 32, 111, 117, 116, 32, 111, 102, 32, 114, 97, 110, 103, 101]⟩ : ByteArray)] 242)).push (.cells #[.string (⟨#[105, 110, 118, 97, 108, 105, 100, 32, 115, 121, 110, 116, 97, 120]⟩ : ByteArray)] 242) }
theorem errs_of {W : World} {d1 d2 d3 d4 : DataW Unit} {n1 n2 n3 n4 : String} {rest : List (String × DataW Unit)} (h : laidMet Tryz.prog ((n1, d1) :: (n2, d2) :: (n3, d3) :: (n4, d4) :: ("strconv.ErrRange", Rows.laid_strconv_ErrRange) :: ("strconv.ErrSyntax", Rows.laid_strconv_ErrSyntax) :: rest) W) : Errs W ∧ 2 < W.heap.size := by
  have h5 := laidMet.tail (laidMet.tail (laidMet.tail (laidMet.tail h)))
  have h6 := laidMet.tail h5
  obtain ⟨a1, s1, v1, _, _, _⟩ := laid_sentinel (g := 2) (ti := 143) (tp := 240) (te := 242) (ts := 9) h5 (by kernel_rfl) (by kernel_rfl) Tryz.underlying143 errRow Tryz.underlying240 Tryz.underlying242 rfl rfl Tryz.underlying9 (by kernel_rfl) (by kernel_rfl)
  obtain ⟨a2, s2, v2, _, _, _⟩ := laid_sentinel (g := 1) (ti := 143) (tp := 240) (te := 242) (ts := 9) h6 (by kernel_rfl) (by kernel_rfl) Tryz.underlying143 errRow Tryz.underlying240 Tryz.underlying242 rfl rfl Tryz.underlying9 (by kernel_rfl) (by kernel_rfl)
  have c1 := World.var?_cell (g := 2) (by kernel_rfl) v1 0
  have c2 := World.var?_cell (g := 1) (by kernel_rfl) v2 0
  exact ⟨⟨⟨_, c2, .inr ⟨_, _, rfl⟩⟩, _, c1, .inr ⟨_, _, rfl⟩⟩, cell_lt c1⟩
end Go.Proofs.YtocgkpdolgnbgaaGreatDoor
