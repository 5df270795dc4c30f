/- What the rows of this seat ask of the world: the tables, the search's variable. -/
import Derived.Test.YtlkbkclnbppigaaGreatDoorIZ2
import Derived.Test.YtlkbkclnbppigaaGreatDoorCards
import Derived.Test.YtlkbkclnbppigaaGreatDoorTie
import Derived.Test.YtlkbkclnbppigaaGreatDoorIZ16
import Derived.Deep.DeepHandedRow
import Derived.Stop.LaidErr
namespace Go.Proofs.YtlkbkclnbppigaaGreatDoor
open Go.ChangeShapes Go.WideShapes Go.ChangeAt Go.RowKit Go.ChangeMaps
theorem own:ownKnob Tryz.prog.godebug=none:=by kernel_rfl
theorem laidOut:laidOutB Tryz.prog=true:=by kernel_rfl
theorem env_of {W:World} (h:W.ShapedOpen Tryz.prog):Env W :=
 Go.Proofs.cell_of_shapedOpen_int (zero:=#[.int .i64 0]) (t:=3) h (of_decide_eq_true (by kernel_rfl)) (by kernel_rfl) rfl (by kernel_rfl) (by kernel_rfl) Tryz.underlying3
def laidCells (k:IntKind) (l:List Nat):Obj→Obj
 | .cells _ t frozen=>.cells (l.map fun (n:Nat)=>Value.int k (n:Int)).toArray t frozen
 | o=>o
def tabA:List Nat:=[0,1,28,2,29,14,24,3,30,22,20,15,25,17,4,8,31,27,13,23,21,19,16,7,26,12,18,6,11,5,10,9]
def tabB:List Nat:=[0,1,56,2,57,49,28,3,61,58,42,50,38,29,17,4,62,47,59,36,45,43,51,22,53,39,33,30,24,18,12,5,63,55,48,27,60,41,37,16,46,35,44,21,52,32,23,11,54,26,40,15,34,20,31,10,25,14,19,9,13,8,7,6]
def tabC:List Nat:=[1,10,100,1000,10000,100000,1000000,10000000,100000000,1000000000,10000000000,100000000000,1000000000000,10000000000000,100000000000000,1000000000000000,10000000000000000,100000000000000000,1000000000000000000,10000000000000000000]
noncomputable def laidWorld (os:Os):World :=
 { World.holding Tryz.prog os ⟨#[],#[],[]⟩ with heap:=(((((World.holding Tryz.prog os ⟨#[],#[],[]⟩).heap.modify 8 (laidCells .u8 tabA)).modify 9 (laidCells .u8 tabB)).modify 3 (laidCells .u64 tabC)).modify 7 (laidCells .u8 ([128,191,160,191,128,159,144,191,128,143]++List.replicate 22 0))).modify 6 (laidCells .u8 Go.Pinned.utf8FirstZ) }
theorem tab_same:(Rows.laid_internal_strconv_uint64pow10:DataW Unit)=Lib.tabData .u64 Lib.pow10Tab:=by kernel_rfl
theorem tab_of {W:World} {d1 d2:DataW Unit} {n1 n2:String} {rest:List (String × DataW Unit)} (h:laidMet Tryz.prog ((n1,d1) :: (n2,d2) :: ("internal/strconv.uint64pow10", Rows.laid_internal_strconv_uint64pow10) :: rest) W):Tab W:=by
 have h2:=laidMet.tail (laidMet.tail h)
 rw[tab_same]at h2
 exact Lib.tabIs_of_head (g:=3) (by kernel_rfl) (by kernel_rfl) Tryz.underlying314 Tryz.underlying150 (by kernel_rfl) (by kernel_rfl) h2
end Go.Proofs.YtlkbkclnbppigaaGreatDoor
