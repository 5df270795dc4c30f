/- Boxes of a rule, a stamp, a period, whole. -/
import Derived.Test.YtjhlpkhfdghngaaGreatDoorGZ32
import Derived.Test.YtjhlpkhfdghngaaGreatDoorGZ5
import Derived.Test.YtjhlpkhfdghngaaGreatDoorGZ4
import Derived.Laws.Tables
import Derived.Test.YtjhlpkhfdghngaaGreatDoorProg
import Derived.WalkKit
import Derived.WalkSpells
import Derived.WalkLawsBesides
import Derived.Below
import Derived.Deep.QuietTactic
import Derived.BigQuiet
import Derived.Lib.QuietBelow
import Derived.Lib.Strings
import Derived.Lib.Hide
import Derived.Deep.RegionWith
import Derived.Deep.RegionHeld3
import Derived.Lib.IndexBytes
import Derived.Test.YtjhlpkhfdghngaaGreatDoorGZ14
import Derived.Test.YtjhlpkhfdghngaaGreatDoorGZ26
import Derived.Test.YtjhlpkhfdghngaaGreatDoorGZ6
import Derived.Test.YtjhlpkhfdghngaaGreatDoorGZ23
import Derived.Test.YtjhlpkhfdghngaaGreatDoorGZ30
import Derived.KernelRfl
import Derived.Test.YtjhlpkhfdghngaaGreatDoorGZ16
import Derived.Deep.DeepCutAuto
namespace Go.Proofs.YtjhlpkhfdghngaaGreatDoor
open Go.RowKit Go.Sort
set_option linter.unusedVariables false
set_option linter.unusedSimpArgs false
set_option maxRecDepth 100000
theorem infRule : (Tryz.prog.info? 33).map (·.size) = some 18 := by kernel_rfl
def Box1 (W : World) (g : Nat) (t : TypeId) (X : Array Value) : Prop := W.heap[g]? = some (.cells X t (0, 0))
theorem Box1.keep {W W' : World} {g : Nat} {t : TypeId} {X : Array Value} (h : Box1 W g t X) (hb : Below W.heap.size W W') : Box1 W' g t X := by
  unfold Box1 at *
  have hlt : g < W.heap.size := by
    rcases Nat.lt_or_ge g W.heap.size with h' | h'
    · exact h'
    · rw [Array.getElem?_eq_none h'] at h; cases h
  rw [hb.block g hlt]; exact h
theorem Box1.rule {W : World} {g : Nat} {X : Array Value} (h : Box1 W g 33 X) (hs : X.size = 18) : (loadVar 33 ⟨g, 0, none⟩).run Tryz.prog W = .ok (.agg X) W :=
  run_loadVar_row (P := Tryz.prog) W g _ 33 X _ _ h Tryz.underlying33 rfl (by rw [hs]; exact infRule)
theorem Box1.cell {W : World} {g : Nat} {t : TypeId} {X : Array Value} {k : Nat} {v : Value} (h : Box1 W g t X) (hv : X[k]? = some v) : W.cell? ⟨g, k, none⟩ = some v := (cell_of_row W g k X t _ h).trans hv
structure Box3 (w : World) (X Y Z : Array Value) (W : World) : Prop where
  x : Box1 W w.heap.size 33 X
  y : Box1 W (w.heap.size + 1) 82 Y
  z : Box1 W (w.heap.size + 2) 53 Z
  b : Below w.heap.size w W
theorem Box3.keep {w W W' : World} {X Y Z : Array Value} (h : Box3 w X Y Z W) (hb : Below W.heap.size W W') : Box3 w X Y Z W' := ⟨h.x.keep hb, h.y.keep hb, h.z.keep hb, bstep h.b hb⟩
structure Box2 (w : World) (X Y : Array Value) (W : World) : Prop where
  x : Box1 W w.heap.size 33 X
  y : Box1 W (w.heap.size + 1) 82 Y
  b : Below w.heap.size w W
theorem Box2.keep {w W W' : World} {X Y : Array Value} (h : Box2 w X Y W) (hb : Below W.heap.size W W') : Box2 w X Y W' := ⟨h.x.keep hb, h.y.keep hb, bstep h.b hb⟩
end Go.Proofs.YtjhlpkhfdghngaaGreatDoor
namespace Go.Proofs.YtjhlpkhfdghngaaGreatDoor
open Go.RowKit Go.Sort
set_option linter.unusedVariables false
set_option linter.unusedSimpArgs false
set_option maxRecDepth 100000
structure But (g : Nat) (w w' : World) : Prop where
  os : w'.os = w.os
  tape : w'.tape = w.tape
  output : w'.output = w.output
  size : w.heap.size ≤ w'.heap.size
  block : ∀ k, k < w.heap.size → k ≠ g → w'.heap[k]? = w.heap[k]?
section
variable {g : Nat} {a w w' w'' : World}
theorem But.refl (g : Nat) (w : World) : But g w w := ⟨rfl, rfl, rfl, Nat.le_refl _, fun _ _ _ => rfl⟩
theorem But.trans (h : But g w w') (k : But g w' w'') : But g w w'' :=
  ⟨k.os.trans h.os, k.tape.trans h.tape, k.output.trans h.output, Nat.le_trans h.size k.size, fun i hi hn => (k.block i (Nat.lt_of_lt_of_le hi h.size) hn).trans (h.block i hi hn)⟩
theorem But.of_below (h : Below w.heap.size w w') : But g w w' := ⟨h.os, h.tape, h.output, h.size, fun k hk _ => h.block k hk⟩
theorem But.set (w : World) (g o : Nat) (v : Value) : But g w (w.setCell ⟨g, o, none⟩ v) := ⟨rfl, rfl, rfl, by simp [World.setCell], fun k _ hn => Below.heap_setCell _ _ _ _ hn⟩
theorem But.step (h : But g a w) (o : Nat) (v : Value) : But g a (w.setCell ⟨g, o, none⟩ v) := h.trans (But.set w g o v)
theorem But.drew (h : But g a w) : But g a w.drew := ⟨h.os, h.tape, h.output, h.size, h.block⟩
theorem But.below (h : But g w w') {B : Nat} (hg : B ≤ g) (hB : B ≤ w.heap.size) : Below B w w' := ⟨h.os, h.tape, h.output, h.size, fun k hk => h.block k (by omega) (by omega)⟩
theorem But.blk (h : But g w w') {b : Nat} {t : TypeId} {cs : Array Value} {fr : Nat × Nat} (hx : Blk w b t cs fr) (hn : b ≠ g) : Blk w' b t cs fr := (h.block b (Blk.lt hx) hn).trans hx
theorem But.cell (h : But g w w') {p : Addr} {v : Value} (hc : w.cell? p = some v) (hn : p.block ≠ g) : w'.cell? p = some v := (World.cell?_of_block (h.block _ (cell_lt hc) hn)).trans hc
theorem But.reads (h : But g w w') {A : Option Addr} {n : Nat} {vs : List Value} (hR : Reads w 1 A n vs) (hn : 0 < n → ∀ a, A = some a → a.block ≠ g) : Reads w' 1 A n vs := by
  refine ⟨hR.1, fun h0 => ?_⟩
  obtain ⟨b, o, rfl, hc⟩ := hR.2 h0
  exact ⟨b, o, rfl, fun j u hu => h.cell (hc j u hu) (hn h0 ⟨b, o, none⟩ rfl)⟩
end
theorem Env.but {g : Nat} {w w' : World} (h : Env w) (hb : But g w w') (hg : 2 < g) : Env w' := by
  obtain ⟨m, hm⟩ := h
  exact ⟨m, hb.cell hm (by simp; omega)⟩
theorem strSplit_any (s : ByteArray) (c : UInt8) (w : World) (hs : s.size ≤ 1000000) (hE : Env w) : Calls Tryz.prog 138 #[.string s, .string ⟨#[c]⟩] w fun e w' => e = .returned (.slice (some ⟨w.heap.size, 0, none⟩) (splitB c s).length (splitB c s).length) ∧ Reads w' 1 (some ⟨w.heap.size, 0, none⟩) (splitB c s).length ((splitB c s).map .string) ∧ Below w.heap.size w w' := by
  obtain ⟨m, hm⟩ := hE
  refine (Tryz.strings_Split s ⟨#[c]⟩ m w (by omega) hm (show 1 ≤ 1 from Nat.le_refl _)).mono ?_
  rintro e w' ⟨rfl, rfl⟩
  have he := split_eq c _ s rfl
  have hl := count_split c s
  rw [he, hl]
  refine ⟨rfl, ⟨by simp, fun _ => ⟨w.heap.size, 0, rfl, fun j u hu => ?_⟩⟩, balloc (Below.refl _ _) _⟩
  have hb : Blk (w.alloc (.cells ((splitB c s).map Value.string).toArray 9)) w.heap.size 9 ((splitB c s).map Value.string).toArray (0, 0) := World.alloc_heap_new _ _
  rw [hb.cell]
  simpa using hu
end Go.Proofs.YtjhlpkhfdghngaaGreatDoor
namespace Go.Proofs.YtjhlpkhfdghngaaGreatDoor
open Go.RowKit Go.Sort
set_option linter.unusedVariables false
set_option linter.unusedSimpArgs false
set_option maxRecDepth 100000
theorem CBox.s0 {w : World} {g : Nat} {fr till us : Int} {pat : ByteArray} {A B S : Option Addr} {na ca nb cb ns cs : Nat} (h : CBox w g fr till pat A na ca B nb cb S ns cs us) (fr' : Int) : CBox (w.setCell ⟨g, 0, none⟩ (.int .i64 fr')) g fr' till pat A na ca B nb cb S ns cs us := Blk.set_ h 0 (.int .i64 fr')
theorem CBox.s1 {w : World} {g : Nat} {fr till us : Int} {pat : ByteArray} {A B S : Option Addr} {na ca nb cb ns cs : Nat} (h : CBox w g fr till pat A na ca B nb cb S ns cs us) (till' : Int) : CBox (w.setCell ⟨g, 1, none⟩ (.int .i64 till')) g fr till' pat A na ca B nb cb S ns cs us := Blk.set_ h 1 (.int .i64 till')
theorem CBox.s2 {w : World} {g : Nat} {fr till us : Int} {pat : ByteArray} {A B S : Option Addr} {na ca nb cb ns cs : Nat} (h : CBox w g fr till pat A na ca B nb cb S ns cs us) (pat' : ByteArray) : CBox (w.setCell ⟨g, 2, none⟩ (.string pat')) g fr till pat' A na ca B nb cb S ns cs us := Blk.set_ h 2 (.string pat')
theorem CBox.s3 {w : World} {g : Nat} {fr till us : Int} {pat : ByteArray} {A B S : Option Addr} {na ca nb cb ns cs : Nat} (h : CBox w g fr till pat A na ca B nb cb S ns cs us) (A' : Option Addr) (na' ca' : Nat) : CBox (w.setCell ⟨g, 3, none⟩ (.slice A' na' ca')) g fr till pat A' na' ca' B nb cb S ns cs us := Blk.set_ h 3 (.slice A' na' ca')
theorem CBox.s4 {w : World} {g : Nat} {fr till us : Int} {pat : ByteArray} {A B S : Option Addr} {na ca nb cb ns cs : Nat} (h : CBox w g fr till pat A na ca B nb cb S ns cs us) (B' : Option Addr) (nb' cb' : Nat) : CBox (w.setCell ⟨g, 4, none⟩ (.slice B' nb' cb')) g fr till pat A na ca B' nb' cb' S ns cs us := Blk.set_ h 4 (.slice B' nb' cb')
theorem CBox.s5 {w : World} {g : Nat} {fr till us : Int} {pat : ByteArray} {A B S : Option Addr} {na ca nb cb ns cs : Nat} (h : CBox w g fr till pat A na ca B nb cb S ns cs us) (S' : Option Addr) (ns' cs' : Nat) : CBox (w.setCell ⟨g, 5, none⟩ (.slice S' ns' cs')) g fr till pat A na ca B nb cb S' ns' cs' us := Blk.set_ h 5 (.slice S' ns' cs')
theorem CBox.s6 {w : World} {g : Nat} {fr till us : Int} {pat : ByteArray} {A B S : Option Addr} {na ca nb cb ns cs : Nat} (h : CBox w g fr till pat A na ca B nb cb S ns cs us) (us' : Int) : CBox (w.setCell ⟨g, 6, none⟩ (.int .i64 us')) g fr till pat A na ca B nb cb S ns cs us' := Blk.set_ h 6 (.int .i64 us')
theorem CBox.put {w : World} {g : Nat} {fr till us : Int} {pat : ByteArray} {A B S : Option Addr} {na ca nb cb ns cs : Nat} (h : CBox w g fr till pat A na ca B nb cb S ns cs us) (fr' till' : Int) (pat' : ByteArray) (A' : Option Addr) (na' ca' : Nat) (B' : Option Addr) (nb' cb' : Nat) (S' : Option Addr) (ns' cs' : Nat) (us' : Int) :
    CBox (((((((w.setCell ⟨g, 0, none⟩ (.int .i64 fr')).setCell ⟨g, 1, none⟩ (.int .i64 till')).setCell ⟨g, 2, none⟩ (.string pat')).setCell ⟨g, 3, none⟩ (.slice A' na' ca')).setCell ⟨g, 4, none⟩ (.slice B' nb' cb')).setCell ⟨g, 5, none⟩ (.slice S' ns' cs')).setCell ⟨g, 6, none⟩ (.int .i64 us')) g fr' till' pat' A' na' ca' B' nb' cb' S' ns' cs' us' :=
  ((((((h.s0 fr').s1 till').s2 pat').s3 A' na' ca').s4 B' nb' cb').s5 S' ns' cs').s6 us'
end Go.Proofs.YtjhlpkhfdghngaaGreatDoor
namespace Go.Proofs.YtjhlpkhfdghngaaGreatDoor
open Go.RowKit Go.Sort
set_option linter.unusedVariables false
set_option linter.unusedSimpArgs false
set_option maxRecDepth 100000
def OkBox (w : World) (g : Nat) (b0 b1 b2 b3 : Bool) : Prop := Blk w g 4 #[.bool b0, .bool b1, .bool b2, .bool b3] (0, 0)
theorem OkBox.facts {w : World} {g : Nat} {b0 b1 b2 b3 : Bool} (h : OkBox w g b0 b1 b2 b3) : w.cell? ⟨g, 0, none⟩ = some (.bool b0) ∧ w.cell? ⟨g, 1, none⟩ = some (.bool b1) ∧ w.cell? ⟨g, 2, none⟩ = some (.bool b2) ∧ w.cell? ⟨g, 3, none⟩ = some (.bool b3) := ⟨Blk.cell h 0, Blk.cell h 1, Blk.cell h 2, Blk.cell h 3⟩
theorem OkBox.s0 {w : World} {g : Nat} {b0 b1 b2 b3 : Bool} (h : OkBox w g b0 b1 b2 b3) (b : Bool) : OkBox (w.setCell ⟨g, 0, none⟩ (.bool b)) g b b1 b2 b3 := Blk.set_ h 0 (.bool b)
theorem OkBox.s1 {w : World} {g : Nat} {b0 b1 b2 b3 : Bool} (h : OkBox w g b0 b1 b2 b3) (b : Bool) : OkBox (w.setCell ⟨g, 1, none⟩ (.bool b)) g b0 b b2 b3 := Blk.set_ h 1 (.bool b)
theorem OkBox.s2 {w : World} {g : Nat} {b0 b1 b2 b3 : Bool} (h : OkBox w g b0 b1 b2 b3) (b : Bool) : OkBox (w.setCell ⟨g, 2, none⟩ (.bool b)) g b0 b1 b b3 := Blk.set_ h 2 (.bool b)
theorem OkBox.s3 {w : World} {g : Nat} {b0 b1 b2 b3 : Bool} (h : OkBox w g b0 b1 b2 b3) (b : Bool) : OkBox (w.setCell ⟨g, 3, none⟩ (.bool b)) g b0 b1 b2 b := Blk.set_ h 3 (.bool b)
end Go.Proofs.YtjhlpkhfdghngaaGreatDoor
namespace Go.Proofs.YtjhlpkhfdghngaaGreatDoor
open Go.RowKit Go.Sort
set_option linter.unusedVariables false
set_option linter.unusedSimpArgs false
set_option maxRecDepth 100000
def cIn (l : List Int) : CondV := ⟨0, 1099511627777, ⟨#[]⟩, [], [], l, 0⟩
def cCo (l : List ByteArray) : CondV := ⟨0, 1099511627777, ⟨#[]⟩, [], l, [], 0⟩
def cA : CondV := ⟨0, 1099511627777, (⟨#[97, 99, 109, 101, 47, 42, 42]⟩ : ByteArray), [], [], [1, 2], 0⟩
def cT (a b : Int) : CondV := ⟨a, b, ⟨#[]⟩, [], [], [], 0⟩
theorem e1 : validC cA = true := by kernel_rfl
theorem e2 : validC (cIn [1, 2]) = true := by kernel_rfl
theorem e3 : validC (cIn [2, 3]) = true := by kernel_rfl
theorem e4 : validC (cIn [3]) = true := by kernel_rfl
theorem e5 : validC (cCo [(⟨#[100, 101]⟩ : ByteArray), (⟨#[102, 114]⟩ : ByteArray)]) = true := by kernel_rfl
theorem e6 : validC (cCo [(⟨#[100, 101]⟩ : ByteArray)]) = true := by kernel_rfl
theorem v1 : textC cA = (⟨#[48, 32, 49, 48, 57, 57, 53, 49, 49, 54, 50, 55, 55, 55, 55, 32, 97, 99, 109, 101, 47, 42, 42, 32, 126, 32, 126, 32, 49, 44, 50, 32, 48]⟩ : ByteArray) := by kernel_rfl
theorem v2 : meetC (cIn [1, 2]) (cIn [2, 3]) = cIn [2] := by kernel_rfl
theorem v3 : meetC (cIn [1, 2]) (cIn [3]) = zeroC := by kernel_rfl
theorem v4 : impR (cCo [(⟨#[100, 101]⟩ : ByteArray), (⟨#[102, 114]⟩ : ByteArray)]) (cCo [(⟨#[100, 101]⟩ : ByteArray)]) = (false, ⟨(⟨#[97]⟩ : ByteArray), (⟨#[97]⟩ : ByteArray), (⟨#[102, 114]⟩ : ByteArray), 0, 0, 0⟩) := by kernel_rfl
theorem v5 : impR (cIn []) (cIn allSites) = (true, noAsk) := by kernel_rfl
theorem v6 : emptyR (cT 5 5) = (true, noAsk, 0) := by kernel_rfl
theorem v7 : emptyR (cT 5 6) = (false, ⟨(⟨#[97]⟩ : ByteArray), (⟨#[97]⟩ : ByteArray), (⟨#[97, 97]⟩ : ByteArray), 0, 5, 5⟩, 0) := by kernel_rfl
end Go.Proofs.YtjhlpkhfdghngaaGreatDoor
namespace Go.Proofs.YtjhlpkhfdghngaaGreatDoor
open Go.RowKit Go.Sort
set_option linter.unusedVariables false
set_option linter.unusedSimpArgs false
set_option maxRecDepth 100000
theorem pathL_le2 (B : Nat) : ∀ l : List (List UInt8), (∀ p ∈ l, p.length ≤ B) → (pathL l).length ≤ l.length * (B + 1)
  | [], _ => by simp [pathL]
  | p :: l, h => by
    have h1 := h p (by simp)
    have h2 := pathL_le2 B l (fun q hq => h q (by simp [hq]))
    simp only [pathL, List.flatMap_cons, List.length_append, List.length_cons, Nat.succ_mul] at h2 ⊢
    omega
theorem str_size2 {p : Part} (h : PartFit p) : (stringP p.kind p.text).size ≤ 66 := by
  have e := str_data p.kind p.text
  rw [size_data, e]
  rcases h with ⟨hk, hw⟩ | ⟨hk, s, hs, hs2, ht⟩ | ⟨hk, ht⟩
  · have := (word_ne hw).2.2.2
    rw [size_data] at this
    rw [if_pos hk]; omega
  · rw [if_neg (by omega), ht]
    rw [size_data] at hs2
    simp only [List.length_cons]; omega
  · rw [if_neg (by omega), ht]
    decide
theorem patS_size2 {z : Pat} (h : PatFit z) : (patS z).size ≤ 10000 := by
  rw [patS_eq, size_data, join_data]
  have h1 := str_size2 h.cust.part
  rw [size_data] at h1
  have h2 := pathL_le2 66 (lists (strL z.parts ++ tailL z.tail)) (by
    intro p hp
    obtain ⟨x, hx, rfl⟩ := List.mem_map.1 hp
    rw [← size_data]
    rcases List.mem_append.1 hx with hx | hx
    · obtain ⟨y, hy, rfl⟩ := List.mem_map.1 hx
      exact str_size2 (h.parts y hy)
    · unfold tailL at hx
      split at hx
      · rw [List.mem_singleton.1 hx]; decide
      · cases hx)
  have h3 := h.num
  have h4 : (lists (strL z.parts ++ tailL z.tail)).length ≤ 33 := by
    unfold lists strL tailL
    rw [List.length_map, List.length_append, List.length_map]
    split <;> simp <;> omega
  rw [List.length_append]
  have := Nat.mul_le_mul_right 67 h4
  omega
def fewV (c : CondV) : Bool := fewC c.cl.length c.co.length c.si.length c.pat c.cl c.co
theorem few_fits {c : CondV} (h : fewV c = true) : CondFits c := by
  unfold fewV fewC at h
  simp only [Bool.and_eq_true, decide_eq_true_eq, List.all_eq_true] at h
  obtain ⟨⟨⟨⟨⟨h1, h2⟩, h3⟩, h4⟩, h5⟩, h6⟩ := h
  exact ⟨by omega, fun x hx => by have := h5 x hx; omega, fun x hx => by have := h6 x hx; omega, by omega, by omega, by omega⟩
def VBox (w : World) (g : Nat) (c : CondV) (m : CondMem) : Prop := CBox w g c.fr c.till c.pat m.A c.cl.length m.ca m.B c.co.length m.cb m.S c.si.length m.cs c.us
end Go.Proofs.YtjhlpkhfdghngaaGreatDoor
