/- Boxes of a rule, a stamp, a period, whole. -/
import Derived.Test.YtmlhecjhjjlhfaaGreatDoorSZ30
import Derived.Test.YtmlhecjhjjlhfaaGreatDoorSZ4
import Derived.Laws.Tables
import Derived.Test.YtmlhecjhjjlhfaaGreatDoorProg
import Derived.WalkKit
import Derived.WalkSpells
import Derived.WalkLawsBesides
import Derived.Below
import Derived.Deep.QuietTactic
import Derived.BigQuiet
import Derived.Lib.QuietBelow
import Derived.Lib.Strings
import Derived.Lib.Hide
import Derived.Deep.RegionWith
import Derived.Deep.RegionHeld3
import Derived.Lib.IndexBytes
import Derived.Test.YtmlhecjhjjlhfaaGreatDoorSZ13
import Derived.Test.YtmlhecjhjjlhfaaGreatDoorSZ17
import Derived.Test.YtmlhecjhjjlhfaaGreatDoorSZ24
import Derived.Test.YtmlhecjhjjlhfaaGreatDoorSZ15
import Derived.Test.YtmlhecjhjjlhfaaGreatDoorSZ25
import Derived.Test.YtmlhecjhjjlhfaaGreatDoorSZ29
import Derived.Test.YtmlhecjhjjlhfaaGreatDoorSZ18
import Derived.Test.YtmlhecjhjjlhfaaGreatDoorSZ1
import Derived.Test.YtmlhecjhjjlhfaaGreatDoorSZ26
import Derived.Test.YtmlhecjhjjlhfaaGreatDoorSZ3
import Derived.Test.YtmlhecjhjjlhfaaGreatDoorSZ16
import Derived.Test.YtmlhecjhjjlhfaaGreatDoorSZ12
import Derived.Test.YtmlhecjhjjlhfaaGreatDoorSZ7
import Derived.Test.YtmlhecjhjjlhfaaGreatDoorSZ28
namespace Go.Proofs.YtmlhecjhjjlhfaaGreatDoor
open Go.RowKit Go.Sort
set_option linter.unusedVariables false
set_option linter.unusedSimpArgs false
set_option maxRecDepth 100000
theorem infRule : (Tryz.prog.info? 38).map (·.size) = some 18 := by kernel_rfl
def Box1 (W : World) (g : Nat) (t : TypeId) (X : Array Value) : Prop := W.heap[g]? = some (.cells X t (0, 0))
theorem Box1.keep {W W' : World} {g : Nat} {t : TypeId} {X : Array Value} (h : Box1 W g t X) (hb : Below W.heap.size W W') : Box1 W' g t X := by
  unfold Box1 at *
  have hlt : g < W.heap.size := by
    rcases Nat.lt_or_ge g W.heap.size with h' | h'
    · exact h'
    · rw [Array.getElem?_eq_none h'] at h; cases h
  rw [hb.block g hlt]; exact h
theorem Box1.rule {W : World} {g : Nat} {X : Array Value} (h : Box1 W g 38 X) (hs : X.size = 18) : (loadVar 38 ⟨g, 0, none⟩).run Tryz.prog W = .ok (.agg X) W :=
  run_loadVar_row (P := Tryz.prog) W g _ 38 X _ _ h Tryz.underlying38 rfl (by rw [hs]; exact infRule)
theorem Box1.cell {W : World} {g : Nat} {t : TypeId} {X : Array Value} {k : Nat} {v : Value} (h : Box1 W g t X) (hv : X[k]? = some v) : W.cell? ⟨g, k, none⟩ = some v := (cell_of_row W g k X t _ h).trans hv
end Go.Proofs.YtmlhecjhjjlhfaaGreatDoor
namespace Go.Proofs.YtmlhecjhjjlhfaaGreatDoor
open Go.RowKit Go.Sort
set_option linter.unusedVariables false
set_option linter.unusedSimpArgs false
set_option maxRecDepth 100000
structure But (g : Nat) (w w' : World) : Prop where
  os : w'.os = w.os
  tape : w'.tape = w.tape
  output : w'.output = w.output
  size : w.heap.size ≤ w'.heap.size
  block : ∀ k, k < w.heap.size → k ≠ g → w'.heap[k]? = w.heap[k]?
section
variable {g : Nat} {a w w' w'' : World}
theorem But.refl (g : Nat) (w : World) : But g w w := ⟨rfl, rfl, rfl, Nat.le_refl _, fun _ _ _ => rfl⟩
theorem But.trans (h : But g w w') (k : But g w' w'') : But g w w'' :=
  ⟨k.os.trans h.os, k.tape.trans h.tape, k.output.trans h.output, Nat.le_trans h.size k.size, fun i hi hn => (k.block i (Nat.lt_of_lt_of_le hi h.size) hn).trans (h.block i hi hn)⟩
theorem But.of_below (h : Below w.heap.size w w') : But g w w' := ⟨h.os, h.tape, h.output, h.size, fun k hk _ => h.block k hk⟩
theorem But.set (w : World) (g o : Nat) (v : Value) : But g w (w.setCell ⟨g, o, none⟩ v) := ⟨rfl, rfl, rfl, by simp [World.setCell], fun k _ hn => Below.heap_setCell _ _ _ _ hn⟩
theorem But.step (h : But g a w) (o : Nat) (v : Value) : But g a (w.setCell ⟨g, o, none⟩ v) := h.trans (But.set w g o v)
theorem But.drew (h : But g a w) : But g a w.drew := ⟨h.os, h.tape, h.output, h.size, h.block⟩
theorem But.below (h : But g w w') {B : Nat} (hg : B ≤ g) (hB : B ≤ w.heap.size) : Below B w w' := ⟨h.os, h.tape, h.output, h.size, fun k hk => h.block k (by omega) (by omega)⟩
theorem But.blk (h : But g w w') {b : Nat} {t : TypeId} {cs : Array Value} {fr : Nat × Nat} (hx : Blk w b t cs fr) (hn : b ≠ g) : Blk w' b t cs fr := (h.block b (Blk.lt hx) hn).trans hx
theorem But.cell (h : But g w w') {p : Addr} {v : Value} (hc : w.cell? p = some v) (hn : p.block ≠ g) : w'.cell? p = some v := (World.cell?_of_block (h.block _ (cell_lt hc) hn)).trans hc
theorem But.reads (h : But g w w') {A : Option Addr} {n : Nat} {vs : List Value} (hR : Reads w 1 A n vs) (hn : 0 < n → ∀ a, A = some a → a.block ≠ g) : Reads w' 1 A n vs := by
  refine ⟨hR.1, fun h0 => ?_⟩
  obtain ⟨b, o, rfl, hc⟩ := hR.2 h0
  exact ⟨b, o, rfl, fun j u hu => h.cell (hc j u hu) (hn h0 ⟨b, o, none⟩ rfl)⟩
end
theorem Env.but {g : Nat} {w w' : World} (h : Env w) (hb : But g w w') (hg : 2 < g) : Env w' := by
  obtain ⟨m, hm⟩ := h
  exact ⟨m, hb.cell hm (by simp; omega)⟩
theorem strSplit_any (s : ByteArray) (c : UInt8) (w : World) (hs : s.size ≤ 1000000) (hE : Env w) : Calls Tryz.prog 63 #[.string s, .string ⟨#[c]⟩] w fun e w' => e = .returned (.slice (some ⟨w.heap.size, 0, none⟩) (splitB c s).length (splitB c s).length) ∧ Reads w' 1 (some ⟨w.heap.size, 0, none⟩) (splitB c s).length ((splitB c s).map .string) ∧ Below w.heap.size w w' := by
  obtain ⟨m, hm⟩ := hE
  refine (Tryz.strings_Split s ⟨#[c]⟩ m w (by omega) hm (show 1 ≤ 1 from Nat.le_refl _)).mono ?_
  rintro e w' ⟨rfl, rfl⟩
  have he := split_eq c _ s rfl
  have hl := count_split c s
  rw [he, hl]
  refine ⟨rfl, ⟨by simp, fun _ => ⟨w.heap.size, 0, rfl, fun j u hu => ?_⟩⟩, balloc (Below.refl _ _) _⟩
  have hb : Blk (w.alloc (.cells ((splitB c s).map Value.string).toArray 9)) w.heap.size 9 ((splitB c s).map Value.string).toArray (0, 0) := World.alloc_heap_new _ _
  rw [hb.cell]
  simpa using hu
end Go.Proofs.YtmlhecjhjjlhfaaGreatDoor
namespace Go.Proofs.YtmlhecjhjjlhfaaGreatDoor
open Go.RowKit Go.Sort
set_option linter.unusedVariables false
set_option linter.unusedSimpArgs false
set_option maxRecDepth 100000
theorem OwnPost.reads {ps : List ByteArray} {w w' : World} {e : Ending} (h : OwnPost ps w e w') : ∃ A c, e = .returned (.slice A ps.length c) ∧ Reads w' 1 A ps.length (ps.map .string) ∧ Below w.heap.size w w' := by
  obtain ⟨A, c, h1, h2, h3⟩ := h
  exact ⟨A, c, h1, Reads.of_own h2, h3⟩
end Go.Proofs.YtmlhecjhjjlhfaaGreatDoor
namespace Go.Proofs.YtmlhecjhjjlhfaaGreatDoor
open Go.RowKit Go.Sort
set_option linter.unusedVariables false
set_option linter.unusedSimpArgs false
set_option maxRecDepth 100000
def K21 (w : World) (g : Nat) (b : Bool) (e : Int) : Prop := Blk w g 105 #[.bool b, .int .i64 e] (0, 0)
theorem K21.facts {w : World} {g : Nat} {b : Bool} {e : Int} (h : K21 w g b e) : w.cell? ⟨g, 0, none⟩ = some (.bool b) ∧ w.cell? ⟨g, 1, none⟩ = some (.int .i64 e) ∧ w.frozen? ⟨g, 0, none⟩ = false ∧ w.frozen? ⟨g, 1, none⟩ = false ∧ g < w.heap.size :=
  ⟨Blk.cell h 0, Blk.cell h 1, blk_free0 h 0, blk_free0 h 1, Blk.lt h⟩
end Go.Proofs.YtmlhecjhjjlhfaaGreatDoor
namespace Go.Proofs.YtmlhecjhjjlhfaaGreatDoor
open Go.RowKit Go.Sort
set_option linter.unusedVariables false
set_option linter.unusedSimpArgs false
set_option maxRecDepth 100000
set_option maxHeartbeats 4000000 in
theorem permits_any (x : RuleM) (a : AskV) (w : World) (hR : RuleReads w x) (hc : CondFits x.r.allow) (ha : AskFits a) (hE : Env w) :
    Calls Tryz.prog 24 #[x.val, AskV.val a] w (Ret w (.bool (holdsC x.r.allow a))) := by
  have hh := fun W (hb : Below w.heap.size w W) => holds_any x.r.allow x.m a W (hR.allow.keep hb) hc ha (Env.keep hE hb)
  generalize holdsC x.r.allow a = V at *
  rw [RuleM.val_eq]
  unfold CondMem.val AskV.val at *
  have HH := Lib.hid hh
  clear hh hR hc ha hE
  go_enter Tryz.func24, Tryz.ntmps24
  go_wp2_with (go_at_call 52; refine (HH.out _ belB).mono ?_; rintro e w2 ⟨rfl, hb2⟩)
  go_ret
  exact ⟨rfl, belB⟩
end Go.Proofs.YtmlhecjhjjlhfaaGreatDoor
