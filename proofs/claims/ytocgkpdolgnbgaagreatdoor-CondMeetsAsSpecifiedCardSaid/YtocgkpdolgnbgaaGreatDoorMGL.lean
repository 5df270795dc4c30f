/- The condition package's reader: what next, number and list do. -/
import Derived.Test.YtocgkpdolgnbgaaGreatDoorMJB
import Derived.Test.YtocgkpdolgnbgaaGreatDoorMPlainX
import Derived.Lib.AtoiTie
import Derived.Lib.AtoiAllCases
import Derived.Test.YtocgkpdolgnbgaaGreatDoorProg
import Derived.WalkKit
import Derived.WalkSpells
import Derived.WalkLawsBesides
import Derived.Below
import Derived.Deep.QuietTactic
import Derived.BigQuiet
import Derived.Lib.QuietBelow
import Derived.Lib.Strings
import Derived.Lib.Hide
import Derived.Deep.RegionWith
import Derived.Deep.RegionHeld3
import Derived.Lib.IndexBytes
import Derived.Test.YtocgkpdolgnbgaaGreatDoorMGB
namespace Go.Proofs.YtocgkpdolgnbgaaGreatDoor
open Go.RowKit Go.Sort
set_option linter.unusedVariables false
set_option linter.unusedSimpArgs false
set_option maxRecDepth 100000
structure But (g : Nat) (w w' : World) : Prop where
  os : w'.os = w.os
  tape : w'.tape = w.tape
  output : w'.output = w.output
  size : w.heap.size ≤ w'.heap.size
  block : ∀ k, k < w.heap.size → k ≠ g → w'.heap[k]? = w.heap[k]?
section
variable {g : Nat} {a w w' w'' : World}
theorem But.refl (g : Nat) (w : World) : But g w w := ⟨rfl, rfl, rfl, Nat.le_refl _, fun _ _ _ => rfl⟩
theorem But.trans (h : But g w w') (k : But g w' w'') : But g w w'' :=
  ⟨k.os.trans h.os, k.tape.trans h.tape, k.output.trans h.output, Nat.le_trans h.size k.size, fun i hi hn => (k.block i (Nat.lt_of_lt_of_le hi h.size) hn).trans (h.block i hi hn)⟩
theorem But.of_below (h : Below w.heap.size w w') : But g w w' := ⟨h.os, h.tape, h.output, h.size, fun k hk _ => h.block k hk⟩
theorem But.set (w : World) (g o : Nat) (v : Value) : But g w (w.setCell ⟨g, o, none⟩ v) := ⟨rfl, rfl, rfl, by simp [World.setCell], fun k _ hn => Below.heap_setCell _ _ _ _ hn⟩
theorem But.step (h : But g a w) (o : Nat) (v : Value) : But g a (w.setCell ⟨g, o, none⟩ v) := h.trans (But.set w g o v)
theorem But.drew (h : But g a w) : But g a w.drew := ⟨h.os, h.tape, h.output, h.size, h.block⟩
theorem But.below (h : But g w w') {B : Nat} (hg : B ≤ g) (hB : B ≤ w.heap.size) : Below B w w' := ⟨h.os, h.tape, h.output, h.size, fun k hk => h.block k (by omega) (by omega)⟩
theorem But.blk (h : But g w w') {b : Nat} {t : TypeId} {cs : Array Value} {fr : Nat × Nat} (hx : Blk w b t cs fr) (hn : b ≠ g) : Blk w' b t cs fr := (h.block b (Blk.lt hx) hn).trans hx
theorem But.cell (h : But g w w') {p : Addr} {v : Value} (hc : w.cell? p = some v) (hn : p.block ≠ g) : w'.cell? p = some v := (World.cell?_of_block (h.block _ (cell_lt hc) hn)).trans hc
theorem But.reads (h : But g w w') {A : Option Addr} {n : Nat} {vs : List Value} (hR : Reads w 1 A n vs) (hn : 0 < n → ∀ a, A = some a → a.block ≠ g) : Reads w' 1 A n vs := by
  refine ⟨hR.1, fun h0 => ?_⟩
  obtain ⟨b, o, rfl, hc⟩ := hR.2 h0
  exact ⟨b, o, rfl, fun j u hu => h.cell (hc j u hu) (hn h0 ⟨b, o, none⟩ rfl)⟩
end
def Errs (w : World) : Prop := (∃ ev, w.cell? ⟨1, 0, none⟩ = some ev ∧ (ev = .nilIface ∨ ∃ te pe, ev = .iface te pe)) ∧ (∃ ev, w.cell? ⟨2, 0, none⟩ = some ev ∧ (ev = .nilIface ∨ ∃ te pe, ev = .iface te pe))
theorem Errs.keep {w w' : World} (h : Errs w) (hb : Below w.heap.size w w') : Errs w' := by
  obtain ⟨⟨e1, h1, k1⟩, e2, h2, k2⟩ := h
  exact ⟨⟨e1, cell_keep hb h1, k1⟩, e2, cell_keep hb h2, k2⟩
theorem Errs.but {g : Nat} {w w' : World} (h : Errs w) (hb : But g w w') (hg : 2 < g) : Errs w' := by
  obtain ⟨⟨e1, h1, k1⟩, e2, h2, k2⟩ := h
  exact ⟨⟨e1, hb.cell h1 (by simp; omega), k1⟩, e2, hb.cell h2 (by simp; omega), k2⟩
theorem Env.but {g : Nat} {w w' : World} (h : Env w) (hb : But g w w') (hg : 2 < g) : Env w' := by
  obtain ⟨m, hm⟩ := h
  exact ⟨m, hb.cell hm (by simp; omega)⟩
def RB (w : World) (g : Nat) (A : Option Addr) (n c : Nat) (b : Bool) : Prop := Blk w g 94 #[.slice A n c, .bool b] (0, 0)
theorem RB.facts {w : World} {g : Nat} {A : Option Addr} {n c : Nat} {b : Bool} (h : RB w g A n c b) : w.cell? ⟨g, 0, none⟩ = some (.slice A n c) ∧ w.cell? ⟨g, 1, none⟩ = some (.bool b) ∧ w.frozen? ⟨g, 0, none⟩ = false ∧ w.frozen? ⟨g, 1, none⟩ = false ∧ g < w.heap.size :=
  ⟨Blk.cell h 0, Blk.cell h 1, Blk.free0 h 0, Blk.free0 h 1, Blk.lt h⟩
theorem RB.set1 {w : World} {g : Nat} {A : Option Addr} {n c : Nat} {b : Bool} (h : RB w g A n c b) (b' : Bool) : RB (w.setCell ⟨g, 1, none⟩ (.bool b')) g A n c b' := Blk.set_ h 1 _
theorem RB.set0 {w : World} {g : Nat} {A : Option Addr} {n c : Nat} {b : Bool} (h : RB w g A n c b) (A' : Option Addr) (n' c' : Nat) : RB (w.setCell ⟨g, 0, none⟩ (.slice A' n' c')) g A' n' c' b := Blk.set_ h 0 _
def RS (w : World) (g : Nat) (l : List ByteArray) (b : Bool) : Prop := ∃ A n c, RB w g A n c b ∧ Reads w 1 A n (l.map .string) ∧ (n ≤ 1000001 ∧ n ≤ c) ∧ (0 < n → ∀ a, A = some a → a.block < g)
theorem RS.keep {w w' : World} {g : Nat} {l : List ByteArray} {b : Bool} (h : RS w g l b) (hb : Below w.heap.size w w') : RS w' g l b := by
  obtain ⟨A, n, c, h1, h2, h3, h4⟩ := h
  exact ⟨A, n, c, Blk.keep h1 hb, h2.keep hb, h3, h4⟩
theorem RS.lt {w : World} {g : Nat} {l : List ByteArray} {b : Bool} (h : RS w g l b) : g < w.heap.size := by
  obtain ⟨A, n, c, h1, _⟩ := h
  exact Blk.lt h1
end Go.Proofs.YtocgkpdolgnbgaaGreatDoor
namespace Go.Proofs.YtocgkpdolgnbgaaGreatDoor
open Go.RowKit Go.Sort
set_option linter.unusedVariables false
set_option linter.unusedSimpArgs false
set_option maxRecDepth 100000
structure PS (w W : World) (nb g : Nat) (L : List ByteArray) (k : Nat) (b : Bool) : Prop where
  res : CBox W w.heap.size 0 0 ⟨#[]⟩ none 0 0 none 0 0 none 0 0 0
  num : Blk W nb 95 #[.func (.func 61) #[.pointer (some ⟨g, 0, none⟩)] #[]] (0, 0)
  rs : RS W g (L.drop k) b
  below : Below w.heap.size w W
  lo : w.heap.size < g
  lo2 : g < nb
  env : Env W
  errs : Errs W
  two : 2 < w.heap.size
theorem PS.step {w W W' : World} {nb g k k' : Nat} {L : List ByteArray} {b b' : Bool} (h : PS w W nb g L k b) (hr : RS W' g (L.drop k') b') (hb : But g W W') : PS w W' nb g L k' b' :=
  ⟨hb.blk h.res (by have := h.lo; omega), hb.blk h.num (by have := h.lo2; omega), hr, h.below.trans (hb.below (by have := h.lo; omega) h.below.size), h.lo, h.lo2, h.env.but hb (by have := h.lo; have := h.two; omega), h.errs.but hb (by have := h.lo; have := h.two; omega), h.two⟩
theorem PS.keep {w W W' : World} {nb g k : Nat} {L : List ByteArray} {b : Bool} (h : PS w W nb g L k b) (hb : Below W.heap.size W W') : PS w W' nb g L k b :=
  h.step (h.rs.keep hb) (But.of_below hb)
theorem RS.but {w w' : World} {g c : Nat} {l : List ByteArray} {b : Bool} (h : RS w g l b) (hb : But c w w') (hc : g < c) : RS w' g l b := by
  obtain ⟨A, n, cp, h1, h2, h3, h4⟩ := h
  exact ⟨A, n, cp, hb.blk h1 (by omega), hb.reads h2 (fun h0 a ha => by have := h4 h0 a ha; omega), h3, h4⟩
theorem PS.far {w W W' : World} {nb g k c : Nat} {L : List ByteArray} {b : Bool} (h : PS w W nb g L k b) (hb : But c W W') (hc : nb < c) : PS w W' nb g L k b :=
  have h1 := h.lo; have h2 := h.lo2; have h3 := h.two
  ⟨hb.blk h.res (by omega), hb.blk h.num (by omega), h.rs.but hb (by omega), h.below.trans (hb.below (by omega) h.below.size), h1, h2, h.env.but hb (by omega), h.errs.but hb (by omega), h3⟩
theorem PS.n0 {w W : World} {nb g k : Nat} {L : List ByteArray} {b : Bool} (h : PS w W nb g L k b) : W.cell? ⟨nb, 0, none⟩ = some (.func (.func 61) #[.pointer (some ⟨g, 0, none⟩)] #[]) := Blk.cell h.num 0
theorem put_but {w : World} {g : Nat} {v0 v1 v2 v3 v4 v5 v6 : Value} : But g w (((((((w.setCell ⟨g, 0, none⟩ v0).setCell ⟨g, 1, none⟩ v1).setCell ⟨g, 2, none⟩ v2).setCell ⟨g, 3, none⟩ v3).setCell ⟨g, 4, none⟩ v4).setCell ⟨g, 5, none⟩ v5).setCell ⟨g, 6, none⟩ v6) :=
  ((((((But.set w g 0 _).step 1 _).step 2 _).step 3 _).step 4 _).step 5 _).step 6 _
section
variable {W W' : World} {row : Option Nat}
end
end Go.Proofs.YtocgkpdolgnbgaaGreatDoor
