/- The digest of a policy: policy.Name. -/
import Derived.Test.YtjhlpkhfdghngaaGreatDoorGZ33
import Derived.Test.YtjhlpkhfdghngaaGreatDoorGZ1
import Derived.Laws.Rows
import Derived.Laws.Tables
import Derived.Laws.CopyOwn
import Derived.Test.YtjhlpkhfdghngaaGreatDoorProg
import Derived.WalkKit
import Derived.WalkSpells
import Derived.WalkLawsBesides
import Derived.Below
import Derived.Deep.QuietTactic
import Derived.BigQuiet
import Derived.Lib.QuietBelow
import Derived.Lib.Strings
import Derived.Lib.Hide
import Derived.Deep.RegionWith
import Derived.Deep.RegionHeld3
import Derived.Lib.IndexBytes
import Derived.Test.YtjhlpkhfdghngaaGreatDoorGZ4
import Derived.OwnWalk
import Derived.Maps.AppendAt
import Derived.Test.YtjhlpkhfdghngaaGreatDoorGZ17
import Derived.Test.YtjhlpkhfdghngaaGreatDoorGZ19
import Derived.Test.YtjhlpkhfdghngaaGreatDoorGZ36
import Derived.Test.YtjhlpkhfdghngaaGreatDoorGZ37
import Derived.Test.YtjhlpkhfdghngaaGreatDoorGZ8
import Derived.Test.YtjhlpkhfdghngaaGreatDoorGZ2
import Derived.Test.YtjhlpkhfdghngaaGreatDoorGZ21
import Derived.Test.YtjhlpkhfdghngaaGreatDoorGZ11
import Derived.Test.YtjhlpkhfdghngaaGreatDoorGZ34
import Derived.Laws.OwnMore
import Derived.Deep.DeepCutAuto
import Derived.Test.YtjhlpkhfdghngaaGreatDoorGZ10
import Derived.Test.YtjhlpkhfdghngaaGreatDoorGZ32
import Derived.Test.YtjhlpkhfdghngaaGreatDoorGZ35
import Derived.Test.YtjhlpkhfdghngaaGreatDoorGZ25
import Derived.Test.YtjhlpkhfdghngaaGreatDoorGZ31
import Derived.Test.YtjhlpkhfdghngaaGreatDoorGZ14
import Derived.Test.YtjhlpkhfdghngaaGreatDoorGZ24
import Derived.Test.YtjhlpkhfdghngaaGreatDoorGZ18
import Derived.Test.YtjhlpkhfdghngaaGreatDoorGZ16
import Derived.Test.YtjhlpkhfdghngaaGreatDoorGZ7
import Derived.Test.YtjhlpkhfdghngaaGreatDoorGZ26
import Derived.Test.YtjhlpkhfdghngaaGreatDoorGZ30
import Derived.Test.YtjhlpkhfdghngaaGreatDoorGZ28
namespace Go.Proofs.YtjhlpkhfdghngaaGreatDoor
open Go.RowKit Go.Sort
set_option linter.unusedVariables false
set_option linter.unusedSimpArgs false
set_option maxRecDepth 100000
structure NSt (w : World) (PL ZD : Array Value) (W : World) : Prop where
  p : Box1 W w.heap.size 24 PL
  z : Box1 W (w.heap.size + 1) 38 ZD
  b : Below w.heap.size w W
  s : w.heap.size + 1 < W.heap.size
theorem NSt.keep {w W W' : World} {PL ZD : Array Value} (h : NSt w PL ZD W) (hb : Below W.heap.size W W') : NSt w PL ZD W' := ⟨h.p.keep hb, h.z.keep hb, bstep h.b hb, Nat.lt_of_lt_of_le h.s hb.size⟩
structure R9S (g : Nat) (X : Array Value) (w0 : World) (W : World) : Prop where
  x : Box1 W g 33 X
  b : Below w0.heap.size w0 W
theorem R9S.keep {g : Nat} {X : Array Value} {w0 W W' : World} (h : R9S g X w0 W) (hb : Below W.heap.size W W') : R9S g X w0 W' := ⟨h.x.keep hb, bstep h.b hb⟩
structure R13S (g : Nat) (Y : Array Value) (w0 : World) (W : World) : Prop where
  x : Box1 W g 99 Y
  b : Below w0.heap.size w0 W
theorem R13S.keep {g : Nat} {Y : Array Value} {w0 W W' : World} (h : R13S g Y w0 W) (hb : Below W.heap.size W W') : R13S g Y w0 W' := ⟨h.x.keep hb, bstep h.b hb⟩
end Go.Proofs.YtjhlpkhfdghngaaGreatDoor
namespace Go.Proofs.YtjhlpkhfdghngaaGreatDoor
open Go.RowKit Go.Sort
set_option linter.unusedVariables false
set_option linter.unusedSimpArgs false
set_option maxRecDepth 100000
def openC : CondV := ⟨0, 1099511627777, ⟨#[]⟩, [], [], [], 0⟩
def rOne (sg : Bool) : RuleV := ⟨(⟨#[114, 49]⟩ : ByteArray), (⟨#[97, 99, 109, 101, 47, 110, 101, 119, 115, 47, 42, 42]⟩ : ByteArray), [(⟨#[104, 111, 116]⟩ : ByteArray)], 10, 0, 0, 0, [], openC, sg, 0, ⟨#[]⟩⟩
def rTwo (sg : Bool) : RuleV := ⟨(⟨#[114, 50]⟩ : ByteArray), (⟨#[97, 99, 109, 101, 47, 42, 42]⟩ : ByteArray), [], 100, 50, 1000, 5, [], openC, sg, 0, ⟨#[]⟩⟩
def mOne (T : Nat) (sg : Bool) : RuleM := ⟨rOne sg, some ⟨T, 0, none⟩, 1, none, 0, [], ⟨none, 0, none, 0, none, 0⟩⟩
def mTwo (sg : Bool) : RuleM := ⟨rTwo sg, none, 0, none, 0, [], ⟨none, 0, none, 0, none, 0⟩⟩
theorem ex_reads {W : World} {g T : Nat} {sg : Bool} (hr : RowV W g 33 (exOne T false ++ exTwo sg)) (ht : RowV W T 9 [.string (⟨#[104, 111, 116]⟩ : ByteArray)]) : RulesRead W (some ⟨g, 0, none⟩) 2 [mOne T false, mTwo sg] := by
  refine ⟨rfl, ⟨rfl, fun _ => ⟨g, 0, rfl, fun j u hu => ?_⟩⟩, ?_⟩
  · rw [Nat.zero_add]
    exact RowV.cell hr hu
  · intro x hx
    simp only [List.mem_cons, List.not_mem_nil, or_false] at hx
    rcases hx with rfl | rfl
    · exact ⟨⟨rfl, fun _ => ⟨T, 0, rfl, fun j u hu => by rw [Nat.zero_add]; exact RowV.cell ht hu⟩⟩, Reads.nil_ _ _ _, rfl, fun y hy => (by cases hy), ⟨Reads.nil_ _ _ _, Reads.nil_ _ _ _, Reads.nil_ _ _ _⟩⟩
    · exact ⟨Reads.nil_ _ _ _, Reads.nil_ _ _ _, rfl, fun y hy => (by cases hy), ⟨Reads.nil_ _ _ _, Reads.nil_ _ _ _, Reads.nil_ _ _ _⟩⟩
end Go.Proofs.YtjhlpkhfdghngaaGreatDoor
namespace Go.Proofs.YtjhlpkhfdghngaaGreatDoor
open Go.RowKit Go.Sort
set_option linter.unusedVariables false
set_option linter.unusedSimpArgs false
set_option maxRecDepth 100000
def exStamp : StampV := ⟨⟨#[]⟩, ⟨#[]⟩, 200, 0, ⟨0, 0, 0, 0, 0, 0, 0, 0, 0, 0, 0, 0, 0, 0, 0, 0⟩, ⟨#[]⟩, 20, 30, 0, 0, ⟨0, 0, 0, 0, 0, 0, 0, 0, 0, 0, 0, 0, 0, 0, 0, 0⟩⟩
def exPol (g : Nat) : Array Value := #[.string (⟨#[97, 99, 109, 101]⟩ : ByteArray), .int .i64 9, .slice (some ⟨g, 0, none⟩) 2 2]
structure PolAt (g T pb : Nat) (sg : Bool) (W : World) : Prop where
  row : RowV W g 33 (exOne T false ++ exTwo sg)
  tags : RowV W T 9 [.string (⟨#[104, 111, 116]⟩ : ByteArray)]
  p : Box1 W pb 24 (exPol g)
theorem PolAt.keep {g T pb : Nat} {sg : Bool} {W W' : World} (h : PolAt g T pb sg W) (hb : Below W.heap.size W W') : PolAt g T pb sg W' := ⟨h.row.keep hb, h.tags.keep hb, h.p.keep hb⟩
theorem PolAt.reads {g T pb : Nat} {sg : Bool} {W : World} (h : PolAt g T pb sg W) : RulesRead W (some ⟨g, 0, none⟩) 2 [mOne T false, mTwo sg] := ex_reads h.row h.tags
end Go.Proofs.YtjhlpkhfdghngaaGreatDoor
namespace Go.Proofs.YtjhlpkhfdghngaaGreatDoor
open Go.RowKit Go.Sort
set_option linter.unusedVariables false
set_option linter.unusedSimpArgs false
set_option maxRecDepth 100000
structure SanS (w : World) (g T pb : Nat) (W : World) : Prop where
  a : PolAt g T pb false W
  b : Below w.heap.size w W
theorem SanS.keep {w W W' : World} {g T pb : Nat} (h : SanS w g T pb W) (hb : Below W.heap.size W W') : SanS w g T pb W' := ⟨h.a.keep hb, bstep h.b hb⟩
structure SanT (w : World) (g T pb sb : Nat) (W : World) : Prop where
  a : PolAt g T pb false W
  s : Box1 W sb 82 exStamp.cells.toArray
  b : Below w.heap.size w W
theorem SanT.keep {w W W' : World} {g T pb sb : Nat} (h : SanT w g T pb sb W) (hb : Below W.heap.size W W') : SanT w g T pb sb W' := ⟨h.a.keep hb, h.s.keep hb, bstep h.b hb⟩
structure SanU (w : World) (g T pb sb g2 T2 pb2 : Nat) (sg : Bool) (W : World) : Prop where
  a : PolAt g T pb false W
  s : Box1 W sb 82 exStamp.cells.toArray
  a2 : PolAt g2 T2 pb2 sg W
  b : Below w.heap.size w W
theorem SanU.keep {w W W' : World} {g T pb sb g2 T2 pb2 : Nat} {sg : Bool} (h : SanU w g T pb sb g2 T2 pb2 sg W) (hb : Below W.heap.size W W') : SanU w g T pb sb g2 T2 pb2 sg W' := ⟨h.a.keep hb, h.s.keep hb, h.a2.keep hb, bstep h.b hb⟩
end Go.Proofs.YtjhlpkhfdghngaaGreatDoor
namespace Go.Proofs.YtjhlpkhfdghngaaGreatDoor
open Go.RowKit Go.Sort
set_option linter.unusedVariables false
set_option linter.unusedSimpArgs false
set_option maxRecDepth 100000
theorem fewR_fits {r : RuleV} (h : fewR r = true) : RuleFits r := by
  unfold fewR at h
  simp only [Bool.and_eq_true, decide_eq_true_eq, List.all_eq_true] at h
  obtain ⟨⟨⟨⟨⟨⟨⟨h1, h2⟩, h3⟩, h4⟩, h5⟩, h6⟩, h7⟩, h8⟩ := h
  refine ⟨h1, h2, h3, h4, fun s hs => by simpa using h7 s hs, h5, fun y hy => ?_, few_fits h6⟩
  have h9 := h8 y hy
  unfold fewVy at h9
  simp only [Bool.and_eq_true, decide_eq_true_eq, List.all_eq_true] at h9
  obtain ⟨⟨⟨a1, a2⟩, a3⟩, a4⟩ := h9
  exact ⟨a1, a2, a3, fun s hs => by simpa using a4 s hs⟩
structure LEnv (w : World) : Prop where
  e : Env w
  t : Tab w
  k : Ks w
theorem LEnv.keep {w w' : World} (h : LEnv w) (hb : Below w.heap.size w w') : LEnv w' := ⟨h.e.keep hb, h.t.keep hb, h.k.keep hb⟩
end Go.Proofs.YtjhlpkhfdghngaaGreatDoor
namespace Go.Proofs.YtjhlpkhfdghngaaGreatDoor
open Go.RowKit Go.Sort
set_option linter.unusedVariables false
set_option linter.unusedSimpArgs false
set_option maxRecDepth 100000
structure RuS (g : Nat) (X : Array Value) (w0 : World) (W : World) : Prop where
  x : Box1 W g 33 X
  b : Below w0.heap.size w0 W
theorem RuS.keep {g : Nat} {X : Array Value} {w0 W W' : World} (h : RuS g X w0 W) (hb : Below W.heap.size W W') : RuS g X w0 W' := ⟨h.x.keep hb, bstep h.b hb⟩
end Go.Proofs.YtjhlpkhfdghngaaGreatDoor
namespace Go.Proofs.YtjhlpkhfdghngaaGreatDoor
open Go.RowKit Go.Sort
set_option linter.unusedVariables false
set_option linter.unusedSimpArgs false
set_option maxRecDepth 100000
abbrev RuleP := ByteArray × List ByteArray
def mtR (r : RuleP) (a t : ByteArray) : Bool := matchB r.1 a && r.2.all (hasTagB t)
def chooseR (l : List RuleP) (a t : ByteArray) : Option Nat := l.findIdx? fun r => mtR r a t
theorem choose_iff (l : List RuleP) (a t : ByteArray) (i : Nat) : chooseR l a t = some i ↔ ∃ r, l[i]? = some r ∧ mtR r a t = true ∧ ∀ j q, j < i → l[j]? = some q → mtR q a t = false := by
  unfold chooseR
  rw [List.findIdx?_eq_some_iff_getElem]
  constructor
  · rintro ⟨h, h1, h2⟩
    refine ⟨l[i], List.getElem?_eq_getElem h, h1, fun j q hj hq => ?_⟩
    have := h2 j hj
    obtain ⟨h3, h4⟩ := List.getElem?_eq_some_iff.1 hq
    rw [← h4]; simpa using this
  · rintro ⟨r, hr, h1, h2⟩
    obtain ⟨h3, h4⟩ := List.getElem?_eq_some_iff.1 hr
    refine ⟨h3, by rw [h4]; exact h1, fun j hj => ?_⟩
    have := h2 j l[j] hj (List.getElem?_eq_getElem (by omega))
    simpa using this
def subB (a b : List ByteArray) : Bool := a.all fun t => Lib.containsS b t
theorem subB_iff (a b : List ByteArray) : subB a b = true ↔ ∀ t ∈ a, t ∈ b := by
  unfold subB
  rw [List.all_eq_true]
  exact forall_congr' fun t => forall_congr' fun _ => Lib.containsS_iff b t
def beforeR (l : List RuleP) (i : Nat) (ts : List ByteArray) : List ByteArray := ((l.take i).filter fun q => subB q.2 ts).map (·.1)
theorem before_mem {l : List RuleP} {i : Nat} {ts : List ByteArray} {p : ByteArray} : p ∈ beforeR l i ts ↔ ∃ j q, j < i ∧ l[j]? = some q ∧ subB q.2 ts = true ∧ q.1 = p := by
  unfold beforeR
  rw [List.mem_map]
  constructor
  · rintro ⟨q, hq, rfl⟩
    obtain ⟨h1, h2⟩ := List.mem_filter.1 hq
    obtain ⟨j, hj⟩ := List.mem_iff_getElem?.1 h1
    rw [List.getElem?_take] at hj
    split at hj
    · rename_i hlt
      exact ⟨j, q, hlt, hj, h2, rfl⟩
    · cases hj
  · rintro ⟨j, q, hj, hq, h2, rfl⟩
    refine ⟨q, List.mem_filter.2 ⟨List.mem_iff_getElem?.2 ⟨j, ?_⟩, h2⟩, rfl⟩
    rw [List.getElem?_take, if_pos hj]; exact hq
theorem all_has {ts : List ByteArray} {t : ByteArray} : ts.all (hasTagB t) = true ↔ ∀ x ∈ ts, hasTagB t x = true := List.all_eq_true
end Go.Proofs.YtjhlpkhfdghngaaGreatDoor
