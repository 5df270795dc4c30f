/- The words that all texts of this proof use: what a call leaves ('Ret', 'Out'), what a slice reads as ('Reads'), how it stays read. -/
import Derived.Deep.AppendLies
import Derived.Laws.OwnMore
import Derived.Deep.Draws
import Derived.Test.YtdlbfjoemabfpaaGreatDoorProg
import Derived.WalkKit
import Derived.WalkSpells
import Derived.WalkLawsBesides
import Derived.Below
import Derived.Deep.QuietTactic
import Derived.BigQuiet
import Derived.Lib.QuietBelow
import Derived.Lib.Strings
import Derived.Lib.Hide
import Derived.Deep.RegionWith
import Derived.Deep.RegionHeld3
import Derived.Lib.IndexBytes
namespace Go.Proofs.YtdlbfjoemabfpaaGreatDoor
open Go.RowKit Go.Sort
set_option linter.unusedVariables false
set_option linter.unusedSimpArgs false
def Ret (w : World) (v : Value) (e : Ending) (w' : World) : Prop := e = .returned v ∧ Below w.heap.size w w'
def Reads (w : World) (size : Nat) (A : Option Addr) (n : Nat) (vs : List Value) : Prop :=
  vs.length = n * size ∧ (0 < n → ∃ b o, A = some ⟨b, o, none⟩ ∧ ∀ j u, vs[j]? = some u → w.cell? ⟨b, o + j, none⟩ = some u)
theorem cell_lt {w : World} {a : Addr} {v : Value} (h : w.cell? a = some v) : a.block < w.heap.size := by
  rcases Nat.lt_or_ge a.block w.heap.size with h' | h'
  · exact h'
  · simp [World.cell?, Array.getElem?_eq_none h'] at h
theorem cell_keep {w w' : World} {a : Addr} {v : Value} (hb : Below w.heap.size w w') (h : w.cell? a = some v) : w'.cell? a = some v := (hb.cell (cell_lt h)).trans h
theorem frozen_keep {w w' : World} {a : Addr} {v : Bool} (hb : Below w.heap.size w w') (hl : a.block < w.heap.size) (h : w.frozen? a = v) : w'.frozen? a = v := (hb.frozen hl).trans h
def rd (w : World) (a : Addr) : Value := (w.cell? a).getD undef
theorem rd_of {w : World} {a : Addr} {v : Value} (h : w.cell? a = some v) : w.cell? a = some (rd w a) := by unfold rd; rw [h]; rfl
theorem rd_keep {w w' : World} {a : Addr} {v : Value} (hb : Below w.heap.size w w') (h : w.cell? a = some v) : w'.cell? a = some (rd w' a) := rd_of (cell_keep hb h)
theorem rd_set {w : World} {a p : Addr} {v x : Value} (h : w.cell? a = some v) : (w.setCell p x).cell? a = some (rd (w.setCell p x) a) :=
  let ⟨_, h'⟩ := cell?_setCell_some (w := w) (p := p) (x := x) h; rd_of h'
theorem bstep {a b c : World} (h : Below a.heap.size a b) (k : Below b.heap.size b c) : Below a.heap.size a c := h.trans (k.mono h.size)
theorem balloc {a b : World} (h : Below a.heap.size a b) (o : Obj) : Below a.heap.size a (b.alloc o) := h.alloc h.size o
theorem bdrewN {a b : World} (h : Below a.heap.size a b) (n : Nat) : Below a.heap.size a (b.drewN n) := ⟨h.os, h.tape, h.output, h.size, h.block⟩
theorem blater {a b : World} (o : Obj) (h : Below (a.alloc o).heap.size (a.alloc o) b) : Below a.heap.size a b := bstep (balloc (Below.refl _ _) o) h
section
variable {w w' : World} {size n : Nat} {A : Option Addr} {vs : List Value}
theorem Reads.nil_ (w : World) (size : Nat) (A : Option Addr) : Reads w size A 0 [] := ⟨by simp, fun h => absurd h (by omega)⟩
theorem Reads.keep (h : Reads w size A n vs) (hb : Below w.heap.size w w') : Reads w' size A n vs := by
  refine ⟨h.1, fun hn => ?_⟩
  obtain ⟨b, o, rfl, hc⟩ := h.2 hn
  exact ⟨b, o, rfl, fun j u hu => cell_keep hb (hc j u hu)⟩
theorem Reads.at_ {k : Nat} (h : Reads w 1 A n vs) (hk : k < n) : ∃ b o u, A = some ⟨b, o, none⟩ ∧ vs[k]? = some u ∧ w.cell? ⟨b, o + k, none⟩ = some u := by
  obtain ⟨b, o, e, hc⟩ := h.2 (by omega)
  have hl : k < vs.length := by have := h.1; omega
  exact ⟨b, o, vs[k], e, List.getElem?_eq_getElem hl, hc k _ (List.getElem?_eq_getElem hl)⟩
theorem Reads.of_own {base : Nat} {e : TypeId} {c : Nat} (h : w.ownsRow base e size (.slice A n c) n vs) : Reads w size A n vs := by
  refine ⟨h.1, fun hn => ?_⟩
  obtain ⟨g, cap, hv, _, hlt⟩ := h.form hn
  have hA : A = some ⟨g, 0, none⟩ := by injection hv
  subst hA
  exact ⟨g, 0, rfl, fun j u hu => by have := h.cells (g := g) rfl j u hu; unfold Addr.add at this; split at this <;> simp_all⟩
end
theorem bcell {W w1 : World} (hb : Below W.heap.size W w1) : (∀ b o, b < W.heap.size → w1.cell? ⟨b, o, none⟩ = W.cell? ⟨b, o, none⟩) ∧ (∀ b o, b < W.heap.size → w1.frozen? ⟨b, o, none⟩ = W.frozen? ⟨b, o, none⟩) :=
  ⟨fun b o h => hb.cell (p := ⟨b, o, none⟩) h, fun b o h => hb.frozen (p := ⟨b, o, none⟩) h⟩
def Env (w : World) : Prop := ∃ m, w.cell? ⟨0, 0, none⟩ = some (.int .i64 m)
theorem Env.keep {w w' : World} (h : Env w) (hb : Below w.heap.size w w') : Env w' := let ⟨m, hm⟩ := h; ⟨m, cell_keep hb hm⟩
theorem ret_bool {a b : Bool} (h : a = b) : Ending.returned (.bool a) = .returned (.bool b) := by rw [h]
theorem ret_int {k : IntKind} {a b : Int} (h : a = b) : Ending.returned (.int k a) = .returned (.int k b) := by rw [h]
theorem qcalls {P : Program} {f : FuncId} {args : Array Value} {w : World} {v : Value} (h : ∀ W, Calls P f args W (Ret W v)) (d : Nat) (os : Array Obj) :
    Calls P f args (Sort.grow (redrawn w d) os) fun e w'' => e = .returned v ∧ ∃ p : Regrown, w'' = Sort.grow (redrawn w p.d) p.os := Calls.regrown_of ((h _).mono fun _ _ h => h)
theorem qcalls2 {P : Program} {f : FuncId} {args : Array Value} {w : World} {v : Value} (h : ∀ W, Below w.heap.size w W → Calls P f args W (Ret W v)) (d : Nat) (os : Array Obj) :
    Calls P f args (Sort.grow (redrawn w d) os) fun e w'' => e = .returned v ∧ ∃ p : Regrown, w'' = Sort.grow (redrawn w p.d) p.os := Calls.regrown_of ((h _ (below_regrown w d os)).mono fun _ _ h => h)
theorem belB {B : Nat} {a w : World} (h : Below B a w := by (repeat (first | exact .refl _ _ | assumption | refine .drew ?_ | refine balloc ?_ _ | refine bdrewN ?_ _ | refine .setCell ?_ (by simp <;> omega) _ | refine bstep ?_ (by assumption)))) : Below B a w := h
end Go.Proofs.YtdlbfjoemabfpaaGreatDoor
namespace Go.Proofs.YtdlbfjoemabfpaaGreatDoor
open Go.RowKit Go.Sort
set_option linter.unusedVariables false
set_option linter.unusedSimpArgs false
set_option maxRecDepth 100000
theorem flat_len {α : Type} {size : Nat} (cells : α → List Value) : ∀ L : List α, (∀ a ∈ L, (cells a).length = size) → (L.flatMap cells).length = L.length * size
  | [], _ => by simp
  | a :: L, h => by
    rw [List.flatMap_cons, List.length_append, h a (by simp), flat_len cells L (fun b hb => h b (by simp [hb])), List.length_cons, Nat.add_mul, Nat.one_mul, Nat.add_comm]
theorem flat_at {α : Type} {size : Nat} (cells : α → List Value) : ∀ (L : List α), (∀ a ∈ L, (cells a).length = size) → ∀ (k j : Nat) (a : α), L[k]? = some a → j < size → (L.flatMap cells)[k * size + j]? = (cells a)[j]?
  | [], _, k, j, a, h, _ => by simp at h
  | b :: L, hl, 0, j, a, h, hj => by
    simp at h
    subst h
    rw [List.flatMap_cons, Nat.zero_mul, Nat.zero_add, List.getElem?_append_left (by rw [hl b (by simp)]; exact hj)]
  | b :: L, hl, k + 1, j, a, h, hj => by
    rw [List.flatMap_cons, List.getElem?_append_right (by rw [hl b (by simp), Nat.add_mul]; omega), hl b (by simp)]
    rw [show (k + 1) * size + j - size = k * size + j by rw [Nat.add_mul]; omega]
    exact flat_at cells L (fun c hc => hl c (by simp [hc])) k j a (by simpa using h) hj
theorem Reads.row {α : Type} {size n : Nat} {w : World} {A : Option Addr} {cells : α → List Value} {L : List α} (h : Reads w size A n (L.flatMap cells)) (hl : ∀ a ∈ L, (cells a).length = size) (hL : L.length = n) {k : Nat} {a : α} (hk : L[k]? = some a) :
    ∃ b o, A = some ⟨b, o, none⟩ ∧ ∀ j u, (cells a)[j]? = some u → w.cell? ⟨b, o + k * size + j, none⟩ = some u := by
  have hkl := (List.getElem?_eq_some_iff.1 hk).1
  obtain ⟨b, o, rfl, hc⟩ := h.2 (by omega)
  refine ⟨b, o, rfl, fun j u hu => ?_⟩
  have hj := (List.getElem?_eq_some_iff.1 hu).1
  rw [hl a (List.mem_of_getElem? hk)] at hj
  rw [Nat.add_assoc]
  exact hc _ u (by rw [flat_at cells L hl k j a hk hj]; exact hu)
theorem Reads.drop {size n : Nat} {w : World} {A : Option Addr} {vs : List Value} (h : Reads w size A n vs) : vs.length = n * size := h.1
end Go.Proofs.YtdlbfjoemabfpaaGreatDoor
