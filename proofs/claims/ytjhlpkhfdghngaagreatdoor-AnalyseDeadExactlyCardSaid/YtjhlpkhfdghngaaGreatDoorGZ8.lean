/- The specification's words: what its letter, Word, has and Name return. -/
import Derived.Test.YtjhlpkhfdghngaaGreatDoorGZ3
import Derived.Test.YtjhlpkhfdghngaaGreatDoorProg
import Derived.WalkKit
import Derived.WalkSpells
import Derived.WalkLawsBesides
import Derived.Below
import Derived.Deep.QuietTactic
import Derived.BigQuiet
import Derived.Lib.QuietBelow
import Derived.Lib.Strings
import Derived.Lib.Hide
import Derived.Deep.RegionWith
import Derived.Deep.RegionHeld3
import Derived.Lib.IndexBytes
import Derived.Test.YtjhlpkhfdghngaaGreatDoorGZ5
import Derived.Deep.Upon
import Derived.OwnWalkIn
import Derived.Test.YtjhlpkhfdghngaaGreatDoorGZ4
import Derived.Test.YtjhlpkhfdghngaaGreatDoorGZ1
import Derived.Test.YtjhlpkhfdghngaaGreatDoorGZ2
import Derived.Laws.BitsAllLaws
import Derived.LoopTactic
import Derived.RegionTactic
import Derived.StillTailTactics
import Derived.IntWalk
import Derived.Deep.DeepCutAuto
namespace Go.Proofs.YtjhlpkhfdghngaaGreatDoor
open Go.RowKit Go.Sort
set_option linter.unusedVariables false
set_option linter.unusedSimpArgs false
set_option maxRecDepth 100000
theorem take_snocB (s : ByteArray) (k : Nat) (h : k < s.size) : s.data.toList.take (k + 1) = s.data.toList.take k ++ [s[k]] := by
  rw [List.take_succ_eq_append_getElem (by simpa using h)]; rfl
end Go.Proofs.YtjhlpkhfdghngaaGreatDoor
namespace Go.Proofs.YtjhlpkhfdghngaaGreatDoor
open Go.RowKit Go.Sort
set_option linter.unusedVariables false
set_option linter.unusedSimpArgs false
set_option maxRecDepth 100000
section
variable {P : Program} {ops : Array Oper} {Q : Exit → Act → World → Prop} {i : Nat} {o : Oper} {a : Act} {W : World} {R : Value → World → Prop}
def OfType (w : World) (A : Option Addr) (n : Nat) (t : TypeId) : Prop := 0 < n → ∃ b o cs fr, A = some ⟨b, o, none⟩ ∧ Blk w b t cs fr
theorem OfType.keep {w w' : World} {A : Option Addr} {n : Nat} {t : TypeId} (h : OfType w A n t) (hb : Below w.heap.size w w') : OfType w' A n t := fun h0 =>
  let ⟨b, o, cs, fr, e, hB⟩ := h h0
  ⟨b, o, cs, fr, e, Blk.keep hB hb⟩
theorem OfType.off {w : World} {A : Option Addr} {n g : Nat} {t t' : TypeId} {cs : Array Value} {fr : Nat × Nat} (h : OfType w A n t) (hB : Blk w g t' cs fr) (ht : t ≠ t') : 0 < n → ∀ a, A = some a → a.block ≠ g := by
  intro h0 a ha hag
  obtain ⟨b, o, cs', fr', e, hb⟩ := h h0
  rw [e] at ha
  injection ha with ha
  subst ha
  dsimp only at hag
  subst hag
  have := hb.symm.trans hB
  injection this with this
  injection this with _ h2
  exact ht h2
theorem wanted_plain (hg : o.guard = none) (y : Nat → Option Bool) : Region.wanted o y = true := by
  unfold Region.wanted
  rw [hg]
theorem free_step {v : Value} {W' : World} (ho : ops[i]? = some o) (hg : o.guard = none) (hr : (execOp a.eval o).run P W = .ok (.value v) W') (hR : R v W') : wpOp P ops Q i (fun a' w' => ∃ v, a' = a.put o.dst v ∧ R v w') a W := by
  unfold wpOp
  rw [ho]
  dsimp only
  rw [if_pos (wanted_plain hg _)]
  refine .inl ?_
  unfold Oper.wp
  rw [hr]
  exact ⟨v, rfl, hR⟩
theorem free_call {f : FuncId} {args : Array Value} (ho : ops[i]? = some o) (hg : o.guard = none) (hr : (execOp a.eval o).run P W = .ok (.enter f args) W) (hc : Calls P f args W fun e W' => ∃ v, e = .returned v ∧ R v W') : wpOp P ops Q i (fun a' w' => ∃ v, a' = a.put o.dst v ∧ R v w') a W := by
  unfold wpOp
  rw [ho]
  dsimp only
  rw [if_pos (wanted_plain hg _)]
  refine .inl ?_
  unfold Oper.wp
  rw [hr]
  refine Calls.mono hc ?_
  rintro e W' ⟨v, rfl, hR⟩
  exact ⟨v, rfl, hR⟩
def OpsOk (S : Nat → Oper → Prop) : Nat → List Oper → Prop
  | _, [] => True
  | k, o :: l => S k o ∧ OpsOk S (k + 1) l
theorem ops_nil {S : Nat → Oper → Prop} {k : Nat} : OpsOk S k [] := trivial
theorem ops_cons {S : Nat → Oper → Prop} {k : Nat} {o : Oper} {l : List Oper} (h : S k o) (t : OpsOk S (k + 1) l) : OpsOk S k (o :: l) := ⟨h, t⟩
theorem ops_at {S : Nat → Oper → Prop} : ∀ (l : List Oper) (k : Nat), OpsOk S k l → ∀ (i : Nat) (o : Oper), l[i]? = some o → S (k + i) o
  | [], _, _, i, o, h => by simp at h
  | o :: l, k, h, 0, o', h' => by
    have : o = o' := by simpa using h'
    subst this
    exact h.1
  | o :: l, k, h, i + 1, o', h' => by
    have := ops_at l (k + 1) h.2 i o' (by simpa using h')
    rwa [show k + (i + 1) = k + 1 + i by omega]
def FreeS (ops : Array Oper) (md : Region.Mode) (m : Nat) (a1 : Act) (w1 : World) (G : World → World → Prop) (D : Nat → Value → World → Prop) (J : (Nat → Bool) → World → Prop) (step : Nat → (Act → World → Prop) → Act → World → Prop) (i : Nat) (o : Oper) : Prop :=
  ops[i]? = some o → ∀ (L : Nat → Bool) (a : Act) (w : World), Closed ops md L → L i = false → (∀ e ∈ o.after, Region.binds md e = true → L e.on = true) → J L w → G w1 w → AgreeM ops m a1 a → (∀ e ∈ o.after, Region.binds md e = true → D e.on (slotOf ops a e.on) w) →
    step i (fun a' w' => ∃ v, a' = a.put o.dst v ∧ D i v w' ∧ G w w' ∧ J (fun j => decide (j = i) || L j) w') a w
def putL : List Oper → (Nat → Value) → Nat → Act → Act
  | [], _, _, a => a
  | o :: l, vals, k, a => putL l vals (k + 1) (a.put o.dst (vals k))
theorem putL_eq (ops : Array Oper) : ∀ (l : List Oper) (vals : Nat → Value) (k : Nat) (a : Act), (∀ j, j < l.length → ops[k + j]? = l[j]?) → (List.range' k l.length).foldl (fun a j => a.put (dstOf ops j) (vals j)) a = putL l vals k a
  | [], _, _, _, _ => rfl
  | o :: l, vals, k, a, h => by
    rw [List.length_cons, List.range'_succ, List.foldl_cons, putL]
    have h0 : ops[k]? = some o := by simpa using h 0 (by simp)
    rw [show dstOf ops k = o.dst by unfold dstOf; rw [h0]; rfl]
    exact putL_eq ops l vals (k + 1) _ (fun j hj => by have := h (j + 1) (by simpa using hj); simpa [Nat.add_assoc, Nat.add_comm 1 j] using this)
def Region.freeB (md : Region.Mode) (l : List Oper) (m size : Nat) : Bool :=
  decide (m ≤ l.length) && Region.fair l.toArray md m size && Region.last l.toArray md m && Region.seqB md l.toArray (l.length - m) m ((List.replicate m true ++ List.replicate (l.length - m) false).toArray)
theorem agree_eval {m : Nat} {a1 a : Act} (h : AgreeM ops m a1 a) {t : Nat} (ht : (List.range m).all (fun j => dstOf ops j != some t) = true) : a.eval (.tmp t) = a1.eval (.tmp t) := by
  show a.tmps.getD t undef = a1.tmps.getD t undef
  have := h.off t (fun j hj => by have := List.all_eq_true.1 ht j (List.mem_range.2 hj); simpa using this)
  simp only [Array.getD_eq_getD_getElem?, this]
theorem tmp_eq (a : Act) (k : Nat) : a.tmps[k]?.getD undef = a.eval (.tmp k) := (Array.getD_eq_getD_getElem? ..).symm
theorem free_list {md : Region.Mode} {step : Nat → (Act → World → Prop) → Act → World → Prop} (hmono : Mono step) {l : List Oper} {a1 : Act} {w1 : World} (m : Nat) (hB : Region.freeB md l m a1.tmps.size = true)
    (G : World → World → Prop) (hrefl : ∀ w, G w w) (htr : ∀ a b c, G a b → G b c → G a c) (D : Nat → Value → World → Prop) (hD : ∀ i v w w', D i v w → G w w' → D i v w')
    (J : (Nat → Bool) → World → Prop) (hJ0 : J (fun _ => false) w1) (hops : OpsOk (FreeS l.toArray md m a1 w1 G D J step) 0 (l.take m))
    (hend : ∀ (vals : Nat → Value) w, G w1 w → J (fun j => decide (j < m)) w → (∀ j, j < m → D j (vals j) w) → anyG md l.toArray Q step (l.drop m).length ((List.replicate m true ++ List.replicate (l.length - m) false).toArray) (putL (l.take m) vals 0 a1) w) :
    (l.drop m).length + m = l.toArray.size ∧ anyG md l.toArray Q step ((l.drop m).length + m) (Array.replicate l.toArray.size false) a1 w1 := by
  unfold Region.freeB at hB
  simp only [Bool.and_eq_true, decide_eq_true_eq] at hB
  obtain ⟨⟨⟨hm, hf⟩, hl⟩, hs⟩ := hB
  refine ⟨by simp; omega, wpAny_free hmono m _ (by simpa using hm) a1 w1 G hrefl htr D hD J hJ0 hf hl (fun i o hi ho => ?_) (fun vals w h1 h2 h3 => ?_)⟩
  · have := ops_at _ 0 hops i o (by rw [List.getElem?_take_of_lt hi]; simpa using ho)
    rw [Nat.zero_add] at this
    exact this ho
  · have e : putTo l.toArray a1 vals m = putL (l.take m) vals 0 a1 := by
      unfold putTo
      have := putL_eq l.toArray (l.take m) vals 0 a1 (fun j hj => by
        rw [List.getElem?_take_of_lt (by simp at hj; omega)]
        simp)
      rw [List.length_take, Nat.min_eq_left hm] at this
      rw [← this, List.range_eq_range']
    rw [e]
    simpa using hend vals w h1 h2 h3
theorem wp_free {l : List Oper} (m : Nat) {id : Nat} {a : Act} {w : World} (hm : P.follows .mixedOrders = true) (hB : Region.freeB .any l m a.tmps.size = true)
    (G : World → World → Prop) (hrefl : ∀ w, G w w) (htr : ∀ a b c, G a b → G b c → G a c) (D : Nat → Value → World → Prop) (hD : ∀ i v w w', D i v w → G w w' → D i v w')
    (J : (Nat → Bool) → World → Prop) (hJ0 : J (fun _ => false) { w with drawn := w.drawn + 1 }) (hops : OpsOk (FreeS l.toArray .any m a { w with drawn := w.drawn + 1 } G D J (wpOp P l.toArray Q)) 0 (l.take m))
    (hend : ∀ (vals : Nat → Value) w', G { w with drawn := w.drawn + 1 } w' → J (fun j => decide (j < m)) w' → (∀ j, j < m → D j (vals j) w') → wpList P l.toArray Q (l.drop m) (putL (l.take m) vals 0 a) w') :
    (Code.region id l.toArray true).wp P Q a w := by
  have hs : Region.seqB .any l.toArray (l.length - m) m ((List.replicate m true ++ List.replicate (l.length - m) false).toArray) = true := by
    unfold Region.freeB at hB
    simp only [Bool.and_eq_true] at hB
    exact hB.2
  obtain ⟨h1, h2⟩ := free_list (Q := Q) mono_op m hB G hrefl htr D hD J hJ0 hops (fun vals w' g1 g2 g3 => G_of_seq (l.drop m) m _ _ _ (fun j => by simp) (by simpa using hs) (hend vals w' g1 g2 g3))
  exact wp_region_free hm _ m h1 h2
end
end Go.Proofs.YtjhlpkhfdghngaaGreatDoor
namespace Go.Proofs.YtjhlpkhfdghngaaGreatDoor
open Go.RowKit Go.Sort
set_option linter.unusedVariables false
set_option linter.unusedSimpArgs false
set_option maxRecDepth 100000
section
variable {P : Program}
theorem wp_build_as {o : Oper} {a : Act} {w : World} {K : Act → World → Prop} {Q : Exit → Act → World → Prop} (t : TypeId) (parts : Array (Nat × Operand)) (ho : o.op = .build t parts) (ps : Array (Nat × Value)) (hp : (parts.map fun (i, x) => (i, a.eval x)) = ps)
    (v : Value) (hr : (Instr.build t ps).run P w = .ok v w) (h : K (a.put o.dst v) w) : o.wp P a w K Q := by
  subst hp
  unfold Oper.wp execOp
  simp only [ho, Sem.run_bind, Sem.run_pure, Result.andThen_ok, hr]
  exact h
theorem wp_buildSlice_as {o : Oper} {a : Act} {w : World} {K : Act → World → Prop} {Q : Exit → Act → World → Prop} (t : TypeId) (n : Nat) (parts : Array (Nat × Operand)) (ho : o.op = .buildSlice t n parts) (ps : Array (Nat × Value)) (hp : (parts.map fun (i, x) => (i, a.eval x)) = ps)
    (v : Value) (w' : World) (hr : (Instr.buildSlice t n ps).run P w = .ok v w') (h : K (a.put o.dst v) w') : o.wp P a w K Q := by
  subst hp
  unfold Oper.wp execOp
  simp only [ho, Sem.run_bind, Sem.run_pure, Result.andThen_ok, hr]
  exact h
theorem wpList_build_as {ops : Array Oper} {rest : List Oper} {o : Oper} {a : Act} {w : World} {Q : Exit → Act → World → Prop} (hgd : o.guard = none) (t : TypeId) (parts : Array (Nat × Operand)) (ho : o.op = .build t parts) (ps : Array (Nat × Value)) (hp : (parts.map fun (i, x) => (i, a.eval x)) = ps)
    (v : Value) (hr : (Instr.build t ps).run P w = .ok v w) (h : wpList P ops Q rest (a.put o.dst v) w) : wpList P ops Q (o :: rest) a w :=
  wpList_plain hgd fun _ hK => wp_build_as t parts ho ps hp v hr (hK _ _ h)
theorem wpList_buildSlice_as {ops : Array Oper} {rest : List Oper} {o : Oper} {a : Act} {w : World} {Q : Exit → Act → World → Prop} (hgd : o.guard = none) (t : TypeId) (n : Nat) (parts : Array (Nat × Operand)) (ho : o.op = .buildSlice t n parts) (ps : Array (Nat × Value)) (hp : (parts.map fun (i, x) => (i, a.eval x)) = ps)
    (v : Value) (w' : World) (hr : (Instr.buildSlice t n ps).run P w = .ok v w') (h : wpList P ops Q rest (a.put o.dst v) w') : wpList P ops Q (o :: rest) a w :=
  wpList_plain hgd fun _ hK => wp_buildSlice_as t n parts ho ps hp v w' hr (hK _ _ h)
end
end Go.Proofs.YtjhlpkhfdghngaaGreatDoor
namespace Go.Proofs.YtjhlpkhfdghngaaGreatDoor
open Go.RowKit Go.Sort
set_option linter.unusedVariables false
set_option linter.unusedSimpArgs false
set_option maxRecDepth 100000
def b8 (l : List Nat) : List Value := l.map fun x : Nat => Value.int .u8 (x : Int)
section
variable {S : List Nat}
end
end Go.Proofs.YtjhlpkhfdghngaaGreatDoor
namespace Go.Proofs.YtjhlpkhfdghngaaGreatDoor
open Go.RowKit Go.Sort
set_option linter.unusedVariables false
set_option linter.unusedSimpArgs false
set_option maxRecDepth 100000
def Ks (w : World) : Prop := ∃ t fr, w.heap[1]? = some (.cells (w32 Sha.ks).toArray t fr)
theorem Ks.keep {w w' : World} (h : Ks w) (hb : Below w.heap.size w w') : Ks w' := by
  obtain ⟨t, fr, h⟩ := h
  refine ⟨t, fr, (hb.block _ ?_).trans h⟩
  rcases Nat.lt_or_ge 1 w.heap.size with hlt | hge
  · exact hlt
  · rw [Array.getElem?_eq_none hge] at h; cases h
def W8 (w : World) (g : Nat) (s : Sha.St) : Prop := Row32 w g 183 [s.a, s.b, s.c, s.d, s.e, s.f, s.g, s.h]
def W4 (w : World) (g : Nat) (a b c d : Nat) : Prop := Row32 w g 278 [a, b, c, d]
theorem W4.facts {w : World} {g a b c d : Nat} (h : W4 w g a b c d) : w.cell? ⟨g, 0, none⟩ = some (.int .u32 (a : Int)) ∧ w.cell? ⟨g, 1, none⟩ = some (.int .u32 (b : Int)) ∧ w.cell? ⟨g, 2, none⟩ = some (.int .u32 (c : Int)) ∧ w.cell? ⟨g, 3, none⟩ = some (.int .u32 (d : Int)) :=
  ⟨RowV.cell h rfl, RowV.cell h rfl, RowV.cell h rfl, RowV.cell h rfl⟩
theorem W8.facts {w : World} {g : Nat} {s : Sha.St} (h : W8 w g s) : w.cell? ⟨g, 0, none⟩ = some (.int .u32 (s.a : Int)) ∧ w.cell? ⟨g, 1, none⟩ = some (.int .u32 (s.b : Int)) ∧ w.cell? ⟨g, 2, none⟩ = some (.int .u32 (s.c : Int)) ∧ w.cell? ⟨g, 3, none⟩ = some (.int .u32 (s.d : Int)) ∧ w.cell? ⟨g, 4, none⟩ = some (.int .u32 (s.e : Int)) ∧ w.cell? ⟨g, 5, none⟩ = some (.int .u32 (s.f : Int)) ∧ w.cell? ⟨g, 6, none⟩ = some (.int .u32 (s.g : Int)) ∧ w.cell? ⟨g, 7, none⟩ = some (.int .u32 (s.h : Int)) :=
  ⟨RowV.cell h rfl, RowV.cell h rfl, RowV.cell h rfl, RowV.cell h rfl, RowV.cell h rfl, RowV.cell h rfl, RowV.cell h rfl, RowV.cell h rfl⟩
end Go.Proofs.YtjhlpkhfdghngaaGreatDoor
namespace Go.Proofs.YtjhlpkhfdghngaaGreatDoor
open Go.RowKit Go.Sort
set_option linter.unusedVariables false
set_option linter.unusedSimpArgs false
set_option maxRecDepth 100000
def nb (s : ByteArray) : List Nat := s.data.toList.map (·.toNat)
def stL (s : Sha.St) : List Nat := [s.a, s.b, s.c, s.d, s.e, s.f, s.g, s.h]
def strLH (s : Sha.St) (blk : List Nat) (n : Nat) : List Value := w32 (stL s) ++ (b8 blk ++ [.int .u64 (n : Int)])
section
variable {s : Sha.St} {blk : List Nat} {n : Nat}
end
def StrV (m : List Nat) (v : Value) : Prop := ∃ st blk, v = .agg (strLH st blk m.length).toArray ∧ Sha.Str m st blk ∧ ∀ x ∈ blk, x < 256
end Go.Proofs.YtjhlpkhfdghngaaGreatDoor
