/- Drawn regions: the contract of a region from contracts of its operations, whatever the order. -/
import Derived.Test.YtcjeddichookmaaGreatDoorIZ4
import Derived.Test.YtcjeddichookmaaGreatDoorIZ3
import Derived.Deep.Upon
import Derived.OwnWalkIn
import Derived.Test.YtcjeddichookmaaGreatDoorProg
import Derived.WalkKit
import Derived.WalkSpells
import Derived.WalkLawsBesides
import Derived.Below
import Derived.Deep.QuietTactic
import Derived.BigQuiet
import Derived.Lib.QuietBelow
import Derived.Lib.Strings
import Derived.Lib.Hide
import Derived.Deep.RegionWith
import Derived.Deep.RegionHeld3
import Derived.Lib.IndexBytes
namespace Go.Proofs.YtcjeddichookmaaGreatDoor
open Go.RowKit Go.Sort
set_option linter.unusedVariables false
set_option linter.unusedSimpArgs false
set_option maxRecDepth 100000
section
variable {P : Program} {ops : Array Oper} {Q : Exit → Act → World → Prop} {i : Nat} {o : Oper} {a : Act} {W : World} {R : Value → World → Prop}
def OfType (w : World) (A : Option Addr) (n : Nat) (t : TypeId) : Prop := 0 < n → ∃ b o cs fr, A = some ⟨b, o, none⟩ ∧ Blk w b t cs fr
theorem OfType.keep {w w' : World} {A : Option Addr} {n : Nat} {t : TypeId} (h : OfType w A n t) (hb : Below w.heap.size w w') : OfType w' A n t := fun h0 =>
  let ⟨b, o, cs, fr, e, hB⟩ := h h0
  ⟨b, o, cs, fr, e, Blk.keep hB hb⟩
theorem OfType.off {w : World} {A : Option Addr} {n g : Nat} {t t' : TypeId} {cs : Array Value} {fr : Nat × Nat} (h : OfType w A n t) (hB : Blk w g t' cs fr) (ht : t ≠ t') : 0 < n → ∀ a, A = some a → a.block ≠ g := by
  intro h0 a ha hag
  obtain ⟨b, o, cs', fr', e, hb⟩ := h h0
  rw [e] at ha
  injection ha with ha
  subst ha
  dsimp only at hag
  subst hag
  have := hb.symm.trans hB
  injection this with this
  injection this with _ h2
  exact ht h2
theorem wanted_plain (hg : o.guard = none) (y : Nat → Option Bool) : Region.wanted o y = true := by
  unfold Region.wanted
  rw [hg]
theorem free_step {v : Value} {W' : World} (ho : ops[i]? = some o) (hg : o.guard = none) (hr : (execOp a.eval o).run P W = .ok (.value v) W') (hR : R v W') : wpOp P ops Q i (fun a' w' => ∃ v, a' = a.put o.dst v ∧ R v w') a W := by
  unfold wpOp
  rw [ho]
  dsimp only
  rw [if_pos (wanted_plain hg _)]
  refine .inl ?_
  unfold Oper.wp
  rw [hr]
  exact ⟨v, rfl, hR⟩
theorem free_call {f : FuncId} {args : Array Value} (ho : ops[i]? = some o) (hg : o.guard = none) (hr : (execOp a.eval o).run P W = .ok (.enter f args) W) (hc : Calls P f args W fun e W' => ∃ v, e = .returned v ∧ R v W') : wpOp P ops Q i (fun a' w' => ∃ v, a' = a.put o.dst v ∧ R v w') a W := by
  unfold wpOp
  rw [ho]
  dsimp only
  rw [if_pos (wanted_plain hg _)]
  refine .inl ?_
  unfold Oper.wp
  rw [hr]
  refine Calls.mono hc ?_
  rintro e W' ⟨v, rfl, hR⟩
  exact ⟨v, rfl, hR⟩
def OpsOk (S : Nat → Oper → Prop) : Nat → List Oper → Prop
  | _, [] => True
  | k, o :: l => S k o ∧ OpsOk S (k + 1) l
theorem ops_nil {S : Nat → Oper → Prop} {k : Nat} : OpsOk S k [] := trivial
theorem ops_cons {S : Nat → Oper → Prop} {k : Nat} {o : Oper} {l : List Oper} (h : S k o) (t : OpsOk S (k + 1) l) : OpsOk S k (o :: l) := ⟨h, t⟩
theorem ops_at {S : Nat → Oper → Prop} : ∀ (l : List Oper) (k : Nat), OpsOk S k l → ∀ (i : Nat) (o : Oper), l[i]? = some o → S (k + i) o
  | [], _, _, i, o, h => by simp at h
  | o :: l, k, h, 0, o', h' => by
    have : o = o' := by simpa using h'
    subst this
    exact h.1
  | o :: l, k, h, i + 1, o', h' => by
    have := ops_at l (k + 1) h.2 i o' (by simpa using h')
    rwa [show k + (i + 1) = k + 1 + i by omega]
def FreeS (ops : Array Oper) (md : Region.Mode) (m : Nat) (a1 : Act) (w1 : World) (G : World → World → Prop) (D : Nat → Value → World → Prop) (J : (Nat → Bool) → World → Prop) (step : Nat → (Act → World → Prop) → Act → World → Prop) (i : Nat) (o : Oper) : Prop :=
  ops[i]? = some o → ∀ (L : Nat → Bool) (a : Act) (w : World), Closed ops md L → L i = false → (∀ e ∈ o.after, Region.binds md e = true → L e.on = true) → J L w → G w1 w → AgreeM ops m a1 a → (∀ e ∈ o.after, Region.binds md e = true → D e.on (slotOf ops a e.on) w) →
    step i (fun a' w' => ∃ v, a' = a.put o.dst v ∧ D i v w' ∧ G w w' ∧ J (fun j => decide (j = i) || L j) w') a w
def putL : List Oper → (Nat → Value) → Nat → Act → Act
  | [], _, _, a => a
  | o :: l, vals, k, a => putL l vals (k + 1) (a.put o.dst (vals k))
theorem putL_eq (ops : Array Oper) : ∀ (l : List Oper) (vals : Nat → Value) (k : Nat) (a : Act), (∀ j, j < l.length → ops[k + j]? = l[j]?) → (List.range' k l.length).foldl (fun a j => a.put (dstOf ops j) (vals j)) a = putL l vals k a
  | [], _, _, _, _ => rfl
  | o :: l, vals, k, a, h => by
    rw [List.length_cons, List.range'_succ, List.foldl_cons, putL]
    have h0 : ops[k]? = some o := by simpa using h 0 (by simp)
    rw [show dstOf ops k = o.dst by unfold dstOf; rw [h0]; rfl]
    exact putL_eq ops l vals (k + 1) _ (fun j hj => by have := h (j + 1) (by simpa using hj); simpa [Nat.add_assoc, Nat.add_comm 1 j] using this)
def Region.freeB (md : Region.Mode) (l : List Oper) (m size : Nat) : Bool :=
  decide (m ≤ l.length) && Region.fair l.toArray md m size && Region.last l.toArray md m && Region.seqB md l.toArray (l.length - m) m ((List.replicate m true ++ List.replicate (l.length - m) false).toArray)
theorem agree_eval {m : Nat} {a1 a : Act} (h : AgreeM ops m a1 a) {t : Nat} (ht : (List.range m).all (fun j => dstOf ops j != some t) = true) : a.eval (.tmp t) = a1.eval (.tmp t) := by
  show a.tmps.getD t undef = a1.tmps.getD t undef
  have := h.off t (fun j hj => by have := List.all_eq_true.1 ht j (List.mem_range.2 hj); simpa using this)
  simp only [Array.getD_eq_getD_getElem?, this]
theorem tmp_eq (a : Act) (k : Nat) : a.tmps[k]?.getD undef = a.eval (.tmp k) := (Array.getD_eq_getD_getElem? ..).symm
theorem free_list {md : Region.Mode} {step : Nat → (Act → World → Prop) → Act → World → Prop} (hmono : Mono step) {l : List Oper} {a1 : Act} {w1 : World} (m : Nat) (hB : Region.freeB md l m a1.tmps.size = true)
    (G : World → World → Prop) (hrefl : ∀ w, G w w) (htr : ∀ a b c, G a b → G b c → G a c) (D : Nat → Value → World → Prop) (hD : ∀ i v w w', D i v w → G w w' → D i v w')
    (J : (Nat → Bool) → World → Prop) (hJ0 : J (fun _ => false) w1) (hops : OpsOk (FreeS l.toArray md m a1 w1 G D J step) 0 (l.take m))
    (hend : ∀ (vals : Nat → Value) w, G w1 w → J (fun j => decide (j < m)) w → (∀ j, j < m → D j (vals j) w) → anyG md l.toArray Q step (l.drop m).length ((List.replicate m true ++ List.replicate (l.length - m) false).toArray) (putL (l.take m) vals 0 a1) w) :
    (l.drop m).length + m = l.toArray.size ∧ anyG md l.toArray Q step ((l.drop m).length + m) (Array.replicate l.toArray.size false) a1 w1 := by
  unfold Region.freeB at hB
  simp only [Bool.and_eq_true, decide_eq_true_eq] at hB
  obtain ⟨⟨⟨hm, hf⟩, hl⟩, hs⟩ := hB
  refine ⟨by simp; omega, wpAny_free hmono m _ (by simpa using hm) a1 w1 G hrefl htr D hD J hJ0 hf hl (fun i o hi ho => ?_) (fun vals w h1 h2 h3 => ?_)⟩
  · have := ops_at _ 0 hops i o (by rw [List.getElem?_take_of_lt hi]; simpa using ho)
    rw [Nat.zero_add] at this
    exact this ho
  · have e : putTo l.toArray a1 vals m = putL (l.take m) vals 0 a1 := by
      unfold putTo
      have := putL_eq l.toArray (l.take m) vals 0 a1 (fun j hj => by
        rw [List.getElem?_take_of_lt (by simp at hj; omega)]
        simp)
      rw [List.length_take, Nat.min_eq_left hm] at this
      rw [← this, List.range_eq_range']
    rw [e]
    simpa using hend vals w h1 h2 h3
theorem wp_free {l : List Oper} (m : Nat) {id : Nat} {a : Act} {w : World} (hm : P.follows .mixedOrders = true) (hB : Region.freeB .any l m a.tmps.size = true)
    (G : World → World → Prop) (hrefl : ∀ w, G w w) (htr : ∀ a b c, G a b → G b c → G a c) (D : Nat → Value → World → Prop) (hD : ∀ i v w w', D i v w → G w w' → D i v w')
    (J : (Nat → Bool) → World → Prop) (hJ0 : J (fun _ => false) { w with drawn := w.drawn + 1 }) (hops : OpsOk (FreeS l.toArray .any m a { w with drawn := w.drawn + 1 } G D J (wpOp P l.toArray Q)) 0 (l.take m))
    (hend : ∀ (vals : Nat → Value) w', G { w with drawn := w.drawn + 1 } w' → J (fun j => decide (j < m)) w' → (∀ j, j < m → D j (vals j) w') → wpList P l.toArray Q (l.drop m) (putL (l.take m) vals 0 a) w') :
    (Code.region id l.toArray true).wp P Q a w := by
  have hs : Region.seqB .any l.toArray (l.length - m) m ((List.replicate m true ++ List.replicate (l.length - m) false).toArray) = true := by
    unfold Region.freeB at hB
    simp only [Bool.and_eq_true] at hB
    exact hB.2
  obtain ⟨h1, h2⟩ := free_list (Q := Q) mono_op m hB G hrefl htr D hD J hJ0 hops (fun vals w' g1 g2 g3 => G_of_seq (l.drop m) m _ _ _ (fun j => by simp) (by simpa using hs) (hend vals w' g1 g2 g3))
  exact wp_region_free hm _ m h1 h2
end
theorem putF {α : Type} : (∀ (n : Nat) (a : α) (l : List α), (a :: l).take (n + 1) = a :: l.take n) ∧ (∀ l : List α, l.take 0 = []) ∧ (∀ (n : Nat) (a : α) (l : List α), (a :: l).drop (n + 1) = l.drop n) ∧ (∀ l : List α, l.drop 0 = l) ∧ (∀ (l : List α) (i : Nat) (a : α), l.toArray.setIfInBounds i a = (l.set i a).toArray) ∧ (∀ (a b : α) (n : Nat) (l : List α), (a :: l).set (n + 1) b = a :: l.set n b) ∧ (∀ (a b : α) (l : List α), (a :: l).set 0 b = b :: l) ∧ (∀ (a d : α) (l : List α), (a :: l).getD 0 d = a) ∧ (∀ (a d : α) (n : Nat) (l : List α), (a :: l).getD (n + 1) d = l.getD n d) :=
  ⟨fun _ _ _ => rfl, fun _ => rfl, fun _ _ _ => rfl, fun _ => rfl, fun _ _ _ => List.setIfInBounds_toArray .., fun _ _ _ _ => rfl, fun _ _ _ => rfl, fun _ _ _ => rfl, fun _ _ _ _ => rfl⟩
end Go.Proofs.YtcjeddichookmaaGreatDoor
namespace Go.Proofs.YtcjeddichookmaaGreatDoor
open Go.RowKit Go.Sort
set_option linter.unusedVariables false
set_option linter.unusedSimpArgs false
set_option maxRecDepth 100000
section
variable {P : Program} {Q : Exit → Act → World → Prop}
def Region.deps (ops : Array Oper) (md : Region.Mode) (m : Nat) : Bool :=
  (List.range m).all fun i => match ops[i]? with
    | none => false
    | some o => (match o.op with | .select .. => false | _ => true) && (o.looksAt ops).all fun t =>
      ((List.range m).all fun j => dstOf ops j != some t) || o.after.any fun e => Region.binds md e && decide (e.on < m) && dstOf ops e.on == some t
theorem putTo_succ (ops : Array Oper) (a1 : Act) (V : Nat → Value) (m : Nat) : putTo ops a1 V (m + 1) = (putTo ops a1 V m).put (dstOf ops m) (V m) := by
  unfold putTo
  rw [List.range_succ, List.foldl_append]; rfl
theorem put_size (a : Act) (d : Option Tmp) (v : Value) : (a.put d v).tmps.size = a.tmps.size := by
  cases d with
  | none => rfl
  | some d => simp [Act.put]
theorem put_defers' (a : Act) (d : Option Tmp) (v : Value) : (a.put d v).defers = a.defers := by
  cases d <;> rfl
theorem putTo_size (ops : Array Oper) (a1 : Act) (V : Nat → Value) : ∀ m, (putTo ops a1 V m).tmps.size = a1.tmps.size
  | 0 => rfl
  | m + 1 => by rw [putTo_succ, put_size]; exact putTo_size ops a1 V m
theorem putTo_off (ops : Array Oper) (a1 : Act) (V : Nat → Value) {t : Nat} : ∀ m, (∀ j, j < m → dstOf ops j ≠ some t) → (putTo ops a1 V m).tmps[t]? = a1.tmps[t]?
  | 0, _ => rfl
  | m + 1, h => by
    rw [putTo_succ]
    have ih := putTo_off ops a1 V m (fun j hj => h j (by omega))
    cases hd : dstOf ops m with
    | none => exact ih
    | some d =>
      have hne : d ≠ t := fun e => h m (by omega) (by rw [hd, e])
      simp only [Act.put, Array.getElem?_setIfInBounds_ne hne]
      exact ih
theorem putTo_at (ops : Array Oper) (a1 : Act) (V : Nat → Value) {t : Nat} (ht : t < a1.tmps.size) : ∀ m, (∀ i j, i < m → j < m → dstOf ops i = some t → dstOf ops j = some t → i = j) → ∀ j, j < m → dstOf ops j = some t → (putTo ops a1 V m).tmps[t]? = some (V j)
  | 0, _, _, hj, _ => by omega
  | m + 1, h, j, hj, hjt => by
    rw [putTo_succ]
    by_cases hjm : j = m
    · subst hjm
      rw [hjt]
      have : t < (putTo ops a1 V j).tmps.size := by rw [putTo_size]; exact ht
      simp [Act.put, this]
    · have hne : dstOf ops m ≠ some t := fun e => hjm (h j m hj (by omega) hjt e)
      have ih := putTo_at ops a1 V ht m (fun i j hi hj => h i j (by omega) (by omega)) j (by omega) hjt
      cases hd : dstOf ops m with
      | none => exact ih
      | some d =>
        have hne2 : d ≠ t := fun e => hne (by rw [hd, e])
        simp only [Act.put, Array.getElem?_setIfInBounds_ne hne2]
        exact ih
theorem ops_of {S : Nat → Oper → Prop} : ∀ (l : List Oper) (k : Nat), (∀ i o, l[i]? = some o → S (k + i) o) → OpsOk S k l
  | [], _, _ => trivial
  | o :: l, k, h => ⟨h 0 o rfl, ops_of l (k + 1) (fun i o' ho => by have := h (i + 1) o' ho; rwa [show k + (i + 1) = k + 1 + i by omega] at this)⟩
theorem yielded_congr {ops : Array Oper} {t t' : Array Value} {j : Nat} (h : ∀ d, dstOf ops j = some d → t[d]? = t'[d]?) : yielded ops t j = yielded ops t' j := by
  unfold yielded
  show (match (dstOf ops j).bind (t[·]?) with | some (.bool b) => some b | _ => none) = (match (dstOf ops j).bind (t'[·]?) with | some (.bool b) => some b | _ => none)
  cases hd : dstOf ops j with
  | none => rfl
  | some d => simp only [Option.bind_some, h d hd]
def DepsL (D : Nat → Value → World → Prop) (vals : Nat → Value) (W : World) : List Edge → Prop
  | [] => True
  | e :: r => (match Region.binds .any e with
    | true => D e.on (vals e.on) W
    | false => True) ∧ DepsL D vals W r
theorem depsL_of {D : Nat → Value → World → Prop} {vals : Nat → Value} {W : World} : ∀ l : List Edge, (∀ e ∈ l, Region.binds .any e = true → D e.on (vals e.on) W) → DepsL D vals W l
  | [], _ => trivial
  | e :: r, h => ⟨by
      cases hb : Region.binds .any e with
      | true => exact h e (by simp) hb
      | false => trivial, depsL_of r (fun e' he' hb => h e' (by simp [he']) hb)⟩
def slotD (o : Oper) (a : Act) : Value := match o.dst with
  | some d => a.tmps.getD d undef
  | none => undef
def QV (D : Nat → Value → World → Prop) (i : Nat) (o : Oper) (ds : List Deferred) (w : World) : Exit → Act → World → Prop := fun e a' w' => e = .normal ∧ D i (slotD o a') w' ∧ a'.defers = ds ∧ Below w.heap.size w w'
def DetD (P : Program) (ops : Array Oper) (S : World → Prop) (D : Nat → Value → World → Prop) (fr : (Nat → Value) → Act) : Nat → List Oper → Prop
  | _, [] => True
  | i, o :: l => (∀ vals W, S W → DepsL D vals W o.after.toList → wpList P ops (QV D i o (fr vals).defers W) [o] (fr vals) W) ∧ DetD P ops S D fr (i + 1) l
theorem detD_at {ops : Array Oper} {S : World → Prop} {D : Nat → Value → World → Prop} {fr : (Nat → Value) → Act} : ∀ (l : List Oper) (k : Nat), DetD P ops S D fr k l → ∀ (i : Nat) (o : Oper), l[i]? = some o → ∀ vals W, S W → DepsL D vals W o.after.toList → wpList P ops (QV D (k + i) o (fr vals).defers W) [o] (fr vals) W
  | [], _, _, i, o, h => by simp at h
  | o :: l, k, h, 0, o', ho => by
    obtain rfl : o = o' := by simpa using ho
    exact h.1
  | _ :: l, k, h, i + 1, o', ho => by
    have := detD_at l (k + 1) h.2 i o' (by simpa using ho)
    rwa [show k + 1 + i = k + (i + 1) by omega] at this
theorem wp_detD {l : List Oper} (m : Nat) {id : Nat} {a : Act} {w : World} (hm : P.follows .mixedOrders = true) (hB : Region.freeB .any l m a.tmps.size = true) (hdep : Region.deps l.toArray .any m = true)
    (D : Nat → Value → World → Prop) (hDk : ∀ i v w w', D i v w → Below w.heap.size w w' → D i v w') (S : World → Prop) (hS0 : S { w with drawn := w.drawn + 1 }) (hSk : ∀ w w', S w → Below w.heap.size w w' → S w')
    (hops : DetD P l.toArray S D (fun vals => putL (l.take m) vals 0 a) 0 (l.take m))
    (hend : ∀ vals w', S w' → (∀ j, j < m → D j (vals j) w') → wpList P l.toArray Q (l.drop m) (putL (l.take m) vals 0 a) w') : (Code.region id l.toArray true).wp P Q a w := by
  have hB2 := hB
  unfold Region.freeB at hB2
  simp only [Bool.and_eq_true, decide_eq_true_eq] at hB2
  obtain ⟨⟨⟨hml, hf⟩, _⟩, _⟩ := hB2
  have fair : ∀ i, i < m → ∃ o d, l[i]? = some o ∧ (∀ e ∈ o.after, Region.binds .any e = true → e.on < i) ∧ o.dst = some d ∧ d < a.tmps.size ∧ ∀ j, j ≠ i → dstOf l.toArray j ≠ some d := by
    intro i hi
    have h := List.all_eq_true.1 hf i (List.mem_range.2 hi)
    cases ho : l[i]? with
    | none => rw [List.getElem?_toArray, ho] at h; cases h
    | some o =>
      rw [List.getElem?_toArray, ho] at h
      dsimp only at h
      rw [Bool.and_eq_true, Array.all_eq_true'] at h
      cases hd : o.dst with
      | none => rw [hd] at h; cases h.2
      | some d =>
        refine ⟨o, d, rfl, fun e he hb => by have h8 := h.1 e he; rw [hb] at h8; simpa using h8, hd, ?_⟩
        have h2 := h.2
        rw [hd] at h2
        dsimp only at h2
        rw [Bool.and_eq_true, decide_eq_true_eq, List.all_eq_true] at h2
        refine ⟨h2.1, fun j hj => ?_⟩
        rcases Nat.lt_or_ge j l.toArray.size with hl | hl
        · have := h2.2 j (List.mem_range.2 hl)
          simp only [Bool.or_eq_true, beq_iff_eq, bne_iff_ne] at this
          exact this.resolve_left (fun e => hj e.symm)
        · unfold dstOf
          rw [Array.getElem?_eq_none hl]
          simp
  have hput : ∀ V, putL (l.take m) V 0 a = putTo l.toArray a V m := by
    intro V
    unfold putTo
    have := putL_eq l.toArray (l.take m) V 0 a (fun j hj => by
      rw [List.getElem?_take_of_lt (by simp at hj; omega)]
      simp)
    rw [List.length_take, Nat.min_eq_left hml] at this
    rw [← this, List.range_eq_range']
  refine wp_free m hm hB (fun a b => Below a.heap.size a b) (fun a => Below.refl _ _) (fun a b c h k => h.trans (k.mono h.size)) D (fun i v w w' h hb => hDk i v w w' h hb) (fun _ _ => True) trivial (ops_of _ _ (fun i o hi => ?_)) (fun vals w' hG _ hv => ?_)
  · rw [Nat.zero_add]
    intro ho L a' W _ _ _ _ hG hA hd
    have hilt : i < m := by
      have := (List.getElem?_eq_some_iff.1 hi).1
      rw [List.length_take] at this; omega
    have hSW : S W := hSk _ _ hS0 hG
    obtain ⟨V, hV⟩ : ∃ V : Nat → Value, V = fun j => slotOf l.toArray a' j := ⟨_, rfl⟩
    have hD := detD_at _ _ hops i o hi V W hSW (depsL_of _ (fun e he hb => by rw [hV]; exact hd e (by simpa using he) hb))
    rw [Nat.zero_add] at hD
    generalize hb : putL (l.take m) V 0 a = b at *
    have hput := hput V
    rw [hb] at hput
    obtain ⟨o', d, ho', hback, hdo, hdl, hdd⟩ := fair i hilt
    obtain rfl : o = o' := by rw [List.getElem?_toArray] at ho; exact Option.some.inj (ho.symm.trans ho')
    have hdist : ∀ t i j, i < m → j < m → dstOf l.toArray i = some t → dstOf l.toArray j = some t → i = j := by
      intro t i j hi hj h1 h2
      obtain ⟨oi, di, hoi, _, hdi, _, hddi⟩ := fair i hi
      have e1 : dstOf l.toArray i = some di := by unfold dstOf; rw [List.getElem?_toArray, hoi]; exact hdi
      by_cases hij : j = i
      · exact hij.symm
      · exact absurd (by rw [h2, ← h1, e1]) (hddi j hij)
    have look : ∀ t ∈ o.looksAt l.toArray, a'.tmps[t]? = b.tmps[t]? := by
      intro t ht
      have h := List.all_eq_true.1 hdep i (List.mem_range.2 hilt)
      rw [ho] at h
      dsimp only at h
      rw [Bool.and_eq_true, List.all_eq_true] at h
      have h2 := h.2 t ht
      rw [Bool.or_eq_true] at h2
      rcases h2 with h2 | h2
      · have hoff : ∀ j, j < m → dstOf l.toArray j ≠ some t := fun j hj => by
          have := List.all_eq_true.1 h2 j (List.mem_range.2 hj)
          simpa using this
        rw [hA.off t hoff, hput, putTo_off _ _ _ m hoff]
      · rw [Array.any_eq_true'] at h2
        obtain ⟨e, he, h2⟩ := h2
        rw [Bool.and_eq_true, Bool.and_eq_true, decide_eq_true_eq, beq_iff_eq] at h2
        obtain ⟨⟨hbd, hem⟩, hdt⟩ := h2
        have hv : slotOf l.toArray a' e.on = V e.on := by rw [hV]
        obtain ⟨oe, de, hoe, _, hde, hdel, _⟩ := fair e.on hem
        have e1 : dstOf l.toArray e.on = some de := by unfold dstOf; rw [List.getElem?_toArray, hoe]; exact hde
        obtain rfl : de = t := Option.some.inj (e1.symm.trans hdt)
        unfold slotOf at hv
        rw [e1] at hv
        dsimp only at hv
        rw [hput, putTo_at _ _ _ hdel m (hdist de) e.on hem e1]
        have hlt : de < a'.tmps.size := by rw [hA.size]; exact hdel
        rw [Array.getD_eq_getD_getElem?, Array.getElem?_eq_getElem hlt] at hv
        rw [Array.getElem?_eq_getElem hlt, ← hv]
        rfl
    have hex : execOp a'.eval o = execOp b.eval o := by
      refine execOp_congr o (fun cs bl hs => ?_) (fun x hx => ?_)
      · have h := List.all_eq_true.1 hdep i (List.mem_range.2 hilt)
        rw [ho] at h
        dsimp only at h
        rw [hs] at h
        cases h
      · cases x with
        | tmp t =>
          have := look t (List.mem_append_left _ (List.mem_filterMap.2 ⟨.tmp t, by simpa using hx, rfl⟩))
          show a'.tmps.getD t undef = b.tmps.getD t undef
          rw [Array.getD_eq_getD_getElem?, Array.getD_eq_getD_getElem?, this]
        | _ => rfl
    have hwt : Region.wanted o (yielded l.toArray a'.tmps) = Region.wanted o (yielded l.toArray b.tmps) := by
      unfold Region.wanted
      cases hg : o.guard with
      | none => rfl
      | some gw =>
        obtain ⟨g, want⟩ := gw
        dsimp only
        rw [yielded_congr (fun d hd => look d ?_)]
        refine List.mem_append_right _ ?_
        rw [hg]
        dsimp only
        unfold dstOf at hd
        rw [hd]
        simp
    have hbs : b.tmps.size = a.tmps.size := by rw [hput, putTo_size]
    have same : ∀ v, slotD o (b.put o.dst v) = v := by
      intro v
      unfold slotD
      rw [hdo]
      have hlt : d < b.tmps.size := by rw [hbs]; exact hdl
      simp [Act.put, hlt]
    unfold wpOp
    rw [ho]
    dsimp only
    rw [hwt]
    unfold wpList at hD
    split
    · rename_i hw
      rw [if_pos hw] at hD
      rcases hD with hD | ⟨_, a9, w9, h9, _⟩
      · refine .inl ?_
        unfold Oper.wp at hD ⊢
        rw [hex]
        generalize (execOp b.eval o).run P W = r at hD ⊢
        cases r with
        | ok n w9 =>
          cases n with
          | value v => exact ⟨v, rfl, (by have := hD.2.1; rwa [same v] at this), hD.2.2.2, trivial⟩
          | skip => exact ⟨undef, rfl, (by have := hD.2.1; rwa [same undef] at this), hD.2.2.2, trivial⟩
          | defer dd =>
            exfalso
            have h3 : ({ b with defers := dd :: b.defers }.put o.dst undef).defers = b.defers := hD.2.2.1
            rw [put_defers'] at h3
            have := congrArg List.length h3
            simp at this
          | enter f args =>
            refine Calls.mono hD ?_
            intro e w8 h8
            cases e with
            | returned v => exact ⟨v, rfl, (by have := h8.2.1; rwa [same v] at this), h8.2.2.2, trivial⟩
            | panicked c => cases h8.1
            | outgrown => obtain ⟨_, _, h7, _⟩ := h8; cases h7
          | row r args =>
            refine Rows.mono hD ?_
            intro v w8 h8
            exact ⟨v, rfl, (by have := h8.2.1; rwa [same v] at this), h8.2.2.2, trivial⟩
          | _ => exact hD.elim
        | halt h w9 =>
          cases h with
          | panic v => exact absurd hD.1 (by intro h; cases h)
          | _ => exact hD.elim
      · cases h9
    · rename_i hw
      rw [if_neg hw] at hD
      exact ⟨undef, rfl, (by have := hD.2.1; rwa [same undef] at this), hD.2.2.2, trivial⟩
  · exact hend vals w' (hSk _ _ hS0 hG) hv
def IsV (c : Value) : Value → World → Prop := fun v _ => v = c
def Keeps (f : Value → World → Prop) : Prop := ∀ v w w', f v w → Below w.heap.size w w' → f v w'
theorem keeps_is (c : Value) : Keeps (IsV c) := fun _ _ _ h _ => h
def KeepAll : List (Value → World → Prop) → Prop
  | [] => True
  | f :: l => Keeps f ∧ KeepAll l
def DL (Ds : List (Value → World → Prop)) (i : Nat) (v : Value) (W : World) : Prop := Ds.getD i (fun _ _ => False) v W
theorem DL.keep : ∀ (Ds : List (Value → World → Prop)), KeepAll Ds → ∀ i v w w', DL Ds i v w → Below w.heap.size w w' → DL Ds i v w'
  | [], _, _, _, _, _, h, _ => h.elim
  | f :: l, hk, 0, v, w, w', h, hb => hk.1 v w w' h hb
  | f :: l, hk, i + 1, v, w, w', h, hb => DL.keep l hk.2 i v w w' h hb
end
end Go.Proofs.YtcjeddichookmaaGreatDoor
namespace Go.Proofs.YtcjeddichookmaaGreatDoor
open Go.RowKit Go.Sort
set_option linter.unusedVariables false
set_option linter.unusedSimpArgs false
set_option maxRecDepth 100000
theorem take_snocB (s : ByteArray) (k : Nat) (h : k < s.size) : s.data.toList.take (k + 1) = s.data.toList.take k ++ [s[k]] := by
  rw [List.take_succ_eq_append_getElem (by simpa using h)]; rfl
end Go.Proofs.YtcjeddichookmaaGreatDoor
