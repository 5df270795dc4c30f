/- A region that draws its order, whose operations yield the same in whatever order: each operation is run by itself against the frame that they all leave in the end. -/
import Derived.Test.YtmlhecjhjjlhfaaGreatDoorSZ7
import Derived.Test.YtmlhecjhjjlhfaaGreatDoorProg
import Derived.WalkKit
import Derived.WalkSpells
import Derived.WalkLawsBesides
import Derived.Below
import Derived.Deep.QuietTactic
import Derived.BigQuiet
import Derived.Lib.QuietBelow
import Derived.Lib.Strings
import Derived.Lib.Hide
import Derived.Deep.RegionWith
import Derived.Deep.RegionHeld3
import Derived.Lib.IndexBytes
namespace Go.Proofs.YtmlhecjhjjlhfaaGreatDoor
open Go.RowKit Go.Sort
set_option linter.unusedVariables false
set_option linter.unusedSimpArgs false
set_option maxRecDepth 100000
section
variable {P : Program} {Q : Exit → Act → World → Prop}
def Region.deps (ops : Array Oper) (md : Region.Mode) (m : Nat) : Bool :=
  (List.range m).all fun i => match ops[i]? with
    | none => false
    | some o => (match o.op with | .select .. => false | _ => true) && (o.looksAt ops).all fun t =>
      ((List.range m).all fun j => dstOf ops j != some t) || o.after.any fun e => Region.binds md e && decide (e.on < m) && dstOf ops e.on == some t
theorem putTo_succ (ops : Array Oper) (a1 : Act) (V : Nat → Value) (m : Nat) : putTo ops a1 V (m + 1) = (putTo ops a1 V m).put (dstOf ops m) (V m) := by
  unfold putTo
  rw [List.range_succ, List.foldl_append]; rfl
theorem put_size (a : Act) (d : Option Tmp) (v : Value) : (a.put d v).tmps.size = a.tmps.size := by
  cases d with
  | none => rfl
  | some d => simp [Act.put]
theorem put_defers' (a : Act) (d : Option Tmp) (v : Value) : (a.put d v).defers = a.defers := by
  cases d <;> rfl
theorem putTo_size (ops : Array Oper) (a1 : Act) (V : Nat → Value) : ∀ m, (putTo ops a1 V m).tmps.size = a1.tmps.size
  | 0 => rfl
  | m + 1 => by rw [putTo_succ, put_size]; exact putTo_size ops a1 V m
theorem putTo_off (ops : Array Oper) (a1 : Act) (V : Nat → Value) {t : Nat} : ∀ m, (∀ j, j < m → dstOf ops j ≠ some t) → (putTo ops a1 V m).tmps[t]? = a1.tmps[t]?
  | 0, _ => rfl
  | m + 1, h => by
    rw [putTo_succ]
    have ih := putTo_off ops a1 V m (fun j hj => h j (by omega))
    cases hd : dstOf ops m with
    | none => exact ih
    | some d =>
      have hne : d ≠ t := fun e => h m (by omega) (by rw [hd, e])
      simp only [Act.put, Array.getElem?_setIfInBounds_ne hne]
      exact ih
theorem putTo_at (ops : Array Oper) (a1 : Act) (V : Nat → Value) {t : Nat} (ht : t < a1.tmps.size) : ∀ m, (∀ i j, i < m → j < m → dstOf ops i = some t → dstOf ops j = some t → i = j) → ∀ j, j < m → dstOf ops j = some t → (putTo ops a1 V m).tmps[t]? = some (V j)
  | 0, _, _, hj, _ => by omega
  | m + 1, h, j, hj, hjt => by
    rw [putTo_succ]
    by_cases hjm : j = m
    · subst hjm
      rw [hjt]
      have : t < (putTo ops a1 V j).tmps.size := by rw [putTo_size]; exact ht
      simp [Act.put, this]
    · have hne : dstOf ops m ≠ some t := fun e => hjm (h j m hj (by omega) hjt e)
      have ih := putTo_at ops a1 V ht m (fun i j hi hj => h i j (by omega) (by omega)) j (by omega) hjt
      cases hd : dstOf ops m with
      | none => exact ih
      | some d =>
        have hne2 : d ≠ t := fun e => hne (by rw [hd, e])
        simp only [Act.put, Array.getElem?_setIfInBounds_ne hne2]
        exact ih
theorem putL_congr : ∀ (l : List Oper) (V V' : Nat → Value) (k : Nat) (a : Act), (∀ j, j < l.length → V (k + j) = V' (k + j)) → putL l V k a = putL l V' k a
  | [], _, _, _, _, _ => rfl
  | o :: l, V, V', k, a, h => by
    unfold putL
    rw [show V k = V' k from h 0 (by simp)]
    exact putL_congr l V V' (k + 1) _ (fun j hj => by have := h (j + 1) (by simpa using hj); rwa [show k + (j + 1) = k + 1 + j by omega] at this)
theorem ops_of {S : Nat → Oper → Prop} : ∀ (l : List Oper) (k : Nat), (∀ i o, l[i]? = some o → S (k + i) o) → OpsOk S k l
  | [], _, _ => trivial
  | o :: l, k, h => ⟨h 0 o rfl, ops_of l (k + 1) (fun i o' ho => by have := h (i + 1) o' ho; rwa [show k + (i + 1) = k + 1 + i by omega] at this)⟩
def QD (b : Act) (w : World) : Exit → Act → World → Prop := fun e a' w' => e = .normal ∧ a' = b ∧ Below w.heap.size w w'
def DetAll (P : Program) (ops : Array Oper) (S : World → Prop) (b : Act) : List Oper → Prop
  | [] => True
  | o :: l => (∀ W, S W → wpList P ops (QD b W) [o] b W) ∧ DetAll P ops S b l
theorem det_at {ops : Array Oper} {S : World → Prop} {b : Act} : ∀ (l : List Oper), DetAll P ops S b l → ∀ (i : Nat) (o : Oper), l[i]? = some o → ∀ W, S W → wpList P ops (QD b W) [o] b W
  | [], _, i, o, h => by simp at h
  | o :: l, h, 0, o', ho => by
    obtain rfl : o = o' := by simpa using ho
    exact h.1
  | _ :: l, h, i + 1, o', ho => det_at l h.2 i o' (by simpa using ho)
theorem yielded_congr {ops : Array Oper} {t t' : Array Value} {j : Nat} (h : ∀ d, dstOf ops j = some d → t[d]? = t'[d]?) : yielded ops t j = yielded ops t' j := by
  unfold yielded
  show (match (dstOf ops j).bind (t[·]?) with | some (.bool b) => some b | _ => none) = (match (dstOf ops j).bind (t'[·]?) with | some (.bool b) => some b | _ => none)
  cases hd : dstOf ops j with
  | none => rfl
  | some d => simp only [Option.bind_some, h d hd]
theorem wp_det {l : List Oper} (m : Nat) {id : Nat} {a : Act} {w : World} (hm : P.follows .mixedOrders = true) (hB : Region.freeB .any l m a.tmps.size = true) (hdep : Region.deps l.toArray .any m = true)
    (V : Nat → Value) (S : World → Prop) (hS0 : S { w with drawn := w.drawn + 1 }) (hSk : ∀ w w', S w → Below w.heap.size w w' → S w')
    (hops : DetAll P l.toArray S (putL (l.take m) V 0 a) (l.take m))
    (hend : ∀ w', S w' → wpList P l.toArray Q (l.drop m) (putL (l.take m) V 0 a) w') : (Code.region id l.toArray true).wp P Q a w := by
  have hB2 := hB
  unfold Region.freeB at hB2
  simp only [Bool.and_eq_true, decide_eq_true_eq] at hB2
  obtain ⟨⟨⟨hml, hf⟩, _⟩, _⟩ := hB2
  have fair : ∀ i, i < m → ∃ o d, l[i]? = some o ∧ (∀ e ∈ o.after, e.on < i) ∧ o.dst = some d ∧ d < a.tmps.size ∧ ∀ j, j ≠ i → dstOf l.toArray j ≠ some d := by
    intro i hi
    have h := List.all_eq_true.1 hf i (List.mem_range.2 hi)
    cases ho : l[i]? with
    | none => rw [List.getElem?_toArray, ho] at h; cases h
    | some o =>
      rw [List.getElem?_toArray, ho] at h
      dsimp only at h
      rw [Bool.and_eq_true, Array.all_eq_true'] at h
      cases hd : o.dst with
      | none => rw [hd] at h; cases h.2
      | some d =>
        refine ⟨o, d, rfl, fun e he => by simpa using h.1 e he, hd, ?_⟩
        have h2 := h.2
        rw [hd] at h2
        dsimp only at h2
        rw [Bool.and_eq_true, decide_eq_true_eq, List.all_eq_true] at h2
        refine ⟨h2.1, fun j hj => ?_⟩
        rcases Nat.lt_or_ge j l.toArray.size with hl | hl
        · have := h2.2 j (List.mem_range.2 hl)
          simp only [Bool.or_eq_true, beq_iff_eq, bne_iff_ne] at this
          exact this.resolve_left (fun e => hj e.symm)
        · unfold dstOf
          rw [Array.getElem?_eq_none hl]
          simp
  have hput : putL (l.take m) V 0 a = putTo l.toArray a V m := by
    unfold putTo
    have := putL_eq l.toArray (l.take m) V 0 a (fun j hj => by
      rw [List.getElem?_take_of_lt (by simp at hj; omega)]
      simp)
    rw [List.length_take, Nat.min_eq_left hml] at this
    rw [← this, List.range_eq_range']
  generalize hb : putL (l.take m) V 0 a = b at *
  refine wp_free m hm hB (fun a b => Below a.heap.size a b) (fun a => Below.refl _ _) (fun a b c h k => h.trans (k.mono h.size)) (fun i v _ => v = V i) (fun _ _ _ _ h _ => h) (fun _ _ => True) trivial (ops_of _ _ (fun i o hi => ?_)) (fun vals w' hG _ hv => ?_)
  · rw [Nat.zero_add]
    intro ho L a' W _ _ _ _ hG hA hd
    have hilt : i < m := by
      have := (List.getElem?_eq_some_iff.1 hi).1
      rw [List.length_take] at this; omega
    have hSW : S W := hSk _ _ hS0 hG
    have hD := det_at _ hops i o hi W hSW
    obtain ⟨o', d, ho', hback, hdo, hdl, hdd⟩ := fair i hilt
    obtain rfl : o = o' := by rw [List.getElem?_toArray] at ho; exact Option.some.inj (ho.symm.trans ho')
    have hdist : ∀ t i j, i < m → j < m → dstOf l.toArray i = some t → dstOf l.toArray j = some t → i = j := by
      intro t i j hi hj h1 h2
      obtain ⟨oi, di, hoi, _, hdi, _, hddi⟩ := fair i hi
      have e1 : dstOf l.toArray i = some di := by unfold dstOf; rw [List.getElem?_toArray, hoi]; exact hdi
      by_cases hij : j = i
      · exact hij.symm
      · exact absurd (by rw [h2, ← h1, e1]) (hddi j hij)
    have look : ∀ t ∈ o.looksAt l.toArray, a'.tmps[t]? = b.tmps[t]? := by
      intro t ht
      have h := List.all_eq_true.1 hdep i (List.mem_range.2 hilt)
      rw [ho] at h
      dsimp only at h
      rw [Bool.and_eq_true, List.all_eq_true] at h
      have h2 := h.2 t ht
      rw [Bool.or_eq_true] at h2
      rcases h2 with h2 | h2
      · have hoff : ∀ j, j < m → dstOf l.toArray j ≠ some t := fun j hj => by
          have := List.all_eq_true.1 h2 j (List.mem_range.2 hj)
          simpa using this
        rw [hA.off t hoff, hput, putTo_off _ _ _ m hoff]
      · rw [Array.any_eq_true'] at h2
        obtain ⟨e, he, h2⟩ := h2
        rw [Bool.and_eq_true, Bool.and_eq_true, decide_eq_true_eq, beq_iff_eq] at h2
        obtain ⟨⟨hbd, hem⟩, hdt⟩ := h2
        have hv : slotOf l.toArray a' e.on = V e.on := hd e he hbd
        obtain ⟨oe, de, hoe, _, hde, hdel, _⟩ := fair e.on hem
        have e1 : dstOf l.toArray e.on = some de := by unfold dstOf; rw [List.getElem?_toArray, hoe]; exact hde
        obtain rfl : de = t := Option.some.inj (e1.symm.trans hdt)
        unfold slotOf at hv
        rw [e1] at hv
        dsimp only at hv
        rw [hput, putTo_at _ _ _ hdel m (hdist de) e.on hem e1]
        have hlt : de < a'.tmps.size := by rw [hA.size]; exact hdel
        rw [Array.getD_eq_getD_getElem?, Array.getElem?_eq_getElem hlt] at hv
        rw [Array.getElem?_eq_getElem hlt, ← hv]
        rfl
    have hex : execOp a'.eval o = execOp b.eval o := by
      refine execOp_congr o (fun cs bl hs => ?_) (fun x hx => ?_)
      · have h := List.all_eq_true.1 hdep i (List.mem_range.2 hilt)
        rw [ho] at h
        dsimp only at h
        rw [hs] at h
        cases h
      · cases x with
        | tmp t =>
          have := look t (List.mem_append_left _ (List.mem_filterMap.2 ⟨.tmp t, by simpa using hx, rfl⟩))
          show a'.tmps.getD t undef = b.tmps.getD t undef
          rw [Array.getD_eq_getD_getElem?, Array.getD_eq_getD_getElem?, this]
        | _ => rfl
    have hwt : Region.wanted o (yielded l.toArray a'.tmps) = Region.wanted o (yielded l.toArray b.tmps) := by
      unfold Region.wanted
      cases hg : o.guard with
      | none => rfl
      | some gw =>
        obtain ⟨g, want⟩ := gw
        dsimp only
        rw [yielded_congr (fun d hd => look d ?_)]
        refine List.mem_append_right _ ?_
        rw [hg]
        dsimp only
        unfold dstOf at hd
        rw [hd]
        simp
    have hbd : b.tmps[d]? = some (V i) := by
      have e1 : dstOf l.toArray i = some d := by unfold dstOf; rw [ho]; exact hdo
      rw [hput, putTo_at _ _ _ hdl m (hdist d) i hilt e1]
    have hbs : b.tmps.size = a.tmps.size := by rw [hput, putTo_size]
    have same : ∀ v, b.put o.dst v = b → v = V i := by
      intro v hv
      rw [hdo] at hv
      have h3 : (b.put (some d) v).tmps[d]? = some (V i) := by rw [hv]; exact hbd
      have hlt : d < b.tmps.size := by rw [hbs]; exact hdl
      simp [Act.put, hlt] at h3
      exact h3
    unfold wpOp
    rw [ho]
    dsimp only
    rw [hwt]
    unfold wpList at hD
    split
    · rename_i hw
      rw [if_pos hw] at hD
      rcases hD with hD | ⟨_, a9, w9, h9, _⟩
      · refine .inl ?_
        unfold Oper.wp at hD ⊢
        rw [hex]
        generalize (execOp b.eval o).run P W = r at hD ⊢
        cases r with
        | ok n w9 =>
          cases n with
          | value v => exact ⟨v, rfl, same v hD.2.1, hD.2.2, trivial⟩
          | skip => exact ⟨undef, rfl, same undef hD.2.1, hD.2.2, trivial⟩
          | defer dd =>
            exfalso
            have h3 : ({ b with defers := dd :: b.defers }.put o.dst undef).defers = b.defers := congrArg Act.defers hD.2.1
            rw [put_defers'] at h3
            have := congrArg List.length h3
            simp at this
          | enter f args =>
            refine Calls.mono hD ?_
            intro e w8 h8
            cases e with
            | returned v => exact ⟨v, rfl, same v h8.2.1, h8.2.2, trivial⟩
            | panicked c => cases h8.1
            | outgrown => obtain ⟨_, _, h7, _⟩ := h8; cases h7
          | row r args =>
            refine Rows.mono hD ?_
            intro v w8 h8
            exact ⟨v, rfl, same v h8.2.1, h8.2.2, trivial⟩
          | _ => exact hD.elim
        | halt h w9 =>
          cases h with
          | panic v => exact absurd hD.1 (by intro h; cases h)
          | _ => exact hD.elim
      · cases h9
    · rename_i hw
      rw [if_neg hw] at hD
      exact ⟨undef, rfl, same undef hD.2.1, hD.2.2, trivial⟩
  · have e : putL (l.take m) vals 0 a = b := by
      rw [← hb]
      refine putL_congr _ _ _ _ _ (fun j hj => ?_)
      rw [Nat.zero_add]
      exact hv j (by rw [List.length_take] at hj; omega)
    rw [e]
    exact hend w' (hSk _ _ hS0 hG)
def DepsL (D : Nat → Value → World → Prop) (vals : Nat → Value) (W : World) : List Edge → Prop
  | [] => True
  | e :: r => (match Region.binds .any e with
    | true => D e.on (vals e.on) W
    | false => True) ∧ DepsL D vals W r
theorem depsL_of {D : Nat → Value → World → Prop} {vals : Nat → Value} {W : World} : ∀ l : List Edge, (∀ e ∈ l, Region.binds .any e = true → D e.on (vals e.on) W) → DepsL D vals W l
  | [], _ => trivial
  | e :: r, h => ⟨by
      cases hb : Region.binds .any e with
      | true => exact h e (by simp) hb
      | false => trivial, depsL_of r (fun e' he' hb => h e' (by simp [he']) hb)⟩
def slotD (o : Oper) (a : Act) : Value := match o.dst with
  | some d => a.tmps.getD d undef
  | none => undef
def QV (D : Nat → Value → World → Prop) (i : Nat) (o : Oper) (ds : List Deferred) (w : World) : Exit → Act → World → Prop := fun e a' w' => e = .normal ∧ D i (slotD o a') w' ∧ a'.defers = ds ∧ Below w.heap.size w w'
def DetD (P : Program) (ops : Array Oper) (S : World → Prop) (D : Nat → Value → World → Prop) (fr : (Nat → Value) → Act) : Nat → List Oper → Prop
  | _, [] => True
  | i, o :: l => (∀ vals W, S W → DepsL D vals W o.after.toList → wpList P ops (QV D i o (fr vals).defers W) [o] (fr vals) W) ∧ DetD P ops S D fr (i + 1) l
theorem detD_at {ops : Array Oper} {S : World → Prop} {D : Nat → Value → World → Prop} {fr : (Nat → Value) → Act} : ∀ (l : List Oper) (k : Nat), DetD P ops S D fr k l → ∀ (i : Nat) (o : Oper), l[i]? = some o → ∀ vals W, S W → DepsL D vals W o.after.toList → wpList P ops (QV D (k + i) o (fr vals).defers W) [o] (fr vals) W
  | [], _, _, i, o, h => by simp at h
  | o :: l, k, h, 0, o', ho => by
    obtain rfl : o = o' := by simpa using ho
    exact h.1
  | _ :: l, k, h, i + 1, o', ho => by
    have := detD_at l (k + 1) h.2 i o' (by simpa using ho)
    rwa [show k + 1 + i = k + (i + 1) by omega] at this
theorem wp_detD {l : List Oper} (m : Nat) {id : Nat} {a : Act} {w : World} (hm : P.follows .mixedOrders = true) (hB : Region.freeB .any l m a.tmps.size = true) (hdep : Region.deps l.toArray .any m = true)
    (D : Nat → Value → World → Prop) (hDk : ∀ i v w w', D i v w → Below w.heap.size w w' → D i v w') (S : World → Prop) (hS0 : S { w with drawn := w.drawn + 1 }) (hSk : ∀ w w', S w → Below w.heap.size w w' → S w')
    (hops : DetD P l.toArray S D (fun vals => putL (l.take m) vals 0 a) 0 (l.take m))
    (hend : ∀ vals w', S w' → (∀ j, j < m → D j (vals j) w') → wpList P l.toArray Q (l.drop m) (putL (l.take m) vals 0 a) w') : (Code.region id l.toArray true).wp P Q a w := by
  have hB2 := hB
  unfold Region.freeB at hB2
  simp only [Bool.and_eq_true, decide_eq_true_eq] at hB2
  obtain ⟨⟨⟨hml, hf⟩, _⟩, _⟩ := hB2
  have fair : ∀ i, i < m → ∃ o d, l[i]? = some o ∧ (∀ e ∈ o.after, e.on < i) ∧ o.dst = some d ∧ d < a.tmps.size ∧ ∀ j, j ≠ i → dstOf l.toArray j ≠ some d := by
    intro i hi
    have h := List.all_eq_true.1 hf i (List.mem_range.2 hi)
    cases ho : l[i]? with
    | none => rw [List.getElem?_toArray, ho] at h; cases h
    | some o =>
      rw [List.getElem?_toArray, ho] at h
      dsimp only at h
      rw [Bool.and_eq_true, Array.all_eq_true'] at h
      cases hd : o.dst with
      | none => rw [hd] at h; cases h.2
      | some d =>
        refine ⟨o, d, rfl, fun e he => by simpa using h.1 e he, hd, ?_⟩
        have h2 := h.2
        rw [hd] at h2
        dsimp only at h2
        rw [Bool.and_eq_true, decide_eq_true_eq, List.all_eq_true] at h2
        refine ⟨h2.1, fun j hj => ?_⟩
        rcases Nat.lt_or_ge j l.toArray.size with hl | hl
        · have := h2.2 j (List.mem_range.2 hl)
          simp only [Bool.or_eq_true, beq_iff_eq, bne_iff_ne] at this
          exact this.resolve_left (fun e => hj e.symm)
        · unfold dstOf
          rw [Array.getElem?_eq_none hl]
          simp
  have hput : ∀ V, putL (l.take m) V 0 a = putTo l.toArray a V m := by
    intro V
    unfold putTo
    have := putL_eq l.toArray (l.take m) V 0 a (fun j hj => by
      rw [List.getElem?_take_of_lt (by simp at hj; omega)]
      simp)
    rw [List.length_take, Nat.min_eq_left hml] at this
    rw [← this, List.range_eq_range']
  refine wp_free m hm hB (fun a b => Below a.heap.size a b) (fun a => Below.refl _ _) (fun a b c h k => h.trans (k.mono h.size)) D (fun i v w w' h hb => hDk i v w w' h hb) (fun _ _ => True) trivial (ops_of _ _ (fun i o hi => ?_)) (fun vals w' hG _ hv => ?_)
  · rw [Nat.zero_add]
    intro ho L a' W _ _ _ _ hG hA hd
    have hilt : i < m := by
      have := (List.getElem?_eq_some_iff.1 hi).1
      rw [List.length_take] at this; omega
    have hSW : S W := hSk _ _ hS0 hG
    obtain ⟨V, hV⟩ : ∃ V : Nat → Value, V = fun j => slotOf l.toArray a' j := ⟨_, rfl⟩
    have hD := detD_at _ _ hops i o hi V W hSW (depsL_of _ (fun e he hb => by rw [hV]; exact hd e (by simpa using he) hb))
    rw [Nat.zero_add] at hD
    generalize hb : putL (l.take m) V 0 a = b at *
    have hput := hput V
    rw [hb] at hput
    obtain ⟨o', d, ho', hback, hdo, hdl, hdd⟩ := fair i hilt
    obtain rfl : o = o' := by rw [List.getElem?_toArray] at ho; exact Option.some.inj (ho.symm.trans ho')
    have hdist : ∀ t i j, i < m → j < m → dstOf l.toArray i = some t → dstOf l.toArray j = some t → i = j := by
      intro t i j hi hj h1 h2
      obtain ⟨oi, di, hoi, _, hdi, _, hddi⟩ := fair i hi
      have e1 : dstOf l.toArray i = some di := by unfold dstOf; rw [List.getElem?_toArray, hoi]; exact hdi
      by_cases hij : j = i
      · exact hij.symm
      · exact absurd (by rw [h2, ← h1, e1]) (hddi j hij)
    have look : ∀ t ∈ o.looksAt l.toArray, a'.tmps[t]? = b.tmps[t]? := by
      intro t ht
      have h := List.all_eq_true.1 hdep i (List.mem_range.2 hilt)
      rw [ho] at h
      dsimp only at h
      rw [Bool.and_eq_true, List.all_eq_true] at h
      have h2 := h.2 t ht
      rw [Bool.or_eq_true] at h2
      rcases h2 with h2 | h2
      · have hoff : ∀ j, j < m → dstOf l.toArray j ≠ some t := fun j hj => by
          have := List.all_eq_true.1 h2 j (List.mem_range.2 hj)
          simpa using this
        rw [hA.off t hoff, hput, putTo_off _ _ _ m hoff]
      · rw [Array.any_eq_true'] at h2
        obtain ⟨e, he, h2⟩ := h2
        rw [Bool.and_eq_true, Bool.and_eq_true, decide_eq_true_eq, beq_iff_eq] at h2
        obtain ⟨⟨hbd, hem⟩, hdt⟩ := h2
        have hv : slotOf l.toArray a' e.on = V e.on := by rw [hV]
        obtain ⟨oe, de, hoe, _, hde, hdel, _⟩ := fair e.on hem
        have e1 : dstOf l.toArray e.on = some de := by unfold dstOf; rw [List.getElem?_toArray, hoe]; exact hde
        obtain rfl : de = t := Option.some.inj (e1.symm.trans hdt)
        unfold slotOf at hv
        rw [e1] at hv
        dsimp only at hv
        rw [hput, putTo_at _ _ _ hdel m (hdist de) e.on hem e1]
        have hlt : de < a'.tmps.size := by rw [hA.size]; exact hdel
        rw [Array.getD_eq_getD_getElem?, Array.getElem?_eq_getElem hlt] at hv
        rw [Array.getElem?_eq_getElem hlt, ← hv]
        rfl
    have hex : execOp a'.eval o = execOp b.eval o := by
      refine execOp_congr o (fun cs bl hs => ?_) (fun x hx => ?_)
      · have h := List.all_eq_true.1 hdep i (List.mem_range.2 hilt)
        rw [ho] at h
        dsimp only at h
        rw [hs] at h
        cases h
      · cases x with
        | tmp t =>
          have := look t (List.mem_append_left _ (List.mem_filterMap.2 ⟨.tmp t, by simpa using hx, rfl⟩))
          show a'.tmps.getD t undef = b.tmps.getD t undef
          rw [Array.getD_eq_getD_getElem?, Array.getD_eq_getD_getElem?, this]
        | _ => rfl
    have hwt : Region.wanted o (yielded l.toArray a'.tmps) = Region.wanted o (yielded l.toArray b.tmps) := by
      unfold Region.wanted
      cases hg : o.guard with
      | none => rfl
      | some gw =>
        obtain ⟨g, want⟩ := gw
        dsimp only
        rw [yielded_congr (fun d hd => look d ?_)]
        refine List.mem_append_right _ ?_
        rw [hg]
        dsimp only
        unfold dstOf at hd
        rw [hd]
        simp
    have hbs : b.tmps.size = a.tmps.size := by rw [hput, putTo_size]
    have same : ∀ v, slotD o (b.put o.dst v) = v := by
      intro v
      unfold slotD
      rw [hdo]
      have hlt : d < b.tmps.size := by rw [hbs]; exact hdl
      simp [Act.put, hlt]
    unfold wpOp
    rw [ho]
    dsimp only
    rw [hwt]
    unfold wpList at hD
    split
    · rename_i hw
      rw [if_pos hw] at hD
      rcases hD with hD | ⟨_, a9, w9, h9, _⟩
      · refine .inl ?_
        unfold Oper.wp at hD ⊢
        rw [hex]
        generalize (execOp b.eval o).run P W = r at hD ⊢
        cases r with
        | ok n w9 =>
          cases n with
          | value v => exact ⟨v, rfl, (by have := hD.2.1; rwa [same v] at this), hD.2.2.2, trivial⟩
          | skip => exact ⟨undef, rfl, (by have := hD.2.1; rwa [same undef] at this), hD.2.2.2, trivial⟩
          | defer dd =>
            exfalso
            have h3 : ({ b with defers := dd :: b.defers }.put o.dst undef).defers = b.defers := hD.2.2.1
            rw [put_defers'] at h3
            have := congrArg List.length h3
            simp at this
          | enter f args =>
            refine Calls.mono hD ?_
            intro e w8 h8
            cases e with
            | returned v => exact ⟨v, rfl, (by have := h8.2.1; rwa [same v] at this), h8.2.2.2, trivial⟩
            | panicked c => cases h8.1
            | outgrown => obtain ⟨_, _, h7, _⟩ := h8; cases h7
          | row r args =>
            refine Rows.mono hD ?_
            intro v w8 h8
            exact ⟨v, rfl, (by have := h8.2.1; rwa [same v] at this), h8.2.2.2, trivial⟩
          | _ => exact hD.elim
        | halt h w9 =>
          cases h with
          | panic v => exact absurd hD.1 (by intro h; cases h)
          | _ => exact hD.elim
      · cases h9
    · rename_i hw
      rw [if_neg hw] at hD
      exact ⟨undef, rfl, (by have := hD.2.1; rwa [same undef] at this), hD.2.2.2, trivial⟩
  · exact hend vals w' (hSk _ _ hS0 hG) hv
def IsV (c : Value) : Value → World → Prop := fun v _ => v = c
def Keeps (f : Value → World → Prop) : Prop := ∀ v w w', f v w → Below w.heap.size w w' → f v w'
theorem keeps_is (c : Value) : Keeps (IsV c) := fun _ _ _ h _ => h
def KeepAll : List (Value → World → Prop) → Prop
  | [] => True
  | f :: l => Keeps f ∧ KeepAll l
def DL (Ds : List (Value → World → Prop)) (i : Nat) (v : Value) (W : World) : Prop := Ds.getD i (fun _ _ => False) v W
theorem DL.keep : ∀ (Ds : List (Value → World → Prop)), KeepAll Ds → ∀ i v w w', DL Ds i v w → Below w.heap.size w w' → DL Ds i v w'
  | [], _, _, _, _, _, h, _ => h.elim
  | f :: l, hk, 0, v, w, w', h, hb => hk.1 v w w' h hb
  | f :: l, hk, i + 1, v, w, w', h, hb => DL.keep l hk.2 i v w w' h hb
end
end Go.Proofs.YtmlhecjhjjlhfaaGreatDoor
