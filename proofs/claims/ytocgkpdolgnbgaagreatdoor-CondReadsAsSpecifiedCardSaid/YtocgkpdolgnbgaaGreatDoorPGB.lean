/- A range over a function whose iterator yields a known list of values and may write cells of its own (the relation T) between two rounds. (Turned from the kit's own law for iterators that only read.) -/
import Derived.Test.YtocgkpdolgnbgaaGreatDoorPBase
import Derived.RangeFuncNested
import Derived.RangeFuncBound
import Derived.RangeFuncCalls
import Derived.RangeFuncLeaves
import Derived.RangeFuncWrites
import Derived.OwnWalkIn
import Derived.TacticsInMore
import Derived.LoopNIn
import Derived.LoopIn
import Derived.Shelf.Abstract
import Derived.Shelf.RegionOpen
import Derived.Test.YtocgkpdolgnbgaaGreatDoorProg
import Derived.WalkKit
import Derived.WalkSpells
import Derived.WalkLawsBesides
import Derived.Below
import Derived.Deep.QuietTactic
import Derived.BigQuiet
import Derived.Lib.QuietBelow
import Derived.Lib.Strings
import Derived.Lib.Hide
import Derived.Deep.RegionWith
import Derived.Deep.RegionHeld3
import Derived.Lib.IndexBytes
import Derived.Test.YtocgkpdolgnbgaaGreatDoorPShelf
import Derived.Test.YtocgkpdolgnbgaaGreatDoorPGA
import Derived.RangeFuncBox
import Derived.Maps.AppendAt
import Derived.WalkSmall
import Derived.Shelf.SlGeneric
import Derived.Shelf.SlIter.Nil
import Derived.Shelf.SortM.Plain
import Derived.Shelf.SortM.SortNone
import Derived.Ground.GgzProg
import Derived.Ground.SlgmProg
import Derived.Shelf.SlIter.Sorted
import Derived.Lib.AppendStr
import Derived.Laws.IdiomStrings
import Derived.LoopTactic
import Derived.Maps.OwnIn
import Derived.Maps.StringElems
import Derived.Lib.Join
import Derived.Lib.SlicesCompact
import Derived.Lib.RowBridge
import Derived.Lib.Split
import Derived.Lib.CountLaws
namespace Go.Proofs.YtocgkpdolgnbgaaGreatDoor
open Go.RowKit Go.Sort
set_option linter.unusedVariables false
set_option linter.unusedSimpArgs false
def KeepsIn (lo hi : Nat) (W W' : World) : Prop := ∀ k, lo ≤ k → k < hi → W'.heap[k]? = W.heap[k]?
theorem KeepsIn.refl (lo hI0 : Nat) (W : World) : KeepsIn lo hI0 W W := fun _ _ _ => rfl
theorem KeepsIn.trans {lo hi : Nat} {A B C : World} (h : KeepsIn lo hi A B) (k : KeepsIn lo hi B C) : KeepsIn lo hi A C := fun i h1 h2 => (k i h1 h2).trans (h i h1 h2)
theorem Below.keepsIn {B lo hI0 : Nat} {W W' : World} (h : Below B W W') (hh : hI0 ≤ B) : KeepsIn lo hI0 W W' := fun k _ h2 => h.block k (by omega)
def Iter (P : Program) (gf : Nat) (lb : Array Value) (xs : List Value) (T : World → World → Prop) (lo hI0 : Nat) (w : World) : Prop :=
  ∀ (l : Nat) (J : Nat → World → Prop) (Jx : World → Prop) (W : World), Below w.heap.size w W → AbidesFrom W.heap.size J → (∀ k W W', J k W → T W W' → J k W') →
    (∀ k x W1, xs[k]? = some x → J k W1 → YieldAt Fence.wide 0 P l #[x] W1 fun e W' =>
      (e = .returned (.bool true) ∧ J (k + 1) W' ∧ KeepsIn lo hI0 W1 W') ∨ (e = .returned (.bool false) ∧ Jx W')) →
    J 0 W →
    CallsIn Fence.wide 0 P gf (#[.func (.yield l) #[] #[]] ++ lb) W fun e W' => (∃ v, e = .returned v) ∧ (J xs.length W' ∨ Jx W')
def roundPostI (B lo hI0 : Nat) (I : Nat → World → Prop) (Ix : Code → World → Prop) (k : Nat) (W : World) : Exit → Act → World → Prop
  | .normal, _, W' => KeepsFrom B W W' ∧ KeepsIn lo hI0 W W' ∧ I k W'
  | .ret, _, W' => KeepsFrom B W W' ∧ Ix .ret W'
  | .exit id, _, W' => KeepsFrom B W W' ∧ Ix (.exit id) W'
  | .goto t, _, W' => KeepsFrom B W W' ∧ Ix (.goto t) W'
  | .panic _, _, _ => False
  | .outgrown, _, _ => False
theorem range_law {P : Program} {g : Operand} {p : Tmp} {assign body : Code} {Q : Exit → Act → World → Prop} {a : Act} {w : World}
    {gf : Nat} {lb : Array Value} (hg : a.eval g = .func (.func gf) #[] lb) (eg : ∀ args w, (callFunc gf args).run P w = .ok (.enter gf args) w)
    {xs : List Value} {T : World → World → Prop} {lo hI0 : Nat} {w0 : World} (hseq : Iter P gf lb xs T lo hI0 w0) (hb0 : Below w0.heap.size w0 w) (hn : hI0 ≤ w.heap.size)
    (I : Nat → World → Prop) (Ix : Code → World → Prop) (hI : OwnFrom w.heap.size I) (hIx : ∀ c, OwnFrom w.heap.size (fun (_ : Unit) => Ix c)) (h0 : I 0 w)
    (hT : ∀ k W W', I k W → T W W' → I k W') (hTk : ∀ W W', T W W' → KeepsOthers W W') (a₁ : Value → Act)
    (hassign : ∀ (l : Nat) (x : Value) (W : World) (K : Act → World → Prop), x ∈ xs → K (a₁ x) W →
      assign.wpIn (Fence.wide.inRound l) 0 P (Exit.then K (fun _ _ _ => False)) { tmps := (#[p].zip #[x]).foldl (fun t (p, v) => t.setIfInBounds p v) a.tmps, defers := [] } W)
    (hbody : ∀ (l k : Nat) (x : Value) (W : World), xs[k]? = some x → I k W → body.wpIn (Fence.wide.inRound l) 0 P (roundPostI w.heap.size lo hI0 I Ix (k + 1) W) (a₁ x) W)
    (hdone : ∀ (D : Nat) (W : World), w.heap.size ≤ D → I xs.length W → W.heap[D]? = some (.deferred (some [])) → Q .normal { a with defers := { target := .collected D, args := #[] } :: a.defers } W)
    (hstop : ∀ (D : Nat) (c : Code) (W : World), w.heap.size ≤ D → Ix c W → W.heap[D]? = some (.deferred (some [])) → c.wpIn Fence.wide 0 P Q { a with defers := { target := .collected D, args := #[] } :: a.defers } W) :
    (Code.rangeFunc g #[p] assign body).wpIn Fence.wide 0 P Q a w := by
  refine wpIn_rangeFunc ?_
  intro fn hfn
  obtain ⟨rec, hrec⟩ : ∃ rec : LoopState → Option Code → Loop, rec = fun st pe => { state := st, pending := pe, fn, tmps := a.tmps, params := #[p], assign, body, defers := w.heap.size } := ⟨_, rfl⟩
  obtain ⟨W1, hW1⟩ : ∃ W1, (w.alloc (.deferred (some []))).alloc (.loop (rec .ready none)) = W1 := ⟨_, rfl⟩
  have hL1 : W1.heap[w.heap.size + 1]? = some (.loop (rec .ready none)) := by
    rw [← hW1]; have := World.alloc_heap_new (w.alloc (.deferred (some []))) (.loop (rec .ready none)); rwa [World.size_alloc] at this
  have hK1 : W1.heap[w.heap.size]? = some (.deferred (some [])) := by
    rw [← hW1]; exact (Below.heap_alloc _ _ _ (by simp)).trans (World.alloc_heap_new w _)
  have hI1 : I 0 W1 := by rw [← hW1]; exact hI.alloc _ (hI.alloc _ h0)
  have hb1 : Below w0.heap.size w0 W1 := by rw [← hW1]; exact balloc (balloc hb0 _) _
  have hbk : ∀ (W : World) (l : Nat) (o : Obj), w.heap.size ≤ l → l < W.heap.size → KeepsIn lo hI0 W (W.putObj l o) := fun W l o h1 h2 k _ hk => World.putObj_heap_other (by omega)
  refine ⟨w.heap.size + 1, [{ target := .collected w.heap.size, args := #[] }], W1, { target := .fn (.func gf) lb, args := #[.func (.yield (w.heap.size + 1)) #[] #[]] }, W1, gf,
    #[.func (.yield (w.heap.size + 1)) #[] #[]] ++ lb, W1, ?_, ?_, ?_, ?_, (fun h => (by cases h)), ?_⟩
  · rw [← hW1, hrec]; exact run_enterLoop_outer _ _ _ _ _
  · simp only [resolve, hg]
    simp [go_sem]
  · intro f' hf'; trivial
  · simp [invoke, go_sem, eg]
  · have hnw : ∀ {A B : World} {row : Option Nat}, (∀ r, row = some r → W1.heap.size ≤ r ∧ ∃ o : Obj, A.heap[r]? = some o ∧ o.isWalk = true) → (∀ r, row = some r → w.heap.size ≤ r ∧ ∃ o : Obj, A.heap[r]? = some o ∧ o.isCells = false) :=
      fun hr r e => by obtain ⟨hB, o, ho, hw⟩ := hr r e; exact ⟨by rw [← hW1] at hB; simp at hB; omega, o, ho, Obj.not_cells_of_walk hw⟩
    refine (hseq (w.heap.size + 1)
      (fun k W => I k W ∧ W.heap[w.heap.size + 1]? = some (.loop (rec .ready none)) ∧ W.heap[w.heap.size]? = some (.deferred (some [])))
      (fun W => ∃ c, Ix c W ∧ W.heap[w.heap.size + 1]? = some (.loop (rec .done (some c))) ∧ W.heap[w.heap.size]? = some (.deferred (some [])))
      W1 hb1
      (fun s A B row hs hg' hr => ⟨hI s A B row hs.1 hg' (hnw (B := B) hr), (grownBy_keeps hg' (fun r e => (hr r e).2) hs.2.1 rfl).trans hs.2.1, (grownBy_keeps hg' (fun r e => (hr r e).2) hs.2.2 rfl).trans hs.2.2⟩)
      (fun k A B hs ht => ⟨hT k A B hs.1 ht, (hTk A B ht).same _ _ hs.2.1 rfl, (hTk A B ht).same _ _ hs.2.2 rfl⟩)
      ?_ ⟨hI1, hL1, hK1⟩).mono ?_
    · rintro k x W hx ⟨hi, hl, hk⟩
      have hlt : w.heap.size + 1 < W.heap.size := (Array.getElem?_eq_some_iff.1 hl).1
      have hy := run_yield (P := P) (args := #[x]) hl (by rw [hrec]; rfl)
      rw [hrec] at hy
      refine ⟨fn, _, assign, body, hy, roundIn_of_wpIn hfn (hassign _ x W _ (List.mem_of_getElem? hx) ⟨_, run_beginRound hl (by rw [hrec]), ?_⟩)⟩
      have hl2 : (W.putObj (w.heap.size + 1) (.loop { rec .ready none with state := .busy })).heap[w.heap.size + 1]? = some (.loop { rec .ready none with state := .busy }) := World.putObj_heap_same hlt
      have hk2 : (W.putObj (w.heap.size + 1) (.loop { rec .ready none with state := .busy })).heap[w.heap.size]? = some (.deferred (some [])) := (World.putObj_heap_other (by omega)).trans hk
      have hw2 : KeepsIn lo hI0 W (W.putObj (w.heap.size + 1) (.loop { rec .ready none with state := .busy })) := hbk _ _ _ (by omega) hlt
      refine wpIn_mono (hbody _ k x _ hx (hI.putObj _ hi (by omega) hl rfl)) ?_
      have fin : ∀ (jump : Option Code) (W3 : World), KeepsFrom w.heap.size (W.putObj (w.heap.size + 1) (.loop { rec .ready none with state := .busy })) W3 →
          (Instr.endRound (w.heap.size + 1) jump).run P W3 = .ok (.bool jump.isNone) (W3.putObj (w.heap.size + 1) (.loop (rec (if jump.isNone then .ready else .done) jump))) ∧
          W3.heap[w.heap.size + 1]? = some (.loop { rec .ready none with state := .busy }) ∧
          (W3.putObj (w.heap.size + 1) (.loop (rec (if jump.isNone then .ready else .done) jump))).heap[w.heap.size + 1]? = some (.loop (rec (if jump.isNone then .ready else .done) jump)) ∧
          (W3.putObj (w.heap.size + 1) (.loop (rec (if jump.isNone then .ready else .done) jump))).heap[w.heap.size]? = some (.deferred (some [])) := fun jump W3 hk3 => by
        have hl3 := hk3.same _ _ (by omega) hl2 rfl
        have := run_endRound (P := P) jump hl3
        rw [hrec] at this ⊢
        exact ⟨this, by rw [hrec] at hl3; exact hl3, World.putObj_heap_same (Array.getElem?_eq_some_iff.1 hl3).1, (World.putObj_heap_other (by omega)).trans (hk3.same _ _ (Nat.le_refl _) hk2 rfl)⟩
      rintro e a3 W3 hp
      cases e with
      | normal =>
        obtain ⟨hk3, hkp3, hi3⟩ := hp
        obtain ⟨hr, hl3, hl4, hk4⟩ := fin none W3 hk3
        have hlt3 := (Array.getElem?_eq_some_iff.1 hl3).1
        exact ⟨_, _, hr, .inl ⟨rfl, ⟨hI.putObj _ hi3 (by omega) hl3 rfl, hl4, hk4⟩, (hw2.trans hkp3).trans (hbk _ _ _ (by omega) hlt3)⟩⟩
      | ret =>
        obtain ⟨hk3, hi3⟩ := hp
        obtain ⟨hr, hl3, hl4, hk4⟩ := fin (some .ret) W3 hk3
        exact ⟨_, _, hr, .inr ⟨rfl, .ret, (hIx _).putObj (s := ()) _ hi3 (by omega) hl3 rfl, hl4, hk4⟩⟩
      | exit id =>
        obtain ⟨hk3, hi3⟩ := hp
        obtain ⟨hr, hl3, hl4, hk4⟩ := fin (some (.exit id)) W3 hk3
        exact ⟨_, _, hr, .inr ⟨rfl, .exit id, (hIx _).putObj (s := ()) _ hi3 (by omega) hl3 rfl, hl4, hk4⟩⟩
      | goto t =>
        obtain ⟨hk3, hi3⟩ := hp
        obtain ⟨hr, hl3, hl4, hk4⟩ := fin (some (.goto t)) W3 hk3
        exact ⟨_, _, hr, .inr ⟨rfl, .goto t, (hIx _).putObj (s := ()) _ hi3 (by omega) hl3 rfl, hl4, hk4⟩⟩
      | panic ch => exact hp.elim
      | outgrown => exact hp.elim
    · rintro e W2 ⟨⟨v, rfl⟩, (⟨hi, hl, hk⟩ | ⟨c, hi, hl, hk⟩)⟩
      · exact ⟨none, _, by have := run_endLoop (P := P) hl (by rw [hrec]; simp); rw [hrec] at this; exact this, hdone _ _ (Nat.le_refl _) (hI.putObj _ hi (by omega) hl rfl) ((World.putObj_heap_other (by omega)).trans hk)⟩
      · exact ⟨some c, _, by have := run_endLoop (P := P) hl (by rw [hrec]; simp); rw [hrec] at this; exact this, hstop _ c _ (Nat.le_refl _) ((hIx c).putObj (s := ()) _ hi (by omega) hl rfl) ((World.putObj_heap_other (by omega)).trans hk)⟩
end Go.Proofs.YtocgkpdolgnbgaaGreatDoor
namespace Go.Proofs.YtocgkpdolgnbgaaGreatDoor
open Go.RowKit Go.Sort
set_option linter.unusedVariables false
set_option linter.unusedSimpArgs false
set_option maxRecDepth 100000
attribute [local go_sem] Oper.semAt_some
def splitL (c : UInt8) : List UInt8 → List (List UInt8)
  | [] => [[]]
  | b :: r => if b = c then [] :: splitL c r else match splitL c r with
    | [] => [[b]]
    | p :: ps => (b :: p) :: ps
theorem splitL_ne (c : UInt8) (l : List UInt8) : splitL c l ≠ [] := by
  cases l with
  | nil => simp [splitL]
  | cons b r => unfold splitL; split <;> (try split) <;> simp
theorem indexByte_cons (b c : UInt8) (l : List UInt8) : Lib.indexByte (b :: l) c = if b = c then 0 else if Lib.indexByte l c = -1 then -1 else Lib.indexByte l c + 1 := by
  rw [Lib.indexByte]; simp only [beq_iff_eq]
theorem indexByte_ge (c : UInt8) : ∀ l : List UInt8, -1 ≤ Lib.indexByte l c
  | [] => by simp [Lib.indexByte]
  | b :: l => by have := indexByte_ge c l; rw [indexByte_cons]; split <;> (try split) <;> omega
theorem splitL_miss (c : UInt8) : ∀ l : List UInt8, Lib.indexByte l c < 0 → splitL c l = [l]
  | [], _ => rfl
  | b :: r, h => by
    rw [indexByte_cons] at h
    have hg := indexByte_ge c r
    unfold splitL
    by_cases e : b = c
    · rw [if_pos e] at h; omega
    · rw [if_neg e] at h
      have hr : Lib.indexByte r c < 0 := by split at h <;> omega
      rw [if_neg e, splitL_miss c r hr]
theorem splitL_hit (c : UInt8) : ∀ (l : List UInt8) (i : Nat), Lib.indexByte l c = i → splitL c l = l.take i :: splitL c (l.drop (i + 1)) ∧ i < l.length
  | [], i, h => by simp [Lib.indexByte] at h
  | b :: r, i, h => by
    rw [indexByte_cons] at h
    have hg := indexByte_ge c r
    rw [splitL]
    by_cases e : b = c
    · rw [if_pos e] at h
      obtain rfl : i = 0 := by omega
      rw [if_pos e]
      simp
    · rw [if_neg e] at h ⊢
      by_cases h2 : Lib.indexByte r c = -1
      · rw [if_pos h2] at h; omega
      · rw [if_neg h2] at h
        obtain ⟨j, hj⟩ : ∃ j : Nat, Lib.indexByte r c = j := ⟨(Lib.indexByte r c).toNat, by omega⟩
        obtain rfl : i = j + 1 := by omega
        obtain ⟨e1, e2⟩ := splitL_hit c r j hj
        rw [e1]
        simp
        exact e2
def splitB (c : UInt8) (s : ByteArray) : List ByteArray := (splitL c s.data.toList).map fun l => ⟨l.toArray⟩
theorem bytes_ext {a b : ByteArray} (h : a.data.toList = b.data.toList) : a = b := by
  obtain ⟨⟨a⟩⟩ := a; obtain ⟨⟨b⟩⟩ := b; simp at h; rw [h]
theorem splitB_miss (c : UInt8) (s : ByteArray) (h : Lib.indexByte s.data.toList c < 0) : splitB c s = [s] := by
  unfold splitB; rw [splitL_miss c _ h]; rfl
theorem splitB_hit (c : UInt8) (s : ByteArray) (i : Nat) (h : Lib.indexByte s.data.toList c = i) : splitB c s = s.extract 0 i :: splitB c (s.extract (i + 1) s.size) ∧ i < s.size := by
  obtain ⟨e1, e2⟩ := splitL_hit c _ i h
  unfold splitB
  rw [e1, Lib.extract_to_end, List.map_cons]
  refine ⟨congrArg (· :: _) (bytes_ext ?_), by rw [Lib.size_eq]; exact e2⟩
  rw [Lib.extract_data]; simp
end Go.Proofs.YtocgkpdolgnbgaaGreatDoor
namespace Go.Proofs.YtocgkpdolgnbgaaGreatDoor
open Go.RowKit Go.Sort
set_option linter.unusedVariables false
set_option linter.unusedSimpArgs false
set_option maxRecDepth 100000
attribute [local go_sem] Oper.semAt_some
theorem infoStr : (Tryz.prog.info? 9).map (fun i => (i.zero, i.size, i.bytes)) = some (some (.string ⟨#[]⟩), 1, 16) := by kernel_rfl
theorem keepsOthers_of_below {W W' : World} (h : Below W.heap.size W W') : KeepsOthers W W' := ⟨h.size, fun k o hk _ => (h.block k (Array.getElem?_eq_some_iff.1 hk).1).trans hk⟩
theorem grown_of_below {W W' : World} (h : Below W.heap.size W W') : W.grownBy W' none := ⟨h.os, h.tape, h.output, h.size, fun k hk _ => h.block k hk⟩
theorem ownsRow_keep {W W' : World} {base : Nat} {e : TypeId} {size n : Nat} {v : Value} {xs : List Value} (h : W.ownsRow base e size v n xs) (hb : Below W.heap.size W W') : W'.ownsRow base e size v n xs := h.kept (row := none) (grown_of_below hb) (by cases h : v.ownBlock <;> simp)
theorem boxed_keep {W W' : World} {B : Nat} {t : TypeId} {v : Value} (h : Boxed W B t v) (hb : Below W.heap.size W W') : Boxed W' B t v := (hb.block B h.lt).trans h
theorem ownsRow_same {W W' : World} {base : Nat} {e : TypeId} {size n : Nat} {v : Value} {xs : List Value} (h : W.ownsRow base e size v n xs) (hs : ∀ k, base ≤ k → W'.heap[k]? = W.heap[k]?) : W'.ownsRow base e size v n xs := by
  obtain ⟨hl, h2⟩ := h
  refine ⟨hl, ?_⟩
  rcases h2 with h0 | ⟨g, cap, cur, hv, hg, hh, r⟩
  · exact .inl h0
  · exact .inr ⟨g, cap, cur, hv, hg, (hs g hg).trans hh, r⟩
theorem boxed_far {W : World} {B : Nat} {t : TypeId} {v : Value} (h : Boxed W B t v) {p : Addr} (hp : B ≠ p.block) (u : Value) : Boxed (W.setCell p u) B t v := (Below.heap_setCell W p u B hp).trans h
theorem ownsRow_cap {w : World} {base : Nat} {e : TypeId} {size n c : Nat} {A : Option Addr} {xs : List Value} (h : w.ownsRow base e size (.slice A n c) n xs) : n ≤ c := by
  rcases h.2 with ⟨h, h0⟩ | ⟨g, cap, cur, hv, _, _, hc, _⟩
  · omega
  · injection hv with _ _ hv; omega
theorem ownsRow_block {w : World} {base : Nat} {e : TypeId} {size n : Nat} {v : Value} {xs : List Value} (h : w.ownsRow base e size v n xs) (r : Nat) (hr : v.ownBlock = some r) : base ≤ r := by
  rcases h.2 with ⟨rfl, _⟩ | ⟨g, cap, cur, rfl, hg, _⟩
  · cases hr
  · injection hr with hr; subst hr; exact hg
end Go.Proofs.YtocgkpdolgnbgaaGreatDoor
namespace Go.Proofs.YtocgkpdolgnbgaaGreatDoor
open Go.RowKit Go.Sort
set_option linter.unusedVariables false
set_option linter.unusedSimpArgs false
set_option maxRecDepth 100000
attribute [local go_sem] Oper.semAt_some
theorem Reads.keepsIn {w w' : World} {size n hI0 : Nat} {A : Option Addr} {vs : List Value} (h : Reads w size A n vs) (hk : KeepsIn 0 hI0 w w') (hA : ∀ a, A = some a → 0 < n → a.block < hI0) : Reads w' size A n vs := by
  refine ⟨h.1, fun h0 => ?_⟩
  obtain ⟨b, o, rfl, hc⟩ := h.2 h0
  exact ⟨b, o, rfl, fun j u hu => (World.cell?_of_block (hk b (Nat.zero_le _) (hA _ rfl h0))).trans (hc j u hu)⟩
end Go.Proofs.YtocgkpdolgnbgaaGreatDoor
namespace Go.Proofs.YtocgkpdolgnbgaaGreatDoor
open Go.RowKit Go.Sort
set_option linter.unusedVariables false
set_option linter.unusedSimpArgs false
set_option maxRecDepth 100000
theorem sizeBuilder : (Tryz.prog.info? 148).map (·.size) = some 2 := by kernel_rfl
theorem liesBuilder : liesAt Tryz.prog Tryz.prog.depth 148 (2 / Tryz.prog.cellsOf 148) 0 148 1 = true := by kernel_rfl
theorem infoByte : (Tryz.prog.info? 5).map (fun i => (i.zero, i.size, i.bytes)) = some (some (.int .u8 0), 1, 1) := by kernel_rfl
end Go.Proofs.YtocgkpdolgnbgaaGreatDoor
namespace Go.Proofs.YtocgkpdolgnbgaaGreatDoor
open Go.RowKit Go.Sort
set_option linter.unusedVariables false
set_option linter.unusedSimpArgs false
set_option maxRecDepth 100000
def Blk (w : World) (g : Nat) (t : TypeId) (cs : Array Value) (fr : Nat × Nat) : Prop := w.heap[g]? = some (.cells cs t fr)
section
variable {w w' : World} {g : Nat} {t : TypeId} {cs : Array Value} {fr : Nat × Nat}
theorem Blk.lt (h : Blk w g t cs fr) : g < w.heap.size := by
  rcases Nat.lt_or_ge g w.heap.size with hlt | hge
  · exact hlt
  · unfold Blk at h; rw [Array.getElem?_eq_none hge] at h; cases h
theorem Blk.cell (h : Blk w g t cs fr) (i : Nat) : w.cell? ⟨g, i, none⟩ = cs[i]? := cell_of_row w g i cs t fr h
theorem Blk.keep (h : Blk w g t cs fr) (hb : Below w.heap.size w w') : Blk w' g t cs fr := (hb.block g h.lt).trans h
theorem Blk.set_ (h : Blk w g t cs fr) (i : Nat) (u : Value) : Blk (w.setCell ⟨g, i, none⟩ u) g t (cs.setIfInBounds i u) fr := by
  unfold Blk at h ⊢
  simp [World.setCell, Array.getElem?_modify, h]
end
end Go.Proofs.YtocgkpdolgnbgaaGreatDoor
namespace Go.Proofs.YtocgkpdolgnbgaaGreatDoor
open Go.RowKit Go.Sort
set_option linter.unusedVariables false
set_option linter.unusedSimpArgs false
set_option maxRecDepth 100000
def pathL (xs : List (List UInt8)) : List UInt8 := xs.flatMap fun p => 47 :: p
def pairCells (qs : List (ByteArray × ByteArray)) : List Value := qs.flatMap fun q => [.string q.1, .string q.2]
def lists (xs : List ByteArray) : List (List UInt8) := xs.map (·.data.toList)
end Go.Proofs.YtocgkpdolgnbgaaGreatDoor
namespace Go.Proofs.YtocgkpdolgnbgaaGreatDoor
open Go.RowKit Go.Sort
set_option linter.unusedVariables false
set_option linter.unusedSimpArgs false
set_option maxRecDepth 100000
attribute [local go_sem] Oper.semAt_some
open Go.Maps
def toB (l : List UInt8) : ByteArray := ⟨l.toArray⟩
theorem splitL_len (c : UInt8) : ∀ (l p : List UInt8), p ∈ splitL c l → p.length ≤ l.length
  | [], p, h => by simp [splitL] at h; simp [h]
  | b :: r, p, h => by
    unfold splitL at h
    have ih := splitL_len c r
    split at h
    · rcases List.mem_cons.1 h with rfl | h
      · simp
      · have := ih p h; simp; omega
    · split at h
      · simp at h; simp [h]
      · rename_i q ps e
        rcases List.mem_cons.1 h with rfl | h
        · have := ih q (by rw [e]; simp); simp; omega
        · have := ih p (by rw [e]; simp [h]); simp; omega
theorem splitL_num (c : UInt8) : ∀ l : List UInt8, (splitL c l).length ≤ l.length + 1
  | [] => by simp [splitL]
  | b :: r => by
    unfold splitL
    have ih := splitL_num c r
    split
    · simp; omega
    · split
      · simp
      · rename_i e; rw [e] at ih; simp at ih ⊢; omega
theorem splitB_size (c : UInt8) (s p : ByteArray) (h : p ∈ splitB c s) : p.size ≤ s.size := by
  obtain ⟨l, hl, rfl⟩ := List.mem_map.1 h
  have := splitL_len c _ l hl
  rw [Lib.size_eq s]
  exact this
theorem splitB_num (c : UInt8) (s : ByteArray) : (splitB c s).length ≤ s.size + 1 := by
  have := splitL_num c s.data.toList
  rw [Lib.size_eq s, splitB, List.length_map]
  exact this
theorem toB_size (l : List UInt8) : (toB l).size = l.length := rfl
theorem size_of_name {s : ByteArray} (h : isNameB s = true) : s.size ≤ 64 := by
  simp [isNameB, isWordB] at h; omega
def PairsPost (r : Option (List (ByteArray × ByteArray))) (w : World) (e : Ending) (w' : World) : Prop :=
  Below w.heap.size w w' ∧ match r with
    | none => e = .returned (.tuple #[.slice none 0 0, .bool false])
    | some out => ∃ A c, e = .returned (.tuple #[.slice A out.length c, .bool true]) ∧ Reads w' 2 A out.length (pairCells out) ∧ ∀ a, A = some a → w.heap.size ≤ a.block
end Go.Proofs.YtocgkpdolgnbgaaGreatDoor
namespace Go.Proofs.YtocgkpdolgnbgaaGreatDoor
open Go.RowKit Go.Sort
set_option linter.unusedVariables false
set_option linter.unusedSimpArgs false
set_option maxRecDepth 100000
theorem Reads.set_ {w : World} {size n : Nat} {A : Option Addr} {vs : List Value} (h : Reads w size A n vs) (p : Addr) (x : Value) (hp : ∀ a, A = some a → a.block ≠ p.block) : Reads (w.setCell p x) size A n vs := by
  refine ⟨h.1, fun hn => ?_⟩
  obtain ⟨b, o, rfl, hc⟩ := h.2 hn
  exact ⟨b, o, rfl, fun j u hu => (World.cell?_setCell_other w p ⟨b, o + j, none⟩ x (by intro e; exact hp _ rfl (by rw [e]))).trans (hc j u hu)⟩
end Go.Proofs.YtocgkpdolgnbgaaGreatDoor
namespace Go.Proofs.YtocgkpdolgnbgaaGreatDoor
open Go.RowKit Go.Sort
set_option linter.unusedVariables false
set_option linter.unusedSimpArgs false
set_option maxRecDepth 100000
theorem split_eq (c : UInt8) : ∀ (k : Nat) (s : ByteArray), Lib.countB s ⟨#[c]⟩ = k → Lib.splitB ⟨#[c]⟩ 0 k s = splitB c s
  | k, s, h => by
    have hidx : Lib.indexB s ⟨#[c]⟩ = Lib.indexByte s.data.toList c := Lib.index_one s.data.toList c
    by_cases hm : Lib.indexB s ⟨#[c]⟩ = -1
    · rw [Lib.splitB_miss _ _ _ _ hm, splitB_miss c s (by omega)]
    · have hge := Lib.index_ge s.data.toList [c]
      obtain ⟨i, hi⟩ : ∃ i : Nat, Lib.indexB s ⟨#[c]⟩ = i := by
        have : Lib.indexB s ⟨#[c]⟩ = Lib.index s.data.toList [c] := rfl
        exact ⟨(Lib.indexB s ⟨#[c]⟩).toNat, by omega⟩
      have hcount := Lib.countB_hit s ⟨#[c]⟩ i (Nat.le_refl _) hi
      cases k with
      | zero => omega
      | succ k =>
        rw [Lib.splitB_hit _ _ _ _ i hi, (splitB_hit c s i (by rw [← hidx]; exact hi)).1]
        rw [show i + 0 = i from rfl]
        congr 1
        exact split_eq c k _ (by omega)
theorem count_split (c : UInt8) (s : ByteArray) : Lib.countB s ⟨#[c]⟩ + 1 = (splitB c s).length := by
  rw [← split_eq c _ s rfl]
  exact (Lib.splitB_all ⟨#[c]⟩ (Nat.le_refl _) 0 _ s rfl).symm
theorem reads_new (w : World) (t : TypeId) (vs : List Value) (n : Nat) (hn : vs.length = n) : Reads (w.alloc (.cells vs.toArray t)) 1 (some ⟨w.heap.size, 0, none⟩) n vs :=
  ⟨by omega, fun _ => ⟨_, _, rfl, fun j u hu => by
    have := World.news_of_block (w := w.alloc (.cells vs.toArray t)) (World.alloc_heap_new w (.cells vs.toArray t)) j u (by simpa using hu)
    have hadd : (⟨w.heap.size, 0, none⟩ : Addr).add j = ⟨w.heap.size, 0 + j, none⟩ := by unfold Addr.add; split <;> simp_all
    rw [hadd] at this; exact this⟩⟩
def ListPost (ps : List ByteArray) (w : World) (e : Ending) (w' : World) : Prop := Below w.heap.size w w' ∧ ∃ A c, e = .returned (.slice A ps.length c) ∧ Reads w' 1 A ps.length (ps.map .string) ∧ (∀ a, A = some a → w.heap.size ≤ a.block) ∧ ps.length ≤ c
theorem split_any (s : ByteArray) (c : UInt8) (w : World) (hs : s.size ≤ 4294967200) (hE : Env w) : Calls Tryz.prog 60 #[.string s, .string ⟨#[c]⟩] w (ListPost (splitB c s) w) := by
  obtain ⟨m, hm⟩ := hE
  refine (Tryz.strings_Split s ⟨#[c]⟩ m w (by omega) hm (Nat.le_refl _)).mono ?_
  rintro e w' ⟨rfl, rfl⟩
  rw [count_split, split_eq c _ s rfl]
  exact ⟨balloc (Below.refl _ _) _, _, _, rfl, reads_new _ _ _ _ (by simp), fun a ha => by injection ha with ha; subst ha; exact Nat.le_refl _, Nat.le_refl _⟩
def SplitPost (r : List ByteArray × Int) (w : World) (e : Ending) (w' : World) : Prop := Below w.heap.size w w' ∧ ∃ A c, e = .returned (.tuple #[.slice A r.1.length c, .int .i64 r.2]) ∧ Reads w' 1 A r.1.length (r.1.map .string)
theorem SplitPost.none_ {w w' : World} {er : Int} (hb : Below w.heap.size w w') : SplitPost ([], er) w (.returned (.tuple #[.slice none 0 0, .int .i64 er])) w' := ⟨hb, none, 0, rfl, Reads.nil_ _ _ _⟩
end Go.Proofs.YtocgkpdolgnbgaaGreatDoor
