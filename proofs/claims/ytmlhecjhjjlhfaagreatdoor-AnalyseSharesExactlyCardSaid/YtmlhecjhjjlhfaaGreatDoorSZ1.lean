/- The words that all texts of this proof use: what a call leaves ('Ret', 'Out'), what a slice reads as ('Reads'), how it stays read. -/
import Derived.Deep.AppendLies
import Derived.Laws.OwnMore
import Derived.Deep.Draws
import Derived.Test.YtmlhecjhjjlhfaaGreatDoorProg
import Derived.WalkKit
import Derived.WalkSpells
import Derived.WalkLawsBesides
import Derived.Below
import Derived.Deep.QuietTactic
import Derived.BigQuiet
import Derived.Lib.QuietBelow
import Derived.Lib.Strings
import Derived.Lib.Hide
import Derived.Deep.RegionWith
import Derived.Deep.RegionHeld3
import Derived.Lib.IndexBytes
import Derived.Maps.Views
import Derived.Sort.KeysCollected
import Derived.RangeFuncNested
import Derived.RangeFuncBound
import Derived.RangeFuncCalls
import Derived.RangeFuncLeaves
import Derived.RangeFuncWrites
import Derived.OwnWalkIn
import Derived.TacticsInMore
import Derived.LoopNIn
import Derived.LoopIn
import Derived.Shelf.Abstract
import Derived.Shelf.RegionOpen
import Derived.Shelf.SlGeneric
import Derived.Shelf.SlIter.Nil
import Derived.Shelf.SortM.Plain
import Derived.Shelf.SortM.SortNone
import Derived.Ground.GgzProg
import Derived.Ground.SlgmProg
namespace Go.Proofs.YtmlhecjhjjlhfaaGreatDoor
open Go.RowKit Go.Sort
set_option linter.unusedVariables false
set_option linter.unusedSimpArgs false
def Ret (w : World) (v : Value) (e : Ending) (w' : World) : Prop := e = .returned v ∧ Below w.heap.size w w'
def Reads (w : World) (size : Nat) (A : Option Addr) (n : Nat) (vs : List Value) : Prop :=
  vs.length = n * size ∧ (0 < n → ∃ b o, A = some ⟨b, o, none⟩ ∧ ∀ j u, vs[j]? = some u → w.cell? ⟨b, o + j, none⟩ = some u)
theorem cell_lt {w : World} {a : Addr} {v : Value} (h : w.cell? a = some v) : a.block < w.heap.size := by
  rcases Nat.lt_or_ge a.block w.heap.size with h' | h'
  · exact h'
  · simp [World.cell?, Array.getElem?_eq_none h'] at h
theorem cell_keep {w w' : World} {a : Addr} {v : Value} (hb : Below w.heap.size w w') (h : w.cell? a = some v) : w'.cell? a = some v := (hb.cell (cell_lt h)).trans h
theorem frozen_keep {w w' : World} {a : Addr} {v : Bool} (hb : Below w.heap.size w w') (hl : a.block < w.heap.size) (h : w.frozen? a = v) : w'.frozen? a = v := (hb.frozen hl).trans h
def rd (w : World) (a : Addr) : Value := (w.cell? a).getD undef
theorem rd_of {w : World} {a : Addr} {v : Value} (h : w.cell? a = some v) : w.cell? a = some (rd w a) := by unfold rd; rw [h]; rfl
theorem rd_keep {w w' : World} {a : Addr} {v : Value} (hb : Below w.heap.size w w') (h : w.cell? a = some v) : w'.cell? a = some (rd w' a) := rd_of (cell_keep hb h)
theorem rd_set {w : World} {a p : Addr} {v x : Value} (h : w.cell? a = some v) : (w.setCell p x).cell? a = some (rd (w.setCell p x) a) :=
  let ⟨_, h'⟩ := cell?_setCell_some (w := w) (p := p) (x := x) h; rd_of h'
theorem bstep {a b c : World} (h : Below a.heap.size a b) (k : Below b.heap.size b c) : Below a.heap.size a c := h.trans (k.mono h.size)
theorem balloc {a b : World} (h : Below a.heap.size a b) (o : Obj) : Below a.heap.size a (b.alloc o) := h.alloc h.size o
theorem bdrewN {a b : World} (h : Below a.heap.size a b) (n : Nat) : Below a.heap.size a (b.drewN n) := ⟨h.os, h.tape, h.output, h.size, h.block⟩
theorem blater {a b : World} (o : Obj) (h : Below (a.alloc o).heap.size (a.alloc o) b) : Below a.heap.size a b := bstep (balloc (Below.refl _ _) o) h
section
variable {w w' : World} {size n : Nat} {A : Option Addr} {vs : List Value}
theorem Reads.nil_ (w : World) (size : Nat) (A : Option Addr) : Reads w size A 0 [] := ⟨by simp, fun h => absurd h (by omega)⟩
theorem Reads.keep (h : Reads w size A n vs) (hb : Below w.heap.size w w') : Reads w' size A n vs := by
  refine ⟨h.1, fun hn => ?_⟩
  obtain ⟨b, o, rfl, hc⟩ := h.2 hn
  exact ⟨b, o, rfl, fun j u hu => cell_keep hb (hc j u hu)⟩
theorem Reads.at_ {k : Nat} (h : Reads w 1 A n vs) (hk : k < n) : ∃ b o u, A = some ⟨b, o, none⟩ ∧ vs[k]? = some u ∧ w.cell? ⟨b, o + k, none⟩ = some u := by
  obtain ⟨b, o, e, hc⟩ := h.2 (by omega)
  have hl : k < vs.length := by have := h.1; omega
  exact ⟨b, o, vs[k], e, List.getElem?_eq_getElem hl, hc k _ (List.getElem?_eq_getElem hl)⟩
theorem Reads.of_own {base : Nat} {e : TypeId} {c : Nat} (h : w.ownsRow base e size (.slice A n c) n vs) : Reads w size A n vs := by
  refine ⟨h.1, fun hn => ?_⟩
  obtain ⟨g, cap, hv, _, hlt⟩ := h.form hn
  have hA : A = some ⟨g, 0, none⟩ := by injection hv
  subst hA
  exact ⟨g, 0, rfl, fun j u hu => by have := h.cells (g := g) rfl j u hu; unfold Addr.add at this; split at this <;> simp_all⟩
end
theorem bcell {W w1 : World} (hb : Below W.heap.size W w1) : (∀ b o, b < W.heap.size → w1.cell? ⟨b, o, none⟩ = W.cell? ⟨b, o, none⟩) ∧ (∀ b o, b < W.heap.size → w1.frozen? ⟨b, o, none⟩ = W.frozen? ⟨b, o, none⟩) :=
  ⟨fun b o h => hb.cell (p := ⟨b, o, none⟩) h, fun b o h => hb.frozen (p := ⟨b, o, none⟩) h⟩
def Env (w : World) : Prop := ∃ m, w.cell? ⟨0, 0, none⟩ = some (.int .i64 m)
theorem Env.keep {w w' : World} (h : Env w) (hb : Below w.heap.size w w') : Env w' := let ⟨m, hm⟩ := h; ⟨m, cell_keep hb hm⟩
theorem ret_bool {a b : Bool} (h : a = b) : Ending.returned (.bool a) = .returned (.bool b) := by rw [h]
theorem ret_str {a b : ByteArray} (h : a = b) : Ending.returned (.string a) = .returned (.string b) := by rw [h]
theorem ret_int {k : IntKind} {a b : Int} (h : a = b) : Ending.returned (.int k a) = .returned (.int k b) := by rw [h]
theorem qcalls {P : Program} {f : FuncId} {args : Array Value} {w : World} {v : Value} (h : ∀ W, Calls P f args W (Ret W v)) (d : Nat) (os : Array Obj) :
    Calls P f args (Sort.grow (redrawn w d) os) fun e w'' => e = .returned v ∧ ∃ p : Regrown, w'' = Sort.grow (redrawn w p.d) p.os := Calls.regrown_of ((h _).mono fun _ _ h => h)
theorem qcalls2 {P : Program} {f : FuncId} {args : Array Value} {w : World} {v : Value} (h : ∀ W, Below w.heap.size w W → Calls P f args W (Ret W v)) (d : Nat) (os : Array Obj) :
    Calls P f args (Sort.grow (redrawn w d) os) fun e w'' => e = .returned v ∧ ∃ p : Regrown, w'' = Sort.grow (redrawn w p.d) p.os := Calls.regrown_of ((h _ (below_regrown w d os)).mono fun _ _ h => h)
theorem belB {B : Nat} {a w : World} (h : Below B a w := by (repeat (first | exact .refl _ _ | assumption | refine .drew ?_ | refine balloc ?_ _ | refine bdrewN ?_ _ | refine .setCell ?_ (by simp <;> omega) _ | refine bstep ?_ (by assumption)))) : Below B a w := h
end Go.Proofs.YtmlhecjhjjlhfaaGreatDoor
namespace Go.Proofs.YtmlhecjhjjlhfaaGreatDoor
open Go.Maps Go.Sort
set_option linter.unusedVariables false
def insL : List (List UInt8 × List UInt8) → List UInt8 × List UInt8 → List (List UInt8 × List UInt8)
  | [], p => [p]
  | q :: r, p => if p.1 = q.1 then p :: r else if p.1 < q.1 then p :: q :: r else q :: insL r p
def pairsL (qs : List (List UInt8 × List UInt8)) : List (List UInt8 × List UInt8) := qs.foldl insL []
def SortedK (l : List (List UInt8 × List UInt8)) : Prop := l.Pairwise fun a b => a.1 < b.1
theorem lt_tri (a b : List UInt8) (h1 : a ≠ b) (h2 : ¬ a < b) : b < a := by
  rcases Decidable.em (b < a) with h | h
  · exact h
  · exact absurd (List.le_antisymm (List.not_lt.1 h) (List.not_lt.1 h2)) h1
theorem mem_insL (p : List UInt8 × List UInt8) : ∀ (l : List (List UInt8 × List UInt8)), SortedK l → ∀ x, x ∈ insL l p ↔ x = p ∨ (x ∈ l ∧ x.1 ≠ p.1)
  | [], _, x => by simp [insL]
  | q :: r, h, x => by
    have hr := List.pairwise_cons.1 h
    unfold insL
    by_cases e : p.1 = q.1
    · rw [if_pos e]
      simp only [List.mem_cons]
      constructor
      · rintro (h1 | h1)
        · exact .inl h1
        · exact .inr ⟨.inr h1, fun e2 => List.lt_irrefl _ (by have := hr.1 x h1; rw [e2, e] at this; exact this)⟩
      · rintro (h1 | ⟨h1 | h1, h2⟩)
        · exact .inl h1
        · subst h1; exact absurd e.symm h2
        · exact .inr h1
    · rw [if_neg e]
      by_cases e2 : p.1 < q.1
      · rw [if_pos e2]
        simp only [List.mem_cons]
        constructor
        · rintro (h1 | h1 | h1)
          · exact .inl h1
          · subst h1; exact .inr ⟨.inl rfl, fun h => e h.symm⟩
          · exact .inr ⟨.inr h1, fun h => List.lt_irrefl _ (by have := List.lt_trans e2 (hr.1 x h1); rw [h] at this; exact this)⟩
        · rintro (h1 | ⟨h1 | h1, _⟩)
          · exact .inl h1
          · exact .inr (.inl h1)
          · exact .inr (.inr h1)
      · rw [if_neg e2, List.mem_cons, mem_insL p r hr.2 x, List.mem_cons]
        constructor
        · rintro (h1 | h1 | ⟨h1, h2⟩)
          · subst h1; exact .inr ⟨.inl rfl, fun h => e h.symm⟩
          · exact .inl h1
          · exact .inr ⟨.inr h1, h2⟩
        · rintro (h1 | ⟨h1 | h1, h2⟩)
          · exact .inr (.inl h1)
          · exact .inl h1
          · exact .inr (.inr ⟨h1, h2⟩)
theorem sorted_insL (p : List UInt8 × List UInt8) : ∀ (l : List (List UInt8 × List UInt8)), SortedK l → SortedK (insL l p)
  | [], _ => List.pairwise_singleton _ _
  | q :: r, h => by
    have hr := List.pairwise_cons.1 h
    unfold insL
    by_cases e : p.1 = q.1
    · rw [if_pos e]
      exact List.pairwise_cons.2 ⟨fun x hx => e ▸ hr.1 x hx, hr.2⟩
    · rw [if_neg e]
      by_cases e2 : p.1 < q.1
      · rw [if_pos e2]
        refine List.pairwise_cons.2 ⟨fun x hx => ?_, h⟩
        rcases List.mem_cons.1 hx with rfl | hx
        · exact e2
        · exact List.lt_trans e2 (hr.1 x hx)
      · rw [if_neg e2]
        refine List.pairwise_cons.2 ⟨fun x hx => ?_, sorted_insL p r hr.2⟩
        rcases (mem_insL p r hr.2 x).1 hx with rfl | ⟨hx, _⟩
        · exact lt_tri _ _ e e2
        · exact hr.1 x hx
def mapD (qs : List (List UInt8 × List UInt8)) : DataW Unit := qs.foldl (fun D q => D.put (.string q.1) (.lit (.string q.2))) (.map [])
def Good (D : DataW Unit) (l : List (List UInt8 × List UInt8)) : Prop :=
  Tidy D ∧ (∃ es, D = .map es ∧ ∀ p ∈ es, ∃ x, p.1 = .string x) ∧ SortedK l ∧ (∀ x, (∃ v, (x, v) ∈ l) ↔ has D (.string x) = true) ∧ ∀ k v, (k, v) ∈ l → ∀ z, D.atKey (.string k) z = .lit (.string v)
theorem good_put {D : DataW Unit} {l : List (List UInt8 × List UInt8)} (h : Good D l) (k v : List UInt8) : Good (D.put (.string k) (.lit (.string v))) (insL l (k, v)) := by
  obtain ⟨h1, ⟨es, rfl, he⟩, h3, h4, h5⟩ := h
  have hk : WideAt.IsKeyLit (.string k) := trivial
  refine ⟨h1.put hk _, ⟨_, rfl, ?_⟩, sorted_insL _ _ h3, fun x => ?_, fun k' v' hm z => ?_⟩
  · intro p hp
    rcases List.mem_cons.1 ((WideShapes.insert_perm _ _).mem_iff.1 hp) with rfl | hp
    · exact ⟨k, rfl⟩
    · exact he p (List.mem_filter.1 hp).1
  · by_cases e : x = k
    · subst e
      rw [has_put_same h1.isMap hk]
      exact ⟨fun _ => rfl, fun _ => ⟨v, (mem_insL _ _ h3 _).2 (.inl rfl)⟩⟩
    · rw [has_put_other (by intro h; injection h with h; exact e h), ← h4 x]
      constructor
      · rintro ⟨v', hv⟩
        rcases (mem_insL _ _ h3 _).1 hv with h | ⟨h, _⟩
        · injection h with h _; exact absurd h e
        · exact ⟨v', h⟩
      · rintro ⟨v', hv⟩
        exact ⟨v', (mem_insL _ _ h3 _).2 (.inr ⟨hv, e⟩)⟩
  · rcases (mem_insL _ _ h3 _).1 hm with h | ⟨h, hne⟩
    · injection h with e1 e2
      subst e1; subst e2
      exact atKey_put_same h1.isMap hk _ _
    · rw [atKey_put_other (by intro h; injection h with h; exact hne h)]
      exact h5 k' v' h z
theorem good_empty : Good (.map []) [] := ⟨tidy_empty, ⟨[], rfl, by simp⟩, List.Pairwise.nil, by simp [has], by simp⟩
theorem good_fold : ∀ (qs : List (List UInt8 × List UInt8)) (D : DataW Unit) (l : List (List UInt8 × List UInt8)), Good D l → Good (qs.foldl (fun D q => D.put (.string q.1) (.lit (.string q.2))) D) (qs.foldl insL l)
  | [], _, _, h => h
  | q :: qs, D, l, h => good_fold qs _ _ (good_put h q.1 q.2)
theorem good_pairs (qs : List (List UInt8 × List UInt8)) : Good (mapD qs) (pairsL qs) := good_fold qs _ _ good_empty
theorem sorted_keys (qs : List (List UInt8 × List UInt8)) (ss : List (List UInt8)) (h : ss.Perm (strKeys (mapD qs))) : ss.mergeSort (fun x y => decide (x ≤ y)) = (pairsL qs).map (·.1) := by
  obtain ⟨h1, ⟨es, he, hs⟩, h3, h4, h5⟩ := good_pairs qs
  have hnd : ((pairsL qs).map (·.1)).Nodup := by
    refine List.pairwise_map.2 (h3.imp ?_)
    intro a b hlt e
    rw [e] at hlt
    exact List.lt_irrefl _ hlt
  have hp : ((pairsL qs).map (·.1)).Perm (strKeys (mapD qs)) := by
    obtain ⟨es', he', hp'⟩ := h1
    rw [he]
    refine perm_strKeys (by rw [he] at he'; injection he' with he'; rw [he']; exact hp') hs hnd fun x => ?_
    rw [← he, ← h4 x]
    simp
  have := mergeSort_of_perm (h.trans hp.symm)
  rw [show (fun x y : List UInt8 => decide (x ≤ y)) = leB from rfl, this]
  have tr : ∀ a b c : List UInt8, leB a b = true → leB b c = true → leB a c = true := fun a b c h1 h2 => by simp only [leB, decide_eq_true_eq] at *; exact List.le_trans h1 h2
  have tt : ∀ a b : List UInt8, (leB a b || leB b a) = true := fun a b => by simp only [leB, Bool.or_eq_true, decide_eq_true_eq]; exact List.le_total a b
  refine List.Perm.eq_of_pairwise (le := fun a b => leB a b = true) (fun a b _ _ h1 h2 => ?_) (List.pairwise_mergeSort tr tt _) ?_ (List.mergeSort_perm _ leB)
  · simp only [leB, decide_eq_true_eq] at h1 h2
    exact List.le_antisymm h1 h2
  · refine List.pairwise_map.2 (h3.imp fun {a b} hlt => ?_)
    simp only [leB, decide_eq_true_eq]
    exact List.not_lt.1 fun h => List.lt_irrefl _ (List.lt_trans h hlt)
end Go.Proofs.YtmlhecjhjjlhfaaGreatDoor
namespace Go.Proofs.YtmlhecjhjjlhfaaGreatDoor
open Go.RowKit Go.Sort
set_option linter.unusedVariables false
set_option linter.unusedSimpArgs false
def KeepsIn (lo hi : Nat) (W W' : World) : Prop := ∀ k, lo ≤ k → k < hi → W'.heap[k]? = W.heap[k]?
theorem KeepsIn.refl (lo hI0 : Nat) (W : World) : KeepsIn lo hI0 W W := fun _ _ _ => rfl
theorem KeepsIn.trans {lo hi : Nat} {A B C : World} (h : KeepsIn lo hi A B) (k : KeepsIn lo hi B C) : KeepsIn lo hi A C := fun i h1 h2 => (k i h1 h2).trans (h i h1 h2)
theorem Below.keepsIn {B lo hI0 : Nat} {W W' : World} (h : Below B W W') (hh : hI0 ≤ B) : KeepsIn lo hI0 W W' := fun k _ h2 => h.block k (by omega)
def Iter (P : Program) (gf : Nat) (lb : Array Value) (xs : List Value) (T : World → World → Prop) (lo hI0 : Nat) (w : World) : Prop :=
  ∀ (l : Nat) (J : Nat → World → Prop) (Jx : World → Prop) (W : World), Below w.heap.size w W → AbidesFrom W.heap.size J → (∀ k W W', J k W → T W W' → J k W') →
    (∀ k x W1, xs[k]? = some x → J k W1 → YieldAt Fence.wide 0 P l #[x] W1 fun e W' =>
      (e = .returned (.bool true) ∧ J (k + 1) W' ∧ KeepsIn lo hI0 W1 W') ∨ (e = .returned (.bool false) ∧ Jx W')) →
    J 0 W →
    CallsIn Fence.wide 0 P gf (#[.func (.yield l) #[] #[]] ++ lb) W fun e W' => (∃ v, e = .returned v) ∧ (J xs.length W' ∨ Jx W')
def roundPostI (B lo hI0 : Nat) (I : Nat → World → Prop) (Ix : Code → World → Prop) (k : Nat) (W : World) : Exit → Act → World → Prop
  | .normal, _, W' => KeepsFrom B W W' ∧ KeepsIn lo hI0 W W' ∧ I k W'
  | .ret, _, W' => KeepsFrom B W W' ∧ Ix .ret W'
  | .exit id, _, W' => KeepsFrom B W W' ∧ Ix (.exit id) W'
  | .goto t, _, W' => KeepsFrom B W W' ∧ Ix (.goto t) W'
  | .panic _, _, _ => False
  | .outgrown, _, _ => False
theorem range_law {P : Program} {g : Operand} {p : Tmp} {assign body : Code} {Q : Exit → Act → World → Prop} {a : Act} {w : World}
    {gf : Nat} {lb : Array Value} (hg : a.eval g = .func (.func gf) #[] lb) (eg : ∀ args w, (callFunc gf args).run P w = .ok (.enter gf args) w)
    {xs : List Value} {T : World → World → Prop} {lo hI0 : Nat} {w0 : World} (hseq : Iter P gf lb xs T lo hI0 w0) (hb0 : Below w0.heap.size w0 w) (hn : hI0 ≤ w.heap.size)
    (I : Nat → World → Prop) (Ix : Code → World → Prop) (hI : OwnFrom w.heap.size I) (hIx : ∀ c, OwnFrom w.heap.size (fun (_ : Unit) => Ix c)) (h0 : I 0 w)
    (hT : ∀ k W W', I k W → T W W' → I k W') (hTk : ∀ W W', T W W' → KeepsOthers W W') (a₁ : Value → Act)
    (hassign : ∀ (l : Nat) (x : Value) (W : World) (K : Act → World → Prop), x ∈ xs → K (a₁ x) W →
      assign.wpIn (Fence.wide.inRound l) 0 P (Exit.then K (fun _ _ _ => False)) { tmps := (#[p].zip #[x]).foldl (fun t (p, v) => t.setIfInBounds p v) a.tmps, defers := [] } W)
    (hbody : ∀ (l k : Nat) (x : Value) (W : World), xs[k]? = some x → I k W → body.wpIn (Fence.wide.inRound l) 0 P (roundPostI w.heap.size lo hI0 I Ix (k + 1) W) (a₁ x) W)
    (hdone : ∀ (D : Nat) (W : World), w.heap.size ≤ D → I xs.length W → W.heap[D]? = some (.deferred (some [])) → Q .normal { a with defers := { target := .collected D, args := #[] } :: a.defers } W)
    (hstop : ∀ (D : Nat) (c : Code) (W : World), w.heap.size ≤ D → Ix c W → W.heap[D]? = some (.deferred (some [])) → c.wpIn Fence.wide 0 P Q { a with defers := { target := .collected D, args := #[] } :: a.defers } W) :
    (Code.rangeFunc g #[p] assign body).wpIn Fence.wide 0 P Q a w := by
  refine wpIn_rangeFunc ?_
  intro fn hfn
  obtain ⟨rec, hrec⟩ : ∃ rec : LoopState → Option Code → Loop, rec = fun st pe => { state := st, pending := pe, fn, tmps := a.tmps, params := #[p], assign, body, defers := w.heap.size } := ⟨_, rfl⟩
  obtain ⟨W1, hW1⟩ : ∃ W1, (w.alloc (.deferred (some []))).alloc (.loop (rec .ready none)) = W1 := ⟨_, rfl⟩
  have hL1 : W1.heap[w.heap.size + 1]? = some (.loop (rec .ready none)) := by
    rw [← hW1]; have := World.alloc_heap_new (w.alloc (.deferred (some []))) (.loop (rec .ready none)); rwa [World.size_alloc] at this
  have hK1 : W1.heap[w.heap.size]? = some (.deferred (some [])) := by
    rw [← hW1]; exact (Below.heap_alloc _ _ _ (by simp)).trans (World.alloc_heap_new w _)
  have hI1 : I 0 W1 := by rw [← hW1]; exact hI.alloc _ (hI.alloc _ h0)
  have hb1 : Below w0.heap.size w0 W1 := by rw [← hW1]; exact balloc (balloc hb0 _) _
  have hbk : ∀ (W : World) (l : Nat) (o : Obj), w.heap.size ≤ l → l < W.heap.size → KeepsIn lo hI0 W (W.putObj l o) := fun W l o h1 h2 k _ hk => World.putObj_heap_other (by omega)
  refine ⟨w.heap.size + 1, [{ target := .collected w.heap.size, args := #[] }], W1, { target := .fn (.func gf) lb, args := #[.func (.yield (w.heap.size + 1)) #[] #[]] }, W1, gf,
    #[.func (.yield (w.heap.size + 1)) #[] #[]] ++ lb, W1, ?_, ?_, ?_, ?_, (fun h => (by cases h)), ?_⟩
  · rw [← hW1, hrec]; exact run_enterLoop_outer _ _ _ _ _
  · simp only [resolve, hg]
    simp [go_sem]
  · intro f' hf'; trivial
  · simp [invoke, go_sem, eg]
  · have hnw : ∀ {A B : World} {row : Option Nat}, (∀ r, row = some r → W1.heap.size ≤ r ∧ ∃ o : Obj, A.heap[r]? = some o ∧ o.isWalk = true) → (∀ r, row = some r → w.heap.size ≤ r ∧ ∃ o : Obj, A.heap[r]? = some o ∧ o.isCells = false) :=
      fun hr r e => by obtain ⟨hB, o, ho, hw⟩ := hr r e; exact ⟨by rw [← hW1] at hB; simp at hB; omega, o, ho, Obj.not_cells_of_walk hw⟩
    refine (hseq (w.heap.size + 1)
      (fun k W => I k W ∧ W.heap[w.heap.size + 1]? = some (.loop (rec .ready none)) ∧ W.heap[w.heap.size]? = some (.deferred (some [])))
      (fun W => ∃ c, Ix c W ∧ W.heap[w.heap.size + 1]? = some (.loop (rec .done (some c))) ∧ W.heap[w.heap.size]? = some (.deferred (some [])))
      W1 hb1
      (fun s A B row hs hg' hr => ⟨hI s A B row hs.1 hg' (hnw (B := B) hr), (grownBy_keeps hg' (fun r e => (hr r e).2) hs.2.1 rfl).trans hs.2.1, (grownBy_keeps hg' (fun r e => (hr r e).2) hs.2.2 rfl).trans hs.2.2⟩)
      (fun k A B hs ht => ⟨hT k A B hs.1 ht, (hTk A B ht).same _ _ hs.2.1 rfl, (hTk A B ht).same _ _ hs.2.2 rfl⟩)
      ?_ ⟨hI1, hL1, hK1⟩).mono ?_
    · rintro k x W hx ⟨hi, hl, hk⟩
      have hlt : w.heap.size + 1 < W.heap.size := (Array.getElem?_eq_some_iff.1 hl).1
      have hy := run_yield (P := P) (args := #[x]) hl (by rw [hrec]; rfl)
      rw [hrec] at hy
      refine ⟨fn, _, assign, body, hy, roundIn_of_wpIn hfn (hassign _ x W _ (List.mem_of_getElem? hx) ⟨_, run_beginRound hl (by rw [hrec]), ?_⟩)⟩
      have hl2 : (W.putObj (w.heap.size + 1) (.loop { rec .ready none with state := .busy })).heap[w.heap.size + 1]? = some (.loop { rec .ready none with state := .busy }) := World.putObj_heap_same hlt
      have hk2 : (W.putObj (w.heap.size + 1) (.loop { rec .ready none with state := .busy })).heap[w.heap.size]? = some (.deferred (some [])) := (World.putObj_heap_other (by omega)).trans hk
      have hw2 : KeepsIn lo hI0 W (W.putObj (w.heap.size + 1) (.loop { rec .ready none with state := .busy })) := hbk _ _ _ (by omega) hlt
      refine wpIn_mono (hbody _ k x _ hx (hI.putObj _ hi (by omega) hl rfl)) ?_
      have fin : ∀ (jump : Option Code) (W3 : World), KeepsFrom w.heap.size (W.putObj (w.heap.size + 1) (.loop { rec .ready none with state := .busy })) W3 →
          (Instr.endRound (w.heap.size + 1) jump).run P W3 = .ok (.bool jump.isNone) (W3.putObj (w.heap.size + 1) (.loop (rec (if jump.isNone then .ready else .done) jump))) ∧
          W3.heap[w.heap.size + 1]? = some (.loop { rec .ready none with state := .busy }) ∧
          (W3.putObj (w.heap.size + 1) (.loop (rec (if jump.isNone then .ready else .done) jump))).heap[w.heap.size + 1]? = some (.loop (rec (if jump.isNone then .ready else .done) jump)) ∧
          (W3.putObj (w.heap.size + 1) (.loop (rec (if jump.isNone then .ready else .done) jump))).heap[w.heap.size]? = some (.deferred (some [])) := fun jump W3 hk3 => by
        have hl3 := hk3.same _ _ (by omega) hl2 rfl
        have := run_endRound (P := P) jump hl3
        rw [hrec] at this ⊢
        exact ⟨this, by rw [hrec] at hl3; exact hl3, World.putObj_heap_same (Array.getElem?_eq_some_iff.1 hl3).1, (World.putObj_heap_other (by omega)).trans (hk3.same _ _ (Nat.le_refl _) hk2 rfl)⟩
      rintro e a3 W3 hp
      cases e with
      | normal =>
        obtain ⟨hk3, hkp3, hi3⟩ := hp
        obtain ⟨hr, hl3, hl4, hk4⟩ := fin none W3 hk3
        have hlt3 := (Array.getElem?_eq_some_iff.1 hl3).1
        exact ⟨_, _, hr, .inl ⟨rfl, ⟨hI.putObj _ hi3 (by omega) hl3 rfl, hl4, hk4⟩, (hw2.trans hkp3).trans (hbk _ _ _ (by omega) hlt3)⟩⟩
      | ret =>
        obtain ⟨hk3, hi3⟩ := hp
        obtain ⟨hr, hl3, hl4, hk4⟩ := fin (some .ret) W3 hk3
        exact ⟨_, _, hr, .inr ⟨rfl, .ret, (hIx _).putObj (s := ()) _ hi3 (by omega) hl3 rfl, hl4, hk4⟩⟩
      | exit id =>
        obtain ⟨hk3, hi3⟩ := hp
        obtain ⟨hr, hl3, hl4, hk4⟩ := fin (some (.exit id)) W3 hk3
        exact ⟨_, _, hr, .inr ⟨rfl, .exit id, (hIx _).putObj (s := ()) _ hi3 (by omega) hl3 rfl, hl4, hk4⟩⟩
      | goto t =>
        obtain ⟨hk3, hi3⟩ := hp
        obtain ⟨hr, hl3, hl4, hk4⟩ := fin (some (.goto t)) W3 hk3
        exact ⟨_, _, hr, .inr ⟨rfl, .goto t, (hIx _).putObj (s := ()) _ hi3 (by omega) hl3 rfl, hl4, hk4⟩⟩
      | panic ch => exact hp.elim
      | outgrown => exact hp.elim
    · rintro e W2 ⟨⟨v, rfl⟩, (⟨hi, hl, hk⟩ | ⟨c, hi, hl, hk⟩)⟩
      · exact ⟨none, _, by have := run_endLoop (P := P) hl (by rw [hrec]; simp); rw [hrec] at this; exact this, hdone _ _ (Nat.le_refl _) (hI.putObj _ hi (by omega) hl rfl) ((World.putObj_heap_other (by omega)).trans hk)⟩
      · exact ⟨some c, _, by have := run_endLoop (P := P) hl (by rw [hrec]; simp); rw [hrec] at this; exact this, hstop _ c _ (Nat.le_refl _) ((hIx c).putObj (s := ()) _ hi (by omega) hl rfl) ((World.putObj_heap_other (by omega)).trans hk)⟩
end Go.Proofs.YtmlhecjhjjlhfaaGreatDoor
namespace Go.Proofs
open Go.Shelf
def Tryz.keys183_ren : Go.Shelf.Ren := ⟨fun | 7 => 183 | 10 => 204 | n => n, fun | 23 => 207 | 26 => 9 | 3 => 9 | 28 => 169 | 0 => 0 | 27 => 168 | 33 => 81 | 4 => 4 | n => n, fun | n => n⟩
theorem Tryz.keys183 : Go.Proofs.SlLaysZ.n7 Tryz.prog Tryz.keys183_ren := {
  mixed := by kernel_rfl
  f7 := ⟨Tryz.f183.name, by decide, Tryz.func183.trans (congrArg some (by kernel_rfl))⟩
  f10 := ⟨Tryz.f204.name, by decide, Tryz.func204.trans (congrArg some (by kernel_rfl))⟩
  t0 := Tryz.underlying0
  a0 := Tryz.isAgg0
  z0 := Tryz.sizeOf0
  v0 := Tryz.zeroValue0
  t4 := Tryz.underlying4
  a4 := Tryz.isAgg4
  z4 := Tryz.sizeOf4
  v4 := Tryz.zeroValue4
  t23 := Tryz.underlying207
  a23 := Tryz.isAgg207
  z23 := Tryz.sizeOf207
  v23 := Tryz.zeroValue207
  t26 := Tryz.underlying9
  a26 := Tryz.isAgg9
  z26 := Tryz.sizeOf9
  v26 := Tryz.zeroValue9
  t27 := Tryz.underlying168
  a27 := Tryz.isAgg168
  z27 := Tryz.sizeOf168
  v27 := Tryz.zeroValue168
  t28 := Tryz.underlying169
  a28 := Tryz.isAgg169
  z28 := Tryz.sizeOf169
  v28 := Tryz.zeroValue169
  t33 := Tryz.underlying81
  a33 := Tryz.isAgg81
  z33 := Tryz.sizeOf81
  v33 := Tryz.zeroValue81 }
def Tryz.sorted145_ren : Go.Shelf.Ren := ⟨fun | 6 => 145 | 8 => 189 | 9 => 177 | 11 => 212 | 13 => 200 | 12 => 199 | 23 => 223 | 24 => 224 | 14 => 214 | 15 => 215 | 16 => 216 | 17 => 217 | 18 => 218 | 19 => 219 | 20 => 220 | 21 => 221 | 22 => 222 | 25 => 229 | 26 => 230 | 27 => 231 | 28 => 232 | 29 => 233 | 30 => 234 | 31 => 239 | n => n, fun | 26 => 9 | 28 => 169 | 24 => 32 | 0 => 0 | 3 => 3 | 37 => 218 | 48 => 236 | 50 => 238 | 4 => 4 | 40 => 229 | 39 => 228 | 45 => 233 | 5 => 5 | 9 => 9 | 51 => 242 | 55 => 246 | 57 => 256 | 58 => 257 | 33 => 81 | n => n, fun | n => n⟩
theorem Tryz.sorted145 : Go.Proofs.SlLaysZ.n6 Tryz.prog Tryz.sorted145_ren := {
  mixed := by kernel_rfl
  f6 := ⟨Tryz.f145.name, by decide, Tryz.func145.trans (congrArg some (by kernel_rfl))⟩
  f8 := ⟨Tryz.f189.name, by decide, Tryz.func189.trans (congrArg some (by kernel_rfl))⟩
  f11 := ⟨Tryz.f212.name, by decide, Tryz.func212.trans (congrArg some (by kernel_rfl))⟩
  t0 := Tryz.underlying0
  a0 := Tryz.isAgg0
  z0 := Tryz.sizeOf0
  v0 := Tryz.zeroValue0
  t24 := Tryz.underlying32
  a24 := Tryz.isAgg32
  z24 := Tryz.sizeOf32
  v24 := Tryz.zeroValue32
  t26 := Tryz.underlying9
  a26 := Tryz.isAgg9
  z26 := Tryz.sizeOf9
  v26 := Tryz.zeroValue9
  t28 := Tryz.underlying169
  a28 := Tryz.isAgg169
  z28 := Tryz.sizeOf169
  v28 := Tryz.zeroValue169
  i26 := by kernel_rfl }
def Tryz.sort177_ren : Go.Shelf.Ren := ⟨fun | 6 => 177 | 8 => 200 | 9 => 199 | 19 => 223 | 20 => 224 | 21 => 214 | 22 => 215 | 23 => 216 | 24 => 217 | 25 => 218 | 26 => 219 | 27 => 220 | 28 => 221 | 29 => 222 | 36 => 229 | 31 => 230 | 32 => 231 | 37 => 232 | 38 => 233 | 39 => 234 | 41 => 239 | n => n, fun | 27 => 32 | 29 => 9 | 3 => 3 | 32 => 218 | 26 => 32 | 0 => 0 | 44 => 236 | 46 => 238 | 4 => 4 | 36 => 229 | 35 => 228 | 41 => 233 | 5 => 5 | 9 => 9 | 53 => 242 | 57 => 246 | 63 => 256 | 64 => 257 | n => n, fun | n => n⟩
theorem Tryz.sort177 : Go.Proofs.SlLaysM.n6 Tryz.prog Tryz.sort177_ren := {
  mixed := by kernel_rfl
  f6 := ⟨Tryz.f177.name, by decide, Tryz.func177.trans (congrArg some (by kernel_rfl))⟩
  f8 := Tryz.func200.trans (congrArg some (by kernel_rfl))
  f9 := ⟨Tryz.f199.name, by decide, Tryz.func199.trans (congrArg some (by kernel_rfl))⟩
  f19 := Tryz.func223.trans (congrArg some (by kernel_rfl))
  f20 := Tryz.func224.trans (congrArg some (by kernel_rfl))
  f21 := ⟨Tryz.f214.name, by decide, Tryz.func214.trans (congrArg some (by kernel_rfl))⟩
  f22 := ⟨Tryz.f215.name, by decide, Tryz.func215.trans (congrArg some (by kernel_rfl))⟩
  f23 := ⟨Tryz.f216.name, by decide, Tryz.func216.trans (congrArg some (by kernel_rfl))⟩
  f24 := ⟨Tryz.f217.name, by decide, Tryz.func217.trans (congrArg some (by kernel_rfl))⟩
  f25 := ⟨Tryz.f218.name, by decide, Tryz.func218.trans (congrArg some (by kernel_rfl))⟩
  f26 := ⟨Tryz.f219.name, by decide, Tryz.func219.trans (congrArg some (by kernel_rfl))⟩
  f27 := ⟨Tryz.f220.name, by decide, Tryz.func220.trans (congrArg some (by kernel_rfl))⟩
  f28 := ⟨Tryz.f221.name, by decide, Tryz.func221.trans (congrArg some (by kernel_rfl))⟩
  f29 := ⟨Tryz.f222.name, by decide, Tryz.func222.trans (congrArg some (by kernel_rfl))⟩
  f31 := Tryz.func230.trans (congrArg some (by kernel_rfl))
  f32 := Tryz.func231.trans (congrArg some (by kernel_rfl))
  f36 := ⟨Tryz.f229.name, by decide, Tryz.func229.trans (congrArg some (by kernel_rfl))⟩
  f37 := ⟨Tryz.f232.name, by decide, Tryz.func232.trans (congrArg some (by kernel_rfl))⟩
  f38 := ⟨Tryz.f233.name, by decide, Tryz.func233.trans (congrArg some (by kernel_rfl))⟩
  f39 := ⟨Tryz.f234.name, by decide, Tryz.func234.trans (congrArg some (by kernel_rfl))⟩
  f41 := ⟨Tryz.f239.name, by decide, Tryz.func239.trans (congrArg some (by kernel_rfl))⟩
  t0 := Tryz.underlying0
  a0 := Tryz.isAgg0
  z0 := Tryz.sizeOf0
  v0 := Tryz.zeroValue0
  t3 := Tryz.underlying3
  a3 := Tryz.isAgg3
  z3 := Tryz.sizeOf3
  v3 := Tryz.zeroValue3
  t4 := Tryz.underlying4
  a4 := Tryz.isAgg4
  z4 := Tryz.sizeOf4
  v4 := Tryz.zeroValue4
  t5 := Tryz.underlying5
  a5 := Tryz.isAgg5
  z5 := Tryz.sizeOf5
  v5 := Tryz.zeroValue5
  t9 := Tryz.underlying9
  a9 := Tryz.isAgg9
  z9 := Tryz.sizeOf9
  v9 := Tryz.zeroValue9
  t26 := Tryz.underlying32
  a26 := Tryz.isAgg32
  z26 := Tryz.sizeOf32
  v26 := Tryz.zeroValue32
  t27 := Tryz.underlying32
  a27 := Tryz.isAgg32
  z27 := Tryz.sizeOf32
  v27 := Tryz.zeroValue32
  t29 := Tryz.underlying9
  a29 := Tryz.isAgg9
  z29 := Tryz.sizeOf9
  v29 := Tryz.zeroValue9
  t32 := Tryz.underlying218
  a32 := Tryz.isAgg218
  z32 := Tryz.sizeOf218
  v32 := Tryz.zeroValue218
  t35 := Tryz.underlying228
  a35 := Tryz.isAgg228
  z35 := Tryz.sizeOf228
  v35 := Tryz.zeroValue228
  t36 := Tryz.underlying229
  a36 := Tryz.isAgg229
  z36 := Tryz.sizeOf229
  v36 := Tryz.zeroValue229
  t41 := Tryz.underlying233
  a41 := Tryz.isAgg233
  z41 := Tryz.sizeOf233
  v41 := Tryz.zeroValue233
  t44 := Tryz.underlying236
  a44 := Tryz.isAgg236
  z44 := Tryz.sizeOf236
  v44 := Tryz.zeroValue236
  t46 := Tryz.underlying238
  a46 := Tryz.isAgg238
  z46 := Tryz.sizeOf238
  v46 := Tryz.zeroValue238
  t53 := Tryz.underlying242
  a53 := Tryz.isAgg242
  z53 := Tryz.sizeOf242
  v53 := Tryz.zeroValue242
  t57 := Tryz.underlying246
  a57 := Tryz.isAgg246
  z57 := Tryz.sizeOf246
  v57 := Tryz.zeroValue246
  t63 := Tryz.underlying256
  a63 := Tryz.isAgg256
  z63 := Tryz.sizeOf256
  v63 := Tryz.zeroValue256
  t64 := Tryz.underlying257
  a64 := Tryz.isAgg257
  z64 := Tryz.sizeOf257
  v64 := Tryz.zeroValue257 }
open Go.RowKit Go.Maps Go.Sort Go.Shelf
theorem Tryz.sorts145 (m : Nat) : AnyZ.SortsIn Tryz.prog Tryz.sorted145_ren Fence.wide m :=
  ⟨fun blk off cap ss W hH hblk hsz => callsIn_wide.2 (AnyM.slices_Sort_string Tryz.sort177 blk off cap ss W hH hblk hsz),
   fun p cap W => callsIn_wide.2 (AnyM.slices_Sort_string_none Tryz.sort177 p cap W)⟩
theorem Tryz.maps_Keys_183 (mb : Option Nat) (W : World) : CallsIn Fence.wide 5 Tryz.prog 183 #[.map mb] W fun e w' => e = .returned (.func (.func 204) #[] #[.pointer (some ⟨W.heap.size, 0, none⟩)]) ∧ w' = W.alloc (.cells #[.map mb] 207) :=
  AnyZ.keys_in Tryz.keys183 Fence.wide 5 trivial rfl mb W
set_option maxHeartbeats 1000000 in
theorem Tryz.slices_Sorted_keys_145_183 {H : Type} (b nn : Nat) (D0 : DataW H) (R : Value → Option (DataW H × List MemPlace)) (w : World) (hown : w.ownsMap Tryz.prog 9 R b nn D0) (hmax : Maps.size D0 ≤ maxLen) (hbytes : Maps.size D0 * 16 ≤ 140737488355328) :
    CallsIn Fence.wide 5 Tryz.prog 145 #[.func (.func 204) #[] #[.pointer (some ⟨w.heap.size, 0, none⟩)]] (w.alloc (.cells #[.map (some b)] 207)) fun e w' => ∃ (v : Value) (ss : List (List UInt8)), e = .returned v ∧ ss.Perm (strKeys D0) ∧
      w'.ownsRow (w.alloc (.cells #[.map (some b)] 207)).heap.size 9 1 v ss.length ((ss.mergeSort (fun x y => decide (x ≤ y))).map encStr) ∧ (v = .slice none 0 0 ↔ ss = []) ∧ Below (w.alloc (.cells #[.map (some b)] 207)).heap.size (w.alloc (.cells #[.map (some b)] 207)) w' := by
  have hbl := hown.lt
  have hseq : SeqGives Fence.wide 2 Tryz.prog 204 #[.pointer (some ⟨w.heap.size, 0, none⟩)] encStr (fun ss => ss.Perm (strKeys D0)) (Maps.size D0) (w.alloc (.cells #[.map (some b)] 207)) :=
    AnyZ.keys_gives (ρ := Tryz.keys183_ren) { Tryz.keys183 with } Fence.wide _ trivial rfl (by omega) w.heap.size b nn D0 _ (by simp) (by simp) (by
      obtain ⟨es, clock, hb, Ft, hs, hD⟩ := hown
      exact ⟨es, clock, (Below.heap_alloc _ _ b hbl).trans hb, Ft, hs, hD⟩)
  exact AnyZ.sorted_in Tryz.sorted145 Fence.wide 5 trivial trivial trivial trivial rfl (by omega) (Tryz.sorts145 _) (enters_of Tryz.func177 (by kernel_rfl) rfl) 204 #[.pointer (some ⟨w.heap.size, 0, none⟩)] trivial (enters_of Tryz.func204 (by kernel_rfl) rfl) _ _ hmax hbytes _ hseq
end Go.Proofs
