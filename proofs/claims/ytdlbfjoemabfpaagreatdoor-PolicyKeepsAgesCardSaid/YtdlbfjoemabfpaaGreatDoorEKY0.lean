/- Plain: what the policy package says of a rule, a stamp and a period. -/
import Derived.Test.YtdlbfjoemabfpaaGreatDoorEQZ38
namespace Go.Proofs.YtdlbfjoemabfpaaGreatDoor
open Go.RowKit Go.Sort
set_option linter.unusedVariables false
set_option linter.unusedSimpArgs false
set_option maxRecDepth 100000
theorem maxAge_more {r : RuleV} (h : RuleOk r) (status state : Int) : maxAgeR r status 0 ≤ maxAgeR r status state := by
 have ho := older_bounds h state
 unfold maxAgeR
 have e : olderR r 0 = 0 := rfl
 rw [e]
 split <;> omega
end Go.Proofs.YtdlbfjoemabfpaaGreatDoor
namespace Go.Proofs.YtdlbfjoemabfpaaGreatDoor
open Go.RowKit Go.Sort
set_option linter.unusedVariables false
set_option linter.unusedSimpArgs false
set_option maxRecDepth 100000
theorem all_step {α : Type} (p : α → Bool) (l : List α) (k : Nat) (x : α) (hx : l[k]? = some x) (hp : p x = true) : (l.drop k).all p = (l.drop (k + 1)).all p := by
 obtain ⟨hl2, rfl⟩ := List.getElem?_eq_some_iff.1 hx
 rw [List.drop_eq_getElem_cons hl2, List.all_cons, hp, Bool.true_and]
theorem all_stop {α : Type} (p : α → Bool) (l : List α) (k : Nat) (x : α) (hx : l[k]? = some x) (hp : p x = false) : (l.drop k).all p = false := by
 obtain ⟨hl2, rfl⟩ := List.getElem?_eq_some_iff.1 hx
 rw [List.drop_eq_getElem_cons hl2, List.all_cons, hp, Bool.false_and]
end Go.Proofs.YtdlbfjoemabfpaaGreatDoor
namespace Go.Proofs.YtdlbfjoemabfpaaGreatDoor
open Go.RowKit Go.Sort
set_option linter.unusedVariables false
set_option linter.unusedSimpArgs false
set_option maxRecDepth 100000
def periodB (lo hi : Int) : Bool := decide (0 ≤ lo) && decide (lo ≤ hi) && decide (hi ≤ 1099511627776)
theorem rPeriod22_any (lo hi : Int) (w : World) : Calls Tryz.prog 29 #[perV lo hi] w (Ret w (.bool (periodB lo hi))) := by
 unfold perV periodB
 go_enter Tryz.func29, Tryz.ntmps29
 by_cases h0 : 0 ≤ lo
 ·by_cases h1 : lo ≤ hi
  ·have e0 : decide (lo ≥ 0) = true := by simpa using h0
   have e1 : decide (lo ≤ hi) = true := by simpa using h1
   go_wp2
   go_ret
   exact ⟨by simp [h0, h1], belB⟩
  ·go_wp2
   go_ret
   exact ⟨by simp [h0]; intros; omega, belB⟩
 ·go_wp2
  go_ret
  exact ⟨by simp; intros; omega, belB⟩
end Go.Proofs.YtdlbfjoemabfpaaGreatDoor
namespace Go.Proofs.YtdlbfjoemabfpaaGreatDoor
open Go.RowKit Go.Sort
set_option linter.unusedVariables false
set_option linter.unusedSimpArgs false
set_option maxRecDepth 100000
set_option maxHeartbeats 4000000 in
theorem rShort04_any (A : Option Addr) (n c : Nat) (xs : List ByteArray) (most : Int) (w : World) (hA : Reads w 1 A n (xs.map .string)) (hn : n ≤ 1000000) : Calls Tryz.prog 80 #[.slice A n c, .int .i64 most] w (Ret w (.bool (xs.all (fun x => decide (x.size ≤ 200)) && decide ((n : Int) ≤ most)))) := by
 have hl : xs.length = n := by have := hA.1; simp at this; omega
 obtain ⟨p, hp⟩ : ∃ p : ByteArray → Bool, p = fun x => decide (x.size ≤ 200) := ⟨_, rfl⟩
 rw [← hp]
 obtain ⟨V, hV⟩ : ∃ V, V = xs.all p := ⟨_, rfl⟩
 rw [← hV]
 have HA := Lib.hid hA; have HL := Lib.hid hl; have HV := Lib.hid hV; have HP := Lib.hid hp
 clear hA hl hV hp
 go_enter Tryz.func80, Tryz.ntmps80
 go_wp2
 go_loopw [5] (fun i wr => ∃ k : Nat, k ≤ n ∧ i = .int .i64 k ∧ Hid (V = (xs.drop k).all p) ∧ Below w.heap.size w wr) (fun i _ => n - (intOf i).toNat)
 case atStart => exact ⟨0, by omega, rfl, Lib.hid (by rw [HV.out]; rfl), Below.refl _ _⟩
 case round =>
  obtain ⟨k, hk, rfl, HI, hb⟩ := hrel
  by_cases hlt : k < n
  ·obtain ⟨u, hu⟩ : ∃ u, xs[k]? = some u := ⟨_, List.getElem?_eq_getElem (by have := HL.out; omega)⟩
   obtain ⟨pb, po, rfl, hcell⟩ := (HA.out.keep hb).2 (by omega)
   have hc1 : wr.cell? ⟨pb, po + k, none⟩ = some (.string u) := hcell k _ (by simp [hu])
   have hk0 : (0 : Int) ≤ (k : Int) := by omega
   have hk1 : (k : Int) < (n : Int) := by omega
   by_cases hs : u.size ≤ 200
   ·have hVs : V = (xs.drop (k + 1)).all p := by rw [HI.out]; exact all_step _ _ _ _ hu (by rw [HP.out]; exact decide_eq_true hs)
    have HI2 := Lib.hid hVs
    have hs1 : ¬ (200 : Int) < (u.size : Int) := by omega
    clear hcell hu hVs
    go_wp2
    exact ⟨⟨k + 1, by omega, by go_num, HI2, hb⟩, by simp [intOf]; omega⟩
   ·have hVf : V = false := by rw [HI.out]; exact all_stop _ _ _ _ hu (by rw [HP.out]; exact decide_eq_false hs)
    subst hVf
    have hs1 : (200 : Int) < (u.size : Int) := by omega
    clear hcell hu
    rw [Bool.false_and]
    go_wp2
    go_ret
    exact ⟨rfl, hb⟩
  ·have hVt : V = true := by rw [HI.out, List.drop_eq_nil_of_le (by have := HL.out; omega)]; rfl
   subst hVt
   rw [Bool.true_and]
   go_wp2
   go_ret
   exact ⟨rfl, hb⟩
def shortR (s : StampV) : Bool := [s.addr, s.variant, s.tags].all (fun x => decide (x.size ≤ 200))
set_option maxHeartbeats 4000000 in
theorem rShortStamp_any (s : StampV) (w : World) : Calls Tryz.prog 28 #[s.val] w (Ret w (.bool (shortR s))) := by
 have hk : ∀ W : World, Calls Tryz.prog 80 #[.slice (some ⟨W.heap.size, 0, none⟩) 3 3, .int .i64 3] (W.alloc (.cells #[.string s.addr, .string s.variant, .string s.tags] 9)) (Ret (W.alloc (.cells #[.string s.addr, .string s.variant, .string s.tags] 9)) (.bool (shortR s))) := by
  intro W
  have h := rShort04_any (some ⟨W.heap.size, 0, none⟩) 3 3 [s.addr, s.variant, s.tags] 3 (W.alloc (.cells #[.string s.addr, .string s.variant, .string s.tags] 9)) (reads_new W 9 [.string s.addr, .string s.variant, .string s.tags] 3 rfl) (by omega)
  have e : (([s.addr, s.variant, s.tags].all (fun x => decide (x.size ≤ 200))) && decide (((3 : Nat) : Int) ≤ 3)) = shortR s := by unfold shortR; simp
  rw [e] at h
  exact h
 generalize shortR s = v at *
 obtain ⟨Y, hY⟩ : ∃ Y, Y = s.cells.toArray := ⟨_, rfl⟩
 have eY : s.val = .agg Y := by rw [hY]; rfl
 have hY0 : Y[0]? = some (.string s.addr) := by rw [hY]; rfl
 have hY1 : Y[1]? = some (.string s.variant) := by rw [hY]; rfl
 have hY20 : Y[20]? = some (.string s.tags) := by rw [hY]; rfl
 rw [eY]
 have HK := Lib.hid hk; have HY0 := Lib.hid hY0; have HY1 := Lib.hid hY1; have HY20 := Lib.hid hY20
 clear hk hY eY hY0 hY1 hY20
 go_enter Tryz.func28, Tryz.ntmps28
 go_upto_region 1 with fail
 generalize hw0 : World.alloc _ _ = w0
 have hB : Box1 w0 w.heap.size 56 Y := by rw [← hw0]; exact heap_alloc_new w _
 have hbw : Below w.heap.size w w0 := by rw [← hw0]; exact belB
 clear hw0
 have y0 := hB.cell HY0.out
 have y1 := hB.cell HY1.out
 have y20 := hB.cell HY20.out
 go_wp2_with (go_at_call 80; refine (HK.out _).mono ?_; rintro e w2 ⟨rfl, hb2⟩)
 go_ret
 exact ⟨rfl, belB⟩
end Go.Proofs.YtdlbfjoemabfpaaGreatDoor
namespace Go.Proofs.YtdlbfjoemabfpaaGreatDoor
open Go.RowKit Go.Sort
set_option linter.unusedVariables false
set_option linter.unusedSimpArgs false
set_option maxRecDepth 100000
def stateB (n : Int) : Bool := decide (0 ≤ n) && decide (n ≤ 2)
theorem rState22 (n : Int) (w : World) : Calls Tryz.prog 30 #[.int .i64 n] w (Ret w (.bool (stateB n))) := by
 unfold stateB
 by_cases h0 : 0 ≤ n
 ·go_enter Tryz.func30, Tryz.ntmps30
  go_wp2
  go_ret
  exact ⟨by simp [h0], belB⟩
 ·go_enter Tryz.func30, Tryz.ntmps30
  go_wp2
  go_ret
  exact ⟨by simp [h0]; intros; omega, belB⟩
theorem state_three {n : Int} (h : stateB n = true) : n = 0 ∨ n = 1 ∨ n = 2 := by
 unfold stateB at h
 simp only [Bool.and_eq_true, decide_eq_true_eq] at h
 omega
theorem period_ok {lo hi : Int} (h : periodB lo hi = true) : 0 ≤ lo ∧ lo ≤ 1099511627776 ∧ 0 ≤ hi ∧ hi ≤ 1099511627776 ∧ lo ≤ hi := by
 unfold periodB at h
 simp only [Bool.and_eq_true, decide_eq_true_eq] at h
 omega
theorem Box1.at_ {W : World} {g : Nat} {Y : Array Value} {a b : Int} (h : Box1 W g 56 Y) (h0 : Y[21]? = some (.int .i64 a)) (h1 : Y[22]? = some (.int .i64 b)) : (loadVar 53 ⟨g, 21, none⟩).run Tryz.prog W = .ok (perV a b) W := by
 refine run_loadVar_at (P := Tryz.prog) W g 21 56 53 Y.toList [.int .i64 a, .int .i64 b] (0, 0) _ ?_ ?_ Tryz.underlying53 rfl (by kernel_rfl)
 ·rw [Array.toArray_toList]; exact h
 ·intro j v hj
  rw [← Array.getElem?_toList] at h0 h1
  match j, hj with
  | 0, hj => rw [← hj]; exact h0
  | 1, hj => rw [← hj]; exact h1
theorem alloc4_heap (w : World) (A B C D : Obj) : ((((w.alloc A).alloc B).alloc C).alloc D).heap[w.heap.size]? = some A ∧ ((((w.alloc A).alloc B).alloc C).alloc D).heap[w.heap.size + 1]? = some B ∧ ((((w.alloc A).alloc B).alloc C).alloc D).heap[w.heap.size + 2]? = some C ∧ ((((w.alloc A).alloc B).alloc C).alloc D).heap[w.heap.size + 3]? = some D := by
 obtain ⟨h1, h2, h3⟩ := alloc3_heap w A B C
 refine ⟨?_, ?_, ?_, ?_⟩
 ·exact (heap_alloc_old (((w.alloc A).alloc B).alloc C) D (by simp; omega)).trans h1
 ·exact (heap_alloc_old (((w.alloc A).alloc B).alloc C) D (by simp)).trans h2
 ·exact (heap_alloc_old (((w.alloc A).alloc B).alloc C) D (by simp)).trans h3
 ·have := heap_alloc_new (((w.alloc A).alloc B).alloc C) D
  simpa using this
structure Box4 (w : World) (X Y Z U : Array Value) (W : World) : Prop where
 x : Box1 W w.heap.size 33 X
 y : Box1 W (w.heap.size + 1) 56 Y
 z : Box1 W (w.heap.size + 2) 53 Z
 u : Box1 W (w.heap.size + 3) 53 U
 b : Below w.heap.size w W
theorem Box4.keep {w W W' : World} {X Y Z U : Array Value} (h : Box4 w X Y Z U W) (hb : Below W.heap.size W W') : Box4 w X Y Z U W' := ⟨h.x.keep hb, h.y.keep hb, h.z.keep hb, h.u.keep hb, bstep h.b hb⟩
structure Box5 (w : World) (X Y Z U : Array Value) (g : Nat) (Y2 : Array Value) (W : World) : Prop where
 f : Box4 w X Y Z U W
 l : Box1 W g 56 Y2
theorem Box5.keep {w W W' : World} {X Y Z U Y2 : Array Value} {g : Nat} (h : Box5 w X Y Z U g Y2 W) (hb : Below W.heap.size W W') : Box5 w X Y Z U g Y2 W' := ⟨h.f.keep hb, h.l.keep hb⟩
theorem Box1.lt {W : World} {g : Nat} {t : TypeId} {X : Array Value} (h : Box1 W g t X) : g < W.heap.size := by
 unfold Box1 at h
 rcases Nat.lt_or_ge g W.heap.size with h' | h'
 ·exact h'
 ·rw [Array.getElem?_eq_none h'] at h; cases h
theorem Box1.far {W : World} {g : Nat} {t : TypeId} {X : Array Value} (h : Box1 W g t X) (p : Addr) (u : Value) (hp : g ≠ p.block) : Box1 (W.setCell p u) g t X := (heap_setCell_other W p g u hp).trans h
end Go.Proofs.YtdlbfjoemabfpaaGreatDoor
