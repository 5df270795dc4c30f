/- Plain: what the policy package says of a rule, a stamp and a period. -/
import Derived.Test.YtdlbfjoemabfpaaGreatDoorEQZ39
namespace Go.Proofs.YtdlbfjoemabfpaaGreatDoor
open Go.RowKit Go.Sort
set_option linter.unusedVariables false
set_option linter.unusedSimpArgs false
set_option maxRecDepth 100000
def ageR (lo hi : Int) : Int := max 0 (hi - lo)
end Go.Proofs.YtdlbfjoemabfpaaGreatDoor
namespace Go.Proofs.YtdlbfjoemabfpaaGreatDoor
open Go.RowKit Go.Sort
set_option linter.unusedVariables false
set_option linter.unusedSimpArgs false
set_option maxRecDepth 100000
open Go.Maps
theorem age_any (s : StampV) (lo hi : Int) (h0 : 0 ≤ s.lo) (h1 : s.lo ≤ 1099511627776) (h2 : 0 ≤ hi) (h3 : hi ≤ 1099511627776) (w : World) : Calls Tryz.prog 39 #[s.val, perV lo hi] w (Ret w (.int .i64 (ageR s.lo hi))) := by
 rw [StampV.val_eq]
 unfold perV ageR
 go_enter Tryz.func39, Tryz.ntmps39
 go_wp2
 go_ret
 exact ⟨rfl, belB⟩
end Go.Proofs.YtdlbfjoemabfpaaGreatDoor
namespace Go.Proofs.YtdlbfjoemabfpaaGreatDoor
open Go.RowKit Go.Sort
set_option linter.unusedVariables false
set_option linter.unusedSimpArgs false
set_option maxRecDepth 100000
theorem all_step {α : Type} (p : α → Bool) (l : List α) (k : Nat) (x : α) (hx : l[k]? = some x) (hp : p x = true) : (l.drop k).all p = (l.drop (k + 1)).all p := by
 obtain ⟨hl2, rfl⟩ := List.getElem?_eq_some_iff.1 hx
 rw [List.drop_eq_getElem_cons hl2, List.all_cons, hp, Bool.true_and]
theorem all_stop {α : Type} (p : α → Bool) (l : List α) (k : Nat) (x : α) (hx : l[k]? = some x) (hp : p x = false) : (l.drop k).all p = false := by
 obtain ⟨hl2, rfl⟩ := List.getElem?_eq_some_iff.1 hx
 rw [List.drop_eq_getElem_cons hl2, List.all_cons, hp, Bool.false_and]
end Go.Proofs.YtdlbfjoemabfpaaGreatDoor
namespace Go.Proofs.YtdlbfjoemabfpaaGreatDoor
open Go.RowKit Go.Sort
set_option linter.unusedVariables false
set_option linter.unusedSimpArgs false
set_option maxRecDepth 100000
theorem rAge22_any (s : StampV) (lo hi : Int) (h0 : 0 ≤ s.lo) (h1 : s.lo ≤ 1099511627776) (h2 : 0 ≤ hi) (h3 : hi ≤ 1099511627776) (w : World) : Calls Tryz.prog 40 #[s.val, perV lo hi] w (Ret w (.int .i64 (ageR s.lo hi))) := by
 rw [StampV.val_eq]
 unfold perV ageR
 go_enter Tryz.func40, Tryz.ntmps40
 go_wp2
 go_ret
 exact ⟨rfl, belB⟩
def periodB (lo hi : Int) : Bool := decide (0 ≤ lo) && decide (lo ≤ hi) && decide (hi ≤ 1099511627776)
theorem rPeriod22_any (lo hi : Int) (w : World) : Calls Tryz.prog 29 #[perV lo hi] w (Ret w (.bool (periodB lo hi))) := by
 unfold perV periodB
 go_enter Tryz.func29, Tryz.ntmps29
 by_cases h0 : 0 ≤ lo
 ·by_cases h1 : lo ≤ hi
  ·have e0 : decide (lo ≥ 0) = true := by simpa using h0
   have e1 : decide (lo ≤ hi) = true := by simpa using h1
   go_wp2
   go_ret
   exact ⟨by simp [h0, h1], belB⟩
  ·go_wp2
   go_ret
   exact ⟨by simp [h0]; intros; omega, belB⟩
 ·go_wp2
  go_ret
  exact ⟨by simp; intros; omega, belB⟩
theorem rMaxAge22_any (x : RuleM) (hok : RuleOk x.r) (status state : Int) (hs : state = 0 ∨ state = 1 ∨ state = 2) (w : World) :
  Calls Tryz.prog 38 #[x.val, .int .i64 status, .int .i64 state] w (Ret w (.int .i64 (maxAgeR x.r status state))) := by
 obtain ⟨_, _, _, _, f0, f1, s0, s1, d0, d1, n0, n1, _, _, _, _⟩ := hok
 rw [RuleM.val_eq]
 by_cases h2 : status = 200
 ·have e : maxAgeR x.r status state = min (x.r.fresh + olderR x.r state) 1099511627776 := by unfold maxAgeR; rw [if_pos h2]
  rw [e]
  subst h2
  clear e
  rcases hs with rfl | rfl | rfl
  all_goals
   unfold olderR
   go_enter Tryz.func38, Tryz.ntmps38
   go_wp2
   go_ret
   exact ⟨by simp, belB⟩
 ·have e : maxAgeR x.r status state = x.r.neg := by unfold maxAgeR; rw [if_neg h2]
  rw [e]
  go_enter Tryz.func38, Tryz.ntmps38
  go_wp2
  go_ret
  exact ⟨rfl, belB⟩
end Go.Proofs.YtdlbfjoemabfpaaGreatDoor
namespace Go.Proofs.YtdlbfjoemabfpaaGreatDoor
open Go.RowKit Go.Sort
set_option linter.unusedVariables false
set_option linter.unusedSimpArgs false
set_option maxRecDepth 100000
theorem young_age (ma lo hi : Int) (h : 0 ≤ ma) : decide (hi < lo + ma + 1) = decide (ageR lo hi ≤ ma) := by
 unfold ageR
 rw [decide_eq_decide]
 omega
set_option maxHeartbeats 8000000 in
theorem rYoung22_any (x : RuleM) (hok : RuleOk x.r) (s : StampV) (lo hi state : Int) (h0 : 0 ≤ s.lo) (h1 : s.lo ≤ 1099511627776) (h2 : 0 ≤ hi) (h3 : hi ≤ 1099511627776) (hs : state = 0 ∨ state = 1 ∨ state = 2) (w : World) :
  Calls Tryz.prog 41 #[x.val, s.val, perV lo hi, .int .i64 state] w (Ret w (.bool (youngR x.r s.status s.lo hi state))) := by
 have hm := fun W => rMaxAge22_any x hok s.status state hs W
 have hmb := maxAge_bounds hok s.status state
 unfold youngR
 generalize maxAgeR x.r s.status state = ma at *
 rw [young_age _ _ _ hmb.1]
 have hag := fun W => rAge22_any s lo hi h0 h1 h2 h3 W
 generalize ageR s.lo hi = ag at *
 obtain ⟨X, hX⟩ : ∃ X, X = x.cells.toArray := ⟨_, rfl⟩
 obtain ⟨Y, hY⟩ : ∃ Y, Y = s.cells.toArray := ⟨_, rfl⟩
 obtain ⟨Z, hZ⟩ : ∃ Z : Array Value, Z = #[.int .i64 lo, .int .i64 hi] := ⟨_, rfl⟩
 have hXs : X.size = 18 := by rw [hX]; rfl
 have hYs : Y.size = 41 := by rw [hY]; rfl
 have hZs : Z.size = 2 := by rw [hZ]; rfl
 have eX : x.val = .agg X := by rw [hX]; rfl
 have eY : s.val = .agg Y := by rw [hY]; rfl
 have eZ : perV lo hi = .agg Z := by rw [hZ]; rfl
 have hY2 : Y[2]? = some (.int .i64 s.status) := by rw [hY]; rfl
 simp only [eX, eY, eZ] at hm hag ⊢
 have HM := Lib.hid hm; have HAG := Lib.hid hag; have HXS := Lib.hid hXs; have HYS := Lib.hid hYs; have HZS := Lib.hid hZs; have HY2 := Lib.hid hY2
 clear hm hag hX hY hZ hXs hYs hZs eX eY eZ hY2 hmb hok hs h0 h1 h2 h3
 generalize s.status = st at *
 go_enter Tryz.func41, Tryz.ntmps41
 go_upto_region 1 with fail
 generalize hw0 : World.alloc _ _ = w0
 have hB0 : Box3 w X Y Z w0 := by
  rw [← hw0]
  exact ⟨(alloc3_heap w _ _ _).1, (alloc3_heap w _ _ _).2.1, (alloc3_heap w _ _ _).2.2, belB⟩
 have HB0 := Lib.hid hB0
 clear hw0 hB0
 refine wp_det 9 (by kernel_rfl) (by kernel_rfl) (by kernel_rfl) (fun i => [.agg Y, .agg Z, .int .i64 ag, .agg X, .pointer (some ⟨w.heap.size + 1, 2, none⟩), .int .i64 st, .int .i64 state, .int .i64 ma, .bool (decide (ag ≤ ma))].getD i undef) (Box3 w X Y Z) (HB0.out.keep (Below.drew (Below.refl _ _))) (fun _ _ h hb => h.keep hb) ?_ ?_
 ·simp only [putL, List.take_succ_cons, List.take_zero, List.drop_succ_cons, List.drop_zero, Act.put, List.setIfInBounds_toArray, List.set_cons_succ, List.set_cons_zero, List.getD_cons_zero, List.getD_cons_succ]
  refine ⟨fun W hS => ?_, fun W hS => ?_, fun W hS => ?_, fun W hS => ?_, fun W hS => ?_, fun W hS => ?_, fun W hS => ?_, fun W hS => ?_, fun W hS => ?_, trivial⟩
  all_goals
   have y2 := hS.y.cell HY2.out
   go_wp2_with (first | (refine wpList_load_addr rfl 33 _ rfl ⟨w.heap.size, 0, none⟩ (.agg X) rfl (hS.x.rule HXS.out) ?_) | (refine wpList_load_addr rfl 56 _ rfl ⟨w.heap.size + 1, 0, none⟩ (.agg Y) rfl (hS.y.stamp HYS.out) ?_) | (refine wpList_load_addr rfl 53 _ rfl ⟨w.heap.size + 2, 0, none⟩ (.agg Z) rfl (hS.z.period HZS.out) ?_) | (go_at_call 40; refine (HAG.out _).mono ?_; rintro e w2 ⟨rfl, hb2⟩) | (go_at_call 38; refine (HM.out _).mono ?_; rintro e w2 ⟨rfl, hb2⟩))
   exact ⟨rfl, rfl, belB⟩
 ·intro w' hS
  have hb := hS.b
  simp only [putL, List.take_succ_cons, List.take_zero, List.drop_succ_cons, List.drop_zero, Act.put, List.setIfInBounds_toArray, List.set_cons_succ, List.set_cons_zero, List.getD_cons_zero, List.getD_cons_succ]
  go_wp2
  go_ret
  exact ⟨rfl, hb⟩
end Go.Proofs.YtdlbfjoemabfpaaGreatDoor
namespace Go.Proofs.YtdlbfjoemabfpaaGreatDoor
open Go.RowKit Go.Sort
set_option linter.unusedVariables false
set_option linter.unusedSimpArgs false
set_option maxRecDepth 100000
set_option maxHeartbeats 8000000 in
theorem rUntil22_any (x : RuleM) (hok : RuleOk x.r) (s : StampV) (state : Int) (h0 : 0 ≤ s.lo) (h1 : s.lo ≤ 1099511627776) (hs : state = 0 ∨ state = 1 ∨ state = 2) (w : World) :
  Calls Tryz.prog 42 #[x.val, s.val, .int .i64 state] w (Ret w (.int .i64 (untilR x.r s.status s.lo state))) := by
 have hm := fun W => rMaxAge22_any x hok s.status state hs W
 have hmb := maxAge_bounds hok s.status state
 unfold untilR
 generalize maxAgeR x.r s.status state = ma at *
 obtain ⟨X, hX⟩ : ∃ X, X = x.cells.toArray := ⟨_, rfl⟩
 obtain ⟨Y, hY⟩ : ∃ Y, Y = s.cells.toArray := ⟨_, rfl⟩
 have hXs : X.size = 18 := by rw [hX]; rfl
 have hYs : Y.size = 41 := by rw [hY]; rfl
 have eX : x.val = .agg X := by rw [hX]; rfl
 have eY : s.val = .agg Y := by rw [hY]; rfl
 have hY2 : Y[2]? = some (.int .i64 s.status) := by rw [hY]; rfl
 have hY21 : Y[21]? = some (.int .i64 s.lo) := by rw [hY]; rfl
 have a1 : IntKind.i64.wrap (s.lo + ma) = s.lo + ma := IntWalk.i64_in _ (by omega)
 simp only [eX, eY] at hm ⊢
 have HM := Lib.hid hm; have HXS := Lib.hid hXs; have HYS := Lib.hid hYs; have HY2 := Lib.hid hY2; have HY21 := Lib.hid hY21
 clear hm hX hY hXs hYs eX eY hY2 hY21 hok hs
 generalize s.status = st at *
 generalize s.lo = sl at *
 obtain ⟨m0, m1⟩ := hmb
 go_enter Tryz.func42, Tryz.ntmps42
 go_upto_region 1 with fail
 generalize hw0 : World.alloc _ _ = w0
 have hB0 : Box2 w X Y w0 := by
  rw [← hw0]
  exact ⟨(alloc2_box w _ _).1, (alloc2_box w _ _).2, belB⟩
 have HB0 := Lib.hid hB0
 clear hw0 hB0
 refine wp_det 10 (by kernel_rfl) (by kernel_rfl) (by kernel_rfl) (fun i => [.pointer (some ⟨w.heap.size + 1, 21, none⟩), .pointer (some ⟨w.heap.size + 1, 21, none⟩), .int .i64 sl, .agg X, .pointer (some ⟨w.heap.size + 1, 2, none⟩), .int .i64 st, .int .i64 state, .int .i64 ma, .int .i64 (sl + ma), .int .i64 (min 1099511627776 (sl + ma))].getD i undef) (Box2 w X Y) (HB0.out.keep (Below.drew (Below.refl _ _))) (fun _ _ h hb => h.keep hb) ?_ ?_
 ·simp only [putL, List.take_succ_cons, List.take_zero, List.drop_succ_cons, List.drop_zero, Act.put, List.setIfInBounds_toArray, List.set_cons_succ, List.set_cons_zero, List.getD_cons_zero, List.getD_cons_succ]
  refine ⟨fun W hS => ?_, fun W hS => ?_, fun W hS => ?_, fun W hS => ?_, fun W hS => ?_, fun W hS => ?_, fun W hS => ?_, fun W hS => ?_, fun W hS => ?_, fun W hS => ?_, trivial⟩
  all_goals
   have y2 := hS.y.cell HY2.out
   have y21 := hS.y.cell HY21.out
   go_wp2_with (first | (refine wpList_load_addr rfl 33 _ rfl ⟨w.heap.size, 0, none⟩ (.agg X) rfl (hS.x.rule HXS.out) ?_) | (refine wpList_load_addr rfl 56 _ rfl ⟨w.heap.size + 1, 0, none⟩ (.agg Y) rfl (hS.y.stamp HYS.out) ?_) | (go_at_call 38; refine (HM.out _).mono ?_; rintro e w2 ⟨rfl, hb2⟩))
   exact ⟨rfl, rfl, belB⟩
 ·intro w' hS
  have hb := hS.b
  simp only [putL, List.take_succ_cons, List.take_zero, List.drop_succ_cons, List.drop_zero, Act.put, List.setIfInBounds_toArray, List.set_cons_succ, List.set_cons_zero, List.getD_cons_zero, List.getD_cons_succ]
  go_wp2
  go_ret
  exact ⟨rfl, hb⟩
set_option maxHeartbeats 8000000 in
theorem rUsable_yes (x : RuleM) (s : StampV) (lo hi state purge : Int) (yo : Bool) (w : World) (hy : ∀ W, Calls Tryz.prog 41 #[x.val, s.val, perV lo hi, .int .i64 state] W (Ret W (.bool yo))) (hp : (purge = 2 ∨ purge = 1 ∧ state = 0) → False) :
  Calls Tryz.prog 43 #[x.val, s.val, perV lo hi, .int .i64 state, .int .i64 purge] w (Ret w (.bool yo)) := by
 obtain ⟨X, hX⟩ : ∃ X, X = x.cells.toArray := ⟨_, rfl⟩
 obtain ⟨Y, hY⟩ : ∃ Y, Y = s.cells.toArray := ⟨_, rfl⟩
 obtain ⟨Z, hZ⟩ : ∃ Z : Array Value, Z = #[.int .i64 lo, .int .i64 hi] := ⟨_, rfl⟩
 have hXs : X.size = 18 := by rw [hX]; rfl
 have hYs : Y.size = 41 := by rw [hY]; rfl
 have hZs : Z.size = 2 := by rw [hZ]; rfl
 have eX : x.val = .agg X := by rw [hX]; rfl
 have eY : s.val = .agg Y := by rw [hY]; rfl
 have eZ : perV lo hi = .agg Z := by rw [hZ]; rfl
 simp only [eX, eY, eZ] at hy ⊢
 have HY := Lib.hid hy; have HXS := Lib.hid hXs; have HYS := Lib.hid hYs; have HZS := Lib.hid hZs
 clear hy hX hY hZ hXs hYs hZs eX eY eZ
 have p2 : (purge == 2) = false := by simp; intro h; exact hp (.inl h)
 by_cases p1 : purge = 1
 ·subst p1
  have s0 : (state == 0) = false := by simp; intro h; exact hp (.inr ⟨rfl, h⟩)
  clear hp
  go_enter Tryz.func43, Tryz.ntmps43
  go_upto_region 3 with fail
  generalize hw0 : World.alloc _ _ = w0
  have hS : Box3 w X Y Z w0 := by
   rw [← hw0]
   exact ⟨(alloc3_heap w _ _ _).1, (alloc3_heap w _ _ _).2.1, (alloc3_heap w _ _ _).2.2, belB⟩
  clear hw0
  have hbw := hS.b
  go_wp2_with (first | (refine wpList_load_addr rfl 33 _ rfl ⟨w.heap.size, 0, none⟩ (.agg X) rfl (hS.x.rule HXS.out) ?_) | (refine wpList_load_addr rfl 56 _ rfl ⟨w.heap.size + 1, 0, none⟩ (.agg Y) rfl (hS.y.stamp HYS.out) ?_) | (refine wpList_load_addr rfl 53 _ rfl ⟨w.heap.size + 2, 0, none⟩ (.agg Z) rfl (hS.z.period HZS.out) ?_) | (go_at_call 41; refine (HY.out _).mono ?_; rintro e w2 ⟨rfl, hb2⟩))
  go_ret
  exact ⟨rfl, belB⟩
 ·have p1b : (purge == 1) = false := by simp [p1]
  clear hp
  go_enter Tryz.func43, Tryz.ntmps43
  go_upto_region 3 with fail
  generalize hw0 : World.alloc _ _ = w0
  have hS : Box3 w X Y Z w0 := by
   rw [← hw0]
   exact ⟨(alloc3_heap w _ _ _).1, (alloc3_heap w _ _ _).2.1, (alloc3_heap w _ _ _).2.2, belB⟩
  clear hw0
  have hbw := hS.b
  go_wp2_with (first | (refine wpList_load_addr rfl 33 _ rfl ⟨w.heap.size, 0, none⟩ (.agg X) rfl (hS.x.rule HXS.out) ?_) | (refine wpList_load_addr rfl 56 _ rfl ⟨w.heap.size + 1, 0, none⟩ (.agg Y) rfl (hS.y.stamp HYS.out) ?_) | (refine wpList_load_addr rfl 53 _ rfl ⟨w.heap.size + 2, 0, none⟩ (.agg Z) rfl (hS.z.period HZS.out) ?_) | (go_at_call 41; refine (HY.out _).mono ?_; rintro e w2 ⟨rfl, hb2⟩))
  go_ret
  exact ⟨rfl, belB⟩
set_option maxHeartbeats 8000000 in
theorem rUsable_no (x : RuleM) (s : StampV) (lo hi state purge : Int) (w : World) (hp : purge = 2 ∨ purge = 1 ∧ state = 0) :
  Calls Tryz.prog 43 #[x.val, s.val, perV lo hi, .int .i64 state, .int .i64 purge] w (Ret w (.bool false)) := by
 unfold RuleM.val StampV.val perV
 generalize x.cells.toArray = X
 generalize s.cells.toArray = Y
 rcases hp with rfl | ⟨rfl, rfl⟩
 all_goals
  go_enter Tryz.func43, Tryz.ntmps43
  go_wp2
  go_ret
  exact ⟨rfl, belB⟩
theorem rUsable22_any (x : RuleM) (hok : RuleOk x.r) (s : StampV) (lo hi state purge : Int) (h0 : 0 ≤ s.lo) (h1 : s.lo ≤ 1099511627776) (h2 : 0 ≤ hi) (h3 : hi ≤ 1099511627776) (hs : state = 0 ∨ state = 1 ∨ state = 2) (hpg : 0 ≤ purge ∧ purge ≤ 2) (w : World) :
  Calls Tryz.prog 43 #[x.val, s.val, perV lo hi, .int .i64 state, .int .i64 purge] w (Ret w (.bool (usableR x.r s.status s.lo hi state purge))) := by
 unfold usableR
 by_cases hp : purge = 2 ∨ purge = 1 ∧ state = 0
 ·have e : ((decide (purge = 0) || (decide (purge = 1) && !decide (state = 0))) && youngR x.r s.status s.lo hi state) = false := by
   rcases hp with rfl | ⟨rfl, rfl⟩ <;> simp
  rw [e]
  exact rUsable_no x s lo hi state purge w hp
 ·have e : ((decide (purge = 0) || (decide (purge = 1) && !decide (state = 0))) && youngR x.r s.status s.lo hi state) = youngR x.r s.status s.lo hi state := by
   have : (decide (purge = 0) || (decide (purge = 1) && !decide (state = 0))) = true := by
    simp
    omega
   rw [this, Bool.true_and]
  rw [e]
  exact rUsable_yes x s lo hi state purge _ w (fun W => rYoung22_any x hok s lo hi state h0 h1 h2 h3 hs W) hp
set_option maxHeartbeats 4000000 in
theorem rShort04_any (A : Option Addr) (n c : Nat) (xs : List ByteArray) (most : Int) (w : World) (hA : Reads w 1 A n (xs.map .string)) (hn : n ≤ 1000000) : Calls Tryz.prog 80 #[.slice A n c, .int .i64 most] w (Ret w (.bool (xs.all (fun x => decide (x.size ≤ 200)) && decide ((n : Int) ≤ most)))) := by
 have hl : xs.length = n := by have := hA.1; simp at this; omega
 obtain ⟨p, hp⟩ : ∃ p : ByteArray → Bool, p = fun x => decide (x.size ≤ 200) := ⟨_, rfl⟩
 rw [← hp]
 obtain ⟨V, hV⟩ : ∃ V, V = xs.all p := ⟨_, rfl⟩
 rw [← hV]
 have HA := Lib.hid hA; have HL := Lib.hid hl; have HV := Lib.hid hV; have HP := Lib.hid hp
 clear hA hl hV hp
 go_enter Tryz.func80, Tryz.ntmps80
 go_wp2
 go_loopw [5] (fun i wr => ∃ k : Nat, k ≤ n ∧ i = .int .i64 k ∧ Hid (V = (xs.drop k).all p) ∧ Below w.heap.size w wr) (fun i _ => n - (intOf i).toNat)
 case atStart => exact ⟨0, by omega, rfl, Lib.hid (by rw [HV.out]; rfl), Below.refl _ _⟩
 case round =>
  obtain ⟨k, hk, rfl, HI, hb⟩ := hrel
  by_cases hlt : k < n
  ·obtain ⟨u, hu⟩ : ∃ u, xs[k]? = some u := ⟨_, List.getElem?_eq_getElem (by have := HL.out; omega)⟩
   obtain ⟨pb, po, rfl, hcell⟩ := (HA.out.keep hb).2 (by omega)
   have hc1 : wr.cell? ⟨pb, po + k, none⟩ = some (.string u) := hcell k _ (by simp [hu])
   have hk0 : (0 : Int) ≤ (k : Int) := by omega
   have hk1 : (k : Int) < (n : Int) := by omega
   by_cases hs : u.size ≤ 200
   ·have hVs : V = (xs.drop (k + 1)).all p := by rw [HI.out]; exact all_step _ _ _ _ hu (by rw [HP.out]; exact decide_eq_true hs)
    have HI2 := Lib.hid hVs
    have hs1 : ¬ (200 : Int) < (u.size : Int) := by omega
    clear hcell hu hVs
    go_wp2
    exact ⟨⟨k + 1, by omega, by go_num, HI2, hb⟩, by simp [intOf]; omega⟩
   ·have hVf : V = false := by rw [HI.out]; exact all_stop _ _ _ _ hu (by rw [HP.out]; exact decide_eq_false hs)
    subst hVf
    have hs1 : (200 : Int) < (u.size : Int) := by omega
    clear hcell hu
    rw [Bool.false_and]
    go_wp2
    go_ret
    exact ⟨rfl, hb⟩
  ·have hVt : V = true := by rw [HI.out, List.drop_eq_nil_of_le (by have := HL.out; omega)]; rfl
   subst hVt
   rw [Bool.true_and]
   go_wp2
   go_ret
   exact ⟨rfl, hb⟩
def shortR (s : StampV) : Bool := [s.addr, s.variant, s.tags].all (fun x => decide (x.size ≤ 200))
set_option maxHeartbeats 4000000 in
theorem rShortStamp_any (s : StampV) (w : World) : Calls Tryz.prog 28 #[s.val] w (Ret w (.bool (shortR s))) := by
 have hk : ∀ W : World, Calls Tryz.prog 80 #[.slice (some ⟨W.heap.size, 0, none⟩) 3 3, .int .i64 3] (W.alloc (.cells #[.string s.addr, .string s.variant, .string s.tags] 9)) (Ret (W.alloc (.cells #[.string s.addr, .string s.variant, .string s.tags] 9)) (.bool (shortR s))) := by
  intro W
  have h := rShort04_any (some ⟨W.heap.size, 0, none⟩) 3 3 [s.addr, s.variant, s.tags] 3 (W.alloc (.cells #[.string s.addr, .string s.variant, .string s.tags] 9)) (reads_new W 9 [.string s.addr, .string s.variant, .string s.tags] 3 rfl) (by omega)
  have e : (([s.addr, s.variant, s.tags].all (fun x => decide (x.size ≤ 200))) && decide (((3 : Nat) : Int) ≤ 3)) = shortR s := by unfold shortR; simp
  rw [e] at h
  exact h
 generalize shortR s = v at *
 obtain ⟨Y, hY⟩ : ∃ Y, Y = s.cells.toArray := ⟨_, rfl⟩
 have eY : s.val = .agg Y := by rw [hY]; rfl
 have hY0 : Y[0]? = some (.string s.addr) := by rw [hY]; rfl
 have hY1 : Y[1]? = some (.string s.variant) := by rw [hY]; rfl
 have hY20 : Y[20]? = some (.string s.tags) := by rw [hY]; rfl
 rw [eY]
 have HK := Lib.hid hk; have HY0 := Lib.hid hY0; have HY1 := Lib.hid hY1; have HY20 := Lib.hid hY20
 clear hk hY eY hY0 hY1 hY20
 go_enter Tryz.func28, Tryz.ntmps28
 go_upto_region 1 with fail
 generalize hw0 : World.alloc _ _ = w0
 have hB : Box1 w0 w.heap.size 56 Y := by rw [← hw0]; exact heap_alloc_new w _
 have hbw : Below w.heap.size w w0 := by rw [← hw0]; exact belB
 clear hw0
 have y0 := hB.cell HY0.out
 have y1 := hB.cell HY1.out
 have y20 := hB.cell HY20.out
 go_wp2_with (go_at_call 80; refine (HK.out _).mono ?_; rintro e w2 ⟨rfl, hb2⟩)
 go_ret
 exact ⟨rfl, belB⟩
end Go.Proofs.YtdlbfjoemabfpaaGreatDoor
namespace Go.Proofs.YtdlbfjoemabfpaaGreatDoor
open Go.RowKit Go.Sort
set_option linter.unusedVariables false
set_option linter.unusedSimpArgs false
set_option maxRecDepth 100000
def stateB (n : Int) : Bool := decide (0 ≤ n) && decide (n ≤ 2)
theorem rState22 (n : Int) (w : World) : Calls Tryz.prog 30 #[.int .i64 n] w (Ret w (.bool (stateB n))) := by
 unfold stateB
 by_cases h0 : 0 ≤ n
 ·go_enter Tryz.func30, Tryz.ntmps30
  go_wp2
  go_ret
  exact ⟨by simp [h0], belB⟩
 ·go_enter Tryz.func30, Tryz.ntmps30
  go_wp2
  go_ret
  exact ⟨by simp [h0]; intros; omega, belB⟩
theorem state_three {n : Int} (h : stateB n = true) : n = 0 ∨ n = 1 ∨ n = 2 := by
 unfold stateB at h
 simp only [Bool.and_eq_true, decide_eq_true_eq] at h
 omega
theorem period_ok {lo hi : Int} (h : periodB lo hi = true) : 0 ≤ lo ∧ lo ≤ 1099511627776 ∧ 0 ≤ hi ∧ hi ≤ 1099511627776 ∧ lo ≤ hi := by
 unfold periodB at h
 simp only [Bool.and_eq_true, decide_eq_true_eq] at h
 omega
theorem Box1.at_ {W : World} {g : Nat} {Y : Array Value} {a b : Int} (h : Box1 W g 56 Y) (h0 : Y[21]? = some (.int .i64 a)) (h1 : Y[22]? = some (.int .i64 b)) : (loadVar 53 ⟨g, 21, none⟩).run Tryz.prog W = .ok (perV a b) W := by
 refine run_loadVar_at (P := Tryz.prog) W g 21 56 53 Y.toList [.int .i64 a, .int .i64 b] (0, 0) _ ?_ ?_ Tryz.underlying53 rfl (by kernel_rfl)
 ·rw [Array.toArray_toList]; exact h
 ·intro j v hj
  rw [← Array.getElem?_toList] at h0 h1
  match j, hj with
  | 0, hj => rw [← hj]; exact h0
  | 1, hj => rw [← hj]; exact h1
structure Box4 (w : World) (X Y Z U : Array Value) (W : World) : Prop where
 x : Box1 W w.heap.size 33 X
 y : Box1 W (w.heap.size + 1) 56 Y
 z : Box1 W (w.heap.size + 2) 53 Z
 u : Box1 W (w.heap.size + 3) 53 U
 b : Below w.heap.size w W
theorem Box4.keep {w W W' : World} {X Y Z U : Array Value} (h : Box4 w X Y Z U W) (hb : Below W.heap.size W W') : Box4 w X Y Z U W' := ⟨h.x.keep hb, h.y.keep hb, h.z.keep hb, h.u.keep hb, bstep h.b hb⟩
structure Box5 (w : World) (X Y Z U : Array Value) (g : Nat) (Y2 : Array Value) (W : World) : Prop where
 f : Box4 w X Y Z U W
 l : Box1 W g 56 Y2
theorem Box5.keep {w W W' : World} {X Y Z U Y2 : Array Value} {g : Nat} (h : Box5 w X Y Z U g Y2 W) (hb : Below W.heap.size W W') : Box5 w X Y Z U g Y2 W' := ⟨h.f.keep hb, h.l.keep hb⟩
theorem Box1.lt {W : World} {g : Nat} {t : TypeId} {X : Array Value} (h : Box1 W g t X) : g < W.heap.size := by
 unfold Box1 at h
 rcases Nat.lt_or_ge g W.heap.size with h' | h'
 ·exact h'
 ·rw [Array.getElem?_eq_none h'] at h; cases h
theorem Box1.far {W : World} {g : Nat} {t : TypeId} {X : Array Value} (h : Box1 W g t X) (p : Addr) (u : Value) (hp : g ≠ p.block) : Box1 (W.setCell p u) g t X := (heap_setCell_other W p g u hp).trans h
end Go.Proofs.YtdlbfjoemabfpaaGreatDoor
namespace Go.Proofs.YtdlbfjoemabfpaaGreatDoor
open Go.RowKit Go.Sort
set_option linter.unusedVariables false
set_option linter.unusedSimpArgs false
set_option maxRecDepth 100000
set_option maxHeartbeats 16000000 in
theorem lawAg (x : RuleM) (s : StampV) (lo hi n purge : Int) (w : World) (hR : RuleReads w x) (hL : LEnv w) : Calls Tryz.prog 8 #[x.val, s.val, perV lo hi, .int .i64 n, .int .i64 purge] w (Ret w (.bool true)) := by
 have hfw := fun W (hb : Below w.heap.size w W) => rFew22_any x W (hR.keep hb)
 have hvl := fun (h : fewR x.r = true) W (hb : Below w.heap.size w W) => rValid22_any x W (hR.keep hb) (fewR_fits h)
 have hsh := fun W => rShortStamp_any s W
 have hpa := fun W => rPeriod22_any s.lo s.hi W
 have hpb := fun W => rPeriod22_any lo hi W
 have hst := fun W => rState22 n W
 have ha1 := fun (hok : RuleOk x.r) (hs : n = 0 ∨ n = 1 ∨ n = 2) W => maxAge_any x hok s.status n hs W
 have ha2 := fun (hok : RuleOk x.r) (hs : n = 0 ∨ n = 1 ∨ n = 2) W => rMaxAge22_any x hok s.status n hs W
 have hg1 := fun (h : 0 ≤ s.lo ∧ s.lo ≤ 1099511627776) (h2 : 0 ≤ hi ∧ hi ≤ 1099511627776) W => age_any s lo hi h.1 h.2 h2.1 h2.2 W
 have hg2 := fun (h : 0 ≤ s.lo ∧ s.lo ≤ 1099511627776) (h2 : 0 ≤ hi ∧ hi ≤ 1099511627776) W => rAge22_any s lo hi h.1 h.2 h2.1 h2.2 W
 have hy1 := fun (hok : RuleOk x.r) (h : 0 ≤ s.lo ∧ s.lo ≤ 1099511627776) (hs : n = 0 ∨ n = 1 ∨ n = 2) W => young_any x hok s lo hi n h.1 h.2 hs W
 have hy2 := fun (hok : RuleOk x.r) (h : 0 ≤ s.lo ∧ s.lo ≤ 1099511627776) (h2 : 0 ≤ hi ∧ hi ≤ 1099511627776) (hs : n = 0 ∨ n = 1 ∨ n = 2) W => rYoung22_any x hok s lo hi n h.1 h.2 h2.1 h2.2 hs W
 have hu1 := fun (hok : RuleOk x.r) (h : 0 ≤ s.lo ∧ s.lo ≤ 1099511627776) (hs : n = 0 ∨ n = 1 ∨ n = 2) W => until_any x hok s n h.1 h.2 hs W
 have hu2 := fun (hok : RuleOk x.r) (h : 0 ≤ s.lo ∧ s.lo ≤ 1099511627776) (hs : n = 0 ∨ n = 1 ∨ n = 2) W => rUntil22_any x hok s n h.1 h.2 hs W
 have hs1 := fun (hok : RuleOk x.r) (h : 0 ≤ s.lo ∧ s.lo ≤ 1099511627776) (hs : n = 0 ∨ n = 1 ∨ n = 2) W => usable_any x hok s lo hi n purge h.1 h.2 hs W
 have hs2 := fun (hok : RuleOk x.r) (h : 0 ≤ s.lo ∧ s.lo ≤ 1099511627776) (h2 : 0 ≤ hi ∧ hi ≤ 1099511627776) (hs : n = 0 ∨ n = 1 ∨ n = 2) (hp : 0 ≤ purge ∧ purge ≤ 2) W => rUsable22_any x hok s lo hi n purge h.1 h.2 h2.1 h2.2 hs hp W
 obtain ⟨X, hX⟩ : ∃ X, X = x.cells.toArray := ⟨_, rfl⟩
 obtain ⟨Y, hY⟩ : ∃ Y, Y = s.cells.toArray := ⟨_, rfl⟩
 obtain ⟨Z, hZ⟩ : ∃ Z : Array Value, Z = #[.int .i64 lo, .int .i64 hi] := ⟨_, rfl⟩
 have hXs : X.size = 18 := by rw [hX]; rfl
 have hYs : Y.size = 41 := by rw [hY]; rfl
 have hZs : Z.size = 2 := by rw [hZ]; rfl
 have eX : x.val = .agg X := by rw [hX]; rfl
 have eY : s.val = .agg Y := by rw [hY]; rfl
 have eZ : perV lo hi = .agg Z := by rw [hZ]; rfl
 have hY2 : Y[2]? = some (.int .i64 s.status) := by rw [hY]; rfl
 have hY21 : Y[21]? = some (.int .i64 s.lo) := by rw [hY]; rfl
 have hY22 : Y[22]? = some (.int .i64 s.hi) := by rw [hY]; rfl
 simp only [eX, eY, eZ] at hfw hvl hsh hpb ha1 ha2 hg1 hg2 hy1 hy2 hu1 hu2 hs1 hs2 ⊢
 have hma := maxAge_bounds (r := x.r)
 generalize maxAgeR x.r s.status n = ma at *
 generalize ageR s.lo hi = ag at *
 generalize youngR x.r s.status s.lo hi n = yo at *
 generalize untilR x.r s.status s.lo n = un at *
 generalize usableR x.r s.status s.lo hi n purge = us at *
 have HL := Lib.hid hL; have HF := Lib.hid hfw; have HSH := Lib.hid hsh; have HPA := Lib.hid hpa; have HPB := Lib.hid hpb; have HST := Lib.hid hst
 have HXS := Lib.hid hXs; have HYS := Lib.hid hYs; have HZS := Lib.hid hZs; have HY2 := Lib.hid hY2; have HY21 := Lib.hid hY21; have HY22 := Lib.hid hY22
 have K1 := Lib.hid ha1; have K2 := Lib.hid ha2; have K3 := Lib.hid hg1; have K4 := Lib.hid hg2; have K5 := Lib.hid hy1; have K6 := Lib.hid hy2; have K7 := Lib.hid hu1; have K8 := Lib.hid hu2; have K9 := Lib.hid hs1; have K10 := Lib.hid hs2; have HVL := Lib.hid hvl
 clear hL hfw hsh hpa hpb hst hXs hYs hZs hY2 hY21 hY22 ha1 ha2 hg1 hg2 hy1 hy2 hu1 hu2 hs1 hs2 hX hY hZ eX eY eZ hvl hR hma
 cases h1 : fewR x.r
 ·rw [h1] at HF
  clear h1
  go_enter Tryz.func8, Tryz.ntmps8
  go_upto_region 1 with fail
  generalize hw0 : World.alloc _ _ = w0
  have hS : Box3 w X Y Z w0 := by
   rw [← hw0]
   exact ⟨(alloc3_heap w _ _ _).1, (alloc3_heap w _ _ _).2.1, (alloc3_heap w _ _ _).2.2, belB⟩
  clear hw0
  go_wp2_with (first | (refine wpList_load_addr rfl 33 _ rfl ⟨w.heap.size, 0, none⟩ (.agg X) rfl (hS.x.rule HXS.out) ?_) | (go_big_want; first | (refine wp_load_addr 33 _ rfl ⟨w.heap.size, 0, none⟩ (.agg X) rfl (hS.x.rule HXS.out) ?_; simp only [Act.put, List.setIfInBounds_toArray, List.set_cons_succ, List.set_cons_zero]) | (refine wp_load_addr 56 _ rfl ⟨w.heap.size + 1, 0, none⟩ (.agg Y) rfl (hS.y.stamp HYS.out) ?_; simp only [Act.put, List.setIfInBounds_toArray, List.set_cons_succ, List.set_cons_zero]) | (refine wp_load_addr 53 _ rfl ⟨w.heap.size + 1, 21, none⟩ _ rfl (hS.y.at_ HY21.out HY22.out) ?_; simp only [Act.put, List.setIfInBounds_toArray, List.set_cons_succ, List.set_cons_zero]) | (refine wp_load_addr 53 _ rfl ⟨w.heap.size + 2, 0, none⟩ (.agg Z) rfl (hS.z.period HZS.out) ?_; simp only [Act.put, List.setIfInBounds_toArray, List.set_cons_succ, List.set_cons_zero])) | (go_at_call 27; refine (HF.out _ hS.b).mono ?_; (rintro e w' ⟨rfl, hb'⟩; replace hS := hS.keep hb'; clear hb')) | (go_at_call 12; refine (HV.out _ hS.b).mono ?_; (rintro e w' ⟨rfl, hb'⟩; replace hS := hS.keep hb'; clear hb')) | (go_at_call 28; refine (HSH.out _).mono ?_; (rintro e w' ⟨rfl, hb'⟩; replace hS := hS.keep hb'; clear hb')) | (go_at_call 29; (first | (with_reducible refine (HPA.out _).mono ?_) | (with_reducible refine (HPB.out _).mono ?_)); (rintro e w' ⟨rfl, hb'⟩; replace hS := hS.keep hb'; clear hb')) | (go_at_call 30; refine (HST.out _).mono ?_; (rintro e w' ⟨rfl, hb'⟩; replace hS := hS.keep hb'; clear hb')) | (go_at_call 10; refine (sanL _ (HL.out.keep hS.b)).mono ?_; (rintro e w' ⟨rfl, hb'⟩; replace hS := hS.keep hb'; clear hb')))
  go_ret
  exact ⟨rfl, hS.b⟩
 rw [h1] at HF
 have HV := Lib.hid (HVL.out h1)
 clear HVL h1
 cases h2 : validR x.r
 ·rw [h2] at HV
  clear h2
  go_enter Tryz.func8, Tryz.ntmps8
  go_upto_region 1 with fail
  generalize hw0 : World.alloc _ _ = w0
  have hS : Box3 w X Y Z w0 := by
   rw [← hw0]
   exact ⟨(alloc3_heap w _ _ _).1, (alloc3_heap w _ _ _).2.1, (alloc3_heap w _ _ _).2.2, belB⟩
  clear hw0
  go_wp2_with (first | (refine wpList_load_addr rfl 33 _ rfl ⟨w.heap.size, 0, none⟩ (.agg X) rfl (hS.x.rule HXS.out) ?_) | (go_big_want; first | (refine wp_load_addr 33 _ rfl ⟨w.heap.size, 0, none⟩ (.agg X) rfl (hS.x.rule HXS.out) ?_; simp only [Act.put, List.setIfInBounds_toArray, List.set_cons_succ, List.set_cons_zero]) | (refine wp_load_addr 56 _ rfl ⟨w.heap.size + 1, 0, none⟩ (.agg Y) rfl (hS.y.stamp HYS.out) ?_; simp only [Act.put, List.setIfInBounds_toArray, List.set_cons_succ, List.set_cons_zero]) | (refine wp_load_addr 53 _ rfl ⟨w.heap.size + 1, 21, none⟩ _ rfl (hS.y.at_ HY21.out HY22.out) ?_; simp only [Act.put, List.setIfInBounds_toArray, List.set_cons_succ, List.set_cons_zero]) | (refine wp_load_addr 53 _ rfl ⟨w.heap.size + 2, 0, none⟩ (.agg Z) rfl (hS.z.period HZS.out) ?_; simp only [Act.put, List.setIfInBounds_toArray, List.set_cons_succ, List.set_cons_zero])) | (go_at_call 27; refine (HF.out _ hS.b).mono ?_; (rintro e w' ⟨rfl, hb'⟩; replace hS := hS.keep hb'; clear hb')) | (go_at_call 12; refine (HV.out _ hS.b).mono ?_; (rintro e w' ⟨rfl, hb'⟩; replace hS := hS.keep hb'; clear hb')) | (go_at_call 28; refine (HSH.out _).mono ?_; (rintro e w' ⟨rfl, hb'⟩; replace hS := hS.keep hb'; clear hb')) | (go_at_call 29; (first | (with_reducible refine (HPA.out _).mono ?_) | (with_reducible refine (HPB.out _).mono ?_)); (rintro e w' ⟨rfl, hb'⟩; replace hS := hS.keep hb'; clear hb')) | (go_at_call 30; refine (HST.out _).mono ?_; (rintro e w' ⟨rfl, hb'⟩; replace hS := hS.keep hb'; clear hb')) | (go_at_call 10; refine (sanL _ (HL.out.keep hS.b)).mono ?_; (rintro e w' ⟨rfl, hb'⟩; replace hS := hS.keep hb'; clear hb')))
  go_ret
  exact ⟨rfl, hS.b⟩
 rw [h2] at HV
 have hok := rule_ok h2
 clear h2
 cases h3 : shortR s
 ·rw [h3] at HSH
  clear h3 hok
  go_enter Tryz.func8, Tryz.ntmps8
  go_upto_region 1 with fail
  generalize hw0 : World.alloc _ _ = w0
  have hS : Box3 w X Y Z w0 := by
   rw [← hw0]
   exact ⟨(alloc3_heap w _ _ _).1, (alloc3_heap w _ _ _).2.1, (alloc3_heap w _ _ _).2.2, belB⟩
  clear hw0
  go_wp2_with (first | (refine wpList_load_addr rfl 33 _ rfl ⟨w.heap.size, 0, none⟩ (.agg X) rfl (hS.x.rule HXS.out) ?_) | (go_big_want; first | (refine wp_load_addr 33 _ rfl ⟨w.heap.size, 0, none⟩ (.agg X) rfl (hS.x.rule HXS.out) ?_; simp only [Act.put, List.setIfInBounds_toArray, List.set_cons_succ, List.set_cons_zero]) | (refine wp_load_addr 56 _ rfl ⟨w.heap.size + 1, 0, none⟩ (.agg Y) rfl (hS.y.stamp HYS.out) ?_; simp only [Act.put, List.setIfInBounds_toArray, List.set_cons_succ, List.set_cons_zero]) | (refine wp_load_addr 53 _ rfl ⟨w.heap.size + 1, 21, none⟩ _ rfl (hS.y.at_ HY21.out HY22.out) ?_; simp only [Act.put, List.setIfInBounds_toArray, List.set_cons_succ, List.set_cons_zero]) | (refine wp_load_addr 53 _ rfl ⟨w.heap.size + 2, 0, none⟩ (.agg Z) rfl (hS.z.period HZS.out) ?_; simp only [Act.put, List.setIfInBounds_toArray, List.set_cons_succ, List.set_cons_zero])) | (go_at_call 27; refine (HF.out _ hS.b).mono ?_; (rintro e w' ⟨rfl, hb'⟩; replace hS := hS.keep hb'; clear hb')) | (go_at_call 12; refine (HV.out _ hS.b).mono ?_; (rintro e w' ⟨rfl, hb'⟩; replace hS := hS.keep hb'; clear hb')) | (go_at_call 28; refine (HSH.out _).mono ?_; (rintro e w' ⟨rfl, hb'⟩; replace hS := hS.keep hb'; clear hb')) | (go_at_call 29; (first | (with_reducible refine (HPA.out _).mono ?_) | (with_reducible refine (HPB.out _).mono ?_)); (rintro e w' ⟨rfl, hb'⟩; replace hS := hS.keep hb'; clear hb')) | (go_at_call 30; refine (HST.out _).mono ?_; (rintro e w' ⟨rfl, hb'⟩; replace hS := hS.keep hb'; clear hb')) | (go_at_call 10; refine (sanL _ (HL.out.keep hS.b)).mono ?_; (rintro e w' ⟨rfl, hb'⟩; replace hS := hS.keep hb'; clear hb')))
  go_ret
  exact ⟨rfl, hS.b⟩
 rw [h3] at HSH
 clear h3
 cases h4 : periodB s.lo s.hi
 ·rw [h4] at HPA
  clear h4 hok
  go_enter Tryz.func8, Tryz.ntmps8
  go_upto_region 1 with fail
  generalize hw0 : World.alloc _ _ = w0
  have hS : Box3 w X Y Z w0 := by
   rw [← hw0]
   exact ⟨(alloc3_heap w _ _ _).1, (alloc3_heap w _ _ _).2.1, (alloc3_heap w _ _ _).2.2, belB⟩
  clear hw0
  go_wp2_with (first | (refine wpList_load_addr rfl 33 _ rfl ⟨w.heap.size, 0, none⟩ (.agg X) rfl (hS.x.rule HXS.out) ?_) | (go_big_want; first | (refine wp_load_addr 33 _ rfl ⟨w.heap.size, 0, none⟩ (.agg X) rfl (hS.x.rule HXS.out) ?_; simp only [Act.put, List.setIfInBounds_toArray, List.set_cons_succ, List.set_cons_zero]) | (refine wp_load_addr 56 _ rfl ⟨w.heap.size + 1, 0, none⟩ (.agg Y) rfl (hS.y.stamp HYS.out) ?_; simp only [Act.put, List.setIfInBounds_toArray, List.set_cons_succ, List.set_cons_zero]) | (refine wp_load_addr 53 _ rfl ⟨w.heap.size + 1, 21, none⟩ _ rfl (hS.y.at_ HY21.out HY22.out) ?_; simp only [Act.put, List.setIfInBounds_toArray, List.set_cons_succ, List.set_cons_zero]) | (refine wp_load_addr 53 _ rfl ⟨w.heap.size + 2, 0, none⟩ (.agg Z) rfl (hS.z.period HZS.out) ?_; simp only [Act.put, List.setIfInBounds_toArray, List.set_cons_succ, List.set_cons_zero])) | (go_at_call 27; refine (HF.out _ hS.b).mono ?_; (rintro e w' ⟨rfl, hb'⟩; replace hS := hS.keep hb'; clear hb')) | (go_at_call 12; refine (HV.out _ hS.b).mono ?_; (rintro e w' ⟨rfl, hb'⟩; replace hS := hS.keep hb'; clear hb')) | (go_at_call 28; refine (HSH.out _).mono ?_; (rintro e w' ⟨rfl, hb'⟩; replace hS := hS.keep hb'; clear hb')) | (go_at_call 29; (first | (with_reducible refine (HPA.out _).mono ?_) | (with_reducible refine (HPB.out _).mono ?_)); (rintro e w' ⟨rfl, hb'⟩; replace hS := hS.keep hb'; clear hb')) | (go_at_call 30; refine (HST.out _).mono ?_; (rintro e w' ⟨rfl, hb'⟩; replace hS := hS.keep hb'; clear hb')) | (go_at_call 10; refine (sanL _ (HL.out.keep hS.b)).mono ?_; (rintro e w' ⟨rfl, hb'⟩; replace hS := hS.keep hb'; clear hb')))
  go_ret
  exact ⟨rfl, hS.b⟩
 rw [h4] at HPA
 have p4 := period_ok h4
 clear h4
 cases h5 : periodB lo hi
 ·rw [h5] at HPB
  clear h5 hok p4
  go_enter Tryz.func8, Tryz.ntmps8
  go_upto_region 1 with fail
  generalize hw0 : World.alloc _ _ = w0
  have hS : Box3 w X Y Z w0 := by
   rw [← hw0]
   exact ⟨(alloc3_heap w _ _ _).1, (alloc3_heap w _ _ _).2.1, (alloc3_heap w _ _ _).2.2, belB⟩
  clear hw0
  go_wp2_with (first | (refine wpList_load_addr rfl 33 _ rfl ⟨w.heap.size, 0, none⟩ (.agg X) rfl (hS.x.rule HXS.out) ?_) | (go_big_want; first | (refine wp_load_addr 33 _ rfl ⟨w.heap.size, 0, none⟩ (.agg X) rfl (hS.x.rule HXS.out) ?_; simp only [Act.put, List.setIfInBounds_toArray, List.set_cons_succ, List.set_cons_zero]) | (refine wp_load_addr 56 _ rfl ⟨w.heap.size + 1, 0, none⟩ (.agg Y) rfl (hS.y.stamp HYS.out) ?_; simp only [Act.put, List.setIfInBounds_toArray, List.set_cons_succ, List.set_cons_zero]) | (refine wp_load_addr 53 _ rfl ⟨w.heap.size + 1, 21, none⟩ _ rfl (hS.y.at_ HY21.out HY22.out) ?_; simp only [Act.put, List.setIfInBounds_toArray, List.set_cons_succ, List.set_cons_zero]) | (refine wp_load_addr 53 _ rfl ⟨w.heap.size + 2, 0, none⟩ (.agg Z) rfl (hS.z.period HZS.out) ?_; simp only [Act.put, List.setIfInBounds_toArray, List.set_cons_succ, List.set_cons_zero])) | (go_at_call 27; refine (HF.out _ hS.b).mono ?_; (rintro e w' ⟨rfl, hb'⟩; replace hS := hS.keep hb'; clear hb')) | (go_at_call 12; refine (HV.out _ hS.b).mono ?_; (rintro e w' ⟨rfl, hb'⟩; replace hS := hS.keep hb'; clear hb')) | (go_at_call 28; refine (HSH.out _).mono ?_; (rintro e w' ⟨rfl, hb'⟩; replace hS := hS.keep hb'; clear hb')) | (go_at_call 29; (first | (with_reducible refine (HPA.out _).mono ?_) | (with_reducible refine (HPB.out _).mono ?_)); (rintro e w' ⟨rfl, hb'⟩; replace hS := hS.keep hb'; clear hb')) | (go_at_call 30; refine (HST.out _).mono ?_; (rintro e w' ⟨rfl, hb'⟩; replace hS := hS.keep hb'; clear hb')) | (go_at_call 10; refine (sanL _ (HL.out.keep hS.b)).mono ?_; (rintro e w' ⟨rfl, hb'⟩; replace hS := hS.keep hb'; clear hb')))
  go_ret
  exact ⟨rfl, hS.b⟩
 rw [h5] at HPB
 have p5 := period_ok h5
 clear h5
 cases h6 : stateB n
 ·rw [h6] at HST
  clear h6 hok p4 p5
  go_enter Tryz.func8, Tryz.ntmps8
  go_upto_region 1 with fail
  generalize hw0 : World.alloc _ _ = w0
  have hS : Box3 w X Y Z w0 := by
   rw [← hw0]
   exact ⟨(alloc3_heap w _ _ _).1, (alloc3_heap w _ _ _).2.1, (alloc3_heap w _ _ _).2.2, belB⟩
  clear hw0
  go_wp2_with (first | (refine wpList_load_addr rfl 33 _ rfl ⟨w.heap.size, 0, none⟩ (.agg X) rfl (hS.x.rule HXS.out) ?_) | (go_big_want; first | (refine wp_load_addr 33 _ rfl ⟨w.heap.size, 0, none⟩ (.agg X) rfl (hS.x.rule HXS.out) ?_; simp only [Act.put, List.setIfInBounds_toArray, List.set_cons_succ, List.set_cons_zero]) | (refine wp_load_addr 56 _ rfl ⟨w.heap.size + 1, 0, none⟩ (.agg Y) rfl (hS.y.stamp HYS.out) ?_; simp only [Act.put, List.setIfInBounds_toArray, List.set_cons_succ, List.set_cons_zero]) | (refine wp_load_addr 53 _ rfl ⟨w.heap.size + 1, 21, none⟩ _ rfl (hS.y.at_ HY21.out HY22.out) ?_; simp only [Act.put, List.setIfInBounds_toArray, List.set_cons_succ, List.set_cons_zero]) | (refine wp_load_addr 53 _ rfl ⟨w.heap.size + 2, 0, none⟩ (.agg Z) rfl (hS.z.period HZS.out) ?_; simp only [Act.put, List.setIfInBounds_toArray, List.set_cons_succ, List.set_cons_zero])) | (go_at_call 27; refine (HF.out _ hS.b).mono ?_; (rintro e w' ⟨rfl, hb'⟩; replace hS := hS.keep hb'; clear hb')) | (go_at_call 12; refine (HV.out _ hS.b).mono ?_; (rintro e w' ⟨rfl, hb'⟩; replace hS := hS.keep hb'; clear hb')) | (go_at_call 28; refine (HSH.out _).mono ?_; (rintro e w' ⟨rfl, hb'⟩; replace hS := hS.keep hb'; clear hb')) | (go_at_call 29; (first | (with_reducible refine (HPA.out _).mono ?_) | (with_reducible refine (HPB.out _).mono ?_)); (rintro e w' ⟨rfl, hb'⟩; replace hS := hS.keep hb'; clear hb')) | (go_at_call 30; refine (HST.out _).mono ?_; (rintro e w' ⟨rfl, hb'⟩; replace hS := hS.keep hb'; clear hb')) | (go_at_call 10; refine (sanL _ (HL.out.keep hS.b)).mono ?_; (rintro e w' ⟨rfl, hb'⟩; replace hS := hS.keep hb'; clear hb')))
  go_ret
  exact ⟨rfl, hS.b⟩
 rw [h6] at HST
 have p6 := state_three h6
 clear h6
 by_cases h7 : purge < 0
 ·have d7 : decide (purge < 0) = true := decide_eq_true h7
  clear hok p4 p5 p6
  go_enter Tryz.func8, Tryz.ntmps8
  go_upto_region 1 with fail
  generalize hw0 : World.alloc _ _ = w0
  have hS : Box3 w X Y Z w0 := by
   rw [← hw0]
   exact ⟨(alloc3_heap w _ _ _).1, (alloc3_heap w _ _ _).2.1, (alloc3_heap w _ _ _).2.2, belB⟩
  clear hw0
  go_wp2_with (first | (refine wpList_load_addr rfl 33 _ rfl ⟨w.heap.size, 0, none⟩ (.agg X) rfl (hS.x.rule HXS.out) ?_) | (go_big_want; first | (refine wp_load_addr 33 _ rfl ⟨w.heap.size, 0, none⟩ (.agg X) rfl (hS.x.rule HXS.out) ?_; simp only [Act.put, List.setIfInBounds_toArray, List.set_cons_succ, List.set_cons_zero]) | (refine wp_load_addr 56 _ rfl ⟨w.heap.size + 1, 0, none⟩ (.agg Y) rfl (hS.y.stamp HYS.out) ?_; simp only [Act.put, List.setIfInBounds_toArray, List.set_cons_succ, List.set_cons_zero]) | (refine wp_load_addr 53 _ rfl ⟨w.heap.size + 1, 21, none⟩ _ rfl (hS.y.at_ HY21.out HY22.out) ?_; simp only [Act.put, List.setIfInBounds_toArray, List.set_cons_succ, List.set_cons_zero]) | (refine wp_load_addr 53 _ rfl ⟨w.heap.size + 2, 0, none⟩ (.agg Z) rfl (hS.z.period HZS.out) ?_; simp only [Act.put, List.setIfInBounds_toArray, List.set_cons_succ, List.set_cons_zero])) | (go_at_call 27; refine (HF.out _ hS.b).mono ?_; (rintro e w' ⟨rfl, hb'⟩; replace hS := hS.keep hb'; clear hb')) | (go_at_call 12; refine (HV.out _ hS.b).mono ?_; (rintro e w' ⟨rfl, hb'⟩; replace hS := hS.keep hb'; clear hb')) | (go_at_call 28; refine (HSH.out _).mono ?_; (rintro e w' ⟨rfl, hb'⟩; replace hS := hS.keep hb'; clear hb')) | (go_at_call 29; (first | (with_reducible refine (HPA.out _).mono ?_) | (with_reducible refine (HPB.out _).mono ?_)); (rintro e w' ⟨rfl, hb'⟩; replace hS := hS.keep hb'; clear hb')) | (go_at_call 30; refine (HST.out _).mono ?_; (rintro e w' ⟨rfl, hb'⟩; replace hS := hS.keep hb'; clear hb')) | (go_at_call 10; refine (sanL _ (HL.out.keep hS.b)).mono ?_; (rintro e w' ⟨rfl, hb'⟩; replace hS := hS.keep hb'; clear hb')))
  go_ret
  exact ⟨rfl, hS.b⟩
 have d7 : decide (purge < 0) = false := decide_eq_false h7
 by_cases h8 : 2 < purge
 ·have d8 : decide (2 < purge) = true := decide_eq_true h8
  clear hok p4 p5 p6 h7
  go_enter Tryz.func8, Tryz.ntmps8
  go_upto_region 1 with fail
  generalize hw0 : World.alloc _ _ = w0
  have hS : Box3 w X Y Z w0 := by
   rw [← hw0]
   exact ⟨(alloc3_heap w _ _ _).1, (alloc3_heap w _ _ _).2.1, (alloc3_heap w _ _ _).2.2, belB⟩
  clear hw0
  go_wp2_with (first | (refine wpList_load_addr rfl 33 _ rfl ⟨w.heap.size, 0, none⟩ (.agg X) rfl (hS.x.rule HXS.out) ?_) | (go_big_want; first | (refine wp_load_addr 33 _ rfl ⟨w.heap.size, 0, none⟩ (.agg X) rfl (hS.x.rule HXS.out) ?_; simp only [Act.put, List.setIfInBounds_toArray, List.set_cons_succ, List.set_cons_zero]) | (refine wp_load_addr 56 _ rfl ⟨w.heap.size + 1, 0, none⟩ (.agg Y) rfl (hS.y.stamp HYS.out) ?_; simp only [Act.put, List.setIfInBounds_toArray, List.set_cons_succ, List.set_cons_zero]) | (refine wp_load_addr 53 _ rfl ⟨w.heap.size + 1, 21, none⟩ _ rfl (hS.y.at_ HY21.out HY22.out) ?_; simp only [Act.put, List.setIfInBounds_toArray, List.set_cons_succ, List.set_cons_zero]) | (refine wp_load_addr 53 _ rfl ⟨w.heap.size + 2, 0, none⟩ (.agg Z) rfl (hS.z.period HZS.out) ?_; simp only [Act.put, List.setIfInBounds_toArray, List.set_cons_succ, List.set_cons_zero])) | (go_at_call 27; refine (HF.out _ hS.b).mono ?_; (rintro e w' ⟨rfl, hb'⟩; replace hS := hS.keep hb'; clear hb')) | (go_at_call 12; refine (HV.out _ hS.b).mono ?_; (rintro e w' ⟨rfl, hb'⟩; replace hS := hS.keep hb'; clear hb')) | (go_at_call 28; refine (HSH.out _).mono ?_; (rintro e w' ⟨rfl, hb'⟩; replace hS := hS.keep hb'; clear hb')) | (go_at_call 29; (first | (with_reducible refine (HPA.out _).mono ?_) | (with_reducible refine (HPB.out _).mono ?_)); (rintro e w' ⟨rfl, hb'⟩; replace hS := hS.keep hb'; clear hb')) | (go_at_call 30; refine (HST.out _).mono ?_; (rintro e w' ⟨rfl, hb'⟩; replace hS := hS.keep hb'; clear hb')) | (go_at_call 10; refine (sanL _ (HL.out.keep hS.b)).mono ?_; (rintro e w' ⟨rfl, hb'⟩; replace hS := hS.keep hb'; clear hb')))
  go_ret
  exact ⟨rfl, hS.b⟩
 have d8 : decide (2 < purge) = false := decide_eq_false h8
 have q4 : 0 ≤ s.lo ∧ s.lo ≤ 1099511627776 := ⟨p4.1, p4.2.1⟩
 have q5 : 0 ≤ hi ∧ hi ≤ 1099511627776 := ⟨p5.2.2.1, p5.2.2.2.1⟩
 have k1 := K1.out hok p6; have k2 := K2.out hok p6; have k3 := K3.out q4 q5; have k4 := K4.out q4 q5; have k5 := K5.out hok q4 p6; have k6 := K6.out hok q4 q5 p6; have k7 := K7.out hok q4 p6; have k8 := K8.out hok q4 p6; have k9 := K9.out hok q4 p6; have k10 := K10.out hok q4 q5 p6 (by omega)
 have M1 := Lib.hid k1; have M2 := Lib.hid k2; have M3 := Lib.hid k3; have M4 := Lib.hid k4; have M5 := Lib.hid k5; have M6 := Lib.hid k6; have M7 := Lib.hid k7; have M8 := Lib.hid k8; have M9 := Lib.hid k9; have M10 := Lib.hid k10
 clear K1 K2 K3 K4 K5 K6 K7 K8 K9 K10 k1 k2 k3 k4 k5 k6 k7 k8 k9 k10 hok p4 p5 p6 q4 q5 h7 h8
 generalize s.status = st at *
 go_enter Tryz.func8, Tryz.ntmps8
 go_upto_region 1 with fail
 generalize hw0 : World.alloc _ _ = w0
 have hS : Box3 w X Y Z w0 := by
  rw [← hw0]
  exact ⟨(alloc3_heap w _ _ _).1, (alloc3_heap w _ _ _).2.1, (alloc3_heap w _ _ _).2.2, belB⟩
 clear hw0
 go_upto_region 3 with (first | (refine wpList_load_addr rfl 33 _ rfl ⟨w.heap.size, 0, none⟩ (.agg X) rfl (hS.x.rule HXS.out) ?_) | (go_big_want; first | (refine wp_load_addr 33 _ rfl ⟨w.heap.size, 0, none⟩ (.agg X) rfl (hS.x.rule HXS.out) ?_; simp only [Act.put, List.setIfInBounds_toArray, List.set_cons_succ, List.set_cons_zero]) | (refine wp_load_addr 56 _ rfl ⟨w.heap.size + 1, 0, none⟩ (.agg Y) rfl (hS.y.stamp HYS.out) ?_; simp only [Act.put, List.setIfInBounds_toArray, List.set_cons_succ, List.set_cons_zero]) | (refine wp_load_addr 53 _ rfl ⟨w.heap.size + 1, 21, none⟩ _ rfl (hS.y.at_ HY21.out HY22.out) ?_; simp only [Act.put, List.setIfInBounds_toArray, List.set_cons_succ, List.set_cons_zero]) | (refine wp_load_addr 53 _ rfl ⟨w.heap.size + 2, 0, none⟩ (.agg Z) rfl (hS.z.period HZS.out) ?_; simp only [Act.put, List.setIfInBounds_toArray, List.set_cons_succ, List.set_cons_zero])) | (go_at_call 27; refine (HF.out _ hS.b).mono ?_; (rintro e w' ⟨rfl, hb'⟩; replace hS := hS.keep hb'; clear hb')) | (go_at_call 12; refine (HV.out _ hS.b).mono ?_; (rintro e w' ⟨rfl, hb'⟩; replace hS := hS.keep hb'; clear hb')) | (go_at_call 28; refine (HSH.out _).mono ?_; (rintro e w' ⟨rfl, hb'⟩; replace hS := hS.keep hb'; clear hb')) | (go_at_call 29; (first | (with_reducible refine (HPA.out _).mono ?_) | (with_reducible refine (HPB.out _).mono ?_)); (rintro e w' ⟨rfl, hb'⟩; replace hS := hS.keep hb'; clear hb')) | (go_at_call 30; refine (HST.out _).mono ?_; (rintro e w' ⟨rfl, hb'⟩; replace hS := hS.keep hb'; clear hb')) | (go_at_call 10; refine (sanL _ (HL.out.keep hS.b)).mono ?_; (rintro e w' ⟨rfl, hb'⟩; replace hS := hS.keep hb'; clear hb')))
 have HS := Lib.hid hS
 clear hS
 refine wp_det 33 (by kernel_rfl) (by kernel_rfl) (by kernel_rfl) (fun i => [.agg X, .pointer (some ⟨w.heap.size + 1, 2, none⟩), .int .i64 st, .int .i64 n, .int .i64 ma, .agg X, .pointer (some ⟨w.heap.size + 1, 2, none⟩), .int .i64 st, .int .i64 n, .int .i64 ma, .bool true, .bool true, .agg Y, .agg Z, .int .i64 ag, .agg Y, .agg Z, .int .i64 ag, .bool true, .bool true, .bool true, .agg X, .agg Y, .agg Z, .int .i64 n, .bool yo, .agg X, .agg Y, .agg Z, .int .i64 n, .bool yo, .bool true, .bool true].getD i undef) (Box3 w X Y Z) (HS.out.keep (Below.drew (Below.refl _ _))) (fun _ _ h hb => h.keep hb) ?_ ?_
 ·simp only [putL, List.take_succ_cons, List.take_zero, List.drop_succ_cons, List.drop_zero, Act.put, List.setIfInBounds_toArray, List.set_cons_succ, List.set_cons_zero, List.getD_cons_zero, List.getD_cons_succ]
  refine ⟨fun W hS => ?_, fun W hS => ?_, fun W hS => ?_, fun W hS => ?_, fun W hS => ?_, fun W hS => ?_, fun W hS => ?_, fun W hS => ?_, fun W hS => ?_, fun W hS => ?_, fun W hS => ?_, fun W hS => ?_, fun W hS => ?_, fun W hS => ?_, fun W hS => ?_, fun W hS => ?_, fun W hS => ?_, fun W hS => ?_, fun W hS => ?_, fun W hS => ?_, fun W hS => ?_, fun W hS => ?_, fun W hS => ?_, fun W hS => ?_, fun W hS => ?_, fun W hS => ?_, fun W hS => ?_, fun W hS => ?_, fun W hS => ?_, fun W hS => ?_, fun W hS => ?_, fun W hS => ?_, fun W hS => ?_, trivial⟩
  all_goals
   have hbw := hS.b
   have y2 := hS.y.cell HY2.out
   go_wp2_with (first | (refine wpList_load_addr rfl 33 _ rfl ⟨w.heap.size, 0, none⟩ (.agg X) rfl (hS.x.rule HXS.out) ?_) | (refine wpList_load_addr rfl 56 _ rfl ⟨w.heap.size + 1, 0, none⟩ (.agg Y) rfl (hS.y.stamp HYS.out) ?_) | (go_big_want; first | (refine wp_load_addr 33 _ rfl ⟨w.heap.size, 0, none⟩ (.agg X) rfl (hS.x.rule HXS.out) ?_; simp only [Act.put, List.setIfInBounds_toArray, List.set_cons_succ, List.set_cons_zero]) | (refine wp_load_addr 56 _ rfl ⟨w.heap.size + 1, 0, none⟩ (.agg Y) rfl (hS.y.stamp HYS.out) ?_; simp only [Act.put, List.setIfInBounds_toArray, List.set_cons_succ, List.set_cons_zero]) | (refine wp_load_addr 53 _ rfl ⟨w.heap.size + 1, 21, none⟩ _ rfl (hS.y.at_ HY21.out HY22.out) ?_; simp only [Act.put, List.setIfInBounds_toArray, List.set_cons_succ, List.set_cons_zero]) | (refine wp_load_addr 53 _ rfl ⟨w.heap.size + 2, 0, none⟩ (.agg Z) rfl (hS.z.period HZS.out) ?_; simp only [Act.put, List.setIfInBounds_toArray, List.set_cons_succ, List.set_cons_zero])) | (go_at_call 34; refine (M1.out _).mono ?_; rintro e w2 ⟨rfl, hb2⟩) | (go_at_call 38; refine (M2.out _).mono ?_; rintro e w2 ⟨rfl, hb2⟩) | (go_at_call 39; refine (M3.out _).mono ?_; rintro e w2 ⟨rfl, hb2⟩) | (go_at_call 40; refine (M4.out _).mono ?_; rintro e w2 ⟨rfl, hb2⟩) | (go_at_call 31; refine (M5.out _).mono ?_; rintro e w2 ⟨rfl, hb2⟩) | (go_at_call 41; refine (M6.out _).mono ?_; rintro e w2 ⟨rfl, hb2⟩) | (go_at_call 32; refine (M7.out _).mono ?_; rintro e w2 ⟨rfl, hb2⟩) | (go_at_call 42; refine (M8.out _).mono ?_; rintro e w2 ⟨rfl, hb2⟩) | (go_at_call 33; refine (M9.out _).mono ?_; rintro e w2 ⟨rfl, hb2⟩) | (go_at_call 43; refine (M10.out _).mono ?_; rintro e w2 ⟨rfl, hb2⟩))
   exact ⟨rfl, rfl, belB⟩
 intro w9 hS9
 have HS9 := Lib.hid hS9
 clear hS9 HS
 simp only [putL, List.take_succ_cons, List.take_zero, List.drop_succ_cons, List.drop_zero, Act.put, List.setIfInBounds_toArray, List.set_cons_succ, List.set_cons_zero, List.getD_cons_zero, List.getD_cons_succ]
 go_upto_region 4 with fail
 refine wp_det 30 (by kernel_rfl) (by kernel_rfl) (by kernel_rfl) (fun i => [.bool true, .bool true, .bool true, .bool true, .bool true, .agg X, .agg Y, .int .i64 n, .int .i64 un, .agg X, .agg Y, .int .i64 n, .int .i64 un, .bool true, .bool true, .bool true, .agg X, .agg Y, .agg Z, .int .i64 n, .int .i64 purge, .bool us, .agg X, .agg Y, .agg Z, .int .i64 n, .int .i64 purge, .bool us, .bool true, .bool true].getD i undef) (Box3 w X Y Z) (HS9.out.keep (Below.drew (Below.refl _ _))) (fun _ _ h hb => h.keep hb) ?_ ?_
 ·simp only [putL, List.take_succ_cons, List.take_zero, List.drop_succ_cons, List.drop_zero, Act.put, List.setIfInBounds_toArray, List.set_cons_succ, List.set_cons_zero, List.getD_cons_zero, List.getD_cons_succ]
  refine ⟨fun W hS => ?_, fun W hS => ?_, fun W hS => ?_, fun W hS => ?_, fun W hS => ?_, fun W hS => ?_, fun W hS => ?_, fun W hS => ?_, fun W hS => ?_, fun W hS => ?_, fun W hS => ?_, fun W hS => ?_, fun W hS => ?_, fun W hS => ?_, fun W hS => ?_, fun W hS => ?_, fun W hS => ?_, fun W hS => ?_, fun W hS => ?_, fun W hS => ?_, fun W hS => ?_, fun W hS => ?_, fun W hS => ?_, fun W hS => ?_, fun W hS => ?_, fun W hS => ?_, fun W hS => ?_, fun W hS => ?_, fun W hS => ?_, fun W hS => ?_, trivial⟩
  all_goals
   have hbw := hS.b
   go_wp2_with (first | (refine wpList_load_addr rfl 33 _ rfl ⟨w.heap.size, 0, none⟩ (.agg X) rfl (hS.x.rule HXS.out) ?_) | (refine wpList_load_addr rfl 56 _ rfl ⟨w.heap.size + 1, 0, none⟩ (.agg Y) rfl (hS.y.stamp HYS.out) ?_) | (go_big_want; first | (refine wp_load_addr 33 _ rfl ⟨w.heap.size, 0, none⟩ (.agg X) rfl (hS.x.rule HXS.out) ?_; simp only [Act.put, List.setIfInBounds_toArray, List.set_cons_succ, List.set_cons_zero]) | (refine wp_load_addr 56 _ rfl ⟨w.heap.size + 1, 0, none⟩ (.agg Y) rfl (hS.y.stamp HYS.out) ?_; simp only [Act.put, List.setIfInBounds_toArray, List.set_cons_succ, List.set_cons_zero]) | (refine wp_load_addr 53 _ rfl ⟨w.heap.size + 1, 21, none⟩ _ rfl (hS.y.at_ HY21.out HY22.out) ?_; simp only [Act.put, List.setIfInBounds_toArray, List.set_cons_succ, List.set_cons_zero]) | (refine wp_load_addr 53 _ rfl ⟨w.heap.size + 2, 0, none⟩ (.agg Z) rfl (hS.z.period HZS.out) ?_; simp only [Act.put, List.setIfInBounds_toArray, List.set_cons_succ, List.set_cons_zero])) | (go_at_call 10; refine (sanL _ (HL.out.keep hS.b)).mono ?_; rintro e w2 ⟨rfl, hb2⟩) | (go_at_call 34; refine (M1.out _).mono ?_; rintro e w2 ⟨rfl, hb2⟩) | (go_at_call 38; refine (M2.out _).mono ?_; rintro e w2 ⟨rfl, hb2⟩) | (go_at_call 39; refine (M3.out _).mono ?_; rintro e w2 ⟨rfl, hb2⟩) | (go_at_call 40; refine (M4.out _).mono ?_; rintro e w2 ⟨rfl, hb2⟩) | (go_at_call 31; refine (M5.out _).mono ?_; rintro e w2 ⟨rfl, hb2⟩) | (go_at_call 41; refine (M6.out _).mono ?_; rintro e w2 ⟨rfl, hb2⟩) | (go_at_call 32; refine (M7.out _).mono ?_; rintro e w2 ⟨rfl, hb2⟩) | (go_at_call 42; refine (M8.out _).mono ?_; rintro e w2 ⟨rfl, hb2⟩) | (go_at_call 33; refine (M9.out _).mono ?_; rintro e w2 ⟨rfl, hb2⟩) | (go_at_call 43; refine (M10.out _).mono ?_; rintro e w2 ⟨rfl, hb2⟩))
   exact ⟨rfl, rfl, belB⟩
 intro w10 hS10
 have hbE := hS10.b
 simp only [putL, List.take_succ_cons, List.take_zero, List.drop_succ_cons, List.drop_zero, Act.put, List.setIfInBounds_toArray, List.set_cons_succ, List.set_cons_zero, List.getD_cons_zero, List.getD_cons_succ]
 go_wp2
 go_ret
 exact ⟨rfl, hbE⟩
end Go.Proofs.YtdlbfjoemabfpaaGreatDoor
namespace Go.Proofs.YtdlbfjoemabfpaaGreatDoor
open Go.RowKit Go.Sort
set_option linter.unusedVariables false
set_option linter.unusedSimpArgs false
set_option maxRecDepth 100000
theorem cellsPe : Tryz.prog.cellsOf 53 = 2 := by kernel_rfl
section
variable {H : Type} {enc : TypeId × Value → H} {W : World} {base : Nat} {sp : Nat → Bool} {hd : Bool}
end
end Go.Proofs.YtdlbfjoemabfpaaGreatDoor
