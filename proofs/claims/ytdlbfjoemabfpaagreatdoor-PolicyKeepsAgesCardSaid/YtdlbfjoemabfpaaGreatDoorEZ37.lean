/- Until when a copy is young enough. -/
import Derived.Test.YtdlbfjoemabfpaaGreatDoorEZ14
import Derived.Test.YtdlbfjoemabfpaaGreatDoorEZ26
import Derived.Test.YtdlbfjoemabfpaaGreatDoorEZ27
import Derived.Deep.DeepCutAuto
import Derived.Test.YtdlbfjoemabfpaaGreatDoorProg
import Derived.WalkKit
import Derived.WalkSpells
import Derived.WalkLawsBesides
import Derived.Below
import Derived.Deep.QuietTactic
import Derived.BigQuiet
import Derived.Lib.QuietBelow
import Derived.Lib.Strings
import Derived.Lib.Hide
import Derived.Deep.RegionWith
import Derived.Deep.RegionHeld3
import Derived.Lib.IndexBytes
import Derived.Test.YtdlbfjoemabfpaaGreatDoorEZ28
import Derived.Laws.Tables
import Derived.Test.YtdlbfjoemabfpaaGreatDoorEZ29
import Derived.Test.YtdlbfjoemabfpaaGreatDoorEZ21
import Derived.Test.YtdlbfjoemabfpaaGreatDoorEZ22
import Derived.Test.YtdlbfjoemabfpaaGreatDoorEZ36
namespace Go.Proofs.YtdlbfjoemabfpaaGreatDoor
open Go.RowKit Go.Sort
set_option linter.unusedVariables false
set_option linter.unusedSimpArgs false
set_option maxRecDepth 100000
set_option maxHeartbeats 8000000 in
theorem until_any (x : RuleM) (hok : RuleOk x.r) (s : StampV) (state : Int) (h0 : 0 ≤ s.lo) (h1 : s.lo ≤ 1099511627776) (hs : state = 0 ∨ state = 1 ∨ state = 2) (w : World) :
    Calls Tryz.prog 32 #[x.val, s.val, .int .i64 state] w (Ret w (.int .i64 (untilR x.r s.status s.lo state))) := by
  have hm := fun W => maxAge_any x hok s.status state hs W
  have hmb := maxAge_bounds hok s.status state
  unfold untilR
  generalize maxAgeR x.r s.status state = ma at *
  obtain ⟨X, hX⟩ : ∃ X, X = x.cells.toArray := ⟨_, rfl⟩
  obtain ⟨Y, hY⟩ : ∃ Y, Y = s.cells.toArray := ⟨_, rfl⟩
  have hXs : X.size = 18 := by rw [hX]; rfl
  have hYs : Y.size = 41 := by rw [hY]; rfl
  have eX : x.val = .agg X := by rw [hX]; rfl
  have eY : s.val = .agg Y := by rw [hY]; rfl
  have hY2 : Y[2]? = some (.int .i64 s.status) := by rw [hY]; rfl
  have hY21 : Y[21]? = some (.int .i64 s.lo) := by rw [hY]; rfl
  have a1 : IntKind.i64.wrap (s.lo + ma) = s.lo + ma := IntWalk.i64_in _ (by omega)
  simp only [eX, eY] at hm ⊢
  have HM := Lib.hid hm; have HXS := Lib.hid hXs; have HYS := Lib.hid hYs; have HY2 := Lib.hid hY2; have HY21 := Lib.hid hY21
  clear hm hX hY hXs hYs eX eY hY2 hY21 hok hs
  generalize s.status = st at *
  generalize s.lo = sl at *
  obtain ⟨m0, m1⟩ := hmb
  go_enter Tryz.func32, Tryz.ntmps32
  go_upto_region 1 with fail
  generalize hw0 : World.alloc _ _ = w0
  have hB0 : Box2 w X Y w0 := by
    rw [← hw0]
    exact ⟨(alloc2_box w _ _).1, (alloc2_box w _ _).2, belB⟩
  have HB0 := Lib.hid hB0
  clear hw0 hB0
  refine wp_det 10 (by kernel_rfl) (by kernel_rfl) (by kernel_rfl) (fun i => [.pointer (some ⟨w.heap.size + 1, 21, none⟩), .pointer (some ⟨w.heap.size + 1, 21, none⟩), .int .i64 sl, .agg X, .pointer (some ⟨w.heap.size + 1, 2, none⟩), .int .i64 st, .int .i64 state, .int .i64 ma, .int .i64 (sl + ma), .int .i64 (min 1099511627776 (sl + ma))].getD i undef) (Box2 w X Y) (HB0.out.keep (Below.drew (Below.refl _ _))) (fun _ _ h hb => h.keep hb) ?_ ?_
  · simp only [putL, List.take_succ_cons, List.take_zero, List.drop_succ_cons, List.drop_zero, Act.put, List.setIfInBounds_toArray, List.set_cons_succ, List.set_cons_zero, List.getD_cons_zero, List.getD_cons_succ]
    refine ⟨fun W hS => ?_, fun W hS => ?_, fun W hS => ?_, fun W hS => ?_, fun W hS => ?_, fun W hS => ?_, fun W hS => ?_, fun W hS => ?_, fun W hS => ?_, fun W hS => ?_, trivial⟩
    all_goals
      have y2 := hS.y.cell HY2.out
      have y21 := hS.y.cell HY21.out
      go_wp2_with (first | (refine wpList_load_addr rfl 33 _ rfl ⟨w.heap.size, 0, none⟩ (.agg X) rfl (hS.x.rule HXS.out) ?_) | (refine wpList_load_addr rfl 56 _ rfl ⟨w.heap.size + 1, 0, none⟩ (.agg Y) rfl (hS.y.stamp HYS.out) ?_) | (go_at_call 34; refine (HM.out _).mono ?_; rintro e w2 ⟨rfl, hb2⟩))
      exact ⟨rfl, rfl, belB⟩
  · intro w' hS
    have hb := hS.b
    simp only [putL, List.take_succ_cons, List.take_zero, List.drop_succ_cons, List.drop_zero, Act.put, List.setIfInBounds_toArray, List.set_cons_succ, List.set_cons_zero, List.getD_cons_zero, List.getD_cons_succ]
    go_wp2
    go_ret
    exact ⟨rfl, hb⟩
end Go.Proofs.YtdlbfjoemabfpaaGreatDoor
namespace Go.Proofs.YtdlbfjoemabfpaaGreatDoor
open Go.RowKit Go.Sort
set_option linter.unusedVariables false
set_option linter.unusedSimpArgs false
set_option maxRecDepth 100000
set_option maxHeartbeats 8000000 in
theorem young_any (x : RuleM) (hok : RuleOk x.r) (s : StampV) (lo hi state : Int) (h0 : 0 ≤ s.lo) (h1 : s.lo ≤ 1099511627776) (hs : state = 0 ∨ state = 1 ∨ state = 2) (w : World) :
    Calls Tryz.prog 31 #[x.val, s.val, perV lo hi, .int .i64 state] w (Ret w (.bool (youngR x.r s.status s.lo hi state))) := by
  have hm := fun W => maxAge_any x hok s.status state hs W
  have hmb := maxAge_bounds hok s.status state
  unfold youngR
  generalize maxAgeR x.r s.status state = ma at *
  have hag := fun W => before_any lo hi (s.lo + ma + 1) W
  have a1 : IntKind.i64.wrap (s.lo + ma) = s.lo + ma := IntWalk.i64_in _ (by omega)
  have a2 : IntKind.i64.wrap (s.lo + ma + 1) = s.lo + ma + 1 := IntWalk.i64_in _ (by omega)
  obtain ⟨X, hX⟩ : ∃ X, X = x.cells.toArray := ⟨_, rfl⟩
  obtain ⟨Y, hY⟩ : ∃ Y, Y = s.cells.toArray := ⟨_, rfl⟩
  obtain ⟨Z, hZ⟩ : ∃ Z : Array Value, Z = #[.int .i64 lo, .int .i64 hi] := ⟨_, rfl⟩
  have hXs : X.size = 18 := by rw [hX]; rfl
  have hYs : Y.size = 41 := by rw [hY]; rfl
  have hZs : Z.size = 2 := by rw [hZ]; rfl
  have eX : x.val = .agg X := by rw [hX]; rfl
  have eY : s.val = .agg Y := by rw [hY]; rfl
  have eZ : perV lo hi = .agg Z := by rw [hZ]; rfl
  have hY2 : Y[2]? = some (.int .i64 s.status) := by rw [hY]; rfl
  have hY21 : Y[21]? = some (.int .i64 s.lo) := by rw [hY]; rfl
  simp only [eX, eY, eZ] at hm hag ⊢
  have HM := Lib.hid hm; have HAG := Lib.hid hag; have HXS := Lib.hid hXs; have HYS := Lib.hid hYs; have HZS := Lib.hid hZs; have HY2 := Lib.hid hY2; have HY21 := Lib.hid hY21
  obtain ⟨m0, m1⟩ := hmb
  clear hm hag hX hY hZ hXs hYs hZs eX eY eZ hY2 hY21 hok hs
  generalize s.status = st at *
  generalize s.lo = sl at *
  go_enter Tryz.func31, Tryz.ntmps31
  go_upto_region 1 with fail
  generalize hw0 : World.alloc _ _ = w0
  have hB0 : Box3 w X Y Z w0 := by
    rw [← hw0]
    exact ⟨(alloc3_heap w _ _ _).1, (alloc3_heap w _ _ _).2.1, (alloc3_heap w _ _ _).2.2, belB⟩
  have HB0 := Lib.hid hB0
  clear hw0 hB0
  refine wp_det 12 (by kernel_rfl) (by kernel_rfl) (by kernel_rfl) (fun i => [.agg Z, .pointer (some ⟨w.heap.size + 1, 21, none⟩), .pointer (some ⟨w.heap.size + 1, 21, none⟩), .int .i64 sl, .agg X, .pointer (some ⟨w.heap.size + 1, 2, none⟩), .int .i64 st, .int .i64 state, .int .i64 ma, .int .i64 (sl + ma), .int .i64 (sl + ma + 1), .bool (decide (hi < sl + ma + 1))].getD i undef) (Box3 w X Y Z) (HB0.out.keep (Below.drew (Below.refl _ _))) (fun _ _ h hb => h.keep hb) ?_ ?_
  · simp only [putL, List.take_succ_cons, List.take_zero, List.drop_succ_cons, List.drop_zero, Act.put, List.setIfInBounds_toArray, List.set_cons_succ, List.set_cons_zero, List.getD_cons_zero, List.getD_cons_succ]
    refine ⟨fun W hS => ?_, fun W hS => ?_, fun W hS => ?_, fun W hS => ?_, fun W hS => ?_, fun W hS => ?_, fun W hS => ?_, fun W hS => ?_, fun W hS => ?_, fun W hS => ?_, fun W hS => ?_, fun W hS => ?_, trivial⟩
    all_goals
      have y2 := hS.y.cell HY2.out
      have y21 := hS.y.cell HY21.out
      go_wp2_with (first | (refine wpList_load_addr rfl 33 _ rfl ⟨w.heap.size, 0, none⟩ (.agg X) rfl (hS.x.rule HXS.out) ?_) | (refine wpList_load_addr rfl 56 _ rfl ⟨w.heap.size + 1, 0, none⟩ (.agg Y) rfl (hS.y.stamp HYS.out) ?_) | (refine wpList_load_addr rfl 53 _ rfl ⟨w.heap.size + 2, 0, none⟩ (.agg Z) rfl (hS.z.period HZS.out) ?_) | (go_at_call 81; refine (HAG.out _).mono ?_; rintro e w2 ⟨rfl, hb2⟩) | (go_at_call 34; refine (HM.out _).mono ?_; rintro e w2 ⟨rfl, hb2⟩))
      exact ⟨rfl, rfl, belB⟩
  · intro w' hS
    have hb := hS.b
    simp only [putL, List.take_succ_cons, List.take_zero, List.drop_succ_cons, List.drop_zero, Act.put, List.setIfInBounds_toArray, List.set_cons_succ, List.set_cons_zero, List.getD_cons_zero, List.getD_cons_succ]
    go_wp2
    go_ret
    exact ⟨rfl, hb⟩
end Go.Proofs.YtdlbfjoemabfpaaGreatDoor
namespace Go.Proofs.YtdlbfjoemabfpaaGreatDoor
open Go.RowKit Go.Sort
set_option linter.unusedVariables false
set_option linter.unusedSimpArgs false
set_option maxRecDepth 100000
set_option maxHeartbeats 8000000 in
theorem usable_0 (x : RuleM) (hok : RuleOk x.r) (s : StampV) (lo hi state : Int) (h0 : 0 ≤ s.lo) (h1 : s.lo ≤ 1099511627776) (hs : state = 0 ∨ state = 1 ∨ state = 2) (w : World) : Calls Tryz.prog 33 #[x.val, s.val, perV lo hi, .int .i64 state, .int .i64 0] w (Ret w (.bool (youngR x.r s.status s.lo hi state))) := by
  have hy := fun W => young_any x hok s lo hi state h0 h1 hs W
  generalize youngR x.r s.status s.lo hi state = yo at *
  obtain ⟨X, hX⟩ : ∃ X, X = x.cells.toArray := ⟨_, rfl⟩
  obtain ⟨Y, hY⟩ : ∃ Y, Y = s.cells.toArray := ⟨_, rfl⟩
  obtain ⟨Z, hZ⟩ : ∃ Z : Array Value, Z = #[.int .i64 lo, .int .i64 hi] := ⟨_, rfl⟩
  have hXs : X.size = 18 := by rw [hX]; rfl
  have hYs : Y.size = 41 := by rw [hY]; rfl
  have hZs : Z.size = 2 := by rw [hZ]; rfl
  have eX : x.val = .agg X := by rw [hX]; rfl
  have eY : s.val = .agg Y := by rw [hY]; rfl
  have eZ : perV lo hi = .agg Z := by rw [hZ]; rfl
  simp only [eX, eY, eZ] at hy ⊢
  have iX : (Tryz.prog.info? 33).map (·.size) = some X.size := by rw [hXs]; kernel_rfl
  have iY : (Tryz.prog.info? 56).map (·.size) = some Y.size := by rw [hYs]; kernel_rfl
  have iZ : (Tryz.prog.info? 53).map (·.size) = some Z.size := by rw [hZs]; kernel_rfl
  have l1 : ∀ W t fr, W.heap[w.heap.size]? = some (.cells X t fr) → (loadVar 33 ⟨w.heap.size, 0, none⟩).run Tryz.prog W = .ok (.agg X) W := fun W t fr h => run_loadVar_row (P := Tryz.prog) W w.heap.size t 33 X fr _ h Tryz.underlying33 rfl iX
  have l2 : ∀ W t fr, W.heap[w.heap.size + 1]? = some (.cells Y t fr) → (loadVar 56 ⟨w.heap.size + 1, 0, none⟩).run Tryz.prog W = .ok (.agg Y) W := fun W t fr h => run_loadVar_row (P := Tryz.prog) W (w.heap.size + 1) t 56 Y fr _ h Tryz.underlying56 rfl iY
  have l3 : ∀ W t fr, W.heap[w.heap.size + 2]? = some (.cells Z t fr) → (loadVar 53 ⟨w.heap.size + 2, 0, none⟩).run Tryz.prog W = .ok (.agg Z) W := fun W t fr h => run_loadVar_row (P := Tryz.prog) W (w.heap.size + 2) t 53 Z fr _ h Tryz.underlying53 rfl iZ
  have HY := Lib.hid hy; have L1 := Lib.hid l1; have L2 := Lib.hid l2; have L3 := Lib.hid l3
  clear hy hok hs h0 h1 hX hY hZ hXs hYs hZs eX eY eZ iX iY iZ l1 l2 l3
  go_enter Tryz.func33, Tryz.ntmps33
  go_upto_region 1 with fail
  generalize hw0 : World.alloc _ _ = w0
  have g1 : w0.heap[w.heap.size]? = some (.cells X 33 (0, 0)) := by rw [← hw0]; exact (alloc3_heap w _ _ _).1
  have g2 : w0.heap[w.heap.size + 1]? = some (.cells Y 56 (0, 0)) := by rw [← hw0]; exact (alloc3_heap w _ _ _).2.1
  have g3 : w0.heap[w.heap.size + 2]? = some (.cells Z 53 (0, 0)) := by rw [← hw0]; exact (alloc3_heap w _ _ _).2.2
  have hbw : Below w.heap.size w w0 := by rw [← hw0]; exact belB
  have r1 := L1.out w0 _ _ g1
  have r2 := L2.out w0 _ _ g2
  have r3 := L3.out w0 _ _ g3
  clear hw0 g1 g2 g3
  go_wp2_with (first | (go_big_want; first | (refine wp_load_addr 33 _ rfl ⟨w.heap.size, 0, none⟩ (.agg X) rfl r1 ?_; simp only [Act.put, List.setIfInBounds_toArray, List.set_cons_succ, List.set_cons_zero]) | (refine wp_load_addr 56 _ rfl ⟨w.heap.size + 1, 0, none⟩ (.agg Y) rfl r2 ?_; simp only [Act.put, List.setIfInBounds_toArray, List.set_cons_succ, List.set_cons_zero]) | (refine wp_load_addr 53 _ rfl ⟨w.heap.size + 2, 0, none⟩ (.agg Z) rfl r3 ?_; simp only [Act.put, List.setIfInBounds_toArray, List.set_cons_succ, List.set_cons_zero])) | (go_at_call 31; refine (HY.out _).mono ?_; rintro e w2 ⟨rfl, hb2⟩))
  go_ret
  exact ⟨rfl, belB⟩
set_option maxHeartbeats 8000000 in
theorem usable_1 (x : RuleM) (hok : RuleOk x.r) (s : StampV) (lo hi state : Int) (h0 : 0 ≤ s.lo) (h1 : s.lo ≤ 1099511627776) (hs : state = 0 ∨ state = 1 ∨ state = 2) (w : World) (hne : state ≠ 0) : Calls Tryz.prog 33 #[x.val, s.val, perV lo hi, .int .i64 state, .int .i64 1] w (Ret w (.bool (youngR x.r s.status s.lo hi state))) := by
  have d1 : (state != 0) = true := by simp [hne]
  have hy := fun W => young_any x hok s lo hi state h0 h1 hs W
  generalize youngR x.r s.status s.lo hi state = yo at *
  obtain ⟨X, hX⟩ : ∃ X, X = x.cells.toArray := ⟨_, rfl⟩
  obtain ⟨Y, hY⟩ : ∃ Y, Y = s.cells.toArray := ⟨_, rfl⟩
  obtain ⟨Z, hZ⟩ : ∃ Z : Array Value, Z = #[.int .i64 lo, .int .i64 hi] := ⟨_, rfl⟩
  have hXs : X.size = 18 := by rw [hX]; rfl
  have hYs : Y.size = 41 := by rw [hY]; rfl
  have hZs : Z.size = 2 := by rw [hZ]; rfl
  have eX : x.val = .agg X := by rw [hX]; rfl
  have eY : s.val = .agg Y := by rw [hY]; rfl
  have eZ : perV lo hi = .agg Z := by rw [hZ]; rfl
  simp only [eX, eY, eZ] at hy ⊢
  have iX : (Tryz.prog.info? 33).map (·.size) = some X.size := by rw [hXs]; kernel_rfl
  have iY : (Tryz.prog.info? 56).map (·.size) = some Y.size := by rw [hYs]; kernel_rfl
  have iZ : (Tryz.prog.info? 53).map (·.size) = some Z.size := by rw [hZs]; kernel_rfl
  have l1 : ∀ W t fr, W.heap[w.heap.size]? = some (.cells X t fr) → (loadVar 33 ⟨w.heap.size, 0, none⟩).run Tryz.prog W = .ok (.agg X) W := fun W t fr h => run_loadVar_row (P := Tryz.prog) W w.heap.size t 33 X fr _ h Tryz.underlying33 rfl iX
  have l2 : ∀ W t fr, W.heap[w.heap.size + 1]? = some (.cells Y t fr) → (loadVar 56 ⟨w.heap.size + 1, 0, none⟩).run Tryz.prog W = .ok (.agg Y) W := fun W t fr h => run_loadVar_row (P := Tryz.prog) W (w.heap.size + 1) t 56 Y fr _ h Tryz.underlying56 rfl iY
  have l3 : ∀ W t fr, W.heap[w.heap.size + 2]? = some (.cells Z t fr) → (loadVar 53 ⟨w.heap.size + 2, 0, none⟩).run Tryz.prog W = .ok (.agg Z) W := fun W t fr h => run_loadVar_row (P := Tryz.prog) W (w.heap.size + 2) t 53 Z fr _ h Tryz.underlying53 rfl iZ
  have HY := Lib.hid hy; have L1 := Lib.hid l1; have L2 := Lib.hid l2; have L3 := Lib.hid l3
  clear hy hok hs h0 h1 hX hY hZ hXs hYs hZs eX eY eZ iX iY iZ l1 l2 l3
  go_enter Tryz.func33, Tryz.ntmps33
  go_upto_region 1 with fail
  generalize hw0 : World.alloc _ _ = w0
  have g1 : w0.heap[w.heap.size]? = some (.cells X 33 (0, 0)) := by rw [← hw0]; exact (alloc3_heap w _ _ _).1
  have g2 : w0.heap[w.heap.size + 1]? = some (.cells Y 56 (0, 0)) := by rw [← hw0]; exact (alloc3_heap w _ _ _).2.1
  have g3 : w0.heap[w.heap.size + 2]? = some (.cells Z 53 (0, 0)) := by rw [← hw0]; exact (alloc3_heap w _ _ _).2.2
  have hbw : Below w.heap.size w w0 := by rw [← hw0]; exact belB
  have r1 := L1.out w0 _ _ g1
  have r2 := L2.out w0 _ _ g2
  have r3 := L3.out w0 _ _ g3
  clear hw0 g1 g2 g3
  go_wp2_with (first | (go_big_want; first | (refine wp_load_addr 33 _ rfl ⟨w.heap.size, 0, none⟩ (.agg X) rfl r1 ?_; simp only [Act.put, List.setIfInBounds_toArray, List.set_cons_succ, List.set_cons_zero]) | (refine wp_load_addr 56 _ rfl ⟨w.heap.size + 1, 0, none⟩ (.agg Y) rfl r2 ?_; simp only [Act.put, List.setIfInBounds_toArray, List.set_cons_succ, List.set_cons_zero]) | (refine wp_load_addr 53 _ rfl ⟨w.heap.size + 2, 0, none⟩ (.agg Z) rfl r3 ?_; simp only [Act.put, List.setIfInBounds_toArray, List.set_cons_succ, List.set_cons_zero])) | (go_at_call 31; refine (HY.out _).mono ?_; rintro e w2 ⟨rfl, hb2⟩))
  go_ret
  exact ⟨rfl, belB⟩
set_option maxHeartbeats 8000000 in
theorem usable_no (x : RuleM) (s : StampV) (lo hi : Int) (w : World) : Calls Tryz.prog 33 #[x.val, s.val, perV lo hi, .int .i64 0, .int .i64 1] w (Ret w (.bool false)) := by
  unfold RuleM.val StampV.val perV
  generalize x.cells.toArray = X
  generalize s.cells.toArray = Y
  go_enter Tryz.func33, Tryz.ntmps33
  go_wp2
  go_ret
  exact ⟨rfl, belB⟩
set_option maxHeartbeats 8000000 in
theorem usable_2 (x : RuleM) (s : StampV) (lo hi state purge : Int) (p0 : purge ≠ 0) (p1 : purge ≠ 1) (w : World) : Calls Tryz.prog 33 #[x.val, s.val, perV lo hi, .int .i64 state, .int .i64 purge] w (Ret w (.bool false)) := by
  have d0 : (purge == 0) = false := by simp [p0]
  have d1 : (purge == 1) = false := by simp [p1]
  unfold RuleM.val StampV.val perV
  generalize x.cells.toArray = X
  generalize s.cells.toArray = Y
  go_enter Tryz.func33, Tryz.ntmps33
  go_wp2
  go_ret
  exact ⟨rfl, belB⟩
theorem usable_any (x : RuleM) (hok : RuleOk x.r) (s : StampV) (lo hi state purge : Int) (h0 : 0 ≤ s.lo) (h1 : s.lo ≤ 1099511627776) (hs : state = 0 ∨ state = 1 ∨ state = 2) (w : World) :
    Calls Tryz.prog 33 #[x.val, s.val, perV lo hi, .int .i64 state, .int .i64 purge] w (Ret w (.bool (usableR x.r s.status s.lo hi state purge))) := by
  unfold usableR
  by_cases p0 : purge = 0
  · subst p0
    have e : ((decide ((0 : Int) = 0) || (decide ((0 : Int) = 1) && !decide (state = 0))) && youngR x.r s.status s.lo hi state) = youngR x.r s.status s.lo hi state := by simp
    rw [e]
    exact usable_0 x hok s lo hi state h0 h1 hs w
  · by_cases p1 : purge = 1
    · subst p1
      by_cases s0 : state = 0
      · subst s0
        have e : ((decide ((1 : Int) = 0) || (decide ((1 : Int) = 1) && !decide ((0 : Int) = 0))) && youngR x.r s.status s.lo hi 0) = false := by simp
        rw [e]
        exact usable_no x s lo hi w
      · have e : ((decide ((1 : Int) = 0) || (decide ((1 : Int) = 1) && !decide (state = 0))) && youngR x.r s.status s.lo hi state) = youngR x.r s.status s.lo hi state := by simp [s0]
        rw [e]
        exact usable_1 x hok s lo hi state h0 h1 hs w s0
    · have e : ((decide (purge = 0) || (decide (purge = 1) && !decide (state = 0))) && youngR x.r s.status s.lo hi state) = false := by simp [p0, p1]
      rw [e]
      exact usable_2 x s lo hi state purge p0 p1 w
end Go.Proofs.YtdlbfjoemabfpaaGreatDoor
namespace Go.Proofs.YtdlbfjoemabfpaaGreatDoor
open Go.RowKit Go.Sort
set_option linter.unusedVariables false
set_option linter.unusedSimpArgs false
set_option maxRecDepth 100000
set_option maxHeartbeats 4000000 in
theorem permits_any (x : RuleM) (a : AskV) (w : World) (hR : RuleReads w x) (hc : CondFits x.r.allow) (ha : AskFits a) (hE : Env w) :
    Calls Tryz.prog 36 #[x.val, AskV.val a] w (Ret w (.bool (holdsC x.r.allow a))) := by
  have hh := fun W (hb : Below w.heap.size w W) => holds_any x.r.allow x.m a W (hR.allow.keep hb) hc ha (Env.keep hE hb)
  generalize holdsC x.r.allow a = V at *
  rw [RuleM.val_eq]
  unfold CondMem.val AskV.val at *
  have HH := Lib.hid hh
  clear hh hR hc ha hE
  go_enter Tryz.func36, Tryz.ntmps36
  go_wp2_with (go_at_call 82; refine (HH.out _ belB).mono ?_; rintro e w2 ⟨rfl, hb2⟩)
  go_ret
  exact ⟨rfl, belB⟩
end Go.Proofs.YtdlbfjoemabfpaaGreatDoor
namespace Go.Proofs.YtdlbfjoemabfpaaGreatDoor
open Go.RowKit Go.Sort
set_option linter.unusedVariables false
set_option linter.unusedSimpArgs false
set_option maxRecDepth 100000
set_option maxHeartbeats 4000000 in
theorem rSame22_eq (A B : Option Addr) (n c c2 : Nat) (l : List Nat) (w : World) (hA : Reads w 1 A n (i64s l)) (hB : Reads w 1 B n (i64s l)) (hn : n ≤ 1000000) : Calls Tryz.prog 22 #[.slice A n c, .slice B n c2] w (Ret w (.bool true)) := by
  have hl : l.length = n := by have := hA.1; simpa [i64s] using this
  have HL := Lib.hid hl
  have HA := Lib.hid hA
  have HB := Lib.hid hB
  clear hl hA hB
  go_enter Tryz.func22, Tryz.ntmps22
  go_wp2
  go_loopw [5] (fun vi wr => ∃ k : Nat, vi = .int .i64 k ∧ k ≤ n ∧ Below w.heap.size w wr) (fun i _ => n - (intOf i).toNat)
  case atStart => exact ⟨0, rfl, Nat.zero_le _, Below.refl _ _⟩
  case round =>
    obtain ⟨k, rfl, hk, hbr⟩ := hrel
    by_cases hlt : k < n
    · obtain ⟨x, hx⟩ : ∃ x, l[k]? = some x := ⟨_, List.getElem?_eq_getElem (by have := HL.out; omega)⟩
      obtain ⟨b, o, rfl, hcell⟩ := (HA.out.keep hbr).2 (by omega)
      obtain ⟨b2, o2, rfl, hcell2⟩ := (HB.out.keep hbr).2 (by omega)
      have hc1 : wr.cell? ⟨b, o + k, none⟩ = some (.int .i64 (x : Int)) := hcell k _ (by simp [i64s, hx])
      have hc2 : wr.cell? ⟨b2, o2 + k, none⟩ = some (.int .i64 (x : Int)) := hcell2 k _ (by simp [i64s, hx])
      have hk0 : (0 : Int) ≤ (k : Int) := by omega
      have hk1 : (k : Int) < (n : Int) := by omega
      clear hcell hcell2 hx
      go_wp2_with fail
      go_quiet (fail)
      go_wp2
      exact ⟨⟨k + 1, by go_num, by omega, belB⟩, by simp [intOf]; omega⟩
    · obtain rfl : k = n := by omega
      go_wp2
      go_ret
      exact ⟨rfl, hbr⟩
end Go.Proofs.YtdlbfjoemabfpaaGreatDoor
namespace Go.Proofs.YtdlbfjoemabfpaaGreatDoor
open Go.RowKit Go.Sort
set_option linter.unusedVariables false
set_option linter.unusedSimpArgs false
set_option maxRecDepth 100000
def openC : CondV := ⟨0, 1099511627777, ⟨#[]⟩, [], [], [], 0⟩
def rOne (sg : Bool) : RuleV := ⟨(⟨#[114, 49]⟩ : ByteArray), (⟨#[97, 99, 109, 101, 47, 110, 101, 119, 115, 47, 42, 42]⟩ : ByteArray), [(⟨#[104, 111, 116]⟩ : ByteArray)], 10, 0, 0, 0, [], openC, sg, 0, ⟨#[]⟩⟩
def rTwo (sg : Bool) : RuleV := ⟨(⟨#[114, 50]⟩ : ByteArray), (⟨#[97, 99, 109, 101, 47, 42, 42]⟩ : ByteArray), [], 100, 50, 1000, 5, [], openC, sg, 0, ⟨#[]⟩⟩
def mOne (T : Nat) (sg : Bool) : RuleM := ⟨rOne sg, some ⟨T, 0, none⟩, 1, none, 0, [], ⟨none, 0, none, 0, none, 0⟩⟩
def mTwo (sg : Bool) : RuleM := ⟨rTwo sg, none, 0, none, 0, [], ⟨none, 0, none, 0, none, 0⟩⟩
theorem open_fits : CondFits openC := ⟨by decide, by decide, by decide, by decide, by decide, by decide⟩
theorem one_valid (sg : Bool) : validR (rOne sg) = true := by cases sg <;> decide +kernel
theorem two_valid (sg : Bool) : validR (rTwo sg) = true := by cases sg <;> decide +kernel
theorem one_fits (sg : Bool) : RuleFits (rOne sg) := by
  cases sg <;> exact ⟨by decide +kernel, by decide +kernel, by decide +kernel, by decide +kernel, by decide +kernel, by decide +kernel, fun y hy => (by cases hy), open_fits⟩
theorem two_fits (sg : Bool) : RuleFits (rTwo sg) := by
  cases sg <;> exact ⟨by decide +kernel, by decide +kernel, by decide +kernel, by decide +kernel, by decide +kernel, by decide +kernel, fun y hy => (by cases hy), open_fits⟩
theorem open_tx : (textE openC).1.size ≤ 1000000 := by decide +kernel
theorem one_ok (T : Nat) (sg : Bool) : NameOk (mOne T sg) := ⟨rule_ok (one_valid sg), one_fits sg, Nat.le_refl _, fun y hy => (by cases hy), open_tx⟩
theorem two_ok (sg : Bool) : NameOk (mTwo sg) := ⟨rule_ok (two_valid sg), two_fits sg, Nat.le_refl _, fun y hy => (by cases hy), open_tx⟩
theorem ex_reads {W : World} {g T : Nat} {sg : Bool} (hr : RowV W g 33 (exOne T false ++ exTwo sg)) (ht : RowV W T 9 [.string (⟨#[104, 111, 116]⟩ : ByteArray)]) : RulesRead W (some ⟨g, 0, none⟩) 2 [mOne T false, mTwo sg] := by
  refine ⟨rfl, ⟨rfl, fun _ => ⟨g, 0, rfl, fun j u hu => ?_⟩⟩, ?_⟩
  · rw [Nat.zero_add]
    exact RowV.cell hr hu
  · intro x hx
    simp only [List.mem_cons, List.not_mem_nil, or_false] at hx
    rcases hx with rfl | rfl
    · exact ⟨⟨rfl, fun _ => ⟨T, 0, rfl, fun j u hu => by rw [Nat.zero_add]; exact RowV.cell ht hu⟩⟩, Reads.nil_ _ _ _, rfl, fun y hy => (by cases hy), ⟨Reads.nil_ _ _ _, Reads.nil_ _ _ _, Reads.nil_ _ _ _⟩⟩
    · exact ⟨Reads.nil_ _ _ _, Reads.nil_ _ _ _, rfl, fun y hy => (by cases hy), ⟨Reads.nil_ _ _ _, Reads.nil_ _ _ _, Reads.nil_ _ _ _⟩⟩
theorem check_ex : checkP (⟨#[97, 99, 109, 101]⟩ : ByteArray) 9 [rOne false, rTwo false] = 0 := by decide +kernel
theorem tx1 : sortL (lists [(⟨#[104, 111, 116]⟩ : ByteArray), (⟨#[120]⟩ : ByteArray)]) = [[104, 111, 116], [120]] := sortL_of (by decide) (by decide)
theorem tx2 : tagsL [(⟨#[104, 111, 116]⟩ : ByteArray), (⟨#[120]⟩ : ByteArray)] = [104, 111, 116, 44, 120] := by
  unfold tagsL
  rw [tx1]
  show Lib.join (Lib.compact [[104, 111, 116], [120]]) [44] = [104, 111, 116, 44, 120]
  kernel_rfl
theorem tg1 : hasTagB (⟨#[104, 111, 116, 44, 120]⟩ : ByteArray) (⟨#[104, 111, 116]⟩ : ByteArray) = true := by
  have h1 : splitB 44 (⟨#[104, 111, 116, 44, 120]⟩ : ByteArray) = [(⟨#[104, 111, 116]⟩ : ByteArray), (⟨#[120]⟩ : ByteArray)] := by kernel_rfl
  have h : tagsR [(⟨#[104, 111, 116]⟩ : ByteArray), (⟨#[120]⟩ : ByteArray)] = ((⟨#[104, 111, 116, 44, 120]⟩ : ByteArray), 0) := by
    unfold tagsR
    rw [tx2, if_neg (by decide +kernel), if_neg (by decide)]
    rfl
  have h2 : splitR (⟨#[104, 111, 116, 44, 120]⟩ : ByteArray) = ([(⟨#[104, 111, 116]⟩ : ByteArray), (⟨#[120]⟩ : ByteArray)], 0) := by
    unfold splitR
    rw [h1, h, if_neg (by decide +kernel), if_pos (by decide +kernel)]
  unfold hasTagB
  rw [h2]
  show Lib.containsS [(⟨#[104, 111, 116]⟩ : ByteArray), (⟨#[120]⟩ : ByteArray)] (⟨#[104, 111, 116]⟩ : ByteArray) = true
  kernel_rfl
theorem tg2 : hasTagB (⟨#[120]⟩ : ByteArray) (⟨#[104, 111, 116]⟩ : ByteArray) = false := by
  have h1 : splitB 44 (⟨#[120]⟩ : ByteArray) = [(⟨#[120]⟩ : ByteArray)] := by kernel_rfl
  have h : tagsR [(⟨#[120]⟩ : ByteArray)] = ((⟨#[120]⟩ : ByteArray), 0) := by
    rw [tags_one, if_pos (by decide +kernel)]
  have h2 : splitR (⟨#[120]⟩ : ByteArray) = ([(⟨#[120]⟩ : ByteArray)], 0) := by
    unfold splitR
    rw [h1, h, if_neg (by decide +kernel), if_pos (by decide +kernel)]
  unfold hasTagB
  rw [h2]
  show Lib.containsS [(⟨#[120]⟩ : ByteArray)] (⟨#[104, 111, 116]⟩ : ByteArray) = false
  kernel_rfl
theorem m1 : matchB (⟨#[97, 99, 109, 101, 47, 110, 101, 119, 115, 47, 42, 42]⟩ : ByteArray) (⟨#[97, 99, 109, 101, 47, 110, 101, 119, 115, 47, 97]⟩ : ByteArray) = true := by decide +kernel
theorem m2 : matchB (⟨#[97, 99, 109, 101, 47, 42, 42]⟩ : ByteArray) (⟨#[97, 99, 109, 101, 47, 110, 101, 119, 115, 47, 97]⟩ : ByteArray) = true := by decide +kernel
theorem m3 : matchB (⟨#[97, 99, 109, 101, 47, 110, 101, 119, 115, 47, 42, 42]⟩ : ByteArray) (⟨#[97, 99, 109, 101]⟩ : ByteArray) = false := by decide +kernel
theorem m4 : matchB (⟨#[97, 99, 109, 101, 47, 42, 42]⟩ : ByteArray) (⟨#[97, 99, 109, 101]⟩ : ByteArray) = true := by decide +kernel
theorem m5 : matchB (⟨#[97, 99, 109, 101, 47, 110, 101, 119, 115, 47, 42, 42]⟩ : ByteArray) (⟨#[98, 111, 108, 116, 47, 97]⟩ : ByteArray) = false := by decide +kernel
theorem m6 : matchB (⟨#[97, 99, 109, 101, 47, 42, 42]⟩ : ByteArray) (⟨#[98, 111, 108, 116, 47, 97]⟩ : ByteArray) = false := by decide +kernel
theorem ch1 (T : Nat) : chooseX [mOne T false, mTwo false] (⟨#[97, 99, 109, 101, 47, 110, 101, 119, 115, 47, 97]⟩ : ByteArray) (⟨#[104, 111, 116, 44, 120]⟩ : ByteArray) = 0 := by
  simp [chooseX, idxA, mtX, mOne, mTwo, rOne, rTwo, m1, tg1]
theorem ch2 (T : Nat) : chooseX [mOne T false, mTwo false] (⟨#[97, 99, 109, 101, 47, 110, 101, 119, 115, 47, 97]⟩ : ByteArray) (⟨#[120]⟩ : ByteArray) = 1 := by
  simp [chooseX, idxA, mtX, mOne, mTwo, rOne, rTwo, m1, m2, tg2]
theorem ch3 (T : Nat) : chooseX [mOne T false, mTwo false] (⟨#[97, 99, 109, 101]⟩ : ByteArray) ⟨#[]⟩ = 1 := by
  simp [chooseX, idxA, mtX, mOne, mTwo, rOne, rTwo, m3, m4]
theorem ch4 (T : Nat) : chooseX [mOne T false, mTwo false] (⟨#[98, 111, 108, 116, 47, 97]⟩ : ByteArray) ⟨#[]⟩ = -1 := by
  simp [chooseX, idxA, mtX, mOne, mTwo, rOne, rTwo, m5, m6]
theorem m7 : matchB (⟨#[97, 99, 109, 101, 47, 110, 101, 119, 115, 47, 42, 42]⟩ : ByteArray) (⟨#[97, 99, 109, 101, 47, 120]⟩ : ByteArray) = false := by decide +kernel
theorem m8 : matchB (⟨#[97, 99, 109, 101, 47, 42, 42]⟩ : ByteArray) (⟨#[97, 99, 109, 101, 47, 120]⟩ : ByteArray) = true := by decide +kernel
theorem po1 (T : Nat) : possX (⟨#[97, 99, 109, 101, 47, 110, 101, 119, 115, 47, 97]⟩ : ByteArray) [mOne T false, mTwo false] 0 = [0, 1] := by
  simp [possX, mOne, mTwo, rOne, rTwo, m1, m2]
theorem po2 (T : Nat) : possX (⟨#[97, 99, 109, 101, 47, 120]⟩ : ByteArray) [mOne T false, mTwo false] 0 = [1] := by
  simp [possX, mOne, mTwo, rOne, rTwo, m7, m8]
def askEx : AskV := ⟨(⟨#[97, 99, 109, 101, 47, 120]⟩ : ByteArray), (⟨#[98, 111, 98]⟩ : ByteArray), (⟨#[100, 101]⟩ : ByteArray), 0, 0, 0⟩
theorem holds_ex : holdsC openC askEx = true := by decide +kernel
def dig1 : Array Value := (b8 (Sha.ofD 22 ((partsP (⟨#[97, 99, 109, 101]⟩ : ByteArray) 9 [rOne false, rTwo false]).map nb))).toArray
def dig2 : Array Value := (b8 (Sha.ofD 22 ((partsP (⟨#[97, 99, 109, 101]⟩ : ByteArray) 9 [rOne false, rTwo true]).map nb))).toArray
theorem dig_ne (x y : Operand) (W : World) : (do eqGuard .neq 38 x y (.agg dig1) (.agg dig2); binOp .neq 38 (.agg dig1) (.agg dig2)).run Tryz.prog W = .ok (.bool true) W := by kernel_rfl
end Go.Proofs.YtdlbfjoemabfpaaGreatDoor
namespace Go.Proofs.YtdlbfjoemabfpaaGreatDoor
open Go.RowKit Go.Sort
set_option linter.unusedVariables false
set_option linter.unusedSimpArgs false
set_option maxRecDepth 100000
def exStamp : StampV := ⟨⟨#[]⟩, ⟨#[]⟩, 200, 0, ⟨0, 0, 0, 0, 0, 0, 0, 0, 0, 0, 0, 0, 0, 0, 0, 0⟩, ⟨#[]⟩, 20, 30, 0, 0, ⟨0, 0, 0, 0, 0, 0, 0, 0, 0, 0, 0, 0, 0, 0, 0, 0⟩⟩
def exPol (g : Nat) : Array Value := #[.string (⟨#[97, 99, 109, 101]⟩ : ByteArray), .int .i64 9, .slice (some ⟨g, 0, none⟩) 2 2]
def stampZ : Array Value := (StampV.cells ⟨⟨#[]⟩, ⟨#[]⟩, 0, 0, ⟨0, 0, 0, 0, 0, 0, 0, 0, 0, 0, 0, 0, 0, 0, 0, 0⟩, ⟨#[]⟩, 0, 0, 0, 0, ⟨0, 0, 0, 0, 0, 0, 0, 0, 0, 0, 0, 0, 0, 0, 0, 0⟩⟩).toArray
theorem run_st (W : World) : (Instr.build 56 #[(2, .int .i64 200), (6, .agg #[.int .i64 20, .int .i64 30])]).run Tryz.prog W = .ok (.agg exStamp.cells.toArray) W := by kernel_rfl
structure PolAt (g T pb : Nat) (sg : Bool) (W : World) : Prop where
  row : RowV W g 33 (exOne T false ++ exTwo sg)
  tags : RowV W T 9 [.string (⟨#[104, 111, 116]⟩ : ByteArray)]
  p : Box1 W pb 24 (exPol g)
theorem PolAt.keep {g T pb : Nat} {sg : Bool} {W W' : World} (h : PolAt g T pb sg W) (hb : Below W.heap.size W W') : PolAt g T pb sg W' := ⟨h.row.keep hb, h.tags.keep hb, h.p.keep hb⟩
theorem PolAt.reads {g T pb : Nat} {sg : Bool} {W : World} (h : PolAt g T pb sg W) : RulesRead W (some ⟨g, 0, none⟩) 2 [mOne T false, mTwo sg] := ex_reads h.row h.tags
theorem PolAt.ld1 {g T pb : Nat} {sg : Bool} {W : World} (h : PolAt g T pb sg W) : (loadVar 33 ⟨g, 0, none⟩).run Tryz.prog W = .ok (.agg (exOne T false).toArray) W :=
  rule_load W g 0 (mOne T false) (fun j u hu => by
    rw [Nat.zero_add]
    refine RowV.cell h.row ?_
    have hu2 : (exOne T false)[j]? = some u := hu
    rw [List.getElem?_append_left (List.getElem?_eq_some_iff.1 hu2).1]
    exact hu2)
theorem PolAt.ld2 {g T pb : Nat} {sg : Bool} {W : World} (h : PolAt g T pb sg W) : (loadVar 33 ⟨g, 18, none⟩).run Tryz.prog W = .ok (.agg (exTwo sg).toArray) W :=
  rule_load W g 18 (mTwo sg) (fun j u hu => by
    refine RowV.cell h.row ?_
    rw [List.getElem?_append_right (by show 18 ≤ 18 + j; omega)]
    show (exTwo sg)[18 + j - 18]? = some u
    rw [show 18 + j - 18 = j by omega]
    exact hu)
theorem PolAt.ldp {g T pb : Nat} {sg : Bool} {W : World} (h : PolAt g T pb sg W) : (loadVar 24 ⟨pb, 0, none⟩).run Tryz.prog W = .ok (.agg (exPol g)) W :=
  run_loadVar_row (P := Tryz.prog) W pb _ 24 (exPol g) _ _ h.p Tryz.underlying24 rfl inf3
theorem ex_fits (T : Nat) (sg : Bool) : ∀ x ∈ [mOne T false, mTwo sg], RuleFits x.r := by
  intro x hx
  simp only [List.mem_cons, List.not_mem_nil, or_false] at hx
  rcases hx with rfl | rfl
  · exact one_fits false
  · exact two_fits sg
theorem ex_names (T : Nat) (sg : Bool) : ∀ x ∈ [mOne T false, mTwo sg], NameOk x := by
  intro x hx
  simp only [List.mem_cons, List.not_mem_nil, or_false] at hx
  rcases hx with rfl | rfl
  · exact one_ok T false
  · exact two_ok sg
theorem ex_rfits (T : Nat) (sg : Bool) : RulesFit [mOne T false, mTwo sg] := by
  refine ⟨by simp, fun x hx => ?_, fun x hx => ?_⟩
  · have := (ex_fits T sg x hx).pat; omega
  · have := (ex_fits T sg x hx).nt; omega
theorem ex_check {g T pb : Nat} {W : World} (h : PolAt g T pb false W) (hE : Env W) : Calls Tryz.prog 13 #[.agg (exPol g)] W (Ret W (.int .i64 0)) := by
  have := check_any (⟨#[97, 99, 109, 101]⟩ : ByteArray) 9 (some ⟨g, 0, none⟩) 2 2 [mOne T false, mTwo false] W h.reads (ex_fits T false) (by decide) hE
  rw [show [mOne T false, mTwo false].map (·.r) = [rOne false, rTwo false] from rfl, check_ex] at this
  exact this
theorem ex_choose {g T pb : Nat} {W : World} (h : PolAt g T pb false W) (hE : Env W) (a t : ByteArray) (k : Int) (ha : a.size ≤ 100000) (ht : t.size ≤ 100000) (hk : chooseX [mOne T false, mTwo false] a t = k) : Calls Tryz.prog 20 #[.slice (some ⟨g, 0, none⟩) 2 2, .string a, .string t] W (Ret W (.int .i64 k)) := by
  rw [← hk]
  exact choose_any (some ⟨g, 0, none⟩) 2 2 _ a t W h.reads (ex_rfits T false) ha ht hE
theorem ex_possible {g T pb : Nat} {W : World} (h : PolAt g T pb false W) (hE : Env W) (a : ByteArray) (l : List Nat) (ha : a.size ≤ 100000) (hk : possX a [mOne T false, mTwo false] 0 = l) : Calls Tryz.prog 23 #[.slice (some ⟨g, 0, none⟩) 2 2, .string a] W (IntsPost l W) := by
  rw [← hk]
  exact possible_any (some ⟨g, 0, none⟩) 2 2 _ a W h.reads (ex_rfits T false) ha hE
theorem ex_name {g T pb : Nat} {sg : Bool} {W : World} (h : PolAt g T pb sg W) (hE : Env W) (hT : Tab W) (hK : Ks W) (D : Array Value) (hD : D = (b8 (Sha.ofD 22 ((partsP (⟨#[97, 99, 109, 101]⟩ : ByteArray) 9 [rOne false, rTwo sg]).map nb))).toArray) : Calls Tryz.prog 15 #[.agg (exPol g)] W (Ret W (.agg D)) := by
  rw [hD]
  exact name_any (⟨#[97, 99, 109, 101]⟩ : ByteArray) 9 (some ⟨g, 0, none⟩) 2 2 [mOne T false, mTwo sg] W h.reads (ex_names T sg) (by omega) (by decide) (by omega) hE hT hK
theorem ex_maxAge (status state v : Int) (hs : state = 0 ∨ state = 1 ∨ state = 2) (hv : maxAgeR (rTwo false) status state = v) (W : World) : Calls Tryz.prog 34 #[.agg (exTwo false).toArray, .int .i64 status, .int .i64 state] W (Ret W (.int .i64 v)) := by
  rw [← hv]
  exact maxAge_any (mTwo false) (two_ok false).ok status state hs W
theorem ex_until (W : World) : Calls Tryz.prog 32 #[.agg (exTwo false).toArray, .agg exStamp.cells.toArray, .int .i64 0] W (Ret W (.int .i64 120)) :=
  until_any (mTwo false) (two_ok false).ok exStamp 0 (by decide) (by decide) (.inl rfl) W
theorem ex_young (hi : Int) (b : Bool) (hb : youngR (rTwo false) 200 20 hi 0 = b) (W : World) : Calls Tryz.prog 31 #[.agg (exTwo false).toArray, .agg exStamp.cells.toArray, .agg #[.int .i64 110, .int .i64 hi], .int .i64 0] W (Ret W (.bool b)) := by
  rw [← hb]
  exact young_any (mTwo false) (two_ok false).ok exStamp 110 hi 0 (by decide) (by decide) (.inl rfl) W
theorem ex_usable (W : World) : Calls Tryz.prog 33 #[.agg (exTwo false).toArray, .agg exStamp.cells.toArray, .agg #[.int .i64 110, .int .i64 120], .int .i64 0, .int .i64 1] W (Ret W (.bool false)) :=
  usable_any (mTwo false) (two_ok false).ok exStamp 110 120 0 1 (by decide) (by decide) (.inl rfl) W
theorem ex_permits {g T pb : Nat} {sg : Bool} {W : World} (h : PolAt g T pb sg W) (hE : Env W) : Calls Tryz.prog 36 #[.agg (exOne T false).toArray, .agg #[.string (⟨#[97, 99, 109, 101, 47, 120]⟩ : ByteArray), .string (⟨#[98, 111, 98]⟩ : ByteArray), .string (⟨#[100, 101]⟩ : ByteArray), .int .i64 0, .int .i64 0, .int .i64 0]] W (Ret W (.bool true)) := by
  have := permits_any (mOne T false) askEx W (h.reads.each _ (by simp)) (one_fits false).c ⟨by decide, by decide, by decide⟩ hE
  rw [show (mOne T false).r.allow = openC from rfl, holds_ex] at this
  exact this
end Go.Proofs.YtdlbfjoemabfpaaGreatDoor
