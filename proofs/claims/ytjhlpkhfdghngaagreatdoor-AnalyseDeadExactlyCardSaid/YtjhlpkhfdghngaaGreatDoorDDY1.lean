/- What the specification's put returns. -/
import Derived.Test.YtjhlpkhfdghngaaGreatDoorDDY0
import Derived.Test.YtjhlpkhfdghngaaGreatDoorGZ31
namespace Go.Proofs.YtjhlpkhfdghngaaGreatDoor
open Go.RowKit Go.Sort
set_option linter.unusedVariables false
set_option linter.unusedSimpArgs false
set_option maxRecDepth 100000
def OwnPost2 (ps : List BP) (w : World) (e : Ending) (w' : World) : Prop := ∃ A c, e = .returned (.slice A ps.length c) ∧ Reads w' 2 A ps.length (pairCells ps) ∧ (∀ a, A = some a → w.heap.size ≤ a.block) ∧ Below w.heap.size w w'
theorem pairCells_app (a b : List BP) : pairCells (a ++ b) = pairCells a ++ pairCells b := by simp [pairCells]
set_option maxHeartbeats 4000000 in
theorem rPut_any (A : Option Addr) (n c : Nat) (l : List BP) (k0 v0 : ByteArray) (w : World) (hR : Reads w 2 A n (pairCells l)) (hn : n ≤ 1000000) : Calls Tryz.prog 308 #[.slice A n c, .agg #[.string k0, .string v0]] w (OwnPost2 (putB l (k0, v0)) w) := by
 have hl : l.length = n := by have := hR.1; rw [pairCells_length] at this; omega
 obtain ⟨i0, hi0, hz0, hz1, hz2⟩ := info_parts infoPair
 have HI : Hid ((Tryz.prog.info? 215 = some i0) ∧ i0.zero = some (.agg #[.string ⟨#[]⟩, .string ⟨#[]⟩]) ∧ i0.size = 2 ∧ i0.bytes = 32) := Lib.hid ⟨hi0, hz0, hz1, hz2⟩
 have HL := Lib.hid hl
 have HR := Lib.hid hR
 clear hi0 hz0 hz1 hz2 hl hR
 go_enter Tryz.func308, Tryz.ntmps308
 go_wp2
 have hX0 : PairBox (w.alloc (.cells #[.string k0, .string v0] 215)) w.heap.size k0 v0 := World.alloc_heap_new _ _
 go_loopw [5, 6, 7] (fun va vp vi wr => ∃ (k m : Nat) (pl : Bool) (acc : List BP) (A' : Option Addr) (c' : Nat), (vi = .int .i64 k ∧ vp = .bool pl ∧ va = .slice A' m c' ∧ k ≤ n ∧ m ≤ 2 * k) ∧ Hid ((l.take k).foldl (putSt (k0, v0)) ([], false) = (acc, pl) ∧ acc.length = m) ∧ wr.ownsRow (w.heap.size + 1) 215 2 (.slice A' m c') m (pairCells acc) ∧ PairBox wr w.heap.size k0 v0 ∧ Below w.heap.size w wr ∧ w.heap.size + 1 ≤ wr.heap.size) (fun _ _ i _ => n - (intOf i).toNat)
 case atStart => exact ⟨0, 0, false, [], none, 0, ⟨rfl, rfl, rfl, Nat.zero_le _, Nat.le_refl _⟩, Lib.hid ⟨rfl, rfl⟩, World.ownsRow_nil _ _ _ _, hX0, balloc (Below.refl _ _) _, by simp⟩
 case round =>
  clear hX0
  obtain ⟨k, m, pl, acc, A', c', ⟨rfl, rfl, rfl, hk, hm⟩, HK, hown, hX, hbr, hzr⟩ := hrel
  have hbs := hbr.size
  obtain ⟨x0, x1⟩ := hX.facts
  by_cases hlt : k < n
  ·obtain ⟨x, hx⟩ : ∃ x, l[k]? = some x := ⟨_, List.getElem?_eq_getElem (by have := HL.out; omega)⟩
   obtain ⟨b, o, rfl, hcell⟩ := HR.out.2 (by omega)
   obtain ⟨e1, e2⟩ := pairCells_at l k x hx
   have hc0 := hcell _ _ e1
   have hc0' := hcell _ _ e2
   have hst : (l.take (k + 1)).foldl (putSt (k0, v0)) ([], false) = putSt (k0, v0) (acc, pl) x := by rw [foldl_take _ _ hx, HK.out.1]
   obtain ⟨xk, xv⟩ := x
   dsimp only at hc0 hc0'
   have hc1 : wr.cell? ⟨b, o + k * 2, none⟩ = some (.string xk) := cell_keep hbr hc0
   have hc2 : wr.cell? ⟨b, o + k * 2 + 1, none⟩ = some (.string xv) := cell_keep hbr hc0'
   have hk0 : (0 : Int) ≤ (k : Int) := by omega
   have hk1 : (k : Int) < (n : Int) := by omega
   have hml := HK.out.2
   clear hcell hx e1 e2
   by_cases hfirst : pl = false ∧ leS k0 xk = true
   ·obtain ⟨rfl, hle⟩ := hfirst
    have e1 : putA (k0, v0) (acc, false) (xk, xv) = (acc ++ [(k0, v0)], true) := by simp [putA, hle]
    have hle2 : (Op.bytesLess k0.toList xk.toList || k0.toList == xk.toList) = true := hle
    cases hne : (xk.toList != k0.toList)
    ·have e2 : putSt (k0, v0) (acc, false) (xk, xv) = (acc ++ [(k0, v0)], true) := by simp only [putSt, hne, e1]; rfl
     have HK2 := Lib.hid (show (l.take (k + 1)).foldl (putSt (k0, v0)) ([], false) = (acc ++ [(k0, v0)], true) ∧ (acc ++ [(k0, v0)]).length = m + 1 from ⟨hst.trans e2, by simp [hml]⟩)
     have hq : (xk.toList == k0.toList) = true := by simpa [bne] using hne
     have hq2 : xk.toList = k0.toList := beq_iff_eq.1 hq
     clear e1 e2 hst hml HK hle
     go_wp2_with fail
     (have k1 := cell_regrown hc1; have k2 := cell_regrown hc2; have k3 := cell_regrown x0; refine wp_region_quiet_below (by kernel_rfl) (by kernel_rfl) ?_; (repeat (any_goals (first | go_big_quiet_step (fail) | quiet_step (fail)))); refine wpQuiet_nil ?_; intro _ hwq; obtain ⟨⟨dq, osq⟩, hwq⟩ := hwq; subst hwq; have hbq := below_regrown (wr) dq osq; generalize grow (redrawn (wr) dq) osq = wq at *; have hownq := ownsRow_keep hown hbq; have hXq : PairBox wq w.heap.size k0 v0 := Blk.keep hX hbq; have hcq1 := cell_keep hbq hc1; have hcq2 := cell_keep hbq hc2; have hbrq := bstep hbr hbq; have hzrq := Nat.le_trans hzr hbq.size; clear k1 k2 k3 hown hX hc1 hc2 hbr hzr hbs x0 x1 hbq; obtain ⟨x0, x1⟩ := hXq.facts; have hbs := hbrq.size; have hown := hownq; have hX := hXq; have hc1 := hcq1; have hc2 := hcq2; have hbr := hbrq; have hzr := hzrq; clear hownq hXq hcq1 hcq2 hbrq hzrq; obtain ⟨wr, rfl⟩ : ∃ x : World, x = wq := ⟨_, rfl⟩)
     go_wp2_with (at_builtin; refine wpList_append_own _ rfl _ _ 115 rfl (w.heap.size + 1) 215 i0 (.agg #[.string ⟨#[]⟩, .string ⟨#[]⟩]) 2 32 Tryz.underlying115 HI.out.1 HI.out.2.1 HI.out.2.2.1 HI.out.2.2.2 rfl (by decide) _ _ _ rfl (hown.alloc _) ⟨wr.heap.size, 0, none⟩ 1 1 [.string k0, .string v0] rfl rfl (World.news_of_block (cs := #[.string k0, .string v0]) (t := 215) (fr := (0, 0)) (World.alloc_heap_new wr _)) (by simp [Value.oneCell']) (by unfold maxLen; omega) (by omega) (by simp; omega) ?_; intro v' w3 hown1 hgrow1 _; obtain ⟨g1, cap1, rfl⟩ := ownsRow_succ hown1; have hb3 : Below w.heap.size w w3 := (hbr.alloc hbs _).grown hgrow1 (by simp; omega) (fun r e => by have := ownsRow_block hown r e; omega); have hbs3 := hb3.size; have hX3 : PairBox w3 w.heap.size k0 v0 := (hgrow1.block _ (by simp; omega) (fun e => by have := ownsRow_block hown _ e.symm; omega)).trans ((Below.heap_alloc wr _ _ (by omega)).trans hX); obtain ⟨y0, y1⟩ := hX3.facts; have hz3 : w.heap.size + 1 ≤ w3.heap.size := (by have := hgrow1.size; simp at this; omega); have hc3 : w3.cell? ⟨b, o + k * 2, none⟩ = some (.string xk) := cell_keep hb3 hc0; have hc3' : w3.cell? ⟨b, o + k * 2 + 1, none⟩ = some (.string xv) := cell_keep hb3 hc0'; clear hown)
     (have k1 := cell_regrown hc3; have k2 := cell_regrown hc3'; have k3 := cell_regrown y0; refine wp_region_quiet_below (by kernel_rfl) (by kernel_rfl) ?_; (repeat (any_goals (first | go_big_quiet_step (fail) | quiet_step (fail)))); refine wpQuiet_nil ?_; intro _ hwq; obtain ⟨⟨dq, osq⟩, hwq⟩ := hwq; subst hwq; have hbq := below_regrown (w3) dq osq; generalize grow (redrawn (w3) dq) osq = wq at *; have hownq := ownsRow_keep hown1 hbq; have hXq : PairBox wq w.heap.size k0 v0 := Blk.keep hX3 hbq; have hcq1 := cell_keep hbq hc3; have hcq2 := cell_keep hbq hc3'; have hbrq := bstep hb3 hbq; have hzrq := Nat.le_trans hz3 hbq.size; clear k1 k2 k3 hown1 hX3 hc3 hc3' hb3 hz3 hbs3 y0 y1 hbq hgrow1; obtain ⟨y0, y1⟩ := hXq.facts; have hbs3 := hbrq.size; have hown1 := hownq; have hX3 := hXq; have hc3 := hcq1; have hc3' := hcq2; have hb3 := hbrq; have hz3 := hzrq; clear hownq hXq hcq1 hcq2 hbrq hzrq; obtain ⟨w3, rfl⟩ : ∃ x : World, x = wq := ⟨_, rfl⟩)
     go_wp2
     exact ⟨⟨k + 1, m + 1, true, acc ++ [(k0, v0)], some ⟨g1, 0, none⟩, cap1, ⟨by go_num, rfl, rfl, by omega, by omega⟩, HK2, by rw [pairCells_app]; exact hown1, hX3, hb3, hz3⟩, by simp [intOf]; omega⟩
    ·have e2 : putSt (k0, v0) (acc, false) (xk, xv) = (acc ++ [(k0, v0)] ++ [(xk, xv)], true) := by simp only [putSt, hne, e1]; rfl
     have HK2 := Lib.hid (show (l.take (k + 1)).foldl (putSt (k0, v0)) ([], false) = (acc ++ [(k0, v0)] ++ [(xk, xv)], true) ∧ (acc ++ [(k0, v0)] ++ [(xk, xv)]).length = m + 1 + 1 from ⟨hst.trans e2, by simp [hml]⟩)
     have hq : ¬ xk.toList = k0.toList := by simpa [bne] using hne
     have hq3 : (xk.toList == k0.toList) = false := by simpa using hq
     clear e1 e2 hst hml HK hle
     go_wp2_with fail
     (have k1 := cell_regrown hc1; have k2 := cell_regrown hc2; have k3 := cell_regrown x0; refine wp_region_quiet_below (by kernel_rfl) (by kernel_rfl) ?_; (repeat (any_goals (first | go_big_quiet_step (fail) | quiet_step (fail)))); refine wpQuiet_nil ?_; intro _ hwq; obtain ⟨⟨dq, osq⟩, hwq⟩ := hwq; subst hwq; have hbq := below_regrown (wr) dq osq; generalize grow (redrawn (wr) dq) osq = wq at *; have hownq := ownsRow_keep hown hbq; have hXq : PairBox wq w.heap.size k0 v0 := Blk.keep hX hbq; have hcq1 := cell_keep hbq hc1; have hcq2 := cell_keep hbq hc2; have hbrq := bstep hbr hbq; have hzrq := Nat.le_trans hzr hbq.size; clear k1 k2 k3 hown hX hc1 hc2 hbr hzr hbs x0 x1 hbq; obtain ⟨x0, x1⟩ := hXq.facts; have hbs := hbrq.size; have hown := hownq; have hX := hXq; have hc1 := hcq1; have hc2 := hcq2; have hbr := hbrq; have hzr := hzrq; clear hownq hXq hcq1 hcq2 hbrq hzrq; obtain ⟨wr, rfl⟩ : ∃ x : World, x = wq := ⟨_, rfl⟩)
     go_wp2_with (at_builtin; refine wpList_append_own _ rfl _ _ 115 rfl (w.heap.size + 1) 215 i0 (.agg #[.string ⟨#[]⟩, .string ⟨#[]⟩]) 2 32 Tryz.underlying115 HI.out.1 HI.out.2.1 HI.out.2.2.1 HI.out.2.2.2 rfl (by decide) _ _ _ rfl (hown.alloc _) ⟨wr.heap.size, 0, none⟩ 1 1 [.string k0, .string v0] rfl rfl (World.news_of_block (cs := #[.string k0, .string v0]) (t := 215) (fr := (0, 0)) (World.alloc_heap_new wr _)) (by simp [Value.oneCell']) (by unfold maxLen; omega) (by omega) (by simp; omega) ?_; intro v' w3 hown1 hgrow1 _; obtain ⟨g1, cap1, rfl⟩ := ownsRow_succ hown1; have hb3 : Below w.heap.size w w3 := (hbr.alloc hbs _).grown hgrow1 (by simp; omega) (fun r e => by have := ownsRow_block hown r e; omega); have hbs3 := hb3.size; have hX3 : PairBox w3 w.heap.size k0 v0 := (hgrow1.block _ (by simp; omega) (fun e => by have := ownsRow_block hown _ e.symm; omega)).trans ((Below.heap_alloc wr _ _ (by omega)).trans hX); obtain ⟨y0, y1⟩ := hX3.facts; have hz3 : w.heap.size + 1 ≤ w3.heap.size := (by have := hgrow1.size; simp at this; omega); have hc3 : w3.cell? ⟨b, o + k * 2, none⟩ = some (.string xk) := cell_keep hb3 hc0; have hc3' : w3.cell? ⟨b, o + k * 2 + 1, none⟩ = some (.string xv) := cell_keep hb3 hc0'; clear hown)
     (have k1 := cell_regrown hc3; have k2 := cell_regrown hc3'; have k3 := cell_regrown y0; refine wp_region_quiet_below (by kernel_rfl) (by kernel_rfl) ?_; (repeat (any_goals (first | go_big_quiet_step (fail) | quiet_step (fail)))); refine wpQuiet_nil ?_; intro _ hwq; obtain ⟨⟨dq, osq⟩, hwq⟩ := hwq; subst hwq; have hbq := below_regrown (w3) dq osq; generalize grow (redrawn (w3) dq) osq = wq at *; have hownq := ownsRow_keep hown1 hbq; have hXq : PairBox wq w.heap.size k0 v0 := Blk.keep hX3 hbq; have hcq1 := cell_keep hbq hc3; have hcq2 := cell_keep hbq hc3'; have hbrq := bstep hb3 hbq; have hzrq := Nat.le_trans hz3 hbq.size; clear k1 k2 k3 hown1 hX3 hc3 hc3' hb3 hz3 hbs3 y0 y1 hbq hgrow1; obtain ⟨y0, y1⟩ := hXq.facts; have hbs3 := hbrq.size; have hown1 := hownq; have hX3 := hXq; have hc3 := hcq1; have hc3' := hcq2; have hb3 := hbrq; have hz3 := hzrq; clear hownq hXq hcq1 hcq2 hbrq hzrq; obtain ⟨w3, rfl⟩ : ∃ x : World, x = wq := ⟨_, rfl⟩)
     go_wp2_with (at_builtin; refine wpList_append_own _ rfl _ _ 115 rfl (w.heap.size + 1) 215 i0 (.agg #[.string ⟨#[]⟩, .string ⟨#[]⟩]) 2 32 Tryz.underlying115 HI.out.1 HI.out.2.1 HI.out.2.2.1 HI.out.2.2.2 rfl (by decide) _ _ _ rfl (hown1.alloc _) ⟨w3.heap.size, 0, none⟩ 1 1 [.string xk, .string xv] rfl rfl (World.news_of_block (cs := #[.string xk, .string xv]) (t := 215) (fr := (0, 0)) (World.alloc_heap_new w3 _)) (by simp [Value.oneCell']) (by unfold maxLen; omega) (by omega) (by simp; omega) ?_; intro v' w4 hown2 hgrow2 _; obtain ⟨g2, cap2, rfl⟩ := ownsRow_succ hown2; have hb4 : Below w.heap.size w w4 := (hb3.alloc hbs3 _).grown hgrow2 (by simp; omega) (fun r e => by have := ownsRow_block hown1 r e; omega); have hX4 : PairBox w4 w.heap.size k0 v0 := (hgrow2.block _ (by simp; omega) (fun e => by have := ownsRow_block hown1 _ e.symm; omega)).trans ((Below.heap_alloc w3 _ _ (by omega)).trans hX3); have hz4 : w.heap.size + 1 ≤ w4.heap.size := (by have := hgrow2.size; simp at this; omega))
     exact ⟨⟨k + 1, m + 1 + 1, true, acc ++ [(k0, v0)] ++ [(xk, xv)], some ⟨g2, 0, none⟩, cap2, ⟨by go_num, rfl, rfl, by omega, by omega⟩, HK2, by rw [pairCells_app, pairCells_app]; exact hown2, hX4, hb4, hz4⟩, by simp [intOf]; omega⟩
   ·have e1 : putA (k0, v0) (acc, pl) (xk, xv) = (acc, pl) := by
     unfold putA
     rw [if_neg]
     intro h
     simp only [Bool.and_eq_true, Bool.not_eq_true'] at h
     exact hfirst h
    have hguard : pl = true ∨ (pl = false ∧ (Op.bytesLess k0.toList xk.toList || k0.toList == xk.toList) = false) := by
     cases pl
     ·right
      refine ⟨rfl, ?_⟩
      cases hle : leS k0 xk
      ·exact hle
      ·exact absurd ⟨rfl, hle⟩ hfirst
     ·exact .inl rfl
    clear hfirst
    cases hne : (xk.toList != k0.toList)
    ·have e2 : putSt (k0, v0) (acc, pl) (xk, xv) = (acc, pl) := by simp only [putSt, hne, e1]; rfl
     have HK2 := Lib.hid (show (l.take (k + 1)).foldl (putSt (k0, v0)) ([], false) = (acc, pl) ∧ acc.length = m from ⟨hst.trans e2, hml⟩)
     have hq : (xk.toList == k0.toList) = true := by simpa [bne] using hne
     have hq2 : xk.toList = k0.toList := beq_iff_eq.1 hq
     clear e1 e2 hst hml HK
     rcases hguard with rfl | ⟨rfl, hg⟩
     ·go_wp2_with fail
      (have k1 := cell_regrown hc1; have k2 := cell_regrown hc2; have k3 := cell_regrown x0; refine wp_region_quiet_below (by kernel_rfl) (by kernel_rfl) ?_; (repeat (any_goals (first | go_big_quiet_step (fail) | quiet_step (fail)))); refine wpQuiet_nil ?_; intro _ hwq; obtain ⟨⟨dq, osq⟩, hwq⟩ := hwq; subst hwq; have hbq := below_regrown (wr) dq osq; generalize grow (redrawn (wr) dq) osq = wq at *; have hownq := ownsRow_keep hown hbq; have hXq : PairBox wq w.heap.size k0 v0 := Blk.keep hX hbq; have hcq1 := cell_keep hbq hc1; have hcq2 := cell_keep hbq hc2; have hbrq := bstep hbr hbq; have hzrq := Nat.le_trans hzr hbq.size; clear k1 k2 k3 hown hX hc1 hc2 hbr hzr hbs x0 x1 hbq; obtain ⟨x0, x1⟩ := hXq.facts; have hbs := hbrq.size; have hown := hownq; have hX := hXq; have hc1 := hcq1; have hc2 := hcq2; have hbr := hbrq; have hzr := hzrq; clear hownq hXq hcq1 hcq2 hbrq hzrq; obtain ⟨wr, rfl⟩ : ∃ x : World, x = wq := ⟨_, rfl⟩)
      go_wp2_with fail
      (have k1 := cell_regrown hc1; have k2 := cell_regrown hc2; have k3 := cell_regrown x0; refine wp_region_quiet_below (by kernel_rfl) (by kernel_rfl) ?_; (repeat (any_goals (first | go_big_quiet_step (fail) | quiet_step (fail)))); refine wpQuiet_nil ?_; intro _ hwq; obtain ⟨⟨dq, osq⟩, hwq⟩ := hwq; subst hwq; have hbq := below_regrown (wr) dq osq; generalize grow (redrawn (wr) dq) osq = wq at *; have hownq := ownsRow_keep hown hbq; have hXq : PairBox wq w.heap.size k0 v0 := Blk.keep hX hbq; have hcq1 := cell_keep hbq hc1; have hcq2 := cell_keep hbq hc2; have hbrq := bstep hbr hbq; have hzrq := Nat.le_trans hzr hbq.size; clear k1 k2 k3 hown hX hc1 hc2 hbr hzr hbs x0 x1 hbq; obtain ⟨x0, x1⟩ := hXq.facts; have hbs := hbrq.size; have hown := hownq; have hX := hXq; have hc1 := hcq1; have hc2 := hcq2; have hbr := hbrq; have hzr := hzrq; clear hownq hXq hcq1 hcq2 hbrq hzrq; obtain ⟨wr, rfl⟩ : ∃ x : World, x = wq := ⟨_, rfl⟩)
      go_wp2
      exact ⟨⟨k + 1, m, _, acc, A', c', ⟨by go_num, rfl, rfl, by omega, by omega⟩, HK2, hown, hX, hbr, hzr⟩, by simp [intOf]; omega⟩
     ·exact absurd hg (by rw [hq2]; simp)
    ·have e2 : putSt (k0, v0) (acc, pl) (xk, xv) = (acc ++ [(xk, xv)], pl) := by simp only [putSt, hne, e1]; rfl
     have HK2 := Lib.hid (show (l.take (k + 1)).foldl (putSt (k0, v0)) ([], false) = (acc ++ [(xk, xv)], pl) ∧ (acc ++ [(xk, xv)]).length = m + 1 from ⟨hst.trans e2, by simp [hml]⟩)
     have hq : ¬ xk.toList = k0.toList := by simpa [bne] using hne
     have hq3 : (xk.toList == k0.toList) = false := by simpa using hq
     clear e1 e2 hst hml HK
     rcases hguard with rfl | ⟨rfl, hg⟩
     all_goals
      go_wp2_with fail
      (have k1 := cell_regrown hc1; have k2 := cell_regrown hc2; have k3 := cell_regrown x0; refine wp_region_quiet_below (by kernel_rfl) (by kernel_rfl) ?_; (repeat (any_goals (first | go_big_quiet_step (fail) | quiet_step (fail)))); refine wpQuiet_nil ?_; intro _ hwq; obtain ⟨⟨dq, osq⟩, hwq⟩ := hwq; subst hwq; have hbq := below_regrown (wr) dq osq; generalize grow (redrawn (wr) dq) osq = wq at *; have hownq := ownsRow_keep hown hbq; have hXq : PairBox wq w.heap.size k0 v0 := Blk.keep hX hbq; have hcq1 := cell_keep hbq hc1; have hcq2 := cell_keep hbq hc2; have hbrq := bstep hbr hbq; have hzrq := Nat.le_trans hzr hbq.size; clear k1 k2 k3 hown hX hc1 hc2 hbr hzr hbs x0 x1 hbq; obtain ⟨x0, x1⟩ := hXq.facts; have hbs := hbrq.size; have hown := hownq; have hX := hXq; have hc1 := hcq1; have hc2 := hcq2; have hbr := hbrq; have hzr := hzrq; clear hownq hXq hcq1 hcq2 hbrq hzrq; obtain ⟨wr, rfl⟩ : ∃ x : World, x = wq := ⟨_, rfl⟩)
      go_wp2_with fail
      (have k1 := cell_regrown hc1; have k2 := cell_regrown hc2; have k3 := cell_regrown x0; refine wp_region_quiet_below (by kernel_rfl) (by kernel_rfl) ?_; (repeat (any_goals (first | go_big_quiet_step (fail) | quiet_step (fail)))); refine wpQuiet_nil ?_; intro _ hwq; obtain ⟨⟨dq, osq⟩, hwq⟩ := hwq; subst hwq; have hbq := below_regrown (wr) dq osq; generalize grow (redrawn (wr) dq) osq = wq at *; have hownq := ownsRow_keep hown hbq; have hXq : PairBox wq w.heap.size k0 v0 := Blk.keep hX hbq; have hcq1 := cell_keep hbq hc1; have hcq2 := cell_keep hbq hc2; have hbrq := bstep hbr hbq; have hzrq := Nat.le_trans hzr hbq.size; clear k1 k2 k3 hown hX hc1 hc2 hbr hzr hbs x0 x1 hbq; obtain ⟨x0, x1⟩ := hXq.facts; have hbs := hbrq.size; have hown := hownq; have hX := hXq; have hc1 := hcq1; have hc2 := hcq2; have hbr := hbrq; have hzr := hzrq; clear hownq hXq hcq1 hcq2 hbrq hzrq; obtain ⟨wr, rfl⟩ : ∃ x : World, x = wq := ⟨_, rfl⟩)
      go_wp2_with (at_builtin; refine wpList_append_own _ rfl _ _ 115 rfl (w.heap.size + 1) 215 i0 (.agg #[.string ⟨#[]⟩, .string ⟨#[]⟩]) 2 32 Tryz.underlying115 HI.out.1 HI.out.2.1 HI.out.2.2.1 HI.out.2.2.2 rfl (by decide) _ _ _ rfl (hown.alloc _) ⟨wr.heap.size, 0, none⟩ 1 1 [.string xk, .string xv] rfl rfl (World.news_of_block (cs := #[.string xk, .string xv]) (t := 215) (fr := (0, 0)) (World.alloc_heap_new wr _)) (by simp [Value.oneCell']) (by unfold maxLen; omega) (by omega) (by simp; omega) ?_; intro v' w3 hown1 hgrow1 _; obtain ⟨g1, cap1, rfl⟩ := ownsRow_succ hown1; have hb3 : Below w.heap.size w w3 := (hbr.alloc hbs _).grown hgrow1 (by simp; omega) (fun r e => by have := ownsRow_block hown r e; omega); have hX3 : PairBox w3 w.heap.size k0 v0 := (hgrow1.block _ (by simp; omega) (fun e => by have := ownsRow_block hown _ e.symm; omega)).trans ((Below.heap_alloc wr _ _ (by omega)).trans hX); have hz3 : w.heap.size + 1 ≤ w3.heap.size := (by have := hgrow1.size; simp at this; omega); clear hown)
      exact ⟨⟨k + 1, m + 1, _, acc ++ [(xk, xv)], some ⟨g1, 0, none⟩, cap1, ⟨by go_num, rfl, rfl, by omega, by omega⟩, HK2, by rw [pairCells_app]; exact hown1, hX3, hb3, hz3⟩, by simp [intOf]; omega⟩
  ·obtain rfl : k = n := by omega
   have hfin : l.foldl (putSt (k0, v0)) ([], false) = (acc, pl) := by
    have := HK.out.1
    rwa [List.take_of_length_le (by have := HL.out; omega)] at this
   have hml := HK.out.2
   cases pl
   ·have hv : putB l (k0, v0) = acc ++ [(k0, v0)] := by unfold putB; rw [hfin]; rfl
    have hvl : (putB l (k0, v0)).length = m + 1 := by rw [hv]; simp [hml]
    have HV := Lib.hid hv
    have HVL := Lib.hid hvl
    clear hv hvl hfin hml HK
    go_wp2_with (at_builtin; refine wpList_append_own _ rfl _ _ 115 rfl (w.heap.size + 1) 215 i0 (.agg #[.string ⟨#[]⟩, .string ⟨#[]⟩]) 2 32 Tryz.underlying115 HI.out.1 HI.out.2.1 HI.out.2.2.1 HI.out.2.2.2 rfl (by decide) _ _ _ rfl (hown.alloc _) ⟨wr.heap.size, 0, none⟩ 1 1 [.string k0, .string v0] rfl rfl (World.news_of_block (cs := #[.string k0, .string v0]) (t := 215) (fr := (0, 0)) (World.alloc_heap_new wr _)) (by simp [Value.oneCell']) (by unfold maxLen; omega) (by omega) (by simp; omega) ?_; intro v' w3 hown1 hgrow1 _; obtain ⟨g1, cap1, rfl⟩ := ownsRow_succ hown1)
    go_ret
    refine ⟨some ⟨g1, 0, none⟩, cap1, by rw [HVL.out]; rfl, by rw [HVL.out, HV.out, pairCells_app]; exact Reads.of_own hown1, fun a ha => by have := ownsRow_block hown1 a.block (by rw [ha]; rfl); omega, (hbr.alloc hbs _).grown hgrow1 (by simp; omega) (fun r e => by have := ownsRow_block hown r e; omega)⟩
   ·have hv : putB l (k0, v0) = acc := by unfold putB; rw [hfin]; rfl
    have HV := Lib.hid hv
    have HML := Lib.hid hml
    clear hv hfin hml HK
    go_wp2
    go_ret
    refine ⟨A', c', by rw [HV.out, HML.out]; rfl, by rw [HV.out, HML.out]; exact Reads.of_own hown, fun a ha => by have := ownsRow_block hown a.block (by rw [ha]; rfl); omega, hbr⟩
end Go.Proofs.YtjhlpkhfdghngaaGreatDoor
namespace Go.Proofs.YtjhlpkhfdghngaaGreatDoor
open Go.RowKit Go.Sort
set_option linter.unusedVariables false
set_option linter.unusedSimpArgs false
set_option maxRecDepth 100000
theorem putP_len (p : BP) : ∀ l, (putP p l).length ≤ l.length + 1
 | [] => by simp [putP]
 | x :: l => by
  unfold putP
  split
  ·have := List.length_filter_le (fun y : BP => y.1.toList != p.1.toList) (x :: l)
   simp only [List.length_cons] at this ⊢; omega
  ·have := putP_len p l
   simp only [List.length_cons]; omega
theorem putB_len (l : List BP) (p : BP) : (putB l p).length ≤ l.length + 1 := by rw [putB_eq]; exact putP_len p l
theorem PairsPost.some2 {out : List BP} {w w' : World} {A : Option Addr} {c m : Nat} (hm : out.length = m) (hb : Below w.heap.size w w') (hR : Reads w' 2 A m (pairCells out)) (ha : ∀ a, A = some a → w.heap.size ≤ a.block) : PairsPost (some out) w (.returned (.tuple #[.slice A m c, .bool true])) w' := by
 subst hm; exact ⟨hb, A, c, rfl, hR, ha⟩
set_option maxHeartbeats 4000000 in
theorem rQuery_any (s : ByteArray) (w : World) (hs : s.size ≤ 100000) : Calls Tryz.prog 282 #[.string s] w (PairsPost (pairsB s) w) := by
 rw [pairsB_ref]
 cases hem : s.toList.isEmpty
 rotate_left
 ·rw [if_pos rfl]
  have hq : s.toList = [] := List.isEmpty_iff.1 hem
  go_enter Tryz.func282, Tryz.ntmps282
  go_wp2
  go_ret2
  exact PairsPost.some2 rfl belB (Reads.nil_ _ _ _) (fun a ha => by cases ha)
 rw [if_neg (by simp)]
 have hne : (s.toList == []) = false := by
  cases h : s.toList with
  | nil => rw [h] at hem; cases hem
  | cons a l => rfl
 have hne2 : ¬ s.toList = [] := by simpa using hne
 have cS := fun W => rSplit_any s 38 W (by omega)
 have hsz := splitB_size 38 s
 have hnum := splitB_num 38 s
 generalize splitB 38 s = ps at *
 generalize hV : PairsPost (qRef [] ps) w = V
 have HV := Lib.hid hV
 have HS := Lib.hid cS
 have HZ := Lib.hid hsz
 clear hV cS hsz hem
 go_enter Tryz.func282, Tryz.ntmps282
 go_wp2_with (go_at_call 178; refine (HS.out _).mono ?_; rintro e w1 ⟨A, c, rfl, hown, hb1⟩; have HR := Lib.hid (Reads.of_own hown); clear hown)
 go_loopw [4, 6] (fun vo vi wr => ∃ (k m : Nat) (acc : List BP) (A' : Option Addr) (c' : Nat), (vi = .int .i64 k ∧ vo = .slice A' m c' ∧ k ≤ ps.length ∧ m ≤ k) ∧ Hid (qRef [] ps = qRef acc (ps.drop k) ∧ acc.length = m) ∧ Hid (Reads wr 2 A' m (pairCells acc)) ∧ (∀ a, A' = some a → w.heap.size ≤ a.block) ∧ Below w1.heap.size w1 wr) (fun _ i _ => ps.length - (intOf i).toNat)
 case atStart => exact ⟨0, 0, [], none, 0, ⟨rfl, rfl, Nat.zero_le _, Nat.le_refl _⟩, Lib.hid ⟨rfl, rfl⟩, Lib.hid (Reads.nil_ _ _ _), fun a ha => (by cases ha), Below.refl _ _⟩
 case round =>
  obtain ⟨k, m, acc, A', c', ⟨rfl, rfl, hk, hm⟩, HK, HA, hAb, hbr⟩ := hrel
  by_cases hlt : k < ps.length
  ·obtain ⟨x, hx⟩ : ∃ x, ps[k]? = some x := ⟨_, List.getElem?_eq_getElem hlt⟩
   obtain ⟨b, o, rfl, hcell⟩ := (HR.out.keep hbr).2 (by omega)
   have hc1 : wr.cell? ⟨b, o + k, none⟩ = some (.string x) := hcell k _ (by simp [hx])
   have hk0 : (0 : Int) ≤ (k : Int) := by omega
   have hk1 : (k : Int) < (ps.length : Int) := by omega
   have hd : ps.drop k = x :: ps.drop (k + 1) := by
    obtain ⟨hl2, rfl⟩ := List.getElem?_eq_some_iff.1 hx
    exact List.drop_eq_getElem_cons hl2
   have hxs : x.size ≤ s.size := HZ.out x (List.mem_of_getElem? hx)
   have cC := fun W => rCut_any x 61 W (by omega)
   have hr1 := HK.out.1
   have hml := HK.out.2
   have l1 := cut_fst_len x.data.toList [61]
   have l2 := cut_snd_len x.data.toList [61]
   rw [← Lib.size_eq] at l1 l2
   rw [hd, qRef] at hr1
   unfold parsePair at hr1
   unfold cutV at cC
   generalize Lib.cut x.data.toList [61] = ct at *
   obtain ⟨ka, va, is⟩ := ct
   dsimp only at hr1 cC l1 l2
   have cN := fun W => rName_any (toB ka) W (by rw [toB_size]; omega)
   have cW := fun W => rWord_any (toB va) W (by rw [toB_size]; omega)
   have HC := Lib.hid cC
   clear hcell hx hd HK cC l1 l2
   cases is
   ·have HN0 : Hid (qRef [] ps = none) := Lib.hid (by rw [hr1]; rfl)
    clear hr1 cN cW
    go_wp2_with (go_at_call 279; refine (HC.out _).mono ?_; rintro e w2 ⟨rfl, hb2⟩)
    rw [← HV.out, HN0.out]
    exact PairsPost.none_ belB
   cases hn : isNameB (toB ka)
   ·have HN0 : Hid (qRef [] ps = none) := Lib.hid (by rw [hr1, hn]; rfl)
    rw [hn] at cN
    have HN := Lib.hid cN
    clear hr1 cN cW hn
    go_wp2_with (first | (go_at_call 279; refine (HC.out _).mono ?_; rintro e w2 ⟨rfl, hb2⟩) | (go_at_call 53; refine (HN.out _).mono ?_; rintro e w3 ⟨rfl, hb3⟩))
    rw [← HV.out, HN0.out]
    exact PairsPost.none_ belB
   cases hw : isWordB (toB va)
   ·have HN0 : Hid (qRef [] ps = none) := Lib.hid (by rw [hr1, hn, hw]; rfl)
    rw [hn] at cN
    rw [hw] at cW
    have HN := Lib.hid cN
    have HW := Lib.hid cW
    clear hr1 cN cW hn hw
    go_wp2_with (first | (go_at_call 279; refine (HC.out _).mono ?_; rintro e w2 ⟨rfl, hb2⟩) | (go_at_call 53; refine (HN.out _).mono ?_; rintro e w3 ⟨rfl, hb3⟩) | (go_at_call 112; refine (HW.out _).mono ?_; rintro e w4 ⟨rfl, hb4⟩))
    rw [← HV.out, HN0.out]
    exact PairsPost.none_ belB
   ·have hr2 : qRef [] ps = qRef (putB acc (toB ka, toB va)) (ps.drop (k + 1)) := by rw [hr1, hn, hw]; rfl
    have hln := putB_len acc (toB ka, toB va)
    rw [hml] at hln
    have cP := fun W h => rPut_any A' m c' acc (toB ka) (toB va) W h (by omega)
    rw [hn] at cN
    rw [hw] at cW
    have HN := Lib.hid cN
    have HW := Lib.hid cW
    have HP := Lib.hid cP
    have HK2 := Lib.hid hr2
    clear hr1 cN cW hn hw cP hr2
    generalize putB acc (toB ka, toB va) = acc2 at *
    go_wp2_with (first | (go_at_call 279; refine (HC.out _).mono ?_; rintro e w2 ⟨rfl, hb2⟩) | (go_at_call 53; refine (HN.out _).mono ?_; rintro e w3 ⟨rfl, hb3⟩) | (go_at_call 112; refine (HW.out _).mono ?_; rintro e w4 ⟨rfl, hb4⟩) | (go_at_call 308; refine (HP.out _ (HA.out.keep belB)).mono ?_; rintro e w5 ⟨A2, c2, rfl, hR2, hA2, hb5⟩))
    exact ⟨⟨k + 1, acc2.length, acc2, A2, c2, ⟨by go_num, rfl, by omega, by omega⟩, Lib.hid ⟨HK2.out, rfl⟩, Lib.hid hR2, fun a ha => by have := hA2 a ha; have := hb1.size; have := hbr.size; have := hb2.size; have := hb3.size; have := hb4.size; omega, belB⟩, by simp [intOf]; omega⟩
  ·obtain rfl : k = ps.length := by omega
   have hfin : qRef [] ps = some acc := by rw [HK.out.1, List.drop_eq_nil_of_le (Nat.le_refl _), qRef]
   have HF := Lib.hid hfin
   have hml := HK.out.2
   clear hfin HK
   go_wp2
   rw [← HV.out, HF.out]
   exact PairsPost.some2 hml belB HA.out hAb
end Go.Proofs.YtjhlpkhfdghngaaGreatDoor
namespace Go.Proofs.YtjhlpkhfdghngaaGreatDoor
open Go.RowKit Go.Sort
set_option linter.unusedVariables false
set_option linter.unusedSimpArgs false
set_option maxRecDepth 100000
theorem all_take {α : Type} {p : α → Bool} {l : List α} {k : Nat} {x : α} (h : (l.take k).all p = true) (hx : l[k]? = some x) (hp : p x = true) : (l.take (k + 1)).all p = true := by
 rw [List.take_add_one, hx]
 simp [h, hp]
theorem all_false {α : Type} {p : α → Bool} {l : List α} {k : Nat} {x : α} (hx : l[k]? = some x) (hp : p x = false) : l.all p = false := by
 rw [List.all_eq_false]
 exact ⟨x, List.mem_of_getElem? hx, by rw [hp]; decide⟩
end Go.Proofs.YtjhlpkhfdghngaaGreatDoor
namespace Go.Proofs.YtjhlpkhfdghngaaGreatDoor
open Go.RowKit Go.Sort
set_option linter.unusedVariables false
set_option linter.unusedSimpArgs false
set_option maxRecDepth 100000
set_option maxHeartbeats 4000000 in
theorem rFormed_any (c : ByteArray) (P Q : Option Addr) (np cp nq cq : Nat) (xs : List ByteArray) (qs : List (ByteArray × ByteArray)) (w : World)
  (hP : Reads w 1 P np (xs.map .string)) (hQ : Reads w 2 Q nq (pairCells qs)) (htot : (W06 c xs qs).length ≤ 1000000000) :
  Calls Tryz.prog 283 #[.agg #[.string c, .slice P np cp, .slice Q nq cq]] w (Ret w (.bool (formedB c xs qs))) := by
 have hnp : xs.length = np := by have := hP.1; simp at this; omega
 have hnq : qs.length = nq := by have := hQ.1; rw [pairCells_length] at this; omega
 have hc0 : c.size ≤ 1000000000 := by have := W06_c c xs qs; omega
 have hxs : ∀ x ∈ xs, x.size ≤ 1000000000 := fun x hx => by have := W06_x c xs qs x hx; omega
 have hqs : ∀ q ∈ qs, q.1.size ≤ 1000000000 ∧ q.2.size ≤ 1000000000 := fun q hq => by have := W06_q c xs qs q hq; omega
 have c1 := fun W => rName_any c W (by omega)
 have cX := fun W h1 h2 => rText_any c P Q np cp nq cq xs qs W h1 h2 htot
 have hv : formedB c xs qs = ((isNameB c && decide (np ≤ 32) && decide (nq ≤ 16) && xs.all isWordB) && (List.range nq).all (pairK qs) && decide ((W06 c xs qs).length ≤ 4096)) := by rw [← hnp, ← hnq]; rfl
 obtain ⟨V, hV⟩ : ∃ V, V = formedB c xs qs := ⟨_, rfl⟩
 rw [← hV] at hv ⊢
 have hXz : (toB (W06 c xs qs)).size = (W06 c xs qs).length := rfl
 have HP := Lib.hid hP; have HQ := Lib.hid hQ; have HXS := Lib.hid hxs; have HQS := Lib.hid hqs; have H1 := Lib.hid c1; have HX := Lib.hid cX; have HNP := Lib.hid hnp; have HNQ := Lib.hid hnq
 clear hP hQ htot hxs hqs c1 cX hnp hnq hV
 generalize toB (W06 c xs qs) = T at *
 cases h1 : isNameB c
 ·obtain rfl : V = false := by rw [hv, h1]; simp
  rw [h1] at H1
  clear hv h1
  go_enter Tryz.func283, Tryz.ntmps283
  go_wp2_with (go_at_call 53; refine (H1.out _).mono ?_; rintro e w1 ⟨rfl, hb1⟩; have hX1 : Boxed3 w1 w.heap.size c P np cp Q nq cq := Blk.keep (World.alloc_heap_new _ _) hb1; have x1 : w1.cell? ⟨w.heap.size, 1, none⟩ = some (.slice P np cp) := Blk.cell hX1 1; have x2 : w1.cell? ⟨w.heap.size, 2, none⟩ = some (.slice Q nq cq) := Blk.cell hX1 2)
  go_ret
  exact ⟨rfl, belB⟩
 rw [h1] at H1
 by_cases h2 : np ≤ 32
 rotate_left
 ·obtain rfl : V = false := by rw [hv, h1]; simp [h2]
  have d1 : decide ((32 : Int) < (np : Int)) = true := decide_eq_true (by omega)
  clear hv h1
  go_enter Tryz.func283, Tryz.ntmps283
  go_wp2_with (go_at_call 53; refine (H1.out _).mono ?_; rintro e w1 ⟨rfl, hb1⟩; have hX1 : Boxed3 w1 w.heap.size c P np cp Q nq cq := Blk.keep (World.alloc_heap_new _ _) hb1; have x1 : w1.cell? ⟨w.heap.size, 1, none⟩ = some (.slice P np cp) := Blk.cell hX1 1; have x2 : w1.cell? ⟨w.heap.size, 2, none⟩ = some (.slice Q nq cq) := Blk.cell hX1 2)
  go_ret
  exact ⟨rfl, belB⟩
 have d1 : decide ((32 : Int) < (np : Int)) = false := decide_eq_false (by omega)
 by_cases h3 : nq ≤ 16
 rotate_left
 ·obtain rfl : V = false := by rw [hv, h1]; simp [h3]
  have d2 : decide ((16 : Int) < (nq : Int)) = true := decide_eq_true (by omega)
  clear hv h1
  go_enter Tryz.func283, Tryz.ntmps283
  go_wp2_with (go_at_call 53; refine (H1.out _).mono ?_; rintro e w1 ⟨rfl, hb1⟩; have hX1 : Boxed3 w1 w.heap.size c P np cp Q nq cq := Blk.keep (World.alloc_heap_new _ _) hb1; have x1 : w1.cell? ⟨w.heap.size, 1, none⟩ = some (.slice P np cp) := Blk.cell hX1 1; have x2 : w1.cell? ⟨w.heap.size, 2, none⟩ = some (.slice Q nq cq) := Blk.cell hX1 2)
  go_ret
  exact ⟨rfl, belB⟩
 have d2 : decide ((16 : Int) < (nq : Int)) = false := decide_eq_false (by omega)
 have hv2 : V = (xs.all isWordB && (List.range nq).all (pairK qs) && decide (T.size ≤ 4096)) := by rw [hv, h1, hXz]; simp [h2, h3]
 have HV := Lib.hid hv2
 clear hv hv2 h1 hXz
 go_enter Tryz.func283, Tryz.ntmps283
 go_wp2_with (go_at_call 53; refine (H1.out _).mono ?_; rintro e w1 ⟨rfl, hb1⟩; have hX1 : Boxed3 w1 w.heap.size c P np cp Q nq cq := Blk.keep (World.alloc_heap_new _ _) hb1; have x1 : w1.cell? ⟨w.heap.size, 1, none⟩ = some (.slice P np cp) := Blk.cell hX1 1; have x2 : w1.cell? ⟨w.heap.size, 2, none⟩ = some (.slice Q nq cq) := Blk.cell hX1 2)
 have hbw1 : Below w.heap.size w w1 := belB
 clear x1 x2 hb1
 go_loopw [3] (fun vi wr => ∃ k : Nat, vi = .int .i64 k ∧ k ≤ np ∧ Hid ((xs.take k).all isWordB = true) ∧ Boxed3 wr w.heap.size c P np cp Q nq cq ∧ Below w.heap.size w wr) (fun i _ => np - (intOf i).toNat)
 case atStart => exact ⟨0, rfl, Nat.zero_le _, Lib.hid (by simp), hX1, hbw1⟩
 case round =>
  clear hX1 hbw1
  obtain ⟨k, rfl, hk, HK, hX, hbr⟩ := hrel
  have x1 : wr.cell? ⟨w.heap.size, 1, none⟩ = some (.slice P np cp) := Blk.cell hX 1
  have x2 : wr.cell? ⟨w.heap.size, 2, none⟩ = some (.slice Q nq cq) := Blk.cell hX 2
  by_cases hlt : k < np
  ·obtain ⟨x, hx⟩ : ∃ x, xs[k]? = some x := ⟨_, List.getElem?_eq_getElem (by have := HNP.out; omega)⟩
   obtain ⟨b, o, rfl, hcell⟩ := (HP.out.keep hbr).2 (by omega)
   have hc1 : wr.cell? ⟨b, o + k, none⟩ = some (.string x) := hcell k _ (by simp [hx])
   have hxs := HXS.out x (List.mem_of_getElem? hx)
   have cW := fun W => rWord_any x W (by omega)
   have hk0 : (0 : Int) ≤ (k : Int) := by omega
   have hk1 : (k : Int) < (np : Int) := by omega
   cases hw : isWordB x
   ·obtain rfl : V = false := by rw [HV.out, all_false hx hw]; rfl
    rw [hw] at cW
    have HW := Lib.hid cW
    clear cW hw hcell hx HK
    go_wp2_with (go_at_call 112; refine (HW.out _).mono ?_; rintro e w2 ⟨rfl, hb2⟩)
    go_ret
    exact ⟨rfl, belB⟩
   ·have HK2 : Hid ((xs.take (k + 1)).all isWordB = true) := Lib.hid (all_take HK.out hx hw)
    rw [hw] at cW
    have HW := Lib.hid cW
    clear cW hw hcell hx HK
    go_wp2_with (go_at_call 112; refine (HW.out _).mono ?_; rintro e w2 ⟨rfl, hb2⟩)
    exact ⟨⟨k + 1, by go_num, by omega, HK2, Blk.keep hX belB, belB⟩, by simp [intOf]; omega⟩
  ·obtain rfl : k = np := by omega
   have hall : xs.all isWordB = true := by
    have := HK.out
    rwa [List.take_of_length_le (by have := HNP.out; omega)] at this
   have hv3 : V = ((List.range nq).all (pairK qs) && decide (T.size ≤ 4096)) := by rw [HV.out, hall, Bool.true_and]
   have HV2 := Lib.hid hv3
   clear hall hv3 HK HV
   go_wp2
   clear x1 x2
   obtain ⟨wo, rfl⟩ : ∃ wo : World, wo = wr := ⟨_, rfl⟩
   go_loopw [4] (fun vi wz => ∃ j : Nat, vi = .int .i64 j ∧ j ≤ nq ∧ Hid ((List.range j).all (pairK qs) = true) ∧ Boxed3 wz w.heap.size c P k cp Q nq cq ∧ Below w.heap.size w wz) (fun i _ => nq - (intOf i).toNat)
   case atStart => exact ⟨0, rfl, Nat.zero_le _, Lib.hid (by simp), hX, hbr⟩
   case round =>
    clear hX hbr
    obtain ⟨j, rfl, hj, HJ, hX, hbr⟩ := hrel
    have x1 : wr.cell? ⟨w.heap.size, 1, none⟩ = some (.slice P k cp) := Blk.cell hX 1
    have x2 : wr.cell? ⟨w.heap.size, 2, none⟩ = some (.slice Q nq cq) := Blk.cell hX 2
    have x0 : wr.cell? ⟨w.heap.size, 0, none⟩ = some (.string c) := Blk.cell hX 0
    by_cases hlt2 : j < nq
    ·have hQr := HQ.out.keep hbr
     obtain ⟨pb, po, rfl, hcell⟩ := hQr.2 (by omega)
     clear hQr
     have hql : j < qs.length := by have := HNQ.out; omega
     obtain ⟨q, hq⟩ : ∃ q, qs[j]? = some q := ⟨_, List.getElem?_eq_getElem hql⟩
     obtain ⟨e1, e2⟩ := pairCells_at qs j q hq
     have hc1 : wr.cell? ⟨pb, po + j * 2, none⟩ = _ := hcell _ _ e1
     have hc2 : wr.cell? ⟨pb, po + j * 2 + 1, none⟩ = _ := hcell _ _ e2
     have hsz := HQS.out q (List.mem_of_getElem? hq)
     have cN := fun W => rName_any q.1 W (by omega)
     have cV := fun W => rWord_any q.2 W (by omega)
     have hpk : pairK qs j = (isNameB q.1 && isWordB q.2 && (j == 0 || !(Op.bytesLess q.1.toList ((qs[j - 1]?.getD (⟨#[]⟩, ⟨#[]⟩)).1).toList || q.1.toList == ((qs[j - 1]?.getD (⟨#[]⟩, ⟨#[]⟩)).1).toList))) := by simp [pairK, hq]
     obtain ⟨q1, q2⟩ := q
     dsimp only at hc1 hc2 hsz cN cV hpk
     have hj0 : (0 : Int) ≤ (j : Int) := by omega
     have hj1 : (j : Int) < (nq : Int) := by omega
     have HC := Lib.hid hcell; have HK := Lib.hid hpk
     clear hcell e1 e2 hq hpk hql
     have hfalse : pairK qs j = false → V = false := by
      intro hf
      have hall : (List.range nq).all (pairK qs) = false := by
       rw [List.all_eq_false]
       exact ⟨j, by simpa using hlt2, by rw [hf]; simp⟩
      rw [HV2.out, hall]
      rfl
     have htrue : pairK qs j = true → (List.range (j + 1)).all (pairK qs) = true := by
      intro ht
      rw [List.range_succ, List.all_append, HJ.out]
      simp [ht]
     have HF := Lib.hid hfalse; have HTr := Lib.hid htrue
     clear hfalse htrue
     cases h1 : isNameB q1
     ·have hv := HF.out (by rw [HK.out, h1]; simp)
      subst hv
      rw [h1] at cN
      have HN := Lib.hid cN
      clear cN cV h1
      go_wp2_with fail
      have k1 := cell_regrown hc1; have k2 := cell_regrown hc2; have k3 := cell_regrown x2
      refine wp_region_quiet_below (by kernel_rfl) (by kernel_rfl) ?_; (repeat (any_goals (first | go_big_quiet_step ((first | exact qcalls HN.out _ _)) | quiet_step ((first | exact qcalls HN.out _ _))))); refine wpQuiet_nil ?_; intro _ hwq; obtain ⟨⟨dq, osq⟩, hwq⟩ := hwq; subst hwq; have hb3 := below_regrown (wr) dq osq; generalize grow (redrawn (wr) dq) osq = w3 at *
      go_wp2
      go_ret
      exact ⟨rfl, belB⟩
     cases h2 : isWordB q2
     ·have hv := HF.out (by rw [HK.out, h2]; simp)
      subst hv
      rw [h1] at cN
      rw [h2] at cV
      have HN := Lib.hid cN; have HW := Lib.hid cV
      clear cN cV h1 h2
      go_wp2_with fail
      have k1 := cell_regrown hc1; have k2 := cell_regrown hc2; have k3 := cell_regrown x2
      refine wp_region_quiet_below (by kernel_rfl) (by kernel_rfl) ?_; (repeat (any_goals (first | go_big_quiet_step ((first | exact qcalls HN.out _ _ | exact qcalls HW.out _ _)) | quiet_step ((first | exact qcalls HN.out _ _ | exact qcalls HW.out _ _))))); refine wpQuiet_nil ?_; intro _ hwq; obtain ⟨⟨dq, osq⟩, hwq⟩ := hwq; subst hwq; have hb3 := below_regrown (wr) dq osq; generalize grow (redrawn (wr) dq) osq = w3 at *
      go_wp2
      go_ret
      exact ⟨rfl, belB⟩
     rw [h1] at cN
     rw [h2] at cV
     have HN := Lib.hid cN; have HW := Lib.hid cV
     clear cN cV
     rcases j with _ | j
     ·have hok := HTr.out (by rw [HK.out, h1, h2]; simp)
      have HO := Lib.hid hok
      have hc1' : wr.cell? ⟨pb, po, none⟩ = some (.string q1) := by simpa using hc1
      have hc2' : wr.cell? ⟨pb, po + 1, none⟩ = some (.string q2) := by simpa using hc2
      clear hok h1 h2 hc1 hc2
      go_wp2_with fail
      have k1 := cell_regrown hc1'; have k2 := cell_regrown hc2'; have k3 := cell_regrown x2
      refine wp_region_quiet_below (by kernel_rfl) (by kernel_rfl) ?_; (repeat (any_goals (first | go_big_quiet_step ((first | exact qcalls HN.out _ _ | exact qcalls HW.out _ _)) | quiet_step ((first | exact qcalls HN.out _ _ | exact qcalls HW.out _ _))))); refine wpQuiet_nil ?_; intro _ hwq; obtain ⟨⟨dq, osq⟩, hwq⟩ := hwq; subst hwq; have hb3 := below_regrown (wr) dq osq; generalize grow (redrawn (wr) dq) osq = w3 at *
      go_wp2
      exact ⟨⟨1, by go_num, by omega, HO, Blk.keep hX belB, belB⟩, by simp [intOf]; omega⟩
     ·obtain ⟨q0, hq0⟩ : ∃ q, qs[j]? = some q := ⟨_, List.getElem?_eq_getElem (by have := HNQ.out; omega)⟩
      have hg : (qs[j + 1 - 1]?.getD (⟨#[]⟩, ⟨#[]⟩)).1 = q0.1 := by rw [Nat.add_sub_cancel, hq0]; rfl
      have hc4 : wr.cell? ⟨pb, po + j * 2, none⟩ = _ := HC.out _ _ (pairCells_at qs j q0 hq0).1
      have hsz0 := (HQS.out q0 (List.mem_of_getElem? hq0)).1
      obtain ⟨q0, v0⟩ := q0
      dsimp only at hc4 hg hsz0
      have hpk := HK.out
      rw [hg, h1, h2] at hpk
      clear HK hg hq0 h1 h2
      obtain ⟨t, ht⟩ : ∃ t, (Op.bytesLess q1.toList q0.toList || q1.toList == q0.toList) = t := ⟨_, rfl⟩
      rw [ht] at hpk
      cases t
      ·have HO := Lib.hid (HTr.out (by rw [hpk]; simp))
       clear hpk HF HTr
       go_wp2_with fail
       have k1 := cell_regrown hc1; have k2 := cell_regrown hc2; have k3 := cell_regrown x2; have k4 := cell_regrown hc4
       refine wp_region_quiet_below (by kernel_rfl) (by kernel_rfl) ?_; (repeat (any_goals (first | go_big_quiet_step ((first | exact qcalls HN.out _ _ | exact qcalls HW.out _ _)) | quiet_step ((first | exact qcalls HN.out _ _ | exact qcalls HW.out _ _))))); refine wpQuiet_nil ?_; intro _ hwq; obtain ⟨⟨dq, osq⟩, hwq⟩ := hwq; subst hwq; have hb3 := below_regrown (wr) dq osq; generalize grow (redrawn (wr) dq) osq = w3 at *
       go_wp2
       exact ⟨⟨j + 1 + 1, by go_num, by omega, HO, Blk.keep hX belB, belB⟩, by simp [intOf]; omega⟩
      ·have hv := HF.out (by rw [hpk]; simp)
       subst hv
       clear hpk HF HTr
       go_wp2_with fail
       have k1 := cell_regrown hc1; have k2 := cell_regrown hc2; have k3 := cell_regrown x2; have k4 := cell_regrown hc4
       refine wp_region_quiet_below (by kernel_rfl) (by kernel_rfl) ?_; (repeat (any_goals (first | go_big_quiet_step ((first | exact qcalls HN.out _ _ | exact qcalls HW.out _ _)) | quiet_step ((first | exact qcalls HN.out _ _ | exact qcalls HW.out _ _))))); refine wpQuiet_nil ?_; intro _ hwq; obtain ⟨⟨dq, osq⟩, hwq⟩ := hwq; subst hwq; have hb3 := below_regrown (wr) dq osq; generalize grow (redrawn (wr) dq) osq = w3 at *
       go_wp2
       go_ret
       exact ⟨rfl, belB⟩
    ·obtain rfl : j = nq := by omega
     have hv := HV2.out
     rw [HJ.out, Bool.true_and] at hv
     by_cases hl : T.size ≤ 4096
     ·rw [decide_eq_true hl] at hv
      subst hv
      have d3 : decide ((T.size : Int) ≤ 4096) = true := decide_eq_true (by omega)
      go_wp2_with (go_at_call 284; refine (HX.out _ (HP.out.keep belB) (HQ.out.keep belB)).mono ?_; rintro e w3 ⟨rfl, hb3⟩)
      go_ret
      exact ⟨rfl, belB⟩
     ·rw [decide_eq_false hl] at hv
      subst hv
      have d3 : decide ((T.size : Int) ≤ 4096) = false := decide_eq_false (by omega)
      go_wp2_with (go_at_call 284; refine (HX.out _ (HP.out.keep belB) (HQ.out.keep belB)).mono ?_; rintro e w3 ⟨rfl, hb3⟩)
      go_ret
      exact ⟨rfl, belB⟩
def textR (c : ByteArray) (xs : List ByteArray) (qs : List (ByteArray × ByteArray)) : ByteArray × Int := if formedB c xs qs then (toB (W06 c xs qs), 0) else (⟨#[]⟩, 1)
theorem box2 (w : World) (a b : Obj) : ((w.alloc a).alloc b).heap[w.heap.size]? = some a ∧ ((w.alloc a).alloc b).heap[w.heap.size + 1]? = some b := by
 refine ⟨(Below.heap_alloc _ _ _ (by simp)).trans (World.alloc_heap_new w a), ?_⟩
 have := World.alloc_heap_new (w.alloc a) b
 rw [World.size_alloc] at this
 exact this
set_option maxHeartbeats 4000000 in
theorem rText2_any (c : ByteArray) (P Q : Option Addr) (np cp nq cq : Nat) (xs : List ByteArray) (qs : List (ByteArray × ByteArray)) (w : World)
  (hP : Reads w 1 P np (xs.map .string)) (hQ : Reads w 2 Q nq (pairCells qs)) (htot : (W06 c xs qs).length ≤ 1000000000) :
  Calls Tryz.prog 229 #[.agg #[.string c, .slice P np cp, .slice Q nq cq]] w (Ret w (.agg #[.string (textR c xs qs).1, .int .i64 (textR c xs qs).2])) := by
 have cF := fun W h1 h2 => rFormed_any c P Q np cp nq cq xs qs W h1 h2 htot
 have cX := fun W h1 h2 => rText_any c P Q np cp nq cq xs qs W h1 h2 htot
 have HP := Lib.hid hP; have HQ := Lib.hid hQ; have HX := Lib.hid cX
 clear hP hQ htot cX
 unfold textR
 generalize toB (W06 c xs qs) = T at *
 generalize formedB c xs qs = b at *
 have HF := Lib.hid cF
 clear cF
 cases b
 ·go_enter Tryz.func229, Tryz.ntmps229
  go_wp2_with (go_at_call 283; refine (HF.out _ (HP.out.keep belB) (HQ.out.keep belB)).mono ?_; rintro e w1 ⟨rfl, hb1⟩; have hA1 : Boxed3 w1 w.heap.size c P np cp Q nq cq := (hb1.block w.heap.size (by simp; omega)).trans (box2 _ _ _).1; have hX1 : ResBox w1 (w.heap.size + 1) ⟨#[]⟩ 0 := (hb1.block (w.heap.size + 1) (by simp)).trans (box2 _ _ _).2; have a0 : w1.cell? ⟨w.heap.size, 0, none⟩ = some (.string c) := Blk.cell hA1 0; have a1 : w1.cell? ⟨w.heap.size, 1, none⟩ = some (.slice P np cp) := Blk.cell hA1 1; have a2 : w1.cell? ⟨w.heap.size, 2, none⟩ = some (.slice Q nq cq) := Blk.cell hA1 2; obtain ⟨x0, x1, f0, f1⟩ := hX1.facts; have hz1 : w.heap.size + 1 < w1.heap.size := Blk.lt hX1)
  exact bodyPost_ret (v := .agg #[.string ⟨#[]⟩, .int .i64 1]) (by simp [results, Tryz.results229, go_sem, hz1, x0, x1, f0, f1]) rfl ⟨rfl, belB⟩
 ·go_enter Tryz.func229, Tryz.ntmps229
  go_wp2_with (first | (go_at_call 283; refine (HF.out _ (HP.out.keep belB) (HQ.out.keep belB)).mono ?_; rintro e w1 ⟨rfl, hb1⟩; have hA1 : Boxed3 w1 w.heap.size c P np cp Q nq cq := (hb1.block w.heap.size (by simp; omega)).trans (box2 _ _ _).1; have hX1 : ResBox w1 (w.heap.size + 1) ⟨#[]⟩ 0 := (hb1.block (w.heap.size + 1) (by simp)).trans (box2 _ _ _).2; have a0 : w1.cell? ⟨w.heap.size, 0, none⟩ = some (.string c) := Blk.cell hA1 0; have a1 : w1.cell? ⟨w.heap.size, 1, none⟩ = some (.slice P np cp) := Blk.cell hA1 1; have a2 : w1.cell? ⟨w.heap.size, 2, none⟩ = some (.slice Q nq cq) := Blk.cell hA1 2; obtain ⟨x0, x1, f0, f1⟩ := hX1.facts; have hz1 : w.heap.size + 1 < w1.heap.size := Blk.lt hX1) | (go_at_call 284; refine (HX.out _ (HP.out.keep belB) (HQ.out.keep belB)).mono ?_; rintro e w2 ⟨rfl, hb2⟩; have hX2 : ResBox w2 (w.heap.size + 1) ⟨#[]⟩ 0 := Blk.keep hX1 hb2; obtain ⟨y0, y1, g0, g1⟩ := hX2.facts; have hz2 : w.heap.size + 1 < w2.heap.size := Blk.lt hX2))
  exact bodyPost_ret (v := .agg #[.string T, .int .i64 0]) (by simp [results, Tryz.results229, go_sem, hz2, y0, y1, g0, g1]) rfl ⟨rfl, belB⟩
end Go.Proofs.YtjhlpkhfdghngaaGreatDoor
namespace Go.Proofs.YtjhlpkhfdghngaaGreatDoor
open Go.RowKit Go.Sort
set_option linter.unusedVariables false
set_option linter.unusedSimpArgs false
set_option maxRecDepth 100000
def RReadPost (r : Adr × Int) (w : World) (e : Ending) (w' : World) : Prop :=
 Below w.heap.size w w' ∧ ∃ A ca B cb, e = .returned (.agg #[.string r.1.cust, .slice A r.1.path.length ca, .slice B r.1.query.length cb, .int .i64 r.2]) ∧ Reads w' 1 A r.1.path.length (r.1.path.map .string) ∧ Reads w' 2 B r.1.query.length (pairCells r.1.query)
theorem RReadPost.err {w w' : World} {er : Int} (hb : Below w.heap.size w w') : RReadPost (noAdr, er) w (.returned (.agg #[.string ⟨#[]⟩, .slice none 0 0, .slice none 0 0, .int .i64 er])) w' := ⟨hb, none, 0, none, 0, rfl, Reads.nil_ _ _ _, Reads.nil_ _ _ _⟩
theorem reads_tail {w : World} {b o n c : Nat} {x : Value} {vs : List Value} (h : Reads w 1 (some ⟨b, o, none⟩) (n + 1) (x :: vs)) (A' : Option Addr) (hA : c ≠ 1 → A' = some ⟨b, o + 1, none⟩) (hc : n + 1 ≤ c) : Reads w 1 A' n vs := by
 refine ⟨by have := h.1; simp at this ⊢; omega, fun hn => ?_⟩
 obtain ⟨b2, o2, e, hcell⟩ := h.2 (by omega)
 injection e with e
 injection e with e1 e2
 subst e1; subst e2
 refine ⟨b, o + 1, hA (by omega), fun j u hu => ?_⟩
 have := hcell (j + 1) u (by simpa using hu)
 rwa [show o + 1 + j = o + (j + 1) by omega]
set_option maxHeartbeats 4000000 in
theorem rParse_core (s Lb L Q T C : ByteArray) (r : List ByteArray) (b1 nm : Bool) (rr : Option (List ByteArray)) (qq : Option (List (ByteArray × ByteArray))) (w : World) (hs : s.size ≤ 4096) (hL : L.size ≤ 100000)
  (hsel : (L.size = 0 ∧ T = L) ∨ (∃ j, ∃ hj : j < L.size, L.size = j + 1 ∧ (L[j].toNat == 47) = false ∧ T = L) ∨ (∃ j, ∃ hj : j < L.size, L.size = j + 1 ∧ (L[j].toNat == 47) = true ∧ T = L.extract 0 j))
  (hrl : r.length ≤ 1000000)
  (HL : Hid (∀ W, Calls Tryz.prog 280 #[.string s] W (Ret W (.string Lb))))
  (HC : Hid (∀ W, Calls Tryz.prog 279 #[.string Lb, .int .u8 63] W (Ret W (.tuple #[.string L, .string Q, .bool b1]))))
  (HS0 : Hid (∀ W, Calls Tryz.prog 178 #[.string T, .int .u8 47] W (OwnPost (C :: r) W)))
  (HN : Hid (∀ W, Calls Tryz.prog 53 #[.string C] W (Ret W (.bool nm))))
  (HP0 : Hid (∀ A c W, Reads W 1 A r.length (r.map .string) → Calls Tryz.prog 281 #[.slice A r.length c] W (RPathPost rr W)))
  (HQ : Hid (∀ W, Calls Tryz.prog 282 #[.string Q] W (PairsPost qq W))) :
  Calls Tryz.prog 228 #[.string s] w (RReadPost (adrOf C nm rr qq) w) := by
 obtain ⟨ps, np, o1, hps, hnp, ho1⟩ : ∃ ps np o1, ps = rr.getD [] ∧ np = (rr.getD []).length ∧ o1 = rr.isSome := ⟨_, _, _, rfl, rfl, rfl⟩
 obtain ⟨qs, nq, o2, hqs, hnq, ho2⟩ : ∃ qs nq o2, qs = qq.getD [] ∧ nq = (qq.getD []).length ∧ o2 = qq.isSome := ⟨_, _, _, rfl, rfl, rfl⟩
 have HPs : Hid (∀ X e w', RPathPost rr X e w' → Below X.heap.size X w' ∧ ∃ A c, e = .returned (.tuple #[.slice A np c, .bool o1]) ∧ Reads w' 1 A np (ps.map .string) ∧ (∀ a, A = some a → X.heap.size ≤ a.block)) := Lib.hid (fun X e w' h => by rw [hps, hnp, ho1]; exact h.some_)
 have HQs : Hid (∀ X e w', PairsPost qq X e w' → Below X.heap.size X w' ∧ ∃ A c, e = .returned (.tuple #[.slice A nq c, .bool o2]) ∧ Reads w' 2 A nq (pairCells qs) ∧ ∀ a, A = some a → X.heap.size ≤ a.block) := Lib.hid (fun X e w' h => by rw [hqs, hnq, ho2]; exact h.some_)
 have hv : adrOf C nm rr qq = if nm && o1 && o2 then (if np ≤ 32 ∧ nq ≤ 16 then (⟨C, ps, qs⟩, 0) else (noAdr, 2)) else (noAdr, 3) := by
  rw [hps, hnp, ho1, hqs, hnq, ho2]
  cases nm <;> cases rr <;> cases qq <;> simp [adrOf]
 rw [hv]
 have HPL : Hid (ps.length = np) := Lib.hid (by rw [hps, hnp])
 have HQL : Hid (qs.length = nq) := Lib.hid (by rw [hqs, hnq])
 clear hv hps hnp ho1 hqs hnq ho2
 obtain ⟨m, hm⟩ : ∃ m, m = r.length := ⟨_, rfl⟩
 have HS : Hid (∀ W, Calls Tryz.prog 178 #[.string T, .int .u8 47] W (fun e w' => ∃ A c, e = .returned (.slice A (m + 1) c) ∧ w'.ownsRow W.heap.size 9 1 (.slice A (m + 1) c) (m + 1) ((C :: r).map .string) ∧ Below W.heap.size W w')) := Lib.hid (by rw [hm]; exact HS0.out)
 have HPT : Hid (∀ A c W, Reads W 1 A m (r.map .string) → Calls Tryz.prog 281 #[.slice A m c] W (RPathPost rr W)) := Lib.hid (by rw [hm]; exact HP0.out)
 have hm9 : m ≤ 1000000 := by omega
 clear HS0 HP0 hm hrl
 have hd : decide ((4096 : Int) < (s.size : Int)) = false := by simp; omega
 generalize hV : RReadPost (if nm && o1 && o2 then (if np ≤ 32 ∧ nq ≤ 16 then (⟨C, ps, qs⟩, 0) else (noAdr, 2)) else (noAdr, 3)) w = V
 have HV := Lib.hid hV
 have HSEL := Lib.hid hsel
 clear hV hsel
 go_enter Tryz.func228, Tryz.ntmps228
 obtain ⟨t, ht⟩ : ∃ t, (t = false ∧ T = L) ∨ (t = true ∧ ∃ j, L.size = j + 1 ∧ T = L.extract 0 j) := by
  rcases HSEL.out with ⟨h0, h⟩ | ⟨j, hj, h0, hb47, h⟩ | ⟨j, hj, h0, hb47, h⟩
  ·exact ⟨false, .inl ⟨rfl, h⟩⟩
  ·exact ⟨false, .inl ⟨rfl, h⟩⟩
  ·exact ⟨true, .inr ⟨rfl, j, h0, h⟩⟩
 have HT := Lib.hid ht
 have hsel2 : (L.size = 0 ∧ t = false) ∨ ∃ j, ∃ hj : j < L.size, L.size = j + 1 ∧ (L[j].toNat == 47) = t := by
  rcases HSEL.out with ⟨h0, h⟩ | ⟨j, hj, h0, hb47, h⟩ | ⟨j, hj, h0, hb47, h⟩
  ·refine .inl ⟨h0, ?_⟩
   rcases ht with ⟨h, _⟩ | ⟨_, j, h, _⟩
   ·exact h
   ·omega
  ·refine .inr ⟨j, hj, h0, ?_⟩
   rcases ht with ⟨h1, _⟩ | ⟨_, k, h1, h2⟩
   ·rw [h1, hb47]
   ·rw [h] at h2
    have := congrArg ByteArray.size h2
    rw [ByteArray.size_extract] at this
    omega
  ·refine .inr ⟨j, hj, h0, ?_⟩
   rcases ht with ⟨_, h2⟩ | ⟨h1, _⟩
   ·rw [h] at h2
    have := congrArg ByteArray.size h2
    rw [ByteArray.size_extract] at this
    omega
   ·rw [h1, hb47]
 have HSEL2 := Lib.hid hsel2
 clear hsel2 ht HSEL
 go_upto_region 4 with (first | (go_at_call 280; refine (HL.out _).mono ?_; rintro e w1 ⟨rfl, hb1⟩; have hX1 : ReadBox w1 w.heap.size ⟨#[]⟩ none 0 0 none 0 0 0 := Blk.keep (World.alloc_heap_new _ _) hb1) | (go_at_call 279; refine (HC.out _).mono ?_; rintro e w2 ⟨rfl, hb2⟩; have hX2 : ReadBox w2 w.heap.size ⟨#[]⟩ none 0 0 none 0 0 0 := Blk.keep hX1 hb2))
 go_cut [32] (fun c wx => c = .bool t ∧ wx = w2)
 case first =>
  rcases HSEL2.out with ⟨h0, rfl⟩ | ⟨j, hj, h0, hb47⟩
  ·go_wp2_with fail
   go_meet
   exact ⟨rfl, rfl⟩
  ·have hby := byte_int L[j] 47
   rw [hb47] at hby
   have hq0 : (0 : Int) < (L.size : Int) := by omega
   have hq1 : (L.size : Int) - 1 = (j : Int) := by omega
   clear hb47
   go_wp2_with fail
   go_meet
   exact ⟨congrArg Value.bool hby, rfl⟩
 case rest =>
  obtain ⟨rfl, rfl⟩ := hcut
  go_upto_if 32 with fail
  go_cut [3] (fun c wx => c = .string T ∧ wx = wc)
  case first =>
   rcases HT.out with ⟨rfl, rfl⟩ | ⟨rfl, j, hj, rfl⟩
   ·go_wp2_with fail
    go_meet
    exact ⟨rfl, rfl⟩
   ·have hq0 : (0 : Int) ≤ (j : Int) := by omega
    have hq1 : (L.size : Int) - 1 = (j : Int) := by omega
    have hq2 : (j : Int) ≤ (L.size : Int) := by omega
    go_wp2_with fail
    go_meet
    exact ⟨rfl, rfl⟩
  case rest =>
  obtain ⟨rfl, rfl⟩ := hcut
  have hXc := hX2
  have hbc : Below w.heap.size w wc := belB
  clear hX1 hX2 hb1 hb2 HSEL2 HT
  cases nm
  ·have HV2 := HV.out
   simp only [Bool.false_and, Bool.false_eq_true, if_false] at HV2
   go_wp2_with (first | (go_at_call 178; refine (HS.out _).mono ?_; rintro e w3 ⟨A, c, rfl, hown, hb3⟩; have hX3 : ReadBox w3 w.heap.size ⟨#[]⟩ none 0 0 none 0 0 0 := Blk.keep hXc hb3; obtain ⟨pb, po, u, rfl, hu, g0⟩ := (Reads.of_own hown).at_ (k := 0) (by omega); (obtain rfl : u = .string C := (by simpa using hu.symm)); clear hu; have gg : w3.cell? ⟨pb, po, none⟩ = some (.string C) := g0; clear g0; have HR := Lib.hid (Reads.of_own hown); have hcap := ownsRow_cap hown; clear hown; have hm0 : (0 : Int) < (m : Int) + 1 := (by omega); have hm1 : (1 : Int) ≤ (m : Int) + 1 := (by omega); have hm2 : (m : Int) + 1 ≤ (c : Int) := (by omega)) | (go_at_call 53; refine (HN.out _).mono ?_; rintro e w4 ⟨rfl, hb4⟩; have hX4 : ReadBox w4 w.heap.size ⟨#[]⟩ none 0 0 none 0 0 0 := Blk.keep hX3 hb4; have gg4 := cell_keep hb4 gg; obtain ⟨x0, x1, x2, x3, f0, f1, f2, f3⟩ := hX4.facts; have hz4 : w.heap.size < w4.heap.size := Blk.lt hX4) | (go_at_call 281; refine (HPT.out _ _ _ (reads_tail ((HR.out.keep belB)) _ (fun h => (by simp [h])) hcap)).mono ?_; rintro e w5 hp5; obtain ⟨hb5, PA, Pc, rfl, hPR, hPA⟩ := HPs.out _ _ _ hp5; clear hp5; have hX5 : ReadBox w5 w.heap.size ⟨#[]⟩ none 0 0 none 0 0 0 := Blk.keep hX4 hb5; have gg5 := cell_keep hb5 gg4) | (go_at_call 282; refine (HQ.out _).mono ?_; rintro e w6 hq6; obtain ⟨hb6, QA, Qc, rfl, hQR, hQA⟩ := HQs.out _ _ _ hq6; clear hq6; have hX6 : ReadBox w6 w.heap.size ⟨#[]⟩ none 0 0 none 0 0 0 := Blk.keep hX5 hb6; have gg6 := cell_keep hb6 gg5; clear x0 x1 x2 x3 f0 f1 f2 f3; obtain ⟨x0, x1, x2, x3, f0, f1, f2, f3⟩ := hX6.facts; have hz6 : w.heap.size < w6.heap.size := Blk.lt hX6))
   all_goals (rw [← HV2]; exact bodyPost_ret (v := .agg #[.string ⟨#[]⟩, .slice none 0 0, .slice none 0 0, .int .i64 3]) (by simp [results, Tryz.results228, go_sem, hz4, x0, x1, x2, x3, f0, f1, f2, f3]) rfl (RReadPost.err belB))
  cases o1
  ·have HV2 := HV.out
   simp only [Bool.false_and, Bool.and_false, Bool.false_eq_true, if_false] at HV2
   go_wp2_with (first | (go_at_call 178; refine (HS.out _).mono ?_; rintro e w3 ⟨A, c, rfl, hown, hb3⟩; have hX3 : ReadBox w3 w.heap.size ⟨#[]⟩ none 0 0 none 0 0 0 := Blk.keep hXc hb3; obtain ⟨pb, po, u, rfl, hu, g0⟩ := (Reads.of_own hown).at_ (k := 0) (by omega); (obtain rfl : u = .string C := (by simpa using hu.symm)); clear hu; have gg : w3.cell? ⟨pb, po, none⟩ = some (.string C) := g0; clear g0; have HR := Lib.hid (Reads.of_own hown); have hcap := ownsRow_cap hown; clear hown; have hm0 : (0 : Int) < (m : Int) + 1 := (by omega); have hm1 : (1 : Int) ≤ (m : Int) + 1 := (by omega); have hm2 : (m : Int) + 1 ≤ (c : Int) := (by omega)) | (go_at_call 53; refine (HN.out _).mono ?_; rintro e w4 ⟨rfl, hb4⟩; have hX4 : ReadBox w4 w.heap.size ⟨#[]⟩ none 0 0 none 0 0 0 := Blk.keep hX3 hb4; have gg4 := cell_keep hb4 gg; obtain ⟨x0, x1, x2, x3, f0, f1, f2, f3⟩ := hX4.facts; have hz4 : w.heap.size < w4.heap.size := Blk.lt hX4) | (go_at_call 281; refine (HPT.out _ _ _ (reads_tail ((HR.out.keep belB)) _ (fun h => (by simp [h])) hcap)).mono ?_; rintro e w5 hp5; obtain ⟨hb5, PA, Pc, rfl, hPR, hPA⟩ := HPs.out _ _ _ hp5; clear hp5; have hX5 : ReadBox w5 w.heap.size ⟨#[]⟩ none 0 0 none 0 0 0 := Blk.keep hX4 hb5; have gg5 := cell_keep hb5 gg4) | (go_at_call 282; refine (HQ.out _).mono ?_; rintro e w6 hq6; obtain ⟨hb6, QA, Qc, rfl, hQR, hQA⟩ := HQs.out _ _ _ hq6; clear hq6; have hX6 : ReadBox w6 w.heap.size ⟨#[]⟩ none 0 0 none 0 0 0 := Blk.keep hX5 hb6; have gg6 := cell_keep hb6 gg5; clear x0 x1 x2 x3 f0 f1 f2 f3; obtain ⟨x0, x1, x2, x3, f0, f1, f2, f3⟩ := hX6.facts; have hz6 : w.heap.size < w6.heap.size := Blk.lt hX6))
   all_goals (rw [← HV2]; exact bodyPost_ret (v := .agg #[.string ⟨#[]⟩, .slice none 0 0, .slice none 0 0, .int .i64 3]) (by simp [results, Tryz.results228, go_sem, hz6, x0, x1, x2, x3, f0, f1, f2, f3]) rfl (RReadPost.err belB))
  cases o2
  ·have HV2 := HV.out
   simp only [Bool.false_and, Bool.and_false, Bool.false_eq_true, if_false] at HV2
   go_wp2_with (first | (go_at_call 178; refine (HS.out _).mono ?_; rintro e w3 ⟨A, c, rfl, hown, hb3⟩; have hX3 : ReadBox w3 w.heap.size ⟨#[]⟩ none 0 0 none 0 0 0 := Blk.keep hXc hb3; obtain ⟨pb, po, u, rfl, hu, g0⟩ := (Reads.of_own hown).at_ (k := 0) (by omega); (obtain rfl : u = .string C := (by simpa using hu.symm)); clear hu; have gg : w3.cell? ⟨pb, po, none⟩ = some (.string C) := g0; clear g0; have HR := Lib.hid (Reads.of_own hown); have hcap := ownsRow_cap hown; clear hown; have hm0 : (0 : Int) < (m : Int) + 1 := (by omega); have hm1 : (1 : Int) ≤ (m : Int) + 1 := (by omega); have hm2 : (m : Int) + 1 ≤ (c : Int) := (by omega)) | (go_at_call 53; refine (HN.out _).mono ?_; rintro e w4 ⟨rfl, hb4⟩; have hX4 : ReadBox w4 w.heap.size ⟨#[]⟩ none 0 0 none 0 0 0 := Blk.keep hX3 hb4; have gg4 := cell_keep hb4 gg; obtain ⟨x0, x1, x2, x3, f0, f1, f2, f3⟩ := hX4.facts; have hz4 : w.heap.size < w4.heap.size := Blk.lt hX4) | (go_at_call 281; refine (HPT.out _ _ _ (reads_tail ((HR.out.keep belB)) _ (fun h => (by simp [h])) hcap)).mono ?_; rintro e w5 hp5; obtain ⟨hb5, PA, Pc, rfl, hPR, hPA⟩ := HPs.out _ _ _ hp5; clear hp5; have hX5 : ReadBox w5 w.heap.size ⟨#[]⟩ none 0 0 none 0 0 0 := Blk.keep hX4 hb5; have gg5 := cell_keep hb5 gg4) | (go_at_call 282; refine (HQ.out _).mono ?_; rintro e w6 hq6; obtain ⟨hb6, QA, Qc, rfl, hQR, hQA⟩ := HQs.out _ _ _ hq6; clear hq6; have hX6 : ReadBox w6 w.heap.size ⟨#[]⟩ none 0 0 none 0 0 0 := Blk.keep hX5 hb6; have gg6 := cell_keep hb6 gg5; clear x0 x1 x2 x3 f0 f1 f2 f3; obtain ⟨x0, x1, x2, x3, f0, f1, f2, f3⟩ := hX6.facts; have hz6 : w.heap.size < w6.heap.size := Blk.lt hX6))
   all_goals (rw [← HV2]; exact bodyPost_ret (v := .agg #[.string ⟨#[]⟩, .slice none 0 0, .slice none 0 0, .int .i64 3]) (by simp [results, Tryz.results228, go_sem, hz6, x0, x1, x2, x3, f0, f1, f2, f3]) rfl (RReadPost.err belB))
  have HV1 := HV.out
  simp only [Bool.and_self, if_true] at HV1
  by_cases hnp : np ≤ 32
  rotate_left
  ·have HV2 := HV1
   rw [if_neg (fun h => hnp h.1)] at HV2
   have hd1 : decide ((32 : Int) < (np : Int)) = true := by simp; omega
   clear HV1
   go_wp2_with (first | (go_at_call 178; refine (HS.out _).mono ?_; rintro e w3 ⟨A, c, rfl, hown, hb3⟩; have hX3 : ReadBox w3 w.heap.size ⟨#[]⟩ none 0 0 none 0 0 0 := Blk.keep hXc hb3; obtain ⟨pb, po, u, rfl, hu, g0⟩ := (Reads.of_own hown).at_ (k := 0) (by omega); (obtain rfl : u = .string C := (by simpa using hu.symm)); clear hu; have gg : w3.cell? ⟨pb, po, none⟩ = some (.string C) := g0; clear g0; have HR := Lib.hid (Reads.of_own hown); have hcap := ownsRow_cap hown; clear hown; have hm0 : (0 : Int) < (m : Int) + 1 := (by omega); have hm1 : (1 : Int) ≤ (m : Int) + 1 := (by omega); have hm2 : (m : Int) + 1 ≤ (c : Int) := (by omega)) | (go_at_call 53; refine (HN.out _).mono ?_; rintro e w4 ⟨rfl, hb4⟩; have hX4 : ReadBox w4 w.heap.size ⟨#[]⟩ none 0 0 none 0 0 0 := Blk.keep hX3 hb4; have gg4 := cell_keep hb4 gg; obtain ⟨x0, x1, x2, x3, f0, f1, f2, f3⟩ := hX4.facts; have hz4 : w.heap.size < w4.heap.size := Blk.lt hX4) | (go_at_call 281; refine (HPT.out _ _ _ (reads_tail ((HR.out.keep belB)) _ (fun h => (by simp [h])) hcap)).mono ?_; rintro e w5 hp5; obtain ⟨hb5, PA, Pc, rfl, hPR, hPA⟩ := HPs.out _ _ _ hp5; clear hp5; have hX5 : ReadBox w5 w.heap.size ⟨#[]⟩ none 0 0 none 0 0 0 := Blk.keep hX4 hb5; have gg5 := cell_keep hb5 gg4) | (go_at_call 282; refine (HQ.out _).mono ?_; rintro e w6 hq6; obtain ⟨hb6, QA, Qc, rfl, hQR, hQA⟩ := HQs.out _ _ _ hq6; clear hq6; have hX6 : ReadBox w6 w.heap.size ⟨#[]⟩ none 0 0 none 0 0 0 := Blk.keep hX5 hb6; have gg6 := cell_keep hb6 gg5; clear x0 x1 x2 x3 f0 f1 f2 f3; obtain ⟨x0, x1, x2, x3, f0, f1, f2, f3⟩ := hX6.facts; have hz6 : w.heap.size < w6.heap.size := Blk.lt hX6))
   all_goals (rw [← HV2]; exact bodyPost_ret (v := .agg #[.string ⟨#[]⟩, .slice none 0 0, .slice none 0 0, .int .i64 2]) (by simp [results, Tryz.results228, go_sem, hz6, x0, x1, x2, x3, f0, f1, f2, f3]) rfl (RReadPost.err belB))
  have hd1 : decide ((32 : Int) < (np : Int)) = false := by simp; omega
  by_cases hnq : nq ≤ 16
  rotate_left
  ·have HV2 := HV1
   rw [if_neg (fun h => hnq h.2)] at HV2
   have hd2 : decide ((16 : Int) < (nq : Int)) = true := by simp; omega
   clear HV1
   go_wp2_with (first | (go_at_call 178; refine (HS.out _).mono ?_; rintro e w3 ⟨A, c, rfl, hown, hb3⟩; have hX3 : ReadBox w3 w.heap.size ⟨#[]⟩ none 0 0 none 0 0 0 := Blk.keep hXc hb3; obtain ⟨pb, po, u, rfl, hu, g0⟩ := (Reads.of_own hown).at_ (k := 0) (by omega); (obtain rfl : u = .string C := (by simpa using hu.symm)); clear hu; have gg : w3.cell? ⟨pb, po, none⟩ = some (.string C) := g0; clear g0; have HR := Lib.hid (Reads.of_own hown); have hcap := ownsRow_cap hown; clear hown; have hm0 : (0 : Int) < (m : Int) + 1 := (by omega); have hm1 : (1 : Int) ≤ (m : Int) + 1 := (by omega); have hm2 : (m : Int) + 1 ≤ (c : Int) := (by omega)) | (go_at_call 53; refine (HN.out _).mono ?_; rintro e w4 ⟨rfl, hb4⟩; have hX4 : ReadBox w4 w.heap.size ⟨#[]⟩ none 0 0 none 0 0 0 := Blk.keep hX3 hb4; have gg4 := cell_keep hb4 gg; obtain ⟨x0, x1, x2, x3, f0, f1, f2, f3⟩ := hX4.facts; have hz4 : w.heap.size < w4.heap.size := Blk.lt hX4) | (go_at_call 281; refine (HPT.out _ _ _ (reads_tail ((HR.out.keep belB)) _ (fun h => (by simp [h])) hcap)).mono ?_; rintro e w5 hp5; obtain ⟨hb5, PA, Pc, rfl, hPR, hPA⟩ := HPs.out _ _ _ hp5; clear hp5; have hX5 : ReadBox w5 w.heap.size ⟨#[]⟩ none 0 0 none 0 0 0 := Blk.keep hX4 hb5; have gg5 := cell_keep hb5 gg4) | (go_at_call 282; refine (HQ.out _).mono ?_; rintro e w6 hq6; obtain ⟨hb6, QA, Qc, rfl, hQR, hQA⟩ := HQs.out _ _ _ hq6; clear hq6; have hX6 : ReadBox w6 w.heap.size ⟨#[]⟩ none 0 0 none 0 0 0 := Blk.keep hX5 hb6; have gg6 := cell_keep hb6 gg5; clear x0 x1 x2 x3 f0 f1 f2 f3; obtain ⟨x0, x1, x2, x3, f0, f1, f2, f3⟩ := hX6.facts; have hz6 : w.heap.size < w6.heap.size := Blk.lt hX6))
   all_goals (rw [← HV2]; exact bodyPost_ret (v := .agg #[.string ⟨#[]⟩, .slice none 0 0, .slice none 0 0, .int .i64 2]) (by simp [results, Tryz.results228, go_sem, hz6, x0, x1, x2, x3, f0, f1, f2, f3]) rfl (RReadPost.err belB))
  have hd2 : decide ((16 : Int) < (nq : Int)) = false := by simp; omega
  have HV2 := HV1
  rw [if_pos ⟨hnp, hnq⟩] at HV2
  clear HV1
  go_wp2_with (first | (go_at_call 178; refine (HS.out _).mono ?_; rintro e w3 ⟨A, c, rfl, hown, hb3⟩; have hX3 : ReadBox w3 w.heap.size ⟨#[]⟩ none 0 0 none 0 0 0 := Blk.keep hXc hb3; obtain ⟨pb, po, u, rfl, hu, g0⟩ := (Reads.of_own hown).at_ (k := 0) (by omega); (obtain rfl : u = .string C := (by simpa using hu.symm)); clear hu; have gg : w3.cell? ⟨pb, po, none⟩ = some (.string C) := g0; clear g0; have HR := Lib.hid (Reads.of_own hown); have hcap := ownsRow_cap hown; clear hown; have hm0 : (0 : Int) < (m : Int) + 1 := (by omega); have hm1 : (1 : Int) ≤ (m : Int) + 1 := (by omega); have hm2 : (m : Int) + 1 ≤ (c : Int) := (by omega)) | (go_at_call 53; refine (HN.out _).mono ?_; rintro e w4 ⟨rfl, hb4⟩; have hX4 : ReadBox w4 w.heap.size ⟨#[]⟩ none 0 0 none 0 0 0 := Blk.keep hX3 hb4; have gg4 := cell_keep hb4 gg; obtain ⟨x0, x1, x2, x3, f0, f1, f2, f3⟩ := hX4.facts; have hz4 : w.heap.size < w4.heap.size := Blk.lt hX4) | (go_at_call 281; refine (HPT.out _ _ _ (reads_tail ((HR.out.keep belB)) _ (fun h => (by simp [h])) hcap)).mono ?_; rintro e w5 hp5; obtain ⟨hb5, PA, Pc, rfl, hPR, hPA⟩ := HPs.out _ _ _ hp5; clear hp5; have hX5 : ReadBox w5 w.heap.size ⟨#[]⟩ none 0 0 none 0 0 0 := Blk.keep hX4 hb5; have gg5 := cell_keep hb5 gg4) | (go_at_call 282; refine (HQ.out _).mono ?_; rintro e w6 hq6; obtain ⟨hb6, QA, Qc, rfl, hQR, hQA⟩ := HQs.out _ _ _ hq6; clear hq6; have hX6 : ReadBox w6 w.heap.size ⟨#[]⟩ none 0 0 none 0 0 0 := Blk.keep hX5 hb6; have gg6 := cell_keep hb6 gg5; clear x0 x1 x2 x3 f0 f1 f2 f3; obtain ⟨x0, x1, x2, x3, f0, f1, f2, f3⟩ := hX6.facts; have hz6 : w.heap.size < w6.heap.size := Blk.lt hX6))
  all_goals
   have s1 := hbc.size; have s3 := hb3.size; have s4 := hb4.size; have s5 := hb5.size
   have hzc := Blk.lt hXc
   have hA1 : ∀ a, PA = some a → a.block ≠ w.heap.size := fun a ha => by have := hPA a ha; omega
   have hB1 : ∀ a, QA = some a → a.block ≠ w.heap.size := fun a ha => by have := hQA a ha; omega
   rw [← HV2]; exact bodyPost_ret (v := .agg #[.string C, .slice PA np Pc, .slice QA nq Qc, .int .i64 0]) (by simp [results, Tryz.results228, go_sem, hz6, x0, x1, x2, x3, f0, f1, f2, f3]) rfl ⟨belB, PA, Pc, QA, Qc, by rw [HPL.out, HQL.out], by rw [HPL.out]; exact ((((hPR.keep hb6).set_ _ _ hA1).set_ _ _ hA1).set_ _ _ hA1).set_ _ _ hA1, by rw [HQL.out]; exact (((hQR.set_ _ _ hB1).set_ _ _ hB1).set_ _ _ hB1).set_ _ _ hB1⟩
theorem trim_hit (l : BL) : Lib.trimSuffix (l ++ [47]) [47] = l := by
 unfold Lib.trimSuffix
 rw [if_pos (by simp [Lib.hasSuffix])]
 simp
set_option maxHeartbeats 1000000 in
theorem stem_sel (s : ByteArray) : ((toB (leftL s).1).size = 0 ∧ stemB s = toB (leftL s).1) ∨ (∃ j, ∃ hj : j < (toB (leftL s).1).size, (toB (leftL s).1).size = j + 1 ∧ ((toB (leftL s).1)[j].toNat == 47) = false ∧ stemB s = toB (leftL s).1) ∨ (∃ j, ∃ hj : j < (toB (leftL s).1).size, (toB (leftL s).1).size = j + 1 ∧ ((toB (leftL s).1)[j].toNat == 47) = true ∧ stemB s = (toB (leftL s).1).extract 0 j) := by
 unfold stemB
 generalize (leftL s).1 = l
 rcases List.eq_nil_or_concat l with rfl | ⟨a, b, rfl⟩
 ·exact .inl ⟨rfl, rfl⟩
 ·rw [List.concat_eq_append]
  have hz : (toB (a ++ [b])).size = a.length + 1 := by rw [toB_size]; simp
  have hg : ∀ hj : a.length < (toB (a ++ [b])).size, (toB (a ++ [b]))[a.length] = b := fun hj => by
   rw [byte_at _ _ hj]
   simp [toB]
  by_cases hb : b = 47
  ·subst hb
   refine .inr (.inr ⟨a.length, by omega, hz, by rw [hg]; rfl, ?_⟩)
   rw [trim_hit]
   exact bytes_ext (by rw [Lib.extract_data]; simp [toB])
  ·refine .inr (.inl ⟨a.length, by omega, hz, ?_, ?_⟩)
   ·rw [hg, beq_eq_false_iff_ne]
    intro e
    exact hb (UInt8.toNat_inj.1 e)
   ·rw [trim_none a b hb]
theorem rParse_long (s : ByteArray) (w : World) (hs : 4096 < s.size) : Calls Tryz.prog 228 #[.string s] w (RReadPost (noAdr, 2) w) := by
 have hd : decide ((4096 : Int) < (s.size : Int)) = true := by simp; omega
 go_enter Tryz.func228, Tryz.ntmps228
 go_wp2
 exact bodyPost_ret (v := .agg #[.string ⟨#[]⟩, .slice none 0 0, .slice none 0 0, .int .i64 2]) (by simp [results, Tryz.results228, go_sem]) rfl (RReadPost.err belB)
theorem rParse_any (s : ByteArray) (w : World) (hs : s.size ≤ 4294967281) : Calls Tryz.prog 228 #[.string s] w (RReadPost (parseB s) w) := by
 by_cases h : 4096 < s.size
 ·have := rParse_long s w h
  unfold parseB
  rw [if_pos h]
  exact this
 have h1 := cut_fst_len (lowL s.data.toList) [63]
 have h2 := cut_snd_len (lowL s.data.toList) [63]
 have h3 := trim_len (leftL s).1 [47]
 have h0 := lowL_len s.data.toList
 rw [← Lib.size_eq] at h0
 obtain ⟨r, hr1, hr2⟩ := stem_split s
 have hst : (stemB s).size ≤ s.size := by show (toB (Lib.trimSuffix (leftL s).1 [47])).size ≤ _; rw [toB_size]; unfold leftL at *; omega
 have hn := splitB_num 47 (stemB s)
 have hz := splitB_size 47 (stemB s)
 rw [hr1] at hn hz
 have hC := hz (toB (custL s).1) (by simp)
 have := rParse_core s (toB (lowL s.data.toList)) (toB (leftL s).1) (toB (leftL s).2.1) (stemB s) (toB (custL s).1) r (leftL s).2.2 (isNameB (toB (custL s).1)) (pathB (custL s)) (pairsB (toB (leftL s).2.1)) w (by omega) (by rw [toB_size]; unfold leftL; omega) (stem_sel s) (by simp at hn; omega)
  (Lib.hid fun W => rSmall_any s W hs) (Lib.hid fun W => by have := rCut_any (toB (lowL s.data.toList)) 63 W (by rw [toB_size]; omega); exact this)
  (Lib.hid fun W => by have := rSplit_any (stemB s) 47 W (by omega); rw [hr1] at this; exact this) (Lib.hid fun W => rName_any _ W (by omega))
  (Lib.hid fun A c W h => by rw [hr2]; exact rPath_any A r.length c r W h (by simp at hn; omega) (fun p hp => by have := hz p (by simp [hp]); omega)) (Lib.hid fun W => rQuery_any _ W (by rw [toB_size]; unfold leftL; omega))
 unfold parseB
 rw [if_neg h]
 exact this
end Go.Proofs.YtjhlpkhfdghngaaGreatDoor
namespace Go.Proofs.YtjhlpkhfdghngaaGreatDoor
open Go.RowKit Go.Sort
set_option linter.unusedVariables false
set_option linter.unusedSimpArgs false
set_option maxRecDepth 100000
def canonR (s : ByteArray) : ByteArray × Int := if (parseB s).2 = 0 then textR (parseB s).1.cust (parseB s).1.path (parseB s).1.query else (⟨#[]⟩, (parseB s).2)
set_option maxHeartbeats 2000000 in
theorem rCanonical_any (s : ByteArray) (w : World) (hs : s.size ≤ 4294967281) : Calls Tryz.prog 165 #[.string s] w (Ret w (.agg #[.string (canonR s).1, .int .i64 (canonR s).2])) := by
 have cP := fun W => rParse_any s W hs
 have he := parse_errno s
 have hbd := parse_bound s
 unfold canonR
 generalize parseB s = r at *
 obtain ⟨⟨c, ps, qs⟩, er⟩ := r
 dsimp only at he hbd ⊢
 have cT := fun A ca B cb W h1 h2 => rText2_any c A B ps.length ca qs.length cb ps qs W h1 h2 (by omega)
 generalize textR c ps qs = t at *
 obtain ⟨t, e0⟩ := t
 dsimp only at cT
 have HP := Lib.hid cP
 have HT := Lib.hid cT
 clear cP hbd cT
 rcases he with rfl | rfl | rfl
 ·rw [if_pos rfl]
  go_enter Tryz.func165, Tryz.ntmps165
  go_wp2_with (first | (go_at_call 228; refine (HP.out _).mono ?_; rintro e w1 ⟨hb1, A, ca, B, cb, rfl, hA, hB⟩; have hX1 : ResBox w1 w.heap.size ⟨#[]⟩ 0 := Blk.keep (World.alloc_heap_new _ _) hb1; obtain ⟨x0, x1, f0, f1⟩ := hX1.facts; have hz1 : w.heap.size < w1.heap.size := Blk.lt hX1; have hz9 : w1.heap.size ≠ w.heap.size := (by omega); have HA := Lib.hid hA; have HB := Lib.hid hB; clear hA hB) | (go_at_call 229; refine (HT.out _ _ _ _ _ (HA.out.keep belB) (HB.out.keep belB)).mono ?_; rintro e w2 ⟨rfl, hb2⟩; have hX2 : ResBox w2 w.heap.size ⟨#[]⟩ 0 := Blk.keep hX1 (blater _ hb2); obtain ⟨y0, y1, g0, g1⟩ := hX2.facts; have hz2 : w.heap.size < w2.heap.size := Blk.lt hX2))
  exact bodyPost_ret (v := .agg #[.string t, .int .i64 e0]) (by simp [results, Tryz.results165, go_sem, hz2, y0, y1, g0, g1]) rfl ⟨rfl, belB⟩
 ·rw [if_neg (by decide)]
  go_enter Tryz.func165, Tryz.ntmps165
  go_wp2_with (go_at_call 228; refine (HP.out _).mono ?_; rintro e w1 ⟨hb1, A, ca, B, cb, rfl, hA, hB⟩; have hX1 : ResBox w1 w.heap.size ⟨#[]⟩ 0 := Blk.keep (World.alloc_heap_new _ _) hb1; obtain ⟨x0, x1, f0, f1⟩ := hX1.facts; have hz1 : w.heap.size < w1.heap.size := Blk.lt hX1; have hz9 : w1.heap.size ≠ w.heap.size := (by omega); have HA := Lib.hid hA; have HB := Lib.hid hB; clear hA hB)
  exact bodyPost_ret (v := .agg #[.string ⟨#[]⟩, .int .i64 2]) (by simp [results, Tryz.results165, go_sem, hz1, hz9, x0, x1, f0, f1]) rfl ⟨rfl, belB⟩
 ·rw [if_neg (by decide)]
  go_enter Tryz.func165, Tryz.ntmps165
  go_wp2_with (go_at_call 228; refine (HP.out _).mono ?_; rintro e w1 ⟨hb1, A, ca, B, cb, rfl, hA, hB⟩; have hX1 : ResBox w1 w.heap.size ⟨#[]⟩ 0 := Blk.keep (World.alloc_heap_new _ _) hb1; obtain ⟨x0, x1, f0, f1⟩ := hX1.facts; have hz1 : w.heap.size < w1.heap.size := Blk.lt hX1; have hz9 : w1.heap.size ≠ w.heap.size := (by omega); have HA := Lib.hid hA; have HB := Lib.hid hB; clear hA hB)
  exact bodyPost_ret (v := .agg #[.string ⟨#[]⟩, .int .i64 3]) (by simp [results, Tryz.results165, go_sem, hz1, hz9, x0, x1, f0, f1]) rfl ⟨rfl, belB⟩
def canB (s : ByteArray) : Bool := decide ((canonR s).2 = 0) && ((canonR s).1.toList == s.toList)
theorem canB_read (s : ByteArray) : canB s = readB s := by
 unfold canB readB canonR
 by_cases h : (parseB s).2 = 0
 ·rw [if_pos h, decide_eq_true h, Bool.true_and]
  have hg := parse_good s h
  have hsh := parse_short s h
  have hf : formedB (parseB s).1.cust (parseB s).1.path (parseB s).1.query = true := (formed_iff _ _ _).2 ⟨hg, by omega⟩
  unfold textR
  rw [if_pos hf]
  rfl
 ·rw [if_neg h, decide_eq_false h]
  simp [h]
set_option maxHeartbeats 2000000 in
theorem rCanon_any (s : ByteArray) (w : World) (hs : s.size ≤ 4294967281) : Calls Tryz.prog 89 #[.string s] w (Ret w (.bool (readB s))) := by
 rw [← canB_read]
 have cC := fun W => rCanonical_any s W hs
 unfold canB
 generalize canonR s = r at *
 obtain ⟨t, er⟩ := r
 dsimp only at cC ⊢
 have HC := Lib.hid cC
 clear cC
 cases h2 : (t.toList == s.toList)
 ·by_cases h : er = 0
  ·subst h
   go_enter Tryz.func89, Tryz.ntmps89
   go_wp2_with (go_at_call 165; refine (HC.out _).mono ?_; rintro e w1 ⟨rfl, hb1⟩)
   go_ret
   exact ⟨rfl, belB⟩
  ·have d1 : (er == 0) = false := beq_eq_false_iff_ne.2 h
   rw [decide_eq_false h]
   go_enter Tryz.func89, Tryz.ntmps89
   go_wp2_with (go_at_call 165; refine (HC.out _).mono ?_; rintro e w1 ⟨rfl, hb1⟩)
   go_ret
   exact ⟨rfl, belB⟩
 ·by_cases h : er = 0
  ·subst h
   go_enter Tryz.func89, Tryz.ntmps89
   go_wp2_with (go_at_call 165; refine (HC.out _).mono ?_; rintro e w1 ⟨rfl, hb1⟩)
   go_ret
   exact ⟨rfl, belB⟩
  ·have d1 : (er == 0) = false := beq_eq_false_iff_ne.2 h
   rw [decide_eq_false h]
   go_enter Tryz.func89, Tryz.ntmps89
   go_wp2_with (go_at_call 165; refine (HC.out _).mono ?_; rintro e w1 ⟨rfl, hb1⟩)
   go_ret
   exact ⟨rfl, belB⟩
end Go.Proofs.YtjhlpkhfdghngaaGreatDoor
namespace Go.Proofs.YtjhlpkhfdghngaaGreatDoor
open Go.RowKit Go.Sort
set_option linter.unusedVariables false
set_option linter.unusedSimpArgs false
set_option maxRecDepth 100000
theorem country_four (s : ByteArray) (h : s.size = 2) : countryB s = (decide ((97 : Int) ≤ ((s[0]'(by omega)).toNat : Int)) && decide (((s[0]'(by omega)).toNat : Int) ≤ 122) && decide ((97 : Int) ≤ ((s[1]'(by omega)).toNat : Int)) && decide (((s[1]'(by omega)).toNat : Int) ≤ 122)) := by
 unfold countryB
 rw [decide_eq_true h, Bool.true_and, two_bytes s h]
 simp only [List.all_cons, List.all_nil, Bool.and_true]
 rw [Bool.eq_iff_iff]
 simp only [Bool.and_eq_true, decide_eq_true_eq]
 omega
set_option maxHeartbeats 2000000 in
theorem rCountry_any (s : ByteArray) (w : World) (hs : s.size ≤ 4294967281) : Calls Tryz.prog 90 #[.string s] w (Ret w (.bool (countryB s))) := by
 by_cases h2 : s.size = 2
 ·have d2 : ((s.size : Int) == 2) = true := by simp; omega
  have hv := country_four s h2
  have q0 : (0 : Int) < (s.size : Int) := by omega
  have q1 : (1 : Int) < (s.size : Int) := by omega
  rw [hv]
  clear hv
  cases e1 : decide ((97 : Int) ≤ ((s[0]'(by omega)).toNat : Int))
  ·(go_enter Tryz.func90, Tryz.ntmps90; go_wp2; go_ret; exact ⟨rfl, belB⟩)
  cases e2 : decide (((s[0]'(by omega)).toNat : Int) ≤ 122)
  ·(go_enter Tryz.func90, Tryz.ntmps90; go_wp2; go_ret; exact ⟨rfl, belB⟩)
  cases e3 : decide ((97 : Int) ≤ ((s[1]'(by omega)).toNat : Int))
  ·(go_enter Tryz.func90, Tryz.ntmps90; go_wp2; go_ret; exact ⟨rfl, belB⟩)
  cases e4 : decide (((s[1]'(by omega)).toNat : Int) ≤ 122)
  ·(go_enter Tryz.func90, Tryz.ntmps90; go_wp2; go_ret; exact ⟨rfl, belB⟩)
  ·(go_enter Tryz.func90, Tryz.ntmps90; go_wp2; go_ret; exact ⟨rfl, belB⟩)
 ·have d2 : ((s.size : Int) == 2) = false := beq_eq_false_iff_ne.2 (by omega)
  have hv : countryB s = false := by unfold countryB; rw [decide_eq_false h2]; rfl
  rw [hv]
  (go_enter Tryz.func90, Tryz.ntmps90; go_wp2; go_ret; exact ⟨rfl, belB⟩)
end Go.Proofs.YtjhlpkhfdghngaaGreatDoor
