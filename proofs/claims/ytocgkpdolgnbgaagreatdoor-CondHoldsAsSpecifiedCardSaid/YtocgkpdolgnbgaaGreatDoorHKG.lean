/- What CondHoldsAsSpecified returns: true. -/
import Derived.Test.YtocgkpdolgnbgaaGreatDoorHKF
import Derived.Test.YtocgkpdolgnbgaaGreatDoorProg
import Derived.WalkKit
import Derived.WalkSpells
import Derived.WalkLawsBesides
import Derived.Below
import Derived.Deep.QuietTactic
import Derived.BigQuiet
import Derived.Lib.QuietBelow
import Derived.Lib.Strings
import Derived.Lib.Hide
import Derived.Deep.RegionWith
import Derived.Deep.RegionHeld3
import Derived.Lib.IndexBytes
namespace Go.Proofs.YtocgkpdolgnbgaaGreatDoor
open Go.RowKit Go.Sort
set_option linter.unusedVariables false
set_option linter.unusedSimpArgs false
set_option maxRecDepth 100000
set_option maxHeartbeats 16000000 in
theorem lawHolds (c : CondV) (mc : CondMem) (q : AskV) (w : World) (hR : CondReads w c mc) (hE : Env w) (hT : Tab w) :
    Calls Tryz.prog 6 #[CondMem.val c mc, AskV.val q] w (Ret w (.bool true)) := by
  have g1 := fun W (hb : Below w.heap.size w W) => few_cond c mc W (hR.keep hb)
  have g3 := fun W (_ : Below w.heap.size w W) => few_ask q W
  have HE := Lib.hid hE
  have HT := Lib.hid hT
  cases hfc : fewV c
  · rw [hfc] at g1
    have G1 := Lib.hid g1
    clear g1 g3 hE hT hfc
    unfold CondMem.val AskV.val at *
    (go_enter Tryz.func6, Tryz.ntmps6; go_wp2_with (first | (go_at_call 10; refine (G1.out _ (by (repeat (first | exact .refl _ _ | assumption | refine .drew ?_ | refine balloc ?_ _ | refine bdrewN ?_ _ | refine .setCell ?_ (by simp <;> omega) _ | refine bstep ?_ (by assumption))))).mono ?_; rintro e w2 ⟨rfl, hb2⟩; clear G1; have hbw : Below w.heap.size w w2 := (by (repeat (first | exact .refl _ _ | assumption | refine .drew ?_ | refine balloc ?_ _ | refine bdrewN ?_ _ | refine .setCell ?_ (by simp <;> omega) _ | refine bstep ?_ (by assumption)))); (have hX2 : VBox w2 (w.heap.size) c mc := (by first | exact VBox.keep hX2 hb2 | exact Blk.keep (two_box _ _ _).1 hb2)); (have hZ2 : YBox w2 (w.heap.size + 1) q := (by first | exact YBox.keep hZ2 hb2 | exact Blk.keep (two_box _ _ _).2 hb2)); (try clear x0 x1 x2 x3 x4 x5 x6 z0 z1 z2 z3 z4 z5); obtain ⟨x0, x1, x2, x3, x4, x5, x6⟩ := hX2.facts; obtain ⟨z0, z1, z2, z3, z4, z5⟩ := hZ2.facts) | (go_at_call 23; refine (G3.out _ hbw).mono ?_; rintro e w2 ⟨rfl, hb2⟩; clear G3; replace hbw := bstep hbw hb2; (have hX2 : VBox w2 (w.heap.size) c mc := (by first | exact VBox.keep hX2 hb2 | exact Blk.keep (two_box _ _ _).1 hb2)); (have hZ2 : YBox w2 (w.heap.size + 1) q := (by first | exact YBox.keep hZ2 hb2 | exact Blk.keep (two_box _ _ _).2 hb2)); (try clear x0 x1 x2 x3 x4 x5 x6 z0 z1 z2 z3 z4 z5); obtain ⟨x0, x1, x2, x3, x4, x5, x6⟩ := hX2.facts; obtain ⟨z0, z1, z2, z3, z4, z5⟩ := hZ2.facts) | (go_at_call 11; refine (san21_any _ (HE.out.keep hbw) (HT.out.keep hbw)).mono ?_; rintro e ws ⟨rfl, hbs⟩)); go_ret; exact ⟨rfl, bstep hbw hbs⟩)
  rw [hfc] at g1
  cases hfq : fewA q
  · rw [hfq] at g3
    have G1 := Lib.hid g1
    have G3 := Lib.hid g3
    clear g1 g3 hE hT hfc hfq
    unfold CondMem.val AskV.val at *
    (go_enter Tryz.func6, Tryz.ntmps6; go_wp2_with (first | (go_at_call 10; refine (G1.out _ (by (repeat (first | exact .refl _ _ | assumption | refine .drew ?_ | refine balloc ?_ _ | refine bdrewN ?_ _ | refine .setCell ?_ (by simp <;> omega) _ | refine bstep ?_ (by assumption))))).mono ?_; rintro e w2 ⟨rfl, hb2⟩; clear G1; have hbw : Below w.heap.size w w2 := (by (repeat (first | exact .refl _ _ | assumption | refine .drew ?_ | refine balloc ?_ _ | refine bdrewN ?_ _ | refine .setCell ?_ (by simp <;> omega) _ | refine bstep ?_ (by assumption)))); (have hX2 : VBox w2 (w.heap.size) c mc := (by first | exact VBox.keep hX2 hb2 | exact Blk.keep (two_box _ _ _).1 hb2)); (have hZ2 : YBox w2 (w.heap.size + 1) q := (by first | exact YBox.keep hZ2 hb2 | exact Blk.keep (two_box _ _ _).2 hb2)); (try clear x0 x1 x2 x3 x4 x5 x6 z0 z1 z2 z3 z4 z5); obtain ⟨x0, x1, x2, x3, x4, x5, x6⟩ := hX2.facts; obtain ⟨z0, z1, z2, z3, z4, z5⟩ := hZ2.facts) | (go_at_call 23; refine (G3.out _ hbw).mono ?_; rintro e w2 ⟨rfl, hb2⟩; clear G3; replace hbw := bstep hbw hb2; (have hX2 : VBox w2 (w.heap.size) c mc := (by first | exact VBox.keep hX2 hb2 | exact Blk.keep (two_box _ _ _).1 hb2)); (have hZ2 : YBox w2 (w.heap.size + 1) q := (by first | exact YBox.keep hZ2 hb2 | exact Blk.keep (two_box _ _ _).2 hb2)); (try clear x0 x1 x2 x3 x4 x5 x6 z0 z1 z2 z3 z4 z5); obtain ⟨x0, x1, x2, x3, x4, x5, x6⟩ := hX2.facts; obtain ⟨z0, z1, z2, z3, z4, z5⟩ := hZ2.facts) | (go_at_call 11; refine (san21_any _ (HE.out.keep hbw) (HT.out.keep hbw)).mono ?_; rintro e ws ⟨rfl, hbs⟩)); go_ret; exact ⟨rfl, bstep hbw hbs⟩)
  rw [hfq] at g3
  have fc := few_fits hfc
  have fq := fewA_fits hfq
  obtain ⟨s, hes⟩ := empty_shape c
  have e1 := fun W (hb : Below w.heap.size w W) => empty_any c mc W (hR.keep hb) fc (hE.keep hb)
  rw [hes] at e1
  have t1 := fun W (hb : Below w.heap.size w W) => text_all c mc W (hR.keep hb) fc (hE.keep hb) (hT.keep hb)
  have x1 := fun W (hb : Below w.heap.size w W) => rEmpty_any c mc W (hR.keep hb) fc
  have y1 := fun W (hb : Below w.heap.size w W) => rText_all c mc W (hR.keep hb) fc
  have v1 := fun W (hb : Below w.heap.size w W) => condValid_any c mc W (hR.keep hb) fc.p fc.cl fc.co fc.n1 fc.n2 fc.n3 (hE.keep hb)
  have v2 := fun W (hb : Below w.heap.size w W) => rValid21_any c mc W (hR.keep hb) fc.p fc.cl fc.co fc.n1 fc.n2 fc.n3
  have a1 := fun W (hb : Below w.heap.size w W) => validAsk_any q W fq.p fq.cl fq.co (hE.keep hb)
  have a2 := fun W (_ : Below w.heap.size w W) => rValidAsk_any q W fq.p fq.cl fq.co
  have o1 := fun W (hb : Below w.heap.size w W) => holds_any c mc q W (hR.keep hb) fc fq (hE.keep hb)
  have o2 := fun W (hb : Below w.heap.size w W) => rHolds21_any c mc q W (hR.keep hb) fc fq
  have s1 := fun W (hb : Below w.heap.size w W) => san21_any W (hE.keep hb) (hT.keep hb)
  unfold impV at e1
  unfold knownV at x1
  dsimp only at e1
  generalize (textE c).1 = T at *
  generalize (textE c).2 = f at *
  generalize (validC c && decide (c.till ≤ c.fr)) = is at *
  generalize (if validC c then (0 : Int) else 1) = er at *
  generalize validC c = vc at *
  generalize validAsk q = va at *
  generalize holdsC c q = ho at *
  have G1 := Lib.hid g1; have G3 := Lib.hid g3; have E1 := Lib.hid e1; have T1 := Lib.hid t1; have X1 := Lib.hid x1; have Y1 := Lib.hid y1
  have V1 := Lib.hid v1; have V2 := Lib.hid v2; have A1 := Lib.hid a1; have A2 := Lib.hid a2; have O1 := Lib.hid o1; have O2 := Lib.hid o2; have S1 := Lib.hid s1
  clear g1 g3 e1 t1 x1 y1 v1 v2 a1 a2 o1 o2 s1 hes fc fq hfc hfq hR hE hT
  unfold CondMem.val AskV.val at *
  go_enter Tryz.func6, Tryz.ntmps6
  go_wp2_with (first | (go_at_call 10; refine (G1.out _ (by (repeat (first | exact .refl _ _ | assumption | refine .drew ?_ | refine balloc ?_ _ | refine bdrewN ?_ _ | refine .setCell ?_ (by simp <;> omega) _ | refine bstep ?_ (by assumption))))).mono ?_; rintro e w2 ⟨rfl, hb2⟩; clear G1; have hbw : Below w.heap.size w w2 := (by (repeat (first | exact .refl _ _ | assumption | refine .drew ?_ | refine balloc ?_ _ | refine bdrewN ?_ _ | refine .setCell ?_ (by simp <;> omega) _ | refine bstep ?_ (by assumption)))); (have hX2 : VBox w2 (w.heap.size) c mc := (by first | exact VBox.keep hX2 hb2 | exact Blk.keep (two_box _ _ _).1 hb2)); (have hZ2 : YBox w2 (w.heap.size + 1) q := (by first | exact YBox.keep hZ2 hb2 | exact Blk.keep (two_box _ _ _).2 hb2)); (try clear x0 x1 x2 x3 x4 x5 x6 z0 z1 z2 z3 z4 z5); obtain ⟨x0, x1, x2, x3, x4, x5, x6⟩ := hX2.facts; obtain ⟨z0, z1, z2, z3, z4, z5⟩ := hZ2.facts) | (go_at_call 23; refine (G3.out _ hbw).mono ?_; rintro e w2 ⟨rfl, hb2⟩; clear G3; replace hbw := bstep hbw hb2; (have hX2 : VBox w2 (w.heap.size) c mc := (by first | exact VBox.keep hX2 hb2 | exact Blk.keep (two_box _ _ _).1 hb2)); (have hZ2 : YBox w2 (w.heap.size + 1) q := (by first | exact YBox.keep hZ2 hb2 | exact Blk.keep (two_box _ _ _).2 hb2)); (try clear x0 x1 x2 x3 x4 x5 x6 z0 z1 z2 z3 z4 z5); obtain ⟨x0, x1, x2, x3, x4, x5, x6⟩ := hX2.facts; obtain ⟨z0, z1, z2, z3, z4, z5⟩ := hZ2.facts))
  have hbw2 := hbw
  clear hbw hb2 x0 x1 x2 x3 x4 x5 x6 z0 z1 z2 z3 z4 z5
  refine (E1.out _ hbw2).mono ?_; rintro e w3 ⟨rfl, hb3⟩
  have hbw3 := bstep hbw2 (hb3)
  have hX3 : VBox w3 (w.heap.size) c mc := hX2.keep (hb3)
  have hZ3 : YBox w3 (w.heap.size + 1) q := hZ2.keep (hb3)
  clear hb3 hbw2 hX2 hZ2
  dsimp only
  obtain ⟨x0, x1, x2, x3, x4, x5, x6⟩ := hX3.facts
  have lx := Blk.lt hX3
  obtain ⟨z0, z1, z2, z3, z4, z5⟩ := hZ3.facts
  have lz := Blk.lt hZ3
  go_wp2_with fail
  clear x0 x1 x2 x3 x4 x5 x6 z0 z1 z2 z3 z4 z5 lx lz
  refine (T1.out _ (by (repeat (first | exact .refl _ _ | assumption | refine .drew ?_ | refine balloc ?_ _ | refine bdrewN ?_ _ | refine .setCell ?_ (by simp <;> omega) _ | refine bstep ?_ (by assumption))))).mono ?_; rintro e w4 ⟨rfl, hb4⟩
  have hbw4 := bstep hbw3 (blater _ hb4)
  have hX4 : VBox w4 (w.heap.size) c mc := hX3.keep (blater _ hb4)
  have hZ4 : YBox w4 (w.heap.size + 1) q := hZ3.keep (blater _ hb4)
  have hS4 : YBox w4 (w3.heap.size) s := Blk.keep (World.alloc_heap_new _ _) hb4
  clear hb4 hbw3 hX3 hZ3
  obtain ⟨x0, x1, x2, x3, x4, x5, x6⟩ := hX4.facts
  have lx := Blk.lt hX4
  obtain ⟨z0, z1, z2, z3, z4, z5⟩ := hZ4.facts
  have lz := Blk.lt hZ4
  obtain ⟨s0, s1, s2, s3, s4, s5⟩ := hS4.facts
  have ls := Blk.lt hS4
  go_wp2_with fail
  clear x0 x1 x2 x3 x4 x5 x6 z0 z1 z2 z3 z4 z5 s0 s1 s2 s3 s4 s5 lx lz ls
  refine (X1.out _ (by (repeat (first | exact .refl _ _ | assumption | refine .drew ?_ | refine balloc ?_ _ | refine bdrewN ?_ _ | refine .setCell ?_ (by simp <;> omega) _ | refine bstep ?_ (by assumption))))).mono ?_; rintro e w5 ⟨rfl, hb5⟩
  have hbw5 := bstep hbw4 (hb5)
  have hX5 : VBox w5 (w.heap.size) c mc := hX4.keep (hb5)
  have hZ5 : YBox w5 (w.heap.size + 1) q := hZ4.keep (hb5)
  have hS5 : YBox w5 (w3.heap.size) s := hS4.keep (hb5)
  clear hb5 hbw4 hX4 hZ4 hS4
  obtain ⟨x0, x1, x2, x3, x4, x5, x6⟩ := hX5.facts
  have lx := Blk.lt hX5
  obtain ⟨z0, z1, z2, z3, z4, z5⟩ := hZ5.facts
  have lz := Blk.lt hZ5
  obtain ⟨s0, s1, s2, s3, s4, s5⟩ := hS5.facts
  have ls := Blk.lt hS5
  go_wp2_with fail
  clear x0 x1 x2 x3 x4 x5 x6 z0 z1 z2 z3 z4 z5 s0 s1 s2 s3 s4 s5 lx lz ls
  refine (Y1.out _ (by (repeat (first | exact .refl _ _ | assumption | refine .drew ?_ | refine balloc ?_ _ | refine bdrewN ?_ _ | refine .setCell ?_ (by simp <;> omega) _ | refine bstep ?_ (by assumption))))).mono ?_; rintro e w6 ⟨rfl, hb6⟩
  have hbw6 := bstep hbw5 (blater _ hb6)
  have hX6 : VBox w6 (w.heap.size) c mc := hX5.keep (blater _ hb6)
  have hZ6 : YBox w6 (w.heap.size + 1) q := hZ5.keep (blater _ hb6)
  have hS6 : YBox w6 (w3.heap.size) s := hS5.keep (blater _ hb6)
  have hK6 : KB w6 (w5.heap.size) is er := Blk.keep (World.alloc_heap_new _ _) hb6
  clear hb6 hbw5 hX5 hZ5 hS5
  obtain ⟨x0, x1, x2, x3, x4, x5, x6⟩ := hX6.facts
  have lx := Blk.lt hX6
  obtain ⟨z0, z1, z2, z3, z4, z5⟩ := hZ6.facts
  have lz := Blk.lt hZ6
  obtain ⟨s0, s1, s2, s3, s4, s5⟩ := hS6.facts
  have ls := Blk.lt hS6
  obtain ⟨k0, k1⟩ := hK6.facts
  have lk := Blk.lt hK6
  go_upto_region 7 with fail
  clear x0 x1 x2 x3 x4 x5 x6 z0 z1 z2 z3 z4 z5 s0 s1 s2 s3 s4 s5 k0 k1 lx lz ls lk
  obtain ⟨W7, hW7⟩ : ∃ W7, W7 = w6.alloc (.cells #[.string T, .int .i64 f] 56) := ⟨_, rfl⟩
  rw [← hW7]
  have hb7 : Below w6.heap.size w6 W7 := by rw [hW7]; exact balloc (Below.refl _ _) _
  have hU7 : WB W7 w6.heap.size T f := by rw [hW7]; exact World.alloc_heap_new _ _
  have hX7 := hX6.keep hb7
  have hZ7 := hZ6.keep hb7
  have hS7 := hS6.keep hb7
  have hK7 := hK6.keep hb7
  have hbw7 := bstep hbw6 hb7
  clear hW7 hb7 hbw6 hX6 hZ6 hS6 hK6
  obtain ⟨x0, x1, x2, x3, x4, x5, x6⟩ := hX7.facts
  have lx := Blk.lt hX7
  obtain ⟨z0, z1, z2, z3, z4, z5⟩ := hZ7.facts
  have lz := Blk.lt hZ7
  obtain ⟨s0, s1, s2, s3, s4, s5⟩ := hS7.facts
  have ls := Blk.lt hS7
  obtain ⟨k0, k1⟩ := hK7.facts
  have lk := Blk.lt hK7
  obtain ⟨u0, u1⟩ := hU7.facts
  have lu := Blk.lt hU7
  have rx0 := cell_regrown x0
  have rx1 := cell_regrown x1
  have rx2 := cell_regrown x2
  have rx3 := cell_regrown x3
  have rx4 := cell_regrown x4
  have rx5 := cell_regrown x5
  have rx6 := cell_regrown x6
  have rz0 := cell_regrown z0
  have rz1 := cell_regrown z1
  have rz2 := cell_regrown z2
  have rz3 := cell_regrown z3
  have rz4 := cell_regrown z4
  have rz5 := cell_regrown z5
  have rs0 := cell_regrown s0
  have rs1 := cell_regrown s1
  have rs2 := cell_regrown s2
  have rs3 := cell_regrown s3
  have rs4 := cell_regrown s4
  have rs5 := cell_regrown s5
  have rk0 := cell_regrown k0
  have rk1 := cell_regrown k1
  have ru0 := cell_regrown u0
  have ru1 := cell_regrown u1
  have cS1 := fun W (hb : Below W7.heap.size W7 W) => S1.out W (bstep hbw7 hb)
  have CS1 := Lib.hid cS1
  have cV1 := fun W (hb : Below W7.heap.size W7 W) => V1.out W (bstep hbw7 hb)
  have CV1 := Lib.hid cV1
  have cV2 := fun W (hb : Below W7.heap.size W7 W) => V2.out W (bstep hbw7 hb)
  have CV2 := Lib.hid cV2
  have cA1 := fun W (hb : Below W7.heap.size W7 W) => A1.out W (bstep hbw7 hb)
  have CA1 := Lib.hid cA1
  have cA2 := fun W (hb : Below W7.heap.size W7 W) => A2.out W (bstep hbw7 hb)
  have CA2 := Lib.hid cA2
  have cO1 := fun W (hb : Below W7.heap.size W7 W) => O1.out W (bstep hbw7 hb)
  have CO1 := Lib.hid cO1
  have cO2 := fun W (hb : Below W7.heap.size W7 W) => O2.out W (bstep hbw7 hb)
  have CO2 := Lib.hid cO2
  have HB := Lib.hid hbw7
  have b1 : (vc == vc) = true := by simp
  have b2 : (va == va) = true := by simp
  have b3 : (ho == ho) = true := by simp
  have b4 : (is == is) = true := by simp
  have b5 : (er == er) = true := by simp
  have b6 : (f == f) = true := by simp
  have b7 : (T.toList == T.toList) = true := by simp
  clear cS1 cV1 cV2 cA1 cA2 cO1 cO2 E1 T1 X1 Y1 V1 V2 A1 A2 O1 O2 S1 HE HT hbw7 hX7 hZ7 hS7 hK7 hU7
  refine wp_region_quiet_below (by kernel_rfl) (by kernel_rfl) ?_; (repeat (any_goals (first | go_big_quiet_step ((first | (with_reducible exact qcalls2 CS1.out _ _) | (with_reducible exact qcalls2 CV1.out _ _) | (with_reducible exact qcalls2 CV2.out _ _) | (with_reducible exact qcalls2 CA1.out _ _) | (with_reducible exact qcalls2 CA2.out _ _) | (with_reducible exact qcalls2 CO1.out _ _) | (with_reducible exact qcalls2 CO2.out _ _))) | quiet_step ((first | (with_reducible exact qcalls2 CS1.out _ _) | (with_reducible exact qcalls2 CV1.out _ _) | (with_reducible exact qcalls2 CV2.out _ _) | (with_reducible exact qcalls2 CA1.out _ _) | (with_reducible exact qcalls2 CA2.out _ _) | (with_reducible exact qcalls2 CO1.out _ _) | (with_reducible exact qcalls2 CO2.out _ _)))))); refine wpQuiet_nil ?_; intro _ hwq; obtain ⟨⟨dq, osq⟩, hwq⟩ := hwq; subst hwq; have hbq := below_regrown (W7) dq osq; generalize grow (redrawn (W7) dq) osq = wq at *
  go_wp2
  go_ret
  exact ⟨rfl, bstep HB.out hbq⟩
end Go.Proofs.YtocgkpdolgnbgaaGreatDoor
