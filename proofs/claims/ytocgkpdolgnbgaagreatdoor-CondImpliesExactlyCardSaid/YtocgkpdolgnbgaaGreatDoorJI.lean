/- What CondImpliesExactly returns: true. -/
import Derived.Test.YtocgkpdolgnbgaaGreatDoorJE
import Derived.Test.YtocgkpdolgnbgaaGreatDoorProg
import Derived.WalkKit
import Derived.WalkSpells
import Derived.WalkLawsBesides
import Derived.Below
import Derived.Deep.QuietTactic
import Derived.BigQuiet
import Derived.Lib.QuietBelow
import Derived.Lib.Strings
import Derived.Lib.Hide
import Derived.Deep.RegionWith
import Derived.Deep.RegionHeld3
import Derived.Lib.IndexBytes
namespace Go.Proofs.YtocgkpdolgnbgaaGreatDoor
open Go.RowKit Go.Sort
set_option linter.unusedVariables false
set_option linter.unusedSimpArgs false
set_option maxRecDepth 100000
set_option maxHeartbeats 16000000 in
theorem lawImplies (a b : CondV) (ma mb : CondMem) (q : AskV) (w : World) (hRa : CondReads w a ma) (hRb : CondReads w b mb) (hE : Env w) (hT : Tab w) :
    Calls Tryz.prog 7 #[CondMem.val a ma, CondMem.val b mb, AskV.val q] w (Ret w (.bool true)) := by
  have g1 := fun W (hb : Below w.heap.size w W) => few_cond a ma W (hRa.keep hb)
  have g2 := fun W (hb : Below w.heap.size w W) => few_cond b mb W (hRb.keep hb)
  have g3 := fun W (_ : Below w.heap.size w W) => few_ask q W
  have HE := Lib.hid hE
  have HT := Lib.hid hT
  cases hfa : fewV a
  · rw [hfa] at g1
    have G1 := Lib.hid g1
    clear g1 g2 g3 hE hT hfa
    unfold CondMem.val AskV.val at *
    (go_enter Tryz.func7, Tryz.ntmps7; go_wp2_with (first | (go_at_call 10; refine (G1.out _ (by (repeat (first | exact Below.refl _ _ | assumption | refine Below.drew ?_ | refine balloc ?_ _ | refine bdrewN ?_ _ | refine Below.setCell ?_ (by first | (simp; done) | (simp; omega)) _ | refine bstep ?_ (by assumption))))).mono ?_; rintro e w2 ⟨rfl, hb2⟩; clear G1; have hbw : Below w.heap.size w w2 := (by (repeat (first | exact Below.refl _ _ | assumption | refine Below.drew ?_ | refine balloc ?_ _ | refine bdrewN ?_ _ | refine Below.setCell ?_ (by first | (simp; done) | (simp; omega)) _ | refine bstep ?_ (by assumption)))); (have hX2 : VBox w2 (w.heap.size) a ma := (by first | exact VBox.keep hX2 hb2 | exact Blk.keep (box3' _ _ _ _).1 hb2)); (have hY2 : VBox w2 (w.heap.size + 1) b mb := (by first | exact VBox.keep hY2 hb2 | exact Blk.keep (box3' _ _ _ _).2.1 hb2)); (have hZ2 : YBox w2 (w.heap.size + 1 + 1) q := (by first | exact YBox.keep hZ2 hb2 | exact Blk.keep (box3' _ _ _ _).2.2 hb2)); (try clear x0 x1 x2 x3 x4 x5 x6 y0 y1 y2 y3 y4 y5 y6 z0 z1 z2 z3 z4 z5); obtain ⟨x0, x1, x2, x3, x4, x5, x6⟩ := hX2.facts; obtain ⟨y0, y1, y2, y3, y4, y5, y6⟩ := hY2.facts; obtain ⟨z0, z1, z2, z3, z4, z5⟩ := hZ2.facts) | (go_at_call 10; refine (G2.out _ hbw).mono ?_; rintro e w2 ⟨rfl, hb2⟩; clear G2; replace hbw := bstep hbw hb2; (have hX2 : VBox w2 (w.heap.size) a ma := (by first | exact VBox.keep hX2 hb2 | exact Blk.keep (box3' _ _ _ _).1 hb2)); (have hY2 : VBox w2 (w.heap.size + 1) b mb := (by first | exact VBox.keep hY2 hb2 | exact Blk.keep (box3' _ _ _ _).2.1 hb2)); (have hZ2 : YBox w2 (w.heap.size + 1 + 1) q := (by first | exact YBox.keep hZ2 hb2 | exact Blk.keep (box3' _ _ _ _).2.2 hb2)); (try clear x0 x1 x2 x3 x4 x5 x6 y0 y1 y2 y3 y4 y5 y6 z0 z1 z2 z3 z4 z5); obtain ⟨x0, x1, x2, x3, x4, x5, x6⟩ := hX2.facts; obtain ⟨y0, y1, y2, y3, y4, y5, y6⟩ := hY2.facts; obtain ⟨z0, z1, z2, z3, z4, z5⟩ := hZ2.facts) | (go_at_call 23; refine (G3.out _ hbw).mono ?_; rintro e w2 ⟨rfl, hb2⟩; clear G3; replace hbw := bstep hbw hb2; (have hX2 : VBox w2 (w.heap.size) a ma := (by first | exact VBox.keep hX2 hb2 | exact Blk.keep (box3' _ _ _ _).1 hb2)); (have hY2 : VBox w2 (w.heap.size + 1) b mb := (by first | exact VBox.keep hY2 hb2 | exact Blk.keep (box3' _ _ _ _).2.1 hb2)); (have hZ2 : YBox w2 (w.heap.size + 1 + 1) q := (by first | exact YBox.keep hZ2 hb2 | exact Blk.keep (box3' _ _ _ _).2.2 hb2)); (try clear x0 x1 x2 x3 x4 x5 x6 y0 y1 y2 y3 y4 y5 y6 z0 z1 z2 z3 z4 z5); obtain ⟨x0, x1, x2, x3, x4, x5, x6⟩ := hX2.facts; obtain ⟨y0, y1, y2, y3, y4, y5, y6⟩ := hY2.facts; obtain ⟨z0, z1, z2, z3, z4, z5⟩ := hZ2.facts) | (go_at_call 19; refine (G4.out _ hbw).mono ?_; rintro e w2 ⟨rfl, hb2⟩; clear G4; replace hbw := bstep hbw hb2; (have hX2 : VBox w2 (w.heap.size) a ma := (by first | exact VBox.keep hX2 hb2 | exact Blk.keep (box3' _ _ _ _).1 hb2)); (have hY2 : VBox w2 (w.heap.size + 1) b mb := (by first | exact VBox.keep hY2 hb2 | exact Blk.keep (box3' _ _ _ _).2.1 hb2)); (have hZ2 : YBox w2 (w.heap.size + 1 + 1) q := (by first | exact YBox.keep hZ2 hb2 | exact Blk.keep (box3' _ _ _ _).2.2 hb2)); (try clear x0 x1 x2 x3 x4 x5 x6 y0 y1 y2 y3 y4 y5 y6 z0 z1 z2 z3 z4 z5); obtain ⟨x0, x1, x2, x3, x4, x5, x6⟩ := hX2.facts; obtain ⟨y0, y1, y2, y3, y4, y5, y6⟩ := hY2.facts; obtain ⟨z0, z1, z2, z3, z4, z5⟩ := hZ2.facts) | (go_at_call 19; refine (G5.out _ hbw).mono ?_; rintro e w2 ⟨rfl, hb2⟩; clear G5; replace hbw := bstep hbw hb2; (have hX2 : VBox w2 (w.heap.size) a ma := (by first | exact VBox.keep hX2 hb2 | exact Blk.keep (box3' _ _ _ _).1 hb2)); (have hY2 : VBox w2 (w.heap.size + 1) b mb := (by first | exact VBox.keep hY2 hb2 | exact Blk.keep (box3' _ _ _ _).2.1 hb2)); (have hZ2 : YBox w2 (w.heap.size + 1 + 1) q := (by first | exact YBox.keep hZ2 hb2 | exact Blk.keep (box3' _ _ _ _).2.2 hb2)); (try clear x0 x1 x2 x3 x4 x5 x6 y0 y1 y2 y3 y4 y5 y6 z0 z1 z2 z3 z4 z5); obtain ⟨x0, x1, x2, x3, x4, x5, x6⟩ := hX2.facts; obtain ⟨y0, y1, y2, y3, y4, y5, y6⟩ := hY2.facts; obtain ⟨z0, z1, z2, z3, z4, z5⟩ := hZ2.facts) | (go_at_call 11; refine (san21_any _ (HE.out.keep hbw) (HT.out.keep hbw)).mono ?_; rintro e ws ⟨rfl, hbs⟩)); go_ret; exact ⟨rfl, bstep hbw hbs⟩)
  rw [hfa] at g1
  cases hfb : fewV b
  · rw [hfb] at g2
    have G1 := Lib.hid g1
    have G2 := Lib.hid g2
    clear g1 g2 g3 hE hT hfa hfb
    unfold CondMem.val AskV.val at *
    (go_enter Tryz.func7, Tryz.ntmps7; go_wp2_with (first | (go_at_call 10; refine (G1.out _ (by (repeat (first | exact Below.refl _ _ | assumption | refine Below.drew ?_ | refine balloc ?_ _ | refine bdrewN ?_ _ | refine Below.setCell ?_ (by first | (simp; done) | (simp; omega)) _ | refine bstep ?_ (by assumption))))).mono ?_; rintro e w2 ⟨rfl, hb2⟩; clear G1; have hbw : Below w.heap.size w w2 := (by (repeat (first | exact Below.refl _ _ | assumption | refine Below.drew ?_ | refine balloc ?_ _ | refine bdrewN ?_ _ | refine Below.setCell ?_ (by first | (simp; done) | (simp; omega)) _ | refine bstep ?_ (by assumption)))); (have hX2 : VBox w2 (w.heap.size) a ma := (by first | exact VBox.keep hX2 hb2 | exact Blk.keep (box3' _ _ _ _).1 hb2)); (have hY2 : VBox w2 (w.heap.size + 1) b mb := (by first | exact VBox.keep hY2 hb2 | exact Blk.keep (box3' _ _ _ _).2.1 hb2)); (have hZ2 : YBox w2 (w.heap.size + 1 + 1) q := (by first | exact YBox.keep hZ2 hb2 | exact Blk.keep (box3' _ _ _ _).2.2 hb2)); (try clear x0 x1 x2 x3 x4 x5 x6 y0 y1 y2 y3 y4 y5 y6 z0 z1 z2 z3 z4 z5); obtain ⟨x0, x1, x2, x3, x4, x5, x6⟩ := hX2.facts; obtain ⟨y0, y1, y2, y3, y4, y5, y6⟩ := hY2.facts; obtain ⟨z0, z1, z2, z3, z4, z5⟩ := hZ2.facts) | (go_at_call 10; refine (G2.out _ hbw).mono ?_; rintro e w2 ⟨rfl, hb2⟩; clear G2; replace hbw := bstep hbw hb2; (have hX2 : VBox w2 (w.heap.size) a ma := (by first | exact VBox.keep hX2 hb2 | exact Blk.keep (box3' _ _ _ _).1 hb2)); (have hY2 : VBox w2 (w.heap.size + 1) b mb := (by first | exact VBox.keep hY2 hb2 | exact Blk.keep (box3' _ _ _ _).2.1 hb2)); (have hZ2 : YBox w2 (w.heap.size + 1 + 1) q := (by first | exact YBox.keep hZ2 hb2 | exact Blk.keep (box3' _ _ _ _).2.2 hb2)); (try clear x0 x1 x2 x3 x4 x5 x6 y0 y1 y2 y3 y4 y5 y6 z0 z1 z2 z3 z4 z5); obtain ⟨x0, x1, x2, x3, x4, x5, x6⟩ := hX2.facts; obtain ⟨y0, y1, y2, y3, y4, y5, y6⟩ := hY2.facts; obtain ⟨z0, z1, z2, z3, z4, z5⟩ := hZ2.facts) | (go_at_call 23; refine (G3.out _ hbw).mono ?_; rintro e w2 ⟨rfl, hb2⟩; clear G3; replace hbw := bstep hbw hb2; (have hX2 : VBox w2 (w.heap.size) a ma := (by first | exact VBox.keep hX2 hb2 | exact Blk.keep (box3' _ _ _ _).1 hb2)); (have hY2 : VBox w2 (w.heap.size + 1) b mb := (by first | exact VBox.keep hY2 hb2 | exact Blk.keep (box3' _ _ _ _).2.1 hb2)); (have hZ2 : YBox w2 (w.heap.size + 1 + 1) q := (by first | exact YBox.keep hZ2 hb2 | exact Blk.keep (box3' _ _ _ _).2.2 hb2)); (try clear x0 x1 x2 x3 x4 x5 x6 y0 y1 y2 y3 y4 y5 y6 z0 z1 z2 z3 z4 z5); obtain ⟨x0, x1, x2, x3, x4, x5, x6⟩ := hX2.facts; obtain ⟨y0, y1, y2, y3, y4, y5, y6⟩ := hY2.facts; obtain ⟨z0, z1, z2, z3, z4, z5⟩ := hZ2.facts) | (go_at_call 19; refine (G4.out _ hbw).mono ?_; rintro e w2 ⟨rfl, hb2⟩; clear G4; replace hbw := bstep hbw hb2; (have hX2 : VBox w2 (w.heap.size) a ma := (by first | exact VBox.keep hX2 hb2 | exact Blk.keep (box3' _ _ _ _).1 hb2)); (have hY2 : VBox w2 (w.heap.size + 1) b mb := (by first | exact VBox.keep hY2 hb2 | exact Blk.keep (box3' _ _ _ _).2.1 hb2)); (have hZ2 : YBox w2 (w.heap.size + 1 + 1) q := (by first | exact YBox.keep hZ2 hb2 | exact Blk.keep (box3' _ _ _ _).2.2 hb2)); (try clear x0 x1 x2 x3 x4 x5 x6 y0 y1 y2 y3 y4 y5 y6 z0 z1 z2 z3 z4 z5); obtain ⟨x0, x1, x2, x3, x4, x5, x6⟩ := hX2.facts; obtain ⟨y0, y1, y2, y3, y4, y5, y6⟩ := hY2.facts; obtain ⟨z0, z1, z2, z3, z4, z5⟩ := hZ2.facts) | (go_at_call 19; refine (G5.out _ hbw).mono ?_; rintro e w2 ⟨rfl, hb2⟩; clear G5; replace hbw := bstep hbw hb2; (have hX2 : VBox w2 (w.heap.size) a ma := (by first | exact VBox.keep hX2 hb2 | exact Blk.keep (box3' _ _ _ _).1 hb2)); (have hY2 : VBox w2 (w.heap.size + 1) b mb := (by first | exact VBox.keep hY2 hb2 | exact Blk.keep (box3' _ _ _ _).2.1 hb2)); (have hZ2 : YBox w2 (w.heap.size + 1 + 1) q := (by first | exact YBox.keep hZ2 hb2 | exact Blk.keep (box3' _ _ _ _).2.2 hb2)); (try clear x0 x1 x2 x3 x4 x5 x6 y0 y1 y2 y3 y4 y5 y6 z0 z1 z2 z3 z4 z5); obtain ⟨x0, x1, x2, x3, x4, x5, x6⟩ := hX2.facts; obtain ⟨y0, y1, y2, y3, y4, y5, y6⟩ := hY2.facts; obtain ⟨z0, z1, z2, z3, z4, z5⟩ := hZ2.facts) | (go_at_call 11; refine (san21_any _ (HE.out.keep hbw) (HT.out.keep hbw)).mono ?_; rintro e ws ⟨rfl, hbs⟩)); go_ret; exact ⟨rfl, bstep hbw hbs⟩)
  rw [hfb] at g2
  cases hfq : fewA q
  · rw [hfq] at g3
    have G1 := Lib.hid g1
    have G2 := Lib.hid g2
    have G3 := Lib.hid g3
    clear g1 g2 g3 hE hT hfa hfb hfq
    unfold CondMem.val AskV.val at *
    (go_enter Tryz.func7, Tryz.ntmps7; go_wp2_with (first | (go_at_call 10; refine (G1.out _ (by (repeat (first | exact Below.refl _ _ | assumption | refine Below.drew ?_ | refine balloc ?_ _ | refine bdrewN ?_ _ | refine Below.setCell ?_ (by first | (simp; done) | (simp; omega)) _ | refine bstep ?_ (by assumption))))).mono ?_; rintro e w2 ⟨rfl, hb2⟩; clear G1; have hbw : Below w.heap.size w w2 := (by (repeat (first | exact Below.refl _ _ | assumption | refine Below.drew ?_ | refine balloc ?_ _ | refine bdrewN ?_ _ | refine Below.setCell ?_ (by first | (simp; done) | (simp; omega)) _ | refine bstep ?_ (by assumption)))); (have hX2 : VBox w2 (w.heap.size) a ma := (by first | exact VBox.keep hX2 hb2 | exact Blk.keep (box3' _ _ _ _).1 hb2)); (have hY2 : VBox w2 (w.heap.size + 1) b mb := (by first | exact VBox.keep hY2 hb2 | exact Blk.keep (box3' _ _ _ _).2.1 hb2)); (have hZ2 : YBox w2 (w.heap.size + 1 + 1) q := (by first | exact YBox.keep hZ2 hb2 | exact Blk.keep (box3' _ _ _ _).2.2 hb2)); (try clear x0 x1 x2 x3 x4 x5 x6 y0 y1 y2 y3 y4 y5 y6 z0 z1 z2 z3 z4 z5); obtain ⟨x0, x1, x2, x3, x4, x5, x6⟩ := hX2.facts; obtain ⟨y0, y1, y2, y3, y4, y5, y6⟩ := hY2.facts; obtain ⟨z0, z1, z2, z3, z4, z5⟩ := hZ2.facts) | (go_at_call 10; refine (G2.out _ hbw).mono ?_; rintro e w2 ⟨rfl, hb2⟩; clear G2; replace hbw := bstep hbw hb2; (have hX2 : VBox w2 (w.heap.size) a ma := (by first | exact VBox.keep hX2 hb2 | exact Blk.keep (box3' _ _ _ _).1 hb2)); (have hY2 : VBox w2 (w.heap.size + 1) b mb := (by first | exact VBox.keep hY2 hb2 | exact Blk.keep (box3' _ _ _ _).2.1 hb2)); (have hZ2 : YBox w2 (w.heap.size + 1 + 1) q := (by first | exact YBox.keep hZ2 hb2 | exact Blk.keep (box3' _ _ _ _).2.2 hb2)); (try clear x0 x1 x2 x3 x4 x5 x6 y0 y1 y2 y3 y4 y5 y6 z0 z1 z2 z3 z4 z5); obtain ⟨x0, x1, x2, x3, x4, x5, x6⟩ := hX2.facts; obtain ⟨y0, y1, y2, y3, y4, y5, y6⟩ := hY2.facts; obtain ⟨z0, z1, z2, z3, z4, z5⟩ := hZ2.facts) | (go_at_call 23; refine (G3.out _ hbw).mono ?_; rintro e w2 ⟨rfl, hb2⟩; clear G3; replace hbw := bstep hbw hb2; (have hX2 : VBox w2 (w.heap.size) a ma := (by first | exact VBox.keep hX2 hb2 | exact Blk.keep (box3' _ _ _ _).1 hb2)); (have hY2 : VBox w2 (w.heap.size + 1) b mb := (by first | exact VBox.keep hY2 hb2 | exact Blk.keep (box3' _ _ _ _).2.1 hb2)); (have hZ2 : YBox w2 (w.heap.size + 1 + 1) q := (by first | exact YBox.keep hZ2 hb2 | exact Blk.keep (box3' _ _ _ _).2.2 hb2)); (try clear x0 x1 x2 x3 x4 x5 x6 y0 y1 y2 y3 y4 y5 y6 z0 z1 z2 z3 z4 z5); obtain ⟨x0, x1, x2, x3, x4, x5, x6⟩ := hX2.facts; obtain ⟨y0, y1, y2, y3, y4, y5, y6⟩ := hY2.facts; obtain ⟨z0, z1, z2, z3, z4, z5⟩ := hZ2.facts) | (go_at_call 19; refine (G4.out _ hbw).mono ?_; rintro e w2 ⟨rfl, hb2⟩; clear G4; replace hbw := bstep hbw hb2; (have hX2 : VBox w2 (w.heap.size) a ma := (by first | exact VBox.keep hX2 hb2 | exact Blk.keep (box3' _ _ _ _).1 hb2)); (have hY2 : VBox w2 (w.heap.size + 1) b mb := (by first | exact VBox.keep hY2 hb2 | exact Blk.keep (box3' _ _ _ _).2.1 hb2)); (have hZ2 : YBox w2 (w.heap.size + 1 + 1) q := (by first | exact YBox.keep hZ2 hb2 | exact Blk.keep (box3' _ _ _ _).2.2 hb2)); (try clear x0 x1 x2 x3 x4 x5 x6 y0 y1 y2 y3 y4 y5 y6 z0 z1 z2 z3 z4 z5); obtain ⟨x0, x1, x2, x3, x4, x5, x6⟩ := hX2.facts; obtain ⟨y0, y1, y2, y3, y4, y5, y6⟩ := hY2.facts; obtain ⟨z0, z1, z2, z3, z4, z5⟩ := hZ2.facts) | (go_at_call 19; refine (G5.out _ hbw).mono ?_; rintro e w2 ⟨rfl, hb2⟩; clear G5; replace hbw := bstep hbw hb2; (have hX2 : VBox w2 (w.heap.size) a ma := (by first | exact VBox.keep hX2 hb2 | exact Blk.keep (box3' _ _ _ _).1 hb2)); (have hY2 : VBox w2 (w.heap.size + 1) b mb := (by first | exact VBox.keep hY2 hb2 | exact Blk.keep (box3' _ _ _ _).2.1 hb2)); (have hZ2 : YBox w2 (w.heap.size + 1 + 1) q := (by first | exact YBox.keep hZ2 hb2 | exact Blk.keep (box3' _ _ _ _).2.2 hb2)); (try clear x0 x1 x2 x3 x4 x5 x6 y0 y1 y2 y3 y4 y5 y6 z0 z1 z2 z3 z4 z5); obtain ⟨x0, x1, x2, x3, x4, x5, x6⟩ := hX2.facts; obtain ⟨y0, y1, y2, y3, y4, y5, y6⟩ := hY2.facts; obtain ⟨z0, z1, z2, z3, z4, z5⟩ := hZ2.facts) | (go_at_call 11; refine (san21_any _ (HE.out.keep hbw) (HT.out.keep hbw)).mono ?_; rintro e ws ⟨rfl, hbs⟩)); go_ret; exact ⟨rfl, bstep hbw hbs⟩)
  rw [hfq] at g3
  have fa := few_fits hfa
  have fb := few_fits hfb
  have fq := fewA_fits hfq
  have g4 := fun W (hb : Below w.heap.size w W) => condValid_any a ma W (hRa.keep hb) fa.p fa.cl fa.co fa.n1 fa.n2 fa.n3 (hE.keep hb)
  have g5 := fun W (hb : Below w.heap.size w W) => condValid_any b mb W (hRb.keep hb) fb.p fb.cl fb.co fb.n1 fb.n2 fb.n3 (hE.keep hb)
  cases hva : validC a
  · rw [hva] at g4
    have G1 := Lib.hid g1
    have G2 := Lib.hid g2
    have G3 := Lib.hid g3
    have G4 := Lib.hid g4
    clear g1 g2 g3 g4 g5 hE hT hfa hfb hfq fa fb fq hva
    unfold CondMem.val AskV.val at *
    (go_enter Tryz.func7, Tryz.ntmps7; go_wp2_with (first | (go_at_call 10; refine (G1.out _ (by (repeat (first | exact Below.refl _ _ | assumption | refine Below.drew ?_ | refine balloc ?_ _ | refine bdrewN ?_ _ | refine Below.setCell ?_ (by first | (simp; done) | (simp; omega)) _ | refine bstep ?_ (by assumption))))).mono ?_; rintro e w2 ⟨rfl, hb2⟩; clear G1; have hbw : Below w.heap.size w w2 := (by (repeat (first | exact Below.refl _ _ | assumption | refine Below.drew ?_ | refine balloc ?_ _ | refine bdrewN ?_ _ | refine Below.setCell ?_ (by first | (simp; done) | (simp; omega)) _ | refine bstep ?_ (by assumption)))); (have hX2 : VBox w2 (w.heap.size) a ma := (by first | exact VBox.keep hX2 hb2 | exact Blk.keep (box3' _ _ _ _).1 hb2)); (have hY2 : VBox w2 (w.heap.size + 1) b mb := (by first | exact VBox.keep hY2 hb2 | exact Blk.keep (box3' _ _ _ _).2.1 hb2)); (have hZ2 : YBox w2 (w.heap.size + 1 + 1) q := (by first | exact YBox.keep hZ2 hb2 | exact Blk.keep (box3' _ _ _ _).2.2 hb2)); (try clear x0 x1 x2 x3 x4 x5 x6 y0 y1 y2 y3 y4 y5 y6 z0 z1 z2 z3 z4 z5); obtain ⟨x0, x1, x2, x3, x4, x5, x6⟩ := hX2.facts; obtain ⟨y0, y1, y2, y3, y4, y5, y6⟩ := hY2.facts; obtain ⟨z0, z1, z2, z3, z4, z5⟩ := hZ2.facts) | (go_at_call 10; refine (G2.out _ hbw).mono ?_; rintro e w2 ⟨rfl, hb2⟩; clear G2; replace hbw := bstep hbw hb2; (have hX2 : VBox w2 (w.heap.size) a ma := (by first | exact VBox.keep hX2 hb2 | exact Blk.keep (box3' _ _ _ _).1 hb2)); (have hY2 : VBox w2 (w.heap.size + 1) b mb := (by first | exact VBox.keep hY2 hb2 | exact Blk.keep (box3' _ _ _ _).2.1 hb2)); (have hZ2 : YBox w2 (w.heap.size + 1 + 1) q := (by first | exact YBox.keep hZ2 hb2 | exact Blk.keep (box3' _ _ _ _).2.2 hb2)); (try clear x0 x1 x2 x3 x4 x5 x6 y0 y1 y2 y3 y4 y5 y6 z0 z1 z2 z3 z4 z5); obtain ⟨x0, x1, x2, x3, x4, x5, x6⟩ := hX2.facts; obtain ⟨y0, y1, y2, y3, y4, y5, y6⟩ := hY2.facts; obtain ⟨z0, z1, z2, z3, z4, z5⟩ := hZ2.facts) | (go_at_call 23; refine (G3.out _ hbw).mono ?_; rintro e w2 ⟨rfl, hb2⟩; clear G3; replace hbw := bstep hbw hb2; (have hX2 : VBox w2 (w.heap.size) a ma := (by first | exact VBox.keep hX2 hb2 | exact Blk.keep (box3' _ _ _ _).1 hb2)); (have hY2 : VBox w2 (w.heap.size + 1) b mb := (by first | exact VBox.keep hY2 hb2 | exact Blk.keep (box3' _ _ _ _).2.1 hb2)); (have hZ2 : YBox w2 (w.heap.size + 1 + 1) q := (by first | exact YBox.keep hZ2 hb2 | exact Blk.keep (box3' _ _ _ _).2.2 hb2)); (try clear x0 x1 x2 x3 x4 x5 x6 y0 y1 y2 y3 y4 y5 y6 z0 z1 z2 z3 z4 z5); obtain ⟨x0, x1, x2, x3, x4, x5, x6⟩ := hX2.facts; obtain ⟨y0, y1, y2, y3, y4, y5, y6⟩ := hY2.facts; obtain ⟨z0, z1, z2, z3, z4, z5⟩ := hZ2.facts) | (go_at_call 19; refine (G4.out _ hbw).mono ?_; rintro e w2 ⟨rfl, hb2⟩; clear G4; replace hbw := bstep hbw hb2; (have hX2 : VBox w2 (w.heap.size) a ma := (by first | exact VBox.keep hX2 hb2 | exact Blk.keep (box3' _ _ _ _).1 hb2)); (have hY2 : VBox w2 (w.heap.size + 1) b mb := (by first | exact VBox.keep hY2 hb2 | exact Blk.keep (box3' _ _ _ _).2.1 hb2)); (have hZ2 : YBox w2 (w.heap.size + 1 + 1) q := (by first | exact YBox.keep hZ2 hb2 | exact Blk.keep (box3' _ _ _ _).2.2 hb2)); (try clear x0 x1 x2 x3 x4 x5 x6 y0 y1 y2 y3 y4 y5 y6 z0 z1 z2 z3 z4 z5); obtain ⟨x0, x1, x2, x3, x4, x5, x6⟩ := hX2.facts; obtain ⟨y0, y1, y2, y3, y4, y5, y6⟩ := hY2.facts; obtain ⟨z0, z1, z2, z3, z4, z5⟩ := hZ2.facts) | (go_at_call 19; refine (G5.out _ hbw).mono ?_; rintro e w2 ⟨rfl, hb2⟩; clear G5; replace hbw := bstep hbw hb2; (have hX2 : VBox w2 (w.heap.size) a ma := (by first | exact VBox.keep hX2 hb2 | exact Blk.keep (box3' _ _ _ _).1 hb2)); (have hY2 : VBox w2 (w.heap.size + 1) b mb := (by first | exact VBox.keep hY2 hb2 | exact Blk.keep (box3' _ _ _ _).2.1 hb2)); (have hZ2 : YBox w2 (w.heap.size + 1 + 1) q := (by first | exact YBox.keep hZ2 hb2 | exact Blk.keep (box3' _ _ _ _).2.2 hb2)); (try clear x0 x1 x2 x3 x4 x5 x6 y0 y1 y2 y3 y4 y5 y6 z0 z1 z2 z3 z4 z5); obtain ⟨x0, x1, x2, x3, x4, x5, x6⟩ := hX2.facts; obtain ⟨y0, y1, y2, y3, y4, y5, y6⟩ := hY2.facts; obtain ⟨z0, z1, z2, z3, z4, z5⟩ := hZ2.facts) | (go_at_call 11; refine (san21_any _ (HE.out.keep hbw) (HT.out.keep hbw)).mono ?_; rintro e ws ⟨rfl, hbs⟩)); go_ret; exact ⟨rfl, bstep hbw hbs⟩)
  rw [hva] at g4
  cases hvb : validC b
  · rw [hvb] at g5
    have G1 := Lib.hid g1
    have G2 := Lib.hid g2
    have G3 := Lib.hid g3
    have G4 := Lib.hid g4
    have G5 := Lib.hid g5
    clear g1 g2 g3 g4 g5 hE hT hfa hfb hfq fa fb fq hva hvb
    unfold CondMem.val AskV.val at *
    (go_enter Tryz.func7, Tryz.ntmps7; go_wp2_with (first | (go_at_call 10; refine (G1.out _ (by (repeat (first | exact Below.refl _ _ | assumption | refine Below.drew ?_ | refine balloc ?_ _ | refine bdrewN ?_ _ | refine Below.setCell ?_ (by first | (simp; done) | (simp; omega)) _ | refine bstep ?_ (by assumption))))).mono ?_; rintro e w2 ⟨rfl, hb2⟩; clear G1; have hbw : Below w.heap.size w w2 := (by (repeat (first | exact Below.refl _ _ | assumption | refine Below.drew ?_ | refine balloc ?_ _ | refine bdrewN ?_ _ | refine Below.setCell ?_ (by first | (simp; done) | (simp; omega)) _ | refine bstep ?_ (by assumption)))); (have hX2 : VBox w2 (w.heap.size) a ma := (by first | exact VBox.keep hX2 hb2 | exact Blk.keep (box3' _ _ _ _).1 hb2)); (have hY2 : VBox w2 (w.heap.size + 1) b mb := (by first | exact VBox.keep hY2 hb2 | exact Blk.keep (box3' _ _ _ _).2.1 hb2)); (have hZ2 : YBox w2 (w.heap.size + 1 + 1) q := (by first | exact YBox.keep hZ2 hb2 | exact Blk.keep (box3' _ _ _ _).2.2 hb2)); (try clear x0 x1 x2 x3 x4 x5 x6 y0 y1 y2 y3 y4 y5 y6 z0 z1 z2 z3 z4 z5); obtain ⟨x0, x1, x2, x3, x4, x5, x6⟩ := hX2.facts; obtain ⟨y0, y1, y2, y3, y4, y5, y6⟩ := hY2.facts; obtain ⟨z0, z1, z2, z3, z4, z5⟩ := hZ2.facts) | (go_at_call 10; refine (G2.out _ hbw).mono ?_; rintro e w2 ⟨rfl, hb2⟩; clear G2; replace hbw := bstep hbw hb2; (have hX2 : VBox w2 (w.heap.size) a ma := (by first | exact VBox.keep hX2 hb2 | exact Blk.keep (box3' _ _ _ _).1 hb2)); (have hY2 : VBox w2 (w.heap.size + 1) b mb := (by first | exact VBox.keep hY2 hb2 | exact Blk.keep (box3' _ _ _ _).2.1 hb2)); (have hZ2 : YBox w2 (w.heap.size + 1 + 1) q := (by first | exact YBox.keep hZ2 hb2 | exact Blk.keep (box3' _ _ _ _).2.2 hb2)); (try clear x0 x1 x2 x3 x4 x5 x6 y0 y1 y2 y3 y4 y5 y6 z0 z1 z2 z3 z4 z5); obtain ⟨x0, x1, x2, x3, x4, x5, x6⟩ := hX2.facts; obtain ⟨y0, y1, y2, y3, y4, y5, y6⟩ := hY2.facts; obtain ⟨z0, z1, z2, z3, z4, z5⟩ := hZ2.facts) | (go_at_call 23; refine (G3.out _ hbw).mono ?_; rintro e w2 ⟨rfl, hb2⟩; clear G3; replace hbw := bstep hbw hb2; (have hX2 : VBox w2 (w.heap.size) a ma := (by first | exact VBox.keep hX2 hb2 | exact Blk.keep (box3' _ _ _ _).1 hb2)); (have hY2 : VBox w2 (w.heap.size + 1) b mb := (by first | exact VBox.keep hY2 hb2 | exact Blk.keep (box3' _ _ _ _).2.1 hb2)); (have hZ2 : YBox w2 (w.heap.size + 1 + 1) q := (by first | exact YBox.keep hZ2 hb2 | exact Blk.keep (box3' _ _ _ _).2.2 hb2)); (try clear x0 x1 x2 x3 x4 x5 x6 y0 y1 y2 y3 y4 y5 y6 z0 z1 z2 z3 z4 z5); obtain ⟨x0, x1, x2, x3, x4, x5, x6⟩ := hX2.facts; obtain ⟨y0, y1, y2, y3, y4, y5, y6⟩ := hY2.facts; obtain ⟨z0, z1, z2, z3, z4, z5⟩ := hZ2.facts) | (go_at_call 19; refine (G4.out _ hbw).mono ?_; rintro e w2 ⟨rfl, hb2⟩; clear G4; replace hbw := bstep hbw hb2; (have hX2 : VBox w2 (w.heap.size) a ma := (by first | exact VBox.keep hX2 hb2 | exact Blk.keep (box3' _ _ _ _).1 hb2)); (have hY2 : VBox w2 (w.heap.size + 1) b mb := (by first | exact VBox.keep hY2 hb2 | exact Blk.keep (box3' _ _ _ _).2.1 hb2)); (have hZ2 : YBox w2 (w.heap.size + 1 + 1) q := (by first | exact YBox.keep hZ2 hb2 | exact Blk.keep (box3' _ _ _ _).2.2 hb2)); (try clear x0 x1 x2 x3 x4 x5 x6 y0 y1 y2 y3 y4 y5 y6 z0 z1 z2 z3 z4 z5); obtain ⟨x0, x1, x2, x3, x4, x5, x6⟩ := hX2.facts; obtain ⟨y0, y1, y2, y3, y4, y5, y6⟩ := hY2.facts; obtain ⟨z0, z1, z2, z3, z4, z5⟩ := hZ2.facts) | (go_at_call 19; refine (G5.out _ hbw).mono ?_; rintro e w2 ⟨rfl, hb2⟩; clear G5; replace hbw := bstep hbw hb2; (have hX2 : VBox w2 (w.heap.size) a ma := (by first | exact VBox.keep hX2 hb2 | exact Blk.keep (box3' _ _ _ _).1 hb2)); (have hY2 : VBox w2 (w.heap.size + 1) b mb := (by first | exact VBox.keep hY2 hb2 | exact Blk.keep (box3' _ _ _ _).2.1 hb2)); (have hZ2 : YBox w2 (w.heap.size + 1 + 1) q := (by first | exact YBox.keep hZ2 hb2 | exact Blk.keep (box3' _ _ _ _).2.2 hb2)); (try clear x0 x1 x2 x3 x4 x5 x6 y0 y1 y2 y3 y4 y5 y6 z0 z1 z2 z3 z4 z5); obtain ⟨x0, x1, x2, x3, x4, x5, x6⟩ := hX2.facts; obtain ⟨y0, y1, y2, y3, y4, y5, y6⟩ := hY2.facts; obtain ⟨z0, z1, z2, z3, z4, z5⟩ := hZ2.facts) | (go_at_call 11; refine (san21_any _ (HE.out.keep hbw) (HT.out.keep hbw)).mono ?_; rintro e ws ⟨rfl, hbs⟩)); go_ret; exact ⟨rfl, bstep hbw hbs⟩)
  rw [hvb] at g5
  have oka := (valid_iff a).1 hva
  have okb := (valid_iff b).1 hvb
  have m1 := fun W (hb : Below w.heap.size w W) => imp_any a b ma mb W (hRa.keep hb) (hRb.keep hb) fa fb hva hvb (hE.keep hb)
  obtain ⟨hi1, hi2⟩ := imp_exact oka okb
  have h1 := fun W (hb : Below w.heap.size w W) => holds_any a ma q W (hRa.keep hb) fa fq (hE.keep hb)
  have h2 := fun W (hb : Below w.heap.size w W) => holds_any b mb q W (hRb.keep hb) fb fq (hE.keep hb)
  have h3 := fun s (hs : AskFits s) W (hb : Below w.heap.size w W) => holds_any a ma s W (hRa.keep hb) fa hs (hE.keep hb)
  have h4 := fun s (hs : AskFits s) W (hb : Below w.heap.size w W) => holds_any b mb s W (hRb.keep hb) fb hs (hE.keep hb)
  have hih := fun h => imp_holds oka okb (hi1 ▸ h) q
  generalize (impR a b).1 = is at *
  generalize (impR a b).2 = s at *
  unfold impV at m1
  have G1 := Lib.hid g1; have G2 := Lib.hid g2; have G3 := Lib.hid g3; have G4 := Lib.hid g4; have G5 := Lib.hid g5
  have M1 := Lib.hid m1
  clear g1 g2 g3 g4 g5 m1 hi1
  cases is
  · obtain ⟨k1, k2⟩ := hi2 rfl
    have hs := holds_fits k1
    have H1 := Lib.hid (k1 ▸ h3 s hs)
    have H2 := Lib.hid (k2 ▸ h4 s hs)
    clear h1 h2 h3 h4 hih hi2 k1 k2 hs oka okb hva hvb fa fb fq hfa hfb hfq hRa hRb hE hT
    unfold CondMem.val AskV.val at *
    go_enter Tryz.func7, Tryz.ntmps7
    go_wp2_with (first | (go_at_call 10; refine (G1.out _ (by (repeat (first | exact Below.refl _ _ | assumption | refine Below.drew ?_ | refine balloc ?_ _ | refine bdrewN ?_ _ | refine Below.setCell ?_ (by first | (simp; done) | (simp; omega)) _ | refine bstep ?_ (by assumption))))).mono ?_; rintro e w2 ⟨rfl, hb2⟩; clear G1; have hbw : Below w.heap.size w w2 := (by (repeat (first | exact Below.refl _ _ | assumption | refine Below.drew ?_ | refine balloc ?_ _ | refine bdrewN ?_ _ | refine Below.setCell ?_ (by first | (simp; done) | (simp; omega)) _ | refine bstep ?_ (by assumption)))); (have hX2 : VBox w2 (w.heap.size) a ma := (by first | exact VBox.keep hX2 hb2 | exact Blk.keep (box3' _ _ _ _).1 hb2)); (have hY2 : VBox w2 (w.heap.size + 1) b mb := (by first | exact VBox.keep hY2 hb2 | exact Blk.keep (box3' _ _ _ _).2.1 hb2)); (have hZ2 : YBox w2 (w.heap.size + 1 + 1) q := (by first | exact YBox.keep hZ2 hb2 | exact Blk.keep (box3' _ _ _ _).2.2 hb2)); (try clear x0 x1 x2 x3 x4 x5 x6 y0 y1 y2 y3 y4 y5 y6 z0 z1 z2 z3 z4 z5); obtain ⟨x0, x1, x2, x3, x4, x5, x6⟩ := hX2.facts; obtain ⟨y0, y1, y2, y3, y4, y5, y6⟩ := hY2.facts; obtain ⟨z0, z1, z2, z3, z4, z5⟩ := hZ2.facts) | (go_at_call 10; refine (G2.out _ hbw).mono ?_; rintro e w2 ⟨rfl, hb2⟩; clear G2; replace hbw := bstep hbw hb2; (have hX2 : VBox w2 (w.heap.size) a ma := (by first | exact VBox.keep hX2 hb2 | exact Blk.keep (box3' _ _ _ _).1 hb2)); (have hY2 : VBox w2 (w.heap.size + 1) b mb := (by first | exact VBox.keep hY2 hb2 | exact Blk.keep (box3' _ _ _ _).2.1 hb2)); (have hZ2 : YBox w2 (w.heap.size + 1 + 1) q := (by first | exact YBox.keep hZ2 hb2 | exact Blk.keep (box3' _ _ _ _).2.2 hb2)); (try clear x0 x1 x2 x3 x4 x5 x6 y0 y1 y2 y3 y4 y5 y6 z0 z1 z2 z3 z4 z5); obtain ⟨x0, x1, x2, x3, x4, x5, x6⟩ := hX2.facts; obtain ⟨y0, y1, y2, y3, y4, y5, y6⟩ := hY2.facts; obtain ⟨z0, z1, z2, z3, z4, z5⟩ := hZ2.facts) | (go_at_call 23; refine (G3.out _ hbw).mono ?_; rintro e w2 ⟨rfl, hb2⟩; clear G3; replace hbw := bstep hbw hb2; (have hX2 : VBox w2 (w.heap.size) a ma := (by first | exact VBox.keep hX2 hb2 | exact Blk.keep (box3' _ _ _ _).1 hb2)); (have hY2 : VBox w2 (w.heap.size + 1) b mb := (by first | exact VBox.keep hY2 hb2 | exact Blk.keep (box3' _ _ _ _).2.1 hb2)); (have hZ2 : YBox w2 (w.heap.size + 1 + 1) q := (by first | exact YBox.keep hZ2 hb2 | exact Blk.keep (box3' _ _ _ _).2.2 hb2)); (try clear x0 x1 x2 x3 x4 x5 x6 y0 y1 y2 y3 y4 y5 y6 z0 z1 z2 z3 z4 z5); obtain ⟨x0, x1, x2, x3, x4, x5, x6⟩ := hX2.facts; obtain ⟨y0, y1, y2, y3, y4, y5, y6⟩ := hY2.facts; obtain ⟨z0, z1, z2, z3, z4, z5⟩ := hZ2.facts) | (go_at_call 19; refine (G4.out _ hbw).mono ?_; rintro e w2 ⟨rfl, hb2⟩; clear G4; replace hbw := bstep hbw hb2; (have hX2 : VBox w2 (w.heap.size) a ma := (by first | exact VBox.keep hX2 hb2 | exact Blk.keep (box3' _ _ _ _).1 hb2)); (have hY2 : VBox w2 (w.heap.size + 1) b mb := (by first | exact VBox.keep hY2 hb2 | exact Blk.keep (box3' _ _ _ _).2.1 hb2)); (have hZ2 : YBox w2 (w.heap.size + 1 + 1) q := (by first | exact YBox.keep hZ2 hb2 | exact Blk.keep (box3' _ _ _ _).2.2 hb2)); (try clear x0 x1 x2 x3 x4 x5 x6 y0 y1 y2 y3 y4 y5 y6 z0 z1 z2 z3 z4 z5); obtain ⟨x0, x1, x2, x3, x4, x5, x6⟩ := hX2.facts; obtain ⟨y0, y1, y2, y3, y4, y5, y6⟩ := hY2.facts; obtain ⟨z0, z1, z2, z3, z4, z5⟩ := hZ2.facts) | (go_at_call 19; refine (G5.out _ hbw).mono ?_; rintro e w2 ⟨rfl, hb2⟩; clear G5; replace hbw := bstep hbw hb2; (have hX2 : VBox w2 (w.heap.size) a ma := (by first | exact VBox.keep hX2 hb2 | exact Blk.keep (box3' _ _ _ _).1 hb2)); (have hY2 : VBox w2 (w.heap.size + 1) b mb := (by first | exact VBox.keep hY2 hb2 | exact Blk.keep (box3' _ _ _ _).2.1 hb2)); (have hZ2 : YBox w2 (w.heap.size + 1 + 1) q := (by first | exact YBox.keep hZ2 hb2 | exact Blk.keep (box3' _ _ _ _).2.2 hb2)); (try clear x0 x1 x2 x3 x4 x5 x6 y0 y1 y2 y3 y4 y5 y6 z0 z1 z2 z3 z4 z5); obtain ⟨x0, x1, x2, x3, x4, x5, x6⟩ := hX2.facts; obtain ⟨y0, y1, y2, y3, y4, y5, y6⟩ := hY2.facts; obtain ⟨z0, z1, z2, z3, z4, z5⟩ := hZ2.facts))
    have hbw2 := hbw
    clear hbw hb2 x0 x1 x2 x3 x4 x5 x6 y0 y1 y2 y3 y4 y5 y6 z0 z1 z2 z3 z4 z5
    refine (M1.out _ hbw2).mono ?_; rintro e w3 ⟨rfl, hb3⟩
    have hbw3 := bstep hbw2 (hb3)
    have hX3 : VBox w3 (w.heap.size) a ma := hX2.keep (hb3)
    have hY3 : VBox w3 (w.heap.size + 1) b mb := hY2.keep (hb3)
    have hZ3 : YBox w3 (w.heap.size + 1 + 1) q := hZ2.keep (hb3)
    clear hb3 hbw2 hX2 hY2 hZ2 
    dsimp only
    obtain ⟨x0, x1, x2, x3, x4, x5, x6⟩ := hX3.facts
    have lx := Blk.lt hX3
    obtain ⟨y0, y1, y2, y3, y4, y5, y6⟩ := hY3.facts
    have ly := Blk.lt hY3
    obtain ⟨z0, z1, z2, z3, z4, z5⟩ := hZ3.facts
    have lz := Blk.lt hZ3
    go_wp2_with fail
    clear x0 x1 x2 x3 x4 x5 x6 y0 y1 y2 y3 y4 y5 y6 z0 z1 z2 z3 z4 z5 lx ly lz
    refine (san21_any _ (HE.out.keep (by (repeat (first | exact Below.refl _ _ | assumption | refine Below.drew ?_ | refine balloc ?_ _ | refine bdrewN ?_ _ | refine Below.setCell ?_ (by first | (simp; done) | (simp; omega)) _ | refine bstep ?_ (by assumption))))) (HT.out.keep (by (repeat (first | exact Below.refl _ _ | assumption | refine Below.drew ?_ | refine balloc ?_ _ | refine bdrewN ?_ _ | refine Below.setCell ?_ (by first | (simp; done) | (simp; omega)) _ | refine bstep ?_ (by assumption)))))).mono ?_; rintro e w4 ⟨rfl, hb4⟩
    have hbw4 := bstep hbw3 (blater _ hb4)
    have hX4 : VBox w4 (w.heap.size) a ma := hX3.keep (blater _ hb4)
    have hY4 : VBox w4 (w.heap.size + 1) b mb := hY3.keep (blater _ hb4)
    have hZ4 : YBox w4 (w.heap.size + 1 + 1) q := hZ3.keep (blater _ hb4)
    have hS4 : YBox w4 (w3.heap.size) s := Blk.keep (World.alloc_heap_new _ _) hb4
    clear hb4 hbw3 hX3 hY3 hZ3 
    obtain ⟨x0, x1, x2, x3, x4, x5, x6⟩ := hX4.facts
    have lx := Blk.lt hX4
    obtain ⟨y0, y1, y2, y3, y4, y5, y6⟩ := hY4.facts
    have ly := Blk.lt hY4
    obtain ⟨z0, z1, z2, z3, z4, z5⟩ := hZ4.facts
    have lz := Blk.lt hZ4
    obtain ⟨s0, s1, s2, s3, s4, s5⟩ := hS4.facts
    have ls := Blk.lt hS4
    go_wp2_with fail
    clear x0 x1 x2 x3 x4 x5 x6 y0 y1 y2 y3 y4 y5 y6 z0 z1 z2 z3 z4 z5 s0 s1 s2 s3 s4 s5 lx ly lz ls
    refine (H1.out _ (by (repeat (first | exact Below.refl _ _ | assumption | refine Below.drew ?_ | refine balloc ?_ _ | refine bdrewN ?_ _ | refine Below.setCell ?_ (by first | (simp; done) | (simp; omega)) _ | refine bstep ?_ (by assumption))))).mono ?_; rintro e w5 ⟨rfl, hb5⟩
    have hbw5 := bstep hbw4 (hb5)
    have hX5 : VBox w5 (w.heap.size) a ma := hX4.keep (hb5)
    have hY5 : VBox w5 (w.heap.size + 1) b mb := hY4.keep (hb5)
    have hZ5 : YBox w5 (w.heap.size + 1 + 1) q := hZ4.keep (hb5)
    have hS5 : YBox w5 (w3.heap.size) s := hS4.keep (hb5)
    clear hb5 hbw4 hX4 hY4 hZ4 hS4 
    obtain ⟨x0, x1, x2, x3, x4, x5, x6⟩ := hX5.facts
    have lx := Blk.lt hX5
    obtain ⟨y0, y1, y2, y3, y4, y5, y6⟩ := hY5.facts
    have ly := Blk.lt hY5
    obtain ⟨z0, z1, z2, z3, z4, z5⟩ := hZ5.facts
    have lz := Blk.lt hZ5
    obtain ⟨s0, s1, s2, s3, s4, s5⟩ := hS5.facts
    have ls := Blk.lt hS5
    go_wp2_with fail
    clear x0 x1 x2 x3 x4 x5 x6 y0 y1 y2 y3 y4 y5 y6 z0 z1 z2 z3 z4 z5 s0 s1 s2 s3 s4 s5 lx ly lz ls
    refine (H2.out _ (by (repeat (first | exact Below.refl _ _ | assumption | refine Below.drew ?_ | refine balloc ?_ _ | refine bdrewN ?_ _ | refine Below.setCell ?_ (by first | (simp; done) | (simp; omega)) _ | refine bstep ?_ (by assumption))))).mono ?_; rintro e w6 ⟨rfl, hb6⟩
    have hbw6 := bstep hbw5 (hb6)
    have hX6 : VBox w6 (w.heap.size) a ma := hX5.keep (hb6)
    have hY6 : VBox w6 (w.heap.size + 1) b mb := hY5.keep (hb6)
    have hZ6 : YBox w6 (w.heap.size + 1 + 1) q := hZ5.keep (hb6)
    have hS6 : YBox w6 (w3.heap.size) s := hS5.keep (hb6)
    clear hb6 hbw5 hX5 hY5 hZ5 hS5 
    go_wp2_with fail
    go_ret
    exact ⟨rfl, hbw6⟩
  · have hih := hih rfl
    clear hi2 h3 h4 oka okb hva hvb fa fb fq hfa hfb hfq hRa hRb hE hT
    generalize holdsC a q = p1 at *
    generalize holdsC b q = p2 at *
    cases p1
    · have H1 := Lib.hid h1
      clear h1 h2 hih
      unfold CondMem.val AskV.val at *
      go_enter Tryz.func7, Tryz.ntmps7
      go_wp2_with (first | (go_at_call 10; refine (G1.out _ (by (repeat (first | exact Below.refl _ _ | assumption | refine Below.drew ?_ | refine balloc ?_ _ | refine bdrewN ?_ _ | refine Below.setCell ?_ (by first | (simp; done) | (simp; omega)) _ | refine bstep ?_ (by assumption))))).mono ?_; rintro e w2 ⟨rfl, hb2⟩; clear G1; have hbw : Below w.heap.size w w2 := (by (repeat (first | exact Below.refl _ _ | assumption | refine Below.drew ?_ | refine balloc ?_ _ | refine bdrewN ?_ _ | refine Below.setCell ?_ (by first | (simp; done) | (simp; omega)) _ | refine bstep ?_ (by assumption)))); (have hX2 : VBox w2 (w.heap.size) a ma := (by first | exact VBox.keep hX2 hb2 | exact Blk.keep (box3' _ _ _ _).1 hb2)); (have hY2 : VBox w2 (w.heap.size + 1) b mb := (by first | exact VBox.keep hY2 hb2 | exact Blk.keep (box3' _ _ _ _).2.1 hb2)); (have hZ2 : YBox w2 (w.heap.size + 1 + 1) q := (by first | exact YBox.keep hZ2 hb2 | exact Blk.keep (box3' _ _ _ _).2.2 hb2)); (try clear x0 x1 x2 x3 x4 x5 x6 y0 y1 y2 y3 y4 y5 y6 z0 z1 z2 z3 z4 z5); obtain ⟨x0, x1, x2, x3, x4, x5, x6⟩ := hX2.facts; obtain ⟨y0, y1, y2, y3, y4, y5, y6⟩ := hY2.facts; obtain ⟨z0, z1, z2, z3, z4, z5⟩ := hZ2.facts) | (go_at_call 10; refine (G2.out _ hbw).mono ?_; rintro e w2 ⟨rfl, hb2⟩; clear G2; replace hbw := bstep hbw hb2; (have hX2 : VBox w2 (w.heap.size) a ma := (by first | exact VBox.keep hX2 hb2 | exact Blk.keep (box3' _ _ _ _).1 hb2)); (have hY2 : VBox w2 (w.heap.size + 1) b mb := (by first | exact VBox.keep hY2 hb2 | exact Blk.keep (box3' _ _ _ _).2.1 hb2)); (have hZ2 : YBox w2 (w.heap.size + 1 + 1) q := (by first | exact YBox.keep hZ2 hb2 | exact Blk.keep (box3' _ _ _ _).2.2 hb2)); (try clear x0 x1 x2 x3 x4 x5 x6 y0 y1 y2 y3 y4 y5 y6 z0 z1 z2 z3 z4 z5); obtain ⟨x0, x1, x2, x3, x4, x5, x6⟩ := hX2.facts; obtain ⟨y0, y1, y2, y3, y4, y5, y6⟩ := hY2.facts; obtain ⟨z0, z1, z2, z3, z4, z5⟩ := hZ2.facts) | (go_at_call 23; refine (G3.out _ hbw).mono ?_; rintro e w2 ⟨rfl, hb2⟩; clear G3; replace hbw := bstep hbw hb2; (have hX2 : VBox w2 (w.heap.size) a ma := (by first | exact VBox.keep hX2 hb2 | exact Blk.keep (box3' _ _ _ _).1 hb2)); (have hY2 : VBox w2 (w.heap.size + 1) b mb := (by first | exact VBox.keep hY2 hb2 | exact Blk.keep (box3' _ _ _ _).2.1 hb2)); (have hZ2 : YBox w2 (w.heap.size + 1 + 1) q := (by first | exact YBox.keep hZ2 hb2 | exact Blk.keep (box3' _ _ _ _).2.2 hb2)); (try clear x0 x1 x2 x3 x4 x5 x6 y0 y1 y2 y3 y4 y5 y6 z0 z1 z2 z3 z4 z5); obtain ⟨x0, x1, x2, x3, x4, x5, x6⟩ := hX2.facts; obtain ⟨y0, y1, y2, y3, y4, y5, y6⟩ := hY2.facts; obtain ⟨z0, z1, z2, z3, z4, z5⟩ := hZ2.facts) | (go_at_call 19; refine (G4.out _ hbw).mono ?_; rintro e w2 ⟨rfl, hb2⟩; clear G4; replace hbw := bstep hbw hb2; (have hX2 : VBox w2 (w.heap.size) a ma := (by first | exact VBox.keep hX2 hb2 | exact Blk.keep (box3' _ _ _ _).1 hb2)); (have hY2 : VBox w2 (w.heap.size + 1) b mb := (by first | exact VBox.keep hY2 hb2 | exact Blk.keep (box3' _ _ _ _).2.1 hb2)); (have hZ2 : YBox w2 (w.heap.size + 1 + 1) q := (by first | exact YBox.keep hZ2 hb2 | exact Blk.keep (box3' _ _ _ _).2.2 hb2)); (try clear x0 x1 x2 x3 x4 x5 x6 y0 y1 y2 y3 y4 y5 y6 z0 z1 z2 z3 z4 z5); obtain ⟨x0, x1, x2, x3, x4, x5, x6⟩ := hX2.facts; obtain ⟨y0, y1, y2, y3, y4, y5, y6⟩ := hY2.facts; obtain ⟨z0, z1, z2, z3, z4, z5⟩ := hZ2.facts) | (go_at_call 19; refine (G5.out _ hbw).mono ?_; rintro e w2 ⟨rfl, hb2⟩; clear G5; replace hbw := bstep hbw hb2; (have hX2 : VBox w2 (w.heap.size) a ma := (by first | exact VBox.keep hX2 hb2 | exact Blk.keep (box3' _ _ _ _).1 hb2)); (have hY2 : VBox w2 (w.heap.size + 1) b mb := (by first | exact VBox.keep hY2 hb2 | exact Blk.keep (box3' _ _ _ _).2.1 hb2)); (have hZ2 : YBox w2 (w.heap.size + 1 + 1) q := (by first | exact YBox.keep hZ2 hb2 | exact Blk.keep (box3' _ _ _ _).2.2 hb2)); (try clear x0 x1 x2 x3 x4 x5 x6 y0 y1 y2 y3 y4 y5 y6 z0 z1 z2 z3 z4 z5); obtain ⟨x0, x1, x2, x3, x4, x5, x6⟩ := hX2.facts; obtain ⟨y0, y1, y2, y3, y4, y5, y6⟩ := hY2.facts; obtain ⟨z0, z1, z2, z3, z4, z5⟩ := hZ2.facts))
      have hbw2 := hbw
      clear hbw hb2 x0 x1 x2 x3 x4 x5 x6 y0 y1 y2 y3 y4 y5 y6 z0 z1 z2 z3 z4 z5
      refine (M1.out _ hbw2).mono ?_; rintro e w3 ⟨rfl, hb3⟩
      have hbw3 := bstep hbw2 (hb3)
      have hX3 : VBox w3 (w.heap.size) a ma := hX2.keep (hb3)
      have hY3 : VBox w3 (w.heap.size + 1) b mb := hY2.keep (hb3)
      have hZ3 : YBox w3 (w.heap.size + 1 + 1) q := hZ2.keep (hb3)
      clear hb3 hbw2 hX2 hY2 hZ2 
      dsimp only
      obtain ⟨x0, x1, x2, x3, x4, x5, x6⟩ := hX3.facts
      have lx := Blk.lt hX3
      obtain ⟨y0, y1, y2, y3, y4, y5, y6⟩ := hY3.facts
      have ly := Blk.lt hY3
      obtain ⟨z0, z1, z2, z3, z4, z5⟩ := hZ3.facts
      have lz := Blk.lt hZ3
      go_wp2_with fail
      clear x0 x1 x2 x3 x4 x5 x6 y0 y1 y2 y3 y4 y5 y6 z0 z1 z2 z3 z4 z5 lx ly lz
      refine (san21_any _ (HE.out.keep (by (repeat (first | exact Below.refl _ _ | assumption | refine Below.drew ?_ | refine balloc ?_ _ | refine bdrewN ?_ _ | refine Below.setCell ?_ (by first | (simp; done) | (simp; omega)) _ | refine bstep ?_ (by assumption))))) (HT.out.keep (by (repeat (first | exact Below.refl _ _ | assumption | refine Below.drew ?_ | refine balloc ?_ _ | refine bdrewN ?_ _ | refine Below.setCell ?_ (by first | (simp; done) | (simp; omega)) _ | refine bstep ?_ (by assumption)))))).mono ?_; rintro e w4 ⟨rfl, hb4⟩
      have hbw4 := bstep hbw3 (blater _ hb4)
      have hX4 : VBox w4 (w.heap.size) a ma := hX3.keep (blater _ hb4)
      have hY4 : VBox w4 (w.heap.size + 1) b mb := hY3.keep (blater _ hb4)
      have hZ4 : YBox w4 (w.heap.size + 1 + 1) q := hZ3.keep (blater _ hb4)
      have hS4 : YBox w4 (w3.heap.size) s := Blk.keep (World.alloc_heap_new _ _) hb4
      clear hb4 hbw3 hX3 hY3 hZ3 
      obtain ⟨x0, x1, x2, x3, x4, x5, x6⟩ := hX4.facts
      have lx := Blk.lt hX4
      obtain ⟨y0, y1, y2, y3, y4, y5, y6⟩ := hY4.facts
      have ly := Blk.lt hY4
      obtain ⟨z0, z1, z2, z3, z4, z5⟩ := hZ4.facts
      have lz := Blk.lt hZ4
      obtain ⟨s0, s1, s2, s3, s4, s5⟩ := hS4.facts
      have ls := Blk.lt hS4
      go_wp2_with fail
      clear x0 x1 x2 x3 x4 x5 x6 y0 y1 y2 y3 y4 y5 y6 z0 z1 z2 z3 z4 z5 s0 s1 s2 s3 s4 s5 lx ly lz ls
      refine (H1.out _ (by (repeat (first | exact Below.refl _ _ | assumption | refine Below.drew ?_ | refine balloc ?_ _ | refine bdrewN ?_ _ | refine Below.setCell ?_ (by first | (simp; done) | (simp; omega)) _ | refine bstep ?_ (by assumption))))).mono ?_; rintro e w5 ⟨rfl, hb5⟩
      have hbw5 := bstep hbw4 (hb5)
      have hX5 : VBox w5 (w.heap.size) a ma := hX4.keep (hb5)
      have hY5 : VBox w5 (w.heap.size + 1) b mb := hY4.keep (hb5)
      have hZ5 : YBox w5 (w.heap.size + 1 + 1) q := hZ4.keep (hb5)
      have hS5 : YBox w5 (w3.heap.size) s := hS4.keep (hb5)
      clear hb5 hbw4 hX4 hY4 hZ4 hS4 
      go_wp2_with fail
      go_ret
      exact ⟨rfl, hbw5⟩
    · obtain rfl : p2 = true := hih rfl
      have H1 := Lib.hid h1
      have H2 := Lib.hid h2
      clear h1 h2 hih
      unfold CondMem.val AskV.val at *
      go_enter Tryz.func7, Tryz.ntmps7
      go_wp2_with (first | (go_at_call 10; refine (G1.out _ (by (repeat (first | exact Below.refl _ _ | assumption | refine Below.drew ?_ | refine balloc ?_ _ | refine bdrewN ?_ _ | refine Below.setCell ?_ (by first | (simp; done) | (simp; omega)) _ | refine bstep ?_ (by assumption))))).mono ?_; rintro e w2 ⟨rfl, hb2⟩; clear G1; have hbw : Below w.heap.size w w2 := (by (repeat (first | exact Below.refl _ _ | assumption | refine Below.drew ?_ | refine balloc ?_ _ | refine bdrewN ?_ _ | refine Below.setCell ?_ (by first | (simp; done) | (simp; omega)) _ | refine bstep ?_ (by assumption)))); (have hX2 : VBox w2 (w.heap.size) a ma := (by first | exact VBox.keep hX2 hb2 | exact Blk.keep (box3' _ _ _ _).1 hb2)); (have hY2 : VBox w2 (w.heap.size + 1) b mb := (by first | exact VBox.keep hY2 hb2 | exact Blk.keep (box3' _ _ _ _).2.1 hb2)); (have hZ2 : YBox w2 (w.heap.size + 1 + 1) q := (by first | exact YBox.keep hZ2 hb2 | exact Blk.keep (box3' _ _ _ _).2.2 hb2)); (try clear x0 x1 x2 x3 x4 x5 x6 y0 y1 y2 y3 y4 y5 y6 z0 z1 z2 z3 z4 z5); obtain ⟨x0, x1, x2, x3, x4, x5, x6⟩ := hX2.facts; obtain ⟨y0, y1, y2, y3, y4, y5, y6⟩ := hY2.facts; obtain ⟨z0, z1, z2, z3, z4, z5⟩ := hZ2.facts) | (go_at_call 10; refine (G2.out _ hbw).mono ?_; rintro e w2 ⟨rfl, hb2⟩; clear G2; replace hbw := bstep hbw hb2; (have hX2 : VBox w2 (w.heap.size) a ma := (by first | exact VBox.keep hX2 hb2 | exact Blk.keep (box3' _ _ _ _).1 hb2)); (have hY2 : VBox w2 (w.heap.size + 1) b mb := (by first | exact VBox.keep hY2 hb2 | exact Blk.keep (box3' _ _ _ _).2.1 hb2)); (have hZ2 : YBox w2 (w.heap.size + 1 + 1) q := (by first | exact YBox.keep hZ2 hb2 | exact Blk.keep (box3' _ _ _ _).2.2 hb2)); (try clear x0 x1 x2 x3 x4 x5 x6 y0 y1 y2 y3 y4 y5 y6 z0 z1 z2 z3 z4 z5); obtain ⟨x0, x1, x2, x3, x4, x5, x6⟩ := hX2.facts; obtain ⟨y0, y1, y2, y3, y4, y5, y6⟩ := hY2.facts; obtain ⟨z0, z1, z2, z3, z4, z5⟩ := hZ2.facts) | (go_at_call 23; refine (G3.out _ hbw).mono ?_; rintro e w2 ⟨rfl, hb2⟩; clear G3; replace hbw := bstep hbw hb2; (have hX2 : VBox w2 (w.heap.size) a ma := (by first | exact VBox.keep hX2 hb2 | exact Blk.keep (box3' _ _ _ _).1 hb2)); (have hY2 : VBox w2 (w.heap.size + 1) b mb := (by first | exact VBox.keep hY2 hb2 | exact Blk.keep (box3' _ _ _ _).2.1 hb2)); (have hZ2 : YBox w2 (w.heap.size + 1 + 1) q := (by first | exact YBox.keep hZ2 hb2 | exact Blk.keep (box3' _ _ _ _).2.2 hb2)); (try clear x0 x1 x2 x3 x4 x5 x6 y0 y1 y2 y3 y4 y5 y6 z0 z1 z2 z3 z4 z5); obtain ⟨x0, x1, x2, x3, x4, x5, x6⟩ := hX2.facts; obtain ⟨y0, y1, y2, y3, y4, y5, y6⟩ := hY2.facts; obtain ⟨z0, z1, z2, z3, z4, z5⟩ := hZ2.facts) | (go_at_call 19; refine (G4.out _ hbw).mono ?_; rintro e w2 ⟨rfl, hb2⟩; clear G4; replace hbw := bstep hbw hb2; (have hX2 : VBox w2 (w.heap.size) a ma := (by first | exact VBox.keep hX2 hb2 | exact Blk.keep (box3' _ _ _ _).1 hb2)); (have hY2 : VBox w2 (w.heap.size + 1) b mb := (by first | exact VBox.keep hY2 hb2 | exact Blk.keep (box3' _ _ _ _).2.1 hb2)); (have hZ2 : YBox w2 (w.heap.size + 1 + 1) q := (by first | exact YBox.keep hZ2 hb2 | exact Blk.keep (box3' _ _ _ _).2.2 hb2)); (try clear x0 x1 x2 x3 x4 x5 x6 y0 y1 y2 y3 y4 y5 y6 z0 z1 z2 z3 z4 z5); obtain ⟨x0, x1, x2, x3, x4, x5, x6⟩ := hX2.facts; obtain ⟨y0, y1, y2, y3, y4, y5, y6⟩ := hY2.facts; obtain ⟨z0, z1, z2, z3, z4, z5⟩ := hZ2.facts) | (go_at_call 19; refine (G5.out _ hbw).mono ?_; rintro e w2 ⟨rfl, hb2⟩; clear G5; replace hbw := bstep hbw hb2; (have hX2 : VBox w2 (w.heap.size) a ma := (by first | exact VBox.keep hX2 hb2 | exact Blk.keep (box3' _ _ _ _).1 hb2)); (have hY2 : VBox w2 (w.heap.size + 1) b mb := (by first | exact VBox.keep hY2 hb2 | exact Blk.keep (box3' _ _ _ _).2.1 hb2)); (have hZ2 : YBox w2 (w.heap.size + 1 + 1) q := (by first | exact YBox.keep hZ2 hb2 | exact Blk.keep (box3' _ _ _ _).2.2 hb2)); (try clear x0 x1 x2 x3 x4 x5 x6 y0 y1 y2 y3 y4 y5 y6 z0 z1 z2 z3 z4 z5); obtain ⟨x0, x1, x2, x3, x4, x5, x6⟩ := hX2.facts; obtain ⟨y0, y1, y2, y3, y4, y5, y6⟩ := hY2.facts; obtain ⟨z0, z1, z2, z3, z4, z5⟩ := hZ2.facts))
      have hbw2 := hbw
      clear hbw hb2 x0 x1 x2 x3 x4 x5 x6 y0 y1 y2 y3 y4 y5 y6 z0 z1 z2 z3 z4 z5
      refine (M1.out _ hbw2).mono ?_; rintro e w3 ⟨rfl, hb3⟩
      have hbw3 := bstep hbw2 (hb3)
      have hX3 : VBox w3 (w.heap.size) a ma := hX2.keep (hb3)
      have hY3 : VBox w3 (w.heap.size + 1) b mb := hY2.keep (hb3)
      have hZ3 : YBox w3 (w.heap.size + 1 + 1) q := hZ2.keep (hb3)
      clear hb3 hbw2 hX2 hY2 hZ2 
      dsimp only
      obtain ⟨x0, x1, x2, x3, x4, x5, x6⟩ := hX3.facts
      have lx := Blk.lt hX3
      obtain ⟨y0, y1, y2, y3, y4, y5, y6⟩ := hY3.facts
      have ly := Blk.lt hY3
      obtain ⟨z0, z1, z2, z3, z4, z5⟩ := hZ3.facts
      have lz := Blk.lt hZ3
      go_wp2_with fail
      clear x0 x1 x2 x3 x4 x5 x6 y0 y1 y2 y3 y4 y5 y6 z0 z1 z2 z3 z4 z5 lx ly lz
      refine (san21_any _ (HE.out.keep (by (repeat (first | exact Below.refl _ _ | assumption | refine Below.drew ?_ | refine balloc ?_ _ | refine bdrewN ?_ _ | refine Below.setCell ?_ (by first | (simp; done) | (simp; omega)) _ | refine bstep ?_ (by assumption))))) (HT.out.keep (by (repeat (first | exact Below.refl _ _ | assumption | refine Below.drew ?_ | refine balloc ?_ _ | refine bdrewN ?_ _ | refine Below.setCell ?_ (by first | (simp; done) | (simp; omega)) _ | refine bstep ?_ (by assumption)))))).mono ?_; rintro e w4 ⟨rfl, hb4⟩
      have hbw4 := bstep hbw3 (blater _ hb4)
      have hX4 : VBox w4 (w.heap.size) a ma := hX3.keep (blater _ hb4)
      have hY4 : VBox w4 (w.heap.size + 1) b mb := hY3.keep (blater _ hb4)
      have hZ4 : YBox w4 (w.heap.size + 1 + 1) q := hZ3.keep (blater _ hb4)
      have hS4 : YBox w4 (w3.heap.size) s := Blk.keep (World.alloc_heap_new _ _) hb4
      clear hb4 hbw3 hX3 hY3 hZ3 
      obtain ⟨x0, x1, x2, x3, x4, x5, x6⟩ := hX4.facts
      have lx := Blk.lt hX4
      obtain ⟨y0, y1, y2, y3, y4, y5, y6⟩ := hY4.facts
      have ly := Blk.lt hY4
      obtain ⟨z0, z1, z2, z3, z4, z5⟩ := hZ4.facts
      have lz := Blk.lt hZ4
      obtain ⟨s0, s1, s2, s3, s4, s5⟩ := hS4.facts
      have ls := Blk.lt hS4
      go_wp2_with fail
      clear x0 x1 x2 x3 x4 x5 x6 y0 y1 y2 y3 y4 y5 y6 z0 z1 z2 z3 z4 z5 s0 s1 s2 s3 s4 s5 lx ly lz ls
      refine (H1.out _ (by (repeat (first | exact Below.refl _ _ | assumption | refine Below.drew ?_ | refine balloc ?_ _ | refine bdrewN ?_ _ | refine Below.setCell ?_ (by first | (simp; done) | (simp; omega)) _ | refine bstep ?_ (by assumption))))).mono ?_; rintro e w5 ⟨rfl, hb5⟩
      have hbw5 := bstep hbw4 (hb5)
      have hX5 : VBox w5 (w.heap.size) a ma := hX4.keep (hb5)
      have hY5 : VBox w5 (w.heap.size + 1) b mb := hY4.keep (hb5)
      have hZ5 : YBox w5 (w.heap.size + 1 + 1) q := hZ4.keep (hb5)
      have hS5 : YBox w5 (w3.heap.size) s := hS4.keep (hb5)
      clear hb5 hbw4 hX4 hY4 hZ4 hS4 
      obtain ⟨x0, x1, x2, x3, x4, x5, x6⟩ := hX5.facts
      have lx := Blk.lt hX5
      obtain ⟨y0, y1, y2, y3, y4, y5, y6⟩ := hY5.facts
      have ly := Blk.lt hY5
      obtain ⟨z0, z1, z2, z3, z4, z5⟩ := hZ5.facts
      have lz := Blk.lt hZ5
      obtain ⟨s0, s1, s2, s3, s4, s5⟩ := hS5.facts
      have ls := Blk.lt hS5
      go_wp2_with fail
      clear x0 x1 x2 x3 x4 x5 x6 y0 y1 y2 y3 y4 y5 y6 z0 z1 z2 z3 z4 z5 s0 s1 s2 s3 s4 s5 lx ly lz ls
      refine (H2.out _ (by (repeat (first | exact Below.refl _ _ | assumption | refine Below.drew ?_ | refine balloc ?_ _ | refine bdrewN ?_ _ | refine Below.setCell ?_ (by first | (simp; done) | (simp; omega)) _ | refine bstep ?_ (by assumption))))).mono ?_; rintro e w6 ⟨rfl, hb6⟩
      have hbw6 := bstep hbw5 (hb6)
      have hX6 : VBox w6 (w.heap.size) a ma := hX5.keep (hb6)
      have hY6 : VBox w6 (w.heap.size + 1) b mb := hY5.keep (hb6)
      have hZ6 : YBox w6 (w.heap.size + 1 + 1) q := hZ5.keep (hb6)
      have hS6 : YBox w6 (w3.heap.size) s := hS5.keep (hb6)
      clear hb6 hbw5 hX5 hY5 hZ5 hS5 
      go_wp2_with fail
      go_ret
      exact ⟨rfl, hbw6⟩

end Go.Proofs.YtocgkpdolgnbgaaGreatDoor
