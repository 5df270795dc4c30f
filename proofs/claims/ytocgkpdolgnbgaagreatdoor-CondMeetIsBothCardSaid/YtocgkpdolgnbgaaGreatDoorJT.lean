/- What CondMeetIsBoth returns: true. -/
import Derived.Test.YtocgkpdolgnbgaaGreatDoorJE
import Derived.Test.YtocgkpdolgnbgaaGreatDoorProg
import Derived.WalkKit
import Derived.WalkSpells
import Derived.WalkLawsBesides
import Derived.Below
import Derived.Deep.QuietTactic
import Derived.BigQuiet
import Derived.Lib.QuietBelow
import Derived.Lib.Strings
import Derived.Lib.Hide
import Derived.Deep.RegionWith
import Derived.Deep.RegionHeld3
import Derived.Lib.IndexBytes
namespace Go.Proofs.YtocgkpdolgnbgaaGreatDoor
open Go.RowKit Go.Sort
set_option linter.unusedVariables false
set_option linter.unusedSimpArgs false
set_option maxRecDepth 100000
set_option maxHeartbeats 16000000 in
theorem lawBoth (a b : CondV) (ma mb : CondMem) (q : AskV) (w : World) (hRa : CondReads w a ma) (hRb : CondReads w b mb) (hE : Env w) (hT : Tab w) :
    Calls Tryz.prog 8 #[CondMem.val a ma, CondMem.val b mb, AskV.val q] w (Ret w (.bool true)) := by
  have g1 := fun W (hb : Below w.heap.size w W) => few_cond a ma W (hRa.keep hb)
  have g2 := fun W (hb : Below w.heap.size w W) => few_cond b mb W (hRb.keep hb)
  have g3 := fun W (_ : Below w.heap.size w W) => few_ask q W
  have HE := Lib.hid hE
  have HT := Lib.hid hT
  cases hfa : fewV a
  · rw [hfa] at g1
    have G1 := Lib.hid g1
    clear g1 g2 g3 hE hT hfa
    unfold CondMem.val AskV.val at *
    (go_enter Tryz.func8, Tryz.ntmps8; go_wp2_with (first | (go_at_call 10; refine (G1.out _ (by (repeat (first | exact Below.refl _ _ | assumption | refine Below.drew ?_ | refine balloc ?_ _ | refine bdrewN ?_ _ | refine Below.setCell ?_ (by first | (simp; done) | (simp; omega)) _ | refine bstep ?_ (by assumption))))).mono ?_; rintro e w2 ⟨rfl, hb2⟩; clear G1; have hbw : Below w.heap.size w w2 := (by (repeat (first | exact Below.refl _ _ | assumption | refine Below.drew ?_ | refine balloc ?_ _ | refine bdrewN ?_ _ | refine Below.setCell ?_ (by first | (simp; done) | (simp; omega)) _ | refine bstep ?_ (by assumption)))); (have hX2 : VBox w2 (w.heap.size) a ma := (by first | exact VBox.keep hX2 hb2 | exact Blk.keep (box3' _ _ _ _).1 hb2)); (have hY2 : VBox w2 (w.heap.size + 1) b mb := (by first | exact VBox.keep hY2 hb2 | exact Blk.keep (box3' _ _ _ _).2.1 hb2)); (have hZ2 : YBox w2 (w.heap.size + 1 + 1) q := (by first | exact YBox.keep hZ2 hb2 | exact Blk.keep (box3' _ _ _ _).2.2 hb2)); (try clear x0 x1 x2 x3 x4 x5 x6 y0 y1 y2 y3 y4 y5 y6 z0 z1 z2 z3 z4 z5); obtain ⟨x0, x1, x2, x3, x4, x5, x6⟩ := hX2.facts; obtain ⟨y0, y1, y2, y3, y4, y5, y6⟩ := hY2.facts; obtain ⟨z0, z1, z2, z3, z4, z5⟩ := hZ2.facts) | (go_at_call 10; refine (G2.out _ hbw).mono ?_; rintro e w2 ⟨rfl, hb2⟩; clear G2; replace hbw := bstep hbw hb2; (have hX2 : VBox w2 (w.heap.size) a ma := (by first | exact VBox.keep hX2 hb2 | exact Blk.keep (box3' _ _ _ _).1 hb2)); (have hY2 : VBox w2 (w.heap.size + 1) b mb := (by first | exact VBox.keep hY2 hb2 | exact Blk.keep (box3' _ _ _ _).2.1 hb2)); (have hZ2 : YBox w2 (w.heap.size + 1 + 1) q := (by first | exact YBox.keep hZ2 hb2 | exact Blk.keep (box3' _ _ _ _).2.2 hb2)); (try clear x0 x1 x2 x3 x4 x5 x6 y0 y1 y2 y3 y4 y5 y6 z0 z1 z2 z3 z4 z5); obtain ⟨x0, x1, x2, x3, x4, x5, x6⟩ := hX2.facts; obtain ⟨y0, y1, y2, y3, y4, y5, y6⟩ := hY2.facts; obtain ⟨z0, z1, z2, z3, z4, z5⟩ := hZ2.facts) | (go_at_call 23; refine (G3.out _ hbw).mono ?_; rintro e w2 ⟨rfl, hb2⟩; clear G3; replace hbw := bstep hbw hb2; (have hX2 : VBox w2 (w.heap.size) a ma := (by first | exact VBox.keep hX2 hb2 | exact Blk.keep (box3' _ _ _ _).1 hb2)); (have hY2 : VBox w2 (w.heap.size + 1) b mb := (by first | exact VBox.keep hY2 hb2 | exact Blk.keep (box3' _ _ _ _).2.1 hb2)); (have hZ2 : YBox w2 (w.heap.size + 1 + 1) q := (by first | exact YBox.keep hZ2 hb2 | exact Blk.keep (box3' _ _ _ _).2.2 hb2)); (try clear x0 x1 x2 x3 x4 x5 x6 y0 y1 y2 y3 y4 y5 y6 z0 z1 z2 z3 z4 z5); obtain ⟨x0, x1, x2, x3, x4, x5, x6⟩ := hX2.facts; obtain ⟨y0, y1, y2, y3, y4, y5, y6⟩ := hY2.facts; obtain ⟨z0, z1, z2, z3, z4, z5⟩ := hZ2.facts) | (go_at_call 19; refine (G4.out _ hbw).mono ?_; rintro e w2 ⟨rfl, hb2⟩; clear G4; replace hbw := bstep hbw hb2; (have hX2 : VBox w2 (w.heap.size) a ma := (by first | exact VBox.keep hX2 hb2 | exact Blk.keep (box3' _ _ _ _).1 hb2)); (have hY2 : VBox w2 (w.heap.size + 1) b mb := (by first | exact VBox.keep hY2 hb2 | exact Blk.keep (box3' _ _ _ _).2.1 hb2)); (have hZ2 : YBox w2 (w.heap.size + 1 + 1) q := (by first | exact YBox.keep hZ2 hb2 | exact Blk.keep (box3' _ _ _ _).2.2 hb2)); (try clear x0 x1 x2 x3 x4 x5 x6 y0 y1 y2 y3 y4 y5 y6 z0 z1 z2 z3 z4 z5); obtain ⟨x0, x1, x2, x3, x4, x5, x6⟩ := hX2.facts; obtain ⟨y0, y1, y2, y3, y4, y5, y6⟩ := hY2.facts; obtain ⟨z0, z1, z2, z3, z4, z5⟩ := hZ2.facts) | (go_at_call 19; refine (G5.out _ hbw).mono ?_; rintro e w2 ⟨rfl, hb2⟩; clear G5; replace hbw := bstep hbw hb2; (have hX2 : VBox w2 (w.heap.size) a ma := (by first | exact VBox.keep hX2 hb2 | exact Blk.keep (box3' _ _ _ _).1 hb2)); (have hY2 : VBox w2 (w.heap.size + 1) b mb := (by first | exact VBox.keep hY2 hb2 | exact Blk.keep (box3' _ _ _ _).2.1 hb2)); (have hZ2 : YBox w2 (w.heap.size + 1 + 1) q := (by first | exact YBox.keep hZ2 hb2 | exact Blk.keep (box3' _ _ _ _).2.2 hb2)); (try clear x0 x1 x2 x3 x4 x5 x6 y0 y1 y2 y3 y4 y5 y6 z0 z1 z2 z3 z4 z5); obtain ⟨x0, x1, x2, x3, x4, x5, x6⟩ := hX2.facts; obtain ⟨y0, y1, y2, y3, y4, y5, y6⟩ := hY2.facts; obtain ⟨z0, z1, z2, z3, z4, z5⟩ := hZ2.facts) | (go_at_call 11; refine (san21_any _ (HE.out.keep hbw) (HT.out.keep hbw)).mono ?_; rintro e ws ⟨rfl, hbs⟩)); go_ret; exact ⟨rfl, bstep hbw hbs⟩)
  rw [hfa] at g1
  cases hfb : fewV b
  · rw [hfb] at g2
    have G1 := Lib.hid g1
    have G2 := Lib.hid g2
    clear g1 g2 g3 hE hT hfa hfb
    unfold CondMem.val AskV.val at *
    (go_enter Tryz.func8, Tryz.ntmps8; go_wp2_with (first | (go_at_call 10; refine (G1.out _ (by (repeat (first | exact Below.refl _ _ | assumption | refine Below.drew ?_ | refine balloc ?_ _ | refine bdrewN ?_ _ | refine Below.setCell ?_ (by first | (simp; done) | (simp; omega)) _ | refine bstep ?_ (by assumption))))).mono ?_; rintro e w2 ⟨rfl, hb2⟩; clear G1; have hbw : Below w.heap.size w w2 := (by (repeat (first | exact Below.refl _ _ | assumption | refine Below.drew ?_ | refine balloc ?_ _ | refine bdrewN ?_ _ | refine Below.setCell ?_ (by first | (simp; done) | (simp; omega)) _ | refine bstep ?_ (by assumption)))); (have hX2 : VBox w2 (w.heap.size) a ma := (by first | exact VBox.keep hX2 hb2 | exact Blk.keep (box3' _ _ _ _).1 hb2)); (have hY2 : VBox w2 (w.heap.size + 1) b mb := (by first | exact VBox.keep hY2 hb2 | exact Blk.keep (box3' _ _ _ _).2.1 hb2)); (have hZ2 : YBox w2 (w.heap.size + 1 + 1) q := (by first | exact YBox.keep hZ2 hb2 | exact Blk.keep (box3' _ _ _ _).2.2 hb2)); (try clear x0 x1 x2 x3 x4 x5 x6 y0 y1 y2 y3 y4 y5 y6 z0 z1 z2 z3 z4 z5); obtain ⟨x0, x1, x2, x3, x4, x5, x6⟩ := hX2.facts; obtain ⟨y0, y1, y2, y3, y4, y5, y6⟩ := hY2.facts; obtain ⟨z0, z1, z2, z3, z4, z5⟩ := hZ2.facts) | (go_at_call 10; refine (G2.out _ hbw).mono ?_; rintro e w2 ⟨rfl, hb2⟩; clear G2; replace hbw := bstep hbw hb2; (have hX2 : VBox w2 (w.heap.size) a ma := (by first | exact VBox.keep hX2 hb2 | exact Blk.keep (box3' _ _ _ _).1 hb2)); (have hY2 : VBox w2 (w.heap.size + 1) b mb := (by first | exact VBox.keep hY2 hb2 | exact Blk.keep (box3' _ _ _ _).2.1 hb2)); (have hZ2 : YBox w2 (w.heap.size + 1 + 1) q := (by first | exact YBox.keep hZ2 hb2 | exact Blk.keep (box3' _ _ _ _).2.2 hb2)); (try clear x0 x1 x2 x3 x4 x5 x6 y0 y1 y2 y3 y4 y5 y6 z0 z1 z2 z3 z4 z5); obtain ⟨x0, x1, x2, x3, x4, x5, x6⟩ := hX2.facts; obtain ⟨y0, y1, y2, y3, y4, y5, y6⟩ := hY2.facts; obtain ⟨z0, z1, z2, z3, z4, z5⟩ := hZ2.facts) | (go_at_call 23; refine (G3.out _ hbw).mono ?_; rintro e w2 ⟨rfl, hb2⟩; clear G3; replace hbw := bstep hbw hb2; (have hX2 : VBox w2 (w.heap.size) a ma := (by first | exact VBox.keep hX2 hb2 | exact Blk.keep (box3' _ _ _ _).1 hb2)); (have hY2 : VBox w2 (w.heap.size + 1) b mb := (by first | exact VBox.keep hY2 hb2 | exact Blk.keep (box3' _ _ _ _).2.1 hb2)); (have hZ2 : YBox w2 (w.heap.size + 1 + 1) q := (by first | exact YBox.keep hZ2 hb2 | exact Blk.keep (box3' _ _ _ _).2.2 hb2)); (try clear x0 x1 x2 x3 x4 x5 x6 y0 y1 y2 y3 y4 y5 y6 z0 z1 z2 z3 z4 z5); obtain ⟨x0, x1, x2, x3, x4, x5, x6⟩ := hX2.facts; obtain ⟨y0, y1, y2, y3, y4, y5, y6⟩ := hY2.facts; obtain ⟨z0, z1, z2, z3, z4, z5⟩ := hZ2.facts) | (go_at_call 19; refine (G4.out _ hbw).mono ?_; rintro e w2 ⟨rfl, hb2⟩; clear G4; replace hbw := bstep hbw hb2; (have hX2 : VBox w2 (w.heap.size) a ma := (by first | exact VBox.keep hX2 hb2 | exact Blk.keep (box3' _ _ _ _).1 hb2)); (have hY2 : VBox w2 (w.heap.size + 1) b mb := (by first | exact VBox.keep hY2 hb2 | exact Blk.keep (box3' _ _ _ _).2.1 hb2)); (have hZ2 : YBox w2 (w.heap.size + 1 + 1) q := (by first | exact YBox.keep hZ2 hb2 | exact Blk.keep (box3' _ _ _ _).2.2 hb2)); (try clear x0 x1 x2 x3 x4 x5 x6 y0 y1 y2 y3 y4 y5 y6 z0 z1 z2 z3 z4 z5); obtain ⟨x0, x1, x2, x3, x4, x5, x6⟩ := hX2.facts; obtain ⟨y0, y1, y2, y3, y4, y5, y6⟩ := hY2.facts; obtain ⟨z0, z1, z2, z3, z4, z5⟩ := hZ2.facts) | (go_at_call 19; refine (G5.out _ hbw).mono ?_; rintro e w2 ⟨rfl, hb2⟩; clear G5; replace hbw := bstep hbw hb2; (have hX2 : VBox w2 (w.heap.size) a ma := (by first | exact VBox.keep hX2 hb2 | exact Blk.keep (box3' _ _ _ _).1 hb2)); (have hY2 : VBox w2 (w.heap.size + 1) b mb := (by first | exact VBox.keep hY2 hb2 | exact Blk.keep (box3' _ _ _ _).2.1 hb2)); (have hZ2 : YBox w2 (w.heap.size + 1 + 1) q := (by first | exact YBox.keep hZ2 hb2 | exact Blk.keep (box3' _ _ _ _).2.2 hb2)); (try clear x0 x1 x2 x3 x4 x5 x6 y0 y1 y2 y3 y4 y5 y6 z0 z1 z2 z3 z4 z5); obtain ⟨x0, x1, x2, x3, x4, x5, x6⟩ := hX2.facts; obtain ⟨y0, y1, y2, y3, y4, y5, y6⟩ := hY2.facts; obtain ⟨z0, z1, z2, z3, z4, z5⟩ := hZ2.facts) | (go_at_call 11; refine (san21_any _ (HE.out.keep hbw) (HT.out.keep hbw)).mono ?_; rintro e ws ⟨rfl, hbs⟩)); go_ret; exact ⟨rfl, bstep hbw hbs⟩)
  rw [hfb] at g2
  cases hfq : fewA q
  · rw [hfq] at g3
    have G1 := Lib.hid g1
    have G2 := Lib.hid g2
    have G3 := Lib.hid g3
    clear g1 g2 g3 hE hT hfa hfb hfq
    unfold CondMem.val AskV.val at *
    (go_enter Tryz.func8, Tryz.ntmps8; go_wp2_with (first | (go_at_call 10; refine (G1.out _ (by (repeat (first | exact Below.refl _ _ | assumption | refine Below.drew ?_ | refine balloc ?_ _ | refine bdrewN ?_ _ | refine Below.setCell ?_ (by first | (simp; done) | (simp; omega)) _ | refine bstep ?_ (by assumption))))).mono ?_; rintro e w2 ⟨rfl, hb2⟩; clear G1; have hbw : Below w.heap.size w w2 := (by (repeat (first | exact Below.refl _ _ | assumption | refine Below.drew ?_ | refine balloc ?_ _ | refine bdrewN ?_ _ | refine Below.setCell ?_ (by first | (simp; done) | (simp; omega)) _ | refine bstep ?_ (by assumption)))); (have hX2 : VBox w2 (w.heap.size) a ma := (by first | exact VBox.keep hX2 hb2 | exact Blk.keep (box3' _ _ _ _).1 hb2)); (have hY2 : VBox w2 (w.heap.size + 1) b mb := (by first | exact VBox.keep hY2 hb2 | exact Blk.keep (box3' _ _ _ _).2.1 hb2)); (have hZ2 : YBox w2 (w.heap.size + 1 + 1) q := (by first | exact YBox.keep hZ2 hb2 | exact Blk.keep (box3' _ _ _ _).2.2 hb2)); (try clear x0 x1 x2 x3 x4 x5 x6 y0 y1 y2 y3 y4 y5 y6 z0 z1 z2 z3 z4 z5); obtain ⟨x0, x1, x2, x3, x4, x5, x6⟩ := hX2.facts; obtain ⟨y0, y1, y2, y3, y4, y5, y6⟩ := hY2.facts; obtain ⟨z0, z1, z2, z3, z4, z5⟩ := hZ2.facts) | (go_at_call 10; refine (G2.out _ hbw).mono ?_; rintro e w2 ⟨rfl, hb2⟩; clear G2; replace hbw := bstep hbw hb2; (have hX2 : VBox w2 (w.heap.size) a ma := (by first | exact VBox.keep hX2 hb2 | exact Blk.keep (box3' _ _ _ _).1 hb2)); (have hY2 : VBox w2 (w.heap.size + 1) b mb := (by first | exact VBox.keep hY2 hb2 | exact Blk.keep (box3' _ _ _ _).2.1 hb2)); (have hZ2 : YBox w2 (w.heap.size + 1 + 1) q := (by first | exact YBox.keep hZ2 hb2 | exact Blk.keep (box3' _ _ _ _).2.2 hb2)); (try clear x0 x1 x2 x3 x4 x5 x6 y0 y1 y2 y3 y4 y5 y6 z0 z1 z2 z3 z4 z5); obtain ⟨x0, x1, x2, x3, x4, x5, x6⟩ := hX2.facts; obtain ⟨y0, y1, y2, y3, y4, y5, y6⟩ := hY2.facts; obtain ⟨z0, z1, z2, z3, z4, z5⟩ := hZ2.facts) | (go_at_call 23; refine (G3.out _ hbw).mono ?_; rintro e w2 ⟨rfl, hb2⟩; clear G3; replace hbw := bstep hbw hb2; (have hX2 : VBox w2 (w.heap.size) a ma := (by first | exact VBox.keep hX2 hb2 | exact Blk.keep (box3' _ _ _ _).1 hb2)); (have hY2 : VBox w2 (w.heap.size + 1) b mb := (by first | exact VBox.keep hY2 hb2 | exact Blk.keep (box3' _ _ _ _).2.1 hb2)); (have hZ2 : YBox w2 (w.heap.size + 1 + 1) q := (by first | exact YBox.keep hZ2 hb2 | exact Blk.keep (box3' _ _ _ _).2.2 hb2)); (try clear x0 x1 x2 x3 x4 x5 x6 y0 y1 y2 y3 y4 y5 y6 z0 z1 z2 z3 z4 z5); obtain ⟨x0, x1, x2, x3, x4, x5, x6⟩ := hX2.facts; obtain ⟨y0, y1, y2, y3, y4, y5, y6⟩ := hY2.facts; obtain ⟨z0, z1, z2, z3, z4, z5⟩ := hZ2.facts) | (go_at_call 19; refine (G4.out _ hbw).mono ?_; rintro e w2 ⟨rfl, hb2⟩; clear G4; replace hbw := bstep hbw hb2; (have hX2 : VBox w2 (w.heap.size) a ma := (by first | exact VBox.keep hX2 hb2 | exact Blk.keep (box3' _ _ _ _).1 hb2)); (have hY2 : VBox w2 (w.heap.size + 1) b mb := (by first | exact VBox.keep hY2 hb2 | exact Blk.keep (box3' _ _ _ _).2.1 hb2)); (have hZ2 : YBox w2 (w.heap.size + 1 + 1) q := (by first | exact YBox.keep hZ2 hb2 | exact Blk.keep (box3' _ _ _ _).2.2 hb2)); (try clear x0 x1 x2 x3 x4 x5 x6 y0 y1 y2 y3 y4 y5 y6 z0 z1 z2 z3 z4 z5); obtain ⟨x0, x1, x2, x3, x4, x5, x6⟩ := hX2.facts; obtain ⟨y0, y1, y2, y3, y4, y5, y6⟩ := hY2.facts; obtain ⟨z0, z1, z2, z3, z4, z5⟩ := hZ2.facts) | (go_at_call 19; refine (G5.out _ hbw).mono ?_; rintro e w2 ⟨rfl, hb2⟩; clear G5; replace hbw := bstep hbw hb2; (have hX2 : VBox w2 (w.heap.size) a ma := (by first | exact VBox.keep hX2 hb2 | exact Blk.keep (box3' _ _ _ _).1 hb2)); (have hY2 : VBox w2 (w.heap.size + 1) b mb := (by first | exact VBox.keep hY2 hb2 | exact Blk.keep (box3' _ _ _ _).2.1 hb2)); (have hZ2 : YBox w2 (w.heap.size + 1 + 1) q := (by first | exact YBox.keep hZ2 hb2 | exact Blk.keep (box3' _ _ _ _).2.2 hb2)); (try clear x0 x1 x2 x3 x4 x5 x6 y0 y1 y2 y3 y4 y5 y6 z0 z1 z2 z3 z4 z5); obtain ⟨x0, x1, x2, x3, x4, x5, x6⟩ := hX2.facts; obtain ⟨y0, y1, y2, y3, y4, y5, y6⟩ := hY2.facts; obtain ⟨z0, z1, z2, z3, z4, z5⟩ := hZ2.facts) | (go_at_call 11; refine (san21_any _ (HE.out.keep hbw) (HT.out.keep hbw)).mono ?_; rintro e ws ⟨rfl, hbs⟩)); go_ret; exact ⟨rfl, bstep hbw hbs⟩)
  rw [hfq] at g3
  have fa := few_fits hfa
  have fb := few_fits hfb
  have fq := fewA_fits hfq
  have g4 := fun W (hb : Below w.heap.size w W) => condValid_any a ma W (hRa.keep hb) fa.p fa.cl fa.co fa.n1 fa.n2 fa.n3 (hE.keep hb)
  have g5 := fun W (hb : Below w.heap.size w W) => condValid_any b mb W (hRb.keep hb) fb.p fb.cl fb.co fb.n1 fb.n2 fb.n3 (hE.keep hb)
  cases hva : validC a
  · rw [hva] at g4
    have G1 := Lib.hid g1
    have G2 := Lib.hid g2
    have G3 := Lib.hid g3
    have G4 := Lib.hid g4
    clear g1 g2 g3 g4 g5 hE hT hfa hfb hfq fa fb fq hva
    unfold CondMem.val AskV.val at *
    (go_enter Tryz.func8, Tryz.ntmps8; go_wp2_with (first | (go_at_call 10; refine (G1.out _ (by (repeat (first | exact Below.refl _ _ | assumption | refine Below.drew ?_ | refine balloc ?_ _ | refine bdrewN ?_ _ | refine Below.setCell ?_ (by first | (simp; done) | (simp; omega)) _ | refine bstep ?_ (by assumption))))).mono ?_; rintro e w2 ⟨rfl, hb2⟩; clear G1; have hbw : Below w.heap.size w w2 := (by (repeat (first | exact Below.refl _ _ | assumption | refine Below.drew ?_ | refine balloc ?_ _ | refine bdrewN ?_ _ | refine Below.setCell ?_ (by first | (simp; done) | (simp; omega)) _ | refine bstep ?_ (by assumption)))); (have hX2 : VBox w2 (w.heap.size) a ma := (by first | exact VBox.keep hX2 hb2 | exact Blk.keep (box3' _ _ _ _).1 hb2)); (have hY2 : VBox w2 (w.heap.size + 1) b mb := (by first | exact VBox.keep hY2 hb2 | exact Blk.keep (box3' _ _ _ _).2.1 hb2)); (have hZ2 : YBox w2 (w.heap.size + 1 + 1) q := (by first | exact YBox.keep hZ2 hb2 | exact Blk.keep (box3' _ _ _ _).2.2 hb2)); (try clear x0 x1 x2 x3 x4 x5 x6 y0 y1 y2 y3 y4 y5 y6 z0 z1 z2 z3 z4 z5); obtain ⟨x0, x1, x2, x3, x4, x5, x6⟩ := hX2.facts; obtain ⟨y0, y1, y2, y3, y4, y5, y6⟩ := hY2.facts; obtain ⟨z0, z1, z2, z3, z4, z5⟩ := hZ2.facts) | (go_at_call 10; refine (G2.out _ hbw).mono ?_; rintro e w2 ⟨rfl, hb2⟩; clear G2; replace hbw := bstep hbw hb2; (have hX2 : VBox w2 (w.heap.size) a ma := (by first | exact VBox.keep hX2 hb2 | exact Blk.keep (box3' _ _ _ _).1 hb2)); (have hY2 : VBox w2 (w.heap.size + 1) b mb := (by first | exact VBox.keep hY2 hb2 | exact Blk.keep (box3' _ _ _ _).2.1 hb2)); (have hZ2 : YBox w2 (w.heap.size + 1 + 1) q := (by first | exact YBox.keep hZ2 hb2 | exact Blk.keep (box3' _ _ _ _).2.2 hb2)); (try clear x0 x1 x2 x3 x4 x5 x6 y0 y1 y2 y3 y4 y5 y6 z0 z1 z2 z3 z4 z5); obtain ⟨x0, x1, x2, x3, x4, x5, x6⟩ := hX2.facts; obtain ⟨y0, y1, y2, y3, y4, y5, y6⟩ := hY2.facts; obtain ⟨z0, z1, z2, z3, z4, z5⟩ := hZ2.facts) | (go_at_call 23; refine (G3.out _ hbw).mono ?_; rintro e w2 ⟨rfl, hb2⟩; clear G3; replace hbw := bstep hbw hb2; (have hX2 : VBox w2 (w.heap.size) a ma := (by first | exact VBox.keep hX2 hb2 | exact Blk.keep (box3' _ _ _ _).1 hb2)); (have hY2 : VBox w2 (w.heap.size + 1) b mb := (by first | exact VBox.keep hY2 hb2 | exact Blk.keep (box3' _ _ _ _).2.1 hb2)); (have hZ2 : YBox w2 (w.heap.size + 1 + 1) q := (by first | exact YBox.keep hZ2 hb2 | exact Blk.keep (box3' _ _ _ _).2.2 hb2)); (try clear x0 x1 x2 x3 x4 x5 x6 y0 y1 y2 y3 y4 y5 y6 z0 z1 z2 z3 z4 z5); obtain ⟨x0, x1, x2, x3, x4, x5, x6⟩ := hX2.facts; obtain ⟨y0, y1, y2, y3, y4, y5, y6⟩ := hY2.facts; obtain ⟨z0, z1, z2, z3, z4, z5⟩ := hZ2.facts) | (go_at_call 19; refine (G4.out _ hbw).mono ?_; rintro e w2 ⟨rfl, hb2⟩; clear G4; replace hbw := bstep hbw hb2; (have hX2 : VBox w2 (w.heap.size) a ma := (by first | exact VBox.keep hX2 hb2 | exact Blk.keep (box3' _ _ _ _).1 hb2)); (have hY2 : VBox w2 (w.heap.size + 1) b mb := (by first | exact VBox.keep hY2 hb2 | exact Blk.keep (box3' _ _ _ _).2.1 hb2)); (have hZ2 : YBox w2 (w.heap.size + 1 + 1) q := (by first | exact YBox.keep hZ2 hb2 | exact Blk.keep (box3' _ _ _ _).2.2 hb2)); (try clear x0 x1 x2 x3 x4 x5 x6 y0 y1 y2 y3 y4 y5 y6 z0 z1 z2 z3 z4 z5); obtain ⟨x0, x1, x2, x3, x4, x5, x6⟩ := hX2.facts; obtain ⟨y0, y1, y2, y3, y4, y5, y6⟩ := hY2.facts; obtain ⟨z0, z1, z2, z3, z4, z5⟩ := hZ2.facts) | (go_at_call 19; refine (G5.out _ hbw).mono ?_; rintro e w2 ⟨rfl, hb2⟩; clear G5; replace hbw := bstep hbw hb2; (have hX2 : VBox w2 (w.heap.size) a ma := (by first | exact VBox.keep hX2 hb2 | exact Blk.keep (box3' _ _ _ _).1 hb2)); (have hY2 : VBox w2 (w.heap.size + 1) b mb := (by first | exact VBox.keep hY2 hb2 | exact Blk.keep (box3' _ _ _ _).2.1 hb2)); (have hZ2 : YBox w2 (w.heap.size + 1 + 1) q := (by first | exact YBox.keep hZ2 hb2 | exact Blk.keep (box3' _ _ _ _).2.2 hb2)); (try clear x0 x1 x2 x3 x4 x5 x6 y0 y1 y2 y3 y4 y5 y6 z0 z1 z2 z3 z4 z5); obtain ⟨x0, x1, x2, x3, x4, x5, x6⟩ := hX2.facts; obtain ⟨y0, y1, y2, y3, y4, y5, y6⟩ := hY2.facts; obtain ⟨z0, z1, z2, z3, z4, z5⟩ := hZ2.facts) | (go_at_call 11; refine (san21_any _ (HE.out.keep hbw) (HT.out.keep hbw)).mono ?_; rintro e ws ⟨rfl, hbs⟩)); go_ret; exact ⟨rfl, bstep hbw hbs⟩)
  rw [hva] at g4
  cases hvb : validC b
  · rw [hvb] at g5
    have G1 := Lib.hid g1
    have G2 := Lib.hid g2
    have G3 := Lib.hid g3
    have G4 := Lib.hid g4
    have G5 := Lib.hid g5
    clear g1 g2 g3 g4 g5 hE hT hfa hfb hfq fa fb fq hva hvb
    unfold CondMem.val AskV.val at *
    (go_enter Tryz.func8, Tryz.ntmps8; go_wp2_with (first | (go_at_call 10; refine (G1.out _ (by (repeat (first | exact Below.refl _ _ | assumption | refine Below.drew ?_ | refine balloc ?_ _ | refine bdrewN ?_ _ | refine Below.setCell ?_ (by first | (simp; done) | (simp; omega)) _ | refine bstep ?_ (by assumption))))).mono ?_; rintro e w2 ⟨rfl, hb2⟩; clear G1; have hbw : Below w.heap.size w w2 := (by (repeat (first | exact Below.refl _ _ | assumption | refine Below.drew ?_ | refine balloc ?_ _ | refine bdrewN ?_ _ | refine Below.setCell ?_ (by first | (simp; done) | (simp; omega)) _ | refine bstep ?_ (by assumption)))); (have hX2 : VBox w2 (w.heap.size) a ma := (by first | exact VBox.keep hX2 hb2 | exact Blk.keep (box3' _ _ _ _).1 hb2)); (have hY2 : VBox w2 (w.heap.size + 1) b mb := (by first | exact VBox.keep hY2 hb2 | exact Blk.keep (box3' _ _ _ _).2.1 hb2)); (have hZ2 : YBox w2 (w.heap.size + 1 + 1) q := (by first | exact YBox.keep hZ2 hb2 | exact Blk.keep (box3' _ _ _ _).2.2 hb2)); (try clear x0 x1 x2 x3 x4 x5 x6 y0 y1 y2 y3 y4 y5 y6 z0 z1 z2 z3 z4 z5); obtain ⟨x0, x1, x2, x3, x4, x5, x6⟩ := hX2.facts; obtain ⟨y0, y1, y2, y3, y4, y5, y6⟩ := hY2.facts; obtain ⟨z0, z1, z2, z3, z4, z5⟩ := hZ2.facts) | (go_at_call 10; refine (G2.out _ hbw).mono ?_; rintro e w2 ⟨rfl, hb2⟩; clear G2; replace hbw := bstep hbw hb2; (have hX2 : VBox w2 (w.heap.size) a ma := (by first | exact VBox.keep hX2 hb2 | exact Blk.keep (box3' _ _ _ _).1 hb2)); (have hY2 : VBox w2 (w.heap.size + 1) b mb := (by first | exact VBox.keep hY2 hb2 | exact Blk.keep (box3' _ _ _ _).2.1 hb2)); (have hZ2 : YBox w2 (w.heap.size + 1 + 1) q := (by first | exact YBox.keep hZ2 hb2 | exact Blk.keep (box3' _ _ _ _).2.2 hb2)); (try clear x0 x1 x2 x3 x4 x5 x6 y0 y1 y2 y3 y4 y5 y6 z0 z1 z2 z3 z4 z5); obtain ⟨x0, x1, x2, x3, x4, x5, x6⟩ := hX2.facts; obtain ⟨y0, y1, y2, y3, y4, y5, y6⟩ := hY2.facts; obtain ⟨z0, z1, z2, z3, z4, z5⟩ := hZ2.facts) | (go_at_call 23; refine (G3.out _ hbw).mono ?_; rintro e w2 ⟨rfl, hb2⟩; clear G3; replace hbw := bstep hbw hb2; (have hX2 : VBox w2 (w.heap.size) a ma := (by first | exact VBox.keep hX2 hb2 | exact Blk.keep (box3' _ _ _ _).1 hb2)); (have hY2 : VBox w2 (w.heap.size + 1) b mb := (by first | exact VBox.keep hY2 hb2 | exact Blk.keep (box3' _ _ _ _).2.1 hb2)); (have hZ2 : YBox w2 (w.heap.size + 1 + 1) q := (by first | exact YBox.keep hZ2 hb2 | exact Blk.keep (box3' _ _ _ _).2.2 hb2)); (try clear x0 x1 x2 x3 x4 x5 x6 y0 y1 y2 y3 y4 y5 y6 z0 z1 z2 z3 z4 z5); obtain ⟨x0, x1, x2, x3, x4, x5, x6⟩ := hX2.facts; obtain ⟨y0, y1, y2, y3, y4, y5, y6⟩ := hY2.facts; obtain ⟨z0, z1, z2, z3, z4, z5⟩ := hZ2.facts) | (go_at_call 19; refine (G4.out _ hbw).mono ?_; rintro e w2 ⟨rfl, hb2⟩; clear G4; replace hbw := bstep hbw hb2; (have hX2 : VBox w2 (w.heap.size) a ma := (by first | exact VBox.keep hX2 hb2 | exact Blk.keep (box3' _ _ _ _).1 hb2)); (have hY2 : VBox w2 (w.heap.size + 1) b mb := (by first | exact VBox.keep hY2 hb2 | exact Blk.keep (box3' _ _ _ _).2.1 hb2)); (have hZ2 : YBox w2 (w.heap.size + 1 + 1) q := (by first | exact YBox.keep hZ2 hb2 | exact Blk.keep (box3' _ _ _ _).2.2 hb2)); (try clear x0 x1 x2 x3 x4 x5 x6 y0 y1 y2 y3 y4 y5 y6 z0 z1 z2 z3 z4 z5); obtain ⟨x0, x1, x2, x3, x4, x5, x6⟩ := hX2.facts; obtain ⟨y0, y1, y2, y3, y4, y5, y6⟩ := hY2.facts; obtain ⟨z0, z1, z2, z3, z4, z5⟩ := hZ2.facts) | (go_at_call 19; refine (G5.out _ hbw).mono ?_; rintro e w2 ⟨rfl, hb2⟩; clear G5; replace hbw := bstep hbw hb2; (have hX2 : VBox w2 (w.heap.size) a ma := (by first | exact VBox.keep hX2 hb2 | exact Blk.keep (box3' _ _ _ _).1 hb2)); (have hY2 : VBox w2 (w.heap.size + 1) b mb := (by first | exact VBox.keep hY2 hb2 | exact Blk.keep (box3' _ _ _ _).2.1 hb2)); (have hZ2 : YBox w2 (w.heap.size + 1 + 1) q := (by first | exact YBox.keep hZ2 hb2 | exact Blk.keep (box3' _ _ _ _).2.2 hb2)); (try clear x0 x1 x2 x3 x4 x5 x6 y0 y1 y2 y3 y4 y5 y6 z0 z1 z2 z3 z4 z5); obtain ⟨x0, x1, x2, x3, x4, x5, x6⟩ := hX2.facts; obtain ⟨y0, y1, y2, y3, y4, y5, y6⟩ := hY2.facts; obtain ⟨z0, z1, z2, z3, z4, z5⟩ := hZ2.facts) | (go_at_call 11; refine (san21_any _ (HE.out.keep hbw) (HT.out.keep hbw)).mono ?_; rintro e ws ⟨rfl, hbs⟩)); go_ret; exact ⟨rfl, bstep hbw hbs⟩)
  rw [hvb] at g5
  have oka := (valid_iff a).1 hva
  have okb := (valid_iff b).1 hvb
  obtain ⟨vm, fm⟩ := meet_fits oka okb fa fb
  have hcm := meetC_comm oka okb
  have okm := meetC_ok oka okb
  have hw0 := within_refl okm
  have hwm := within_meet oka okb okm
  rw [hw0] at hwm
  replace hwm := hwm.symm
  rw [Bool.and_eq_true] at hwm
  obtain ⟨w1, w2⟩ := hwm
  have hhm := holds_meet oka okb q
  have m1 := fun W (hb : Below w.heap.size w W) => meet_valid a b ma mb W (hRa.keep hb) (hRb.keep hb) fa fb hva hvb (hE.keep hb)
  have m2 := fun W (hb : Below w.heap.size w W) => meet_valid b a mb ma W (hRb.keep hb) (hRa.keep hb) fb fa hvb hva (hE.keep hb)
  rw [← hcm] at m2
  have n1 := fun n W (hn : CondReads W (meetC a b) n) (hb : Below w.heap.size w W) => within_any (meetC a b) a n ma W hn (hRa.keep hb) fm fa vm hva (hE.keep hb)
  have n2 := fun n W (hn : CondReads W (meetC a b) n) (hb : Below w.heap.size w W) => within_any (meetC a b) b n mb W hn (hRb.keep hb) fm fb vm hvb (hE.keep hb)
  rw [w1] at n1
  rw [w2] at n2
  have sm := fun n n' W hn hn' => same_cond (meetC a b) n n' W hn hn' fm
  have h1 := fun W (hb : Below w.heap.size w W) => holds_any a ma q W (hRa.keep hb) fa fq (hE.keep hb)
  have h2 := fun W (hb : Below w.heap.size w W) => holds_any b mb q W (hRb.keep hb) fb fq (hE.keep hb)
  have h3 := fun n W (hn : CondReads W (meetC a b) n) (hb : Below w.heap.size w W) => holds_any (meetC a b) n q W hn fm fq (hE.keep hb)
  rw [hhm] at h3
  generalize meetC a b = X at *
  generalize holdsC a q = p1 at *
  generalize holdsC b q = p2 at *
  have G1 := Lib.hid g1; have G2 := Lib.hid g2; have G3 := Lib.hid g3; have G4 := Lib.hid g4; have G5 := Lib.hid g5
  have M1 := Lib.hid m1; have M2 := Lib.hid m2; have N1 := Lib.hid n1; have N2 := Lib.hid n2; have SM := Lib.hid sm; have H1 := Lib.hid h1; have H2 := Lib.hid h2; have H3 := Lib.hid h3
  clear g1 g2 g3 g4 g5 m1 m2 n1 n2 sm h1 h2 h3 w1 w2 hhm hw0 okm hcm vm fm oka okb hva hvb fa fb fq hfa hfb hfq hRa hRb hE hT
  unfold CondMem.val AskV.val at *
  go_enter Tryz.func8, Tryz.ntmps8
  go_wp2_with (first | (go_at_call 10; refine (G1.out _ (by (repeat (first | exact Below.refl _ _ | assumption | refine Below.drew ?_ | refine balloc ?_ _ | refine bdrewN ?_ _ | refine Below.setCell ?_ (by first | (simp; done) | (simp; omega)) _ | refine bstep ?_ (by assumption))))).mono ?_; rintro e w2 ⟨rfl, hb2⟩; clear G1; have hbw : Below w.heap.size w w2 := (by (repeat (first | exact Below.refl _ _ | assumption | refine Below.drew ?_ | refine balloc ?_ _ | refine bdrewN ?_ _ | refine Below.setCell ?_ (by first | (simp; done) | (simp; omega)) _ | refine bstep ?_ (by assumption)))); (have hX2 : VBox w2 (w.heap.size) a ma := (by first | exact VBox.keep hX2 hb2 | exact Blk.keep (box3' _ _ _ _).1 hb2)); (have hY2 : VBox w2 (w.heap.size + 1) b mb := (by first | exact VBox.keep hY2 hb2 | exact Blk.keep (box3' _ _ _ _).2.1 hb2)); (have hZ2 : YBox w2 (w.heap.size + 1 + 1) q := (by first | exact YBox.keep hZ2 hb2 | exact Blk.keep (box3' _ _ _ _).2.2 hb2)); (try clear x0 x1 x2 x3 x4 x5 x6 y0 y1 y2 y3 y4 y5 y6 z0 z1 z2 z3 z4 z5); obtain ⟨x0, x1, x2, x3, x4, x5, x6⟩ := hX2.facts; obtain ⟨y0, y1, y2, y3, y4, y5, y6⟩ := hY2.facts; obtain ⟨z0, z1, z2, z3, z4, z5⟩ := hZ2.facts) | (go_at_call 10; refine (G2.out _ hbw).mono ?_; rintro e w2 ⟨rfl, hb2⟩; clear G2; replace hbw := bstep hbw hb2; (have hX2 : VBox w2 (w.heap.size) a ma := (by first | exact VBox.keep hX2 hb2 | exact Blk.keep (box3' _ _ _ _).1 hb2)); (have hY2 : VBox w2 (w.heap.size + 1) b mb := (by first | exact VBox.keep hY2 hb2 | exact Blk.keep (box3' _ _ _ _).2.1 hb2)); (have hZ2 : YBox w2 (w.heap.size + 1 + 1) q := (by first | exact YBox.keep hZ2 hb2 | exact Blk.keep (box3' _ _ _ _).2.2 hb2)); (try clear x0 x1 x2 x3 x4 x5 x6 y0 y1 y2 y3 y4 y5 y6 z0 z1 z2 z3 z4 z5); obtain ⟨x0, x1, x2, x3, x4, x5, x6⟩ := hX2.facts; obtain ⟨y0, y1, y2, y3, y4, y5, y6⟩ := hY2.facts; obtain ⟨z0, z1, z2, z3, z4, z5⟩ := hZ2.facts) | (go_at_call 23; refine (G3.out _ hbw).mono ?_; rintro e w2 ⟨rfl, hb2⟩; clear G3; replace hbw := bstep hbw hb2; (have hX2 : VBox w2 (w.heap.size) a ma := (by first | exact VBox.keep hX2 hb2 | exact Blk.keep (box3' _ _ _ _).1 hb2)); (have hY2 : VBox w2 (w.heap.size + 1) b mb := (by first | exact VBox.keep hY2 hb2 | exact Blk.keep (box3' _ _ _ _).2.1 hb2)); (have hZ2 : YBox w2 (w.heap.size + 1 + 1) q := (by first | exact YBox.keep hZ2 hb2 | exact Blk.keep (box3' _ _ _ _).2.2 hb2)); (try clear x0 x1 x2 x3 x4 x5 x6 y0 y1 y2 y3 y4 y5 y6 z0 z1 z2 z3 z4 z5); obtain ⟨x0, x1, x2, x3, x4, x5, x6⟩ := hX2.facts; obtain ⟨y0, y1, y2, y3, y4, y5, y6⟩ := hY2.facts; obtain ⟨z0, z1, z2, z3, z4, z5⟩ := hZ2.facts) | (go_at_call 19; refine (G4.out _ hbw).mono ?_; rintro e w2 ⟨rfl, hb2⟩; clear G4; replace hbw := bstep hbw hb2; (have hX2 : VBox w2 (w.heap.size) a ma := (by first | exact VBox.keep hX2 hb2 | exact Blk.keep (box3' _ _ _ _).1 hb2)); (have hY2 : VBox w2 (w.heap.size + 1) b mb := (by first | exact VBox.keep hY2 hb2 | exact Blk.keep (box3' _ _ _ _).2.1 hb2)); (have hZ2 : YBox w2 (w.heap.size + 1 + 1) q := (by first | exact YBox.keep hZ2 hb2 | exact Blk.keep (box3' _ _ _ _).2.2 hb2)); (try clear x0 x1 x2 x3 x4 x5 x6 y0 y1 y2 y3 y4 y5 y6 z0 z1 z2 z3 z4 z5); obtain ⟨x0, x1, x2, x3, x4, x5, x6⟩ := hX2.facts; obtain ⟨y0, y1, y2, y3, y4, y5, y6⟩ := hY2.facts; obtain ⟨z0, z1, z2, z3, z4, z5⟩ := hZ2.facts) | (go_at_call 19; refine (G5.out _ hbw).mono ?_; rintro e w2 ⟨rfl, hb2⟩; clear G5; replace hbw := bstep hbw hb2; (have hX2 : VBox w2 (w.heap.size) a ma := (by first | exact VBox.keep hX2 hb2 | exact Blk.keep (box3' _ _ _ _).1 hb2)); (have hY2 : VBox w2 (w.heap.size + 1) b mb := (by first | exact VBox.keep hY2 hb2 | exact Blk.keep (box3' _ _ _ _).2.1 hb2)); (have hZ2 : YBox w2 (w.heap.size + 1 + 1) q := (by first | exact YBox.keep hZ2 hb2 | exact Blk.keep (box3' _ _ _ _).2.2 hb2)); (try clear x0 x1 x2 x3 x4 x5 x6 y0 y1 y2 y3 y4 y5 y6 z0 z1 z2 z3 z4 z5); obtain ⟨x0, x1, x2, x3, x4, x5, x6⟩ := hX2.facts; obtain ⟨y0, y1, y2, y3, y4, y5, y6⟩ := hY2.facts; obtain ⟨z0, z1, z2, z3, z4, z5⟩ := hZ2.facts))
  have hbw2 := hbw
  clear hbw hb2 x0 x1 x2 x3 x4 x5 x6 y0 y1 y2 y3 y4 y5 y6 z0 z1 z2 z3 z4 z5
  refine (M1.out _ hbw2).mono ?_; rintro e w3 ⟨hb3, m1, rfl, hr13⟩
  have hbw3 := bstep hbw2 (hb3)
  have hX3 : VBox w3 (w.heap.size) a ma := hX2.keep (hb3)
  have hY3 : VBox w3 (w.heap.size + 1) b mb := hY2.keep (hb3)
  have hZ3 : YBox w3 (w.heap.size + 1 + 1) q := hZ2.keep (hb3)
  clear hb3 hbw2 hX2 hY2 hZ2 
  dsimp only [CondMem.val]
  obtain ⟨x0, x1, x2, x3, x4, x5, x6⟩ := hX3.facts
  have lx := Blk.lt hX3
  obtain ⟨y0, y1, y2, y3, y4, y5, y6⟩ := hY3.facts
  have ly := Blk.lt hY3
  obtain ⟨z0, z1, z2, z3, z4, z5⟩ := hZ3.facts
  have lz := Blk.lt hZ3
  go_wp2_with fail
  clear x0 x1 x2 x3 x4 x5 x6 y0 y1 y2 y3 y4 y5 y6 z0 z1 z2 z3 z4 z5 lx ly lz
  refine (M2.out _ (by (repeat (first | exact Below.refl _ _ | assumption | refine Below.drew ?_ | refine balloc ?_ _ | refine bdrewN ?_ _ | refine Below.setCell ?_ (by first | (simp; done) | (simp; omega)) _ | refine bstep ?_ (by assumption))))).mono ?_; rintro e w4 ⟨hb4, m2, rfl, hr24⟩
  have hbw4 := bstep hbw3 (blater _ hb4)
  have hX4 : VBox w4 (w.heap.size) a ma := hX3.keep (blater _ hb4)
  have hY4 : VBox w4 (w.heap.size + 1) b mb := hY3.keep (blater _ hb4)
  have hZ4 : YBox w4 (w.heap.size + 1 + 1) q := hZ3.keep (blater _ hb4)
  have hr14 := hr13.keep (blater _ hb4)
  have hP4 : VBox w4 (w3.heap.size) X m1 := Blk.keep (World.alloc_heap_new _ _) hb4
  clear hb4 hbw3 hX3 hY3 hZ3 hr13
  dsimp only [CondMem.val]
  obtain ⟨x0, x1, x2, x3, x4, x5, x6⟩ := hX4.facts
  have lx := Blk.lt hX4
  obtain ⟨y0, y1, y2, y3, y4, y5, y6⟩ := hY4.facts
  have ly := Blk.lt hY4
  obtain ⟨z0, z1, z2, z3, z4, z5⟩ := hZ4.facts
  have lz := Blk.lt hZ4
  obtain ⟨v0, v1, v2, v3, v4, v5, v6⟩ := hP4.facts
  have lv := Blk.lt hP4
  go_wp2_with fail
  clear x0 x1 x2 x3 x4 x5 x6 y0 y1 y2 y3 y4 y5 y6 z0 z1 z2 z3 z4 z5 v0 v1 v2 v3 v4 v5 v6 lx ly lz lv
  refine (N1.out m1 _ (hr14.keep (by (repeat (first | exact Below.refl _ _ | assumption | refine Below.drew ?_ | refine balloc ?_ _ | refine bdrewN ?_ _ | refine Below.setCell ?_ (by first | (simp; done) | (simp; omega)) _ | refine bstep ?_ (by assumption))))) (by (repeat (first | exact Below.refl _ _ | assumption | refine Below.drew ?_ | refine balloc ?_ _ | refine bdrewN ?_ _ | refine Below.setCell ?_ (by first | (simp; done) | (simp; omega)) _ | refine bstep ?_ (by assumption))))).mono ?_; rintro e w5 ⟨rfl, hb5⟩
  have hbw5 := bstep hbw4 (blater _ hb5)
  have hX5 : VBox w5 (w.heap.size) a ma := hX4.keep (blater _ hb5)
  have hY5 : VBox w5 (w.heap.size + 1) b mb := hY4.keep (blater _ hb5)
  have hZ5 : YBox w5 (w.heap.size + 1 + 1) q := hZ4.keep (blater _ hb5)
  have hP5 : VBox w5 (w3.heap.size) X m1 := hP4.keep (blater _ hb5)
  have hr15 := hr14.keep (blater _ hb5)
  have hr25 := hr24.keep (blater _ hb5)
  have hQ5 : VBox w5 (w4.heap.size) X m2 := Blk.keep (World.alloc_heap_new _ _) hb5
  clear hb5 hbw4 hX4 hY4 hZ4 hP4 hr14 hr24
  obtain ⟨x0, x1, x2, x3, x4, x5, x6⟩ := hX5.facts
  have lx := Blk.lt hX5
  obtain ⟨y0, y1, y2, y3, y4, y5, y6⟩ := hY5.facts
  have ly := Blk.lt hY5
  obtain ⟨z0, z1, z2, z3, z4, z5⟩ := hZ5.facts
  have lz := Blk.lt hZ5
  obtain ⟨v0, v1, v2, v3, v4, v5, v6⟩ := hP5.facts
  have lv := Blk.lt hP5
  obtain ⟨u0, u1, u2, u3, u4, u5, u6⟩ := hQ5.facts
  have lu := Blk.lt hQ5
  go_wp2_with fail
  clear x0 x1 x2 x3 x4 x5 x6 y0 y1 y2 y3 y4 y5 y6 z0 z1 z2 z3 z4 z5 v0 v1 v2 v3 v4 v5 v6 u0 u1 u2 u3 u4 u5 u6 lx ly lz lv lu
  refine (N2.out m1 _ (hr15.keep (by (repeat (first | exact Below.refl _ _ | assumption | refine Below.drew ?_ | refine balloc ?_ _ | refine bdrewN ?_ _ | refine Below.setCell ?_ (by first | (simp; done) | (simp; omega)) _ | refine bstep ?_ (by assumption))))) (by (repeat (first | exact Below.refl _ _ | assumption | refine Below.drew ?_ | refine balloc ?_ _ | refine bdrewN ?_ _ | refine Below.setCell ?_ (by first | (simp; done) | (simp; omega)) _ | refine bstep ?_ (by assumption))))).mono ?_; rintro e w6 ⟨rfl, hb6⟩
  have hbw6 := bstep hbw5 (hb6)
  have hX6 : VBox w6 (w.heap.size) a ma := hX5.keep (hb6)
  have hY6 : VBox w6 (w.heap.size + 1) b mb := hY5.keep (hb6)
  have hZ6 : YBox w6 (w.heap.size + 1 + 1) q := hZ5.keep (hb6)
  have hP6 : VBox w6 (w3.heap.size) X m1 := hP5.keep (hb6)
  have hQ6 : VBox w6 (w4.heap.size) X m2 := hQ5.keep (hb6)
  have hr16 := hr15.keep (hb6)
  have hr26 := hr25.keep (hb6)
  clear hb6 hbw5 hX5 hY5 hZ5 hP5 hQ5 hr15 hr25
  obtain ⟨x0, x1, x2, x3, x4, x5, x6⟩ := hX6.facts
  have lx := Blk.lt hX6
  obtain ⟨y0, y1, y2, y3, y4, y5, y6⟩ := hY6.facts
  have ly := Blk.lt hY6
  obtain ⟨z0, z1, z2, z3, z4, z5⟩ := hZ6.facts
  have lz := Blk.lt hZ6
  obtain ⟨v0, v1, v2, v3, v4, v5, v6⟩ := hP6.facts
  have lv := Blk.lt hP6
  obtain ⟨u0, u1, u2, u3, u4, u5, u6⟩ := hQ6.facts
  have lu := Blk.lt hQ6
  go_wp2_with fail
  clear x0 x1 x2 x3 x4 x5 x6 y0 y1 y2 y3 y4 y5 y6 z0 z1 z2 z3 z4 z5 v0 v1 v2 v3 v4 v5 v6 u0 u1 u2 u3 u4 u5 u6 lx ly lz lv lu
  refine (SM.out m1 m2 _ (hr16.keep (by (repeat (first | exact Below.refl _ _ | assumption | refine Below.drew ?_ | refine balloc ?_ _ | refine bdrewN ?_ _ | refine Below.setCell ?_ (by first | (simp; done) | (simp; omega)) _ | refine bstep ?_ (by assumption))))) (hr26.keep (by (repeat (first | exact Below.refl _ _ | assumption | refine Below.drew ?_ | refine balloc ?_ _ | refine bdrewN ?_ _ | refine Below.setCell ?_ (by first | (simp; done) | (simp; omega)) _ | refine bstep ?_ (by assumption)))))).mono ?_; rintro e w7 ⟨rfl, hb7⟩
  have hbw7 := bstep hbw6 (hb7)
  have hX7 : VBox w7 (w.heap.size) a ma := hX6.keep (hb7)
  have hY7 : VBox w7 (w.heap.size + 1) b mb := hY6.keep (hb7)
  have hZ7 : YBox w7 (w.heap.size + 1 + 1) q := hZ6.keep (hb7)
  have hP7 : VBox w7 (w3.heap.size) X m1 := hP6.keep (hb7)
  have hQ7 : VBox w7 (w4.heap.size) X m2 := hQ6.keep (hb7)
  have hr17 := hr16.keep (hb7)
  have hr27 := hr26.keep (hb7)
  clear hb7 hbw6 hX6 hY6 hZ6 hP6 hQ6 hr16 hr26
  obtain ⟨x0, x1, x2, x3, x4, x5, x6⟩ := hX7.facts
  have lx := Blk.lt hX7
  obtain ⟨y0, y1, y2, y3, y4, y5, y6⟩ := hY7.facts
  have ly := Blk.lt hY7
  obtain ⟨z0, z1, z2, z3, z4, z5⟩ := hZ7.facts
  have lz := Blk.lt hZ7
  obtain ⟨v0, v1, v2, v3, v4, v5, v6⟩ := hP7.facts
  have lv := Blk.lt hP7
  obtain ⟨u0, u1, u2, u3, u4, u5, u6⟩ := hQ7.facts
  have lu := Blk.lt hQ7
  go_wp2_with fail
  clear x0 x1 x2 x3 x4 x5 x6 y0 y1 y2 y3 y4 y5 y6 z0 z1 z2 z3 z4 z5 v0 v1 v2 v3 v4 v5 v6 u0 u1 u2 u3 u4 u5 u6 lx ly lz lv lu
  obtain ⟨x0, x1, x2, x3, x4, x5, x6⟩ := hX7.facts
  have lx := Blk.lt hX7
  obtain ⟨y0, y1, y2, y3, y4, y5, y6⟩ := hY7.facts
  have ly := Blk.lt hY7
  obtain ⟨z0, z1, z2, z3, z4, z5⟩ := hZ7.facts
  have lz := Blk.lt hZ7
  obtain ⟨v0, v1, v2, v3, v4, v5, v6⟩ := hP7.facts
  have lv := Blk.lt hP7
  obtain ⟨u0, u1, u2, u3, u4, u5, u6⟩ := hQ7.facts
  have lu := Blk.lt hQ7
  have rx0 := cell_regrown x0
  have rx1 := cell_regrown x1
  have rx2 := cell_regrown x2
  have rx3 := cell_regrown x3
  have rx4 := cell_regrown x4
  have rx5 := cell_regrown x5
  have rx6 := cell_regrown x6
  have ry0 := cell_regrown y0
  have ry1 := cell_regrown y1
  have ry2 := cell_regrown y2
  have ry3 := cell_regrown y3
  have ry4 := cell_regrown y4
  have ry5 := cell_regrown y5
  have ry6 := cell_regrown y6
  have rz0 := cell_regrown z0
  have rz1 := cell_regrown z1
  have rz2 := cell_regrown z2
  have rz3 := cell_regrown z3
  have rz4 := cell_regrown z4
  have rz5 := cell_regrown z5
  have rv0 := cell_regrown v0
  have rv1 := cell_regrown v1
  have rv2 := cell_regrown v2
  have rv3 := cell_regrown v3
  have rv4 := cell_regrown v4
  have rv5 := cell_regrown v5
  have rv6 := cell_regrown v6
  have ru0 := cell_regrown u0
  have ru1 := cell_regrown u1
  have ru2 := cell_regrown u2
  have ru3 := cell_regrown u3
  have ru4 := cell_regrown u4
  have ru5 := cell_regrown u5
  have ru6 := cell_regrown u6
  have s1 := fun W (hb : Below w7.heap.size w7 W) => san21_any W (HE.out.keep (bstep hbw7 hb)) (HT.out.keep (bstep hbw7 hb))
  have k3 := fun W (hb : Below w7.heap.size w7 W) => H3.out m1 W (hr17.keep hb) (bstep hbw7 hb)
  have k1 := fun W (hb : Below w7.heap.size w7 W) => H1.out W (bstep hbw7 hb)
  have k2 := fun W (hb : Below w7.heap.size w7 W) => H2.out W (bstep hbw7 hb)
  have HB := Lib.hid hbw7
  clear H1 H2 H3 M1 M2 N1 N2 SM hX7 hY7 hZ7 hP7 hQ7 hr17 hr27 HE HT hbw7
  cases p1 <;> cases p2
  all_goals (try simp only [Bool.and_self, Bool.and_true, Bool.true_and, Bool.false_and, Bool.and_false] at k3)
  all_goals (have C0 := Lib.hid s1; have C3 := Lib.hid k3; have C1 := Lib.hid k1; have C2 := Lib.hid k2; clear s1 k3 k1 k2; (refine wp_region_quiet_below (by kernel_rfl) (by kernel_rfl) ?_; (repeat (any_goals (first | go_big_quiet_step ((first | (with_reducible exact qcalls2 C0.out _ _) | (with_reducible exact qcalls2 C1.out _ _) | (with_reducible exact qcalls2 C2.out _ _) | (with_reducible exact qcalls2 C3.out _ _))) | quiet_step ((first | (with_reducible exact qcalls2 C0.out _ _) | (with_reducible exact qcalls2 C1.out _ _) | (with_reducible exact qcalls2 C2.out _ _) | (with_reducible exact qcalls2 C3.out _ _)))))); refine wpQuiet_nil ?_; intro _ hwq; obtain ⟨⟨dq, osq⟩, hwq⟩ := hwq; subst hwq; have hbq := below_regrown (w7) dq osq; generalize grow (redrawn (w7) dq) osq = wq at *; go_wp2; go_ret; exact ⟨rfl, bstep HB.out hbq⟩))

end Go.Proofs.YtocgkpdolgnbgaaGreatDoor
