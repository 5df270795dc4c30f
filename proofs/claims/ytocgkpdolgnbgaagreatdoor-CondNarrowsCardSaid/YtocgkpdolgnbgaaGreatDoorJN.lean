/- What CondNarrows returns: true. -/
import Derived.Test.YtocgkpdolgnbgaaGreatDoorJE
import Derived.Test.YtocgkpdolgnbgaaGreatDoorProg
import Derived.WalkKit
import Derived.WalkSpells
import Derived.WalkLawsBesides
import Derived.Below
import Derived.Deep.QuietTactic
import Derived.BigQuiet
import Derived.Lib.QuietBelow
import Derived.Lib.Strings
import Derived.Lib.Hide
import Derived.Deep.RegionWith
import Derived.Deep.RegionHeld3
import Derived.Lib.IndexBytes
namespace Go.Proofs.YtocgkpdolgnbgaaGreatDoor
open Go.RowKit Go.Sort
set_option linter.unusedVariables false
set_option linter.unusedSimpArgs false
set_option maxRecDepth 100000
set_option maxHeartbeats 8000000 in
theorem lawNarrows (a b c : CondV) (ma mb mc : CondMem) (w : World) (hRa : CondReads w a ma) (hRb : CondReads w b mb) (hRc : CondReads w c mc) (hE : Env w) (hT : Tab w) :
    Calls Tryz.prog 4 #[CondMem.val a ma, CondMem.val b mb, CondMem.val c mc] w (Ret w (.bool true)) := by
  have g1 := fun W (hb : Below w.heap.size w W) => few_cond a ma W (hRa.keep hb)
  have g2 := fun W (hb : Below w.heap.size w W) => few_cond b mb W (hRb.keep hb)
  have g3 := fun W (hb : Below w.heap.size w W) => few_cond c mc W (hRc.keep hb)
  have HE := Lib.hid hE
  have HT := Lib.hid hT
  cases hfa : fewV a
  · rw [hfa] at g1
    have G1 := Lib.hid g1
    clear g1 g2 g3 hE hT hfa
    unfold CondMem.val at *
    (go_enter Tryz.func4, Tryz.ntmps4; go_wp2_with (first | (go_at_call 10; refine (G1.out _ (by (repeat (first | exact Below.refl _ _ | assumption | refine Below.drew ?_ | refine balloc ?_ _ | refine bdrewN ?_ _ | refine Below.setCell ?_ (by first | (simp; done) | (simp; omega)) _ | refine bstep ?_ (by assumption))))).mono ?_; rintro e w2 ⟨rfl, hb2⟩; clear G1; have hbw : Below w.heap.size w w2 := (by (repeat (first | exact Below.refl _ _ | assumption | refine Below.drew ?_ | refine balloc ?_ _ | refine bdrewN ?_ _ | refine Below.setCell ?_ (by first | (simp; done) | (simp; omega)) _ | refine bstep ?_ (by assumption)))); (have hX2 : VBox w2 w.heap.size a ma := (by first | exact VBox.keep hX2 hb2 | exact Blk.keep (box3' _ _ _ _).1 hb2)); (have hY2 : VBox w2 (w.heap.size + 1) b mb := (by first | exact VBox.keep hY2 hb2 | exact Blk.keep (box3' _ _ _ _).2.1 hb2)); (have hZ2 : VBox w2 (w.heap.size + 1 + 1) c mc := (by first | exact VBox.keep hZ2 hb2 | exact Blk.keep (box3' _ _ _ _).2.2 hb2)); (try clear x0 x1 x2 x3 x4 x5 x6 y0 y1 y2 y3 y4 y5 y6 z0 z1 z2 z3 z4 z5 z6); obtain ⟨x0, x1, x2, x3, x4, x5, x6⟩ := hX2.facts; obtain ⟨y0, y1, y2, y3, y4, y5, y6⟩ := hY2.facts; obtain ⟨z0, z1, z2, z3, z4, z5, z6⟩ := hZ2.facts) | (go_at_call 10; refine (G2.out _ hbw).mono ?_; rintro e w2 ⟨rfl, hb2⟩; clear G2; replace hbw := bstep hbw hb2; (have hX2 : VBox w2 w.heap.size a ma := (by first | exact VBox.keep hX2 hb2 | exact Blk.keep (box3' _ _ _ _).1 hb2)); (have hY2 : VBox w2 (w.heap.size + 1) b mb := (by first | exact VBox.keep hY2 hb2 | exact Blk.keep (box3' _ _ _ _).2.1 hb2)); (have hZ2 : VBox w2 (w.heap.size + 1 + 1) c mc := (by first | exact VBox.keep hZ2 hb2 | exact Blk.keep (box3' _ _ _ _).2.2 hb2)); (try clear x0 x1 x2 x3 x4 x5 x6 y0 y1 y2 y3 y4 y5 y6 z0 z1 z2 z3 z4 z5 z6); obtain ⟨x0, x1, x2, x3, x4, x5, x6⟩ := hX2.facts; obtain ⟨y0, y1, y2, y3, y4, y5, y6⟩ := hY2.facts; obtain ⟨z0, z1, z2, z3, z4, z5, z6⟩ := hZ2.facts) | (go_at_call 10; refine (G3.out _ hbw).mono ?_; rintro e w2 ⟨rfl, hb2⟩; clear G3; replace hbw := bstep hbw hb2; (have hX2 : VBox w2 w.heap.size a ma := (by first | exact VBox.keep hX2 hb2 | exact Blk.keep (box3' _ _ _ _).1 hb2)); (have hY2 : VBox w2 (w.heap.size + 1) b mb := (by first | exact VBox.keep hY2 hb2 | exact Blk.keep (box3' _ _ _ _).2.1 hb2)); (have hZ2 : VBox w2 (w.heap.size + 1 + 1) c mc := (by first | exact VBox.keep hZ2 hb2 | exact Blk.keep (box3' _ _ _ _).2.2 hb2)); (try clear x0 x1 x2 x3 x4 x5 x6 y0 y1 y2 y3 y4 y5 y6 z0 z1 z2 z3 z4 z5 z6); obtain ⟨x0, x1, x2, x3, x4, x5, x6⟩ := hX2.facts; obtain ⟨y0, y1, y2, y3, y4, y5, y6⟩ := hY2.facts; obtain ⟨z0, z1, z2, z3, z4, z5, z6⟩ := hZ2.facts) | (go_at_call 19; refine (G4.out _ hbw).mono ?_; rintro e w2 ⟨rfl, hb2⟩; clear G4; replace hbw := bstep hbw hb2; (have hX2 : VBox w2 w.heap.size a ma := (by first | exact VBox.keep hX2 hb2 | exact Blk.keep (box3' _ _ _ _).1 hb2)); (have hY2 : VBox w2 (w.heap.size + 1) b mb := (by first | exact VBox.keep hY2 hb2 | exact Blk.keep (box3' _ _ _ _).2.1 hb2)); (have hZ2 : VBox w2 (w.heap.size + 1 + 1) c mc := (by first | exact VBox.keep hZ2 hb2 | exact Blk.keep (box3' _ _ _ _).2.2 hb2)); (try clear x0 x1 x2 x3 x4 x5 x6 y0 y1 y2 y3 y4 y5 y6 z0 z1 z2 z3 z4 z5 z6); obtain ⟨x0, x1, x2, x3, x4, x5, x6⟩ := hX2.facts; obtain ⟨y0, y1, y2, y3, y4, y5, y6⟩ := hY2.facts; obtain ⟨z0, z1, z2, z3, z4, z5, z6⟩ := hZ2.facts) | (go_at_call 19; refine (G5.out _ hbw).mono ?_; rintro e w2 ⟨rfl, hb2⟩; clear G5; replace hbw := bstep hbw hb2; (have hX2 : VBox w2 w.heap.size a ma := (by first | exact VBox.keep hX2 hb2 | exact Blk.keep (box3' _ _ _ _).1 hb2)); (have hY2 : VBox w2 (w.heap.size + 1) b mb := (by first | exact VBox.keep hY2 hb2 | exact Blk.keep (box3' _ _ _ _).2.1 hb2)); (have hZ2 : VBox w2 (w.heap.size + 1 + 1) c mc := (by first | exact VBox.keep hZ2 hb2 | exact Blk.keep (box3' _ _ _ _).2.2 hb2)); (try clear x0 x1 x2 x3 x4 x5 x6 y0 y1 y2 y3 y4 y5 y6 z0 z1 z2 z3 z4 z5 z6); obtain ⟨x0, x1, x2, x3, x4, x5, x6⟩ := hX2.facts; obtain ⟨y0, y1, y2, y3, y4, y5, y6⟩ := hY2.facts; obtain ⟨z0, z1, z2, z3, z4, z5, z6⟩ := hZ2.facts) | (go_at_call 19; refine (G6.out _ hbw).mono ?_; rintro e w2 ⟨rfl, hb2⟩; clear G6; replace hbw := bstep hbw hb2; (have hX2 : VBox w2 w.heap.size a ma := (by first | exact VBox.keep hX2 hb2 | exact Blk.keep (box3' _ _ _ _).1 hb2)); (have hY2 : VBox w2 (w.heap.size + 1) b mb := (by first | exact VBox.keep hY2 hb2 | exact Blk.keep (box3' _ _ _ _).2.1 hb2)); (have hZ2 : VBox w2 (w.heap.size + 1 + 1) c mc := (by first | exact VBox.keep hZ2 hb2 | exact Blk.keep (box3' _ _ _ _).2.2 hb2)); (try clear x0 x1 x2 x3 x4 x5 x6 y0 y1 y2 y3 y4 y5 y6 z0 z1 z2 z3 z4 z5 z6); obtain ⟨x0, x1, x2, x3, x4, x5, x6⟩ := hX2.facts; obtain ⟨y0, y1, y2, y3, y4, y5, y6⟩ := hY2.facts; obtain ⟨z0, z1, z2, z3, z4, z5, z6⟩ := hZ2.facts) | (go_at_call 11; refine (san21_any _ (HE.out.keep hbw) (HT.out.keep hbw)).mono ?_; rintro e ws ⟨rfl, hbs⟩)); go_ret; exact ⟨rfl, bstep hbw hbs⟩)
  rw [hfa] at g1
  cases hfb : fewV b
  · rw [hfb] at g2
    have G1 := Lib.hid g1
    have G2 := Lib.hid g2
    clear g1 g2 g3 hE hT hfa hfb
    unfold CondMem.val at *
    (go_enter Tryz.func4, Tryz.ntmps4; go_wp2_with (first | (go_at_call 10; refine (G1.out _ (by (repeat (first | exact Below.refl _ _ | assumption | refine Below.drew ?_ | refine balloc ?_ _ | refine bdrewN ?_ _ | refine Below.setCell ?_ (by first | (simp; done) | (simp; omega)) _ | refine bstep ?_ (by assumption))))).mono ?_; rintro e w2 ⟨rfl, hb2⟩; clear G1; have hbw : Below w.heap.size w w2 := (by (repeat (first | exact Below.refl _ _ | assumption | refine Below.drew ?_ | refine balloc ?_ _ | refine bdrewN ?_ _ | refine Below.setCell ?_ (by first | (simp; done) | (simp; omega)) _ | refine bstep ?_ (by assumption)))); (have hX2 : VBox w2 w.heap.size a ma := (by first | exact VBox.keep hX2 hb2 | exact Blk.keep (box3' _ _ _ _).1 hb2)); (have hY2 : VBox w2 (w.heap.size + 1) b mb := (by first | exact VBox.keep hY2 hb2 | exact Blk.keep (box3' _ _ _ _).2.1 hb2)); (have hZ2 : VBox w2 (w.heap.size + 1 + 1) c mc := (by first | exact VBox.keep hZ2 hb2 | exact Blk.keep (box3' _ _ _ _).2.2 hb2)); (try clear x0 x1 x2 x3 x4 x5 x6 y0 y1 y2 y3 y4 y5 y6 z0 z1 z2 z3 z4 z5 z6); obtain ⟨x0, x1, x2, x3, x4, x5, x6⟩ := hX2.facts; obtain ⟨y0, y1, y2, y3, y4, y5, y6⟩ := hY2.facts; obtain ⟨z0, z1, z2, z3, z4, z5, z6⟩ := hZ2.facts) | (go_at_call 10; refine (G2.out _ hbw).mono ?_; rintro e w2 ⟨rfl, hb2⟩; clear G2; replace hbw := bstep hbw hb2; (have hX2 : VBox w2 w.heap.size a ma := (by first | exact VBox.keep hX2 hb2 | exact Blk.keep (box3' _ _ _ _).1 hb2)); (have hY2 : VBox w2 (w.heap.size + 1) b mb := (by first | exact VBox.keep hY2 hb2 | exact Blk.keep (box3' _ _ _ _).2.1 hb2)); (have hZ2 : VBox w2 (w.heap.size + 1 + 1) c mc := (by first | exact VBox.keep hZ2 hb2 | exact Blk.keep (box3' _ _ _ _).2.2 hb2)); (try clear x0 x1 x2 x3 x4 x5 x6 y0 y1 y2 y3 y4 y5 y6 z0 z1 z2 z3 z4 z5 z6); obtain ⟨x0, x1, x2, x3, x4, x5, x6⟩ := hX2.facts; obtain ⟨y0, y1, y2, y3, y4, y5, y6⟩ := hY2.facts; obtain ⟨z0, z1, z2, z3, z4, z5, z6⟩ := hZ2.facts) | (go_at_call 10; refine (G3.out _ hbw).mono ?_; rintro e w2 ⟨rfl, hb2⟩; clear G3; replace hbw := bstep hbw hb2; (have hX2 : VBox w2 w.heap.size a ma := (by first | exact VBox.keep hX2 hb2 | exact Blk.keep (box3' _ _ _ _).1 hb2)); (have hY2 : VBox w2 (w.heap.size + 1) b mb := (by first | exact VBox.keep hY2 hb2 | exact Blk.keep (box3' _ _ _ _).2.1 hb2)); (have hZ2 : VBox w2 (w.heap.size + 1 + 1) c mc := (by first | exact VBox.keep hZ2 hb2 | exact Blk.keep (box3' _ _ _ _).2.2 hb2)); (try clear x0 x1 x2 x3 x4 x5 x6 y0 y1 y2 y3 y4 y5 y6 z0 z1 z2 z3 z4 z5 z6); obtain ⟨x0, x1, x2, x3, x4, x5, x6⟩ := hX2.facts; obtain ⟨y0, y1, y2, y3, y4, y5, y6⟩ := hY2.facts; obtain ⟨z0, z1, z2, z3, z4, z5, z6⟩ := hZ2.facts) | (go_at_call 19; refine (G4.out _ hbw).mono ?_; rintro e w2 ⟨rfl, hb2⟩; clear G4; replace hbw := bstep hbw hb2; (have hX2 : VBox w2 w.heap.size a ma := (by first | exact VBox.keep hX2 hb2 | exact Blk.keep (box3' _ _ _ _).1 hb2)); (have hY2 : VBox w2 (w.heap.size + 1) b mb := (by first | exact VBox.keep hY2 hb2 | exact Blk.keep (box3' _ _ _ _).2.1 hb2)); (have hZ2 : VBox w2 (w.heap.size + 1 + 1) c mc := (by first | exact VBox.keep hZ2 hb2 | exact Blk.keep (box3' _ _ _ _).2.2 hb2)); (try clear x0 x1 x2 x3 x4 x5 x6 y0 y1 y2 y3 y4 y5 y6 z0 z1 z2 z3 z4 z5 z6); obtain ⟨x0, x1, x2, x3, x4, x5, x6⟩ := hX2.facts; obtain ⟨y0, y1, y2, y3, y4, y5, y6⟩ := hY2.facts; obtain ⟨z0, z1, z2, z3, z4, z5, z6⟩ := hZ2.facts) | (go_at_call 19; refine (G5.out _ hbw).mono ?_; rintro e w2 ⟨rfl, hb2⟩; clear G5; replace hbw := bstep hbw hb2; (have hX2 : VBox w2 w.heap.size a ma := (by first | exact VBox.keep hX2 hb2 | exact Blk.keep (box3' _ _ _ _).1 hb2)); (have hY2 : VBox w2 (w.heap.size + 1) b mb := (by first | exact VBox.keep hY2 hb2 | exact Blk.keep (box3' _ _ _ _).2.1 hb2)); (have hZ2 : VBox w2 (w.heap.size + 1 + 1) c mc := (by first | exact VBox.keep hZ2 hb2 | exact Blk.keep (box3' _ _ _ _).2.2 hb2)); (try clear x0 x1 x2 x3 x4 x5 x6 y0 y1 y2 y3 y4 y5 y6 z0 z1 z2 z3 z4 z5 z6); obtain ⟨x0, x1, x2, x3, x4, x5, x6⟩ := hX2.facts; obtain ⟨y0, y1, y2, y3, y4, y5, y6⟩ := hY2.facts; obtain ⟨z0, z1, z2, z3, z4, z5, z6⟩ := hZ2.facts) | (go_at_call 19; refine (G6.out _ hbw).mono ?_; rintro e w2 ⟨rfl, hb2⟩; clear G6; replace hbw := bstep hbw hb2; (have hX2 : VBox w2 w.heap.size a ma := (by first | exact VBox.keep hX2 hb2 | exact Blk.keep (box3' _ _ _ _).1 hb2)); (have hY2 : VBox w2 (w.heap.size + 1) b mb := (by first | exact VBox.keep hY2 hb2 | exact Blk.keep (box3' _ _ _ _).2.1 hb2)); (have hZ2 : VBox w2 (w.heap.size + 1 + 1) c mc := (by first | exact VBox.keep hZ2 hb2 | exact Blk.keep (box3' _ _ _ _).2.2 hb2)); (try clear x0 x1 x2 x3 x4 x5 x6 y0 y1 y2 y3 y4 y5 y6 z0 z1 z2 z3 z4 z5 z6); obtain ⟨x0, x1, x2, x3, x4, x5, x6⟩ := hX2.facts; obtain ⟨y0, y1, y2, y3, y4, y5, y6⟩ := hY2.facts; obtain ⟨z0, z1, z2, z3, z4, z5, z6⟩ := hZ2.facts) | (go_at_call 11; refine (san21_any _ (HE.out.keep hbw) (HT.out.keep hbw)).mono ?_; rintro e ws ⟨rfl, hbs⟩)); go_ret; exact ⟨rfl, bstep hbw hbs⟩)
  rw [hfb] at g2
  cases hfc : fewV c
  · rw [hfc] at g3
    have G1 := Lib.hid g1
    have G2 := Lib.hid g2
    have G3 := Lib.hid g3
    clear g1 g2 g3 hE hT hfa hfb hfc
    unfold CondMem.val at *
    (go_enter Tryz.func4, Tryz.ntmps4; go_wp2_with (first | (go_at_call 10; refine (G1.out _ (by (repeat (first | exact Below.refl _ _ | assumption | refine Below.drew ?_ | refine balloc ?_ _ | refine bdrewN ?_ _ | refine Below.setCell ?_ (by first | (simp; done) | (simp; omega)) _ | refine bstep ?_ (by assumption))))).mono ?_; rintro e w2 ⟨rfl, hb2⟩; clear G1; have hbw : Below w.heap.size w w2 := (by (repeat (first | exact Below.refl _ _ | assumption | refine Below.drew ?_ | refine balloc ?_ _ | refine bdrewN ?_ _ | refine Below.setCell ?_ (by first | (simp; done) | (simp; omega)) _ | refine bstep ?_ (by assumption)))); (have hX2 : VBox w2 w.heap.size a ma := (by first | exact VBox.keep hX2 hb2 | exact Blk.keep (box3' _ _ _ _).1 hb2)); (have hY2 : VBox w2 (w.heap.size + 1) b mb := (by first | exact VBox.keep hY2 hb2 | exact Blk.keep (box3' _ _ _ _).2.1 hb2)); (have hZ2 : VBox w2 (w.heap.size + 1 + 1) c mc := (by first | exact VBox.keep hZ2 hb2 | exact Blk.keep (box3' _ _ _ _).2.2 hb2)); (try clear x0 x1 x2 x3 x4 x5 x6 y0 y1 y2 y3 y4 y5 y6 z0 z1 z2 z3 z4 z5 z6); obtain ⟨x0, x1, x2, x3, x4, x5, x6⟩ := hX2.facts; obtain ⟨y0, y1, y2, y3, y4, y5, y6⟩ := hY2.facts; obtain ⟨z0, z1, z2, z3, z4, z5, z6⟩ := hZ2.facts) | (go_at_call 10; refine (G2.out _ hbw).mono ?_; rintro e w2 ⟨rfl, hb2⟩; clear G2; replace hbw := bstep hbw hb2; (have hX2 : VBox w2 w.heap.size a ma := (by first | exact VBox.keep hX2 hb2 | exact Blk.keep (box3' _ _ _ _).1 hb2)); (have hY2 : VBox w2 (w.heap.size + 1) b mb := (by first | exact VBox.keep hY2 hb2 | exact Blk.keep (box3' _ _ _ _).2.1 hb2)); (have hZ2 : VBox w2 (w.heap.size + 1 + 1) c mc := (by first | exact VBox.keep hZ2 hb2 | exact Blk.keep (box3' _ _ _ _).2.2 hb2)); (try clear x0 x1 x2 x3 x4 x5 x6 y0 y1 y2 y3 y4 y5 y6 z0 z1 z2 z3 z4 z5 z6); obtain ⟨x0, x1, x2, x3, x4, x5, x6⟩ := hX2.facts; obtain ⟨y0, y1, y2, y3, y4, y5, y6⟩ := hY2.facts; obtain ⟨z0, z1, z2, z3, z4, z5, z6⟩ := hZ2.facts) | (go_at_call 10; refine (G3.out _ hbw).mono ?_; rintro e w2 ⟨rfl, hb2⟩; clear G3; replace hbw := bstep hbw hb2; (have hX2 : VBox w2 w.heap.size a ma := (by first | exact VBox.keep hX2 hb2 | exact Blk.keep (box3' _ _ _ _).1 hb2)); (have hY2 : VBox w2 (w.heap.size + 1) b mb := (by first | exact VBox.keep hY2 hb2 | exact Blk.keep (box3' _ _ _ _).2.1 hb2)); (have hZ2 : VBox w2 (w.heap.size + 1 + 1) c mc := (by first | exact VBox.keep hZ2 hb2 | exact Blk.keep (box3' _ _ _ _).2.2 hb2)); (try clear x0 x1 x2 x3 x4 x5 x6 y0 y1 y2 y3 y4 y5 y6 z0 z1 z2 z3 z4 z5 z6); obtain ⟨x0, x1, x2, x3, x4, x5, x6⟩ := hX2.facts; obtain ⟨y0, y1, y2, y3, y4, y5, y6⟩ := hY2.facts; obtain ⟨z0, z1, z2, z3, z4, z5, z6⟩ := hZ2.facts) | (go_at_call 19; refine (G4.out _ hbw).mono ?_; rintro e w2 ⟨rfl, hb2⟩; clear G4; replace hbw := bstep hbw hb2; (have hX2 : VBox w2 w.heap.size a ma := (by first | exact VBox.keep hX2 hb2 | exact Blk.keep (box3' _ _ _ _).1 hb2)); (have hY2 : VBox w2 (w.heap.size + 1) b mb := (by first | exact VBox.keep hY2 hb2 | exact Blk.keep (box3' _ _ _ _).2.1 hb2)); (have hZ2 : VBox w2 (w.heap.size + 1 + 1) c mc := (by first | exact VBox.keep hZ2 hb2 | exact Blk.keep (box3' _ _ _ _).2.2 hb2)); (try clear x0 x1 x2 x3 x4 x5 x6 y0 y1 y2 y3 y4 y5 y6 z0 z1 z2 z3 z4 z5 z6); obtain ⟨x0, x1, x2, x3, x4, x5, x6⟩ := hX2.facts; obtain ⟨y0, y1, y2, y3, y4, y5, y6⟩ := hY2.facts; obtain ⟨z0, z1, z2, z3, z4, z5, z6⟩ := hZ2.facts) | (go_at_call 19; refine (G5.out _ hbw).mono ?_; rintro e w2 ⟨rfl, hb2⟩; clear G5; replace hbw := bstep hbw hb2; (have hX2 : VBox w2 w.heap.size a ma := (by first | exact VBox.keep hX2 hb2 | exact Blk.keep (box3' _ _ _ _).1 hb2)); (have hY2 : VBox w2 (w.heap.size + 1) b mb := (by first | exact VBox.keep hY2 hb2 | exact Blk.keep (box3' _ _ _ _).2.1 hb2)); (have hZ2 : VBox w2 (w.heap.size + 1 + 1) c mc := (by first | exact VBox.keep hZ2 hb2 | exact Blk.keep (box3' _ _ _ _).2.2 hb2)); (try clear x0 x1 x2 x3 x4 x5 x6 y0 y1 y2 y3 y4 y5 y6 z0 z1 z2 z3 z4 z5 z6); obtain ⟨x0, x1, x2, x3, x4, x5, x6⟩ := hX2.facts; obtain ⟨y0, y1, y2, y3, y4, y5, y6⟩ := hY2.facts; obtain ⟨z0, z1, z2, z3, z4, z5, z6⟩ := hZ2.facts) | (go_at_call 19; refine (G6.out _ hbw).mono ?_; rintro e w2 ⟨rfl, hb2⟩; clear G6; replace hbw := bstep hbw hb2; (have hX2 : VBox w2 w.heap.size a ma := (by first | exact VBox.keep hX2 hb2 | exact Blk.keep (box3' _ _ _ _).1 hb2)); (have hY2 : VBox w2 (w.heap.size + 1) b mb := (by first | exact VBox.keep hY2 hb2 | exact Blk.keep (box3' _ _ _ _).2.1 hb2)); (have hZ2 : VBox w2 (w.heap.size + 1 + 1) c mc := (by first | exact VBox.keep hZ2 hb2 | exact Blk.keep (box3' _ _ _ _).2.2 hb2)); (try clear x0 x1 x2 x3 x4 x5 x6 y0 y1 y2 y3 y4 y5 y6 z0 z1 z2 z3 z4 z5 z6); obtain ⟨x0, x1, x2, x3, x4, x5, x6⟩ := hX2.facts; obtain ⟨y0, y1, y2, y3, y4, y5, y6⟩ := hY2.facts; obtain ⟨z0, z1, z2, z3, z4, z5, z6⟩ := hZ2.facts) | (go_at_call 11; refine (san21_any _ (HE.out.keep hbw) (HT.out.keep hbw)).mono ?_; rintro e ws ⟨rfl, hbs⟩)); go_ret; exact ⟨rfl, bstep hbw hbs⟩)
  rw [hfc] at g3
  have fa := few_fits hfa
  have fb := few_fits hfb
  have fc := few_fits hfc
  have g4 := fun W (hb : Below w.heap.size w W) => condValid_any a ma W (hRa.keep hb) fa.p fa.cl fa.co fa.n1 fa.n2 fa.n3 (hE.keep hb)
  have g5 := fun W (hb : Below w.heap.size w W) => condValid_any b mb W (hRb.keep hb) fb.p fb.cl fb.co fb.n1 fb.n2 fb.n3 (hE.keep hb)
  have g6 := fun W (hb : Below w.heap.size w W) => condValid_any c mc W (hRc.keep hb) fc.p fc.cl fc.co fc.n1 fc.n2 fc.n3 (hE.keep hb)
  cases hva : validC a
  · rw [hva] at g4
    have G1 := Lib.hid g1
    have G2 := Lib.hid g2
    have G3 := Lib.hid g3
    have G4 := Lib.hid g4
    clear g1 g2 g3 g4 g5 g6 hE hT hfa hfb hfc fa fb fc hva
    unfold CondMem.val at *
    (go_enter Tryz.func4, Tryz.ntmps4; go_wp2_with (first | (go_at_call 10; refine (G1.out _ (by (repeat (first | exact Below.refl _ _ | assumption | refine Below.drew ?_ | refine balloc ?_ _ | refine bdrewN ?_ _ | refine Below.setCell ?_ (by first | (simp; done) | (simp; omega)) _ | refine bstep ?_ (by assumption))))).mono ?_; rintro e w2 ⟨rfl, hb2⟩; clear G1; have hbw : Below w.heap.size w w2 := (by (repeat (first | exact Below.refl _ _ | assumption | refine Below.drew ?_ | refine balloc ?_ _ | refine bdrewN ?_ _ | refine Below.setCell ?_ (by first | (simp; done) | (simp; omega)) _ | refine bstep ?_ (by assumption)))); (have hX2 : VBox w2 w.heap.size a ma := (by first | exact VBox.keep hX2 hb2 | exact Blk.keep (box3' _ _ _ _).1 hb2)); (have hY2 : VBox w2 (w.heap.size + 1) b mb := (by first | exact VBox.keep hY2 hb2 | exact Blk.keep (box3' _ _ _ _).2.1 hb2)); (have hZ2 : VBox w2 (w.heap.size + 1 + 1) c mc := (by first | exact VBox.keep hZ2 hb2 | exact Blk.keep (box3' _ _ _ _).2.2 hb2)); (try clear x0 x1 x2 x3 x4 x5 x6 y0 y1 y2 y3 y4 y5 y6 z0 z1 z2 z3 z4 z5 z6); obtain ⟨x0, x1, x2, x3, x4, x5, x6⟩ := hX2.facts; obtain ⟨y0, y1, y2, y3, y4, y5, y6⟩ := hY2.facts; obtain ⟨z0, z1, z2, z3, z4, z5, z6⟩ := hZ2.facts) | (go_at_call 10; refine (G2.out _ hbw).mono ?_; rintro e w2 ⟨rfl, hb2⟩; clear G2; replace hbw := bstep hbw hb2; (have hX2 : VBox w2 w.heap.size a ma := (by first | exact VBox.keep hX2 hb2 | exact Blk.keep (box3' _ _ _ _).1 hb2)); (have hY2 : VBox w2 (w.heap.size + 1) b mb := (by first | exact VBox.keep hY2 hb2 | exact Blk.keep (box3' _ _ _ _).2.1 hb2)); (have hZ2 : VBox w2 (w.heap.size + 1 + 1) c mc := (by first | exact VBox.keep hZ2 hb2 | exact Blk.keep (box3' _ _ _ _).2.2 hb2)); (try clear x0 x1 x2 x3 x4 x5 x6 y0 y1 y2 y3 y4 y5 y6 z0 z1 z2 z3 z4 z5 z6); obtain ⟨x0, x1, x2, x3, x4, x5, x6⟩ := hX2.facts; obtain ⟨y0, y1, y2, y3, y4, y5, y6⟩ := hY2.facts; obtain ⟨z0, z1, z2, z3, z4, z5, z6⟩ := hZ2.facts) | (go_at_call 10; refine (G3.out _ hbw).mono ?_; rintro e w2 ⟨rfl, hb2⟩; clear G3; replace hbw := bstep hbw hb2; (have hX2 : VBox w2 w.heap.size a ma := (by first | exact VBox.keep hX2 hb2 | exact Blk.keep (box3' _ _ _ _).1 hb2)); (have hY2 : VBox w2 (w.heap.size + 1) b mb := (by first | exact VBox.keep hY2 hb2 | exact Blk.keep (box3' _ _ _ _).2.1 hb2)); (have hZ2 : VBox w2 (w.heap.size + 1 + 1) c mc := (by first | exact VBox.keep hZ2 hb2 | exact Blk.keep (box3' _ _ _ _).2.2 hb2)); (try clear x0 x1 x2 x3 x4 x5 x6 y0 y1 y2 y3 y4 y5 y6 z0 z1 z2 z3 z4 z5 z6); obtain ⟨x0, x1, x2, x3, x4, x5, x6⟩ := hX2.facts; obtain ⟨y0, y1, y2, y3, y4, y5, y6⟩ := hY2.facts; obtain ⟨z0, z1, z2, z3, z4, z5, z6⟩ := hZ2.facts) | (go_at_call 19; refine (G4.out _ hbw).mono ?_; rintro e w2 ⟨rfl, hb2⟩; clear G4; replace hbw := bstep hbw hb2; (have hX2 : VBox w2 w.heap.size a ma := (by first | exact VBox.keep hX2 hb2 | exact Blk.keep (box3' _ _ _ _).1 hb2)); (have hY2 : VBox w2 (w.heap.size + 1) b mb := (by first | exact VBox.keep hY2 hb2 | exact Blk.keep (box3' _ _ _ _).2.1 hb2)); (have hZ2 : VBox w2 (w.heap.size + 1 + 1) c mc := (by first | exact VBox.keep hZ2 hb2 | exact Blk.keep (box3' _ _ _ _).2.2 hb2)); (try clear x0 x1 x2 x3 x4 x5 x6 y0 y1 y2 y3 y4 y5 y6 z0 z1 z2 z3 z4 z5 z6); obtain ⟨x0, x1, x2, x3, x4, x5, x6⟩ := hX2.facts; obtain ⟨y0, y1, y2, y3, y4, y5, y6⟩ := hY2.facts; obtain ⟨z0, z1, z2, z3, z4, z5, z6⟩ := hZ2.facts) | (go_at_call 19; refine (G5.out _ hbw).mono ?_; rintro e w2 ⟨rfl, hb2⟩; clear G5; replace hbw := bstep hbw hb2; (have hX2 : VBox w2 w.heap.size a ma := (by first | exact VBox.keep hX2 hb2 | exact Blk.keep (box3' _ _ _ _).1 hb2)); (have hY2 : VBox w2 (w.heap.size + 1) b mb := (by first | exact VBox.keep hY2 hb2 | exact Blk.keep (box3' _ _ _ _).2.1 hb2)); (have hZ2 : VBox w2 (w.heap.size + 1 + 1) c mc := (by first | exact VBox.keep hZ2 hb2 | exact Blk.keep (box3' _ _ _ _).2.2 hb2)); (try clear x0 x1 x2 x3 x4 x5 x6 y0 y1 y2 y3 y4 y5 y6 z0 z1 z2 z3 z4 z5 z6); obtain ⟨x0, x1, x2, x3, x4, x5, x6⟩ := hX2.facts; obtain ⟨y0, y1, y2, y3, y4, y5, y6⟩ := hY2.facts; obtain ⟨z0, z1, z2, z3, z4, z5, z6⟩ := hZ2.facts) | (go_at_call 19; refine (G6.out _ hbw).mono ?_; rintro e w2 ⟨rfl, hb2⟩; clear G6; replace hbw := bstep hbw hb2; (have hX2 : VBox w2 w.heap.size a ma := (by first | exact VBox.keep hX2 hb2 | exact Blk.keep (box3' _ _ _ _).1 hb2)); (have hY2 : VBox w2 (w.heap.size + 1) b mb := (by first | exact VBox.keep hY2 hb2 | exact Blk.keep (box3' _ _ _ _).2.1 hb2)); (have hZ2 : VBox w2 (w.heap.size + 1 + 1) c mc := (by first | exact VBox.keep hZ2 hb2 | exact Blk.keep (box3' _ _ _ _).2.2 hb2)); (try clear x0 x1 x2 x3 x4 x5 x6 y0 y1 y2 y3 y4 y5 y6 z0 z1 z2 z3 z4 z5 z6); obtain ⟨x0, x1, x2, x3, x4, x5, x6⟩ := hX2.facts; obtain ⟨y0, y1, y2, y3, y4, y5, y6⟩ := hY2.facts; obtain ⟨z0, z1, z2, z3, z4, z5, z6⟩ := hZ2.facts) | (go_at_call 11; refine (san21_any _ (HE.out.keep hbw) (HT.out.keep hbw)).mono ?_; rintro e ws ⟨rfl, hbs⟩)); go_ret; exact ⟨rfl, bstep hbw hbs⟩)
  rw [hva] at g4
  cases hvb : validC b
  · rw [hvb] at g5
    have G1 := Lib.hid g1
    have G2 := Lib.hid g2
    have G3 := Lib.hid g3
    have G4 := Lib.hid g4
    have G5 := Lib.hid g5
    clear g1 g2 g3 g4 g5 g6 hE hT hfa hfb hfc fa fb fc hva hvb
    unfold CondMem.val at *
    (go_enter Tryz.func4, Tryz.ntmps4; go_wp2_with (first | (go_at_call 10; refine (G1.out _ (by (repeat (first | exact Below.refl _ _ | assumption | refine Below.drew ?_ | refine balloc ?_ _ | refine bdrewN ?_ _ | refine Below.setCell ?_ (by first | (simp; done) | (simp; omega)) _ | refine bstep ?_ (by assumption))))).mono ?_; rintro e w2 ⟨rfl, hb2⟩; clear G1; have hbw : Below w.heap.size w w2 := (by (repeat (first | exact Below.refl _ _ | assumption | refine Below.drew ?_ | refine balloc ?_ _ | refine bdrewN ?_ _ | refine Below.setCell ?_ (by first | (simp; done) | (simp; omega)) _ | refine bstep ?_ (by assumption)))); (have hX2 : VBox w2 w.heap.size a ma := (by first | exact VBox.keep hX2 hb2 | exact Blk.keep (box3' _ _ _ _).1 hb2)); (have hY2 : VBox w2 (w.heap.size + 1) b mb := (by first | exact VBox.keep hY2 hb2 | exact Blk.keep (box3' _ _ _ _).2.1 hb2)); (have hZ2 : VBox w2 (w.heap.size + 1 + 1) c mc := (by first | exact VBox.keep hZ2 hb2 | exact Blk.keep (box3' _ _ _ _).2.2 hb2)); (try clear x0 x1 x2 x3 x4 x5 x6 y0 y1 y2 y3 y4 y5 y6 z0 z1 z2 z3 z4 z5 z6); obtain ⟨x0, x1, x2, x3, x4, x5, x6⟩ := hX2.facts; obtain ⟨y0, y1, y2, y3, y4, y5, y6⟩ := hY2.facts; obtain ⟨z0, z1, z2, z3, z4, z5, z6⟩ := hZ2.facts) | (go_at_call 10; refine (G2.out _ hbw).mono ?_; rintro e w2 ⟨rfl, hb2⟩; clear G2; replace hbw := bstep hbw hb2; (have hX2 : VBox w2 w.heap.size a ma := (by first | exact VBox.keep hX2 hb2 | exact Blk.keep (box3' _ _ _ _).1 hb2)); (have hY2 : VBox w2 (w.heap.size + 1) b mb := (by first | exact VBox.keep hY2 hb2 | exact Blk.keep (box3' _ _ _ _).2.1 hb2)); (have hZ2 : VBox w2 (w.heap.size + 1 + 1) c mc := (by first | exact VBox.keep hZ2 hb2 | exact Blk.keep (box3' _ _ _ _).2.2 hb2)); (try clear x0 x1 x2 x3 x4 x5 x6 y0 y1 y2 y3 y4 y5 y6 z0 z1 z2 z3 z4 z5 z6); obtain ⟨x0, x1, x2, x3, x4, x5, x6⟩ := hX2.facts; obtain ⟨y0, y1, y2, y3, y4, y5, y6⟩ := hY2.facts; obtain ⟨z0, z1, z2, z3, z4, z5, z6⟩ := hZ2.facts) | (go_at_call 10; refine (G3.out _ hbw).mono ?_; rintro e w2 ⟨rfl, hb2⟩; clear G3; replace hbw := bstep hbw hb2; (have hX2 : VBox w2 w.heap.size a ma := (by first | exact VBox.keep hX2 hb2 | exact Blk.keep (box3' _ _ _ _).1 hb2)); (have hY2 : VBox w2 (w.heap.size + 1) b mb := (by first | exact VBox.keep hY2 hb2 | exact Blk.keep (box3' _ _ _ _).2.1 hb2)); (have hZ2 : VBox w2 (w.heap.size + 1 + 1) c mc := (by first | exact VBox.keep hZ2 hb2 | exact Blk.keep (box3' _ _ _ _).2.2 hb2)); (try clear x0 x1 x2 x3 x4 x5 x6 y0 y1 y2 y3 y4 y5 y6 z0 z1 z2 z3 z4 z5 z6); obtain ⟨x0, x1, x2, x3, x4, x5, x6⟩ := hX2.facts; obtain ⟨y0, y1, y2, y3, y4, y5, y6⟩ := hY2.facts; obtain ⟨z0, z1, z2, z3, z4, z5, z6⟩ := hZ2.facts) | (go_at_call 19; refine (G4.out _ hbw).mono ?_; rintro e w2 ⟨rfl, hb2⟩; clear G4; replace hbw := bstep hbw hb2; (have hX2 : VBox w2 w.heap.size a ma := (by first | exact VBox.keep hX2 hb2 | exact Blk.keep (box3' _ _ _ _).1 hb2)); (have hY2 : VBox w2 (w.heap.size + 1) b mb := (by first | exact VBox.keep hY2 hb2 | exact Blk.keep (box3' _ _ _ _).2.1 hb2)); (have hZ2 : VBox w2 (w.heap.size + 1 + 1) c mc := (by first | exact VBox.keep hZ2 hb2 | exact Blk.keep (box3' _ _ _ _).2.2 hb2)); (try clear x0 x1 x2 x3 x4 x5 x6 y0 y1 y2 y3 y4 y5 y6 z0 z1 z2 z3 z4 z5 z6); obtain ⟨x0, x1, x2, x3, x4, x5, x6⟩ := hX2.facts; obtain ⟨y0, y1, y2, y3, y4, y5, y6⟩ := hY2.facts; obtain ⟨z0, z1, z2, z3, z4, z5, z6⟩ := hZ2.facts) | (go_at_call 19; refine (G5.out _ hbw).mono ?_; rintro e w2 ⟨rfl, hb2⟩; clear G5; replace hbw := bstep hbw hb2; (have hX2 : VBox w2 w.heap.size a ma := (by first | exact VBox.keep hX2 hb2 | exact Blk.keep (box3' _ _ _ _).1 hb2)); (have hY2 : VBox w2 (w.heap.size + 1) b mb := (by first | exact VBox.keep hY2 hb2 | exact Blk.keep (box3' _ _ _ _).2.1 hb2)); (have hZ2 : VBox w2 (w.heap.size + 1 + 1) c mc := (by first | exact VBox.keep hZ2 hb2 | exact Blk.keep (box3' _ _ _ _).2.2 hb2)); (try clear x0 x1 x2 x3 x4 x5 x6 y0 y1 y2 y3 y4 y5 y6 z0 z1 z2 z3 z4 z5 z6); obtain ⟨x0, x1, x2, x3, x4, x5, x6⟩ := hX2.facts; obtain ⟨y0, y1, y2, y3, y4, y5, y6⟩ := hY2.facts; obtain ⟨z0, z1, z2, z3, z4, z5, z6⟩ := hZ2.facts) | (go_at_call 19; refine (G6.out _ hbw).mono ?_; rintro e w2 ⟨rfl, hb2⟩; clear G6; replace hbw := bstep hbw hb2; (have hX2 : VBox w2 w.heap.size a ma := (by first | exact VBox.keep hX2 hb2 | exact Blk.keep (box3' _ _ _ _).1 hb2)); (have hY2 : VBox w2 (w.heap.size + 1) b mb := (by first | exact VBox.keep hY2 hb2 | exact Blk.keep (box3' _ _ _ _).2.1 hb2)); (have hZ2 : VBox w2 (w.heap.size + 1 + 1) c mc := (by first | exact VBox.keep hZ2 hb2 | exact Blk.keep (box3' _ _ _ _).2.2 hb2)); (try clear x0 x1 x2 x3 x4 x5 x6 y0 y1 y2 y3 y4 y5 y6 z0 z1 z2 z3 z4 z5 z6); obtain ⟨x0, x1, x2, x3, x4, x5, x6⟩ := hX2.facts; obtain ⟨y0, y1, y2, y3, y4, y5, y6⟩ := hY2.facts; obtain ⟨z0, z1, z2, z3, z4, z5, z6⟩ := hZ2.facts) | (go_at_call 11; refine (san21_any _ (HE.out.keep hbw) (HT.out.keep hbw)).mono ?_; rintro e ws ⟨rfl, hbs⟩)); go_ret; exact ⟨rfl, bstep hbw hbs⟩)
  rw [hvb] at g5
  cases hvc : validC c
  · rw [hvc] at g6
    have G1 := Lib.hid g1
    have G2 := Lib.hid g2
    have G3 := Lib.hid g3
    have G4 := Lib.hid g4
    have G5 := Lib.hid g5
    have G6 := Lib.hid g6
    clear g1 g2 g3 g4 g5 g6 hE hT hfa hfb hfc fa fb fc hva hvb hvc
    unfold CondMem.val at *
    (go_enter Tryz.func4, Tryz.ntmps4; go_wp2_with (first | (go_at_call 10; refine (G1.out _ (by (repeat (first | exact Below.refl _ _ | assumption | refine Below.drew ?_ | refine balloc ?_ _ | refine bdrewN ?_ _ | refine Below.setCell ?_ (by first | (simp; done) | (simp; omega)) _ | refine bstep ?_ (by assumption))))).mono ?_; rintro e w2 ⟨rfl, hb2⟩; clear G1; have hbw : Below w.heap.size w w2 := (by (repeat (first | exact Below.refl _ _ | assumption | refine Below.drew ?_ | refine balloc ?_ _ | refine bdrewN ?_ _ | refine Below.setCell ?_ (by first | (simp; done) | (simp; omega)) _ | refine bstep ?_ (by assumption)))); (have hX2 : VBox w2 w.heap.size a ma := (by first | exact VBox.keep hX2 hb2 | exact Blk.keep (box3' _ _ _ _).1 hb2)); (have hY2 : VBox w2 (w.heap.size + 1) b mb := (by first | exact VBox.keep hY2 hb2 | exact Blk.keep (box3' _ _ _ _).2.1 hb2)); (have hZ2 : VBox w2 (w.heap.size + 1 + 1) c mc := (by first | exact VBox.keep hZ2 hb2 | exact Blk.keep (box3' _ _ _ _).2.2 hb2)); (try clear x0 x1 x2 x3 x4 x5 x6 y0 y1 y2 y3 y4 y5 y6 z0 z1 z2 z3 z4 z5 z6); obtain ⟨x0, x1, x2, x3, x4, x5, x6⟩ := hX2.facts; obtain ⟨y0, y1, y2, y3, y4, y5, y6⟩ := hY2.facts; obtain ⟨z0, z1, z2, z3, z4, z5, z6⟩ := hZ2.facts) | (go_at_call 10; refine (G2.out _ hbw).mono ?_; rintro e w2 ⟨rfl, hb2⟩; clear G2; replace hbw := bstep hbw hb2; (have hX2 : VBox w2 w.heap.size a ma := (by first | exact VBox.keep hX2 hb2 | exact Blk.keep (box3' _ _ _ _).1 hb2)); (have hY2 : VBox w2 (w.heap.size + 1) b mb := (by first | exact VBox.keep hY2 hb2 | exact Blk.keep (box3' _ _ _ _).2.1 hb2)); (have hZ2 : VBox w2 (w.heap.size + 1 + 1) c mc := (by first | exact VBox.keep hZ2 hb2 | exact Blk.keep (box3' _ _ _ _).2.2 hb2)); (try clear x0 x1 x2 x3 x4 x5 x6 y0 y1 y2 y3 y4 y5 y6 z0 z1 z2 z3 z4 z5 z6); obtain ⟨x0, x1, x2, x3, x4, x5, x6⟩ := hX2.facts; obtain ⟨y0, y1, y2, y3, y4, y5, y6⟩ := hY2.facts; obtain ⟨z0, z1, z2, z3, z4, z5, z6⟩ := hZ2.facts) | (go_at_call 10; refine (G3.out _ hbw).mono ?_; rintro e w2 ⟨rfl, hb2⟩; clear G3; replace hbw := bstep hbw hb2; (have hX2 : VBox w2 w.heap.size a ma := (by first | exact VBox.keep hX2 hb2 | exact Blk.keep (box3' _ _ _ _).1 hb2)); (have hY2 : VBox w2 (w.heap.size + 1) b mb := (by first | exact VBox.keep hY2 hb2 | exact Blk.keep (box3' _ _ _ _).2.1 hb2)); (have hZ2 : VBox w2 (w.heap.size + 1 + 1) c mc := (by first | exact VBox.keep hZ2 hb2 | exact Blk.keep (box3' _ _ _ _).2.2 hb2)); (try clear x0 x1 x2 x3 x4 x5 x6 y0 y1 y2 y3 y4 y5 y6 z0 z1 z2 z3 z4 z5 z6); obtain ⟨x0, x1, x2, x3, x4, x5, x6⟩ := hX2.facts; obtain ⟨y0, y1, y2, y3, y4, y5, y6⟩ := hY2.facts; obtain ⟨z0, z1, z2, z3, z4, z5, z6⟩ := hZ2.facts) | (go_at_call 19; refine (G4.out _ hbw).mono ?_; rintro e w2 ⟨rfl, hb2⟩; clear G4; replace hbw := bstep hbw hb2; (have hX2 : VBox w2 w.heap.size a ma := (by first | exact VBox.keep hX2 hb2 | exact Blk.keep (box3' _ _ _ _).1 hb2)); (have hY2 : VBox w2 (w.heap.size + 1) b mb := (by first | exact VBox.keep hY2 hb2 | exact Blk.keep (box3' _ _ _ _).2.1 hb2)); (have hZ2 : VBox w2 (w.heap.size + 1 + 1) c mc := (by first | exact VBox.keep hZ2 hb2 | exact Blk.keep (box3' _ _ _ _).2.2 hb2)); (try clear x0 x1 x2 x3 x4 x5 x6 y0 y1 y2 y3 y4 y5 y6 z0 z1 z2 z3 z4 z5 z6); obtain ⟨x0, x1, x2, x3, x4, x5, x6⟩ := hX2.facts; obtain ⟨y0, y1, y2, y3, y4, y5, y6⟩ := hY2.facts; obtain ⟨z0, z1, z2, z3, z4, z5, z6⟩ := hZ2.facts) | (go_at_call 19; refine (G5.out _ hbw).mono ?_; rintro e w2 ⟨rfl, hb2⟩; clear G5; replace hbw := bstep hbw hb2; (have hX2 : VBox w2 w.heap.size a ma := (by first | exact VBox.keep hX2 hb2 | exact Blk.keep (box3' _ _ _ _).1 hb2)); (have hY2 : VBox w2 (w.heap.size + 1) b mb := (by first | exact VBox.keep hY2 hb2 | exact Blk.keep (box3' _ _ _ _).2.1 hb2)); (have hZ2 : VBox w2 (w.heap.size + 1 + 1) c mc := (by first | exact VBox.keep hZ2 hb2 | exact Blk.keep (box3' _ _ _ _).2.2 hb2)); (try clear x0 x1 x2 x3 x4 x5 x6 y0 y1 y2 y3 y4 y5 y6 z0 z1 z2 z3 z4 z5 z6); obtain ⟨x0, x1, x2, x3, x4, x5, x6⟩ := hX2.facts; obtain ⟨y0, y1, y2, y3, y4, y5, y6⟩ := hY2.facts; obtain ⟨z0, z1, z2, z3, z4, z5, z6⟩ := hZ2.facts) | (go_at_call 19; refine (G6.out _ hbw).mono ?_; rintro e w2 ⟨rfl, hb2⟩; clear G6; replace hbw := bstep hbw hb2; (have hX2 : VBox w2 w.heap.size a ma := (by first | exact VBox.keep hX2 hb2 | exact Blk.keep (box3' _ _ _ _).1 hb2)); (have hY2 : VBox w2 (w.heap.size + 1) b mb := (by first | exact VBox.keep hY2 hb2 | exact Blk.keep (box3' _ _ _ _).2.1 hb2)); (have hZ2 : VBox w2 (w.heap.size + 1 + 1) c mc := (by first | exact VBox.keep hZ2 hb2 | exact Blk.keep (box3' _ _ _ _).2.2 hb2)); (try clear x0 x1 x2 x3 x4 x5 x6 y0 y1 y2 y3 y4 y5 y6 z0 z1 z2 z3 z4 z5 z6); obtain ⟨x0, x1, x2, x3, x4, x5, x6⟩ := hX2.facts; obtain ⟨y0, y1, y2, y3, y4, y5, y6⟩ := hY2.facts; obtain ⟨z0, z1, z2, z3, z4, z5, z6⟩ := hZ2.facts) | (go_at_call 11; refine (san21_any _ (HE.out.keep hbw) (HT.out.keep hbw)).mono ?_; rintro e ws ⟨rfl, hbs⟩)); go_ret; exact ⟨rfl, bstep hbw hbs⟩)
  rw [hvc] at g6
  have oka := (valid_iff a).1 hva
  have okb := (valid_iff b).1 hvb
  have okc := (valid_iff c).1 hvc
  have okab := meetC_ok oka okb
  have okbc := meetC_ok okb okc
  obtain ⟨vab, fab⟩ := meet_fits oka okb fa fb
  obtain ⟨vbc, fbc⟩ := meet_fits okb okc fb fc
  have fx := (meet_fits okab okc fab fc).2
  have hass := meetC_assoc oka okb okc
  have hwm := within_meet oka okb okc
  have hwt := fun h1 h2 => within_trans oka okb okc h1 h2
  have m1 := fun W (hb : Below w.heap.size w W) => meet_valid a b ma mb W (hRa.keep hb) (hRb.keep hb) fa fb hva hvb (hE.keep hb)
  have m2 := fun W (hb : Below w.heap.size w W) => meet_valid b c mb mc W (hRb.keep hb) (hRc.keep hb) fb fc hvb hvc (hE.keep hb)
  have m3 := fun n W (hn : CondReads W (meetC a b) n) (hb : Below w.heap.size w W) => meet_valid (meetC a b) c n mc W hn (hRc.keep hb) fab fc vab hvc (hE.keep hb)
  have m4 := fun n W (hn : CondReads W (meetC b c) n) (hb : Below w.heap.size w W) => meet_valid a (meetC b c) ma n W (hRa.keep hb) hn fa fbc hva vbc (hE.keep hb)
  rw [← hass] at m4
  have n1 := fun W (hb : Below w.heap.size w W) => within_any c a mc ma W (hRc.keep hb) (hRa.keep hb) fc fa hvc hva (hE.keep hb)
  have n2 := fun W (hb : Below w.heap.size w W) => within_any c b mc mb W (hRc.keep hb) (hRb.keep hb) fc fb hvc hvb (hE.keep hb)
  have n3 := fun n W (hn : CondReads W (meetC a b) n) (hb : Below w.heap.size w W) => within_any c (meetC a b) mc n W (hRc.keep hb) hn fc fab hvc vab (hE.keep hb)
  have n4 := fun W (hb : Below w.heap.size w W) => within_any a b ma mb W (hRa.keep hb) (hRb.keep hb) fa fb hva hvb (hE.keep hb)
  have sm := fun n n' W hn hn' => same_cond (meetC (meetC a b) c) n n' W hn hn' fx
  rw [hwm] at n3
  generalize meetC (meetC a b) c = X at *
  generalize meetC a b = ab at *
  generalize meetC b c = bc at *
  generalize withinC c a = p1 at *
  generalize withinC c b = p2 at *
  generalize withinC a b = p3 at *
  have G1 := Lib.hid g1; have G2 := Lib.hid g2; have G3 := Lib.hid g3; have G4 := Lib.hid g4; have G5 := Lib.hid g5; have G6 := Lib.hid g6
  have M1 := Lib.hid m1; have M2 := Lib.hid m2; have M3 := Lib.hid m3; have M4 := Lib.hid m4; have N1 := Lib.hid n1; have N2 := Lib.hid n2; have N3 := Lib.hid n3; have N4 := Lib.hid n4; have SM := Lib.hid sm; have WT := Lib.hid hwt
  clear g1 g2 g3 g4 g5 g6 m1 m2 m3 m4 n1 n2 n3 n4 sm hwt hwm hass fx fab fbc vab vbc okab okbc oka okb okc hva hvb hvc fa fb fc hfa hfb hfc hRa hRb hRc hE hT
  unfold CondMem.val at *
  go_enter Tryz.func4, Tryz.ntmps4
  go_wp2_with (first | (go_at_call 10; refine (G1.out _ (by (repeat (first | exact Below.refl _ _ | assumption | refine Below.drew ?_ | refine balloc ?_ _ | refine bdrewN ?_ _ | refine Below.setCell ?_ (by first | (simp; done) | (simp; omega)) _ | refine bstep ?_ (by assumption))))).mono ?_; rintro e w2 ⟨rfl, hb2⟩; clear G1; have hbw : Below w.heap.size w w2 := (by (repeat (first | exact Below.refl _ _ | assumption | refine Below.drew ?_ | refine balloc ?_ _ | refine bdrewN ?_ _ | refine Below.setCell ?_ (by first | (simp; done) | (simp; omega)) _ | refine bstep ?_ (by assumption)))); (have hX2 : VBox w2 w.heap.size a ma := (by first | exact VBox.keep hX2 hb2 | exact Blk.keep (box3' _ _ _ _).1 hb2)); (have hY2 : VBox w2 (w.heap.size + 1) b mb := (by first | exact VBox.keep hY2 hb2 | exact Blk.keep (box3' _ _ _ _).2.1 hb2)); (have hZ2 : VBox w2 (w.heap.size + 1 + 1) c mc := (by first | exact VBox.keep hZ2 hb2 | exact Blk.keep (box3' _ _ _ _).2.2 hb2)); (try clear x0 x1 x2 x3 x4 x5 x6 y0 y1 y2 y3 y4 y5 y6 z0 z1 z2 z3 z4 z5 z6); obtain ⟨x0, x1, x2, x3, x4, x5, x6⟩ := hX2.facts; obtain ⟨y0, y1, y2, y3, y4, y5, y6⟩ := hY2.facts; obtain ⟨z0, z1, z2, z3, z4, z5, z6⟩ := hZ2.facts) | (go_at_call 10; refine (G2.out _ hbw).mono ?_; rintro e w2 ⟨rfl, hb2⟩; clear G2; replace hbw := bstep hbw hb2; (have hX2 : VBox w2 w.heap.size a ma := (by first | exact VBox.keep hX2 hb2 | exact Blk.keep (box3' _ _ _ _).1 hb2)); (have hY2 : VBox w2 (w.heap.size + 1) b mb := (by first | exact VBox.keep hY2 hb2 | exact Blk.keep (box3' _ _ _ _).2.1 hb2)); (have hZ2 : VBox w2 (w.heap.size + 1 + 1) c mc := (by first | exact VBox.keep hZ2 hb2 | exact Blk.keep (box3' _ _ _ _).2.2 hb2)); (try clear x0 x1 x2 x3 x4 x5 x6 y0 y1 y2 y3 y4 y5 y6 z0 z1 z2 z3 z4 z5 z6); obtain ⟨x0, x1, x2, x3, x4, x5, x6⟩ := hX2.facts; obtain ⟨y0, y1, y2, y3, y4, y5, y6⟩ := hY2.facts; obtain ⟨z0, z1, z2, z3, z4, z5, z6⟩ := hZ2.facts) | (go_at_call 10; refine (G3.out _ hbw).mono ?_; rintro e w2 ⟨rfl, hb2⟩; clear G3; replace hbw := bstep hbw hb2; (have hX2 : VBox w2 w.heap.size a ma := (by first | exact VBox.keep hX2 hb2 | exact Blk.keep (box3' _ _ _ _).1 hb2)); (have hY2 : VBox w2 (w.heap.size + 1) b mb := (by first | exact VBox.keep hY2 hb2 | exact Blk.keep (box3' _ _ _ _).2.1 hb2)); (have hZ2 : VBox w2 (w.heap.size + 1 + 1) c mc := (by first | exact VBox.keep hZ2 hb2 | exact Blk.keep (box3' _ _ _ _).2.2 hb2)); (try clear x0 x1 x2 x3 x4 x5 x6 y0 y1 y2 y3 y4 y5 y6 z0 z1 z2 z3 z4 z5 z6); obtain ⟨x0, x1, x2, x3, x4, x5, x6⟩ := hX2.facts; obtain ⟨y0, y1, y2, y3, y4, y5, y6⟩ := hY2.facts; obtain ⟨z0, z1, z2, z3, z4, z5, z6⟩ := hZ2.facts) | (go_at_call 19; refine (G4.out _ hbw).mono ?_; rintro e w2 ⟨rfl, hb2⟩; clear G4; replace hbw := bstep hbw hb2; (have hX2 : VBox w2 w.heap.size a ma := (by first | exact VBox.keep hX2 hb2 | exact Blk.keep (box3' _ _ _ _).1 hb2)); (have hY2 : VBox w2 (w.heap.size + 1) b mb := (by first | exact VBox.keep hY2 hb2 | exact Blk.keep (box3' _ _ _ _).2.1 hb2)); (have hZ2 : VBox w2 (w.heap.size + 1 + 1) c mc := (by first | exact VBox.keep hZ2 hb2 | exact Blk.keep (box3' _ _ _ _).2.2 hb2)); (try clear x0 x1 x2 x3 x4 x5 x6 y0 y1 y2 y3 y4 y5 y6 z0 z1 z2 z3 z4 z5 z6); obtain ⟨x0, x1, x2, x3, x4, x5, x6⟩ := hX2.facts; obtain ⟨y0, y1, y2, y3, y4, y5, y6⟩ := hY2.facts; obtain ⟨z0, z1, z2, z3, z4, z5, z6⟩ := hZ2.facts) | (go_at_call 19; refine (G5.out _ hbw).mono ?_; rintro e w2 ⟨rfl, hb2⟩; clear G5; replace hbw := bstep hbw hb2; (have hX2 : VBox w2 w.heap.size a ma := (by first | exact VBox.keep hX2 hb2 | exact Blk.keep (box3' _ _ _ _).1 hb2)); (have hY2 : VBox w2 (w.heap.size + 1) b mb := (by first | exact VBox.keep hY2 hb2 | exact Blk.keep (box3' _ _ _ _).2.1 hb2)); (have hZ2 : VBox w2 (w.heap.size + 1 + 1) c mc := (by first | exact VBox.keep hZ2 hb2 | exact Blk.keep (box3' _ _ _ _).2.2 hb2)); (try clear x0 x1 x2 x3 x4 x5 x6 y0 y1 y2 y3 y4 y5 y6 z0 z1 z2 z3 z4 z5 z6); obtain ⟨x0, x1, x2, x3, x4, x5, x6⟩ := hX2.facts; obtain ⟨y0, y1, y2, y3, y4, y5, y6⟩ := hY2.facts; obtain ⟨z0, z1, z2, z3, z4, z5, z6⟩ := hZ2.facts) | (go_at_call 19; refine (G6.out _ hbw).mono ?_; rintro e w2 ⟨rfl, hb2⟩; clear G6; replace hbw := bstep hbw hb2; (have hX2 : VBox w2 w.heap.size a ma := (by first | exact VBox.keep hX2 hb2 | exact Blk.keep (box3' _ _ _ _).1 hb2)); (have hY2 : VBox w2 (w.heap.size + 1) b mb := (by first | exact VBox.keep hY2 hb2 | exact Blk.keep (box3' _ _ _ _).2.1 hb2)); (have hZ2 : VBox w2 (w.heap.size + 1 + 1) c mc := (by first | exact VBox.keep hZ2 hb2 | exact Blk.keep (box3' _ _ _ _).2.2 hb2)); (try clear x0 x1 x2 x3 x4 x5 x6 y0 y1 y2 y3 y4 y5 y6 z0 z1 z2 z3 z4 z5 z6); obtain ⟨x0, x1, x2, x3, x4, x5, x6⟩ := hX2.facts; obtain ⟨y0, y1, y2, y3, y4, y5, y6⟩ := hY2.facts; obtain ⟨z0, z1, z2, z3, z4, z5, z6⟩ := hZ2.facts))
  have hbw2 := hbw
  clear hbw hb2 x0 x1 x2 x3 x4 x5 x6 y0 y1 y2 y3 y4 y5 y6 z0 z1 z2 z3 z4 z5 z6
  refine (M1.out _ hbw2).mono ?_; rintro e w3 ⟨hb3, m1, rfl, hr13⟩
  have hbw3 := bstep hbw2 (hb3)
  have hX3 : VBox w3 (w.heap.size) a ma := hX2.keep (hb3)
  have hY3 : VBox w3 (w.heap.size + 1) b mb := hY2.keep (hb3)
  have hZ3 : VBox w3 (w.heap.size + 1 + 1) c mc := hZ2.keep (hb3)
  clear hb3 hbw2 hX2 hY2 hZ2 
  dsimp only [CondMem.val]
  obtain ⟨x0, x1, x2, x3, x4, x5, x6⟩ := hX3.facts
  have lx := Blk.lt hX3
  obtain ⟨y0, y1, y2, y3, y4, y5, y6⟩ := hY3.facts
  have ly := Blk.lt hY3
  obtain ⟨z0, z1, z2, z3, z4, z5, z6⟩ := hZ3.facts
  have lz := Blk.lt hZ3
  go_wp2_with fail
  clear x0 x1 x2 x3 x4 x5 x6 y0 y1 y2 y3 y4 y5 y6 z0 z1 z2 z3 z4 z5 z6 lx ly lz
  refine (M2.out _ (by (repeat (first | exact Below.refl _ _ | assumption | refine Below.drew ?_ | refine balloc ?_ _ | refine bdrewN ?_ _ | refine Below.setCell ?_ (by first | (simp; done) | (simp; omega)) _ | refine bstep ?_ (by assumption))))).mono ?_; rintro e w4 ⟨hb4, m2, rfl, hr24⟩
  have hbw4 := bstep hbw3 (blater _ hb4)
  have hX4 : VBox w4 (w.heap.size) a ma := hX3.keep (blater _ hb4)
  have hY4 : VBox w4 (w.heap.size + 1) b mb := hY3.keep (blater _ hb4)
  have hZ4 : VBox w4 (w.heap.size + 1 + 1) c mc := hZ3.keep (blater _ hb4)
  have hr14 := hr13.keep (blater _ hb4)
  have hP4 : VBox w4 (w3.heap.size) ab m1 := Blk.keep (World.alloc_heap_new _ _) hb4
  clear hb4 hbw3 hX3 hY3 hZ3 hr13
  dsimp only [CondMem.val]
  obtain ⟨x0, x1, x2, x3, x4, x5, x6⟩ := hX4.facts
  have lx := Blk.lt hX4
  obtain ⟨y0, y1, y2, y3, y4, y5, y6⟩ := hY4.facts
  have ly := Blk.lt hY4
  obtain ⟨z0, z1, z2, z3, z4, z5, z6⟩ := hZ4.facts
  have lz := Blk.lt hZ4
  obtain ⟨p0, p1, p2, p3, p4, p5, p6⟩ := hP4.facts
  have lp := Blk.lt hP4
  go_wp2_with fail
  clear x0 x1 x2 x3 x4 x5 x6 y0 y1 y2 y3 y4 y5 y6 z0 z1 z2 z3 z4 z5 z6 p0 p1 p2 p3 p4 p5 p6 lx ly lz lp
  refine (M3.out m1 _ (hr14.keep (by (repeat (first | exact Below.refl _ _ | assumption | refine Below.drew ?_ | refine balloc ?_ _ | refine bdrewN ?_ _ | refine Below.setCell ?_ (by first | (simp; done) | (simp; omega)) _ | refine bstep ?_ (by assumption))))) (by (repeat (first | exact Below.refl _ _ | assumption | refine Below.drew ?_ | refine balloc ?_ _ | refine bdrewN ?_ _ | refine Below.setCell ?_ (by first | (simp; done) | (simp; omega)) _ | refine bstep ?_ (by assumption))))).mono ?_; rintro e w5 ⟨hb5, m3, rfl, hr35⟩
  have hbw5 := bstep hbw4 (blater _ hb5)
  have hX5 : VBox w5 (w.heap.size) a ma := hX4.keep (blater _ hb5)
  have hY5 : VBox w5 (w.heap.size + 1) b mb := hY4.keep (blater _ hb5)
  have hZ5 : VBox w5 (w.heap.size + 1 + 1) c mc := hZ4.keep (blater _ hb5)
  have hP5 : VBox w5 (w3.heap.size) ab m1 := hP4.keep (blater _ hb5)
  have hr15 := hr14.keep (blater _ hb5)
  have hr25 := hr24.keep (blater _ hb5)
  have hQ5 : VBox w5 (w4.heap.size) bc m2 := Blk.keep (World.alloc_heap_new _ _) hb5
  clear hb5 hbw4 hX4 hY4 hZ4 hP4 hr14 hr24
  dsimp only [CondMem.val]
  obtain ⟨x0, x1, x2, x3, x4, x5, x6⟩ := hX5.facts
  have lx := Blk.lt hX5
  obtain ⟨y0, y1, y2, y3, y4, y5, y6⟩ := hY5.facts
  have ly := Blk.lt hY5
  obtain ⟨z0, z1, z2, z3, z4, z5, z6⟩ := hZ5.facts
  have lz := Blk.lt hZ5
  obtain ⟨p0, p1, p2, p3, p4, p5, p6⟩ := hP5.facts
  have lp := Blk.lt hP5
  obtain ⟨q0, q1, q2, q3, q4, q5, q6⟩ := hQ5.facts
  have lq := Blk.lt hQ5
  go_wp2_with fail
  clear x0 x1 x2 x3 x4 x5 x6 y0 y1 y2 y3 y4 y5 y6 z0 z1 z2 z3 z4 z5 z6 p0 p1 p2 p3 p4 p5 p6 q0 q1 q2 q3 q4 q5 q6 lx ly lz lp lq
  refine (M4.out m2 _ (hr25.keep (by (repeat (first | exact Below.refl _ _ | assumption | refine Below.drew ?_ | refine balloc ?_ _ | refine bdrewN ?_ _ | refine Below.setCell ?_ (by first | (simp; done) | (simp; omega)) _ | refine bstep ?_ (by assumption))))) (by (repeat (first | exact Below.refl _ _ | assumption | refine Below.drew ?_ | refine balloc ?_ _ | refine bdrewN ?_ _ | refine Below.setCell ?_ (by first | (simp; done) | (simp; omega)) _ | refine bstep ?_ (by assumption))))).mono ?_; rintro e w6 ⟨hb6, m4, rfl, hr46⟩
  have hbw6 := bstep hbw5 (blater _ hb6)
  have hX6 : VBox w6 (w.heap.size) a ma := hX5.keep (blater _ hb6)
  have hY6 : VBox w6 (w.heap.size + 1) b mb := hY5.keep (blater _ hb6)
  have hZ6 : VBox w6 (w.heap.size + 1 + 1) c mc := hZ5.keep (blater _ hb6)
  have hP6 : VBox w6 (w3.heap.size) ab m1 := hP5.keep (blater _ hb6)
  have hQ6 : VBox w6 (w4.heap.size) bc m2 := hQ5.keep (blater _ hb6)
  have hr16 := hr15.keep (blater _ hb6)
  have hr26 := hr25.keep (blater _ hb6)
  have hr36 := hr35.keep (blater _ hb6)
  have hU6 : VBox w6 (w5.heap.size) X m3 := Blk.keep (World.alloc_heap_new _ _) hb6
  clear hb6 hbw5 hX5 hY5 hZ5 hP5 hQ5 hr15 hr25 hr35
  dsimp only [CondMem.val]
  obtain ⟨x0, x1, x2, x3, x4, x5, x6⟩ := hX6.facts
  have lx := Blk.lt hX6
  obtain ⟨y0, y1, y2, y3, y4, y5, y6⟩ := hY6.facts
  have ly := Blk.lt hY6
  obtain ⟨z0, z1, z2, z3, z4, z5, z6⟩ := hZ6.facts
  have lz := Blk.lt hZ6
  obtain ⟨p0, p1, p2, p3, p4, p5, p6⟩ := hP6.facts
  have lp := Blk.lt hP6
  obtain ⟨q0, q1, q2, q3, q4, q5, q6⟩ := hQ6.facts
  have lq := Blk.lt hQ6
  obtain ⟨u0, u1, u2, u3, u4, u5, u6⟩ := hU6.facts
  have lu := Blk.lt hU6
  go_wp2_with fail
  clear x0 x1 x2 x3 x4 x5 x6 y0 y1 y2 y3 y4 y5 y6 z0 z1 z2 z3 z4 z5 z6 p0 p1 p2 p3 p4 p5 p6 q0 q1 q2 q3 q4 q5 q6 u0 u1 u2 u3 u4 u5 u6 lx ly lz lp lq lu
  refine (SM.out m3 m4 _ (hr36.keep (by (repeat (first | exact Below.refl _ _ | assumption | refine Below.drew ?_ | refine balloc ?_ _ | refine bdrewN ?_ _ | refine Below.setCell ?_ (by first | (simp; done) | (simp; omega)) _ | refine bstep ?_ (by assumption))))) (hr46.keep (by (repeat (first | exact Below.refl _ _ | assumption | refine Below.drew ?_ | refine balloc ?_ _ | refine bdrewN ?_ _ | refine Below.setCell ?_ (by first | (simp; done) | (simp; omega)) _ | refine bstep ?_ (by assumption)))))).mono ?_; rintro e w7 ⟨rfl, hb7⟩
  have hbw7 := bstep hbw6 (blater _ hb7)
  have hX7 : VBox w7 (w.heap.size) a ma := hX6.keep (blater _ hb7)
  have hY7 : VBox w7 (w.heap.size + 1) b mb := hY6.keep (blater _ hb7)
  have hZ7 : VBox w7 (w.heap.size + 1 + 1) c mc := hZ6.keep (blater _ hb7)
  have hP7 : VBox w7 (w3.heap.size) ab m1 := hP6.keep (blater _ hb7)
  have hQ7 : VBox w7 (w4.heap.size) bc m2 := hQ6.keep (blater _ hb7)
  have hU7 : VBox w7 (w5.heap.size) X m3 := hU6.keep (blater _ hb7)
  have hr17 := hr16.keep (blater _ hb7)
  have hr27 := hr26.keep (blater _ hb7)
  have hr37 := hr36.keep (blater _ hb7)
  have hr47 := hr46.keep (blater _ hb7)
  have hV7 : VBox w7 (w6.heap.size) X m4 := Blk.keep (World.alloc_heap_new _ _) hb7
  clear hb7 hbw6 hX6 hY6 hZ6 hP6 hQ6 hU6 hr16 hr26 hr36 hr46
  obtain ⟨x0, x1, x2, x3, x4, x5, x6⟩ := hX7.facts
  have lx := Blk.lt hX7
  obtain ⟨y0, y1, y2, y3, y4, y5, y6⟩ := hY7.facts
  have ly := Blk.lt hY7
  obtain ⟨z0, z1, z2, z3, z4, z5, z6⟩ := hZ7.facts
  have lz := Blk.lt hZ7
  obtain ⟨p0, p1, p2, p3, p4, p5, p6⟩ := hP7.facts
  have lp := Blk.lt hP7
  obtain ⟨q0, q1, q2, q3, q4, q5, q6⟩ := hQ7.facts
  have lq := Blk.lt hQ7
  obtain ⟨u0, u1, u2, u3, u4, u5, u6⟩ := hU7.facts
  have lu := Blk.lt hU7
  obtain ⟨v0, v1, v2, v3, v4, v5, v6⟩ := hV7.facts
  have lv := Blk.lt hV7
  go_wp2_with fail
  clear x0 x1 x2 x3 x4 x5 x6 y0 y1 y2 y3 y4 y5 y6 z0 z1 z2 z3 z4 z5 z6 p0 p1 p2 p3 p4 p5 p6 q0 q1 q2 q3 q4 q5 q6 u0 u1 u2 u3 u4 u5 u6 v0 v1 v2 v3 v4 v5 v6 lx ly lz lp lq lu lv
  refine (N1.out _ (by (repeat (first | exact Below.refl _ _ | assumption | refine Below.drew ?_ | refine balloc ?_ _ | refine bdrewN ?_ _ | refine Below.setCell ?_ (by first | (simp; done) | (simp; omega)) _ | refine bstep ?_ (by assumption))))).mono ?_; rintro e w8 ⟨rfl, hb8⟩
  have hbw8 := bstep hbw7 (hb8)
  have hX8 : VBox w8 (w.heap.size) a ma := hX7.keep (hb8)
  have hY8 : VBox w8 (w.heap.size + 1) b mb := hY7.keep (hb8)
  have hZ8 : VBox w8 (w.heap.size + 1 + 1) c mc := hZ7.keep (hb8)
  have hP8 : VBox w8 (w3.heap.size) ab m1 := hP7.keep (hb8)
  have hQ8 : VBox w8 (w4.heap.size) bc m2 := hQ7.keep (hb8)
  have hU8 : VBox w8 (w5.heap.size) X m3 := hU7.keep (hb8)
  have hV8 : VBox w8 (w6.heap.size) X m4 := hV7.keep (hb8)
  have hr18 := hr17.keep (hb8)
  have hr28 := hr27.keep (hb8)
  have hr38 := hr37.keep (hb8)
  have hr48 := hr47.keep (hb8)
  clear hb8 hbw7 hX7 hY7 hZ7 hP7 hQ7 hU7 hV7 hr17 hr27 hr37 hr47
  obtain ⟨x0, x1, x2, x3, x4, x5, x6⟩ := hX8.facts
  have lx := Blk.lt hX8
  obtain ⟨y0, y1, y2, y3, y4, y5, y6⟩ := hY8.facts
  have ly := Blk.lt hY8
  obtain ⟨z0, z1, z2, z3, z4, z5, z6⟩ := hZ8.facts
  have lz := Blk.lt hZ8
  obtain ⟨p0, p1, p2, p3, p4, p5, p6⟩ := hP8.facts
  have lp := Blk.lt hP8
  obtain ⟨q0, q1, q2, q3, q4, q5, q6⟩ := hQ8.facts
  have lq := Blk.lt hQ8
  obtain ⟨u0, u1, u2, u3, u4, u5, u6⟩ := hU8.facts
  have lu := Blk.lt hU8
  obtain ⟨v0, v1, v2, v3, v4, v5, v6⟩ := hV8.facts
  have lv := Blk.lt hV8
  go_wp2_with fail
  clear x0 x1 x2 x3 x4 x5 x6 y0 y1 y2 y3 y4 y5 y6 z0 z1 z2 z3 z4 z5 z6 p0 p1 p2 p3 p4 p5 p6 q0 q1 q2 q3 q4 q5 q6 u0 u1 u2 u3 u4 u5 u6 v0 v1 v2 v3 v4 v5 v6 lx ly lz lp lq lu lv
  refine (N2.out _ (by (repeat (first | exact Below.refl _ _ | assumption | refine Below.drew ?_ | refine balloc ?_ _ | refine bdrewN ?_ _ | refine Below.setCell ?_ (by first | (simp; done) | (simp; omega)) _ | refine bstep ?_ (by assumption))))).mono ?_; rintro e w9 ⟨rfl, hb9⟩
  have hbw9 := bstep hbw8 (hb9)
  have hX9 : VBox w9 (w.heap.size) a ma := hX8.keep (hb9)
  have hY9 : VBox w9 (w.heap.size + 1) b mb := hY8.keep (hb9)
  have hZ9 : VBox w9 (w.heap.size + 1 + 1) c mc := hZ8.keep (hb9)
  have hP9 : VBox w9 (w3.heap.size) ab m1 := hP8.keep (hb9)
  have hQ9 : VBox w9 (w4.heap.size) bc m2 := hQ8.keep (hb9)
  have hU9 : VBox w9 (w5.heap.size) X m3 := hU8.keep (hb9)
  have hV9 : VBox w9 (w6.heap.size) X m4 := hV8.keep (hb9)
  have hr19 := hr18.keep (hb9)
  have hr29 := hr28.keep (hb9)
  have hr39 := hr38.keep (hb9)
  have hr49 := hr48.keep (hb9)
  clear hb9 hbw8 hX8 hY8 hZ8 hP8 hQ8 hU8 hV8 hr18 hr28 hr38 hr48
  obtain ⟨x0, x1, x2, x3, x4, x5, x6⟩ := hX9.facts
  have lx := Blk.lt hX9
  obtain ⟨y0, y1, y2, y3, y4, y5, y6⟩ := hY9.facts
  have ly := Blk.lt hY9
  obtain ⟨z0, z1, z2, z3, z4, z5, z6⟩ := hZ9.facts
  have lz := Blk.lt hZ9
  obtain ⟨p0, p1, p2, p3, p4, p5, p6⟩ := hP9.facts
  have lp := Blk.lt hP9
  obtain ⟨q0, q1, q2, q3, q4, q5, q6⟩ := hQ9.facts
  have lq := Blk.lt hQ9
  obtain ⟨u0, u1, u2, u3, u4, u5, u6⟩ := hU9.facts
  have lu := Blk.lt hU9
  obtain ⟨v0, v1, v2, v3, v4, v5, v6⟩ := hV9.facts
  have lv := Blk.lt hV9
  go_wp2_with fail
  clear x0 x1 x2 x3 x4 x5 x6 y0 y1 y2 y3 y4 y5 y6 z0 z1 z2 z3 z4 z5 z6 p0 p1 p2 p3 p4 p5 p6 q0 q1 q2 q3 q4 q5 q6 u0 u1 u2 u3 u4 u5 u6 v0 v1 v2 v3 v4 v5 v6 lx ly lz lp lq lu lv
  refine (N3.out m1 _ (hr19.keep (by (repeat (first | exact Below.refl _ _ | assumption | refine Below.drew ?_ | refine balloc ?_ _ | refine bdrewN ?_ _ | refine Below.setCell ?_ (by first | (simp; done) | (simp; omega)) _ | refine bstep ?_ (by assumption))))) (by (repeat (first | exact Below.refl _ _ | assumption | refine Below.drew ?_ | refine balloc ?_ _ | refine bdrewN ?_ _ | refine Below.setCell ?_ (by first | (simp; done) | (simp; omega)) _ | refine bstep ?_ (by assumption))))).mono ?_; rintro e w10 ⟨rfl, hb10⟩
  have hbw10 := bstep hbw9 (hb10)
  have hX10 : VBox w10 (w.heap.size) a ma := hX9.keep (hb10)
  have hY10 : VBox w10 (w.heap.size + 1) b mb := hY9.keep (hb10)
  have hZ10 : VBox w10 (w.heap.size + 1 + 1) c mc := hZ9.keep (hb10)
  have hP10 : VBox w10 (w3.heap.size) ab m1 := hP9.keep (hb10)
  have hQ10 : VBox w10 (w4.heap.size) bc m2 := hQ9.keep (hb10)
  have hU10 : VBox w10 (w5.heap.size) X m3 := hU9.keep (hb10)
  have hV10 : VBox w10 (w6.heap.size) X m4 := hV9.keep (hb10)
  have hr110 := hr19.keep (hb10)
  have hr210 := hr29.keep (hb10)
  have hr310 := hr39.keep (hb10)
  have hr410 := hr49.keep (hb10)
  clear hb10 hbw9 hX9 hY9 hZ9 hP9 hQ9 hU9 hV9 hr19 hr29 hr39 hr49
  obtain ⟨x0, x1, x2, x3, x4, x5, x6⟩ := hX10.facts
  have lx := Blk.lt hX10
  obtain ⟨y0, y1, y2, y3, y4, y5, y6⟩ := hY10.facts
  have ly := Blk.lt hY10
  obtain ⟨z0, z1, z2, z3, z4, z5, z6⟩ := hZ10.facts
  have lz := Blk.lt hZ10
  obtain ⟨p0, p1, p2, p3, p4, p5, p6⟩ := hP10.facts
  have lp := Blk.lt hP10
  obtain ⟨q0, q1, q2, q3, q4, q5, q6⟩ := hQ10.facts
  have lq := Blk.lt hQ10
  obtain ⟨u0, u1, u2, u3, u4, u5, u6⟩ := hU10.facts
  have lu := Blk.lt hU10
  obtain ⟨v0, v1, v2, v3, v4, v5, v6⟩ := hV10.facts
  have lv := Blk.lt hV10
  go_wp2_with fail
  clear x0 x1 x2 x3 x4 x5 x6 y0 y1 y2 y3 y4 y5 y6 z0 z1 z2 z3 z4 z5 z6 p0 p1 p2 p3 p4 p5 p6 q0 q1 q2 q3 q4 q5 q6 u0 u1 u2 u3 u4 u5 u6 v0 v1 v2 v3 v4 v5 v6 lx ly lz lp lq lu lv
  refine (N4.out _ (by (repeat (first | exact Below.refl _ _ | assumption | refine Below.drew ?_ | refine balloc ?_ _ | refine bdrewN ?_ _ | refine Below.setCell ?_ (by first | (simp; done) | (simp; omega)) _ | refine bstep ?_ (by assumption))))).mono ?_; rintro e w11 ⟨rfl, hb11⟩
  have hbw11 := bstep hbw10 (hb11)
  have hX11 : VBox w11 (w.heap.size) a ma := hX10.keep (hb11)
  have hY11 : VBox w11 (w.heap.size + 1) b mb := hY10.keep (hb11)
  have hZ11 : VBox w11 (w.heap.size + 1 + 1) c mc := hZ10.keep (hb11)
  have hP11 : VBox w11 (w3.heap.size) ab m1 := hP10.keep (hb11)
  have hQ11 : VBox w11 (w4.heap.size) bc m2 := hQ10.keep (hb11)
  have hU11 : VBox w11 (w5.heap.size) X m3 := hU10.keep (hb11)
  have hV11 : VBox w11 (w6.heap.size) X m4 := hV10.keep (hb11)
  have hr111 := hr110.keep (hb11)
  have hr211 := hr210.keep (hb11)
  have hr311 := hr310.keep (hb11)
  have hr411 := hr410.keep (hb11)
  clear hb11 hbw10 hX10 hY10 hZ10 hP10 hQ10 hU10 hV10 hr110 hr210 hr310 hr410
  have hbw := hbw11
  have hwt := WT.out
  clear WT M1 M2 M3 M4 N1 N2 N3 N4 SM hX11 hY11 hZ11 hP11 hQ11 hU11 hV11 hr111 hr211 hr311 hr411 hbw11
  cases p1 <;> cases p2 <;> cases p3
  all_goals first | (exfalso; have := hwt rfl rfl; cases this; done) | skip
  all_goals clear hwt
  all_goals (try simp only [Bool.and_self, Bool.and_true, Bool.true_and, Bool.false_and, Bool.and_false])
  all_goals go_wp2_with (go_at_call 11; refine (san21_any _ (HE.out.keep hbw) (HT.out.keep hbw)).mono ?_; rintro e ws ⟨rfl, hbs⟩)
  all_goals go_ret
  all_goals exact ⟨rfl, bstep hbw hbs⟩

end Go.Proofs.YtocgkpdolgnbgaaGreatDoor
