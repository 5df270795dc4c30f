/- The zero condition, and what Empty says of a valid one. -/
import Derived.Test.YtocgkpdolgnbgaaGreatDoorJE
import Derived.Test.YtocgkpdolgnbgaaGreatDoorProg
import Derived.WalkKit
import Derived.WalkSpells
import Derived.WalkLawsBesides
import Derived.Below
import Derived.Deep.QuietTactic
import Derived.BigQuiet
import Derived.Lib.QuietBelow
import Derived.Lib.Strings
import Derived.Lib.Hide
import Derived.Deep.RegionWith
import Derived.Deep.RegionHeld3
import Derived.Lib.IndexBytes
namespace Go.Proofs.YtocgkpdolgnbgaaGreatDoor
open Go.RowKit Go.Sort
set_option linter.unusedVariables false
set_option linter.unusedSimpArgs false
set_option maxRecDepth 100000
theorem zero_reads (w : World) : CondReads w zeroC ⟨none, 0, none, 0, none, 0⟩ := ⟨Reads.nil_ _ _ _, Reads.nil_ _ _ _, Reads.nil_ _ _ _⟩
theorem empty_pos {a : CondV} (h : validC a = true) (he : a.till ≤ a.fr) : emptyR a = (true, noAsk, 0) := by
  unfold emptyR
  rw [if_pos h, if_pos he]
theorem empty_neg {a : CondV} (h : validC a = true) (he : ¬ a.till ≤ a.fr) : emptyR a = (false, sampleC a, 0) := by
  unfold emptyR
  rw [if_pos h, if_neg he]
theorem imp_zero {a : CondV} (h : CondOk a) (he : ¬ a.till ≤ a.fr) : impC a zeroC = false := by
  have h0 := h.fr0
  have e : zeroC.till = 0 := rfl
  have e2 : zeroC.fr = 0 := rfl
  unfold impC
  rw [decide_eq_false he, e, e2, decide_eq_false (p := 0 ≤ a.fr ∧ a.till ≤ 0) (by omega)]
  rfl

end Go.Proofs.YtocgkpdolgnbgaaGreatDoor
/- What CondEmptyExactly returns: true. -/
namespace Go.Proofs.YtocgkpdolgnbgaaGreatDoor
open Go.RowKit Go.Sort
set_option linter.unusedVariables false
set_option linter.unusedSimpArgs false
set_option maxRecDepth 100000
set_option maxHeartbeats 16000000 in
theorem lawEmpty (a : CondV) (ma : CondMem) (q : AskV) (w : World) (hRa : CondReads w a ma) (hE : Env w) (hT : Tab w) :
    Calls Tryz.prog 9 #[CondMem.val a ma, AskV.val q] w (Ret w (.bool true)) := by
  have g1 := fun W (hb : Below w.heap.size w W) => few_cond a ma W (hRa.keep hb)
  have g3 := fun W (_ : Below w.heap.size w W) => few_ask q W
  have HE := Lib.hid hE
  have HT := Lib.hid hT
  cases hfa : fewV a
  · rw [hfa] at g1
    have G1 := Lib.hid g1
    clear g1 g3 hE hT hfa
    unfold CondMem.val AskV.val at *
    (go_enter Tryz.func9, Tryz.ntmps9; go_wp2_with (first | (go_at_call 10; refine (G1.out _ (by (repeat (first | exact Below.refl _ _ | assumption | refine Below.drew ?_ | refine balloc ?_ _ | refine bdrewN ?_ _ | refine Below.setCell ?_ (by first | (simp; done) | (simp; omega)) _ | refine bstep ?_ (by assumption))))).mono ?_; rintro e w2 ⟨rfl, hb2⟩; clear G1; have hbw : Below w.heap.size w w2 := (by (repeat (first | exact Below.refl _ _ | assumption | refine Below.drew ?_ | refine balloc ?_ _ | refine bdrewN ?_ _ | refine Below.setCell ?_ (by first | (simp; done) | (simp; omega)) _ | refine bstep ?_ (by assumption)))); (have hX2 : VBox w2 (w.heap.size) a ma := (by first | exact VBox.keep hX2 hb2 | exact Blk.keep (two_box _ _ _).1 hb2)); (have hZ2 : YBox w2 (w.heap.size + 1) q := (by first | exact YBox.keep hZ2 hb2 | exact Blk.keep (two_box _ _ _).2 hb2)); (try clear x0 x1 x2 x3 x4 x5 x6 z0 z1 z2 z3 z4 z5); obtain ⟨x0, x1, x2, x3, x4, x5, x6⟩ := hX2.facts; obtain ⟨z0, z1, z2, z3, z4, z5⟩ := hZ2.facts) | (go_at_call 23; refine (G3.out _ hbw).mono ?_; rintro e w2 ⟨rfl, hb2⟩; clear G3; replace hbw := bstep hbw hb2; (have hX2 : VBox w2 (w.heap.size) a ma := (by first | exact VBox.keep hX2 hb2 | exact Blk.keep (two_box _ _ _).1 hb2)); (have hZ2 : YBox w2 (w.heap.size + 1) q := (by first | exact YBox.keep hZ2 hb2 | exact Blk.keep (two_box _ _ _).2 hb2)); (try clear x0 x1 x2 x3 x4 x5 x6 z0 z1 z2 z3 z4 z5); obtain ⟨x0, x1, x2, x3, x4, x5, x6⟩ := hX2.facts; obtain ⟨z0, z1, z2, z3, z4, z5⟩ := hZ2.facts) | (go_at_call 19; refine (G4.out _ hbw).mono ?_; rintro e w2 ⟨rfl, hb2⟩; clear G4; replace hbw := bstep hbw hb2; (have hX2 : VBox w2 (w.heap.size) a ma := (by first | exact VBox.keep hX2 hb2 | exact Blk.keep (two_box _ _ _).1 hb2)); (have hZ2 : YBox w2 (w.heap.size + 1) q := (by first | exact YBox.keep hZ2 hb2 | exact Blk.keep (two_box _ _ _).2 hb2)); (try clear x0 x1 x2 x3 x4 x5 x6 z0 z1 z2 z3 z4 z5); obtain ⟨x0, x1, x2, x3, x4, x5, x6⟩ := hX2.facts; obtain ⟨z0, z1, z2, z3, z4, z5⟩ := hZ2.facts) | (go_at_call 11; refine (san21_any _ (HE.out.keep hbw) (HT.out.keep hbw)).mono ?_; rintro e ws ⟨rfl, hbs⟩)); go_ret; exact ⟨rfl, bstep hbw hbs⟩)
  rw [hfa] at g1
  cases hfq : fewA q
  · rw [hfq] at g3
    have G1 := Lib.hid g1
    have G3 := Lib.hid g3
    clear g1 g3 hE hT hfa hfq
    unfold CondMem.val AskV.val at *
    (go_enter Tryz.func9, Tryz.ntmps9; go_wp2_with (first | (go_at_call 10; refine (G1.out _ (by (repeat (first | exact Below.refl _ _ | assumption | refine Below.drew ?_ | refine balloc ?_ _ | refine bdrewN ?_ _ | refine Below.setCell ?_ (by first | (simp; done) | (simp; omega)) _ | refine bstep ?_ (by assumption))))).mono ?_; rintro e w2 ⟨rfl, hb2⟩; clear G1; have hbw : Below w.heap.size w w2 := (by (repeat (first | exact Below.refl _ _ | assumption | refine Below.drew ?_ | refine balloc ?_ _ | refine bdrewN ?_ _ | refine Below.setCell ?_ (by first | (simp; done) | (simp; omega)) _ | refine bstep ?_ (by assumption)))); (have hX2 : VBox w2 (w.heap.size) a ma := (by first | exact VBox.keep hX2 hb2 | exact Blk.keep (two_box _ _ _).1 hb2)); (have hZ2 : YBox w2 (w.heap.size + 1) q := (by first | exact YBox.keep hZ2 hb2 | exact Blk.keep (two_box _ _ _).2 hb2)); (try clear x0 x1 x2 x3 x4 x5 x6 z0 z1 z2 z3 z4 z5); obtain ⟨x0, x1, x2, x3, x4, x5, x6⟩ := hX2.facts; obtain ⟨z0, z1, z2, z3, z4, z5⟩ := hZ2.facts) | (go_at_call 23; refine (G3.out _ hbw).mono ?_; rintro e w2 ⟨rfl, hb2⟩; clear G3; replace hbw := bstep hbw hb2; (have hX2 : VBox w2 (w.heap.size) a ma := (by first | exact VBox.keep hX2 hb2 | exact Blk.keep (two_box _ _ _).1 hb2)); (have hZ2 : YBox w2 (w.heap.size + 1) q := (by first | exact YBox.keep hZ2 hb2 | exact Blk.keep (two_box _ _ _).2 hb2)); (try clear x0 x1 x2 x3 x4 x5 x6 z0 z1 z2 z3 z4 z5); obtain ⟨x0, x1, x2, x3, x4, x5, x6⟩ := hX2.facts; obtain ⟨z0, z1, z2, z3, z4, z5⟩ := hZ2.facts) | (go_at_call 19; refine (G4.out _ hbw).mono ?_; rintro e w2 ⟨rfl, hb2⟩; clear G4; replace hbw := bstep hbw hb2; (have hX2 : VBox w2 (w.heap.size) a ma := (by first | exact VBox.keep hX2 hb2 | exact Blk.keep (two_box _ _ _).1 hb2)); (have hZ2 : YBox w2 (w.heap.size + 1) q := (by first | exact YBox.keep hZ2 hb2 | exact Blk.keep (two_box _ _ _).2 hb2)); (try clear x0 x1 x2 x3 x4 x5 x6 z0 z1 z2 z3 z4 z5); obtain ⟨x0, x1, x2, x3, x4, x5, x6⟩ := hX2.facts; obtain ⟨z0, z1, z2, z3, z4, z5⟩ := hZ2.facts) | (go_at_call 11; refine (san21_any _ (HE.out.keep hbw) (HT.out.keep hbw)).mono ?_; rintro e ws ⟨rfl, hbs⟩)); go_ret; exact ⟨rfl, bstep hbw hbs⟩)
  rw [hfq] at g3
  have fa := few_fits hfa
  have fq := fewA_fits hfq
  have g4 := fun W (hb : Below w.heap.size w W) => condValid_any a ma W (hRa.keep hb) fa.p fa.cl fa.co fa.n1 fa.n2 fa.n3 (hE.keep hb)
  cases hva : validC a
  · rw [hva] at g4
    have G1 := Lib.hid g1
    have G3 := Lib.hid g3
    have G4 := Lib.hid g4
    clear g1 g3 g4 hE hT hfa hfq fa fq hva
    unfold CondMem.val AskV.val at *
    (go_enter Tryz.func9, Tryz.ntmps9; go_wp2_with (first | (go_at_call 10; refine (G1.out _ (by (repeat (first | exact Below.refl _ _ | assumption | refine Below.drew ?_ | refine balloc ?_ _ | refine bdrewN ?_ _ | refine Below.setCell ?_ (by first | (simp; done) | (simp; omega)) _ | refine bstep ?_ (by assumption))))).mono ?_; rintro e w2 ⟨rfl, hb2⟩; clear G1; have hbw : Below w.heap.size w w2 := (by (repeat (first | exact Below.refl _ _ | assumption | refine Below.drew ?_ | refine balloc ?_ _ | refine bdrewN ?_ _ | refine Below.setCell ?_ (by first | (simp; done) | (simp; omega)) _ | refine bstep ?_ (by assumption)))); (have hX2 : VBox w2 (w.heap.size) a ma := (by first | exact VBox.keep hX2 hb2 | exact Blk.keep (two_box _ _ _).1 hb2)); (have hZ2 : YBox w2 (w.heap.size + 1) q := (by first | exact YBox.keep hZ2 hb2 | exact Blk.keep (two_box _ _ _).2 hb2)); (try clear x0 x1 x2 x3 x4 x5 x6 z0 z1 z2 z3 z4 z5); obtain ⟨x0, x1, x2, x3, x4, x5, x6⟩ := hX2.facts; obtain ⟨z0, z1, z2, z3, z4, z5⟩ := hZ2.facts) | (go_at_call 23; refine (G3.out _ hbw).mono ?_; rintro e w2 ⟨rfl, hb2⟩; clear G3; replace hbw := bstep hbw hb2; (have hX2 : VBox w2 (w.heap.size) a ma := (by first | exact VBox.keep hX2 hb2 | exact Blk.keep (two_box _ _ _).1 hb2)); (have hZ2 : YBox w2 (w.heap.size + 1) q := (by first | exact YBox.keep hZ2 hb2 | exact Blk.keep (two_box _ _ _).2 hb2)); (try clear x0 x1 x2 x3 x4 x5 x6 z0 z1 z2 z3 z4 z5); obtain ⟨x0, x1, x2, x3, x4, x5, x6⟩ := hX2.facts; obtain ⟨z0, z1, z2, z3, z4, z5⟩ := hZ2.facts) | (go_at_call 19; refine (G4.out _ hbw).mono ?_; rintro e w2 ⟨rfl, hb2⟩; clear G4; replace hbw := bstep hbw hb2; (have hX2 : VBox w2 (w.heap.size) a ma := (by first | exact VBox.keep hX2 hb2 | exact Blk.keep (two_box _ _ _).1 hb2)); (have hZ2 : YBox w2 (w.heap.size + 1) q := (by first | exact YBox.keep hZ2 hb2 | exact Blk.keep (two_box _ _ _).2 hb2)); (try clear x0 x1 x2 x3 x4 x5 x6 z0 z1 z2 z3 z4 z5); obtain ⟨x0, x1, x2, x3, x4, x5, x6⟩ := hX2.facts; obtain ⟨z0, z1, z2, z3, z4, z5⟩ := hZ2.facts) | (go_at_call 11; refine (san21_any _ (HE.out.keep hbw) (HT.out.keep hbw)).mono ?_; rintro e ws ⟨rfl, hbs⟩)); go_ret; exact ⟨rfl, bstep hbw hbs⟩)
  rw [hva] at g4
  have oka := (valid_iff a).1 hva
  have fz : CondFits zeroC := fits_of ((valid_iff _).2 zero_ok) (by decide)
  have vz : validC zeroC = true := (valid_iff _).2 zero_ok
  have e1 := fun W (hb : Below w.heap.size w W) => empty_any a ma W (hRa.keep hb) fa (hE.keep hb)
  have m1 := fun W (hb : Below w.heap.size w W) => meet_valid a a ma ma W (hRa.keep hb) (hRa.keep hb) fa fa hva hva (hE.keep hb)
  rw [meetC_self oka] at m1
  have n1 := fun W (hb : Below w.heap.size w W) => within_any a a ma ma W (hRa.keep hb) (hRa.keep hb) fa fa hva hva (hE.keep hb)
  rw [within_refl oka] at n1
  have i1 := fun W (hb : Below w.heap.size w W) => imp_any a zeroC ma ⟨none, 0, none, 0, none, 0⟩ W (hRa.keep hb) (zero_reads W) fa fz hva vz (hE.keep hb)
  by_cases he : a.till ≤ a.fr
  · rw [empty_pos hva he] at e1
    rw [if_neg (by omega)] at m1
    rw [impR_true he] at i1
    have h1 := fun W (hb : Below w.heap.size w W) => holds_any a ma q W (hRa.keep hb) fa fq (hE.keep hb)
    rw [not_holds oka he q] at h1
    have sm := fun n W (hn : CondReads W zeroC n) => same_cond zeroC n ⟨none, 0, none, 0, none, 0⟩ W hn (zero_reads W) fz
    unfold impV at e1 i1
    have G1 := Lib.hid g1; have G3 := Lib.hid g3; have G4 := Lib.hid g4
    have E1 := Lib.hid e1; have M1 := Lib.hid m1; have N1 := Lib.hid n1; have I1 := Lib.hid i1; have H1 := Lib.hid h1; have SM := Lib.hid sm
    clear g1 g3 g4 e1 m1 n1 i1 h1 sm fz vz he oka hva fa fq hfa hfq hRa hE hT
    unfold CondMem.val AskV.val at *
    go_enter Tryz.func9, Tryz.ntmps9
    go_wp2_with (first | (go_at_call 10; refine (G1.out _ (by (repeat (first | exact Below.refl _ _ | assumption | refine Below.drew ?_ | refine balloc ?_ _ | refine bdrewN ?_ _ | refine Below.setCell ?_ (by first | (simp; done) | (simp; omega)) _ | refine bstep ?_ (by assumption))))).mono ?_; rintro e w2 ⟨rfl, hb2⟩; clear G1; have hbw : Below w.heap.size w w2 := (by (repeat (first | exact Below.refl _ _ | assumption | refine Below.drew ?_ | refine balloc ?_ _ | refine bdrewN ?_ _ | refine Below.setCell ?_ (by first | (simp; done) | (simp; omega)) _ | refine bstep ?_ (by assumption)))); (have hX2 : VBox w2 (w.heap.size) a ma := (by first | exact VBox.keep hX2 hb2 | exact Blk.keep (two_box _ _ _).1 hb2)); (have hZ2 : YBox w2 (w.heap.size + 1) q := (by first | exact YBox.keep hZ2 hb2 | exact Blk.keep (two_box _ _ _).2 hb2)); (try clear x0 x1 x2 x3 x4 x5 x6 z0 z1 z2 z3 z4 z5); obtain ⟨x0, x1, x2, x3, x4, x5, x6⟩ := hX2.facts; obtain ⟨z0, z1, z2, z3, z4, z5⟩ := hZ2.facts) | (go_at_call 23; refine (G3.out _ hbw).mono ?_; rintro e w2 ⟨rfl, hb2⟩; clear G3; replace hbw := bstep hbw hb2; (have hX2 : VBox w2 (w.heap.size) a ma := (by first | exact VBox.keep hX2 hb2 | exact Blk.keep (two_box _ _ _).1 hb2)); (have hZ2 : YBox w2 (w.heap.size + 1) q := (by first | exact YBox.keep hZ2 hb2 | exact Blk.keep (two_box _ _ _).2 hb2)); (try clear x0 x1 x2 x3 x4 x5 x6 z0 z1 z2 z3 z4 z5); obtain ⟨x0, x1, x2, x3, x4, x5, x6⟩ := hX2.facts; obtain ⟨z0, z1, z2, z3, z4, z5⟩ := hZ2.facts) | (go_at_call 19; refine (G4.out _ hbw).mono ?_; rintro e w2 ⟨rfl, hb2⟩; clear G4; replace hbw := bstep hbw hb2; (have hX2 : VBox w2 (w.heap.size) a ma := (by first | exact VBox.keep hX2 hb2 | exact Blk.keep (two_box _ _ _).1 hb2)); (have hZ2 : YBox w2 (w.heap.size + 1) q := (by first | exact YBox.keep hZ2 hb2 | exact Blk.keep (two_box _ _ _).2 hb2)); (try clear x0 x1 x2 x3 x4 x5 x6 z0 z1 z2 z3 z4 z5); obtain ⟨x0, x1, x2, x3, x4, x5, x6⟩ := hX2.facts; obtain ⟨z0, z1, z2, z3, z4, z5⟩ := hZ2.facts))
    have hbw2 := hbw
    clear hbw hb2 x0 x1 x2 x3 x4 x5 x6 z0 z1 z2 z3 z4 z5
    refine (E1.out _ hbw2).mono ?_; rintro e w3 ⟨rfl, hb3⟩
    have hbw3 := bstep hbw2 (hb3)
    have hX3 : VBox w3 (w.heap.size) a ma := hX2.keep (hb3)
    have hZ3 : YBox w3 (w.heap.size + 1) q := hZ2.keep (hb3)
    clear hb3 hbw2 hX2 hZ2 
    dsimp only
    obtain ⟨x0, x1, x2, x3, x4, x5, x6⟩ := hX3.facts
    have lx := Blk.lt hX3
    obtain ⟨z0, z1, z2, z3, z4, z5⟩ := hZ3.facts
    have lz := Blk.lt hZ3
    go_wp2_with fail
    clear x0 x1 x2 x3 x4 x5 x6 z0 z1 z2 z3 z4 z5 lx lz
    refine (M1.out _ (by (repeat (first | exact Below.refl _ _ | assumption | refine Below.drew ?_ | refine balloc ?_ _ | refine bdrewN ?_ _ | refine Below.setCell ?_ (by first | (simp; done) | (simp; omega)) _ | refine bstep ?_ (by assumption))))).mono ?_; rintro e w4 ⟨hb4, m1, rfl, hr14⟩
    have hbw4 := bstep hbw3 (blater _ hb4)
    have hX4 : VBox w4 (w.heap.size) a ma := hX3.keep (blater _ hb4)
    have hZ4 : YBox w4 (w.heap.size + 1) q := hZ3.keep (blater _ hb4)
    have hS4 : YBox w4 (w3.heap.size) noAsk := Blk.keep (World.alloc_heap_new _ _) hb4
    clear hb4 hbw3 hX3 hZ3 
    dsimp only [CondMem.val]
    obtain ⟨x0, x1, x2, x3, x4, x5, x6⟩ := hX4.facts
    have lx := Blk.lt hX4
    obtain ⟨z0, z1, z2, z3, z4, z5⟩ := hZ4.facts
    have lz := Blk.lt hZ4
    obtain ⟨s0, s1, s2, s3, s4, s5⟩ := hS4.facts
    have ls := Blk.lt hS4
    go_wp2_with fail
    clear x0 x1 x2 x3 x4 x5 x6 z0 z1 z2 z3 z4 z5 s0 s1 s2 s3 s4 s5 lx lz ls
    refine (N1.out _ (by (repeat (first | exact Below.refl _ _ | assumption | refine Below.drew ?_ | refine balloc ?_ _ | refine bdrewN ?_ _ | refine Below.setCell ?_ (by first | (simp; done) | (simp; omega)) _ | refine bstep ?_ (by assumption))))).mono ?_; rintro e w5 ⟨rfl, hb5⟩
    have hbw5 := bstep hbw4 (blater _ hb5)
    have hX5 : VBox w5 (w.heap.size) a ma := hX4.keep (blater _ hb5)
    have hZ5 : YBox w5 (w.heap.size + 1) q := hZ4.keep (blater _ hb5)
    have hS5 : YBox w5 (w3.heap.size) noAsk := hS4.keep (blater _ hb5)
    have hr15 := hr14.keep (blater _ hb5)
    have hP5 : VBox w5 (w4.heap.size) zeroC m1 := Blk.keep (World.alloc_heap_new _ _) hb5
    clear hb5 hbw4 hX4 hZ4 hS4 hr14
    obtain ⟨x0, x1, x2, x3, x4, x5, x6⟩ := hX5.facts
    have lx := Blk.lt hX5
    obtain ⟨z0, z1, z2, z3, z4, z5⟩ := hZ5.facts
    have lz := Blk.lt hZ5
    obtain ⟨s0, s1, s2, s3, s4, s5⟩ := hS5.facts
    have ls := Blk.lt hS5
    obtain ⟨p0, p1, p2, p3, p4, p5, p6⟩ := hP5.facts
    have lp := Blk.lt hP5
    go_wp2_with fail
    clear x0 x1 x2 x3 x4 x5 x6 z0 z1 z2 z3 z4 z5 s0 s1 s2 s3 s4 s5 p0 p1 p2 p3 p4 p5 p6 lx lz ls lp
    refine (I1.out _ (by (repeat (first | exact Below.refl _ _ | assumption | refine Below.drew ?_ | refine balloc ?_ _ | refine bdrewN ?_ _ | refine Below.setCell ?_ (by first | (simp; done) | (simp; omega)) _ | refine bstep ?_ (by assumption))))).mono ?_; rintro e w6 ⟨rfl, hb6⟩
    have hbw6 := bstep hbw5 (hb6)
    have hX6 : VBox w6 (w.heap.size) a ma := hX5.keep (hb6)
    have hZ6 : YBox w6 (w.heap.size + 1) q := hZ5.keep (hb6)
    have hS6 : YBox w6 (w3.heap.size) noAsk := hS5.keep (hb6)
    have hP6 : VBox w6 (w4.heap.size) zeroC m1 := hP5.keep (hb6)
    have hr16 := hr15.keep (hb6)
    clear hb6 hbw5 hX5 hZ5 hS5 hP5 hr15
    dsimp only
    obtain ⟨x0, x1, x2, x3, x4, x5, x6⟩ := hX6.facts
    have lx := Blk.lt hX6
    obtain ⟨z0, z1, z2, z3, z4, z5⟩ := hZ6.facts
    have lz := Blk.lt hZ6
    obtain ⟨s0, s1, s2, s3, s4, s5⟩ := hS6.facts
    have ls := Blk.lt hS6
    obtain ⟨p0, p1, p2, p3, p4, p5, p6⟩ := hP6.facts
    have lp := Blk.lt hP6
    go_wp2_with fail
    clear x0 x1 x2 x3 x4 x5 x6 z0 z1 z2 z3 z4 z5 s0 s1 s2 s3 s4 s5 p0 p1 p2 p3 p4 p5 p6 lx lz ls lp
    refine (san21_any _ (HE.out.keep (by (repeat (first | exact Below.refl _ _ | assumption | refine Below.drew ?_ | refine balloc ?_ _ | refine bdrewN ?_ _ | refine Below.setCell ?_ (by first | (simp; done) | (simp; omega)) _ | refine bstep ?_ (by assumption))))) (HT.out.keep (by (repeat (first | exact Below.refl _ _ | assumption | refine Below.drew ?_ | refine balloc ?_ _ | refine bdrewN ?_ _ | refine Below.setCell ?_ (by first | (simp; done) | (simp; omega)) _ | refine bstep ?_ (by assumption)))))).mono ?_; rintro e w7 ⟨rfl, hb7⟩
    have hbw7 := bstep hbw6 (blater _ hb7)
    have hX7 : VBox w7 (w.heap.size) a ma := hX6.keep (blater _ hb7)
    have hZ7 : YBox w7 (w.heap.size + 1) q := hZ6.keep (blater _ hb7)
    have hS7 : YBox w7 (w3.heap.size) noAsk := hS6.keep (blater _ hb7)
    have hP7 : VBox w7 (w4.heap.size) zeroC m1 := hP6.keep (blater _ hb7)
    have hr17 := hr16.keep (blater _ hb7)
    have hU7 : YBox w7 (w6.heap.size) noAsk := Blk.keep (World.alloc_heap_new _ _) hb7
    clear hb7 hbw6 hX6 hZ6 hS6 hP6 hr16
    obtain ⟨x0, x1, x2, x3, x4, x5, x6⟩ := hX7.facts
    have lx := Blk.lt hX7
    obtain ⟨z0, z1, z2, z3, z4, z5⟩ := hZ7.facts
    have lz := Blk.lt hZ7
    obtain ⟨s0, s1, s2, s3, s4, s5⟩ := hS7.facts
    have ls := Blk.lt hS7
    obtain ⟨p0, p1, p2, p3, p4, p5, p6⟩ := hP7.facts
    have lp := Blk.lt hP7
    obtain ⟨u0, u1, u2, u3, u4, u5⟩ := hU7.facts
    have lu := Blk.lt hU7
    go_wp2_with fail
    clear x0 x1 x2 x3 x4 x5 x6 z0 z1 z2 z3 z4 z5 s0 s1 s2 s3 s4 s5 p0 p1 p2 p3 p4 p5 p6 u0 u1 u2 u3 u4 u5 lx lz ls lp lu
    refine (H1.out _ (by (repeat (first | exact Below.refl _ _ | assumption | refine Below.drew ?_ | refine balloc ?_ _ | refine bdrewN ?_ _ | refine Below.setCell ?_ (by first | (simp; done) | (simp; omega)) _ | refine bstep ?_ (by assumption))))).mono ?_; rintro e w8 ⟨rfl, hb8⟩
    have hbw8 := bstep hbw7 (hb8)
    have hX8 : VBox w8 (w.heap.size) a ma := hX7.keep (hb8)
    have hZ8 : YBox w8 (w.heap.size + 1) q := hZ7.keep (hb8)
    have hS8 : YBox w8 (w3.heap.size) noAsk := hS7.keep (hb8)
    have hP8 : VBox w8 (w4.heap.size) zeroC m1 := hP7.keep (hb8)
    have hU8 : YBox w8 (w6.heap.size) noAsk := hU7.keep (hb8)
    have hr18 := hr17.keep (hb8)
    clear hb8 hbw7 hX7 hZ7 hS7 hP7 hU7 hr17
    obtain ⟨x0, x1, x2, x3, x4, x5, x6⟩ := hX8.facts
    have lx := Blk.lt hX8
    obtain ⟨z0, z1, z2, z3, z4, z5⟩ := hZ8.facts
    have lz := Blk.lt hZ8
    obtain ⟨s0, s1, s2, s3, s4, s5⟩ := hS8.facts
    have ls := Blk.lt hS8
    obtain ⟨p0, p1, p2, p3, p4, p5, p6⟩ := hP8.facts
    have lp := Blk.lt hP8
    obtain ⟨u0, u1, u2, u3, u4, u5⟩ := hU8.facts
    have lu := Blk.lt hU8
    go_wp2_with fail
    clear x0 x1 x2 x3 x4 x5 x6 z0 z1 z2 z3 z4 z5 s0 s1 s2 s3 s4 s5 p0 p1 p2 p3 p4 p5 p6 u0 u1 u2 u3 u4 u5 lx lz ls lp lu
    refine (SM.out m1 _ (hr18.keep (by (repeat (first | exact Below.refl _ _ | assumption | refine Below.drew ?_ | refine balloc ?_ _ | refine bdrewN ?_ _ | refine Below.setCell ?_ (by first | (simp; done) | (simp; omega)) _ | refine bstep ?_ (by assumption)))))).mono ?_; rintro e w9 ⟨rfl, hb9⟩
    have hbw9 := bstep hbw8 (hb9)
    have hX9 : VBox w9 (w.heap.size) a ma := hX8.keep (hb9)
    have hZ9 : YBox w9 (w.heap.size + 1) q := hZ8.keep (hb9)
    have hS9 : YBox w9 (w3.heap.size) noAsk := hS8.keep (hb9)
    have hP9 : VBox w9 (w4.heap.size) zeroC m1 := hP8.keep (hb9)
    have hU9 : YBox w9 (w6.heap.size) noAsk := hU8.keep (hb9)
    have hr19 := hr18.keep (hb9)
    clear hb9 hbw8 hX8 hZ8 hS8 hP8 hU8 hr18
    go_wp2_with fail
    go_ret
    exact ⟨rfl, hbw9⟩
  · rw [empty_neg hva he] at e1
    rw [if_pos (by omega)] at m1
    have hi1 := (imp_exact oka zero_ok).1
    rw [imp_zero oka he] at hi1
    rw [hi1] at i1
    have hs := holds_sample oka (by omega)
    have h1 := fun W (hb : Below w.heap.size w W) => holds_any a ma (sampleC a) W (hRa.keep hb) fa (holds_fits hs) (hE.keep hb)
    rw [hs] at h1
    have sm := fun n W (hb : Below w.heap.size w W) (hn : CondReads W a n) => same_cond a n ma W hn (hRa.keep hb) fa
    generalize sampleC a = s at *
    generalize (impR a zeroC).2 = s2 at *
    unfold impV at e1 i1
    have G1 := Lib.hid g1; have G3 := Lib.hid g3; have G4 := Lib.hid g4
    have E1 := Lib.hid e1; have M1 := Lib.hid m1; have N1 := Lib.hid n1; have I1 := Lib.hid i1; have H1 := Lib.hid h1; have SM := Lib.hid sm
    clear g1 g3 g4 e1 m1 n1 i1 h1 sm fz vz he oka hva fa fq hfa hfq hi1 hs hRa hE hT
    unfold CondMem.val AskV.val at *
    go_enter Tryz.func9, Tryz.ntmps9
    go_wp2_with (first | (go_at_call 10; refine (G1.out _ (by (repeat (first | exact Below.refl _ _ | assumption | refine Below.drew ?_ | refine balloc ?_ _ | refine bdrewN ?_ _ | refine Below.setCell ?_ (by first | (simp; done) | (simp; omega)) _ | refine bstep ?_ (by assumption))))).mono ?_; rintro e w2 ⟨rfl, hb2⟩; clear G1; have hbw : Below w.heap.size w w2 := (by (repeat (first | exact Below.refl _ _ | assumption | refine Below.drew ?_ | refine balloc ?_ _ | refine bdrewN ?_ _ | refine Below.setCell ?_ (by first | (simp; done) | (simp; omega)) _ | refine bstep ?_ (by assumption)))); (have hX2 : VBox w2 (w.heap.size) a ma := (by first | exact VBox.keep hX2 hb2 | exact Blk.keep (two_box _ _ _).1 hb2)); (have hZ2 : YBox w2 (w.heap.size + 1) q := (by first | exact YBox.keep hZ2 hb2 | exact Blk.keep (two_box _ _ _).2 hb2)); (try clear x0 x1 x2 x3 x4 x5 x6 z0 z1 z2 z3 z4 z5); obtain ⟨x0, x1, x2, x3, x4, x5, x6⟩ := hX2.facts; obtain ⟨z0, z1, z2, z3, z4, z5⟩ := hZ2.facts) | (go_at_call 23; refine (G3.out _ hbw).mono ?_; rintro e w2 ⟨rfl, hb2⟩; clear G3; replace hbw := bstep hbw hb2; (have hX2 : VBox w2 (w.heap.size) a ma := (by first | exact VBox.keep hX2 hb2 | exact Blk.keep (two_box _ _ _).1 hb2)); (have hZ2 : YBox w2 (w.heap.size + 1) q := (by first | exact YBox.keep hZ2 hb2 | exact Blk.keep (two_box _ _ _).2 hb2)); (try clear x0 x1 x2 x3 x4 x5 x6 z0 z1 z2 z3 z4 z5); obtain ⟨x0, x1, x2, x3, x4, x5, x6⟩ := hX2.facts; obtain ⟨z0, z1, z2, z3, z4, z5⟩ := hZ2.facts) | (go_at_call 19; refine (G4.out _ hbw).mono ?_; rintro e w2 ⟨rfl, hb2⟩; clear G4; replace hbw := bstep hbw hb2; (have hX2 : VBox w2 (w.heap.size) a ma := (by first | exact VBox.keep hX2 hb2 | exact Blk.keep (two_box _ _ _).1 hb2)); (have hZ2 : YBox w2 (w.heap.size + 1) q := (by first | exact YBox.keep hZ2 hb2 | exact Blk.keep (two_box _ _ _).2 hb2)); (try clear x0 x1 x2 x3 x4 x5 x6 z0 z1 z2 z3 z4 z5); obtain ⟨x0, x1, x2, x3, x4, x5, x6⟩ := hX2.facts; obtain ⟨z0, z1, z2, z3, z4, z5⟩ := hZ2.facts))
    have hbw2 := hbw
    clear hbw hb2 x0 x1 x2 x3 x4 x5 x6 z0 z1 z2 z3 z4 z5
    refine (E1.out _ hbw2).mono ?_; rintro e w3 ⟨rfl, hb3⟩
    have hbw3 := bstep hbw2 (hb3)
    have hX3 : VBox w3 (w.heap.size) a ma := hX2.keep (hb3)
    have hZ3 : YBox w3 (w.heap.size + 1) q := hZ2.keep (hb3)
    clear hb3 hbw2 hX2 hZ2 
    dsimp only
    obtain ⟨x0, x1, x2, x3, x4, x5, x6⟩ := hX3.facts
    have lx := Blk.lt hX3
    obtain ⟨z0, z1, z2, z3, z4, z5⟩ := hZ3.facts
    have lz := Blk.lt hZ3
    go_wp2_with fail
    clear x0 x1 x2 x3 x4 x5 x6 z0 z1 z2 z3 z4 z5 lx lz
    refine (M1.out _ (by (repeat (first | exact Below.refl _ _ | assumption | refine Below.drew ?_ | refine balloc ?_ _ | refine bdrewN ?_ _ | refine Below.setCell ?_ (by first | (simp; done) | (simp; omega)) _ | refine bstep ?_ (by assumption))))).mono ?_; rintro e w4 ⟨hb4, m1, rfl, hr14⟩
    have hbw4 := bstep hbw3 (blater _ hb4)
    have hX4 : VBox w4 (w.heap.size) a ma := hX3.keep (blater _ hb4)
    have hZ4 : YBox w4 (w.heap.size + 1) q := hZ3.keep (blater _ hb4)
    have hS4 : YBox w4 (w3.heap.size) s := Blk.keep (World.alloc_heap_new _ _) hb4
    clear hb4 hbw3 hX3 hZ3 
    dsimp only [CondMem.val]
    obtain ⟨x0, x1, x2, x3, x4, x5, x6⟩ := hX4.facts
    have lx := Blk.lt hX4
    obtain ⟨z0, z1, z2, z3, z4, z5⟩ := hZ4.facts
    have lz := Blk.lt hZ4
    obtain ⟨s0, s1, s2, s3, s4, s5⟩ := hS4.facts
    have ls := Blk.lt hS4
    go_wp2_with fail
    clear x0 x1 x2 x3 x4 x5 x6 z0 z1 z2 z3 z4 z5 s0 s1 s2 s3 s4 s5 lx lz ls
    refine (N1.out _ (by (repeat (first | exact Below.refl _ _ | assumption | refine Below.drew ?_ | refine balloc ?_ _ | refine bdrewN ?_ _ | refine Below.setCell ?_ (by first | (simp; done) | (simp; omega)) _ | refine bstep ?_ (by assumption))))).mono ?_; rintro e w5 ⟨rfl, hb5⟩
    have hbw5 := bstep hbw4 (blater _ hb5)
    have hX5 : VBox w5 (w.heap.size) a ma := hX4.keep (blater _ hb5)
    have hZ5 : YBox w5 (w.heap.size + 1) q := hZ4.keep (blater _ hb5)
    have hS5 : YBox w5 (w3.heap.size) s := hS4.keep (blater _ hb5)
    have hr15 := hr14.keep (blater _ hb5)
    have hP5 : VBox w5 (w4.heap.size) a m1 := Blk.keep (World.alloc_heap_new _ _) hb5
    clear hb5 hbw4 hX4 hZ4 hS4 hr14
    obtain ⟨x0, x1, x2, x3, x4, x5, x6⟩ := hX5.facts
    have lx := Blk.lt hX5
    obtain ⟨z0, z1, z2, z3, z4, z5⟩ := hZ5.facts
    have lz := Blk.lt hZ5
    obtain ⟨s0, s1, s2, s3, s4, s5⟩ := hS5.facts
    have ls := Blk.lt hS5
    obtain ⟨p0, p1, p2, p3, p4, p5, p6⟩ := hP5.facts
    have lp := Blk.lt hP5
    go_wp2_with fail
    clear x0 x1 x2 x3 x4 x5 x6 z0 z1 z2 z3 z4 z5 s0 s1 s2 s3 s4 s5 p0 p1 p2 p3 p4 p5 p6 lx lz ls lp
    refine (I1.out _ (by (repeat (first | exact Below.refl _ _ | assumption | refine Below.drew ?_ | refine balloc ?_ _ | refine bdrewN ?_ _ | refine Below.setCell ?_ (by first | (simp; done) | (simp; omega)) _ | refine bstep ?_ (by assumption))))).mono ?_; rintro e w6 ⟨rfl, hb6⟩
    have hbw6 := bstep hbw5 (hb6)
    have hX6 : VBox w6 (w.heap.size) a ma := hX5.keep (hb6)
    have hZ6 : YBox w6 (w.heap.size + 1) q := hZ5.keep (hb6)
    have hS6 : YBox w6 (w3.heap.size) s := hS5.keep (hb6)
    have hP6 : VBox w6 (w4.heap.size) a m1 := hP5.keep (hb6)
    have hr16 := hr15.keep (hb6)
    clear hb6 hbw5 hX5 hZ5 hS5 hP5 hr15
    dsimp only
    obtain ⟨x0, x1, x2, x3, x4, x5, x6⟩ := hX6.facts
    have lx := Blk.lt hX6
    obtain ⟨z0, z1, z2, z3, z4, z5⟩ := hZ6.facts
    have lz := Blk.lt hZ6
    obtain ⟨s0, s1, s2, s3, s4, s5⟩ := hS6.facts
    have ls := Blk.lt hS6
    obtain ⟨p0, p1, p2, p3, p4, p5, p6⟩ := hP6.facts
    have lp := Blk.lt hP6
    go_wp2_with fail
    clear x0 x1 x2 x3 x4 x5 x6 z0 z1 z2 z3 z4 z5 s0 s1 s2 s3 s4 s5 p0 p1 p2 p3 p4 p5 p6 lx lz ls lp
    refine (san21_any _ (HE.out.keep (by (repeat (first | exact Below.refl _ _ | assumption | refine Below.drew ?_ | refine balloc ?_ _ | refine bdrewN ?_ _ | refine Below.setCell ?_ (by first | (simp; done) | (simp; omega)) _ | refine bstep ?_ (by assumption))))) (HT.out.keep (by (repeat (first | exact Below.refl _ _ | assumption | refine Below.drew ?_ | refine balloc ?_ _ | refine bdrewN ?_ _ | refine Below.setCell ?_ (by first | (simp; done) | (simp; omega)) _ | refine bstep ?_ (by assumption)))))).mono ?_; rintro e w7 ⟨rfl, hb7⟩
    have hbw7 := bstep hbw6 (blater _ hb7)
    have hX7 : VBox w7 (w.heap.size) a ma := hX6.keep (blater _ hb7)
    have hZ7 : YBox w7 (w.heap.size + 1) q := hZ6.keep (blater _ hb7)
    have hS7 : YBox w7 (w3.heap.size) s := hS6.keep (blater _ hb7)
    have hP7 : VBox w7 (w4.heap.size) a m1 := hP6.keep (blater _ hb7)
    have hr17 := hr16.keep (blater _ hb7)
    have hU7 : YBox w7 (w6.heap.size) s2 := Blk.keep (World.alloc_heap_new _ _) hb7
    clear hb7 hbw6 hX6 hZ6 hS6 hP6 hr16
    obtain ⟨x0, x1, x2, x3, x4, x5, x6⟩ := hX7.facts
    have lx := Blk.lt hX7
    obtain ⟨z0, z1, z2, z3, z4, z5⟩ := hZ7.facts
    have lz := Blk.lt hZ7
    obtain ⟨s0, s1, s2, s3, s4, s5⟩ := hS7.facts
    have ls := Blk.lt hS7
    obtain ⟨p0, p1, p2, p3, p4, p5, p6⟩ := hP7.facts
    have lp := Blk.lt hP7
    obtain ⟨u0, u1, u2, u3, u4, u5⟩ := hU7.facts
    have lu := Blk.lt hU7
    go_wp2_with fail
    clear x0 x1 x2 x3 x4 x5 x6 z0 z1 z2 z3 z4 z5 s0 s1 s2 s3 s4 s5 p0 p1 p2 p3 p4 p5 p6 u0 u1 u2 u3 u4 u5 lx lz ls lp lu
    refine (H1.out _ (by (repeat (first | exact Below.refl _ _ | assumption | refine Below.drew ?_ | refine balloc ?_ _ | refine bdrewN ?_ _ | refine Below.setCell ?_ (by first | (simp; done) | (simp; omega)) _ | refine bstep ?_ (by assumption))))).mono ?_; rintro e w8 ⟨rfl, hb8⟩
    have hbw8 := bstep hbw7 (hb8)
    have hX8 : VBox w8 (w.heap.size) a ma := hX7.keep (hb8)
    have hZ8 : YBox w8 (w.heap.size + 1) q := hZ7.keep (hb8)
    have hS8 : YBox w8 (w3.heap.size) s := hS7.keep (hb8)
    have hP8 : VBox w8 (w4.heap.size) a m1 := hP7.keep (hb8)
    have hU8 : YBox w8 (w6.heap.size) s2 := hU7.keep (hb8)
    have hr18 := hr17.keep (hb8)
    clear hb8 hbw7 hX7 hZ7 hS7 hP7 hU7 hr17
    obtain ⟨x0, x1, x2, x3, x4, x5, x6⟩ := hX8.facts
    have lx := Blk.lt hX8
    obtain ⟨z0, z1, z2, z3, z4, z5⟩ := hZ8.facts
    have lz := Blk.lt hZ8
    obtain ⟨s0, s1, s2, s3, s4, s5⟩ := hS8.facts
    have ls := Blk.lt hS8
    obtain ⟨p0, p1, p2, p3, p4, p5, p6⟩ := hP8.facts
    have lp := Blk.lt hP8
    obtain ⟨u0, u1, u2, u3, u4, u5⟩ := hU8.facts
    have lu := Blk.lt hU8
    go_wp2_with fail
    clear x0 x1 x2 x3 x4 x5 x6 z0 z1 z2 z3 z4 z5 s0 s1 s2 s3 s4 s5 p0 p1 p2 p3 p4 p5 p6 u0 u1 u2 u3 u4 u5 lx lz ls lp lu
    refine (SM.out m1 _ (by (repeat (first | exact Below.refl _ _ | assumption | refine Below.drew ?_ | refine balloc ?_ _ | refine bdrewN ?_ _ | refine Below.setCell ?_ (by first | (simp; done) | (simp; omega)) _ | refine bstep ?_ (by assumption)))) (hr18.keep (by (repeat (first | exact Below.refl _ _ | assumption | refine Below.drew ?_ | refine balloc ?_ _ | refine bdrewN ?_ _ | refine Below.setCell ?_ (by first | (simp; done) | (simp; omega)) _ | refine bstep ?_ (by assumption)))))).mono ?_; rintro e w9 ⟨rfl, hb9⟩
    have hbw9 := bstep hbw8 (hb9)
    have hX9 : VBox w9 (w.heap.size) a ma := hX8.keep (hb9)
    have hZ9 : YBox w9 (w.heap.size + 1) q := hZ8.keep (hb9)
    have hS9 : YBox w9 (w3.heap.size) s := hS8.keep (hb9)
    have hP9 : VBox w9 (w4.heap.size) a m1 := hP8.keep (hb9)
    have hU9 : YBox w9 (w6.heap.size) s2 := hU8.keep (hb9)
    have hr19 := hr18.keep (hb9)
    clear hb9 hbw8 hX8 hZ8 hS8 hP8 hU8 hr18
    go_wp2_with fail
    go_ret
    exact ⟨rfl, hbw9⟩

end Go.Proofs.YtocgkpdolgnbgaaGreatDoor
