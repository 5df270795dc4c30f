/- Text of any condition, by the package and by the specification; boxes of their results. -/
import Derived.Test.YtocgkpdolgnbgaaGreatDoorMGM
import Derived.Test.YtocgkpdolgnbgaaGreatDoorMGI
import Derived.Test.YtocgkpdolgnbgaaGreatDoorMJB
import Derived.Test.YtocgkpdolgnbgaaGreatDoorProg
import Derived.WalkKit
import Derived.WalkSpells
import Derived.WalkLawsBesides
import Derived.Below
import Derived.Deep.QuietTactic
import Derived.BigQuiet
import Derived.Lib.QuietBelow
import Derived.Lib.Strings
import Derived.Lib.Hide
import Derived.Deep.RegionWith
import Derived.Deep.RegionHeld3
import Derived.Lib.IndexBytes
import Derived.Test.YtocgkpdolgnbgaaGreatDoorMJE
import Derived.Test.YtocgkpdolgnbgaaGreatDoorMR12
import Derived.Test.YtocgkpdolgnbgaaGreatDoorMR13
import Derived.Test.YtocgkpdolgnbgaaGreatDoorMC27
namespace Go.Proofs.YtocgkpdolgnbgaaGreatDoor
open Go.RowKit Go.Sort
set_option linter.unusedVariables false
set_option linter.unusedSimpArgs false
set_option maxRecDepth 100000
def KB (w : World) (g : Nat) (b : Bool) (e : Int) : Prop := Blk w g 43 #[.bool b, .int .i64 e] (0, 0)
theorem KB.facts {w : World} {g : Nat} {b : Bool} {e : Int} (h : KB w g b e) : w.cell? ⟨g, 0, none⟩ = some (.bool b) ∧ w.cell? ⟨g, 1, none⟩ = some (.int .i64 e) := ⟨Blk.cell h 0, Blk.cell h 1⟩
theorem KB.keep {w w' : World} {g : Nat} {b : Bool} {e : Int} (h : KB w g b e) (hb : Below w.heap.size w w') : KB w' g b e := Blk.keep h hb
def WB (w : World) (g : Nat) (s : ByteArray) (e : Int) : Prop := Blk w g 56 #[.string s, .int .i64 e] (0, 0)
theorem WB.facts {w : World} {g : Nat} {s : ByteArray} {e : Int} (h : WB w g s e) : w.cell? ⟨g, 0, none⟩ = some (.string s) ∧ w.cell? ⟨g, 1, none⟩ = some (.int .i64 e) := ⟨Blk.cell h 0, Blk.cell h 1⟩
theorem WB.keep {w w' : World} {g : Nat} {s : ByteArray} {e : Int} (h : WB w g s e) (hb : Below w.heap.size w w') : WB w' g s e := Blk.keep h hb
end Go.Proofs.YtocgkpdolgnbgaaGreatDoor
namespace Go.Proofs.YtocgkpdolgnbgaaGreatDoor
open Go.RowKit Go.Sort
set_option linter.unusedVariables false
set_option linter.unusedSimpArgs false
set_option maxRecDepth 100000
def er21 (a b : CondV) : Int := if validC a && validC b then 0 else 1
def meetX (a b : CondV) : CondV := if validC a && validC b then meetC a b else zeroC
def impS (a b : CondV) : AskV := if validC a && validC b then (impR a b).2 else noAsk
theorem impl_er (a b : CondV) : (implR a b).2 = er21 a b := by
  unfold implR er21
  split <;> rfl
theorem imp_all (a b : CondV) (ma mb : CondMem) (w : World) (hRa : CondReads w a ma) (hRb : CondReads w b mb) (hfa : CondFits a) (hfb : CondFits b) (hE : Env w) :
    Calls Tryz.prog 13 #[CondMem.val a ma, CondMem.val b mb] w (Ret w (.tuple #[.bool (implR a b).1, AskV.val (impS a b), .int .i64 (er21 a b)])) := by
  unfold impS er21 implR
  cases hv : (validC a && validC b)
  · exact imp_bad a b ma mb w hRa hRb hfa hfb hv hE
  · rw [Bool.and_eq_true] at hv
    have h := imp_any a b ma mb w hRa hRb hfa hfb hv.1 hv.2 hE
    rw [(imp_exact ((valid_iff a).1 hv.1) ((valid_iff b).1 hv.2)).1] at h
    exact h
theorem within_all (a b : CondV) (ma mb : CondMem) (w : World) (hRa : CondReads w a ma) (hRb : CondReads w b mb) (hfa : CondFits a) (hfb : CondFits b) (hE : Env w) :
    Calls Tryz.prog 14 #[CondMem.val a ma, CondMem.val b mb] w (Ret w (.tuple #[.bool (wiR a b), .int .i64 (er21 a b)])) := by
  unfold wiR er21 implR
  cases hv : (validC a && validC b)
  · exact within_bad a b ma mb w hRa hRb hfa hfb hv hE
  · rw [Bool.and_eq_true] at hv
    exact within_any a b ma mb w hRa hRb hfa hfb hv.1 hv.2 hE
theorem meet_all (a b : CondV) (ma mb : CondMem) (w : World) (hRa : CondReads w a ma) (hRb : CondReads w b mb) (hfa : CondFits a) (hfb : CondFits b) (hE : Env w) :
    Calls Tryz.prog 12 #[CondMem.val a ma, CondMem.val b mb] w fun e w' => Below w.heap.size w w' ∧ ∃ m, e = .returned (.tuple #[CondMem.val (meetX a b) m, .int .i64 (er21 a b)]) ∧ CondReads w' (meetX a b) m := by
  unfold meetX er21
  cases hv : (validC a && validC b)
  · refine (meet_bad a b ma mb w hRa hRb hfa hfb hv hE).mono ?_
    rintro e w' ⟨rfl, hb⟩
    exact ⟨hb, ⟨none, 0, none, 0, none, 0⟩, rfl, ⟨Reads.nil_ _ _ _, Reads.nil_ _ _ _, Reads.nil_ _ _ _⟩⟩
  · rw [Bool.and_eq_true] at hv
    exact meet_valid a b ma mb w hRa hRb hfa hfb hv.1 hv.2 hE
theorem rMeet_all (a b : CondV) (ma mb : CondMem) (w : World) (hRa : CondReads w a ma) (hRb : CondReads w b mb) (hfa : CondFits a) (hfb : CondFits b) :
    Calls Tryz.prog 15 #[CondMem.val a ma, CondMem.val b mb] w (RMadePost (meetX a b) (er21 a b) w) := rMeet_any a b ma mb w hRa hRb hfa hfb
theorem meetX_fits {a b : CondV} (fa : CondFits a) (fb : CondFits b) : CondFits (meetX a b) := by
  unfold meetX
  cases hv : (validC a && validC b)
  · show CondFits zeroC
    exact fits_of ((valid_iff _).2 zero_ok) (by decide)
  · rw [Bool.and_eq_true] at hv
    exact (meet_fits ((valid_iff a).1 hv.1) ((valid_iff b).1 hv.2) fa fb).2
def MX (w : World) (g : Nat) (c : CondV) (m : CondMem) (e : Int) : Prop := Blk w g 40 #[.int .i64 c.fr, .int .i64 c.till, .string c.pat, .slice m.A c.cl.length m.ca, .slice m.B c.co.length m.cb, .slice m.S c.si.length m.cs, .int .i64 c.us, .int .i64 e] (0, 0)
theorem MX.facts {w : World} {g : Nat} {c : CondV} {m : CondMem} {e : Int} (h : MX w g c m e) :
    w.cell? ⟨g, 0, none⟩ = some (.int .i64 c.fr) ∧ w.cell? ⟨g, 1, none⟩ = some (.int .i64 c.till) ∧ w.cell? ⟨g, 2, none⟩ = some (.string c.pat) ∧ w.cell? ⟨g, 3, none⟩ = some (.slice m.A c.cl.length m.ca) ∧ w.cell? ⟨g, 4, none⟩ = some (.slice m.B c.co.length m.cb) ∧ w.cell? ⟨g, 5, none⟩ = some (.slice m.S c.si.length m.cs) ∧ w.cell? ⟨g, 6, none⟩ = some (.int .i64 c.us) ∧ w.cell? ⟨g, 7, none⟩ = some (.int .i64 e) :=
  ⟨Blk.cell h 0, Blk.cell h 1, Blk.cell h 2, Blk.cell h 3, Blk.cell h 4, Blk.cell h 5, Blk.cell h 6, Blk.cell h 7⟩
theorem MX.keep {w w' : World} {g : Nat} {c : CondV} {m : CondMem} {e : Int} (h : MX w g c m e) (hb : Below w.heap.size w w') : MX w' g c m e := Blk.keep h hb
end Go.Proofs.YtocgkpdolgnbgaaGreatDoor
namespace Go.Proofs.YtocgkpdolgnbgaaGreatDoor
open Go.RowKit Go.Sort
set_option linter.unusedVariables false
set_option linter.unusedSimpArgs false
set_option maxRecDepth 100000
set_option maxHeartbeats 16000000 in
theorem lawMeetsC (a b : CondV) (ma mb : CondMem) (w : World) (hRa : CondReads w a ma) (hRb : CondReads w b mb) (hE : Env w) (hT : Tab w) :
    Calls Tryz.prog 3 #[CondMem.val a ma, CondMem.val b mb] w (Ret w (.bool true)) := by
  have g1 := fun W (hb : Below w.heap.size w W) => few_cond a ma W (hRa.keep hb)
  have g3 := fun W (hb : Below w.heap.size w W) => few_cond b mb W (hRb.keep hb)
  have HE := Lib.hid hE
  have HT := Lib.hid hT
  cases hfa : fewV a
  · rw [hfa] at g1
    have G1 := Lib.hid g1
    have G3 := Lib.hid g3
    clear g1 g3 hE hT hfa
    unfold CondMem.val at *
    (go_enter Tryz.func3, Tryz.ntmps3; go_wp2_with (first | (go_at_call 10; refine (G1.out _ (by (repeat (first | exact .refl _ _ | assumption | refine .drew ?_ | refine balloc ?_ _ | refine bdrewN ?_ _ | refine .setCell ?_ (by simp <;> omega) _ | refine bstep ?_ (by assumption))))).mono ?_; rintro e w2 ⟨rfl, hb2⟩; clear G1; have hbw : Below w.heap.size w w2 := (by (repeat (first | exact .refl _ _ | assumption | refine .drew ?_ | refine balloc ?_ _ | refine bdrewN ?_ _ | refine .setCell ?_ (by simp <;> omega) _ | refine bstep ?_ (by assumption)))); (have hX2 : VBox w2 (w.heap.size) a ma := (by first | exact VBox.keep hX2 hb2 | exact Blk.keep (two_box _ _ _).1 hb2)); (have hY2 : VBox w2 (w.heap.size + 1) b mb := (by first | exact VBox.keep hY2 hb2 | exact Blk.keep (two_box _ _ _).2 hb2)); (try clear x0 x1 x2 x3 x4 x5 x6 y0 y1 y2 y3 y4 y5 y6); obtain ⟨x0, x1, x2, x3, x4, x5, x6⟩ := hX2.facts; obtain ⟨y0, y1, y2, y3, y4, y5, y6⟩ := hY2.facts) | (go_at_call 10; refine (G3.out _ hbw).mono ?_; rintro e w2 ⟨rfl, hb2⟩; clear G3; replace hbw := bstep hbw hb2; (have hX2 : VBox w2 (w.heap.size) a ma := (by first | exact VBox.keep hX2 hb2 | exact Blk.keep (two_box _ _ _).1 hb2)); (have hY2 : VBox w2 (w.heap.size + 1) b mb := (by first | exact VBox.keep hY2 hb2 | exact Blk.keep (two_box _ _ _).2 hb2)); (try clear x0 x1 x2 x3 x4 x5 x6 y0 y1 y2 y3 y4 y5 y6); obtain ⟨x0, x1, x2, x3, x4, x5, x6⟩ := hX2.facts; obtain ⟨y0, y1, y2, y3, y4, y5, y6⟩ := hY2.facts) | (go_at_call 11; refine (san21_any _ (HE.out.keep hbw) (HT.out.keep hbw)).mono ?_; rintro e ws ⟨rfl, hbs⟩)); go_ret; exact ⟨rfl, bstep hbw hbs⟩)
  rw [hfa] at g1
  cases hfb : fewV b
  · rw [hfb] at g3
    have G1 := Lib.hid g1
    have G3 := Lib.hid g3
    clear g1 g3 hE hT hfa hfb
    unfold CondMem.val at *
    (go_enter Tryz.func3, Tryz.ntmps3; go_wp2_with (first | (go_at_call 10; refine (G1.out _ (by (repeat (first | exact .refl _ _ | assumption | refine .drew ?_ | refine balloc ?_ _ | refine bdrewN ?_ _ | refine .setCell ?_ (by simp <;> omega) _ | refine bstep ?_ (by assumption))))).mono ?_; rintro e w2 ⟨rfl, hb2⟩; clear G1; have hbw : Below w.heap.size w w2 := (by (repeat (first | exact .refl _ _ | assumption | refine .drew ?_ | refine balloc ?_ _ | refine bdrewN ?_ _ | refine .setCell ?_ (by simp <;> omega) _ | refine bstep ?_ (by assumption)))); (have hX2 : VBox w2 (w.heap.size) a ma := (by first | exact VBox.keep hX2 hb2 | exact Blk.keep (two_box _ _ _).1 hb2)); (have hY2 : VBox w2 (w.heap.size + 1) b mb := (by first | exact VBox.keep hY2 hb2 | exact Blk.keep (two_box _ _ _).2 hb2)); (try clear x0 x1 x2 x3 x4 x5 x6 y0 y1 y2 y3 y4 y5 y6); obtain ⟨x0, x1, x2, x3, x4, x5, x6⟩ := hX2.facts; obtain ⟨y0, y1, y2, y3, y4, y5, y6⟩ := hY2.facts) | (go_at_call 10; refine (G3.out _ hbw).mono ?_; rintro e w2 ⟨rfl, hb2⟩; clear G3; replace hbw := bstep hbw hb2; (have hX2 : VBox w2 (w.heap.size) a ma := (by first | exact VBox.keep hX2 hb2 | exact Blk.keep (two_box _ _ _).1 hb2)); (have hY2 : VBox w2 (w.heap.size + 1) b mb := (by first | exact VBox.keep hY2 hb2 | exact Blk.keep (two_box _ _ _).2 hb2)); (try clear x0 x1 x2 x3 x4 x5 x6 y0 y1 y2 y3 y4 y5 y6); obtain ⟨x0, x1, x2, x3, x4, x5, x6⟩ := hX2.facts; obtain ⟨y0, y1, y2, y3, y4, y5, y6⟩ := hY2.facts) | (go_at_call 11; refine (san21_any _ (HE.out.keep hbw) (HT.out.keep hbw)).mono ?_; rintro e ws ⟨rfl, hbs⟩)); go_ret; exact ⟨rfl, bstep hbw hbs⟩)
  rw [hfb] at g3
  have fa := few_fits hfa
  have fb := few_fits hfb
  have hfx := meetX_fits fa fb
  have m1 := fun W (hb : Below w.heap.size w W) => meet_all a b ma mb W (hRa.keep hb) (hRb.keep hb) fa fb (hE.keep hb)
  have i1 := fun W (hb : Below w.heap.size w W) => imp_all a b ma mb W (hRa.keep hb) (hRb.keep hb) fa fb (hE.keep hb)
  have v1 := fun W (hb : Below w.heap.size w W) => within_all a b ma mb W (hRa.keep hb) (hRb.keep hb) fa fb (hE.keep hb)
  have m2 := fun W (hb : Below w.heap.size w W) => rMeet_all a b ma mb W (hRa.keep hb) (hRb.keep hb) fa fb
  have i2 := fun W (hb : Below w.heap.size w W) => rImplies_any a b ma mb W (hRa.keep hb) (hRb.keep hb) fa fb
  have v2 := fun W (hb : Below w.heap.size w W) => rWithin2_any a b ma mb W (hRa.keep hb) (hRb.keep hb) fa fb
  have sm := fun n n' W hn hn' => same_cond (meetX a b) n n' W hn hn' hfx
  unfold RMadePost at m2
  unfold knownV at i2 v2
  rw [impl_er] at i2 v2
  generalize meetX a b = X at *
  generalize (implR a b).1 = is at *
  generalize wiR a b = wi at *
  generalize er21 a b = er at *
  generalize impS a b = s at *
  have G1 := Lib.hid g1; have G3 := Lib.hid g3; have M1 := Lib.hid m1; have I1 := Lib.hid i1; have V1 := Lib.hid v1; have M2 := Lib.hid m2; have I2 := Lib.hid i2; have V2 := Lib.hid v2; have SM := Lib.hid sm
  have b1 : (er == er) = true := by simp
  have b2 : (is == is) = true := by simp
  have b3 : (wi == wi) = true := by simp
  clear g1 g3 m1 i1 v1 m2 i2 v2 sm fa fb hfx hfa hfb hRa hRb hE hT
  unfold CondMem.val AskV.val at *
  go_enter Tryz.func3, Tryz.ntmps3
  go_wp2_with (first | (go_at_call 10; refine (G1.out _ (by (repeat (first | exact .refl _ _ | assumption | refine .drew ?_ | refine balloc ?_ _ | refine bdrewN ?_ _ | refine .setCell ?_ (by simp <;> omega) _ | refine bstep ?_ (by assumption))))).mono ?_; rintro e w2 ⟨rfl, hb2⟩; clear G1; have hbw : Below w.heap.size w w2 := (by (repeat (first | exact .refl _ _ | assumption | refine .drew ?_ | refine balloc ?_ _ | refine bdrewN ?_ _ | refine .setCell ?_ (by simp <;> omega) _ | refine bstep ?_ (by assumption)))); (have hX2 : VBox w2 (w.heap.size) a ma := (by first | exact VBox.keep hX2 hb2 | exact Blk.keep (two_box _ _ _).1 hb2)); (have hY2 : VBox w2 (w.heap.size + 1) b mb := (by first | exact VBox.keep hY2 hb2 | exact Blk.keep (two_box _ _ _).2 hb2)); (try clear x0 x1 x2 x3 x4 x5 x6 y0 y1 y2 y3 y4 y5 y6); obtain ⟨x0, x1, x2, x3, x4, x5, x6⟩ := hX2.facts; obtain ⟨y0, y1, y2, y3, y4, y5, y6⟩ := hY2.facts) | (go_at_call 10; refine (G3.out _ hbw).mono ?_; rintro e w2 ⟨rfl, hb2⟩; clear G3; replace hbw := bstep hbw hb2; (have hX2 : VBox w2 (w.heap.size) a ma := (by first | exact VBox.keep hX2 hb2 | exact Blk.keep (two_box _ _ _).1 hb2)); (have hY2 : VBox w2 (w.heap.size + 1) b mb := (by first | exact VBox.keep hY2 hb2 | exact Blk.keep (two_box _ _ _).2 hb2)); (try clear x0 x1 x2 x3 x4 x5 x6 y0 y1 y2 y3 y4 y5 y6); obtain ⟨x0, x1, x2, x3, x4, x5, x6⟩ := hX2.facts; obtain ⟨y0, y1, y2, y3, y4, y5, y6⟩ := hY2.facts))
  have hbw2 := hbw
  clear hbw hb2 x0 x1 x2 x3 x4 x5 x6 y0 y1 y2 y3 y4 y5 y6
  refine (M1.out _ hbw2).mono ?_; rintro e w3 ⟨hb3, m1, rfl, hr13⟩
  have hbw3 := bstep hbw2 (hb3)
  have hX3 : VBox w3 (w.heap.size) a ma := hX2.keep (hb3)
  have hY3 : VBox w3 (w.heap.size + 1) b mb := hY2.keep (hb3)
  clear hb3 hbw2 hX2 hY2
  dsimp only
  obtain ⟨x0, x1, x2, x3, x4, x5, x6⟩ := hX3.facts
  have lx := Blk.lt hX3
  obtain ⟨y0, y1, y2, y3, y4, y5, y6⟩ := hY3.facts
  have ly := Blk.lt hY3
  go_wp2_with fail
  clear x0 x1 x2 x3 x4 x5 x6 y0 y1 y2 y3 y4 y5 y6 lx ly
  refine (I1.out _ (by (repeat (first | exact .refl _ _ | assumption | refine .drew ?_ | refine balloc ?_ _ | refine bdrewN ?_ _ | refine .setCell ?_ (by simp <;> omega) _ | refine bstep ?_ (by assumption))))).mono ?_; rintro e w4 ⟨rfl, hb4⟩
  have hbw4 := bstep hbw3 (blater _ hb4)
  have hX4 : VBox w4 (w.heap.size) a ma := hX3.keep (blater _ hb4)
  have hY4 : VBox w4 (w.heap.size + 1) b mb := hY3.keep (blater _ hb4)
  have hr14 := hr13.keep (blater _ hb4)
  have hP4 : VBox w4 (w3.heap.size) X m1 := Blk.keep (World.alloc_heap_new _ _) hb4
  clear hb4 hbw3 hX3 hY3 hr13
  dsimp only
  obtain ⟨x0, x1, x2, x3, x4, x5, x6⟩ := hX4.facts
  have lx := Blk.lt hX4
  obtain ⟨y0, y1, y2, y3, y4, y5, y6⟩ := hY4.facts
  have ly := Blk.lt hY4
  obtain ⟨v0, v1, v2, v3, v4, v5, v6⟩ := hP4.facts
  have lv := Blk.lt hP4
  go_wp2_with fail
  clear x0 x1 x2 x3 x4 x5 x6 y0 y1 y2 y3 y4 y5 y6 v0 v1 v2 v3 v4 v5 v6 lx ly lv
  refine (V1.out _ (by (repeat (first | exact .refl _ _ | assumption | refine .drew ?_ | refine balloc ?_ _ | refine bdrewN ?_ _ | refine .setCell ?_ (by simp <;> omega) _ | refine bstep ?_ (by assumption))))).mono ?_; rintro e w5 ⟨rfl, hb5⟩
  have hbw5 := bstep hbw4 (blater _ hb5)
  have hX5 : VBox w5 (w.heap.size) a ma := hX4.keep (blater _ hb5)
  have hY5 : VBox w5 (w.heap.size + 1) b mb := hY4.keep (blater _ hb5)
  have hP5 : VBox w5 (w3.heap.size) X m1 := hP4.keep (blater _ hb5)
  have hr15 := hr14.keep (blater _ hb5)
  have hS5 : YBox w5 (w4.heap.size) s := Blk.keep (World.alloc_heap_new _ _) hb5
  clear hb5 hbw4 hX4 hY4 hP4 hr14
  obtain ⟨x0, x1, x2, x3, x4, x5, x6⟩ := hX5.facts
  have lx := Blk.lt hX5
  obtain ⟨y0, y1, y2, y3, y4, y5, y6⟩ := hY5.facts
  have ly := Blk.lt hY5
  obtain ⟨v0, v1, v2, v3, v4, v5, v6⟩ := hP5.facts
  have lv := Blk.lt hP5
  obtain ⟨s0, s1, s2, s3, s4, s5⟩ := hS5.facts
  have ls := Blk.lt hS5
  go_wp2_with fail
  clear x0 x1 x2 x3 x4 x5 x6 y0 y1 y2 y3 y4 y5 y6 v0 v1 v2 v3 v4 v5 v6 s0 s1 s2 s3 s4 s5 lx ly lv ls
  refine (M2.out _ (by (repeat (first | exact .refl _ _ | assumption | refine .drew ?_ | refine balloc ?_ _ | refine bdrewN ?_ _ | refine .setCell ?_ (by simp <;> omega) _ | refine bstep ?_ (by assumption))))).mono ?_; rintro e w6 ⟨hb6, m2, rfl, hr26⟩
  have hbw6 := bstep hbw5 (hb6)
  have hX6 : VBox w6 (w.heap.size) a ma := hX5.keep (hb6)
  have hY6 : VBox w6 (w.heap.size + 1) b mb := hY5.keep (hb6)
  have hP6 : VBox w6 (w3.heap.size) X m1 := hP5.keep (hb6)
  have hS6 : YBox w6 (w4.heap.size) s := hS5.keep (hb6)
  have hr16 := hr15.keep (hb6)
  clear hb6 hbw5 hX5 hY5 hP5 hS5 hr15
  dsimp only
  obtain ⟨x0, x1, x2, x3, x4, x5, x6⟩ := hX6.facts
  have lx := Blk.lt hX6
  obtain ⟨y0, y1, y2, y3, y4, y5, y6⟩ := hY6.facts
  have ly := Blk.lt hY6
  obtain ⟨v0, v1, v2, v3, v4, v5, v6⟩ := hP6.facts
  have lv := Blk.lt hP6
  obtain ⟨s0, s1, s2, s3, s4, s5⟩ := hS6.facts
  have ls := Blk.lt hS6
  go_wp2_with fail
  clear x0 x1 x2 x3 x4 x5 x6 y0 y1 y2 y3 y4 y5 y6 v0 v1 v2 v3 v4 v5 v6 s0 s1 s2 s3 s4 s5 lx ly lv ls
  refine (I2.out _ (by (repeat (first | exact .refl _ _ | assumption | refine .drew ?_ | refine balloc ?_ _ | refine bdrewN ?_ _ | refine .setCell ?_ (by simp <;> omega) _ | refine bstep ?_ (by assumption))))).mono ?_; rintro e w7 ⟨rfl, hb7⟩
  have hbw7 := bstep hbw6 (blater _ hb7)
  have hX7 : VBox w7 (w.heap.size) a ma := hX6.keep (blater _ hb7)
  have hY7 : VBox w7 (w.heap.size + 1) b mb := hY6.keep (blater _ hb7)
  have hP7 : VBox w7 (w3.heap.size) X m1 := hP6.keep (blater _ hb7)
  have hS7 : YBox w7 (w4.heap.size) s := hS6.keep (blater _ hb7)
  have hr17 := hr16.keep (blater _ hb7)
  have hr27 := hr26.keep (blater _ hb7)
  have hQ7 : MX w7 (w6.heap.size) X m2 er := Blk.keep (World.alloc_heap_new _ _) hb7
  clear hb7 hbw6 hX6 hY6 hP6 hS6 hr16 hr26
  obtain ⟨x0, x1, x2, x3, x4, x5, x6⟩ := hX7.facts
  have lx := Blk.lt hX7
  obtain ⟨y0, y1, y2, y3, y4, y5, y6⟩ := hY7.facts
  have ly := Blk.lt hY7
  obtain ⟨v0, v1, v2, v3, v4, v5, v6⟩ := hP7.facts
  have lv := Blk.lt hP7
  obtain ⟨s0, s1, s2, s3, s4, s5⟩ := hS7.facts
  have ls := Blk.lt hS7
  obtain ⟨u0, u1, u2, u3, u4, u5, u6, u7⟩ := hQ7.facts
  have lu := Blk.lt hQ7
  go_wp2_with fail
  clear x0 x1 x2 x3 x4 x5 x6 y0 y1 y2 y3 y4 y5 y6 v0 v1 v2 v3 v4 v5 v6 s0 s1 s2 s3 s4 s5 u0 u1 u2 u3 u4 u5 u6 u7 lx ly lv ls lu
  refine (V2.out _ (by (repeat (first | exact .refl _ _ | assumption | refine .drew ?_ | refine balloc ?_ _ | refine bdrewN ?_ _ | refine .setCell ?_ (by simp <;> omega) _ | refine bstep ?_ (by assumption))))).mono ?_; rintro e w8 ⟨rfl, hb8⟩
  have hbw8 := bstep hbw7 (blater _ hb8)
  have hX8 : VBox w8 (w.heap.size) a ma := hX7.keep (blater _ hb8)
  have hY8 : VBox w8 (w.heap.size + 1) b mb := hY7.keep (blater _ hb8)
  have hP8 : VBox w8 (w3.heap.size) X m1 := hP7.keep (blater _ hb8)
  have hS8 : YBox w8 (w4.heap.size) s := hS7.keep (blater _ hb8)
  have hQ8 : MX w8 (w6.heap.size) X m2 er := hQ7.keep (blater _ hb8)
  have hr18 := hr17.keep (blater _ hb8)
  have hr28 := hr27.keep (blater _ hb8)
  have hK8 : KB w8 (w7.heap.size) is er := Blk.keep (World.alloc_heap_new _ _) hb8
  clear hb8 hbw7 hX7 hY7 hP7 hS7 hQ7 hr17 hr27
  obtain ⟨x0, x1, x2, x3, x4, x5, x6⟩ := hX8.facts
  have lx := Blk.lt hX8
  obtain ⟨y0, y1, y2, y3, y4, y5, y6⟩ := hY8.facts
  have ly := Blk.lt hY8
  obtain ⟨v0, v1, v2, v3, v4, v5, v6⟩ := hP8.facts
  have lv := Blk.lt hP8
  obtain ⟨s0, s1, s2, s3, s4, s5⟩ := hS8.facts
  have ls := Blk.lt hS8
  obtain ⟨u0, u1, u2, u3, u4, u5, u6, u7⟩ := hQ8.facts
  have lu := Blk.lt hQ8
  obtain ⟨k0, k1⟩ := hK8.facts
  have lk := Blk.lt hK8
  go_wp2_with fail
  clear x0 x1 x2 x3 x4 x5 x6 y0 y1 y2 y3 y4 y5 y6 v0 v1 v2 v3 v4 v5 v6 s0 s1 s2 s3 s4 s5 u0 u1 u2 u3 u4 u5 u6 u7 k0 k1 lx ly lv ls lu lk
  refine (san21_any _ (HE.out.keep (by (repeat (first | exact .refl _ _ | assumption | refine .drew ?_ | refine balloc ?_ _ | refine bdrewN ?_ _ | refine .setCell ?_ (by simp <;> omega) _ | refine bstep ?_ (by assumption))))) (HT.out.keep (by (repeat (first | exact .refl _ _ | assumption | refine .drew ?_ | refine balloc ?_ _ | refine bdrewN ?_ _ | refine .setCell ?_ (by simp <;> omega) _ | refine bstep ?_ (by assumption)))))).mono ?_; rintro e w9 ⟨rfl, hb9⟩
  have hbw9 := bstep hbw8 (blater _ hb9)
  have hX9 : VBox w9 (w.heap.size) a ma := hX8.keep (blater _ hb9)
  have hY9 : VBox w9 (w.heap.size + 1) b mb := hY8.keep (blater _ hb9)
  have hP9 : VBox w9 (w3.heap.size) X m1 := hP8.keep (blater _ hb9)
  have hS9 : YBox w9 (w4.heap.size) s := hS8.keep (blater _ hb9)
  have hQ9 : MX w9 (w6.heap.size) X m2 er := hQ8.keep (blater _ hb9)
  have hK9 : KB w9 (w7.heap.size) is er := hK8.keep (blater _ hb9)
  have hr19 := hr18.keep (blater _ hb9)
  have hr29 := hr28.keep (blater _ hb9)
  have hL9 : KB w9 (w8.heap.size) wi er := Blk.keep (World.alloc_heap_new _ _) hb9
  clear hb9 hbw8 hX8 hY8 hP8 hS8 hQ8 hK8 hr18 hr28
  obtain ⟨x0, x1, x2, x3, x4, x5, x6⟩ := hX9.facts
  have lx := Blk.lt hX9
  obtain ⟨y0, y1, y2, y3, y4, y5, y6⟩ := hY9.facts
  have ly := Blk.lt hY9
  obtain ⟨v0, v1, v2, v3, v4, v5, v6⟩ := hP9.facts
  have lv := Blk.lt hP9
  obtain ⟨s0, s1, s2, s3, s4, s5⟩ := hS9.facts
  have ls := Blk.lt hS9
  obtain ⟨u0, u1, u2, u3, u4, u5, u6, u7⟩ := hQ9.facts
  have lu := Blk.lt hQ9
  obtain ⟨k0, k1⟩ := hK9.facts
  have lk := Blk.lt hK9
  obtain ⟨j0, j1⟩ := hL9.facts
  have lj := Blk.lt hL9
  go_wp2_with fail
  clear x0 x1 x2 x3 x4 x5 x6 y0 y1 y2 y3 y4 y5 y6 v0 v1 v2 v3 v4 v5 v6 s0 s1 s2 s3 s4 s5 u0 u1 u2 u3 u4 u5 u6 u7 k0 k1 j0 j1 lx ly lv ls lu lk lj
  refine (SM.out m1 m2 _ (hr19.keep (by (repeat (first | exact .refl _ _ | assumption | refine .drew ?_ | refine balloc ?_ _ | refine bdrewN ?_ _ | refine .setCell ?_ (by simp <;> omega) _ | refine bstep ?_ (by assumption))))) (hr29.keep (by (repeat (first | exact .refl _ _ | assumption | refine .drew ?_ | refine balloc ?_ _ | refine bdrewN ?_ _ | refine .setCell ?_ (by simp <;> omega) _ | refine bstep ?_ (by assumption)))))).mono ?_; rintro e w10 ⟨rfl, hb10⟩
  have hbw10 := bstep hbw9 (hb10)
  have hX10 : VBox w10 (w.heap.size) a ma := hX9.keep (hb10)
  have hY10 : VBox w10 (w.heap.size + 1) b mb := hY9.keep (hb10)
  have hP10 : VBox w10 (w3.heap.size) X m1 := hP9.keep (hb10)
  have hS10 : YBox w10 (w4.heap.size) s := hS9.keep (hb10)
  have hQ10 : MX w10 (w6.heap.size) X m2 er := hQ9.keep (hb10)
  have hK10 : KB w10 (w7.heap.size) is er := hK9.keep (hb10)
  have hL10 : KB w10 (w8.heap.size) wi er := hL9.keep (hb10)
  have hr110 := hr19.keep (hb10)
  have hr210 := hr29.keep (hb10)
  clear hb10 hbw9 hX9 hY9 hP9 hS9 hQ9 hK9 hL9 hr19 hr29
  obtain ⟨x0, x1, x2, x3, x4, x5, x6⟩ := hX10.facts
  have lx := Blk.lt hX10
  obtain ⟨y0, y1, y2, y3, y4, y5, y6⟩ := hY10.facts
  have ly := Blk.lt hY10
  obtain ⟨v0, v1, v2, v3, v4, v5, v6⟩ := hP10.facts
  have lv := Blk.lt hP10
  obtain ⟨s0, s1, s2, s3, s4, s5⟩ := hS10.facts
  have ls := Blk.lt hS10
  obtain ⟨u0, u1, u2, u3, u4, u5, u6, u7⟩ := hQ10.facts
  have lu := Blk.lt hQ10
  obtain ⟨k0, k1⟩ := hK10.facts
  have lk := Blk.lt hK10
  obtain ⟨j0, j1⟩ := hL10.facts
  have lj := Blk.lt hL10
  go_wp2_with fail
  go_ret
  exact ⟨rfl, hbw10⟩
end Go.Proofs.YtocgkpdolgnbgaaGreatDoor
