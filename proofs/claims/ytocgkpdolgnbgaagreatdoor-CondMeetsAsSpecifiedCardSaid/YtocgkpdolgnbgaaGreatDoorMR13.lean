/- What the specification's Within of conditions returns. -/
import Derived.Test.YtocgkpdolgnbgaaGreatDoorMR8
import Derived.Test.YtocgkpdolgnbgaaGreatDoorProg
import Derived.WalkKit
import Derived.WalkSpells
import Derived.WalkLawsBesides
import Derived.Below
import Derived.Deep.QuietTactic
import Derived.BigQuiet
import Derived.Lib.QuietBelow
import Derived.Lib.Strings
import Derived.Lib.Hide
import Derived.Deep.RegionWith
import Derived.Deep.RegionHeld3
import Derived.Lib.IndexBytes
namespace Go.Proofs.YtocgkpdolgnbgaaGreatDoor
open Go.RowKit Go.Sort
set_option linter.unusedVariables false
set_option linter.unusedSimpArgs false
set_option maxRecDepth 100000
def wiR (a b : CondV) : Bool := (implR a b).1 && (decide (a.till ≤ a.fr) || decide (b.us = 0 ∨ (0 < a.us ∧ a.us ≤ b.us)))
set_option maxHeartbeats 8000000 in
theorem rWithin2_any (a b : CondV) (m1 m2 : CondMem) (w : World) (hRa : CondReads w a m1) (hRb : CondReads w b m2) (hfa : CondFits a) (hfb : CondFits b) :
    Calls Tryz.prog 17 #[CondMem.val a m1, CondMem.val b m2] w (Ret w (knownV (wiR a b) (implR a b).2)) := by
  have c1 := fun W (hb : Below w.heap.size w W) => rImplies_any a b m1 m2 W (hRa.keep hb) (hRb.keep hb) hfa hfb
  obtain ⟨V, hV⟩ : ∃ V, V = wiR a b := ⟨_, rfl⟩
  rw [← hV]
  unfold wiR at hV
  have her : (implR a b).1 = true → (implR a b).2 = 0 := by
    unfold implR
    split
    · intro _; rfl
    · intro h; cases h
  generalize implR a b = ir at *
  obtain ⟨is, er⟩ := ir
  unfold knownV at c1 ⊢
  obtain ⟨fa, ta, pa, cla, coa, sia, ua⟩ := a
  obtain ⟨fb, tb, pb, clb, cob, sib, ub⟩ := b
  obtain ⟨A, ca, B, cb, S, cs⟩ := m1
  obtain ⟨A', ca', B', cb', S', cs'⟩ := m2
  unfold CondMem.val at c1 ⊢
  dsimp only at c1 hV her ⊢
  generalize cla.length = na at *
  generalize coa.length = nb at *
  generalize sia.length = ns at *
  generalize clb.length = ma at *
  generalize cob.length = mb at *
  generalize sib.length = ms at *
  have C1 := Lib.hid c1
  clear c1 hRa hRb hfa hfb
  cases is
  · obtain rfl : V = false := by rw [hV]; rfl
    clear hV her
    (go_enter Tryz.func17, Tryz.ntmps17; go_wp2_with (go_at_call 16; refine (C1.out _ (by (repeat (first | exact .refl _ _ | assumption | refine .drew ?_ | refine balloc ?_ _ | refine bdrewN ?_ _ | refine .setCell ?_ (by simp <;> omega) _ | refine bstep ?_ (by assumption))))).mono ?_; rintro e w2 ⟨rfl, hb2⟩; have hX2 : CBox w2 w.heap.size fa ta pa A na ca B nb cb S ns cs ua := Blk.keep (three_box _ _ _ _).1 hb2; have hY2 : CBox w2 (w.heap.size + 1) fb tb pb A' ma ca' B' mb cb' S' ms cs' ub := Blk.keep (three_box _ _ _ _).2.1 hb2; have hK2 : K21 w2 (w.heap.size + 1 + 1) false 0 := Blk.keep (three_box _ _ _ _).2.2 hb2; have hbw : Below w.heap.size w w2 := (by (repeat (first | exact .refl _ _ | assumption | refine .drew ?_ | refine balloc ?_ _ | refine bdrewN ?_ _ | refine .setCell ?_ (by simp <;> omega) _ | refine bstep ?_ (by assumption)))); obtain ⟨x0, x1, x2, x3, x4, x5, x6⟩ := hX2.facts; obtain ⟨y0, y1, y2, y3, y4, y5, y6⟩ := hY2.facts; obtain ⟨k0, k1, g0, g1, hz⟩ := hK2.facts; have hzX := Blk.lt hX2; have hzY := Blk.lt hY2); exact bodyPost_ret (v := .agg #[.bool false, .int .i64 er]) (by simp [results, Tryz.results17, go_sem, hz, hzX, hzY, k0, k1, g0, g1]) rfl ⟨rfl, by (repeat (first | exact .refl _ _ | assumption | refine .drew ?_ | refine balloc ?_ _ | refine bdrewN ?_ _ | refine .setCell ?_ (by simp <;> omega) _ | refine bstep ?_ (by assumption)))⟩)
  obtain rfl : er = 0 := her rfl
  clear her
  rw [Bool.true_and] at hV
  by_cases t1 : ta ≤ fa
  · obtain rfl : V = true := by rw [hV]; simp [t1]
    have d1 : decide (ta ≤ fa) = true := decide_eq_true t1
    clear hV
    (go_enter Tryz.func17, Tryz.ntmps17; go_wp2_with (go_at_call 16; refine (C1.out _ (by (repeat (first | exact .refl _ _ | assumption | refine .drew ?_ | refine balloc ?_ _ | refine bdrewN ?_ _ | refine .setCell ?_ (by simp <;> omega) _ | refine bstep ?_ (by assumption))))).mono ?_; rintro e w2 ⟨rfl, hb2⟩; have hX2 : CBox w2 w.heap.size fa ta pa A na ca B nb cb S ns cs ua := Blk.keep (three_box _ _ _ _).1 hb2; have hY2 : CBox w2 (w.heap.size + 1) fb tb pb A' ma ca' B' mb cb' S' ms cs' ub := Blk.keep (three_box _ _ _ _).2.1 hb2; have hK2 : K21 w2 (w.heap.size + 1 + 1) false 0 := Blk.keep (three_box _ _ _ _).2.2 hb2; have hbw : Below w.heap.size w w2 := (by (repeat (first | exact .refl _ _ | assumption | refine .drew ?_ | refine balloc ?_ _ | refine bdrewN ?_ _ | refine .setCell ?_ (by simp <;> omega) _ | refine bstep ?_ (by assumption)))); obtain ⟨x0, x1, x2, x3, x4, x5, x6⟩ := hX2.facts; obtain ⟨y0, y1, y2, y3, y4, y5, y6⟩ := hY2.facts; obtain ⟨k0, k1, g0, g1, hz⟩ := hK2.facts; have hzX := Blk.lt hX2; have hzY := Blk.lt hY2); exact bodyPost_ret (v := .agg #[.bool true, .int .i64 0]) (by simp [results, Tryz.results17, go_sem, hz, hzX, hzY, k0, k1, g0, g1]) rfl ⟨rfl, by (repeat (first | exact .refl _ _ | assumption | refine .drew ?_ | refine balloc ?_ _ | refine bdrewN ?_ _ | refine .setCell ?_ (by simp <;> omega) _ | refine bstep ?_ (by assumption)))⟩)
  have d1 : decide (ta ≤ fa) = false := decide_eq_false t1
  by_cases t2 : ub = 0
  · obtain rfl : V = true := by rw [hV]; simp [t2]
    have d2 : (ub == 0) = true := by simpa using t2
    clear hV t2
    (go_enter Tryz.func17, Tryz.ntmps17; go_wp2_with (go_at_call 16; refine (C1.out _ (by (repeat (first | exact .refl _ _ | assumption | refine .drew ?_ | refine balloc ?_ _ | refine bdrewN ?_ _ | refine .setCell ?_ (by simp <;> omega) _ | refine bstep ?_ (by assumption))))).mono ?_; rintro e w2 ⟨rfl, hb2⟩; have hX2 : CBox w2 w.heap.size fa ta pa A na ca B nb cb S ns cs ua := Blk.keep (three_box _ _ _ _).1 hb2; have hY2 : CBox w2 (w.heap.size + 1) fb tb pb A' ma ca' B' mb cb' S' ms cs' ub := Blk.keep (three_box _ _ _ _).2.1 hb2; have hK2 : K21 w2 (w.heap.size + 1 + 1) false 0 := Blk.keep (three_box _ _ _ _).2.2 hb2; have hbw : Below w.heap.size w w2 := (by (repeat (first | exact .refl _ _ | assumption | refine .drew ?_ | refine balloc ?_ _ | refine bdrewN ?_ _ | refine .setCell ?_ (by simp <;> omega) _ | refine bstep ?_ (by assumption)))); obtain ⟨x0, x1, x2, x3, x4, x5, x6⟩ := hX2.facts; obtain ⟨y0, y1, y2, y3, y4, y5, y6⟩ := hY2.facts; obtain ⟨k0, k1, g0, g1, hz⟩ := hK2.facts; have hzX := Blk.lt hX2; have hzY := Blk.lt hY2); exact bodyPost_ret (v := .agg #[.bool true, .int .i64 0]) (by simp [results, Tryz.results17, go_sem, hz, hzX, hzY, k0, k1, g0, g1]) rfl ⟨rfl, by (repeat (first | exact .refl _ _ | assumption | refine .drew ?_ | refine balloc ?_ _ | refine bdrewN ?_ _ | refine .setCell ?_ (by simp <;> omega) _ | refine bstep ?_ (by assumption)))⟩)
  have d2 : (ub == 0) = false := by simpa using t2
  by_cases t3 : 0 < ua
  rotate_left
  · obtain rfl : V = false := by rw [hV]; simp [t1, t2, t3]
    have d3 : decide (1 ≤ ua) = false := decide_eq_false (by omega)
    clear hV
    (go_enter Tryz.func17, Tryz.ntmps17; go_wp2_with (go_at_call 16; refine (C1.out _ (by (repeat (first | exact .refl _ _ | assumption | refine .drew ?_ | refine balloc ?_ _ | refine bdrewN ?_ _ | refine .setCell ?_ (by simp <;> omega) _ | refine bstep ?_ (by assumption))))).mono ?_; rintro e w2 ⟨rfl, hb2⟩; have hX2 : CBox w2 w.heap.size fa ta pa A na ca B nb cb S ns cs ua := Blk.keep (three_box _ _ _ _).1 hb2; have hY2 : CBox w2 (w.heap.size + 1) fb tb pb A' ma ca' B' mb cb' S' ms cs' ub := Blk.keep (three_box _ _ _ _).2.1 hb2; have hK2 : K21 w2 (w.heap.size + 1 + 1) false 0 := Blk.keep (three_box _ _ _ _).2.2 hb2; have hbw : Below w.heap.size w w2 := (by (repeat (first | exact .refl _ _ | assumption | refine .drew ?_ | refine balloc ?_ _ | refine bdrewN ?_ _ | refine .setCell ?_ (by simp <;> omega) _ | refine bstep ?_ (by assumption)))); obtain ⟨x0, x1, x2, x3, x4, x5, x6⟩ := hX2.facts; obtain ⟨y0, y1, y2, y3, y4, y5, y6⟩ := hY2.facts; obtain ⟨k0, k1, g0, g1, hz⟩ := hK2.facts; have hzX := Blk.lt hX2; have hzY := Blk.lt hY2); exact bodyPost_ret (v := .agg #[.bool false, .int .i64 0]) (by simp [results, Tryz.results17, go_sem, hz, hzX, hzY, k0, k1, g0, g1]) rfl ⟨rfl, by (repeat (first | exact .refl _ _ | assumption | refine .drew ?_ | refine balloc ?_ _ | refine bdrewN ?_ _ | refine .setCell ?_ (by simp <;> omega) _ | refine bstep ?_ (by assumption)))⟩)
  have d3 : decide (1 ≤ ua) = true := decide_eq_true (by omega)
  have hv : V = decide (ua ≤ ub) := by rw [hV]; simp [t1, t2, t3]
  have hv2 := hv.symm
  clear hV hv
  (go_enter Tryz.func17, Tryz.ntmps17; go_wp2_with (go_at_call 16; refine (C1.out _ (by (repeat (first | exact .refl _ _ | assumption | refine .drew ?_ | refine balloc ?_ _ | refine bdrewN ?_ _ | refine .setCell ?_ (by simp <;> omega) _ | refine bstep ?_ (by assumption))))).mono ?_; rintro e w2 ⟨rfl, hb2⟩; have hX2 : CBox w2 w.heap.size fa ta pa A na ca B nb cb S ns cs ua := Blk.keep (three_box _ _ _ _).1 hb2; have hY2 : CBox w2 (w.heap.size + 1) fb tb pb A' ma ca' B' mb cb' S' ms cs' ub := Blk.keep (three_box _ _ _ _).2.1 hb2; have hK2 : K21 w2 (w.heap.size + 1 + 1) false 0 := Blk.keep (three_box _ _ _ _).2.2 hb2; have hbw : Below w.heap.size w w2 := (by (repeat (first | exact .refl _ _ | assumption | refine .drew ?_ | refine balloc ?_ _ | refine bdrewN ?_ _ | refine .setCell ?_ (by simp <;> omega) _ | refine bstep ?_ (by assumption)))); obtain ⟨x0, x1, x2, x3, x4, x5, x6⟩ := hX2.facts; obtain ⟨y0, y1, y2, y3, y4, y5, y6⟩ := hY2.facts; obtain ⟨k0, k1, g0, g1, hz⟩ := hK2.facts; have hzX := Blk.lt hX2; have hzY := Blk.lt hY2); exact bodyPost_ret (v := .agg #[.bool V, .int .i64 0]) (by simp [results, Tryz.results17, go_sem, hz, hzX, hzY, k0, k1, g0, g1]) rfl ⟨rfl, by (repeat (first | exact .refl _ _ | assumption | refine .drew ?_ | refine balloc ?_ _ | refine bdrewN ?_ _ | refine .setCell ?_ (by simp <;> omega) _ | refine bstep ?_ (by assumption)))⟩)
end Go.Proofs.YtocgkpdolgnbgaaGreatDoor
