/- What the condition package's Implies, Within, Meet and Text return for conditions that are not valid. -/
import Derived.Test.YtocgkpdolgnbgaaGreatDoorMJC
import Derived.Test.YtocgkpdolgnbgaaGreatDoorMJD
import Derived.Test.YtocgkpdolgnbgaaGreatDoorMJB
import Derived.Test.YtocgkpdolgnbgaaGreatDoorProg
import Derived.WalkKit
import Derived.WalkSpells
import Derived.WalkLawsBesides
import Derived.Below
import Derived.Deep.QuietTactic
import Derived.BigQuiet
import Derived.Lib.QuietBelow
import Derived.Lib.Strings
import Derived.Lib.Hide
import Derived.Deep.RegionWith
import Derived.Deep.RegionHeld3
import Derived.Lib.IndexBytes
namespace Go.Proofs.YtocgkpdolgnbgaaGreatDoor
open Go.RowKit Go.Sort
set_option linter.unusedVariables false
set_option linter.unusedSimpArgs false
set_option maxRecDepth 100000
def noAskV : Value := .agg #[.string ⟨#[]⟩, .string ⟨#[]⟩, .string ⟨#[]⟩, .int .i64 0, .int .i64 0, .int .i64 0]
def zeroV : Value := .agg #[.int .i64 0, .int .i64 0, .string ⟨#[]⟩, .slice none 0 0, .slice none 0 0, .slice none 0 0, .int .i64 0]
set_option maxHeartbeats 8000000 in
theorem imp_bad (a b : CondV) (ma mb : CondMem) (w : World) (hRa : CondReads w a ma) (hRb : CondReads w b mb) (hfa : CondFits a) (hfb : CondFits b) (hv : (validC a && validC b) = false) (hE : Env w) :
    Calls Tryz.prog 13 #[CondMem.val a ma, CondMem.val b mb] w (Ret w (.tuple #[.bool false, noAskV, .int .i64 1])) := by
  have c1 := fun W (hb : Below w.heap.size w W) => condValid_any a ma W (hRa.keep hb) hfa.p hfa.cl hfa.co hfa.n1 hfa.n2 hfa.n3 (hE.keep hb)
  have c2 := fun W (hb : Below w.heap.size w W) => condValid_any b mb W (hRb.keep hb) hfb.p hfb.cl hfb.co hfb.n1 hfb.n2 hfb.n3 (hE.keep hb)
  generalize validC a = va at *
  generalize validC b = vb at *
  obtain ⟨fa, ta, pa, cla, coa, sia, ua⟩ := a
  obtain ⟨fb, tb, pb, clb, cob, sib, ub⟩ := b
  obtain ⟨A, ca, B, cb, S, cs⟩ := ma
  obtain ⟨A', ca', B', cb', S', cs'⟩ := mb
  unfold CondMem.val at c1 c2 ⊢
  unfold noAskV
  dsimp only at c1 c2 ⊢
  generalize cla.length = na at *
  generalize coa.length = nb at *
  generalize sia.length = ns at *
  generalize clb.length = na' at *
  generalize cob.length = nb' at *
  generalize sib.length = ns' at *
  have C1 := Lib.hid c1; have C2 := Lib.hid c2
  clear c1 c2 hRa hRb hfa hfb hE
  have hvv : va = false ∨ (va = true ∧ vb = false) := by revert hv; cases va <;> cases vb <;> simp
  clear hv
  rcases hvv with rfl | ⟨rfl, rfl⟩
  all_goals
    go_enter Tryz.func13, Tryz.ntmps13
    go_wp2_with (first | (go_at_call 19; refine (C1.out _ (by (repeat (first | exact .refl _ _ | assumption | refine .drew ?_ | refine balloc ?_ _ | refine bdrewN ?_ _ | refine .setCell ?_ (by simp <;> omega) _ | refine bstep ?_ (by assumption))))).mono ?_; rintro e w2 ⟨rfl, hb2⟩; have hbw : Below w.heap.size w w2 := (by (repeat (first | exact .refl _ _ | assumption | refine .drew ?_ | refine balloc ?_ _ | refine bdrewN ?_ _ | refine .setCell ?_ (by simp <;> omega) _ | refine bstep ?_ (by assumption)))); clear C1; (have hX2 : CBox w2 w.heap.size fa ta pa A na ca B nb cb S ns cs ua := (by first | exact Blk.keep hX2 hb2 | exact Blk.keep (box3' _ _ _ _).1 hb2)); (have hY2 : CBox w2 (w.heap.size + 1) fb tb pb A' na' ca' B' nb' cb' S' ns' cs' ub := (by first | exact Blk.keep hY2 hb2 | exact Blk.keep (box3' _ _ _ _).2.1 hb2)); (have hZ2 : ABox w2 (w.heap.size + 1 + 1) ⟨#[]⟩ ⟨#[]⟩ ⟨#[]⟩ 0 0 0 := (by first | exact Blk.keep hZ2 hb2 | exact Blk.keep (box3' _ _ _ _).2.2 hb2)); (try clear x0 x1 x2 x3 x4 x5 x6 y0 y1 y2 y3 y4 y5 y6); (try clear z0 z1 z2 z3 z4 z5 q0 q1 q2 q3 q4 q5); (obtain ⟨x0, x1, x2, x3, x4, x5, x6⟩ := hX2.facts; obtain ⟨y0, y1, y2, y3, y4, y5, y6⟩ := hY2.facts); (obtain ⟨z0, z1, z2, z3, z4, z5⟩ := hZ2.facts; have q0 := hZ2.free0 0; have q1 := hZ2.free0 1; have q2 := hZ2.free0 2; have q3 := hZ2.free0 3; have q4 := hZ2.free0 4; have q5 := hZ2.free0 5)) | (go_at_call 19; refine (C2.out _ hbw).mono ?_; rintro e w2 ⟨rfl, hb2⟩; replace hbw := bstep hbw hb2; clear C2; (have hX2 : CBox w2 w.heap.size fa ta pa A na ca B nb cb S ns cs ua := (by first | exact Blk.keep hX2 hb2 | exact Blk.keep (box3' _ _ _ _).1 hb2)); (have hY2 : CBox w2 (w.heap.size + 1) fb tb pb A' na' ca' B' nb' cb' S' ns' cs' ub := (by first | exact Blk.keep hY2 hb2 | exact Blk.keep (box3' _ _ _ _).2.1 hb2)); (have hZ2 : ABox w2 (w.heap.size + 1 + 1) ⟨#[]⟩ ⟨#[]⟩ ⟨#[]⟩ 0 0 0 := (by first | exact Blk.keep hZ2 hb2 | exact Blk.keep (box3' _ _ _ _).2.2 hb2)); (try clear x0 x1 x2 x3 x4 x5 x6 y0 y1 y2 y3 y4 y5 y6); (try clear z0 z1 z2 z3 z4 z5 q0 q1 q2 q3 q4 q5); (obtain ⟨x0, x1, x2, x3, x4, x5, x6⟩ := hX2.facts; obtain ⟨y0, y1, y2, y3, y4, y5, y6⟩ := hY2.facts); (obtain ⟨z0, z1, z2, z3, z4, z5⟩ := hZ2.facts; have q0 := hZ2.free0 0; have q1 := hZ2.free0 1; have q2 := hZ2.free0 2; have q3 := hZ2.free0 3; have q4 := hZ2.free0 4; have q5 := hZ2.free0 5)))
    obtain ⟨p0, p1, p2, p3, p4, p5⟩ := (hZ2.put ⟨#[]⟩ ⟨#[]⟩ ⟨#[]⟩ 0 0 0).facts
    clear x0 x1 x2 x3 x4 x5 x6 y0 y1 y2 y3 y4 y5 y6 z0 z1 z2 z3 z4 z5 q0 q1 q2 q3 q4 q5
    exact bodyPost_ret (v := .tuple #[.bool false, .agg #[.string ⟨#[]⟩, .string ⟨#[]⟩, .string ⟨#[]⟩, .int .i64 0, .int .i64 0, .int .i64 0], .int .i64 1]) (by simp only [results, Tryz.results13]; simp [go_sem, p0, p1, p2, p3, p4, p5]) rfl ⟨rfl, below_put6 hbw (by omega) _ _ _ _ _ _⟩
set_option maxHeartbeats 4000000 in
theorem within_bad (a b : CondV) (ma mb : CondMem) (w : World) (hRa : CondReads w a ma) (hRb : CondReads w b mb) (hfa : CondFits a) (hfb : CondFits b) (hv : (validC a && validC b) = false) (hE : Env w) :
    Calls Tryz.prog 14 #[CondMem.val a ma, CondMem.val b mb] w (Ret w (.tuple #[.bool false, .int .i64 1])) := by
  have c1 := fun W (hb : Below w.heap.size w W) => imp_bad a b ma mb W (hRa.keep hb) (hRb.keep hb) hfa hfb hv (hE.keep hb)
  obtain ⟨fa, ta, pa, cla, coa, sia, ua⟩ := a
  obtain ⟨fb, tb, pb, clb, cob, sib, ub⟩ := b
  obtain ⟨A, ca, B, cb, S, cs⟩ := ma
  obtain ⟨A', ca', B', cb', S', cs'⟩ := mb
  unfold CondMem.val noAskV at c1
  unfold CondMem.val
  dsimp only at c1 ⊢
  generalize cla.length = na at *
  generalize coa.length = nb at *
  generalize sia.length = ns at *
  generalize clb.length = na' at *
  generalize cob.length = nb' at *
  generalize sib.length = ns' at *
  have C1 := Lib.hid c1
  clear c1 hRa hRb hfa hfb hv hE
  go_enter Tryz.func14, Tryz.ntmps14
  go_wp2_with (go_at_call 13; refine (C1.out _ (by (repeat (first | exact .refl _ _ | assumption | refine .drew ?_ | refine balloc ?_ _ | refine bdrewN ?_ _ | refine .setCell ?_ (by simp <;> omega) _ | refine bstep ?_ (by assumption))))).mono ?_; rintro e w2 ⟨rfl, hb2⟩; (have hX2 : CBox w2 w.heap.size fa ta pa A na ca B nb cb S ns cs ua := Blk.keep (two_box _ _ _).1 hb2; have hY2 : CBox w2 (w.heap.size + 1) fb tb pb A' na' ca' B' nb' cb' S' ns' cs' ub := Blk.keep (two_box _ _ _).2 hb2; obtain ⟨x0, x1, x2, x3, x4, x5, x6⟩ := hX2.facts; obtain ⟨y0, y1, y2, y3, y4, y5, y6⟩ := hY2.facts; have hzX := Blk.lt hX2; have hzY := Blk.lt hY2))
  go_ret2
  exact ⟨rfl, by (repeat (first | exact .refl _ _ | assumption | refine .drew ?_ | refine balloc ?_ _ | refine bdrewN ?_ _ | refine .setCell ?_ (by simp <;> omega) _ | refine bstep ?_ (by assumption)))⟩
set_option maxHeartbeats 8000000 in
theorem meet_bad (a b : CondV) (ma mb : CondMem) (w : World) (hRa : CondReads w a ma) (hRb : CondReads w b mb) (hfa : CondFits a) (hfb : CondFits b) (hv : (validC a && validC b) = false) (hE : Env w) :
    Calls Tryz.prog 12 #[CondMem.val a ma, CondMem.val b mb] w (Ret w (.tuple #[zeroV, .int .i64 1])) := by
  have c1 := fun W (hb : Below w.heap.size w W) => condValid_any a ma W (hRa.keep hb) hfa.p hfa.cl hfa.co hfa.n1 hfa.n2 hfa.n3 (hE.keep hb)
  have c2 := fun W (hb : Below w.heap.size w W) => condValid_any b mb W (hRb.keep hb) hfb.p hfb.cl hfb.co hfb.n1 hfb.n2 hfb.n3 (hE.keep hb)
  generalize validC a = va at *
  generalize validC b = vb at *
  obtain ⟨fa, ta, pa, cla, coa, sia, ua⟩ := a
  obtain ⟨fb, tb, pb, clb, cob, sib, ub⟩ := b
  obtain ⟨A, ca, B, cb, S, cs⟩ := ma
  obtain ⟨A', ca', B', cb', S', cs'⟩ := mb
  unfold CondMem.val at c1 c2 ⊢
  unfold zeroV
  dsimp only at c1 c2 ⊢
  generalize cla.length = na at *
  generalize coa.length = nb at *
  generalize sia.length = ns at *
  generalize clb.length = na' at *
  generalize cob.length = nb' at *
  generalize sib.length = ns' at *
  have C1 := Lib.hid c1; have C2 := Lib.hid c2
  clear c1 c2 hRa hRb hfa hfb hE
  have hvv : va = false ∨ (va = true ∧ vb = false) := by revert hv; cases va <;> cases vb <;> simp
  clear hv
  rcases hvv with rfl | ⟨rfl, rfl⟩
  all_goals
    go_enter Tryz.func12, Tryz.ntmps12
    go_wp2_with (first | (go_at_call 19; refine (C1.out _ (by (repeat (first | exact .refl _ _ | assumption | refine .drew ?_ | refine balloc ?_ _ | refine bdrewN ?_ _ | refine .setCell ?_ (by simp <;> omega) _ | refine bstep ?_ (by assumption))))).mono ?_; rintro e w2 ⟨rfl, hb2⟩; have hbw : Below w.heap.size w w2 := (by (repeat (first | exact .refl _ _ | assumption | refine .drew ?_ | refine balloc ?_ _ | refine bdrewN ?_ _ | refine .setCell ?_ (by simp <;> omega) _ | refine bstep ?_ (by assumption)))); clear C1; (have hX2 : CBox w2 w.heap.size fa ta pa A na ca B nb cb S ns cs ua := (by first | exact Blk.keep hX2 hb2 | exact Blk.keep (box3' _ _ _ _).1 hb2)); (have hY2 : CBox w2 (w.heap.size + 1) fb tb pb A' na' ca' B' nb' cb' S' ns' cs' ub := (by first | exact Blk.keep hY2 hb2 | exact Blk.keep (box3' _ _ _ _).2.1 hb2)); (have hZ2 : CBox w2 (w.heap.size + 1 + 1) 0 0 ⟨#[]⟩ none 0 0 none 0 0 none 0 0 0 := (by first | exact Blk.keep hZ2 hb2 | exact Blk.keep (box3' _ _ _ _).2.2 hb2)); (try clear x0 x1 x2 x3 x4 x5 x6 y0 y1 y2 y3 y4 y5 y6); (try clear z0 z1 z2 z3 z4 z5 z6 q0 q1 q2 q3 q4 q5 q6); (obtain ⟨x0, x1, x2, x3, x4, x5, x6⟩ := hX2.facts; obtain ⟨y0, y1, y2, y3, y4, y5, y6⟩ := hY2.facts); (obtain ⟨z0, z1, z2, z3, z4, z5, z6⟩ := hZ2.facts; have q0 := Blk.free0 hZ2 0; have q1 := Blk.free0 hZ2 1; have q2 := Blk.free0 hZ2 2; have q3 := Blk.free0 hZ2 3; have q4 := Blk.free0 hZ2 4; have q5 := Blk.free0 hZ2 5; have q6 := Blk.free0 hZ2 6)) | (go_at_call 19; refine (C2.out _ hbw).mono ?_; rintro e w2 ⟨rfl, hb2⟩; replace hbw := bstep hbw hb2; clear C2; (have hX2 : CBox w2 w.heap.size fa ta pa A na ca B nb cb S ns cs ua := (by first | exact Blk.keep hX2 hb2 | exact Blk.keep (box3' _ _ _ _).1 hb2)); (have hY2 : CBox w2 (w.heap.size + 1) fb tb pb A' na' ca' B' nb' cb' S' ns' cs' ub := (by first | exact Blk.keep hY2 hb2 | exact Blk.keep (box3' _ _ _ _).2.1 hb2)); (have hZ2 : CBox w2 (w.heap.size + 1 + 1) 0 0 ⟨#[]⟩ none 0 0 none 0 0 none 0 0 0 := (by first | exact Blk.keep hZ2 hb2 | exact Blk.keep (box3' _ _ _ _).2.2 hb2)); (try clear x0 x1 x2 x3 x4 x5 x6 y0 y1 y2 y3 y4 y5 y6); (try clear z0 z1 z2 z3 z4 z5 z6 q0 q1 q2 q3 q4 q5 q6); (obtain ⟨x0, x1, x2, x3, x4, x5, x6⟩ := hX2.facts; obtain ⟨y0, y1, y2, y3, y4, y5, y6⟩ := hY2.facts); (obtain ⟨z0, z1, z2, z3, z4, z5, z6⟩ := hZ2.facts; have q0 := Blk.free0 hZ2 0; have q1 := Blk.free0 hZ2 1; have q2 := Blk.free0 hZ2 2; have q3 := Blk.free0 hZ2 3; have q4 := Blk.free0 hZ2 4; have q5 := Blk.free0 hZ2 5; have q6 := Blk.free0 hZ2 6)))
    obtain ⟨p0, p1, p2, p3, p4, p5, p6⟩ := (hZ2.put 0 0 ⟨#[]⟩ none 0 0 none 0 0 none 0 0 0).facts
    clear x0 x1 x2 x3 x4 x5 x6 y0 y1 y2 y3 y4 y5 y6 z0 z1 z2 z3 z4 z5 z6 q0 q1 q2 q3 q4 q5 q6
    exact bodyPost_ret (v := .tuple #[.agg #[.int .i64 0, .int .i64 0, .string ⟨#[]⟩, .slice none 0 0, .slice none 0 0, .slice none 0 0, .int .i64 0], .int .i64 1]) (by simp only [results, Tryz.results12]; simp [go_sem, p0, p1, p2, p3, p4, p5, p6]) rfl ⟨rfl, below_put7 hbw (by omega) _ _ _ _ _ _ _⟩
end Go.Proofs.YtocgkpdolgnbgaaGreatDoor
