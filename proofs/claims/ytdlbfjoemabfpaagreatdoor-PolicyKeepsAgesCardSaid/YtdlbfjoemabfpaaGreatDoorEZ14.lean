/- What the cond package's Holds returns. -/
import Derived.Test.YtdlbfjoemabfpaaGreatDoorEZ12
import Derived.Test.YtdlbfjoemabfpaaGreatDoorEZ13
import Derived.Test.YtdlbfjoemabfpaaGreatDoorProg
import Derived.WalkKit
import Derived.WalkSpells
import Derived.WalkLawsBesides
import Derived.Below
import Derived.Deep.QuietTactic
import Derived.BigQuiet
import Derived.Lib.QuietBelow
import Derived.Lib.Strings
import Derived.Lib.Hide
import Derived.Deep.RegionWith
import Derived.Deep.RegionHeld3
import Derived.Lib.IndexBytes
import Derived.Test.YtdlbfjoemabfpaaGreatDoorEZ9
import Derived.Test.YtdlbfjoemabfpaaGreatDoorEZ0
import Derived.Laws.Rows
import Derived.Laws.Tables
import Derived.Laws.CopyOwn
import Derived.Maps.Own
import Derived.Maps.OwnOps
namespace Go.Proofs.YtdlbfjoemabfpaaGreatDoor
open Go.RowKit Go.Sort
set_option linter.unusedVariables false
set_option linter.unusedSimpArgs false
set_option maxRecDepth 100000
structure CondFits (c : CondV) : Prop where
  p : c.pat.size ≤ 100000
  cl : ∀ x ∈ c.cl, x.size ≤ 100000
  co : ∀ x ∈ c.co, x.size ≤ 100000
  n1 : c.cl.length ≤ 1000000
  n2 : c.co.length ≤ 1000000
  n3 : c.si.length ≤ 1000000
structure AskFits (a : AskV) : Prop where
  p : a.addr.size ≤ 100000
  cl : a.client.size ≤ 100000
  co : a.country.size ≤ 100000
def ABox (w : World) (g : Nat) (ad cl co : ByteArray) (si lo hi : Int) : Prop := Blk w g 66 #[.string ad, .string cl, .string co, .int .i64 si, .int .i64 lo, .int .i64 hi] (0, 0)
theorem ABox.facts {w : World} {g : Nat} {ad cl co : ByteArray} {si lo hi : Int} (h : ABox w g ad cl co si lo hi) :
    w.cell? ⟨g, 0, none⟩ = some (.string ad) ∧ w.cell? ⟨g, 1, none⟩ = some (.string cl) ∧ w.cell? ⟨g, 2, none⟩ = some (.string co) ∧ w.cell? ⟨g, 3, none⟩ = some (.int .i64 si) ∧ w.cell? ⟨g, 4, none⟩ = some (.int .i64 lo) ∧ w.cell? ⟨g, 5, none⟩ = some (.int .i64 hi) :=
  ⟨Blk.cell h 0, Blk.cell h 1, Blk.cell h 2, Blk.cell h 3, Blk.cell h 4, Blk.cell h 5⟩
theorem two_box (w : World) (o1 o2 : Obj) : ((w.alloc o1).alloc o2).heap[w.heap.size]? = some o1 ∧ ((w.alloc o1).alloc o2).heap[w.heap.size + 1]? = some o2 := by
  refine ⟨(Below.heap_alloc _ _ _ (by simp)).trans (World.alloc_heap_new _ _), ?_⟩
  have := World.alloc_heap_new (w.alloc o1) o2
  rwa [World.size_alloc] at this
set_option maxHeartbeats 8000000 in
theorem holds_any (c : CondV) (m : CondMem) (a : AskV) (w : World) (hR : CondReads w c m) (hc : CondFits c) (ha : AskFits a) (hE : Env w) :
    Calls Tryz.prog 82 #[CondMem.val c m, AskV.val a] w (Ret w (.bool (holdsC c a))) := by
  have c1 := fun W (hb : Below w.heap.size w W) => condValid_any c m W (hR.keep hb) hc.p hc.cl hc.co hc.n1 hc.n2 hc.n3 (hE.keep hb)
  have c2 := fun W h => validAsk_any a W ha.p ha.cl ha.co h
  obtain ⟨V, hV⟩ : ∃ V, V = holdsC c a := ⟨_, rfl⟩
  rw [← hV]
  unfold holdsC at hV
  generalize validC c = v1 at *
  generalize validAsk a = v2 at *
  obtain ⟨fr, till, pat, cl, co, si, us⟩ := c
  obtain ⟨A, ca, B, cb, S, cs⟩ := m
  obtain ⟨ad, kl, ko, st, lo, hi⟩ := a
  obtain ⟨hA, hB, hS⟩ := hR
  obtain ⟨h1, h2, h3, n1, n2, n3⟩ := hc
  obtain ⟨g1, g2, g3⟩ := ha
  unfold CondMem.val at c1
  unfold AskV.val at c2
  unfold CondMem.val AskV.val
  dsimp only at hA hB hS h1 h2 h3 n1 n2 n3 g1 g2 g3 hV c1 c2
  dsimp only
  have c3 := fun W => condPattern_any fr till us pat A B S cl.length ca co.length cb si.length cs W
  have hpt : (if pat.size = 0 then (⟨#[42, 47, 42, 42]⟩ : ByteArray) else pat) = patT pat := rfl
  rw [hpt] at c3
  have hps : (patT pat).size ≤ 100000 := by unfold patT; split; exact (by decide); exact h1
  have c4 := fun W h => match_any (patT pat) ad W hps g1 h
  have c5 := fun W (hb : Below w.heap.size w W) => allowsS_any A cl.length ca cl kl W (hA.keep hb) (by omega)
  have c6 := fun W (hb : Below w.heap.size w W) => allowsS_any B co.length cb co ko W (hB.keep hb) (by omega)
  have c7 := fun W (hb : Below w.heap.size w W) => allowsI_any S si.length cs si st W (hS.keep hb) (by omega)
  generalize patT pat = pt at *
  generalize matchB pt ad = v4 at *
  generalize allowsL cl kl = v5 at *
  generalize allowsL co ko = v6 at *
  generalize allowsL si st = v7 at *
  obtain ⟨W0, hW0⟩ : ∃ W0, W0 = (w.alloc (.cells #[.int .i64 fr, .int .i64 till, .string pat, .slice A cl.length ca, .slice B co.length cb, .slice S si.length cs, .int .i64 us] 31)).alloc (.cells #[.string ad, .string kl, .string ko, .int .i64 st, .int .i64 lo, .int .i64 hi] 66) := ⟨_, rfl⟩
  have hb0 : Below w.heap.size w W0 := by rw [hW0]; exact balloc (balloc (Below.refl _ _) _) _
  have hX : CBox W0 w.heap.size fr till pat A cl.length ca B co.length cb S si.length cs us := by rw [hW0]; exact (two_box _ _ _).1
  have hY : ABox W0 (w.heap.size + 1) ad kl ko st lo hi := by rw [hW0]; exact (two_box _ _ _).2
  obtain ⟨x0, x1, x2, x3, x4, x5, x6⟩ := hX.facts
  obtain ⟨y0, y1, y2, y3, y4, y5⟩ := hY.facts
  have r0 := cell_regrown x0; have r1 := cell_regrown x1; have r2 := cell_regrown x2; have r3 := cell_regrown x3; have r4 := cell_regrown x4; have r5 := cell_regrown x5; have r6 := cell_regrown x6
  have q0 := cell_regrown y0; have q1 := cell_regrown y1; have q2 := cell_regrown y2; have q3 := cell_regrown y3; have q4 := cell_regrown y4; have q5 := cell_regrown y5
  replace c1 := fun W (hb : Below W0.heap.size W0 W) => c1 W (bstep hb0 hb)
  replace c2 := fun W (hb : Below W0.heap.size W0 W) => c2 W (hE.keep (bstep hb0 hb))
  replace c3 := fun W (_ : Below W0.heap.size W0 W) => c3 W
  replace c4 := fun W (hb : Below W0.heap.size W0 W) => c4 W (hE.keep (bstep hb0 hb))
  replace c5 := fun W (hb : Below W0.heap.size W0 W) => c5 W (bstep hb0 hb)
  replace c6 := fun W (hb : Below W0.heap.size W0 W) => c6 W (bstep hb0 hb)
  replace c7 := fun W (hb : Below W0.heap.size W0 W) => c7 W (bstep hb0 hb)
  have HW := Lib.hid hW0; have HB0 := Lib.hid hb0
  clear hW0 hb0 hX hY
  have C1 := Lib.hid c1; have C2 := Lib.hid c2; have C3 := Lib.hid c3; have C4 := Lib.hid c4; have C5 := Lib.hid c5; have C6 := Lib.hid c6; have C7 := Lib.hid c7
  clear c1 c2 c3 c4 c5 c6 c7 hE hA hB hS h1 h2 h3 n1 n2 n3 g1 g2 g3 hps hpt
  cases v1
  · obtain rfl : V = false := by rw [hV]; simp
    clear hV
    (go_enter Tryz.func82, Tryz.ntmps82; go_wp2_with fail; rw [← HW.out]; refine wp_region_quiet_below (by kernel_rfl) (by kernel_rfl) ?_; (repeat (any_goals (first | go_big_quiet_step ((first | (with_reducible exact qcalls2 C1.out _ _) | (with_reducible exact qcalls2 C2.out _ _) | (with_reducible exact qcalls2 C3.out _ _) | (with_reducible exact qcalls2 C4.out _ _) | (with_reducible exact qcalls2 C5.out _ _) | (with_reducible exact qcalls2 C6.out _ _) | (with_reducible exact qcalls2 C7.out _ _))) | quiet_step ((first | (with_reducible exact qcalls2 C1.out _ _) | (with_reducible exact qcalls2 C2.out _ _) | (with_reducible exact qcalls2 C3.out _ _) | (with_reducible exact qcalls2 C4.out _ _) | (with_reducible exact qcalls2 C5.out _ _) | (with_reducible exact qcalls2 C6.out _ _) | (with_reducible exact qcalls2 C7.out _ _)))))); refine wpQuiet_nil ?_; intro _ hwq; obtain ⟨⟨dq, osq⟩, hwq⟩ := hwq; subst hwq; have hbq := below_regrown (W0) dq osq; generalize grow (redrawn (W0) dq) osq = wq at *; go_wp2; go_ret; exact ⟨rfl, bstep HB0.out hbq⟩)
  cases v2
  · obtain rfl : V = false := by rw [hV]; simp
    clear hV
    (go_enter Tryz.func82, Tryz.ntmps82; go_wp2_with fail; rw [← HW.out]; refine wp_region_quiet_below (by kernel_rfl) (by kernel_rfl) ?_; (repeat (any_goals (first | go_big_quiet_step ((first | (with_reducible exact qcalls2 C1.out _ _) | (with_reducible exact qcalls2 C2.out _ _) | (with_reducible exact qcalls2 C3.out _ _) | (with_reducible exact qcalls2 C4.out _ _) | (with_reducible exact qcalls2 C5.out _ _) | (with_reducible exact qcalls2 C6.out _ _) | (with_reducible exact qcalls2 C7.out _ _))) | quiet_step ((first | (with_reducible exact qcalls2 C1.out _ _) | (with_reducible exact qcalls2 C2.out _ _) | (with_reducible exact qcalls2 C3.out _ _) | (with_reducible exact qcalls2 C4.out _ _) | (with_reducible exact qcalls2 C5.out _ _) | (with_reducible exact qcalls2 C6.out _ _) | (with_reducible exact qcalls2 C7.out _ _)))))); refine wpQuiet_nil ?_; intro _ hwq; obtain ⟨⟨dq, osq⟩, hwq⟩ := hwq; subst hwq; have hbq := below_regrown (W0) dq osq; generalize grow (redrawn (W0) dq) osq = wq at *; go_wp2; go_ret; exact ⟨rfl, bstep HB0.out hbq⟩)
  by_cases t1 : fr ≤ lo
  rotate_left
  · obtain rfl : V = false := by rw [hV]; simp [t1]
    have d1 : decide (fr ≤ lo) = false := decide_eq_false t1
    clear hV
    (go_enter Tryz.func82, Tryz.ntmps82; go_wp2_with fail; rw [← HW.out]; refine wp_region_quiet_below (by kernel_rfl) (by kernel_rfl) ?_; (repeat (any_goals (first | go_big_quiet_step ((first | (with_reducible exact qcalls2 C1.out _ _) | (with_reducible exact qcalls2 C2.out _ _) | (with_reducible exact qcalls2 C3.out _ _) | (with_reducible exact qcalls2 C4.out _ _) | (with_reducible exact qcalls2 C5.out _ _) | (with_reducible exact qcalls2 C6.out _ _) | (with_reducible exact qcalls2 C7.out _ _))) | quiet_step ((first | (with_reducible exact qcalls2 C1.out _ _) | (with_reducible exact qcalls2 C2.out _ _) | (with_reducible exact qcalls2 C3.out _ _) | (with_reducible exact qcalls2 C4.out _ _) | (with_reducible exact qcalls2 C5.out _ _) | (with_reducible exact qcalls2 C6.out _ _) | (with_reducible exact qcalls2 C7.out _ _)))))); refine wpQuiet_nil ?_; intro _ hwq; obtain ⟨⟨dq, osq⟩, hwq⟩ := hwq; subst hwq; have hbq := below_regrown (W0) dq osq; generalize grow (redrawn (W0) dq) osq = wq at *; go_wp2; go_ret; exact ⟨rfl, bstep HB0.out hbq⟩)
  have d1 : decide (fr ≤ lo) = true := decide_eq_true t1
  by_cases t2 : hi < till
  rotate_left
  · obtain rfl : V = false := by rw [hV]; simp [t2]
    have d2 : decide (hi < till) = false := decide_eq_false t2
    clear hV
    (go_enter Tryz.func82, Tryz.ntmps82; go_wp2_with fail; rw [← HW.out]; refine wp_region_quiet_below (by kernel_rfl) (by kernel_rfl) ?_; (repeat (any_goals (first | go_big_quiet_step ((first | (with_reducible exact qcalls2 C1.out _ _) | (with_reducible exact qcalls2 C2.out _ _) | (with_reducible exact qcalls2 C3.out _ _) | (with_reducible exact qcalls2 C4.out _ _) | (with_reducible exact qcalls2 C5.out _ _) | (with_reducible exact qcalls2 C6.out _ _) | (with_reducible exact qcalls2 C7.out _ _))) | quiet_step ((first | (with_reducible exact qcalls2 C1.out _ _) | (with_reducible exact qcalls2 C2.out _ _) | (with_reducible exact qcalls2 C3.out _ _) | (with_reducible exact qcalls2 C4.out _ _) | (with_reducible exact qcalls2 C5.out _ _) | (with_reducible exact qcalls2 C6.out _ _) | (with_reducible exact qcalls2 C7.out _ _)))))); refine wpQuiet_nil ?_; intro _ hwq; obtain ⟨⟨dq, osq⟩, hwq⟩ := hwq; subst hwq; have hbq := below_regrown (W0) dq osq; generalize grow (redrawn (W0) dq) osq = wq at *; go_wp2; go_ret; exact ⟨rfl, bstep HB0.out hbq⟩)
  have d2 : decide (hi < till) = true := decide_eq_true t2
  have hV2 : V = (v4 && v5 && v6 && v7) := by rw [hV]; simp [t1, t2]
  clear hV
  cases v4
  · obtain rfl : V = false := by rw [hV2]; simp
    clear hV2
    (go_enter Tryz.func82, Tryz.ntmps82; go_wp2_with fail; rw [← HW.out]; refine wp_region_quiet_below (by kernel_rfl) (by kernel_rfl) ?_; (repeat (any_goals (first | go_big_quiet_step ((first | (with_reducible exact qcalls2 C1.out _ _) | (with_reducible exact qcalls2 C2.out _ _) | (with_reducible exact qcalls2 C3.out _ _) | (with_reducible exact qcalls2 C4.out _ _) | (with_reducible exact qcalls2 C5.out _ _) | (with_reducible exact qcalls2 C6.out _ _) | (with_reducible exact qcalls2 C7.out _ _))) | quiet_step ((first | (with_reducible exact qcalls2 C1.out _ _) | (with_reducible exact qcalls2 C2.out _ _) | (with_reducible exact qcalls2 C3.out _ _) | (with_reducible exact qcalls2 C4.out _ _) | (with_reducible exact qcalls2 C5.out _ _) | (with_reducible exact qcalls2 C6.out _ _) | (with_reducible exact qcalls2 C7.out _ _)))))); refine wpQuiet_nil ?_; intro _ hwq; obtain ⟨⟨dq, osq⟩, hwq⟩ := hwq; subst hwq; have hbq := below_regrown (W0) dq osq; generalize grow (redrawn (W0) dq) osq = wq at *; go_wp2; go_ret; exact ⟨rfl, bstep HB0.out hbq⟩)
  cases v5
  · obtain rfl : V = false := by rw [hV2]; simp
    clear hV2
    (go_enter Tryz.func82, Tryz.ntmps82; go_wp2_with fail; rw [← HW.out]; refine wp_region_quiet_below (by kernel_rfl) (by kernel_rfl) ?_; (repeat (any_goals (first | go_big_quiet_step ((first | (with_reducible exact qcalls2 C1.out _ _) | (with_reducible exact qcalls2 C2.out _ _) | (with_reducible exact qcalls2 C3.out _ _) | (with_reducible exact qcalls2 C4.out _ _) | (with_reducible exact qcalls2 C5.out _ _) | (with_reducible exact qcalls2 C6.out _ _) | (with_reducible exact qcalls2 C7.out _ _))) | quiet_step ((first | (with_reducible exact qcalls2 C1.out _ _) | (with_reducible exact qcalls2 C2.out _ _) | (with_reducible exact qcalls2 C3.out _ _) | (with_reducible exact qcalls2 C4.out _ _) | (with_reducible exact qcalls2 C5.out _ _) | (with_reducible exact qcalls2 C6.out _ _) | (with_reducible exact qcalls2 C7.out _ _)))))); refine wpQuiet_nil ?_; intro _ hwq; obtain ⟨⟨dq, osq⟩, hwq⟩ := hwq; subst hwq; have hbq := below_regrown (W0) dq osq; generalize grow (redrawn (W0) dq) osq = wq at *; go_wp2; go_ret; exact ⟨rfl, bstep HB0.out hbq⟩)
  cases v6
  · obtain rfl : V = false := by rw [hV2]; simp
    clear hV2
    (go_enter Tryz.func82, Tryz.ntmps82; go_wp2_with fail; rw [← HW.out]; refine wp_region_quiet_below (by kernel_rfl) (by kernel_rfl) ?_; (repeat (any_goals (first | go_big_quiet_step ((first | (with_reducible exact qcalls2 C1.out _ _) | (with_reducible exact qcalls2 C2.out _ _) | (with_reducible exact qcalls2 C3.out _ _) | (with_reducible exact qcalls2 C4.out _ _) | (with_reducible exact qcalls2 C5.out _ _) | (with_reducible exact qcalls2 C6.out _ _) | (with_reducible exact qcalls2 C7.out _ _))) | quiet_step ((first | (with_reducible exact qcalls2 C1.out _ _) | (with_reducible exact qcalls2 C2.out _ _) | (with_reducible exact qcalls2 C3.out _ _) | (with_reducible exact qcalls2 C4.out _ _) | (with_reducible exact qcalls2 C5.out _ _) | (with_reducible exact qcalls2 C6.out _ _) | (with_reducible exact qcalls2 C7.out _ _)))))); refine wpQuiet_nil ?_; intro _ hwq; obtain ⟨⟨dq, osq⟩, hwq⟩ := hwq; subst hwq; have hbq := below_regrown (W0) dq osq; generalize grow (redrawn (W0) dq) osq = wq at *; go_wp2; go_ret; exact ⟨rfl, bstep HB0.out hbq⟩)
  obtain rfl : V = v7 := by rw [hV2]; simp
  clear hV2
  (go_enter Tryz.func82, Tryz.ntmps82; go_wp2_with fail; rw [← HW.out]; refine wp_region_quiet_below (by kernel_rfl) (by kernel_rfl) ?_; (repeat (any_goals (first | go_big_quiet_step ((first | (with_reducible exact qcalls2 C1.out _ _) | (with_reducible exact qcalls2 C2.out _ _) | (with_reducible exact qcalls2 C3.out _ _) | (with_reducible exact qcalls2 C4.out _ _) | (with_reducible exact qcalls2 C5.out _ _) | (with_reducible exact qcalls2 C6.out _ _) | (with_reducible exact qcalls2 C7.out _ _))) | quiet_step ((first | (with_reducible exact qcalls2 C1.out _ _) | (with_reducible exact qcalls2 C2.out _ _) | (with_reducible exact qcalls2 C3.out _ _) | (with_reducible exact qcalls2 C4.out _ _) | (with_reducible exact qcalls2 C5.out _ _) | (with_reducible exact qcalls2 C6.out _ _) | (with_reducible exact qcalls2 C7.out _ _)))))); refine wpQuiet_nil ?_; intro _ hwq; obtain ⟨⟨dq, osq⟩, hwq⟩ := hwq; subst hwq; have hbq := below_regrown (W0) dq osq; generalize grow (redrawn (W0) dq) osq = wq at *; go_wp2; go_ret; exact ⟨rfl, bstep HB0.out hbq⟩)
end Go.Proofs.YtdlbfjoemabfpaaGreatDoor
namespace Go.Proofs.YtdlbfjoemabfpaaGreatDoor
open Go.RowKit Go.Sort
set_option linter.unusedVariables false
set_option linter.unusedSimpArgs false
set_option maxRecDepth 100000
def namesA (l : List ByteArray) : Bool := (List.range l.length).all (okK ltB isNameB l)
def spanB (n : Int) : Bool := decide (0 ≤ n) && decide (n ≤ 1099511627776)
def validR (r : RuleV) : Bool :=
  isNameB r.name && (compileB r.pat).isSome && namesA r.tags && validC r.allow && spanB r.fresh && spanB r.stale && spanB r.down && spanB r.neg && decide (r.vary.length ≤ 8) && decide (0 ≤ r.cost) && decide (r.cost ≤ 1073741824) && decide (r.prog.size ≤ 64)
def olderR (r : RuleV) (state : Int) : Int := if state = 1 then r.stale else if state = 2 then r.down else 0
def maxAgeR (r : RuleV) (status state : Int) : Int := if status = 200 then min (r.fresh + olderR r state) 1099511627776 else r.neg
def youngR (r : RuleV) (status lo hi state : Int) : Bool := decide (hi < lo + maxAgeR r status state + 1)
def untilR (r : RuleV) (status lo state : Int) : Int := min 1099511627776 (lo + maxAgeR r status state)
def usableR (r : RuleV) (status lo hi state purge : Int) : Bool := (decide (purge = 0) || (decide (purge = 1) && !decide (state = 0))) && youngR r status lo hi state
structure VaryFits (v : VaryV) : Prop where
  h : v.header.size ≤ 200
  d : v.dflt.size ≤ 200
  n : v.values.length ≤ 10
  x : ∀ s ∈ v.values, s.size ≤ 200
structure RuleFits (r : RuleV) : Prop where
  name : r.name.size ≤ 200
  pat : r.pat.size ≤ 200
  prog : r.prog.size ≤ 200
  nt : r.tags.length ≤ 10
  t : ∀ s ∈ r.tags, s.size ≤ 200
  nv : r.vary.length ≤ 10
  v : ∀ y ∈ r.vary, VaryFits y
  c : CondFits r.allow
structure RuleOk (r : RuleV) : Prop where
  name : isNameB r.name = true
  pat : (compileB r.pat).isSome = true
  tags : namesA r.tags = true
  allow : validC r.allow = true
  f0 : 0 ≤ r.fresh
  f1 : r.fresh ≤ 1099511627776
  s0 : 0 ≤ r.stale
  s1 : r.stale ≤ 1099511627776
  d0 : 0 ≤ r.down
  d1 : r.down ≤ 1099511627776
  n0 : 0 ≤ r.neg
  n1 : r.neg ≤ 1099511627776
  vary : r.vary.length ≤ 8
  c0 : 0 ≤ r.cost
  c1 : r.cost ≤ 1073741824
  prog : r.prog.size ≤ 64
theorem rule_ok {r : RuleV} (h : validR r = true) : RuleOk r := by
  unfold validR spanB at h
  simp only [Bool.and_eq_true, decide_eq_true_eq] at h
  obtain ⟨⟨⟨⟨⟨⟨⟨⟨⟨⟨⟨h1, h2⟩, h3⟩, h4⟩, h5, h6⟩, h7, h8⟩, h9, h10⟩, h11, h12⟩, h13⟩, h14⟩, h15⟩, h16⟩ := h
  exact ⟨h1, h2, h3, h4, h5, h6, h7, h8, h9, h10, h11, h12, h13, h14, h15, h16⟩
theorem older_bounds {r : RuleV} (h : RuleOk r) (state : Int) : 0 ≤ olderR r state ∧ olderR r state ≤ 1099511627776 := by
  obtain ⟨_, _, _, _, f0, f1, s0, s1, d0, d1, n0, n1, _, _, _, _⟩ := h
  unfold olderR; split
  · exact ⟨s0, s1⟩
  · split
    · exact ⟨d0, d1⟩
    · omega
theorem maxAge_bounds {r : RuleV} (h : RuleOk r) (status state : Int) : 0 ≤ maxAgeR r status state ∧ maxAgeR r status state ≤ 1099511627776 := by
  have ho := older_bounds h state
  obtain ⟨_, _, _, _, f0, f1, s0, s1, d0, d1, n0, n1, _, _, _, _⟩ := h
  unfold maxAgeR; split
  · omega
  · exact ⟨n0, n1⟩
structure D16 where
  (a0 a1 a2 a3 a4 a5 a6 a7 a8 a9 a10 a11 a12 a13 a14 a15 : Int)
structure StampV where
  addr : ByteArray
  variant : ByteArray
  status : Int
  size : Int
  body : D16
  tags : ByteArray
  lo : Int
  hi : Int
  gate : Int
  serial : Int
  seal_ : D16
def StampV.cells (s : StampV) : List Value := [.string s.addr, .string s.variant, .int .i64 s.status, .int .i64 s.size,
  .int .u8 s.body.a0, .int .u8 s.body.a1, .int .u8 s.body.a2, .int .u8 s.body.a3, .int .u8 s.body.a4, .int .u8 s.body.a5, .int .u8 s.body.a6, .int .u8 s.body.a7, .int .u8 s.body.a8, .int .u8 s.body.a9, .int .u8 s.body.a10, .int .u8 s.body.a11, .int .u8 s.body.a12, .int .u8 s.body.a13, .int .u8 s.body.a14, .int .u8 s.body.a15,
  .string s.tags, .int .i64 s.lo, .int .i64 s.hi, .int .i64 s.gate, .int .i64 s.serial,
  .int .u8 s.seal_.a0, .int .u8 s.seal_.a1, .int .u8 s.seal_.a2, .int .u8 s.seal_.a3, .int .u8 s.seal_.a4, .int .u8 s.seal_.a5, .int .u8 s.seal_.a6, .int .u8 s.seal_.a7, .int .u8 s.seal_.a8, .int .u8 s.seal_.a9, .int .u8 s.seal_.a10, .int .u8 s.seal_.a11, .int .u8 s.seal_.a12, .int .u8 s.seal_.a13, .int .u8 s.seal_.a14, .int .u8 s.seal_.a15]
def StampV.val (s : StampV) : Value := .agg s.cells.toArray
end Go.Proofs.YtdlbfjoemabfpaaGreatDoor
namespace Go.Proofs.YtdlbfjoemabfpaaGreatDoor
open Go.RowKit Go.Sort
set_option linter.unusedVariables false
set_option linter.unusedSimpArgs false
set_option maxRecDepth 100000
def txtCells (s : ByteArray) : List Value := s.data.toList.map fun b => Value.int .u8 b.toNat
theorem txtCells_len (s : ByteArray) : (txtCells s).length = s.size := by
  unfold txtCells
  rw [List.length_map, Array.length_toList]
  rfl
section
variable {P : Program}
theorem run_loadVar_at (w : World) (g o : Nat) (t ty : TypeId) (cur cs : List Value) (fr : Nat × Nat) (d : TypeDesc) (hg : w.heap[g]? = some (.cells cur.toArray t fr)) (hcs : ∀ j v, cs[j]? = some v → cur[o + j]? = some v)
    (hu : P.underlying ty = some d) (hd : (match d with | .struct _ | .array _ _ => true | _ => false) = true) (hi : (P.info? ty).map (·.size) = some cs.length) :
    (loadVar ty ⟨g, o, none⟩).run P w = .ok (.agg cs.toArray) w := by
  have hl : (loadCells ⟨g, o, none⟩ cs.length).run P w = .ok cs.toArray w :=
    run_loadCells_list (P := P) w ⟨g, o, none⟩ cs (fun j v hv => by
      have hadd : (⟨g, o, none⟩ : Addr).add j = ⟨g, o + j, none⟩ := by unfold Addr.add; split <;> simp_all
      rw [hadd, cell_of_row w g (o + j) cur.toArray t fr hg]
      simpa using hcs j v hv)
  cases hq : P.info? ty with
  | none => simp [hq] at hi
  | some i =>
    have hs : i.size = cs.length := by simpa [hq] using hi
    have hagg : (isAgg ty).run P w = .ok true w := by
      unfold isAgg
      rw [Sem.run_bind, run_underlying hu w]
      cases d <;> simp_all
    simp [loadVar, Sem.run_bind, hagg, sizeOf, typeInfo, hq, hs, hl]
theorem run_storeVar_at (w : World) (g o : Nat) (t ty : TypeId) (cur cs : List Value) (hg : w.heap[g]? = some (.cells cur.toArray t (0, 0))) (hi : (P.info? ty).map (·.size) = some cs.length)
    (hfit : o + cs.length ≤ cur.length) (h1 : ∀ v ∈ cs, v.oneCell' = true) :
    (storeVar ty ⟨g, o, none⟩ (.agg cs.toArray)).run P w = .ok () (w.setRow g (splice cur o cs).toArray) := by
  have := run_storeCells_at P g o t cs 0 cur.toArray w hg (by simpa using hfit) h1
  cases hq : P.info? ty with
  | none => simp [hq] at hi
  | some i =>
    have hs : i.size = cs.length := by simpa [hq] using hi
    simp [storeVar, sizeOf, typeInfo, hq, Value.cells, hs, this, splice]
theorem wp_load_at {o : Oper} {a : Act} {w : World} {K : Act → World → Prop} {Q : Exit → Act → World → Prop} (ty : TypeId) (x : Operand) (ho : o.op = .load ty x)
    (g off : Nat) (hx : a.eval x = .pointer (some ⟨g, off, none⟩)) (t : TypeId) (cur cs : List Value) (fr : Nat × Nat) (d : TypeDesc) (hg : w.heap[g]? = some (.cells cur.toArray t fr)) (hcs : ∀ j v, cs[j]? = some v → cur[off + j]? = some v)
    (hu : P.underlying ty = some d) (hd : (match d with | .struct _ | .array _ _ => true | _ => false) = true) (hi : (P.info? ty).map (·.size) = some cs.length)
    (h : K (a.put o.dst (.agg cs.toArray)) w) : o.wp P a w K Q := by
  unfold Oper.wp execOp
  simp only [ho, hx, Instr.loadAt, Instr.sureAddr, Sem.run_bind, Sem.run_pure, Result.andThen_ok, run_loadVar_at w g off t ty cur cs fr d hg hcs hu hd hi]
  exact h
theorem wpList_load_at {ops : Array Oper} {rest : List Oper} {o : Oper} {a : Act} {w : World} {Q : Exit → Act → World → Prop} (hgd : o.guard = none) (ty : TypeId) (x : Operand) (ho : o.op = .load ty x)
    (g off : Nat) (hx : a.eval x = .pointer (some ⟨g, off, none⟩)) (t : TypeId) (cur cs : List Value) (fr : Nat × Nat) (d : TypeDesc) (hg : w.heap[g]? = some (.cells cur.toArray t fr)) (hcs : ∀ j v, cs[j]? = some v → cur[off + j]? = some v)
    (hu : P.underlying ty = some d) (hd : (match d with | .struct _ | .array _ _ => true | _ => false) = true) (hi : (P.info? ty).map (·.size) = some cs.length)
    (h : wpList P ops Q rest (a.put o.dst (.agg cs.toArray)) w) : wpList P ops Q (o :: rest) a w :=
  wpList_plain hgd fun _ hK => wp_load_at ty x ho g off hx t cur cs fr d hg hcs hu hd hi (hK _ _ h)
theorem wp_store_at {o : Oper} {a : Act} {w : World} {K : Act → World → Prop} {Q : Exit → Act → World → Prop} (ty : TypeId) (x y : Operand) (ho : o.op = .store ty x y)
    (g off : Nat) (cs : List Value) (hx : a.eval x = .pointer (some ⟨g, off, none⟩)) (hy : a.eval y = .agg cs.toArray)
    (t : TypeId) (cur : List Value) (hg : w.heap[g]? = some (.cells cur.toArray t (0, 0))) (hi : (P.info? ty).map (·.size) = some cs.length)
    (hfit : off + cs.length ≤ cur.length) (h1 : ∀ v ∈ cs, v.oneCell' = true)
    (h : K (a.put o.dst undef) (w.setRow g (splice cur off cs).toArray)) : o.wp P a w K Q := by
  unfold Oper.wp execOp
  simp only [ho, hx, hy, Instr.storeAt, Instr.sureAddr, Sem.run_bind, Sem.run_pure, Result.andThen_ok, run_storeVar_at w g off t ty cur cs hg hi hfit h1]
  exact h
theorem wpList_store_at {ops : Array Oper} {rest : List Oper} {o : Oper} {a : Act} {w : World} {Q : Exit → Act → World → Prop} (hgd : o.guard = none) (ty : TypeId) (x y : Operand) (ho : o.op = .store ty x y)
    (g off : Nat) (cs : List Value) (hx : a.eval x = .pointer (some ⟨g, off, none⟩)) (hy : a.eval y = .agg cs.toArray)
    (t : TypeId) (cur : List Value) (hg : w.heap[g]? = some (.cells cur.toArray t (0, 0))) (hi : (P.info? ty).map (·.size) = some cs.length)
    (hfit : off + cs.length ≤ cur.length) (h1 : ∀ v ∈ cs, v.oneCell' = true)
    (h : wpList P ops Q rest (a.put o.dst undef) (w.setRow g (splice cur off cs).toArray)) : wpList P ops Q (o :: rest) a w :=
  wpList_plain hgd fun _ hK => wp_store_at ty x y ho g off cs hx hy t cur hg hi hfit h1 (hK _ _ h)
theorem run_copy_str (w : World) (dT sT ty elem : TypeId) (g o dLen dCap : Nat) (s : ByteArray) (cur : List Value) (t : TypeId) (cs : List Value)
    (hu : P.underlying dT = some (.slice elem)) (hs : (P.info? elem).map (·.size) = some 1)
    (hg : w.heap[g]? = some (.cells cur.toArray t (0, 0))) (hcs : cs = (txtCells s).take (Nat.min s.size dLen)) (hfit : o + cs.length ≤ cur.length) :
    (Builtin.copy_ #[dT, sT] ty #[.slice (some ⟨g, o, none⟩) dLen dCap, .string s]).run P w =
      .ok (goInt cs.length) (w.setRow g (splice cur o cs).toArray) := by
  have hl : ((s.extract 0 (Nat.min s.size dLen)).data.map fun b => Value.int .u8 b.toNat) = cs.toArray := by
    rw [hcs]
    apply Array.ext'
    simp [txtCells, ByteArray.data_extract]
  have hn : cs.length = Nat.min s.size dLen := by rw [hcs, List.length_take, txtCells_len]; exact Nat.min_eq_left (Nat.min_le_left _ _)
  have h1 : ∀ v ∈ cs, v.oneCell' = true := by
    intro v hv
    rw [hcs] at hv
    obtain ⟨_, _, rfl⟩ := List.mem_map.1 (List.mem_of_mem_take hv)
    rfl
  have hst := run_storeCells_at P g o t cs 0 cur.toArray w hg (by simpa using hfit) h1
  cases hq : P.info? elem with
  | none => simp [hq] at hs
  | some i =>
    have hi : i.size = 1 := by simpa [hq] using hs
    have hf : (Builtin.firstCells 1 (Nat.min s.size dLen) (.string s)).run P w = .ok cs.toArray w := by rw [← hl]; rfl
    rw [← hn] at hf
    simp [Builtin.copy_, run_underlying hu, Builtin.lenOf, sizeOf, typeInfo, hq, hi, hf, ← hn]
    simp at hst
    rw [hst]
    simp [splice]
theorem wpList_copy_str {w : World} {ops : Array Oper} {rest : List Oper} {o : Oper} {a : Act} {Q : Exit → Act → World → Prop} (hgd : o.guard = none) (d s : Operand) (dT sT : TypeId)
    (ho : o.op = .call { callee := .builtin .copy, args := #[d, s], argTypes := #[dT, sT] }) (elem : TypeId) (hu : P.underlying dT = some (.slice elem)) (hsz : (P.info? elem).map (·.size) = some 1)
    (g off dLen dCap : Nat) (x : ByteArray) (hd : a.eval d = .slice (some ⟨g, off, none⟩) dLen dCap) (hs : a.eval s = .string x)
    (cur : List Value) (t : TypeId) (hg : w.heap[g]? = some (.cells cur.toArray t (0, 0))) (cs : List Value) (hcs : cs = (txtCells x).take (Nat.min x.size dLen)) (hfit : off + cs.length ≤ cur.length) (q : Nat) (hq : cs.length = q)
    (h : wpList P ops Q rest (a.put o.dst (goInt q)) (w.setRow g (splice cur off cs).toArray)) : wpList P ops Q (o :: rest) a w := by
  subst hq
  refine wpList_plain hgd fun K hK => ?_
  have hrun := run_copy_str (P := P) w dT sT o.type elem g off dLen dCap x cur t cs hu hsz hg hcs hfit
  unfold Oper.wp
  simp [execOp, ho, resolve, invoke, builtin, hd, hs, hrun, Result.andThen]
  exact hK _ _ h
end
end Go.Proofs.YtdlbfjoemabfpaaGreatDoor
namespace Go.Proofs.YtdlbfjoemabfpaaGreatDoor
open Go.RowKit Go.Sort
set_option linter.unusedVariables false
set_option linter.unusedSimpArgs false
set_option maxRecDepth 100000
def w32 (l : List Nat) : List Value := l.map fun x : Nat => Value.int .u32 (x : Int)
theorem w32_len (l : List Nat) : (w32 l).length = l.length := by simp [w32]
def RowV (w : World) (g : Nat) (t : TypeId) (cs : List Value) : Prop := w.heap[g]? = some (.cells cs.toArray t (0, 0))
section
variable {w w' : World} {g : Nat} {t : TypeId} {cs : List Value}
theorem RowV.lt (h : RowV w g t cs) : g < w.heap.size := by
  rcases Nat.lt_or_ge g w.heap.size with hlt | hge
  · exact hlt
  · unfold RowV at h; rw [Array.getElem?_eq_none hge] at h; cases h
theorem RowV.cell (h : RowV w g t cs) {k : Nat} {v : Value} (hk : cs[k]? = some v) : w.cell? ⟨g, k, none⟩ = some v := by
  rw [cell_of_row w g k _ t _ h]; simpa using hk
theorem RowV.free (h : RowV w g t cs) (k : Nat) : w.frozen? ⟨g, k, none⟩ = false := frozen_of_row w g k _ t h
theorem RowV.keep (h : RowV w g t cs) (hb : Below w.heap.size w w') : RowV w' g t cs := (hb.block g h.lt).trans h
theorem RowV.set_ (h : RowV w g t cs) (k : Nat) (v : Value) : RowV (w.setCell ⟨g, k, none⟩ v) g t (cs.set k v) := by
  have := heap_setCell_same w g k cs.toArray t v h
  unfold RowV
  rw [this]; simp
theorem RowV.far (h : RowV w g t cs) (p : Addr) (u : Value) (hp : g ≠ p.block) : RowV (w.setCell p u) g t cs := (heap_setCell_other w p g u hp).trans h
theorem RowV.row (h : RowV w g t cs) (ds : List Value) : RowV (w.setRow g ds.toArray) g t ds := setRow_heap w g _ _ t _ h
theorem RowV.row_far (h : RowV w g t cs) (k : Nat) (ds : Array Value) (hk : g ≠ k) : RowV (w.setRow k ds) g t cs := (setRow_other w k g ds hk).trans h
theorem RowV.drew (h : RowV w g t cs) : RowV w.drew g t cs := h
theorem RowV.alloc (h : RowV w g t cs) (o : Obj) : RowV (w.alloc o) g t cs := (heap_alloc_old w o h.lt).trans h
theorem RowV.new (w : World) (t : TypeId) (cs : List Value) : RowV (w.alloc (.cells cs.toArray t)) w.heap.size t cs := heap_alloc_new w _
end
def Row32 (w : World) (g : Nat) (t : TypeId) (L : List Nat) : Prop := RowV w g t (w32 L)
section
variable {w w' : World} {g : Nat} {t : TypeId} {L : List Nat}
theorem w32_at (L : List Nat) {k : Nat} (hk : k < L.length) : (w32 L)[k]? = some (.int .u32 ((L.getD k 0 : Nat) : Int)) := by
  simp [w32, List.getD_eq_getElem?_getD, List.getElem?_eq_getElem hk]
theorem w32_set (L : List Nat) (k v : Nat) : w32 (L.set k v) = (w32 L).set k (.int .u32 (v : Int)) := by simp [w32, List.map_set]
theorem Row32.cell (h : Row32 w g t L) {k : Nat} (hk : k < L.length) : w.cell? ⟨g, k, none⟩ = some (.int .u32 ((L.getD k 0 : Nat) : Int)) := RowV.cell h (w32_at L hk)
theorem Row32.free (h : Row32 w g t L) (k : Nat) : w.frozen? ⟨g, k, none⟩ = false := RowV.free h k
theorem Row32.keep (h : Row32 w g t L) (hb : Below w.heap.size w w') : Row32 w' g t L := RowV.keep h hb
theorem Row32.lt (h : Row32 w g t L) : g < w.heap.size := RowV.lt h
theorem Row32.set_ (h : Row32 w g t L) (k v : Nat) : Row32 (w.setCell ⟨g, k, none⟩ (.int .u32 (v : Int))) g t (L.set k v) := by
  unfold Row32
  rw [w32_set]; exact RowV.set_ h k _
theorem Row32.far (h : Row32 w g t L) (p : Addr) (u : Value) (hp : g ≠ p.block) : Row32 (w.setCell p u) g t L := RowV.far h p u hp
theorem Row32.drew (h : Row32 w g t L) : Row32 w.drew g t L := h
end
theorem w32_one (L : List Nat) : ∀ v ∈ w32 L, v.oneCell' = true := by
  intro v hv
  obtain ⟨_, _, rfl⟩ := List.mem_map.1 hv
  rfl
end Go.Proofs.YtdlbfjoemabfpaaGreatDoor
namespace Go.Proofs.YtdlbfjoemabfpaaGreatDoor
open Go.RowKit Go.Sort
set_option linter.unusedVariables false
set_option linter.unusedSimpArgs false
set_option maxRecDepth 100000
theorem RuleM.val_eq (x : RuleM) : x.val = .agg #[.string x.r.name, .string x.r.pat, .slice x.T x.r.tags.length x.ct, .int .i64 x.r.fresh, .int .i64 x.r.stale, .int .i64 x.r.down, .int .i64 x.r.neg, .slice x.V x.r.vary.length x.cv,
  .int .i64 x.r.allow.fr, .int .i64 x.r.allow.till, .string x.r.allow.pat, .slice x.m.A x.r.allow.cl.length x.m.ca, .slice x.m.B x.r.allow.co.length x.m.cb, .slice x.m.S x.r.allow.si.length x.m.cs, .int .i64 x.r.allow.us, .bool x.r.signed, .int .i64 x.r.cost, .string x.r.prog] := rfl
open Go.Maps
theorem wpList_insert_own {H : Type} {P : Program} (w : World) {ops : Array Oper} {rest : List Oper} {o : Oper} {a : Act} {Q : Exit → Act → World → Prop}
    (hg : o.guard = none) (m x v : Operand) (t : TypeId) (hop : o.op = Op.insert t m x v)
    (k e : TypeId) (K : Keyed P k) (ht : P.underlying t = some (.map k e)) (R : Value → Option (DataW H × List MemPlace)) (b n : Nat) (D : DataW H)
    (hm : a.eval m = .map (some b)) (hown : w.ownsMap P k R b n D) (hn : n < maxLen) (key val : Value) (kl : Lit) (hx : a.eval x = key) (hv : a.eval v = val) (hkey : keyOf P k key = some kl)
    (d : DataW H) (ps : List MemPlace) (hval : R val = some (d, ps))
    (hK : ∀ w', w'.ownsMap P k R b (n + 1) (D.put kl d) → w.grownBy w' (some b) → wpList P ops Q rest (a.put o.dst undef) w') :
    wpList P ops Q (o :: rest) a w := by
  refine wpList_plain hg fun K' hK' => ?_
  obtain ⟨w', hrun, r1, r2⟩ := hown.update K ht hn hkey hval
  unfold Oper.wp
  simp [execOp, hop, hm, hx, hv, hrun, Result.andThen]
  exact hK' _ _ (hK w' r1 r2)
theorem keyI : Keyed Tryz.prog 3 := int_keyed Tryz.underlying3
theorem zeroI (w : World) : (zeroValue 3).run Tryz.prog w = .ok (.int .i64 0) w := by kernel_rfl
def mapSD (s d : Int) : DataW Unit := ((DataW.map []).put (.int .i64 1) (.lit (.int .i64 s))).put (.int .i64 2) (.lit (.int .i64 d))
theorem mapSD_at (s d state : Int) (hs : state = 0 ∨ state = 1 ∨ state = 2) : (mapSD s d).atKey (.int .i64 state) (.lit (.int .i64 0)) = .lit (.int .i64 (if state = 1 then s else if state = 2 then d else 0)) := by
  rcases hs with rfl | rfl | rfl <;> rfl
theorem made2 {H : Type} (w : World) (o : Obj) (k : TypeId) (R : Value → Option (DataW H × List MemPlace)) : ((w.alloc o).alloc (.map #[] 0)).ownsMap Tryz.prog k R (w.heap.size + 1) 0 (.map []) := by
  have := World.ownsMap_made (w.alloc o) Tryz.prog k R
  simpa using this
theorem alloc2_cell (w : World) (cs : Array Value) (t : TypeId) (o : Obj) {k : Nat} {v : Value} (h : cs[k]? = some v) : ((w.alloc (.cells cs t)).alloc o).cell? ⟨w.heap.size, k, none⟩ = some v := by
  rw [cell_of_row _ _ _ cs t (0, 0) (heap_alloc2_old w (.cells cs t) o)]; exact h
theorem grown_cellM {w w' : World} {b g o : Nat} {v : Value} (hg : w.grownBy w' (some b)) (hne : g ≠ b) (h : w.cell? ⟨g, o, none⟩ = some v) : w'.cell? ⟨g, o, none⟩ = some v :=
  (World.cell?_of_block (hg.block g (cell_lt h) (fun e => hne (Option.some.inj e)))).trans h
set_option maxHeartbeats 4000000 in
theorem maxAge_any (x : RuleM) (hok : RuleOk x.r) (status state : Int) (hs : state = 0 ∨ state = 1 ∨ state = 2) (w : World) :
    Calls Tryz.prog 34 #[x.val, .int .i64 status, .int .i64 state] w (Ret w (.int .i64 (maxAgeR x.r status state))) := by
  obtain ⟨_, _, _, _, f0, f1, s0, s1, d0, d1, n0, n1, _, _, _, _⟩ := hok
  rw [RuleM.val_eq]
  by_cases h2 : status = 200
  · have e : maxAgeR x.r status state = min (x.r.fresh + olderR x.r state) 1099511627776 := by unfold maxAgeR; rw [if_pos h2]
    rw [e]
    subst h2
    clear e
    have hat := mapSD_at x.r.stale x.r.down state hs
    have ho : olderR x.r state = (if state = 1 then x.r.stale else if state = 2 then x.r.down else 0) := rfl
    rw [← ho] at hat
    have hb : 0 ≤ olderR x.r state ∧ olderR x.r state ≤ 1099511627776 := by
      rw [ho]; rcases hs with rfl | rfl | rfl <;> simp <;> omega
    obtain ⟨hb0, hb1⟩ := hb
    have hwf : (Lit.int .i64 state).wf = true := WalkArith.wf_i64 (by omega)
    have hkey : keyOf Tryz.prog 3 (.int .i64 state) = some (.int .i64 state) := keyOf_int_mk Tryz.underlying3 hwf
    have hk1 : keyOf Tryz.prog 3 (.int .i64 1) = some (.int .i64 1) := keyOf_int_mk Tryz.underlying3 (by decide)
    have hk2 : keyOf Tryz.prog 3 (.int .i64 2) = some (.int .i64 2) := keyOf_int_mk Tryz.underlying3 (by decide)
    have hv1 := plainElem_int (H := Unit) Tryz.underlying3 (a := x.r.stale) (WalkArith.wf_i64 (by omega))
    have hv2 := plainElem_int (H := Unit) Tryz.underlying3 (a := x.r.down) (WalkArith.wf_i64 (by omega))
    have hmm := @run_makeMap Tryz.prog
    generalize olderR x.r state = od at *
    have HAT := Lib.hid hat; have HKY := Lib.hid hkey; have HK1 := Lib.hid hk1; have HK2 := Lib.hid hk2; have HV1 := Lib.hid hv1; have HV2 := Lib.hid hv2
    clear hat ho hkey hk1 hk2 hv1 hv2 hwf hs
    go_enter Tryz.func34, Tryz.ntmps34
    go_wp2_with (first
      | (refine wpList_insert_own _ rfl _ (.const (.int .i64 1)) _ 98 rfl 3 3 keyI Tryz.underlying98 (plainElem (H := Unit) Tryz.prog 3) (w.heap.size + 1) 0 (.map []) rfl (made2 w _ _ _) (by unfold maxLen; omega) _ _ _ rfl rfl HK1.out _ _ HV1.out ?_; intro w1 hown1 hgrow1; have y3 := grown_cellM hgrow1 (by omega) (alloc2_cell w _ _ _ (k := 3) rfl); have y5 := grown_cellM hgrow1 (by omega) (alloc2_cell w _ _ _ (k := 5) rfl); have hb1 : Below w.heap.size w w1 := (balloc (balloc (Below.refl _ _) _) _).grown hgrow1 (by simp; omega) (fun r e => by injection e with e; omega))
      | (refine wpList_insert_own _ rfl _ (.const (.int .i64 2)) _ 98 rfl 3 3 keyI Tryz.underlying98 (plainElem (H := Unit) Tryz.prog 3) (w.heap.size + 1) 1 _ rfl hown1 (by unfold maxLen; omega) _ _ _ rfl rfl HK2.out _ _ HV2.out ?_; intro w2 hown2 hgrow2; have z3 := grown_cellM hgrow2 (by omega) y3; have hb2 : Below w.heap.size w w2 := hb1.grown hgrow2 (by have := hb1.size; omega) (fun r e => by injection e with e; omega))
      | (at_lookup; refine wpList_lookup_own_int _ rfl _ _ 98 rfl 3 3 .i64 keyI Tryz.underlying98 Tryz.underlying3 (zeroI _) (w.heap.size + 1) 2 (mapSD x.r.stale x.r.down) rfl hown2 _ _ rfl HKY.out ?_; intro c hat hwc; obtain rfl : c = od := (by have := hat.symm.trans HAT.out; injection this with this; injection this)))
    go_ret
    exact ⟨rfl, hb2⟩
  · have e : maxAgeR x.r status state = x.r.neg := by unfold maxAgeR; rw [if_neg h2]
    rw [e]
    go_enter Tryz.func34, Tryz.ntmps34
    go_wp2
    go_ret
    exact ⟨rfl, belB⟩
theorem StampV.val_eq (s : StampV) : s.val = .agg #[.string s.addr, .string s.variant, .int .i64 s.status, .int .i64 s.size, .int .u8 s.body.a0, .int .u8 s.body.a1, .int .u8 s.body.a2, .int .u8 s.body.a3, .int .u8 s.body.a4, .int .u8 s.body.a5, .int .u8 s.body.a6, .int .u8 s.body.a7, .int .u8 s.body.a8, .int .u8 s.body.a9, .int .u8 s.body.a10, .int .u8 s.body.a11, .int .u8 s.body.a12, .int .u8 s.body.a13, .int .u8 s.body.a14, .int .u8 s.body.a15, .string s.tags, .int .i64 s.lo, .int .i64 s.hi, .int .i64 s.gate, .int .i64 s.serial, .int .u8 s.seal_.a0, .int .u8 s.seal_.a1, .int .u8 s.seal_.a2, .int .u8 s.seal_.a3, .int .u8 s.seal_.a4, .int .u8 s.seal_.a5, .int .u8 s.seal_.a6, .int .u8 s.seal_.a7, .int .u8 s.seal_.a8, .int .u8 s.seal_.a9, .int .u8 s.seal_.a10, .int .u8 s.seal_.a11, .int .u8 s.seal_.a12, .int .u8 s.seal_.a13, .int .u8 s.seal_.a14, .int .u8 s.seal_.a15] := rfl
def perV (lo hi : Int) : Value := .agg #[.int .i64 lo, .int .i64 hi]
theorem before_any (lo hi t : Int) (w : World) : Calls Tryz.prog 81 #[perV lo hi, .int .i64 t] w (Ret w (.bool (decide (hi < t)))) := by
  unfold perV
  go_enter Tryz.func81, Tryz.ntmps81
  go_wp2
  go_ret
  exact ⟨rfl, belB⟩
end Go.Proofs.YtdlbfjoemabfpaaGreatDoor
