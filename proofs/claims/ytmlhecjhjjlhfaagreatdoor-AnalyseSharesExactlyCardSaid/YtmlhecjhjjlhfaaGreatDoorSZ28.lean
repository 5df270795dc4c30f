/- What the cond package's Holds returns. -/
import Derived.Test.YtmlhecjhjjlhfaaGreatDoorSZ25
import Derived.Test.YtmlhecjhjjlhfaaGreatDoorSZ27
import Derived.Test.YtmlhecjhjjlhfaaGreatDoorSZ26
import Derived.Test.YtmlhecjhjjlhfaaGreatDoorProg
import Derived.WalkKit
import Derived.WalkSpells
import Derived.WalkLawsBesides
import Derived.Below
import Derived.Deep.QuietTactic
import Derived.BigQuiet
import Derived.Lib.QuietBelow
import Derived.Lib.Strings
import Derived.Lib.Hide
import Derived.Deep.RegionWith
import Derived.Deep.RegionHeld3
import Derived.Lib.IndexBytes
import Derived.Test.YtmlhecjhjjlhfaaGreatDoorSZ13
import Derived.Test.YtmlhecjhjjlhfaaGreatDoorSZ23
import Derived.Deep.DeepCutAuto
import Derived.Test.YtmlhecjhjjlhfaaGreatDoorSZ18
import Derived.Test.YtmlhecjhjjlhfaaGreatDoorSZ24
import Derived.Test.YtmlhecjhjjlhfaaGreatDoorSZ16
import Derived.Lib.ItoaLen
namespace Go.Proofs.YtmlhecjhjjlhfaaGreatDoor
open Go.RowKit Go.Sort
set_option linter.unusedVariables false
set_option linter.unusedSimpArgs false
set_option maxRecDepth 100000
structure CondFits (c : CondV) : Prop where
  p : c.pat.size ≤ 100000
  cl : ∀ x ∈ c.cl, x.size ≤ 100000
  co : ∀ x ∈ c.co, x.size ≤ 100000
  n1 : c.cl.length ≤ 1000000
  n2 : c.co.length ≤ 1000000
  n3 : c.si.length ≤ 1000000
structure AskFits (a : AskV) : Prop where
  p : a.addr.size ≤ 100000
  cl : a.client.size ≤ 100000
  co : a.country.size ≤ 100000
def ABox (w : World) (g : Nat) (ad cl co : ByteArray) (si lo hi : Int) : Prop := Blk w g 49 #[.string ad, .string cl, .string co, .int .i64 si, .int .i64 lo, .int .i64 hi] (0, 0)
theorem ABox.facts {w : World} {g : Nat} {ad cl co : ByteArray} {si lo hi : Int} (h : ABox w g ad cl co si lo hi) :
    w.cell? ⟨g, 0, none⟩ = some (.string ad) ∧ w.cell? ⟨g, 1, none⟩ = some (.string cl) ∧ w.cell? ⟨g, 2, none⟩ = some (.string co) ∧ w.cell? ⟨g, 3, none⟩ = some (.int .i64 si) ∧ w.cell? ⟨g, 4, none⟩ = some (.int .i64 lo) ∧ w.cell? ⟨g, 5, none⟩ = some (.int .i64 hi) :=
  ⟨Blk.cell h 0, Blk.cell h 1, Blk.cell h 2, Blk.cell h 3, Blk.cell h 4, Blk.cell h 5⟩
theorem two_box (w : World) (o1 o2 : Obj) : ((w.alloc o1).alloc o2).heap[w.heap.size]? = some o1 ∧ ((w.alloc o1).alloc o2).heap[w.heap.size + 1]? = some o2 := by
  refine ⟨(Below.heap_alloc _ _ _ (by simp)).trans (World.alloc_heap_new _ _), ?_⟩
  have := World.alloc_heap_new (w.alloc o1) o2
  rwa [World.size_alloc] at this
set_option maxHeartbeats 8000000 in
theorem holds_any (c : CondV) (m : CondMem) (a : AskV) (w : World) (hR : CondReads w c m) (hc : CondFits c) (ha : AskFits a) (hE : Env w) :
    Calls Tryz.prog 52 #[CondMem.val c m, AskV.val a] w (Ret w (.bool (holdsC c a))) := by
  have c1 := fun W (hb : Below w.heap.size w W) => condValid_any c m W (hR.keep hb) hc.p hc.cl hc.co hc.n1 hc.n2 hc.n3 (hE.keep hb)
  have c2 := fun W h => validAsk_any a W ha.p ha.cl ha.co h
  obtain ⟨V, hV⟩ : ∃ V, V = holdsC c a := ⟨_, rfl⟩
  rw [← hV]
  unfold holdsC at hV
  generalize validC c = v1 at *
  generalize validAsk a = v2 at *
  obtain ⟨fr, till, pat, cl, co, si, us⟩ := c
  obtain ⟨A, ca, B, cb, S, cs⟩ := m
  obtain ⟨ad, kl, ko, st, lo, hi⟩ := a
  obtain ⟨hA, hB, hS⟩ := hR
  obtain ⟨h1, h2, h3, n1, n2, n3⟩ := hc
  obtain ⟨g1, g2, g3⟩ := ha
  unfold CondMem.val at c1
  unfold AskV.val at c2
  unfold CondMem.val AskV.val
  dsimp only at hA hB hS h1 h2 h3 n1 n2 n3 g1 g2 g3 hV c1 c2
  dsimp only
  have c3 := fun W => condPattern_any fr till us pat A B S cl.length ca co.length cb si.length cs W
  have hpt : (if pat.size = 0 then (⟨#[42, 47, 42, 42]⟩ : ByteArray) else pat) = patT pat := rfl
  rw [hpt] at c3
  have hps : (patT pat).size ≤ 100000 := by unfold patT; split; exact (by decide); exact h1
  have c4 := fun W h => match_any (patT pat) ad W hps g1 h
  have c5 := fun W (hb : Below w.heap.size w W) => allowsS_any A cl.length ca cl kl W (hA.keep hb) (by omega)
  have c6 := fun W (hb : Below w.heap.size w W) => allowsS_any B co.length cb co ko W (hB.keep hb) (by omega)
  have c7 := fun W (hb : Below w.heap.size w W) => allowsI_any S si.length cs si st W (hS.keep hb) (by omega)
  generalize patT pat = pt at *
  generalize matchB pt ad = v4 at *
  generalize allowsL cl kl = v5 at *
  generalize allowsL co ko = v6 at *
  generalize allowsL si st = v7 at *
  obtain ⟨W0, hW0⟩ : ∃ W0, W0 = (w.alloc (.cells #[.int .i64 fr, .int .i64 till, .string pat, .slice A cl.length ca, .slice B co.length cb, .slice S si.length cs, .int .i64 us] 36)).alloc (.cells #[.string ad, .string kl, .string ko, .int .i64 st, .int .i64 lo, .int .i64 hi] 49) := ⟨_, rfl⟩
  have hb0 : Below w.heap.size w W0 := by rw [hW0]; exact balloc (balloc (Below.refl _ _) _) _
  have hX : CBox W0 w.heap.size fr till pat A cl.length ca B co.length cb S si.length cs us := by rw [hW0]; exact (two_box _ _ _).1
  have hY : ABox W0 (w.heap.size + 1) ad kl ko st lo hi := by rw [hW0]; exact (two_box _ _ _).2
  obtain ⟨x0, x1, x2, x3, x4, x5, x6⟩ := hX.facts
  obtain ⟨y0, y1, y2, y3, y4, y5⟩ := hY.facts
  have r0 := cell_regrown x0; have r1 := cell_regrown x1; have r2 := cell_regrown x2; have r3 := cell_regrown x3; have r4 := cell_regrown x4; have r5 := cell_regrown x5; have r6 := cell_regrown x6
  have q0 := cell_regrown y0; have q1 := cell_regrown y1; have q2 := cell_regrown y2; have q3 := cell_regrown y3; have q4 := cell_regrown y4; have q5 := cell_regrown y5
  replace c1 := fun W (hb : Below W0.heap.size W0 W) => c1 W (bstep hb0 hb)
  replace c2 := fun W (hb : Below W0.heap.size W0 W) => c2 W (hE.keep (bstep hb0 hb))
  replace c3 := fun W (_ : Below W0.heap.size W0 W) => c3 W
  replace c4 := fun W (hb : Below W0.heap.size W0 W) => c4 W (hE.keep (bstep hb0 hb))
  replace c5 := fun W (hb : Below W0.heap.size W0 W) => c5 W (bstep hb0 hb)
  replace c6 := fun W (hb : Below W0.heap.size W0 W) => c6 W (bstep hb0 hb)
  replace c7 := fun W (hb : Below W0.heap.size W0 W) => c7 W (bstep hb0 hb)
  have HW := Lib.hid hW0; have HB0 := Lib.hid hb0
  clear hW0 hb0 hX hY
  have C1 := Lib.hid c1; have C2 := Lib.hid c2; have C3 := Lib.hid c3; have C4 := Lib.hid c4; have C5 := Lib.hid c5; have C6 := Lib.hid c6; have C7 := Lib.hid c7
  clear c1 c2 c3 c4 c5 c6 c7 hE hA hB hS h1 h2 h3 n1 n2 n3 g1 g2 g3 hps hpt
  cases v1
  · obtain rfl : V = false := by rw [hV]; simp
    clear hV
    (go_enter Tryz.func52, Tryz.ntmps52; go_wp2_with fail; rw [← HW.out]; refine wp_region_quiet_below (by kernel_rfl) (by kernel_rfl) ?_; (repeat (any_goals (first | go_big_quiet_step ((first | (with_reducible exact qcalls2 C1.out _ _) | (with_reducible exact qcalls2 C2.out _ _) | (with_reducible exact qcalls2 C3.out _ _) | (with_reducible exact qcalls2 C4.out _ _) | (with_reducible exact qcalls2 C5.out _ _) | (with_reducible exact qcalls2 C6.out _ _) | (with_reducible exact qcalls2 C7.out _ _))) | quiet_step ((first | (with_reducible exact qcalls2 C1.out _ _) | (with_reducible exact qcalls2 C2.out _ _) | (with_reducible exact qcalls2 C3.out _ _) | (with_reducible exact qcalls2 C4.out _ _) | (with_reducible exact qcalls2 C5.out _ _) | (with_reducible exact qcalls2 C6.out _ _) | (with_reducible exact qcalls2 C7.out _ _)))))); refine wpQuiet_nil ?_; intro _ hwq; obtain ⟨⟨dq, osq⟩, hwq⟩ := hwq; subst hwq; have hbq := below_regrown (W0) dq osq; generalize grow (redrawn (W0) dq) osq = wq at *; go_wp2; go_ret; exact ⟨rfl, bstep HB0.out hbq⟩)
  cases v2
  · obtain rfl : V = false := by rw [hV]; simp
    clear hV
    (go_enter Tryz.func52, Tryz.ntmps52; go_wp2_with fail; rw [← HW.out]; refine wp_region_quiet_below (by kernel_rfl) (by kernel_rfl) ?_; (repeat (any_goals (first | go_big_quiet_step ((first | (with_reducible exact qcalls2 C1.out _ _) | (with_reducible exact qcalls2 C2.out _ _) | (with_reducible exact qcalls2 C3.out _ _) | (with_reducible exact qcalls2 C4.out _ _) | (with_reducible exact qcalls2 C5.out _ _) | (with_reducible exact qcalls2 C6.out _ _) | (with_reducible exact qcalls2 C7.out _ _))) | quiet_step ((first | (with_reducible exact qcalls2 C1.out _ _) | (with_reducible exact qcalls2 C2.out _ _) | (with_reducible exact qcalls2 C3.out _ _) | (with_reducible exact qcalls2 C4.out _ _) | (with_reducible exact qcalls2 C5.out _ _) | (with_reducible exact qcalls2 C6.out _ _) | (with_reducible exact qcalls2 C7.out _ _)))))); refine wpQuiet_nil ?_; intro _ hwq; obtain ⟨⟨dq, osq⟩, hwq⟩ := hwq; subst hwq; have hbq := below_regrown (W0) dq osq; generalize grow (redrawn (W0) dq) osq = wq at *; go_wp2; go_ret; exact ⟨rfl, bstep HB0.out hbq⟩)
  by_cases t1 : fr ≤ lo
  rotate_left
  · obtain rfl : V = false := by rw [hV]; simp [t1]
    have d1 : decide (fr ≤ lo) = false := decide_eq_false t1
    clear hV
    (go_enter Tryz.func52, Tryz.ntmps52; go_wp2_with fail; rw [← HW.out]; refine wp_region_quiet_below (by kernel_rfl) (by kernel_rfl) ?_; (repeat (any_goals (first | go_big_quiet_step ((first | (with_reducible exact qcalls2 C1.out _ _) | (with_reducible exact qcalls2 C2.out _ _) | (with_reducible exact qcalls2 C3.out _ _) | (with_reducible exact qcalls2 C4.out _ _) | (with_reducible exact qcalls2 C5.out _ _) | (with_reducible exact qcalls2 C6.out _ _) | (with_reducible exact qcalls2 C7.out _ _))) | quiet_step ((first | (with_reducible exact qcalls2 C1.out _ _) | (with_reducible exact qcalls2 C2.out _ _) | (with_reducible exact qcalls2 C3.out _ _) | (with_reducible exact qcalls2 C4.out _ _) | (with_reducible exact qcalls2 C5.out _ _) | (with_reducible exact qcalls2 C6.out _ _) | (with_reducible exact qcalls2 C7.out _ _)))))); refine wpQuiet_nil ?_; intro _ hwq; obtain ⟨⟨dq, osq⟩, hwq⟩ := hwq; subst hwq; have hbq := below_regrown (W0) dq osq; generalize grow (redrawn (W0) dq) osq = wq at *; go_wp2; go_ret; exact ⟨rfl, bstep HB0.out hbq⟩)
  have d1 : decide (fr ≤ lo) = true := decide_eq_true t1
  by_cases t2 : hi < till
  rotate_left
  · obtain rfl : V = false := by rw [hV]; simp [t2]
    have d2 : decide (hi < till) = false := decide_eq_false t2
    clear hV
    (go_enter Tryz.func52, Tryz.ntmps52; go_wp2_with fail; rw [← HW.out]; refine wp_region_quiet_below (by kernel_rfl) (by kernel_rfl) ?_; (repeat (any_goals (first | go_big_quiet_step ((first | (with_reducible exact qcalls2 C1.out _ _) | (with_reducible exact qcalls2 C2.out _ _) | (with_reducible exact qcalls2 C3.out _ _) | (with_reducible exact qcalls2 C4.out _ _) | (with_reducible exact qcalls2 C5.out _ _) | (with_reducible exact qcalls2 C6.out _ _) | (with_reducible exact qcalls2 C7.out _ _))) | quiet_step ((first | (with_reducible exact qcalls2 C1.out _ _) | (with_reducible exact qcalls2 C2.out _ _) | (with_reducible exact qcalls2 C3.out _ _) | (with_reducible exact qcalls2 C4.out _ _) | (with_reducible exact qcalls2 C5.out _ _) | (with_reducible exact qcalls2 C6.out _ _) | (with_reducible exact qcalls2 C7.out _ _)))))); refine wpQuiet_nil ?_; intro _ hwq; obtain ⟨⟨dq, osq⟩, hwq⟩ := hwq; subst hwq; have hbq := below_regrown (W0) dq osq; generalize grow (redrawn (W0) dq) osq = wq at *; go_wp2; go_ret; exact ⟨rfl, bstep HB0.out hbq⟩)
  have d2 : decide (hi < till) = true := decide_eq_true t2
  have hV2 : V = (v4 && v5 && v6 && v7) := by rw [hV]; simp [t1, t2]
  clear hV
  cases v4
  · obtain rfl : V = false := by rw [hV2]; simp
    clear hV2
    (go_enter Tryz.func52, Tryz.ntmps52; go_wp2_with fail; rw [← HW.out]; refine wp_region_quiet_below (by kernel_rfl) (by kernel_rfl) ?_; (repeat (any_goals (first | go_big_quiet_step ((first | (with_reducible exact qcalls2 C1.out _ _) | (with_reducible exact qcalls2 C2.out _ _) | (with_reducible exact qcalls2 C3.out _ _) | (with_reducible exact qcalls2 C4.out _ _) | (with_reducible exact qcalls2 C5.out _ _) | (with_reducible exact qcalls2 C6.out _ _) | (with_reducible exact qcalls2 C7.out _ _))) | quiet_step ((first | (with_reducible exact qcalls2 C1.out _ _) | (with_reducible exact qcalls2 C2.out _ _) | (with_reducible exact qcalls2 C3.out _ _) | (with_reducible exact qcalls2 C4.out _ _) | (with_reducible exact qcalls2 C5.out _ _) | (with_reducible exact qcalls2 C6.out _ _) | (with_reducible exact qcalls2 C7.out _ _)))))); refine wpQuiet_nil ?_; intro _ hwq; obtain ⟨⟨dq, osq⟩, hwq⟩ := hwq; subst hwq; have hbq := below_regrown (W0) dq osq; generalize grow (redrawn (W0) dq) osq = wq at *; go_wp2; go_ret; exact ⟨rfl, bstep HB0.out hbq⟩)
  cases v5
  · obtain rfl : V = false := by rw [hV2]; simp
    clear hV2
    (go_enter Tryz.func52, Tryz.ntmps52; go_wp2_with fail; rw [← HW.out]; refine wp_region_quiet_below (by kernel_rfl) (by kernel_rfl) ?_; (repeat (any_goals (first | go_big_quiet_step ((first | (with_reducible exact qcalls2 C1.out _ _) | (with_reducible exact qcalls2 C2.out _ _) | (with_reducible exact qcalls2 C3.out _ _) | (with_reducible exact qcalls2 C4.out _ _) | (with_reducible exact qcalls2 C5.out _ _) | (with_reducible exact qcalls2 C6.out _ _) | (with_reducible exact qcalls2 C7.out _ _))) | quiet_step ((first | (with_reducible exact qcalls2 C1.out _ _) | (with_reducible exact qcalls2 C2.out _ _) | (with_reducible exact qcalls2 C3.out _ _) | (with_reducible exact qcalls2 C4.out _ _) | (with_reducible exact qcalls2 C5.out _ _) | (with_reducible exact qcalls2 C6.out _ _) | (with_reducible exact qcalls2 C7.out _ _)))))); refine wpQuiet_nil ?_; intro _ hwq; obtain ⟨⟨dq, osq⟩, hwq⟩ := hwq; subst hwq; have hbq := below_regrown (W0) dq osq; generalize grow (redrawn (W0) dq) osq = wq at *; go_wp2; go_ret; exact ⟨rfl, bstep HB0.out hbq⟩)
  cases v6
  · obtain rfl : V = false := by rw [hV2]; simp
    clear hV2
    (go_enter Tryz.func52, Tryz.ntmps52; go_wp2_with fail; rw [← HW.out]; refine wp_region_quiet_below (by kernel_rfl) (by kernel_rfl) ?_; (repeat (any_goals (first | go_big_quiet_step ((first | (with_reducible exact qcalls2 C1.out _ _) | (with_reducible exact qcalls2 C2.out _ _) | (with_reducible exact qcalls2 C3.out _ _) | (with_reducible exact qcalls2 C4.out _ _) | (with_reducible exact qcalls2 C5.out _ _) | (with_reducible exact qcalls2 C6.out _ _) | (with_reducible exact qcalls2 C7.out _ _))) | quiet_step ((first | (with_reducible exact qcalls2 C1.out _ _) | (with_reducible exact qcalls2 C2.out _ _) | (with_reducible exact qcalls2 C3.out _ _) | (with_reducible exact qcalls2 C4.out _ _) | (with_reducible exact qcalls2 C5.out _ _) | (with_reducible exact qcalls2 C6.out _ _) | (with_reducible exact qcalls2 C7.out _ _)))))); refine wpQuiet_nil ?_; intro _ hwq; obtain ⟨⟨dq, osq⟩, hwq⟩ := hwq; subst hwq; have hbq := below_regrown (W0) dq osq; generalize grow (redrawn (W0) dq) osq = wq at *; go_wp2; go_ret; exact ⟨rfl, bstep HB0.out hbq⟩)
  obtain rfl : V = v7 := by rw [hV2]; simp
  clear hV2
  (go_enter Tryz.func52, Tryz.ntmps52; go_wp2_with fail; rw [← HW.out]; refine wp_region_quiet_below (by kernel_rfl) (by kernel_rfl) ?_; (repeat (any_goals (first | go_big_quiet_step ((first | (with_reducible exact qcalls2 C1.out _ _) | (with_reducible exact qcalls2 C2.out _ _) | (with_reducible exact qcalls2 C3.out _ _) | (with_reducible exact qcalls2 C4.out _ _) | (with_reducible exact qcalls2 C5.out _ _) | (with_reducible exact qcalls2 C6.out _ _) | (with_reducible exact qcalls2 C7.out _ _))) | quiet_step ((first | (with_reducible exact qcalls2 C1.out _ _) | (with_reducible exact qcalls2 C2.out _ _) | (with_reducible exact qcalls2 C3.out _ _) | (with_reducible exact qcalls2 C4.out _ _) | (with_reducible exact qcalls2 C5.out _ _) | (with_reducible exact qcalls2 C6.out _ _) | (with_reducible exact qcalls2 C7.out _ _)))))); refine wpQuiet_nil ?_; intro _ hwq; obtain ⟨⟨dq, osq⟩, hwq⟩ := hwq; subst hwq; have hbq := below_regrown (W0) dq osq; generalize grow (redrawn (W0) dq) osq = wq at *; go_wp2; go_ret; exact ⟨rfl, bstep HB0.out hbq⟩)
end Go.Proofs.YtmlhecjhjjlhfaaGreatDoor
namespace Go.Proofs.YtmlhecjhjjlhfaaGreatDoor
open Go.RowKit Go.Sort
set_option linter.unusedVariables false
set_option linter.unusedSimpArgs false
set_option maxRecDepth 100000
theorem split_comma : ∀ (x : BL) (l : List BL), 44 ∉ x → (∀ y ∈ l, 44 ∉ y) → splitL 44 (x ++ Lib.joinTail [44] l) = x :: l
  | x, [], hx, _ => by simp [Lib.joinTail]; exact split_none x 44 hx
  | x, y :: l, hx, hl => by
    have e : Lib.joinTail [44] (y :: l) = 44 :: (y ++ Lib.joinTail [44] l) := by simp [Lib.joinTail]
    rw [e, split_hit x _ 44 hx, split_comma y l (hl y (by simp)) (fun z hz => hl z (by simp [hz]))]
theorem split_joined (zs : List BL) (h0 : zs ≠ []) (h : ∀ z ∈ zs, 44 ∉ z) : splitL 44 (Lib.join zs [44]) = zs := by
  cases zs with
  | nil => exact absurd rfl h0
  | cons x l => rw [Lib.join_cons]; exact split_comma x l (h x (by simp)) (fun z hz => h z (by simp [hz]))
theorem tagsL_compact (zs : List BL) (h : zs.Pairwise (· < ·)) : Lib.compact (sortL zs) = zs := by
  have hs : sortL zs = zs := sortL_of (List.Perm.refl _) (h.imp fun h => List.le_of_lt h)
  rw [hs]
  obtain ⟨h1, h2⟩ := compact_sorted zs (h.imp fun h => List.le_of_lt h)
  exact uniq_sorted _ _ h1 h h2
theorem tagsR_ok {ps : List ByteArray} {T : ByteArray} (h : tagsR ps = (T, 0)) : ps.any (fun p => !isNameB p) = false ∧ (tagsL ps).length ≤ 4096 ∧ T = toB (tagsL ps) := by
  unfold tagsR at h
  split at h
  · cases h
  · rename_i h1
    split at h
    · cases h
    · rename_i h2
      refine ⟨by simpa using h1, by omega, ?_⟩
      cases h; rfl
theorem splitR_tags {ps : List ByteArray} {T : ByteArray} (h : tagsR ps = (T, 0)) : splitR T = ((Lib.compact (sortL (lists ps))).map toB, 0) := by
  obtain ⟨h1, h2, rfl⟩ := tagsR_ok h
  have tr : ∀ a b c : BL, decide (a ≤ b) = true → decide (b ≤ c) = true → decide (a ≤ c) = true := fun a b c h1 h2 => by simp only [decide_eq_true_eq] at *; exact List.le_trans h1 h2
  have tot : ∀ a b : BL, (decide (a ≤ b) || decide (b ≤ a)) = true := fun a b => by simp only [Bool.or_eq_true, decide_eq_true_eq]; exact List.le_total a b
  obtain ⟨h3, h4⟩ := compact_sorted (sortL (lists ps)) ((List.pairwise_mergeSort tr tot _).imp fun h => by simpa using h)
  have hm : ∀ a ∈ Lib.compact (sortL (lists ps)), ∃ p ∈ ps, isNameB p = true ∧ p.data.toList = a := by
    intro a ha
    rw [h4, sortL, (List.mergeSort_perm _ _).mem_iff] at ha
    obtain ⟨p, hp, rfl⟩ := List.mem_map.1 ha
    have := List.any_eq_false.1 h1 p hp
    exact ⟨p, hp, by simpa using this, rfl⟩
  have hT : tagsL ps = Lib.join (Lib.compact (sortL (lists ps))) [44] := rfl
  rw [hT] at h2 ⊢
  generalize Lib.compact (sortL (lists ps)) = zs at *
  have hdata : (toB (Lib.join zs [44])).data.toList = Lib.join zs [44] := by simp [toB]
  cases zs with
  | nil =>
    have : (toB (Lib.join ([] : List BL) [44])).toList = [] := by rw [Lib.toList_data, hdata]; rfl
    unfold splitR
    rw [this]; rfl
  | cons x l =>
    have hne : (toB (Lib.join (x :: l) [44])).toList.isEmpty = false := by
      rw [Lib.toList_data, hdata, Lib.join_cons]
      obtain ⟨p, _, hp, rfl⟩ := hm x (by simp)
      cases hx : p.data.toList with
      | nil =>
        have : p = ⟨#[]⟩ := bytes_ext (by rw [hx])
        rw [this] at hp
        exact absurd hp (by simp [isNameB, isWordB, Lib.toList_data])
      | cons a r => rfl
    have hsp : splitB 44 (toB (Lib.join (x :: l) [44])) = (x :: l).map toB := by
      show (splitL 44 (toB (Lib.join (x :: l) [44])).data.toList).map toB = _
      rw [hdata, split_joined (x :: l) (by simp) (fun z hz => by
        obtain ⟨p, _, hp, rfl⟩ := hm z hz
        exact (word_no (name_word hp)).2.2.2.2.2)]
    have htg : tagsR ((x :: l).map toB) = (toB (Lib.join (x :: l) [44]), 0) := by
      have e : tagsL ((x :: l).map toB) = Lib.join (x :: l) [44] := by
        have : lists ((x :: l).map toB) = x :: l := toB_back _
        unfold tagsL
        rw [this, tagsL_compact _ h3]
      unfold tagsR
      rw [if_neg, e, if_neg (by omega)]
      simp only [List.any_map, List.any_eq_true, not_exists]
      rintro z ⟨hz, hz2⟩
      obtain ⟨p, _, hp, rfl⟩ := hm z hz
      have : toB p.data.toList = p := bytes_ext (by simp [toB])
      simp [this, hp] at hz2
    unfold splitR
    rw [hne, if_neg (by decide), hsp, htg, if_pos ⟨rfl, by simp⟩]
theorem hasTag_tags {ps : List ByteArray} {T : ByteArray} (h : tagsR ps = (T, 0)) (p : ByteArray) (hp : p ∈ ps) : hasTagB T p = true := by
  have tr : ∀ a b c : BL, decide (a ≤ b) = true → decide (b ≤ c) = true → decide (a ≤ c) = true := fun a b c h1 h2 => by simp only [decide_eq_true_eq] at *; exact List.le_trans h1 h2
  have tot : ∀ a b : BL, (decide (a ≤ b) || decide (b ≤ a)) = true := fun a b => by simp only [Bool.or_eq_true, decide_eq_true_eq]; exact List.le_total a b
  obtain ⟨h3, h4⟩ := compact_sorted (sortL (lists ps)) ((List.pairwise_mergeSort tr tot _).imp fun h => by simpa using h)
  unfold hasTagB
  rw [splitR_tags h, Lib.containsS_iff]
  refine List.mem_map.2 ⟨p.data.toList, ?_, bytes_ext (by simp [toB])⟩
  rw [h4, sortL, (List.mergeSort_perm _ _).mem_iff]
  exact List.mem_map_of_mem hp
end Go.Proofs.YtmlhecjhjjlhfaaGreatDoor
namespace Go.Proofs.YtmlhecjhjjlhfaaGreatDoor
open Go.RowKit Go.Sort
set_option linter.unusedVariables false
set_option linter.unusedSimpArgs false
set_option maxRecDepth 100000
theorem meet_shape (p : ByteArray) : ∃ (b : Bool) (f : Int), meetV (bothP (patT p) ⟨#[42, 47, 42, 42]⟩) = .tuple #[.bool b, .string (addrOf p), .int .i64 f] := by
  unfold addrOf
  cases h : bothP (patT p) ⟨#[42, 47, 42, 42]⟩ with
  | none => exact ⟨_, _, rfl⟩
  | some r =>
    cases r with
    | none => exact ⟨_, _, rfl⟩
    | some z => exact ⟨_, _, rfl⟩
theorem head_of {α : Type} {enc : α → Value} {w : World} {A : Option Addr} {n : Nat} {xs : List α} (hA : Reads w 1 A n (xs.map enc)) (d : α) :
    (n = 0 ∧ xs.headD d = d) ∨ (0 < n ∧ ∃ b o, A = some ⟨b, o, none⟩ ∧ w.cell? ⟨b, o, none⟩ = some (enc (xs.headD d))) := by
  have hl := hA.1
  cases xs with
  | nil => exact .inl ⟨by simp at hl; omega, rfl⟩
  | cons x xs =>
    have hn : 0 < n := by simp at hl; omega
    obtain ⟨b, o, e, hc⟩ := hA.2 hn
    exact .inr ⟨hn, b, o, e, by have := hc 0 (enc x) (by simp); simpa using this⟩
theorem patT_size {p : ByteArray} (h : p.size ≤ 100000) : (patT p).size ≤ 100000 := by unfold patT; split; exact (by decide); exact h
theorem pattern_any (c : CondV) (m : CondMem) (w : World) : Calls Tryz.prog 105 #[CondMem.val c m] w (Ret w (.string (patT c.pat))) := condPattern_any _ _ _ _ _ _ _ _ _ _ _ _ _ w
theorem ABox.set2 {w : World} {g : Nat} {ad cl co co2 : ByteArray} {si lo hi : Int} (h : ABox w g ad cl co si lo hi) : ABox (w.setCell ⟨g, 2, none⟩ (.string co2)) g ad cl co2 si lo hi := Blk.set_ h 2 (.string co2)
theorem ABox.set3 {w : World} {g : Nat} {ad cl co : ByteArray} {si si2 lo hi : Int} (h : ABox w g ad cl co si lo hi) : ABox (w.setCell ⟨g, 3, none⟩ (.int .i64 si2)) g ad cl co si2 lo hi := Blk.set_ h 3 (.int .i64 si2)
theorem ABox.put {w : World} {g : Nat} {ad cl co : ByteArray} {si lo hi : Int} (h : ABox w g ad cl co si lo hi) (ad' cl' co' : ByteArray) (si' lo' hi' : Int) : ABox ((((((w.setCell ⟨g, 0, none⟩ (.string ad')).setCell ⟨g, 1, none⟩ (.string cl')).setCell ⟨g, 2, none⟩ (.string co')).setCell ⟨g, 3, none⟩ (.int .i64 si')).setCell ⟨g, 4, none⟩ (.int .i64 lo')).setCell ⟨g, 5, none⟩ (.int .i64 hi')) g ad' cl' co' si' lo' hi' :=
  Blk.set_ (Blk.set_ (Blk.set_ (Blk.set_ (Blk.set_ (Blk.set_ h 0 (.string ad')) 1 (.string cl')) 2 (.string co')) 3 (.int .i64 si')) 4 (.int .i64 lo')) 5 (.int .i64 hi')
theorem below_put6 {a w : World} {g : Nat} (h : Below a.heap.size a w) (hg : a.heap.size ≤ g) (v0 v1 v2 v3 v4 v5 : Value) : Below a.heap.size a ((((((w.setCell ⟨g, 0, none⟩ v0).setCell ⟨g, 1, none⟩ v1).setCell ⟨g, 2, none⟩ v2).setCell ⟨g, 3, none⟩ v3).setCell ⟨g, 4, none⟩ v4).setCell ⟨g, 5, none⟩ v5) :=
  (((((h.setCell (p := ⟨g, 0, none⟩) hg _).setCell (p := ⟨g, 1, none⟩) hg _).setCell (p := ⟨g, 2, none⟩) hg _).setCell (p := ⟨g, 3, none⟩) hg _).setCell (p := ⟨g, 4, none⟩) hg _).setCell (p := ⟨g, 5, none⟩) hg _
set_option maxHeartbeats 8000000 in
theorem sample_any (c : CondV) (m : CondMem) (w : World) (hR : CondReads w c m) (hc : CondFits c) (hE : Env w) : Calls Tryz.prog 84 #[CondMem.val c m] w (Ret w (AskV.val (sampleC c))) := by
  have c1 := fun W => pattern_any c m W
  have c2 := fun W h => addrMeet_any (patT c.pat) ⟨#[42, 47, 42, 42]⟩ W (patT_size hc.p) (by decide) h
  obtain ⟨mb, mf, hms⟩ := meet_shape c.pat
  rw [hms] at c2
  unfold sampleC
  obtain ⟨fr, till, pat, cl, co, si, us⟩ := c
  obtain ⟨A, ca, B, cb, S, cs⟩ := m
  obtain ⟨hA, hB, hS⟩ := hR
  unfold CondMem.val at c1 ⊢
  unfold AskV.val
  dsimp only at hA hB hS c1 c2 ⊢
  have k1 := head_of hA ⟨#[97]⟩
  have k2 := head_of hB ⟨#[97, 97]⟩
  have k3 := head_of hS 0
  obtain ⟨n1, n2, n3⟩ := (⟨hc.n1, hc.n2, hc.n3⟩ : cl.length ≤ 1000000 ∧ co.length ≤ 1000000 ∧ si.length ≤ 1000000)
  generalize cl.headD ⟨#[97]⟩ = u1 at *
  generalize co.headD ⟨#[97, 97]⟩ = u2 at *
  generalize si.headD 0 = u3 at *
  generalize cl.length = na at *
  generalize co.length = nb at *
  generalize si.length = ns at *
  generalize addrOf pat = ad at *
  generalize patT pat = pt at *
  have C1 := Lib.hid c1; have C2 := Lib.hid c2; have HE := Lib.hid hE
  have K1 := Lib.hid k1; have K2 := Lib.hid k2; have K3 := Lib.hid k3
  clear c1 c2 hE hA hB hS hms hc k1 k2 k3
  go_enter Tryz.func84, Tryz.ntmps84
  go_upto_if 24 with (first | (go_at_call 105; refine (C1.out _).mono ?_; rintro e w2 ⟨rfl, hb2⟩) | (go_at_call 26; refine (C2.out _ (Env.keep HE.out belB)).mono ?_; rintro e w3 ⟨rfl, hb3⟩; have hX3 : CBox w3 w.heap.size fr till pat A na ca B nb cb S ns cs us := Blk.keep (Blk.keep (two_box _ _ _).1 hb2) hb3; have hY3 : ABox w3 (w.heap.size + 1) ⟨#[]⟩ ⟨#[]⟩ ⟨#[]⟩ 0 0 0 := Blk.keep (Blk.keep (two_box _ _ _).2 hb2) hb3; have hbw3 : Below w.heap.size w w3 := belB; have HX3 := Lib.hid hX3; have HY3 := Lib.hid hY3; have HBW3 := Lib.hid hbw3; obtain ⟨x0, x1, x2, x3, x4, x5, x6⟩ := hX3.facts; have hzX := Blk.lt hX3; clear hX3 hY3 hbw3))
  go_cut [] (fun wx => ABox wx w3.heap.size ad u1 ⟨#[97, 97]⟩ 0 fr fr ∧ Below w3.heap.size w3 wx)
  case first =>
    rcases K1.out with ⟨rfl, rfl⟩ | ⟨g1, b1, o1, rfl, h1⟩
    · go_wp2_with fail
      go_meet
      exact ⟨World.alloc_heap_new _ _, balloc (Below.refl _ _) _⟩
    · have j1 := Lib.cell?_alloc_some (.cells #[.string ad, .string ⟨#[97]⟩, .string ⟨#[97, 97]⟩, .int .i64 0, .int .i64 fr, .int .i64 fr] 49) (cell_keep HBW3.out h1)
      have e1 : (0 : Int) < (na : Int) := by omega
      clear h1
      go_wp2_with fail
      go_meet
      exact ⟨World.alloc_heap_new _ _, balloc (Below.refl _ _) _⟩
  case rest =>
    obtain ⟨hYc, hbc⟩ := hcut
    clear x0 x1 x2 x3 x4 x5 x6
    (have hXc : CBox wc w.heap.size fr till pat A na ca B nb cb S ns cs us := Blk.keep HX3.out hbc; obtain ⟨x0, x1, x2, x3, x4, x5, x6⟩ := hXc.facts; obtain ⟨y0, y1, y2, y3, y4, y5⟩ := hYc.facts; have f1 := Blk.free0 hYc 1; have f2 := Blk.free0 hYc 2; have f3 := Blk.free0 hYc 3; have hzc := Blk.lt hYc; have hbwc := bstep HBW3.out hbc)
    have HY1 := Lib.hid hYc; have HB1 := Lib.hid hbc
    clear hYc hXc
    obtain ⟨W1, rfl⟩ : ∃ W1 : World, W1 = wc := ⟨_, rfl⟩
    go_upto_if 33 with fail
    go_cut [] (fun wx => ABox wx w3.heap.size ad u1 u2 0 fr fr ∧ Below w3.heap.size w3 wx)
    case first =>
      rcases K2.out with ⟨rfl, rfl⟩ | ⟨g1, b1, o1, rfl, h1⟩
      · go_wp2_with fail
        go_meet
        exact ⟨HY1.out, HB1.out⟩
      · have j1 := cell_keep hbwc h1
        have e1 : (0 : Int) < (nb : Int) := by omega
        clear h1
        go_wp2_with fail
        go_meet
        exact ⟨ABox.set2 HY1.out, HB1.out.setCell (p := ⟨w3.heap.size, 2, none⟩) (Nat.le_refl _) _⟩
    case rest =>
      obtain ⟨hYc, hbc⟩ := hcut
      clear x0 x1 x2 x3 x4 x5 x6 y0 y1 y2 y3 y4 y5 f1 f2 f3 hzc hbwc
      (have hXc : CBox wc w.heap.size fr till pat A na ca B nb cb S ns cs us := Blk.keep HX3.out hbc; obtain ⟨x0, x1, x2, x3, x4, x5, x6⟩ := hXc.facts; obtain ⟨y0, y1, y2, y3, y4, y5⟩ := hYc.facts; have f1 := Blk.free0 hYc 1; have f2 := Blk.free0 hYc 2; have f3 := Blk.free0 hYc 3; have hzc := Blk.lt hYc; have hbwc := bstep HBW3.out hbc)
      have HY2 := Lib.hid hYc; have HB2 := Lib.hid hbc
      clear hYc hXc
      obtain ⟨W2, rfl⟩ : ∃ W2 : World, W2 = wc := ⟨_, rfl⟩
      go_upto_if 42 with fail
      go_cut [] (fun wx => ABox wx w3.heap.size ad u1 u2 u3 fr fr ∧ Below w3.heap.size w3 wx)
      case first =>
        rcases K3.out with ⟨rfl, rfl⟩ | ⟨g1, b1, o1, rfl, h1⟩
        · go_wp2_with fail
          go_meet
          exact ⟨HY2.out, HB2.out⟩
        · have j1 := cell_keep hbwc h1
          have e1 : (0 : Int) < (ns : Int) := by omega
          clear h1
          go_wp2_with fail
          go_meet
          exact ⟨ABox.set3 HY2.out, HB2.out.setCell (p := ⟨w3.heap.size, 3, none⟩) (Nat.le_refl _) _⟩
      case rest =>
        obtain ⟨hYc, hbc⟩ := hcut
        clear x0 x1 x2 x3 x4 x5 x6 y0 y1 y2 y3 y4 y5 f1 f2 f3 hzc hbwc
        have hRc : ABox wc (w.heap.size + 1) ⟨#[]⟩ ⟨#[]⟩ ⟨#[]⟩ 0 0 0 := Blk.keep HY3.out hbc
        obtain ⟨y0, y1, y2, y3, y4, y5⟩ := hYc.facts
        obtain ⟨r0, r1, r2, r3, r4, r5⟩ := hRc.facts
        have z0 := hRc.free0 0; have z1 := hRc.free0 1; have z2 := hRc.free0 2; have z3 := hRc.free0 3; have z4 := hRc.free0 4; have z5 := hRc.free0 5
        have hbwc := bstep HBW3.out hbc
        have HRc := Lib.hid hRc
        clear hYc hRc
        go_wp2_with fail
        obtain ⟨p0, p1, p2, p3, p4, p5⟩ := (HRc.out.put ad u1 u2 u3 fr fr).facts
        clear r0 r1 r2 r3 r4 r5 y0 y1 y2 y3 y4 y5 z0 z1 z2 z3 z4 z5
        exact bodyPost_ret (v := .agg #[.string ad, .string u1, .string u2, .int .i64 u3, .int .i64 fr, .int .i64 fr]) (by simp only [results, Tryz.results84]; simp [go_sem, p0, p1, p2, p3, p4, p5]) rfl ⟨rfl, below_put6 hbwc (Nat.le_succ _) _ _ _ _ _ _⟩
end Go.Proofs.YtmlhecjhjjlhfaaGreatDoor
namespace Go.Proofs.YtmlhecjhjjlhfaaGreatDoor
open Go.RowKit Go.Sort
set_option linter.unusedVariables false
set_option linter.unusedSimpArgs false
set_option maxRecDepth 100000
def fieldsC (c : CondV) : List ByteArray := [itoaB c.fr, itoaB c.till, orT c.pat ⟨#[126]⟩, joinT c.cl, joinT c.co, joinT (c.si.map itoaB), itoaB c.us]
def textC (c : CondV) : ByteArray := ⟨(Lib.join ((fieldsC c).map (·.data.toList)) [32]).toArray⟩
end Go.Proofs.YtmlhecjhjjlhfaaGreatDoor
