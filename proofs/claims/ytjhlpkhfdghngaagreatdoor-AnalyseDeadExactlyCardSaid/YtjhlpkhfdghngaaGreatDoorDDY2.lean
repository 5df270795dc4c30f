/- What the specification's ValidAsk returns. -/
import Derived.Test.YtjhlpkhfdghngaaGreatDoorDDY1
import Derived.Test.YtjhlpkhfdghngaaGreatDoorGZ48
namespace Go.Proofs.YtjhlpkhfdghngaaGreatDoor
open Go.RowKit Go.Sort
set_option linter.unusedVariables false
set_option linter.unusedSimpArgs false
set_option maxRecDepth 100000
set_option maxHeartbeats 8000000 in
theorem rValidAsk_any (a : AskV) (w : World) (h1 : a.addr.size ≤ 100000) (h2 : a.client.size ≤ 100000) (h3 : a.country.size ≤ 100000) : Calls Tryz.prog 28 #[AskV.val a] w (Ret w (.bool (validAsk a))) := by
 obtain ⟨ad, cl, co, si, lo, hi⟩ := a
 dsimp only at h1 h2 h3
 unfold AskV.val
 dsimp only
 obtain ⟨V, hV⟩ : ∃ V, V = validAsk ⟨ad, cl, co, si, lo, hi⟩ := ⟨_, rfl⟩
 rw [← hV]
 unfold validAsk siteB at hV
 dsimp only at hV
 have c1 := fun W => rCanon_any ad W (by omega)
 have c2 := fun W => rName_any cl W (by omega)
 have c3 := fun W => rCountry_any co W (by omega)
 generalize readB ad = b1 at *
 generalize isNameB cl = b2 at *
 generalize countryB co = b3 at *
 have C1 := Lib.hid c1
 have C2 := Lib.hid c2
 have C3 := Lib.hid c3
 clear c1 c2 c3 h1 h2 h3
 cases b1
 ·obtain rfl : V = false := by rw [hV]; rfl
  clear hV
  (go_enter Tryz.func28, Tryz.ntmps28; go_wp2_with (first | (go_at_call 89; refine (C1.out _).mono ?_; rintro e w2 ⟨rfl, hb2⟩; (have hX2 : Blk w2 w.heap.size 55 #[.string ad, .string cl, .string co, .int .i64 si, .int .i64 lo, .int .i64 hi] (0, 0) := (by first | exact Blk.keep hX2 hb2 | exact Blk.keep (World.alloc_heap_new _ _) hb2); have x0 := hX2.cell 0; have x1 := hX2.cell 1; have x2 := hX2.cell 2; have x3 := hX2.cell 3; have x4 := hX2.cell 4; have x5 := hX2.cell 5)) | (go_at_call 53; refine (C2.out _).mono ?_; rintro e w2 ⟨rfl, hb2⟩; (have hX2 : Blk w2 w.heap.size 55 #[.string ad, .string cl, .string co, .int .i64 si, .int .i64 lo, .int .i64 hi] (0, 0) := (by first | exact Blk.keep hX2 hb2 | exact Blk.keep (World.alloc_heap_new _ _) hb2); have x0 := hX2.cell 0; have x1 := hX2.cell 1; have x2 := hX2.cell 2; have x3 := hX2.cell 3; have x4 := hX2.cell 4; have x5 := hX2.cell 5)) | (go_at_call 90; refine (C3.out _).mono ?_; rintro e w2 ⟨rfl, hb2⟩; (have hX2 : Blk w2 w.heap.size 55 #[.string ad, .string cl, .string co, .int .i64 si, .int .i64 lo, .int .i64 hi] (0, 0) := (by first | exact Blk.keep hX2 hb2 | exact Blk.keep (World.alloc_heap_new _ _) hb2); have x0 := hX2.cell 0; have x1 := hX2.cell 1; have x2 := hX2.cell 2; have x3 := hX2.cell 3; have x4 := hX2.cell 4; have x5 := hX2.cell 5))); go_ret; exact ⟨rfl, belB⟩)
 cases b2
 ·obtain rfl : V = false := by rw [hV]; rfl
  clear hV
  (go_enter Tryz.func28, Tryz.ntmps28; go_wp2_with (first | (go_at_call 89; refine (C1.out _).mono ?_; rintro e w2 ⟨rfl, hb2⟩; (have hX2 : Blk w2 w.heap.size 55 #[.string ad, .string cl, .string co, .int .i64 si, .int .i64 lo, .int .i64 hi] (0, 0) := (by first | exact Blk.keep hX2 hb2 | exact Blk.keep (World.alloc_heap_new _ _) hb2); have x0 := hX2.cell 0; have x1 := hX2.cell 1; have x2 := hX2.cell 2; have x3 := hX2.cell 3; have x4 := hX2.cell 4; have x5 := hX2.cell 5)) | (go_at_call 53; refine (C2.out _).mono ?_; rintro e w2 ⟨rfl, hb2⟩; (have hX2 : Blk w2 w.heap.size 55 #[.string ad, .string cl, .string co, .int .i64 si, .int .i64 lo, .int .i64 hi] (0, 0) := (by first | exact Blk.keep hX2 hb2 | exact Blk.keep (World.alloc_heap_new _ _) hb2); have x0 := hX2.cell 0; have x1 := hX2.cell 1; have x2 := hX2.cell 2; have x3 := hX2.cell 3; have x4 := hX2.cell 4; have x5 := hX2.cell 5)) | (go_at_call 90; refine (C3.out _).mono ?_; rintro e w2 ⟨rfl, hb2⟩; (have hX2 : Blk w2 w.heap.size 55 #[.string ad, .string cl, .string co, .int .i64 si, .int .i64 lo, .int .i64 hi] (0, 0) := (by first | exact Blk.keep hX2 hb2 | exact Blk.keep (World.alloc_heap_new _ _) hb2); have x0 := hX2.cell 0; have x1 := hX2.cell 1; have x2 := hX2.cell 2; have x3 := hX2.cell 3; have x4 := hX2.cell 4; have x5 := hX2.cell 5))); go_ret; exact ⟨rfl, belB⟩)
 cases b3
 ·obtain rfl : V = false := by rw [hV]; rfl
  clear hV
  (go_enter Tryz.func28, Tryz.ntmps28; go_wp2_with (first | (go_at_call 89; refine (C1.out _).mono ?_; rintro e w2 ⟨rfl, hb2⟩; (have hX2 : Blk w2 w.heap.size 55 #[.string ad, .string cl, .string co, .int .i64 si, .int .i64 lo, .int .i64 hi] (0, 0) := (by first | exact Blk.keep hX2 hb2 | exact Blk.keep (World.alloc_heap_new _ _) hb2); have x0 := hX2.cell 0; have x1 := hX2.cell 1; have x2 := hX2.cell 2; have x3 := hX2.cell 3; have x4 := hX2.cell 4; have x5 := hX2.cell 5)) | (go_at_call 53; refine (C2.out _).mono ?_; rintro e w2 ⟨rfl, hb2⟩; (have hX2 : Blk w2 w.heap.size 55 #[.string ad, .string cl, .string co, .int .i64 si, .int .i64 lo, .int .i64 hi] (0, 0) := (by first | exact Blk.keep hX2 hb2 | exact Blk.keep (World.alloc_heap_new _ _) hb2); have x0 := hX2.cell 0; have x1 := hX2.cell 1; have x2 := hX2.cell 2; have x3 := hX2.cell 3; have x4 := hX2.cell 4; have x5 := hX2.cell 5)) | (go_at_call 90; refine (C3.out _).mono ?_; rintro e w2 ⟨rfl, hb2⟩; (have hX2 : Blk w2 w.heap.size 55 #[.string ad, .string cl, .string co, .int .i64 si, .int .i64 lo, .int .i64 hi] (0, 0) := (by first | exact Blk.keep hX2 hb2 | exact Blk.keep (World.alloc_heap_new _ _) hb2); have x0 := hX2.cell 0; have x1 := hX2.cell 1; have x2 := hX2.cell 2; have x3 := hX2.cell 3; have x4 := hX2.cell 4; have x5 := hX2.cell 5))); go_ret; exact ⟨rfl, belB⟩)
 by_cases t1 : 0 ≤ si
 rotate_left
 ·obtain rfl : V = false := by rw [hV]; simp [t1]
  have d1 : decide (0 ≤ si) = false := decide_eq_false t1
  clear hV
  (go_enter Tryz.func28, Tryz.ntmps28; go_wp2_with (first | (go_at_call 89; refine (C1.out _).mono ?_; rintro e w2 ⟨rfl, hb2⟩; (have hX2 : Blk w2 w.heap.size 55 #[.string ad, .string cl, .string co, .int .i64 si, .int .i64 lo, .int .i64 hi] (0, 0) := (by first | exact Blk.keep hX2 hb2 | exact Blk.keep (World.alloc_heap_new _ _) hb2); have x0 := hX2.cell 0; have x1 := hX2.cell 1; have x2 := hX2.cell 2; have x3 := hX2.cell 3; have x4 := hX2.cell 4; have x5 := hX2.cell 5)) | (go_at_call 53; refine (C2.out _).mono ?_; rintro e w2 ⟨rfl, hb2⟩; (have hX2 : Blk w2 w.heap.size 55 #[.string ad, .string cl, .string co, .int .i64 si, .int .i64 lo, .int .i64 hi] (0, 0) := (by first | exact Blk.keep hX2 hb2 | exact Blk.keep (World.alloc_heap_new _ _) hb2); have x0 := hX2.cell 0; have x1 := hX2.cell 1; have x2 := hX2.cell 2; have x3 := hX2.cell 3; have x4 := hX2.cell 4; have x5 := hX2.cell 5)) | (go_at_call 90; refine (C3.out _).mono ?_; rintro e w2 ⟨rfl, hb2⟩; (have hX2 : Blk w2 w.heap.size 55 #[.string ad, .string cl, .string co, .int .i64 si, .int .i64 lo, .int .i64 hi] (0, 0) := (by first | exact Blk.keep hX2 hb2 | exact Blk.keep (World.alloc_heap_new _ _) hb2); have x0 := hX2.cell 0; have x1 := hX2.cell 1; have x2 := hX2.cell 2; have x3 := hX2.cell 3; have x4 := hX2.cell 4; have x5 := hX2.cell 5))); go_ret; exact ⟨rfl, belB⟩)
 have d1 : decide (0 ≤ si) = true := decide_eq_true t1
 by_cases t2 : si < 64
 rotate_left
 ·obtain rfl : V = false := by rw [hV]; simp [t2]
  have d2 : decide (si < 64) = false := decide_eq_false t2
  clear hV
  (go_enter Tryz.func28, Tryz.ntmps28; go_wp2_with (first | (go_at_call 89; refine (C1.out _).mono ?_; rintro e w2 ⟨rfl, hb2⟩; (have hX2 : Blk w2 w.heap.size 55 #[.string ad, .string cl, .string co, .int .i64 si, .int .i64 lo, .int .i64 hi] (0, 0) := (by first | exact Blk.keep hX2 hb2 | exact Blk.keep (World.alloc_heap_new _ _) hb2); have x0 := hX2.cell 0; have x1 := hX2.cell 1; have x2 := hX2.cell 2; have x3 := hX2.cell 3; have x4 := hX2.cell 4; have x5 := hX2.cell 5)) | (go_at_call 53; refine (C2.out _).mono ?_; rintro e w2 ⟨rfl, hb2⟩; (have hX2 : Blk w2 w.heap.size 55 #[.string ad, .string cl, .string co, .int .i64 si, .int .i64 lo, .int .i64 hi] (0, 0) := (by first | exact Blk.keep hX2 hb2 | exact Blk.keep (World.alloc_heap_new _ _) hb2); have x0 := hX2.cell 0; have x1 := hX2.cell 1; have x2 := hX2.cell 2; have x3 := hX2.cell 3; have x4 := hX2.cell 4; have x5 := hX2.cell 5)) | (go_at_call 90; refine (C3.out _).mono ?_; rintro e w2 ⟨rfl, hb2⟩; (have hX2 : Blk w2 w.heap.size 55 #[.string ad, .string cl, .string co, .int .i64 si, .int .i64 lo, .int .i64 hi] (0, 0) := (by first | exact Blk.keep hX2 hb2 | exact Blk.keep (World.alloc_heap_new _ _) hb2); have x0 := hX2.cell 0; have x1 := hX2.cell 1; have x2 := hX2.cell 2; have x3 := hX2.cell 3; have x4 := hX2.cell 4; have x5 := hX2.cell 5))); go_ret; exact ⟨rfl, belB⟩)
 have d2 : decide (si < 64) = true := decide_eq_true t2
 by_cases t3 : 0 ≤ lo
 rotate_left
 ·obtain rfl : V = false := by rw [hV]; simp [t3]
  have d3 : decide (0 ≤ lo) = false := decide_eq_false t3
  clear hV
  (go_enter Tryz.func28, Tryz.ntmps28; go_wp2_with (first | (go_at_call 89; refine (C1.out _).mono ?_; rintro e w2 ⟨rfl, hb2⟩; (have hX2 : Blk w2 w.heap.size 55 #[.string ad, .string cl, .string co, .int .i64 si, .int .i64 lo, .int .i64 hi] (0, 0) := (by first | exact Blk.keep hX2 hb2 | exact Blk.keep (World.alloc_heap_new _ _) hb2); have x0 := hX2.cell 0; have x1 := hX2.cell 1; have x2 := hX2.cell 2; have x3 := hX2.cell 3; have x4 := hX2.cell 4; have x5 := hX2.cell 5)) | (go_at_call 53; refine (C2.out _).mono ?_; rintro e w2 ⟨rfl, hb2⟩; (have hX2 : Blk w2 w.heap.size 55 #[.string ad, .string cl, .string co, .int .i64 si, .int .i64 lo, .int .i64 hi] (0, 0) := (by first | exact Blk.keep hX2 hb2 | exact Blk.keep (World.alloc_heap_new _ _) hb2); have x0 := hX2.cell 0; have x1 := hX2.cell 1; have x2 := hX2.cell 2; have x3 := hX2.cell 3; have x4 := hX2.cell 4; have x5 := hX2.cell 5)) | (go_at_call 90; refine (C3.out _).mono ?_; rintro e w2 ⟨rfl, hb2⟩; (have hX2 : Blk w2 w.heap.size 55 #[.string ad, .string cl, .string co, .int .i64 si, .int .i64 lo, .int .i64 hi] (0, 0) := (by first | exact Blk.keep hX2 hb2 | exact Blk.keep (World.alloc_heap_new _ _) hb2); have x0 := hX2.cell 0; have x1 := hX2.cell 1; have x2 := hX2.cell 2; have x3 := hX2.cell 3; have x4 := hX2.cell 4; have x5 := hX2.cell 5))); go_ret; exact ⟨rfl, belB⟩)
 have d3 : decide (0 ≤ lo) = true := decide_eq_true t3
 by_cases t4 : lo ≤ hi
 rotate_left
 ·obtain rfl : V = false := by rw [hV]; simp [t4]
  have d4 : decide (lo ≤ hi) = false := decide_eq_false t4
  clear hV
  (go_enter Tryz.func28, Tryz.ntmps28; go_wp2_with (first | (go_at_call 89; refine (C1.out _).mono ?_; rintro e w2 ⟨rfl, hb2⟩; (have hX2 : Blk w2 w.heap.size 55 #[.string ad, .string cl, .string co, .int .i64 si, .int .i64 lo, .int .i64 hi] (0, 0) := (by first | exact Blk.keep hX2 hb2 | exact Blk.keep (World.alloc_heap_new _ _) hb2); have x0 := hX2.cell 0; have x1 := hX2.cell 1; have x2 := hX2.cell 2; have x3 := hX2.cell 3; have x4 := hX2.cell 4; have x5 := hX2.cell 5)) | (go_at_call 53; refine (C2.out _).mono ?_; rintro e w2 ⟨rfl, hb2⟩; (have hX2 : Blk w2 w.heap.size 55 #[.string ad, .string cl, .string co, .int .i64 si, .int .i64 lo, .int .i64 hi] (0, 0) := (by first | exact Blk.keep hX2 hb2 | exact Blk.keep (World.alloc_heap_new _ _) hb2); have x0 := hX2.cell 0; have x1 := hX2.cell 1; have x2 := hX2.cell 2; have x3 := hX2.cell 3; have x4 := hX2.cell 4; have x5 := hX2.cell 5)) | (go_at_call 90; refine (C3.out _).mono ?_; rintro e w2 ⟨rfl, hb2⟩; (have hX2 : Blk w2 w.heap.size 55 #[.string ad, .string cl, .string co, .int .i64 si, .int .i64 lo, .int .i64 hi] (0, 0) := (by first | exact Blk.keep hX2 hb2 | exact Blk.keep (World.alloc_heap_new _ _) hb2); have x0 := hX2.cell 0; have x1 := hX2.cell 1; have x2 := hX2.cell 2; have x3 := hX2.cell 3; have x4 := hX2.cell 4; have x5 := hX2.cell 5))); go_ret; exact ⟨rfl, belB⟩)
 have d4 : decide (lo ≤ hi) = true := decide_eq_true t4
 obtain rfl : V = decide (hi ≤ 1099511627776) := by rw [hV]; simp [t1, t2, t3, t4]
 clear hV
 (go_enter Tryz.func28, Tryz.ntmps28; go_wp2_with (first | (go_at_call 89; refine (C1.out _).mono ?_; rintro e w2 ⟨rfl, hb2⟩; (have hX2 : Blk w2 w.heap.size 55 #[.string ad, .string cl, .string co, .int .i64 si, .int .i64 lo, .int .i64 hi] (0, 0) := (by first | exact Blk.keep hX2 hb2 | exact Blk.keep (World.alloc_heap_new _ _) hb2); have x0 := hX2.cell 0; have x1 := hX2.cell 1; have x2 := hX2.cell 2; have x3 := hX2.cell 3; have x4 := hX2.cell 4; have x5 := hX2.cell 5)) | (go_at_call 53; refine (C2.out _).mono ?_; rintro e w2 ⟨rfl, hb2⟩; (have hX2 : Blk w2 w.heap.size 55 #[.string ad, .string cl, .string co, .int .i64 si, .int .i64 lo, .int .i64 hi] (0, 0) := (by first | exact Blk.keep hX2 hb2 | exact Blk.keep (World.alloc_heap_new _ _) hb2); have x0 := hX2.cell 0; have x1 := hX2.cell 1; have x2 := hX2.cell 2; have x3 := hX2.cell 3; have x4 := hX2.cell 4; have x5 := hX2.cell 5)) | (go_at_call 90; refine (C3.out _).mono ?_; rintro e w2 ⟨rfl, hb2⟩; (have hX2 : Blk w2 w.heap.size 55 #[.string ad, .string cl, .string co, .int .i64 si, .int .i64 lo, .int .i64 hi] (0, 0) := (by first | exact Blk.keep hX2 hb2 | exact Blk.keep (World.alloc_heap_new _ _) hb2); have x0 := hX2.cell 0; have x1 := hX2.cell 1; have x2 := hX2.cell 2; have x3 := hX2.cell 3; have x4 := hX2.cell 4; have x5 := hX2.cell 5))); go_ret; exact ⟨rfl, belB⟩)
end Go.Proofs.YtjhlpkhfdghngaaGreatDoor
namespace Go.Proofs.YtjhlpkhfdghngaaGreatDoor
open Go.RowKit Go.Sort
set_option linter.unusedVariables false
set_option linter.unusedSimpArgs false
set_option maxRecDepth 100000
theorem not_holds {c : CondV} (hc : CondOk c) (he : c.till ≤ c.fr) (a : AskV) : holdsC c a = false := by
 cases h : holdsC c a
 ·rfl
 ·obtain ⟨k1, k2, _⟩ := (holds_iff hc a).1 h
  have := ask_times k1
  omega
end Go.Proofs.YtjhlpkhfdghngaaGreatDoor
namespace Go.Proofs.YtjhlpkhfdghngaaGreatDoor
open Go.RowKit Go.Sort
set_option linter.unusedVariables false
set_option linter.unusedSimpArgs false
set_option maxRecDepth 100000
attribute [local go_sem] Oper.semAt_some
theorem ints_at {xs : List Int} {k : Nat} {u : Value} (h : (xs.map (Value.int .i64))[k]? = some u) : ∃ x, xs[k]? = some x ∧ u = .int .i64 x := by
 rw [List.getElem?_map, Option.map_eq_some_iff] at h
 obtain ⟨x, hx, rfl⟩ := h
 exact ⟨x, hx, rfl⟩
end Go.Proofs.YtjhlpkhfdghngaaGreatDoor
namespace Go.Proofs.YtjhlpkhfdghngaaGreatDoor
open Go.RowKit Go.Sort
set_option linter.unusedVariables false
set_option linter.unusedSimpArgs false
set_option maxRecDepth 100000
theorem e7 : validC (cIn []) = true := by kernel_rfl
theorem e8 : validC (cIn allSites) = true := by kernel_rfl
end Go.Proofs.YtjhlpkhfdghngaaGreatDoor
namespace Go.Proofs.YtjhlpkhfdghngaaGreatDoor
open Go.RowKit Go.Sort
set_option linter.unusedVariables false
set_option linter.unusedSimpArgs false
set_option maxRecDepth 100000
set_option maxHeartbeats 4000000 in
theorem rFew22_head (x : RuleM) (w : World) (hR : RuleReads w x) (hbad : (decide (x.r.name.size ≤ 200) && decide (x.r.pat.size ≤ 200) && decide (x.r.prog.size ≤ 200) && decide (x.r.tags.length ≤ 10) && decide (x.r.vary.length ≤ 10) && fewCR x.r.allow) = false) :
  Calls Tryz.prog 40 #[x.val] w (Ret w (.bool false)) := by
 have cF := fun W (hb : Below w.heap.size w W) => rFew_any x.r.allow.fr x.r.allow.till x.r.allow.us x.r.allow.pat x.m.A x.m.B x.m.S x.r.allow.cl.length x.m.ca x.r.allow.co.length x.m.cb x.r.allow.si.length x.m.cs x.r.allow.cl x.r.allow.co W (hR.allow.cl.keep hb) (hR.allow.co.keep hb)
 have hfc : fewC x.r.allow.cl.length x.r.allow.co.length x.r.allow.si.length x.r.allow.pat x.r.allow.cl x.r.allow.co = fewCR x.r.allow := rfl
 rw [hfc] at cF
 generalize fewCR x.r.allow = fc at *
 rw [RuleM.val_eq]
 have HF := Lib.hid cF
 clear cF hR hfc
 by_cases h0 : x.r.name.size ≤ 200
 rotate_left
 ·have d0 : decide ((200 : Int) < (x.r.name.size : Int)) = true := decide_eq_true (by omega)
  clear hbad
  go_enter Tryz.func40, Tryz.ntmps40
  go_wp2
  go_ret
  exact ⟨rfl, belB⟩
 have d0 : decide ((200 : Int) < (x.r.name.size : Int)) = false := decide_eq_false (by omega)
 by_cases h1 : x.r.pat.size ≤ 200
 rotate_left
 ·have d1 : decide ((200 : Int) < (x.r.pat.size : Int)) = true := decide_eq_true (by omega)
  clear hbad
  go_enter Tryz.func40, Tryz.ntmps40
  go_wp2
  go_ret
  exact ⟨rfl, belB⟩
 have d1 : decide ((200 : Int) < (x.r.pat.size : Int)) = false := decide_eq_false (by omega)
 by_cases h2 : x.r.prog.size ≤ 200
 rotate_left
 ·have d2 : decide ((200 : Int) < (x.r.prog.size : Int)) = true := decide_eq_true (by omega)
  clear hbad
  go_enter Tryz.func40, Tryz.ntmps40
  go_wp2
  go_ret
  exact ⟨rfl, belB⟩
 have d2 : decide ((200 : Int) < (x.r.prog.size : Int)) = false := decide_eq_false (by omega)
 by_cases h3 : x.r.tags.length ≤ 10
 rotate_left
 ·have d3 : decide ((10 : Int) < (x.r.tags.length : Int)) = true := decide_eq_true (by omega)
  clear hbad
  go_enter Tryz.func40, Tryz.ntmps40
  go_wp2
  go_ret
  exact ⟨rfl, belB⟩
 have d3 : decide ((10 : Int) < (x.r.tags.length : Int)) = false := decide_eq_false (by omega)
 by_cases h4 : x.r.vary.length ≤ 10
 rotate_left
 ·have d4 : decide ((10 : Int) < (x.r.vary.length : Int)) = true := decide_eq_true (by omega)
  clear hbad
  go_enter Tryz.func40, Tryz.ntmps40
  go_wp2
  go_ret
  exact ⟨rfl, belB⟩
 have d4 : decide ((10 : Int) < (x.r.vary.length : Int)) = false := decide_eq_false (by omega)
 obtain rfl : fc = false := by simpa [h0, h1, h2, h3, h4] using hbad
 clear hbad
 go_enter Tryz.func40, Tryz.ntmps40
 go_wp2_with (go_at_call 105; refine (HF.out _ belB).mono ?_; rintro e w2 ⟨rfl, hb2⟩)
 go_ret
 exact ⟨rfl, belB⟩
end Go.Proofs.YtjhlpkhfdghngaaGreatDoor
namespace Go.Proofs.YtjhlpkhfdghngaaGreatDoor
open Go.RowKit Go.Sort
set_option linter.unusedVariables false
set_option linter.unusedSimpArgs false
set_option maxRecDepth 100000
set_option maxHeartbeats 8000000 in
theorem rFew22_tail (x : RuleM) (w : World) (hR : RuleReads w x) (hgood : (decide (x.r.name.size ≤ 200) && decide (x.r.pat.size ≤ 200) && decide (x.r.prog.size ≤ 200) && decide (x.r.tags.length ≤ 10) && decide (x.r.vary.length ≤ 10) && fewCR x.r.allow) = true) :
  Calls Tryz.prog 40 #[x.val] w (Ret w (.bool (x.r.tags.all (fun x : ByteArray => decide (x.size ≤ 200)) && x.r.vary.all fewVy))) := by
 have cF := fun W (hb : Below w.heap.size w W) => rFew_any x.r.allow.fr x.r.allow.till x.r.allow.us x.r.allow.pat x.m.A x.m.B x.m.S x.r.allow.cl.length x.m.ca x.r.allow.co.length x.m.cb x.r.allow.si.length x.m.cs x.r.allow.cl x.r.allow.co W (hR.allow.cl.keep hb) (hR.allow.co.keep hb)
 have hfc : fewC x.r.allow.cl.length x.r.allow.co.length x.r.allow.si.length x.r.allow.pat x.r.allow.cl x.r.allow.co = fewCR x.r.allow := rfl
 rw [hfc] at cF
 generalize fewCR x.r.allow = fc at *
 simp only [Bool.and_eq_true, decide_eq_true_eq] at hgood
 obtain ⟨⟨⟨⟨⟨h0, h1⟩, h2⟩, h3⟩, h4⟩, rfl⟩ := hgood
 have d0 : decide ((200 : Int) < (x.r.name.size : Int)) = false := decide_eq_false (by omega)
 have d1 : decide ((200 : Int) < (x.r.pat.size : Int)) = false := decide_eq_false (by omega)
 have d2 : decide ((200 : Int) < (x.r.prog.size : Int)) = false := decide_eq_false (by omega)
 have d3 : decide ((10 : Int) < (x.r.tags.length : Int)) = false := decide_eq_false (by omega)
 have d4 : decide ((10 : Int) < (x.r.vary.length : Int)) = false := decide_eq_false (by omega)
 obtain ⟨V, hV⟩ : ∃ V, V = (x.r.tags.all (fun x : ByteArray => decide (x.size ≤ 200)) && x.r.vary.all fewVy) := ⟨_, rfl⟩
 rw [← hV]
 rw [RuleM.val_eq]
 have hA := hR.tags
 have hsame := hR.same
 have HF := Lib.hid cF; have HV := Lib.hid hV; have HA := Lib.hid hA; have HR := Lib.hid hR; have HSM := Lib.hid hsame
 have hvl : x.L.length = x.r.vary.length := by rw [← hsame, List.length_map]
 have HVL := Lib.hid hvl
 clear cF hR hfc hV hA hsame hvl h0 h1 h2
 go_enter Tryz.func40, Tryz.ntmps40
 go_wp2_with (go_at_call 105; refine (HF.out _ belB).mono ?_; rintro e w2 ⟨rfl, hb2⟩; have y2 : w2.cell? ⟨w.heap.size, 2, none⟩ = some (.slice x.T x.r.tags.length x.ct) := cell_keep hb2 ((cell_of_row _ _ 2 _ _ _ (heap_alloc_new w _)).trans rfl); have y7 : w2.cell? ⟨w.heap.size, 7, none⟩ = some (.slice x.V x.r.vary.length x.cv) := cell_keep hb2 ((cell_of_row _ _ 7 _ _ _ (heap_alloc_new w _)).trans rfl))
 have hbw2 : Below w.heap.size w w2 := belB
 clear d0 d1 d2 d3 d4 HF
 obtain ⟨n, hn⟩ : ∃ n, n = x.r.tags.length := ⟨_, rfl⟩
 obtain ⟨m, hm⟩ : ∃ m, m = x.r.vary.length := ⟨_, rfl⟩
 rw [← hn] at y2 HA h3
 rw [← hm] at y7 h4 HVL
 have HN := Lib.hid hn; have HMM := Lib.hid hm
 clear hn hm
 go_loopw [3] (fun vi wr => ∃ k : Nat, vi = .int .i64 k ∧ k ≤ n ∧ Hid ((x.r.tags.take k).all (fun x : ByteArray => decide (x.size ≤ 200)) = true) ∧ wr.cell? ⟨w.heap.size, 2, none⟩ = some (.slice x.T n x.ct) ∧ wr.cell? ⟨w.heap.size, 7, none⟩ = some (.slice x.V m x.cv) ∧ Below w.heap.size w wr ∧ w.heap.size < wr.heap.size) (fun i _ => n - (intOf i).toNat)
 case atStart => exact ⟨0, rfl, Nat.zero_le _, Lib.hid (by simp), y2, y7, hbw2, cell_lt y2⟩
 case round =>
  clear y2 y7 hbw2 hb2
  obtain ⟨k, rfl, hk, HK, y2, y7, hbr, hgr⟩ := hrel
  by_cases hlt : k < n
  ·obtain ⟨t, ht⟩ : ∃ t, x.r.tags[k]? = some t := ⟨_, List.getElem?_eq_getElem (by have := HN.out; omega)⟩
   obtain ⟨b, o, hT, hcell⟩ := (HA.out.keep hbr).2 (by omega)
   rw [hT] at y2
   have hc1 : wr.cell? ⟨b, o + k, none⟩ = some (.string t) := hcell k _ (by simp [ht])
   have hk0 : (0 : Int) ≤ (k : Int) := by omega
   have hk1 : (k : Int) < (n : Int) := by omega
   by_cases hs : t.size ≤ 200
   ·have HK2 : Hid ((x.r.tags.take (k + 1)).all (fun x : ByteArray => decide (x.size ≤ 200)) = true) := Lib.hid (all_take2 HK.out ht (by simpa using hs))
    have d5 : decide ((200 : Int) < (t.size : Int)) = false := decide_eq_false (by omega)
    have HTT := Lib.hid hT
    clear hcell ht HK hT
    go_wp2
    exact ⟨⟨k + 1, by go_num, by omega, HK2, by rw [HTT.out]; exact y2, y7, hbr, hgr⟩, by simp [intOf]; omega⟩
   ·obtain rfl : V = false := by rw [HV.out, all_false2 ht (by simpa using hs)]; rfl
    have d5 : decide ((200 : Int) < (t.size : Int)) = true := decide_eq_true (by omega)
    clear hcell ht HK hT
    go_wp2
    go_ret
    exact ⟨rfl, hbr⟩
  ·obtain rfl : k = n := by omega
   have hall : x.r.tags.all (fun x : ByteArray => decide (x.size ≤ 200)) = true := by
    have := HK.out
    rwa [List.take_of_length_le (by have := HN.out; omega)] at this
   have hv3 : V = x.r.vary.all fewVy := by rw [HV.out, hall, Bool.true_and]
   have HV2 := Lib.hid hv3
   clear hall hv3 HK HV
   go_wp2
   obtain ⟨wo, rfl⟩ : ∃ wo : World, wo = wr := ⟨_, rfl⟩
   clear y2 HA
   go_loopw [4] (fun vi wz => ∃ j : Nat, vi = .int .i64 j ∧ j ≤ m ∧ Hid ((x.r.vary.take j).all fewVy = true) ∧ wz.cell? ⟨w.heap.size, 7, none⟩ = some (.slice x.V m x.cv) ∧ Below w.heap.size w wz ∧ w.heap.size < wz.heap.size) (fun i _ => m - (intOf i).toNat)
   case atStart => exact ⟨0, rfl, Nat.zero_le _, Lib.hid (by simp), y7, hbr, hgr⟩
   case round =>
    clear y7 hbr hgr
    obtain ⟨j, rfl, hj, HJ, y7, hbr, hgr⟩ := hrel
    by_cases hlt2 : j < m
    ·obtain ⟨y, hy⟩ : ∃ y, x.L[j]? = some y := ⟨_, List.getElem?_eq_getElem (by have := HVL.out; omega)⟩
     have hxv : x.r.vary[j]? = some y.v := by rw [← HSM.out, List.getElem?_map, hy]; rfl
     obtain ⟨b, o, hVV, hcell⟩ := Reads.row (HR.out.vary.keep hbr) (fun a _ => a.cells_len) (by have := HVL.out; have := HMM.out; omega) hy
     have hyr := (HR.out.each y (List.mem_of_getElem? hy))
     rw [hVV] at y7
     have e0 : wr.cell? ⟨b, o + j * 3, none⟩ = some (.string y.v.header) := hcell 0 _ rfl
     have e1 : wr.cell? ⟨b, o + j * 3 + 1, none⟩ = some (.slice y.A y.v.values.length y.c) := hcell 1 _ rfl
     have e2 : wr.cell? ⟨b, o + j * 3 + 2, none⟩ = some (.string y.v.dflt) := hcell 2 _ rfl
     have hj0 : (0 : Int) ≤ (j : Int) := by omega
     have hj1 : (j : Int) < (m : Int) := by omega
     have HYR := Lib.hid hyr; have HVV := Lib.hid hVV
     clear hcell hy hyr hVV
     by_cases g0 : y.v.header.size ≤ 200
     rotate_left
     ·obtain rfl : V = false := by rw [HV2.out, all_false2 hxv (by simp [fewVy, g0])]
      have dg0 : decide ((200 : Int) < (y.v.header.size : Int)) = true := decide_eq_true (by omega)
      clear HJ hxv
      go_wp2
      go_ret
      exact ⟨rfl, belB⟩
     have dg0 : decide ((200 : Int) < (y.v.header.size : Int)) = false := decide_eq_false (by omega)
     by_cases g1 : y.v.dflt.size ≤ 200
     rotate_left
     ·obtain rfl : V = false := by rw [HV2.out, all_false2 hxv (by simp [fewVy, g1])]
      have dg1 : decide ((200 : Int) < (y.v.dflt.size : Int)) = true := decide_eq_true (by omega)
      clear HJ hxv
      go_wp2
      go_ret
      exact ⟨rfl, belB⟩
     have dg1 : decide ((200 : Int) < (y.v.dflt.size : Int)) = false := decide_eq_false (by omega)
     by_cases g2 : y.v.values.length ≤ 10
     rotate_left
     ·obtain rfl : V = false := by rw [HV2.out, all_false2 hxv (by simp [fewVy, g2])]
      have dg2 : decide ((10 : Int) < (y.v.values.length : Int)) = true := decide_eq_true (by omega)
      clear HJ hxv
      go_wp2
      go_ret
      exact ⟨rfl, belB⟩
     have dg2 : decide ((10 : Int) < (y.v.values.length : Int)) = false := decide_eq_false (by omega)
     have HXV := Lib.hid hxv
     clear hxv
     go_wp2
     obtain ⟨wv, hwv⟩ : ∃ wv : World, wv = wr := ⟨_, rfl⟩
     have z7 : (wr.alloc (.cells #[.string y.v.header, .slice y.A y.v.values.length y.c, .string y.v.dflt] 99)).cell? ⟨w.heap.size, 7, none⟩ = some (.slice (some ⟨b, o, none⟩) m x.cv) := cell_keep ((Below.refl wr.heap.size wr).alloc (Nat.le_refl _) _) y7
     have z1 : (wr.alloc (.cells #[.string y.v.header, .slice y.A y.v.values.length y.c, .string y.v.dflt] 99)).cell? ⟨wr.heap.size, 1, none⟩ = some (.slice y.A y.v.values.length y.c) := (cell_of_row _ _ 1 _ _ _ (heap_alloc_new wr _)).trans rfl
     have hb3 : Below w.heap.size w (wr.alloc (.cells #[.string y.v.header, .slice y.A y.v.values.length y.c, .string y.v.dflt] 99)) := belB
     clear e0 e1 e2 dg0 dg1 dg2 y7
     generalize hg : wr.heap.size = g at *
     have hgg : w.heap.size < g := hgr
     obtain ⟨q, hq⟩ : ∃ q, q = y.v.values.length := ⟨_, rfl⟩
     rw [← hq] at z1 z7 hb3 g2 ⊢
     have HQ := Lib.hid hq
     clear hq
     go_loopw [6] (fun vi wy => ∃ i : Nat, vi = .int .i64 i ∧ i ≤ q ∧ Hid ((y.v.values.take i).all (fun x : ByteArray => decide (x.size ≤ 200)) = true) ∧ wy.cell? ⟨w.heap.size, 7, none⟩ = some (.slice (some ⟨b, o, none⟩) m x.cv) ∧ wy.cell? ⟨g, 1, none⟩ = some (.slice y.A q y.c) ∧ Below w.heap.size w wy) (fun i _ => q - (intOf i).toNat)
     case atStart => exact ⟨0, rfl, Nat.zero_le _, Lib.hid (by simp), z7, z1, hb3⟩
     case round =>
      clear z7 z1 hb3 hbr
      obtain ⟨i, rfl, hi, HK3, z7, z1, hbr⟩ := hrel
      by_cases hlt3 : i < q
      ·obtain ⟨t, ht⟩ : ∃ t, y.v.values[i]? = some t := ⟨_, List.getElem?_eq_getElem (by have := HQ.out; omega)⟩
       obtain ⟨b3, o3, hYA, hcell⟩ := (Reads.keep HYR.out hbr).2 (by have := HQ.out; omega)
       rw [hYA] at z1
       have hc1 : wr.cell? ⟨b3, o3 + i, none⟩ = some (.string t) := hcell i _ (by simp [ht])
       have hi0 : (0 : Int) ≤ (i : Int) := by omega
       have hi1 : (i : Int) < (q : Int) := by omega
       by_cases hs : t.size ≤ 200
       ·have HK4 : Hid ((y.v.values.take (i + 1)).all (fun x : ByteArray => decide (x.size ≤ 200)) = true) := Lib.hid (all_take2 HK3.out ht (by simpa using hs))
        have d5 : decide ((200 : Int) < (t.size : Int)) = false := decide_eq_false (by omega)
        have HTT := Lib.hid hYA
        clear hcell ht HK3 hYA
        go_wp2
        exact ⟨⟨i + 1, by go_num, by omega, HK4, z7, by rw [HTT.out]; exact z1, hbr⟩, by simp [intOf]; omega⟩
       ·obtain rfl : V = false := by rw [HV2.out, all_false2 HXV.out (by simp [fewVy, all_false2 ht (p := (fun x : ByteArray => decide (x.size ≤ 200))) (by simpa using hs)])]
        have d5 : decide ((200 : Int) < (t.size : Int)) = true := decide_eq_true (by omega)
        clear hcell ht HK3 hYA
        go_wp2
        go_ret
        exact ⟨rfl, hbr⟩
      ·obtain rfl : i = q := by omega
       have hall : y.v.values.all (fun x : ByteArray => decide (x.size ≤ 200)) = true := by
        have := HK3.out
        rwa [List.take_of_length_le (by have := HQ.out; omega)] at this
       have hfv : fewVy y.v = true := by
        unfold fewVy
        rw [hall]
        have := HQ.out
        simp [g0, g1, ← HQ.out, g2]
       have HJ2 : Hid ((x.r.vary.take (j + 1)).all fewVy = true) := Lib.hid (all_take2 HJ.out HXV.out hfv)
       clear hall hfv HK3
       go_wp2
       exact ⟨⟨j + 1, by go_num, by omega, HJ2, by rw [HVV.out]; exact z7, hbr, cell_lt z7⟩, by simp [intOf]; omega⟩
    ·obtain rfl : j = m := by omega
     have hall : x.r.vary.all fewVy = true := by
      have := HJ.out
      rwa [List.take_of_length_le (by have := HMM.out; omega)] at this
     obtain rfl : V = true := by rw [HV2.out, hall]
     clear hall HJ
     go_wp2
     go_ret
     exact ⟨rfl, hbr⟩
theorem rFew22_any (x : RuleM) (w : World) (hR : RuleReads w x) : Calls Tryz.prog 40 #[x.val] w (Ret w (.bool (fewR x.r))) := by
 unfold fewR
 cases hc : (decide (x.r.name.size ≤ 200) && decide (x.r.pat.size ≤ 200) && decide (x.r.prog.size ≤ 200) && decide (x.r.tags.length ≤ 10) && decide (x.r.vary.length ≤ 10) && fewCR x.r.allow)
 ·rw [Bool.false_and, Bool.false_and]; exact rFew22_head x w hR hc
 ·rw [Bool.true_and]; exact rFew22_tail x w hR hc
end Go.Proofs.YtjhlpkhfdghngaaGreatDoor
namespace Go.Proofs.YtjhlpkhfdghngaaGreatDoor
open Go.RowKit Go.Sort
set_option linter.unusedVariables false
set_option linter.unusedSimpArgs false
set_option maxRecDepth 100000
set_option maxHeartbeats 4000000 in
theorem rFewRules22_any (p : RuleM → Bool) (A : Option Addr) (n c : Nat) (L : List RuleM) (most : Int) (w : World) (hL : RulesRead w A n L) (hn : n ≤ 9223372036854775807)
  (cP : ∀ x ∈ L, ∀ W, Below w.heap.size w W → Calls Tryz.prog 40 #[x.val] W (Ret W (.bool (p x)))) :
  Calls Tryz.prog 10 #[.slice A n c, .int .i64 most] w (Ret w (.bool (L.all p && decide ((n : Int) ≤ most)))) := by
 have hl : L.length = n := hL.len
 obtain ⟨V, hV⟩ : ∃ V, V = L.all p := ⟨_, rfl⟩
 rw [← hV]
 have HP := Lib.hid cP; have HA := Lib.hid hL; have HL := Lib.hid hl; have HV := Lib.hid hV
 clear cP hL hl hV
 go_enter Tryz.func10, Tryz.ntmps10
 go_wp2
 go_loopw [5] (fun i wr => ∃ k : Nat, k ≤ n ∧ i = .int .i64 k ∧ Hid (V = (L.drop k).all p) ∧ Below w.heap.size w wr) (fun i _ => n - (intOf i).toNat)
 case atStart => exact ⟨0, by omega, rfl, Lib.hid (by rw [HV.out]; rfl), Below.refl _ _⟩
 case round =>
  obtain ⟨k, hk, rfl, HI, hb⟩ := hrel
  by_cases hlt : k < n
  ·obtain ⟨x, hx⟩ : ∃ x, L[k]? = some x := ⟨_, List.getElem?_eq_getElem (by have := HL.out; omega)⟩
   obtain ⟨_, b, o, rfl, hcell⟩ := (HA.out.keep hb).at_ hx
   have hld := rule_load wr b (o + k * 18) x hcell
   have hc := HP.out x (List.mem_of_getElem? hx) wr hb
   have hk0 : (0 : Int) ≤ (k : Int) := by omega
   have hk1 : (k : Int) < (n : Int) := by omega
   clear hcell
   have hxv : x.val = x.val := rfl
   generalize x.val = xv at hld hc
   clear hxv
   have HLD := Lib.hid hld
   clear hld
   cases hpx : p x
   ·rw [hpx] at hc
    have HC := Lib.hid hc
    have hVf : V = false := by rw [HI.out]; exact all_stop _ _ _ _ hx hpx
    subst hVf
    clear hc hx hpx
    rw [Bool.false_and]
    go_wp2_with (first | (refine wpList_load_addr rfl _ _ rfl ⟨b, o + k * 18, none⟩ xv rfl HLD.out ?_) | (go_at_call 40; refine (HC.out).mono ?_; rintro e w2 ⟨rfl, hb2⟩))
    go_ret
    exact ⟨rfl, bstep hb hb2⟩
   ·rw [hpx] at hc
    have HC := Lib.hid hc
    have hVs : V = (L.drop (k + 1)).all p := by rw [HI.out]; exact all_step _ _ _ _ hx hpx
    have HI2 := Lib.hid hVs
    clear hc hx hpx hVs
    go_wp2_with (first | (refine wpList_load_addr rfl _ _ rfl ⟨b, o + k * 18, none⟩ xv rfl HLD.out ?_) | (go_at_call 40; refine (HC.out).mono ?_; rintro e w2 ⟨rfl, hb2⟩))
    exact ⟨⟨k + 1, by omega, by go_num, HI2, bstep hb hb2⟩, by simp [intOf]; omega⟩
  ·have hVt : V = true := by rw [HI.out, List.drop_eq_nil_of_le (by have := HL.out; omega)]; rfl
   subst hVt
   rw [Bool.true_and]
   go_wp2
   go_ret
   exact ⟨rfl, hb⟩
end Go.Proofs.YtjhlpkhfdghngaaGreatDoor
namespace Go.Proofs.YtjhlpkhfdghngaaGreatDoor
open Go.RowKit Go.Sort
set_option linter.unusedVariables false
set_option linter.unusedSimpArgs false
set_option maxRecDepth 100000
def fewA (a : AskV) : Bool := decide (a.addr.size ≤ 5000) && decide (a.client.size ≤ 5000) && decide (a.country.size ≤ 5000)
theorem fewA_fits {a : AskV} (h : fewA a = true) : AskFits a := by
 unfold fewA at h
 simp only [Bool.and_eq_true, decide_eq_true_eq] at h
 exact ⟨by omega, by omega, by omega⟩
theorem few_ask (a : AskV) (w : World) : Calls Tryz.prog 26 #[AskV.val a] w (Ret w (.bool (fewA a))) := rFewAsk_any a w
theorem match_size2 {q t : ByteArray} (h : matchB q t = true) : t.size ≤ 10000 := by
 unfold matchB at h
 split at h
 ·cases h
 ·rw [Bool.and_eq_true] at h
  have h2 := h.1
  unfold readB at h2
  rw [Bool.and_eq_true, Lib.toList_data, Lib.toList_data, beq_iff_eq] at h2
  rw [size_data, ← h2.2]
  exact parse_bound t
theorem holds_fits {c : CondV} {a : AskV} (h : holdsC c a = true) : AskFits a := by
 unfold holdsC at h
 simp only [Bool.and_eq_true] at h
 obtain ⟨⟨⟨⟨⟨⟨_, h2⟩, _⟩, h4⟩, _⟩, _⟩, _⟩ := h
 unfold validAsk countryB at h2
 simp only [Bool.and_eq_true, decide_eq_true_eq] at h2
 obtain ⟨⟨⟨⟨_, h5⟩, h6⟩, _⟩, _⟩ := h2
 have h7 := size_of_name h5
 have h8 := match_size2 h4
 exact ⟨by omega, by omega, by omega⟩
end Go.Proofs.YtjhlpkhfdghngaaGreatDoor
namespace Go.Proofs.YtjhlpkhfdghngaaGreatDoor
open Go.RowKit Go.Sort
set_option linter.unusedVariables false
set_option linter.unusedSimpArgs false
set_option maxRecDepth 100000
section
variable {P : Program}
theorem wp_load_addr {o : Oper} {a : Act} {w : World} {K : Act → World → Prop} {Q : Exit → Act → World → Prop} (ty : TypeId) (x : Operand) (ho : o.op = .load ty x)
  (ad : Addr) (v : Value) (hx : a.eval x = .pointer (some ad)) (hl : (loadVar ty ad).run P w = .ok v w) (h : K (a.put o.dst v) w) : o.wp P a w K Q := by
 unfold Oper.wp execOp
 simp only [ho, hx, Instr.loadAt, Instr.sureAddr, Sem.run_bind, Sem.run_pure, Result.andThen_ok, hl]
 exact h
end
end Go.Proofs.YtjhlpkhfdghngaaGreatDoor
namespace Go.Proofs.YtjhlpkhfdghngaaGreatDoor
open Go.RowKit Go.Sort
set_option linter.unusedVariables false
set_option linter.unusedSimpArgs false
set_option maxRecDepth 100000
theorem meet_miss {p q : ByteArray} (hp : (compileB p).isSome = true) (hq : patOk q = true) (hm : pmeet p q = none) (s : ByteArray) : (matchB p s && pmA q (parseB s).1) = false := by
 have h := pmA_meet (p := p) (q := q) (by unfold patOk; rw [hp]; simp) hq (parseB s).1
 rw [hm] at h
 rw [match_pm hp, Bool.and_assoc]
 dsimp only at h
 rw [← h, Bool.and_false]
theorem dead_empty {c : CondV} (hc : CondOk c) (he : c.till ≤ c.fr) (a : AskV) : holdsC c a = false := not_holds hc he a
theorem dead_apart {p : ByteArray} {c : CondV} (hp : (compileB p).isSome = true) (hc : CondOk c) (hm : pmeet p c.pat = none) (a : AskV) (h : holdsC c a = true) : matchB p a.addr = false := by
 obtain ⟨_, _, h3, _⟩ := (holds_iff hc a).1 h
 have := meet_miss hp hc.pat hm a.addr
 rw [h3, Bool.and_true] at this
 exact this
theorem dead_gap {l : List RuleP} {i : Nat} {r : RuleP} {c : CondV} {m s : ByteArray} (hr : l[i]? = some r) (hp : (compileB r.1).isSome = true) (hc : CondOk c) (hm : pmeet r.1 c.pat = some m) (hg : GapPost m (beforeR l i r.2) s false) (a : AskV) (h : holdsC c a = true) (t : ByteArray) : chooseR l a.addr t ≠ some i := by
 intro hch
 obtain ⟨r', hr', h1, h2⟩ := (choose_iff l a.addr t i).1 hch
 obtain rfl : r = r' := Option.some.inj (hr.symm.trans hr')
 unfold mtR at h1
 rw [Bool.and_eq_true] at h1
 obtain ⟨_, _, h3, _⟩ := (holds_iff hc a).1 h
 have hcm : (compileB m).isSome = true := by
  obtain ⟨x, ys, hx, _⟩ := hg
  rw [hx]; rfl
 have hma : matchB m a.addr = true := by rw [meet_match hp hc.pat hm hcm, h1.1, h3]; rfl
 obtain ⟨q, hq, hmq⟩ := gap_not hg a.addr hma
 obtain ⟨j, z, hj, hz, hs, rfl⟩ := before_mem.1 hq
 have := h2 j z hj hz
 unfold mtR at this
 rw [hmq, Bool.true_and] at this
 have h4 : z.2.all (hasTagB t) = true := all_has.2 fun x hx => all_has.1 h1.2 x ((subB_iff _ _).1 hs x hx)
 rw [h4] at this
 cases this
theorem shadow_dead {p : ByteArray} {c : CondV} {bs : List ByteArray} {m s s' : ByteArray} (hp : (compileB p).isSome = true) (hc : CondOk c) (hm : pmeet p c.pat = some m) (h1 : GapPost p bs s false) (h2 : GapPost m bs s' true) : False := by
 obtain ⟨g1, g2⟩ := gap_found h2
 have hcm : (compileB m).isSome = true := by
  obtain ⟨x, ys, hx, _⟩ := h2
  rw [hx]; rfl
 rw [meet_match hp hc.pat hm hcm, Bool.and_eq_true] at g1
 obtain ⟨q, hq, e⟩ := gap_not h1 s' g1.1
 rw [g2 q hq] at e
 cases e
end Go.Proofs.YtjhlpkhfdghngaaGreatDoor
namespace Go.Proofs.YtjhlpkhfdghngaaGreatDoor
open Go.RowKit Go.Sort
set_option linter.unusedVariables false
set_option linter.unusedSimpArgs false
set_option maxRecDepth 100000
def zAsk : Value := .agg #[.string ⟨#[]⟩, .string ⟨#[]⟩, .string ⟨#[]⟩, .int .i64 0, .int .i64 0, .int .i64 0]
set_option maxHeartbeats 8000000 in
theorem dead_bad (A : Option Addr) (n c : Nat) (i : Int) (L : List RuleM) (w : World) (hlen : L.length = n) (hbad : shOk L i = false) (hn : n ≤ 10) (cV : ∀ W, Below w.heap.size w W → Calls Tryz.prog 75 #[.slice A n c] W (Ret W (.bool (validL L)))) :
  Calls Tryz.prog 27 #[.slice A n c, .int .i64 i] w (Ret w (.tuple #[zAsk, .bool false, .int .i64 1])) := by
 unfold shOk at hbad
 have HV := Lib.hid cV
 clear cV
 unfold zAsk
 cases hv : validL L
 ·rw [hv] at HV
  clear hv hbad
  go_enter Tryz.func27, Tryz.ntmps27
  go_upto_region 1 with fail
  generalize hw0 : World.alloc _ _ = w0
  have hY : ABox w0 w.heap.size ⟨#[]⟩ ⟨#[]⟩ ⟨#[]⟩ 0 0 0 := by rw [← hw0]; exact heap_alloc_new w _
  have hbw : Below w.heap.size w w0 := by rw [← hw0]; exact balloc (Below.refl _ _) _
  clear hw0
  (obtain ⟨y0, y1, y2, y3, y4, y5⟩ := hY.facts; obtain ⟨z0, z1, z2, z3, z4, z5⟩ := hY.free)
  go_wp2_with (go_at_call 75; refine (HV.out _ hbw).mono ?_; (rintro e w' ⟨rfl, hb'⟩; replace hY := ABox.keepB hY hb'; replace hbw := bstep hbw hb'; clear hb'; (obtain ⟨y0, y1, y2, y3, y4, y5⟩ := hY.facts; obtain ⟨z0, z1, z2, z3, z4, z5⟩ := hY.free)))
  (obtain ⟨p0, p1, p2, p3, p4, p5⟩ := (hY.put ⟨#[]⟩ ⟨#[]⟩ ⟨#[]⟩ 0 0 0).facts; clear y0 y1 y2 y3 y4 y5 z0 z1 z2 z3 z4 z5)
  exact bodyPost_ret (v := .tuple #[.agg #[.string ⟨#[]⟩, .string ⟨#[]⟩, .string ⟨#[]⟩, .int .i64 0, .int .i64 0, .int .i64 0], .bool false, .int .i64 1]) (by simp only [results, Tryz.results27]; simp [go_sem, p0, p1, p2, p3, p4, p5]) rfl ⟨rfl, below_put6 hbw (Nat.le_refl _) _ _ _ _ _ _⟩
 rw [hv] at HV hbad
 rw [Bool.true_and] at hbad
 by_cases hi0 : i < 0
 ·have d0 : decide (i < 0) = true := decide_eq_true hi0
  clear hv hbad
  go_enter Tryz.func27, Tryz.ntmps27
  go_upto_region 1 with fail
  generalize hw0 : World.alloc _ _ = w0
  have hY : ABox w0 w.heap.size ⟨#[]⟩ ⟨#[]⟩ ⟨#[]⟩ 0 0 0 := by rw [← hw0]; exact heap_alloc_new w _
  have hbw : Below w.heap.size w w0 := by rw [← hw0]; exact balloc (Below.refl _ _) _
  clear hw0
  (obtain ⟨y0, y1, y2, y3, y4, y5⟩ := hY.facts; obtain ⟨z0, z1, z2, z3, z4, z5⟩ := hY.free)
  go_wp2_with (go_at_call 75; refine (HV.out _ hbw).mono ?_; (rintro e w' ⟨rfl, hb'⟩; replace hY := ABox.keepB hY hb'; replace hbw := bstep hbw hb'; clear hb'; (obtain ⟨y0, y1, y2, y3, y4, y5⟩ := hY.facts; obtain ⟨z0, z1, z2, z3, z4, z5⟩ := hY.free)))
  (obtain ⟨p0, p1, p2, p3, p4, p5⟩ := (hY.put ⟨#[]⟩ ⟨#[]⟩ ⟨#[]⟩ 0 0 0).facts; clear y0 y1 y2 y3 y4 y5 z0 z1 z2 z3 z4 z5)
  exact bodyPost_ret (v := .tuple #[.agg #[.string ⟨#[]⟩, .string ⟨#[]⟩, .string ⟨#[]⟩, .int .i64 0, .int .i64 0, .int .i64 0], .bool false, .int .i64 1]) (by simp only [results, Tryz.results27]; simp [go_sem, p0, p1, p2, p3, p4, p5]) rfl ⟨rfl, below_put6 hbw (Nat.le_refl _) _ _ _ _ _ _⟩
 ·have d0 : decide (i < 0) = false := decide_eq_false hi0
  have hni : (n : Int) ≤ i := by
   rw [decide_eq_true (by omega), Bool.true_and, decide_eq_false_iff_not, hlen] at hbad
   omega
  have d1 : decide ((n : Int) ≤ i) = true := decide_eq_true hni
  clear hv hbad hni
  go_enter Tryz.func27, Tryz.ntmps27
  go_upto_region 1 with fail
  generalize hw0 : World.alloc _ _ = w0
  have hY : ABox w0 w.heap.size ⟨#[]⟩ ⟨#[]⟩ ⟨#[]⟩ 0 0 0 := by rw [← hw0]; exact heap_alloc_new w _
  have hbw : Below w.heap.size w w0 := by rw [← hw0]; exact balloc (Below.refl _ _) _
  clear hw0
  (obtain ⟨y0, y1, y2, y3, y4, y5⟩ := hY.facts; obtain ⟨z0, z1, z2, z3, z4, z5⟩ := hY.free)
  go_wp2_with (go_at_call 75; refine (HV.out _ hbw).mono ?_; (rintro e w' ⟨rfl, hb'⟩; replace hY := ABox.keepB hY hb'; replace hbw := bstep hbw hb'; clear hb'; (obtain ⟨y0, y1, y2, y3, y4, y5⟩ := hY.facts; obtain ⟨z0, z1, z2, z3, z4, z5⟩ := hY.free)))
  (obtain ⟨p0, p1, p2, p3, p4, p5⟩ := (hY.put ⟨#[]⟩ ⟨#[]⟩ ⟨#[]⟩ 0 0 0).facts; clear y0 y1 y2 y3 y4 y5 z0 z1 z2 z3 z4 z5)
  exact bodyPost_ret (v := .tuple #[.agg #[.string ⟨#[]⟩, .string ⟨#[]⟩, .string ⟨#[]⟩, .int .i64 0, .int .i64 0, .int .i64 0], .bool false, .int .i64 1]) (by simp only [results, Tryz.results27]; simp [go_sem, p0, p1, p2, p3, p4, p5]) rfl ⟨rfl, below_put6 hbw (Nat.le_refl _) _ _ _ _ _ _⟩
end Go.Proofs.YtjhlpkhfdghngaaGreatDoor
namespace Go.Proofs.YtjhlpkhfdghngaaGreatDoor
open Go.RowKit Go.Sort
set_option linter.unusedVariables false
set_option linter.unusedSimpArgs false
set_option maxRecDepth 100000
theorem tags_le (ps : List ByteArray) : (tagsR ps).1.size ≤ 4096 := by
 unfold tagsR
 split
 ·decide
 ·split
  ·decide
  ·rename_i h
   rw [toB_size]
   omega
theorem idx_from {α : Type} (p : α → Bool) : ∀ (l : List α) (b : Nat), idxA p l b = -1 ∨ (b : Int) ≤ idxA p l b
 | [], _ => .inl rfl
 | y :: l, b => by
  have ih := idx_from p l (b + 1)
  unfold idxA
  split
  ·right; omega
  ·rcases ih with h | h
   ·exact .inl h
   ·right; omega
theorem idx_link (a t : ByteArray) : ∀ (l : List RuleM) (b k : Nat), idxA (fun x => mtX x.r a t) l b = ((b + k : Nat) : Int) ↔ (l.map ruleP).findIdx? (fun r => mtR r a t) = some k
 | [], b, k => by
  constructor
  ·intro h
   unfold idxA at h
   omega
  ·intro h
   simp at h
 | x :: l, b, k => by
  rw [List.map_cons, List.findIdx?_cons]
  unfold idxA
  have e : mtR (ruleP x) a t = mtX x.r a t := rfl
  rw [e]
  cases hx : mtX x.r a t
  ·have ih := idx_link a t l (b + 1)
   have hg := idx_from (fun x => mtX x.r a t) l (b + 1)
   rw [if_neg (by decide), if_neg (by decide)]
   cases k with
   | zero =>
    constructor
    ·intro h
     omega
    ·intro h
     cases hf : (l.map ruleP).findIdx? (fun r => mtR r a t) with
     | none => rw [hf] at h; cases h
     | some j => rw [hf] at h; simp at h
   | succ k =>
    rw [show b + (k + 1) = b + 1 + k by omega, ih k]
    cases hf : (l.map ruleP).findIdx? (fun r => mtR r a t) with
    | none => simp
    | some j => simp
  ·rw [if_pos rfl, if_pos rfl]
   constructor
   ·intro h
    have : k = 0 := by omega
    rw [this]
   ·intro h
    have h2 : 0 = k := Option.some.inj h
    rw [← h2]
    rfl
theorem choose_link (L : List RuleM) (a t : ByteArray) (k : Nat) : chooseX L a t = (k : Int) ↔ chooseR (L.map ruleP) a t = some k := by
 have h := idx_link a t L 0 k
 rwa [Nat.zero_add] at h
end Go.Proofs.YtjhlpkhfdghngaaGreatDoor
namespace Go.Proofs.YtjhlpkhfdghngaaGreatDoor
open Go.RowKit Go.Sort
set_option linter.unusedVariables false
set_option linter.unusedSimpArgs false
set_option maxRecDepth 100000
theorem dead_plain {L : List RuleM} {k : Nat} {x : RuleM} {ax : AskV} {is : Bool} (hv : validL L = true) (hx : L[k]? = some x) (h : DeadAt L k x ax is) :
  (is = true → (tagsR x.r.tags).2 = 0 → ∀ a : AskV, holdsC x.r.allow a = true → chooseX L a.addr (tagsR x.r.tags).1 ≠ (k : Int)) ∧
  (is = false → (tagsR x.r.tags).2 = 0 ∧ holdsC x.r.allow ax = true ∧ chooseX L ax.addr (tagsR x.r.tags).1 = (k : Int) ∧ ax.addr.size ≤ 4096) := by
 have hok := (valid_at hv (List.mem_of_getElem? hx)).1
 have hx2 : (L.map ruleP)[k]? = some (ruleP x) := by rw [List.getElem?_map, hx]; rfl
 constructor
 ·rintro rfl ht a ha hc
  have hc2 := (choose_link L a.addr _ k).1 hc
  obtain ⟨r', hr', hm, _⟩ := (choose_iff _ _ _ k).1 hc2
  obtain rfl : ruleP x = r' := Option.some.inj (hx2.symm.trans hr')
  unfold mtR at hm
  rw [Bool.and_eq_true] at hm
  rcases h with ⟨_, _, h1 | h1 | ⟨_, h1⟩ | ⟨_, _, m, s, h1, h2⟩⟩ | ⟨h1, _⟩
  ·exact h1 ht
  ·rw [dead_empty ((valid_iff _).1 hok.allow) h1 a] at ha; cases ha
  ·have h3 : matchB x.r.pat a.addr = false := dead_apart hok.pat ((valid_iff _).1 hok.allow) h1 a ha
   have h4 : matchB x.r.pat a.addr = true := hm.1
   rw [h3] at h4; cases h4
  ·exact dead_gap hx2 hok.pat ((valid_iff _).1 hok.allow) h1 (by rw [befK_eq]; exact h2) a ha _ hc2
  ·cases h1
 ·rintro rfl
  rcases h with ⟨h1, _⟩ | ⟨_, h1, h2, m, s, h3, h4, h5, rfl⟩
  ·cases h1
  ·obtain ⟨g1, g2⟩ := live_ask (T := (tagsR x.r.tags).1) hx2 hok.pat ((valid_iff _).1 hok.allow) h2 (by rw [← h1]; rfl) h3 (by rw [befK_eq]; exact h4)
   exact ⟨h1, g1, (choose_link L _ _ k).2 g2, h5⟩
theorem dead_shadow {L : List RuleM} {k : Nat} {x : RuleM} {ax : AskV} {s : ByteArray} (hv : validL L = true) (hx : L[k]? = some x) (h : DeadAt L k x ax false) (hs : ShRes L (k : Int) s true 0) : False := by
 have hok := (valid_at hv (List.mem_of_getElem? hx)).1
 rcases h with ⟨h1, _⟩ | ⟨_, h1, h2, m, s', h3, h4, _⟩
 ·cases h1
 rcases hs with ⟨_, _, h5, _⟩ | ⟨_, _, y, hy, hr⟩
 ·cases h5
 rw [Int.toNat_natCast] at hy hr
 obtain rfl : x = y := Option.some.inj (hx.symm.trans hy)
 rcases hr with ⟨h6, _⟩ | ⟨_, g, hg, h7, _⟩
 ·exact h6 h1
 ·have hg2 : g = false := by cases g; rfl; cases hg
  subst hg2
  exact shadow_dead hok.pat ((valid_iff _).1 hok.allow) h3 h7 h4
end Go.Proofs.YtjhlpkhfdghngaaGreatDoor
namespace Go.Proofs.YtjhlpkhfdghngaaGreatDoor
open Go.RowKit Go.Sort
set_option linter.unusedVariables false
set_option linter.unusedSimpArgs false
set_option maxRecDepth 100000
structure DwS (w : World) (A : Option Addr) (n : Nat) (L : List RuleM) (Q : Array Value) (W : World) : Prop where
 l : RulesRead W A n L
 q : Box1 W w.heap.size 55 Q
 b : Below w.heap.size w W
theorem DwS.keep {w : World} {A : Option Addr} {n : Nat} {L : List RuleM} {Q : Array Value} {W W' : World} (h : DwS w A n L Q W) (hb : Below W.heap.size W W') : DwS w A n L Q W' := ⟨h.l.keep hb, h.q.keep hb, bstep h.b hb⟩
set_option maxHeartbeats 8000000 in
theorem lawDead (A : Option Addr) (n c : Nat) (L : List RuleM) (k : Int) (a : AskV) (w : World) (hL : RulesRead w A n L) (hn : n ≤ 9223372036854775807) (hcp : ∀ x ∈ L, RuleCaps x) (hnc : n ≤ c) (hk0 : 0 ≤ k) (hk1 : k ≤ 255) (hE : Env w) (hT : Tab w) :
  Calls Tryz.prog 6 #[.slice A n c, .int .u8 k, AskV.val a] w (Ret w (.bool true)) := by
 have hl : L.length = n := hL.len
 have cF := fun W (hb : Below w.heap.size w W) => rFewRules22_any (fun x => fewR x.r) A n c L 10 W (hL.keep hb) hn (fun x hx W' hb' => rFew22_any x W' ((hL.each x hx).keep (bstep hb hb')))
 have cN := fun W (hb : Below w.heap.size w W) => san24_any W (hE.keep hb) (hT.keep hb)
 have cQ := fun W => few_ask a W
 obtain ⟨Q, hQ⟩ : ∃ Q : Array Value, Q = #[.string a.addr, .string a.client, .string a.country, .int .i64 a.site, .int .i64 a.lo, .int .i64 a.hi] := ⟨_, rfl⟩
 have eQ : AskV.val a = .agg Q := by rw [hQ]; rfl
 have sQ : Q.size = 6 := by rw [hQ]; rfl
 have q0 : Q[0]? = some (.string a.addr) := by rw [hQ]; rfl
 rw [eQ] at cQ
 rw [eQ]
 have HN := Lib.hid cN; have HQ := Lib.hid cQ; have HEQ := Lib.hid eQ; have HQS := Lib.hid sQ; have HQ0 := Lib.hid q0
 have HA := Lib.hid hL; have HL := Lib.hid hl; have HCP := Lib.hid hcp; have HE := Lib.hid hE; have HT := Lib.hid hT
 clear cN cQ hL hl hcp hE hT hQ eQ sQ q0
 rcases Nat.eq_zero_or_pos n with h0 | h0
 ·have e1 : ((n : Int) == 0) = true := beq_iff_eq.2 (by omega)
  have e2 : decide ((n : Int) = 0) = true := decide_eq_true (by omega)
  generalize hv : (L.all (fun x => fewR x.r) && decide ((n : Int) ≤ 10)) = v at cF
  generalize hv2 : fewA a = v2 at HQ
  clear hv hv2
  have HF := Lib.hid cF
  clear cF
  go_enter Tryz.func6, Tryz.ntmps6
  go_upto_region 1 with fail
  generalize hw0 : World.alloc _ _ = w0
  have hS : DwS w A n L Q w0 := by
   rw [← hw0]
   exact ⟨HA.out.keep (balloc (Below.refl _ _) _), heap_alloc_new w _, balloc (Below.refl _ _) _⟩
  clear hw0
  go_wp2_with (first | (go_big_want; (refine wp_load_addr 55 _ rfl ⟨w.heap.size, 0, none⟩ (.agg Q) rfl (ask1_load hS.q HQS.out) ?_; simp only [Act.put, List.setIfInBounds_toArray, List.set_cons_succ, List.set_cons_zero])) | (go_at_call 10; refine (HF.out _ hS.b).mono ?_; (rintro e w' ⟨rfl, hb'⟩; replace hS := hS.keep hb'; clear hb')) | (go_at_call 26; refine (HQ.out _).mono ?_; (rintro e w' ⟨rfl, hb'⟩; replace hS := hS.keep hb'; clear hb')) | (go_at_call 19; refine (HN.out _ hS.b).mono ?_; (rintro e w' ⟨rfl, hb'⟩; replace hS := hS.keep hb'; clear hb')))
  go_ret
  exact ⟨rfl, hS.b⟩
 have e1 : ((n : Int) == 0) = false := beq_eq_false_iff_ne.2 (by omega)
 have e2 : decide ((n : Int) = 0) = false := decide_eq_false (by omega)
 cases hfv : (L.all (fun x => fewR x.r) && decide ((n : Int) ≤ 10))
 ·rw [hfv] at cF
  have HF := Lib.hid cF
  clear cF hfv
  go_enter Tryz.func6, Tryz.ntmps6
  go_upto_region 1 with fail
  generalize hw0 : World.alloc _ _ = w0
  have hS : DwS w A n L Q w0 := by
   rw [← hw0]
   exact ⟨HA.out.keep (balloc (Below.refl _ _) _), heap_alloc_new w _, balloc (Below.refl _ _) _⟩
  clear hw0
  go_wp2_with (first | (go_big_want; (refine wp_load_addr 55 _ rfl ⟨w.heap.size, 0, none⟩ (.agg Q) rfl (ask1_load hS.q HQS.out) ?_; simp only [Act.put, List.setIfInBounds_toArray, List.set_cons_succ, List.set_cons_zero])) | (go_at_call 10; refine (HF.out _ hS.b).mono ?_; (rintro e w' ⟨rfl, hb'⟩; replace hS := hS.keep hb'; clear hb')) | (go_at_call 26; refine (HQ.out _).mono ?_; (rintro e w' ⟨rfl, hb'⟩; replace hS := hS.keep hb'; clear hb')) | (go_at_call 19; refine (HN.out _ hS.b).mono ?_; (rintro e w' ⟨rfl, hb'⟩; replace hS := hS.keep hb'; clear hb')))
  go_ret
  exact ⟨rfl, hS.b⟩
 rw [hfv] at cF
 have HF := Lib.hid cF
 rw [Bool.and_eq_true, decide_eq_true_eq, List.all_eq_true] at hfv
 obtain ⟨hff, hn10⟩ := hfv
 have HFF := Lib.hid hff
 clear cF hff
 cases hfa : fewA a
 ·rw [hfa] at HQ
  clear hfa
  go_enter Tryz.func6, Tryz.ntmps6
  go_upto_region 1 with fail
  generalize hw0 : World.alloc _ _ = w0
  have hS : DwS w A n L Q w0 := by
   rw [← hw0]
   exact ⟨HA.out.keep (balloc (Below.refl _ _) _), heap_alloc_new w _, balloc (Below.refl _ _) _⟩
  clear hw0
  go_wp2_with (first | (go_big_want; (refine wp_load_addr 55 _ rfl ⟨w.heap.size, 0, none⟩ (.agg Q) rfl (ask1_load hS.q HQS.out) ?_; simp only [Act.put, List.setIfInBounds_toArray, List.set_cons_succ, List.set_cons_zero])) | (go_at_call 10; refine (HF.out _ hS.b).mono ?_; (rintro e w' ⟨rfl, hb'⟩; replace hS := hS.keep hb'; clear hb')) | (go_at_call 26; refine (HQ.out _).mono ?_; (rintro e w' ⟨rfl, hb'⟩; replace hS := hS.keep hb'; clear hb')) | (go_at_call 19; refine (HN.out _ hS.b).mono ?_; (rintro e w' ⟨rfl, hb'⟩; replace hS := hS.keep hb'; clear hb')))
  go_ret
  exact ⟨rfl, hS.b⟩
 rw [hfa] at HQ
 have hfit := fewA_fits hfa
 have HFI := Lib.hid hfit
 clear hfa hfit
 go_enter Tryz.func6, Tryz.ntmps6
 go_upto_region 1 with fail
 generalize hw0 : World.alloc _ _ = w0
 have hS : DwS w A n L Q w0 := by
  rw [← hw0]
  exact ⟨HA.out.keep (balloc (Below.refl _ _) _), heap_alloc_new w _, balloc (Below.refl _ _) _⟩
 clear hw0
 go_upto_region 3 with (first | (go_big_want; (refine wp_load_addr 55 _ rfl ⟨w.heap.size, 0, none⟩ (.agg Q) rfl (ask1_load hS.q HQS.out) ?_; simp only [Act.put, List.setIfInBounds_toArray, List.set_cons_succ, List.set_cons_zero])) | (go_at_call 10; refine (HF.out _ hS.b).mono ?_; (rintro e w' ⟨rfl, hb'⟩; replace hS := hS.keep hb'; clear hb')) | (go_at_call 26; refine (HQ.out _).mono ?_; (rintro e w' ⟨rfl, hb'⟩; replace hS := hS.keep hb'; clear hb')))
 clear e1 e2
 go_upto_region 4 with fail
 obtain ⟨j, hj⟩ : ∃ j : Nat, k % (n : Int) = (j : Int) := ⟨(k % n).toNat, (Int.toNat_of_nonneg (Int.emod_nonneg _ (by omega))).symm⟩
 have hjn : j < n := by have := Int.emod_lt_of_pos k (show (0 : Int) < n by omega); omega
 rw [hj]
 clear hj
 have hLW := HL.out
 obtain ⟨x, hx⟩ : ∃ x, L[j]? = some x := ⟨_, List.getElem?_eq_getElem (by omega)⟩
 have hff2 : ∀ y ∈ L, RuleFits y.r := fun y hy => fewR_fits (HFF.out y hy)
 clear hLW HFF HF HQ
 have HFF := Lib.hid hff2
 clear hff2
 cases hv : validL L
 ·have hbad : shOk L (j : Int) = false := by unfold shOk; rw [hv]; rfl
  have cV := fun W (hb : Below w.heap.size w W) => isValid_any A n c L W (HA.out.keep hb) HFF.out HCP.out (by omega) (HE.out.keep hb)
  rw [hv] at cV
  have HV := Lib.hid cV
  clear cV
  go_wp2_with fail
  refine (dead_bad A n c (j : Int) L _ HL.out hbad (by omega) (fun W hb => by rw [hv]; exact HV.out W (bstep hS.b hb))).mono ?_
  rintro e w1 ⟨rfl, hb1⟩
  dsimp only [zAsk]
  replace hS := hS.keep hb1
  have hS2 := hS.keep (balloc (Below.refl _ _) (.cells #[.string ⟨#[]⟩, .string ⟨#[]⟩, .string ⟨#[]⟩, .int .i64 0, .int .i64 0, .int .i64 0] 55))
  have hsh := shadowed_any A n c (j : Int) L _ hS2.l HFF.out HCP.out hnc (by omega) (HE.out.keep hS2.b) (HT.out.keep hS2.b)
  have HSH := Lib.hid hsh
  clear hsh hb1 hS hv hx
  go_wp2_with fail
  refine HSH.out.mono ?_
  rintro e w2 ⟨s, is, er, rfl, hr, hb2⟩
  rcases hr with ⟨_, rfl, rfl, rfl⟩ | ⟨h, _⟩
  ·have hS := hS2.keep hb2
   clear hS2 hb2 HSH hbad
   go_wp2_with (first | (go_at_call 19; refine (HN.out _ hS.b).mono ?_; (rintro e w' ⟨rfl, hb'⟩; replace hS := hS.keep hb'; clear hb')))
   go_ret
   exact ⟨rfl, hS.b⟩
  ·rw [hbad] at h
   cases h
 ·have hgood : shOk L (j : Int) = true := by
   unfold shOk
   rw [hv, decide_eq_true (show (0 : Int) ≤ (j : Int) by omega), decide_eq_true (show (j : Int) < (L.length : Int) by have := HL.out; omega)]
   rfl
  go_wp2_with fail
  refine (dead_good A n c j L x _ hS.l HFF.out HCP.out hnc (by omega) (HE.out.keep hS.b) (HT.out.keep hS.b) hv hx).mono ?_
  unfold DeadPost
  rintro e w1 ⟨⟨a0, a1, a2, a3, a4, a5⟩, is, rfl, hda, hb1⟩
  dsimp only [AskV.val]
  replace hS := hS.keep hb1
  have hS2 := hS.keep (balloc (Below.refl _ _) (.cells #[.string a0, .string a1, .string a2, .int .i64 a3, .int .i64 a4, .int .i64 a5] 55))
  have hz2 : Box1 (w1.alloc (.cells #[.string a0, .string a1, .string a2, .int .i64 a3, .int .i64 a4, .int .i64 a5] 55)) w1.heap.size 55 #[.string a0, .string a1, .string a2, .int .i64 a3, .int .i64 a4, .int .i64 a5] := heap_alloc_new w1 _
  have hsh := shadowed_any A n c (j : Int) L _ hS2.l HFF.out HCP.out hnc (by omega) (HE.out.keep hS2.b) (HT.out.keep hS2.b)
  have HSH := Lib.hid hsh; have HDA := Lib.hid hda; have HV := Lib.hid hv; have HX := Lib.hid hx; have HG := Lib.hid hgood
  clear hsh hb1 hS hv hx hda hgood
  go_wp2_with fail
  refine HSH.out.mono ?_
  rintro e w2 ⟨s, is2, er, rfl, hr, hb2⟩
  have her : er = 0 := by
   rcases hr with ⟨h, _⟩ | ⟨_, h, _⟩
   ·rw [HG.out] at h; cases h
   ·exact h
  subst her
  have hS := hS2.keep hb2
  have hz := hz2.keep hb2
  obtain ⟨gz, hgz⟩ : ∃ gz, gz = w1.heap.size := ⟨_, rfl⟩
  rw [← hgz] at hz ⊢
  clear hS2 hb2 HSH HG hz2 hgz
  obtain ⟨hdp1, hdp2⟩ := dead_plain HV.out HX.out HDA.out
  have hok := hS.l.each x (List.mem_of_getElem? HX.out)
  have hxf := HFF.out x (List.mem_of_getElem? HX.out)
  have hrf : RulesFit L := ⟨by have := HL.out; omega, fun y hy => by have := (HFF.out y hy).pat; omega, fun y hy => by have := (HFF.out y hy).nt; omega⟩
  have hne : is = false → is2 = false := by
   rintro rfl
   cases is2
   ·rfl
   ·exact (dead_shadow HV.out HX.out HDA.out hr).elim
  obtain ⟨_, b, o, rfl, hcell⟩ := hS.l.at_ HX.out
  have hc2 := hcell 2 _ rfl
  have htag := fun W (hb : Below w2.heap.size w2 W) => tags_any x.T x.r.tags.length x.ct x.r.tags W (hok.tags.keep hb) (by have := hxf.nt; omega) (fun p hp => by have := hxf.t p hp; omega)
  unfold tagsV at htag
  have hld : ∀ W, DwS w (some ⟨b, o, none⟩) n L Q W → (loadVar 33 ⟨b, o + j * 18, none⟩).run Tryz.prog W = .ok x.val W := fun W h => by
   obtain ⟨_, b', o', hbo, hc⟩ := h.l.at_ HX.out
   have hbo2 := Option.some.inj hbo
   injection hbo2 with e1 e2
   subst e1; subst e2
   exact rule_load W _ _ _ hc
  have hpe := fun (y : AskV) (hy : AskFits y) W (h : DwS w (some ⟨b, o, none⟩) n L Q W) => permits_any x y W (h.l.each x (List.mem_of_getElem? HX.out)) hxf.c hy (HE.out.keep h.b)
  have hch := fun (ad t : ByteArray) (ha : ad.size ≤ 100000) (ht : t.size ≤ 4096) W (h : DwS w (some ⟨b, o, none⟩) n L Q W) => choose_any (some ⟨b, o, none⟩) n c L ad t W h.l hrf ha (by omega) (HE.out.keep h.b)
  have hT4 := tags_le x.r.tags
  have hal : AskFits a := HFI.out
  unfold RuleM.val at hld hpe
  have hj0 : (0 : Int) ≤ (j : Int) := by omega
  have hj1 : (j : Int) < (n : Int) := by omega
  cases his : is
  ·subst his
   obtain ⟨h1, h2, h3, h4⟩ := hdp2 rfl
   obtain rfl := hne rfl
   have hpe2 := hpe _ (holds_fits h2)
   have hch2 := hch _ _ (Nat.le_trans h4 (by decide)) hT4
   rw [h2] at hpe2
   rw [h3] at hch2
   rw [h1] at htag
   dsimp only [AskV.val] at hpe2 hch2
   generalize (tagsR x.r.tags).1 = TT at *
   generalize x.r.tags.length = tn at *
   generalize x.cells.toArray = X at *
   obtain ⟨sa, hsa⟩ : ∃ sa, sa = a0 := ⟨_, rfl⟩
   rw [← hsa] at hch2
   have hz0 : (#[.string a0, .string a1, .string a2, .int .i64 a3, .int .i64 a4, .int .i64 a5] : Array Value)[0]? = some (.string sa) := by rw [hsa]; rfl
   obtain ⟨XQ, hXQ⟩ : ∃ XQ : Array Value, XQ = #[.string a0, .string a1, .string a2, .int .i64 a3, .int .i64 a4, .int .i64 a5] := ⟨_, rfl⟩
   rw [← hXQ] at hz hz0 hpe2
   have hXs : XQ.size = 6 := by rw [hXQ]; rfl
   have HTG := Lib.hid htag; have HLD := Lib.hid hld; have HPE := Lib.hid hpe2; have HCH := Lib.hid hch2; have HZ := Lib.hid hz
   clear htag hld hpe hpe2 hch hch2 hz hdp1 hdp2 hne hok hxf hrf hcell h1 h2 h3 h4 hT4 hal hsa hr HDA HX HV HFF HCP HFI HT hXQ
   go_upto_region 13 with (first | (go_at_call 23; refine (HTG.out _ (Below.refl _ _)).mono ?_; rintro e w3 ⟨rfl, hb3⟩))
   replace hS := hS.keep hb3
   have hz3 := HZ.out.keep hb3
   obtain ⟨SS, hSS⟩ : ∃ SS : World → Prop, SS = fun W => DwS w (some ⟨b, o, none⟩) n L Q W ∧ Box1 W gz 55 XQ := ⟨_, rfl⟩
   have h0 : SS w3 := by rw [hSS]; exact ⟨hS, hz3⟩
   have HK := Lib.hid (show ∀ W W', SS W → Below W.heap.size W W' → SS W' by rw [hSS]; exact fun W W' h hb => ⟨h.1.keep hb, h.2.keep hb⟩)
   have HB := Lib.hid (show ∀ W, SS W → Below w.heap.size w W by rw [hSS]; exact fun W h => h.1.b)
   have HL2 := Lib.hid (show ∀ W, SS W → (loadVar 33 ⟨b, o + j * 18, none⟩).run Tryz.prog W = .ok (.agg X) W by rw [hSS]; exact fun W h => HLD.out W h.1)
   have HXL := Lib.hid (show ∀ W, SS W → (loadVar 55 ⟨gz, 0, none⟩).run Tryz.prog W = .ok (.agg XQ) W by rw [hSS]; exact fun W h => ask1_load h.2 hXs)
   have HX0 := Lib.hid (show ∀ W, SS W → W.cell? ⟨gz, 0, none⟩ = some (.string sa) by rw [hSS]; exact fun W h => h.2.cell hz0)
   have HP2 := Lib.hid (show ∀ W, SS W → Calls Tryz.prog 29 #[.agg X, .agg XQ] W (Ret W (.bool true)) by rw [hSS]; exact fun W h => HPE.out W h.1)
   have HC2 := Lib.hid (show ∀ W, SS W → Calls Tryz.prog 25 #[.slice (some ⟨b, o, none⟩) n c, .string sa, .string TT] W (Ret W (.int .i64 (j : Int))) by rw [hSS]; exact fun W h => HCH.out W h.1)
   have HNS := Lib.hid (fun W (h : SS W) => HN.out W (HB.out W h))
   clear hS hz3 hSS hz0 hXs HLD HPE HCH HZ HN HTG hb3
   refine wp_det 22 (by kernel_rfl) (by kernel_rfl) (by kernel_rfl) (fun i => [.bool true, .bool true, .int .i64 0, .bool true, .bool true, .bool true, .slice (some ⟨b, o, none⟩) n c, .int .i64 (j : Int), .pointer (some ⟨b, o + j * 18, none⟩), .agg X, .agg XQ, .bool true, .bool true, .bool true, .slice (some ⟨b, o, none⟩) n c, .pointer (some ⟨gz, 0, none⟩), .string sa, .string TT, .int .i64 (j : Int), .int .i64 (j : Int), .bool true, .bool true].getD i undef) SS (HK.out _ _ h0 (Below.drew (Below.refl _ _))) (fun _ _ h hb => HK.out _ _ h hb) ?_ ?_
   ·simp only [putL, List.take_succ_cons, List.take_zero, List.drop_succ_cons, List.drop_zero, Act.put, List.setIfInBounds_toArray, List.set_cons_succ, List.set_cons_zero, List.getD_cons_zero, List.getD_cons_succ]
    refine ⟨fun W hS => ?_, fun W hS => ?_, fun W hS => ?_, fun W hS => ?_, fun W hS => ?_, fun W hS => ?_, fun W hS => ?_, fun W hS => ?_, fun W hS => ?_, fun W hS => ?_, fun W hS => ?_, fun W hS => ?_, fun W hS => ?_, fun W hS => ?_, fun W hS => ?_, fun W hS => ?_, fun W hS => ?_, fun W hS => ?_, fun W hS => ?_, fun W hS => ?_, fun W hS => ?_, fun W hS => ?_, trivial⟩
    all_goals
     have hc0 := HX0.out _ hS
     go_wp2_with (first | (go_big_want; first | (refine wp_load_addr 33 _ rfl ⟨b, o + j * 18, none⟩ (.agg X) rfl (HL2.out _ hS) ?_; simp only [Act.put, List.setIfInBounds_toArray, List.set_cons_succ, List.set_cons_zero]) | (refine wp_load_addr 55 _ rfl ⟨gz, 0, none⟩ (.agg XQ) rfl (HXL.out _ hS) ?_; simp only [Act.put, List.setIfInBounds_toArray, List.set_cons_succ, List.set_cons_zero])) | (go_at_call 19; refine (HNS.out _ hS).mono ?_; rintro e w2 ⟨rfl, hb2⟩) | (go_at_call 29; refine (HP2.out _ hS).mono ?_; rintro e w2 ⟨rfl, hb2⟩) | (go_at_call 25; refine (HC2.out _ hS).mono ?_; rintro e w2 ⟨rfl, hb2⟩))
     exact ⟨rfl, rfl, by first | exact Below.refl _ _ | assumption⟩
   intro wz hSz
   simp only [putL, List.take_succ_cons, List.take_zero, List.drop_succ_cons, List.drop_zero, Act.put, List.setIfInBounds_toArray, List.set_cons_succ, List.set_cons_zero, List.getD_cons_zero, List.getD_cons_succ]
   have hbE := HB.out _ hSz
   go_wp2
   go_ret
   exact ⟨rfl, hbE⟩
  ·subst his
   have hpe2 := hpe a hal
   have hch2 := hch a.addr (tagsR x.r.tags).1 hal.p hT4
   have hva := fun W => rValidAsk_any a W hal.p hal.cl hal.co
   have hq := fun h1 => hdp1 rfl h1 a
   have hq0 := HQ0.out
   rw [HEQ.out] at hpe2 hva
   generalize chooseX L a.addr (tagsR x.r.tags).1 = q at hch2 hq
   generalize holdsC x.r.allow a = hv at hpe2 hq
   generalize validAsk a = va at hva
   generalize a.addr = ad at hch2 hq0
   generalize (tagsR x.r.tags).1 = TT at htag hch2
   generalize (tagsR x.r.tags).2 = te at htag hq
   generalize x.r.tags.length = tn at *
   generalize x.cells.toArray = X at *
   have HTG := Lib.hid htag; have HLD := Lib.hid hld; have HPE := Lib.hid hpe2; have HCH := Lib.hid hch2; have HVA := Lib.hid hva; have HA0 := Lib.hid hq0
   clear htag hld hpe hpe2 hch hch2 hva hq0 hz hdp1 hdp2 hne hok hxf hrf hcell hT4 hal hr HDA HX HV HFF HCP HFI HT HEQ HQ0
   cases is2
   ·skip
    go_upto_region 12 with (first | (go_at_call 23; refine (HTG.out _ (Below.refl _ _)).mono ?_; rintro e w3 ⟨rfl, hb3⟩))
    replace hS := hS.keep hb3
    obtain ⟨SS, hSS⟩ : ∃ SS : World → Prop, SS = fun W => DwS w (some ⟨b, o, none⟩) n L Q W := ⟨_, rfl⟩
    have h0 : SS w3 := by rw [hSS]; exact hS
    have HK := Lib.hid (show ∀ W W', SS W → Below W.heap.size W W' → SS W' by rw [hSS]; exact fun W W' h hb => h.keep hb)
    have HB := Lib.hid (show ∀ W, SS W → Below w.heap.size w W by rw [hSS]; exact fun W h => h.b)
    have HL2 := Lib.hid (show ∀ W, SS W → (loadVar 33 ⟨b, o + j * 18, none⟩).run Tryz.prog W = .ok (.agg X) W by rw [hSS]; exact fun W h => HLD.out W h)
    have HXL := Lib.hid (show ∀ W, SS W → (loadVar 55 ⟨w.heap.size, 0, none⟩).run Tryz.prog W = .ok (.agg Q) W by rw [hSS]; exact fun W h => ask1_load h.q HQS.out)
    have HX0 := Lib.hid (show ∀ W, SS W → W.cell? ⟨w.heap.size, 0, none⟩ = some (.string ad) by rw [hSS]; exact fun W h => h.q.cell HA0.out)
    have HP2 := Lib.hid (show ∀ W, SS W → Calls Tryz.prog 29 #[.agg X, .agg Q] W (Ret W (.bool hv)) by rw [hSS]; exact fun W h => HPE.out W h)
    have HC2 := Lib.hid (show ∀ W, SS W → Calls Tryz.prog 25 #[.slice (some ⟨b, o, none⟩) n c, .string ad, .string TT] W (Ret W (.int .i64 q)) by rw [hSS]; exact fun W h => HCH.out W h)
    have HNS := Lib.hid (fun W (h : SS W) => HN.out W (HB.out W h))
    clear hS hSS HLD HPE HCH HN HTG hb3 HA0
    by_cases hte : te = 0
    ·replace hq := hq hte
     subst hte
     cases va
     ·clear hq
      refine wp_det 28 (by kernel_rfl) (by kernel_rfl) (by kernel_rfl) (fun i => [.bool true, .bool true, .int .i64 0, .bool false, .bool false, .agg Q, .bool false, .bool true, .bool true, .bool true, undef, undef, undef, undef, undef, undef, undef, .bool true, .bool true, undef, undef, undef, undef, undef, undef, undef, .bool true, .bool true].getD i undef) SS (HK.out _ _ h0 (Below.drew (Below.refl _ _))) (fun _ _ h hb => HK.out _ _ h hb) ?_ ?_
      ·simp only [putL, List.take_succ_cons, List.take_zero, List.drop_succ_cons, List.drop_zero, Act.put, List.setIfInBounds_toArray, List.set_cons_succ, List.set_cons_zero, List.getD_cons_zero, List.getD_cons_succ]
       refine ⟨fun W hS => ?_, fun W hS => ?_, fun W hS => ?_, fun W hS => ?_, fun W hS => ?_, fun W hS => ?_, fun W hS => ?_, fun W hS => ?_, fun W hS => ?_, fun W hS => ?_, fun W hS => ?_, fun W hS => ?_, fun W hS => ?_, fun W hS => ?_, fun W hS => ?_, fun W hS => ?_, fun W hS => ?_, fun W hS => ?_, fun W hS => ?_, fun W hS => ?_, fun W hS => ?_, fun W hS => ?_, fun W hS => ?_, fun W hS => ?_, fun W hS => ?_, fun W hS => ?_, fun W hS => ?_, fun W hS => ?_, trivial⟩
       all_goals
        have hc0 := HX0.out _ hS
        go_wp2_with (first | (go_big_want; first | (refine wp_load_addr 33 _ rfl ⟨b, o + j * 18, none⟩ (.agg X) rfl (HL2.out _ hS) ?_; simp only [Act.put, List.setIfInBounds_toArray, List.set_cons_succ, List.set_cons_zero]) | (refine wp_load_addr 55 _ rfl ⟨w.heap.size, 0, none⟩ (.agg Q) rfl (HXL.out _ hS) ?_; simp only [Act.put, List.setIfInBounds_toArray, List.set_cons_succ, List.set_cons_zero])) | (go_at_call 19; refine (HNS.out _ hS).mono ?_; rintro e w2 ⟨rfl, hb2⟩) | (go_at_call 28; refine (HVA.out _).mono ?_; rintro e w2 ⟨rfl, hb2⟩) | (go_at_call 29; refine (HP2.out _ hS).mono ?_; rintro e w2 ⟨rfl, hb2⟩) | (go_at_call 25; refine (HC2.out _ hS).mono ?_; rintro e w2 ⟨rfl, hb2⟩))
        exact ⟨rfl, rfl, by first | exact Below.refl _ _ | assumption⟩
      intro wz hSz
      simp only [putL, List.take_succ_cons, List.take_zero, List.drop_succ_cons, List.drop_zero, Act.put, List.setIfInBounds_toArray, List.set_cons_succ, List.set_cons_zero, List.getD_cons_zero, List.getD_cons_succ]
      have hbE := HB.out _ hSz
      go_wp2
      go_ret
      exact ⟨rfl, hbE⟩
     cases hv
     ·clear hq
      refine wp_det 28 (by kernel_rfl) (by kernel_rfl) (by kernel_rfl) (fun i => [.bool true, .bool true, .int .i64 0, .bool false, .bool false, .agg Q, .bool true, .bool false, .bool false, .bool false, .slice (some ⟨b, o, none⟩) n c, .int .i64 (j : Int), .pointer (some ⟨b, o + j * 18, none⟩), .agg X, .agg Q, .bool false, .bool true, .bool true, .bool true, undef, undef, undef, undef, undef, undef, undef, .bool true, .bool true].getD i undef) SS (HK.out _ _ h0 (Below.drew (Below.refl _ _))) (fun _ _ h hb => HK.out _ _ h hb) ?_ ?_
      ·simp only [putL, List.take_succ_cons, List.take_zero, List.drop_succ_cons, List.drop_zero, Act.put, List.setIfInBounds_toArray, List.set_cons_succ, List.set_cons_zero, List.getD_cons_zero, List.getD_cons_succ]
       refine ⟨fun W hS => ?_, fun W hS => ?_, fun W hS => ?_, fun W hS => ?_, fun W hS => ?_, fun W hS => ?_, fun W hS => ?_, fun W hS => ?_, fun W hS => ?_, fun W hS => ?_, fun W hS => ?_, fun W hS => ?_, fun W hS => ?_, fun W hS => ?_, fun W hS => ?_, fun W hS => ?_, fun W hS => ?_, fun W hS => ?_, fun W hS => ?_, fun W hS => ?_, fun W hS => ?_, fun W hS => ?_, fun W hS => ?_, fun W hS => ?_, fun W hS => ?_, fun W hS => ?_, fun W hS => ?_, fun W hS => ?_, trivial⟩
       all_goals
        have hc0 := HX0.out _ hS
        go_wp2_with (first | (go_big_want; first | (refine wp_load_addr 33 _ rfl ⟨b, o + j * 18, none⟩ (.agg X) rfl (HL2.out _ hS) ?_; simp only [Act.put, List.setIfInBounds_toArray, List.set_cons_succ, List.set_cons_zero]) | (refine wp_load_addr 55 _ rfl ⟨w.heap.size, 0, none⟩ (.agg Q) rfl (HXL.out _ hS) ?_; simp only [Act.put, List.setIfInBounds_toArray, List.set_cons_succ, List.set_cons_zero])) | (go_at_call 19; refine (HNS.out _ hS).mono ?_; rintro e w2 ⟨rfl, hb2⟩) | (go_at_call 28; refine (HVA.out _).mono ?_; rintro e w2 ⟨rfl, hb2⟩) | (go_at_call 29; refine (HP2.out _ hS).mono ?_; rintro e w2 ⟨rfl, hb2⟩) | (go_at_call 25; refine (HC2.out _ hS).mono ?_; rintro e w2 ⟨rfl, hb2⟩))
        exact ⟨rfl, rfl, by first | exact Below.refl _ _ | assumption⟩
      intro wz hSz
      simp only [putL, List.take_succ_cons, List.take_zero, List.drop_succ_cons, List.drop_zero, Act.put, List.setIfInBounds_toArray, List.set_cons_succ, List.set_cons_zero, List.getD_cons_zero, List.getD_cons_succ]
      have hbE := HB.out _ hSz
      go_wp2
      go_ret
      exact ⟨rfl, hbE⟩
     have hq2 := hq rfl
     have e3 : (q == (j : Int)) = false := beq_eq_false_iff_ne.2 hq2
     have e4 : (q != (j : Int)) = true := bne_iff_ne.2 hq2
     have e5 : decide (q = (j : Int)) = false := decide_eq_false hq2
     clear hq hq2
     refine wp_det 28 (by kernel_rfl) (by kernel_rfl) (by kernel_rfl) (fun i => [.bool true, .bool true, .int .i64 0, .bool false, .bool false, .agg Q, .bool true, .bool false, .bool false, .bool false, .slice (some ⟨b, o, none⟩) n c, .int .i64 (j : Int), .pointer (some ⟨b, o + j * 18, none⟩), .agg X, .agg Q, .bool true, .bool false, .bool false, .bool false, .slice (some ⟨b, o, none⟩) n c, .pointer (some ⟨w.heap.size, 0, none⟩), .string ad, .string TT, .int .i64 q, .int .i64 (j : Int), .bool true, .bool true, .bool true].getD i undef) SS (HK.out _ _ h0 (Below.drew (Below.refl _ _))) (fun _ _ h hb => HK.out _ _ h hb) ?_ ?_
     ·simp only [putL, List.take_succ_cons, List.take_zero, List.drop_succ_cons, List.drop_zero, Act.put, List.setIfInBounds_toArray, List.set_cons_succ, List.set_cons_zero, List.getD_cons_zero, List.getD_cons_succ]
      refine ⟨fun W hS => ?_, fun W hS => ?_, fun W hS => ?_, fun W hS => ?_, fun W hS => ?_, fun W hS => ?_, fun W hS => ?_, fun W hS => ?_, fun W hS => ?_, fun W hS => ?_, fun W hS => ?_, fun W hS => ?_, fun W hS => ?_, fun W hS => ?_, fun W hS => ?_, fun W hS => ?_, fun W hS => ?_, fun W hS => ?_, fun W hS => ?_, fun W hS => ?_, fun W hS => ?_, fun W hS => ?_, fun W hS => ?_, fun W hS => ?_, fun W hS => ?_, fun W hS => ?_, fun W hS => ?_, fun W hS => ?_, trivial⟩
      all_goals
       have hc0 := HX0.out _ hS
       go_wp2_with (first | (go_big_want; first | (refine wp_load_addr 33 _ rfl ⟨b, o + j * 18, none⟩ (.agg X) rfl (HL2.out _ hS) ?_; simp only [Act.put, List.setIfInBounds_toArray, List.set_cons_succ, List.set_cons_zero]) | (refine wp_load_addr 55 _ rfl ⟨w.heap.size, 0, none⟩ (.agg Q) rfl (HXL.out _ hS) ?_; simp only [Act.put, List.setIfInBounds_toArray, List.set_cons_succ, List.set_cons_zero])) | (go_at_call 19; refine (HNS.out _ hS).mono ?_; rintro e w2 ⟨rfl, hb2⟩) | (go_at_call 28; refine (HVA.out _).mono ?_; rintro e w2 ⟨rfl, hb2⟩) | (go_at_call 29; refine (HP2.out _ hS).mono ?_; rintro e w2 ⟨rfl, hb2⟩) | (go_at_call 25; refine (HC2.out _ hS).mono ?_; rintro e w2 ⟨rfl, hb2⟩))
       exact ⟨rfl, rfl, by first | exact Below.refl _ _ | assumption⟩
     intro wz hSz
     simp only [putL, List.take_succ_cons, List.take_zero, List.drop_succ_cons, List.drop_zero, Act.put, List.setIfInBounds_toArray, List.set_cons_succ, List.set_cons_zero, List.getD_cons_zero, List.getD_cons_succ]
     have hbE := HB.out _ hSz
     go_wp2
     go_ret
     exact ⟨rfl, hbE⟩
    ·have e3 : (te == 0) = false := beq_eq_false_iff_ne.2 hte
     have e4 : (te != 0) = true := bne_iff_ne.2 hte
     have e5 : decide (te = 0) = false := decide_eq_false hte
     clear hq hte
     refine wp_det 28 (by kernel_rfl) (by kernel_rfl) (by kernel_rfl) (fun i => [.bool true, .bool true, .int .i64 te, .bool true, .bool true, undef, undef, undef, .bool true, .bool true, undef, undef, undef, undef, undef, undef, undef, .bool true, .bool true, undef, undef, undef, undef, undef, undef, undef, .bool true, .bool true].getD i undef) SS (HK.out _ _ h0 (Below.drew (Below.refl _ _))) (fun _ _ h hb => HK.out _ _ h hb) ?_ ?_
     ·simp only [putL, List.take_succ_cons, List.take_zero, List.drop_succ_cons, List.drop_zero, Act.put, List.setIfInBounds_toArray, List.set_cons_succ, List.set_cons_zero, List.getD_cons_zero, List.getD_cons_succ]
      refine ⟨fun W hS => ?_, fun W hS => ?_, fun W hS => ?_, fun W hS => ?_, fun W hS => ?_, fun W hS => ?_, fun W hS => ?_, fun W hS => ?_, fun W hS => ?_, fun W hS => ?_, fun W hS => ?_, fun W hS => ?_, fun W hS => ?_, fun W hS => ?_, fun W hS => ?_, fun W hS => ?_, fun W hS => ?_, fun W hS => ?_, fun W hS => ?_, fun W hS => ?_, fun W hS => ?_, fun W hS => ?_, fun W hS => ?_, fun W hS => ?_, fun W hS => ?_, fun W hS => ?_, fun W hS => ?_, fun W hS => ?_, trivial⟩
      all_goals
       have hc0 := HX0.out _ hS
       go_wp2_with (first | (go_big_want; first | (refine wp_load_addr 33 _ rfl ⟨b, o + j * 18, none⟩ (.agg X) rfl (HL2.out _ hS) ?_; simp only [Act.put, List.setIfInBounds_toArray, List.set_cons_succ, List.set_cons_zero]) | (refine wp_load_addr 55 _ rfl ⟨w.heap.size, 0, none⟩ (.agg Q) rfl (HXL.out _ hS) ?_; simp only [Act.put, List.setIfInBounds_toArray, List.set_cons_succ, List.set_cons_zero])) | (go_at_call 19; refine (HNS.out _ hS).mono ?_; rintro e w2 ⟨rfl, hb2⟩) | (go_at_call 28; refine (HVA.out _).mono ?_; rintro e w2 ⟨rfl, hb2⟩) | (go_at_call 29; refine (HP2.out _ hS).mono ?_; rintro e w2 ⟨rfl, hb2⟩) | (go_at_call 25; refine (HC2.out _ hS).mono ?_; rintro e w2 ⟨rfl, hb2⟩))
       exact ⟨rfl, rfl, by first | exact Below.refl _ _ | assumption⟩
     intro wz hSz
     simp only [putL, List.take_succ_cons, List.take_zero, List.drop_succ_cons, List.drop_zero, Act.put, List.setIfInBounds_toArray, List.set_cons_succ, List.set_cons_zero, List.getD_cons_zero, List.getD_cons_succ]
     have hbE := HB.out _ hSz
     go_wp2
     go_ret
     exact ⟨rfl, hbE⟩
   ·skip
    go_upto_region 12 with (first | (go_at_call 23; refine (HTG.out _ (Below.refl _ _)).mono ?_; rintro e w3 ⟨rfl, hb3⟩))
    replace hS := hS.keep hb3
    obtain ⟨SS, hSS⟩ : ∃ SS : World → Prop, SS = fun W => DwS w (some ⟨b, o, none⟩) n L Q W := ⟨_, rfl⟩
    have h0 : SS w3 := by rw [hSS]; exact hS
    have HK := Lib.hid (show ∀ W W', SS W → Below W.heap.size W W' → SS W' by rw [hSS]; exact fun W W' h hb => h.keep hb)
    have HB := Lib.hid (show ∀ W, SS W → Below w.heap.size w W by rw [hSS]; exact fun W h => h.b)
    have HL2 := Lib.hid (show ∀ W, SS W → (loadVar 33 ⟨b, o + j * 18, none⟩).run Tryz.prog W = .ok (.agg X) W by rw [hSS]; exact fun W h => HLD.out W h)
    have HXL := Lib.hid (show ∀ W, SS W → (loadVar 55 ⟨w.heap.size, 0, none⟩).run Tryz.prog W = .ok (.agg Q) W by rw [hSS]; exact fun W h => ask1_load h.q HQS.out)
    have HX0 := Lib.hid (show ∀ W, SS W → W.cell? ⟨w.heap.size, 0, none⟩ = some (.string ad) by rw [hSS]; exact fun W h => h.q.cell HA0.out)
    have HP2 := Lib.hid (show ∀ W, SS W → Calls Tryz.prog 29 #[.agg X, .agg Q] W (Ret W (.bool hv)) by rw [hSS]; exact fun W h => HPE.out W h)
    have HC2 := Lib.hid (show ∀ W, SS W → Calls Tryz.prog 25 #[.slice (some ⟨b, o, none⟩) n c, .string ad, .string TT] W (Ret W (.int .i64 q)) by rw [hSS]; exact fun W h => HCH.out W h)
    have HNS := Lib.hid (fun W (h : SS W) => HN.out W (HB.out W h))
    clear hS hSS HLD HPE HCH HN HTG hb3 HA0
    by_cases hte : te = 0
    ·replace hq := hq hte
     subst hte
     cases va
     ·clear hq
      refine wp_det 28 (by kernel_rfl) (by kernel_rfl) (by kernel_rfl) (fun i => [.bool true, .bool true, .int .i64 0, .bool false, .bool false, .agg Q, .bool false, .bool true, .bool true, .bool true, undef, undef, undef, undef, undef, undef, undef, .bool true, .bool true, undef, undef, undef, undef, undef, undef, undef, .bool true, .bool true].getD i undef) SS (HK.out _ _ h0 (Below.drew (Below.refl _ _))) (fun _ _ h hb => HK.out _ _ h hb) ?_ ?_
      ·simp only [putL, List.take_succ_cons, List.take_zero, List.drop_succ_cons, List.drop_zero, Act.put, List.setIfInBounds_toArray, List.set_cons_succ, List.set_cons_zero, List.getD_cons_zero, List.getD_cons_succ]
       refine ⟨fun W hS => ?_, fun W hS => ?_, fun W hS => ?_, fun W hS => ?_, fun W hS => ?_, fun W hS => ?_, fun W hS => ?_, fun W hS => ?_, fun W hS => ?_, fun W hS => ?_, fun W hS => ?_, fun W hS => ?_, fun W hS => ?_, fun W hS => ?_, fun W hS => ?_, fun W hS => ?_, fun W hS => ?_, fun W hS => ?_, fun W hS => ?_, fun W hS => ?_, fun W hS => ?_, fun W hS => ?_, fun W hS => ?_, fun W hS => ?_, fun W hS => ?_, fun W hS => ?_, fun W hS => ?_, fun W hS => ?_, trivial⟩
       all_goals
        have hc0 := HX0.out _ hS
        go_wp2_with (first | (go_big_want; first | (refine wp_load_addr 33 _ rfl ⟨b, o + j * 18, none⟩ (.agg X) rfl (HL2.out _ hS) ?_; simp only [Act.put, List.setIfInBounds_toArray, List.set_cons_succ, List.set_cons_zero]) | (refine wp_load_addr 55 _ rfl ⟨w.heap.size, 0, none⟩ (.agg Q) rfl (HXL.out _ hS) ?_; simp only [Act.put, List.setIfInBounds_toArray, List.set_cons_succ, List.set_cons_zero])) | (go_at_call 19; refine (HNS.out _ hS).mono ?_; rintro e w2 ⟨rfl, hb2⟩) | (go_at_call 28; refine (HVA.out _).mono ?_; rintro e w2 ⟨rfl, hb2⟩) | (go_at_call 29; refine (HP2.out _ hS).mono ?_; rintro e w2 ⟨rfl, hb2⟩) | (go_at_call 25; refine (HC2.out _ hS).mono ?_; rintro e w2 ⟨rfl, hb2⟩))
        exact ⟨rfl, rfl, by first | exact Below.refl _ _ | assumption⟩
      intro wz hSz
      simp only [putL, List.take_succ_cons, List.take_zero, List.drop_succ_cons, List.drop_zero, Act.put, List.setIfInBounds_toArray, List.set_cons_succ, List.set_cons_zero, List.getD_cons_zero, List.getD_cons_succ]
      have hbE := HB.out _ hSz
      go_wp2
      go_ret
      exact ⟨rfl, hbE⟩
     cases hv
     ·clear hq
      refine wp_det 28 (by kernel_rfl) (by kernel_rfl) (by kernel_rfl) (fun i => [.bool true, .bool true, .int .i64 0, .bool false, .bool false, .agg Q, .bool true, .bool false, .bool false, .bool false, .slice (some ⟨b, o, none⟩) n c, .int .i64 (j : Int), .pointer (some ⟨b, o + j * 18, none⟩), .agg X, .agg Q, .bool false, .bool true, .bool true, .bool true, undef, undef, undef, undef, undef, undef, undef, .bool true, .bool true].getD i undef) SS (HK.out _ _ h0 (Below.drew (Below.refl _ _))) (fun _ _ h hb => HK.out _ _ h hb) ?_ ?_
      ·simp only [putL, List.take_succ_cons, List.take_zero, List.drop_succ_cons, List.drop_zero, Act.put, List.setIfInBounds_toArray, List.set_cons_succ, List.set_cons_zero, List.getD_cons_zero, List.getD_cons_succ]
       refine ⟨fun W hS => ?_, fun W hS => ?_, fun W hS => ?_, fun W hS => ?_, fun W hS => ?_, fun W hS => ?_, fun W hS => ?_, fun W hS => ?_, fun W hS => ?_, fun W hS => ?_, fun W hS => ?_, fun W hS => ?_, fun W hS => ?_, fun W hS => ?_, fun W hS => ?_, fun W hS => ?_, fun W hS => ?_, fun W hS => ?_, fun W hS => ?_, fun W hS => ?_, fun W hS => ?_, fun W hS => ?_, fun W hS => ?_, fun W hS => ?_, fun W hS => ?_, fun W hS => ?_, fun W hS => ?_, fun W hS => ?_, trivial⟩
       all_goals
        have hc0 := HX0.out _ hS
        go_wp2_with (first | (go_big_want; first | (refine wp_load_addr 33 _ rfl ⟨b, o + j * 18, none⟩ (.agg X) rfl (HL2.out _ hS) ?_; simp only [Act.put, List.setIfInBounds_toArray, List.set_cons_succ, List.set_cons_zero]) | (refine wp_load_addr 55 _ rfl ⟨w.heap.size, 0, none⟩ (.agg Q) rfl (HXL.out _ hS) ?_; simp only [Act.put, List.setIfInBounds_toArray, List.set_cons_succ, List.set_cons_zero])) | (go_at_call 19; refine (HNS.out _ hS).mono ?_; rintro e w2 ⟨rfl, hb2⟩) | (go_at_call 28; refine (HVA.out _).mono ?_; rintro e w2 ⟨rfl, hb2⟩) | (go_at_call 29; refine (HP2.out _ hS).mono ?_; rintro e w2 ⟨rfl, hb2⟩) | (go_at_call 25; refine (HC2.out _ hS).mono ?_; rintro e w2 ⟨rfl, hb2⟩))
        exact ⟨rfl, rfl, by first | exact Below.refl _ _ | assumption⟩
      intro wz hSz
      simp only [putL, List.take_succ_cons, List.take_zero, List.drop_succ_cons, List.drop_zero, Act.put, List.setIfInBounds_toArray, List.set_cons_succ, List.set_cons_zero, List.getD_cons_zero, List.getD_cons_succ]
      have hbE := HB.out _ hSz
      go_wp2
      go_ret
      exact ⟨rfl, hbE⟩
     have hq2 := hq rfl
     have e3 : (q == (j : Int)) = false := beq_eq_false_iff_ne.2 hq2
     have e4 : (q != (j : Int)) = true := bne_iff_ne.2 hq2
     have e5 : decide (q = (j : Int)) = false := decide_eq_false hq2
     clear hq hq2
     refine wp_det 28 (by kernel_rfl) (by kernel_rfl) (by kernel_rfl) (fun i => [.bool true, .bool true, .int .i64 0, .bool false, .bool false, .agg Q, .bool true, .bool false, .bool false, .bool false, .slice (some ⟨b, o, none⟩) n c, .int .i64 (j : Int), .pointer (some ⟨b, o + j * 18, none⟩), .agg X, .agg Q, .bool true, .bool false, .bool false, .bool false, .slice (some ⟨b, o, none⟩) n c, .pointer (some ⟨w.heap.size, 0, none⟩), .string ad, .string TT, .int .i64 q, .int .i64 (j : Int), .bool true, .bool true, .bool true].getD i undef) SS (HK.out _ _ h0 (Below.drew (Below.refl _ _))) (fun _ _ h hb => HK.out _ _ h hb) ?_ ?_
     ·simp only [putL, List.take_succ_cons, List.take_zero, List.drop_succ_cons, List.drop_zero, Act.put, List.setIfInBounds_toArray, List.set_cons_succ, List.set_cons_zero, List.getD_cons_zero, List.getD_cons_succ]
      refine ⟨fun W hS => ?_, fun W hS => ?_, fun W hS => ?_, fun W hS => ?_, fun W hS => ?_, fun W hS => ?_, fun W hS => ?_, fun W hS => ?_, fun W hS => ?_, fun W hS => ?_, fun W hS => ?_, fun W hS => ?_, fun W hS => ?_, fun W hS => ?_, fun W hS => ?_, fun W hS => ?_, fun W hS => ?_, fun W hS => ?_, fun W hS => ?_, fun W hS => ?_, fun W hS => ?_, fun W hS => ?_, fun W hS => ?_, fun W hS => ?_, fun W hS => ?_, fun W hS => ?_, fun W hS => ?_, fun W hS => ?_, trivial⟩
      all_goals
       have hc0 := HX0.out _ hS
       go_wp2_with (first | (go_big_want; first | (refine wp_load_addr 33 _ rfl ⟨b, o + j * 18, none⟩ (.agg X) rfl (HL2.out _ hS) ?_; simp only [Act.put, List.setIfInBounds_toArray, List.set_cons_succ, List.set_cons_zero]) | (refine wp_load_addr 55 _ rfl ⟨w.heap.size, 0, none⟩ (.agg Q) rfl (HXL.out _ hS) ?_; simp only [Act.put, List.setIfInBounds_toArray, List.set_cons_succ, List.set_cons_zero])) | (go_at_call 19; refine (HNS.out _ hS).mono ?_; rintro e w2 ⟨rfl, hb2⟩) | (go_at_call 28; refine (HVA.out _).mono ?_; rintro e w2 ⟨rfl, hb2⟩) | (go_at_call 29; refine (HP2.out _ hS).mono ?_; rintro e w2 ⟨rfl, hb2⟩) | (go_at_call 25; refine (HC2.out _ hS).mono ?_; rintro e w2 ⟨rfl, hb2⟩))
       exact ⟨rfl, rfl, by first | exact Below.refl _ _ | assumption⟩
     intro wz hSz
     simp only [putL, List.take_succ_cons, List.take_zero, List.drop_succ_cons, List.drop_zero, Act.put, List.setIfInBounds_toArray, List.set_cons_succ, List.set_cons_zero, List.getD_cons_zero, List.getD_cons_succ]
     have hbE := HB.out _ hSz
     go_wp2
     go_ret
     exact ⟨rfl, hbE⟩
    ·have e3 : (te == 0) = false := beq_eq_false_iff_ne.2 hte
     have e4 : (te != 0) = true := bne_iff_ne.2 hte
     have e5 : decide (te = 0) = false := decide_eq_false hte
     clear hq hte
     refine wp_det 28 (by kernel_rfl) (by kernel_rfl) (by kernel_rfl) (fun i => [.bool true, .bool true, .int .i64 te, .bool true, .bool true, undef, undef, undef, .bool true, .bool true, undef, undef, undef, undef, undef, undef, undef, .bool true, .bool true, undef, undef, undef, undef, undef, undef, undef, .bool true, .bool true].getD i undef) SS (HK.out _ _ h0 (Below.drew (Below.refl _ _))) (fun _ _ h hb => HK.out _ _ h hb) ?_ ?_
     ·simp only [putL, List.take_succ_cons, List.take_zero, List.drop_succ_cons, List.drop_zero, Act.put, List.setIfInBounds_toArray, List.set_cons_succ, List.set_cons_zero, List.getD_cons_zero, List.getD_cons_succ]
      refine ⟨fun W hS => ?_, fun W hS => ?_, fun W hS => ?_, fun W hS => ?_, fun W hS => ?_, fun W hS => ?_, fun W hS => ?_, fun W hS => ?_, fun W hS => ?_, fun W hS => ?_, fun W hS => ?_, fun W hS => ?_, fun W hS => ?_, fun W hS => ?_, fun W hS => ?_, fun W hS => ?_, fun W hS => ?_, fun W hS => ?_, fun W hS => ?_, fun W hS => ?_, fun W hS => ?_, fun W hS => ?_, fun W hS => ?_, fun W hS => ?_, fun W hS => ?_, fun W hS => ?_, fun W hS => ?_, fun W hS => ?_, trivial⟩
      all_goals
       have hc0 := HX0.out _ hS
       go_wp2_with (first | (go_big_want; first | (refine wp_load_addr 33 _ rfl ⟨b, o + j * 18, none⟩ (.agg X) rfl (HL2.out _ hS) ?_; simp only [Act.put, List.setIfInBounds_toArray, List.set_cons_succ, List.set_cons_zero]) | (refine wp_load_addr 55 _ rfl ⟨w.heap.size, 0, none⟩ (.agg Q) rfl (HXL.out _ hS) ?_; simp only [Act.put, List.setIfInBounds_toArray, List.set_cons_succ, List.set_cons_zero])) | (go_at_call 19; refine (HNS.out _ hS).mono ?_; rintro e w2 ⟨rfl, hb2⟩) | (go_at_call 28; refine (HVA.out _).mono ?_; rintro e w2 ⟨rfl, hb2⟩) | (go_at_call 29; refine (HP2.out _ hS).mono ?_; rintro e w2 ⟨rfl, hb2⟩) | (go_at_call 25; refine (HC2.out _ hS).mono ?_; rintro e w2 ⟨rfl, hb2⟩))
       exact ⟨rfl, rfl, by first | exact Below.refl _ _ | assumption⟩
     intro wz hSz
     simp only [putL, List.take_succ_cons, List.take_zero, List.drop_succ_cons, List.drop_zero, Act.put, List.setIfInBounds_toArray, List.set_cons_succ, List.set_cons_zero, List.getD_cons_zero, List.getD_cons_succ]
     have hbE := HB.out _ hSz
     go_wp2
     go_ret
     exact ⟨rfl, hbE⟩
end Go.Proofs.YtjhlpkhfdghngaaGreatDoor
