/- What the cond package's ValidAsk returns. -/
import Derived.Test.YtjhlpkhfdghngaaGreatDoorGZ26
import Derived.Test.YtjhlpkhfdghngaaGreatDoorProg
import Derived.WalkKit
import Derived.WalkSpells
import Derived.WalkLawsBesides
import Derived.Below
import Derived.Deep.QuietTactic
import Derived.BigQuiet
import Derived.Lib.QuietBelow
import Derived.Lib.Strings
import Derived.Lib.Hide
import Derived.Deep.RegionWith
import Derived.Deep.RegionHeld3
import Derived.Lib.IndexBytes
import Derived.Test.YtjhlpkhfdghngaaGreatDoorGZ27
import Derived.Test.YtjhlpkhfdghngaaGreatDoorGZ19
import Derived.Test.YtjhlpkhfdghngaaGreatDoorGZ9
namespace Go.Proofs.YtjhlpkhfdghngaaGreatDoor
open Go.RowKit Go.Sort
set_option linter.unusedVariables false
set_option linter.unusedSimpArgs false
set_option maxRecDepth 100000
theorem canon_shape (s : ByteArray) : ∃ (t : ByteArray) (f : Int), canonV s = .tuple #[.string t, .int .i64 f] ∧ readB s = (decide (f = 0) && (t.toList == s.toList)) := by
  unfold canonV readB
  by_cases h : (parseB s).2 = 0
  · have hg := parse_good s h
    have hsh := parse_short s h
    have hf : formedB (parseB s).1.cust (parseB s).1.path (parseB s).1.query = true := (formed_iff _ _ _).2 ⟨hg, by omega⟩
    rw [if_pos h]
    unfold textV
    rw [if_pos hf, decide_eq_true h]
    exact ⟨_, 0, rfl, rfl⟩
  · rw [if_neg h]
    refine ⟨_, _, rfl, ?_⟩
    rw [decide_eq_false h]
    rfl
set_option maxHeartbeats 8000000 in
theorem validAsk_any (a : AskV) (w : World) (h1 : a.addr.size ≤ 100000) (h2 : a.client.size ≤ 100000) (h3 : a.country.size ≤ 100000) (hE : Env w) : Calls Tryz.prog 166 #[AskV.val a] w (Ret w (.bool (validAsk a))) := by
  obtain ⟨ad, cl, co, si, lo, hi⟩ := a
  dsimp only at h1 h2 h3
  unfold AskV.val
  dsimp only
  obtain ⟨V, hV⟩ : ∃ V, V = validAsk ⟨ad, cl, co, si, lo, hi⟩ := ⟨_, rfl⟩
  rw [← hV]
  unfold validAsk at hV
  dsimp only at hV
  obtain ⟨t, f, hcs, hrb⟩ := canon_shape ad
  have c1 := fun W h => canonical_any ad W (by omega) h
  have c2 := fun W h => condName_any cl W h2 h
  have c3 := fun W => isCountry_any co W (by omega)
  have c4 := fun W => isSite_any si W
  rw [hcs] at c1
  rw [hrb] at hV
  clear hcs hrb
  generalize isNameB cl = b2 at *
  generalize countryB co = b3 at *
  generalize siteB si = b4 at *
  have C1 := Lib.hid c1
  have C2 := Lib.hid c2
  have C3 := Lib.hid c3
  have C4 := Lib.hid c4
  have HE := Lib.hid hE
  clear c1 c2 c3 c4 hE h1 h2 h3
  by_cases t1 : f = 0
  rotate_left
  · obtain rfl : V = false := by rw [hV]; simp [t1]
    have d1 : (f == 0) = false := by simpa using t1
    clear hV
    (go_enter Tryz.func166, Tryz.ntmps166; go_wp2_with (first | (go_at_call 24; refine (C1.out _ (Env.keep HE.out belB)).mono ?_; rintro e w2 ⟨rfl, hb2⟩; (have hX2 : Blk w2 w.heap.size 55 #[.string ad, .string cl, .string co, .int .i64 si, .int .i64 lo, .int .i64 hi] (0, 0) := (by first | exact Blk.keep hX2 hb2 | exact Blk.keep (World.alloc_heap_new _ _) hb2); have x0 := hX2.cell 0; have x1 := hX2.cell 1; have x2 := hX2.cell 2; have x3 := hX2.cell 3; have x4 := hX2.cell 4; have x5 := hX2.cell 5)) | (go_at_call 108; refine (C2.out _ (Env.keep HE.out belB)).mono ?_; rintro e w2 ⟨rfl, hb2⟩; (have hX2 : Blk w2 w.heap.size 55 #[.string ad, .string cl, .string co, .int .i64 si, .int .i64 lo, .int .i64 hi] (0, 0) := (by first | exact Blk.keep hX2 hb2 | exact Blk.keep (World.alloc_heap_new _ _) hb2); have x0 := hX2.cell 0; have x1 := hX2.cell 1; have x2 := hX2.cell 2; have x3 := hX2.cell 3; have x4 := hX2.cell 4; have x5 := hX2.cell 5)) | (go_at_call 109; refine (C3.out _).mono ?_; rintro e w2 ⟨rfl, hb2⟩; (have hX2 : Blk w2 w.heap.size 55 #[.string ad, .string cl, .string co, .int .i64 si, .int .i64 lo, .int .i64 hi] (0, 0) := (by first | exact Blk.keep hX2 hb2 | exact Blk.keep (World.alloc_heap_new _ _) hb2); have x0 := hX2.cell 0; have x1 := hX2.cell 1; have x2 := hX2.cell 2; have x3 := hX2.cell 3; have x4 := hX2.cell 4; have x5 := hX2.cell 5)) | (go_at_call 111; refine (C4.out _).mono ?_; rintro e w2 ⟨rfl, hb2⟩; (have hX2 : Blk w2 w.heap.size 55 #[.string ad, .string cl, .string co, .int .i64 si, .int .i64 lo, .int .i64 hi] (0, 0) := (by first | exact Blk.keep hX2 hb2 | exact Blk.keep (World.alloc_heap_new _ _) hb2); have x0 := hX2.cell 0; have x1 := hX2.cell 1; have x2 := hX2.cell 2; have x3 := hX2.cell 3; have x4 := hX2.cell 4; have x5 := hX2.cell 5))); go_ret; exact ⟨rfl, belB⟩)
  subst t1
  have hV2 : V = ((t.toList == ad.toList) && b2 && b3 && b4 && decide (0 ≤ lo ∧ lo ≤ hi ∧ hi ≤ 1099511627776)) := by rw [hV]; rfl
  clear hV
  cases t2 : (t.toList == ad.toList)
  · obtain rfl : V = false := by rw [hV2, t2]; rfl
    clear hV2
    (go_enter Tryz.func166, Tryz.ntmps166; go_wp2_with (first | (go_at_call 24; refine (C1.out _ (Env.keep HE.out belB)).mono ?_; rintro e w2 ⟨rfl, hb2⟩; (have hX2 : Blk w2 w.heap.size 55 #[.string ad, .string cl, .string co, .int .i64 si, .int .i64 lo, .int .i64 hi] (0, 0) := (by first | exact Blk.keep hX2 hb2 | exact Blk.keep (World.alloc_heap_new _ _) hb2); have x0 := hX2.cell 0; have x1 := hX2.cell 1; have x2 := hX2.cell 2; have x3 := hX2.cell 3; have x4 := hX2.cell 4; have x5 := hX2.cell 5)) | (go_at_call 108; refine (C2.out _ (Env.keep HE.out belB)).mono ?_; rintro e w2 ⟨rfl, hb2⟩; (have hX2 : Blk w2 w.heap.size 55 #[.string ad, .string cl, .string co, .int .i64 si, .int .i64 lo, .int .i64 hi] (0, 0) := (by first | exact Blk.keep hX2 hb2 | exact Blk.keep (World.alloc_heap_new _ _) hb2); have x0 := hX2.cell 0; have x1 := hX2.cell 1; have x2 := hX2.cell 2; have x3 := hX2.cell 3; have x4 := hX2.cell 4; have x5 := hX2.cell 5)) | (go_at_call 109; refine (C3.out _).mono ?_; rintro e w2 ⟨rfl, hb2⟩; (have hX2 : Blk w2 w.heap.size 55 #[.string ad, .string cl, .string co, .int .i64 si, .int .i64 lo, .int .i64 hi] (0, 0) := (by first | exact Blk.keep hX2 hb2 | exact Blk.keep (World.alloc_heap_new _ _) hb2); have x0 := hX2.cell 0; have x1 := hX2.cell 1; have x2 := hX2.cell 2; have x3 := hX2.cell 3; have x4 := hX2.cell 4; have x5 := hX2.cell 5)) | (go_at_call 111; refine (C4.out _).mono ?_; rintro e w2 ⟨rfl, hb2⟩; (have hX2 : Blk w2 w.heap.size 55 #[.string ad, .string cl, .string co, .int .i64 si, .int .i64 lo, .int .i64 hi] (0, 0) := (by first | exact Blk.keep hX2 hb2 | exact Blk.keep (World.alloc_heap_new _ _) hb2); have x0 := hX2.cell 0; have x1 := hX2.cell 1; have x2 := hX2.cell 2; have x3 := hX2.cell 3; have x4 := hX2.cell 4; have x5 := hX2.cell 5))); go_ret; exact ⟨rfl, belB⟩)
  rw [t2] at hV2
  cases b2
  · obtain rfl : V = false := by rw [hV2]; rfl
    clear hV2
    (go_enter Tryz.func166, Tryz.ntmps166; go_wp2_with (first | (go_at_call 24; refine (C1.out _ (Env.keep HE.out belB)).mono ?_; rintro e w2 ⟨rfl, hb2⟩; (have hX2 : Blk w2 w.heap.size 55 #[.string ad, .string cl, .string co, .int .i64 si, .int .i64 lo, .int .i64 hi] (0, 0) := (by first | exact Blk.keep hX2 hb2 | exact Blk.keep (World.alloc_heap_new _ _) hb2); have x0 := hX2.cell 0; have x1 := hX2.cell 1; have x2 := hX2.cell 2; have x3 := hX2.cell 3; have x4 := hX2.cell 4; have x5 := hX2.cell 5)) | (go_at_call 108; refine (C2.out _ (Env.keep HE.out belB)).mono ?_; rintro e w2 ⟨rfl, hb2⟩; (have hX2 : Blk w2 w.heap.size 55 #[.string ad, .string cl, .string co, .int .i64 si, .int .i64 lo, .int .i64 hi] (0, 0) := (by first | exact Blk.keep hX2 hb2 | exact Blk.keep (World.alloc_heap_new _ _) hb2); have x0 := hX2.cell 0; have x1 := hX2.cell 1; have x2 := hX2.cell 2; have x3 := hX2.cell 3; have x4 := hX2.cell 4; have x5 := hX2.cell 5)) | (go_at_call 109; refine (C3.out _).mono ?_; rintro e w2 ⟨rfl, hb2⟩; (have hX2 : Blk w2 w.heap.size 55 #[.string ad, .string cl, .string co, .int .i64 si, .int .i64 lo, .int .i64 hi] (0, 0) := (by first | exact Blk.keep hX2 hb2 | exact Blk.keep (World.alloc_heap_new _ _) hb2); have x0 := hX2.cell 0; have x1 := hX2.cell 1; have x2 := hX2.cell 2; have x3 := hX2.cell 3; have x4 := hX2.cell 4; have x5 := hX2.cell 5)) | (go_at_call 111; refine (C4.out _).mono ?_; rintro e w2 ⟨rfl, hb2⟩; (have hX2 : Blk w2 w.heap.size 55 #[.string ad, .string cl, .string co, .int .i64 si, .int .i64 lo, .int .i64 hi] (0, 0) := (by first | exact Blk.keep hX2 hb2 | exact Blk.keep (World.alloc_heap_new _ _) hb2); have x0 := hX2.cell 0; have x1 := hX2.cell 1; have x2 := hX2.cell 2; have x3 := hX2.cell 3; have x4 := hX2.cell 4; have x5 := hX2.cell 5))); go_ret; exact ⟨rfl, belB⟩)
  cases b3
  · obtain rfl : V = false := by rw [hV2]; rfl
    clear hV2
    (go_enter Tryz.func166, Tryz.ntmps166; go_wp2_with (first | (go_at_call 24; refine (C1.out _ (Env.keep HE.out belB)).mono ?_; rintro e w2 ⟨rfl, hb2⟩; (have hX2 : Blk w2 w.heap.size 55 #[.string ad, .string cl, .string co, .int .i64 si, .int .i64 lo, .int .i64 hi] (0, 0) := (by first | exact Blk.keep hX2 hb2 | exact Blk.keep (World.alloc_heap_new _ _) hb2); have x0 := hX2.cell 0; have x1 := hX2.cell 1; have x2 := hX2.cell 2; have x3 := hX2.cell 3; have x4 := hX2.cell 4; have x5 := hX2.cell 5)) | (go_at_call 108; refine (C2.out _ (Env.keep HE.out belB)).mono ?_; rintro e w2 ⟨rfl, hb2⟩; (have hX2 : Blk w2 w.heap.size 55 #[.string ad, .string cl, .string co, .int .i64 si, .int .i64 lo, .int .i64 hi] (0, 0) := (by first | exact Blk.keep hX2 hb2 | exact Blk.keep (World.alloc_heap_new _ _) hb2); have x0 := hX2.cell 0; have x1 := hX2.cell 1; have x2 := hX2.cell 2; have x3 := hX2.cell 3; have x4 := hX2.cell 4; have x5 := hX2.cell 5)) | (go_at_call 109; refine (C3.out _).mono ?_; rintro e w2 ⟨rfl, hb2⟩; (have hX2 : Blk w2 w.heap.size 55 #[.string ad, .string cl, .string co, .int .i64 si, .int .i64 lo, .int .i64 hi] (0, 0) := (by first | exact Blk.keep hX2 hb2 | exact Blk.keep (World.alloc_heap_new _ _) hb2); have x0 := hX2.cell 0; have x1 := hX2.cell 1; have x2 := hX2.cell 2; have x3 := hX2.cell 3; have x4 := hX2.cell 4; have x5 := hX2.cell 5)) | (go_at_call 111; refine (C4.out _).mono ?_; rintro e w2 ⟨rfl, hb2⟩; (have hX2 : Blk w2 w.heap.size 55 #[.string ad, .string cl, .string co, .int .i64 si, .int .i64 lo, .int .i64 hi] (0, 0) := (by first | exact Blk.keep hX2 hb2 | exact Blk.keep (World.alloc_heap_new _ _) hb2); have x0 := hX2.cell 0; have x1 := hX2.cell 1; have x2 := hX2.cell 2; have x3 := hX2.cell 3; have x4 := hX2.cell 4; have x5 := hX2.cell 5))); go_ret; exact ⟨rfl, belB⟩)
  cases b4
  · obtain rfl : V = false := by rw [hV2]; rfl
    clear hV2
    (go_enter Tryz.func166, Tryz.ntmps166; go_wp2_with (first | (go_at_call 24; refine (C1.out _ (Env.keep HE.out belB)).mono ?_; rintro e w2 ⟨rfl, hb2⟩; (have hX2 : Blk w2 w.heap.size 55 #[.string ad, .string cl, .string co, .int .i64 si, .int .i64 lo, .int .i64 hi] (0, 0) := (by first | exact Blk.keep hX2 hb2 | exact Blk.keep (World.alloc_heap_new _ _) hb2); have x0 := hX2.cell 0; have x1 := hX2.cell 1; have x2 := hX2.cell 2; have x3 := hX2.cell 3; have x4 := hX2.cell 4; have x5 := hX2.cell 5)) | (go_at_call 108; refine (C2.out _ (Env.keep HE.out belB)).mono ?_; rintro e w2 ⟨rfl, hb2⟩; (have hX2 : Blk w2 w.heap.size 55 #[.string ad, .string cl, .string co, .int .i64 si, .int .i64 lo, .int .i64 hi] (0, 0) := (by first | exact Blk.keep hX2 hb2 | exact Blk.keep (World.alloc_heap_new _ _) hb2); have x0 := hX2.cell 0; have x1 := hX2.cell 1; have x2 := hX2.cell 2; have x3 := hX2.cell 3; have x4 := hX2.cell 4; have x5 := hX2.cell 5)) | (go_at_call 109; refine (C3.out _).mono ?_; rintro e w2 ⟨rfl, hb2⟩; (have hX2 : Blk w2 w.heap.size 55 #[.string ad, .string cl, .string co, .int .i64 si, .int .i64 lo, .int .i64 hi] (0, 0) := (by first | exact Blk.keep hX2 hb2 | exact Blk.keep (World.alloc_heap_new _ _) hb2); have x0 := hX2.cell 0; have x1 := hX2.cell 1; have x2 := hX2.cell 2; have x3 := hX2.cell 3; have x4 := hX2.cell 4; have x5 := hX2.cell 5)) | (go_at_call 111; refine (C4.out _).mono ?_; rintro e w2 ⟨rfl, hb2⟩; (have hX2 : Blk w2 w.heap.size 55 #[.string ad, .string cl, .string co, .int .i64 si, .int .i64 lo, .int .i64 hi] (0, 0) := (by first | exact Blk.keep hX2 hb2 | exact Blk.keep (World.alloc_heap_new _ _) hb2); have x0 := hX2.cell 0; have x1 := hX2.cell 1; have x2 := hX2.cell 2; have x3 := hX2.cell 3; have x4 := hX2.cell 4; have x5 := hX2.cell 5))); go_ret; exact ⟨rfl, belB⟩)
  by_cases t3 : 0 ≤ lo
  rotate_left
  · obtain rfl : V = false := by rw [hV2]; simp [t3]
    have d3 : decide (0 ≤ lo) = false := decide_eq_false t3
    clear hV2
    (go_enter Tryz.func166, Tryz.ntmps166; go_wp2_with (first | (go_at_call 24; refine (C1.out _ (Env.keep HE.out belB)).mono ?_; rintro e w2 ⟨rfl, hb2⟩; (have hX2 : Blk w2 w.heap.size 55 #[.string ad, .string cl, .string co, .int .i64 si, .int .i64 lo, .int .i64 hi] (0, 0) := (by first | exact Blk.keep hX2 hb2 | exact Blk.keep (World.alloc_heap_new _ _) hb2); have x0 := hX2.cell 0; have x1 := hX2.cell 1; have x2 := hX2.cell 2; have x3 := hX2.cell 3; have x4 := hX2.cell 4; have x5 := hX2.cell 5)) | (go_at_call 108; refine (C2.out _ (Env.keep HE.out belB)).mono ?_; rintro e w2 ⟨rfl, hb2⟩; (have hX2 : Blk w2 w.heap.size 55 #[.string ad, .string cl, .string co, .int .i64 si, .int .i64 lo, .int .i64 hi] (0, 0) := (by first | exact Blk.keep hX2 hb2 | exact Blk.keep (World.alloc_heap_new _ _) hb2); have x0 := hX2.cell 0; have x1 := hX2.cell 1; have x2 := hX2.cell 2; have x3 := hX2.cell 3; have x4 := hX2.cell 4; have x5 := hX2.cell 5)) | (go_at_call 109; refine (C3.out _).mono ?_; rintro e w2 ⟨rfl, hb2⟩; (have hX2 : Blk w2 w.heap.size 55 #[.string ad, .string cl, .string co, .int .i64 si, .int .i64 lo, .int .i64 hi] (0, 0) := (by first | exact Blk.keep hX2 hb2 | exact Blk.keep (World.alloc_heap_new _ _) hb2); have x0 := hX2.cell 0; have x1 := hX2.cell 1; have x2 := hX2.cell 2; have x3 := hX2.cell 3; have x4 := hX2.cell 4; have x5 := hX2.cell 5)) | (go_at_call 111; refine (C4.out _).mono ?_; rintro e w2 ⟨rfl, hb2⟩; (have hX2 : Blk w2 w.heap.size 55 #[.string ad, .string cl, .string co, .int .i64 si, .int .i64 lo, .int .i64 hi] (0, 0) := (by first | exact Blk.keep hX2 hb2 | exact Blk.keep (World.alloc_heap_new _ _) hb2); have x0 := hX2.cell 0; have x1 := hX2.cell 1; have x2 := hX2.cell 2; have x3 := hX2.cell 3; have x4 := hX2.cell 4; have x5 := hX2.cell 5))); go_ret; exact ⟨rfl, belB⟩)
  have d3 : decide (0 ≤ lo) = true := decide_eq_true t3
  by_cases t4 : lo ≤ hi
  rotate_left
  · obtain rfl : V = false := by rw [hV2]; simp [t4]
    have d4 : decide (lo ≤ hi) = false := decide_eq_false t4
    clear hV2
    (go_enter Tryz.func166, Tryz.ntmps166; go_wp2_with (first | (go_at_call 24; refine (C1.out _ (Env.keep HE.out belB)).mono ?_; rintro e w2 ⟨rfl, hb2⟩; (have hX2 : Blk w2 w.heap.size 55 #[.string ad, .string cl, .string co, .int .i64 si, .int .i64 lo, .int .i64 hi] (0, 0) := (by first | exact Blk.keep hX2 hb2 | exact Blk.keep (World.alloc_heap_new _ _) hb2); have x0 := hX2.cell 0; have x1 := hX2.cell 1; have x2 := hX2.cell 2; have x3 := hX2.cell 3; have x4 := hX2.cell 4; have x5 := hX2.cell 5)) | (go_at_call 108; refine (C2.out _ (Env.keep HE.out belB)).mono ?_; rintro e w2 ⟨rfl, hb2⟩; (have hX2 : Blk w2 w.heap.size 55 #[.string ad, .string cl, .string co, .int .i64 si, .int .i64 lo, .int .i64 hi] (0, 0) := (by first | exact Blk.keep hX2 hb2 | exact Blk.keep (World.alloc_heap_new _ _) hb2); have x0 := hX2.cell 0; have x1 := hX2.cell 1; have x2 := hX2.cell 2; have x3 := hX2.cell 3; have x4 := hX2.cell 4; have x5 := hX2.cell 5)) | (go_at_call 109; refine (C3.out _).mono ?_; rintro e w2 ⟨rfl, hb2⟩; (have hX2 : Blk w2 w.heap.size 55 #[.string ad, .string cl, .string co, .int .i64 si, .int .i64 lo, .int .i64 hi] (0, 0) := (by first | exact Blk.keep hX2 hb2 | exact Blk.keep (World.alloc_heap_new _ _) hb2); have x0 := hX2.cell 0; have x1 := hX2.cell 1; have x2 := hX2.cell 2; have x3 := hX2.cell 3; have x4 := hX2.cell 4; have x5 := hX2.cell 5)) | (go_at_call 111; refine (C4.out _).mono ?_; rintro e w2 ⟨rfl, hb2⟩; (have hX2 : Blk w2 w.heap.size 55 #[.string ad, .string cl, .string co, .int .i64 si, .int .i64 lo, .int .i64 hi] (0, 0) := (by first | exact Blk.keep hX2 hb2 | exact Blk.keep (World.alloc_heap_new _ _) hb2); have x0 := hX2.cell 0; have x1 := hX2.cell 1; have x2 := hX2.cell 2; have x3 := hX2.cell 3; have x4 := hX2.cell 4; have x5 := hX2.cell 5))); go_ret; exact ⟨rfl, belB⟩)
  have d4 : decide (lo ≤ hi) = true := decide_eq_true t4
  obtain rfl : V = decide (hi ≤ 1099511627776) := by rw [hV2]; simp [t3, t4]
  clear hV2
  (go_enter Tryz.func166, Tryz.ntmps166; go_wp2_with (first | (go_at_call 24; refine (C1.out _ (Env.keep HE.out belB)).mono ?_; rintro e w2 ⟨rfl, hb2⟩; (have hX2 : Blk w2 w.heap.size 55 #[.string ad, .string cl, .string co, .int .i64 si, .int .i64 lo, .int .i64 hi] (0, 0) := (by first | exact Blk.keep hX2 hb2 | exact Blk.keep (World.alloc_heap_new _ _) hb2); have x0 := hX2.cell 0; have x1 := hX2.cell 1; have x2 := hX2.cell 2; have x3 := hX2.cell 3; have x4 := hX2.cell 4; have x5 := hX2.cell 5)) | (go_at_call 108; refine (C2.out _ (Env.keep HE.out belB)).mono ?_; rintro e w2 ⟨rfl, hb2⟩; (have hX2 : Blk w2 w.heap.size 55 #[.string ad, .string cl, .string co, .int .i64 si, .int .i64 lo, .int .i64 hi] (0, 0) := (by first | exact Blk.keep hX2 hb2 | exact Blk.keep (World.alloc_heap_new _ _) hb2); have x0 := hX2.cell 0; have x1 := hX2.cell 1; have x2 := hX2.cell 2; have x3 := hX2.cell 3; have x4 := hX2.cell 4; have x5 := hX2.cell 5)) | (go_at_call 109; refine (C3.out _).mono ?_; rintro e w2 ⟨rfl, hb2⟩; (have hX2 : Blk w2 w.heap.size 55 #[.string ad, .string cl, .string co, .int .i64 si, .int .i64 lo, .int .i64 hi] (0, 0) := (by first | exact Blk.keep hX2 hb2 | exact Blk.keep (World.alloc_heap_new _ _) hb2); have x0 := hX2.cell 0; have x1 := hX2.cell 1; have x2 := hX2.cell 2; have x3 := hX2.cell 3; have x4 := hX2.cell 4; have x5 := hX2.cell 5)) | (go_at_call 111; refine (C4.out _).mono ?_; rintro e w2 ⟨rfl, hb2⟩; (have hX2 : Blk w2 w.heap.size 55 #[.string ad, .string cl, .string co, .int .i64 si, .int .i64 lo, .int .i64 hi] (0, 0) := (by first | exact Blk.keep hX2 hb2 | exact Blk.keep (World.alloc_heap_new _ _) hb2); have x0 := hX2.cell 0; have x1 := hX2.cell 1; have x2 := hX2.cell 2; have x3 := hX2.cell 3; have x4 := hX2.cell 4; have x5 := hX2.cell 5))); go_ret; exact ⟨rfl, belB⟩)
end Go.Proofs.YtjhlpkhfdghngaaGreatDoor
namespace Go.Proofs.YtjhlpkhfdghngaaGreatDoor
open Go.RowKit Go.Sort
set_option linter.unusedVariables false
set_option linter.unusedSimpArgs false
set_option maxRecDepth 100000
def PairBox (w : World) (g : Nat) (k v : ByteArray) : Prop := Blk w g 215 #[.string k, .string v] (0, 0)
theorem PairBox.facts {w : World} {g : Nat} {k v : ByteArray} (h : PairBox w g k v) : w.cell? ⟨g, 0, none⟩ = some (.string k) ∧ w.cell? ⟨g, 1, none⟩ = some (.string v) := ⟨Blk.cell h 0, Blk.cell h 1⟩
end Go.Proofs.YtjhlpkhfdghngaaGreatDoor
namespace Go.Proofs.YtjhlpkhfdghngaaGreatDoor
open Go.RowKit Go.Sort
set_option linter.unusedVariables false
set_option linter.unusedSimpArgs false
set_option maxRecDepth 100000
theorem PairsPost.none_ {w w' : World} (hb : Below w.heap.size w w') : PairsPost none w (.returned (.tuple #[.slice none 0 0, .bool false])) w' := ⟨hb, rfl⟩
end Go.Proofs.YtjhlpkhfdghngaaGreatDoor
namespace Go.Proofs.YtjhlpkhfdghngaaGreatDoor
open Go.RowKit Go.Sort
set_option linter.unusedVariables false
set_option linter.unusedSimpArgs false
set_option maxRecDepth 100000
theorem compact_one (x : BL) : Lib.compact (sortL [x]) = [x] := tagsL_compact [x] (List.pairwise_singleton _ _)
theorem tags_one (s : ByteArray) : tagsR [s] = if isNameB s then (s, 0) else (⟨#[]⟩, 1) := by
  have e : tagsL [s] = s.data.toList := by
    unfold tagsL
    show Lib.join (Lib.compact (sortL [s.data.toList])) [44] = _
    rw [compact_one, Lib.join_cons]
    simp [Lib.joinTail]
  unfold tagsR
  cases h : isNameB s
  · simp [h]
  · have hz := (word_ne (name_word h)).2.2.2
    rw [if_neg (by simp [h]), e, if_neg (by rw [← Lib.size_eq]; omega), if_pos rfl]
    exact congrArg (·, (0 : Int)) (bytes_ext (by simp [toB]))
theorem hasTag_iff (T p : ByteArray) : hasTagB T p = true ↔ p ∈ (splitR T).1 := Lib.containsS_iff _ _
def tagZ (ps : List ByteArray) : List BL := Lib.compact (sortL (lists ps))
theorem tagZ_spec (ps : List ByteArray) : (tagZ ps).Pairwise (· < ·) ∧ ∀ a, a ∈ tagZ ps ↔ a ∈ lists ps := by
  have tr : ∀ a b c : BL, decide (a ≤ b) = true → decide (b ≤ c) = true → decide (a ≤ c) = true := fun a b c h1 h2 => by simp only [decide_eq_true_eq] at *; exact List.le_trans h1 h2
  have tot : ∀ a b : BL, (decide (a ≤ b) || decide (b ≤ a)) = true := fun a b => by simp only [Bool.or_eq_true, decide_eq_true_eq]; exact List.le_total a b
  obtain ⟨h3, h4⟩ := compact_sorted (sortL (lists ps)) ((List.pairwise_mergeSort tr tot _).imp fun h => by simpa using h)
  exact ⟨h3, fun a => by unfold tagZ; rw [h4, sortL, (List.mergeSort_perm _ _).mem_iff]⟩
theorem tags_mem {ps : List ByteArray} {T : ByteArray} (h : tagsR ps = (T, 0)) (p : ByteArray) : hasTagB T p = true ↔ p ∈ ps := by
  refine ⟨fun hp => ?_, hasTag_tags h p⟩
  rw [hasTag_iff, splitR_tags h] at hp
  obtain ⟨a, ha, rfl⟩ := List.mem_map.1 hp
  have h2 := ((tagZ_spec ps).2 a).1 ha
  obtain ⟨q, hq, rfl⟩ := List.mem_map.1 h2
  have : toB q.data.toList = q := bytes_ext (by simp [toB])
  rw [this]; exact hq
theorem lt_irr (a : BL) : ¬ a < a := List.lt_irrefl a
theorem up_nodup {zs : List BL} (h : zs.Pairwise (· < ·)) : zs.Nodup := by
  unfold List.Nodup
  refine List.Pairwise.imp ?_ h
  intro a b hab e
  subst e
  exact lt_irr _ hab
theorem lens_erase (x : BL) : ∀ l : List BL, x ∈ l → Lib.lens l = x.length + Lib.lens (l.erase x)
  | [], h => by cases h
  | y :: l, h => by
    by_cases e : y = x
    · subst e
      rw [List.erase_cons_head]
      simp [Lib.lens]
    · rw [List.erase_cons_tail (by simpa using e)]
      have := lens_erase x l ((List.mem_cons.1 h).resolve_left (fun h => e h.symm))
      simp only [Lib.lens, List.map_cons, List.sum_cons] at this ⊢
      omega
theorem lens_sub (l named : List BL) (hn : l.Nodup) (hs : ∀ x ∈ l, x ∈ named) : Lib.lens l ≤ Lib.lens named ∧ l.length ≤ named.length := by
  induction l generalizing named with
  | nil => exact ⟨by simp [Lib.lens], by simp⟩
  | cons x l ih =>
    have hx := hs x (by simp)
    have h1 := List.length_erase_of_mem hx
    have hpos := List.length_pos_of_mem hx
    have h3 := lens_erase x named hx
    have h2 := ih (named.erase x) (List.nodup_cons.1 hn).2 (fun y hy => (List.mem_erase_of_ne (fun e => (List.nodup_cons.1 hn).1 (by rw [← e]; exact hy))).2 (hs y (by simp [hy])))
    refine ⟨?_, by rw [List.length_cons]; omega⟩
    simp only [Lib.lens, List.map_cons, List.sum_cons] at h2 h3 ⊢
    omega
theorem tags_few {ps : List ByteArray} (h : ∀ p ∈ ps, isNameB p = true) (hn : ps.length ≤ 60) : (tagsR ps).2 = 0 := by
  have h2 := join_bound (tagZ ps) (fun a ha => by
    obtain ⟨p, hp, rfl⟩ := List.mem_map.1 (((tagZ_spec ps).2 a).1 ha)
    have := (word_ne (name_word (h p hp))).2.2.2
    rw [Lib.size_eq] at this; exact this)
  have h3 := (lens_sub (tagZ ps) (lists ps) (up_nodup (tagZ_spec ps).1) (fun a ha => ((tagZ_spec ps).2 a).1 ha)).2
  rw [lists_len] at h3
  have e : (tagsL ps).length ≤ 4096 := by
    show (Lib.join (tagZ ps) [44]).length ≤ 4096
    omega
  unfold tagsR
  rw [if_neg, if_neg (by omega)]
  simp only [List.any_eq_true, not_exists]
  rintro p ⟨hp, hp2⟩
  rw [h p hp] at hp2
  exact absurd hp2 (by decide)
end Go.Proofs.YtjhlpkhfdghngaaGreatDoor
