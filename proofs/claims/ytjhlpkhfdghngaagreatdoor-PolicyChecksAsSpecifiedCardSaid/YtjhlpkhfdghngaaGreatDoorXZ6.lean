/- What the cond package's ValidAsk returns. -/
import Derived.Test.YtjhlpkhfdghngaaGreatDoorXZ5
import Derived.Test.YtjhlpkhfdghngaaGreatDoorProg
import Derived.WalkKit
import Derived.WalkSpells
import Derived.WalkLawsBesides
import Derived.Below
import Derived.Deep.QuietTactic
import Derived.BigQuiet
import Derived.Lib.QuietBelow
import Derived.Lib.Strings
import Derived.Lib.Hide
import Derived.Deep.RegionWith
import Derived.Deep.RegionHeld3
import Derived.Lib.IndexBytes
import Derived.Test.YtjhlpkhfdghngaaGreatDoorXZ4
import Derived.Test.YtjhlpkhfdghngaaGreatDoorXZ0
import Derived.Laws.Rows
import Derived.Laws.Tables
import Derived.Laws.CopyOwn
import Derived.Maps.Own
import Derived.Maps.OwnOps
import Derived.Laws.EntriesVeiled
import Derived.LoopTactic
namespace Go.Proofs.YtjhlpkhfdghngaaGreatDoor
open Go.RowKit Go.Sort
set_option linter.unusedVariables false
set_option linter.unusedSimpArgs false
set_option maxRecDepth 100000
theorem canon_shape (s : ByteArray) : ∃ (t : ByteArray) (f : Int), canonV s = .tuple #[.string t, .int .i64 f] ∧ readB s = (decide (f = 0) && (t.toList == s.toList)) := by
  unfold canonV readB
  by_cases h : (parseB s).2 = 0
  · have hg := parse_good s h
    have hsh := parse_short s h
    have hf : formedB (parseB s).1.cust (parseB s).1.path (parseB s).1.query = true := (formed_iff _ _ _).2 ⟨hg, by omega⟩
    rw [if_pos h]
    unfold textV
    rw [if_pos hf, decide_eq_true h]
    exact ⟨_, 0, rfl, rfl⟩
  · rw [if_neg h]
    refine ⟨_, _, rfl, ?_⟩
    rw [decide_eq_false h]
    rfl
set_option maxHeartbeats 8000000 in
theorem validAsk_any (a : AskV) (w : World) (h1 : a.addr.size ≤ 100000) (h2 : a.client.size ≤ 100000) (h3 : a.country.size ≤ 100000) (hE : Env w) : Calls Tryz.prog 166 #[AskV.val a] w (Ret w (.bool (validAsk a))) := by
  obtain ⟨ad, cl, co, si, lo, hi⟩ := a
  dsimp only at h1 h2 h3
  unfold AskV.val
  dsimp only
  obtain ⟨V, hV⟩ : ∃ V, V = validAsk ⟨ad, cl, co, si, lo, hi⟩ := ⟨_, rfl⟩
  rw [← hV]
  unfold validAsk at hV
  dsimp only at hV
  obtain ⟨t, f, hcs, hrb⟩ := canon_shape ad
  have c1 := fun W h => canonical_any ad W (by omega) h
  have c2 := fun W h => condName_any cl W h2 h
  have c3 := fun W => isCountry_any co W (by omega)
  have c4 := fun W => isSite_any si W
  rw [hcs] at c1
  rw [hrb] at hV
  clear hcs hrb
  generalize isNameB cl = b2 at *
  generalize countryB co = b3 at *
  generalize siteB si = b4 at *
  have C1 := Lib.hid c1
  have C2 := Lib.hid c2
  have C3 := Lib.hid c3
  have C4 := Lib.hid c4
  have HE := Lib.hid hE
  clear c1 c2 c3 c4 hE h1 h2 h3
  by_cases t1 : f = 0
  rotate_left
  · obtain rfl : V = false := by rw [hV]; simp [t1]
    have d1 : (f == 0) = false := by simpa using t1
    clear hV
    (go_enter Tryz.func166, Tryz.ntmps166; go_wp2_with (first | (go_at_call 24; refine (C1.out _ (Env.keep HE.out belB)).mono ?_; rintro e w2 ⟨rfl, hb2⟩; (have hX2 : Blk w2 w.heap.size 55 #[.string ad, .string cl, .string co, .int .i64 si, .int .i64 lo, .int .i64 hi] (0, 0) := (by first | exact Blk.keep hX2 hb2 | exact Blk.keep (World.alloc_heap_new _ _) hb2); have x0 := hX2.cell 0; have x1 := hX2.cell 1; have x2 := hX2.cell 2; have x3 := hX2.cell 3; have x4 := hX2.cell 4; have x5 := hX2.cell 5)) | (go_at_call 108; refine (C2.out _ (Env.keep HE.out belB)).mono ?_; rintro e w2 ⟨rfl, hb2⟩; (have hX2 : Blk w2 w.heap.size 55 #[.string ad, .string cl, .string co, .int .i64 si, .int .i64 lo, .int .i64 hi] (0, 0) := (by first | exact Blk.keep hX2 hb2 | exact Blk.keep (World.alloc_heap_new _ _) hb2); have x0 := hX2.cell 0; have x1 := hX2.cell 1; have x2 := hX2.cell 2; have x3 := hX2.cell 3; have x4 := hX2.cell 4; have x5 := hX2.cell 5)) | (go_at_call 109; refine (C3.out _).mono ?_; rintro e w2 ⟨rfl, hb2⟩; (have hX2 : Blk w2 w.heap.size 55 #[.string ad, .string cl, .string co, .int .i64 si, .int .i64 lo, .int .i64 hi] (0, 0) := (by first | exact Blk.keep hX2 hb2 | exact Blk.keep (World.alloc_heap_new _ _) hb2); have x0 := hX2.cell 0; have x1 := hX2.cell 1; have x2 := hX2.cell 2; have x3 := hX2.cell 3; have x4 := hX2.cell 4; have x5 := hX2.cell 5)) | (go_at_call 111; refine (C4.out _).mono ?_; rintro e w2 ⟨rfl, hb2⟩; (have hX2 : Blk w2 w.heap.size 55 #[.string ad, .string cl, .string co, .int .i64 si, .int .i64 lo, .int .i64 hi] (0, 0) := (by first | exact Blk.keep hX2 hb2 | exact Blk.keep (World.alloc_heap_new _ _) hb2); have x0 := hX2.cell 0; have x1 := hX2.cell 1; have x2 := hX2.cell 2; have x3 := hX2.cell 3; have x4 := hX2.cell 4; have x5 := hX2.cell 5))); go_ret; exact ⟨rfl, belB⟩)
  subst t1
  have hV2 : V = ((t.toList == ad.toList) && b2 && b3 && b4 && decide (0 ≤ lo ∧ lo ≤ hi ∧ hi ≤ 1099511627776)) := by rw [hV]; rfl
  clear hV
  cases t2 : (t.toList == ad.toList)
  · obtain rfl : V = false := by rw [hV2, t2]; rfl
    clear hV2
    (go_enter Tryz.func166, Tryz.ntmps166; go_wp2_with (first | (go_at_call 24; refine (C1.out _ (Env.keep HE.out belB)).mono ?_; rintro e w2 ⟨rfl, hb2⟩; (have hX2 : Blk w2 w.heap.size 55 #[.string ad, .string cl, .string co, .int .i64 si, .int .i64 lo, .int .i64 hi] (0, 0) := (by first | exact Blk.keep hX2 hb2 | exact Blk.keep (World.alloc_heap_new _ _) hb2); have x0 := hX2.cell 0; have x1 := hX2.cell 1; have x2 := hX2.cell 2; have x3 := hX2.cell 3; have x4 := hX2.cell 4; have x5 := hX2.cell 5)) | (go_at_call 108; refine (C2.out _ (Env.keep HE.out belB)).mono ?_; rintro e w2 ⟨rfl, hb2⟩; (have hX2 : Blk w2 w.heap.size 55 #[.string ad, .string cl, .string co, .int .i64 si, .int .i64 lo, .int .i64 hi] (0, 0) := (by first | exact Blk.keep hX2 hb2 | exact Blk.keep (World.alloc_heap_new _ _) hb2); have x0 := hX2.cell 0; have x1 := hX2.cell 1; have x2 := hX2.cell 2; have x3 := hX2.cell 3; have x4 := hX2.cell 4; have x5 := hX2.cell 5)) | (go_at_call 109; refine (C3.out _).mono ?_; rintro e w2 ⟨rfl, hb2⟩; (have hX2 : Blk w2 w.heap.size 55 #[.string ad, .string cl, .string co, .int .i64 si, .int .i64 lo, .int .i64 hi] (0, 0) := (by first | exact Blk.keep hX2 hb2 | exact Blk.keep (World.alloc_heap_new _ _) hb2); have x0 := hX2.cell 0; have x1 := hX2.cell 1; have x2 := hX2.cell 2; have x3 := hX2.cell 3; have x4 := hX2.cell 4; have x5 := hX2.cell 5)) | (go_at_call 111; refine (C4.out _).mono ?_; rintro e w2 ⟨rfl, hb2⟩; (have hX2 : Blk w2 w.heap.size 55 #[.string ad, .string cl, .string co, .int .i64 si, .int .i64 lo, .int .i64 hi] (0, 0) := (by first | exact Blk.keep hX2 hb2 | exact Blk.keep (World.alloc_heap_new _ _) hb2); have x0 := hX2.cell 0; have x1 := hX2.cell 1; have x2 := hX2.cell 2; have x3 := hX2.cell 3; have x4 := hX2.cell 4; have x5 := hX2.cell 5))); go_ret; exact ⟨rfl, belB⟩)
  rw [t2] at hV2
  cases b2
  · obtain rfl : V = false := by rw [hV2]; rfl
    clear hV2
    (go_enter Tryz.func166, Tryz.ntmps166; go_wp2_with (first | (go_at_call 24; refine (C1.out _ (Env.keep HE.out belB)).mono ?_; rintro e w2 ⟨rfl, hb2⟩; (have hX2 : Blk w2 w.heap.size 55 #[.string ad, .string cl, .string co, .int .i64 si, .int .i64 lo, .int .i64 hi] (0, 0) := (by first | exact Blk.keep hX2 hb2 | exact Blk.keep (World.alloc_heap_new _ _) hb2); have x0 := hX2.cell 0; have x1 := hX2.cell 1; have x2 := hX2.cell 2; have x3 := hX2.cell 3; have x4 := hX2.cell 4; have x5 := hX2.cell 5)) | (go_at_call 108; refine (C2.out _ (Env.keep HE.out belB)).mono ?_; rintro e w2 ⟨rfl, hb2⟩; (have hX2 : Blk w2 w.heap.size 55 #[.string ad, .string cl, .string co, .int .i64 si, .int .i64 lo, .int .i64 hi] (0, 0) := (by first | exact Blk.keep hX2 hb2 | exact Blk.keep (World.alloc_heap_new _ _) hb2); have x0 := hX2.cell 0; have x1 := hX2.cell 1; have x2 := hX2.cell 2; have x3 := hX2.cell 3; have x4 := hX2.cell 4; have x5 := hX2.cell 5)) | (go_at_call 109; refine (C3.out _).mono ?_; rintro e w2 ⟨rfl, hb2⟩; (have hX2 : Blk w2 w.heap.size 55 #[.string ad, .string cl, .string co, .int .i64 si, .int .i64 lo, .int .i64 hi] (0, 0) := (by first | exact Blk.keep hX2 hb2 | exact Blk.keep (World.alloc_heap_new _ _) hb2); have x0 := hX2.cell 0; have x1 := hX2.cell 1; have x2 := hX2.cell 2; have x3 := hX2.cell 3; have x4 := hX2.cell 4; have x5 := hX2.cell 5)) | (go_at_call 111; refine (C4.out _).mono ?_; rintro e w2 ⟨rfl, hb2⟩; (have hX2 : Blk w2 w.heap.size 55 #[.string ad, .string cl, .string co, .int .i64 si, .int .i64 lo, .int .i64 hi] (0, 0) := (by first | exact Blk.keep hX2 hb2 | exact Blk.keep (World.alloc_heap_new _ _) hb2); have x0 := hX2.cell 0; have x1 := hX2.cell 1; have x2 := hX2.cell 2; have x3 := hX2.cell 3; have x4 := hX2.cell 4; have x5 := hX2.cell 5))); go_ret; exact ⟨rfl, belB⟩)
  cases b3
  · obtain rfl : V = false := by rw [hV2]; rfl
    clear hV2
    (go_enter Tryz.func166, Tryz.ntmps166; go_wp2_with (first | (go_at_call 24; refine (C1.out _ (Env.keep HE.out belB)).mono ?_; rintro e w2 ⟨rfl, hb2⟩; (have hX2 : Blk w2 w.heap.size 55 #[.string ad, .string cl, .string co, .int .i64 si, .int .i64 lo, .int .i64 hi] (0, 0) := (by first | exact Blk.keep hX2 hb2 | exact Blk.keep (World.alloc_heap_new _ _) hb2); have x0 := hX2.cell 0; have x1 := hX2.cell 1; have x2 := hX2.cell 2; have x3 := hX2.cell 3; have x4 := hX2.cell 4; have x5 := hX2.cell 5)) | (go_at_call 108; refine (C2.out _ (Env.keep HE.out belB)).mono ?_; rintro e w2 ⟨rfl, hb2⟩; (have hX2 : Blk w2 w.heap.size 55 #[.string ad, .string cl, .string co, .int .i64 si, .int .i64 lo, .int .i64 hi] (0, 0) := (by first | exact Blk.keep hX2 hb2 | exact Blk.keep (World.alloc_heap_new _ _) hb2); have x0 := hX2.cell 0; have x1 := hX2.cell 1; have x2 := hX2.cell 2; have x3 := hX2.cell 3; have x4 := hX2.cell 4; have x5 := hX2.cell 5)) | (go_at_call 109; refine (C3.out _).mono ?_; rintro e w2 ⟨rfl, hb2⟩; (have hX2 : Blk w2 w.heap.size 55 #[.string ad, .string cl, .string co, .int .i64 si, .int .i64 lo, .int .i64 hi] (0, 0) := (by first | exact Blk.keep hX2 hb2 | exact Blk.keep (World.alloc_heap_new _ _) hb2); have x0 := hX2.cell 0; have x1 := hX2.cell 1; have x2 := hX2.cell 2; have x3 := hX2.cell 3; have x4 := hX2.cell 4; have x5 := hX2.cell 5)) | (go_at_call 111; refine (C4.out _).mono ?_; rintro e w2 ⟨rfl, hb2⟩; (have hX2 : Blk w2 w.heap.size 55 #[.string ad, .string cl, .string co, .int .i64 si, .int .i64 lo, .int .i64 hi] (0, 0) := (by first | exact Blk.keep hX2 hb2 | exact Blk.keep (World.alloc_heap_new _ _) hb2); have x0 := hX2.cell 0; have x1 := hX2.cell 1; have x2 := hX2.cell 2; have x3 := hX2.cell 3; have x4 := hX2.cell 4; have x5 := hX2.cell 5))); go_ret; exact ⟨rfl, belB⟩)
  cases b4
  · obtain rfl : V = false := by rw [hV2]; rfl
    clear hV2
    (go_enter Tryz.func166, Tryz.ntmps166; go_wp2_with (first | (go_at_call 24; refine (C1.out _ (Env.keep HE.out belB)).mono ?_; rintro e w2 ⟨rfl, hb2⟩; (have hX2 : Blk w2 w.heap.size 55 #[.string ad, .string cl, .string co, .int .i64 si, .int .i64 lo, .int .i64 hi] (0, 0) := (by first | exact Blk.keep hX2 hb2 | exact Blk.keep (World.alloc_heap_new _ _) hb2); have x0 := hX2.cell 0; have x1 := hX2.cell 1; have x2 := hX2.cell 2; have x3 := hX2.cell 3; have x4 := hX2.cell 4; have x5 := hX2.cell 5)) | (go_at_call 108; refine (C2.out _ (Env.keep HE.out belB)).mono ?_; rintro e w2 ⟨rfl, hb2⟩; (have hX2 : Blk w2 w.heap.size 55 #[.string ad, .string cl, .string co, .int .i64 si, .int .i64 lo, .int .i64 hi] (0, 0) := (by first | exact Blk.keep hX2 hb2 | exact Blk.keep (World.alloc_heap_new _ _) hb2); have x0 := hX2.cell 0; have x1 := hX2.cell 1; have x2 := hX2.cell 2; have x3 := hX2.cell 3; have x4 := hX2.cell 4; have x5 := hX2.cell 5)) | (go_at_call 109; refine (C3.out _).mono ?_; rintro e w2 ⟨rfl, hb2⟩; (have hX2 : Blk w2 w.heap.size 55 #[.string ad, .string cl, .string co, .int .i64 si, .int .i64 lo, .int .i64 hi] (0, 0) := (by first | exact Blk.keep hX2 hb2 | exact Blk.keep (World.alloc_heap_new _ _) hb2); have x0 := hX2.cell 0; have x1 := hX2.cell 1; have x2 := hX2.cell 2; have x3 := hX2.cell 3; have x4 := hX2.cell 4; have x5 := hX2.cell 5)) | (go_at_call 111; refine (C4.out _).mono ?_; rintro e w2 ⟨rfl, hb2⟩; (have hX2 : Blk w2 w.heap.size 55 #[.string ad, .string cl, .string co, .int .i64 si, .int .i64 lo, .int .i64 hi] (0, 0) := (by first | exact Blk.keep hX2 hb2 | exact Blk.keep (World.alloc_heap_new _ _) hb2); have x0 := hX2.cell 0; have x1 := hX2.cell 1; have x2 := hX2.cell 2; have x3 := hX2.cell 3; have x4 := hX2.cell 4; have x5 := hX2.cell 5))); go_ret; exact ⟨rfl, belB⟩)
  by_cases t3 : 0 ≤ lo
  rotate_left
  · obtain rfl : V = false := by rw [hV2]; simp [t3]
    have d3 : decide (0 ≤ lo) = false := decide_eq_false t3
    clear hV2
    (go_enter Tryz.func166, Tryz.ntmps166; go_wp2_with (first | (go_at_call 24; refine (C1.out _ (Env.keep HE.out belB)).mono ?_; rintro e w2 ⟨rfl, hb2⟩; (have hX2 : Blk w2 w.heap.size 55 #[.string ad, .string cl, .string co, .int .i64 si, .int .i64 lo, .int .i64 hi] (0, 0) := (by first | exact Blk.keep hX2 hb2 | exact Blk.keep (World.alloc_heap_new _ _) hb2); have x0 := hX2.cell 0; have x1 := hX2.cell 1; have x2 := hX2.cell 2; have x3 := hX2.cell 3; have x4 := hX2.cell 4; have x5 := hX2.cell 5)) | (go_at_call 108; refine (C2.out _ (Env.keep HE.out belB)).mono ?_; rintro e w2 ⟨rfl, hb2⟩; (have hX2 : Blk w2 w.heap.size 55 #[.string ad, .string cl, .string co, .int .i64 si, .int .i64 lo, .int .i64 hi] (0, 0) := (by first | exact Blk.keep hX2 hb2 | exact Blk.keep (World.alloc_heap_new _ _) hb2); have x0 := hX2.cell 0; have x1 := hX2.cell 1; have x2 := hX2.cell 2; have x3 := hX2.cell 3; have x4 := hX2.cell 4; have x5 := hX2.cell 5)) | (go_at_call 109; refine (C3.out _).mono ?_; rintro e w2 ⟨rfl, hb2⟩; (have hX2 : Blk w2 w.heap.size 55 #[.string ad, .string cl, .string co, .int .i64 si, .int .i64 lo, .int .i64 hi] (0, 0) := (by first | exact Blk.keep hX2 hb2 | exact Blk.keep (World.alloc_heap_new _ _) hb2); have x0 := hX2.cell 0; have x1 := hX2.cell 1; have x2 := hX2.cell 2; have x3 := hX2.cell 3; have x4 := hX2.cell 4; have x5 := hX2.cell 5)) | (go_at_call 111; refine (C4.out _).mono ?_; rintro e w2 ⟨rfl, hb2⟩; (have hX2 : Blk w2 w.heap.size 55 #[.string ad, .string cl, .string co, .int .i64 si, .int .i64 lo, .int .i64 hi] (0, 0) := (by first | exact Blk.keep hX2 hb2 | exact Blk.keep (World.alloc_heap_new _ _) hb2); have x0 := hX2.cell 0; have x1 := hX2.cell 1; have x2 := hX2.cell 2; have x3 := hX2.cell 3; have x4 := hX2.cell 4; have x5 := hX2.cell 5))); go_ret; exact ⟨rfl, belB⟩)
  have d3 : decide (0 ≤ lo) = true := decide_eq_true t3
  by_cases t4 : lo ≤ hi
  rotate_left
  · obtain rfl : V = false := by rw [hV2]; simp [t4]
    have d4 : decide (lo ≤ hi) = false := decide_eq_false t4
    clear hV2
    (go_enter Tryz.func166, Tryz.ntmps166; go_wp2_with (first | (go_at_call 24; refine (C1.out _ (Env.keep HE.out belB)).mono ?_; rintro e w2 ⟨rfl, hb2⟩; (have hX2 : Blk w2 w.heap.size 55 #[.string ad, .string cl, .string co, .int .i64 si, .int .i64 lo, .int .i64 hi] (0, 0) := (by first | exact Blk.keep hX2 hb2 | exact Blk.keep (World.alloc_heap_new _ _) hb2); have x0 := hX2.cell 0; have x1 := hX2.cell 1; have x2 := hX2.cell 2; have x3 := hX2.cell 3; have x4 := hX2.cell 4; have x5 := hX2.cell 5)) | (go_at_call 108; refine (C2.out _ (Env.keep HE.out belB)).mono ?_; rintro e w2 ⟨rfl, hb2⟩; (have hX2 : Blk w2 w.heap.size 55 #[.string ad, .string cl, .string co, .int .i64 si, .int .i64 lo, .int .i64 hi] (0, 0) := (by first | exact Blk.keep hX2 hb2 | exact Blk.keep (World.alloc_heap_new _ _) hb2); have x0 := hX2.cell 0; have x1 := hX2.cell 1; have x2 := hX2.cell 2; have x3 := hX2.cell 3; have x4 := hX2.cell 4; have x5 := hX2.cell 5)) | (go_at_call 109; refine (C3.out _).mono ?_; rintro e w2 ⟨rfl, hb2⟩; (have hX2 : Blk w2 w.heap.size 55 #[.string ad, .string cl, .string co, .int .i64 si, .int .i64 lo, .int .i64 hi] (0, 0) := (by first | exact Blk.keep hX2 hb2 | exact Blk.keep (World.alloc_heap_new _ _) hb2); have x0 := hX2.cell 0; have x1 := hX2.cell 1; have x2 := hX2.cell 2; have x3 := hX2.cell 3; have x4 := hX2.cell 4; have x5 := hX2.cell 5)) | (go_at_call 111; refine (C4.out _).mono ?_; rintro e w2 ⟨rfl, hb2⟩; (have hX2 : Blk w2 w.heap.size 55 #[.string ad, .string cl, .string co, .int .i64 si, .int .i64 lo, .int .i64 hi] (0, 0) := (by first | exact Blk.keep hX2 hb2 | exact Blk.keep (World.alloc_heap_new _ _) hb2); have x0 := hX2.cell 0; have x1 := hX2.cell 1; have x2 := hX2.cell 2; have x3 := hX2.cell 3; have x4 := hX2.cell 4; have x5 := hX2.cell 5))); go_ret; exact ⟨rfl, belB⟩)
  have d4 : decide (lo ≤ hi) = true := decide_eq_true t4
  obtain rfl : V = decide (hi ≤ 1099511627776) := by rw [hV2]; simp [t3, t4]
  clear hV2
  (go_enter Tryz.func166, Tryz.ntmps166; go_wp2_with (first | (go_at_call 24; refine (C1.out _ (Env.keep HE.out belB)).mono ?_; rintro e w2 ⟨rfl, hb2⟩; (have hX2 : Blk w2 w.heap.size 55 #[.string ad, .string cl, .string co, .int .i64 si, .int .i64 lo, .int .i64 hi] (0, 0) := (by first | exact Blk.keep hX2 hb2 | exact Blk.keep (World.alloc_heap_new _ _) hb2); have x0 := hX2.cell 0; have x1 := hX2.cell 1; have x2 := hX2.cell 2; have x3 := hX2.cell 3; have x4 := hX2.cell 4; have x5 := hX2.cell 5)) | (go_at_call 108; refine (C2.out _ (Env.keep HE.out belB)).mono ?_; rintro e w2 ⟨rfl, hb2⟩; (have hX2 : Blk w2 w.heap.size 55 #[.string ad, .string cl, .string co, .int .i64 si, .int .i64 lo, .int .i64 hi] (0, 0) := (by first | exact Blk.keep hX2 hb2 | exact Blk.keep (World.alloc_heap_new _ _) hb2); have x0 := hX2.cell 0; have x1 := hX2.cell 1; have x2 := hX2.cell 2; have x3 := hX2.cell 3; have x4 := hX2.cell 4; have x5 := hX2.cell 5)) | (go_at_call 109; refine (C3.out _).mono ?_; rintro e w2 ⟨rfl, hb2⟩; (have hX2 : Blk w2 w.heap.size 55 #[.string ad, .string cl, .string co, .int .i64 si, .int .i64 lo, .int .i64 hi] (0, 0) := (by first | exact Blk.keep hX2 hb2 | exact Blk.keep (World.alloc_heap_new _ _) hb2); have x0 := hX2.cell 0; have x1 := hX2.cell 1; have x2 := hX2.cell 2; have x3 := hX2.cell 3; have x4 := hX2.cell 4; have x5 := hX2.cell 5)) | (go_at_call 111; refine (C4.out _).mono ?_; rintro e w2 ⟨rfl, hb2⟩; (have hX2 : Blk w2 w.heap.size 55 #[.string ad, .string cl, .string co, .int .i64 si, .int .i64 lo, .int .i64 hi] (0, 0) := (by first | exact Blk.keep hX2 hb2 | exact Blk.keep (World.alloc_heap_new _ _) hb2); have x0 := hX2.cell 0; have x1 := hX2.cell 1; have x2 := hX2.cell 2; have x3 := hX2.cell 3; have x4 := hX2.cell 4; have x5 := hX2.cell 5))); go_ret; exact ⟨rfl, belB⟩)
end Go.Proofs.YtjhlpkhfdghngaaGreatDoor
namespace Go.Proofs.YtjhlpkhfdghngaaGreatDoor
open Go.RowKit Go.Sort
set_option linter.unusedVariables false
set_option linter.unusedSimpArgs false
set_option maxRecDepth 100000
structure CondFits (c : CondV) : Prop where
  p : c.pat.size ≤ 100000
  cl : ∀ x ∈ c.cl, x.size ≤ 100000
  co : ∀ x ∈ c.co, x.size ≤ 100000
  n1 : c.cl.length ≤ 1000000
  n2 : c.co.length ≤ 1000000
  n3 : c.si.length ≤ 1000000
structure AskFits (a : AskV) : Prop where
  p : a.addr.size ≤ 100000
  cl : a.client.size ≤ 100000
  co : a.country.size ≤ 100000
def ABox (w : World) (g : Nat) (ad cl co : ByteArray) (si lo hi : Int) : Prop := Blk w g 55 #[.string ad, .string cl, .string co, .int .i64 si, .int .i64 lo, .int .i64 hi] (0, 0)
theorem ABox.facts {w : World} {g : Nat} {ad cl co : ByteArray} {si lo hi : Int} (h : ABox w g ad cl co si lo hi) :
    w.cell? ⟨g, 0, none⟩ = some (.string ad) ∧ w.cell? ⟨g, 1, none⟩ = some (.string cl) ∧ w.cell? ⟨g, 2, none⟩ = some (.string co) ∧ w.cell? ⟨g, 3, none⟩ = some (.int .i64 si) ∧ w.cell? ⟨g, 4, none⟩ = some (.int .i64 lo) ∧ w.cell? ⟨g, 5, none⟩ = some (.int .i64 hi) :=
  ⟨Blk.cell h 0, Blk.cell h 1, Blk.cell h 2, Blk.cell h 3, Blk.cell h 4, Blk.cell h 5⟩
theorem two_box (w : World) (o1 o2 : Obj) : ((w.alloc o1).alloc o2).heap[w.heap.size]? = some o1 ∧ ((w.alloc o1).alloc o2).heap[w.heap.size + 1]? = some o2 := by
  refine ⟨(Below.heap_alloc _ _ _ (by simp)).trans (World.alloc_heap_new _ _), ?_⟩
  have := World.alloc_heap_new (w.alloc o1) o2
  rwa [World.size_alloc] at this
set_option maxHeartbeats 8000000 in
theorem holds_any (c : CondV) (m : CondMem) (a : AskV) (w : World) (hR : CondReads w c m) (hc : CondFits c) (ha : AskFits a) (hE : Env w) :
    Calls Tryz.prog 91 #[CondMem.val c m, AskV.val a] w (Ret w (.bool (holdsC c a))) := by
  have c1 := fun W (hb : Below w.heap.size w W) => condValid_any c m W (hR.keep hb) hc.p hc.cl hc.co hc.n1 hc.n2 hc.n3 (hE.keep hb)
  have c2 := fun W h => validAsk_any a W ha.p ha.cl ha.co h
  obtain ⟨V, hV⟩ : ∃ V, V = holdsC c a := ⟨_, rfl⟩
  rw [← hV]
  unfold holdsC at hV
  generalize validC c = v1 at *
  generalize validAsk a = v2 at *
  obtain ⟨fr, till, pat, cl, co, si, us⟩ := c
  obtain ⟨A, ca, B, cb, S, cs⟩ := m
  obtain ⟨ad, kl, ko, st, lo, hi⟩ := a
  obtain ⟨hA, hB, hS⟩ := hR
  obtain ⟨h1, h2, h3, n1, n2, n3⟩ := hc
  obtain ⟨g1, g2, g3⟩ := ha
  unfold CondMem.val at c1
  unfold AskV.val at c2
  unfold CondMem.val AskV.val
  dsimp only at hA hB hS h1 h2 h3 n1 n2 n3 g1 g2 g3 hV c1 c2
  dsimp only
  have c3 := fun W => condPattern_any fr till us pat A B S cl.length ca co.length cb si.length cs W
  have hpt : (if pat.size = 0 then (⟨#[42, 47, 42, 42]⟩ : ByteArray) else pat) = patT pat := rfl
  rw [hpt] at c3
  have hps : (patT pat).size ≤ 100000 := by unfold patT; split; exact (by decide); exact h1
  have c4 := fun W h => match_any (patT pat) ad W hps g1 h
  have c5 := fun W (hb : Below w.heap.size w W) => allowsS_any A cl.length ca cl kl W (hA.keep hb) (by omega)
  have c6 := fun W (hb : Below w.heap.size w W) => allowsS_any B co.length cb co ko W (hB.keep hb) (by omega)
  have c7 := fun W (hb : Below w.heap.size w W) => allowsI_any S si.length cs si st W (hS.keep hb) (by omega)
  generalize patT pat = pt at *
  generalize matchB pt ad = v4 at *
  generalize allowsL cl kl = v5 at *
  generalize allowsL co ko = v6 at *
  generalize allowsL si st = v7 at *
  obtain ⟨W0, hW0⟩ : ∃ W0, W0 = (w.alloc (.cells #[.int .i64 fr, .int .i64 till, .string pat, .slice A cl.length ca, .slice B co.length cb, .slice S si.length cs, .int .i64 us] 31)).alloc (.cells #[.string ad, .string kl, .string ko, .int .i64 st, .int .i64 lo, .int .i64 hi] 55) := ⟨_, rfl⟩
  have hb0 : Below w.heap.size w W0 := by rw [hW0]; exact balloc (balloc (Below.refl _ _) _) _
  have hX : CBox W0 w.heap.size fr till pat A cl.length ca B co.length cb S si.length cs us := by rw [hW0]; exact (two_box _ _ _).1
  have hY : ABox W0 (w.heap.size + 1) ad kl ko st lo hi := by rw [hW0]; exact (two_box _ _ _).2
  obtain ⟨x0, x1, x2, x3, x4, x5, x6⟩ := hX.facts
  obtain ⟨y0, y1, y2, y3, y4, y5⟩ := hY.facts
  have r0 := cell_regrown x0; have r1 := cell_regrown x1; have r2 := cell_regrown x2; have r3 := cell_regrown x3; have r4 := cell_regrown x4; have r5 := cell_regrown x5; have r6 := cell_regrown x6
  have q0 := cell_regrown y0; have q1 := cell_regrown y1; have q2 := cell_regrown y2; have q3 := cell_regrown y3; have q4 := cell_regrown y4; have q5 := cell_regrown y5
  replace c1 := fun W (hb : Below W0.heap.size W0 W) => c1 W (bstep hb0 hb)
  replace c2 := fun W (hb : Below W0.heap.size W0 W) => c2 W (hE.keep (bstep hb0 hb))
  replace c3 := fun W (_ : Below W0.heap.size W0 W) => c3 W
  replace c4 := fun W (hb : Below W0.heap.size W0 W) => c4 W (hE.keep (bstep hb0 hb))
  replace c5 := fun W (hb : Below W0.heap.size W0 W) => c5 W (bstep hb0 hb)
  replace c6 := fun W (hb : Below W0.heap.size W0 W) => c6 W (bstep hb0 hb)
  replace c7 := fun W (hb : Below W0.heap.size W0 W) => c7 W (bstep hb0 hb)
  have HW := Lib.hid hW0; have HB0 := Lib.hid hb0
  clear hW0 hb0 hX hY
  have C1 := Lib.hid c1; have C2 := Lib.hid c2; have C3 := Lib.hid c3; have C4 := Lib.hid c4; have C5 := Lib.hid c5; have C6 := Lib.hid c6; have C7 := Lib.hid c7
  clear c1 c2 c3 c4 c5 c6 c7 hE hA hB hS h1 h2 h3 n1 n2 n3 g1 g2 g3 hps hpt
  cases v1
  · obtain rfl : V = false := by rw [hV]; simp
    clear hV
    (go_enter Tryz.func91, Tryz.ntmps91; go_wp2_with fail; rw [← HW.out]; refine wp_region_quiet_below (by kernel_rfl) (by kernel_rfl) ?_; (repeat (any_goals (first | go_big_quiet_step ((first | (with_reducible exact qcalls2 C1.out _ _) | (with_reducible exact qcalls2 C2.out _ _) | (with_reducible exact qcalls2 C3.out _ _) | (with_reducible exact qcalls2 C4.out _ _) | (with_reducible exact qcalls2 C5.out _ _) | (with_reducible exact qcalls2 C6.out _ _) | (with_reducible exact qcalls2 C7.out _ _))) | quiet_step ((first | (with_reducible exact qcalls2 C1.out _ _) | (with_reducible exact qcalls2 C2.out _ _) | (with_reducible exact qcalls2 C3.out _ _) | (with_reducible exact qcalls2 C4.out _ _) | (with_reducible exact qcalls2 C5.out _ _) | (with_reducible exact qcalls2 C6.out _ _) | (with_reducible exact qcalls2 C7.out _ _)))))); refine wpQuiet_nil ?_; intro _ hwq; obtain ⟨⟨dq, osq⟩, hwq⟩ := hwq; subst hwq; have hbq := below_regrown (W0) dq osq; generalize grow (redrawn (W0) dq) osq = wq at *; go_wp2; go_ret; exact ⟨rfl, bstep HB0.out hbq⟩)
  cases v2
  · obtain rfl : V = false := by rw [hV]; simp
    clear hV
    (go_enter Tryz.func91, Tryz.ntmps91; go_wp2_with fail; rw [← HW.out]; refine wp_region_quiet_below (by kernel_rfl) (by kernel_rfl) ?_; (repeat (any_goals (first | go_big_quiet_step ((first | (with_reducible exact qcalls2 C1.out _ _) | (with_reducible exact qcalls2 C2.out _ _) | (with_reducible exact qcalls2 C3.out _ _) | (with_reducible exact qcalls2 C4.out _ _) | (with_reducible exact qcalls2 C5.out _ _) | (with_reducible exact qcalls2 C6.out _ _) | (with_reducible exact qcalls2 C7.out _ _))) | quiet_step ((first | (with_reducible exact qcalls2 C1.out _ _) | (with_reducible exact qcalls2 C2.out _ _) | (with_reducible exact qcalls2 C3.out _ _) | (with_reducible exact qcalls2 C4.out _ _) | (with_reducible exact qcalls2 C5.out _ _) | (with_reducible exact qcalls2 C6.out _ _) | (with_reducible exact qcalls2 C7.out _ _)))))); refine wpQuiet_nil ?_; intro _ hwq; obtain ⟨⟨dq, osq⟩, hwq⟩ := hwq; subst hwq; have hbq := below_regrown (W0) dq osq; generalize grow (redrawn (W0) dq) osq = wq at *; go_wp2; go_ret; exact ⟨rfl, bstep HB0.out hbq⟩)
  by_cases t1 : fr ≤ lo
  rotate_left
  · obtain rfl : V = false := by rw [hV]; simp [t1]
    have d1 : decide (fr ≤ lo) = false := decide_eq_false t1
    clear hV
    (go_enter Tryz.func91, Tryz.ntmps91; go_wp2_with fail; rw [← HW.out]; refine wp_region_quiet_below (by kernel_rfl) (by kernel_rfl) ?_; (repeat (any_goals (first | go_big_quiet_step ((first | (with_reducible exact qcalls2 C1.out _ _) | (with_reducible exact qcalls2 C2.out _ _) | (with_reducible exact qcalls2 C3.out _ _) | (with_reducible exact qcalls2 C4.out _ _) | (with_reducible exact qcalls2 C5.out _ _) | (with_reducible exact qcalls2 C6.out _ _) | (with_reducible exact qcalls2 C7.out _ _))) | quiet_step ((first | (with_reducible exact qcalls2 C1.out _ _) | (with_reducible exact qcalls2 C2.out _ _) | (with_reducible exact qcalls2 C3.out _ _) | (with_reducible exact qcalls2 C4.out _ _) | (with_reducible exact qcalls2 C5.out _ _) | (with_reducible exact qcalls2 C6.out _ _) | (with_reducible exact qcalls2 C7.out _ _)))))); refine wpQuiet_nil ?_; intro _ hwq; obtain ⟨⟨dq, osq⟩, hwq⟩ := hwq; subst hwq; have hbq := below_regrown (W0) dq osq; generalize grow (redrawn (W0) dq) osq = wq at *; go_wp2; go_ret; exact ⟨rfl, bstep HB0.out hbq⟩)
  have d1 : decide (fr ≤ lo) = true := decide_eq_true t1
  by_cases t2 : hi < till
  rotate_left
  · obtain rfl : V = false := by rw [hV]; simp [t2]
    have d2 : decide (hi < till) = false := decide_eq_false t2
    clear hV
    (go_enter Tryz.func91, Tryz.ntmps91; go_wp2_with fail; rw [← HW.out]; refine wp_region_quiet_below (by kernel_rfl) (by kernel_rfl) ?_; (repeat (any_goals (first | go_big_quiet_step ((first | (with_reducible exact qcalls2 C1.out _ _) | (with_reducible exact qcalls2 C2.out _ _) | (with_reducible exact qcalls2 C3.out _ _) | (with_reducible exact qcalls2 C4.out _ _) | (with_reducible exact qcalls2 C5.out _ _) | (with_reducible exact qcalls2 C6.out _ _) | (with_reducible exact qcalls2 C7.out _ _))) | quiet_step ((first | (with_reducible exact qcalls2 C1.out _ _) | (with_reducible exact qcalls2 C2.out _ _) | (with_reducible exact qcalls2 C3.out _ _) | (with_reducible exact qcalls2 C4.out _ _) | (with_reducible exact qcalls2 C5.out _ _) | (with_reducible exact qcalls2 C6.out _ _) | (with_reducible exact qcalls2 C7.out _ _)))))); refine wpQuiet_nil ?_; intro _ hwq; obtain ⟨⟨dq, osq⟩, hwq⟩ := hwq; subst hwq; have hbq := below_regrown (W0) dq osq; generalize grow (redrawn (W0) dq) osq = wq at *; go_wp2; go_ret; exact ⟨rfl, bstep HB0.out hbq⟩)
  have d2 : decide (hi < till) = true := decide_eq_true t2
  have hV2 : V = (v4 && v5 && v6 && v7) := by rw [hV]; simp [t1, t2]
  clear hV
  cases v4
  · obtain rfl : V = false := by rw [hV2]; simp
    clear hV2
    (go_enter Tryz.func91, Tryz.ntmps91; go_wp2_with fail; rw [← HW.out]; refine wp_region_quiet_below (by kernel_rfl) (by kernel_rfl) ?_; (repeat (any_goals (first | go_big_quiet_step ((first | (with_reducible exact qcalls2 C1.out _ _) | (with_reducible exact qcalls2 C2.out _ _) | (with_reducible exact qcalls2 C3.out _ _) | (with_reducible exact qcalls2 C4.out _ _) | (with_reducible exact qcalls2 C5.out _ _) | (with_reducible exact qcalls2 C6.out _ _) | (with_reducible exact qcalls2 C7.out _ _))) | quiet_step ((first | (with_reducible exact qcalls2 C1.out _ _) | (with_reducible exact qcalls2 C2.out _ _) | (with_reducible exact qcalls2 C3.out _ _) | (with_reducible exact qcalls2 C4.out _ _) | (with_reducible exact qcalls2 C5.out _ _) | (with_reducible exact qcalls2 C6.out _ _) | (with_reducible exact qcalls2 C7.out _ _)))))); refine wpQuiet_nil ?_; intro _ hwq; obtain ⟨⟨dq, osq⟩, hwq⟩ := hwq; subst hwq; have hbq := below_regrown (W0) dq osq; generalize grow (redrawn (W0) dq) osq = wq at *; go_wp2; go_ret; exact ⟨rfl, bstep HB0.out hbq⟩)
  cases v5
  · obtain rfl : V = false := by rw [hV2]; simp
    clear hV2
    (go_enter Tryz.func91, Tryz.ntmps91; go_wp2_with fail; rw [← HW.out]; refine wp_region_quiet_below (by kernel_rfl) (by kernel_rfl) ?_; (repeat (any_goals (first | go_big_quiet_step ((first | (with_reducible exact qcalls2 C1.out _ _) | (with_reducible exact qcalls2 C2.out _ _) | (with_reducible exact qcalls2 C3.out _ _) | (with_reducible exact qcalls2 C4.out _ _) | (with_reducible exact qcalls2 C5.out _ _) | (with_reducible exact qcalls2 C6.out _ _) | (with_reducible exact qcalls2 C7.out _ _))) | quiet_step ((first | (with_reducible exact qcalls2 C1.out _ _) | (with_reducible exact qcalls2 C2.out _ _) | (with_reducible exact qcalls2 C3.out _ _) | (with_reducible exact qcalls2 C4.out _ _) | (with_reducible exact qcalls2 C5.out _ _) | (with_reducible exact qcalls2 C6.out _ _) | (with_reducible exact qcalls2 C7.out _ _)))))); refine wpQuiet_nil ?_; intro _ hwq; obtain ⟨⟨dq, osq⟩, hwq⟩ := hwq; subst hwq; have hbq := below_regrown (W0) dq osq; generalize grow (redrawn (W0) dq) osq = wq at *; go_wp2; go_ret; exact ⟨rfl, bstep HB0.out hbq⟩)
  cases v6
  · obtain rfl : V = false := by rw [hV2]; simp
    clear hV2
    (go_enter Tryz.func91, Tryz.ntmps91; go_wp2_with fail; rw [← HW.out]; refine wp_region_quiet_below (by kernel_rfl) (by kernel_rfl) ?_; (repeat (any_goals (first | go_big_quiet_step ((first | (with_reducible exact qcalls2 C1.out _ _) | (with_reducible exact qcalls2 C2.out _ _) | (with_reducible exact qcalls2 C3.out _ _) | (with_reducible exact qcalls2 C4.out _ _) | (with_reducible exact qcalls2 C5.out _ _) | (with_reducible exact qcalls2 C6.out _ _) | (with_reducible exact qcalls2 C7.out _ _))) | quiet_step ((first | (with_reducible exact qcalls2 C1.out _ _) | (with_reducible exact qcalls2 C2.out _ _) | (with_reducible exact qcalls2 C3.out _ _) | (with_reducible exact qcalls2 C4.out _ _) | (with_reducible exact qcalls2 C5.out _ _) | (with_reducible exact qcalls2 C6.out _ _) | (with_reducible exact qcalls2 C7.out _ _)))))); refine wpQuiet_nil ?_; intro _ hwq; obtain ⟨⟨dq, osq⟩, hwq⟩ := hwq; subst hwq; have hbq := below_regrown (W0) dq osq; generalize grow (redrawn (W0) dq) osq = wq at *; go_wp2; go_ret; exact ⟨rfl, bstep HB0.out hbq⟩)
  obtain rfl : V = v7 := by rw [hV2]; simp
  clear hV2
  (go_enter Tryz.func91, Tryz.ntmps91; go_wp2_with fail; rw [← HW.out]; refine wp_region_quiet_below (by kernel_rfl) (by kernel_rfl) ?_; (repeat (any_goals (first | go_big_quiet_step ((first | (with_reducible exact qcalls2 C1.out _ _) | (with_reducible exact qcalls2 C2.out _ _) | (with_reducible exact qcalls2 C3.out _ _) | (with_reducible exact qcalls2 C4.out _ _) | (with_reducible exact qcalls2 C5.out _ _) | (with_reducible exact qcalls2 C6.out _ _) | (with_reducible exact qcalls2 C7.out _ _))) | quiet_step ((first | (with_reducible exact qcalls2 C1.out _ _) | (with_reducible exact qcalls2 C2.out _ _) | (with_reducible exact qcalls2 C3.out _ _) | (with_reducible exact qcalls2 C4.out _ _) | (with_reducible exact qcalls2 C5.out _ _) | (with_reducible exact qcalls2 C6.out _ _) | (with_reducible exact qcalls2 C7.out _ _)))))); refine wpQuiet_nil ?_; intro _ hwq; obtain ⟨⟨dq, osq⟩, hwq⟩ := hwq; subst hwq; have hbq := below_regrown (W0) dq osq; generalize grow (redrawn (W0) dq) osq = wq at *; go_wp2; go_ret; exact ⟨rfl, bstep HB0.out hbq⟩)
end Go.Proofs.YtjhlpkhfdghngaaGreatDoor
namespace Go.Proofs.YtjhlpkhfdghngaaGreatDoor
open Go.RowKit Go.Sort
set_option linter.unusedVariables false
set_option linter.unusedSimpArgs false
set_option maxRecDepth 100000
def namesA (l : List ByteArray) : Bool := (List.range l.length).all (okK ltB isNameB l)
def spanB (n : Int) : Bool := decide (0 ≤ n) && decide (n ≤ 1099511627776)
def validR (r : RuleV) : Bool :=
  isNameB r.name && (compileB r.pat).isSome && namesA r.tags && validC r.allow && spanB r.fresh && spanB r.stale && spanB r.down && spanB r.neg && decide (r.vary.length ≤ 8) && decide (0 ≤ r.cost) && decide (r.cost ≤ 1073741824) && decide (r.prog.size ≤ 64)
def olderR (r : RuleV) (state : Int) : Int := if state = 1 then r.stale else if state = 2 then r.down else 0
def maxAgeR (r : RuleV) (status state : Int) : Int := if status = 200 then min (r.fresh + olderR r state) 1099511627776 else r.neg
def youngR (r : RuleV) (status lo hi state : Int) : Bool := decide (hi < lo + maxAgeR r status state + 1)
def untilR (r : RuleV) (status lo state : Int) : Int := min 1099511627776 (lo + maxAgeR r status state)
def usableR (r : RuleV) (status lo hi state purge : Int) : Bool := (decide (purge = 0) || (decide (purge = 1) && !decide (state = 0))) && youngR r status lo hi state
structure VaryFits (v : VaryV) : Prop where
  h : v.header.size ≤ 200
  d : v.dflt.size ≤ 200
  n : v.values.length ≤ 10
  x : ∀ s ∈ v.values, s.size ≤ 200
structure RuleFits (r : RuleV) : Prop where
  name : r.name.size ≤ 200
  pat : r.pat.size ≤ 200
  prog : r.prog.size ≤ 200
  nt : r.tags.length ≤ 10
  t : ∀ s ∈ r.tags, s.size ≤ 200
  nv : r.vary.length ≤ 10
  v : ∀ y ∈ r.vary, VaryFits y
  c : CondFits r.allow
structure RuleOk (r : RuleV) : Prop where
  name : isNameB r.name = true
  pat : (compileB r.pat).isSome = true
  tags : namesA r.tags = true
  allow : validC r.allow = true
  f0 : 0 ≤ r.fresh
  f1 : r.fresh ≤ 1099511627776
  s0 : 0 ≤ r.stale
  s1 : r.stale ≤ 1099511627776
  d0 : 0 ≤ r.down
  d1 : r.down ≤ 1099511627776
  n0 : 0 ≤ r.neg
  n1 : r.neg ≤ 1099511627776
  vary : r.vary.length ≤ 8
  c0 : 0 ≤ r.cost
  c1 : r.cost ≤ 1073741824
  prog : r.prog.size ≤ 64
theorem rule_ok {r : RuleV} (h : validR r = true) : RuleOk r := by
  unfold validR spanB at h
  simp only [Bool.and_eq_true, decide_eq_true_eq] at h
  obtain ⟨⟨⟨⟨⟨⟨⟨⟨⟨⟨⟨h1, h2⟩, h3⟩, h4⟩, h5, h6⟩, h7, h8⟩, h9, h10⟩, h11, h12⟩, h13⟩, h14⟩, h15⟩, h16⟩ := h
  exact ⟨h1, h2, h3, h4, h5, h6, h7, h8, h9, h10, h11, h12, h13, h14, h15, h16⟩
theorem older_bounds {r : RuleV} (h : RuleOk r) (state : Int) : 0 ≤ olderR r state ∧ olderR r state ≤ 1099511627776 := by
  obtain ⟨_, _, _, _, f0, f1, s0, s1, d0, d1, n0, n1, _, _, _, _⟩ := h
  unfold olderR; split
  · exact ⟨s0, s1⟩
  · split
    · exact ⟨d0, d1⟩
    · omega
theorem maxAge_bounds {r : RuleV} (h : RuleOk r) (status state : Int) : 0 ≤ maxAgeR r status state ∧ maxAgeR r status state ≤ 1099511627776 := by
  have ho := older_bounds h state
  obtain ⟨_, _, _, _, f0, f1, s0, s1, d0, d1, n0, n1, _, _, _, _⟩ := h
  unfold maxAgeR; split
  · omega
  · exact ⟨n0, n1⟩
structure D16 where
  (a0 a1 a2 a3 a4 a5 a6 a7 a8 a9 a10 a11 a12 a13 a14 a15 : Int)
structure StampV where
  addr : ByteArray
  variant : ByteArray
  status : Int
  size : Int
  body : D16
  tags : ByteArray
  lo : Int
  hi : Int
  gate : Int
  serial : Int
  seal_ : D16
def StampV.cells (s : StampV) : List Value := [.string s.addr, .string s.variant, .int .i64 s.status, .int .i64 s.size,
  .int .u8 s.body.a0, .int .u8 s.body.a1, .int .u8 s.body.a2, .int .u8 s.body.a3, .int .u8 s.body.a4, .int .u8 s.body.a5, .int .u8 s.body.a6, .int .u8 s.body.a7, .int .u8 s.body.a8, .int .u8 s.body.a9, .int .u8 s.body.a10, .int .u8 s.body.a11, .int .u8 s.body.a12, .int .u8 s.body.a13, .int .u8 s.body.a14, .int .u8 s.body.a15,
  .string s.tags, .int .i64 s.lo, .int .i64 s.hi, .int .i64 s.gate, .int .i64 s.serial,
  .int .u8 s.seal_.a0, .int .u8 s.seal_.a1, .int .u8 s.seal_.a2, .int .u8 s.seal_.a3, .int .u8 s.seal_.a4, .int .u8 s.seal_.a5, .int .u8 s.seal_.a6, .int .u8 s.seal_.a7, .int .u8 s.seal_.a8, .int .u8 s.seal_.a9, .int .u8 s.seal_.a10, .int .u8 s.seal_.a11, .int .u8 s.seal_.a12, .int .u8 s.seal_.a13, .int .u8 s.seal_.a14, .int .u8 s.seal_.a15]
def StampV.val (s : StampV) : Value := .agg s.cells.toArray
end Go.Proofs.YtjhlpkhfdghngaaGreatDoor
namespace Go.Proofs.YtjhlpkhfdghngaaGreatDoor
open Go.RowKit Go.Sort
set_option linter.unusedVariables false
set_option linter.unusedSimpArgs false
set_option maxRecDepth 100000
def txtCells (s : ByteArray) : List Value := s.data.toList.map fun b => Value.int .u8 b.toNat
theorem txtCells_len (s : ByteArray) : (txtCells s).length = s.size := by
  unfold txtCells
  rw [List.length_map, Array.length_toList]
  rfl
section
variable {P : Program}
theorem run_loadVar_at (w : World) (g o : Nat) (t ty : TypeId) (cur cs : List Value) (fr : Nat × Nat) (d : TypeDesc) (hg : w.heap[g]? = some (.cells cur.toArray t fr)) (hcs : ∀ j v, cs[j]? = some v → cur[o + j]? = some v)
    (hu : P.underlying ty = some d) (hd : (match d with | .struct _ | .array _ _ => true | _ => false) = true) (hi : (P.info? ty).map (·.size) = some cs.length) :
    (loadVar ty ⟨g, o, none⟩).run P w = .ok (.agg cs.toArray) w := by
  have hl : (loadCells ⟨g, o, none⟩ cs.length).run P w = .ok cs.toArray w :=
    run_loadCells_list (P := P) w ⟨g, o, none⟩ cs (fun j v hv => by
      have hadd : (⟨g, o, none⟩ : Addr).add j = ⟨g, o + j, none⟩ := by unfold Addr.add; split <;> simp_all
      rw [hadd, cell_of_row w g (o + j) cur.toArray t fr hg]
      simpa using hcs j v hv)
  cases hq : P.info? ty with
  | none => simp [hq] at hi
  | some i =>
    have hs : i.size = cs.length := by simpa [hq] using hi
    have hagg : (isAgg ty).run P w = .ok true w := by
      unfold isAgg
      rw [Sem.run_bind, run_underlying hu w]
      cases d <;> simp_all
    simp [loadVar, Sem.run_bind, hagg, sizeOf, typeInfo, hq, hs, hl]
theorem run_storeVar_at (w : World) (g o : Nat) (t ty : TypeId) (cur cs : List Value) (hg : w.heap[g]? = some (.cells cur.toArray t (0, 0))) (hi : (P.info? ty).map (·.size) = some cs.length)
    (hfit : o + cs.length ≤ cur.length) (h1 : ∀ v ∈ cs, v.oneCell' = true) :
    (storeVar ty ⟨g, o, none⟩ (.agg cs.toArray)).run P w = .ok () (w.setRow g (splice cur o cs).toArray) := by
  have := run_storeCells_at P g o t cs 0 cur.toArray w hg (by simpa using hfit) h1
  cases hq : P.info? ty with
  | none => simp [hq] at hi
  | some i =>
    have hs : i.size = cs.length := by simpa [hq] using hi
    simp [storeVar, sizeOf, typeInfo, hq, Value.cells, hs, this, splice]
theorem wp_load_at {o : Oper} {a : Act} {w : World} {K : Act → World → Prop} {Q : Exit → Act → World → Prop} (ty : TypeId) (x : Operand) (ho : o.op = .load ty x)
    (g off : Nat) (hx : a.eval x = .pointer (some ⟨g, off, none⟩)) (t : TypeId) (cur cs : List Value) (fr : Nat × Nat) (d : TypeDesc) (hg : w.heap[g]? = some (.cells cur.toArray t fr)) (hcs : ∀ j v, cs[j]? = some v → cur[off + j]? = some v)
    (hu : P.underlying ty = some d) (hd : (match d with | .struct _ | .array _ _ => true | _ => false) = true) (hi : (P.info? ty).map (·.size) = some cs.length)
    (h : K (a.put o.dst (.agg cs.toArray)) w) : o.wp P a w K Q := by
  unfold Oper.wp execOp
  simp only [ho, hx, Instr.loadAt, Instr.sureAddr, Sem.run_bind, Sem.run_pure, Result.andThen_ok, run_loadVar_at w g off t ty cur cs fr d hg hcs hu hd hi]
  exact h
theorem wpList_load_at {ops : Array Oper} {rest : List Oper} {o : Oper} {a : Act} {w : World} {Q : Exit → Act → World → Prop} (hgd : o.guard = none) (ty : TypeId) (x : Operand) (ho : o.op = .load ty x)
    (g off : Nat) (hx : a.eval x = .pointer (some ⟨g, off, none⟩)) (t : TypeId) (cur cs : List Value) (fr : Nat × Nat) (d : TypeDesc) (hg : w.heap[g]? = some (.cells cur.toArray t fr)) (hcs : ∀ j v, cs[j]? = some v → cur[off + j]? = some v)
    (hu : P.underlying ty = some d) (hd : (match d with | .struct _ | .array _ _ => true | _ => false) = true) (hi : (P.info? ty).map (·.size) = some cs.length)
    (h : wpList P ops Q rest (a.put o.dst (.agg cs.toArray)) w) : wpList P ops Q (o :: rest) a w :=
  wpList_plain hgd fun _ hK => wp_load_at ty x ho g off hx t cur cs fr d hg hcs hu hd hi (hK _ _ h)
theorem wp_store_at {o : Oper} {a : Act} {w : World} {K : Act → World → Prop} {Q : Exit → Act → World → Prop} (ty : TypeId) (x y : Operand) (ho : o.op = .store ty x y)
    (g off : Nat) (cs : List Value) (hx : a.eval x = .pointer (some ⟨g, off, none⟩)) (hy : a.eval y = .agg cs.toArray)
    (t : TypeId) (cur : List Value) (hg : w.heap[g]? = some (.cells cur.toArray t (0, 0))) (hi : (P.info? ty).map (·.size) = some cs.length)
    (hfit : off + cs.length ≤ cur.length) (h1 : ∀ v ∈ cs, v.oneCell' = true)
    (h : K (a.put o.dst undef) (w.setRow g (splice cur off cs).toArray)) : o.wp P a w K Q := by
  unfold Oper.wp execOp
  simp only [ho, hx, hy, Instr.storeAt, Instr.sureAddr, Sem.run_bind, Sem.run_pure, Result.andThen_ok, run_storeVar_at w g off t ty cur cs hg hi hfit h1]
  exact h
theorem wpList_store_at {ops : Array Oper} {rest : List Oper} {o : Oper} {a : Act} {w : World} {Q : Exit → Act → World → Prop} (hgd : o.guard = none) (ty : TypeId) (x y : Operand) (ho : o.op = .store ty x y)
    (g off : Nat) (cs : List Value) (hx : a.eval x = .pointer (some ⟨g, off, none⟩)) (hy : a.eval y = .agg cs.toArray)
    (t : TypeId) (cur : List Value) (hg : w.heap[g]? = some (.cells cur.toArray t (0, 0))) (hi : (P.info? ty).map (·.size) = some cs.length)
    (hfit : off + cs.length ≤ cur.length) (h1 : ∀ v ∈ cs, v.oneCell' = true)
    (h : wpList P ops Q rest (a.put o.dst undef) (w.setRow g (splice cur off cs).toArray)) : wpList P ops Q (o :: rest) a w :=
  wpList_plain hgd fun _ hK => wp_store_at ty x y ho g off cs hx hy t cur hg hi hfit h1 (hK _ _ h)
theorem run_copy_str (w : World) (dT sT ty elem : TypeId) (g o dLen dCap : Nat) (s : ByteArray) (cur : List Value) (t : TypeId) (cs : List Value)
    (hu : P.underlying dT = some (.slice elem)) (hs : (P.info? elem).map (·.size) = some 1)
    (hg : w.heap[g]? = some (.cells cur.toArray t (0, 0))) (hcs : cs = (txtCells s).take (Nat.min s.size dLen)) (hfit : o + cs.length ≤ cur.length) :
    (Builtin.copy_ #[dT, sT] ty #[.slice (some ⟨g, o, none⟩) dLen dCap, .string s]).run P w =
      .ok (goInt cs.length) (w.setRow g (splice cur o cs).toArray) := by
  have hl : ((s.extract 0 (Nat.min s.size dLen)).data.map fun b => Value.int .u8 b.toNat) = cs.toArray := by
    rw [hcs]
    apply Array.ext'
    simp [txtCells, ByteArray.data_extract]
  have hn : cs.length = Nat.min s.size dLen := by rw [hcs, List.length_take, txtCells_len]; exact Nat.min_eq_left (Nat.min_le_left _ _)
  have h1 : ∀ v ∈ cs, v.oneCell' = true := by
    intro v hv
    rw [hcs] at hv
    obtain ⟨_, _, rfl⟩ := List.mem_map.1 (List.mem_of_mem_take hv)
    rfl
  have hst := run_storeCells_at P g o t cs 0 cur.toArray w hg (by simpa using hfit) h1
  cases hq : P.info? elem with
  | none => simp [hq] at hs
  | some i =>
    have hi : i.size = 1 := by simpa [hq] using hs
    have hf : (Builtin.firstCells 1 (Nat.min s.size dLen) (.string s)).run P w = .ok cs.toArray w := by rw [← hl]; rfl
    rw [← hn] at hf
    simp [Builtin.copy_, run_underlying hu, Builtin.lenOf, sizeOf, typeInfo, hq, hi, hf, ← hn]
    simp at hst
    rw [hst]
    simp [splice]
theorem wpList_copy_str {w : World} {ops : Array Oper} {rest : List Oper} {o : Oper} {a : Act} {Q : Exit → Act → World → Prop} (hgd : o.guard = none) (d s : Operand) (dT sT : TypeId)
    (ho : o.op = .call { callee := .builtin .copy, args := #[d, s], argTypes := #[dT, sT] }) (elem : TypeId) (hu : P.underlying dT = some (.slice elem)) (hsz : (P.info? elem).map (·.size) = some 1)
    (g off dLen dCap : Nat) (x : ByteArray) (hd : a.eval d = .slice (some ⟨g, off, none⟩) dLen dCap) (hs : a.eval s = .string x)
    (cur : List Value) (t : TypeId) (hg : w.heap[g]? = some (.cells cur.toArray t (0, 0))) (cs : List Value) (hcs : cs = (txtCells x).take (Nat.min x.size dLen)) (hfit : off + cs.length ≤ cur.length) (q : Nat) (hq : cs.length = q)
    (h : wpList P ops Q rest (a.put o.dst (goInt q)) (w.setRow g (splice cur off cs).toArray)) : wpList P ops Q (o :: rest) a w := by
  subst hq
  refine wpList_plain hgd fun K hK => ?_
  have hrun := run_copy_str (P := P) w dT sT o.type elem g off dLen dCap x cur t cs hu hsz hg hcs hfit
  unfold Oper.wp
  simp [execOp, ho, resolve, invoke, builtin, hd, hs, hrun, Result.andThen]
  exact hK _ _ h
end
end Go.Proofs.YtjhlpkhfdghngaaGreatDoor
namespace Go.Proofs.YtjhlpkhfdghngaaGreatDoor
open Go.RowKit Go.Sort
set_option linter.unusedVariables false
set_option linter.unusedSimpArgs false
set_option maxRecDepth 100000
def w32 (l : List Nat) : List Value := l.map fun x : Nat => Value.int .u32 (x : Int)
theorem w32_len (l : List Nat) : (w32 l).length = l.length := by simp [w32]
def RowV (w : World) (g : Nat) (t : TypeId) (cs : List Value) : Prop := w.heap[g]? = some (.cells cs.toArray t (0, 0))
section
variable {w w' : World} {g : Nat} {t : TypeId} {cs : List Value}
theorem RowV.lt (h : RowV w g t cs) : g < w.heap.size := by
  rcases Nat.lt_or_ge g w.heap.size with hlt | hge
  · exact hlt
  · unfold RowV at h; rw [Array.getElem?_eq_none hge] at h; cases h
theorem RowV.cell (h : RowV w g t cs) {k : Nat} {v : Value} (hk : cs[k]? = some v) : w.cell? ⟨g, k, none⟩ = some v := by
  rw [cell_of_row w g k _ t _ h]; simpa using hk
theorem RowV.free (h : RowV w g t cs) (k : Nat) : w.frozen? ⟨g, k, none⟩ = false := frozen_of_row w g k _ t h
theorem RowV.keep (h : RowV w g t cs) (hb : Below w.heap.size w w') : RowV w' g t cs := (hb.block g h.lt).trans h
theorem RowV.set_ (h : RowV w g t cs) (k : Nat) (v : Value) : RowV (w.setCell ⟨g, k, none⟩ v) g t (cs.set k v) := by
  have := heap_setCell_same w g k cs.toArray t v h
  unfold RowV
  rw [this]; simp
theorem RowV.far (h : RowV w g t cs) (p : Addr) (u : Value) (hp : g ≠ p.block) : RowV (w.setCell p u) g t cs := (heap_setCell_other w p g u hp).trans h
theorem RowV.row (h : RowV w g t cs) (ds : List Value) : RowV (w.setRow g ds.toArray) g t ds := setRow_heap w g _ _ t _ h
theorem RowV.row_far (h : RowV w g t cs) (k : Nat) (ds : Array Value) (hk : g ≠ k) : RowV (w.setRow k ds) g t cs := (setRow_other w k g ds hk).trans h
theorem RowV.drew (h : RowV w g t cs) : RowV w.drew g t cs := h
theorem RowV.alloc (h : RowV w g t cs) (o : Obj) : RowV (w.alloc o) g t cs := (heap_alloc_old w o h.lt).trans h
theorem RowV.new (w : World) (t : TypeId) (cs : List Value) : RowV (w.alloc (.cells cs.toArray t)) w.heap.size t cs := heap_alloc_new w _
end
def Row32 (w : World) (g : Nat) (t : TypeId) (L : List Nat) : Prop := RowV w g t (w32 L)
section
variable {w w' : World} {g : Nat} {t : TypeId} {L : List Nat}
theorem w32_at (L : List Nat) {k : Nat} (hk : k < L.length) : (w32 L)[k]? = some (.int .u32 ((L.getD k 0 : Nat) : Int)) := by
  simp [w32, List.getD_eq_getElem?_getD, List.getElem?_eq_getElem hk]
theorem w32_set (L : List Nat) (k v : Nat) : w32 (L.set k v) = (w32 L).set k (.int .u32 (v : Int)) := by simp [w32, List.map_set]
theorem Row32.cell (h : Row32 w g t L) {k : Nat} (hk : k < L.length) : w.cell? ⟨g, k, none⟩ = some (.int .u32 ((L.getD k 0 : Nat) : Int)) := RowV.cell h (w32_at L hk)
theorem Row32.free (h : Row32 w g t L) (k : Nat) : w.frozen? ⟨g, k, none⟩ = false := RowV.free h k
theorem Row32.keep (h : Row32 w g t L) (hb : Below w.heap.size w w') : Row32 w' g t L := RowV.keep h hb
theorem Row32.lt (h : Row32 w g t L) : g < w.heap.size := RowV.lt h
theorem Row32.set_ (h : Row32 w g t L) (k v : Nat) : Row32 (w.setCell ⟨g, k, none⟩ (.int .u32 (v : Int))) g t (L.set k v) := by
  unfold Row32
  rw [w32_set]; exact RowV.set_ h k _
theorem Row32.far (h : Row32 w g t L) (p : Addr) (u : Value) (hp : g ≠ p.block) : Row32 (w.setCell p u) g t L := RowV.far h p u hp
theorem Row32.drew (h : Row32 w g t L) : Row32 w.drew g t L := h
end
theorem w32_one (L : List Nat) : ∀ v ∈ w32 L, v.oneCell' = true := by
  intro v hv
  obtain ⟨_, _, rfl⟩ := List.mem_map.1 hv
  rfl
end Go.Proofs.YtjhlpkhfdghngaaGreatDoor
namespace Go.Proofs.YtjhlpkhfdghngaaGreatDoor
open Go.RowKit Go.Sort
set_option linter.unusedVariables false
set_option linter.unusedSimpArgs false
set_option maxRecDepth 100000
theorem RuleM.val_eq (x : RuleM) : x.val = .agg #[.string x.r.name, .string x.r.pat, .slice x.T x.r.tags.length x.ct, .int .i64 x.r.fresh, .int .i64 x.r.stale, .int .i64 x.r.down, .int .i64 x.r.neg, .slice x.V x.r.vary.length x.cv,
  .int .i64 x.r.allow.fr, .int .i64 x.r.allow.till, .string x.r.allow.pat, .slice x.m.A x.r.allow.cl.length x.m.ca, .slice x.m.B x.r.allow.co.length x.m.cb, .slice x.m.S x.r.allow.si.length x.m.cs, .int .i64 x.r.allow.us, .bool x.r.signed, .int .i64 x.r.cost, .string x.r.prog] := rfl
open Go.Maps
theorem wpList_insert_own {H : Type} {P : Program} (w : World) {ops : Array Oper} {rest : List Oper} {o : Oper} {a : Act} {Q : Exit → Act → World → Prop}
    (hg : o.guard = none) (m x v : Operand) (t : TypeId) (hop : o.op = Op.insert t m x v)
    (k e : TypeId) (K : Keyed P k) (ht : P.underlying t = some (.map k e)) (R : Value → Option (DataW H × List MemPlace)) (b n : Nat) (D : DataW H)
    (hm : a.eval m = .map (some b)) (hown : w.ownsMap P k R b n D) (hn : n < maxLen) (key val : Value) (kl : Lit) (hx : a.eval x = key) (hv : a.eval v = val) (hkey : keyOf P k key = some kl)
    (d : DataW H) (ps : List MemPlace) (hval : R val = some (d, ps))
    (hK : ∀ w', w'.ownsMap P k R b (n + 1) (D.put kl d) → w.grownBy w' (some b) → wpList P ops Q rest (a.put o.dst undef) w') :
    wpList P ops Q (o :: rest) a w := by
  refine wpList_plain hg fun K' hK' => ?_
  obtain ⟨w', hrun, r1, r2⟩ := hown.update K ht hn hkey hval
  unfold Oper.wp
  simp [execOp, hop, hm, hx, hv, hrun, Result.andThen]
  exact hK' _ _ (hK w' r1 r2)
theorem keyI : Keyed Tryz.prog 3 := int_keyed Tryz.underlying3
theorem zeroI (w : World) : (zeroValue 3).run Tryz.prog w = .ok (.int .i64 0) w := by kernel_rfl
def mapSD (s d : Int) : DataW Unit := ((DataW.map []).put (.int .i64 1) (.lit (.int .i64 s))).put (.int .i64 2) (.lit (.int .i64 d))
theorem mapSD_at (s d state : Int) (hs : state = 0 ∨ state = 1 ∨ state = 2) : (mapSD s d).atKey (.int .i64 state) (.lit (.int .i64 0)) = .lit (.int .i64 (if state = 1 then s else if state = 2 then d else 0)) := by
  rcases hs with rfl | rfl | rfl <;> rfl
theorem made2 {H : Type} (w : World) (o : Obj) (k : TypeId) (R : Value → Option (DataW H × List MemPlace)) : ((w.alloc o).alloc (.map #[] 0)).ownsMap Tryz.prog k R (w.heap.size + 1) 0 (.map []) := by
  have := World.ownsMap_made (w.alloc o) Tryz.prog k R
  simpa using this
theorem alloc2_cell (w : World) (cs : Array Value) (t : TypeId) (o : Obj) {k : Nat} {v : Value} (h : cs[k]? = some v) : ((w.alloc (.cells cs t)).alloc o).cell? ⟨w.heap.size, k, none⟩ = some v := by
  rw [cell_of_row _ _ _ cs t (0, 0) (heap_alloc2_old w (.cells cs t) o)]; exact h
theorem grown_cellM {w w' : World} {b g o : Nat} {v : Value} (hg : w.grownBy w' (some b)) (hne : g ≠ b) (h : w.cell? ⟨g, o, none⟩ = some v) : w'.cell? ⟨g, o, none⟩ = some v :=
  (World.cell?_of_block (hg.block g (cell_lt h) (fun e => hne (Option.some.inj e)))).trans h
set_option maxHeartbeats 4000000 in
theorem maxAge_any (x : RuleM) (hok : RuleOk x.r) (status state : Int) (hs : state = 0 ∨ state = 1 ∨ state = 2) (w : World) :
    Calls Tryz.prog 44 #[x.val, .int .i64 status, .int .i64 state] w (Ret w (.int .i64 (maxAgeR x.r status state))) := by
  obtain ⟨_, _, _, _, f0, f1, s0, s1, d0, d1, n0, n1, _, _, _, _⟩ := hok
  rw [RuleM.val_eq]
  by_cases h2 : status = 200
  · have e : maxAgeR x.r status state = min (x.r.fresh + olderR x.r state) 1099511627776 := by unfold maxAgeR; rw [if_pos h2]
    rw [e]
    subst h2
    clear e
    have hat := mapSD_at x.r.stale x.r.down state hs
    have ho : olderR x.r state = (if state = 1 then x.r.stale else if state = 2 then x.r.down else 0) := rfl
    rw [← ho] at hat
    have hb : 0 ≤ olderR x.r state ∧ olderR x.r state ≤ 1099511627776 := by
      rw [ho]; rcases hs with rfl | rfl | rfl <;> simp <;> omega
    obtain ⟨hb0, hb1⟩ := hb
    have hwf : (Lit.int .i64 state).wf = true := WalkArith.wf_i64 (by omega)
    have hkey : keyOf Tryz.prog 3 (.int .i64 state) = some (.int .i64 state) := keyOf_int_mk Tryz.underlying3 hwf
    have hk1 : keyOf Tryz.prog 3 (.int .i64 1) = some (.int .i64 1) := keyOf_int_mk Tryz.underlying3 (by decide)
    have hk2 : keyOf Tryz.prog 3 (.int .i64 2) = some (.int .i64 2) := keyOf_int_mk Tryz.underlying3 (by decide)
    have hv1 := plainElem_int (H := Unit) Tryz.underlying3 (a := x.r.stale) (WalkArith.wf_i64 (by omega))
    have hv2 := plainElem_int (H := Unit) Tryz.underlying3 (a := x.r.down) (WalkArith.wf_i64 (by omega))
    have hmm := @run_makeMap Tryz.prog
    generalize olderR x.r state = od at *
    have HAT := Lib.hid hat; have HKY := Lib.hid hkey; have HK1 := Lib.hid hk1; have HK2 := Lib.hid hk2; have HV1 := Lib.hid hv1; have HV2 := Lib.hid hv2
    clear hat ho hkey hk1 hk2 hv1 hv2 hwf hs
    go_enter Tryz.func44, Tryz.ntmps44
    go_wp2_with (first
      | (refine wpList_insert_own _ rfl _ (.const (.int .i64 1)) _ 163 rfl 3 3 keyI Tryz.underlying163 (plainElem (H := Unit) Tryz.prog 3) (w.heap.size + 1) 0 (.map []) rfl (made2 w _ _ _) (by unfold maxLen; omega) _ _ _ rfl rfl HK1.out _ _ HV1.out ?_; intro w1 hown1 hgrow1; have y3 := grown_cellM hgrow1 (by omega) (alloc2_cell w _ _ _ (k := 3) rfl); have y5 := grown_cellM hgrow1 (by omega) (alloc2_cell w _ _ _ (k := 5) rfl); have hb1 : Below w.heap.size w w1 := (balloc (balloc (Below.refl _ _) _) _).grown hgrow1 (by simp; omega) (fun r e => by injection e with e; omega))
      | (refine wpList_insert_own _ rfl _ (.const (.int .i64 2)) _ 163 rfl 3 3 keyI Tryz.underlying163 (plainElem (H := Unit) Tryz.prog 3) (w.heap.size + 1) 1 _ rfl hown1 (by unfold maxLen; omega) _ _ _ rfl rfl HK2.out _ _ HV2.out ?_; intro w2 hown2 hgrow2; have z3 := grown_cellM hgrow2 (by omega) y3; have hb2 : Below w.heap.size w w2 := hb1.grown hgrow2 (by have := hb1.size; omega) (fun r e => by injection e with e; omega))
      | (at_lookup; refine wpList_lookup_own_int _ rfl _ _ 163 rfl 3 3 .i64 keyI Tryz.underlying163 Tryz.underlying3 (zeroI _) (w.heap.size + 1) 2 (mapSD x.r.stale x.r.down) rfl hown2 _ _ rfl HKY.out ?_; intro c hat hwc; obtain rfl : c = od := (by have := hat.symm.trans HAT.out; injection this with this; injection this)))
    go_ret
    exact ⟨rfl, hb2⟩
  · have e : maxAgeR x.r status state = x.r.neg := by unfold maxAgeR; rw [if_neg h2]
    rw [e]
    go_enter Tryz.func44, Tryz.ntmps44
    go_wp2
    go_ret
    exact ⟨rfl, belB⟩
theorem StampV.val_eq (s : StampV) : s.val = .agg #[.string s.addr, .string s.variant, .int .i64 s.status, .int .i64 s.size, .int .u8 s.body.a0, .int .u8 s.body.a1, .int .u8 s.body.a2, .int .u8 s.body.a3, .int .u8 s.body.a4, .int .u8 s.body.a5, .int .u8 s.body.a6, .int .u8 s.body.a7, .int .u8 s.body.a8, .int .u8 s.body.a9, .int .u8 s.body.a10, .int .u8 s.body.a11, .int .u8 s.body.a12, .int .u8 s.body.a13, .int .u8 s.body.a14, .int .u8 s.body.a15, .string s.tags, .int .i64 s.lo, .int .i64 s.hi, .int .i64 s.gate, .int .i64 s.serial, .int .u8 s.seal_.a0, .int .u8 s.seal_.a1, .int .u8 s.seal_.a2, .int .u8 s.seal_.a3, .int .u8 s.seal_.a4, .int .u8 s.seal_.a5, .int .u8 s.seal_.a6, .int .u8 s.seal_.a7, .int .u8 s.seal_.a8, .int .u8 s.seal_.a9, .int .u8 s.seal_.a10, .int .u8 s.seal_.a11, .int .u8 s.seal_.a12, .int .u8 s.seal_.a13, .int .u8 s.seal_.a14, .int .u8 s.seal_.a15] := rfl
def perV (lo hi : Int) : Value := .agg #[.int .i64 lo, .int .i64 hi]
theorem before_any (lo hi t : Int) (w : World) : Calls Tryz.prog 106 #[perV lo hi, .int .i64 t] w (Ret w (.bool (decide (hi < t)))) := by
  unfold perV
  go_enter Tryz.func106, Tryz.ntmps106
  go_wp2
  go_ret
  exact ⟨rfl, belB⟩
end Go.Proofs.YtjhlpkhfdghngaaGreatDoor
namespace Go.Proofs.YtjhlpkhfdghngaaGreatDoor
open Go.RowKit Go.Sort
set_option linter.unusedVariables false
set_option linter.unusedSimpArgs false
set_option maxRecDepth 100000
theorem matches1_any (t tags : ByteArray) (b : Nat) (w : World) (hc : w.cell? ⟨b, 0, none⟩ = some (.string tags)) (hs : tags.size ≤ 100000) (hE : Env w) : Calls Tryz.prog 160 #[.string t, .pointer (some ⟨b, 0, none⟩)] w (Ret w (.bool (!hasTagB tags t))) := by
  have HH := Lib.hid (hasTag_any tags t w hs hE)
  clear hE
  generalize hasTagB tags t = v at *
  go_enter Tryz.func160, Tryz.ntmps160
  go_wp2_with (go_at_call 161; refine HH.out.mono ?_; rintro e w2 ⟨rfl, hb2⟩)
  go_ret
  exact ⟨rfl, hb2⟩
set_option maxHeartbeats 1000000 in
theorem indexFuncC_any (g : Nat) (eg : ∀ args w, (callFunc g args).run Tryz.prog w = .ok (.enter g args) w) (cv : Value) (p : ByteArray → Bool) (A : Option Addr) (n c : Nat) (xs : List ByteArray) (w : World)
    (hp : ∀ x ∈ xs, ∀ W, Below w.heap.size w W → Calls Tryz.prog g #[.string x, cv] W (Ret W (.bool (p x)))) (hA : Reads w 1 A n (xs.map .string)) (hn : n ≤ 1000000000) :
    Calls Tryz.prog 133 #[.slice A n c, .func (.func g) #[] #[cv]] w (Ret w (.int .i64 (idxFrom p xs 0))) := by
  have hl : n ≤ xs.length ∧ xs.length ≤ n := by have := hA.1; simp at this; omega
  have HP := Lib.hid hp; have HA := Lib.hid hA
  clear hp hA
  go_enter Tryz.func133, Tryz.ntmps133
  go_wp2
  go_loopw [8] (fun i wr => ∃ k : Nat, k ≤ n ∧ i = .int .i64 k ∧ Hid (idxFrom p xs 0 = idxFrom p (xs.drop k) k) ∧ Below w.heap.size w wr) (fun i _ => n - (intOf i).toNat)
  case atStart => exact ⟨0, by omega, rfl, Lib.hid rfl, Below.refl _ _⟩
  case round =>
    obtain ⟨k, hk, rfl, HI, hb⟩ := hrel
    by_cases hlt : k < n
    · obtain ⟨pb, po, u, rfl, hu, hcell⟩ := (HA.out.keep hb).at_ hlt
      obtain ⟨x, hx, rfl⟩ := strs_at hu
      clear hu
      have hc := HP.out x (List.mem_of_getElem? hx) wr hb
      have hd : xs.drop k = x :: xs.drop (k + 1) := by
        obtain ⟨hl2, rfl⟩ := List.getElem?_eq_some_iff.1 hx
        exact List.drop_eq_getElem_cons hl2
      have HI2 := HI.out
      rw [hd, idxFrom] at HI2
      clear hd hx HI
      have HI := Lib.hid HI2
      clear HI2
      cases hpx : p x
      all_goals
        rw [hpx] at hc HI
        have HC := Lib.hid hc
        clear hc hpx
        go_wp2_with (go_at_fn g; refine (HC.out).mono ?_; rintro e w2 ⟨rfl, hb2⟩)
      · refine ⟨⟨k + 1, by omega, by go_num, Lib.hid (by have := HI.out; simpa using this), bstep hb hb2⟩, by simp [intOf]; omega⟩
      · go_ret
        have := HI.out
        exact ⟨ret_int (by rw [this]; simp), bstep hb hb2⟩
    · have he : idxFrom p xs 0 = -1 := by rw [HI.out, List.drop_eq_nil_of_le (by omega)]; rfl
      have HE := Lib.hid he
      clear he HI
      go_wp2
      go_ret
      exact ⟨ret_int HE.out.symm, hb⟩
theorem containsFuncC_any (g : Nat) (eg : ∀ args w, (callFunc g args).run Tryz.prog w = .ok (.enter g args) w) (cv : Value) (p : ByteArray → Bool) (A : Option Addr) (n c : Nat) (xs : List ByteArray) (w : World)
    (hp : ∀ x ∈ xs, ∀ W, Below w.heap.size w W → Calls Tryz.prog g #[.string x, cv] W (Ret W (.bool (p x)))) (hA : Reads w 1 A n (xs.map .string)) (hn : n ≤ 1000000000) :
    Calls Tryz.prog 69 #[.slice A n c, .func (.func g) #[] #[cv]] w (Ret w (.bool (xs.any p))) := by
  rw [← idxFrom_any p xs 0]
  have H := Lib.hid (indexFuncC_any g eg cv p A n c xs w hp hA hn)
  clear hp hA
  generalize idxFrom p xs 0 = r at H ⊢
  go_enter Tryz.func69, Tryz.ntmps69
  go_wp2_with (go_at_call 133; refine H.out.mono ?_; rintro e w2 ⟨rfl, hb2⟩)
  go_ret
  exact ⟨rfl, hb2⟩
def mtX (r : RuleV) (a t : ByteArray) : Bool := matchB r.pat a && r.tags.all (hasTagB t)
theorem any_not {α : Type} (p : α → Bool) : ∀ l : List α, (!l.any fun x => !p x) = l.all p
  | [] => rfl
  | x :: l => by
    have := any_not p l
    simp only [List.any_cons, List.all_cons, Bool.not_or, Bool.not_not, this]
set_option maxHeartbeats 4000000 in
theorem matches_any (x : RuleM) (a t : ByteArray) (w : World) (hR : RuleReads w x) (hp : x.r.pat.size ≤ 100000) (hn : x.r.tags.length ≤ 1000) (ha : a.size ≤ 100000) (ht : t.size ≤ 100000) (hE : Env w) :
    Calls Tryz.prog 86 #[x.val, .string a, .string t] w (Ret w (.bool (mtX x.r a t))) := by
  have cM := fun (W : World) (hb : Below w.heap.size w W) => match_any x.r.pat a W hp ha (Env.keep hE hb)
  have hb0 : ∀ W (hb : Below w.heap.size w W) (b : Nat), W.cell? ⟨b, 0, none⟩ = some (.string t) → Calls Tryz.prog 69 #[.slice x.T x.r.tags.length x.ct, .func (.func 160) #[] #[.pointer (some ⟨b, 0, none⟩)]] W (Ret W (.bool (x.r.tags.any fun y => !hasTagB t y))) := fun W hb b hc =>
    containsFuncC_any 160 (enters_of Tryz.func160 (by kernel_rfl) rfl) (.pointer (some ⟨b, 0, none⟩)) (fun y => !hasTagB t y) x.T x.r.tags.length x.ct x.r.tags W (fun y hy W' hb' => matches1_any y t b W' (cell_keep hb' hc) ht (Env.keep hE (bstep hb hb'))) (hR.tags.keep hb) (by omega)
  have hv : mtX x.r a t = (matchB x.r.pat a && !(x.r.tags.any fun y => !hasTagB t y)) := by unfold mtX; rw [any_not]
  rw [hv]
  generalize (x.r.tags.any fun y => !hasTagB t y) = b2 at *
  generalize matchB x.r.pat a = b1 at *
  have hmf : ∀ (fn : Fn) (first cap : Array Value) (w : World), (Instr.makeFunc fn first cap).run Tryz.prog w = .ok (.func fn first cap) w := fun _ _ _ _ => rfl
  have HM := Lib.hid cM; have HC := Lib.hid hb0
  clear cM hb0 hv hR hE
  rw [RuleM.val_eq]
  cases b1
  · rw [Bool.false_and]
    go_enter Tryz.func86, Tryz.ntmps86
    go_wp2_with (go_at_call 21; refine (HM.out _ belB).mono ?_; rintro e w2 ⟨rfl, hb2⟩)
    go_ret
    exact ⟨rfl, belB⟩
  · rw [Bool.true_and]
    go_enter Tryz.func86, Tryz.ntmps86
    go_wp2_with (first | (go_at_call 21; refine (HM.out _ belB).mono ?_; rintro e w2 ⟨rfl, hb2⟩; have y2 := cell_keep hb2 (alloc2_cell w _ _ _ (k := 2) rfl); have y9 : w2.cell? ⟨w.heap.size + 1, 0, none⟩ = some (.string t) := cell_keep hb2 ((cell_of_row _ _ 0 _ _ _ (heap_alloc2_new w _ _)).trans rfl)) | (go_at_call 69; refine (HC.out _ belB _ y9).mono ?_; rintro e w3 ⟨rfl, hb3⟩))
    go_ret
    exact ⟨rfl, belB⟩
end Go.Proofs.YtjhlpkhfdghngaaGreatDoor
namespace Go.Proofs.YtjhlpkhfdghngaaGreatDoor
open Go.RowKit Go.Sort
set_option linter.unusedVariables false
set_option linter.unusedSimpArgs false
set_option maxRecDepth 100000
section
variable {P : Program}
theorem wpList_load_addr {ops : Array Oper} {rest : List Oper} {o : Oper} {a : Act} {w : World} {Q : Exit → Act → World → Prop} (hgd : o.guard = none) (ty : TypeId) (x : Operand) (ho : o.op = .load ty x)
    (ad : Addr) (v : Value) (hx : a.eval x = .pointer (some ad)) (hl : (loadVar ty ad).run P w = .ok v w)
    (h : wpList P ops Q rest (a.put o.dst v) w) : wpList P ops Q (o :: rest) a w := by
  refine wpList_plain hgd fun K hK => ?_
  unfold Oper.wp execOp
  simp only [ho, hx, Instr.loadAt, Instr.sureAddr, Sem.run_bind, Sem.run_pure, Result.andThen_ok, hl]
  exact hK _ _ h
end
end Go.Proofs.YtjhlpkhfdghngaaGreatDoor
namespace Go.Proofs.YtjhlpkhfdghngaaGreatDoor
open Go.RowKit Go.Sort
set_option linter.unusedVariables false
set_option linter.unusedSimpArgs false
set_option maxRecDepth 100000
def idxA {α : Type} (p : α → Bool) : List α → Nat → Int
  | [], _ => -1
  | x :: r, k => if p x then k else idxA p r (k + 1)
theorem choose1_any (x : RuleM) (a t : ByteArray) (b b2 : Nat) (w : World) (hR : RuleReads w x) (hc : w.cell? ⟨b, 0, none⟩ = some (.string a)) (hc2 : w.cell? ⟨b2, 0, none⟩ = some (.string t)) (hp : x.r.pat.size ≤ 100000) (hn : x.r.tags.length ≤ 1000) (ha : a.size ≤ 100000) (ht : t.size ≤ 100000) (hE : Env w) :
    Calls Tryz.prog 85 #[x.val, .pointer (some ⟨b, 0, none⟩), .pointer (some ⟨b2, 0, none⟩)] w (Ret w (.bool (mtX x.r a t))) := by
  have hm := fun W (hb : Below w.heap.size w W) => matches_any x a t W (hR.keep hb) hp hn ha ht (Env.keep hE hb)
  rw [RuleM.val_eq] at *
  have HM := Lib.hid hm
  clear hm hR hE
  generalize mtX x.r a t = v at *
  have hl1 := cell_lt hc
  have hl2 := cell_lt hc2
  go_enter Tryz.func85, Tryz.ntmps85
  go_wp2_with (go_at_call 86; refine (HM.out _ belB).mono ?_; rintro e w2 ⟨rfl, hb2⟩)
  go_ret
  exact ⟨rfl, belB⟩
theorem rule_load (w : World) (b o : Nat) (x : RuleM) (hc : ∀ j u, x.cells[j]? = some u → w.cell? ⟨b, o + j, none⟩ = some u) : (loadVar 33 ⟨b, o, none⟩).run Tryz.prog w = .ok x.val w := by
  have hl : (loadCells ⟨b, o, none⟩ 18).run Tryz.prog w = .ok x.cells.toArray w :=
    run_loadCells_list (P := Tryz.prog) w ⟨b, o, none⟩ x.cells (fun j v hv => by
      have hadd : (⟨b, o, none⟩ : Addr).add j = ⟨b, o + j, none⟩ := by unfold Addr.add; split <;> simp_all
      rw [hadd]; exact hc j v hv)
  have hi : (Tryz.prog.info? 33).map (·.size) = some 18 := by kernel_rfl
  cases hq : Tryz.prog.info? 33 with
  | none => rw [hq] at hi; cases hi
  | some i =>
    have hs : i.size = 18 := by rw [hq] at hi; simpa using hi
    have hagg : (isAgg 33).run Tryz.prog w = .ok true w := by
      unfold isAgg
      rw [Sem.run_bind, run_underlying Tryz.underlying33 w]
      rfl
    simp [loadVar, Sem.run_bind, hagg, sizeOf, typeInfo, hq, hs, hl, RuleM.val]
set_option maxHeartbeats 2000000 in
theorem indexFuncR_any (g : Nat) (eg : ∀ args w, (callFunc g args).run Tryz.prog w = .ok (.enter g args) w) (cv cv2 : Value) (p : RuleM → Bool) (A : Option Addr) (n c : Nat) (L : List RuleM) (w : World)
    (hp : ∀ x ∈ L, ∀ W, Below w.heap.size w W → Calls Tryz.prog g #[x.val, cv, cv2] W (Ret W (.bool (p x)))) (hA : RulesRead w A n L) (hn : n ≤ 1000000000) :
    Calls Tryz.prog 84 #[.slice A n c, .func (.func g) #[] #[cv, cv2]] w (Ret w (.int .i64 (idxA p L 0))) := by
  have hl : n ≤ L.length ∧ L.length ≤ n := by have := hA.len; omega
  have HP := Lib.hid hp; have HA := Lib.hid hA
  clear hp hA
  go_enter Tryz.func84, Tryz.ntmps84
  go_wp2
  go_loopw [8] (fun i wr => ∃ k : Nat, k ≤ n ∧ i = .int .i64 k ∧ Hid (idxA p L 0 = idxA p (L.drop k) k) ∧ Below w.heap.size w wr) (fun i _ => n - (intOf i).toNat)
  case atStart => exact ⟨0, by omega, rfl, Lib.hid rfl, Below.refl _ _⟩
  case round =>
    obtain ⟨k, hk, rfl, HI, hb⟩ := hrel
    by_cases hlt : k < n
    · obtain ⟨x, hx⟩ : ∃ x, L[k]? = some x := ⟨_, List.getElem?_eq_getElem (by omega)⟩
      obtain ⟨_, b, o, rfl, hcell⟩ := (HA.out.keep hb).at_ hx
      have hld := rule_load wr b (o + k * 18) x hcell
      have hc := HP.out x (List.mem_of_getElem? hx) wr hb
      have hd : L.drop k = x :: L.drop (k + 1) := by
        obtain ⟨hl2, rfl⟩ := List.getElem?_eq_some_iff.1 hx
        exact List.drop_eq_getElem_cons hl2
      have HI2 := HI.out
      rw [hd, idxA] at HI2
      have HX := Lib.hid hcell
      clear hd hx HI hcell
      have HI := Lib.hid HI2
      clear HI2
      have hxv : x.val = x.val := rfl
      generalize x.val = xv at hld hc
      clear hxv
      cases hpx : p x
      all_goals
        rw [hpx] at hc HI
        have HC := Lib.hid hc
        clear hc hpx
        go_wp2_with (first | (refine wpList_load_addr rfl _ _ rfl ⟨b, o + k * 18, none⟩ xv rfl hld ?_) | (go_at_fn g; refine (HC.out).mono ?_; rintro e w2 ⟨rfl, hb2⟩))
      · refine ⟨⟨k + 1, by omega, by go_num, Lib.hid (by have := HI.out; simpa using this), bstep hb hb2⟩, by simp [intOf]; omega⟩
      · go_ret
        have := HI.out
        exact ⟨ret_int (by rw [this]; simp), bstep hb hb2⟩
    · have he : idxA p L 0 = -1 := by rw [HI.out, List.drop_eq_nil_of_le (by omega)]; rfl
      have HE := Lib.hid he
      clear he HI
      go_wp2
      go_ret
      exact ⟨ret_int HE.out.symm, hb⟩
def chooseX (L : List RuleM) (a t : ByteArray) : Int := idxA (fun x => mtX x.r a t) L 0
structure RulesFit (L : List RuleM) : Prop where
  n : L.length ≤ 1000
  p : ∀ x ∈ L, x.r.pat.size ≤ 100000
  t : ∀ x ∈ L, x.r.tags.length ≤ 1000
set_option maxHeartbeats 4000000 in
theorem choose_any (A : Option Addr) (n c : Nat) (L : List RuleM) (a t : ByteArray) (w : World) (hL : RulesRead w A n L) (hf : RulesFit L) (ha : a.size ≤ 100000) (ht : t.size ≤ 100000) (hE : Env w) :
    Calls Tryz.prog 25 #[.slice A n c, .string a, .string t] w (Ret w (.int .i64 (chooseX L a t))) := by
  have hn : n ≤ 1000 := by have := hL.len; have := hf.n; omega
  have hi : Calls Tryz.prog 84 #[.slice A n c, .func (.func 85) #[] #[.pointer (some ⟨w.heap.size, 0, none⟩), .pointer (some ⟨w.heap.size + 1, 0, none⟩)]] ((w.alloc (.cells #[.string a] 9)).alloc (.cells #[.string t] 9)) (Ret ((w.alloc (.cells #[.string a] 9)).alloc (.cells #[.string t] 9)) (.int .i64 (chooseX L a t))) := by
    have hb : Below w.heap.size w ((w.alloc (.cells #[.string a] 9)).alloc (.cells #[.string t] 9)) := belB
    refine indexFuncR_any 85 (enters_of Tryz.func85 (by kernel_rfl) rfl) _ _ (fun x => mtX x.r a t) A n c L _ (fun x hx W hb' => ?_) (hL.keep hb) (by omega)
    exact choose1_any x a t _ _ W ((hL.each x hx).keep (bstep hb hb')) (cell_keep hb' (alloc2_cell w #[.string a] _ _ (k := 0) rfl)) (cell_keep hb' ((cell_of_row _ _ 0 _ _ _ (heap_alloc2_new w _ _)).trans rfl)) (hf.p x hx) (hf.t x hx) ha ht (Env.keep hE (bstep hb hb'))
  have hmf : ∀ (fn : Fn) (first cap : Array Value) (w : World), (Instr.makeFunc fn first cap).run Tryz.prog w = .ok (.func fn first cap) w := fun _ _ _ _ => rfl
  have HI := Lib.hid hi
  clear hi hL hE hf
  generalize chooseX L a t = v at *
  go_enter Tryz.func25, Tryz.ntmps25
  go_wp2_with (go_at_call 84; refine HI.out.mono ?_; rintro e w2 ⟨rfl, hb2⟩)
  go_ret
  exact ⟨rfl, belB⟩
end Go.Proofs.YtjhlpkhfdghngaaGreatDoor
namespace Go.Proofs.YtjhlpkhfdghngaaGreatDoor
open Go.RowKit Go.Sort
set_option linter.unusedVariables false
set_option linter.unusedSimpArgs false
set_option maxRecDepth 100000
set_option maxHeartbeats 1000000 in
theorem rLetter_any (c : Nat) (w : World) (hc : c < 256) : Calls Tryz.prog 190 #[.int .u8 c] w (Ret w (.bool (isLetN c))) := by
  go_enter Tryz.func190, Tryz.ntmps190
  go_wp2
  all_goals
    go_ret
    exact ⟨ret_bool (by first | (rw [Bool.eq_iff_iff]; simp [isLetN]; done) | (rw [Bool.eq_iff_iff]; simp [isLetN]; omega)), belB⟩
def anyEq (c : Nat) (l : List UInt8) : Bool := l.any fun b => b.toNat == c
theorem take_snocB (s : ByteArray) (k : Nat) (h : k < s.size) : s.data.toList.take (k + 1) = s.data.toList.take k ++ [s[k]] := by
  rw [List.take_succ_eq_append_getElem (by simpa using h)]; rfl
theorem byte_int (b : UInt8) (c : Nat) : ((b.toNat : Int) == (c : Int)) = (b.toNat == c) := by
  rw [Bool.eq_iff_iff, beq_iff_eq, beq_iff_eq]; omega
set_option maxHeartbeats 1000000 in
theorem rHas_any (s : ByteArray) (c : Nat) (w : World) (hs : s.size ≤ 4294967281) : Calls Tryz.prog 113 #[.string s, .int .u8 c] w (Ret w (.bool (anyEq c s.data.toList))) := by
  go_enter Tryz.func113, Tryz.ntmps113
  go_wp2
  go_loop [5] (fun i => ∃ k : Nat, i = .int .i64 k ∧ k ≤ s.size ∧ Hid (anyEq c (s.data.toList.take k) = false)) (fun i => s.size - (intOf i).toNat)
  case atStart => exact ⟨0, rfl, Nat.zero_le _, Lib.hid (by simp [anyEq])⟩
  case round =>
    obtain ⟨k, rfl, hk, HK⟩ := hrel
    by_cases hlt : k < s.size
    · have ht : anyEq c (s.data.toList.take (k + 1)) = (anyEq c (s.data.toList.take k) || (s[k].toNat == c)) := by rw [take_snocB s k hlt]; simp [anyEq]
      have hd := byte_int s[k] c
      cases hb : (s[k].toNat == c)
      · rw [hb] at ht hd
        have HK2 : Hid (anyEq c (s.data.toList.take (k + 1)) = false) := Lib.hid (by rw [ht, HK.out]; rfl)
        clear ht hb HK
        go_wp2
        go_round
        case rel => exact ⟨k + 1, by go_num, by omega, HK2⟩
        case measure => simp [intOf]; omega
      · rw [hb] at ht hd
        have HK2 : Hid (anyEq c s.data.toList = true) := Lib.hid (by
          have h2 : anyEq c (s.data.toList.take (k + 1)) = true := by rw [ht, Bool.or_true]
          unfold anyEq at h2 ⊢
          rw [List.any_eq_true] at h2 ⊢
          obtain ⟨x, hx, h3⟩ := h2
          exact ⟨x, List.mem_of_mem_take hx, h3⟩)
        clear ht hb HK
        go_wp2
        go_ret
        exact ⟨ret_bool HK2.out.symm, belB⟩
    · go_wp2
      go_ret
      refine ⟨ret_bool ?_, belB⟩
      have := HK.out
      rw [List.take_of_length_le (by rw [← Lib.size_eq]; omega)] at this
      exact this.symm
set_option maxHeartbeats 2000000 in
theorem rWord_any (s : ByteArray) (w : World) (hs : s.size ≤ 4294967281) : Calls Tryz.prog 112 #[.string s] w (Ret w (.bool (isWordB s))) := by
  by_cases h0 : s.size = 0
  · have d0 : ((s.size : Int) == 0) = true := by simp [h0]
    have hv : isWordB s = false := by
      have : s.data.toList = [] := List.eq_nil_of_length_eq_zero (by rw [← Lib.size_eq]; exact h0)
      simp [isWordB, Lib.toList_data, this]
    rw [hv]; clear hv h0
    go_enter Tryz.func112, Tryz.ntmps112
    go_wp2
    go_ret
    exact ⟨rfl, belB⟩
  have d0 : ((s.size : Int) == 0) = false := beq_eq_false_iff_ne.2 (by omega)
  by_cases h1 : s.size ≤ 64
  rotate_left
  · have d1 : decide ((64 : Int) < (s.size : Int)) = true := decide_eq_true (by omega)
    have hv : isWordB s = false := by simp [isWordB, h1]
    rw [hv]; clear hv
    go_enter Tryz.func112, Tryz.ntmps112
    go_wp2
    go_ret
    exact ⟨rfl, belB⟩
  have d1 : decide ((64 : Int) < (s.size : Int)) = false := decide_eq_false (by omega)
  cases h2 : (s.toList == [46])
  rotate_left
  · have hv : isWordB s = false := by simp [isWordB, h2]
    rw [hv]; clear hv
    go_enter Tryz.func112, Tryz.ntmps112
    go_wp2
    go_ret
    exact ⟨rfl, belB⟩
  cases h3 : (s.toList == [46, 46])
  rotate_left
  · have hv : isWordB s = false := by simp [isWordB, h3]
    rw [hv]; clear hv
    go_enter Tryz.func112, Tryz.ntmps112
    go_wp2
    go_ret
    exact ⟨rfl, belB⟩
  have hv : isWordB s = s.data.toList.all letterB := by
    have : s.toList.isEmpty = false := by
      rw [Lib.toList_data]
      cases hl : s.data.toList with
      | nil => rw [Lib.size_eq, hl] at h0; simp at h0
      | cons _ _ => rfl
    simp [isWordB, h2, h3, this, h1]
  rw [hv]; clear hv
  go_enter Tryz.func112, Tryz.ntmps112
  go_wp2
  go_loopw [3] (fun i wr => ∃ k : Nat, i = .int .i64 k ∧ k ≤ s.size ∧ Hid ((s.data.toList.take k).all letterB = true) ∧ Below w.heap.size w wr) (fun i _ => s.size - (intOf i).toNat)
  case atStart => exact ⟨0, rfl, Nat.zero_le _, Lib.hid (by simp), Below.refl _ _⟩
  case round =>
    obtain ⟨k, rfl, hk, HK, hbr⟩ := hrel
    by_cases hlt : k < s.size
    · have ht : (s.data.toList.take (k + 1)).all letterB = ((s.data.toList.take k).all letterB && letterB s[k]) := by rw [take_snocB s k hlt]; simp
      have cL := fun W => rLetter_any s[k].toNat W (s[k].toNat_lt)
      unfold letterB at ht
      generalize isLetN s[k].toNat = b at *
      cases b
      · have HK2 : Hid (s.data.toList.all letterB = false) := Lib.hid (by
          have h2 : (s.data.toList.take (k + 1)).all letterB = false := by unfold letterB; rw [ht, Bool.and_false]
          rw [List.all_eq_false] at h2 ⊢
          obtain ⟨x, hx, h3⟩ := h2
          exact ⟨x, List.mem_of_mem_take hx, h3⟩)
        clear ht HK
        have HL := Lib.hid cL
        clear cL
        go_wp2_with (go_at_call 190; refine (HL.out _).mono ?_; rintro e w1 ⟨rfl, hb1⟩)
        go_ret
        exact ⟨ret_bool HK2.out.symm, belB⟩
      · have HK2 : Hid ((s.data.toList.take (k + 1)).all letterB = true) := Lib.hid (by have := HK.out; unfold letterB at this ⊢; rw [ht, this]; rfl)
        clear ht HK
        have HL := Lib.hid cL
        clear cL
        go_wp2_with (go_at_call 190; refine (HL.out _).mono ?_; rintro e w1 ⟨rfl, hb1⟩)
        exact ⟨⟨k + 1, by go_num, by omega, HK2, belB⟩, by simp [intOf]; omega⟩
    · go_wp2
      go_ret
      refine ⟨ret_bool ?_, belB⟩
      have := HK.out
      rw [List.take_of_length_le (by rw [← Lib.size_eq]; omega)] at this
      exact this.symm
theorem anyEq_46 (s : ByteArray) : (isWordB s && !anyEq 46 s.data.toList) = isNameB s := by
  unfold isNameB
  congr 2
  rw [Bool.eq_iff_iff, decide_eq_true_eq]
  unfold anyEq
  generalize s.data.toList = l
  induction l with
  | nil => simp [Lib.indexByte]
  | cons b l ih =>
    rw [Lib.indexByte, List.any_cons, Bool.or_eq_true]
    have hb : (b.toNat == 46) = true ↔ (b == 46) = true := by
      rw [beq_iff_eq, beq_iff_eq, ← UInt8.toNat_inj]; rfl
    rw [hb, ih]
    split
    · simp [*]
    · split
      · rename_i h2
        simp only [beq_iff_eq] at h2
        simp [*]
      · rename_i h1 h2
        simp only [beq_iff_eq] at h2
        have : -1 ≤ Lib.indexByte l 46 := by
          rw [← Lib.index_one]; exact Lib.index_ge _ _
        simp only [h1, false_or, Bool.false_eq_true]
        omega
set_option maxHeartbeats 1000000 in
theorem rName_any (s : ByteArray) (w : World) (hs : s.size ≤ 4294967281) : Calls Tryz.prog 53 #[.string s] w (Ret w (.bool (isNameB s))) := by
  have cW := fun W => rWord_any s W hs
  have cH := fun W => rHas_any s 46 W hs
  rw [← anyEq_46]
  generalize isWordB s = b at *
  generalize anyEq 46 s.data.toList = h at *
  have HH := Lib.hid cH
  have HW := Lib.hid cW
  clear cH cW
  cases b
  · go_enter Tryz.func53, Tryz.ntmps53
    go_wp2_with (go_at_call 112; refine (HW.out _).mono ?_; rintro e w1 ⟨rfl, hb1⟩)
    go_ret
    exact ⟨rfl, belB⟩
  · go_enter Tryz.func53, Tryz.ntmps53
    go_wp2_with (first | (go_at_call 112; refine (HW.out _).mono ?_; rintro e w1 ⟨rfl, hb1⟩) | (go_at_call 113; refine (HH.out _).mono ?_; rintro e w2 ⟨rfl, hb2⟩))
    go_ret
    exact ⟨ret_bool (by simp), belB⟩
end Go.Proofs.YtjhlpkhfdghngaaGreatDoor
namespace Go.Proofs.YtjhlpkhfdghngaaGreatDoor
open Go.RowKit Go.Sort
set_option linter.unusedVariables false
set_option linter.unusedSimpArgs false
set_option maxRecDepth 100000
theorem at_split (l : List UInt8) (k : Nat) (hk : k < l.length) : l = l.take k ++ l[k] :: l.drop (k + 1) := by
  rw [← List.drop_eq_getElem_cons hk, List.take_append_drop]
theorem byte_at (s : ByteArray) (k : Nat) (h : k < s.size) : s[k] = s.data.toList[k]'(by rw [← Lib.size_eq]; exact h) := by simp; rfl
end Go.Proofs.YtjhlpkhfdghngaaGreatDoor
