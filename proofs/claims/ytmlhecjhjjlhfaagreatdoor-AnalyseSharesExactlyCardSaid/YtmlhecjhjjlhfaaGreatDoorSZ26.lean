/- Plain: when a condition holds, and what that says of Meet. -/
import Derived.Test.YtmlhecjhjjlhfaaGreatDoorSZ24
import Derived.Test.YtmlhecjhjjlhfaaGreatDoorProg
import Derived.WalkKit
import Derived.WalkSpells
import Derived.WalkLawsBesides
import Derived.Below
import Derived.Deep.QuietTactic
import Derived.BigQuiet
import Derived.Lib.QuietBelow
import Derived.Lib.Strings
import Derived.Lib.Hide
import Derived.Deep.RegionWith
import Derived.Deep.RegionHeld3
import Derived.Lib.IndexBytes
import Derived.Test.YtmlhecjhjjlhfaaGreatDoorSZ15
import Derived.Test.YtmlhecjhjjlhfaaGreatDoorSZ16
import Derived.Test.YtmlhecjhjjlhfaaGreatDoorSZ23
namespace Go.Proofs.YtmlhecjhjjlhfaaGreatDoor
open Go.RowKit Go.Sort
set_option linter.unusedVariables false
set_option linter.unusedSimpArgs false
set_option maxRecDepth 100000
structure AskV where
  addr : ByteArray
  client : ByteArray
  country : ByteArray
  site : Int
  lo : Int
  hi : Int
def validAsk (a : AskV) : Bool := readB a.addr && isNameB a.client && countryB a.country && siteB a.site && decide (0 ≤ a.lo ∧ a.lo ≤ a.hi ∧ a.hi ≤ 1099511627776)
def holdsC (c : CondV) (a : AskV) : Bool := validC c && validAsk a && decide (c.fr ≤ a.lo ∧ a.hi < c.till) && matchB (patT c.pat) a.addr && allowsL c.cl a.client && allowsL c.co a.country && allowsL c.si a.site
theorem match_pmA {p : ByteArray} (hp : patOk p = true) {s : ByteArray} (hs : readB s = true) : matchB (patT p) s = pmA p (parseB s).1 := by
  obtain ⟨x, hx, _⟩ := patT_some hp
  unfold matchB pmA
  rw [hx]
  show (readB s && matchP x (parseB s).1) = matchP x (parseB s).1
  rw [hs, Bool.true_and]
theorem holds_iff {c : CondV} (hc : CondOk c) (a : AskV) : holdsC c a = true ↔ validAsk a = true ∧ (c.fr ≤ a.lo ∧ a.hi < c.till) ∧ pmA c.pat (parseB a.addr).1 = true ∧ allowsL c.cl a.client = true ∧ allowsL c.co a.country = true ∧ allowsL c.si a.site = true := by
  unfold holdsC
  rw [(valid_iff c).2 hc]
  simp only [Bool.true_and, Bool.and_eq_true, decide_eq_true_eq]
  have hv : validAsk a = true → readB a.addr = true := fun h => by
    unfold validAsk at h
    simp only [Bool.and_eq_true] at h
    exact h.1.1.1.1
  constructor
  · rintro ⟨⟨⟨⟨⟨h1, h2⟩, h3⟩, h4⟩, h5⟩, h6⟩
    rw [match_pmA hc.pat (hv h1)] at h3
    exact ⟨h1, h2, h3, h4, h5, h6⟩
  · rintro ⟨h1, h2, h3, h4, h5, h6⟩
    rw [← match_pmA hc.pat (hv h1)] at h3
    exact ⟨⟨⟨⟨⟨h1, h2⟩, h3⟩, h4⟩, h5⟩, h6⟩
theorem allows_iff {α : Type} [DecidableEq α] (l : List α) (x : α) : allowsL l x = true ↔ l = [] ∨ x ∈ l := by
  unfold allowsL
  rw [Bool.or_eq_true, List.isEmpty_iff, List.contains_iff_mem]
end Go.Proofs.YtmlhecjhjjlhfaaGreatDoor
namespace Go.Proofs.YtmlhecjhjjlhfaaGreatDoor
open Go.RowKit Go.Sort
set_option linter.unusedVariables false
set_option linter.unusedSimpArgs false
set_option maxRecDepth 100000
def AskV.val (a : AskV) : Value := .agg #[.string a.addr, .string a.client, .string a.country, .int .i64 a.site, .int .i64 a.lo, .int .i64 a.hi]
end Go.Proofs.YtmlhecjhjjlhfaaGreatDoor
namespace Go.Proofs.YtmlhecjhjjlhfaaGreatDoor
open Go.RowKit Go.Sort
set_option linter.unusedVariables false
set_option linter.unusedSimpArgs false
set_option maxRecDepth 100000
theorem canon_shape (s : ByteArray) : ∃ (t : ByteArray) (f : Int), canonV s = .tuple #[.string t, .int .i64 f] ∧ readB s = (decide (f = 0) && (t.toList == s.toList)) := by
  unfold canonV readB
  by_cases h : (parseB s).2 = 0
  · have hg := parse_good s h
    have hsh := parse_short s h
    have hf : formedB (parseB s).1.cust (parseB s).1.path (parseB s).1.query = true := (formed_iff _ _ _).2 ⟨hg, by omega⟩
    rw [if_pos h]
    unfold textV
    rw [if_pos hf, decide_eq_true h]
    exact ⟨_, 0, rfl, rfl⟩
  · rw [if_neg h]
    refine ⟨_, _, rfl, ?_⟩
    rw [decide_eq_false h]
    rfl
set_option maxHeartbeats 8000000 in
theorem validAsk_any (a : AskV) (w : World) (h1 : a.addr.size ≤ 100000) (h2 : a.client.size ≤ 100000) (h3 : a.country.size ≤ 100000) (hE : Env w) : Calls Tryz.prog 104 #[AskV.val a] w (Ret w (.bool (validAsk a))) := by
  obtain ⟨ad, cl, co, si, lo, hi⟩ := a
  dsimp only at h1 h2 h3
  unfold AskV.val
  dsimp only
  obtain ⟨V, hV⟩ : ∃ V, V = validAsk ⟨ad, cl, co, si, lo, hi⟩ := ⟨_, rfl⟩
  rw [← hV]
  unfold validAsk at hV
  dsimp only at hV
  obtain ⟨t, f, hcs, hrb⟩ := canon_shape ad
  have c1 := fun W h => canonical_any ad W (by omega) h
  have c2 := fun W h => condName_any cl W h2 h
  have c3 := fun W => isCountry_any co W (by omega)
  have c4 := fun W => isSite_any si W
  rw [hcs] at c1
  rw [hrb] at hV
  clear hcs hrb
  generalize isNameB cl = b2 at *
  generalize countryB co = b3 at *
  generalize siteB si = b4 at *
  have C1 := Lib.hid c1
  have C2 := Lib.hid c2
  have C3 := Lib.hid c3
  have C4 := Lib.hid c4
  have HE := Lib.hid hE
  clear c1 c2 c3 c4 hE h1 h2 h3
  by_cases t1 : f = 0
  rotate_left
  · obtain rfl : V = false := by rw [hV]; simp [t1]
    have d1 : (f == 0) = false := by simpa using t1
    clear hV
    (go_enter Tryz.func104, Tryz.ntmps104; go_wp2_with (first | (go_at_call 168; refine (C1.out _ (Env.keep HE.out belB)).mono ?_; rintro e w2 ⟨rfl, hb2⟩; (have hX2 : Blk w2 w.heap.size 49 #[.string ad, .string cl, .string co, .int .i64 si, .int .i64 lo, .int .i64 hi] (0, 0) := (by first | exact Blk.keep hX2 hb2 | exact Blk.keep (World.alloc_heap_new _ _) hb2); have x0 := hX2.cell 0; have x1 := hX2.cell 1; have x2 := hX2.cell 2; have x3 := hX2.cell 3; have x4 := hX2.cell 4; have x5 := hX2.cell 5)) | (go_at_call 148; refine (C2.out _ (Env.keep HE.out belB)).mono ?_; rintro e w2 ⟨rfl, hb2⟩; (have hX2 : Blk w2 w.heap.size 49 #[.string ad, .string cl, .string co, .int .i64 si, .int .i64 lo, .int .i64 hi] (0, 0) := (by first | exact Blk.keep hX2 hb2 | exact Blk.keep (World.alloc_heap_new _ _) hb2); have x0 := hX2.cell 0; have x1 := hX2.cell 1; have x2 := hX2.cell 2; have x3 := hX2.cell 3; have x4 := hX2.cell 4; have x5 := hX2.cell 5)) | (go_at_call 149; refine (C3.out _).mono ?_; rintro e w2 ⟨rfl, hb2⟩; (have hX2 : Blk w2 w.heap.size 49 #[.string ad, .string cl, .string co, .int .i64 si, .int .i64 lo, .int .i64 hi] (0, 0) := (by first | exact Blk.keep hX2 hb2 | exact Blk.keep (World.alloc_heap_new _ _) hb2); have x0 := hX2.cell 0; have x1 := hX2.cell 1; have x2 := hX2.cell 2; have x3 := hX2.cell 3; have x4 := hX2.cell 4; have x5 := hX2.cell 5)) | (go_at_call 151; refine (C4.out _).mono ?_; rintro e w2 ⟨rfl, hb2⟩; (have hX2 : Blk w2 w.heap.size 49 #[.string ad, .string cl, .string co, .int .i64 si, .int .i64 lo, .int .i64 hi] (0, 0) := (by first | exact Blk.keep hX2 hb2 | exact Blk.keep (World.alloc_heap_new _ _) hb2); have x0 := hX2.cell 0; have x1 := hX2.cell 1; have x2 := hX2.cell 2; have x3 := hX2.cell 3; have x4 := hX2.cell 4; have x5 := hX2.cell 5))); go_ret; exact ⟨rfl, belB⟩)
  subst t1
  have hV2 : V = ((t.toList == ad.toList) && b2 && b3 && b4 && decide (0 ≤ lo ∧ lo ≤ hi ∧ hi ≤ 1099511627776)) := by rw [hV]; rfl
  clear hV
  cases t2 : (t.toList == ad.toList)
  · obtain rfl : V = false := by rw [hV2, t2]; rfl
    clear hV2
    (go_enter Tryz.func104, Tryz.ntmps104; go_wp2_with (first | (go_at_call 168; refine (C1.out _ (Env.keep HE.out belB)).mono ?_; rintro e w2 ⟨rfl, hb2⟩; (have hX2 : Blk w2 w.heap.size 49 #[.string ad, .string cl, .string co, .int .i64 si, .int .i64 lo, .int .i64 hi] (0, 0) := (by first | exact Blk.keep hX2 hb2 | exact Blk.keep (World.alloc_heap_new _ _) hb2); have x0 := hX2.cell 0; have x1 := hX2.cell 1; have x2 := hX2.cell 2; have x3 := hX2.cell 3; have x4 := hX2.cell 4; have x5 := hX2.cell 5)) | (go_at_call 148; refine (C2.out _ (Env.keep HE.out belB)).mono ?_; rintro e w2 ⟨rfl, hb2⟩; (have hX2 : Blk w2 w.heap.size 49 #[.string ad, .string cl, .string co, .int .i64 si, .int .i64 lo, .int .i64 hi] (0, 0) := (by first | exact Blk.keep hX2 hb2 | exact Blk.keep (World.alloc_heap_new _ _) hb2); have x0 := hX2.cell 0; have x1 := hX2.cell 1; have x2 := hX2.cell 2; have x3 := hX2.cell 3; have x4 := hX2.cell 4; have x5 := hX2.cell 5)) | (go_at_call 149; refine (C3.out _).mono ?_; rintro e w2 ⟨rfl, hb2⟩; (have hX2 : Blk w2 w.heap.size 49 #[.string ad, .string cl, .string co, .int .i64 si, .int .i64 lo, .int .i64 hi] (0, 0) := (by first | exact Blk.keep hX2 hb2 | exact Blk.keep (World.alloc_heap_new _ _) hb2); have x0 := hX2.cell 0; have x1 := hX2.cell 1; have x2 := hX2.cell 2; have x3 := hX2.cell 3; have x4 := hX2.cell 4; have x5 := hX2.cell 5)) | (go_at_call 151; refine (C4.out _).mono ?_; rintro e w2 ⟨rfl, hb2⟩; (have hX2 : Blk w2 w.heap.size 49 #[.string ad, .string cl, .string co, .int .i64 si, .int .i64 lo, .int .i64 hi] (0, 0) := (by first | exact Blk.keep hX2 hb2 | exact Blk.keep (World.alloc_heap_new _ _) hb2); have x0 := hX2.cell 0; have x1 := hX2.cell 1; have x2 := hX2.cell 2; have x3 := hX2.cell 3; have x4 := hX2.cell 4; have x5 := hX2.cell 5))); go_ret; exact ⟨rfl, belB⟩)
  rw [t2] at hV2
  cases b2
  · obtain rfl : V = false := by rw [hV2]; rfl
    clear hV2
    (go_enter Tryz.func104, Tryz.ntmps104; go_wp2_with (first | (go_at_call 168; refine (C1.out _ (Env.keep HE.out belB)).mono ?_; rintro e w2 ⟨rfl, hb2⟩; (have hX2 : Blk w2 w.heap.size 49 #[.string ad, .string cl, .string co, .int .i64 si, .int .i64 lo, .int .i64 hi] (0, 0) := (by first | exact Blk.keep hX2 hb2 | exact Blk.keep (World.alloc_heap_new _ _) hb2); have x0 := hX2.cell 0; have x1 := hX2.cell 1; have x2 := hX2.cell 2; have x3 := hX2.cell 3; have x4 := hX2.cell 4; have x5 := hX2.cell 5)) | (go_at_call 148; refine (C2.out _ (Env.keep HE.out belB)).mono ?_; rintro e w2 ⟨rfl, hb2⟩; (have hX2 : Blk w2 w.heap.size 49 #[.string ad, .string cl, .string co, .int .i64 si, .int .i64 lo, .int .i64 hi] (0, 0) := (by first | exact Blk.keep hX2 hb2 | exact Blk.keep (World.alloc_heap_new _ _) hb2); have x0 := hX2.cell 0; have x1 := hX2.cell 1; have x2 := hX2.cell 2; have x3 := hX2.cell 3; have x4 := hX2.cell 4; have x5 := hX2.cell 5)) | (go_at_call 149; refine (C3.out _).mono ?_; rintro e w2 ⟨rfl, hb2⟩; (have hX2 : Blk w2 w.heap.size 49 #[.string ad, .string cl, .string co, .int .i64 si, .int .i64 lo, .int .i64 hi] (0, 0) := (by first | exact Blk.keep hX2 hb2 | exact Blk.keep (World.alloc_heap_new _ _) hb2); have x0 := hX2.cell 0; have x1 := hX2.cell 1; have x2 := hX2.cell 2; have x3 := hX2.cell 3; have x4 := hX2.cell 4; have x5 := hX2.cell 5)) | (go_at_call 151; refine (C4.out _).mono ?_; rintro e w2 ⟨rfl, hb2⟩; (have hX2 : Blk w2 w.heap.size 49 #[.string ad, .string cl, .string co, .int .i64 si, .int .i64 lo, .int .i64 hi] (0, 0) := (by first | exact Blk.keep hX2 hb2 | exact Blk.keep (World.alloc_heap_new _ _) hb2); have x0 := hX2.cell 0; have x1 := hX2.cell 1; have x2 := hX2.cell 2; have x3 := hX2.cell 3; have x4 := hX2.cell 4; have x5 := hX2.cell 5))); go_ret; exact ⟨rfl, belB⟩)
  cases b3
  · obtain rfl : V = false := by rw [hV2]; rfl
    clear hV2
    (go_enter Tryz.func104, Tryz.ntmps104; go_wp2_with (first | (go_at_call 168; refine (C1.out _ (Env.keep HE.out belB)).mono ?_; rintro e w2 ⟨rfl, hb2⟩; (have hX2 : Blk w2 w.heap.size 49 #[.string ad, .string cl, .string co, .int .i64 si, .int .i64 lo, .int .i64 hi] (0, 0) := (by first | exact Blk.keep hX2 hb2 | exact Blk.keep (World.alloc_heap_new _ _) hb2); have x0 := hX2.cell 0; have x1 := hX2.cell 1; have x2 := hX2.cell 2; have x3 := hX2.cell 3; have x4 := hX2.cell 4; have x5 := hX2.cell 5)) | (go_at_call 148; refine (C2.out _ (Env.keep HE.out belB)).mono ?_; rintro e w2 ⟨rfl, hb2⟩; (have hX2 : Blk w2 w.heap.size 49 #[.string ad, .string cl, .string co, .int .i64 si, .int .i64 lo, .int .i64 hi] (0, 0) := (by first | exact Blk.keep hX2 hb2 | exact Blk.keep (World.alloc_heap_new _ _) hb2); have x0 := hX2.cell 0; have x1 := hX2.cell 1; have x2 := hX2.cell 2; have x3 := hX2.cell 3; have x4 := hX2.cell 4; have x5 := hX2.cell 5)) | (go_at_call 149; refine (C3.out _).mono ?_; rintro e w2 ⟨rfl, hb2⟩; (have hX2 : Blk w2 w.heap.size 49 #[.string ad, .string cl, .string co, .int .i64 si, .int .i64 lo, .int .i64 hi] (0, 0) := (by first | exact Blk.keep hX2 hb2 | exact Blk.keep (World.alloc_heap_new _ _) hb2); have x0 := hX2.cell 0; have x1 := hX2.cell 1; have x2 := hX2.cell 2; have x3 := hX2.cell 3; have x4 := hX2.cell 4; have x5 := hX2.cell 5)) | (go_at_call 151; refine (C4.out _).mono ?_; rintro e w2 ⟨rfl, hb2⟩; (have hX2 : Blk w2 w.heap.size 49 #[.string ad, .string cl, .string co, .int .i64 si, .int .i64 lo, .int .i64 hi] (0, 0) := (by first | exact Blk.keep hX2 hb2 | exact Blk.keep (World.alloc_heap_new _ _) hb2); have x0 := hX2.cell 0; have x1 := hX2.cell 1; have x2 := hX2.cell 2; have x3 := hX2.cell 3; have x4 := hX2.cell 4; have x5 := hX2.cell 5))); go_ret; exact ⟨rfl, belB⟩)
  cases b4
  · obtain rfl : V = false := by rw [hV2]; rfl
    clear hV2
    (go_enter Tryz.func104, Tryz.ntmps104; go_wp2_with (first | (go_at_call 168; refine (C1.out _ (Env.keep HE.out belB)).mono ?_; rintro e w2 ⟨rfl, hb2⟩; (have hX2 : Blk w2 w.heap.size 49 #[.string ad, .string cl, .string co, .int .i64 si, .int .i64 lo, .int .i64 hi] (0, 0) := (by first | exact Blk.keep hX2 hb2 | exact Blk.keep (World.alloc_heap_new _ _) hb2); have x0 := hX2.cell 0; have x1 := hX2.cell 1; have x2 := hX2.cell 2; have x3 := hX2.cell 3; have x4 := hX2.cell 4; have x5 := hX2.cell 5)) | (go_at_call 148; refine (C2.out _ (Env.keep HE.out belB)).mono ?_; rintro e w2 ⟨rfl, hb2⟩; (have hX2 : Blk w2 w.heap.size 49 #[.string ad, .string cl, .string co, .int .i64 si, .int .i64 lo, .int .i64 hi] (0, 0) := (by first | exact Blk.keep hX2 hb2 | exact Blk.keep (World.alloc_heap_new _ _) hb2); have x0 := hX2.cell 0; have x1 := hX2.cell 1; have x2 := hX2.cell 2; have x3 := hX2.cell 3; have x4 := hX2.cell 4; have x5 := hX2.cell 5)) | (go_at_call 149; refine (C3.out _).mono ?_; rintro e w2 ⟨rfl, hb2⟩; (have hX2 : Blk w2 w.heap.size 49 #[.string ad, .string cl, .string co, .int .i64 si, .int .i64 lo, .int .i64 hi] (0, 0) := (by first | exact Blk.keep hX2 hb2 | exact Blk.keep (World.alloc_heap_new _ _) hb2); have x0 := hX2.cell 0; have x1 := hX2.cell 1; have x2 := hX2.cell 2; have x3 := hX2.cell 3; have x4 := hX2.cell 4; have x5 := hX2.cell 5)) | (go_at_call 151; refine (C4.out _).mono ?_; rintro e w2 ⟨rfl, hb2⟩; (have hX2 : Blk w2 w.heap.size 49 #[.string ad, .string cl, .string co, .int .i64 si, .int .i64 lo, .int .i64 hi] (0, 0) := (by first | exact Blk.keep hX2 hb2 | exact Blk.keep (World.alloc_heap_new _ _) hb2); have x0 := hX2.cell 0; have x1 := hX2.cell 1; have x2 := hX2.cell 2; have x3 := hX2.cell 3; have x4 := hX2.cell 4; have x5 := hX2.cell 5))); go_ret; exact ⟨rfl, belB⟩)
  by_cases t3 : 0 ≤ lo
  rotate_left
  · obtain rfl : V = false := by rw [hV2]; simp [t3]
    have d3 : decide (0 ≤ lo) = false := decide_eq_false t3
    clear hV2
    (go_enter Tryz.func104, Tryz.ntmps104; go_wp2_with (first | (go_at_call 168; refine (C1.out _ (Env.keep HE.out belB)).mono ?_; rintro e w2 ⟨rfl, hb2⟩; (have hX2 : Blk w2 w.heap.size 49 #[.string ad, .string cl, .string co, .int .i64 si, .int .i64 lo, .int .i64 hi] (0, 0) := (by first | exact Blk.keep hX2 hb2 | exact Blk.keep (World.alloc_heap_new _ _) hb2); have x0 := hX2.cell 0; have x1 := hX2.cell 1; have x2 := hX2.cell 2; have x3 := hX2.cell 3; have x4 := hX2.cell 4; have x5 := hX2.cell 5)) | (go_at_call 148; refine (C2.out _ (Env.keep HE.out belB)).mono ?_; rintro e w2 ⟨rfl, hb2⟩; (have hX2 : Blk w2 w.heap.size 49 #[.string ad, .string cl, .string co, .int .i64 si, .int .i64 lo, .int .i64 hi] (0, 0) := (by first | exact Blk.keep hX2 hb2 | exact Blk.keep (World.alloc_heap_new _ _) hb2); have x0 := hX2.cell 0; have x1 := hX2.cell 1; have x2 := hX2.cell 2; have x3 := hX2.cell 3; have x4 := hX2.cell 4; have x5 := hX2.cell 5)) | (go_at_call 149; refine (C3.out _).mono ?_; rintro e w2 ⟨rfl, hb2⟩; (have hX2 : Blk w2 w.heap.size 49 #[.string ad, .string cl, .string co, .int .i64 si, .int .i64 lo, .int .i64 hi] (0, 0) := (by first | exact Blk.keep hX2 hb2 | exact Blk.keep (World.alloc_heap_new _ _) hb2); have x0 := hX2.cell 0; have x1 := hX2.cell 1; have x2 := hX2.cell 2; have x3 := hX2.cell 3; have x4 := hX2.cell 4; have x5 := hX2.cell 5)) | (go_at_call 151; refine (C4.out _).mono ?_; rintro e w2 ⟨rfl, hb2⟩; (have hX2 : Blk w2 w.heap.size 49 #[.string ad, .string cl, .string co, .int .i64 si, .int .i64 lo, .int .i64 hi] (0, 0) := (by first | exact Blk.keep hX2 hb2 | exact Blk.keep (World.alloc_heap_new _ _) hb2); have x0 := hX2.cell 0; have x1 := hX2.cell 1; have x2 := hX2.cell 2; have x3 := hX2.cell 3; have x4 := hX2.cell 4; have x5 := hX2.cell 5))); go_ret; exact ⟨rfl, belB⟩)
  have d3 : decide (0 ≤ lo) = true := decide_eq_true t3
  by_cases t4 : lo ≤ hi
  rotate_left
  · obtain rfl : V = false := by rw [hV2]; simp [t4]
    have d4 : decide (lo ≤ hi) = false := decide_eq_false t4
    clear hV2
    (go_enter Tryz.func104, Tryz.ntmps104; go_wp2_with (first | (go_at_call 168; refine (C1.out _ (Env.keep HE.out belB)).mono ?_; rintro e w2 ⟨rfl, hb2⟩; (have hX2 : Blk w2 w.heap.size 49 #[.string ad, .string cl, .string co, .int .i64 si, .int .i64 lo, .int .i64 hi] (0, 0) := (by first | exact Blk.keep hX2 hb2 | exact Blk.keep (World.alloc_heap_new _ _) hb2); have x0 := hX2.cell 0; have x1 := hX2.cell 1; have x2 := hX2.cell 2; have x3 := hX2.cell 3; have x4 := hX2.cell 4; have x5 := hX2.cell 5)) | (go_at_call 148; refine (C2.out _ (Env.keep HE.out belB)).mono ?_; rintro e w2 ⟨rfl, hb2⟩; (have hX2 : Blk w2 w.heap.size 49 #[.string ad, .string cl, .string co, .int .i64 si, .int .i64 lo, .int .i64 hi] (0, 0) := (by first | exact Blk.keep hX2 hb2 | exact Blk.keep (World.alloc_heap_new _ _) hb2); have x0 := hX2.cell 0; have x1 := hX2.cell 1; have x2 := hX2.cell 2; have x3 := hX2.cell 3; have x4 := hX2.cell 4; have x5 := hX2.cell 5)) | (go_at_call 149; refine (C3.out _).mono ?_; rintro e w2 ⟨rfl, hb2⟩; (have hX2 : Blk w2 w.heap.size 49 #[.string ad, .string cl, .string co, .int .i64 si, .int .i64 lo, .int .i64 hi] (0, 0) := (by first | exact Blk.keep hX2 hb2 | exact Blk.keep (World.alloc_heap_new _ _) hb2); have x0 := hX2.cell 0; have x1 := hX2.cell 1; have x2 := hX2.cell 2; have x3 := hX2.cell 3; have x4 := hX2.cell 4; have x5 := hX2.cell 5)) | (go_at_call 151; refine (C4.out _).mono ?_; rintro e w2 ⟨rfl, hb2⟩; (have hX2 : Blk w2 w.heap.size 49 #[.string ad, .string cl, .string co, .int .i64 si, .int .i64 lo, .int .i64 hi] (0, 0) := (by first | exact Blk.keep hX2 hb2 | exact Blk.keep (World.alloc_heap_new _ _) hb2); have x0 := hX2.cell 0; have x1 := hX2.cell 1; have x2 := hX2.cell 2; have x3 := hX2.cell 3; have x4 := hX2.cell 4; have x5 := hX2.cell 5))); go_ret; exact ⟨rfl, belB⟩)
  have d4 : decide (lo ≤ hi) = true := decide_eq_true t4
  obtain rfl : V = decide (hi ≤ 1099511627776) := by rw [hV2]; simp [t3, t4]
  clear hV2
  (go_enter Tryz.func104, Tryz.ntmps104; go_wp2_with (first | (go_at_call 168; refine (C1.out _ (Env.keep HE.out belB)).mono ?_; rintro e w2 ⟨rfl, hb2⟩; (have hX2 : Blk w2 w.heap.size 49 #[.string ad, .string cl, .string co, .int .i64 si, .int .i64 lo, .int .i64 hi] (0, 0) := (by first | exact Blk.keep hX2 hb2 | exact Blk.keep (World.alloc_heap_new _ _) hb2); have x0 := hX2.cell 0; have x1 := hX2.cell 1; have x2 := hX2.cell 2; have x3 := hX2.cell 3; have x4 := hX2.cell 4; have x5 := hX2.cell 5)) | (go_at_call 148; refine (C2.out _ (Env.keep HE.out belB)).mono ?_; rintro e w2 ⟨rfl, hb2⟩; (have hX2 : Blk w2 w.heap.size 49 #[.string ad, .string cl, .string co, .int .i64 si, .int .i64 lo, .int .i64 hi] (0, 0) := (by first | exact Blk.keep hX2 hb2 | exact Blk.keep (World.alloc_heap_new _ _) hb2); have x0 := hX2.cell 0; have x1 := hX2.cell 1; have x2 := hX2.cell 2; have x3 := hX2.cell 3; have x4 := hX2.cell 4; have x5 := hX2.cell 5)) | (go_at_call 149; refine (C3.out _).mono ?_; rintro e w2 ⟨rfl, hb2⟩; (have hX2 : Blk w2 w.heap.size 49 #[.string ad, .string cl, .string co, .int .i64 si, .int .i64 lo, .int .i64 hi] (0, 0) := (by first | exact Blk.keep hX2 hb2 | exact Blk.keep (World.alloc_heap_new _ _) hb2); have x0 := hX2.cell 0; have x1 := hX2.cell 1; have x2 := hX2.cell 2; have x3 := hX2.cell 3; have x4 := hX2.cell 4; have x5 := hX2.cell 5)) | (go_at_call 151; refine (C4.out _).mono ?_; rintro e w2 ⟨rfl, hb2⟩; (have hX2 : Blk w2 w.heap.size 49 #[.string ad, .string cl, .string co, .int .i64 si, .int .i64 lo, .int .i64 hi] (0, 0) := (by first | exact Blk.keep hX2 hb2 | exact Blk.keep (World.alloc_heap_new _ _) hb2); have x0 := hX2.cell 0; have x1 := hX2.cell 1; have x2 := hX2.cell 2; have x3 := hX2.cell 3; have x4 := hX2.cell 4; have x5 := hX2.cell 5))); go_ret; exact ⟨rfl, belB⟩)
end Go.Proofs.YtmlhecjhjjlhfaaGreatDoor
namespace Go.Proofs.YtmlhecjhjjlhfaaGreatDoor
open Go.RowKit Go.Sort
set_option linter.unusedVariables false
set_option linter.unusedSimpArgs false
set_option maxRecDepth 100000
abbrev BL := List UInt8
theorem uniq_sorted : ∀ (xs ys : List BL), xs.Pairwise (· < ·) → ys.Pairwise (· < ·) → (∀ a, a ∈ xs ↔ a ∈ ys) → xs = ys
  | [], [], _, _, _ => rfl
  | [], y :: _, _, _, h => absurd ((h y).2 (by simp)) (by simp)
  | x :: _, [], _, _, h => absurd ((h x).1 (by simp)) (by simp)
  | x :: xs, y :: ys, hx, hy, h => by
    have hx' := List.pairwise_cons.1 hx
    have hy' := List.pairwise_cons.1 hy
    have e : x = y := by
      rcases List.mem_cons.1 ((h x).1 (by simp)) with e | e
      · exact e
      · rcases List.mem_cons.1 ((h y).2 (by simp)) with e2 | e2
        · exact e2.symm
        · exact absurd (hy'.1 x e) (List.lt_asymm (hx'.1 y e2))
    subst e
    rw [uniq_sorted xs ys hx'.2 hy'.2 (fun a => ?_)]
    constructor
    · intro ha
      rcases List.mem_cons.1 ((h a).1 (by simp [ha])) with e | e
      · subst e; exact absurd (hx'.1 a ha) (List.lt_irrefl a)
      · exact e
    · intro ha
      rcases List.mem_cons.1 ((h a).2 (by simp [ha])) with e | e
      · subst e; exact absurd (hy'.1 a ha) (List.lt_irrefl a)
      · exact e
theorem lt_of_le_ne' {a b : BL} (h : a ≤ b) (hn : a ≠ b) : a < b := by
  rcases Decidable.em (a < b) with h1 | h1
  · exact h1
  · exact absurd (List.le_antisymm h (List.not_lt.1 h1)) hn
theorem compact_inv (d : Array BL) (hs : ∀ i j, i ≤ j → j < d.size → d[i]! ≤ d[j]!) : ∀ m, m ≤ d.size → (Lib.compactUpTo d m).Pairwise (· < ·) ∧ (∀ j, j < m → d[j]! ∈ Lib.compactUpTo d m) ∧ (∀ x ∈ Lib.compactUpTo d m, ∃ j, j < m ∧ x = d[j]!)
  | 0, _ => by simp [Lib.compactUpTo]
  | m + 1, hm => by
    obtain ⟨h1, h2, h3⟩ := compact_inv d hs m (by omega)
    rw [Lib.compactUpTo_succ]
    by_cases hk : Lib.keeps d m = true
    · rw [if_pos hk]
      refine ⟨List.pairwise_append.2 ⟨h1, by simp, fun a ha b hb => ?_⟩, fun j hj => ?_, fun x hx => ?_⟩
      · rw [List.mem_singleton.1 hb]
        obtain ⟨j, hj, rfl⟩ := h3 a ha
        have hne : d[m - 1]! ≠ d[m]! := by
          intro e
          simp [Lib.keeps] at hk
          rcases hk with hk | hk
          · omega
          · first | exact hk e.symm | exact hk e
        have l1 := hs j (m - 1) (by omega) (by omega)
        have l2 := lt_of_le_ne' (hs (m - 1) m (by omega) (by omega)) hne
        exact Std.lt_of_le_of_lt l1 l2
      · by_cases e : j = m
        · subst e; simp
        · exact List.mem_append_left _ (h2 j (by omega))
      · rcases List.mem_append.1 hx with hx | hx
        · obtain ⟨j, hj, rfl⟩ := h3 x hx
          exact ⟨j, by omega, rfl⟩
        · exact ⟨m, by omega, List.mem_singleton.1 hx⟩
    · rw [if_neg hk, List.append_nil]
      refine ⟨h1, fun j hj => ?_, fun x hx => ?_⟩
      · by_cases e : j = m
        · subst e
          have hj0 : j ≠ 0 ∧ d[j]! = d[j - 1]! := by
            simp [Lib.keeps] at hk
            first | exact hk | exact ⟨hk.1, hk.2.symm⟩
          rw [hj0.2]
          exact h2 (j - 1) (by omega)
        · exact h2 j (by omega)
      · obtain ⟨j, hj, rfl⟩ := h3 x hx
        exact ⟨j, by omega, rfl⟩
theorem compact_sorted (zs : List BL) (hs : zs.Pairwise (· ≤ ·)) : (Lib.compact zs).Pairwise (· < ·) ∧ ∀ a, a ∈ Lib.compact zs ↔ a ∈ zs := by
  have hd : ∀ i j, i ≤ j → j < zs.toArray.size → zs.toArray[i]! ≤ zs.toArray[j]! := by
    intro i j hij hj
    simp only [List.size_toArray] at hj
    rw [getElem!_pos _ i (by simp; omega), getElem!_pos _ j (by simpa using hj)]
    simp only [List.getElem_toArray]
    rcases Nat.lt_or_eq_of_le hij with h | h
    · exact List.pairwise_iff_getElem.1 hs i j (by omega) hj h
    · subst h; exact List.le_refl _
  obtain ⟨h1, h2, h3⟩ := compact_inv zs.toArray hd zs.length (by simp)
  refine ⟨h1, fun a => ⟨fun h => ?_, fun h => ?_⟩⟩
  · exact compact_mem zs a h
  · obtain ⟨j, hj, rfl⟩ := List.getElem_of_mem h
    have := h2 j hj
    rw [getElem!_pos _ j (by simpa using hj)] at this
    unfold Lib.compact
    simpa using this
end Go.Proofs.YtmlhecjhjjlhfaaGreatDoor
namespace Go.Proofs.YtmlhecjhjjlhfaaGreatDoor
open Go.RowKit Go.Sort
set_option linter.unusedVariables false
set_option linter.unusedSimpArgs false
set_option maxRecDepth 100000
def noAsk : AskV := ⟨⟨#[]⟩, ⟨#[]⟩, ⟨#[]⟩, 0, 0, 0⟩
def addrOf (p : ByteArray) : ByteArray := match bothP (patT p) ⟨#[42, 47, 42, 42]⟩ with
  | some (some z) => exText z
  | _ => ⟨#[]⟩
def sampleC (c : CondV) : AskV := ⟨addrOf c.pat, c.cl.headD ⟨#[97]⟩, c.co.headD ⟨#[97, 97]⟩, c.si.headD 0, c.fr, c.fr⟩
theorem exText_read {z : Pat} (hz : PatFit z) : readB (exText z) = true ∧ (parseB (exText z)).1 = exA z := by
  have hn : (wordsL z.parts).length ≤ 32 := by
    have := hz.num
    rw [words_len]; split at this <;> omega
  have := parse_join (with_cust hz.cust (c := 97) (.inl rfl)) (words_ok hz.parts) hn
  unfold exText
  rw [this.1]
  exact ⟨this.2, rfl⟩
theorem addr_of {p : ByteArray} (hp : patOk p = true) : readB (addrOf p) = true ∧ pmA p (parseB (addrOf p)).1 = true := by
  obtain ⟨x, hx, fx⟩ := patT_some hp
  have e : addrOf p = match commonP x anyP with
    | some z => exText z
    | none => ⟨#[]⟩ := by
    unfold addrOf bothP
    rw [hx, any_comp]
    dsimp only
    cases commonP x anyP <;> rfl
  rw [e]
  cases h : commonP x anyP with
  | none =>
    have := commonP_none fx any_fit h (exA x)
    rw [exA_match fx, any_match] at this
    cases this
  | some z =>
    obtain ⟨fz, hm⟩ := commonP_some fx any_fit h
    show readB (exText z) = true ∧ pmA p (parseB (exText z)).1 = true
    obtain ⟨h1, h2⟩ := exText_read fz
    refine ⟨h1, ?_⟩
    rw [h2]
    have := hm (exA z)
    rw [exA_match fz] at this
    have h3 := this.symm
    rw [Bool.and_eq_true] at h3
    unfold pmA
    rw [hx]
    exact h3.1
theorem head_allows {α : Type} [DecidableEq α] (l : List α) (d : α) : allowsL l (l.headD d) = true := by
  rw [allows_iff]
  cases l with
  | nil => exact .inl rfl
  | cons x l => exact .inr (by simp)
theorem head_right {α : Type} (l : List α) (d : α) (right : α → Bool) (h : ∀ x ∈ l, right x = true) (hd : right d = true) : right (l.headD d) = true := by
  cases l with
  | nil => exact hd
  | cons x l => exact h x (by simp)
theorem country_aa : countryB ⟨#[97, 97]⟩ = true := by decide
theorem valid_sample {c : CondV} (hc : CondOk c) : validAsk (sampleC c) = true := by
  have h0 := hc.fr0
  have h1 := hc.fr1
  unfold validAsk sampleC
  simp only [Bool.and_eq_true, decide_eq_true_eq]
  exact ⟨⟨⟨⟨(addr_of hc.pat).1, head_right c.cl _ isNameB hc.cl (word_one (.inl rfl))⟩, head_right c.co _ countryB hc.co country_aa⟩, head_right c.si _ siteB hc.si (by decide)⟩, h0, by omega, h1⟩
theorem holds_sample {c : CondV} (hc : CondOk c) (hlt : c.fr < c.till) : holdsC c (sampleC c) = true := by
  rw [holds_iff hc]
  exact ⟨valid_sample hc, ⟨by show c.fr ≤ c.fr; omega, hlt⟩, (addr_of hc.pat).2, head_allows _ _, head_allows _ _, head_allows _ _⟩
def outL {α : Type} [DecidableEq α] (a b all : List α) : Option α := (if a.isEmpty then all else a).find? fun x => !allowsL b x
def allClients : List ByteArray := (List.range 33).map fun i => ⟨#[99, UInt8.ofNat (48 + i / 10), UInt8.ofNat (48 + i % 10)]⟩
def allCountries : List ByteArray := (List.range 676).map fun i => ⟨#[UInt8.ofNat (97 + i / 26), UInt8.ofNat (97 + i % 26)]⟩
def allSites : List Int := (List.range 64).map Int.ofNat
def impR (a b : CondV) : Bool × AskV :=
  if a.till ≤ a.fr then (true, noAsk)
  else if a.fr < b.fr then (false, sampleC a)
  else if b.till < a.till then (false, { sampleC a with lo := a.till - 1, hi := a.till - 1 })
  else match compileB (patT b.pat), compileB (patT a.pat) with
    | some x, some y => if coverB x y then (match outL a.cl b.cl allClients, outL a.co b.co allCountries, outL a.si b.si allSites with
        | some s, _, _ => (false, { sampleC a with client := s })
        | none, some s, _ => (false, { sampleC a with country := s })
        | none, none, some n => (false, { sampleC a with site := n })
        | none, none, none => (true, noAsk))
      else (false, { sampleC a with addr := coverW x y })
    | _, _ => (true, noAsk)
end Go.Proofs.YtmlhecjhjjlhfaaGreatDoor
