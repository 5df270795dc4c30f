/- The reference's names, and Right. -/
import Derived.Test.YtdlbfjoemabfpaaGreatDoorEZ24
import Derived.Test.YtdlbfjoemabfpaaGreatDoorEZ15
import Derived.Test.YtdlbfjoemabfpaaGreatDoorEZ21
import Derived.Test.YtdlbfjoemabfpaaGreatDoorProg
import Derived.WalkKit
import Derived.WalkSpells
import Derived.WalkLawsBesides
import Derived.Below
import Derived.Deep.QuietTactic
import Derived.BigQuiet
import Derived.Lib.QuietBelow
import Derived.Lib.Strings
import Derived.Lib.Hide
import Derived.Deep.RegionWith
import Derived.Deep.RegionHeld3
import Derived.Lib.IndexBytes
import Derived.Test.YtdlbfjoemabfpaaGreatDoorEZ22
import Derived.Test.YtdlbfjoemabfpaaGreatDoorEZ12
import Derived.Test.YtdlbfjoemabfpaaGreatDoorEZ20
import Derived.Test.YtdlbfjoemabfpaaGreatDoorEZ23
import Derived.Test.YtdlbfjoemabfpaaGreatDoorEZ14
import Derived.Deep.DeepCutAuto
namespace Go.Proofs.YtdlbfjoemabfpaaGreatDoor
open Go.RowKit Go.Sort
set_option linter.unusedVariables false
set_option linter.unusedSimpArgs false
set_option maxRecDepth 100000
set_option maxHeartbeats 4000000 in
theorem rNames22_any (A : Option Addr) (n c : Nat) (xs : List ByteArray) (w : World) (hA : Reads w 1 A n (xs.map .string)) (hn : n ≤ 1000000) (hsz : ∀ s ∈ xs, s.size ≤ 100000) : Calls Tryz.prog 52 #[.slice A n c] w (Ret w (.bool (namesA xs))) := by
  have hl : xs.length = n := by have := hA.1; simp at this; omega
  obtain ⟨V, hV⟩ : ∃ V, V = namesA xs := ⟨_, rfl⟩
  rw [← hV]
  have cN := fun (s : ByteArray) (hs : s.size ≤ 100000) (W : World) => rName_any s W (by omega)
  have HN := Lib.hid cN
  have HA := Lib.hid hA; have HL := Lib.hid hl; have HV := Lib.hid hV; have HS := Lib.hid hsz
  clear hA hl hV hsz cN
  go_enter Tryz.func52, Tryz.ntmps52
  go_wp2
  go_loopw [3] (fun i wr => ∃ k : Nat, k ≤ n ∧ i = .int .i64 k ∧ Hid ((List.range k).all (okK ltB isNameB xs) = true) ∧ Below w.heap.size w wr) (fun i _ => n - (intOf i).toNat)
  case atStart => exact ⟨0, by omega, rfl, Lib.hid rfl, Below.refl _ _⟩
  case round =>
    obtain ⟨k, hk, rfl, HK, hb⟩ := hrel
    by_cases hlt : k < n
    · obtain ⟨u, hu⟩ : ∃ u, xs[k]? = some u := ⟨_, List.getElem?_eq_getElem (by have := HL.out; omega)⟩
      obtain ⟨pb, po, rfl, hcell⟩ := (HA.out.keep hb).2 (by omega)
      have hc1 : wr.cell? ⟨pb, po + k, none⟩ = some (.string u) := hcell k _ (by simp [hu])
      have hNu := HN.out u (by have := HS.out u (List.mem_of_getElem? hu); omega)
      have hk0 : (0 : Int) ≤ (k : Int) := by omega
      have hk1 : (k : Int) < (n : Int) := by omega
      cases hnu : isNameB u
      · obtain rfl : V = false := by
          rw [HV.out, namesA_fail (k := k) (by have := HL.out; omega) (by simp [okK, hu, hnu])]
        rw [hnu] at hNu
        have HNU := Lib.hid hNu
        clear HK hcell hu hNu hnu
        go_wp2_with (go_at_call 50; refine (HNU.out _).mono ?_; rintro e w2 ⟨rfl, hb2⟩)
        go_quiet (fail)
        go_wp2
        go_ret
        exact ⟨rfl, belB⟩
      · rw [hnu] at hNu
        have HNU := Lib.hid hNu
        rcases Nat.eq_zero_or_pos k with h0 | hpos
        · subst h0
          have HK2 : Hid ((List.range (0 + 1)).all (okK ltB isNameB xs) = true) := Lib.hid (okK_upto HK.out (by rw [okN_zero hu, hnu]))
          simp only [Nat.add_zero] at hc1
          clear HK hcell hu hNu hnu
          go_wp2_with (go_at_call 50; refine (HNU.out _).mono ?_; rintro e w2 ⟨rfl, hb2⟩)
          go_quiet (fail)
          go_wp2
          exact ⟨⟨1, by omega, rfl, HK2, belB⟩, by simp [intOf]; omega⟩
        · obtain ⟨j, rfl⟩ : ∃ j, k = j + 1 := ⟨k - 1, by omega⟩
          obtain ⟨y, hy⟩ : ∃ y, xs[j]? = some y := ⟨_, List.getElem?_eq_getElem (by have := HL.out; omega)⟩
          have hc2 : wr.cell? ⟨pb, po + j, none⟩ = some (.string y) := hcell j _ (by simp [hy])
          have hk2 : (0 : Int) ≤ (j : Int) := by omega
          have hk3 : (j : Int) < (n : Int) := by omega
          have hk4 : ((j : Int) + 1 - 1) = j := by omega
          have hle := le_prev2 u y
          have hat := okN_at hu hy
          rw [hnu, Bool.true_and] at hat
          cases ht : ltB y u
          · obtain rfl : V = false := by
              rw [HV.out, namesA_fail (k := j + 1) (by have := HL.out; omega) (by rw [hat, ht])]
            rw [ht] at hle
            clear HK hcell hu hy hat ht hNu hnu
            go_wp2_with (go_at_call 50; refine (HNU.out _).mono ?_; rintro e w2 ⟨rfl, hb2⟩; have hc2' := cell_keep hb2 hc2; have hc1' := cell_keep hb2 hc1)
            go_quiet (fail)
            go_wp2
            go_ret
            exact ⟨rfl, belB⟩
          · have HK2 : Hid ((List.range (j + 1 + 1)).all (okK ltB isNameB xs) = true) := Lib.hid (okK_upto HK.out (by rw [hat, ht]))
            rw [ht] at hle
            clear HK hcell hu hy hat ht hNu hnu
            go_wp2_with (go_at_call 50; refine (HNU.out _).mono ?_; rintro e w2 ⟨rfl, hb2⟩; have hc2' := cell_keep hb2 hc2; have hc1' := cell_keep hb2 hc1)
            go_quiet (fail)
            go_wp2
            exact ⟨⟨j + 1 + 1, by omega, by go_num, HK2, belB⟩, by simp [intOf]; omega⟩
    · obtain rfl : V = true := by
        rw [HV.out]
        unfold namesA
        have := HK.out
        rw [show k = xs.length by have := HL.out; omega] at this
        exact this
      go_wp2
      go_ret
      exact ⟨rfl, hb⟩
end Go.Proofs.YtdlbfjoemabfpaaGreatDoor
namespace Go.Proofs.YtdlbfjoemabfpaaGreatDoor
open Go.RowKit Go.Sort
set_option linter.unusedVariables false
set_option linter.unusedSimpArgs false
set_option maxRecDepth 100000
set_option maxHeartbeats 8000000 in
theorem rValidAsk_any (a : AskV) (w : World) (h1 : a.addr.size ≤ 100000) (h2 : a.client.size ≤ 100000) (h3 : a.country.size ≤ 100000) : Calls Tryz.prog 131 #[AskV.val a] w (Ret w (.bool (validAsk a))) := by
  obtain ⟨ad, cl, co, si, lo, hi⟩ := a
  dsimp only at h1 h2 h3
  unfold AskV.val
  dsimp only
  obtain ⟨V, hV⟩ : ∃ V, V = validAsk ⟨ad, cl, co, si, lo, hi⟩ := ⟨_, rfl⟩
  rw [← hV]
  unfold validAsk siteB at hV
  dsimp only at hV
  have c1 := fun W => rCanon_any ad W (by omega)
  have c2 := fun W => rName_any cl W (by omega)
  have c3 := fun W => rCountry_any co W (by omega)
  generalize readB ad = b1 at *
  generalize isNameB cl = b2 at *
  generalize countryB co = b3 at *
  have C1 := Lib.hid c1
  have C2 := Lib.hid c2
  have C3 := Lib.hid c3
  clear c1 c2 c3 h1 h2 h3
  cases b1
  · obtain rfl : V = false := by rw [hV]; rfl
    clear hV
    (go_enter Tryz.func131, Tryz.ntmps131; go_wp2_with (first | (go_at_call 117; refine (C1.out _).mono ?_; rintro e w2 ⟨rfl, hb2⟩; (have hX2 : Blk w2 w.heap.size 66 #[.string ad, .string cl, .string co, .int .i64 si, .int .i64 lo, .int .i64 hi] (0, 0) := (by first | exact Blk.keep hX2 hb2 | exact Blk.keep (World.alloc_heap_new _ _) hb2); have x0 := hX2.cell 0; have x1 := hX2.cell 1; have x2 := hX2.cell 2; have x3 := hX2.cell 3; have x4 := hX2.cell 4; have x5 := hX2.cell 5)) | (go_at_call 50; refine (C2.out _).mono ?_; rintro e w2 ⟨rfl, hb2⟩; (have hX2 : Blk w2 w.heap.size 66 #[.string ad, .string cl, .string co, .int .i64 si, .int .i64 lo, .int .i64 hi] (0, 0) := (by first | exact Blk.keep hX2 hb2 | exact Blk.keep (World.alloc_heap_new _ _) hb2); have x0 := hX2.cell 0; have x1 := hX2.cell 1; have x2 := hX2.cell 2; have x3 := hX2.cell 3; have x4 := hX2.cell 4; have x5 := hX2.cell 5)) | (go_at_call 93; refine (C3.out _).mono ?_; rintro e w2 ⟨rfl, hb2⟩; (have hX2 : Blk w2 w.heap.size 66 #[.string ad, .string cl, .string co, .int .i64 si, .int .i64 lo, .int .i64 hi] (0, 0) := (by first | exact Blk.keep hX2 hb2 | exact Blk.keep (World.alloc_heap_new _ _) hb2); have x0 := hX2.cell 0; have x1 := hX2.cell 1; have x2 := hX2.cell 2; have x3 := hX2.cell 3; have x4 := hX2.cell 4; have x5 := hX2.cell 5))); go_ret; exact ⟨rfl, belB⟩)
  cases b2
  · obtain rfl : V = false := by rw [hV]; rfl
    clear hV
    (go_enter Tryz.func131, Tryz.ntmps131; go_wp2_with (first | (go_at_call 117; refine (C1.out _).mono ?_; rintro e w2 ⟨rfl, hb2⟩; (have hX2 : Blk w2 w.heap.size 66 #[.string ad, .string cl, .string co, .int .i64 si, .int .i64 lo, .int .i64 hi] (0, 0) := (by first | exact Blk.keep hX2 hb2 | exact Blk.keep (World.alloc_heap_new _ _) hb2); have x0 := hX2.cell 0; have x1 := hX2.cell 1; have x2 := hX2.cell 2; have x3 := hX2.cell 3; have x4 := hX2.cell 4; have x5 := hX2.cell 5)) | (go_at_call 50; refine (C2.out _).mono ?_; rintro e w2 ⟨rfl, hb2⟩; (have hX2 : Blk w2 w.heap.size 66 #[.string ad, .string cl, .string co, .int .i64 si, .int .i64 lo, .int .i64 hi] (0, 0) := (by first | exact Blk.keep hX2 hb2 | exact Blk.keep (World.alloc_heap_new _ _) hb2); have x0 := hX2.cell 0; have x1 := hX2.cell 1; have x2 := hX2.cell 2; have x3 := hX2.cell 3; have x4 := hX2.cell 4; have x5 := hX2.cell 5)) | (go_at_call 93; refine (C3.out _).mono ?_; rintro e w2 ⟨rfl, hb2⟩; (have hX2 : Blk w2 w.heap.size 66 #[.string ad, .string cl, .string co, .int .i64 si, .int .i64 lo, .int .i64 hi] (0, 0) := (by first | exact Blk.keep hX2 hb2 | exact Blk.keep (World.alloc_heap_new _ _) hb2); have x0 := hX2.cell 0; have x1 := hX2.cell 1; have x2 := hX2.cell 2; have x3 := hX2.cell 3; have x4 := hX2.cell 4; have x5 := hX2.cell 5))); go_ret; exact ⟨rfl, belB⟩)
  cases b3
  · obtain rfl : V = false := by rw [hV]; rfl
    clear hV
    (go_enter Tryz.func131, Tryz.ntmps131; go_wp2_with (first | (go_at_call 117; refine (C1.out _).mono ?_; rintro e w2 ⟨rfl, hb2⟩; (have hX2 : Blk w2 w.heap.size 66 #[.string ad, .string cl, .string co, .int .i64 si, .int .i64 lo, .int .i64 hi] (0, 0) := (by first | exact Blk.keep hX2 hb2 | exact Blk.keep (World.alloc_heap_new _ _) hb2); have x0 := hX2.cell 0; have x1 := hX2.cell 1; have x2 := hX2.cell 2; have x3 := hX2.cell 3; have x4 := hX2.cell 4; have x5 := hX2.cell 5)) | (go_at_call 50; refine (C2.out _).mono ?_; rintro e w2 ⟨rfl, hb2⟩; (have hX2 : Blk w2 w.heap.size 66 #[.string ad, .string cl, .string co, .int .i64 si, .int .i64 lo, .int .i64 hi] (0, 0) := (by first | exact Blk.keep hX2 hb2 | exact Blk.keep (World.alloc_heap_new _ _) hb2); have x0 := hX2.cell 0; have x1 := hX2.cell 1; have x2 := hX2.cell 2; have x3 := hX2.cell 3; have x4 := hX2.cell 4; have x5 := hX2.cell 5)) | (go_at_call 93; refine (C3.out _).mono ?_; rintro e w2 ⟨rfl, hb2⟩; (have hX2 : Blk w2 w.heap.size 66 #[.string ad, .string cl, .string co, .int .i64 si, .int .i64 lo, .int .i64 hi] (0, 0) := (by first | exact Blk.keep hX2 hb2 | exact Blk.keep (World.alloc_heap_new _ _) hb2); have x0 := hX2.cell 0; have x1 := hX2.cell 1; have x2 := hX2.cell 2; have x3 := hX2.cell 3; have x4 := hX2.cell 4; have x5 := hX2.cell 5))); go_ret; exact ⟨rfl, belB⟩)
  by_cases t1 : 0 ≤ si
  rotate_left
  · obtain rfl : V = false := by rw [hV]; simp [t1]
    have d1 : decide (0 ≤ si) = false := decide_eq_false t1
    clear hV
    (go_enter Tryz.func131, Tryz.ntmps131; go_wp2_with (first | (go_at_call 117; refine (C1.out _).mono ?_; rintro e w2 ⟨rfl, hb2⟩; (have hX2 : Blk w2 w.heap.size 66 #[.string ad, .string cl, .string co, .int .i64 si, .int .i64 lo, .int .i64 hi] (0, 0) := (by first | exact Blk.keep hX2 hb2 | exact Blk.keep (World.alloc_heap_new _ _) hb2); have x0 := hX2.cell 0; have x1 := hX2.cell 1; have x2 := hX2.cell 2; have x3 := hX2.cell 3; have x4 := hX2.cell 4; have x5 := hX2.cell 5)) | (go_at_call 50; refine (C2.out _).mono ?_; rintro e w2 ⟨rfl, hb2⟩; (have hX2 : Blk w2 w.heap.size 66 #[.string ad, .string cl, .string co, .int .i64 si, .int .i64 lo, .int .i64 hi] (0, 0) := (by first | exact Blk.keep hX2 hb2 | exact Blk.keep (World.alloc_heap_new _ _) hb2); have x0 := hX2.cell 0; have x1 := hX2.cell 1; have x2 := hX2.cell 2; have x3 := hX2.cell 3; have x4 := hX2.cell 4; have x5 := hX2.cell 5)) | (go_at_call 93; refine (C3.out _).mono ?_; rintro e w2 ⟨rfl, hb2⟩; (have hX2 : Blk w2 w.heap.size 66 #[.string ad, .string cl, .string co, .int .i64 si, .int .i64 lo, .int .i64 hi] (0, 0) := (by first | exact Blk.keep hX2 hb2 | exact Blk.keep (World.alloc_heap_new _ _) hb2); have x0 := hX2.cell 0; have x1 := hX2.cell 1; have x2 := hX2.cell 2; have x3 := hX2.cell 3; have x4 := hX2.cell 4; have x5 := hX2.cell 5))); go_ret; exact ⟨rfl, belB⟩)
  have d1 : decide (0 ≤ si) = true := decide_eq_true t1
  by_cases t2 : si < 64
  rotate_left
  · obtain rfl : V = false := by rw [hV]; simp [t2]
    have d2 : decide (si < 64) = false := decide_eq_false t2
    clear hV
    (go_enter Tryz.func131, Tryz.ntmps131; go_wp2_with (first | (go_at_call 117; refine (C1.out _).mono ?_; rintro e w2 ⟨rfl, hb2⟩; (have hX2 : Blk w2 w.heap.size 66 #[.string ad, .string cl, .string co, .int .i64 si, .int .i64 lo, .int .i64 hi] (0, 0) := (by first | exact Blk.keep hX2 hb2 | exact Blk.keep (World.alloc_heap_new _ _) hb2); have x0 := hX2.cell 0; have x1 := hX2.cell 1; have x2 := hX2.cell 2; have x3 := hX2.cell 3; have x4 := hX2.cell 4; have x5 := hX2.cell 5)) | (go_at_call 50; refine (C2.out _).mono ?_; rintro e w2 ⟨rfl, hb2⟩; (have hX2 : Blk w2 w.heap.size 66 #[.string ad, .string cl, .string co, .int .i64 si, .int .i64 lo, .int .i64 hi] (0, 0) := (by first | exact Blk.keep hX2 hb2 | exact Blk.keep (World.alloc_heap_new _ _) hb2); have x0 := hX2.cell 0; have x1 := hX2.cell 1; have x2 := hX2.cell 2; have x3 := hX2.cell 3; have x4 := hX2.cell 4; have x5 := hX2.cell 5)) | (go_at_call 93; refine (C3.out _).mono ?_; rintro e w2 ⟨rfl, hb2⟩; (have hX2 : Blk w2 w.heap.size 66 #[.string ad, .string cl, .string co, .int .i64 si, .int .i64 lo, .int .i64 hi] (0, 0) := (by first | exact Blk.keep hX2 hb2 | exact Blk.keep (World.alloc_heap_new _ _) hb2); have x0 := hX2.cell 0; have x1 := hX2.cell 1; have x2 := hX2.cell 2; have x3 := hX2.cell 3; have x4 := hX2.cell 4; have x5 := hX2.cell 5))); go_ret; exact ⟨rfl, belB⟩)
  have d2 : decide (si < 64) = true := decide_eq_true t2
  by_cases t3 : 0 ≤ lo
  rotate_left
  · obtain rfl : V = false := by rw [hV]; simp [t3]
    have d3 : decide (0 ≤ lo) = false := decide_eq_false t3
    clear hV
    (go_enter Tryz.func131, Tryz.ntmps131; go_wp2_with (first | (go_at_call 117; refine (C1.out _).mono ?_; rintro e w2 ⟨rfl, hb2⟩; (have hX2 : Blk w2 w.heap.size 66 #[.string ad, .string cl, .string co, .int .i64 si, .int .i64 lo, .int .i64 hi] (0, 0) := (by first | exact Blk.keep hX2 hb2 | exact Blk.keep (World.alloc_heap_new _ _) hb2); have x0 := hX2.cell 0; have x1 := hX2.cell 1; have x2 := hX2.cell 2; have x3 := hX2.cell 3; have x4 := hX2.cell 4; have x5 := hX2.cell 5)) | (go_at_call 50; refine (C2.out _).mono ?_; rintro e w2 ⟨rfl, hb2⟩; (have hX2 : Blk w2 w.heap.size 66 #[.string ad, .string cl, .string co, .int .i64 si, .int .i64 lo, .int .i64 hi] (0, 0) := (by first | exact Blk.keep hX2 hb2 | exact Blk.keep (World.alloc_heap_new _ _) hb2); have x0 := hX2.cell 0; have x1 := hX2.cell 1; have x2 := hX2.cell 2; have x3 := hX2.cell 3; have x4 := hX2.cell 4; have x5 := hX2.cell 5)) | (go_at_call 93; refine (C3.out _).mono ?_; rintro e w2 ⟨rfl, hb2⟩; (have hX2 : Blk w2 w.heap.size 66 #[.string ad, .string cl, .string co, .int .i64 si, .int .i64 lo, .int .i64 hi] (0, 0) := (by first | exact Blk.keep hX2 hb2 | exact Blk.keep (World.alloc_heap_new _ _) hb2); have x0 := hX2.cell 0; have x1 := hX2.cell 1; have x2 := hX2.cell 2; have x3 := hX2.cell 3; have x4 := hX2.cell 4; have x5 := hX2.cell 5))); go_ret; exact ⟨rfl, belB⟩)
  have d3 : decide (0 ≤ lo) = true := decide_eq_true t3
  by_cases t4 : lo ≤ hi
  rotate_left
  · obtain rfl : V = false := by rw [hV]; simp [t4]
    have d4 : decide (lo ≤ hi) = false := decide_eq_false t4
    clear hV
    (go_enter Tryz.func131, Tryz.ntmps131; go_wp2_with (first | (go_at_call 117; refine (C1.out _).mono ?_; rintro e w2 ⟨rfl, hb2⟩; (have hX2 : Blk w2 w.heap.size 66 #[.string ad, .string cl, .string co, .int .i64 si, .int .i64 lo, .int .i64 hi] (0, 0) := (by first | exact Blk.keep hX2 hb2 | exact Blk.keep (World.alloc_heap_new _ _) hb2); have x0 := hX2.cell 0; have x1 := hX2.cell 1; have x2 := hX2.cell 2; have x3 := hX2.cell 3; have x4 := hX2.cell 4; have x5 := hX2.cell 5)) | (go_at_call 50; refine (C2.out _).mono ?_; rintro e w2 ⟨rfl, hb2⟩; (have hX2 : Blk w2 w.heap.size 66 #[.string ad, .string cl, .string co, .int .i64 si, .int .i64 lo, .int .i64 hi] (0, 0) := (by first | exact Blk.keep hX2 hb2 | exact Blk.keep (World.alloc_heap_new _ _) hb2); have x0 := hX2.cell 0; have x1 := hX2.cell 1; have x2 := hX2.cell 2; have x3 := hX2.cell 3; have x4 := hX2.cell 4; have x5 := hX2.cell 5)) | (go_at_call 93; refine (C3.out _).mono ?_; rintro e w2 ⟨rfl, hb2⟩; (have hX2 : Blk w2 w.heap.size 66 #[.string ad, .string cl, .string co, .int .i64 si, .int .i64 lo, .int .i64 hi] (0, 0) := (by first | exact Blk.keep hX2 hb2 | exact Blk.keep (World.alloc_heap_new _ _) hb2); have x0 := hX2.cell 0; have x1 := hX2.cell 1; have x2 := hX2.cell 2; have x3 := hX2.cell 3; have x4 := hX2.cell 4; have x5 := hX2.cell 5))); go_ret; exact ⟨rfl, belB⟩)
  have d4 : decide (lo ≤ hi) = true := decide_eq_true t4
  obtain rfl : V = decide (hi ≤ 1099511627776) := by rw [hV]; simp [t1, t2, t3, t4]
  clear hV
  (go_enter Tryz.func131, Tryz.ntmps131; go_wp2_with (first | (go_at_call 117; refine (C1.out _).mono ?_; rintro e w2 ⟨rfl, hb2⟩; (have hX2 : Blk w2 w.heap.size 66 #[.string ad, .string cl, .string co, .int .i64 si, .int .i64 lo, .int .i64 hi] (0, 0) := (by first | exact Blk.keep hX2 hb2 | exact Blk.keep (World.alloc_heap_new _ _) hb2); have x0 := hX2.cell 0; have x1 := hX2.cell 1; have x2 := hX2.cell 2; have x3 := hX2.cell 3; have x4 := hX2.cell 4; have x5 := hX2.cell 5)) | (go_at_call 50; refine (C2.out _).mono ?_; rintro e w2 ⟨rfl, hb2⟩; (have hX2 : Blk w2 w.heap.size 66 #[.string ad, .string cl, .string co, .int .i64 si, .int .i64 lo, .int .i64 hi] (0, 0) := (by first | exact Blk.keep hX2 hb2 | exact Blk.keep (World.alloc_heap_new _ _) hb2); have x0 := hX2.cell 0; have x1 := hX2.cell 1; have x2 := hX2.cell 2; have x3 := hX2.cell 3; have x4 := hX2.cell 4; have x5 := hX2.cell 5)) | (go_at_call 93; refine (C3.out _).mono ?_; rintro e w2 ⟨rfl, hb2⟩; (have hX2 : Blk w2 w.heap.size 66 #[.string ad, .string cl, .string co, .int .i64 si, .int .i64 lo, .int .i64 hi] (0, 0) := (by first | exact Blk.keep hX2 hb2 | exact Blk.keep (World.alloc_heap_new _ _) hb2); have x0 := hX2.cell 0; have x1 := hX2.cell 1; have x2 := hX2.cell 2; have x3 := hX2.cell 3; have x4 := hX2.cell 4; have x5 := hX2.cell 5))); go_ret; exact ⟨rfl, belB⟩)
end Go.Proofs.YtdlbfjoemabfpaaGreatDoor
namespace Go.Proofs.YtdlbfjoemabfpaaGreatDoor
open Go.RowKit Go.Sort
set_option linter.unusedVariables false
set_option linter.unusedSimpArgs false
set_option maxRecDepth 100000
def noAsk : AskV := ⟨⟨#[]⟩, ⟨#[]⟩, ⟨#[]⟩, 0, 0, 0⟩
def addrOf (p : ByteArray) : ByteArray := match bothP (patT p) ⟨#[42, 47, 42, 42]⟩ with
  | some (some z) => exText z
  | _ => ⟨#[]⟩
def sampleC (c : CondV) : AskV := ⟨addrOf c.pat, c.cl.headD ⟨#[97]⟩, c.co.headD ⟨#[97, 97]⟩, c.si.headD 0, c.fr, c.fr⟩
def outL {α : Type} [DecidableEq α] (a b all : List α) : Option α := (if a.isEmpty then all else a).find? fun x => !allowsL b x
def allClients : List ByteArray := (List.range 33).map fun i => ⟨#[99, UInt8.ofNat (48 + i / 10), UInt8.ofNat (48 + i % 10)]⟩
def allCountries : List ByteArray := (List.range 676).map fun i => ⟨#[UInt8.ofNat (97 + i / 26), UInt8.ofNat (97 + i % 26)]⟩
def allSites : List Int := (List.range 64).map Int.ofNat
def impR (a b : CondV) : Bool × AskV :=
  if a.till ≤ a.fr then (true, noAsk)
  else if a.fr < b.fr then (false, sampleC a)
  else if b.till < a.till then (false, { sampleC a with lo := a.till - 1, hi := a.till - 1 })
  else match compileB (patT b.pat), compileB (patT a.pat) with
    | some x, some y => if coverB x y then (match outL a.cl b.cl allClients, outL a.co b.co allCountries, outL a.si b.si allSites with
        | some s, _, _ => (false, { sampleC a with client := s })
        | none, some s, _ => (false, { sampleC a with country := s })
        | none, none, some n => (false, { sampleC a with site := n })
        | none, none, none => (true, noAsk))
      else (false, { sampleC a with addr := coverW x y })
    | _, _ => (true, noAsk)
end Go.Proofs.YtdlbfjoemabfpaaGreatDoor
namespace Go.Proofs.YtdlbfjoemabfpaaGreatDoor
open Go.RowKit Go.Sort
set_option linter.unusedVariables false
set_option linter.unusedSimpArgs false
set_option maxRecDepth 100000
theorem ABox.put {w : World} {g : Nat} {ad cl co : ByteArray} {si lo hi : Int} (h : ABox w g ad cl co si lo hi) (ad' cl' co' : ByteArray) (si' lo' hi' : Int) : ABox ((((((w.setCell ⟨g, 0, none⟩ (.string ad')).setCell ⟨g, 1, none⟩ (.string cl')).setCell ⟨g, 2, none⟩ (.string co')).setCell ⟨g, 3, none⟩ (.int .i64 si')).setCell ⟨g, 4, none⟩ (.int .i64 lo')).setCell ⟨g, 5, none⟩ (.int .i64 hi')) g ad' cl' co' si' lo' hi' :=
  Blk.set_ (Blk.set_ (Blk.set_ (Blk.set_ (Blk.set_ (Blk.set_ h 0 (.string ad')) 1 (.string cl')) 2 (.string co')) 3 (.int .i64 si')) 4 (.int .i64 lo')) 5 (.int .i64 hi')
end Go.Proofs.YtdlbfjoemabfpaaGreatDoor
namespace Go.Proofs.YtdlbfjoemabfpaaGreatDoor
open Go.RowKit Go.Sort
set_option linter.unusedVariables false
set_option linter.unusedSimpArgs false
set_option maxRecDepth 100000
def emptyR (c : CondV) : Bool × AskV × Int := if validC c then (if c.till ≤ c.fr then (true, noAsk, 0) else (false, sampleC c, 0)) else (false, noAsk, 1)
theorem CondReads.own {w : World} {fr till us : Int} {pat : ByteArray} {cl co : List ByteArray} {si : List Int} {m : CondMem} (h : CondReads w ⟨fr, till, pat, cl, co, si, us⟩ m) : CondReads w ⟨fr, till, pat, cl, co, si, us⟩ m := h
end Go.Proofs.YtdlbfjoemabfpaaGreatDoor
namespace Go.Proofs.YtdlbfjoemabfpaaGreatDoor
open Go.RowKit Go.Sort
set_option linter.unusedVariables false
set_option linter.unusedSimpArgs false
set_option maxRecDepth 100000
theorem match_all {s : ByteArray} (h : readB s = true) : matchB ⟨#[42, 47, 42, 42]⟩ s = true := by
  unfold matchB
  rw [any_comp]
  show (readB s && matchP anyP (parseB s).1) = true
  rw [h, any_match]; rfl
theorem allowsL_cases {α : Type} [DecidableEq α] (l : List α) (x : α) : (l.length = 0 ∧ allowsL l x = true) ∨ (0 < l.length ∧ hasL l x = true ∧ allowsL l x = true) ∨ (0 < l.length ∧ hasL l x = false ∧ allowsL l x = false) := by
  unfold allowsL
  cases l with
  | nil => exact .inl ⟨rfl, rfl⟩
  | cons a l =>
    have e : (a :: l).contains x = hasL (a :: l) x := rfl
    rw [e]
    cases hasL (a :: l) x
    · exact .inr (.inr ⟨by simp, rfl, rfl⟩)
    · exact .inr (.inl ⟨by simp, rfl, rfl⟩)
set_option maxHeartbeats 16000000 in
theorem rHolds21_any (c : CondV) (m : CondMem) (a : AskV) (w : World) (hR : CondReads w c m) (hc : CondFits c) (ha : AskFits a) :
    Calls Tryz.prog 83 #[CondMem.val c m, AskV.val a] w (Ret w (.bool (holdsC c a))) := by
  have c1 := fun W (hb : Below w.heap.size w W) => rValid21_any c m W (hR.keep hb) hc.p hc.cl hc.co hc.n1 hc.n2 hc.n3
  have c2 := fun W => rValidAsk_any a W ha.p ha.cl ha.co
  obtain ⟨V, hV⟩ : ∃ V, V = holdsC c a := ⟨_, rfl⟩
  rw [← hV]
  unfold holdsC at hV
  have hrd : validAsk a = true → readB a.addr = true := fun h => (ask_times h).2.2.2.2.2.2
  generalize validC c = v1 at *
  generalize validAsk a = v2 at *
  obtain ⟨fr, till, pat, cl, co, si, us⟩ := c
  obtain ⟨A, ca, B, cb, S, cs⟩ := m
  obtain ⟨ad, kl, ko, st, lo, hi⟩ := a
  obtain ⟨hA, hB, hS⟩ := hR
  obtain ⟨h1, h2, h3, n1, n2, n3⟩ := hc
  obtain ⟨g1, g2, g3⟩ := ha
  unfold CondMem.val at c1
  unfold AskV.val at c2
  unfold CondMem.val AskV.val
  dsimp only at hA hB hS h1 h2 h3 n1 n2 n3 g1 g2 g3 hV c1 c2 hrd
  dsimp only
  have c4 := fun W => rMatch_any pat ad W h1 g1
  have c5 := fun W (hb : Below w.heap.size w W) => rHas21_any A cl.length ca cl kl W (hA.keep hb) (by omega)
  have c6 := fun W (hb : Below w.heap.size w W) => rHas21_any B co.length cb co ko W (hB.keep hb) (by omega)
  have c7 := fun W (hb : Below w.heap.size w W) => rSite_any S si.length cs si st W (hS.keep hb) (by omega)
  have k5 := allowsL_cases cl kl
  have k6 := allowsL_cases co ko
  have k7 := allowsL_cases si st
  have kp : (pat.toList = [] ∧ (pat.toList != []) = false ∧ patT pat = ⟨#[42, 47, 42, 42]⟩) ∨ (¬ pat.toList = [] ∧ (pat.toList != []) = true ∧ patT pat = pat) := by
    unfold patT
    by_cases h : pat.size = 0
    · have e : pat.toList = [] := by rw [Lib.toList_data]; exact List.eq_nil_of_length_eq_zero (by rw [← Lib.size_eq]; exact h)
      exact .inl ⟨e, by rw [e]; rfl, by rw [if_pos h]⟩
    · have e : ¬ pat.toList = [] := fun e => h (by rw [Lib.toList_data] at e; rw [Lib.size_eq, e]; rfl)
      exact .inr ⟨e, by simpa using e, by rw [if_neg h]⟩
  generalize hasL cl kl = u5 at *
  generalize hasL co ko = u6 at *
  generalize hasL si st = u7 at *
  generalize allowsL cl kl = v5 at *
  generalize allowsL co ko = v6 at *
  generalize allowsL si st = v7 at *
  obtain ⟨na, hna⟩ : ∃ na, na = cl.length := ⟨_, rfl⟩
  obtain ⟨nb, hnb⟩ : ∃ nb, nb = co.length := ⟨_, rfl⟩
  obtain ⟨ns, hns⟩ : ∃ ns, ns = si.length := ⟨_, rfl⟩
  rw [← hna] at c1 c5 k5 ⊢
  rw [← hnb] at c1 c6 k6 ⊢
  rw [← hns] at c1 c7 k7 ⊢
  have C1 := Lib.hid c1; have C2 := Lib.hid c2; have C4 := Lib.hid c4; have C5 := Lib.hid c5; have C6 := Lib.hid c6; have C7 := Lib.hid c7
  have HV := Lib.hid hV; have HRD := Lib.hid hrd; have K5 := Lib.hid k5; have K6 := Lib.hid k6; have K7 := Lib.hid k7; have KP := Lib.hid kp
  have HMA : Hid (readB ad = true → matchB ⟨#[42, 47, 42, 42]⟩ ad = true) := Lib.hid match_all
  clear c1 c2 c4 c5 c6 c7 hA hB hS h1 h2 h3 n1 n2 n3 g1 g2 g3 hna hnb hns hV hrd k5 k6 k7 kp
  obtain ⟨tt, htt⟩ : ∃ tt, tt = decide (fr ≤ lo ∧ hi < till) := ⟨_, rfl⟩
  have HTT := Lib.hid htt
  clear htt
  go_enter Tryz.func83, Tryz.ntmps83
  go_upto_region 1 with fail
  obtain ⟨W0, hW0⟩ : ∃ W0, W0 = (w.alloc (.cells #[.int .i64 fr, .int .i64 till, .string pat, .slice A na ca, .slice B nb cb, .slice S ns cs, .int .i64 us] 31)).alloc (.cells #[.string ad, .string kl, .string ko, .int .i64 st, .int .i64 lo, .int .i64 hi] 66) := ⟨_, rfl⟩
  have hbw : Below w.heap.size w W0 := by rw [hW0]; exact balloc (balloc (Below.refl _ _) _) _
  have hX : CBox W0 w.heap.size fr till pat A na ca B nb cb S ns cs us := by rw [hW0]; exact (two_box _ _ _).1
  have hY : ABox W0 (w.heap.size + 1) ad kl ko st lo hi := by rw [hW0]; exact (two_box _ _ _).2
  rw [← hW0]
  clear hW0
  (obtain ⟨x0, x1, x2, x3, x4, x5, x6⟩ := CBox.facts hX; obtain ⟨y0, y1, y2, y3, y4, y5⟩ := ABox.facts hY)
  go_cut [28] (fun v wx => v = .bool (!(v1 && v2 && tt)) ∧ CBox wx w.heap.size fr till pat A na ca B nb cb S ns cs us ∧ ABox wx (w.heap.size + 1) ad kl ko st lo hi ∧ Below w.heap.size w wx)
  case first =>
    cases v1
    · clear C2 HV HRD
      go_wp2_with (go_at_call 53; refine (C1.out _ belB).mono ?_; rintro e w2 ⟨rfl, hb2⟩; (replace hX := Blk.keep hX hb2; replace hY := Blk.keep hY hb2; replace hbw := bstep hbw hb2; clear x0 x1 x2 x3 x4 x5 x6 y0 y1 y2 y3 y4 y5; (obtain ⟨x0, x1, x2, x3, x4, x5, x6⟩ := CBox.facts hX; obtain ⟨y0, y1, y2, y3, y4, y5⟩ := ABox.facts hY)))
      all_goals (go_meet; exact ⟨rfl, hX, hY, hbw⟩)
    cases v2
    · clear HV HRD
      go_wp2_with (first | (go_at_call 53; refine (C1.out _ belB).mono ?_; rintro e w2 ⟨rfl, hb2⟩; (replace hX := Blk.keep hX hb2; replace hY := Blk.keep hY hb2; replace hbw := bstep hbw hb2; clear x0 x1 x2 x3 x4 x5 x6 y0 y1 y2 y3 y4 y5; (obtain ⟨x0, x1, x2, x3, x4, x5, x6⟩ := CBox.facts hX; obtain ⟨y0, y1, y2, y3, y4, y5⟩ := ABox.facts hY))) | (go_at_call 131; refine (C2.out _).mono ?_; rintro e w2 ⟨rfl, hb2⟩; (replace hX := Blk.keep hX hb2; replace hY := Blk.keep hY hb2; replace hbw := bstep hbw hb2; clear x0 x1 x2 x3 x4 x5 x6 y0 y1 y2 y3 y4 y5; (obtain ⟨x0, x1, x2, x3, x4, x5, x6⟩ := CBox.facts hX; obtain ⟨y0, y1, y2, y3, y4, y5⟩ := ABox.facts hY))))
      all_goals (go_meet; exact ⟨rfl, hX, hY, hbw⟩)
    by_cases t1 : fr ≤ lo
    rotate_left
    · have d1 : decide (lo < fr) = true := decide_eq_true (by omega)
      obtain rfl : tt = false := by rw [HTT.out]; exact decide_eq_false (fun h => t1 h.1)
      clear HV HRD HTT
      go_wp2_with (first | (go_at_call 53; refine (C1.out _ belB).mono ?_; rintro e w2 ⟨rfl, hb2⟩; (replace hX := Blk.keep hX hb2; replace hY := Blk.keep hY hb2; replace hbw := bstep hbw hb2; clear x0 x1 x2 x3 x4 x5 x6 y0 y1 y2 y3 y4 y5; (obtain ⟨x0, x1, x2, x3, x4, x5, x6⟩ := CBox.facts hX; obtain ⟨y0, y1, y2, y3, y4, y5⟩ := ABox.facts hY))) | (go_at_call 131; refine (C2.out _).mono ?_; rintro e w2 ⟨rfl, hb2⟩; (replace hX := Blk.keep hX hb2; replace hY := Blk.keep hY hb2; replace hbw := bstep hbw hb2; clear x0 x1 x2 x3 x4 x5 x6 y0 y1 y2 y3 y4 y5; (obtain ⟨x0, x1, x2, x3, x4, x5, x6⟩ := CBox.facts hX; obtain ⟨y0, y1, y2, y3, y4, y5⟩ := ABox.facts hY))))
      all_goals (go_meet; exact ⟨rfl, hX, hY, hbw⟩)
    have d1 : decide (lo < fr) = false := decide_eq_false (by omega)
    by_cases t2 : hi < till
    rotate_left
    · have d2 : decide (till ≤ hi) = true := decide_eq_true (by omega)
      obtain rfl : tt = false := by rw [HTT.out]; exact decide_eq_false (fun h => t2 h.2)
      clear HV HRD HTT
      go_wp2_with (first | (go_at_call 53; refine (C1.out _ belB).mono ?_; rintro e w2 ⟨rfl, hb2⟩; (replace hX := Blk.keep hX hb2; replace hY := Blk.keep hY hb2; replace hbw := bstep hbw hb2; clear x0 x1 x2 x3 x4 x5 x6 y0 y1 y2 y3 y4 y5; (obtain ⟨x0, x1, x2, x3, x4, x5, x6⟩ := CBox.facts hX; obtain ⟨y0, y1, y2, y3, y4, y5⟩ := ABox.facts hY))) | (go_at_call 131; refine (C2.out _).mono ?_; rintro e w2 ⟨rfl, hb2⟩; (replace hX := Blk.keep hX hb2; replace hY := Blk.keep hY hb2; replace hbw := bstep hbw hb2; clear x0 x1 x2 x3 x4 x5 x6 y0 y1 y2 y3 y4 y5; (obtain ⟨x0, x1, x2, x3, x4, x5, x6⟩ := CBox.facts hX; obtain ⟨y0, y1, y2, y3, y4, y5⟩ := ABox.facts hY))))
      all_goals (go_meet; exact ⟨rfl, hX, hY, hbw⟩)
    have d2 : decide (till ≤ hi) = false := decide_eq_false (by omega)
    obtain rfl : tt = true := by rw [HTT.out]; exact decide_eq_true ⟨t1, t2⟩
    clear HV HRD HTT
    go_wp2_with (first | (go_at_call 53; refine (C1.out _ belB).mono ?_; rintro e w2 ⟨rfl, hb2⟩; (replace hX := Blk.keep hX hb2; replace hY := Blk.keep hY hb2; replace hbw := bstep hbw hb2; clear x0 x1 x2 x3 x4 x5 x6 y0 y1 y2 y3 y4 y5; (obtain ⟨x0, x1, x2, x3, x4, x5, x6⟩ := CBox.facts hX; obtain ⟨y0, y1, y2, y3, y4, y5⟩ := ABox.facts hY))) | (go_at_call 131; refine (C2.out _).mono ?_; rintro e w2 ⟨rfl, hb2⟩; (replace hX := Blk.keep hX hb2; replace hY := Blk.keep hY hb2; replace hbw := bstep hbw hb2; clear x0 x1 x2 x3 x4 x5 x6 y0 y1 y2 y3 y4 y5; (obtain ⟨x0, x1, x2, x3, x4, x5, x6⟩ := CBox.facts hX; obtain ⟨y0, y1, y2, y3, y4, y5⟩ := ABox.facts hY))))
    all_goals (go_meet; exact ⟨rfl, hX, hY, hbw⟩)
  case rest =>
    clear x0 x1 x2 x3 x4 x5 x6 y0 y1 y2 y3 y4 y5
    clear hX hY hbw C1 C2
    obtain ⟨rfl, hX, hY, hbw⟩ := hcut
    (obtain ⟨x0, x1, x2, x3, x4, x5, x6⟩ := CBox.facts hX; obtain ⟨y0, y1, y2, y3, y4, y5⟩ := ABox.facts hY)
    have hv2 : V = (v1 && v2 && tt && matchB (patT pat) ad && v5 && v6 && v7) := by rw [HV.out, HTT.out]
    cases hvv : (v1 && v2 && tt)
    · obtain rfl : V = false := by rw [hv2, hvv]; rfl
      clear HV hv2
      go_wp2
      all_goals (go_ret; exact ⟨rfl, hbw⟩)
    rw [hvv, Bool.true_and] at hv2
    have hv22 : v2 = true := by revert hvv; cases v1 <;> cases v2 <;> simp
    have hrd := HRD.out hv22
    obtain ⟨pk, hpk⟩ : ∃ pk, pk = matchB (patT pat) ad := ⟨_, rfl⟩
    rw [← hpk] at hv2
    have hma := HMA.out hrd
    have HV2 := Lib.hid hv2; have HPK := Lib.hid hpk; have HM2 := Lib.hid hma
    clear HV hv2 hvv hv22 hrd HRD HMA hpk hma HTT
    go_upto_region 3 with fail
    go_cut [39] (fun v wx => v = .bool (!pk) ∧ CBox wx w.heap.size fr till pat A na ca B nb cb S ns cs us ∧ ABox wx (w.heap.size + 1) ad kl ko st lo hi ∧ Below w.heap.size w wx)
    case first =>
      rcases KP.out with ⟨e1, e2, e3⟩ | ⟨e1, e2, e3⟩
      · obtain rfl : pk = true := by rw [HPK.out, e3, HM2.out]
        clear HV2 HPK HM2 KP
        go_wp2
        all_goals (go_meet; exact ⟨rfl, hX, hY, hbw⟩)
      · have hp2 := HPK.out
        rw [e3] at hp2
        rw [← hp2] at C4
        clear HV2 HPK HM2 KP hp2
        go_wp2_with (go_at_call 69; refine (C4.out _).mono ?_; rintro e w2 ⟨rfl, hb2⟩; (replace hX := Blk.keep hX hb2; replace hY := Blk.keep hY hb2; replace hbw := bstep hbw hb2; clear x0 x1 x2 x3 x4 x5 x6 y0 y1 y2 y3 y4 y5; (obtain ⟨x0, x1, x2, x3, x4, x5, x6⟩ := CBox.facts hX; obtain ⟨y0, y1, y2, y3, y4, y5⟩ := ABox.facts hY)))
        all_goals (go_meet; exact ⟨by first | rfl | simp [e1], hX, hY, hbw⟩)
    case rest =>
      clear x0 x1 x2 x3 x4 x5 x6 y0 y1 y2 y3 y4 y5
      clear hX hY hbw C4 KP HPK HM2
      obtain ⟨rfl, hX, hY, hbw⟩ := hcut
      (obtain ⟨x0, x1, x2, x3, x4, x5, x6⟩ := CBox.facts hX; obtain ⟨y0, y1, y2, y3, y4, y5⟩ := ABox.facts hY)
      cases pk
      · obtain rfl : V = false := by rw [HV2.out]; rfl
        clear HV2
        go_wp2
        all_goals (go_ret; exact ⟨rfl, hbw⟩)
      go_upto_region 5 with fail
      go_cut [65] (fun v wx => v = .bool (!(v5 && v6)) ∧ CBox wx w.heap.size fr till pat A na ca B nb cb S ns cs us ∧ ABox wx (w.heap.size + 1) ad kl ko st lo hi ∧ Below w.heap.size w wx)
      case first =>
        clear HV2 C7 K7
        rcases K5.out with ⟨e5, rfl⟩ | ⟨e5, rfl, rfl⟩ | ⟨e5, rfl, rfl⟩
        rotate_right
        · have f5 : decide ((0 : Int) < (na : Int)) = true := decide_eq_true (by omega); have f5a : decide (0 < na) = true := decide_eq_true (by omega); have f5b : 0 < na := by omega
          clear K5 K6 e5
          go_wp2_with (go_at_call 132; (first | (with_reducible refine (C5.out _ hbw).mono ?_) | (with_reducible refine (C6.out _ hbw).mono ?_)); rintro e w2 ⟨rfl, hb2⟩; (replace hX := Blk.keep hX hb2; replace hY := Blk.keep hY hb2; replace hbw := bstep hbw hb2; clear x0 x1 x2 x3 x4 x5 x6 y0 y1 y2 y3 y4 y5; (obtain ⟨x0, x1, x2, x3, x4, x5, x6⟩ := CBox.facts hX; obtain ⟨y0, y1, y2, y3, y4, y5⟩ := ABox.facts hY)))
          all_goals (go_meet; exact ⟨rfl, hX, hY, hbw⟩)
        · have f5 : decide ((0 : Int) < (na : Int)) = false := decide_eq_false (by omega); have f5a : decide (0 < na) = false := decide_eq_false (by omega)
          clear K5 e5
          rcases K6.out with ⟨e6, rfl⟩ | ⟨e6, rfl, rfl⟩ | ⟨e6, rfl, rfl⟩
          · have f6 : decide ((0 : Int) < (nb : Int)) = false := decide_eq_false (by omega); have f6a : decide (0 < nb) = false := decide_eq_false (by omega)
            clear K6 e6
            go_wp2_with (go_at_call 132; (first | (with_reducible refine (C5.out _ hbw).mono ?_) | (with_reducible refine (C6.out _ hbw).mono ?_)); rintro e w2 ⟨rfl, hb2⟩; (replace hX := Blk.keep hX hb2; replace hY := Blk.keep hY hb2; replace hbw := bstep hbw hb2; clear x0 x1 x2 x3 x4 x5 x6 y0 y1 y2 y3 y4 y5; (obtain ⟨x0, x1, x2, x3, x4, x5, x6⟩ := CBox.facts hX; obtain ⟨y0, y1, y2, y3, y4, y5⟩ := ABox.facts hY)))
            all_goals (go_meet; exact ⟨rfl, hX, hY, hbw⟩)
          all_goals
            have f6 : decide ((0 : Int) < (nb : Int)) = true := decide_eq_true (by omega); have f6a : decide (0 < nb) = true := decide_eq_true (by omega); have f6b : 0 < nb := by omega
            clear K6 e6
            go_wp2_with (go_at_call 132; (first | (with_reducible refine (C5.out _ hbw).mono ?_) | (with_reducible refine (C6.out _ hbw).mono ?_)); rintro e w2 ⟨rfl, hb2⟩; (replace hX := Blk.keep hX hb2; replace hY := Blk.keep hY hb2; replace hbw := bstep hbw hb2; clear x0 x1 x2 x3 x4 x5 x6 y0 y1 y2 y3 y4 y5; (obtain ⟨x0, x1, x2, x3, x4, x5, x6⟩ := CBox.facts hX; obtain ⟨y0, y1, y2, y3, y4, y5⟩ := ABox.facts hY)))
            all_goals (go_meet; exact ⟨rfl, hX, hY, hbw⟩)
        · have f5 : decide ((0 : Int) < (na : Int)) = true := decide_eq_true (by omega); have f5a : decide (0 < na) = true := decide_eq_true (by omega); have f5b : 0 < na := by omega
          clear K5 e5
          rcases K6.out with ⟨e6, rfl⟩ | ⟨e6, rfl, rfl⟩ | ⟨e6, rfl, rfl⟩
          · have f6 : decide ((0 : Int) < (nb : Int)) = false := decide_eq_false (by omega); have f6a : decide (0 < nb) = false := decide_eq_false (by omega)
            clear K6 e6
            go_wp2_with (go_at_call 132; (first | (with_reducible refine (C5.out _ hbw).mono ?_) | (with_reducible refine (C6.out _ hbw).mono ?_)); rintro e w2 ⟨rfl, hb2⟩; (replace hX := Blk.keep hX hb2; replace hY := Blk.keep hY hb2; replace hbw := bstep hbw hb2; clear x0 x1 x2 x3 x4 x5 x6 y0 y1 y2 y3 y4 y5; (obtain ⟨x0, x1, x2, x3, x4, x5, x6⟩ := CBox.facts hX; obtain ⟨y0, y1, y2, y3, y4, y5⟩ := ABox.facts hY)))
            all_goals (go_meet; exact ⟨rfl, hX, hY, hbw⟩)
          all_goals
            have f6 : decide ((0 : Int) < (nb : Int)) = true := decide_eq_true (by omega); have f6a : decide (0 < nb) = true := decide_eq_true (by omega); have f6b : 0 < nb := by omega
            clear K6 e6
            go_wp2_with (go_at_call 132; (first | (with_reducible refine (C5.out _ hbw).mono ?_) | (with_reducible refine (C6.out _ hbw).mono ?_)); rintro e w2 ⟨rfl, hb2⟩; (replace hX := Blk.keep hX hb2; replace hY := Blk.keep hY hb2; replace hbw := bstep hbw hb2; clear x0 x1 x2 x3 x4 x5 x6 y0 y1 y2 y3 y4 y5; (obtain ⟨x0, x1, x2, x3, x4, x5, x6⟩ := CBox.facts hX; obtain ⟨y0, y1, y2, y3, y4, y5⟩ := ABox.facts hY)))
            all_goals (go_meet; exact ⟨rfl, hX, hY, hbw⟩)
      case rest =>
        clear x0 x1 x2 x3 x4 x5 x6 y0 y1 y2 y3 y4 y5
        clear hX hY hbw C5 C6 K5 K6
        obtain ⟨rfl, hX, hY, hbw⟩ := hcut
        (obtain ⟨x0, x1, x2, x3, x4, x5, x6⟩ := CBox.facts hX; obtain ⟨y0, y1, y2, y3, y4, y5⟩ := ABox.facts hY)
        have hv3 : V = (v5 && v6 && v7) := by rw [HV2.out, Bool.true_and]
        cases hvv : (v5 && v6)
        · obtain rfl : V = false := by rw [hv3, hvv]; rfl
          clear HV2 hv3
          go_wp2
          all_goals (go_ret; exact ⟨rfl, hbw⟩)
        rw [hvv, Bool.true_and] at hv3
        subst hv3
        clear HV2 hvv
        rcases K7.out with ⟨e7, rfl⟩ | ⟨e7, rfl, rfl⟩ | ⟨e7, rfl, rfl⟩
        · have f7 : ((ns : Int) == 0) = true := by simp; omega
          clear K7 e7
          go_wp2_with (go_at_call 133; refine (C7.out _ hbw).mono ?_; rintro e w2 ⟨rfl, hb2⟩; (replace hX := Blk.keep hX hb2; replace hY := Blk.keep hY hb2; replace hbw := bstep hbw hb2; clear x0 x1 x2 x3 x4 x5 x6 y0 y1 y2 y3 y4 y5; (obtain ⟨x0, x1, x2, x3, x4, x5, x6⟩ := CBox.facts hX; obtain ⟨y0, y1, y2, y3, y4, y5⟩ := ABox.facts hY)))
          all_goals (go_ret; exact ⟨rfl, hbw⟩)
        all_goals
          have f7 : ((ns : Int) == 0) = false := by simp; omega
          clear K7 e7
          go_wp2_with (go_at_call 133; refine (C7.out _ hbw).mono ?_; rintro e w2 ⟨rfl, hb2⟩; (replace hX := Blk.keep hX hb2; replace hY := Blk.keep hY hb2; replace hbw := bstep hbw hb2; clear x0 x1 x2 x3 x4 x5 x6 y0 y1 y2 y3 y4 y5; (obtain ⟨x0, x1, x2, x3, x4, x5, x6⟩ := CBox.facts hX; obtain ⟨y0, y1, y2, y3, y4, y5⟩ := ABox.facts hY)))
          all_goals (go_ret; exact ⟨rfl, hbw⟩)
end Go.Proofs.YtdlbfjoemabfpaaGreatDoor
namespace Go.Proofs.YtdlbfjoemabfpaaGreatDoor
open Go.RowKit Go.Sort
set_option linter.unusedVariables false
set_option linter.unusedSimpArgs false
set_option maxRecDepth 100000
set_option maxHeartbeats 4000000 in
theorem rPermits22_any (x : RuleM) (a : AskV) (w : World) (hR : RuleReads w x) (hc : CondFits x.r.allow) (ha : AskFits a) :
    Calls Tryz.prog 37 #[x.val, AskV.val a] w (Ret w (.bool (holdsC x.r.allow a))) := by
  have hh := fun W (hb : Below w.heap.size w W) => rHolds21_any x.r.allow x.m a W (hR.allow.keep hb) hc ha
  generalize holdsC x.r.allow a = V at *
  rw [RuleM.val_eq]
  unfold CondMem.val AskV.val at *
  have HH := Lib.hid hh
  clear hh hR hc ha
  go_enter Tryz.func37, Tryz.ntmps37
  go_wp2_with (go_at_call 83; refine (HH.out _ belB).mono ?_; rintro e w2 ⟨rfl, hb2⟩)
  go_ret
  exact ⟨rfl, belB⟩
end Go.Proofs.YtdlbfjoemabfpaaGreatDoor
