/- What the cond package's Valid returns. -/
import Derived.Test.YtjhlpkhfdghngaaGreatDoorGZ24
import Derived.Test.YtjhlpkhfdghngaaGreatDoorGZ16
import Derived.Test.YtjhlpkhfdghngaaGreatDoorProg
import Derived.WalkKit
import Derived.WalkSpells
import Derived.WalkLawsBesides
import Derived.Below
import Derived.Deep.QuietTactic
import Derived.BigQuiet
import Derived.Lib.QuietBelow
import Derived.Lib.Strings
import Derived.Lib.Hide
import Derived.Deep.RegionWith
import Derived.Deep.RegionHeld3
import Derived.Lib.IndexBytes
import Derived.Test.YtjhlpkhfdghngaaGreatDoorGZ17
import Derived.Test.YtjhlpkhfdghngaaGreatDoorGZ14
import Derived.Test.YtjhlpkhfdghngaaGreatDoorGZ25
namespace Go.Proofs.YtjhlpkhfdghngaaGreatDoor
open Go.RowKit Go.Sort
set_option linter.unusedVariables false
set_option linter.unusedSimpArgs false
set_option maxRecDepth 100000
set_option maxHeartbeats 8000000 in
theorem condValid_any (c : CondV) (m : CondMem) (w : World) (hR : CondReads w c m) (hp : c.pat.size ≤ 100000) (hcl : ∀ x ∈ c.cl, x.size ≤ 100000) (hco : ∀ x ∈ c.co, x.size ≤ 100000) (h1 : c.cl.length ≤ 1000000) (h2 : c.co.length ≤ 1000000) (h3 : c.si.length ≤ 1000000) (hE : Env w) :
    Calls Tryz.prog 52 #[CondMem.val c m] w (Ret w (.bool (validC c))) := by
  obtain ⟨fr, till, pat, cl, co, si, us⟩ := c
  obtain ⟨A, ca, B, cb, S, cs⟩ := m
  obtain ⟨hA, hB, hS⟩ := hR
  dsimp only at hA hB hS hp hcl hco h1 h2 h3
  unfold CondMem.val
  dsimp only
  obtain ⟨V, hV⟩ : ∃ V, V = validC ⟨fr, till, pat, cl, co, si, us⟩ := ⟨_, rfl⟩
  rw [← hV]
  unfold validC timesB patOk at hV
  dsimp only at hV
  have c1 := fun W (hb : Below w.heap.size w W) => isSetS_any 108 (enters_of Tryz.func108 (by kernel_rfl) rfl) isNameB A cl.length ca cl 32 W (fun x hx W' hE' => condName_any x W' (hcl x hx) hE') (hA.keep hb) (by omega) (by omega) (Env.keep hE hb)
  have c2 := fun W (hb : Below w.heap.size w W) => isSetS_any 109 (enters_of Tryz.func109 (by kernel_rfl) rfl) countryB B co.length cb co 32 W (fun x hx W' _ => isCountry_any x W' (by have := hco x hx; omega)) (hB.keep hb) (by omega) (by omega) (Env.keep hE hb)
  have c3 := fun W (hb : Below w.heap.size w W) => isSetI_any 111 (enters_of Tryz.func111 (by kernel_rfl) rfl) siteB S si.length cs si 64 W (fun x W' => isSite_any x W') (hS.keep hb) (by omega) (by omega)
  have hva := fun W h => valid_any pat W hp h
  generalize (compileB pat).isSome = b1 at *
  generalize setB ltB isNameB 32 cl = b2 at *
  generalize setB ltB countryB 32 co = b3 at *
  generalize setB ltI siteB 64 si = b4 at *
  have h32 : ((32 : Nat) : Int) = 32 := rfl
  have h64 : ((64 : Nat) : Int) = 64 := rfl
  simp only [h32] at c1 c2
  simp only [h64] at c3
  clear h32 h64
  have C1 := Lib.hid c1
  have C2 := Lib.hid c2
  have C3 := Lib.hid c3
  have HVA := Lib.hid hva
  have HE := Lib.hid hE
  clear c1 c2 c3 hva hE hA hB hS hcl hco h1 h2 h3 hp
  by_cases t1 : 0 ≤ fr
  rotate_left
  · obtain rfl : V = false := by rw [hV]; simp [t1]
    have d1 : decide (0 ≤ fr) = false := decide_eq_false t1
    clear hV
    (go_enter Tryz.func52, Tryz.ntmps52; go_wp2_with (first | (go_at_call 49; refine (HVA.out _ (Env.keep HE.out belB)).mono ?_; rintro e w2 ⟨rfl, hb2⟩; (have hX2 : CBox w2 w.heap.size fr till pat A cl.length ca B co.length cb S si.length cs us := (by first | exact Blk.keep hX2 hb2 | exact Blk.keep (World.alloc_heap_new _ _) hb2); obtain ⟨x0, x1, x2, x3, x4, x5, x6⟩ := hX2.facts)) | (go_at_call 107; (first | (refine (C1.out _ belB).mono ?_; clear C1) | refine (C2.out _ belB).mono ?_); rintro e w2 ⟨rfl, hb2⟩; (have hX2 : CBox w2 w.heap.size fr till pat A cl.length ca B co.length cb S si.length cs us := (by first | exact Blk.keep hX2 hb2 | exact Blk.keep (World.alloc_heap_new _ _) hb2); obtain ⟨x0, x1, x2, x3, x4, x5, x6⟩ := hX2.facts)) | (go_at_call 110; refine (C3.out _ belB).mono ?_; rintro e w2 ⟨rfl, hb2⟩)); go_ret; exact ⟨rfl, belB⟩)
  have d1 : decide (0 ≤ fr) = true := decide_eq_true t1
  by_cases t2 : fr ≤ 1099511627776
  rotate_left
  · obtain rfl : V = false := by rw [hV]; simp [t2]
    have d2 : decide (fr ≤ 1099511627776) = false := decide_eq_false t2
    clear hV
    (go_enter Tryz.func52, Tryz.ntmps52; go_wp2_with (first | (go_at_call 49; refine (HVA.out _ (Env.keep HE.out belB)).mono ?_; rintro e w2 ⟨rfl, hb2⟩; (have hX2 : CBox w2 w.heap.size fr till pat A cl.length ca B co.length cb S si.length cs us := (by first | exact Blk.keep hX2 hb2 | exact Blk.keep (World.alloc_heap_new _ _) hb2); obtain ⟨x0, x1, x2, x3, x4, x5, x6⟩ := hX2.facts)) | (go_at_call 107; (first | (refine (C1.out _ belB).mono ?_; clear C1) | refine (C2.out _ belB).mono ?_); rintro e w2 ⟨rfl, hb2⟩; (have hX2 : CBox w2 w.heap.size fr till pat A cl.length ca B co.length cb S si.length cs us := (by first | exact Blk.keep hX2 hb2 | exact Blk.keep (World.alloc_heap_new _ _) hb2); obtain ⟨x0, x1, x2, x3, x4, x5, x6⟩ := hX2.facts)) | (go_at_call 110; refine (C3.out _ belB).mono ?_; rintro e w2 ⟨rfl, hb2⟩)); go_ret; exact ⟨rfl, belB⟩)
  have d2 : decide (fr ≤ 1099511627776) = true := decide_eq_true t2
  by_cases t3 : 0 ≤ till
  rotate_left
  · obtain rfl : V = false := by rw [hV]; simp [t3]
    have d3 : decide (0 ≤ till) = false := decide_eq_false t3
    clear hV
    (go_enter Tryz.func52, Tryz.ntmps52; go_wp2_with (first | (go_at_call 49; refine (HVA.out _ (Env.keep HE.out belB)).mono ?_; rintro e w2 ⟨rfl, hb2⟩; (have hX2 : CBox w2 w.heap.size fr till pat A cl.length ca B co.length cb S si.length cs us := (by first | exact Blk.keep hX2 hb2 | exact Blk.keep (World.alloc_heap_new _ _) hb2); obtain ⟨x0, x1, x2, x3, x4, x5, x6⟩ := hX2.facts)) | (go_at_call 107; (first | (refine (C1.out _ belB).mono ?_; clear C1) | refine (C2.out _ belB).mono ?_); rintro e w2 ⟨rfl, hb2⟩; (have hX2 : CBox w2 w.heap.size fr till pat A cl.length ca B co.length cb S si.length cs us := (by first | exact Blk.keep hX2 hb2 | exact Blk.keep (World.alloc_heap_new _ _) hb2); obtain ⟨x0, x1, x2, x3, x4, x5, x6⟩ := hX2.facts)) | (go_at_call 110; refine (C3.out _ belB).mono ?_; rintro e w2 ⟨rfl, hb2⟩)); go_ret; exact ⟨rfl, belB⟩)
  have d3 : decide (0 ≤ till) = true := decide_eq_true t3
  by_cases t4 : till ≤ 1099511627777
  rotate_left
  · obtain rfl : V = false := by rw [hV]; simp [t4]
    have d4 : decide (till ≤ 1099511627777) = false := decide_eq_false t4
    clear hV
    (go_enter Tryz.func52, Tryz.ntmps52; go_wp2_with (first | (go_at_call 49; refine (HVA.out _ (Env.keep HE.out belB)).mono ?_; rintro e w2 ⟨rfl, hb2⟩; (have hX2 : CBox w2 w.heap.size fr till pat A cl.length ca B co.length cb S si.length cs us := (by first | exact Blk.keep hX2 hb2 | exact Blk.keep (World.alloc_heap_new _ _) hb2); obtain ⟨x0, x1, x2, x3, x4, x5, x6⟩ := hX2.facts)) | (go_at_call 107; (first | (refine (C1.out _ belB).mono ?_; clear C1) | refine (C2.out _ belB).mono ?_); rintro e w2 ⟨rfl, hb2⟩; (have hX2 : CBox w2 w.heap.size fr till pat A cl.length ca B co.length cb S si.length cs us := (by first | exact Blk.keep hX2 hb2 | exact Blk.keep (World.alloc_heap_new _ _) hb2); obtain ⟨x0, x1, x2, x3, x4, x5, x6⟩ := hX2.facts)) | (go_at_call 110; refine (C3.out _ belB).mono ?_; rintro e w2 ⟨rfl, hb2⟩)); go_ret; exact ⟨rfl, belB⟩)
  have d4 : decide (till ≤ 1099511627777) = true := decide_eq_true t4
  by_cases t5 : 0 ≤ us
  rotate_left
  · obtain rfl : V = false := by rw [hV]; simp [t5]
    have d5 : decide (0 ≤ us) = false := decide_eq_false t5
    clear hV
    (go_enter Tryz.func52, Tryz.ntmps52; go_wp2_with (first | (go_at_call 49; refine (HVA.out _ (Env.keep HE.out belB)).mono ?_; rintro e w2 ⟨rfl, hb2⟩; (have hX2 : CBox w2 w.heap.size fr till pat A cl.length ca B co.length cb S si.length cs us := (by first | exact Blk.keep hX2 hb2 | exact Blk.keep (World.alloc_heap_new _ _) hb2); obtain ⟨x0, x1, x2, x3, x4, x5, x6⟩ := hX2.facts)) | (go_at_call 107; (first | (refine (C1.out _ belB).mono ?_; clear C1) | refine (C2.out _ belB).mono ?_); rintro e w2 ⟨rfl, hb2⟩; (have hX2 : CBox w2 w.heap.size fr till pat A cl.length ca B co.length cb S si.length cs us := (by first | exact Blk.keep hX2 hb2 | exact Blk.keep (World.alloc_heap_new _ _) hb2); obtain ⟨x0, x1, x2, x3, x4, x5, x6⟩ := hX2.facts)) | (go_at_call 110; refine (C3.out _ belB).mono ?_; rintro e w2 ⟨rfl, hb2⟩)); go_ret; exact ⟨rfl, belB⟩)
  have d5 : decide (0 ≤ us) = true := decide_eq_true t5
  by_cases t6 : us ≤ 1073741824
  rotate_left
  · obtain rfl : V = false := by rw [hV]; simp [t6]
    have d6 : decide (us ≤ 1073741824) = false := decide_eq_false t6
    clear hV
    (go_enter Tryz.func52, Tryz.ntmps52; go_wp2_with (first | (go_at_call 49; refine (HVA.out _ (Env.keep HE.out belB)).mono ?_; rintro e w2 ⟨rfl, hb2⟩; (have hX2 : CBox w2 w.heap.size fr till pat A cl.length ca B co.length cb S si.length cs us := (by first | exact Blk.keep hX2 hb2 | exact Blk.keep (World.alloc_heap_new _ _) hb2); obtain ⟨x0, x1, x2, x3, x4, x5, x6⟩ := hX2.facts)) | (go_at_call 107; (first | (refine (C1.out _ belB).mono ?_; clear C1) | refine (C2.out _ belB).mono ?_); rintro e w2 ⟨rfl, hb2⟩; (have hX2 : CBox w2 w.heap.size fr till pat A cl.length ca B co.length cb S si.length cs us := (by first | exact Blk.keep hX2 hb2 | exact Blk.keep (World.alloc_heap_new _ _) hb2); obtain ⟨x0, x1, x2, x3, x4, x5, x6⟩ := hX2.facts)) | (go_at_call 110; refine (C3.out _ belB).mono ?_; rintro e w2 ⟨rfl, hb2⟩)); go_ret; exact ⟨rfl, belB⟩)
  have d6 : decide (us ≤ 1073741824) = true := decide_eq_true t6
  have hV2 : V = ((decide (pat.size = 0) || b1) && b2 && b3 && b4) := by rw [hV]; simp [t1, t2, t3, t4, t5, t6]
  clear hV
  by_cases hs : pat.size = 0
  · obtain rfl : pat = ⟨#[]⟩ := bytes_ext (List.eq_nil_of_length_eq_zero (by rw [← Lib.size_eq]; exact hs))
    clear hs
    cases b2
    · obtain rfl : V = false := by rw [hV2]; simp
      clear hV2
      (go_enter Tryz.func52, Tryz.ntmps52; go_wp2_with (first | (go_at_call 107; (first | (refine (C1.out _ belB).mono ?_; clear C1) | refine (C2.out _ belB).mono ?_); rintro e w2 ⟨rfl, hb2⟩; (have hX2 : CBox w2 w.heap.size fr till ⟨#[]⟩ A cl.length ca B co.length cb S si.length cs us := (by first | exact Blk.keep hX2 hb2 | exact Blk.keep (World.alloc_heap_new _ _) hb2); obtain ⟨x0, x1, x2, x3, x4, x5, x6⟩ := hX2.facts)) | (go_at_call 110; refine (C3.out _ belB).mono ?_; rintro e w2 ⟨rfl, hb2⟩)); go_ret; exact ⟨rfl, belB⟩)
    cases b3
    · obtain rfl : V = false := by rw [hV2]; simp
      clear hV2
      (go_enter Tryz.func52, Tryz.ntmps52; go_wp2_with (first | (go_at_call 107; (first | (refine (C1.out _ belB).mono ?_; clear C1) | refine (C2.out _ belB).mono ?_); rintro e w2 ⟨rfl, hb2⟩; (have hX2 : CBox w2 w.heap.size fr till ⟨#[]⟩ A cl.length ca B co.length cb S si.length cs us := (by first | exact Blk.keep hX2 hb2 | exact Blk.keep (World.alloc_heap_new _ _) hb2); obtain ⟨x0, x1, x2, x3, x4, x5, x6⟩ := hX2.facts)) | (go_at_call 110; refine (C3.out _ belB).mono ?_; rintro e w2 ⟨rfl, hb2⟩)); go_ret; exact ⟨rfl, belB⟩)
    obtain rfl : V = b4 := by rw [hV2]; cases b1 <;> cases b4 <;> rfl
    clear hV2
    (go_enter Tryz.func52, Tryz.ntmps52; go_wp2_with (first | (go_at_call 107; (first | (refine (C1.out _ belB).mono ?_; clear C1) | refine (C2.out _ belB).mono ?_); rintro e w2 ⟨rfl, hb2⟩; (have hX2 : CBox w2 w.heap.size fr till ⟨#[]⟩ A cl.length ca B co.length cb S si.length cs us := (by first | exact Blk.keep hX2 hb2 | exact Blk.keep (World.alloc_heap_new _ _) hb2); obtain ⟨x0, x1, x2, x3, x4, x5, x6⟩ := hX2.facts)) | (go_at_call 110; refine (C3.out _ belB).mono ?_; rintro e w2 ⟨rfl, hb2⟩)); go_ret; exact ⟨rfl, belB⟩)
  · have hn : ¬ pat.toList = [] := fun e => hs (by rw [Lib.toList_data] at e; rw [Lib.size_eq, e]; rfl)
    have hn2 : (pat.toList == []) = false := by simpa using hn
    rw [decide_eq_false hs, Bool.false_or] at hV2
    cases b1
    · obtain rfl : V = false := by rw [hV2]; simp
      clear hV2
      (go_enter Tryz.func52, Tryz.ntmps52; go_wp2_with (first | (go_at_call 49; refine (HVA.out _ (Env.keep HE.out belB)).mono ?_; rintro e w2 ⟨rfl, hb2⟩; (have hX2 : CBox w2 w.heap.size fr till pat A cl.length ca B co.length cb S si.length cs us := (by first | exact Blk.keep hX2 hb2 | exact Blk.keep (World.alloc_heap_new _ _) hb2); obtain ⟨x0, x1, x2, x3, x4, x5, x6⟩ := hX2.facts)) | (go_at_call 107; (first | (refine (C1.out _ belB).mono ?_; clear C1) | refine (C2.out _ belB).mono ?_); rintro e w2 ⟨rfl, hb2⟩; (have hX2 : CBox w2 w.heap.size fr till pat A cl.length ca B co.length cb S si.length cs us := (by first | exact Blk.keep hX2 hb2 | exact Blk.keep (World.alloc_heap_new _ _) hb2); obtain ⟨x0, x1, x2, x3, x4, x5, x6⟩ := hX2.facts)) | (go_at_call 110; refine (C3.out _ belB).mono ?_; rintro e w2 ⟨rfl, hb2⟩)); go_ret; exact ⟨rfl, belB⟩)
    cases b2
    · obtain rfl : V = false := by rw [hV2]; simp
      clear hV2
      (go_enter Tryz.func52, Tryz.ntmps52; go_wp2_with (first | (go_at_call 49; refine (HVA.out _ (Env.keep HE.out belB)).mono ?_; rintro e w2 ⟨rfl, hb2⟩; (have hX2 : CBox w2 w.heap.size fr till pat A cl.length ca B co.length cb S si.length cs us := (by first | exact Blk.keep hX2 hb2 | exact Blk.keep (World.alloc_heap_new _ _) hb2); obtain ⟨x0, x1, x2, x3, x4, x5, x6⟩ := hX2.facts)) | (go_at_call 107; (first | (refine (C1.out _ belB).mono ?_; clear C1) | refine (C2.out _ belB).mono ?_); rintro e w2 ⟨rfl, hb2⟩; (have hX2 : CBox w2 w.heap.size fr till pat A cl.length ca B co.length cb S si.length cs us := (by first | exact Blk.keep hX2 hb2 | exact Blk.keep (World.alloc_heap_new _ _) hb2); obtain ⟨x0, x1, x2, x3, x4, x5, x6⟩ := hX2.facts)) | (go_at_call 110; refine (C3.out _ belB).mono ?_; rintro e w2 ⟨rfl, hb2⟩)); go_ret; exact ⟨rfl, belB⟩)
    cases b3
    · obtain rfl : V = false := by rw [hV2]; simp
      clear hV2
      (go_enter Tryz.func52, Tryz.ntmps52; go_wp2_with (first | (go_at_call 49; refine (HVA.out _ (Env.keep HE.out belB)).mono ?_; rintro e w2 ⟨rfl, hb2⟩; (have hX2 : CBox w2 w.heap.size fr till pat A cl.length ca B co.length cb S si.length cs us := (by first | exact Blk.keep hX2 hb2 | exact Blk.keep (World.alloc_heap_new _ _) hb2); obtain ⟨x0, x1, x2, x3, x4, x5, x6⟩ := hX2.facts)) | (go_at_call 107; (first | (refine (C1.out _ belB).mono ?_; clear C1) | refine (C2.out _ belB).mono ?_); rintro e w2 ⟨rfl, hb2⟩; (have hX2 : CBox w2 w.heap.size fr till pat A cl.length ca B co.length cb S si.length cs us := (by first | exact Blk.keep hX2 hb2 | exact Blk.keep (World.alloc_heap_new _ _) hb2); obtain ⟨x0, x1, x2, x3, x4, x5, x6⟩ := hX2.facts)) | (go_at_call 110; refine (C3.out _ belB).mono ?_; rintro e w2 ⟨rfl, hb2⟩)); go_ret; exact ⟨rfl, belB⟩)
    obtain rfl : V = b4 := by rw [hV2]; cases b4 <;> rfl
    clear hV2
    (go_enter Tryz.func52, Tryz.ntmps52; go_wp2_with (first | (go_at_call 49; refine (HVA.out _ (Env.keep HE.out belB)).mono ?_; rintro e w2 ⟨rfl, hb2⟩; (have hX2 : CBox w2 w.heap.size fr till pat A cl.length ca B co.length cb S si.length cs us := (by first | exact Blk.keep hX2 hb2 | exact Blk.keep (World.alloc_heap_new _ _) hb2); obtain ⟨x0, x1, x2, x3, x4, x5, x6⟩ := hX2.facts)) | (go_at_call 107; (first | (refine (C1.out _ belB).mono ?_; clear C1) | refine (C2.out _ belB).mono ?_); rintro e w2 ⟨rfl, hb2⟩; (have hX2 : CBox w2 w.heap.size fr till pat A cl.length ca B co.length cb S si.length cs us := (by first | exact Blk.keep hX2 hb2 | exact Blk.keep (World.alloc_heap_new _ _) hb2); obtain ⟨x0, x1, x2, x3, x4, x5, x6⟩ := hX2.facts)) | (go_at_call 110; refine (C3.out _ belB).mono ?_; rintro e w2 ⟨rfl, hb2⟩)); go_ret; exact ⟨rfl, belB⟩)
end Go.Proofs.YtjhlpkhfdghngaaGreatDoor
namespace Go.Proofs.YtjhlpkhfdghngaaGreatDoor
open Go.RowKit Go.Sort
set_option linter.unusedVariables false
set_option linter.unusedSimpArgs false
set_option maxRecDepth 100000
abbrev BL := List UInt8
theorem uniq_sorted : ∀ (xs ys : List BL), xs.Pairwise (· < ·) → ys.Pairwise (· < ·) → (∀ a, a ∈ xs ↔ a ∈ ys) → xs = ys
  | [], [], _, _, _ => rfl
  | [], y :: _, _, _, h => absurd ((h y).2 (by simp)) (by simp)
  | x :: _, [], _, _, h => absurd ((h x).1 (by simp)) (by simp)
  | x :: xs, y :: ys, hx, hy, h => by
    have hx' := List.pairwise_cons.1 hx
    have hy' := List.pairwise_cons.1 hy
    have e : x = y := by
      rcases List.mem_cons.1 ((h x).1 (by simp)) with e | e
      · exact e
      · rcases List.mem_cons.1 ((h y).2 (by simp)) with e2 | e2
        · exact e2.symm
        · exact absurd (hy'.1 x e) (List.lt_asymm (hx'.1 y e2))
    subst e
    rw [uniq_sorted xs ys hx'.2 hy'.2 (fun a => ?_)]
    constructor
    · intro ha
      rcases List.mem_cons.1 ((h a).1 (by simp [ha])) with e | e
      · subst e; exact absurd (hx'.1 a ha) (List.lt_irrefl a)
      · exact e
    · intro ha
      rcases List.mem_cons.1 ((h a).2 (by simp [ha])) with e | e
      · subst e; exact absurd (hy'.1 a ha) (List.lt_irrefl a)
      · exact e
theorem lt_of_le_ne' {a b : BL} (h : a ≤ b) (hn : a ≠ b) : a < b := by
  rcases Decidable.em (a < b) with h1 | h1
  · exact h1
  · exact absurd (List.le_antisymm h (List.not_lt.1 h1)) hn
theorem compact_inv (d : Array BL) (hs : ∀ i j, i ≤ j → j < d.size → d[i]! ≤ d[j]!) : ∀ m, m ≤ d.size → (Lib.compactUpTo d m).Pairwise (· < ·) ∧ (∀ j, j < m → d[j]! ∈ Lib.compactUpTo d m) ∧ (∀ x ∈ Lib.compactUpTo d m, ∃ j, j < m ∧ x = d[j]!)
  | 0, _ => by simp [Lib.compactUpTo]
  | m + 1, hm => by
    obtain ⟨h1, h2, h3⟩ := compact_inv d hs m (by omega)
    rw [Lib.compactUpTo_succ]
    by_cases hk : Lib.keeps d m = true
    · rw [if_pos hk]
      refine ⟨List.pairwise_append.2 ⟨h1, by simp, fun a ha b hb => ?_⟩, fun j hj => ?_, fun x hx => ?_⟩
      · rw [List.mem_singleton.1 hb]
        obtain ⟨j, hj, rfl⟩ := h3 a ha
        have hne : d[m - 1]! ≠ d[m]! := by
          intro e
          simp [Lib.keeps] at hk
          rcases hk with hk | hk
          · omega
          · first | exact hk e.symm | exact hk e
        have l1 := hs j (m - 1) (by omega) (by omega)
        have l2 := lt_of_le_ne' (hs (m - 1) m (by omega) (by omega)) hne
        exact Std.lt_of_le_of_lt l1 l2
      · by_cases e : j = m
        · subst e; simp
        · exact List.mem_append_left _ (h2 j (by omega))
      · rcases List.mem_append.1 hx with hx | hx
        · obtain ⟨j, hj, rfl⟩ := h3 x hx
          exact ⟨j, by omega, rfl⟩
        · exact ⟨m, by omega, List.mem_singleton.1 hx⟩
    · rw [if_neg hk, List.append_nil]
      refine ⟨h1, fun j hj => ?_, fun x hx => ?_⟩
      · by_cases e : j = m
        · subst e
          have hj0 : j ≠ 0 ∧ d[j]! = d[j - 1]! := by
            simp [Lib.keeps] at hk
            first | exact hk | exact ⟨hk.1, hk.2.symm⟩
          rw [hj0.2]
          exact h2 (j - 1) (by omega)
        · exact h2 j (by omega)
      · obtain ⟨j, hj, rfl⟩ := h3 x hx
        exact ⟨j, by omega, rfl⟩
theorem compact_sorted (zs : List BL) (hs : zs.Pairwise (· ≤ ·)) : (Lib.compact zs).Pairwise (· < ·) ∧ ∀ a, a ∈ Lib.compact zs ↔ a ∈ zs := by
  have hd : ∀ i j, i ≤ j → j < zs.toArray.size → zs.toArray[i]! ≤ zs.toArray[j]! := by
    intro i j hij hj
    simp only [List.size_toArray] at hj
    rw [getElem!_pos _ i (by simp; omega), getElem!_pos _ j (by simpa using hj)]
    simp only [List.getElem_toArray]
    rcases Nat.lt_or_eq_of_le hij with h | h
    · exact List.pairwise_iff_getElem.1 hs i j (by omega) hj h
    · subst h; exact List.le_refl _
  obtain ⟨h1, h2, h3⟩ := compact_inv zs.toArray hd zs.length (by simp)
  refine ⟨h1, fun a => ⟨fun h => ?_, fun h => ?_⟩⟩
  · exact compact_mem zs a h
  · obtain ⟨j, hj, rfl⟩ := List.getElem_of_mem h
    have := h2 j hj
    rw [getElem!_pos _ j (by simpa using hj)] at this
    unfold Lib.compact
    simpa using this
end Go.Proofs.YtjhlpkhfdghngaaGreatDoor
namespace Go.Proofs.YtjhlpkhfdghngaaGreatDoor
open Go.RowKit Go.Sort
set_option linter.unusedVariables false
set_option linter.unusedSimpArgs false
set_option maxRecDepth 100000
theorem split_comma : ∀ (x : BL) (l : List BL), 44 ∉ x → (∀ y ∈ l, 44 ∉ y) → splitL 44 (x ++ Lib.joinTail [44] l) = x :: l
  | x, [], hx, _ => by simp [Lib.joinTail]; exact split_none x 44 hx
  | x, y :: l, hx, hl => by
    have e : Lib.joinTail [44] (y :: l) = 44 :: (y ++ Lib.joinTail [44] l) := by simp [Lib.joinTail]
    rw [e, split_hit x _ 44 hx, split_comma y l (hl y (by simp)) (fun z hz => hl z (by simp [hz]))]
theorem split_joined (zs : List BL) (h0 : zs ≠ []) (h : ∀ z ∈ zs, 44 ∉ z) : splitL 44 (Lib.join zs [44]) = zs := by
  cases zs with
  | nil => exact absurd rfl h0
  | cons x l => rw [Lib.join_cons]; exact split_comma x l (h x (by simp)) (fun z hz => h z (by simp [hz]))
theorem tagsL_compact (zs : List BL) (h : zs.Pairwise (· < ·)) : Lib.compact (sortL zs) = zs := by
  have hs : sortL zs = zs := sortL_of (List.Perm.refl _) (h.imp fun h => List.le_of_lt h)
  rw [hs]
  obtain ⟨h1, h2⟩ := compact_sorted zs (h.imp fun h => List.le_of_lt h)
  exact uniq_sorted _ _ h1 h h2
theorem tagsR_ok {ps : List ByteArray} {T : ByteArray} (h : tagsR ps = (T, 0)) : ps.any (fun p => !isNameB p) = false ∧ (tagsL ps).length ≤ 4096 ∧ T = toB (tagsL ps) := by
  unfold tagsR at h
  split at h
  · cases h
  · rename_i h1
    split at h
    · cases h
    · rename_i h2
      refine ⟨by simpa using h1, by omega, ?_⟩
      cases h; rfl
theorem splitR_tags {ps : List ByteArray} {T : ByteArray} (h : tagsR ps = (T, 0)) : splitR T = ((Lib.compact (sortL (lists ps))).map toB, 0) := by
  obtain ⟨h1, h2, rfl⟩ := tagsR_ok h
  have tr : ∀ a b c : BL, decide (a ≤ b) = true → decide (b ≤ c) = true → decide (a ≤ c) = true := fun a b c h1 h2 => by simp only [decide_eq_true_eq] at *; exact List.le_trans h1 h2
  have tot : ∀ a b : BL, (decide (a ≤ b) || decide (b ≤ a)) = true := fun a b => by simp only [Bool.or_eq_true, decide_eq_true_eq]; exact List.le_total a b
  obtain ⟨h3, h4⟩ := compact_sorted (sortL (lists ps)) ((List.pairwise_mergeSort tr tot _).imp fun h => by simpa using h)
  have hm : ∀ a ∈ Lib.compact (sortL (lists ps)), ∃ p ∈ ps, isNameB p = true ∧ p.data.toList = a := by
    intro a ha
    rw [h4, sortL, (List.mergeSort_perm _ _).mem_iff] at ha
    obtain ⟨p, hp, rfl⟩ := List.mem_map.1 ha
    have := List.any_eq_false.1 h1 p hp
    exact ⟨p, hp, by simpa using this, rfl⟩
  have hT : tagsL ps = Lib.join (Lib.compact (sortL (lists ps))) [44] := rfl
  rw [hT] at h2 ⊢
  generalize Lib.compact (sortL (lists ps)) = zs at *
  have hdata : (toB (Lib.join zs [44])).data.toList = Lib.join zs [44] := by simp [toB]
  cases zs with
  | nil =>
    have : (toB (Lib.join ([] : List BL) [44])).toList = [] := by rw [Lib.toList_data, hdata]; rfl
    unfold splitR
    rw [this]; rfl
  | cons x l =>
    have hne : (toB (Lib.join (x :: l) [44])).toList.isEmpty = false := by
      rw [Lib.toList_data, hdata, Lib.join_cons]
      obtain ⟨p, _, hp, rfl⟩ := hm x (by simp)
      cases hx : p.data.toList with
      | nil =>
        have : p = ⟨#[]⟩ := bytes_ext (by rw [hx])
        rw [this] at hp
        exact absurd hp (by simp [isNameB, isWordB, Lib.toList_data])
      | cons a r => rfl
    have hsp : splitB 44 (toB (Lib.join (x :: l) [44])) = (x :: l).map toB := by
      show (splitL 44 (toB (Lib.join (x :: l) [44])).data.toList).map toB = _
      rw [hdata, split_joined (x :: l) (by simp) (fun z hz => by
        obtain ⟨p, _, hp, rfl⟩ := hm z hz
        exact (word_no (name_word hp)).2.2.2.2.2)]
    have htg : tagsR ((x :: l).map toB) = (toB (Lib.join (x :: l) [44]), 0) := by
      have e : tagsL ((x :: l).map toB) = Lib.join (x :: l) [44] := by
        have : lists ((x :: l).map toB) = x :: l := toB_back _
        unfold tagsL
        rw [this, tagsL_compact _ h3]
      unfold tagsR
      rw [if_neg, e, if_neg (by omega)]
      simp only [List.any_map, List.any_eq_true, not_exists]
      rintro z ⟨hz, hz2⟩
      obtain ⟨p, _, hp, rfl⟩ := hm z hz
      have : toB p.data.toList = p := bytes_ext (by simp [toB])
      simp [this, hp] at hz2
    unfold splitR
    rw [hne, if_neg (by decide), hsp, htg, if_pos ⟨rfl, by simp⟩]
theorem hasTag_tags {ps : List ByteArray} {T : ByteArray} (h : tagsR ps = (T, 0)) (p : ByteArray) (hp : p ∈ ps) : hasTagB T p = true := by
  have tr : ∀ a b c : BL, decide (a ≤ b) = true → decide (b ≤ c) = true → decide (a ≤ c) = true := fun a b c h1 h2 => by simp only [decide_eq_true_eq] at *; exact List.le_trans h1 h2
  have tot : ∀ a b : BL, (decide (a ≤ b) || decide (b ≤ a)) = true := fun a b => by simp only [Bool.or_eq_true, decide_eq_true_eq]; exact List.le_total a b
  obtain ⟨h3, h4⟩ := compact_sorted (sortL (lists ps)) ((List.pairwise_mergeSort tr tot _).imp fun h => by simpa using h)
  unfold hasTagB
  rw [splitR_tags h, Lib.containsS_iff]
  refine List.mem_map.2 ⟨p.data.toList, ?_, bytes_ext (by simp [toB])⟩
  rw [h4, sortL, (List.mergeSort_perm _ _).mem_iff]
  exact List.mem_map_of_mem hp
end Go.Proofs.YtjhlpkhfdghngaaGreatDoor
