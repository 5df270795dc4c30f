/- What the cond package's Valid returns. -/
import Derived.Test.YtmlhecjhjjlhfaaGreatDoorSZ24
import Derived.Test.YtmlhecjhjjlhfaaGreatDoorSZ15
import Derived.Test.YtmlhecjhjjlhfaaGreatDoorProg
import Derived.WalkKit
import Derived.WalkSpells
import Derived.WalkLawsBesides
import Derived.Below
import Derived.Deep.QuietTactic
import Derived.BigQuiet
import Derived.Lib.QuietBelow
import Derived.Lib.Strings
import Derived.Lib.Hide
import Derived.Deep.RegionWith
import Derived.Deep.RegionHeld3
import Derived.Lib.IndexBytes
import Derived.KernelRfl
namespace Go.Proofs.YtmlhecjhjjlhfaaGreatDoor
open Go.RowKit Go.Sort
set_option linter.unusedVariables false
set_option linter.unusedSimpArgs false
set_option maxRecDepth 100000
set_option maxHeartbeats 8000000 in
theorem condValid_any (c : CondV) (m : CondMem) (w : World) (hR : CondReads w c m) (hp : c.pat.size ≤ 100000) (hcl : ∀ x ∈ c.cl, x.size ≤ 100000) (hco : ∀ x ∈ c.co, x.size ≤ 100000) (h1 : c.cl.length ≤ 1000000) (h2 : c.co.length ≤ 1000000) (h3 : c.si.length ≤ 1000000) (hE : Env w) :
    Calls Tryz.prog 83 #[CondMem.val c m] w (Ret w (.bool (validC c))) := by
  obtain ⟨fr, till, pat, cl, co, si, us⟩ := c
  obtain ⟨A, ca, B, cb, S, cs⟩ := m
  obtain ⟨hA, hB, hS⟩ := hR
  dsimp only at hA hB hS hp hcl hco h1 h2 h3
  unfold CondMem.val
  dsimp only
  obtain ⟨V, hV⟩ : ∃ V, V = validC ⟨fr, till, pat, cl, co, si, us⟩ := ⟨_, rfl⟩
  rw [← hV]
  unfold validC timesB patOk at hV
  dsimp only at hV
  have c1 := fun W (hb : Below w.heap.size w W) => isSetS_any 148 (enters_of Tryz.func148 (by kernel_rfl) rfl) isNameB A cl.length ca cl 32 W (fun x hx W' hE' => condName_any x W' (hcl x hx) hE') (hA.keep hb) (by omega) (by omega) (Env.keep hE hb)
  have c2 := fun W (hb : Below w.heap.size w W) => isSetS_any 149 (enters_of Tryz.func149 (by kernel_rfl) rfl) countryB B co.length cb co 32 W (fun x hx W' _ => isCountry_any x W' (by have := hco x hx; omega)) (hB.keep hb) (by omega) (by omega) (Env.keep hE hb)
  have c3 := fun W (hb : Below w.heap.size w W) => isSetI_any 151 (enters_of Tryz.func151 (by kernel_rfl) rfl) siteB S si.length cs si 64 W (fun x W' => isSite_any x W') (hS.keep hb) (by omega) (by omega)
  have hva := fun W h => valid_any pat W hp h
  generalize (compileB pat).isSome = b1 at *
  generalize setB ltB isNameB 32 cl = b2 at *
  generalize setB ltB countryB 32 co = b3 at *
  generalize setB ltI siteB 64 si = b4 at *
  have h32 : ((32 : Nat) : Int) = 32 := rfl
  have h64 : ((64 : Nat) : Int) = 64 := rfl
  simp only [h32] at c1 c2
  simp only [h64] at c3
  clear h32 h64
  have C1 := Lib.hid c1
  have C2 := Lib.hid c2
  have C3 := Lib.hid c3
  have HVA := Lib.hid hva
  have HE := Lib.hid hE
  clear c1 c2 c3 hva hE hA hB hS hcl hco h1 h2 h3 hp
  by_cases t1 : 0 ≤ fr
  rotate_left
  · obtain rfl : V = false := by rw [hV]; simp [t1]
    have d1 : decide (0 ≤ fr) = false := decide_eq_false t1
    clear hV
    (go_enter Tryz.func83, Tryz.ntmps83; go_wp2_with (first | (go_at_call 33; refine (HVA.out _ (Env.keep HE.out belB)).mono ?_; rintro e w2 ⟨rfl, hb2⟩; (have hX2 : CBox w2 w.heap.size fr till pat A cl.length ca B co.length cb S si.length cs us := (by first | exact Blk.keep hX2 hb2 | exact Blk.keep (World.alloc_heap_new _ _) hb2); obtain ⟨x0, x1, x2, x3, x4, x5, x6⟩ := hX2.facts)) | (go_at_call 147; (first | (refine (C1.out _ belB).mono ?_; clear C1) | refine (C2.out _ belB).mono ?_); rintro e w2 ⟨rfl, hb2⟩; (have hX2 : CBox w2 w.heap.size fr till pat A cl.length ca B co.length cb S si.length cs us := (by first | exact Blk.keep hX2 hb2 | exact Blk.keep (World.alloc_heap_new _ _) hb2); obtain ⟨x0, x1, x2, x3, x4, x5, x6⟩ := hX2.facts)) | (go_at_call 150; refine (C3.out _ belB).mono ?_; rintro e w2 ⟨rfl, hb2⟩)); go_ret; exact ⟨rfl, belB⟩)
  have d1 : decide (0 ≤ fr) = true := decide_eq_true t1
  by_cases t2 : fr ≤ 1099511627776
  rotate_left
  · obtain rfl : V = false := by rw [hV]; simp [t2]
    have d2 : decide (fr ≤ 1099511627776) = false := decide_eq_false t2
    clear hV
    (go_enter Tryz.func83, Tryz.ntmps83; go_wp2_with (first | (go_at_call 33; refine (HVA.out _ (Env.keep HE.out belB)).mono ?_; rintro e w2 ⟨rfl, hb2⟩; (have hX2 : CBox w2 w.heap.size fr till pat A cl.length ca B co.length cb S si.length cs us := (by first | exact Blk.keep hX2 hb2 | exact Blk.keep (World.alloc_heap_new _ _) hb2); obtain ⟨x0, x1, x2, x3, x4, x5, x6⟩ := hX2.facts)) | (go_at_call 147; (first | (refine (C1.out _ belB).mono ?_; clear C1) | refine (C2.out _ belB).mono ?_); rintro e w2 ⟨rfl, hb2⟩; (have hX2 : CBox w2 w.heap.size fr till pat A cl.length ca B co.length cb S si.length cs us := (by first | exact Blk.keep hX2 hb2 | exact Blk.keep (World.alloc_heap_new _ _) hb2); obtain ⟨x0, x1, x2, x3, x4, x5, x6⟩ := hX2.facts)) | (go_at_call 150; refine (C3.out _ belB).mono ?_; rintro e w2 ⟨rfl, hb2⟩)); go_ret; exact ⟨rfl, belB⟩)
  have d2 : decide (fr ≤ 1099511627776) = true := decide_eq_true t2
  by_cases t3 : 0 ≤ till
  rotate_left
  · obtain rfl : V = false := by rw [hV]; simp [t3]
    have d3 : decide (0 ≤ till) = false := decide_eq_false t3
    clear hV
    (go_enter Tryz.func83, Tryz.ntmps83; go_wp2_with (first | (go_at_call 33; refine (HVA.out _ (Env.keep HE.out belB)).mono ?_; rintro e w2 ⟨rfl, hb2⟩; (have hX2 : CBox w2 w.heap.size fr till pat A cl.length ca B co.length cb S si.length cs us := (by first | exact Blk.keep hX2 hb2 | exact Blk.keep (World.alloc_heap_new _ _) hb2); obtain ⟨x0, x1, x2, x3, x4, x5, x6⟩ := hX2.facts)) | (go_at_call 147; (first | (refine (C1.out _ belB).mono ?_; clear C1) | refine (C2.out _ belB).mono ?_); rintro e w2 ⟨rfl, hb2⟩; (have hX2 : CBox w2 w.heap.size fr till pat A cl.length ca B co.length cb S si.length cs us := (by first | exact Blk.keep hX2 hb2 | exact Blk.keep (World.alloc_heap_new _ _) hb2); obtain ⟨x0, x1, x2, x3, x4, x5, x6⟩ := hX2.facts)) | (go_at_call 150; refine (C3.out _ belB).mono ?_; rintro e w2 ⟨rfl, hb2⟩)); go_ret; exact ⟨rfl, belB⟩)
  have d3 : decide (0 ≤ till) = true := decide_eq_true t3
  by_cases t4 : till ≤ 1099511627777
  rotate_left
  · obtain rfl : V = false := by rw [hV]; simp [t4]
    have d4 : decide (till ≤ 1099511627777) = false := decide_eq_false t4
    clear hV
    (go_enter Tryz.func83, Tryz.ntmps83; go_wp2_with (first | (go_at_call 33; refine (HVA.out _ (Env.keep HE.out belB)).mono ?_; rintro e w2 ⟨rfl, hb2⟩; (have hX2 : CBox w2 w.heap.size fr till pat A cl.length ca B co.length cb S si.length cs us := (by first | exact Blk.keep hX2 hb2 | exact Blk.keep (World.alloc_heap_new _ _) hb2); obtain ⟨x0, x1, x2, x3, x4, x5, x6⟩ := hX2.facts)) | (go_at_call 147; (first | (refine (C1.out _ belB).mono ?_; clear C1) | refine (C2.out _ belB).mono ?_); rintro e w2 ⟨rfl, hb2⟩; (have hX2 : CBox w2 w.heap.size fr till pat A cl.length ca B co.length cb S si.length cs us := (by first | exact Blk.keep hX2 hb2 | exact Blk.keep (World.alloc_heap_new _ _) hb2); obtain ⟨x0, x1, x2, x3, x4, x5, x6⟩ := hX2.facts)) | (go_at_call 150; refine (C3.out _ belB).mono ?_; rintro e w2 ⟨rfl, hb2⟩)); go_ret; exact ⟨rfl, belB⟩)
  have d4 : decide (till ≤ 1099511627777) = true := decide_eq_true t4
  by_cases t5 : 0 ≤ us
  rotate_left
  · obtain rfl : V = false := by rw [hV]; simp [t5]
    have d5 : decide (0 ≤ us) = false := decide_eq_false t5
    clear hV
    (go_enter Tryz.func83, Tryz.ntmps83; go_wp2_with (first | (go_at_call 33; refine (HVA.out _ (Env.keep HE.out belB)).mono ?_; rintro e w2 ⟨rfl, hb2⟩; (have hX2 : CBox w2 w.heap.size fr till pat A cl.length ca B co.length cb S si.length cs us := (by first | exact Blk.keep hX2 hb2 | exact Blk.keep (World.alloc_heap_new _ _) hb2); obtain ⟨x0, x1, x2, x3, x4, x5, x6⟩ := hX2.facts)) | (go_at_call 147; (first | (refine (C1.out _ belB).mono ?_; clear C1) | refine (C2.out _ belB).mono ?_); rintro e w2 ⟨rfl, hb2⟩; (have hX2 : CBox w2 w.heap.size fr till pat A cl.length ca B co.length cb S si.length cs us := (by first | exact Blk.keep hX2 hb2 | exact Blk.keep (World.alloc_heap_new _ _) hb2); obtain ⟨x0, x1, x2, x3, x4, x5, x6⟩ := hX2.facts)) | (go_at_call 150; refine (C3.out _ belB).mono ?_; rintro e w2 ⟨rfl, hb2⟩)); go_ret; exact ⟨rfl, belB⟩)
  have d5 : decide (0 ≤ us) = true := decide_eq_true t5
  by_cases t6 : us ≤ 1073741824
  rotate_left
  · obtain rfl : V = false := by rw [hV]; simp [t6]
    have d6 : decide (us ≤ 1073741824) = false := decide_eq_false t6
    clear hV
    (go_enter Tryz.func83, Tryz.ntmps83; go_wp2_with (first | (go_at_call 33; refine (HVA.out _ (Env.keep HE.out belB)).mono ?_; rintro e w2 ⟨rfl, hb2⟩; (have hX2 : CBox w2 w.heap.size fr till pat A cl.length ca B co.length cb S si.length cs us := (by first | exact Blk.keep hX2 hb2 | exact Blk.keep (World.alloc_heap_new _ _) hb2); obtain ⟨x0, x1, x2, x3, x4, x5, x6⟩ := hX2.facts)) | (go_at_call 147; (first | (refine (C1.out _ belB).mono ?_; clear C1) | refine (C2.out _ belB).mono ?_); rintro e w2 ⟨rfl, hb2⟩; (have hX2 : CBox w2 w.heap.size fr till pat A cl.length ca B co.length cb S si.length cs us := (by first | exact Blk.keep hX2 hb2 | exact Blk.keep (World.alloc_heap_new _ _) hb2); obtain ⟨x0, x1, x2, x3, x4, x5, x6⟩ := hX2.facts)) | (go_at_call 150; refine (C3.out _ belB).mono ?_; rintro e w2 ⟨rfl, hb2⟩)); go_ret; exact ⟨rfl, belB⟩)
  have d6 : decide (us ≤ 1073741824) = true := decide_eq_true t6
  have hV2 : V = ((decide (pat.size = 0) || b1) && b2 && b3 && b4) := by rw [hV]; simp [t1, t2, t3, t4, t5, t6]
  clear hV
  by_cases hs : pat.size = 0
  · obtain rfl : pat = ⟨#[]⟩ := bytes_ext (List.eq_nil_of_length_eq_zero (by rw [← Lib.size_eq]; exact hs))
    clear hs
    cases b2
    · obtain rfl : V = false := by rw [hV2]; simp
      clear hV2
      (go_enter Tryz.func83, Tryz.ntmps83; go_wp2_with (first | (go_at_call 147; (first | (refine (C1.out _ belB).mono ?_; clear C1) | refine (C2.out _ belB).mono ?_); rintro e w2 ⟨rfl, hb2⟩; (have hX2 : CBox w2 w.heap.size fr till ⟨#[]⟩ A cl.length ca B co.length cb S si.length cs us := (by first | exact Blk.keep hX2 hb2 | exact Blk.keep (World.alloc_heap_new _ _) hb2); obtain ⟨x0, x1, x2, x3, x4, x5, x6⟩ := hX2.facts)) | (go_at_call 150; refine (C3.out _ belB).mono ?_; rintro e w2 ⟨rfl, hb2⟩)); go_ret; exact ⟨rfl, belB⟩)
    cases b3
    · obtain rfl : V = false := by rw [hV2]; simp
      clear hV2
      (go_enter Tryz.func83, Tryz.ntmps83; go_wp2_with (first | (go_at_call 147; (first | (refine (C1.out _ belB).mono ?_; clear C1) | refine (C2.out _ belB).mono ?_); rintro e w2 ⟨rfl, hb2⟩; (have hX2 : CBox w2 w.heap.size fr till ⟨#[]⟩ A cl.length ca B co.length cb S si.length cs us := (by first | exact Blk.keep hX2 hb2 | exact Blk.keep (World.alloc_heap_new _ _) hb2); obtain ⟨x0, x1, x2, x3, x4, x5, x6⟩ := hX2.facts)) | (go_at_call 150; refine (C3.out _ belB).mono ?_; rintro e w2 ⟨rfl, hb2⟩)); go_ret; exact ⟨rfl, belB⟩)
    obtain rfl : V = b4 := by rw [hV2]; cases b1 <;> cases b4 <;> rfl
    clear hV2
    (go_enter Tryz.func83, Tryz.ntmps83; go_wp2_with (first | (go_at_call 147; (first | (refine (C1.out _ belB).mono ?_; clear C1) | refine (C2.out _ belB).mono ?_); rintro e w2 ⟨rfl, hb2⟩; (have hX2 : CBox w2 w.heap.size fr till ⟨#[]⟩ A cl.length ca B co.length cb S si.length cs us := (by first | exact Blk.keep hX2 hb2 | exact Blk.keep (World.alloc_heap_new _ _) hb2); obtain ⟨x0, x1, x2, x3, x4, x5, x6⟩ := hX2.facts)) | (go_at_call 150; refine (C3.out _ belB).mono ?_; rintro e w2 ⟨rfl, hb2⟩)); go_ret; exact ⟨rfl, belB⟩)
  · have hn : ¬ pat.toList = [] := fun e => hs (by rw [Lib.toList_data] at e; rw [Lib.size_eq, e]; rfl)
    have hn2 : (pat.toList == []) = false := by simpa using hn
    rw [decide_eq_false hs, Bool.false_or] at hV2
    cases b1
    · obtain rfl : V = false := by rw [hV2]; simp
      clear hV2
      (go_enter Tryz.func83, Tryz.ntmps83; go_wp2_with (first | (go_at_call 33; refine (HVA.out _ (Env.keep HE.out belB)).mono ?_; rintro e w2 ⟨rfl, hb2⟩; (have hX2 : CBox w2 w.heap.size fr till pat A cl.length ca B co.length cb S si.length cs us := (by first | exact Blk.keep hX2 hb2 | exact Blk.keep (World.alloc_heap_new _ _) hb2); obtain ⟨x0, x1, x2, x3, x4, x5, x6⟩ := hX2.facts)) | (go_at_call 147; (first | (refine (C1.out _ belB).mono ?_; clear C1) | refine (C2.out _ belB).mono ?_); rintro e w2 ⟨rfl, hb2⟩; (have hX2 : CBox w2 w.heap.size fr till pat A cl.length ca B co.length cb S si.length cs us := (by first | exact Blk.keep hX2 hb2 | exact Blk.keep (World.alloc_heap_new _ _) hb2); obtain ⟨x0, x1, x2, x3, x4, x5, x6⟩ := hX2.facts)) | (go_at_call 150; refine (C3.out _ belB).mono ?_; rintro e w2 ⟨rfl, hb2⟩)); go_ret; exact ⟨rfl, belB⟩)
    cases b2
    · obtain rfl : V = false := by rw [hV2]; simp
      clear hV2
      (go_enter Tryz.func83, Tryz.ntmps83; go_wp2_with (first | (go_at_call 33; refine (HVA.out _ (Env.keep HE.out belB)).mono ?_; rintro e w2 ⟨rfl, hb2⟩; (have hX2 : CBox w2 w.heap.size fr till pat A cl.length ca B co.length cb S si.length cs us := (by first | exact Blk.keep hX2 hb2 | exact Blk.keep (World.alloc_heap_new _ _) hb2); obtain ⟨x0, x1, x2, x3, x4, x5, x6⟩ := hX2.facts)) | (go_at_call 147; (first | (refine (C1.out _ belB).mono ?_; clear C1) | refine (C2.out _ belB).mono ?_); rintro e w2 ⟨rfl, hb2⟩; (have hX2 : CBox w2 w.heap.size fr till pat A cl.length ca B co.length cb S si.length cs us := (by first | exact Blk.keep hX2 hb2 | exact Blk.keep (World.alloc_heap_new _ _) hb2); obtain ⟨x0, x1, x2, x3, x4, x5, x6⟩ := hX2.facts)) | (go_at_call 150; refine (C3.out _ belB).mono ?_; rintro e w2 ⟨rfl, hb2⟩)); go_ret; exact ⟨rfl, belB⟩)
    cases b3
    · obtain rfl : V = false := by rw [hV2]; simp
      clear hV2
      (go_enter Tryz.func83, Tryz.ntmps83; go_wp2_with (first | (go_at_call 33; refine (HVA.out _ (Env.keep HE.out belB)).mono ?_; rintro e w2 ⟨rfl, hb2⟩; (have hX2 : CBox w2 w.heap.size fr till pat A cl.length ca B co.length cb S si.length cs us := (by first | exact Blk.keep hX2 hb2 | exact Blk.keep (World.alloc_heap_new _ _) hb2); obtain ⟨x0, x1, x2, x3, x4, x5, x6⟩ := hX2.facts)) | (go_at_call 147; (first | (refine (C1.out _ belB).mono ?_; clear C1) | refine (C2.out _ belB).mono ?_); rintro e w2 ⟨rfl, hb2⟩; (have hX2 : CBox w2 w.heap.size fr till pat A cl.length ca B co.length cb S si.length cs us := (by first | exact Blk.keep hX2 hb2 | exact Blk.keep (World.alloc_heap_new _ _) hb2); obtain ⟨x0, x1, x2, x3, x4, x5, x6⟩ := hX2.facts)) | (go_at_call 150; refine (C3.out _ belB).mono ?_; rintro e w2 ⟨rfl, hb2⟩)); go_ret; exact ⟨rfl, belB⟩)
    obtain rfl : V = b4 := by rw [hV2]; cases b4 <;> rfl
    clear hV2
    (go_enter Tryz.func83, Tryz.ntmps83; go_wp2_with (first | (go_at_call 33; refine (HVA.out _ (Env.keep HE.out belB)).mono ?_; rintro e w2 ⟨rfl, hb2⟩; (have hX2 : CBox w2 w.heap.size fr till pat A cl.length ca B co.length cb S si.length cs us := (by first | exact Blk.keep hX2 hb2 | exact Blk.keep (World.alloc_heap_new _ _) hb2); obtain ⟨x0, x1, x2, x3, x4, x5, x6⟩ := hX2.facts)) | (go_at_call 147; (first | (refine (C1.out _ belB).mono ?_; clear C1) | refine (C2.out _ belB).mono ?_); rintro e w2 ⟨rfl, hb2⟩; (have hX2 : CBox w2 w.heap.size fr till pat A cl.length ca B co.length cb S si.length cs us := (by first | exact Blk.keep hX2 hb2 | exact Blk.keep (World.alloc_heap_new _ _) hb2); obtain ⟨x0, x1, x2, x3, x4, x5, x6⟩ := hX2.facts)) | (go_at_call 150; refine (C3.out _ belB).mono ?_; rintro e w2 ⟨rfl, hb2⟩)); go_ret; exact ⟨rfl, belB⟩)
end Go.Proofs.YtmlhecjhjjlhfaaGreatDoor
namespace Go.Proofs.YtmlhecjhjjlhfaaGreatDoor
open Go.RowKit Go.Sort
set_option linter.unusedVariables false
set_option linter.unusedSimpArgs false
set_option maxRecDepth 100000
theorem s1 : canonV (⟨#[65, 99, 109, 101, 47, 78, 101, 119, 115, 47, 46, 47, 50, 48, 50, 54, 47, 46, 46, 47, 97, 46, 72, 84, 77, 76, 47, 63, 98, 61, 50, 38, 97, 61, 49]⟩ : ByteArray) = .tuple #[.string (⟨#[97, 99, 109, 101, 47, 110, 101, 119, 115, 47, 97, 46, 104, 116, 109, 108, 63, 97, 61, 49, 38, 98, 61, 50]⟩ : ByteArray), .int .i64 0] := by kernel_rfl
theorem s2 : matchB (⟨#[97, 99, 109, 101, 47, 110, 101, 119, 115, 47, 42, 42]⟩ : ByteArray) (⟨#[97, 99, 109, 101, 47, 110, 101, 119, 115]⟩ : ByteArray) = true := by kernel_rfl
theorem s3 : matchB (⟨#[97, 99, 109, 101, 47, 42, 47, 42, 46, 104, 116, 109, 108]⟩ : ByteArray) (⟨#[97, 99, 109, 101, 47, 110, 101, 119, 115, 47, 97, 46, 104, 116, 109, 108]⟩ : ByteArray) = true := by kernel_rfl
theorem s4 : matchB (⟨#[97, 99, 109, 101, 47, 42]⟩ : ByteArray) (⟨#[97, 99, 109, 101, 47, 97, 47, 98]⟩ : ByteArray) = false := by kernel_rfl
theorem s5 : coversV (compileB (⟨#[97, 99, 109, 101, 47, 42, 42]⟩ : ByteArray)) (compileB (⟨#[97, 99, 109, 101, 47, 42, 46, 99, 115, 115]⟩ : ByteArray)) = .tuple #[.bool true, .string ⟨#[]⟩, .int .i64 0] := by kernel_rfl
theorem s6 : coversV (compileB (⟨#[97, 99, 109, 101, 47, 42, 46, 99, 115, 115]⟩ : ByteArray)) (compileB (⟨#[97, 99, 109, 101, 47, 42]⟩ : ByteArray)) = .tuple #[.bool false, .string (⟨#[97, 99, 109, 101, 47, 97]⟩ : ByteArray), .int .i64 0] := by kernel_rfl
theorem sortL_of {xs ys : List (List UInt8)} (hp : ys.Perm xs) (hs : ys.Pairwise (· ≤ ·)) : sortL xs = ys := by
  have tr : ∀ a b c : List UInt8, decide (a ≤ b) = true → decide (b ≤ c) = true → decide (a ≤ c) = true := fun a b c h1 h2 => by simp only [decide_eq_true_eq] at *; exact List.le_trans h1 h2
  have tot : ∀ a b : List UInt8, (decide (a ≤ b) || decide (b ≤ a)) = true := fun a b => by simp only [Bool.or_eq_true, decide_eq_true_eq]; exact List.le_total a b
  refine List.Perm.eq_of_pairwise (le := fun a b => decide (a ≤ b) = true) (fun a b _ _ h1 h2 => ?_) (List.pairwise_mergeSort tr tot _) (hs.imp fun h => decide_eq_true h) ((List.mergeSort_perm _ _).trans hp.symm)
  simp only [decide_eq_true_eq] at h1 h2
  exact List.le_antisymm h1 h2
theorem t10 : tagsL [(⟨#[98]⟩ : ByteArray), (⟨#[97]⟩ : ByteArray), (⟨#[98]⟩ : ByteArray)] = [97, 44, 98] := by
  have h : sortL (lists [(⟨#[98]⟩ : ByteArray), (⟨#[97]⟩ : ByteArray), (⟨#[98]⟩ : ByteArray)]) = [[97], [98], [98]] := sortL_of (by decide) (by decide)
  unfold tagsL
  rw [h]
  show Lib.join (Lib.compact [[97], [98], [98]]) [44] = [97, 44, 98]
  kernel_rfl
end Go.Proofs.YtmlhecjhjjlhfaaGreatDoor
