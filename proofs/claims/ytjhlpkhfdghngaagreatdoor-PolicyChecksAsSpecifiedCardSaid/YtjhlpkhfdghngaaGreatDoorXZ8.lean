/- What the specification's Valid of conditions returns. -/
import Derived.Test.YtjhlpkhfdghngaaGreatDoorXZ7
import Derived.Test.YtjhlpkhfdghngaaGreatDoorXZ5
import Derived.Test.YtjhlpkhfdghngaaGreatDoorXZ4
import Derived.Test.YtjhlpkhfdghngaaGreatDoorProg
import Derived.WalkKit
import Derived.WalkSpells
import Derived.WalkLawsBesides
import Derived.Below
import Derived.Deep.QuietTactic
import Derived.BigQuiet
import Derived.Lib.QuietBelow
import Derived.Lib.Strings
import Derived.Lib.Hide
import Derived.Deep.RegionWith
import Derived.Deep.RegionHeld3
import Derived.Lib.IndexBytes
import Derived.Test.YtjhlpkhfdghngaaGreatDoorXZ0
import Derived.Test.YtjhlpkhfdghngaaGreatDoorXZ1
import Derived.Test.YtjhlpkhfdghngaaGreatDoorXZ6
import Derived.Lib.ItoaLen
import Derived.Lib.AtoiTie
import Derived.Lib.AtoiAllCases
import Derived.Deep.DeepCutAuto
import Derived.KernelRfl
namespace Go.Proofs.YtjhlpkhfdghngaaGreatDoor
open Go.RowKit Go.Sort
set_option linter.unusedVariables false
set_option linter.unusedSimpArgs false
set_option maxRecDepth 100000
theorem okK_split {α : Type} (lt : α → α → Bool) (right : α → Bool) (l : List α) (k : Nat) : okK lt right l k = ((match l[k]? with
    | none => true
    | some x => right x) && okK lt (fun _ => true) l k) := by
  unfold okK
  cases l[k]? <;> simp
theorem setB_split (right : ByteArray → Bool) (most : Nat) (l : List ByteArray) : setB ltB right most l = (decide (l.length ≤ most) && l.all right && ascB l) := by
  unfold setB ascB
  rw [Bool.eq_iff_iff]
  simp only [Bool.and_eq_true, decide_eq_true_eq, List.all_eq_true]
  constructor
  · rintro ⟨h1, h2⟩
    refine ⟨⟨h2, fun x hx => ?_⟩, fun k hk => ?_⟩
    · obtain ⟨k, hk, rfl⟩ := List.getElem_of_mem hx
      have := h1 k (by simpa using hk)
      rw [okK_split, List.getElem?_eq_getElem hk, Bool.and_eq_true] at this
      exact this.1
    · have := h1 k hk
      rw [okK_split, Bool.and_eq_true] at this
      exact this.2
  · rintro ⟨⟨h1, h2⟩, h3⟩
    refine ⟨fun k hk => ?_, h1⟩
    rw [okK_split, Bool.and_eq_true]
    refine ⟨?_, h3 k hk⟩
    have hk' : k < l.length := by simpa using hk
    rw [List.getElem?_eq_getElem hk']
    exact h2 _ (List.getElem_mem hk')
def sitesOk (l : List Int) : Bool := (List.range l.length).all (okK ltI siteB l)
theorem sites_fail {l : List Int} {k : Nat} (hk : k < l.length) (h2 : okK ltI siteB l k = false) : sitesOk l = false := by
  unfold sitesOk
  rw [List.all_eq_false]
  exact ⟨k, by simpa using hk, by rw [h2]; simp⟩
theorem validC_split (c : CondV) : validC c = (timesB c && patOk c.pat && decide (c.cl.length ≤ 32) && decide (c.co.length ≤ 32) && decide (c.si.length ≤ 64) && (c.cl.all isNameB && c.co.all countryB && sitesOk c.si && ascB c.cl && ascB c.co)) := by
  unfold validC
  rw [setB_split, setB_split]
  have h3 : setB ltI siteB 64 c.si = (sitesOk c.si && decide (c.si.length ≤ 64)) := rfl
  rw [h3]
  generalize timesB c = a1
  generalize patOk c.pat = a2
  generalize decide (c.cl.length ≤ 32) = a3
  generalize decide (c.co.length ≤ 32) = a4
  generalize decide (c.si.length ≤ 64) = a5
  generalize c.cl.all isNameB = a6
  generalize c.co.all countryB = a7
  generalize sitesOk c.si = a8
  generalize ascB c.cl = a9
  generalize ascB c.co = a10
  revert a1 a2 a3 a4 a5 a6 a7 a8 a9 a10
  decide
set_option maxHeartbeats 16000000 in
theorem rValid21_any (c : CondV) (m : CondMem) (w : World) (hR : CondReads w c m) (hp : c.pat.size ≤ 100000) (hcl : ∀ x ∈ c.cl, x.size ≤ 100000) (hco : ∀ x ∈ c.co, x.size ≤ 100000) (h1 : c.cl.length ≤ 1000000) (h2 : c.co.length ≤ 1000000) (h3 : c.si.length ≤ 1000000) :
    Calls Tryz.prog 56 #[CondMem.val c m] w (Ret w (.bool (validC c))) := by
  obtain ⟨fr, till, pat, cl, co, si, us⟩ := c
  obtain ⟨A, ca, B, cb, S, cs⟩ := m
  obtain ⟨hA, hB, hS⟩ := hR
  dsimp only at hA hB hS hp hcl hco h1 h2 h3
  unfold CondMem.val
  dsimp only
  obtain ⟨V, hV⟩ : ∃ V, V = validC ⟨fr, till, pat, cl, co, si, us⟩ := ⟨_, rfl⟩
  rw [← hV]
  rw [validC_split] at hV
  unfold timesB patOk at hV
  dsimp only at hV
  have hva := fun W => rValid_any pat W hp
  have hna := fun x (hx : x ∈ cl) W => rName_any x W (by have := hcl x hx; omega)
  have hcy := fun x (hx : x ∈ co) W => rCountry_any x W (by have := hco x hx; omega)
  have has1 := fun W (hb : Below w.heap.size w W) => rAscend_any A cl.length ca cl W (hA.keep hb) (by omega)
  have has2 := fun W (hb : Below w.heap.size w W) => rAscend_any B co.length cb co W (hB.keep hb) (by omega)
  generalize (compileB pat).isSome = b1 at *
  obtain ⟨na, hna0⟩ : ∃ na, na = cl.length := ⟨_, rfl⟩
  obtain ⟨nb, hnb0⟩ : ∃ nb, nb = co.length := ⟨_, rfl⟩
  obtain ⟨ns, hns0⟩ : ∃ ns, ns = si.length := ⟨_, rfl⟩
  rw [← hna0] at hA hV h1 has1 ⊢
  rw [← hnb0] at hB hV h2 has2 ⊢
  rw [← hns0] at hS hV h3 ⊢
  have HVA := Lib.hid hva
  have HNA := Lib.hid hna
  have HCY := Lib.hid hcy
  have HAS1 := Lib.hid has1
  have HAS2 := Lib.hid has2
  have HA := Lib.hid hA; have HB := Lib.hid hB; have HS := Lib.hid hS
  have HLA := Lib.hid hna0; have HLB := Lib.hid hnb0; have HLS := Lib.hid hns0
  clear hva hna hcy has1 has2 hA hB hS hna0 hnb0 hns0 hcl hco hp
  by_cases t1 : 0 ≤ fr
  rotate_left
  · obtain rfl : V = false := by rw [hV]; simp [t1]
    have d1 : decide (fr < 0) = true := decide_eq_true (by omega)
    clear hV
    (go_enter Tryz.func56, Tryz.ntmps56; go_wp2_with (go_at_call 54; refine (HVA.out _).mono ?_; rintro e w2 ⟨rfl, hb2⟩; (have hX2 : CBox w2 w.heap.size fr till pat A na ca B nb cb S ns cs us := (by first | exact Blk.keep hX hb2 | exact Blk.keep hX2 hb2 | exact Blk.keep (World.alloc_heap_new _ _) hb2); obtain ⟨x0, x1, x2, x3, x4, x5, x6⟩ := hX2.facts)); go_ret; exact ⟨rfl, belB⟩)
  have d1 : decide (fr < 0) = false := decide_eq_false (by omega)
  by_cases t2 : fr ≤ 1099511627776
  rotate_left
  · obtain rfl : V = false := by rw [hV]; simp [t2]
    have d2 : decide (1099511627776 < fr) = true := decide_eq_true (by omega)
    clear hV
    (go_enter Tryz.func56, Tryz.ntmps56; go_wp2_with (go_at_call 54; refine (HVA.out _).mono ?_; rintro e w2 ⟨rfl, hb2⟩; (have hX2 : CBox w2 w.heap.size fr till pat A na ca B nb cb S ns cs us := (by first | exact Blk.keep hX hb2 | exact Blk.keep hX2 hb2 | exact Blk.keep (World.alloc_heap_new _ _) hb2); obtain ⟨x0, x1, x2, x3, x4, x5, x6⟩ := hX2.facts)); go_ret; exact ⟨rfl, belB⟩)
  have d2 : decide (1099511627776 < fr) = false := decide_eq_false (by omega)
  by_cases t3 : 0 ≤ till
  rotate_left
  · obtain rfl : V = false := by rw [hV]; simp [t3]
    have d3 : decide (till < 0) = true := decide_eq_true (by omega)
    clear hV
    (go_enter Tryz.func56, Tryz.ntmps56; go_wp2_with (go_at_call 54; refine (HVA.out _).mono ?_; rintro e w2 ⟨rfl, hb2⟩; (have hX2 : CBox w2 w.heap.size fr till pat A na ca B nb cb S ns cs us := (by first | exact Blk.keep hX hb2 | exact Blk.keep hX2 hb2 | exact Blk.keep (World.alloc_heap_new _ _) hb2); obtain ⟨x0, x1, x2, x3, x4, x5, x6⟩ := hX2.facts)); go_ret; exact ⟨rfl, belB⟩)
  have d3 : decide (till < 0) = false := decide_eq_false (by omega)
  by_cases t4 : till ≤ 1099511627777
  rotate_left
  · obtain rfl : V = false := by rw [hV]; simp [t4]
    have d4 : decide (1099511627777 < till) = true := decide_eq_true (by omega)
    clear hV
    (go_enter Tryz.func56, Tryz.ntmps56; go_wp2_with (go_at_call 54; refine (HVA.out _).mono ?_; rintro e w2 ⟨rfl, hb2⟩; (have hX2 : CBox w2 w.heap.size fr till pat A na ca B nb cb S ns cs us := (by first | exact Blk.keep hX hb2 | exact Blk.keep hX2 hb2 | exact Blk.keep (World.alloc_heap_new _ _) hb2); obtain ⟨x0, x1, x2, x3, x4, x5, x6⟩ := hX2.facts)); go_ret; exact ⟨rfl, belB⟩)
  have d4 : decide (1099511627777 < till) = false := decide_eq_false (by omega)
  by_cases t5 : 0 ≤ us
  rotate_left
  · obtain rfl : V = false := by rw [hV]; simp [t5]
    have d5 : decide (us < 0) = true := decide_eq_true (by omega)
    clear hV
    (go_enter Tryz.func56, Tryz.ntmps56; go_wp2_with (go_at_call 54; refine (HVA.out _).mono ?_; rintro e w2 ⟨rfl, hb2⟩; (have hX2 : CBox w2 w.heap.size fr till pat A na ca B nb cb S ns cs us := (by first | exact Blk.keep hX hb2 | exact Blk.keep hX2 hb2 | exact Blk.keep (World.alloc_heap_new _ _) hb2); obtain ⟨x0, x1, x2, x3, x4, x5, x6⟩ := hX2.facts)); go_ret; exact ⟨rfl, belB⟩)
  have d5 : decide (us < 0) = false := decide_eq_false (by omega)
  by_cases t6 : us ≤ 1073741824
  rotate_left
  · obtain rfl : V = false := by rw [hV]; simp [t6]
    have d6 : decide (1073741824 < us) = true := decide_eq_true (by omega)
    clear hV
    (go_enter Tryz.func56, Tryz.ntmps56; go_wp2_with (go_at_call 54; refine (HVA.out _).mono ?_; rintro e w2 ⟨rfl, hb2⟩; (have hX2 : CBox w2 w.heap.size fr till pat A na ca B nb cb S ns cs us := (by first | exact Blk.keep hX hb2 | exact Blk.keep hX2 hb2 | exact Blk.keep (World.alloc_heap_new _ _) hb2); obtain ⟨x0, x1, x2, x3, x4, x5, x6⟩ := hX2.facts)); go_ret; exact ⟨rfl, belB⟩)
  have d6 : decide (1073741824 < us) = false := decide_eq_false (by omega)
  have hV2 : V = ((decide (pat.size = 0) || b1) && decide (na ≤ 32) && decide (nb ≤ 32) && decide (ns ≤ 64) && (cl.all isNameB && co.all countryB && sitesOk si && ascB cl && ascB co)) := by rw [hV]; simp [t1, t2, t3, t4, t5, t6]
  clear hV
  have hpc : (pat.size = 0 ∧ pat.toList = [] ∧ (pat.toList != []) = false) ∨ (pat.size ≠ 0 ∧ ¬ pat.toList = [] ∧ (pat.toList != []) = true) := by
    by_cases h : pat.size = 0
    · have e : pat.toList = [] := by rw [Lib.toList_data]; exact List.eq_nil_of_length_eq_zero (by rw [← Lib.size_eq]; exact h)
      exact .inl ⟨h, e, by rw [e]; rfl⟩
    · have e : ¬ pat.toList = [] := fun e => h (by rw [Lib.toList_data] at e; rw [Lib.size_eq, e]; rfl)
      exact .inr ⟨h, e, by simpa using e⟩
  have hb1 : (pat.size ≠ 0 ∧ b1 = false) ∨ (pat.size = 0 ∨ b1 = true) := by
    by_cases h : pat.size = 0
    · exact .inr (.inl h)
    · cases b1
      · exact .inl ⟨h, rfl⟩
      · exact .inr (.inr rfl)
  rcases hb1 with ⟨hs, rfl⟩ | hb1
  · rcases hpc with ⟨hs2, _⟩ | ⟨_, hn, hn2⟩
    · exact absurd hs2 hs
    obtain rfl : V = false := by rw [hV2]; simp [hs]
    clear hV2 hs
    (go_enter Tryz.func56, Tryz.ntmps56; go_wp2_with (go_at_call 54; refine (HVA.out _).mono ?_; rintro e w2 ⟨rfl, hb2⟩; (have hX2 : CBox w2 w.heap.size fr till pat A na ca B nb cb S ns cs us := (by first | exact Blk.keep hX hb2 | exact Blk.keep hX2 hb2 | exact Blk.keep (World.alloc_heap_new _ _) hb2); obtain ⟨x0, x1, x2, x3, x4, x5, x6⟩ := hX2.facts)); go_ret; exact ⟨rfl, belB⟩)
  have hV3 : V = (decide (na ≤ 32) && decide (nb ≤ 32) && decide (ns ≤ 64) && (cl.all isNameB && co.all countryB && sitesOk si && ascB cl && ascB co)) := by
    rw [hV2]
    rcases hb1 with h | h <;> simp [h]
  clear hV2
  have hpd : (pat.toList = [] ∧ (pat.toList != []) = false) ∨ (b1 = true ∧ ¬ pat.toList = [] ∧ (pat.toList != []) = true) := by
    rcases hpc with ⟨h1, h2⟩ | ⟨h1, h2⟩
    · exact .inl h2
    · rcases hb1 with h | h
      · exact absurd h h1
      · exact .inr ⟨h, h2⟩
  clear hpc hb1
  rcases hpd with ⟨hn, hn2⟩ | ⟨rfl, hn, hn2⟩
  all_goals
    by_cases t7 : na ≤ 32
    rotate_left
    · obtain rfl : V = false := by rw [hV3]; simp [t7]
      have d7 : decide ((32 : Int) < (na : Int)) = true := decide_eq_true (by omega)
      clear hV3
      (go_enter Tryz.func56, Tryz.ntmps56; go_wp2_with (go_at_call 54; refine (HVA.out _).mono ?_; rintro e w2 ⟨rfl, hb2⟩; (have hX2 : CBox w2 w.heap.size fr till pat A na ca B nb cb S ns cs us := (by first | exact Blk.keep hX hb2 | exact Blk.keep hX2 hb2 | exact Blk.keep (World.alloc_heap_new _ _) hb2); obtain ⟨x0, x1, x2, x3, x4, x5, x6⟩ := hX2.facts)); go_ret; exact ⟨rfl, belB⟩)
    have d7 : decide ((32 : Int) < (na : Int)) = false := decide_eq_false (by omega)
    by_cases t8 : nb ≤ 32
    rotate_left
    · obtain rfl : V = false := by rw [hV3]; simp [t8]
      have d8 : decide ((32 : Int) < (nb : Int)) = true := decide_eq_true (by omega)
      clear hV3
      (go_enter Tryz.func56, Tryz.ntmps56; go_wp2_with (go_at_call 54; refine (HVA.out _).mono ?_; rintro e w2 ⟨rfl, hb2⟩; (have hX2 : CBox w2 w.heap.size fr till pat A na ca B nb cb S ns cs us := (by first | exact Blk.keep hX hb2 | exact Blk.keep hX2 hb2 | exact Blk.keep (World.alloc_heap_new _ _) hb2); obtain ⟨x0, x1, x2, x3, x4, x5, x6⟩ := hX2.facts)); go_ret; exact ⟨rfl, belB⟩)
    have d8 : decide ((32 : Int) < (nb : Int)) = false := decide_eq_false (by omega)
    by_cases t9 : ns ≤ 64
    rotate_left
    · obtain rfl : V = false := by rw [hV3]; simp [t9]
      have d9 : decide ((64 : Int) < (ns : Int)) = true := decide_eq_true (by omega)
      clear hV3
      (go_enter Tryz.func56, Tryz.ntmps56; go_wp2_with (go_at_call 54; refine (HVA.out _).mono ?_; rintro e w2 ⟨rfl, hb2⟩; (have hX2 : CBox w2 w.heap.size fr till pat A na ca B nb cb S ns cs us := (by first | exact Blk.keep hX hb2 | exact Blk.keep hX2 hb2 | exact Blk.keep (World.alloc_heap_new _ _) hb2); obtain ⟨x0, x1, x2, x3, x4, x5, x6⟩ := hX2.facts)); go_ret; exact ⟨rfl, belB⟩)
    have d9 : decide ((64 : Int) < (ns : Int)) = false := decide_eq_false (by omega)
    have hv4 : V = (cl.all isNameB && co.all countryB && sitesOk si && ascB cl && ascB co) := by rw [hV3]; simp [t7, t8, t9]
    have HV := Lib.hid hv4
    clear hV3 hv4
    go_enter Tryz.func56, Tryz.ntmps56
    go_wp2_with (go_at_call 54; refine (HVA.out _).mono ?_; rintro e w2 ⟨rfl, hb2⟩; (have hX2 : CBox w2 w.heap.size fr till pat A na ca B nb cb S ns cs us := (by first | exact Blk.keep hX hb2 | exact Blk.keep hX2 hb2 | exact Blk.keep (World.alloc_heap_new _ _) hb2); obtain ⟨x0, x1, x2, x3, x4, x5, x6⟩ := hX2.facts))
    go_loopw [3] (fun vi wr => ∃ k : Nat, vi = .int .i64 k ∧ k ≤ na ∧ Hid ((cl.take k).all isNameB = true) ∧ CBox wr w.heap.size fr till pat A na ca B nb cb S ns cs us ∧ Below w.heap.size w wr) (fun i _ => na - (intOf i).toNat)
    case atStart => exact ⟨0, rfl, Nat.zero_le _, Lib.hid (by simp), (by first | exact hX2 | exact World.alloc_heap_new _ _), belB⟩
    case round =>
      try clear hX2
      try clear hb2
      clear d1 d2 d3 d4 d5 d6 d7 d8 d9 hn hn2
      obtain ⟨k, rfl, hk, HK, hX, hbr⟩ := hrel
      obtain ⟨x0, x1, x2, x3, x4, x5, x6⟩ := hX.facts
      by_cases hlt : k < na
      · obtain ⟨x, hx⟩ : ∃ x, cl[k]? = some x := ⟨_, List.getElem?_eq_getElem (by have := HLA.out; omega)⟩
        obtain ⟨b, o, rfl, hcell⟩ := (HA.out.keep hbr).2 (by omega)
        have hc1 : wr.cell? ⟨b, o + k, none⟩ = some (.string x) := hcell k _ (by simp [hx])
        have hk0 : (0 : Int) ≤ (k : Int) := by omega
        have hk1 : (k : Int) < (na : Int) := by omega
        have cN := HNA.out x (List.mem_of_getElem? hx)
        cases hs : isNameB x
        · obtain rfl : V = false := by rw [HV.out, all_false2 hx hs]; rfl
          rw [hs] at cN
          have HC := Lib.hid cN
          clear hcell hx HK hs cN
          go_wp2_with (go_at_call 53; refine (HC.out _).mono ?_; rintro e w2 ⟨rfl, hb2⟩)
          go_ret
          exact ⟨rfl, belB⟩
        · have HK2 : Hid ((cl.take (k + 1)).all isNameB = true) := Lib.hid (all_take2 HK.out hx hs)
          rw [hs] at cN
          have HC := Lib.hid cN
          clear hcell hx HK hs cN
          go_wp2_with (go_at_call 53; refine (HC.out _).mono ?_; rintro e w2 ⟨rfl, hb2⟩)
          exact ⟨⟨k + 1, by go_num, by omega, HK2, Blk.keep hX hb2, belB⟩, by simp [intOf]; omega⟩
      · obtain rfl : k = na := by omega
        have hall : cl.all isNameB = true := by
          have := HK.out
          rwa [List.take_of_length_le (by have := HLA.out; omega)] at this
        have hv5 : V = (co.all countryB && sitesOk si && ascB cl && ascB co) := by rw [HV.out, hall, Bool.true_and]
        have HV2 := Lib.hid hv5
        clear hall hv5 HK HV HNA
        go_wp2
        clear x0 x1 x2 x3 x4 x5 x6
        obtain ⟨wo, rfl⟩ : ∃ wo : World, wo = wr := ⟨_, rfl⟩
        go_loopw [4] (fun vi wz => ∃ j : Nat, vi = .int .i64 j ∧ j ≤ nb ∧ Hid ((co.take j).all countryB = true) ∧ CBox wz w.heap.size fr till pat A k ca B nb cb S ns cs us ∧ Below w.heap.size w wz) (fun i _ => nb - (intOf i).toNat)
        case atStart => exact ⟨0, rfl, Nat.zero_le _, Lib.hid (by simp), hX, hbr⟩
        case round =>
          clear hX hbr
          obtain ⟨j, rfl, hj, HJ, hX, hbr⟩ := hrel
          obtain ⟨x0, x1, x2, x3, x4, x5, x6⟩ := hX.facts
          by_cases hlt2 : j < nb
          · obtain ⟨x, hx⟩ : ∃ x, co[j]? = some x := ⟨_, List.getElem?_eq_getElem (by have := HLB.out; omega)⟩
            obtain ⟨b, o, rfl, hcell⟩ := (HB.out.keep hbr).2 (by omega)
            have hc1 : wr.cell? ⟨b, o + j, none⟩ = some (.string x) := hcell j _ (by simp [hx])
            have hj0 : (0 : Int) ≤ (j : Int) := by omega
            have hj1 : (j : Int) < (nb : Int) := by omega
            have cN := HCY.out x (List.mem_of_getElem? hx)
            cases hs : countryB x
            · obtain rfl : V = false := by rw [HV2.out, all_false2 hx hs]; rfl
              rw [hs] at cN
              have HC := Lib.hid cN
              clear hcell hx HJ hs cN
              go_wp2_with (go_at_call 90; refine (HC.out _).mono ?_; rintro e w2 ⟨rfl, hb2⟩)
              go_ret
              exact ⟨rfl, belB⟩
            · have HJ2 : Hid ((co.take (j + 1)).all countryB = true) := Lib.hid (all_take2 HJ.out hx hs)
              rw [hs] at cN
              have HC := Lib.hid cN
              clear hcell hx HJ hs cN
              go_wp2_with (go_at_call 90; refine (HC.out _).mono ?_; rintro e w2 ⟨rfl, hb2⟩)
              exact ⟨⟨j + 1, by go_num, by omega, HJ2, Blk.keep hX hb2, belB⟩, by simp [intOf]; omega⟩
          · obtain rfl : j = nb := by omega
            have hall : co.all countryB = true := by
              have := HJ.out
              rwa [List.take_of_length_le (by have := HLB.out; omega)] at this
            have hv6 : V = (sitesOk si && ascB cl && ascB co) := by rw [HV2.out, hall, Bool.true_and]
            have HV3 := Lib.hid hv6
            clear hall hv6 HJ HV2 HCY
            go_wp2
            clear x0 x1 x2 x3 x4 x5 x6
            obtain ⟨wo2, rfl⟩ : ∃ wo2 : World, wo2 = wr := ⟨_, rfl⟩
            go_loopw [5] (fun vi wz => ∃ i : Nat, vi = .int .i64 i ∧ i ≤ ns ∧ Hid ((List.range i).all (okK ltI siteB si) = true) ∧ CBox wz w.heap.size fr till pat A k ca B j cb S ns cs us ∧ Below w.heap.size w wz) (fun i _ => ns - (intOf i).toNat)
            case atStart => exact ⟨0, rfl, Nat.zero_le _, Lib.hid rfl, hX, hbr⟩
            case round =>
              clear hX hbr
              obtain ⟨i, rfl, hi, HI, hX, hbr⟩ := hrel
              obtain ⟨x0, x1, x2, x3, x4, x5, x6⟩ := hX.facts
              by_cases hlt3 : i < ns
              · obtain ⟨x, hx⟩ : ∃ x, si[i]? = some x := ⟨_, List.getElem?_eq_getElem (by have := HLS.out; omega)⟩
                obtain ⟨b, o, rfl, hcell⟩ := (HS.out.keep hbr).2 (by omega)
                have hc1 : wr.cell? ⟨b, o + i, none⟩ = some (.int .i64 x) := hcell i _ (by simp [hx])
                have hi0 : (0 : Int) ≤ (i : Int) := by omega
                have hi1 : (i : Int) < (ns : Int) := by omega
                have hok : okK ltI siteB si i = (siteB x && (i == 0 || (match si[i - 1]? with
                  | none => true
                  | some y => ltI y x))) := by unfold okK; rw [hx]; cases si[i - 1]? <;> rfl
                have hfail : okK ltI siteB si i = false → V = false := fun h => by rw [HV3.out, sites_fail (by have := HLS.out; omega) h]; rfl
                by_cases s0 : 0 ≤ x
                rotate_left
                · obtain rfl : V = false := hfail (by rw [hok]; unfold siteB; simp [s0])
                  have e0 : decide (x < 0) = true := decide_eq_true (by omega)
                  clear hcell hx HI hok hfail
                  go_wp2_with fail
                  go_quiet (fail)
                  go_wp2
                  go_ret
                  exact ⟨rfl, belB⟩
                have e0 : decide (x < 0) = false := decide_eq_false (by omega)
                by_cases s1 : x < 64
                rotate_left
                · obtain rfl : V = false := hfail (by rw [hok]; unfold siteB; simp [s1])
                  have e1 : decide (64 ≤ x) = true := decide_eq_true (by omega)
                  clear hcell hx HI hok hfail
                  go_wp2_with fail
                  go_quiet (fail)
                  go_wp2
                  go_ret
                  exact ⟨rfl, belB⟩
                have e1 : decide (64 ≤ x) = false := decide_eq_false (by omega)
                have hsx : siteB x = true := decide_eq_true ⟨s0, s1⟩
                rw [hsx, Bool.true_and] at hok
                rcases i with _ | i
                · have HI2 : Hid ((List.range (0 + 1)).all (okK ltI siteB si) = true) := Lib.hid (okK_upto HI.out (by rw [hok]; rfl))
                  simp only [Nat.add_zero] at hc1
                  clear hcell hx HI hok hfail
                  go_wp2_with fail
                  go_quiet (fail)
                  go_wp2
                  exact ⟨⟨1, by go_num, by omega, HI2, Blk.keep hX belB, belB⟩, by simp [intOf]; omega⟩
                · obtain ⟨y, hy⟩ : ∃ y, si[i]? = some y := ⟨_, List.getElem?_eq_getElem (by have := HLS.out; omega)⟩
                  have hc2 : wr.cell? ⟨b, o + i, none⟩ = some (.int .i64 y) := hcell i _ (by simp [hy])
                  have hle := le_prevI x y
                  rw [Nat.add_sub_cancel, hy] at hok
                  have hok2 : okK ltI siteB si (i + 1) = ltI y x := by rw [hok]; simp
                  have hii0 : (0 : Int) ≤ (i : Int) := by omega
                  have hii1 : (i : Int) < (ns : Int) := by omega
                  cases ht : ltI y x
                  · obtain rfl : V = false := hfail (by rw [hok2, ht])
                    rw [ht] at hle
                    clear hcell hx HI hok hok2 hfail hy ht
                    go_wp2_with fail
                    go_quiet (fail)
                    go_wp2
                    go_ret
                    exact ⟨rfl, belB⟩
                  · have HI2 : Hid ((List.range (i + 1 + 1)).all (okK ltI siteB si) = true) := Lib.hid (okK_upto HI.out (by rw [hok2, ht]))
                    rw [ht] at hle
                    clear hcell hx HI hok hok2 hfail hy ht
                    go_wp2_with fail
                    go_quiet (fail)
                    go_wp2
                    exact ⟨⟨i + 1 + 1, by go_num, by omega, HI2, Blk.keep hX belB, belB⟩, by simp [intOf]; omega⟩
              · obtain rfl : i = ns := by omega
                have hall : sitesOk si = true := by
                  unfold sitesOk
                  rw [← HLS.out]
                  exact HI.out
                have hv7 : V = (ascB cl && ascB co) := by rw [HV3.out, hall, Bool.true_and]
                have c1 := HAS1.out
                have c2 := HAS2.out
                obtain ⟨a1, ha1⟩ : ∃ x, x = ascB cl := ⟨_, rfl⟩
                obtain ⟨a2, ha2⟩ : ∃ x, x = ascB co := ⟨_, rfl⟩
                rw [← ha1] at hv7 c1
                rw [← ha2] at hv7 c2
                clear hall HI HV3 HAS1 HAS2 ha1 ha2
                cases a1
                · obtain rfl : V = false := hv7
                  have C1 := Lib.hid c1
                  clear c1 c2
                  go_wp2_with (go_at_call 114; refine (C1.out _ belB).mono ?_; rintro e w2 ⟨rfl, hb2⟩)
                  go_ret
                  exact ⟨rfl, belB⟩
                · obtain rfl : V = a2 := hv7
                  have C1 := Lib.hid c1
                  have C2 := Lib.hid c2
                  clear c1 c2
                  go_wp2_with (go_at_call 114; first | (refine (C1.out _ belB).mono ?_; clear C1; rintro e w2 ⟨rfl, hb2⟩; have hX2 := Blk.keep hX hb2; obtain ⟨y0, y1, y2, y3, y4, y5, y6⟩ := CBox.facts hX2) | (refine (C2.out _ belB).mono ?_; rintro e w3 ⟨rfl, hb3⟩))
                  go_ret
                  exact ⟨rfl, belB⟩
end Go.Proofs.YtjhlpkhfdghngaaGreatDoor
namespace Go.Proofs.YtjhlpkhfdghngaaGreatDoor
open Go.RowKit Go.Sort
set_option linter.unusedVariables false
set_option linter.unusedSimpArgs false
set_option maxRecDepth 100000
def bothP (p q : ByteArray) : Option (Option Pat) := match compileB p, compileB q with
  | some x, some y => some (commonP x y)
  | _, _ => none
def BothPost (r : Option (Option Pat)) (w : World) (e : Ending) (w' : World) : Prop :=
  Below w.heap.size w w' ∧ match r with
  | none => ∃ (k : Nat) (t : ByteArray) (A : Option Addr) (n c : Nat) (b : Bool), e = .returned (.tuple #[.agg #[.int .i64 k, .string t, .slice A n c, .bool b], .bool false, .int .i64 1])
  | some none => ∃ (k : Nat) (t : ByteArray) (A : Option Addr) (n c : Nat) (b : Bool), e = .returned (.tuple #[.agg #[.int .i64 k, .string t, .slice A n c, .bool b], .bool false, .int .i64 0])
  | some (some p) => ∃ A c, e = .returned (.tuple #[.agg #[.int .i64 p.cust.kind, .string p.cust.text, .slice A p.parts.length c, .bool p.tail], .bool true, .int .i64 0]) ∧ Reads w' 2 A p.parts.length (partCells p.parts)
theorem BothPost.none_ {w w' : World} (k : Nat) (t : ByteArray) (A : Option Addr) (n c : Nat) (b : Bool) (hb : Below w.heap.size w w') : BothPost none w (.returned (.tuple #[.agg #[.int .i64 k, .string t, .slice A n c, .bool b], .bool false, .int .i64 1])) w' := ⟨hb, k, t, A, n, c, b, rfl⟩
end Go.Proofs.YtjhlpkhfdghngaaGreatDoor
namespace Go.Proofs.YtjhlpkhfdghngaaGreatDoor
open Go.RowKit Go.Sort
set_option linter.unusedVariables false
set_option linter.unusedSimpArgs false
set_option maxRecDepth 100000
def noAsk : AskV := ⟨⟨#[]⟩, ⟨#[]⟩, ⟨#[]⟩, 0, 0, 0⟩
def addrOf (p : ByteArray) : ByteArray := match bothP (patT p) ⟨#[42, 47, 42, 42]⟩ with
  | some (some z) => exText z
  | _ => ⟨#[]⟩
def sampleC (c : CondV) : AskV := ⟨addrOf c.pat, c.cl.headD ⟨#[97]⟩, c.co.headD ⟨#[97, 97]⟩, c.si.headD 0, c.fr, c.fr⟩
def outL {α : Type} [DecidableEq α] (a b all : List α) : Option α := (if a.isEmpty then all else a).find? fun x => !allowsL b x
def allClients : List ByteArray := (List.range 33).map fun i => ⟨#[99, UInt8.ofNat (48 + i / 10), UInt8.ofNat (48 + i % 10)]⟩
def allCountries : List ByteArray := (List.range 676).map fun i => ⟨#[UInt8.ofNat (97 + i / 26), UInt8.ofNat (97 + i % 26)]⟩
def allSites : List Int := (List.range 64).map Int.ofNat
def impR (a b : CondV) : Bool × AskV :=
  if a.till ≤ a.fr then (true, noAsk)
  else if a.fr < b.fr then (false, sampleC a)
  else if b.till < a.till then (false, { sampleC a with lo := a.till - 1, hi := a.till - 1 })
  else match compileB (patT b.pat), compileB (patT a.pat) with
    | some x, some y => if coverB x y then (match outL a.cl b.cl allClients, outL a.co b.co allCountries, outL a.si b.si allSites with
        | some s, _, _ => (false, { sampleC a with client := s })
        | none, some s, _ => (false, { sampleC a with country := s })
        | none, none, some n => (false, { sampleC a with site := n })
        | none, none, none => (true, noAsk))
      else (false, { sampleC a with addr := coverW x y })
    | _, _ => (true, noAsk)
end Go.Proofs.YtjhlpkhfdghngaaGreatDoor
namespace Go.Proofs.YtjhlpkhfdghngaaGreatDoor
open Go.RowKit Go.Sort
set_option linter.unusedVariables false
set_option linter.unusedSimpArgs false
set_option maxRecDepth 100000
attribute [local go_sem] Oper.semAt_some
theorem reads_lt {w : World} {A : Option Addr} {n : Nat} {vs : List Value} (hR : Reads w 1 A n vs) : 0 < n → ∀ a, A = some a → a.block < w.heap.size := by
  intro hn a ha
  obtain ⟨b, o, e, hc⟩ := hR.2 hn
  rw [e] at ha
  injection ha with ha
  subst ha
  have hl : 0 < vs.length := by have := hR.1; omega
  have := cell_lt (hc 0 _ (List.getElem?_eq_getElem hl))
  exact this
end Go.Proofs.YtjhlpkhfdghngaaGreatDoor
namespace Go.Proofs.YtjhlpkhfdghngaaGreatDoor
open Go.RowKit Go.Sort
set_option linter.unusedVariables false
set_option linter.unusedSimpArgs false
set_option maxRecDepth 100000
attribute [local go_sem] Oper.semAt_some
theorem u8_of (n : Nat) (h : n < 256) : ((UInt8.ofNat n).toNat : Int) = (n : Int) := by
  have : (UInt8.ofNat n).toNat = n := by simp; omega
  rw [this]
end Go.Proofs.YtjhlpkhfdghngaaGreatDoor
namespace Go.Proofs.YtjhlpkhfdghngaaGreatDoor
open Go.RowKit Go.Sort
set_option linter.unusedVariables false
set_option linter.unusedSimpArgs false
set_option maxRecDepth 100000
def fieldsC (c : CondV) : List ByteArray := [itoaB c.fr, itoaB c.till, orT c.pat ⟨#[126]⟩, joinT c.cl, joinT c.co, joinT (c.si.map itoaB), itoaB c.us]
def textC (c : CondV) : ByteArray := ⟨(Lib.join ((fieldsC c).map (·.data.toList)) [32]).toArray⟩
theorem join_le (c : UInt8) (B : Nat) (l : List (List UInt8)) (hl : ∀ x ∈ l, x.length ≤ B) : (Lib.join l [c]).length ≤ l.length * (B + 1) := by
  cases l with
  | nil => simp [Lib.join_nil]
  | cons x r =>
    have hx := hl x (by simp)
    have hr : Lib.lens r ≤ r.length * B := lens_le' B r (fun y hy => hl y (by simp [hy]))
    rw [Lib.join_cons, List.length_append, Lib.joinTail_length]
    simp only [List.length_cons, List.length_nil, Nat.zero_add, Nat.one_mul]
    have e1 : (r.length + 1) * (B + 1) = r.length * B + r.length + B + 1 := by rw [Nat.succ_mul, Nat.mul_succ]; omega
    omega
theorem joinT_len (B : Nat) (xs : List ByteArray) (h : ∀ x ∈ xs, x.size ≤ B) : (joinT xs).size ≤ xs.length * (B + 1) + 1 := by
  unfold joinT orT
  split
  · show 1 ≤ _; omega
  · have := join_le 44 B (xs.map (·.data.toList)) (by
      intro y hy
      obtain ⟨z, hz, rfl⟩ := List.mem_map.1 hy
      have := h z hz; rw [Lib.size_eq] at this; exact this)
    rw [List.length_map] at this
    show (Lib.join (xs.map (·.data.toList)) [44]).toArray.size ≤ _
    rw [List.size_toArray]
    omega
theorem itoa_size (n : Int) (h0 : -9223372036854775808 ≤ n) (h1 : n ≤ 9223372036854775807) : (itoaB n).size ≤ 21 := Lib.itoa_length_le n h0 h1
theorem comma_le (B : Nat) (xs : List ByteArray) (h : ∀ x ∈ xs, x.size ≤ B) (hn : xs.length ≤ 1000000) (hB : B ≤ 100000) : (Lib.join (xs.map (·.data.toList)) [44]).length ≤ 140737488355328 := by
  have := join_le 44 B (xs.map (·.data.toList)) (by
    intro y hy
    obtain ⟨z, hz, rfl⟩ := List.mem_map.1 hy
    have := h z hz; rw [Lib.size_eq] at this; exact this)
  rw [List.length_map] at this
  have h2 : xs.length * (B + 1) ≤ 1000000 * 100001 := Nat.mul_le_mul hn (by omega)
  omega
theorem orT_size (a : ByteArray) : (orT a ⟨#[126]⟩).size ≤ a.size + 1 := by
  unfold orT
  split
  · show 1 ≤ _; omega
  · omega
theorem two_cells1 (W : World) (t : Nat) (a b : Value) : (W.alloc (.cells #[a, b] t)).cell? ⟨W.heap.size, 0, none⟩ = some a ∧ (W.alloc (.cells #[a, b] t)).cell? ⟨W.heap.size, 1, none⟩ = some b := two_cells0 W t a b _ rfl
theorem join7 (f0 f1 f2 f3 f4 f5 f6 : ByteArray) (h : ∀ x ∈ [f0, f1, f2, f3, f4, f5, f6], x.size ≤ 200000000000) (W : World) :
    Calls Tryz.prog 62 #[.slice (some ⟨W.heap.size, 0, none⟩) 7 7, .string ⟨#[32]⟩] (W.alloc (.cells #[.string f0, .string f1, .string f2, .string f3, .string f4, .string f5, .string f6] 9)) (Ret (W.alloc (.cells #[.string f0, .string f1, .string f2, .string f3, .string f4, .string f5, .string f6] 9)) (.string ⟨(Lib.join ([f0, f1, f2, f3, f4, f5, f6].map (·.data.toList)) [32]).toArray⟩)) := by
  have hb : Blk (W.alloc (.cells #[.string f0, .string f1, .string f2, .string f3, .string f4, .string f5, .string f6] 9)) W.heap.size 9 #[.string f0, .string f1, .string f2, .string f3, .string f4, .string f5, .string f6] (0, 0) := World.alloc_heap_new _ _
  refine (Tryz.strings_Join W.heap.size 0 7 [f0, f1, f2, f3, f4, f5, f6] ⟨#[32]⟩ _ (fun j x hj => ?_) (by simp) (by simp) (by simp) ?_)
  · have := hb.cell j
    rw [Nat.zero_add, this]
    rcases j with _ | _ | _ | _ | _ | _ | _ | j <;> simp at hj ⊢ <;> first | exact hj | exact congrArg _ hj | skip
  · have := join_le 32 200000000000 ([f0, f1, f2, f3, f4, f5, f6].map (·.data.toList)) (by
      intro y hy
      obtain ⟨z, hz, rfl⟩ := List.mem_map.1 hy
      have := h z hz; rw [Lib.size_eq] at this; exact this)
    rw [List.length_map] at this
    simp only [List.length_cons, List.length_nil] at this
    show (Lib.join ([f0, f1, f2, f3, f4, f5, f6].map (·.data.toList)) [32]).length ≤ _
    omega
set_option maxHeartbeats 8000000 in
theorem text_valid (c : CondV) (m : CondMem) (w : World) (hR : CondReads w c m) (hc : CondFits c) (hv : validC c = true) (hE : Env w) (hT : Tab w) : Calls Tryz.prog 61 #[CondMem.val c m] w (Ret w (.tuple #[.string (textC c), .int .i64 0])) := by
  have ok := (valid_iff c).1 hv
  have c1 := fun W (hb : Below w.heap.size w W) => hv ▸ condValid_any c m W (hR.keep hb) hc.p hc.cl hc.co hc.n1 hc.n2 hc.n3 (hE.keep hb)
  have ci := fun n (h0 : -9223372036854775808 ≤ n) (h1 : n ≤ 9223372036854775807) W (hb : Below w.heap.size w W) => itoa_any n W h0 h1 (hT.keep hb)
  have hfr := ok.fr0; have hfr1 := ok.fr1; have hti := ok.to0; have hti1 := ok.to1; have hus := ok.us0; have hus1 := ok.us1
  have k1 := ci c.fr (by omega) (by omega)
  have k2 := ci c.till (by omega) (by omega)
  have k3 := ci c.us (by omega) (by omega)
  have hs1 := itoa_size c.fr (by omega) (by omega)
  have hs2 := itoa_size c.till (by omega) (by omega)
  have hs3 := itoa_size c.us (by omega) (by omega)
  have hs4 := orT_size c.pat
  have hsi : ∀ x ∈ c.si, 0 ≤ x ∧ x < 64 := fun x hx => by have := ok.si x hx; unfold siteB at this; simpa using this
  have hss : ∀ y ∈ c.si.map itoaB, y.size ≤ 21 := fun y hy => by
    obtain ⟨x, hx, rfl⟩ := List.mem_map.1 hy
    have := hsi x hx
    exact itoa_size x (by omega) (by omega)
  have hs5 := joinT_len 100000 c.cl hc.cl
  have hs6 := joinT_len 100000 c.co hc.co
  have hs7 := joinT_len 21 (c.si.map itoaB) hss
  rw [List.length_map] at hs7
  have j1 := fun W (hb : Below w.heap.size w W) => joinS_any 117 (enters_of Tryz.func117 (by kernel_rfl) rfl) id m.A c.cl.length m.ca c.cl W (fun x hx W' _ => sclone_any x W' (by have := hc.cl x hx; omega)) (hR.cl.keep hb) hc.n1 (by rw [List.map_id]; exact comma_le 100000 c.cl hc.cl hc.n1 (by omega))
  have j2 := fun W (hb : Below w.heap.size w W) => joinS_any 117 (enters_of Tryz.func117 (by kernel_rfl) rfl) id m.B c.co.length m.cb c.co W (fun x hx W' _ => sclone_any x W' (by have := hc.co x hx; omega)) (hR.co.keep hb) hc.n2 (by rw [List.map_id]; exact comma_le 100000 c.co hc.co hc.n2 (by omega))
  have j3 := fun W (hb : Below w.heap.size w W) => joinI_any 60 (enters_of Tryz.func60 (by kernel_rfl) rfl) itoaB m.S c.si.length m.cs c.si W (fun x hx W' hb' => itoa_any x W' (by have := hsi x hx; omega) (by have := hsi x hx; omega) (hT.keep (bstep hb hb'))) (hR.si.keep hb) hc.n3 (comma_le 21 _ hss (by rw [List.length_map]; exact hc.n3) (by omega))
  rw [List.map_id] at j1 j2
  have cO := fun (g cc : Nat) (W : World) h0 h1 => cmpOr_any g cc c.pat ⟨#[126]⟩ W h0 h1
  have hor : (if c.pat.size = 0 then (⟨#[126]⟩ : ByteArray) else c.pat) = orT c.pat ⟨#[126]⟩ := rfl
  rw [hor] at cO
  have hn1 := hc.n1; have hn2 := hc.n2; have hn3 := hc.n3; have hp := hc.p
  have m1 : c.cl.length * 100001 ≤ 1000000 * 100001 := Nat.mul_le_mul hn1 (Nat.le_refl _)
  have m2 : c.co.length * 100001 ≤ 1000000 * 100001 := Nat.mul_le_mul hn2 (Nat.le_refl _)
  have m3 : c.si.length * 22 ≤ 1000000 * 22 := Nat.mul_le_mul hn3 (Nat.le_refl _)
  have cJ := join7 (itoaB c.fr) (itoaB c.till) (orT c.pat ⟨#[126]⟩) (joinT c.cl) (joinT c.co) (joinT (c.si.map itoaB)) (itoaB c.us) (by
    intro x hx
    simp only [List.mem_cons, List.not_mem_nil, or_false] at hx
    rcases hx with rfl | rfl | rfl | rfl | rfl | rfl | rfl <;> omega)
  unfold textC fieldsC
  generalize (⟨(Lib.join ([itoaB c.fr, itoaB c.till, orT c.pat ⟨#[126]⟩, joinT c.cl, joinT c.co, joinT (c.si.map itoaB), itoaB c.us].map (·.data.toList)) [32]).toArray⟩ : ByteArray) = T at *
  generalize itoaB c.fr = u1 at *
  generalize itoaB c.till = u2 at *
  generalize itoaB c.us = u3 at *
  generalize orT c.pat ⟨#[126]⟩ = pp at *
  generalize joinT c.cl = l1 at *
  generalize joinT c.co = l2 at *
  generalize joinT (c.si.map itoaB) = l3 at *
  obtain ⟨fr, till, pat, cl, co, si, us⟩ := c
  obtain ⟨A, ca, B, cb, S, cs⟩ := m
  unfold CondMem.val at c1 ⊢
  dsimp only at c1 k1 k2 k3 j1 j2 j3 cO ⊢
  generalize cl.length = na at *
  generalize co.length = nb at *
  generalize si.length = ns at *
  have C1 := Lib.hid c1; have K1 := Lib.hid k1; have K2 := Lib.hid k2; have K3 := Lib.hid k3; have J1 := Lib.hid j1; have J2 := Lib.hid j2; have J3 := Lib.hid j3; have CO := Lib.hid cO; have CJ := Lib.hid cJ
  clear c1 ci k1 k2 k3 j1 j2 j3 cO cJ hor hs1 hs2 hs3 hs4 hs5 hs6 hs7 hss hsi m1 m2 m3 hn1 hn2 hn3 hp hfr hfr1 hti hti1 hus hus1 ok hv hc hR hE hT
  go_enter Tryz.func61, Tryz.ntmps61
  go_upto_region 4 with (go_at_call 52; refine (C1.out _ belB).mono ?_; rintro e w2 ⟨rfl, hb2⟩; have hX2 : CBox w2 w.heap.size fr till pat A na ca B nb cb S ns cs us := Blk.keep (World.alloc_heap_new _ _) hb2; obtain ⟨x0, x1, x2, x3, x4, x5, x6⟩ := hX2.facts; have hbw : Below w.heap.size w w2 := belB)
  clear hX2 hb2
  go_region_held3 (fun w' => w'.cell? ⟨w.heap.size, 0, none⟩ = some (.int .i64 fr) ∧ w'.cell? ⟨w.heap.size, 1, none⟩ = some (.int .i64 till) ∧ w'.cell? ⟨w.heap.size, 2, none⟩ = some (.string pat) ∧ w'.cell? ⟨w.heap.size, 3, none⟩ = some (.slice A na ca) ∧ w'.cell? ⟨w.heap.size, 4, none⟩ = some (.slice B nb cb) ∧ w'.cell? ⟨w.heap.size, 5, none⟩ = some (.slice S ns cs) ∧ w'.cell? ⟨w.heap.size, 6, none⟩ = some (.int .i64 us) ∧ Below w.heap.size w w')
    (first | exact ⟨x0, x1, x2, x3, x4, x5, x6, Below.drew hbw⟩ | (go_split_ands; refine ⟨?_, ?_, ?_, ?_, ?_, ?_, ?_, ?_⟩ <;> first | assumption | (refine Lib.cell?_alloc_some _ ?_; assumption) | (refine balloc ?_ _; assumption) | exact Below.drew (balloc hbw _) | (refine cell_keep hb10 ?_; assumption) | (refine bstep ?_ hb10; assumption) | (refine cell_keep hb9 ?_; assumption) | (refine bstep ?_ hb9; assumption) | (refine cell_keep hb8 ?_; assumption) | (refine bstep ?_ hb8; assumption) | (refine cell_keep hb7 ?_; assumption) | (refine bstep ?_ hb7; assumption) | (refine cell_keep hb6 ?_; assumption) | (refine bstep ?_ hb6; assumption) | (refine cell_keep hb5 ?_; assumption) | (refine bstep ?_ hb5; assumption) | (refine cell_keep hb4 ?_; assumption) | (refine bstep ?_ hb4; assumption) | (refine cell_keep hb3 ?_; assumption) | (refine bstep ?_ hb3; assumption)))
    (first | (go_at_call 60; refine (K1.out _ (by go_split_ands; assumption)).mono ?_; rintro e w3 ⟨rfl, hb3⟩; clear K1) | (go_at_call 60; refine (K2.out _ (by go_split_ands; assumption)).mono ?_; rintro e w4 ⟨rfl, hb4⟩; clear K2) | (go_at_call 118; (first | (with_reducible refine (CO.out w4.heap.size 2 (w4.alloc (.cells #[.string pat, .string ⟨#[126]⟩] 9)) (two_cells1 w4 9 _ _).1 (two_cells1 w4 9 _ _).2).mono ?_) | (with_reducible refine (CO.out w3.heap.size 2 w4 (cell_keep hb4 (two_cells1 w3 9 (.string pat) (.string ⟨#[126]⟩)).1) (cell_keep hb4 (two_cells1 w3 9 (.string pat) (.string ⟨#[126]⟩)).2)).mono ?_) | (have s0 : w3.cell? ⟨w2.heap.size, 0, none⟩ = some (.string pat) := cell_keep hb3 (two_cells1 w2 9 (.string pat) (.string ⟨#[126]⟩)).1; have s1 : w3.cell? ⟨w2.heap.size, 1, none⟩ = some (.string ⟨#[126]⟩) := cell_keep hb3 (two_cells1 w2 9 (.string pat) (.string ⟨#[126]⟩)).2; refine (CO.out w2.heap.size 2 w4 (cell_keep hb4 s0) (cell_keep hb4 s1)).mono ?_; clear s0 s1)); rintro e w5 ⟨rfl, hb5⟩) | (go_at_call 119; refine (J1.out _ (by go_split_ands; assumption)).mono ?_; rintro e w6 ⟨rfl, hb6⟩; clear J1) | (go_at_call 119; refine (J2.out _ (by go_split_ands; assumption)).mono ?_; rintro e w7 ⟨rfl, hb7⟩; clear J2) | (go_at_call 120; refine (J3.out _ (by go_split_ands; assumption)).mono ?_; rintro e w8 ⟨rfl, hb8⟩; clear J3) | (go_at_call 60; refine (K3.out _ (by go_split_ands; assumption)).mono ?_; rintro e w9 ⟨rfl, hb9⟩; clear K3) | (go_at_call 62; refine (CJ.out w9).mono ?_; rintro e w10 ⟨rfl, hb10⟩))
  all_goals go_wp2
  all_goals go_ret2
  all_goals exact ⟨rfl, by go_split_ands; assumption⟩
end Go.Proofs.YtjhlpkhfdghngaaGreatDoor
namespace Go.Proofs.YtjhlpkhfdghngaaGreatDoor
open Go.RowKit Go.Sort
set_option linter.unusedVariables false
set_option linter.unusedSimpArgs false
set_option maxRecDepth 100000
theorem dec_digit (u : Nat) : ∀ b ∈ Lib.decDigits u, 48 ≤ b.toNat ∧ b.toNat ≤ 57 := by
  induction u using Nat.strongRecOn with
  | _ u ih =>
    intro b hb
    by_cases h : u < 10
    · rw [Lib.decDigits, dif_pos h, List.mem_singleton] at hb
      subst hb
      rw [UInt8.toNat_ofNat']; omega
    · rw [Lib.decDigits, dif_neg h, List.mem_append, List.mem_singleton] at hb
      rcases hb with hb | rfl
      · exact ih (u / 10) (by omega) b hb
      · rw [UInt8.toNat_ofNat']; omega
theorem nd_le : ∀ (k u : Nat), u < 10 ^ (k + 1) → Lib.nDigits u ≤ k + 1
  | 0, u, h => by rw [Lib.nDigits_small (by simpa using h)]; omega
  | k + 1, u, h => by
    by_cases h1 : u < 10
    · rw [Lib.nDigits_small h1]; omega
    · rw [Lib.nDigits_big h1]
      have := nd_le k (u / 10) (by rw [Nat.pow_succ] at h; omega)
      omega
theorem dec_len (u : Nat) (h : u ≤ 1099511627777) : (Lib.decDigits u).length ≤ 13 ∧ 1 ≤ (Lib.decDigits u).length := by
  rw [Lib.decDigits_length]
  exact ⟨nd_le 12 u (by omega), Lib.nDigits_pos u⟩
theorem itoa_dec (n : Int) (h : 0 ≤ n) : (itoaB n).data.toList = Lib.decDigits n.toNat := by
  unfold itoaB Lib.itoa
  rw [if_neg (by omega)]
theorem letter_not (b : UInt8) (h : letterB b = true) : b ≠ 32 ∧ b ≠ 44 ∧ b ≠ 126 := by
  refine ⟨?_, ?_, ?_⟩ <;> (rintro rfl; revert h; decide)
theorem name_not {s : ByteArray} (h : isNameB s = true) : s.size ≠ 0 ∧ 32 ∉ s.data.toList ∧ 44 ∉ s.data.toList ∧ 126 ∉ s.data.toList := by
  have hw := word_letters (name_word h)
  have h1 := (word_ne (name_word h)).1
  refine ⟨fun e => h1 (List.eq_nil_of_length_eq_zero (by rw [← Lib.size_eq]; exact e)), fun hm => (letter_not _ (hw _ hm)).1 rfl, fun hm => (letter_not _ (hw _ hm)).2.1 rfl, fun hm => (letter_not _ (hw _ hm)).2.2 rfl⟩
theorem country_not {s : ByteArray} (h : countryB s = true) : s.size ≠ 0 ∧ 32 ∉ s.data.toList ∧ 44 ∉ s.data.toList ∧ 126 ∉ s.data.toList := by
  unfold countryB at h
  simp only [Bool.and_eq_true, decide_eq_true_eq, List.all_eq_true] at h
  obtain ⟨h1, h2⟩ := h
  refine ⟨by omega, fun hm => ?_, fun hm => ?_, fun hm => ?_⟩ <;> exact absurd (h2 _ hm) (by decide)
theorem num_not (n : Int) (h0 : 0 ≤ n) : (itoaB n).size ≠ 0 ∧ 32 ∉ (itoaB n).data.toList ∧ 44 ∉ (itoaB n).data.toList ∧ 126 ∉ (itoaB n).data.toList := by
  have hd := dec_digit n.toNat
  have hl : 1 ≤ (Lib.decDigits n.toNat).length := by rw [Lib.decDigits_length]; exact Lib.nDigits_pos _
  rw [Lib.size_eq, itoa_dec n h0]
  refine ⟨by omega, fun hm => ?_, fun hm => ?_, fun hm => ?_⟩ <;> exact absurd (hd _ hm) (by decide)
theorem comma_head {x : ByteArray} {r : List ByteArray} (h0 : x.size ≠ 0) : ∃ b t, b ∈ x.data.toList ∧ (commaT (x :: r)).data.toList = b :: t := by
  unfold commaT
  rw [List.map_cons, Lib.join_cons]
  cases hx : x.data.toList with
  | nil => rw [Lib.size_eq, hx] at h0; simp at h0
  | cons b t => exact ⟨b, _, by simp, rfl⟩
end Go.Proofs.YtjhlpkhfdghngaaGreatDoor
namespace Go.Proofs.YtjhlpkhfdghngaaGreatDoor
open Go.RowKit Go.Sort
set_option linter.unusedVariables false
set_option linter.unusedSimpArgs false
set_option maxRecDepth 100000
def digB (d : Nat) : ByteArray := ⟨#[UInt8.ofNat (48 + d)]⟩
theorem digB_size (d : Nat) : (digB d).size = 1 := rfl
theorem conv1 (W : World) (d c : Nat) (hd : d < 10) (g : Nat) (hg : g = W.heap.size) (a : Int) (ha : a = 48 + (d : Int)) :
    (convert 173 9 (.slice (some ⟨g, 0, none⟩) 1 c)).run Tryz.prog (W.alloc (.cells #[.int .u8 a] 5)) = .ok (.string (digB d)) (W.alloc (.cells #[.int .u8 a] 5)) := by
  subst hg
  subst ha
  have hx : Blk (W.alloc (.cells #[.int .u8 (48 + (d : Int))] 5)) W.heap.size 5 #[.int .u8 (48 + (d : Int))] (0, 0) := World.alloc_heap_new _ _
  refine run_convert_bytes_back _ _ _ 5 ⟨W.heap.size, 0, none⟩ c [UInt8.ofNat (48 + d)] Tryz.underlying173 Tryz.underlying5 Tryz.underlying9 (fun j hj => ?_)
  have e1 := u8_of (48 + d) (by omega)
  rw [show (⟨W.heap.size, 0, none⟩ : Addr).add j = ⟨W.heap.size, 0 + j, none⟩ by unfold Addr.add; split <;> simp_all]
  rcases j with _ | j
  · have := hx.cell 0
    simp only [List.getElem_cons_zero]
    rw [e1]
    simp
  · simp at hj
theorem decB_step (m : Nat) (h : ¬ m < 10) (t : ByteArray) : (⟨(Lib.decDigits (m / 10)).toArray⟩ : ByteArray) ++ (digB (m % 10) ++ t) = (⟨(Lib.decDigits m).toArray⟩ : ByteArray) ++ t := by
  refine bytes_ext ?_
  conv => rhs; rw [Lib.decDigits, dif_neg h]
  simp [digB]
theorem decB_last (m : Nat) (h : m < 10) : digB m = ⟨(Lib.decDigits m).toArray⟩ := by
  rw [Lib.decDigits, dif_pos h]; rfl
set_option maxHeartbeats 4000000 in
theorem rDecimal_any (n : Nat) (w : World) (hn : n ≤ 9223372036854775807) : Calls Tryz.prog 65 #[.int .i64 (n : Int)] w (Ret w (.string (itoaB (n : Int)))) := by
  have hI : itoaB (n : Int) = ⟨(Lib.decDigits n).toArray⟩ := bytes_ext (by rw [itoa_dec _ (by omega)]; simp)
  rw [hI]
  clear hI
  have hlen : (Lib.decDigits n).length ≤ 20 := by rw [Lib.decDigits_length]; exact Lib.nDigits_le20 n (by omega)
  go_enter Tryz.func65, Tryz.ntmps65
  go_wp2
  go_loopw [0, 3] (fun vn vo wr => ∃ (m : Nat) (t : ByteArray), vn = .int .i64 (m : Int) ∧ vo = .string t ∧ m ≤ 9223372036854775807 ∧ Hid ((⟨(Lib.decDigits m).toArray⟩ : ByteArray) ++ t = ⟨(Lib.decDigits n).toArray⟩) ∧ Below w.heap.size w wr) (fun i _ _ => (intOf i).toNat)
  case atStart => exact ⟨n, ⟨#[]⟩, rfl, rfl, hn, Lib.hid (bytes_ext (by simp)), Below.refl _ _⟩
  case round =>
    obtain ⟨m, t, rfl, rfl, hm, HK, hbr⟩ := hrel
    have hts : t.size ≤ 20 := by
      have h1 := congrArg (fun x : ByteArray => x.data.toList.length) HK.out
      simp at h1
      have : t.size = t.data.size := rfl
      omega
    by_cases hlt : m < 10
    · have hcv := fun c => conv1 wr m c hlt wr.heap.size rfl _ rfl
      have hv : digB m ++ t = ⟨(Lib.decDigits n).toArray⟩ := by rw [decB_last m hlt]; exact HK.out
      have HV := Lib.hid hv
      have d1 : decide ((10 : Int) ≤ (m : Int)) = false := decide_eq_false (by omega)
      have b1 : (m : Int) ≤ 9 := by omega
      have z1 := digB_size m
      have n1 : ¬ 9223372036854775807 < 1 + t.size := by omega
      clear HK hv
      go_wp2
      go_ret
      exact ⟨ret_str HV.out, belB⟩
    · have hcv := fun c => conv1 wr (m % 10) c (by omega) wr.heap.size rfl (48 + (m : Int) % 10) (by omega)
      have HV := Lib.hid ((decB_step m hlt t).trans HK.out)
      have d1 : decide ((10 : Int) ≤ (m : Int)) = true := decide_eq_true (by omega)
      have b3 : (m : Int) % 10 ≤ 9 := by omega
      have b4 : 0 ≤ (m : Int) % 10 := by omega
      have z1 := digB_size (m % 10)
      have n1 : ¬ 9223372036854775807 < 1 + t.size := by omega
      clear HK
      go_wp2
      exact ⟨⟨m / 10, _, by go_num, rfl, by omega, HV, belB⟩, by simp [intOf]; omega⟩
def joinR (l : List ByteArray) : ByteArray := if l = [] then ⟨#[126]⟩ else commaT l
theorem joinR_eq {l : List ByteArray} (h : ∀ x ∈ l, x.size ≠ 0) : joinR l = joinT l := by
  unfold joinR joinT orT
  cases l with
  | nil => rfl
  | cons x r =>
    obtain ⟨b, t, hb, he⟩ := comma_head (r := r) (h x (by simp))
    have hs : ¬ (commaT (x :: r)).size = 0 := by rw [Lib.size_eq, he]; simp
    rw [if_neg (by simp), if_neg hs]
set_option maxHeartbeats 4000000 in
theorem rJoined21_any (A : Option Addr) (n c : Nat) (l : List ByteArray) (w : World) (hR : Reads w 1 A n (l.map .string)) (hn : n ≤ 1000000) (htot : (Lib.join (lists l) [44]).length ≤ 1000000000) (hsz : ∀ x ∈ l, x.size ≤ 1000000000) : Calls Tryz.prog 198 #[.slice A n c] w (Ret w (.string (joinR l))) := by
  have hl : l.length = n := by have := hR.1; simpa using this
  obtain ⟨V, hV⟩ : ∃ V, V = joinR l := ⟨_, rfl⟩
  rw [← hV]
  unfold joinR at hV
  by_cases h0 : n = 0
  · subst h0
    obtain rfl : l = [] := List.eq_nil_of_length_eq_zero hl
    obtain rfl : V = ⟨#[126]⟩ := hV
    go_enter Tryz.func198, Tryz.ntmps198
    go_wp2
    go_ret
    exact ⟨rfl, belB⟩
  have hne : l ≠ [] := by intro e; rw [e] at hl; simp at hl; omega
  rw [if_neg hne] at hV
  have hend : V = joinB l n := by rw [hV, ← hl, joinB_all]; rfl
  obtain ⟨x0, hx0⟩ : ∃ x, l[0]? = some x := ⟨_, List.getElem?_eq_getElem (by omega)⟩
  have hz0 : ((n : Int) == 0) = false := by simp; omega
  have hfst := joinB_first l x0 hx0
  have HR := Lib.hid hR
  obtain ⟨b0, o0, rfl, hcell0⟩ := hR.2 (by omega)
  have hc0 : w.cell? ⟨b0, o0, none⟩ = some (.string x0) := hcell0 0 _ (by simp [hx0])
  have hn0 : (0 : Int) < (n : Int) := by omega
  have HL := Lib.hid hl
  have HE := Lib.hid hend
  have HT := Lib.hid htot
  have HS := Lib.hid hsz
  have HF := Lib.hid hfst
  clear hl hend htot hsz hR hV hne hcell0 hx0 hfst
  go_enter Tryz.func198, Tryz.ntmps198
  go_wp2
  go_loopw [3, 4] (fun vs vi wr => ∃ k : Nat, vi = .int .i64 (k + 1 : Nat) ∧ k + 1 ≤ n ∧ vs = .string (joinB l (k + 1)) ∧ Below w.heap.size w wr) (fun _ i _ => n - (intOf i).toNat)
  case atStart => exact ⟨0, rfl, by omega, by rw [HF.out], Below.refl _ _⟩
  case round =>
    clear hc0
    obtain ⟨k, rfl, hk, rfl, hbr⟩ := hrel
    by_cases hlt : k + 1 < n
    · obtain ⟨x, hx⟩ : ∃ x, l[k + 1]? = some x := ⟨_, List.getElem?_eq_getElem (by have := HL.out; omega)⟩
      obtain ⟨b, o, hbo, hcell⟩ := (HR.out.keep hbr).2 (by omega)
      injection hbo with hbo
      injection hbo with e1 e2
      subst e1
      subst e2
      have hc1 : wr.cell? ⟨b0, o0 + (k + 1), none⟩ = some (.string x) := hcell (k + 1) _ (by simp [hx])
      have hz1 : (joinB l (k + 1)).size ≤ 1000000000 := Nat.le_trans (joinB_le l (k + 1)) HT.out
      have hz2 : x.size ≤ 1000000000 := HS.out x (List.mem_of_getElem? hx)
      have hk0 : (0 : Int) ≤ (k : Int) := by omega
      have hk1 : (k : Int) + 1 < (n : Int) := by omega
      have HJ := Lib.hid (joinB_step l (k + 1) x (by omega) hx)
      generalize joinB l (k + 1) = S at *
      clear hcell hx
      have n1 : ¬ 9223372036854775807 < S.size + 1 := by omega
      have n2 : ¬ 9223372036854775807 < S.size + 1 + x.size := by omega
      go_wp2
      exact ⟨⟨k + 1, by go_num, by omega, congrArg Value.string HJ.out, hbr⟩, by simp [intOf]; omega⟩
    · obtain rfl : k + 1 = n := by omega
      have he := HE.out
      rw [← he]
      go_wp2
      go_ret
      exact ⟨rfl, hbr⟩
end Go.Proofs.YtjhlpkhfdghngaaGreatDoor
namespace Go.Proofs.YtjhlpkhfdghngaaGreatDoor
open Go.RowKit Go.Sort
set_option linter.unusedVariables false
set_option linter.unusedSimpArgs false
set_option maxRecDepth 100000
theorem OwnPost.reads {ps : List ByteArray} {w w' : World} {e : Ending} (h : OwnPost ps w e w') : ∃ A c, e = .returned (.slice A ps.length c) ∧ Reads w' 1 A ps.length (ps.map .string) ∧ Below w.heap.size w w' := by
  obtain ⟨A, c, h1, h2, h3⟩ := h
  exact ⟨A, c, h1, Reads.of_own h2, h3⟩
end Go.Proofs.YtjhlpkhfdghngaaGreatDoor
namespace Go.Proofs.YtjhlpkhfdghngaaGreatDoor
open Go.RowKit Go.Sort
set_option linter.unusedVariables false
set_option linter.unusedSimpArgs false
set_option maxRecDepth 100000
theorem sepT_one (d : UInt8) (x : ByteArray) : sepT d [x] = x := by
  unfold sepT
  simp [Lib.join_one]
theorem sepT_more (d : UInt8) (y : ByteArray) (r : List ByteArray) (x : ByteArray) : sepT d (y :: (r ++ [x])) = (sepT d (y :: r) ++ ⟨#[d]⟩) ++ x := by
  apply ByteArray.ext
  apply Array.ext'
  unfold sepT
  simp [Lib.join_cons, Lib.joinTail]
theorem sepT_step (d : UInt8) (l : List ByteArray) (k : Nat) (x : ByteArray) (h : l[k]? = some x) : sepT d (l.take (k + 1)) = if k = 0 then x else (sepT d (l.take k) ++ ⟨#[d]⟩) ++ x := by
  rw [List.take_add_one, h]
  show sepT d (l.take k ++ [x]) = _
  split
  · rename_i h0
    subst h0
    rw [List.take_zero]
    exact sepT_one d x
  · cases l with
    | nil => simp at h
    | cons y r =>
      obtain ⟨j, rfl⟩ : ∃ j, k = j + 1 := ⟨k - 1, by omega⟩
      rw [List.take_succ_cons, List.cons_append]
      exact sepT_more d y (r.take j) x
theorem app_size (a b : ByteArray) : (a ++ b).size = a.size + b.size := ByteArray.size_append
set_option maxHeartbeats 4000000 in
theorem rJoined22_any (d : UInt8) (A : Option Addr) (n c : Nat) (l : List ByteArray) (w : World) (hR : Reads w 1 A n (l.map .string)) (hn : n ≤ 1000) (hs : ∀ s ∈ l, s.size ≤ 100000) : Calls Tryz.prog 129 #[.slice A n c, .string ⟨#[d]⟩] w (Ret w (.string (sepT d l))) := by
  have hl : l.length = n := by have := hR.1; simp at this; omega
  obtain ⟨V, hV⟩ : ∃ V, V = sepT d l := ⟨_, rfl⟩
  rw [← hV]
  have HR := Lib.hid hR; have HL := Lib.hid hl; have HV := Lib.hid hV; have HS := Lib.hid hs
  clear hR hl hV hs
  go_enter Tryz.func129, Tryz.ntmps129
  go_wp2_with fail
  go_loopw [5, 6] (fun ov iv wr => ∃ (k : Nat) (acc : ByteArray), k ≤ n ∧ iv = .int .i64 k ∧ ov = .string acc ∧ acc.size ≤ k * 100001 ∧ Hid (acc = sepT d (l.take k)) ∧ Below w.heap.size w wr) (fun _ iv _ => n - (intOf iv).toNat)
  case atStart => exact ⟨0, ⟨#[]⟩, by omega, rfl, rfl, by decide, Lib.hid rfl, Below.refl _ _⟩
  case round =>
    obtain ⟨k, acc, hk, rfl, rfl, hz, HA, hbr⟩ := hrel
    by_cases hlt : k < n
    · obtain ⟨x, hx⟩ : ∃ x, l[k]? = some x := ⟨_, List.getElem?_eq_getElem (by have := HL.out; omega)⟩
      obtain ⟨b, o, rfl, hcell⟩ := (HR.out.keep hbr).2 (by omega)
      have y0 : wr.cell? ⟨b, o + k, none⟩ = some (.string x) := hcell k _ (by simp [hx])
      have hxs := HS.out x (List.mem_of_getElem? hx)
      have hst := sepT_step d l k x hx
      have hk0 : (0 : Int) ≤ (k : Int) := by omega
      have hk1 : (k : Int) < (n : Int) := by omega
      have hk9 : k * 100001 ≤ 200000000 := by omega
      by_cases h0 : k = 0
      · rw [if_pos h0] at hst
        have d0 : decide ((0 : Int) < (k : Int)) = false := decide_eq_false (by omega)
        have d1 : decide (0 < k) = false := decide_eq_false (by omega)
        have he : acc = ⟨#[]⟩ := by rw [HA.out, h0]; rfl
        have HST := Lib.hid hst; have HZ := Lib.hid hz
        subst he
        clear hst hcell hx hz HA h0
        go_wp2_with fail
        exact ⟨⟨k + 1, x, by omega, by go_num, (by first | rfl | (congr 1; apply ByteArray.ext; simp) | simp), by have := HZ.out; omega, Lib.hid HST.out.symm, hbr⟩, by simp [intOf]; omega⟩
      · rw [if_neg h0, ← HA.out] at hst
        have d0 : decide ((0 : Int) < (k : Int)) = true := decide_eq_true (by omega)
        have d1 : decide (0 < k) = true := decide_eq_true (by omega)
        have z1 : (acc ++ ⟨#[d]⟩).size = acc.size + 1 := app_size _ _
        have z2 : ((acc ++ ⟨#[d]⟩) ++ x).size = acc.size + 1 + x.size := by rw [app_size, z1]
        have HST := Lib.hid hst; have Z2 := Lib.hid z2
        clear hst hcell hx HA h0 z2
        go_wp2_with fail
        exact ⟨⟨k + 1, _, by omega, by go_num, rfl, by rw [Z2.out]; omega, Lib.hid HST.out.symm, hbr⟩, by simp [intOf]; omega⟩
    · have hVe : V = acc := by rw [HV.out, HA.out, List.take_of_length_le (by have := HL.out; omega)]
      subst hVe
      go_wp2_with fail
      go_ret
      exact ⟨rfl, hbr⟩
end Go.Proofs.YtjhlpkhfdghngaaGreatDoor
namespace Go.Proofs.YtjhlpkhfdghngaaGreatDoor
open Go.RowKit Go.Sort
set_option linter.unusedVariables false
set_option linter.unusedSimpArgs false
set_option maxRecDepth 100000
theorem itoaB_size (x : Int) (h : 0 ≤ x ∧ x ≤ 9223372036854775807) : (itoaB x).size ≤ 100000 := by
  obtain ⟨n, rfl⟩ : ∃ n : Nat, x = (n : Int) := ⟨x.toNat, by omega⟩
  have hlen : (Lib.decDigits n).length ≤ 20 := by rw [Lib.decDigits_length]; exact Lib.nDigits_le20 n (by omega)
  have he : (itoaB (n : Int)).data.toList = Lib.decDigits n := itoa_dec _ (by omega)
  have hs : (itoaB (n : Int)).size = (itoaB (n : Int)).data.toList.length := by rw [Array.length_toList]; rfl
  rw [hs, he]
  omega
theorem infStr8 : (Tryz.prog.info? 9).map (fun i => (i.zero, i.size, i.bytes)) = some (some (.string ⟨#[]⟩), 1, 16) := by kernel_rfl
set_option maxHeartbeats 4000000 in
theorem rNumbers22_any (A : Option Addr) (n c : Nat) (xs : List Int) (w : World) (hA : Reads w 1 A n (xs.map (.int .i64))) (hn : n ≤ 1000) (hx64 : ∀ x ∈ xs, 0 ≤ x ∧ x ≤ 9223372036854775807) : Calls Tryz.prog 130 #[.slice A n c] w (Ret w (.string (numT xs))) := by
  have hl : xs.length = n := by have := hA.1; simp at this; omega
  obtain ⟨i0, hi0, hz0, hz1, hz2⟩ := info_parts infStr8
  have HI : Hid ((Tryz.prog.info? 9 = some i0) ∧ i0.zero = some (.string ⟨#[]⟩) ∧ i0.size = 1 ∧ i0.bytes = 16) := Lib.hid ⟨hi0, hz0, hz1, hz2⟩
  have cF : ∀ x ∈ xs, ∀ W, Calls Tryz.prog 65 #[.int .i64 x] W (Ret W (.string (itoaB x))) := fun x hx W => by
    obtain ⟨m, e⟩ : ∃ m : Nat, x = (m : Int) := ⟨x.toNat, by have := (hx64 x hx).1; omega⟩
    rw [e]
    exact rDecimal_any m W (by have := (hx64 x hx).2; omega)
  have hsz : ∀ s ∈ xs.map itoaB, s.size ≤ 100000 := fun s hs => by
    obtain ⟨x, hx, rfl⟩ := List.mem_map.1 hs
    exact itoaB_size x (hx64 x hx)
  have HF := Lib.hid cF; have HA := Lib.hid hA; have HL := Lib.hid hl; have HSZ := Lib.hid hsz
  unfold numT
  obtain ⟨V, hV⟩ : ∃ V, V = sepT 32 (xs.map itoaB) := ⟨_, rfl⟩
  rw [← hV]
  have HV := Lib.hid hV
  clear cF hA hl hi0 hz0 hz1 hz2 hsz hV hx64
  go_enter Tryz.func130, Tryz.ntmps130
  go_wp2_with fail
  go_loopw [3, 4] (fun va vi wr => ∃ (k : Nat) (A' : Option Addr) (c' : Nat), (va = .slice A' k c' ∧ vi = .int .i64 k ∧ k ≤ n) ∧ wr.ownsRow w.heap.size 9 1 (.slice A' k c') k (((xs.map itoaB).take k).map .string) ∧ Below w.heap.size w wr) (fun _ vi _ => n - (intOf vi).toNat)
  case atStart => exact ⟨0, none, 0, ⟨rfl, rfl, Nat.zero_le _⟩, World.ownsRow_nil _ _ _ _, Below.refl _ _⟩
  case round =>
    obtain ⟨k, A', c', ⟨rfl, rfl, hk⟩, hown, hbr⟩ := hrel
    by_cases hlt : k < n
    · obtain ⟨x, hx⟩ : ∃ x, xs[k]? = some x := ⟨_, List.getElem?_eq_getElem (by have := HL.out; omega)⟩
      obtain ⟨pb, po, rfl, hcell⟩ := (HA.out.keep hbr).2 (by omega)
      have hc1 : wr.cell? ⟨pb, po + k, none⟩ = some (.int .i64 x) := hcell k _ (by simp [hx])
      have hk0 : (0 : Int) ≤ (k : Int) := by omega
      have hk1 : (k : Int) < (n : Int) := by omega
      have htk : (xs.map itoaB).take (k + 1) = (xs.map itoaB).take k ++ [itoaB x] := by rw [List.take_add_one, List.getElem?_map, hx]; rfl
      have HTK := Lib.hid htk
      have HX := Lib.hid hx
      clear hcell hx htk
      go_wp2_with (first | (go_at_call 65; refine (HF.out x (List.mem_of_getElem? HX.out) _).mono ?_; rintro e w2 ⟨rfl, hb2⟩) | (at_builtin; refine wpList_append_own _ rfl _ _ 27 rfl w.heap.size 9 i0 (.string ⟨#[]⟩) 1 16 Tryz.underlying27 HI.out.1 HI.out.2.1 HI.out.2.2.1 HI.out.2.2.2 rfl (by decide) _ _ _ rfl ((ownsRow_keep hown hb2).alloc _) ⟨w2.heap.size, 0, none⟩ 1 1 [.string (itoaB x)] rfl rfl (cell_one_new _ _ _) (by simp [Value.oneCell']) (by unfold maxLen; omega) (by omega) (by have := hb2.size; have := hbr.size; simp; omega) ?_; intro v' w3 hown' hgrow _; obtain ⟨g', cap', rfl⟩ := ownsRow_succ hown'))
      refine ⟨⟨k + 1, some ⟨g', 0, none⟩, cap', ⟨rfl, by go_num, by omega⟩, ?_, ?_⟩, by simp [intOf]; omega⟩
      · rw [HTK.out, List.map_append]; exact hown'
      · have h1 := hbr.size
        have h2 := hb2.size
        exact ((hbr.trans (hb2.mono h1)).alloc (by omega) _).grown hgrow (by simp; omega) (fun r e => ownsRow_block hown r e)
    · obtain rfl : k = n := by omega
      have ht : (xs.map itoaB).take k = xs.map itoaB := List.take_of_length_le (by simp; have := HL.out; omega)
      rw [ht] at hown
      have cJ := rJoined22_any 32 A' k c' (xs.map itoaB) wr (Reads.of_own hown) hn HSZ.out
      rw [← HV.out] at cJ
      have HJ := Lib.hid cJ
      clear cJ HV ht hown
      go_wp2_with (go_at_call 129; refine HJ.out.mono ?_; rintro e w2 ⟨rfl, hb2⟩)
      go_ret
      exact ⟨rfl, belB⟩
end Go.Proofs.YtjhlpkhfdghngaaGreatDoor
namespace Go.Proofs.YtjhlpkhfdghngaaGreatDoor
open Go.RowKit Go.Sort
set_option linter.unusedVariables false
set_option linter.unusedSimpArgs false
set_option maxRecDepth 100000
def meetV (r : Option (Option Pat)) : Value := match r with
  | none => .tuple #[.bool false, .string ⟨#[]⟩, .int .i64 1]
  | some none => .tuple #[.bool false, .string ⟨#[]⟩, .int .i64 0]
  | some (some z) => .tuple #[.bool true, .string (joinS (withP z.cust.kind z.cust.text ⟨#[97]⟩ :: wordsL z.parts)), .int .i64 0]
end Go.Proofs.YtjhlpkhfdghngaaGreatDoor
namespace Go.Proofs.YtjhlpkhfdghngaaGreatDoor
open Go.RowKit Go.Sort
set_option linter.unusedVariables false
set_option linter.unusedSimpArgs false
set_option maxRecDepth 100000
def coversV : Option Pat → Option Pat → Value
  | some x, some y => .tuple #[.bool (coverB x y), .string (if coverB x y then ⟨#[]⟩ else coverW x y), .int .i64 0]
  | _, _ => .tuple #[.bool false, .string ⟨#[]⟩, .int .i64 1]
theorem Reads.put {w : World} {g n k : Nat} {vs : List Value} (h : Reads w 1 (some ⟨g, 0, none⟩) n vs) (hk : k < n) (v : Value) : Reads (w.setCell ⟨g, 0 + k, none⟩ v) 1 (some ⟨g, 0, none⟩) n (vs.set k v) := by
  refine ⟨by simpa using h.1, fun hn => ⟨g, 0, rfl, fun j u hu => ?_⟩⟩
  obtain ⟨b, o, he, hc⟩ := h.2 hn
  injection he with he; injection he with h1 h2 _; subst h1; subst h2
  by_cases e : k = j
  · subst e
    have hl : k < vs.length := by have := h.1; omega
    rw [List.getElem?_set_self hl] at hu
    injection hu with hu; subst hu
    exact World.cell?_setCell_same w _ v (hc k _ (List.getElem?_eq_getElem hl))
  · rw [List.getElem?_set_ne e] at hu
    exact (World.cell?_setCell_other w _ ⟨g, 0 + j, none⟩ v (by intro h; injection h with _ h _; omega)).trans (hc j u hu)
end Go.Proofs.YtjhlpkhfdghngaaGreatDoor
namespace Go.Proofs.YtjhlpkhfdghngaaGreatDoor
open Go.RowKit Go.Sort
set_option linter.unusedVariables false
set_option linter.unusedSimpArgs false
set_option maxRecDepth 100000
theorem s1 : canonV (⟨#[65, 99, 109, 101, 47, 78, 101, 119, 115, 47, 46, 47, 50, 48, 50, 54, 47, 46, 46, 47, 97, 46, 72, 84, 77, 76, 47, 63, 98, 61, 50, 38, 97, 61, 49]⟩ : ByteArray) = .tuple #[.string (⟨#[97, 99, 109, 101, 47, 110, 101, 119, 115, 47, 97, 46, 104, 116, 109, 108, 63, 97, 61, 49, 38, 98, 61, 50]⟩ : ByteArray), .int .i64 0] := by kernel_rfl
theorem s2 : matchB (⟨#[97, 99, 109, 101, 47, 110, 101, 119, 115, 47, 42, 42]⟩ : ByteArray) (⟨#[97, 99, 109, 101, 47, 110, 101, 119, 115]⟩ : ByteArray) = true := by kernel_rfl
theorem s3 : matchB (⟨#[97, 99, 109, 101, 47, 42, 47, 42, 46, 104, 116, 109, 108]⟩ : ByteArray) (⟨#[97, 99, 109, 101, 47, 110, 101, 119, 115, 47, 97, 46, 104, 116, 109, 108]⟩ : ByteArray) = true := by kernel_rfl
theorem s4 : matchB (⟨#[97, 99, 109, 101, 47, 42]⟩ : ByteArray) (⟨#[97, 99, 109, 101, 47, 97, 47, 98]⟩ : ByteArray) = false := by kernel_rfl
theorem s5 : coversV (compileB (⟨#[97, 99, 109, 101, 47, 42, 42]⟩ : ByteArray)) (compileB (⟨#[97, 99, 109, 101, 47, 42, 46, 99, 115, 115]⟩ : ByteArray)) = .tuple #[.bool true, .string ⟨#[]⟩, .int .i64 0] := by kernel_rfl
theorem s6 : coversV (compileB (⟨#[97, 99, 109, 101, 47, 42, 46, 99, 115, 115]⟩ : ByteArray)) (compileB (⟨#[97, 99, 109, 101, 47, 42]⟩ : ByteArray)) = .tuple #[.bool false, .string (⟨#[97, 99, 109, 101, 47, 97]⟩ : ByteArray), .int .i64 0] := by kernel_rfl
theorem s7 : meetV (bothP (⟨#[97, 99, 109, 101, 47, 42, 47, 98]⟩ : ByteArray) (⟨#[97, 99, 109, 101, 47, 97, 47, 42, 42]⟩ : ByteArray)) = .tuple #[.bool true, .string (⟨#[97, 99, 109, 101, 47, 97, 47, 98]⟩ : ByteArray), .int .i64 0] := by kernel_rfl
theorem sortL_of {xs ys : List (List UInt8)} (hp : ys.Perm xs) (hs : ys.Pairwise (· ≤ ·)) : sortL xs = ys := by
  have tr : ∀ a b c : List UInt8, decide (a ≤ b) = true → decide (b ≤ c) = true → decide (a ≤ c) = true := fun a b c h1 h2 => by simp only [decide_eq_true_eq] at *; exact List.le_trans h1 h2
  have tot : ∀ a b : List UInt8, (decide (a ≤ b) || decide (b ≤ a)) = true := fun a b => by simp only [Bool.or_eq_true, decide_eq_true_eq]; exact List.le_total a b
  refine List.Perm.eq_of_pairwise (le := fun a b => decide (a ≤ b) = true) (fun a b _ _ h1 h2 => ?_) (List.pairwise_mergeSort tr tot _) (hs.imp fun h => decide_eq_true h) ((List.mergeSort_perm _ _).trans hp.symm)
  simp only [decide_eq_true_eq] at h1 h2
  exact List.le_antisymm h1 h2
theorem t10 : tagsL [(⟨#[98]⟩ : ByteArray), (⟨#[97]⟩ : ByteArray), (⟨#[98]⟩ : ByteArray)] = [97, 44, 98] := by
  have h : sortL (lists [(⟨#[98]⟩ : ByteArray), (⟨#[97]⟩ : ByteArray), (⟨#[98]⟩ : ByteArray)]) = [[97], [98], [98]] := sortL_of (by decide) (by decide)
  unfold tagsL
  rw [h]
  show Lib.join (Lib.compact [[97], [98], [98]]) [44] = [97, 44, 98]
  kernel_rfl
theorem t13 : tagsL [(⟨#[97]⟩ : ByteArray), (⟨#[98]⟩ : ByteArray)] = [97, 44, 98] := by
  have h : sortL (lists [(⟨#[97]⟩ : ByteArray), (⟨#[98]⟩ : ByteArray)]) = [[97], [98]] := sortL_of (by decide) (by decide)
  unfold tagsL
  rw [h]
  show Lib.join (Lib.compact [[97], [98]]) [44] = [97, 44, 98]
  kernel_rfl
end Go.Proofs.YtjhlpkhfdghngaaGreatDoor
namespace Go.Proofs.YtjhlpkhfdghngaaGreatDoor
open Go.RowKit Go.Sort
set_option linter.unusedVariables false
set_option linter.unusedSimpArgs false
set_option maxRecDepth 100000
theorem tagsL_compact (zs : List BL) (h : zs.Pairwise (· < ·)) : Lib.compact (sortL zs) = zs := by
  have hs : sortL zs = zs := sortL_of (List.Perm.refl _) (h.imp fun h => List.le_of_lt h)
  rw [hs]
  obtain ⟨h1, h2⟩ := compact_sorted zs (h.imp fun h => List.le_of_lt h)
  exact uniq_sorted _ _ h1 h h2
end Go.Proofs.YtjhlpkhfdghngaaGreatDoor
namespace Go.Proofs.YtjhlpkhfdghngaaGreatDoor
open Go.RowKit Go.Sort
set_option linter.unusedVariables false
set_option linter.unusedSimpArgs false
set_option maxRecDepth 100000
theorem compact_one (x : BL) : Lib.compact (sortL [x]) = [x] := tagsL_compact [x] (List.pairwise_singleton _ _)
theorem tags_one (s : ByteArray) : tagsR [s] = if isNameB s then (s, 0) else (⟨#[]⟩, 1) := by
  have e : tagsL [s] = s.data.toList := by
    unfold tagsL
    show Lib.join (Lib.compact (sortL [s.data.toList])) [44] = _
    rw [compact_one, Lib.join_cons]
    simp [Lib.joinTail]
  unfold tagsR
  cases h : isNameB s
  · simp [h]
  · have hz := (word_ne (name_word h)).2.2.2
    rw [if_neg (by simp [h]), e, if_neg (by rw [← Lib.size_eq]; omega), if_pos rfl]
    exact congrArg (·, (0 : Int)) (bytes_ext (by simp [toB]))
end Go.Proofs.YtjhlpkhfdghngaaGreatDoor
namespace Go.Proofs.YtjhlpkhfdghngaaGreatDoor
open Go.RowKit Go.Sort
set_option linter.unusedVariables false
set_option linter.unusedSimpArgs false
set_option maxRecDepth 100000
set_option maxHeartbeats 4000000 in
theorem polName_any (s : ByteArray) (w : World) (hs : s.size ≤ 4294967281) (hE : Env w) : Calls Tryz.prog 48 #[.string s] w (Ret w (.bool (isNameB s))) := by
  have ht := fun W (hR : Reads W 1 (some ⟨w.heap.size, 0, none⟩) 1 ([s].map .string)) => tags_any (some ⟨w.heap.size, 0, none⟩) 1 1 [s] W hR (by simp) (by intro p hp; rw [List.mem_singleton.1 hp]; exact hs)
  have hr : Reads (w.alloc (.cells #[.string s] 9)) 1 (some ⟨w.heap.size, 0, none⟩) 1 ([s].map .string) := by
    refine ⟨rfl, fun _ => ⟨_, _, rfl, fun j u hu => ?_⟩⟩
    rw [Nat.zero_add, cell_of_row _ _ _ _ _ _ (World.alloc_heap_new w (.cells #[.string s] 9))]
    simpa using hu
  have h1 := ht _ hr
  unfold tagsV at h1
  rw [tags_one] at h1
  clear ht hr
  by_cases hn : isNameB s = true
  · rw [if_pos hn] at h1
    have H1 := Lib.hid h1
    rw [hn]
    clear h1 hn
    go_enter Tryz.func48, Tryz.ntmps48
    go_wp2_with (go_at_call 23; refine H1.out.mono ?_; rintro e w2 ⟨rfl, hb2⟩)
    go_ret
    exact ⟨by simp, belB⟩
  · rw [if_neg hn] at h1
    have H1 := Lib.hid h1
    have hf : isNameB s = false := by simpa using hn
    rw [hf]
    clear h1 hn hf
    go_enter Tryz.func48, Tryz.ntmps48
    go_wp2_with (go_at_call 23; refine H1.out.mono ?_; rintro e w2 ⟨rfl, hb2⟩)
    go_ret
    exact ⟨by simp, belB⟩
end Go.Proofs.YtjhlpkhfdghngaaGreatDoor
namespace Go.Proofs.YtjhlpkhfdghngaaGreatDoor
open Go.RowKit Go.Sort
set_option linter.unusedVariables false
set_option linter.unusedSimpArgs false
set_option maxRecDepth 100000
theorem box_facts {W : World} {g : Nat} {x : RuleM} (h : RowV W g 33 x.cells) : W.cell? ⟨g, 0, none⟩ = some (.string x.r.name) ∧ W.cell? ⟨g, 1, none⟩ = some (.string x.r.pat) ∧ W.cell? ⟨g, 2, none⟩ = some (.slice x.T x.r.tags.length x.ct) ∧ W.cell? ⟨g, 3, none⟩ = some (.int .i64 x.r.fresh) ∧ W.cell? ⟨g, 4, none⟩ = some (.int .i64 x.r.stale) ∧ W.cell? ⟨g, 5, none⟩ = some (.int .i64 x.r.down) ∧ W.cell? ⟨g, 6, none⟩ = some (.int .i64 x.r.neg) ∧ W.cell? ⟨g, 7, none⟩ = some (.slice x.V x.r.vary.length x.cv) ∧ W.cell? ⟨g, 8, none⟩ = some (.int .i64 x.r.allow.fr) ∧ W.cell? ⟨g, 9, none⟩ = some (.int .i64 x.r.allow.till) ∧ W.cell? ⟨g, 10, none⟩ = some (.string x.r.allow.pat) ∧ W.cell? ⟨g, 11, none⟩ = some (.slice x.m.A x.r.allow.cl.length x.m.ca) ∧ W.cell? ⟨g, 12, none⟩ = some (.slice x.m.B x.r.allow.co.length x.m.cb) ∧ W.cell? ⟨g, 13, none⟩ = some (.slice x.m.S x.r.allow.si.length x.m.cs) ∧ W.cell? ⟨g, 14, none⟩ = some (.int .i64 x.r.allow.us) ∧ W.cell? ⟨g, 15, none⟩ = some (.bool x.r.signed) ∧ W.cell? ⟨g, 16, none⟩ = some (.int .i64 x.r.cost) ∧ W.cell? ⟨g, 17, none⟩ = some (.string x.r.prog) :=
  ⟨RowV.cell h rfl, RowV.cell h rfl, RowV.cell h rfl, RowV.cell h rfl, RowV.cell h rfl, RowV.cell h rfl, RowV.cell h rfl, RowV.cell h rfl, RowV.cell h rfl, RowV.cell h rfl, RowV.cell h rfl, RowV.cell h rfl, RowV.cell h rfl, RowV.cell h rfl, RowV.cell h rfl, RowV.cell h rfl, RowV.cell h rfl, RowV.cell h rfl⟩
end Go.Proofs.YtjhlpkhfdghngaaGreatDoor
