/- The specification's Country, has and site. -/
import Derived.Test.YtdlbfjoemabfpaaGreatDoorEZ2
import Derived.Test.YtdlbfjoemabfpaaGreatDoorEZ15
import Derived.Test.YtdlbfjoemabfpaaGreatDoorEZ9
import Derived.Test.YtdlbfjoemabfpaaGreatDoorProg
import Derived.WalkKit
import Derived.WalkSpells
import Derived.WalkLawsBesides
import Derived.Below
import Derived.Deep.QuietTactic
import Derived.BigQuiet
import Derived.Lib.QuietBelow
import Derived.Lib.Strings
import Derived.Lib.Hide
import Derived.Deep.RegionWith
import Derived.Deep.RegionHeld3
import Derived.Lib.IndexBytes
import Derived.Test.YtdlbfjoemabfpaaGreatDoorEZ12
import Derived.Test.YtdlbfjoemabfpaaGreatDoorEZ21
namespace Go.Proofs.YtdlbfjoemabfpaaGreatDoor
open Go.RowKit Go.Sort
set_option linter.unusedVariables false
set_option linter.unusedSimpArgs false
set_option maxRecDepth 100000
theorem country_four (s : ByteArray) (h : s.size = 2) : countryB s = (decide ((97 : Int) ≤ ((s[0]'(by omega)).toNat : Int)) && decide (((s[0]'(by omega)).toNat : Int) ≤ 122) && decide ((97 : Int) ≤ ((s[1]'(by omega)).toNat : Int)) && decide (((s[1]'(by omega)).toNat : Int) ≤ 122)) := by
  unfold countryB
  rw [decide_eq_true h, Bool.true_and, two_bytes s h]
  simp only [List.all_cons, List.all_nil, Bool.and_true]
  rw [Bool.eq_iff_iff]
  simp only [Bool.and_eq_true, decide_eq_true_eq]
  omega
set_option maxHeartbeats 2000000 in
theorem rCountry_any (s : ByteArray) (w : World) (hs : s.size ≤ 4294967281) : Calls Tryz.prog 93 #[.string s] w (Ret w (.bool (countryB s))) := by
  by_cases h2 : s.size = 2
  · have d2 : ((s.size : Int) == 2) = true := by simp; omega
    have hv := country_four s h2
    have q0 : (0 : Int) < (s.size : Int) := by omega
    have q1 : (1 : Int) < (s.size : Int) := by omega
    rw [hv]
    clear hv
    cases e1 : decide ((97 : Int) ≤ ((s[0]'(by omega)).toNat : Int))
    · (go_enter Tryz.func93, Tryz.ntmps93; go_wp2; go_ret; exact ⟨rfl, belB⟩)
    cases e2 : decide (((s[0]'(by omega)).toNat : Int) ≤ 122)
    · (go_enter Tryz.func93, Tryz.ntmps93; go_wp2; go_ret; exact ⟨rfl, belB⟩)
    cases e3 : decide ((97 : Int) ≤ ((s[1]'(by omega)).toNat : Int))
    · (go_enter Tryz.func93, Tryz.ntmps93; go_wp2; go_ret; exact ⟨rfl, belB⟩)
    cases e4 : decide (((s[1]'(by omega)).toNat : Int) ≤ 122)
    · (go_enter Tryz.func93, Tryz.ntmps93; go_wp2; go_ret; exact ⟨rfl, belB⟩)
    · (go_enter Tryz.func93, Tryz.ntmps93; go_wp2; go_ret; exact ⟨rfl, belB⟩)
  · have d2 : ((s.size : Int) == 2) = false := beq_eq_false_iff_ne.2 (by omega)
    have hv : countryB s = false := by unfold countryB; rw [decide_eq_false h2]; rfl
    rw [hv]
    (go_enter Tryz.func93, Tryz.ntmps93; go_wp2; go_ret; exact ⟨rfl, belB⟩)
def hasL {α : Type} [DecidableEq α] (l : List α) (x : α) : Bool := l.contains x
theorem hasL_iff {α : Type} [DecidableEq α] (l : List α) (x : α) : hasL l x = true ↔ x ∈ l := by unfold hasL; exact List.contains_iff_mem
theorem contains_take {α : Type} [DecidableEq α] {l : List α} {k : Nat} {x s : α} (h : hasL (l.take k) s = false) (hx : l[k]? = some x) (hp : x ≠ s) : hasL (l.take (k + 1)) s = false := by
  rw [← Bool.not_eq_true, hasL_iff] at h ⊢
  rw [List.take_add_one, hx]
  simp only [Option.toList_some, List.mem_append, List.mem_singleton, not_or]
  exact ⟨h, fun e => hp e.symm⟩
theorem contains_hit {α : Type} [DecidableEq α] {l : List α} {k : Nat} {x s : α} (hx : l[k]? = some x) (hp : x = s) : hasL l s = true := by
  rw [hasL_iff, ← hp]; exact List.mem_of_getElem? hx
set_option maxHeartbeats 2000000 in
theorem rHas21_any (A : Option Addr) (n c : Nat) (xs : List ByteArray) (s : ByteArray) (w : World) (hA : Reads w 1 A n (xs.map .string)) (hn : n ≤ 1000000000) : Calls Tryz.prog 132 #[.slice A n c, .string s] w (Ret w (.bool (hasL xs s))) := by
  have hl : xs.length = n := by have := hA.1; simp at this; omega
  obtain ⟨V, hV⟩ : ∃ V, V = hasL xs s := ⟨_, rfl⟩
  rw [← hV]
  have HA := Lib.hid hA; have HL := Lib.hid hl; have HV := Lib.hid hV
  clear hA hl hV
  go_enter Tryz.func132, Tryz.ntmps132
  go_wp2
  go_loopw [5] (fun i wr => ∃ k : Nat, k ≤ n ∧ i = .int .i64 k ∧ Hid (hasL (xs.take k) s = false) ∧ Below w.heap.size w wr) (fun i _ => n - (intOf i).toNat)
  case atStart => exact ⟨0, by omega, rfl, Lib.hid rfl, Below.refl _ _⟩
  case round =>
    obtain ⟨k, hk, rfl, HK, hb⟩ := hrel
    by_cases hlt : k < n
    · obtain ⟨x, hx⟩ : ∃ x, xs[k]? = some x := ⟨_, List.getElem?_eq_getElem (by have := HL.out; omega)⟩
      obtain ⟨pb, po, rfl, hcell⟩ := (HA.out.keep hb).2 (by omega)
      have hc1 : wr.cell? ⟨pb, po + k, none⟩ = some (.string x) := hcell k _ (by simp [hx])
      have hk0 : (0 : Int) ≤ (k : Int) := by omega
      have hk1 : (k : Int) < (n : Int) := by omega
      cases he : (x.toList == s.toList)
      · have hne : x ≠ s := fun e => by rw [e] at he; simp at he
        have HK2 : Hid (hasL (xs.take (k + 1)) s = false) := Lib.hid (contains_take HK.out hx hne)
        clear HK hcell hx hne
        go_wp2
        exact ⟨⟨k + 1, by omega, by go_num, HK2, hb⟩, by simp [intOf]; omega⟩
      · obtain rfl : V = true := by rw [HV.out]; exact contains_hit hx ((beq_bytes x s).1 he)
        clear HK hcell hx
        go_wp2
        go_ret
        exact ⟨rfl, hb⟩
    · obtain rfl : V = false := by
        rw [HV.out]
        have := HK.out
        rwa [List.take_of_length_le (by have := HL.out; omega)] at this
      go_wp2
      go_ret
      exact ⟨rfl, hb⟩
set_option maxHeartbeats 2000000 in
theorem rSite_any (A : Option Addr) (n c : Nat) (xs : List Int) (s : Int) (w : World) (hA : Reads w 1 A n (xs.map (.int .i64))) (hn : n ≤ 1000000000) : Calls Tryz.prog 133 #[.slice A n c, .int .i64 s] w (Ret w (.bool (hasL xs s))) := by
  have hl : xs.length = n := by have := hA.1; simp at this; omega
  obtain ⟨V, hV⟩ : ∃ V, V = hasL xs s := ⟨_, rfl⟩
  rw [← hV]
  have HA := Lib.hid hA; have HL := Lib.hid hl; have HV := Lib.hid hV
  clear hA hl hV
  go_enter Tryz.func133, Tryz.ntmps133
  go_wp2
  go_loopw [5] (fun i wr => ∃ k : Nat, k ≤ n ∧ i = .int .i64 k ∧ Hid (hasL (xs.take k) s = false) ∧ Below w.heap.size w wr) (fun i _ => n - (intOf i).toNat)
  case atStart => exact ⟨0, by omega, rfl, Lib.hid rfl, Below.refl _ _⟩
  case round =>
    obtain ⟨k, hk, rfl, HK, hb⟩ := hrel
    by_cases hlt : k < n
    · obtain ⟨x, hx⟩ : ∃ x, xs[k]? = some x := ⟨_, List.getElem?_eq_getElem (by have := HL.out; omega)⟩
      obtain ⟨pb, po, rfl, hcell⟩ := (HA.out.keep hb).2 (by omega)
      have hc1 : wr.cell? ⟨pb, po + k, none⟩ = some (.int .i64 x) := hcell k _ (by simp [hx])
      have hk0 : (0 : Int) ≤ (k : Int) := by omega
      have hk1 : (k : Int) < (n : Int) := by omega
      cases he : (x == s)
      · have hne : x ≠ s := fun e => by rw [e] at he; simp at he
        have HK2 : Hid (hasL (xs.take (k + 1)) s = false) := Lib.hid (contains_take HK.out hx hne)
        clear HK hcell hx hne
        go_wp2
        exact ⟨⟨k + 1, by omega, by go_num, HK2, hb⟩, by simp [intOf]; omega⟩
      · obtain rfl : V = true := by rw [HV.out]; exact contains_hit hx (by simpa using he)
        clear HK hcell hx
        go_wp2
        go_ret
        exact ⟨rfl, hb⟩
    · obtain rfl : V = false := by
        rw [HV.out]
        have := HK.out
        rwa [List.take_of_length_le (by have := HL.out; omega)] at this
      go_wp2
      go_ret
      exact ⟨rfl, hb⟩
end Go.Proofs.YtdlbfjoemabfpaaGreatDoor
namespace Go.Proofs.YtdlbfjoemabfpaaGreatDoor
open Go.RowKit Go.Sort
set_option linter.unusedVariables false
set_option linter.unusedSimpArgs false
set_option maxRecDepth 100000
theorem le_prev2 (x y : ByteArray) : (Op.bytesLess x.toList y.toList || x.toList == y.toList) = !ltB y x := le_prev x y
def ascB (l : List ByteArray) : Bool := (List.range l.length).all (okK ltB (fun _ => true) l)
theorem asc_at {l : List ByteArray} {k : Nat} {x y : ByteArray} (hx : l[k + 1]? = some x) (hy : l[k]? = some y) : okK ltB (fun _ => true) l (k + 1) = ltB y x := by
  unfold okK
  rw [hx, Nat.add_sub_cancel, hy]
  simp
theorem asc_fail {l : List ByteArray} {k : Nat} (hk : k < l.length) (h2 : okK ltB (fun _ => true) l k = false) : ascB l = false := by
  unfold ascB
  rw [List.all_eq_false]
  exact ⟨k, by simpa using hk, by rw [h2]; simp⟩
set_option maxHeartbeats 2000000 in
theorem rAscend_any (A : Option Addr) (n c : Nat) (xs : List ByteArray) (w : World) (hA : Reads w 1 A n (xs.map .string)) (hn : n ≤ 1000000000) : Calls Tryz.prog 94 #[.slice A n c] w (Ret w (.bool (ascB xs))) := by
  have hl : xs.length = n := by have := hA.1; simp at this; omega
  obtain ⟨V, hV⟩ : ∃ V, V = ascB xs := ⟨_, rfl⟩
  rw [← hV]
  have HA := Lib.hid hA; have HL := Lib.hid hl; have HV := Lib.hid hV
  clear hA hl hV
  go_enter Tryz.func94, Tryz.ntmps94
  go_wp2
  go_loopw [3] (fun i wr => ∃ k : Nat, k ≤ n ∧ i = .int .i64 (k + 1 : Nat) ∧ Hid ((List.range (k + 1)).all (okK ltB (fun _ => true) xs) = true) ∧ Below w.heap.size w wr) (fun i _ => n + 1 - (intOf i).toNat)
  case atStart => exact ⟨0, by omega, rfl, Lib.hid (by simp [okK]; cases xs[0]? <;> rfl), Below.refl _ _⟩
  case round =>
    obtain ⟨k, hk, rfl, HK, hb⟩ := hrel
    by_cases hlt : k + 1 < n
    · obtain ⟨x, hx⟩ : ∃ x, xs[k + 1]? = some x := ⟨_, List.getElem?_eq_getElem (by have := HL.out; omega)⟩
      obtain ⟨y, hy⟩ : ∃ y, xs[k]? = some y := ⟨_, List.getElem?_eq_getElem (by have := HL.out; omega)⟩
      obtain ⟨pb, po, rfl, hcell⟩ := (HA.out.keep hb).2 (by omega)
      have hc1 : wr.cell? ⟨pb, po + (k + 1), none⟩ = some (.string x) := hcell (k + 1) _ (by simp [hx])
      have hc2 : wr.cell? ⟨pb, po + k, none⟩ = some (.string y) := hcell k _ (by simp [hy])
      have hk0 : (0 : Int) ≤ (k : Int) := by omega
      have hk1 : (k : Int) < (n : Int) := by omega
      have hk2 : (0 : Int) ≤ (k : Int) + 1 := by omega
      have hk3 : (k : Int) + 1 < (n : Int) := by omega
      have hle := le_prev2 x y
      have hat := asc_at hx hy
      cases ht : ltB y x
      · obtain rfl : V = false := by rw [HV.out]; exact asc_fail (k := k + 1) (by have := HL.out; omega) (by rw [hat, ht])
        rw [ht] at hle
        clear HK hcell hx hy hat ht
        go_wp2_with fail
        go_quiet (fail)
        go_wp2
        go_ret
        exact ⟨rfl, belB⟩
      · have HK2 : Hid ((List.range (k + 1 + 1)).all (okK ltB (fun _ => true) xs) = true) := Lib.hid (okK_upto HK.out (by rw [hat, ht]))
        rw [ht] at hle
        clear HK hcell hx hy hat ht
        go_wp2_with fail
        go_quiet (fail)
        go_wp2
        exact ⟨⟨k + 1, by omega, by go_num, HK2, belB⟩, by simp [intOf]; omega⟩
    · obtain rfl : V = true := by
        rw [HV.out]
        unfold ascB
        rw [List.all_eq_true]
        intro j hj
        have := HK.out
        rw [List.all_eq_true] at this
        exact this j (by simp at hj ⊢; have := HL.out; omega)
      go_wp2
      go_ret
      exact ⟨rfl, hb⟩
end Go.Proofs.YtdlbfjoemabfpaaGreatDoor
namespace Go.Proofs.YtdlbfjoemabfpaaGreatDoor
open Go.RowKit Go.Sort
set_option linter.unusedVariables false
set_option linter.unusedSimpArgs false
set_option maxRecDepth 100000
theorem okK_split {α : Type} (lt : α → α → Bool) (right : α → Bool) (l : List α) (k : Nat) : okK lt right l k = ((match l[k]? with
    | none => true
    | some x => right x) && okK lt (fun _ => true) l k) := by
  unfold okK
  cases l[k]? <;> simp
theorem setB_split (right : ByteArray → Bool) (most : Nat) (l : List ByteArray) : setB ltB right most l = (decide (l.length ≤ most) && l.all right && ascB l) := by
  unfold setB ascB
  rw [Bool.eq_iff_iff]
  simp only [Bool.and_eq_true, decide_eq_true_eq, List.all_eq_true]
  constructor
  · rintro ⟨h1, h2⟩
    refine ⟨⟨h2, fun x hx => ?_⟩, fun k hk => ?_⟩
    · obtain ⟨k, hk, rfl⟩ := List.getElem_of_mem hx
      have := h1 k (by simpa using hk)
      rw [okK_split, List.getElem?_eq_getElem hk, Bool.and_eq_true] at this
      exact this.1
    · have := h1 k hk
      rw [okK_split, Bool.and_eq_true] at this
      exact this.2
  · rintro ⟨⟨h1, h2⟩, h3⟩
    refine ⟨fun k hk => ?_, h1⟩
    rw [okK_split, Bool.and_eq_true]
    refine ⟨?_, h3 k hk⟩
    have hk' : k < l.length := by simpa using hk
    rw [List.getElem?_eq_getElem hk']
    exact h2 _ (List.getElem_mem hk')
def sitesOk (l : List Int) : Bool := (List.range l.length).all (okK ltI siteB l)
theorem sites_fail {l : List Int} {k : Nat} (hk : k < l.length) (h2 : okK ltI siteB l k = false) : sitesOk l = false := by
  unfold sitesOk
  rw [List.all_eq_false]
  exact ⟨k, by simpa using hk, by rw [h2]; simp⟩
theorem validC_split (c : CondV) : validC c = (timesB c && patOk c.pat && decide (c.cl.length ≤ 32) && decide (c.co.length ≤ 32) && decide (c.si.length ≤ 64) && (c.cl.all isNameB && c.co.all countryB && sitesOk c.si && ascB c.cl && ascB c.co)) := by
  unfold validC
  rw [setB_split, setB_split]
  have h3 : setB ltI siteB 64 c.si = (sitesOk c.si && decide (c.si.length ≤ 64)) := rfl
  rw [h3]
  generalize timesB c = a1
  generalize patOk c.pat = a2
  generalize decide (c.cl.length ≤ 32) = a3
  generalize decide (c.co.length ≤ 32) = a4
  generalize decide (c.si.length ≤ 64) = a5
  generalize c.cl.all isNameB = a6
  generalize c.co.all countryB = a7
  generalize sitesOk c.si = a8
  generalize ascB c.cl = a9
  generalize ascB c.co = a10
  revert a1 a2 a3 a4 a5 a6 a7 a8 a9 a10
  decide
set_option maxHeartbeats 16000000 in
theorem rValid21_any (c : CondV) (m : CondMem) (w : World) (hR : CondReads w c m) (hp : c.pat.size ≤ 100000) (hcl : ∀ x ∈ c.cl, x.size ≤ 100000) (hco : ∀ x ∈ c.co, x.size ≤ 100000) (h1 : c.cl.length ≤ 1000000) (h2 : c.co.length ≤ 1000000) (h3 : c.si.length ≤ 1000000) :
    Calls Tryz.prog 53 #[CondMem.val c m] w (Ret w (.bool (validC c))) := by
  obtain ⟨fr, till, pat, cl, co, si, us⟩ := c
  obtain ⟨A, ca, B, cb, S, cs⟩ := m
  obtain ⟨hA, hB, hS⟩ := hR
  dsimp only at hA hB hS hp hcl hco h1 h2 h3
  unfold CondMem.val
  dsimp only
  obtain ⟨V, hV⟩ : ∃ V, V = validC ⟨fr, till, pat, cl, co, si, us⟩ := ⟨_, rfl⟩
  rw [← hV]
  rw [validC_split] at hV
  unfold timesB patOk at hV
  dsimp only at hV
  have hva := fun W => rValid_any pat W hp
  have hna := fun x (hx : x ∈ cl) W => rName_any x W (by have := hcl x hx; omega)
  have hcy := fun x (hx : x ∈ co) W => rCountry_any x W (by have := hco x hx; omega)
  have has1 := fun W (hb : Below w.heap.size w W) => rAscend_any A cl.length ca cl W (hA.keep hb) (by omega)
  have has2 := fun W (hb : Below w.heap.size w W) => rAscend_any B co.length cb co W (hB.keep hb) (by omega)
  generalize (compileB pat).isSome = b1 at *
  obtain ⟨na, hna0⟩ : ∃ na, na = cl.length := ⟨_, rfl⟩
  obtain ⟨nb, hnb0⟩ : ∃ nb, nb = co.length := ⟨_, rfl⟩
  obtain ⟨ns, hns0⟩ : ∃ ns, ns = si.length := ⟨_, rfl⟩
  rw [← hna0] at hA hV h1 has1 ⊢
  rw [← hnb0] at hB hV h2 has2 ⊢
  rw [← hns0] at hS hV h3 ⊢
  have HVA := Lib.hid hva
  have HNA := Lib.hid hna
  have HCY := Lib.hid hcy
  have HAS1 := Lib.hid has1
  have HAS2 := Lib.hid has2
  have HA := Lib.hid hA; have HB := Lib.hid hB; have HS := Lib.hid hS
  have HLA := Lib.hid hna0; have HLB := Lib.hid hnb0; have HLS := Lib.hid hns0
  clear hva hna hcy has1 has2 hA hB hS hna0 hnb0 hns0 hcl hco hp
  by_cases t1 : 0 ≤ fr
  rotate_left
  · obtain rfl : V = false := by rw [hV]; simp [t1]
    have d1 : decide (fr < 0) = true := decide_eq_true (by omega)
    clear hV
    (go_enter Tryz.func53, Tryz.ntmps53; go_wp2_with (go_at_call 51; refine (HVA.out _).mono ?_; rintro e w2 ⟨rfl, hb2⟩; (have hX2 : CBox w2 w.heap.size fr till pat A na ca B nb cb S ns cs us := (by first | exact Blk.keep hX hb2 | exact Blk.keep hX2 hb2 | exact Blk.keep (World.alloc_heap_new _ _) hb2); obtain ⟨x0, x1, x2, x3, x4, x5, x6⟩ := hX2.facts)); go_ret; exact ⟨rfl, belB⟩)
  have d1 : decide (fr < 0) = false := decide_eq_false (by omega)
  by_cases t2 : fr ≤ 1099511627776
  rotate_left
  · obtain rfl : V = false := by rw [hV]; simp [t2]
    have d2 : decide (1099511627776 < fr) = true := decide_eq_true (by omega)
    clear hV
    (go_enter Tryz.func53, Tryz.ntmps53; go_wp2_with (go_at_call 51; refine (HVA.out _).mono ?_; rintro e w2 ⟨rfl, hb2⟩; (have hX2 : CBox w2 w.heap.size fr till pat A na ca B nb cb S ns cs us := (by first | exact Blk.keep hX hb2 | exact Blk.keep hX2 hb2 | exact Blk.keep (World.alloc_heap_new _ _) hb2); obtain ⟨x0, x1, x2, x3, x4, x5, x6⟩ := hX2.facts)); go_ret; exact ⟨rfl, belB⟩)
  have d2 : decide (1099511627776 < fr) = false := decide_eq_false (by omega)
  by_cases t3 : 0 ≤ till
  rotate_left
  · obtain rfl : V = false := by rw [hV]; simp [t3]
    have d3 : decide (till < 0) = true := decide_eq_true (by omega)
    clear hV
    (go_enter Tryz.func53, Tryz.ntmps53; go_wp2_with (go_at_call 51; refine (HVA.out _).mono ?_; rintro e w2 ⟨rfl, hb2⟩; (have hX2 : CBox w2 w.heap.size fr till pat A na ca B nb cb S ns cs us := (by first | exact Blk.keep hX hb2 | exact Blk.keep hX2 hb2 | exact Blk.keep (World.alloc_heap_new _ _) hb2); obtain ⟨x0, x1, x2, x3, x4, x5, x6⟩ := hX2.facts)); go_ret; exact ⟨rfl, belB⟩)
  have d3 : decide (till < 0) = false := decide_eq_false (by omega)
  by_cases t4 : till ≤ 1099511627777
  rotate_left
  · obtain rfl : V = false := by rw [hV]; simp [t4]
    have d4 : decide (1099511627777 < till) = true := decide_eq_true (by omega)
    clear hV
    (go_enter Tryz.func53, Tryz.ntmps53; go_wp2_with (go_at_call 51; refine (HVA.out _).mono ?_; rintro e w2 ⟨rfl, hb2⟩; (have hX2 : CBox w2 w.heap.size fr till pat A na ca B nb cb S ns cs us := (by first | exact Blk.keep hX hb2 | exact Blk.keep hX2 hb2 | exact Blk.keep (World.alloc_heap_new _ _) hb2); obtain ⟨x0, x1, x2, x3, x4, x5, x6⟩ := hX2.facts)); go_ret; exact ⟨rfl, belB⟩)
  have d4 : decide (1099511627777 < till) = false := decide_eq_false (by omega)
  by_cases t5 : 0 ≤ us
  rotate_left
  · obtain rfl : V = false := by rw [hV]; simp [t5]
    have d5 : decide (us < 0) = true := decide_eq_true (by omega)
    clear hV
    (go_enter Tryz.func53, Tryz.ntmps53; go_wp2_with (go_at_call 51; refine (HVA.out _).mono ?_; rintro e w2 ⟨rfl, hb2⟩; (have hX2 : CBox w2 w.heap.size fr till pat A na ca B nb cb S ns cs us := (by first | exact Blk.keep hX hb2 | exact Blk.keep hX2 hb2 | exact Blk.keep (World.alloc_heap_new _ _) hb2); obtain ⟨x0, x1, x2, x3, x4, x5, x6⟩ := hX2.facts)); go_ret; exact ⟨rfl, belB⟩)
  have d5 : decide (us < 0) = false := decide_eq_false (by omega)
  by_cases t6 : us ≤ 1073741824
  rotate_left
  · obtain rfl : V = false := by rw [hV]; simp [t6]
    have d6 : decide (1073741824 < us) = true := decide_eq_true (by omega)
    clear hV
    (go_enter Tryz.func53, Tryz.ntmps53; go_wp2_with (go_at_call 51; refine (HVA.out _).mono ?_; rintro e w2 ⟨rfl, hb2⟩; (have hX2 : CBox w2 w.heap.size fr till pat A na ca B nb cb S ns cs us := (by first | exact Blk.keep hX hb2 | exact Blk.keep hX2 hb2 | exact Blk.keep (World.alloc_heap_new _ _) hb2); obtain ⟨x0, x1, x2, x3, x4, x5, x6⟩ := hX2.facts)); go_ret; exact ⟨rfl, belB⟩)
  have d6 : decide (1073741824 < us) = false := decide_eq_false (by omega)
  have hV2 : V = ((decide (pat.size = 0) || b1) && decide (na ≤ 32) && decide (nb ≤ 32) && decide (ns ≤ 64) && (cl.all isNameB && co.all countryB && sitesOk si && ascB cl && ascB co)) := by rw [hV]; simp [t1, t2, t3, t4, t5, t6]
  clear hV
  have hpc : (pat.size = 0 ∧ pat.toList = [] ∧ (pat.toList != []) = false) ∨ (pat.size ≠ 0 ∧ ¬ pat.toList = [] ∧ (pat.toList != []) = true) := by
    by_cases h : pat.size = 0
    · have e : pat.toList = [] := by rw [Lib.toList_data]; exact List.eq_nil_of_length_eq_zero (by rw [← Lib.size_eq]; exact h)
      exact .inl ⟨h, e, by rw [e]; rfl⟩
    · have e : ¬ pat.toList = [] := fun e => h (by rw [Lib.toList_data] at e; rw [Lib.size_eq, e]; rfl)
      exact .inr ⟨h, e, by simpa using e⟩
  have hb1 : (pat.size ≠ 0 ∧ b1 = false) ∨ (pat.size = 0 ∨ b1 = true) := by
    by_cases h : pat.size = 0
    · exact .inr (.inl h)
    · cases b1
      · exact .inl ⟨h, rfl⟩
      · exact .inr (.inr rfl)
  rcases hb1 with ⟨hs, rfl⟩ | hb1
  · rcases hpc with ⟨hs2, _⟩ | ⟨_, hn, hn2⟩
    · exact absurd hs2 hs
    obtain rfl : V = false := by rw [hV2]; simp [hs]
    clear hV2 hs
    (go_enter Tryz.func53, Tryz.ntmps53; go_wp2_with (go_at_call 51; refine (HVA.out _).mono ?_; rintro e w2 ⟨rfl, hb2⟩; (have hX2 : CBox w2 w.heap.size fr till pat A na ca B nb cb S ns cs us := (by first | exact Blk.keep hX hb2 | exact Blk.keep hX2 hb2 | exact Blk.keep (World.alloc_heap_new _ _) hb2); obtain ⟨x0, x1, x2, x3, x4, x5, x6⟩ := hX2.facts)); go_ret; exact ⟨rfl, belB⟩)
  have hV3 : V = (decide (na ≤ 32) && decide (nb ≤ 32) && decide (ns ≤ 64) && (cl.all isNameB && co.all countryB && sitesOk si && ascB cl && ascB co)) := by
    rw [hV2]
    rcases hb1 with h | h <;> simp [h]
  clear hV2
  have hpd : (pat.toList = [] ∧ (pat.toList != []) = false) ∨ (b1 = true ∧ ¬ pat.toList = [] ∧ (pat.toList != []) = true) := by
    rcases hpc with ⟨h1, h2⟩ | ⟨h1, h2⟩
    · exact .inl h2
    · rcases hb1 with h | h
      · exact absurd h h1
      · exact .inr ⟨h, h2⟩
  clear hpc hb1
  rcases hpd with ⟨hn, hn2⟩ | ⟨rfl, hn, hn2⟩
  all_goals
    by_cases t7 : na ≤ 32
    rotate_left
    · obtain rfl : V = false := by rw [hV3]; simp [t7]
      have d7 : decide ((32 : Int) < (na : Int)) = true := decide_eq_true (by omega)
      clear hV3
      (go_enter Tryz.func53, Tryz.ntmps53; go_wp2_with (go_at_call 51; refine (HVA.out _).mono ?_; rintro e w2 ⟨rfl, hb2⟩; (have hX2 : CBox w2 w.heap.size fr till pat A na ca B nb cb S ns cs us := (by first | exact Blk.keep hX hb2 | exact Blk.keep hX2 hb2 | exact Blk.keep (World.alloc_heap_new _ _) hb2); obtain ⟨x0, x1, x2, x3, x4, x5, x6⟩ := hX2.facts)); go_ret; exact ⟨rfl, belB⟩)
    have d7 : decide ((32 : Int) < (na : Int)) = false := decide_eq_false (by omega)
    by_cases t8 : nb ≤ 32
    rotate_left
    · obtain rfl : V = false := by rw [hV3]; simp [t8]
      have d8 : decide ((32 : Int) < (nb : Int)) = true := decide_eq_true (by omega)
      clear hV3
      (go_enter Tryz.func53, Tryz.ntmps53; go_wp2_with (go_at_call 51; refine (HVA.out _).mono ?_; rintro e w2 ⟨rfl, hb2⟩; (have hX2 : CBox w2 w.heap.size fr till pat A na ca B nb cb S ns cs us := (by first | exact Blk.keep hX hb2 | exact Blk.keep hX2 hb2 | exact Blk.keep (World.alloc_heap_new _ _) hb2); obtain ⟨x0, x1, x2, x3, x4, x5, x6⟩ := hX2.facts)); go_ret; exact ⟨rfl, belB⟩)
    have d8 : decide ((32 : Int) < (nb : Int)) = false := decide_eq_false (by omega)
    by_cases t9 : ns ≤ 64
    rotate_left
    · obtain rfl : V = false := by rw [hV3]; simp [t9]
      have d9 : decide ((64 : Int) < (ns : Int)) = true := decide_eq_true (by omega)
      clear hV3
      (go_enter Tryz.func53, Tryz.ntmps53; go_wp2_with (go_at_call 51; refine (HVA.out _).mono ?_; rintro e w2 ⟨rfl, hb2⟩; (have hX2 : CBox w2 w.heap.size fr till pat A na ca B nb cb S ns cs us := (by first | exact Blk.keep hX hb2 | exact Blk.keep hX2 hb2 | exact Blk.keep (World.alloc_heap_new _ _) hb2); obtain ⟨x0, x1, x2, x3, x4, x5, x6⟩ := hX2.facts)); go_ret; exact ⟨rfl, belB⟩)
    have d9 : decide ((64 : Int) < (ns : Int)) = false := decide_eq_false (by omega)
    have hv4 : V = (cl.all isNameB && co.all countryB && sitesOk si && ascB cl && ascB co) := by rw [hV3]; simp [t7, t8, t9]
    have HV := Lib.hid hv4
    clear hV3 hv4
    go_enter Tryz.func53, Tryz.ntmps53
    go_wp2_with (go_at_call 51; refine (HVA.out _).mono ?_; rintro e w2 ⟨rfl, hb2⟩; (have hX2 : CBox w2 w.heap.size fr till pat A na ca B nb cb S ns cs us := (by first | exact Blk.keep hX hb2 | exact Blk.keep hX2 hb2 | exact Blk.keep (World.alloc_heap_new _ _) hb2); obtain ⟨x0, x1, x2, x3, x4, x5, x6⟩ := hX2.facts))
    go_loopw [3] (fun vi wr => ∃ k : Nat, vi = .int .i64 k ∧ k ≤ na ∧ Hid ((cl.take k).all isNameB = true) ∧ CBox wr w.heap.size fr till pat A na ca B nb cb S ns cs us ∧ Below w.heap.size w wr) (fun i _ => na - (intOf i).toNat)
    case atStart => exact ⟨0, rfl, Nat.zero_le _, Lib.hid (by simp), (by first | exact hX2 | exact World.alloc_heap_new _ _), belB⟩
    case round =>
      try clear hX2
      try clear hb2
      clear d1 d2 d3 d4 d5 d6 d7 d8 d9 hn hn2
      obtain ⟨k, rfl, hk, HK, hX, hbr⟩ := hrel
      obtain ⟨x0, x1, x2, x3, x4, x5, x6⟩ := hX.facts
      by_cases hlt : k < na
      · obtain ⟨x, hx⟩ : ∃ x, cl[k]? = some x := ⟨_, List.getElem?_eq_getElem (by have := HLA.out; omega)⟩
        obtain ⟨b, o, rfl, hcell⟩ := (HA.out.keep hbr).2 (by omega)
        have hc1 : wr.cell? ⟨b, o + k, none⟩ = some (.string x) := hcell k _ (by simp [hx])
        have hk0 : (0 : Int) ≤ (k : Int) := by omega
        have hk1 : (k : Int) < (na : Int) := by omega
        have cN := HNA.out x (List.mem_of_getElem? hx)
        cases hs : isNameB x
        · obtain rfl : V = false := by rw [HV.out, all_false2 hx hs]; rfl
          rw [hs] at cN
          have HC := Lib.hid cN
          clear hcell hx HK hs cN
          go_wp2_with (go_at_call 50; refine (HC.out _).mono ?_; rintro e w2 ⟨rfl, hb2⟩)
          go_ret
          exact ⟨rfl, belB⟩
        · have HK2 : Hid ((cl.take (k + 1)).all isNameB = true) := Lib.hid (all_take2 HK.out hx hs)
          rw [hs] at cN
          have HC := Lib.hid cN
          clear hcell hx HK hs cN
          go_wp2_with (go_at_call 50; refine (HC.out _).mono ?_; rintro e w2 ⟨rfl, hb2⟩)
          exact ⟨⟨k + 1, by go_num, by omega, HK2, Blk.keep hX hb2, belB⟩, by simp [intOf]; omega⟩
      · obtain rfl : k = na := by omega
        have hall : cl.all isNameB = true := by
          have := HK.out
          rwa [List.take_of_length_le (by have := HLA.out; omega)] at this
        have hv5 : V = (co.all countryB && sitesOk si && ascB cl && ascB co) := by rw [HV.out, hall, Bool.true_and]
        have HV2 := Lib.hid hv5
        clear hall hv5 HK HV HNA
        go_wp2
        clear x0 x1 x2 x3 x4 x5 x6
        obtain ⟨wo, rfl⟩ : ∃ wo : World, wo = wr := ⟨_, rfl⟩
        go_loopw [4] (fun vi wz => ∃ j : Nat, vi = .int .i64 j ∧ j ≤ nb ∧ Hid ((co.take j).all countryB = true) ∧ CBox wz w.heap.size fr till pat A k ca B nb cb S ns cs us ∧ Below w.heap.size w wz) (fun i _ => nb - (intOf i).toNat)
        case atStart => exact ⟨0, rfl, Nat.zero_le _, Lib.hid (by simp), hX, hbr⟩
        case round =>
          clear hX hbr
          obtain ⟨j, rfl, hj, HJ, hX, hbr⟩ := hrel
          obtain ⟨x0, x1, x2, x3, x4, x5, x6⟩ := hX.facts
          by_cases hlt2 : j < nb
          · obtain ⟨x, hx⟩ : ∃ x, co[j]? = some x := ⟨_, List.getElem?_eq_getElem (by have := HLB.out; omega)⟩
            obtain ⟨b, o, rfl, hcell⟩ := (HB.out.keep hbr).2 (by omega)
            have hc1 : wr.cell? ⟨b, o + j, none⟩ = some (.string x) := hcell j _ (by simp [hx])
            have hj0 : (0 : Int) ≤ (j : Int) := by omega
            have hj1 : (j : Int) < (nb : Int) := by omega
            have cN := HCY.out x (List.mem_of_getElem? hx)
            cases hs : countryB x
            · obtain rfl : V = false := by rw [HV2.out, all_false2 hx hs]; rfl
              rw [hs] at cN
              have HC := Lib.hid cN
              clear hcell hx HJ hs cN
              go_wp2_with (go_at_call 93; refine (HC.out _).mono ?_; rintro e w2 ⟨rfl, hb2⟩)
              go_ret
              exact ⟨rfl, belB⟩
            · have HJ2 : Hid ((co.take (j + 1)).all countryB = true) := Lib.hid (all_take2 HJ.out hx hs)
              rw [hs] at cN
              have HC := Lib.hid cN
              clear hcell hx HJ hs cN
              go_wp2_with (go_at_call 93; refine (HC.out _).mono ?_; rintro e w2 ⟨rfl, hb2⟩)
              exact ⟨⟨j + 1, by go_num, by omega, HJ2, Blk.keep hX hb2, belB⟩, by simp [intOf]; omega⟩
          · obtain rfl : j = nb := by omega
            have hall : co.all countryB = true := by
              have := HJ.out
              rwa [List.take_of_length_le (by have := HLB.out; omega)] at this
            have hv6 : V = (sitesOk si && ascB cl && ascB co) := by rw [HV2.out, hall, Bool.true_and]
            have HV3 := Lib.hid hv6
            clear hall hv6 HJ HV2 HCY
            go_wp2
            clear x0 x1 x2 x3 x4 x5 x6
            obtain ⟨wo2, rfl⟩ : ∃ wo2 : World, wo2 = wr := ⟨_, rfl⟩
            go_loopw [5] (fun vi wz => ∃ i : Nat, vi = .int .i64 i ∧ i ≤ ns ∧ Hid ((List.range i).all (okK ltI siteB si) = true) ∧ CBox wz w.heap.size fr till pat A k ca B j cb S ns cs us ∧ Below w.heap.size w wz) (fun i _ => ns - (intOf i).toNat)
            case atStart => exact ⟨0, rfl, Nat.zero_le _, Lib.hid rfl, hX, hbr⟩
            case round =>
              clear hX hbr
              obtain ⟨i, rfl, hi, HI, hX, hbr⟩ := hrel
              obtain ⟨x0, x1, x2, x3, x4, x5, x6⟩ := hX.facts
              by_cases hlt3 : i < ns
              · obtain ⟨x, hx⟩ : ∃ x, si[i]? = some x := ⟨_, List.getElem?_eq_getElem (by have := HLS.out; omega)⟩
                obtain ⟨b, o, rfl, hcell⟩ := (HS.out.keep hbr).2 (by omega)
                have hc1 : wr.cell? ⟨b, o + i, none⟩ = some (.int .i64 x) := hcell i _ (by simp [hx])
                have hi0 : (0 : Int) ≤ (i : Int) := by omega
                have hi1 : (i : Int) < (ns : Int) := by omega
                have hok : okK ltI siteB si i = (siteB x && (i == 0 || (match si[i - 1]? with
                  | none => true
                  | some y => ltI y x))) := by unfold okK; rw [hx]; cases si[i - 1]? <;> rfl
                have hfail : okK ltI siteB si i = false → V = false := fun h => by rw [HV3.out, sites_fail (by have := HLS.out; omega) h]; rfl
                by_cases s0 : 0 ≤ x
                rotate_left
                · obtain rfl : V = false := hfail (by rw [hok]; unfold siteB; simp [s0])
                  have e0 : decide (x < 0) = true := decide_eq_true (by omega)
                  clear hcell hx HI hok hfail
                  go_wp2_with fail
                  go_quiet (fail)
                  go_wp2
                  go_ret
                  exact ⟨rfl, belB⟩
                have e0 : decide (x < 0) = false := decide_eq_false (by omega)
                by_cases s1 : x < 64
                rotate_left
                · obtain rfl : V = false := hfail (by rw [hok]; unfold siteB; simp [s1])
                  have e1 : decide (64 ≤ x) = true := decide_eq_true (by omega)
                  clear hcell hx HI hok hfail
                  go_wp2_with fail
                  go_quiet (fail)
                  go_wp2
                  go_ret
                  exact ⟨rfl, belB⟩
                have e1 : decide (64 ≤ x) = false := decide_eq_false (by omega)
                have hsx : siteB x = true := decide_eq_true ⟨s0, s1⟩
                rw [hsx, Bool.true_and] at hok
                rcases i with _ | i
                · have HI2 : Hid ((List.range (0 + 1)).all (okK ltI siteB si) = true) := Lib.hid (okK_upto HI.out (by rw [hok]; rfl))
                  simp only [Nat.add_zero] at hc1
                  clear hcell hx HI hok hfail
                  go_wp2_with fail
                  go_quiet (fail)
                  go_wp2
                  exact ⟨⟨1, by go_num, by omega, HI2, Blk.keep hX belB, belB⟩, by simp [intOf]; omega⟩
                · obtain ⟨y, hy⟩ : ∃ y, si[i]? = some y := ⟨_, List.getElem?_eq_getElem (by have := HLS.out; omega)⟩
                  have hc2 : wr.cell? ⟨b, o + i, none⟩ = some (.int .i64 y) := hcell i _ (by simp [hy])
                  have hle := le_prevI x y
                  rw [Nat.add_sub_cancel, hy] at hok
                  have hok2 : okK ltI siteB si (i + 1) = ltI y x := by rw [hok]; simp
                  have hii0 : (0 : Int) ≤ (i : Int) := by omega
                  have hii1 : (i : Int) < (ns : Int) := by omega
                  cases ht : ltI y x
                  · obtain rfl : V = false := hfail (by rw [hok2, ht])
                    rw [ht] at hle
                    clear hcell hx HI hok hok2 hfail hy ht
                    go_wp2_with fail
                    go_quiet (fail)
                    go_wp2
                    go_ret
                    exact ⟨rfl, belB⟩
                  · have HI2 : Hid ((List.range (i + 1 + 1)).all (okK ltI siteB si) = true) := Lib.hid (okK_upto HI.out (by rw [hok2, ht]))
                    rw [ht] at hle
                    clear hcell hx HI hok hok2 hfail hy ht
                    go_wp2_with fail
                    go_quiet (fail)
                    go_wp2
                    exact ⟨⟨i + 1 + 1, by go_num, by omega, HI2, Blk.keep hX belB, belB⟩, by simp [intOf]; omega⟩
              · obtain rfl : i = ns := by omega
                have hall : sitesOk si = true := by
                  unfold sitesOk
                  rw [← HLS.out]
                  exact HI.out
                have hv7 : V = (ascB cl && ascB co) := by rw [HV3.out, hall, Bool.true_and]
                have c1 := HAS1.out
                have c2 := HAS2.out
                obtain ⟨a1, ha1⟩ : ∃ x, x = ascB cl := ⟨_, rfl⟩
                obtain ⟨a2, ha2⟩ : ∃ x, x = ascB co := ⟨_, rfl⟩
                rw [← ha1] at hv7 c1
                rw [← ha2] at hv7 c2
                clear hall HI HV3 HAS1 HAS2 ha1 ha2
                cases a1
                · obtain rfl : V = false := hv7
                  have C1 := Lib.hid c1
                  clear c1 c2
                  go_wp2_with (go_at_call 94; refine (C1.out _ belB).mono ?_; rintro e w2 ⟨rfl, hb2⟩)
                  go_ret
                  exact ⟨rfl, belB⟩
                · obtain rfl : V = a2 := hv7
                  have C1 := Lib.hid c1
                  have C2 := Lib.hid c2
                  clear c1 c2
                  go_wp2_with (go_at_call 94; first | (refine (C1.out _ belB).mono ?_; clear C1; rintro e w2 ⟨rfl, hb2⟩; have hX2 := Blk.keep hX hb2; obtain ⟨y0, y1, y2, y3, y4, y5, y6⟩ := CBox.facts hX2) | (refine (C2.out _ belB).mono ?_; rintro e w3 ⟨rfl, hb3⟩))
                  go_ret
                  exact ⟨rfl, belB⟩
end Go.Proofs.YtdlbfjoemabfpaaGreatDoor
