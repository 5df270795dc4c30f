/- The specification's Country, has and site. -/
import Derived.Test.YtocgkpdolgnbgaaGreatDoorMC1
import Derived.Test.YtocgkpdolgnbgaaGreatDoorMRef1
import Derived.Test.YtocgkpdolgnbgaaGreatDoorMPlainC
import Derived.Test.YtocgkpdolgnbgaaGreatDoorProg
import Derived.WalkKit
import Derived.WalkSpells
import Derived.WalkLawsBesides
import Derived.Below
import Derived.Deep.QuietTactic
import Derived.BigQuiet
import Derived.Lib.QuietBelow
import Derived.Lib.Strings
import Derived.Lib.Hide
import Derived.Deep.RegionWith
import Derived.Deep.RegionHeld3
import Derived.Lib.IndexBytes
namespace Go.Proofs.YtocgkpdolgnbgaaGreatDoor
open Go.RowKit Go.Sort
set_option linter.unusedVariables false
set_option linter.unusedSimpArgs false
set_option maxRecDepth 100000
theorem country_four (s : ByteArray) (h : s.size = 2) : countryB s = (decide ((97 : Int) ≤ ((s[0]'(by omega)).toNat : Int)) && decide (((s[0]'(by omega)).toNat : Int) ≤ 122) && decide ((97 : Int) ≤ ((s[1]'(by omega)).toNat : Int)) && decide (((s[1]'(by omega)).toNat : Int) ≤ 122)) := by
  unfold countryB
  rw [decide_eq_true h, Bool.true_and, two_bytes s h]
  simp only [List.all_cons, List.all_nil, Bool.and_true]
  rw [Bool.eq_iff_iff]
  simp only [Bool.and_eq_true, decide_eq_true_eq]
  omega
set_option maxHeartbeats 2000000 in
theorem rCountry_any (s : ByteArray) (w : World) (hs : s.size ≤ 4294967281) : Calls Tryz.prog 77 #[.string s] w (Ret w (.bool (countryB s))) := by
  by_cases h2 : s.size = 2
  · have d2 : ((s.size : Int) == 2) = true := by simp; omega
    have hv := country_four s h2
    have q0 : (0 : Int) < (s.size : Int) := by omega
    have q1 : (1 : Int) < (s.size : Int) := by omega
    rw [hv]
    clear hv
    cases e1 : decide ((97 : Int) ≤ ((s[0]'(by omega)).toNat : Int))
    · (go_enter Tryz.func77, Tryz.ntmps77; go_wp2; go_ret; exact ⟨rfl, by (repeat (first | exact .refl _ _ | assumption | refine .drew ?_ | refine balloc ?_ _ | refine bdrewN ?_ _ | refine .setCell ?_ (by simp <;> omega) _ | refine bstep ?_ (by assumption)))⟩)
    cases e2 : decide (((s[0]'(by omega)).toNat : Int) ≤ 122)
    · (go_enter Tryz.func77, Tryz.ntmps77; go_wp2; go_ret; exact ⟨rfl, by (repeat (first | exact .refl _ _ | assumption | refine .drew ?_ | refine balloc ?_ _ | refine bdrewN ?_ _ | refine .setCell ?_ (by simp <;> omega) _ | refine bstep ?_ (by assumption)))⟩)
    cases e3 : decide ((97 : Int) ≤ ((s[1]'(by omega)).toNat : Int))
    · (go_enter Tryz.func77, Tryz.ntmps77; go_wp2; go_ret; exact ⟨rfl, by (repeat (first | exact .refl _ _ | assumption | refine .drew ?_ | refine balloc ?_ _ | refine bdrewN ?_ _ | refine .setCell ?_ (by simp <;> omega) _ | refine bstep ?_ (by assumption)))⟩)
    cases e4 : decide (((s[1]'(by omega)).toNat : Int) ≤ 122)
    · (go_enter Tryz.func77, Tryz.ntmps77; go_wp2; go_ret; exact ⟨rfl, by (repeat (first | exact .refl _ _ | assumption | refine .drew ?_ | refine balloc ?_ _ | refine bdrewN ?_ _ | refine .setCell ?_ (by simp <;> omega) _ | refine bstep ?_ (by assumption)))⟩)
    · (go_enter Tryz.func77, Tryz.ntmps77; go_wp2; go_ret; exact ⟨rfl, by (repeat (first | exact .refl _ _ | assumption | refine .drew ?_ | refine balloc ?_ _ | refine bdrewN ?_ _ | refine .setCell ?_ (by simp <;> omega) _ | refine bstep ?_ (by assumption)))⟩)
  · have d2 : ((s.size : Int) == 2) = false := beq_eq_false_iff_ne.2 (by omega)
    have hv : countryB s = false := by unfold countryB; rw [decide_eq_false h2]; rfl
    rw [hv]
    (go_enter Tryz.func77, Tryz.ntmps77; go_wp2; go_ret; exact ⟨rfl, by (repeat (first | exact .refl _ _ | assumption | refine .drew ?_ | refine balloc ?_ _ | refine bdrewN ?_ _ | refine .setCell ?_ (by simp <;> omega) _ | refine bstep ?_ (by assumption)))⟩)
def hasL {α : Type} [DecidableEq α] (l : List α) (x : α) : Bool := l.contains x
theorem hasL_iff {α : Type} [DecidableEq α] (l : List α) (x : α) : hasL l x = true ↔ x ∈ l := by unfold hasL; exact List.contains_iff_mem
theorem contains_take {α : Type} [DecidableEq α] {l : List α} {k : Nat} {x s : α} (h : hasL (l.take k) s = false) (hx : l[k]? = some x) (hp : x ≠ s) : hasL (l.take (k + 1)) s = false := by
  rw [← Bool.not_eq_true, hasL_iff] at h ⊢
  rw [List.take_add_one, hx]
  simp only [Option.toList_some, List.mem_append, List.mem_singleton, not_or]
  exact ⟨h, fun e => hp e.symm⟩
theorem contains_hit {α : Type} [DecidableEq α] {l : List α} {k : Nat} {x s : α} (hx : l[k]? = some x) (hp : x = s) : hasL l s = true := by
  rw [hasL_iff, ← hp]; exact List.mem_of_getElem? hx
set_option maxHeartbeats 2000000 in
theorem rHas21_any (A : Option Addr) (n c : Nat) (xs : List ByteArray) (s : ByteArray) (w : World) (hA : Reads w 1 A n (xs.map .string)) (hn : n ≤ 1000000000) : Calls Tryz.prog 85 #[.slice A n c, .string s] w (Ret w (.bool (hasL xs s))) := by
  have hl : xs.length = n := by have := hA.1; simp at this; omega
  obtain ⟨V, hV⟩ : ∃ V, V = hasL xs s := ⟨_, rfl⟩
  rw [← hV]
  have HA := Lib.hid hA; have HL := Lib.hid hl; have HV := Lib.hid hV
  clear hA hl hV
  go_enter Tryz.func85, Tryz.ntmps85
  go_wp2
  go_loopw [5] (fun i wr => ∃ k : Nat, k ≤ n ∧ i = .int .i64 k ∧ Hid (hasL (xs.take k) s = false) ∧ Below w.heap.size w wr) (fun i _ => n - (intOf i).toNat)
  case atStart => exact ⟨0, by omega, rfl, Lib.hid rfl, Below.refl _ _⟩
  case round =>
    obtain ⟨k, hk, rfl, HK, hb⟩ := hrel
    by_cases hlt : k < n
    · obtain ⟨x, hx⟩ : ∃ x, xs[k]? = some x := ⟨_, List.getElem?_eq_getElem (by have := HL.out; omega)⟩
      obtain ⟨pb, po, rfl, hcell⟩ := (HA.out.keep hb).2 (by omega)
      have hc1 : wr.cell? ⟨pb, po + k, none⟩ = some (.string x) := hcell k _ (by simp [hx])
      have hk0 : (0 : Int) ≤ (k : Int) := by omega
      have hk1 : (k : Int) < (n : Int) := by omega
      cases he : (x.toList == s.toList)
      · have hne : x ≠ s := fun e => by rw [e] at he; simp at he
        have HK2 : Hid (hasL (xs.take (k + 1)) s = false) := Lib.hid (contains_take HK.out hx hne)
        clear HK hcell hx hne
        go_wp2
        exact ⟨⟨k + 1, by omega, by go_num, HK2, hb⟩, by simp [intOf]; omega⟩
      · obtain rfl : V = true := by rw [HV.out]; exact contains_hit hx ((beq_bytes x s).1 he)
        clear HK hcell hx
        go_wp2
        go_ret
        exact ⟨rfl, hb⟩
    · obtain rfl : V = false := by
        rw [HV.out]
        have := HK.out
        rwa [List.take_of_length_le (by have := HL.out; omega)] at this
      go_wp2
      go_ret
      exact ⟨rfl, hb⟩
set_option maxHeartbeats 2000000 in
theorem rSite_any (A : Option Addr) (n c : Nat) (xs : List Int) (s : Int) (w : World) (hA : Reads w 1 A n (xs.map (.int .i64))) (hn : n ≤ 1000000000) : Calls Tryz.prog 86 #[.slice A n c, .int .i64 s] w (Ret w (.bool (hasL xs s))) := by
  have hl : xs.length = n := by have := hA.1; simp at this; omega
  obtain ⟨V, hV⟩ : ∃ V, V = hasL xs s := ⟨_, rfl⟩
  rw [← hV]
  have HA := Lib.hid hA; have HL := Lib.hid hl; have HV := Lib.hid hV
  clear hA hl hV
  go_enter Tryz.func86, Tryz.ntmps86
  go_wp2
  go_loopw [5] (fun i wr => ∃ k : Nat, k ≤ n ∧ i = .int .i64 k ∧ Hid (hasL (xs.take k) s = false) ∧ Below w.heap.size w wr) (fun i _ => n - (intOf i).toNat)
  case atStart => exact ⟨0, by omega, rfl, Lib.hid rfl, Below.refl _ _⟩
  case round =>
    obtain ⟨k, hk, rfl, HK, hb⟩ := hrel
    by_cases hlt : k < n
    · obtain ⟨x, hx⟩ : ∃ x, xs[k]? = some x := ⟨_, List.getElem?_eq_getElem (by have := HL.out; omega)⟩
      obtain ⟨pb, po, rfl, hcell⟩ := (HA.out.keep hb).2 (by omega)
      have hc1 : wr.cell? ⟨pb, po + k, none⟩ = some (.int .i64 x) := hcell k _ (by simp [hx])
      have hk0 : (0 : Int) ≤ (k : Int) := by omega
      have hk1 : (k : Int) < (n : Int) := by omega
      cases he : (x == s)
      · have hne : x ≠ s := fun e => by rw [e] at he; simp at he
        have HK2 : Hid (hasL (xs.take (k + 1)) s = false) := Lib.hid (contains_take HK.out hx hne)
        clear HK hcell hx hne
        go_wp2
        exact ⟨⟨k + 1, by omega, by go_num, HK2, hb⟩, by simp [intOf]; omega⟩
      · obtain rfl : V = true := by rw [HV.out]; exact contains_hit hx (by simpa using he)
        clear HK hcell hx
        go_wp2
        go_ret
        exact ⟨rfl, hb⟩
    · obtain rfl : V = false := by
        rw [HV.out]
        have := HK.out
        rwa [List.take_of_length_le (by have := HL.out; omega)] at this
      go_wp2
      go_ret
      exact ⟨rfl, hb⟩
end Go.Proofs.YtocgkpdolgnbgaaGreatDoor
