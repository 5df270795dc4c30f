/- The specification's ascend and within. -/
import Derived.Test.YtocgkpdolgnbgaaGreatDoorPR1
import Derived.Test.YtocgkpdolgnbgaaGreatDoorPC3
import Derived.Test.YtocgkpdolgnbgaaGreatDoorPGC
import Derived.Test.YtocgkpdolgnbgaaGreatDoorProg
import Derived.WalkKit
import Derived.WalkSpells
import Derived.WalkLawsBesides
import Derived.Below
import Derived.Deep.QuietTactic
import Derived.BigQuiet
import Derived.Lib.QuietBelow
import Derived.Lib.Strings
import Derived.Lib.Hide
import Derived.Deep.RegionWith
import Derived.Deep.RegionHeld3
import Derived.Lib.IndexBytes
namespace Go.Proofs.YtocgkpdolgnbgaaGreatDoor
open Go.RowKit Go.Sort
set_option linter.unusedVariables false
set_option linter.unusedSimpArgs false
set_option maxRecDepth 100000
theorem le_prev2 (x y : ByteArray) : (Op.bytesLess x.toList y.toList || x.toList == y.toList) = !ltB y x := le_prev x y
def ascB (l : List ByteArray) : Bool := (List.range l.length).all (okK ltB (fun _ => true) l)
theorem asc_at {l : List ByteArray} {k : Nat} {x y : ByteArray} (hx : l[k + 1]? = some x) (hy : l[k]? = some y) : okK ltB (fun _ => true) l (k + 1) = ltB y x := by
  unfold okK
  rw [hx, Nat.add_sub_cancel, hy]
  simp
theorem asc_fail {l : List ByteArray} {k : Nat} (hk : k < l.length) (h2 : okK ltB (fun _ => true) l k = false) : ascB l = false := by
  unfold ascB
  rw [List.all_eq_false]
  exact ⟨k, by simpa using hk, by rw [h2]; simp⟩
set_option maxHeartbeats 2000000 in
theorem rAscend_any (A : Option Addr) (n c : Nat) (xs : List ByteArray) (w : World) (hA : Reads w 1 A n (xs.map .string)) (hn : n ≤ 1000000000) : Calls Tryz.prog 78 #[.slice A n c] w (Ret w (.bool (ascB xs))) := by
  have hl : xs.length = n := by have := hA.1; simp at this; omega
  obtain ⟨V, hV⟩ : ∃ V, V = ascB xs := ⟨_, rfl⟩
  rw [← hV]
  have HA := Lib.hid hA; have HL := Lib.hid hl; have HV := Lib.hid hV
  clear hA hl hV
  go_enter Tryz.func78, Tryz.ntmps78
  go_wp2
  go_loopw [3] (fun i wr => ∃ k : Nat, k ≤ n ∧ i = .int .i64 (k + 1 : Nat) ∧ Hid ((List.range (k + 1)).all (okK ltB (fun _ => true) xs) = true) ∧ Below w.heap.size w wr) (fun i _ => n + 1 - (intOf i).toNat)
  case atStart => exact ⟨0, by omega, rfl, Lib.hid (by simp [okK]; cases xs[0]? <;> rfl), Below.refl _ _⟩
  case round =>
    obtain ⟨k, hk, rfl, HK, hb⟩ := hrel
    by_cases hlt : k + 1 < n
    · obtain ⟨x, hx⟩ : ∃ x, xs[k + 1]? = some x := ⟨_, List.getElem?_eq_getElem (by have := HL.out; omega)⟩
      obtain ⟨y, hy⟩ : ∃ y, xs[k]? = some y := ⟨_, List.getElem?_eq_getElem (by have := HL.out; omega)⟩
      obtain ⟨pb, po, rfl, hcell⟩ := (HA.out.keep hb).2 (by omega)
      have hc1 : wr.cell? ⟨pb, po + (k + 1), none⟩ = some (.string x) := hcell (k + 1) _ (by simp [hx])
      have hc2 : wr.cell? ⟨pb, po + k, none⟩ = some (.string y) := hcell k _ (by simp [hy])
      have hk0 : (0 : Int) ≤ (k : Int) := by omega
      have hk1 : (k : Int) < (n : Int) := by omega
      have hk2 : (0 : Int) ≤ (k : Int) + 1 := by omega
      have hk3 : (k : Int) + 1 < (n : Int) := by omega
      have hle := le_prev2 x y
      have hat := asc_at hx hy
      cases ht : ltB y x
      · obtain rfl : V = false := by rw [HV.out]; exact asc_fail (k := k + 1) (by have := HL.out; omega) (by rw [hat, ht])
        rw [ht] at hle
        clear HK hcell hx hy hat ht
        go_wp2_with fail
        go_quiet (fail)
        go_wp2
        go_ret
        exact ⟨rfl, by (repeat (first | exact .refl _ _ | assumption | refine .drew ?_ | refine balloc ?_ _ | refine bdrewN ?_ _ | refine .setCell ?_ (by simp <;> omega) _ | refine bstep ?_ (by assumption)))⟩
      · have HK2 : Hid ((List.range (k + 1 + 1)).all (okK ltB (fun _ => true) xs) = true) := Lib.hid (okK_upto HK.out (by rw [hat, ht]))
        rw [ht] at hle
        clear HK hcell hx hy hat ht
        go_wp2_with fail
        go_quiet (fail)
        go_wp2
        exact ⟨⟨k + 1, by omega, by go_num, HK2, by (repeat (first | exact .refl _ _ | assumption | refine .drew ?_ | refine balloc ?_ _ | refine bdrewN ?_ _ | refine .setCell ?_ (by simp <;> omega) _ | refine bstep ?_ (by assumption)))⟩, by simp [intOf]; omega⟩
    · obtain rfl : V = true := by
        rw [HV.out]
        unfold ascB
        rw [List.all_eq_true]
        intro j hj
        have := HK.out
        rw [List.all_eq_true] at this
        exact this j (by simp at hj ⊢; have := HL.out; omega)
      go_wp2
      go_ret
      exact ⟨rfl, hb⟩
end Go.Proofs.YtocgkpdolgnbgaaGreatDoor
