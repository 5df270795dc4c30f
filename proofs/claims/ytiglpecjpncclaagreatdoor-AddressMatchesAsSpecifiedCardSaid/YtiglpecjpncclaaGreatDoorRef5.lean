/- What the specification's joined and Tags return. -/
import Derived.Test.YtiglpecjpncclaaGreatDoorRef4
import Derived.Test.YtiglpecjpncclaaGreatDoorTags
import Derived.Test.YtiglpecjpncclaaGreatDoorProg
import Derived.WalkKit
import Derived.WalkSpells
import Derived.WalkLawsBesides
import Derived.Below
import Derived.Deep.QuietTactic
import Derived.BigQuiet
import Derived.Lib.QuietBelow
import Derived.Lib.Strings
import Derived.Lib.Hide
import Derived.Deep.RegionWith
import Derived.Deep.RegionHeld3
import Derived.Lib.IndexBytes
namespace Go.Proofs.YtiglpecjpncclaaGreatDoor
open Go.RowKit Go.Sort
set_option linter.unusedVariables false
set_option linter.unusedSimpArgs false
set_option maxRecDepth 100000
def joinB (l : List ByteArray) (k : Nat) : ByteArray := toB (Lib.join ((lists l).take k) [44])
theorem joinB_zero (l : List ByteArray) : joinB l 0 = ⟨#[]⟩ := by simp [joinB, Lib.join_nil, toB]
theorem joinB_first (l : List ByteArray) (x : ByteArray) (h : l[0]? = some x) : joinB l 1 = x := by
  cases l with
  | nil => cases h
  | cons y r =>
    simp only [List.getElem?_cons_zero, Option.some.injEq] at h
    subst h
    simp only [joinB, lists, List.map_cons, List.take_succ_cons, List.take_zero, Lib.join_one]
    exact bytes_ext (by simp [toB])
theorem joinB_step (l : List ByteArray) (k : Nat) (x : ByteArray) (hk : k ≠ 0) (h : l[k]? = some x) : joinB l k ++ ⟨#[44]⟩ ++ x = joinB l (k + 1) := by
  cases l with
  | nil => cases h
  | cons y r =>
    obtain ⟨j, rfl⟩ : ∃ j, k = j + 1 := ⟨k - 1, by omega⟩
    rw [List.getElem?_cons_succ] at h
    simp only [joinB, lists, List.map_cons, List.take_succ_cons, Lib.join_cons]
    rw [Lib.joinTail_take_succ [44] (r.map (·.data.toList)) j x.data.toList (by rw [List.getElem?_map, h]; rfl)]
    exact bytes_ext (by simp [toB])
theorem joinB_le (l : List ByteArray) (k : Nat) : (joinB l k).size ≤ (Lib.join (lists l) [44]).length := by
  rw [joinB, toB_size]
  cases l with
  | nil => simp [lists]
  | cons y r =>
    cases k with
    | zero => simp [Lib.join_nil]
    | succ j =>
      simp only [lists, List.map_cons, List.take_succ_cons, Lib.join_cons, List.length_append]
      have := Lib.joinTail_take_le [44] (r.map (·.data.toList)) j
      omega
theorem joinB_all (l : List ByteArray) : joinB l l.length = toB (Lib.join (lists l) [44]) := by
  rw [joinB, List.take_of_length_le (by simp [lists])]
set_option maxHeartbeats 4000000 in
theorem rJoined_any (A : Option Addr) (n c : Nat) (l : List ByteArray) (w : World) (hR : Reads w 1 A n (l.map .string)) (hn : n ≤ 1000000) (htot : (Lib.join (lists l) [44]).length ≤ 1000000000) (hsz : ∀ x ∈ l, x.size ≤ 1000000000) : Calls Tryz.prog 64 #[.slice A n c] w (Ret w (.string (toB (Lib.join (lists l) [44])))) := by
  have hl : l.length = n := by have := hR.1; simpa using this
  have hend := joinB_all l
  rw [hl] at hend
  have HL := Lib.hid hl
  have HR := Lib.hid hR
  have HE := Lib.hid hend
  have HT := Lib.hid htot
  have HS := Lib.hid hsz
  clear hl hR hend htot hsz
  go_enter Tryz.func64, Tryz.ntmps64
  go_wp2
  go_loopw [3, 4] (fun vs vi wr => ∃ k : Nat, vi = .int .i64 k ∧ k ≤ n ∧ vs = .string (joinB l k) ∧ Below w.heap.size w wr) (fun _ i _ => n - (intOf i).toNat)
  case atStart => exact ⟨0, rfl, Nat.zero_le _, by rw [joinB_zero], Below.refl _ _⟩
  case round =>
    obtain ⟨k, rfl, hk, rfl, hbr⟩ := hrel
    by_cases hlt : k < n
    · obtain ⟨x, hx⟩ : ∃ x, l[k]? = some x := ⟨_, List.getElem?_eq_getElem (by have := HL.out; omega)⟩
      obtain ⟨b, o, rfl, hcell⟩ := (HR.out.keep hbr).2 (by omega)
      have hc1 : wr.cell? ⟨b, o + k, none⟩ = some (.string x) := hcell k _ (by simp [hx])
      have hz1 : (joinB l k).size ≤ 1000000000 := Nat.le_trans (joinB_le l k) HT.out
      have hz2 : x.size ≤ 1000000000 := HS.out x (List.mem_of_getElem? hx)
      have hk0 : (0 : Int) ≤ (k : Int) := by omega
      have hk1 : (k : Int) < (n : Int) := by omega
      by_cases h0 : k = 0
      · subst h0
        simp only [Nat.add_zero] at hc1
        have HJ := Lib.hid (joinB_first l x hx)
        rw [joinB_zero]
        clear hcell hx hz1
        go_wp2
        exact ⟨⟨1, by go_num, by omega, by rw [HJ.out]; exact congrArg Value.string (bytes_ext (by simp)), hbr⟩, by simp [intOf]; omega⟩
      · have HJ := Lib.hid (joinB_step l k x h0 hx)
        have hd : decide ((0 : Int) < (k : Int)) = true := by simp; omega
        generalize joinB l k = S at *
        clear hcell hx
        have n1 : ¬ 9223372036854775807 < S.size + 1 := by omega
        have n2 : ¬ 9223372036854775807 < S.size + 1 + x.size := by omega
        go_wp2
        exact ⟨⟨k + 1, by go_num, by omega, congrArg Value.string HJ.out, hbr⟩, by simp [intOf]; omega⟩
    · obtain rfl : k = n := by omega
      have he := HE.out
      rw [he]
      go_wp2
      go_ret
      exact ⟨rfl, hbr⟩

end Go.Proofs.YtiglpecjpncclaaGreatDoor
