/- The specification's small functions: what its small, text, cut and split return. -/
import Derived.Test.YtiglpecjpncclaaGreatDoorRef1
import Derived.Test.YtiglpecjpncclaaGreatDoorPlainW
import Derived.LoopTactic
import Derived.Test.YtiglpecjpncclaaGreatDoorProg
import Derived.WalkKit
import Derived.WalkSpells
import Derived.WalkLawsBesides
import Derived.Below
import Derived.Deep.QuietTactic
import Derived.BigQuiet
import Derived.Lib.QuietBelow
import Derived.Lib.Strings
import Derived.Lib.Hide
import Derived.Deep.RegionWith
import Derived.Deep.RegionHeld3
import Derived.Lib.IndexBytes
namespace Go.Proofs.YtiglpecjpncclaaGreatDoor
open Go.RowKit Go.Sort
set_option linter.unusedVariables false
set_option linter.unusedSimpArgs false
set_option maxRecDepth 100000
theorem lowAt_step2 (s : ByteArray) (k j : Nat) : lowAt s (k + 1) j = if j = k then (if 65 ≤ lowAt s k k ∧ lowAt s k k ≤ 90 then lowAt s k k + 32 else lowAt s k k) else lowAt s k j := by
  rw [lowAt_step]
  split
  · split <;> omega
  · rfl
set_option maxHeartbeats 1000000 in
theorem rSmall_any (s : ByteArray) (w : World) (hs : s.size ≤ 4294967281) : Calls Tryz.prog 51 #[.string s] w (Ret w (.string ⟨(lowL s.data.toList).toArray⟩)) := by
  have hcv := fun W => run_bytes_of_string (P := Tryz.prog) W 9 115 5 s Tryz.underlying9 Tryz.underlying115 Tryz.underlying5
  go_enter Tryz.func51, Tryz.ntmps51
  go_wp2
  clear hcv
  obtain ⟨R, hR⟩ : ∃ R, bytesRow s (grownCap w s.size 0 5) = R := ⟨_, rfl⟩
  obtain ⟨C, hC⟩ : ∃ C, grownCap w s.size 0 5 = C := ⟨_, rfl⟩
  have hrow : ∀ j, j < s.size → R[j]? = some (.int .u8 (lowAt s 0 j)) := by
    intro j hj
    rw [← hR, bytesRow_at _ _ _ hj]
    simp only [lowAt, Nat.not_lt_zero, if_false]
    have hl : j < s.data.toList.length := by rw [← Lib.size_eq]; exact hj
    rw [List.getElem?_eq_getElem hl]
    rfl
  have hRs : s.size ≤ R.size := by rw [← hR]; simp only [bytesRow, Array.size_append, Array.size_map]; exact Nat.le_add_right _ _
  rw [hR, hC]
  clear hR hC
  go_loopw [4] (fun i wr => ∃ (k : Nat) (R' : Array Value), k ≤ s.size ∧ i = .int .i64 k ∧ Blk wr w.heap.size 5 R' (R.size, R.size + 1) ∧ (∀ j, j < s.size → R'[j]? = some (.int .u8 (lowAt s k j))) ∧ Below w.heap.size w wr) (fun i _ => s.size - (intOf i).toNat)
  case atStart => exact ⟨0, R, by omega, rfl, heap_alloc_new w _, hrow, by (repeat (first | exact Below.refl _ _ | assumption | refine Below.drew ?_ | refine balloc ?_ _ | refine bdrewN ?_ _ | refine Below.setCell ?_ (by first | (simp; done) | (simp; omega)) _ | refine bstep ?_ (by assumption)))⟩
  case round =>
    obtain ⟨k, R', hk, rfl, hB, hr, hb⟩ := hrel
    have H := Lib.hid hr
    clear hr hrow
    by_cases hlt : k < s.size
    · have hcell : wr.cell? ⟨w.heap.size, k, none⟩ = some (.int .u8 (lowAt s k k)) := by rw [hB.cell]; exact H.out k hlt
      have hfree := hB.free k (by simp; omega)
      have hbd := lowAt_bd s k k
      go_wp2
      · refine ⟨⟨k + 1, _, by omega, by go_num, hB.set_ k _, fun j hj => ?_, by (repeat (first | exact Below.refl _ _ | assumption | refine Below.drew ?_ | refine balloc ?_ _ | refine bdrewN ?_ _ | refine Below.setCell ?_ (by first | (simp; done) | (simp; omega)) _ | refine bstep ?_ (by assumption)))⟩, by simp [intOf]; omega⟩
        rw [Array.getElem?_setIfInBounds, lowAt_step2]
        have hkR : k < R'.size := by
          have := H.out k hlt
          exact (Array.getElem?_eq_some_iff.1 this).1
        by_cases e : k = j
        · subst e
          rw [if_pos rfl, if_pos hkR, if_pos rfl, if_pos ⟨by assumption, by assumption⟩]
        · rw [if_neg e, if_neg (Ne.symm e)]
          exact H.out j hj
      all_goals
        refine ⟨⟨k + 1, _, by omega, by go_num, hB, fun j hj => ?_, hb⟩, by simp [intOf]; omega⟩
        rw [H.out j hj, lowAt_step2]
        by_cases e : j = k
        · subst e
          rw [if_pos rfl, if_neg (by omega)]
        · rw [if_neg e]
    · obtain rfl : k = s.size := by omega
      have hback : ∀ c, (convert 115 9 (.slice (some ⟨w.heap.size, 0, none⟩) s.size c)).run Tryz.prog wr = .ok (.string ⟨(lowL s.data.toList).toArray⟩) wr := fun c =>
        run_back wr 115 9 5 ⟨w.heap.size, 0, none⟩ s.size c (lowL s.data.toList) (by simp [lowL]) Tryz.underlying115 Tryz.underlying5 Tryz.underlying9 (fun j hj => by
          have hj' : j < s.size := by rw [Lib.size_eq]; simpa [lowL] using hj
          have e : (⟨w.heap.size, 0, none⟩ : Addr).add j = ⟨w.heap.size, j, none⟩ := by unfold Addr.add; split <;> simp_all
          rw [e, hB.cell, H.out j hj', lowAt_end s j hj])
      go_wp2
      go_ret
      exact ⟨rfl, hb⟩
theorem at_split (l : List UInt8) (k : Nat) (hk : k < l.length) : l = l.take k ++ l[k] :: l.drop (k + 1) := by
  rw [← List.drop_eq_getElem_cons hk, List.take_append_drop]
theorem byte_at (s : ByteArray) (k : Nat) (h : k < s.size) : s[k] = s.data.toList[k]'(by rw [← Lib.size_eq]; exact h) := by simp; rfl
def cutV (s : ByteArray) (c : UInt8) : Value := .tuple #[.string (toB (Lib.cut s.data.toList [c]).1), .string (toB (Lib.cut s.data.toList [c]).2.1), .bool (Lib.cut s.data.toList [c]).2.2]
set_option maxHeartbeats 2000000 in
theorem rCut_any (s : ByteArray) (c : UInt8) (w : World) (hs : s.size ≤ 4294967281) : Calls Tryz.prog 50 #[.string s, .int .u8 c.toNat] w (Ret w (cutV s c)) := by
  go_enter Tryz.func50, Tryz.ntmps50
  go_wp2
  go_loopw [7] (fun i wr => ∃ k : Nat, i = .int .i64 k ∧ k ≤ s.size ∧ Hid (c ∉ s.data.toList.take k) ∧ Below w.heap.size w wr) (fun i _ => s.size - (intOf i).toNat)
  case atStart => exact ⟨0, rfl, Nat.zero_le _, Lib.hid (by simp), Below.refl _ _⟩
  case round =>
    obtain ⟨k, rfl, hk, HK, hbr⟩ := hrel
    by_cases hlt : k < s.size
    · have hd := byte_int s[k] c.toNat
      have hkl : k < s.data.toList.length := by rw [← Lib.size_eq]; exact hlt
      have hat := byte_at s k hlt
      cases hb : (s[k].toNat == c.toNat)
      · rw [hb] at hd
        have hne : s[k] ≠ c := fun e => by rw [e] at hb; simp at hb
        have HK2 : Hid (c ∉ s.data.toList.take (k + 1)) := Lib.hid (by
          rw [take_snocB s k hlt]
          simp only [List.mem_append, List.mem_singleton, not_or]
          exact ⟨HK.out, fun e => hne e.symm⟩)
        clear hb HK hat hne
        go_wp2
        exact ⟨⟨k + 1, by go_num, by omega, HK2, hbr⟩, by simp [intOf]; omega⟩
      · rw [hb] at hd
        have he : s[k] = c := by rw [beq_iff_eq] at hb; exact UInt8.toNat_inj.1 hb
        have hv : cutV s c = .tuple #[.string (s.extract 0 k), .string (s.extract (k + 1) s.size), .bool true] := by
          have h1 := at_split s.data.toList k hkl
          rw [← hat, he] at h1
          have h2 : Lib.cut s.data.toList [c] = (s.data.toList.take k, s.data.toList.drop (k + 1), true) := by
            conv => lhs; rw [h1]
            exact cut_hit _ _ _ HK.out
          unfold cutV
          rw [h2]
          have e1 : toB (s.data.toList.take k) = s.extract 0 k := bytes_ext (by rw [Lib.extract_data]; simp [toB])
          have e2 : toB (s.data.toList.drop (k + 1)) = s.extract (k + 1) s.size := bytes_ext (by rw [Lib.extract_to_end]; rfl)
          rw [e1, e2]
        have HV := Lib.hid hv
        have hk0 : (0 : Int) ≤ (k : Int) := by omega
        have hk1 : (k : Int) + 1 ≤ (s.size : Int) := by omega
        have hk2 : (k : Int) ≤ (s.size : Int) := by omega
        clear hb HK hat he hv
        go_wp2_with fail
        go_quiet (fail)
        go_wp2
        go_ret3
        rw [HV.out]
        exact ⟨rfl, by (repeat (first | exact Below.refl _ _ | assumption | refine Below.drew ?_ | refine balloc ?_ _ | refine bdrewN ?_ _ | refine Below.setCell ?_ (by first | (simp; done) | (simp; omega)) _ | refine bstep ?_ (by assumption)))⟩
    · have hv : cutV s c = .tuple #[.string s, .string ⟨#[]⟩, .bool false] := by
        have h1 := HK.out
        rw [List.take_of_length_le (by rw [← Lib.size_eq]; omega)] at h1
        unfold cutV
        rw [cut_none _ _ h1]
        rfl
      have HV := Lib.hid hv
      clear hv HK
      go_wp2
      go_ret3
      rw [HV.out]
      exact ⟨rfl, by (repeat (first | exact Below.refl _ _ | assumption | refine Below.drew ?_ | refine balloc ?_ _ | refine bdrewN ?_ _ | refine Below.setCell ?_ (by first | (simp; done) | (simp; omega)) _ | refine bstep ?_ (by assumption)))⟩

end Go.Proofs.YtiglpecjpncclaaGreatDoor
