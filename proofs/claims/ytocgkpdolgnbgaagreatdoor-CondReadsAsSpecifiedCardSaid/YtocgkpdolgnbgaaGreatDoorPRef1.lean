/- The specification's words: what its letter, Word, has and Name return. -/
import Derived.Test.YtocgkpdolgnbgaaGreatDoorPGA
import Derived.Test.YtocgkpdolgnbgaaGreatDoorProg
import Derived.WalkKit
import Derived.WalkSpells
import Derived.WalkLawsBesides
import Derived.Below
import Derived.Deep.QuietTactic
import Derived.BigQuiet
import Derived.Lib.QuietBelow
import Derived.Lib.Strings
import Derived.Lib.Hide
import Derived.Deep.RegionWith
import Derived.Deep.RegionHeld3
import Derived.Lib.IndexBytes
namespace Go.Proofs.YtocgkpdolgnbgaaGreatDoor
open Go.RowKit Go.Sort
set_option linter.unusedVariables false
set_option linter.unusedSimpArgs false
set_option maxRecDepth 100000
set_option maxHeartbeats 1000000 in
theorem rLetter_any (c : Nat) (w : World) (hc : c < 256) : Calls Tryz.prog 150 #[.int .u8 c] w (Ret w (.bool (isLetN c))) := by
  go_enter Tryz.func150, Tryz.ntmps150
  go_wp2
  all_goals
    go_ret
    exact ⟨ret_bool (by first | (rw [Bool.eq_iff_iff]; simp [isLetN]; done) | (rw [Bool.eq_iff_iff]; simp [isLetN]; omega)), by (repeat (first | exact .refl _ _ | assumption | refine .drew ?_ | refine balloc ?_ _ | refine bdrewN ?_ _ | refine .setCell ?_ (by simp <;> omega) _ | refine bstep ?_ (by assumption)))⟩
def anyEq (c : Nat) (l : List UInt8) : Bool := l.any fun b => b.toNat == c
theorem take_snocB (s : ByteArray) (k : Nat) (h : k < s.size) : s.data.toList.take (k + 1) = s.data.toList.take k ++ [s[k]] := by
  rw [List.take_succ_eq_append_getElem (by simpa using h)]; rfl
theorem byte_int (b : UInt8) (c : Nat) : ((b.toNat : Int) == (c : Int)) = (b.toNat == c) := by
  rw [Bool.eq_iff_iff, beq_iff_eq, beq_iff_eq]; omega
set_option maxHeartbeats 1000000 in
theorem rHas_any (s : ByteArray) (c : Nat) (w : World) (hs : s.size ≤ 4294967281) : Calls Tryz.prog 117 #[.string s, .int .u8 c] w (Ret w (.bool (anyEq c s.data.toList))) := by
  go_enter Tryz.func117, Tryz.ntmps117
  go_wp2
  go_loop [5] (fun i => ∃ k : Nat, i = .int .i64 k ∧ k ≤ s.size ∧ Hid (anyEq c (s.data.toList.take k) = false)) (fun i => s.size - (intOf i).toNat)
  case atStart => exact ⟨0, rfl, Nat.zero_le _, Lib.hid (by simp [anyEq])⟩
  case round =>
    obtain ⟨k, rfl, hk, HK⟩ := hrel
    by_cases hlt : k < s.size
    · have ht : anyEq c (s.data.toList.take (k + 1)) = (anyEq c (s.data.toList.take k) || (s[k].toNat == c)) := by rw [take_snocB s k hlt]; simp [anyEq]
      have hd := byte_int s[k] c
      cases hb : (s[k].toNat == c)
      · rw [hb] at ht hd
        have HK2 : Hid (anyEq c (s.data.toList.take (k + 1)) = false) := Lib.hid (by rw [ht, HK.out]; rfl)
        clear ht hb HK
        go_wp2
        go_round
        case rel => exact ⟨k + 1, by go_num, by omega, HK2⟩
        case measure => simp [intOf]; omega
      · rw [hb] at ht hd
        have HK2 : Hid (anyEq c s.data.toList = true) := Lib.hid (by
          have h2 : anyEq c (s.data.toList.take (k + 1)) = true := by rw [ht, Bool.or_true]
          unfold anyEq at h2 ⊢
          rw [List.any_eq_true] at h2 ⊢
          obtain ⟨x, hx, h3⟩ := h2
          exact ⟨x, List.mem_of_mem_take hx, h3⟩)
        clear ht hb HK
        go_wp2
        go_ret
        exact ⟨ret_bool HK2.out.symm, by (repeat (first | exact .refl _ _ | assumption | refine .drew ?_ | refine balloc ?_ _ | refine bdrewN ?_ _ | refine .setCell ?_ (by simp <;> omega) _ | refine bstep ?_ (by assumption)))⟩
    · go_wp2
      go_ret
      refine ⟨ret_bool ?_, by (repeat (first | exact .refl _ _ | assumption | refine .drew ?_ | refine balloc ?_ _ | refine bdrewN ?_ _ | refine .setCell ?_ (by simp <;> omega) _ | refine bstep ?_ (by assumption)))⟩
      have := HK.out
      rw [List.take_of_length_le (by rw [← Lib.size_eq]; omega)] at this
      exact this.symm
set_option maxHeartbeats 2000000 in
theorem rWord_any (s : ByteArray) (w : World) (hs : s.size ≤ 4294967281) : Calls Tryz.prog 116 #[.string s] w (Ret w (.bool (isWordB s))) := by
  by_cases h0 : s.size = 0
  · have d0 : ((s.size : Int) == 0) = true := by simp [h0]
    have hv : isWordB s = false := by
      have : s.data.toList = [] := List.eq_nil_of_length_eq_zero (by rw [← Lib.size_eq]; exact h0)
      simp [isWordB, Lib.toList_data, this]
    rw [hv]; clear hv h0
    go_enter Tryz.func116, Tryz.ntmps116
    go_wp2
    go_ret
    exact ⟨rfl, by (repeat (first | exact .refl _ _ | assumption | refine .drew ?_ | refine balloc ?_ _ | refine bdrewN ?_ _ | refine .setCell ?_ (by simp <;> omega) _ | refine bstep ?_ (by assumption)))⟩
  have d0 : ((s.size : Int) == 0) = false := beq_eq_false_iff_ne.2 (by omega)
  by_cases h1 : s.size ≤ 64
  rotate_left
  · have d1 : decide ((64 : Int) < (s.size : Int)) = true := decide_eq_true (by omega)
    have hv : isWordB s = false := by simp [isWordB, h1]
    rw [hv]; clear hv
    go_enter Tryz.func116, Tryz.ntmps116
    go_wp2
    go_ret
    exact ⟨rfl, by (repeat (first | exact .refl _ _ | assumption | refine .drew ?_ | refine balloc ?_ _ | refine bdrewN ?_ _ | refine .setCell ?_ (by simp <;> omega) _ | refine bstep ?_ (by assumption)))⟩
  have d1 : decide ((64 : Int) < (s.size : Int)) = false := decide_eq_false (by omega)
  cases h2 : (s.toList == [46])
  rotate_left
  · have hv : isWordB s = false := by simp [isWordB, h2]
    rw [hv]; clear hv
    go_enter Tryz.func116, Tryz.ntmps116
    go_wp2
    go_ret
    exact ⟨rfl, by (repeat (first | exact .refl _ _ | assumption | refine .drew ?_ | refine balloc ?_ _ | refine bdrewN ?_ _ | refine .setCell ?_ (by simp <;> omega) _ | refine bstep ?_ (by assumption)))⟩
  cases h3 : (s.toList == [46, 46])
  rotate_left
  · have hv : isWordB s = false := by simp [isWordB, h3]
    rw [hv]; clear hv
    go_enter Tryz.func116, Tryz.ntmps116
    go_wp2
    go_ret
    exact ⟨rfl, by (repeat (first | exact .refl _ _ | assumption | refine .drew ?_ | refine balloc ?_ _ | refine bdrewN ?_ _ | refine .setCell ?_ (by simp <;> omega) _ | refine bstep ?_ (by assumption)))⟩
  have hv : isWordB s = s.data.toList.all letterB := by
    have : s.toList.isEmpty = false := by
      rw [Lib.toList_data]
      cases hl : s.data.toList with
      | nil => rw [Lib.size_eq, hl] at h0; simp at h0
      | cons _ _ => rfl
    simp [isWordB, h2, h3, this, h1]
  rw [hv]; clear hv
  go_enter Tryz.func116, Tryz.ntmps116
  go_wp2
  go_loopw [3] (fun i wr => ∃ k : Nat, i = .int .i64 k ∧ k ≤ s.size ∧ Hid ((s.data.toList.take k).all letterB = true) ∧ Below w.heap.size w wr) (fun i _ => s.size - (intOf i).toNat)
  case atStart => exact ⟨0, rfl, Nat.zero_le _, Lib.hid (by simp), Below.refl _ _⟩
  case round =>
    obtain ⟨k, rfl, hk, HK, hbr⟩ := hrel
    by_cases hlt : k < s.size
    · have ht : (s.data.toList.take (k + 1)).all letterB = ((s.data.toList.take k).all letterB && letterB s[k]) := by rw [take_snocB s k hlt]; simp
      have cL := fun W => rLetter_any s[k].toNat W (s[k].toNat_lt)
      unfold letterB at ht
      generalize isLetN s[k].toNat = b at *
      cases b
      · have HK2 : Hid (s.data.toList.all letterB = false) := Lib.hid (by
          have h2 : (s.data.toList.take (k + 1)).all letterB = false := by unfold letterB; rw [ht, Bool.and_false]
          rw [List.all_eq_false] at h2 ⊢
          obtain ⟨x, hx, h3⟩ := h2
          exact ⟨x, List.mem_of_mem_take hx, h3⟩)
        clear ht HK
        have HL := Lib.hid cL
        clear cL
        go_wp2_with (go_at_call 150; refine (HL.out _).mono ?_; rintro e w1 ⟨rfl, hb1⟩)
        go_ret
        exact ⟨ret_bool HK2.out.symm, by (repeat (first | exact .refl _ _ | assumption | refine .drew ?_ | refine balloc ?_ _ | refine bdrewN ?_ _ | refine .setCell ?_ (by simp <;> omega) _ | refine bstep ?_ (by assumption)))⟩
      · have HK2 : Hid ((s.data.toList.take (k + 1)).all letterB = true) := Lib.hid (by have := HK.out; unfold letterB at this ⊢; rw [ht, this]; rfl)
        clear ht HK
        have HL := Lib.hid cL
        clear cL
        go_wp2_with (go_at_call 150; refine (HL.out _).mono ?_; rintro e w1 ⟨rfl, hb1⟩)
        exact ⟨⟨k + 1, by go_num, by omega, HK2, by (repeat (first | exact .refl _ _ | assumption | refine .drew ?_ | refine balloc ?_ _ | refine bdrewN ?_ _ | refine .setCell ?_ (by simp <;> omega) _ | refine bstep ?_ (by assumption)))⟩, by simp [intOf]; omega⟩
    · go_wp2
      go_ret
      refine ⟨ret_bool ?_, by (repeat (first | exact .refl _ _ | assumption | refine .drew ?_ | refine balloc ?_ _ | refine bdrewN ?_ _ | refine .setCell ?_ (by simp <;> omega) _ | refine bstep ?_ (by assumption)))⟩
      have := HK.out
      rw [List.take_of_length_le (by rw [← Lib.size_eq]; omega)] at this
      exact this.symm
theorem anyEq_46 (s : ByteArray) : (isWordB s && !anyEq 46 s.data.toList) = isNameB s := by
  unfold isNameB
  congr 2
  rw [Bool.eq_iff_iff, decide_eq_true_eq]
  unfold anyEq
  generalize s.data.toList = l
  induction l with
  | nil => simp [Lib.indexByte]
  | cons b l ih =>
    rw [Lib.indexByte, List.any_cons, Bool.or_eq_true]
    have hb : (b.toNat == 46) = true ↔ (b == 46) = true := by
      rw [beq_iff_eq, beq_iff_eq, ← UInt8.toNat_inj]; rfl
    rw [hb, ih]
    split
    · simp [*]
    · split
      · rename_i h2
        simp only [beq_iff_eq] at h2
        simp [*]
      · rename_i h1 h2
        simp only [beq_iff_eq] at h2
        have : -1 ≤ Lib.indexByte l 46 := by
          rw [← Lib.index_one]; exact Lib.index_ge _ _
        simp only [h1, false_or, Bool.false_eq_true]
        omega
set_option maxHeartbeats 1000000 in
theorem rName_any (s : ByteArray) (w : World) (hs : s.size ≤ 4294967281) : Calls Tryz.prog 76 #[.string s] w (Ret w (.bool (isNameB s))) := by
  have cW := fun W => rWord_any s W hs
  have cH := fun W => rHas_any s 46 W hs
  rw [← anyEq_46]
  generalize isWordB s = b at *
  generalize anyEq 46 s.data.toList = h at *
  have HH := Lib.hid cH
  have HW := Lib.hid cW
  clear cH cW
  cases b
  · go_enter Tryz.func76, Tryz.ntmps76
    go_wp2_with (go_at_call 116; refine (HW.out _).mono ?_; rintro e w1 ⟨rfl, hb1⟩)
    go_ret
    exact ⟨rfl, by (repeat (first | exact .refl _ _ | assumption | refine .drew ?_ | refine balloc ?_ _ | refine bdrewN ?_ _ | refine .setCell ?_ (by simp <;> omega) _ | refine bstep ?_ (by assumption)))⟩
  · go_enter Tryz.func76, Tryz.ntmps76
    go_wp2_with (first | (go_at_call 116; refine (HW.out _).mono ?_; rintro e w1 ⟨rfl, hb1⟩) | (go_at_call 117; refine (HH.out _).mono ?_; rintro e w2 ⟨rfl, hb2⟩))
    go_ret
    exact ⟨ret_bool (by simp), by (repeat (first | exact .refl _ _ | assumption | refine .drew ?_ | refine balloc ?_ _ | refine bdrewN ?_ _ | refine .setCell ?_ (by simp <;> omega) _ | refine bstep ?_ (by assumption)))⟩
end Go.Proofs.YtocgkpdolgnbgaaGreatDoor
