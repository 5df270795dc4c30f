/- The specification's words: what its letter, Word, has and Name return. -/
import Derived.Test.YtocgkpdolgnbgaaGreatDoorHWords
import Derived.Test.YtocgkpdolgnbgaaGreatDoorProg
import Derived.WalkKit
import Derived.WalkSpells
import Derived.WalkLawsBesides
import Derived.Below
import Derived.Deep.QuietTactic
import Derived.BigQuiet
import Derived.Lib.QuietBelow
import Derived.Lib.Strings
import Derived.Lib.Hide
import Derived.Deep.RegionWith
import Derived.Deep.RegionHeld3
import Derived.Lib.IndexBytes
import Derived.Test.YtocgkpdolgnbgaaGreatDoorHPlainW
import Derived.LoopTactic
import Derived.Test.YtocgkpdolgnbgaaGreatDoorHSplit2
import Derived.OwnWalk
import Derived.Test.YtocgkpdolgnbgaaGreatDoorHParts
import Derived.Test.YtocgkpdolgnbgaaGreatDoorHPlainX
import Derived.Test.YtocgkpdolgnbgaaGreatDoorHSorted
import Derived.Test.YtocgkpdolgnbgaaGreatDoorHPairs
import Derived.Test.YtocgkpdolgnbgaaGreatDoorHWrite
import Derived.Lib.Join
import Derived.Lib.SlicesCompact
import Derived.Lib.RowBridge
import Derived.Test.YtocgkpdolgnbgaaGreatDoorHComp
import Derived.Deep.RegionHeldLaw
import Derived.Deep.RegionLaw
import Derived.Test.YtocgkpdolgnbgaaGreatDoorHResolve
namespace Go.Proofs.YtocgkpdolgnbgaaGreatDoor
open Go.RowKit Go.Sort
set_option linter.unusedVariables false
set_option linter.unusedSimpArgs false
set_option maxRecDepth 100000
set_option maxHeartbeats 1000000 in
theorem rLetter_any (c : Nat) (w : World) (hc : c < 256) : Calls Tryz.prog 150 #[.int .u8 c] w (Ret w (.bool (isLetN c))) := by
  go_enter Tryz.func150, Tryz.ntmps150
  go_wp2
  all_goals
    go_ret
    exact ⟨ret_bool (by first | (rw [Bool.eq_iff_iff]; simp [isLetN]; done) | (rw [Bool.eq_iff_iff]; simp [isLetN]; omega)), by (repeat (first | exact .refl _ _ | assumption | refine .drew ?_ | refine balloc ?_ _ | refine bdrewN ?_ _ | refine .setCell ?_ (by simp <;> omega) _ | refine bstep ?_ (by assumption)))⟩
def anyEq (c : Nat) (l : List UInt8) : Bool := l.any fun b => b.toNat == c
theorem take_snocB (s : ByteArray) (k : Nat) (h : k < s.size) : s.data.toList.take (k + 1) = s.data.toList.take k ++ [s[k]] := by
  rw [List.take_succ_eq_append_getElem (by simpa using h)]; rfl
theorem byte_int (b : UInt8) (c : Nat) : ((b.toNat : Int) == (c : Int)) = (b.toNat == c) := by
  rw [Bool.eq_iff_iff, beq_iff_eq, beq_iff_eq]; omega
set_option maxHeartbeats 1000000 in
theorem rHas_any (s : ByteArray) (c : Nat) (w : World) (hs : s.size ≤ 4294967281) : Calls Tryz.prog 117 #[.string s, .int .u8 c] w (Ret w (.bool (anyEq c s.data.toList))) := by
  go_enter Tryz.func117, Tryz.ntmps117
  go_wp2
  go_loop [5] (fun i => ∃ k : Nat, i = .int .i64 k ∧ k ≤ s.size ∧ Hid (anyEq c (s.data.toList.take k) = false)) (fun i => s.size - (intOf i).toNat)
  case atStart => exact ⟨0, rfl, Nat.zero_le _, Lib.hid (by simp [anyEq])⟩
  case round =>
    obtain ⟨k, rfl, hk, HK⟩ := hrel
    by_cases hlt : k < s.size
    · have ht : anyEq c (s.data.toList.take (k + 1)) = (anyEq c (s.data.toList.take k) || (s[k].toNat == c)) := by rw [take_snocB s k hlt]; simp [anyEq]
      have hd := byte_int s[k] c
      cases hb : (s[k].toNat == c)
      · rw [hb] at ht hd
        have HK2 : Hid (anyEq c (s.data.toList.take (k + 1)) = false) := Lib.hid (by rw [ht, HK.out]; rfl)
        clear ht hb HK
        go_wp2
        go_round
        case rel => exact ⟨k + 1, by go_num, by omega, HK2⟩
        case measure => simp [intOf]; omega
      · rw [hb] at ht hd
        have HK2 : Hid (anyEq c s.data.toList = true) := Lib.hid (by
          have h2 : anyEq c (s.data.toList.take (k + 1)) = true := by rw [ht, Bool.or_true]
          unfold anyEq at h2 ⊢
          rw [List.any_eq_true] at h2 ⊢
          obtain ⟨x, hx, h3⟩ := h2
          exact ⟨x, List.mem_of_mem_take hx, h3⟩)
        clear ht hb HK
        go_wp2
        go_ret
        exact ⟨ret_bool HK2.out.symm, by (repeat (first | exact .refl _ _ | assumption | refine .drew ?_ | refine balloc ?_ _ | refine bdrewN ?_ _ | refine .setCell ?_ (by simp <;> omega) _ | refine bstep ?_ (by assumption)))⟩
    · go_wp2
      go_ret
      refine ⟨ret_bool ?_, by (repeat (first | exact .refl _ _ | assumption | refine .drew ?_ | refine balloc ?_ _ | refine bdrewN ?_ _ | refine .setCell ?_ (by simp <;> omega) _ | refine bstep ?_ (by assumption)))⟩
      have := HK.out
      rw [List.take_of_length_le (by rw [← Lib.size_eq]; omega)] at this
      exact this.symm
set_option maxHeartbeats 2000000 in
theorem rWord_any (s : ByteArray) (w : World) (hs : s.size ≤ 4294967281) : Calls Tryz.prog 116 #[.string s] w (Ret w (.bool (isWordB s))) := by
  by_cases h0 : s.size = 0
  · have d0 : ((s.size : Int) == 0) = true := by simp [h0]
    have hv : isWordB s = false := by
      have : s.data.toList = [] := List.eq_nil_of_length_eq_zero (by rw [← Lib.size_eq]; exact h0)
      simp [isWordB, Lib.toList_data, this]
    rw [hv]; clear hv h0
    go_enter Tryz.func116, Tryz.ntmps116
    go_wp2
    go_ret
    exact ⟨rfl, by (repeat (first | exact .refl _ _ | assumption | refine .drew ?_ | refine balloc ?_ _ | refine bdrewN ?_ _ | refine .setCell ?_ (by simp <;> omega) _ | refine bstep ?_ (by assumption)))⟩
  have d0 : ((s.size : Int) == 0) = false := beq_eq_false_iff_ne.2 (by omega)
  by_cases h1 : s.size ≤ 64
  rotate_left
  · have d1 : decide ((64 : Int) < (s.size : Int)) = true := decide_eq_true (by omega)
    have hv : isWordB s = false := by simp [isWordB, h1]
    rw [hv]; clear hv
    go_enter Tryz.func116, Tryz.ntmps116
    go_wp2
    go_ret
    exact ⟨rfl, by (repeat (first | exact .refl _ _ | assumption | refine .drew ?_ | refine balloc ?_ _ | refine bdrewN ?_ _ | refine .setCell ?_ (by simp <;> omega) _ | refine bstep ?_ (by assumption)))⟩
  have d1 : decide ((64 : Int) < (s.size : Int)) = false := decide_eq_false (by omega)
  cases h2 : (s.toList == [46])
  rotate_left
  · have hv : isWordB s = false := by simp [isWordB, h2]
    rw [hv]; clear hv
    go_enter Tryz.func116, Tryz.ntmps116
    go_wp2
    go_ret
    exact ⟨rfl, by (repeat (first | exact .refl _ _ | assumption | refine .drew ?_ | refine balloc ?_ _ | refine bdrewN ?_ _ | refine .setCell ?_ (by simp <;> omega) _ | refine bstep ?_ (by assumption)))⟩
  cases h3 : (s.toList == [46, 46])
  rotate_left
  · have hv : isWordB s = false := by simp [isWordB, h3]
    rw [hv]; clear hv
    go_enter Tryz.func116, Tryz.ntmps116
    go_wp2
    go_ret
    exact ⟨rfl, by (repeat (first | exact .refl _ _ | assumption | refine .drew ?_ | refine balloc ?_ _ | refine bdrewN ?_ _ | refine .setCell ?_ (by simp <;> omega) _ | refine bstep ?_ (by assumption)))⟩
  have hv : isWordB s = s.data.toList.all letterB := by
    have : s.toList.isEmpty = false := by
      rw [Lib.toList_data]
      cases hl : s.data.toList with
      | nil => rw [Lib.size_eq, hl] at h0; simp at h0
      | cons _ _ => rfl
    simp [isWordB, h2, h3, this, h1]
  rw [hv]; clear hv
  go_enter Tryz.func116, Tryz.ntmps116
  go_wp2
  go_loopw [3] (fun i wr => ∃ k : Nat, i = .int .i64 k ∧ k ≤ s.size ∧ Hid ((s.data.toList.take k).all letterB = true) ∧ Below w.heap.size w wr) (fun i _ => s.size - (intOf i).toNat)
  case atStart => exact ⟨0, rfl, Nat.zero_le _, Lib.hid (by simp), Below.refl _ _⟩
  case round =>
    obtain ⟨k, rfl, hk, HK, hbr⟩ := hrel
    by_cases hlt : k < s.size
    · have ht : (s.data.toList.take (k + 1)).all letterB = ((s.data.toList.take k).all letterB && letterB s[k]) := by rw [take_snocB s k hlt]; simp
      have cL := fun W => rLetter_any s[k].toNat W (s[k].toNat_lt)
      unfold letterB at ht
      generalize isLetN s[k].toNat = b at *
      cases b
      · have HK2 : Hid (s.data.toList.all letterB = false) := Lib.hid (by
          have h2 : (s.data.toList.take (k + 1)).all letterB = false := by unfold letterB; rw [ht, Bool.and_false]
          rw [List.all_eq_false] at h2 ⊢
          obtain ⟨x, hx, h3⟩ := h2
          exact ⟨x, List.mem_of_mem_take hx, h3⟩)
        clear ht HK
        have HL := Lib.hid cL
        clear cL
        go_wp2_with (go_at_call 150; refine (HL.out _).mono ?_; rintro e w1 ⟨rfl, hb1⟩)
        go_ret
        exact ⟨ret_bool HK2.out.symm, by (repeat (first | exact .refl _ _ | assumption | refine .drew ?_ | refine balloc ?_ _ | refine bdrewN ?_ _ | refine .setCell ?_ (by simp <;> omega) _ | refine bstep ?_ (by assumption)))⟩
      · have HK2 : Hid ((s.data.toList.take (k + 1)).all letterB = true) := Lib.hid (by have := HK.out; unfold letterB at this ⊢; rw [ht, this]; rfl)
        clear ht HK
        have HL := Lib.hid cL
        clear cL
        go_wp2_with (go_at_call 150; refine (HL.out _).mono ?_; rintro e w1 ⟨rfl, hb1⟩)
        exact ⟨⟨k + 1, by go_num, by omega, HK2, by (repeat (first | exact .refl _ _ | assumption | refine .drew ?_ | refine balloc ?_ _ | refine bdrewN ?_ _ | refine .setCell ?_ (by simp <;> omega) _ | refine bstep ?_ (by assumption)))⟩, by simp [intOf]; omega⟩
    · go_wp2
      go_ret
      refine ⟨ret_bool ?_, by (repeat (first | exact .refl _ _ | assumption | refine .drew ?_ | refine balloc ?_ _ | refine bdrewN ?_ _ | refine .setCell ?_ (by simp <;> omega) _ | refine bstep ?_ (by assumption)))⟩
      have := HK.out
      rw [List.take_of_length_le (by rw [← Lib.size_eq]; omega)] at this
      exact this.symm
theorem anyEq_46 (s : ByteArray) : (isWordB s && !anyEq 46 s.data.toList) = isNameB s := by
  unfold isNameB
  congr 2
  rw [Bool.eq_iff_iff, decide_eq_true_eq]
  unfold anyEq
  generalize s.data.toList = l
  induction l with
  | nil => simp [Lib.indexByte]
  | cons b l ih =>
    rw [Lib.indexByte, List.any_cons, Bool.or_eq_true]
    have hb : (b.toNat == 46) = true ↔ (b == 46) = true := by
      rw [beq_iff_eq, beq_iff_eq, ← UInt8.toNat_inj]; rfl
    rw [hb, ih]
    split
    · simp [*]
    · split
      · rename_i h2
        simp only [beq_iff_eq] at h2
        simp [*]
      · rename_i h1 h2
        simp only [beq_iff_eq] at h2
        have : -1 ≤ Lib.indexByte l 46 := by
          rw [← Lib.index_one]; exact Lib.index_ge _ _
        simp only [h1, false_or, Bool.false_eq_true]
        omega
set_option maxHeartbeats 1000000 in
theorem rName_any (s : ByteArray) (w : World) (hs : s.size ≤ 4294967281) : Calls Tryz.prog 76 #[.string s] w (Ret w (.bool (isNameB s))) := by
  have cW := fun W => rWord_any s W hs
  have cH := fun W => rHas_any s 46 W hs
  rw [← anyEq_46]
  generalize isWordB s = b at *
  generalize anyEq 46 s.data.toList = h at *
  have HH := Lib.hid cH
  have HW := Lib.hid cW
  clear cH cW
  cases b
  · go_enter Tryz.func76, Tryz.ntmps76
    go_wp2_with (go_at_call 116; refine (HW.out _).mono ?_; rintro e w1 ⟨rfl, hb1⟩)
    go_ret
    exact ⟨rfl, by (repeat (first | exact .refl _ _ | assumption | refine .drew ?_ | refine balloc ?_ _ | refine bdrewN ?_ _ | refine .setCell ?_ (by simp <;> omega) _ | refine bstep ?_ (by assumption)))⟩
  · go_enter Tryz.func76, Tryz.ntmps76
    go_wp2_with (first | (go_at_call 116; refine (HW.out _).mono ?_; rintro e w1 ⟨rfl, hb1⟩) | (go_at_call 117; refine (HH.out _).mono ?_; rintro e w2 ⟨rfl, hb2⟩))
    go_ret
    exact ⟨ret_bool (by simp), by (repeat (first | exact .refl _ _ | assumption | refine .drew ?_ | refine balloc ?_ _ | refine bdrewN ?_ _ | refine .setCell ?_ (by simp <;> omega) _ | refine bstep ?_ (by assumption)))⟩
end Go.Proofs.YtocgkpdolgnbgaaGreatDoor
namespace Go.Proofs.YtocgkpdolgnbgaaGreatDoor
open Go.RowKit Go.Sort
set_option linter.unusedVariables false
set_option linter.unusedSimpArgs false
set_option maxRecDepth 100000
theorem lowAt_step2 (s : ByteArray) (k j : Nat) : lowAt s (k + 1) j = if j = k then (if 65 ≤ lowAt s k k ∧ lowAt s k k ≤ 90 then lowAt s k k + 32 else lowAt s k k) else lowAt s k j := by
  rw [lowAt_step]
  split
  · split <;> omega
  · rfl
set_option maxHeartbeats 1000000 in
theorem rSmall_any (s : ByteArray) (w : World) (hs : s.size ≤ 4294967281) : Calls Tryz.prog 165 #[.string s] w (Ret w (.string ⟨(lowL s.data.toList).toArray⟩)) := by
  have hcv := fun W => run_bytes_of_string (P := Tryz.prog) W 9 131 5 s Tryz.underlying9 Tryz.underlying131 Tryz.underlying5
  go_enter Tryz.func165, Tryz.ntmps165
  go_wp2
  clear hcv
  obtain ⟨R, hR⟩ : ∃ R, bytesRow s (grownCap w s.size 0 5) = R := ⟨_, rfl⟩
  obtain ⟨C, hC⟩ : ∃ C, grownCap w s.size 0 5 = C := ⟨_, rfl⟩
  have hrow : ∀ j, j < s.size → R[j]? = some (.int .u8 (lowAt s 0 j)) := by
    intro j hj
    rw [← hR, bytesRow_at _ _ _ hj]
    simp only [lowAt, Nat.not_lt_zero, if_false]
    have hl : j < s.data.toList.length := by rw [← Lib.size_eq]; exact hj
    rw [List.getElem?_eq_getElem hl]
    rfl
  have hRs : s.size ≤ R.size := by rw [← hR]; simp only [bytesRow, Array.size_append, Array.size_map]; exact Nat.le_add_right _ _
  rw [hR, hC]
  clear hR hC
  go_loopw [4] (fun i wr => ∃ (k : Nat) (R' : Array Value), k ≤ s.size ∧ i = .int .i64 k ∧ Blk wr w.heap.size 5 R' (R.size, R.size + 1) ∧ (∀ j, j < s.size → R'[j]? = some (.int .u8 (lowAt s k j))) ∧ Below w.heap.size w wr) (fun i _ => s.size - (intOf i).toNat)
  case atStart => exact ⟨0, R, by omega, rfl, heap_alloc_new w _, hrow, by (repeat (first | exact .refl _ _ | assumption | refine .drew ?_ | refine balloc ?_ _ | refine bdrewN ?_ _ | refine .setCell ?_ (by simp <;> omega) _ | refine bstep ?_ (by assumption)))⟩
  case round =>
    obtain ⟨k, R', hk, rfl, hB, hr, hb⟩ := hrel
    have H := Lib.hid hr
    clear hr hrow
    by_cases hlt : k < s.size
    · have hcell : wr.cell? ⟨w.heap.size, k, none⟩ = some (.int .u8 (lowAt s k k)) := by rw [hB.cell]; exact H.out k hlt
      have hfree := hB.free k (by simp; omega)
      have hbd := lowAt_bd s k k
      go_wp2
      · refine ⟨⟨k + 1, _, by omega, by go_num, hB.set_ k _, fun j hj => ?_, by (repeat (first | exact .refl _ _ | assumption | refine .drew ?_ | refine balloc ?_ _ | refine bdrewN ?_ _ | refine .setCell ?_ (by simp <;> omega) _ | refine bstep ?_ (by assumption)))⟩, by simp [intOf]; omega⟩
        rw [Array.getElem?_setIfInBounds, lowAt_step2]
        have hkR : k < R'.size := by
          have := H.out k hlt
          exact (Array.getElem?_eq_some_iff.1 this).1
        by_cases e : k = j
        · subst e
          rw [if_pos rfl, if_pos hkR, if_pos rfl, if_pos ⟨by assumption, by assumption⟩]
        · rw [if_neg e, if_neg (Ne.symm e)]
          exact H.out j hj
      all_goals
        refine ⟨⟨k + 1, _, by omega, by go_num, hB, fun j hj => ?_, hb⟩, by simp [intOf]; omega⟩
        rw [H.out j hj, lowAt_step2]
        by_cases e : j = k
        · subst e
          rw [if_pos rfl, if_neg (by omega)]
        · rw [if_neg e]
    · obtain rfl : k = s.size := by omega
      have hback : ∀ c, (convert 131 9 (.slice (some ⟨w.heap.size, 0, none⟩) s.size c)).run Tryz.prog wr = .ok (.string ⟨(lowL s.data.toList).toArray⟩) wr := fun c =>
        run_back wr 131 9 5 ⟨w.heap.size, 0, none⟩ s.size c (lowL s.data.toList) (by simp [lowL]) Tryz.underlying131 Tryz.underlying5 Tryz.underlying9 (fun j hj => by
          have hj' : j < s.size := by rw [Lib.size_eq]; simpa [lowL] using hj
          have e : (⟨w.heap.size, 0, none⟩ : Addr).add j = ⟨w.heap.size, j, none⟩ := by unfold Addr.add; split <;> simp_all
          rw [e, hB.cell, H.out j hj', lowAt_end s j hj])
      go_wp2
      go_ret
      exact ⟨rfl, hb⟩
theorem at_split (l : List UInt8) (k : Nat) (hk : k < l.length) : l = l.take k ++ l[k] :: l.drop (k + 1) := by
  rw [← List.drop_eq_getElem_cons hk, List.take_append_drop]
theorem byte_at (s : ByteArray) (k : Nat) (h : k < s.size) : s[k] = s.data.toList[k]'(by rw [← Lib.size_eq]; exact h) := by simp; rfl
def cutV (s : ByteArray) (c : UInt8) : Value := .tuple #[.string (toB (Lib.cut s.data.toList [c]).1), .string (toB (Lib.cut s.data.toList [c]).2.1), .bool (Lib.cut s.data.toList [c]).2.2]
set_option maxHeartbeats 2000000 in
theorem rCut_any (s : ByteArray) (c : UInt8) (w : World) (hs : s.size ≤ 4294967281) : Calls Tryz.prog 164 #[.string s, .int .u8 c.toNat] w (Ret w (cutV s c)) := by
  go_enter Tryz.func164, Tryz.ntmps164
  go_wp2
  go_loopw [7] (fun i wr => ∃ k : Nat, i = .int .i64 k ∧ k ≤ s.size ∧ Hid (c ∉ s.data.toList.take k) ∧ Below w.heap.size w wr) (fun i _ => s.size - (intOf i).toNat)
  case atStart => exact ⟨0, rfl, Nat.zero_le _, Lib.hid (by simp), Below.refl _ _⟩
  case round =>
    obtain ⟨k, rfl, hk, HK, hbr⟩ := hrel
    by_cases hlt : k < s.size
    · have hd := byte_int s[k] c.toNat
      have hkl : k < s.data.toList.length := by rw [← Lib.size_eq]; exact hlt
      have hat := byte_at s k hlt
      cases hb : (s[k].toNat == c.toNat)
      · rw [hb] at hd
        have hne : s[k] ≠ c := fun e => by rw [e] at hb; simp at hb
        have HK2 : Hid (c ∉ s.data.toList.take (k + 1)) := Lib.hid (by
          rw [take_snocB s k hlt]
          simp only [List.mem_append, List.mem_singleton, not_or]
          exact ⟨HK.out, fun e => hne e.symm⟩)
        clear hb HK hat hne
        go_wp2
        exact ⟨⟨k + 1, by go_num, by omega, HK2, hbr⟩, by simp [intOf]; omega⟩
      · rw [hb] at hd
        have he : s[k] = c := by rw [beq_iff_eq] at hb; exact UInt8.toNat_inj.1 hb
        have hv : cutV s c = .tuple #[.string (s.extract 0 k), .string (s.extract (k + 1) s.size), .bool true] := by
          have h1 := at_split s.data.toList k hkl
          rw [← hat, he] at h1
          have h2 : Lib.cut s.data.toList [c] = (s.data.toList.take k, s.data.toList.drop (k + 1), true) := by
            conv => lhs; rw [h1]
            exact cut_hit _ _ _ HK.out
          unfold cutV
          rw [h2]
          have e1 : toB (s.data.toList.take k) = s.extract 0 k := bytes_ext (by rw [Lib.extract_data]; simp [toB])
          have e2 : toB (s.data.toList.drop (k + 1)) = s.extract (k + 1) s.size := bytes_ext (by rw [Lib.extract_to_end]; rfl)
          rw [e1, e2]
        have HV := Lib.hid hv
        have hk0 : (0 : Int) ≤ (k : Int) := by omega
        have hk1 : (k : Int) + 1 ≤ (s.size : Int) := by omega
        have hk2 : (k : Int) ≤ (s.size : Int) := by omega
        clear hb HK hat he hv
        go_wp2_with fail
        go_quiet (fail)
        go_wp2
        go_ret3
        rw [HV.out]
        exact ⟨rfl, by (repeat (first | exact .refl _ _ | assumption | refine .drew ?_ | refine balloc ?_ _ | refine bdrewN ?_ _ | refine .setCell ?_ (by simp <;> omega) _ | refine bstep ?_ (by assumption)))⟩
    · have hv : cutV s c = .tuple #[.string s, .string ⟨#[]⟩, .bool false] := by
        have h1 := HK.out
        rw [List.take_of_length_le (by rw [← Lib.size_eq]; omega)] at h1
        unfold cutV
        rw [cut_none _ _ h1]
        rfl
      have HV := Lib.hid hv
      clear hv HK
      go_wp2
      go_ret3
      rw [HV.out]
      exact ⟨rfl, by (repeat (first | exact .refl _ _ | assumption | refine .drew ?_ | refine balloc ?_ _ | refine bdrewN ?_ _ | refine .setCell ?_ (by simp <;> omega) _ | refine bstep ?_ (by assumption)))⟩
end Go.Proofs.YtocgkpdolgnbgaaGreatDoor
namespace Go.Proofs.YtocgkpdolgnbgaaGreatDoor
open Go.RowKit Go.Sort
set_option linter.unusedVariables false
set_option linter.unusedSimpArgs false
set_option maxRecDepth 100000
def SplitI (c : UInt8) (l : List UInt8) (k f : Nat) (acc : List ByteArray) : Prop := f ≤ k ∧ c ∉ (l.drop f).take (k - f) ∧ (splitL c l).map toB = acc ++ (splitL c (l.drop f)).map toB
theorem splitI_step {c : UInt8} {l : List UInt8} {k f : Nat} {acc : List ByteArray} (h : SplitI c l k f acc) (hk : k < l.length) (hne : l[k] ≠ c) : SplitI c l (k + 1) f acc := by
  obtain ⟨h1, h2, h3⟩ := h
  refine ⟨by omega, ?_, h3⟩
  have hl : k - f < (l.drop f).length := by rw [List.length_drop]; omega
  rw [show k + 1 - f = (k - f) + 1 by omega, List.take_succ_eq_append_getElem hl]
  simp only [List.mem_append, List.mem_singleton, not_or]
  refine ⟨h2, ?_⟩
  rw [List.getElem_drop]
  intro e
  apply hne
  rw [e]
  congr 1
  omega
theorem splitI_hit {c : UInt8} {l : List UInt8} {k f : Nat} {acc : List ByteArray} (h : SplitI c l k f acc) (hk : k < l.length) (he : l[k] = c) : SplitI c l (k + 1) (k + 1) (acc ++ [toB ((l.drop f).take (k - f))]) := by
  obtain ⟨h1, h2, h3⟩ := h
  refine ⟨Nat.le_refl _, by simp, ?_⟩
  have hl : k - f < (l.drop f).length := by rw [List.length_drop]; omega
  have hs := at_split (l.drop f) (k - f) hl
  have e1 : (l.drop f)[k - f] = c := by
    rw [List.getElem_drop, ← he]
    congr 1
    omega
  rw [e1, List.drop_drop, show f + (k - f + 1) = k + 1 by omega] at hs
  have hsp : splitL c (l.drop f) = (l.drop f).take (k - f) :: splitL c (l.drop (k + 1)) := by
    conv => lhs; rw [hs]
    exact split_hit _ _ _ h2
  rw [h3, hsp]
  simp
theorem splitI_end {c : UInt8} {l : List UInt8} {f : Nat} {acc : List ByteArray} (h : SplitI c l l.length f acc) : (splitL c l).map toB = acc ++ [toB (l.drop f)] := by
  obtain ⟨h1, h2, h3⟩ := h
  rw [List.take_of_length_le (by rw [List.length_drop]; omega)] at h2
  rw [h3, split_none _ _ h2]
  rfl
theorem splitB_eq (c : UInt8) (s : ByteArray) : splitB c s = (splitL c s.data.toList).map toB := rfl
def OwnPost (ps : List ByteArray) (w : World) (e : Ending) (w' : World) : Prop := ∃ A c, e = .returned (.slice A ps.length c) ∧ w'.ownsRow w.heap.size 9 1 (.slice A ps.length c) ps.length (ps.map .string) ∧ Below w.heap.size w w'
set_option maxHeartbeats 2000000 in
theorem rSplit_any (s : ByteArray) (c : UInt8) (w : World) (hs : s.size ≤ 4294967281) : Calls Tryz.prog 138 #[.string s, .int .u8 c.toNat] w (OwnPost (splitB c s) w) := by
  obtain ⟨i0, hi0, hz0, hz1, hz2⟩ := info_parts infoStr
  have HI : Hid ((Tryz.prog.info? 9 = some i0) ∧ i0.zero = some (.string ⟨#[]⟩) ∧ i0.size = 1 ∧ i0.bytes = 16) := Lib.hid ⟨hi0, hz0, hz1, hz2⟩
  clear hi0 hz0 hz1 hz2
  have hsl : s.data.toList.length = s.size := (Lib.size_eq s).symm
  have HSL := Lib.hid hsl
  clear hsl
  go_enter Tryz.func138, Tryz.ntmps138
  go_wp2
  go_loopw [5, 6, 7] (fun vo vf vi wr => ∃ (k f n : Nat) (acc : List ByteArray) (A : Option Addr) (c' : Nat), (vi = .int .i64 k ∧ vf = .int .i64 f ∧ vo = .slice A n c' ∧ k ≤ s.size ∧ f ≤ k ∧ n ≤ k) ∧ Hid (SplitI c s.data.toList k f acc ∧ acc.length = n) ∧ wr.ownsRow w.heap.size 9 1 (.slice A n c') n (acc.map .string) ∧ Below w.heap.size w wr) (fun _ _ i _ => s.size - (intOf i).toNat)
  case atStart => exact ⟨0, 0, 0, [], none, 0, ⟨rfl, rfl, rfl, Nat.zero_le _, Nat.le_refl _, Nat.le_refl _⟩, Lib.hid ⟨⟨Nat.le_refl _, by simp, by simp⟩, rfl⟩, World.ownsRow_nil _ _ _ _, Below.refl _ _⟩
  case round =>
    obtain ⟨k, f, n, acc, A, c', ⟨rfl, rfl, rfl, hk, hf, hn⟩, HK, hown, hbr⟩ := hrel
    have hbs := hbr.size
    by_cases hlt : k < s.size
    · have hd := byte_int s[k] c.toNat
      have hkl : k < s.data.toList.length := by rw [HSL.out]; exact hlt
      have hat := byte_at s k hlt
      cases hb : (s[k].toNat == c.toNat)
      · rw [hb] at hd
        have hne : s.data.toList[k] ≠ c := fun e => by rw [← hat] at e; rw [e] at hb; simp at hb
        have HK2 : Hid (SplitI c s.data.toList (k + 1) f acc ∧ acc.length = n) := Lib.hid ⟨splitI_step HK.out.1 hkl hne, HK.out.2⟩
        clear hb HK hat hne hkl
        go_wp2
        exact ⟨⟨k + 1, f, n, acc, A, c', ⟨by go_num, rfl, rfl, by omega, by omega, by omega⟩, HK2, hown, hbr⟩, by simp [intOf]; omega⟩
      · rw [hb] at hd
        have he : s.data.toList[k] = c := by rw [← hat]; rw [beq_iff_eq] at hb; exact UInt8.toNat_inj.1 hb
        have hpc : toB ((s.data.toList.drop f).take (k - f)) = s.extract f k := bytes_ext (by rw [Lib.extract_data]; rfl)
        have hhit := splitI_hit HK.out.1 hkl he
        rw [hpc] at hhit
        have HK2 : Hid (SplitI c s.data.toList (k + 1) (k + 1) (acc ++ [s.extract f k]) ∧ (acc ++ [s.extract f k]).length = n + 1) := Lib.hid ⟨hhit, by simp [HK.out.2]⟩
        have hk0 : (0 : Int) ≤ (f : Int) := by omega
        have hk1 : (f : Int) ≤ (k : Int) := by omega
        have hk2 : (k : Int) ≤ (s.size : Int) := by omega
        clear hb HK hat he hkl hpc hhit
        go_wp2_with (at_builtin; refine wpList_append_own _ rfl _ _ 22 rfl w.heap.size 9 i0 (.string ⟨#[]⟩) 1 16 Tryz.underlying22 HI.out.1 HI.out.2.1 HI.out.2.2.1 HI.out.2.2.2 rfl (by decide) _ _ _ rfl (hown.alloc _) ⟨wr.heap.size, 0, none⟩ 1 1 [.string (s.extract f k)] rfl rfl (cell_one_new _ _ _) (by simp [Value.oneCell']) (by unfold maxLen; omega) (by omega) (by simp; omega) ?_; intro v' w3 hown' hgrow _; obtain ⟨g', cap', rfl⟩ := ownsRow_succ hown')
        exact ⟨⟨k + 1, k + 1, n + 1, acc ++ [s.extract f k], some ⟨g', 0, none⟩, cap', ⟨by go_num, by go_num, rfl, by omega, by omega, by omega⟩, HK2, by rw [List.map_append]; exact hown', (hbr.alloc hbs _).grown hgrow (by simp; omega) (fun r e => ownsRow_block hown r e)⟩, by simp [intOf]; omega⟩
    · obtain rfl : k = s.size := by omega
      have hpc : toB (s.data.toList.drop f) = s.extract f s.size := bytes_ext (by rw [Lib.extract_to_end]; rfl)
      have hend : splitB c s = acc ++ [s.extract f s.size] := by
        rw [splitB_eq, ← hpc]
        exact splitI_end (by rw [HSL.out]; exact HK.out.1)
      have hlen : (splitB c s).length = n + 1 := by rw [hend]; simp [HK.out.2]
      have HEND := Lib.hid hend
      have HLEN := Lib.hid hlen
      have hk0 : (0 : Int) ≤ (f : Int) := by omega
      have hk1 : (f : Int) ≤ (s.size : Int) := by omega
      clear hpc hend hlen HK
      go_wp2_with (at_builtin; refine wpList_append_own _ rfl _ _ 22 rfl w.heap.size 9 i0 (.string ⟨#[]⟩) 1 16 Tryz.underlying22 HI.out.1 HI.out.2.1 HI.out.2.2.1 HI.out.2.2.2 rfl (by decide) _ _ _ rfl (hown.alloc _) ⟨wr.heap.size, 0, none⟩ 1 1 [.string (s.extract f s.size)] rfl rfl (cell_one_new _ _ _) (by simp [Value.oneCell']) (by unfold maxLen; omega) (by omega) (by simp; omega) ?_; intro v' w3 hown' hgrow _; obtain ⟨g', cap', rfl⟩ := ownsRow_succ hown')
      go_ret
      refine ⟨some ⟨g', 0, none⟩, cap', by rw [HLEN.out]; rfl, ?_, (hbr.alloc hbs _).grown hgrow (by simp; omega) (fun r e => ownsRow_block hown r e)⟩
      rw [HLEN.out, HEND.out, List.map_append]
      exact hown'
def Boxed3 (w : World) (g : Nat) (c : ByteArray) (P : Option Addr) (np cp : Nat) (Q : Option Addr) (nq cq : Nat) : Prop := Blk w g 153 #[.string c, .slice P np cp, .slice Q nq cq] (0, 0)
theorem pathK_add (c : ByteArray) (xs : List ByteArray) (k : Nat) (x : ByteArray) (h : xs[k]? = some x) : toB (pathK c xs k) ++ ⟨#[47]⟩ ++ x = toB (pathK c xs (k + 1)) := by
  rw [pathK_succ c xs k x h]
  exact bytes_ext (by simp [toB])
theorem queryK_add (c : ByteArray) (xs : List ByteArray) (qs : List (ByteArray × ByteArray)) (k : Nat) (q : ByteArray × ByteArray) (h : qs[k]? = some q) : toB (queryK c xs qs k) ++ sepK k ++ q.1 ++ ⟨#[61]⟩ ++ q.2 = toB (queryK c xs qs (k + 1)) := by
  rw [queryK_succ c xs qs k q h]
  exact bytes_ext (by simp [toB])
set_option maxHeartbeats 4000000 in
theorem rText_any (c : ByteArray) (P Q : Option Addr) (np cp nq cq : Nat) (xs : List ByteArray) (qs : List (ByteArray × ByteArray)) (w : World) (hP : Reads w 1 P np (xs.map .string)) (hQ : Reads w 2 Q nq (pairCells qs)) (htot : (W06 c xs qs).length ≤ 1000000000) :
    Calls Tryz.prog 197 #[.agg #[.string c, .slice P np cp, .slice Q nq cq]] w (Ret w (.string (toB (W06 c xs qs)))) := by
  have hnp : xs.length = np := by have := hP.1; simp at this; omega
  have hnq : qs.length = nq := by have := hQ.1; rw [pairCells_length] at this; omega
  have hc0 : toB (pathK c xs 0) = c := by simp [pathK, pathL, toB]
  have hend1 := pathK_all c xs qs np (by omega)
  have hend2 := queryK_all c xs qs nq (by omega)
  have HP := Lib.hid hP; have HQ := Lib.hid hQ; have HNP := Lib.hid hnp; have HNQ := Lib.hid hnq; have HC0 := Lib.hid hc0; have HE1 := Lib.hid hend1; have HE2 := Lib.hid hend2; have HT := Lib.hid htot
  have hnp9 : np ≤ 1000000000 := by
    have := pathL_len (lists xs)
    simp only [W06, writeL, List.length_append] at htot
    simp only [lists, List.length_map] at this htot
    omega
  have hnq9 : nq ≤ 1000000000 := by
    have := queryL_len 63 (lists2 qs)
    simp only [W06, writeL, List.length_append] at htot
    simp only [lists2, List.length_map] at this htot
    omega
  clear hP hQ hnp hnq hc0 hend1 hend2 htot
  go_enter Tryz.func197, Tryz.ntmps197
  go_wp2
  have hX0 : Boxed3 (w.alloc (.cells #[.string c, .slice P np cp, .slice Q nq cq] 153)) w.heap.size c P np cp Q nq cq := World.alloc_heap_new _ _
  go_loopw [3, 4] (fun vs vi wr => ∃ k : Nat, vi = .int .i64 k ∧ k ≤ np ∧ vs = .string (toB (pathK c xs k)) ∧ Boxed3 wr w.heap.size c P np cp Q nq cq ∧ Below w.heap.size w wr) (fun _ i _ => np - (intOf i).toNat)
  case atStart => exact ⟨0, rfl, Nat.zero_le _, by rw [HC0.out], hX0, balloc (Below.refl _ _) _⟩
  case round =>
    clear hX0
    obtain ⟨k, rfl, hk, rfl, hX, hbr⟩ := hrel
    have x1 : wr.cell? ⟨w.heap.size, 1, none⟩ = some (.slice P np cp) := Blk.cell hX 1
    have x2 : wr.cell? ⟨w.heap.size, 2, none⟩ = some (.slice Q nq cq) := Blk.cell hX 2
    by_cases hlt : k < np
    · obtain ⟨x, hx⟩ : ∃ x, xs[k]? = some x := ⟨_, List.getElem?_eq_getElem (by have := HNP.out; omega)⟩
      obtain ⟨b, o, rfl, hcell⟩ := (HP.out.keep hbr).2 (by omega)
      have hc1 : wr.cell? ⟨b, o + k, none⟩ = some (.string x) := hcell k _ (by simp [hx])
      have HS := Lib.hid (pathK_add c xs k x hx)
      have hz1 : (toB (pathK c xs k)).size ≤ 1000000000 := by rw [toB_size]; have := pathK_le c xs qs k; have := HT.out; omega
      have hz2 : x.size ≤ 1000000000 := by have := W06_x c xs qs x (List.mem_of_getElem? hx); have := HT.out; omega
      generalize toB (pathK c xs k) = S at *
      clear hcell hx
      go_wp2
      exact ⟨⟨k + 1, by go_num, by omega, congrArg Value.string HS.out, hX, hbr⟩, by simp [intOf]; omega⟩
    · obtain rfl : k = np := by omega
      have he := HE1.out
      rw [he]
      clear he HE1
      go_wp2
      clear x1 x2
      obtain ⟨wo, rfl⟩ : ∃ wo : World, wo = wr := ⟨_, rfl⟩
      go_loopw [3, 5] (fun vs vi wz => ∃ j : Nat, vi = .int .i64 j ∧ j ≤ nq ∧ vs = .string (toB (queryK c xs qs j)) ∧ Boxed3 wz w.heap.size c P k cp Q nq cq ∧ Below w.heap.size w wz) (fun _ i _ => nq - (intOf i).toNat)
      case atStart => exact ⟨0, rfl, Nat.zero_le _, rfl, hX, hbr⟩
      case round =>
        clear hX hbr
        obtain ⟨j, rfl, hj, rfl, hX, hbr⟩ := hrel
        have x2 : wr.cell? ⟨w.heap.size, 2, none⟩ = some (.slice Q nq cq) := Blk.cell hX 2
        by_cases hlt2 : j < nq
        · obtain ⟨q, hq⟩ : ∃ q, qs[j]? = some q := ⟨_, List.getElem?_eq_getElem (by have := HNQ.out; omega)⟩
          obtain ⟨b, o, rfl, hcell⟩ := (HQ.out.keep hbr).2 (by omega)
          obtain ⟨e1, e2⟩ := pairCells_at qs j q hq
          have hc1 : wr.cell? ⟨b, o + j * 2, none⟩ = _ := hcell _ _ e1
          have hc2 : wr.cell? ⟨b, o + j * 2 + 1, none⟩ = _ := hcell _ _ e2
          have hadd := queryK_add c xs qs j q hq
          have hz1 : (toB (queryK c xs qs j)).size ≤ 1000000000 := by rw [toB_size]; have := queryK_le c xs qs j; have := HT.out; omega
          have hz2 : q.1.size ≤ 1000000000 ∧ q.2.size ≤ 1000000000 := by have := W06_q c xs qs q (List.mem_of_getElem? hq); have := HT.out; omega
          obtain ⟨hz2, hz3⟩ := hz2
          obtain ⟨qk, qv⟩ := q
          dsimp only at hc1 hc2 hadd hz2 hz3
          have hj0 : (0 : Int) ≤ (j : Int) := by omega
          have hj1 : (j : Int) < (nq : Int) := by omega
          clear hcell hq e1 e2
          by_cases h0 : j = 0
          · subst h0
            simp only [Nat.zero_mul, Nat.add_zero] at hc1 hc2
            have HS : Hid (toB (queryK c xs qs 0) ++ ⟨#[63]⟩ ++ qk ++ ⟨#[61]⟩ ++ qv = toB (queryK c xs qs (0 + 1))) := Lib.hid hadd
            generalize toB (queryK c xs qs 0) = S at *
            clear hadd
            go_wp2_with fail
            have n1 : ¬ 9223372036854775807 < S.size + 1 := by omega
            have n2 : ¬ 9223372036854775807 < S.size + 1 + qk.size := by omega
            have n3 : ¬ 9223372036854775807 < S.size + 1 + qk.size + 1 := by omega
            have n4 : ¬ 9223372036854775807 < S.size + 1 + qk.size + 1 + qv.size := by omega
            go_quiet (fail)
            go_wp2
            exact ⟨⟨1, by go_num, by omega, congrArg Value.string HS.out, Blk.keep hX (by (repeat (first | exact .refl _ _ | assumption | refine .drew ?_ | refine balloc ?_ _ | refine bdrewN ?_ _ | refine .setCell ?_ (by simp <;> omega) _ | refine bstep ?_ (by assumption)))), by (repeat (first | exact .refl _ _ | assumption | refine .drew ?_ | refine balloc ?_ _ | refine bdrewN ?_ _ | refine .setCell ?_ (by simp <;> omega) _ | refine bstep ?_ (by assumption)))⟩, by simp [intOf]; omega⟩
          · have HS : Hid (toB (queryK c xs qs j) ++ ⟨#[38]⟩ ++ qk ++ ⟨#[61]⟩ ++ qv = toB (queryK c xs qs (j + 1))) := Lib.hid (by simpa [sepK, h0] using hadd)
            have hd : ((j : Int) == 0) = false := beq_eq_false_iff_ne.2 (by omega)
            generalize toB (queryK c xs qs j) = S at *
            clear hadd
            go_wp2_with fail
            have n1 : ¬ 9223372036854775807 < S.size + 1 := by omega
            have n2 : ¬ 9223372036854775807 < S.size + 1 + qk.size := by omega
            have n3 : ¬ 9223372036854775807 < S.size + 1 + qk.size + 1 := by omega
            have n4 : ¬ 9223372036854775807 < S.size + 1 + qk.size + 1 + qv.size := by omega
            go_quiet (fail)
            go_wp2
            exact ⟨⟨j + 1, by go_num, by omega, congrArg Value.string HS.out, Blk.keep hX (by (repeat (first | exact .refl _ _ | assumption | refine .drew ?_ | refine balloc ?_ _ | refine bdrewN ?_ _ | refine .setCell ?_ (by simp <;> omega) _ | refine bstep ?_ (by assumption)))), by (repeat (first | exact .refl _ _ | assumption | refine .drew ?_ | refine balloc ?_ _ | refine bdrewN ?_ _ | refine .setCell ?_ (by simp <;> omega) _ | refine bstep ?_ (by assumption)))⟩, by simp [intOf]; omega⟩
        · obtain rfl : j = nq := by omega
          have he := HE2.out
          rw [he]
          go_wp2
          go_ret
          exact ⟨rfl, hbr⟩
end Go.Proofs.YtocgkpdolgnbgaaGreatDoor
namespace Go.Proofs.YtocgkpdolgnbgaaGreatDoor
open Go.RowKit Go.Sort
set_option linter.unusedVariables false
set_option linter.unusedSimpArgs false
set_option maxRecDepth 100000
def sufB (p : ByteArray) : Bool := decide (1 < p.size) && (p.data.toList.head? == some 42)
def endsB (p w : ByteArray) : Bool := decide (p.size - 1 < w.size) && ((w.extract (w.size - (p.size - 1)) w.size).toList == (p.extract 1 p.size).toList)
def mtchB (p w : ByteArray) : Bool := p.toList == [42] || p.toList == w.toList || (sufB p && endsB p w)
theorem head_byte (s : ByteArray) (h : 0 < s.size) : (s.data.toList.head? == some 42) = (s[0].toNat == 42) := by
  have hl : 0 < s.data.toList.length := by rw [← Lib.size_eq]; exact h
  rw [byte_at s 0 h, List.head?_eq_getElem?, List.getElem?_eq_getElem hl, Bool.eq_iff_iff, beq_iff_eq, beq_iff_eq]
  constructor
  · intro e; injection e with e; rw [e]; rfl
  · intro e; exact congrArg some (UInt8.toNat_inj.1 e)
set_option maxHeartbeats 1000000 in
theorem rSuffix_any (p : ByteArray) (w : World) (hp : p.size ≤ 4294967281) : Calls Tryz.prog 140 #[.string p] w (Ret w (.bool (sufB p))) := by
  by_cases h1 : 1 < p.size
  · have d1 : decide ((1 : Int) < (p.size : Int)) = true := decide_eq_true (by omega)
    have hv : sufB p = (p[0].toNat == 42) := by unfold sufB; rw [decide_eq_true h1, head_byte p (by omega)]; rfl
    have hb := byte_int p[0] 42
    rw [← hv] at hb
    clear hv
    generalize sufB p = b at *
    have h0 : (0 : Int) < (p.size : Int) := by omega
    go_enter Tryz.func140, Tryz.ntmps140
    go_wp2
    go_ret
    exact ⟨ret_bool hb, by (repeat (first | exact .refl _ _ | assumption | refine .drew ?_ | refine balloc ?_ _ | refine bdrewN ?_ _ | refine .setCell ?_ (by simp <;> omega) _ | refine bstep ?_ (by assumption)))⟩
  · have d1 : decide ((1 : Int) < (p.size : Int)) = false := decide_eq_false (by omega)
    have hv : sufB p = false := by unfold sufB; rw [decide_eq_false h1]; rfl
    rw [hv]
    clear hv
    go_enter Tryz.func140, Tryz.ntmps140
    go_wp2
    go_ret
    exact ⟨rfl, by (repeat (first | exact .refl _ _ | assumption | refine .drew ?_ | refine balloc ?_ _ | refine bdrewN ?_ _ | refine .setCell ?_ (by simp <;> omega) _ | refine bstep ?_ (by assumption)))⟩
set_option maxHeartbeats 1000000 in
theorem rEnds_any (p s : ByteArray) (w : World) (hp : p.size ≤ 4294967281) (h1 : 1 ≤ p.size) (hs : s.size ≤ 4294967281) : Calls Tryz.prog 141 #[.string p, .string s] w (Ret w (.bool (endsB p s))) := by
  obtain ⟨n, hn⟩ : ∃ n, p.size = n + 1 := ⟨p.size - 1, by omega⟩
  have hi : (p.size : Int) - 1 = (n : Int) := by omega
  unfold endsB
  rw [show p.size - 1 = n by omega]
  by_cases h2 : n < s.size
  · obtain ⟨m, hm⟩ : ∃ m, s.size - n = m := ⟨_, rfl⟩
    have hi2 : (s.size : Int) - (n : Int) = (m : Int) := by omega
    have d1 : decide ((n : Int) < (s.size : Int)) = true := decide_eq_true (by omega)
    have hm0 : (0 : Int) ≤ (m : Int) := by omega
    have hm1 : (m : Int) ≤ (s.size : Int) := by omega
    have hp1 : (1 : Int) ≤ (p.size : Int) := by omega
    rw [hm, decide_eq_true h2, Bool.true_and]
    rw [hn]
    generalize hb : ((s.extract m s.size).toList == (p.extract 1 (n + 1)).toList) = b
    go_enter Tryz.func141, Tryz.ntmps141
    go_wp2_with fail
    go_quiet (fail)
    go_wp2
    go_ret
    exact ⟨rfl, by (repeat (first | exact .refl _ _ | assumption | refine .drew ?_ | refine balloc ?_ _ | refine bdrewN ?_ _ | refine .setCell ?_ (by simp <;> omega) _ | refine bstep ?_ (by assumption)))⟩
  · have d1 : decide ((n : Int) < (s.size : Int)) = false := decide_eq_false (by omega)
    rw [decide_eq_false h2, Bool.false_and]
    go_enter Tryz.func141, Tryz.ntmps141
    go_wp2_with fail
    go_quiet (fail)
    go_wp2
    go_ret
    exact ⟨rfl, by (repeat (first | exact .refl _ _ | assumption | refine .drew ?_ | refine balloc ?_ _ | refine bdrewN ?_ _ | refine .setCell ?_ (by simp <;> omega) _ | refine bstep ?_ (by assumption)))⟩
set_option maxHeartbeats 1000000 in
theorem rMatches_any (p s : ByteArray) (w : World) (hp : p.size ≤ 4294967281) (hs : s.size ≤ 4294967281) : Calls Tryz.prog 126 #[.string p, .string s] w (Ret w (.bool (mtchB p s))) := by
  have cS := fun W => rSuffix_any p W hp
  have hsz : sufB p = true → 1 ≤ p.size := by
    intro h; unfold sufB at h; simp only [Bool.and_eq_true, decide_eq_true_eq] at h; omega
  have cE := fun W (h : sufB p = true) => rEnds_any p s W hp (hsz h) hs
  unfold mtchB
  generalize endsB p s = en at *
  generalize sufB p = sf at *
  have HSF := Lib.hid cS
  clear cS hsz
  cases h1 : (p.toList == [42])
  · cases h2 : (p.toList == s.toList)
    · cases sf
      · clear cE
        go_enter Tryz.func126, Tryz.ntmps126
        go_wp2_with (go_at_call 140; refine (HSF.out _).mono ?_; rintro e w1 ⟨rfl, hb1⟩)
        go_ret
        exact ⟨rfl, by (repeat (first | exact .refl _ _ | assumption | refine .drew ?_ | refine balloc ?_ _ | refine bdrewN ?_ _ | refine .setCell ?_ (by simp <;> omega) _ | refine bstep ?_ (by assumption)))⟩
      · have HEN := Lib.hid (fun W => cE W rfl)
        clear cE
        go_enter Tryz.func126, Tryz.ntmps126
        go_wp2_with (first | (go_at_call 140; refine (HSF.out _).mono ?_; rintro e w1 ⟨rfl, hb1⟩) | (go_at_call 141; refine (HEN.out _).mono ?_; rintro e w2 ⟨rfl, hb2⟩))
        go_ret
        exact ⟨ret_bool (by simp), by (repeat (first | exact .refl _ _ | assumption | refine .drew ?_ | refine balloc ?_ _ | refine bdrewN ?_ _ | refine .setCell ?_ (by simp <;> omega) _ | refine bstep ?_ (by assumption)))⟩
    · clear cE
      go_enter Tryz.func126, Tryz.ntmps126
      go_wp2
      go_ret
      exact ⟨rfl, by (repeat (first | exact .refl _ _ | assumption | refine .drew ?_ | refine balloc ?_ _ | refine bdrewN ?_ _ | refine .setCell ?_ (by simp <;> omega) _ | refine bstep ?_ (by assumption)))⟩
  · clear cE
    go_enter Tryz.func126, Tryz.ntmps126
    go_wp2
    go_ret
    exact ⟨rfl, by (repeat (first | exact .refl _ _ | assumption | refine .drew ?_ | refine balloc ?_ _ | refine bdrewN ?_ _ | refine .setCell ?_ (by simp <;> omega) _ | refine bstep ?_ (by assumption)))⟩
def partR (s : ByteArray) : Bool := if decide (2 < s.size) && ((s.extract 0 2).toList == [42, 46]) then decide (s.size ≤ 34) && isWordB (s.extract 2 s.size) else s.toList == [42] || isWordB s
set_option maxHeartbeats 1000000 in
theorem rPart_any (s : ByteArray) (w : World) (hs : s.size ≤ 4294967200) : Calls Tryz.prog 139 #[.string s] w (Ret w (.bool (partR s))) := by
  have c1 := fun W => rWord_any s W (by omega)
  have c2 := fun W => rWord_any (s.extract 2 s.size) W (by rw [ByteArray.size_extract]; omega)
  unfold partR
  generalize isWordB (s.extract 2 s.size) = b2 at *
  generalize isWordB s = b1 at *
  by_cases h1 : 2 < s.size
  · have d1 : decide ((2 : Int) < (s.size : Int)) = true := decide_eq_true (by omega)
    have q2 : (2 : Int) ≤ (s.size : Int) := by omega
    rw [decide_eq_true h1]
    cases h2 : ((s.extract 0 2).toList == [42, 46])
    · simp only [Bool.and_false, Bool.false_eq_true, if_false]
      cases h3 : (s.toList == [42])
      · have HW := Lib.hid c1
        clear c1 c2
        go_enter Tryz.func139, Tryz.ntmps139
        go_wp2_with (go_at_call 116; refine (HW.out _).mono ?_; rintro e w1 ⟨rfl, hb1⟩)
        go_ret
        exact ⟨ret_bool (by simp), by (repeat (first | exact .refl _ _ | assumption | refine .drew ?_ | refine balloc ?_ _ | refine bdrewN ?_ _ | refine .setCell ?_ (by simp <;> omega) _ | refine bstep ?_ (by assumption)))⟩
      · clear c1 c2
        go_enter Tryz.func139, Tryz.ntmps139
        go_wp2
        go_ret
        exact ⟨rfl, by (repeat (first | exact .refl _ _ | assumption | refine .drew ?_ | refine balloc ?_ _ | refine bdrewN ?_ _ | refine .setCell ?_ (by simp <;> omega) _ | refine bstep ?_ (by assumption)))⟩
    · simp only [Bool.and_self, if_true]
      by_cases h4 : s.size ≤ 34
      · have d4 : decide ((s.size : Int) ≤ 34) = true := decide_eq_true (by omega)
        have HW := Lib.hid c2
        rw [decide_eq_true h4]
        clear c1 c2
        go_enter Tryz.func139, Tryz.ntmps139
        go_wp2_with (go_at_call 116; refine (HW.out _).mono ?_; rintro e w1 ⟨rfl, hb1⟩)
        go_ret
        exact ⟨ret_bool (by simp), by (repeat (first | exact .refl _ _ | assumption | refine .drew ?_ | refine balloc ?_ _ | refine bdrewN ?_ _ | refine .setCell ?_ (by simp <;> omega) _ | refine bstep ?_ (by assumption)))⟩
      · have d4 : decide ((s.size : Int) ≤ 34) = false := decide_eq_false (by omega)
        rw [decide_eq_false h4]
        clear c1 c2
        go_enter Tryz.func139, Tryz.ntmps139
        go_wp2
        go_ret
        exact ⟨rfl, by (repeat (first | exact .refl _ _ | assumption | refine .drew ?_ | refine balloc ?_ _ | refine bdrewN ?_ _ | refine .setCell ?_ (by simp <;> omega) _ | refine bstep ?_ (by assumption)))⟩
  · have d1 : decide ((2 : Int) < (s.size : Int)) = false := decide_eq_false (by omega)
    rw [decide_eq_false h1]
    simp only [Bool.false_and, Bool.false_eq_true, if_false]
    cases h3 : (s.toList == [42])
    · have HW := Lib.hid c1
      clear c1 c2
      go_enter Tryz.func139, Tryz.ntmps139
      go_wp2_with (go_at_call 116; refine (HW.out _).mono ?_; rintro e w1 ⟨rfl, hb1⟩)
      go_ret
      exact ⟨ret_bool (by simp), by (repeat (first | exact .refl _ _ | assumption | refine .drew ?_ | refine balloc ?_ _ | refine bdrewN ?_ _ | refine .setCell ?_ (by simp <;> omega) _ | refine bstep ?_ (by assumption)))⟩
    · clear c1 c2
      go_enter Tryz.func139, Tryz.ntmps139
      go_wp2
      go_ret
      exact ⟨rfl, by (repeat (first | exact .refl _ _ | assumption | refine .drew ?_ | refine balloc ?_ _ | refine bdrewN ?_ _ | refine .setCell ?_ (by simp <;> omega) _ | refine bstep ?_ (by assumption)))⟩
end Go.Proofs.YtocgkpdolgnbgaaGreatDoor
namespace Go.Proofs.YtocgkpdolgnbgaaGreatDoor
open Go.RowKit Go.Sort
set_option linter.unusedVariables false
set_option linter.unusedSimpArgs false
set_option maxRecDepth 100000
def strP (p : Part) : ByteArray := stringP p.kind p.text
theorem sufB_word {s : ByteArray} (h : isWordB s = true) : sufB s = false := by
  have h42 := (word_no h).2.2.2.2.1
  unfold sufB
  rw [Bool.and_eq_false_iff]
  right
  rw [beq_eq_false_iff_ne]
  intro e
  exact h42 (List.mem_of_mem_head? (by rw [e]; rfl))
theorem ends_star {p t : ByteArray} (w : ByteArray) (h : p.data.toList = 42 :: t.data.toList) : endsB p w = (decide (t.size < w.size) && Lib.hasSuffix w.data.toList t.data.toList) := by
  have hz : p.size = t.size + 1 := by rw [size_data, h, size_data]; rfl
  have e : p.extract 1 p.size = t := bytes_ext (by rw [extract_data, h]; rfl)
  unfold endsB
  rw [e, hz, hasSuffix_if, Nat.add_sub_cancel]
  by_cases hl : t.size < w.size
  · rw [decide_eq_true hl, decide_eq_true (show t.size ≤ w.size by omega), Bool.true_and, Bool.true_and]
  · rw [decide_eq_false hl, Bool.false_and, Bool.false_and]
theorem toList_eq (a b : ByteArray) : (a.toList == b.toList) = (a.data.toList == b.data.toList) := by rw [Lib.toList_data, Lib.toList_data]
theorem word_star {w : ByteArray} (h : isWordB w = true) (l : List UInt8) : w.data.toList ≠ 42 :: l := fun e => (word_no h).2.2.2.2.1 (by rw [e]; simp)
theorem fit_end {p : Part} (h : p.kind = 1 ∧ ∃ s : ByteArray, isWordB s = true ∧ s.size ≤ 32 ∧ p.text.data.toList = 46 :: s.data.toList) : p.text.data.toList ≠ [] ∧ 1 ≤ p.text.size := by
  obtain ⟨_, s, _, _, h⟩ := h
  rw [size_data, h]
  exact ⟨by simp, by simp⟩
theorem str0 {p : Part} (h : p.kind = 0) : strP p = p.text := by unfold strP stringP; rw [if_pos h]
theorem str_star {p : Part} (h : p.kind ≠ 0) : (strP p).data.toList = 42 :: p.text.data.toList := by
  unfold strP; rw [str_data, if_neg h]
theorem suf_star {p : Part} (h : p.kind ≠ 0) (hz : 1 ≤ p.text.size) : sufB (strP p) = true := by
  unfold sufB
  have e := str_star h
  rw [size_data, e]
  rw [size_data] at hz
  rw [decide_eq_true (show 1 < (42 :: p.text.data.toList).length by simp only [List.length_cons]; omega)]
  rfl
theorem mtch_has {p : Part} (hp : PartFit p) {w : ByteArray} (hw : isWordB w = true) : mtchB (strP p) w = hasP p.kind p.text w := by
  unfold mtchB
  rcases hp with ⟨hk, ht⟩ | h1 | ⟨hk, ht⟩
  · rw [str0 hk, sufB_word ht, toList_eq, hk]
    have h42 : (p.text.toList == [42]) = false := by
      rw [Lib.toList_data, beq_eq_false_iff_ne]; exact word_star ht []
    rw [h42, Bool.false_or, Bool.false_and, Bool.or_false]
    unfold hasP
    rw [if_pos rfl, toList_eq]
  · obtain ⟨hne, hz⟩ := fit_end h1
    have hk := h1.1
    have e := str_star (p := p) (by omega)
    have h42 : ((strP p).toList == [42]) = false := by
      rw [Lib.toList_data, e, beq_eq_false_iff_ne]
      intro h; injection h with _ h; exact hne h
    have h43 : ((strP p).toList == w.toList) = false := by
      rw [toList_eq, e, beq_eq_false_iff_ne]
      exact fun h => word_star hw _ h.symm
    rw [h42, h43, suf_star (by omega) hz, ends_star w e, hk]
    simp only [Bool.false_or, Bool.true_and]
    unfold hasP
    rw [if_neg (by decide), if_pos rfl]
  · have e := str_star (p := p) (by omega)
    rw [hk, ht, has2, Lib.toList_data, e, ht]
    rfl
theorem part_ok (s : ByteArray) : partR s = partOkB s := by
  unfold partR partOkB
  have hx : ((s.extract 0 2).toList == [42, 46]) = Lib.hasPrefix s.data.toList [42, 46] := by
    rw [Lib.toList_data, Lib.extract_data]
    unfold Lib.hasPrefix
    rw [Bool.eq_iff_iff, beq_iff_eq, List.isPrefixOf_iff_prefix]
    constructor
    · intro h
      refine ⟨s.data.toList.drop 2, ?_⟩
      rw [← h]
      simp
    · rintro ⟨r, h⟩
      rw [← h]; simp
  rw [hx]
  cases hp : Lib.hasPrefix s.data.toList [42, 46]
  · simp
  · obtain ⟨r, hr⟩ := prefix_two hp
    have e : (s.extract 2 s.size).data.toList = r := by rw [extract_data, hr]; rfl
    have hz : s.size = r.length + 2 := by rw [size_data, hr]; rfl
    have h42 : (s.toList == [42]) = false := by rw [Lib.toList_data, hr, beq_eq_false_iff_ne]; simp
    have hw : isWordB s = false := by
      cases h : isWordB s
      · rfl
      · exact absurd hr (word_star h _)
    rw [h42, hw]
    simp only [Bool.and_true, Bool.false_or, Bool.and_true]
    by_cases h2 : 2 < s.size
    · rw [if_pos (by simpa using h2)]
    · rw [if_neg (by simpa using h2)]
      have : isWordB (s.extract 2 s.size) = false := by
        cases h : isWordB (s.extract 2 s.size)
        · rfl
        · have := (word_ne h).1
          rw [e] at this
          exact absurd (List.eq_nil_of_length_eq_zero (by omega)) this
      rw [this, Bool.and_false]
end Go.Proofs.YtocgkpdolgnbgaaGreatDoor
namespace Go.Proofs.YtocgkpdolgnbgaaGreatDoor
open Go.RowKit Go.Sort
set_option linter.unusedVariables false
set_option linter.unusedSimpArgs false
set_option maxRecDepth 100000
def leS (s x : ByteArray) : Bool := Op.bytesLess s.toList x.toList || s.toList == x.toList
theorem foldl_take {α β : Type} (f : β → α → β) (b : β) {l : List α} {k : Nat} {x : α} (hx : l[k]? = some x) : (l.take (k + 1)).foldl f b = f ((l.take k).foldl f b) x := by
  rw [List.take_add_one, hx]; simp
end Go.Proofs.YtocgkpdolgnbgaaGreatDoor
namespace Go.Proofs.YtocgkpdolgnbgaaGreatDoor
open Go.RowKit Go.Sort
set_option linter.unusedVariables false
set_option linter.unusedSimpArgs false
set_option maxRecDepth 100000
def joinB (l : List ByteArray) (k : Nat) : ByteArray := toB (Lib.join ((lists l).take k) [44])
theorem joinB_first (l : List ByteArray) (x : ByteArray) (h : l[0]? = some x) : joinB l 1 = x := by
  cases l with
  | nil => cases h
  | cons y r =>
    simp only [List.getElem?_cons_zero, Option.some.injEq] at h
    subst h
    simp only [joinB, lists, List.map_cons, List.take_succ_cons, List.take_zero, Lib.join_one]
    exact bytes_ext (by simp [toB])
theorem joinB_step (l : List ByteArray) (k : Nat) (x : ByteArray) (hk : k ≠ 0) (h : l[k]? = some x) : joinB l k ++ ⟨#[44]⟩ ++ x = joinB l (k + 1) := by
  cases l with
  | nil => cases h
  | cons y r =>
    obtain ⟨j, rfl⟩ : ∃ j, k = j + 1 := ⟨k - 1, by omega⟩
    rw [List.getElem?_cons_succ] at h
    simp only [joinB, lists, List.map_cons, List.take_succ_cons, Lib.join_cons]
    rw [Lib.joinTail_take_succ [44] (r.map (·.data.toList)) j x.data.toList (by rw [List.getElem?_map, h]; rfl)]
    exact bytes_ext (by simp [toB])
theorem joinB_le (l : List ByteArray) (k : Nat) : (joinB l k).size ≤ (Lib.join (lists l) [44]).length := by
  rw [joinB, toB_size]
  cases l with
  | nil => simp [lists]
  | cons y r =>
    cases k with
    | zero => simp [Lib.join_nil]
    | succ j =>
      simp only [lists, List.map_cons, List.take_succ_cons, Lib.join_cons, List.length_append]
      have := Lib.joinTail_take_le [44] (r.map (·.data.toList)) j
      omega
theorem joinB_all (l : List ByteArray) : joinB l l.length = toB (Lib.join (lists l) [44]) := by
  rw [joinB, List.take_of_length_le (by simp [lists])]
end Go.Proofs.YtocgkpdolgnbgaaGreatDoor
namespace Go.Proofs.YtocgkpdolgnbgaaGreatDoor
open Go.RowKit Go.Sort
set_option linter.unusedVariables false
set_option linter.unusedSimpArgs false
set_option maxRecDepth 100000
def ResBox (w : World) (g : Nat) (s : ByteArray) (e : Int) : Prop := Blk w g 157 #[.string s, .int .i64 e] (0, 0)
theorem blk_free0 {w : World} {g : Nat} {t : TypeId} {cs : Array Value} (h : Blk w g t cs (0, 0)) (i : Nat) : w.frozen? ⟨g, i, none⟩ = false := by
  unfold Blk at h
  simp [World.frozen?, h]
theorem ResBox.facts {w : World} {g : Nat} {s : ByteArray} {e : Int} (h : ResBox w g s e) : w.cell? ⟨g, 0, none⟩ = some (.string s) ∧ w.cell? ⟨g, 1, none⟩ = some (.int .i64 e) ∧ w.frozen? ⟨g, 0, none⟩ = false ∧ w.frozen? ⟨g, 1, none⟩ = false :=
  ⟨Blk.cell h 0, Blk.cell h 1, blk_free0 h 0, blk_free0 h 1⟩
end Go.Proofs.YtocgkpdolgnbgaaGreatDoor
namespace Go.Proofs.YtocgkpdolgnbgaaGreatDoor
open Go.RowKit Go.Sort
set_option linter.unusedVariables false
set_option linter.unusedSimpArgs false
set_option maxRecDepth 100000
def PatBox (w : World) (g : Nat) (c : ByteArray) (v : Value) (b : Bool) : Prop := Blk w g 138 #[.string c, v, .bool b] (0, 0)
theorem PatBox.facts {w : World} {g : Nat} {c : ByteArray} {v : Value} {b : Bool} (h : PatBox w g c v b) :
    w.cell? ⟨g, 0, none⟩ = some (.string c) ∧ w.cell? ⟨g, 1, none⟩ = some v ∧ w.cell? ⟨g, 2, none⟩ = some (.bool b) ∧ w.frozen? ⟨g, 0, none⟩ = false ∧ w.frozen? ⟨g, 1, none⟩ = false ∧ w.frozen? ⟨g, 2, none⟩ = false :=
  ⟨Blk.cell h 0, Blk.cell h 1, Blk.cell h 2, blk_free0 h 0, blk_free0 h 1, blk_free0 h 2⟩
def RCompPost (r : Option Pat) (w : World) (e : Ending) (w' : World) : Prop :=
  Below w.heap.size w w' ∧ match r with
  | none => e = .returned (.tuple #[.agg #[.string ⟨#[]⟩, .slice none 0 0, .bool false], .bool false])
  | some x => ∃ A c, e = .returned (.tuple #[.agg #[.string (strP x.cust), .slice A x.parts.length c, .bool x.tail], .bool true]) ∧ Reads w' 1 A x.parts.length ((strL x.parts).map .string)
theorem strL_snoc (acc : List Part) (w : ByteArray) (h : partOkB w = true) : strL (acc ++ [partOfP w]) = strL acc ++ [w] := by
  unfold strL
  rw [List.map_append, List.map_singleton, str_part h]
set_option maxHeartbeats 4000000 in
theorem rCompile_any (s : ByteArray) (w : World) (hs : s.size ≤ 100000) : Calls Tryz.prog 105 #[.string s] w (RCompPost (compileB s) w) := by
  have cS := fun W => rSplit_any s 47 W (by omega)
  have hsz := splitB_size 47 s
  have hnum := splitB_num 47 s
  have hne : splitB 47 s ≠ [] := by
    intro h
    have := congrArg List.length h
    unfold splitB at this
    rw [List.length_map] at this
    exact splitL_ne 47 s.data.toList (List.eq_nil_of_length_eq_zero this)
  unfold compileB
  generalize splitB 47 s = l at *
  obtain ⟨l0, r, rfl⟩ := List.exists_cons_of_ne_nil hne
  have hl0 : l0.size ≤ 100000 := Nat.le_trans (hsz l0 (by simp)) hs
  have cN := fun W => rName_any l0 W (by omega)
  obtain ⟨m, hm⟩ : ∃ m, m = r.length := ⟨_, rfl⟩
  have HS : Hid (∀ W, Calls Tryz.prog 138 #[.string s, .int .u8 47] W (fun e w' => ∃ A c, e = .returned (.slice A (m + 1) c) ∧ w'.ownsRow W.heap.size 9 1 (.slice A (m + 1) c) (m + 1) ((l0 :: r).map .string) ∧ Below W.heap.size W w')) := Lib.hid (by rw [hm]; exact cS)
  have HN := Lib.hid cN
  have HM := Lib.hid hm
  have hm9 : m ≤ 100001 := by rw [hm]; simp at hnum; omega
  have hv : compL (l0 :: r) = if decide (m ≤ 32) && headOkB l0 then (cmpL r []).map fun x => ⟨partOfP l0, x.1, x.2⟩ else none := by rw [compL_cons, hm]
  have hn0 : (0 : Int) < (m : Int) + 1 := by omega
  generalize hV : RCompPost (compL (l0 :: r)) w = V
  have HV := Lib.hid hV
  have HSZ : Hid (∀ p ∈ r, p.size ≤ 100000) := Lib.hid (fun p hp => Nat.le_trans (hsz p (by simp [hp])) hs)
  obtain ⟨i0, hi0, hz0, hz1, hz2⟩ := info_parts infoStr
  have HI : Hid ((Tryz.prog.info? 9 = some i0) ∧ i0.zero = some (.string ⟨#[]⟩) ∧ i0.size = 1 ∧ i0.bytes = 16) := Lib.hid ⟨hi0, hz0, hz1, hz2⟩
  clear hne cS cN hm hsz hnum hV hi0 hz0 hz1 hz2
  cases hho : headOkB l0
  · have HNO : Hid (compL (l0 :: r) = none) := Lib.hid (by rw [hv, hho]; simp)
    unfold headOkB at hho
    simp only [Bool.or_eq_false_iff] at hho
    obtain ⟨h1, h2⟩ := hho
    have h1' : ¬ l0.toList = [42] := by simpa using h1
    rw [h2] at HN
    clear h2 hv
    go_enter Tryz.func105, Tryz.ntmps105
    go_wp2_with (first | (go_at_call 138; refine (HS.out _).mono ?_; rintro e w1 ⟨A, c, rfl, hown, hb1⟩; have hX1 : PatBox w1 w.heap.size ⟨#[]⟩ (.slice none 0 0) false := Blk.keep (World.alloc_heap_new _ _) hb1; obtain ⟨pb, po, u, rfl, hu, g0⟩ := (Reads.of_own hown).at_ (k := 0) (by omega); (obtain rfl : u = .string l0 := (by simpa using hu.symm)); clear hu; have gg : w1.cell? ⟨pb, po, none⟩ = some (.string l0) := g0; clear g0; have hR1 := Reads.of_own hown; clear hown; obtain ⟨x0, x1, x2, f0, f1, f2⟩ := hX1.facts; have hz1 : w.heap.size < w1.heap.size := Blk.lt hX1) | (go_at_call 76; refine (HN.out _).mono ?_; rintro e w2 ⟨rfl, hb2⟩; have hX2 : PatBox w2 w.heap.size ⟨#[]⟩ (.slice none 0 0) false := Blk.keep hX1 hb2; have gg2 := cell_keep hb2 gg; have hR2 := hR1.keep hb2; clear x0 x1 x2 f0 f1 f2; obtain ⟨x0, x1, x2, f0, f1, f2⟩ := hX2.facts; have hz2 : w.heap.size < w2.heap.size := Blk.lt hX2))
    rw [← HV.out, HNO.out]
    exact bodyPost_ret (v := .tuple #[.agg #[.string ⟨#[]⟩, .slice none 0 0, .bool false], .bool false]) (by simp [results, Tryz.results105, go_sem, hz2, x0, x1, x2, f0, f1, f2]) rfl ⟨by (repeat (first | exact .refl _ _ | assumption | refine .drew ?_ | refine balloc ?_ _ | refine bdrewN ?_ _ | refine .setCell ?_ (by simp <;> omega) _ | refine bstep ?_ (by assumption))), rfl⟩
  have hho2 : ((l0.toList == [42]) = true ∧ l0.toList = [42]) ∨ ((l0.toList == [42]) = false ∧ ¬ l0.toList = [42] ∧ isNameB l0 = true) := by
    have hho' := hho
    unfold headOkB at hho'
    cases h : (l0.toList == [42])
    · right; exact ⟨rfl, by simpa using h, by simpa [h] using hho'⟩
    · left; exact ⟨rfl, by simpa using h⟩
  by_cases hbig : m ≤ 32
  rotate_left
  · have HNO : Hid (compL (l0 :: r) = none) := Lib.hid (by rw [hv]; simp [hbig])
    have hd : decide ((32 : Int) < (m : Int)) = true := by simp; omega
    clear hv hho
    rcases hho2 with ⟨h1, h1'⟩ | ⟨h1, h1', h2⟩
    · go_enter Tryz.func105, Tryz.ntmps105
      go_wp2_with (first | (go_at_call 138; refine (HS.out _).mono ?_; rintro e w1 ⟨A, c, rfl, hown, hb1⟩; have hX1 : PatBox w1 w.heap.size ⟨#[]⟩ (.slice none 0 0) false := Blk.keep (World.alloc_heap_new _ _) hb1; obtain ⟨pb, po, u, rfl, hu, g0⟩ := (Reads.of_own hown).at_ (k := 0) (by omega); (obtain rfl : u = .string l0 := (by simpa using hu.symm)); clear hu; have gg : w1.cell? ⟨pb, po, none⟩ = some (.string l0) := g0; clear g0; have hR1 := Reads.of_own hown; clear hown; obtain ⟨x0, x1, x2, f0, f1, f2⟩ := hX1.facts; have hz1 : w.heap.size < w1.heap.size := Blk.lt hX1) | (go_at_call 76; refine (HN.out _).mono ?_; rintro e w2 ⟨rfl, hb2⟩; have hX2 : PatBox w2 w.heap.size ⟨#[]⟩ (.slice none 0 0) false := Blk.keep hX1 hb2; have gg2 := cell_keep hb2 gg; have hR2 := hR1.keep hb2; clear x0 x1 x2 f0 f1 f2; obtain ⟨x0, x1, x2, f0, f1, f2⟩ := hX2.facts; have hz2 : w.heap.size < w2.heap.size := Blk.lt hX2))
      rw [← HV.out, HNO.out]
      exact bodyPost_ret (v := .tuple #[.agg #[.string ⟨#[]⟩, .slice none 0 0, .bool false], .bool false]) (by simp [results, Tryz.results105, go_sem, hz1, x0, x1, x2, f0, f1, f2]) rfl ⟨by (repeat (first | exact .refl _ _ | assumption | refine .drew ?_ | refine balloc ?_ _ | refine bdrewN ?_ _ | refine .setCell ?_ (by simp <;> omega) _ | refine bstep ?_ (by assumption))), rfl⟩
    · rw [h2] at HN
      go_enter Tryz.func105, Tryz.ntmps105
      go_wp2_with (first | (go_at_call 138; refine (HS.out _).mono ?_; rintro e w1 ⟨A, c, rfl, hown, hb1⟩; have hX1 : PatBox w1 w.heap.size ⟨#[]⟩ (.slice none 0 0) false := Blk.keep (World.alloc_heap_new _ _) hb1; obtain ⟨pb, po, u, rfl, hu, g0⟩ := (Reads.of_own hown).at_ (k := 0) (by omega); (obtain rfl : u = .string l0 := (by simpa using hu.symm)); clear hu; have gg : w1.cell? ⟨pb, po, none⟩ = some (.string l0) := g0; clear g0; have hR1 := Reads.of_own hown; clear hown; obtain ⟨x0, x1, x2, f0, f1, f2⟩ := hX1.facts; have hz1 : w.heap.size < w1.heap.size := Blk.lt hX1) | (go_at_call 76; refine (HN.out _).mono ?_; rintro e w2 ⟨rfl, hb2⟩; have hX2 : PatBox w2 w.heap.size ⟨#[]⟩ (.slice none 0 0) false := Blk.keep hX1 hb2; have gg2 := cell_keep hb2 gg; have hR2 := hR1.keep hb2; clear x0 x1 x2 f0 f1 f2; obtain ⟨x0, x1, x2, f0, f1, f2⟩ := hX2.facts; have hz2 : w.heap.size < w2.heap.size := Blk.lt hX2))
      rw [← HV.out, HNO.out]
      exact bodyPost_ret (v := .tuple #[.agg #[.string ⟨#[]⟩, .slice none 0 0, .bool false], .bool false]) (by simp [results, Tryz.results105, go_sem, hz2, x0, x1, x2, f0, f1, f2]) rfl ⟨by (repeat (first | exact .refl _ _ | assumption | refine .drew ?_ | refine balloc ?_ _ | refine bdrewN ?_ _ | refine .setCell ?_ (by simp <;> omega) _ | refine bstep ?_ (by assumption))), rfl⟩
  have hd : decide ((32 : Int) < (m : Int)) = false := by simp; omega
  have hv2 : compL (l0 :: r) = (cmpL r []).map fun x => ⟨partOfP l0, x.1, x.2⟩ := by rw [hv, hho]; simp [hbig]
  have hst : strP (partOfP l0) = l0 := str_head hho
  have HV2 := Lib.hid hv2
  have HST := Lib.hid hst
  clear hv hho hv2 hst
  rcases hho2 with ⟨h1, h1'⟩ | ⟨h1, h1', h2⟩
  rotate_left
  rw [h2] at HN; clear h2
  rotate_left
  all_goals
    go_enter Tryz.func105, Tryz.ntmps105
    go_wp2_with (first | (go_at_call 138; refine (HS.out _).mono ?_; rintro e w1 ⟨A, c, rfl, hown, hb1⟩; have hX1 : PatBox w1 w.heap.size ⟨#[]⟩ (.slice none 0 0) false := Blk.keep (World.alloc_heap_new _ _) hb1; obtain ⟨pb, po, u, rfl, hu, g0⟩ := (Reads.of_own hown).at_ (k := 0) (by omega); (obtain rfl : u = .string l0 := (by simpa using hu.symm)); clear hu; have gg : w1.cell? ⟨pb, po, none⟩ = some (.string l0) := g0; clear g0; have hR1 := Reads.of_own hown; clear hown; obtain ⟨x0, x1, x2, f0, f1, f2⟩ := hX1.facts; have hz1 : w.heap.size < w1.heap.size := Blk.lt hX1) | (go_at_call 76; refine (HN.out _).mono ?_; rintro e w2 ⟨rfl, hb2⟩; have hX2 : PatBox w2 w.heap.size ⟨#[]⟩ (.slice none 0 0) false := Blk.keep hX1 hb2; have gg2 := cell_keep hb2 gg; have hR2 := hR1.keep hb2; clear x0 x1 x2 f0 f1 f2; obtain ⟨x0, x1, x2, f0, f1, f2⟩ := hX2.facts; have hz2 : w.heap.size < w2.heap.size := Blk.lt hX2))
  rotate_left
  have hX1' := hX2
  have hbA : Below w.heap.size w w2 := by (repeat (first | exact .refl _ _ | assumption | refine .drew ?_ | refine balloc ?_ _ | refine bdrewN ?_ _ | refine .setCell ?_ (by simp <;> omega) _ | refine bstep ?_ (by assumption)))
  clear hX1 hR1 gg hb1 hb2
  rotate_left
  obtain ⟨w2, rfl⟩ : ∃ x : World, x = w1 := ⟨_, rfl⟩
  have hX1' := hX1
  have hR2 := hR1
  have gg2 := gg
  have hz2 := hz1
  have hbA : Below w.heap.size w w2 := by (repeat (first | exact .refl _ _ | assumption | refine .drew ?_ | refine balloc ?_ _ | refine bdrewN ?_ _ | refine .setCell ?_ (by simp <;> omega) _ | refine bstep ?_ (by assumption)))
  clear hX1 hR1 gg hb1
  all_goals
    clear x0 x1 x2 f0 f1 f2
    have HRd := Lib.hid hR2
    have hpb : pb < w2.heap.size := cell_lt gg2
    have hB0 : PatBox (w2.alloc (.cells #[.string l0, .slice none 0 0, .bool false] 138)) w2.heap.size l0 (.slice none 0 0) false := World.alloc_heap_new _ _
    have hP0 : PatBox (w2.alloc (.cells #[.string l0, .slice none 0 0, .bool false] 138)) w.heap.size ⟨#[]⟩ (.slice none 0 0) false := (Below.heap_alloc _ _ _ hz2).trans hX1'
    clear hR2 gg2 hX1'
    go_loopw [6] (fun vi wr => ∃ (k : Nat) (acc : List Part) (A' : Option Addr) (c' : Nat) (tl : Bool), (vi = .int .i64 ((k : Int) + 1) ∧ k ≤ m ∧ acc.length ≤ k) ∧ Hid (CmpI r k acc tl) ∧ PatBox wr w2.heap.size l0 (.slice A' acc.length c') tl ∧ PatBox wr w.heap.size ⟨#[]⟩ (.slice none 0 0) false ∧
        wr.ownsRow (w2.heap.size + 1) 9 1 (.slice A' acc.length c') acc.length ((strL acc).map .string) ∧ Below w.heap.size w wr ∧ (∀ j, j < w2.heap.size → wr.heap[j]? = w2.heap[j]?) ∧ w2.heap.size + 1 ≤ wr.heap.size) (fun vi _ => m + 1 - (intOf vi).toNat)
    case atStart => exact ⟨0, [], none, 0, false, ⟨rfl, Nat.zero_le _, Nat.le_refl _⟩, Lib.hid (.inl ⟨rfl, by simp⟩), hB0, hP0, World.ownsRow_nil _ _ _ _, by (repeat (first | exact .refl _ _ | assumption | refine .drew ?_ | refine balloc ?_ _ | refine bdrewN ?_ _ | refine .setCell ?_ (by simp <;> omega) _ | refine bstep ?_ (by assumption))), fun j hj => Below.heap_alloc _ _ _ hj, by simp⟩
    case round =>
      clear hB0 hP0
      obtain ⟨k, acc, A', c', tl, ⟨rfl, hk, hak⟩, HC, hB, hP, hown, hbw, hFr, hzr⟩ := hrel
      obtain ⟨x0, x1, x2, f0, f1, f2⟩ := hP.facts
      obtain ⟨y0, y1, y2, g0, g1, g2⟩ := hB.facts
      by_cases hlt : k < m
      · obtain ⟨p, hp⟩ : ∃ p, r[k]? = some p := ⟨_, List.getElem?_eq_getElem (by have := HM.out; omega)⟩
        have hps := HSZ.out p (List.mem_of_getElem? hp)
        have hcell : wr.cell? ⟨pb, po + (k + 1), none⟩ = some (.string p) := by
          obtain ⟨b', o', e', hc'⟩ := HRd.out.2 (by omega)
          injection e' with e'; injection e' with e1 e2; subst e1; subst e2
          have := hc' (k + 1) (.string p) (by simp [hp])
          exact (World.cell?_of_block (hFr pb hpb)).trans this
        obtain ⟨rfl, hcmp⟩ : tl = false ∧ cmpL r [] = cmpL (r.drop k) acc := by
          rcases HC.out with h | ⟨_, h, _⟩
          · exact h
          · exfalso; have := HM.out; omega
        have hd2 : r.drop k = p :: r.drop (k + 1) := by
          obtain ⟨hl2, rfl⟩ := List.getElem?_eq_some_iff.1 hp
          exact List.drop_eq_getElem_cons hl2
        rw [hd2, cmpL] at hcmp
        have hemp : (r.drop (k + 1)).isEmpty = decide (k + 1 = m) := by
          have := HM.out
          by_cases h : k + 1 = m
          · rw [List.drop_eq_nil_of_le (by omega)]; simp [h]
          · simp [h]; omega
        rw [hemp] at hcmp
        have hk0 : (0 : Int) ≤ (k : Int) + 1 := by omega
        have hkm : (k : Int) + 1 < (m : Int) + 1 := by omega
        clear hd2 hemp hp HC HRd
        have cP := fun W => rPart_any p W (by omega)
        rw [part_ok] at cP
        cases h2s : (p.toList == [42, 42])
        · simp only [h2s, Bool.false_and, Bool.false_eq_true, if_false] at hcmp
          cases hok : partOkB p
          · have HNO : Hid (cmpL r [] = none) := Lib.hid (by rw [hcmp, hok]; rfl)
            rw [hok] at cP
            have HP := Lib.hid cP
            clear hcmp cP hok
            go_wp2_with (go_at_call 139; refine (HP.out _).mono ?_; rintro e w4 ⟨rfl, hb4⟩; have hP4 : PatBox w4 w.heap.size ⟨#[]⟩ (.slice none 0 0) false := Blk.keep hP hb4; have hB4 : PatBox w4 w2.heap.size l0 (.slice A' acc.length c') false := Blk.keep hB hb4; have hown4 := ownsRow_keep hown hb4; have hbw4 := bstep hbw hb4; have hFr4 : ∀ j, j < w2.heap.size → w4.heap[j]? = w2.heap[j]? := (fun j q1 => (hb4.block j (by omega)).trans (hFr j q1)); have hzr4 : w2.heap.size + 1 ≤ w4.heap.size := Nat.le_trans hzr hb4.size; have hcell4 := cell_keep hb4 hcell; clear x0 x1 x2 f0 f1 f2 y0 y1 y2 g0 g1 g2; obtain ⟨x0, x1, x2, f0, f1, f2⟩ := hP4.facts; obtain ⟨y0, y1, y2, g0, g1, g2⟩ := hB4.facts)
            rw [← HV.out, HV2.out, HNO.out]
            exact bodyPost_ret (v := .tuple #[.agg #[.string ⟨#[]⟩, .slice none 0 0, .bool false], .bool false]) (by simp [results, Tryz.results105, go_sem, hz2, x0, x1, x2, f0, f1, f2]) rfl ⟨by (repeat (first | exact .refl _ _ | assumption | refine .drew ?_ | refine balloc ?_ _ | refine bdrewN ?_ _ | refine .setCell ?_ (by simp <;> omega) _ | refine bstep ?_ (by assumption))), rfl⟩
          · have HSO : Hid (cmpL r [] = cmpL (r.drop (k + 1)) (acc ++ [partOfP p])) := Lib.hid (by rw [hcmp, hok]; rfl)
            have HSL := Lib.hid (strL_snoc acc p hok)
            rw [hok] at cP
            have HP := Lib.hid cP
            clear hcmp cP hok
            go_wp2_with (go_at_call 139; refine (HP.out _).mono ?_; rintro e w4 ⟨rfl, hb4⟩; have hP4 : PatBox w4 w.heap.size ⟨#[]⟩ (.slice none 0 0) false := Blk.keep hP hb4; have hB4 : PatBox w4 w2.heap.size l0 (.slice A' acc.length c') false := Blk.keep hB hb4; have hown4 := ownsRow_keep hown hb4; have hbw4 := bstep hbw hb4; have hFr4 : ∀ j, j < w2.heap.size → w4.heap[j]? = w2.heap[j]? := (fun j q1 => (hb4.block j (by omega)).trans (hFr j q1)); have hzr4 : w2.heap.size + 1 ≤ w4.heap.size := Nat.le_trans hzr hb4.size; have hcell4 := cell_keep hb4 hcell; clear x0 x1 x2 f0 f1 f2 y0 y1 y2 g0 g1 g2; obtain ⟨x0, x1, x2, f0, f1, f2⟩ := hP4.facts; obtain ⟨y0, y1, y2, g0, g1, g2⟩ := hB4.facts)
            have hown4d : w4.drew.ownsRow (w2.heap.size + 1) 9 1 (.slice A' acc.length c') acc.length ((strL acc).map .string) := hown4
            have y1d : w4.drew.cell? ⟨w2.heap.size, 1, none⟩ = some (.slice A' acc.length c') := y1
            have hcd : w4.drew.cell? ⟨pb, po + (k + 1), none⟩ = some (.string p) := hcell4
            have hzz : w2.heap.size < w4.heap.size := by omega
            have hzp : pb < w4.heap.size := by omega
            have y1e : (w4.alloc (.cells #[.string p] 9)).cell? ⟨w2.heap.size, 1, none⟩ = some (.slice A' acc.length c') := (World.cell?_of_block (Below.heap_alloc w4 _ _ hzz)).trans y1
            go_region_law ((refine step_append_lies _ (by rfl) _ _ _ (by rfl) (w2.heap.size + 1) 9 i0 (.string ⟨#[]⟩) 1 16 Tryz.underlying22 HI.out.1 HI.out.2.1 HI.out.2.2.1 HI.out.2.2.2 (by rfl) (by omega) (.slice A' acc.length c') acc.length ((strL acc).map .string) (by rfl) (hown4d.alloc _) ⟨w4.heap.size, 0, none⟩ 1 1 [.string p] (by rfl) (by rfl) (World.news_of_block (cs := #[.string p]) (t := 9) (fr := (0, 0)) (World.alloc_heap_new w4.drew _)) (by simp [Value.oneCell']) (by omega) (by unfold maxLen; omega) (by omega) (by simp; omega) (w4.heap.size + 1) (by simp) ?_; intro gg cap w7 hown7 hgrow hat hlt7; have hB7 : PatBox w7 w2.heap.size l0 (.slice A' acc.length c') false := (hgrow.block w2.heap.size (by simp; omega) (fun e => by have := ownsRow_block hown4 _ e.symm; omega)).trans ((Below.heap_alloc w4.drew _ w2.heap.size (show w2.heap.size < w4.heap.size by omega)).trans hB4); clear y0 y1 y2 g0 g1 g2; obtain ⟨y0, y1, y2, g0, g1, g2⟩ := hB7.facts))
            all_goals go_wp2
            all_goals
              have hal : (acc ++ [partOfP p]).length = acc.length + 1 := by simp
              have hb7 : Below w.heap.size w w7 := ((Below.drew hbw4).alloc hbw4.size _).grown hgrow (by have := hbw4.size; simp; omega) (fun r e => by have := ownsRow_block hown4 r e; omega)
              have hP7 : PatBox w7 w.heap.size ⟨#[]⟩ (.slice none 0 0) false := (hgrow.block w.heap.size (by simp; omega) (fun e => by have := ownsRow_block hown4 _ e.symm; omega)).trans ((Below.heap_alloc w4.drew _ _ (show w.heap.size < w4.heap.size by omega)).trans hP4)
              refine ⟨⟨k + 1, acc ++ [partOfP p], some ⟨gg, 0, none⟩, cap, false, ⟨by go_num, by omega, by simp; omega⟩, Lib.hid (.inl ⟨rfl, HSO.out⟩), by rw [hal]; exact Blk.set_ hB7 1 _, (Below.heap_setCell _ _ _ _ (by simp; omega)).trans hP7, by rw [hal, HSL.out, List.map_append]; exact ownsRow_same hown7 (fun j hj => Below.heap_setCell _ _ _ _ (by simp; omega)), hb7.setCell (p := ⟨w2.heap.size, 1, none⟩) (by simp; omega) _, fun j q1 => (Below.heap_setCell _ _ _ _ (by simp; omega)).trans ((hgrow.block j (by simp; omega) (fun e => by have := ownsRow_block hown4 _ e.symm; omega)).trans ((Below.heap_alloc w4.drew _ j (show j < w4.heap.size by omega)).trans (hFr4 j q1))), by have := hgrow.size; simp [World.setCell] at this ⊢; omega⟩, by simp [intOf]; omega⟩
        · obtain rfl : p = ⟨#[42, 42]⟩ := bytes_ext (by rw [← Lib.toList_data]; simpa using h2s)
          by_cases hlast : k + 1 = m
          · obtain rfl : m = k + 1 := hlast.symm
            have hlb : ((k : Int) + 1 == ((k + 1 : Nat) : Int)) = true := by simp
            rw [h2s, show decide (k + 1 = k + 1) = true by simp] at hcmp
            simp only [Bool.and_self, if_true] at hcmp
            have HH := Lib.hid hcmp
            clear hcmp cP
            go_wp2
            exact ⟨⟨k + 1, acc, A', c', true, ⟨by go_num, by omega, by omega⟩, Lib.hid (.inr ⟨rfl, HM.out, HH.out⟩), Blk.set_ hB 2 (.bool true), (Below.heap_setCell _ _ _ _ (by first | (simp; done) | (simp; omega))).trans hP, ownsRow_same hown (fun j hj => Below.heap_setCell _ _ _ _ (by first | (simp; done) | (simp; omega))), hbw.setCell (p := ⟨w2.heap.size, 2, none⟩) (by first | (simp; done) | (simp; omega)) _,
              fun j q1 => (Below.heap_setCell _ _ _ _ (by first | (simp; done) | (simp; omega))).trans (hFr j q1), by first | (simp [World.setCell]; done) | (simp [World.setCell]; omega)⟩, by simp [intOf]; omega⟩
          · have hlb : ((k : Int) + 1 == (m : Int)) = false := by simp; omega
            have HNO : Hid (cmpL r [] = none) := Lib.hid (by rw [hcmp, show decide (k + 1 = m) = false by simpa using hlast, partOk_stars]; simp)
            rw [partOk_stars] at cP
            have HP := Lib.hid cP
            clear hcmp cP
            go_wp2_with (go_at_call 139; refine (HP.out _).mono ?_; rintro e w4 ⟨rfl, hb4⟩; have hP4 : PatBox w4 w.heap.size ⟨#[]⟩ (.slice none 0 0) false := Blk.keep hP hb4; have hB4 : PatBox w4 w2.heap.size l0 (.slice A' acc.length c') false := Blk.keep hB hb4; have hown4 := ownsRow_keep hown hb4; have hbw4 := bstep hbw hb4; have hFr4 : ∀ j, j < w2.heap.size → w4.heap[j]? = w2.heap[j]? := (fun j q1 => (hb4.block j (by omega)).trans (hFr j q1)); have hzr4 : w2.heap.size + 1 ≤ w4.heap.size := Nat.le_trans hzr hb4.size; have hcell4 := cell_keep hb4 hcell; clear x0 x1 x2 f0 f1 f2 y0 y1 y2 g0 g1 g2; obtain ⟨x0, x1, x2, f0, f1, f2⟩ := hP4.facts; obtain ⟨y0, y1, y2, g0, g1, g2⟩ := hB4.facts)
            rw [← HV.out, HV2.out, HNO.out]
            exact bodyPost_ret (v := .tuple #[.agg #[.string ⟨#[]⟩, .slice none 0 0, .bool false], .bool false]) (by simp [results, Tryz.results105, go_sem, hz2, x0, x1, x2, f0, f1, f2]) rfl ⟨by (repeat (first | exact .refl _ _ | assumption | refine .drew ?_ | refine balloc ?_ _ | refine bdrewN ?_ _ | refine .setCell ?_ (by simp <;> omega) _ | refine bstep ?_ (by assumption))), rfl⟩
      · obtain rfl : k = m := by omega
        have HE : Hid (cmpL r [] = some (acc, tl)) := Lib.hid (by
          rcases HC.out with ⟨h, e⟩ | ⟨h, _, e⟩
          · rw [e, h, HM.out, List.drop_eq_nil_of_le (Nat.le_refl _), cmpL]
          · rw [e, h])
        have hob : ∀ a, A' = some a → a.block ≠ w.heap.size := fun a ha => by have := ownsRow_block hown a.block (by rw [ha]; rfl); omega
        have hRr := Reads.of_own hown
        clear HC
        go_wp2
        rw [← HV.out, HV2.out, HE.out]
        exact bodyPost_ret (v := .tuple #[.agg #[.string l0, .slice A' acc.length c', .bool tl], .bool true]) (by simp [results, Tryz.results105, go_sem, hz2, x0, x1, x2, f0, f1, f2]) rfl ⟨by (repeat (first | exact .refl _ _ | assumption | refine .drew ?_ | refine balloc ?_ _ | refine bdrewN ?_ _ | refine .setCell ?_ (by simp <;> omega) _ | refine bstep ?_ (by assumption))), A', c', by rw [HST.out], (((hRr.set_ _ _ hob).set_ _ _ hob).set_ _ _ hob)⟩
end Go.Proofs.YtocgkpdolgnbgaaGreatDoor
namespace Go.Proofs.YtocgkpdolgnbgaaGreatDoor
open Go.RowKit Go.Sort
set_option linter.unusedVariables false
set_option linter.unusedSimpArgs false
set_option maxRecDepth 100000
def RPathPost (r : Option (List ByteArray)) (w : World) (e : Ending) (w' : World) : Prop :=
  Below w.heap.size w w' ∧ match r with
    | none => e = .returned (.tuple #[.slice none 0 0, .bool false])
    | some out => ∃ A c, e = .returned (.tuple #[.slice A out.length c, .bool true]) ∧ Reads w' 1 A out.length (out.map .string) ∧ (∀ a, A = some a → w.heap.size ≤ a.block)
set_option maxHeartbeats 4000000 in
theorem rPath_any (A : Option Addr) (n c : Nat) (l : List ByteArray) (w : World) (hR : Reads w 1 A n (l.map .string)) (hn : n ≤ 1000000) (hsz : ∀ p ∈ l, p.size ≤ 4294967281) : Calls Tryz.prog 166 #[.slice A n c] w (RPathPost (resB [] l) w) := by
  have hl : l.length = n := by have := hR.1; simpa using this
  obtain ⟨i0, hi0, hz0, hz1, hz2⟩ := info_parts infoStr
  have HI : Hid ((Tryz.prog.info? 9 = some i0) ∧ i0.zero = some (.string ⟨#[]⟩) ∧ i0.size = 1 ∧ i0.bytes = 16) := Lib.hid ⟨hi0, hz0, hz1, hz2⟩
  have HL := Lib.hid hl
  have HR := Lib.hid hR
  have HZ := Lib.hid hsz
  generalize hV : RPathPost (resB [] l) w = V
  have HV := Lib.hid hV
  clear hi0 hz0 hz1 hz2 hl hR hsz hV
  go_enter Tryz.func166, Tryz.ntmps166
  go_wp2
  go_loopw [4, 5] (fun va vi wr => ∃ (k m : Nat) (acc : List ByteArray) (A' : Option Addr) (c' : Nat), (vi = .int .i64 k ∧ va = .slice A' m c' ∧ k ≤ n ∧ m ≤ k) ∧ Hid (resB [] l = resB acc (l.drop k) ∧ acc.length = m) ∧ wr.ownsRow w.heap.size 9 1 (.slice A' m c') m (acc.map .string) ∧ Below w.heap.size w wr) (fun _ i _ => n - (intOf i).toNat)
  case atStart => exact ⟨0, 0, [], none, 0, ⟨rfl, rfl, Nat.zero_le _, Nat.le_refl _⟩, Lib.hid ⟨rfl, rfl⟩, World.ownsRow_nil _ _ _ _, Below.refl _ _⟩
  case round =>
    obtain ⟨k, m, acc, A', c', ⟨rfl, rfl, hk, hm⟩, HK, hown, hbr⟩ := hrel
    have hbs := hbr.size
    by_cases hlt : k < n
    · obtain ⟨x, hx⟩ : ∃ x, l[k]? = some x := ⟨_, List.getElem?_eq_getElem (by have := HL.out; omega)⟩
      obtain ⟨b, o, rfl, hcell⟩ := HR.out.2 (by omega)
      have hc0 : w.cell? ⟨b, o + k, none⟩ = some (.string x) := hcell k _ (by simp [hx])
      have hc1 : wr.cell? ⟨b, o + k, none⟩ = some (.string x) := cell_keep hbr hc0
      have hk0 : (0 : Int) ≤ (k : Int) := by omega
      have hk1 : (k : Int) < (n : Int) := by omega
      have hd : l.drop k = x :: l.drop (k + 1) := by
        obtain ⟨hl2, rfl⟩ := List.getElem?_eq_some_iff.1 hx
        exact List.drop_eq_getElem_cons hl2
      have hr1 := HK.out.1
      rw [hd, resB] at hr1
      have hml := HK.out.2
      have hxs : x.size ≤ 4294967281 := HZ.out x (List.mem_of_getElem? hx)
      have cW := fun W => rWord_any x W hxs
      clear hcell hx hd HK
      cases e1 : (x.toList == [46])
      rotate_left
      · have hr2 := hr1
        simp only [resStep, e1, if_true, Option.bind_some] at hr2
        have HK2 := Lib.hid (show resB [] l = resB acc (l.drop (k + 1)) ∧ acc.length = m from ⟨hr2, hml⟩)
        clear hr1 hr2 hml cW
        go_wp2
        exact ⟨⟨k + 1, m, acc, A', c', ⟨by go_num, rfl, by omega, by omega⟩, HK2, hown, hbr⟩, by simp [intOf]; omega⟩
      have e1' : ¬ x.toList = [46] := by simpa using e1
      cases e2 : (x.toList == [46, 46])
      rotate_left
      · by_cases hm0 : m = 0
        · subst hm0
          obtain rfl : acc = [] := List.eq_nil_of_length_eq_zero hml
          have hwf : isWordB x = false := by simp [isWordB, beq_iff_eq.1 e2]
          have hn : resB [] l = none := by rw [hr1]; simp [resStep, e1, e2, hwf]
          have HN := Lib.hid hn
          clear hr1 hml cW hwf hn
          go_wp2
          rw [← HV.out, HN.out]
          exact ⟨by (repeat (first | exact .refl _ _ | assumption | refine .drew ?_ | refine balloc ?_ _ | refine bdrewN ?_ _ | refine .setCell ?_ (by simp <;> omega) _ | refine bstep ?_ (by assumption))), rfl⟩
        · obtain ⟨init, last, hacc⟩ : ∃ init last, acc = init ++ [last] := by
            rcases List.eq_nil_or_concat acc with rfl | ⟨init, last, rfl⟩
            · exact absurd hml.symm hm0
            · exact ⟨init, last, by rw [List.concat_eq_append]⟩
          subst hacc
          obtain ⟨m', rfl⟩ : ∃ m', m = m' + 1 := ⟨m - 1, by omega⟩
          have hil : init.length = m' := by simpa using hml
          have hr2 := hr1
          rw [show resStep (init ++ [last]) x = some init by simp [resStep, e1, e2], Option.bind_some] at hr2
          have HK2 := Lib.hid (show resB [] l = resB init (l.drop (k + 1)) ∧ init.length = m' from ⟨hr2, hil⟩)
          clear hr1 hr2 hml cW
          obtain ⟨g, hA⟩ : ∃ g, A' = some ⟨g, 0, none⟩ := by
            obtain ⟨g, cap, hv⟩ := ownsRow_succ hown
            injection hv with hv
            exact ⟨g, hv⟩
          subst hA
          have hpop : Hid (∀ j u, (init.map Value.string)[j]? = some u → wr.cell? ⟨g, j, none⟩ = some u) := Lib.hid fun j u hu => by
            have hjl : j < (init.map Value.string).length := (List.getElem?_eq_some_iff.1 hu).1
            rw [hown.cellAt j (by simp at hjl; omega), List.map_append, List.getElem?_append_left hjl]
            exact hu
          have hcap := ownsRow_cap hown
          have hgb := ownsRow_block hown g rfl
          have hgl : g < wr.heap.size := (hown.lt g rfl).2
          clear hown
          have hpos : ((m' : Int) + 1 == 0) = false := beq_eq_false_iff_ne.2 (by omega)
          have q1 : (0 : Int) ≤ (m' : Int) := by omega
          have hone : ∀ u ∈ init.map Value.string, u.oneCell' = true := by
            intro u hu; obtain ⟨_, _, rfl⟩ := List.mem_map.1 hu; rfl
          have hlen : (init.map Value.string).length = m' * 1 := by simp [hil]
          have hadd : ∀ j, (⟨g, 0, none⟩ : Addr).add j = ⟨g, j, none⟩ := fun j => by unfold Addr.add; split <;> simp_all
          have hnew : ∀ j u, (init.map Value.string)[j]? = some u → (wr.alloc (.cells #[] 9)).cell? ((⟨g, 0, none⟩ : Addr).add j) = some u := fun j u hu => by
            rw [hadd, World.cell?_of_block (w := wr) (Below.heap_alloc wr _ g hgl)]
            exact hpop.out j u hu
          have HN2 := Lib.hid hnew; have HO := Lib.hid hone; have HLN := Lib.hid hlen
          clear hnew hone hlen hadd
          go_wp2_with (at_builtin; refine wpList_append_own _ rfl _ _ 22 rfl w.heap.size 9 i0 (.string ⟨#[]⟩) 1 16 Tryz.underlying22 HI.out.1 HI.out.2.1 HI.out.2.2.1 HI.out.2.2.2 rfl (by decide) _ _ _ rfl (World.ownsRow_made (base := w.heap.size) (e := 9) (size := 1) wr #[] 0 hbs (Nat.zero_le _) rfl) ⟨g, 0, none⟩ m' c' (init.map .string) rfl HLN.out HN2.out HO.out (by unfold maxLen; omega) (by omega) (by simp; omega) ?_; intro v' w3 hown3 hgrow3 _)
          obtain ⟨A3, c3, rfl⟩ : ∃ A3 c3, v' = .slice A3 m' c3 := by
            rcases hown3.2 with ⟨h1, h2⟩ | ⟨g3, cap3, cur3, h1, _⟩
            · exact ⟨none, 0, by rw [h1]; congr 1; omega⟩
            · exact ⟨_, _, by rw [h1]; congr 1; omega⟩
          exact ⟨⟨k + 1, m', init, A3, c3, ⟨by go_num, rfl, by omega, by omega⟩, HK2, by simpa using hown3, (hbr.alloc hbs _).grown hgrow3 (by simp; omega) (fun r e => by injection e with e; simp at e; omega)⟩, by simp [intOf]; omega⟩
      have e2' : ¬ x.toList = [46, 46] := by simpa using e2
      cases hw : isWordB x
      · have hn : resB [] l = none := by rw [hr1]; simp [resStep, e1, e2, hw]
        rw [hw] at cW
        have HW := Lib.hid cW
        have HN := Lib.hid hn
        clear hr1 hml cW hw hn
        go_wp2_with (go_at_call 116; refine (HW.out _).mono ?_; rintro e w1 ⟨rfl, hb1⟩)
        rw [← HV.out, HN.out]
        exact ⟨by (repeat (first | exact .refl _ _ | assumption | refine .drew ?_ | refine balloc ?_ _ | refine bdrewN ?_ _ | refine .setCell ?_ (by simp <;> omega) _ | refine bstep ?_ (by assumption))), rfl⟩
      · have hr2 := hr1
        rw [show resStep acc x = some (acc ++ [x]) by simp [resStep, e1, e2, hw], Option.bind_some] at hr2
        have HK2 := Lib.hid (show resB [] l = resB (acc ++ [x]) (l.drop (k + 1)) ∧ (acc ++ [x]).length = m + 1 from ⟨hr2, by simp [hml]⟩)
        rw [hw] at cW
        have HW := Lib.hid cW
        clear hr1 hr2 hml cW hw
        go_wp2_with (first | (go_at_call 116; refine (HW.out _).mono ?_; rintro e w1 ⟨rfl, hb1⟩; have hown1 := ownsRow_keep hown hb1; have hbs1 := hb1.size; have hbw1 := bstep hbr hb1; have hc2 := cell_keep hb1 hc1; clear hown) | (at_builtin; refine wpList_append_own _ rfl _ _ 22 rfl w.heap.size 9 i0 (.string ⟨#[]⟩) 1 16 Tryz.underlying22 HI.out.1 HI.out.2.1 HI.out.2.2.1 HI.out.2.2.2 rfl (by decide) _ _ _ rfl (hown1.alloc _) ⟨w1.heap.size, 0, none⟩ 1 1 [.string x] rfl rfl (cell_one_new _ _ _) (by simp [Value.oneCell']) (by unfold maxLen; omega) (by omega) (by simp; omega) ?_; intro v' w3 hown3 hgrow3 _; obtain ⟨g1, cap1, rfl⟩ := ownsRow_succ hown3; have hb3 : Below w.heap.size w w3 := (hbw1.alloc hbw1.size _).grown hgrow3 (by simp; omega) (fun r e => ownsRow_block hown1 r e)))
        exact ⟨⟨k + 1, m + 1, acc ++ [x], some ⟨g1, 0, none⟩, cap1, ⟨by go_num, rfl, by omega, by omega⟩, HK2, by rw [List.map_append]; exact hown3, hb3⟩, by simp [intOf]; omega⟩
    · obtain rfl : k = n := by omega
      have hfin : resB [] l = some acc := by
        rw [HK.out.1, List.drop_eq_nil_of_le (by have := HL.out; omega), resB]
      have HF := Lib.hid hfin
      have hml := HK.out.2
      clear hfin HK
      go_wp2
      rw [← HV.out, HF.out]
      exact ⟨by (repeat (first | exact .refl _ _ | assumption | refine .drew ?_ | refine balloc ?_ _ | refine bdrewN ?_ _ | refine .setCell ?_ (by simp <;> omega) _ | refine bstep ?_ (by assumption))), A', c', by rw [hml]; rfl, by rw [hml]; exact Reads.of_own hown, fun a ha => by have := ownsRow_block hown a.block (by rw [ha]; rfl); omega⟩
end Go.Proofs.YtocgkpdolgnbgaaGreatDoor
