/- A padded message, by the reference. -/
import Derived.Test.YtjhlpkhfdghngaaGreatDoorXZ14
import Derived.Test.YtjhlpkhfdghngaaGreatDoorXZ12
import Derived.Test.YtjhlpkhfdghngaaGreatDoorXZ13
import Derived.Test.YtjhlpkhfdghngaaGreatDoorProg
import Derived.WalkKit
import Derived.WalkSpells
import Derived.WalkLawsBesides
import Derived.Below
import Derived.Deep.QuietTactic
import Derived.BigQuiet
import Derived.Lib.QuietBelow
import Derived.Lib.Strings
import Derived.Lib.Hide
import Derived.Deep.RegionWith
import Derived.Deep.RegionHeld3
import Derived.Lib.IndexBytes
import Derived.Test.YtjhlpkhfdghngaaGreatDoorXZ10
import Derived.Test.YtjhlpkhfdghngaaGreatDoorXZ4
namespace Go.Proofs.YtjhlpkhfdghngaaGreatDoor
open Go.RowKit Go.Sort
set_option linter.unusedVariables false
set_option linter.unusedSimpArgs false
set_option maxRecDepth 100000
theorem run_bs8 (W : World) : (Instr.buildSlice 173 0 #[]).run Tryz.prog W = .ok (.slice (some ⟨W.heap.size, 0, none⟩) 0 0) (W.alloc (.cells #[] 5)) := by kernel_rfl
set_option maxHeartbeats 8000000 in
theorem rPadded_any (A : Option Addr) (n c : Nat) (m : List Nat) (w : World) (hR : Reads w 1 A n (b8 m)) (hn : n ≤ 100000000000) : Calls Tryz.prog 253 #[.slice A n c] w (OwnB (Sha.pad m) w) := by
  obtain ⟨i0, hi, hz0, hz1, hz2⟩ := info_parts infoByte22
  have HI := Lib.hid (And.intro hi (And.intro hz0 (And.intro hz1 hz2)))
  clear hi hz0 hz1 hz2
  have hl : m.length = n := by have := hR.1; simpa [b8] using this
  obtain ⟨p, hp⟩ : ∃ p, p = (119 - n % 64) % 64 := ⟨_, rfl⟩
  have hp2 : p ≤ 63 := by omega
  have hp3 : ∀ i, i ≤ p → ((n + 1 + i) % 64 = 56 ↔ i = p) := by intro i hi; omega
  have hpad : Sha.pad m = (m ++ 128 :: List.replicate p 0) ++ Sha.bytes8 (8 * n) := by
    unfold Sha.pad
    rw [hl, ← hp, List.append_assoc]
    rfl
  obtain ⟨V, hV⟩ : ∃ V, V = Sha.pad m := ⟨_, rfl⟩
  rw [← hV] at hpad ⊢
  have hown0 : (w.alloc (.cells #[] 5)).ownsRow w.heap.size 5 1 (.slice (some ⟨w.heap.size, 0, none⟩) 0 0) 0 [] := World.ownsRow_lit w #[] 0 (Nat.le_refl _) (by unfold maxLen; omega) rfl
  have hba : Below w.heap.size w (w.alloc (.cells #[] 5)) := (Below.refl _ _).alloc (Nat.le_refl _) _
  have ra := Reads.keep hR hba
  have HO0 := Lib.hid hown0; have HBA := Lib.hid hba; have RA := Lib.hid ra; have HP3 := Lib.hid hp3; have HPAD := Lib.hid hpad; have HL := Lib.hid hl
  clear hown0 hba ra hR hp hp3 hpad hV hl
  go_enter Tryz.func253, Tryz.ntmps253
  go_upto_region 2 with (first
    | (refine wpList_buildSlice_as rfl _ _ _ rfl #[] rfl _ _ (run_bs8 _) ?_)
    | (at_builtin; refine wpList_append_reads _ rfl _ _ 173 rfl w.heap.size 5 i0 (.int .u8 0) 1 Tryz.underlying173 HI.out.1 HI.out.2.1 HI.out.2.2.1 HI.out.2.2.2 rfl _ _ _ rfl HO0.out A n c (b8 m) rfl RA.out (b8_one _) (by unfold maxLen; omega) (by omega) (by simp) ?_; intro v3 wr hown hg3; rw [Nat.zero_add, List.nil_append] at hown; have hbr : Below w.heap.size w wr := HBA.out.grown hg3 (by simp) (fun r e => by have e2 : w.heap.size = r := Option.some.inj e; omega); clear hg3 HO0; have hbs := hbr.size))
  clear RA HBA
  go_wp2_with (first
    | (at_builtin; refine wpList_append_own _ rfl _ _ 173 rfl w.heap.size 5 i0 (.int .u8 0) 1 1 Tryz.underlying173 HI.out.1 HI.out.2.1 HI.out.2.2.1 HI.out.2.2.2 rfl (by decide) _ _ _ rfl (hown.alloc _) ⟨wr.heap.size, 0, none⟩ 1 1 [.int .u8 128] rfl rfl (cell_one_new _ _ _) (by simp [Value.oneCell']) (by unfold maxLen; omega) (by omega) (by simp; omega) ?_; intro v' w3 hown1 hgrow1 _; obtain ⟨g1, cap1, rfl⟩ := ownsRow_succ hown1; have hb3 : Below w.heap.size w w3 := (hbr.alloc (by omega) _).grown hgrow1 (by simp; omega) (fun r e => ownsRow_block hown r e); clear hown hgrow1))
  clear hbr hbs
  obtain ⟨wo, rfl⟩ : ∃ wo : World, wo = wr := ⟨_, rfl⟩
  have hownA : w3.ownsRow w.heap.size 5 1 (.slice (some ⟨g1, 0, none⟩) (n + 1 + 0) cap1) (n + 1 + 0) (b8 (m ++ 128 :: List.replicate 0 0)) := by
    have e : b8 (m ++ 128 :: List.replicate 0 0) = b8 m ++ [.int .u8 128] := by rw [b8_app]; rfl
    rw [e]; exact hown1
  go_loopw [3] (fun pv wr => ∃ (i : Nat) (A : Option Addr) (c : Nat), i ≤ p ∧ pv = .slice A (n + 1 + i) c ∧ wr.ownsRow w.heap.size 5 1 (.slice A (n + 1 + i) c) (n + 1 + i) (b8 (m ++ 128 :: List.replicate i 0)) ∧ Below w.heap.size w wr) (fun pv _ => match pv with | .slice _ k _ => n + 1 + p - k | _ => 0)
  case atStart => exact ⟨0, _, _, by omega, rfl, hownA, hb3⟩
  case round =>
    obtain ⟨i, A, c, hi, rfl, hown, hbr⟩ := hrel
    clear hownA hown1 hb3
    have hbs := hbr.size
    have h56 := HP3.out i hi
    by_cases h : i = p
    · have hc : ((n : Int) + 1 + (p : Int)) % 64 = 56 := by have := h56.2 h; omega
      have hpad : m ++ 128 :: List.replicate i 0 = (m ++ 128 :: List.replicate p 0) ++ (Sha.bytes8 (8 * n)).take 0 := by rw [h]; simp
      have hn1 : n + 1 + i = n + 1 + p + 0 := by omega
      rw [hpad, hn1] at hown
      rw [hn1]
      clear hpad hn1 h56 h hi
      go_wp2_with fail
      obtain ⟨wo, rfl⟩ : ∃ wo : World, wo = wr := ⟨_, rfl⟩
      go_loopw [3, 5] (fun pv jv wr => ∃ (j : Nat) (A : Option Addr) (c : Nat), j ≤ 8 ∧ jv = .int .i64 j ∧ pv = .slice A (n + 1 + p + j) c ∧ wr.ownsRow w.heap.size 5 1 (.slice A (n + 1 + p + j) c) (n + 1 + p + j) (b8 ((m ++ 128 :: List.replicate p 0) ++ (Sha.bytes8 (8 * n)).take j)) ∧ Below w.heap.size w wr) (fun _ jv _ => 8 - (intOf jv).toNat)
      case atStart => exact ⟨0, A, c, by omega, rfl, rfl, hown, hbr⟩
      case round =>
        clear hbr hown hc
        obtain ⟨j, A, c, hj, rfl, rfl, hown, hbr⟩ := hrel
        have hbs := hbr.size
        by_cases h8 : j < 8
        · have hj8 : j = 0 ∨ j = 1 ∨ j = 2 ∨ j = 3 ∨ j = 4 ∨ j = 5 ∨ j = 6 ∨ j = 7 := by omega
          clear h8 hj
          rcases hj8 with rfl | rfl | rfl | rfl | rfl | rfl | rfl | rfl
          · go_wp2_with (at_builtin; refine wpList_append_own _ rfl _ _ 173 rfl w.heap.size 5 i0 (.int .u8 0) 1 1 Tryz.underlying173 HI.out.1 HI.out.2.1 HI.out.2.2.1 HI.out.2.2.2 rfl (by decide) _ _ _ rfl (hown.alloc _) ⟨wr.heap.size, 0, none⟩ 1 1 [_] rfl rfl (cell_one_new _ _ _) (by simp [Value.oneCell']) (by unfold maxLen; omega) (by omega) (by simp; omega) ?_; intro v' w3 hown1 hgrow1 _; obtain ⟨g1, cap1, rfl⟩ := ownsRow_succ hown1; have hb3 : Below w.heap.size w w3 := (hbr.alloc (by omega) _).grown hgrow1 (by simp; omega) (fun r e => ownsRow_block hown r e); clear hown hgrow1)
            have hown2 := own_next (n := n + 1 + p) hown1 (by omega) (by simp [Sha.bytes8, Sha.bytes4] <;> omega) (by rw [bytes8_len]; omega)
            refine ⟨?_, by simp [intOf]⟩
            repeat apply Exists.intro
            exact ⟨⟨1, some ⟨g1, 0, none⟩, cap1, by omega, rfl, rfl, hown2, hb3⟩, rfl⟩
          · go_wp2_with (at_builtin; refine wpList_append_own _ rfl _ _ 173 rfl w.heap.size 5 i0 (.int .u8 0) 1 1 Tryz.underlying173 HI.out.1 HI.out.2.1 HI.out.2.2.1 HI.out.2.2.2 rfl (by decide) _ _ _ rfl (hown.alloc _) ⟨wr.heap.size, 0, none⟩ 1 1 [_] rfl rfl (cell_one_new _ _ _) (by simp [Value.oneCell']) (by unfold maxLen; omega) (by omega) (by simp; omega) ?_; intro v' w3 hown1 hgrow1 _; obtain ⟨g1, cap1, rfl⟩ := ownsRow_succ hown1; have hb3 : Below w.heap.size w w3 := (hbr.alloc (by omega) _).grown hgrow1 (by simp; omega) (fun r e => ownsRow_block hown r e); clear hown hgrow1)
            have hown2 := own_next (n := n + 1 + p) hown1 (by omega) (by simp [Sha.bytes8, Sha.bytes4] <;> omega) (by rw [bytes8_len]; omega)
            refine ⟨?_, by simp [intOf]⟩
            repeat apply Exists.intro
            exact ⟨⟨2, some ⟨g1, 0, none⟩, cap1, by omega, rfl, rfl, hown2, hb3⟩, rfl⟩
          · go_wp2_with (at_builtin; refine wpList_append_own _ rfl _ _ 173 rfl w.heap.size 5 i0 (.int .u8 0) 1 1 Tryz.underlying173 HI.out.1 HI.out.2.1 HI.out.2.2.1 HI.out.2.2.2 rfl (by decide) _ _ _ rfl (hown.alloc _) ⟨wr.heap.size, 0, none⟩ 1 1 [_] rfl rfl (cell_one_new _ _ _) (by simp [Value.oneCell']) (by unfold maxLen; omega) (by omega) (by simp; omega) ?_; intro v' w3 hown1 hgrow1 _; obtain ⟨g1, cap1, rfl⟩ := ownsRow_succ hown1; have hb3 : Below w.heap.size w w3 := (hbr.alloc (by omega) _).grown hgrow1 (by simp; omega) (fun r e => ownsRow_block hown r e); clear hown hgrow1)
            have hown2 := own_next (n := n + 1 + p) hown1 (by omega) (by simp [Sha.bytes8, Sha.bytes4] <;> omega) (by rw [bytes8_len]; omega)
            refine ⟨?_, by simp [intOf]⟩
            repeat apply Exists.intro
            exact ⟨⟨3, some ⟨g1, 0, none⟩, cap1, by omega, rfl, rfl, hown2, hb3⟩, rfl⟩
          · go_wp2_with (at_builtin; refine wpList_append_own _ rfl _ _ 173 rfl w.heap.size 5 i0 (.int .u8 0) 1 1 Tryz.underlying173 HI.out.1 HI.out.2.1 HI.out.2.2.1 HI.out.2.2.2 rfl (by decide) _ _ _ rfl (hown.alloc _) ⟨wr.heap.size, 0, none⟩ 1 1 [_] rfl rfl (cell_one_new _ _ _) (by simp [Value.oneCell']) (by unfold maxLen; omega) (by omega) (by simp; omega) ?_; intro v' w3 hown1 hgrow1 _; obtain ⟨g1, cap1, rfl⟩ := ownsRow_succ hown1; have hb3 : Below w.heap.size w w3 := (hbr.alloc (by omega) _).grown hgrow1 (by simp; omega) (fun r e => ownsRow_block hown r e); clear hown hgrow1)
            have hown2 := own_next (n := n + 1 + p) hown1 (by omega) (by simp [Sha.bytes8, Sha.bytes4] <;> omega) (by rw [bytes8_len]; omega)
            refine ⟨?_, by simp [intOf]⟩
            repeat apply Exists.intro
            exact ⟨⟨4, some ⟨g1, 0, none⟩, cap1, by omega, rfl, rfl, hown2, hb3⟩, rfl⟩
          · go_wp2_with (at_builtin; refine wpList_append_own _ rfl _ _ 173 rfl w.heap.size 5 i0 (.int .u8 0) 1 1 Tryz.underlying173 HI.out.1 HI.out.2.1 HI.out.2.2.1 HI.out.2.2.2 rfl (by decide) _ _ _ rfl (hown.alloc _) ⟨wr.heap.size, 0, none⟩ 1 1 [_] rfl rfl (cell_one_new _ _ _) (by simp [Value.oneCell']) (by unfold maxLen; omega) (by omega) (by simp; omega) ?_; intro v' w3 hown1 hgrow1 _; obtain ⟨g1, cap1, rfl⟩ := ownsRow_succ hown1; have hb3 : Below w.heap.size w w3 := (hbr.alloc (by omega) _).grown hgrow1 (by simp; omega) (fun r e => ownsRow_block hown r e); clear hown hgrow1)
            have hown2 := own_next (n := n + 1 + p) hown1 (by omega) (by simp [Sha.bytes8, Sha.bytes4] <;> omega) (by rw [bytes8_len]; omega)
            refine ⟨?_, by simp [intOf]⟩
            repeat apply Exists.intro
            exact ⟨⟨5, some ⟨g1, 0, none⟩, cap1, by omega, rfl, rfl, hown2, hb3⟩, rfl⟩
          · go_wp2_with (at_builtin; refine wpList_append_own _ rfl _ _ 173 rfl w.heap.size 5 i0 (.int .u8 0) 1 1 Tryz.underlying173 HI.out.1 HI.out.2.1 HI.out.2.2.1 HI.out.2.2.2 rfl (by decide) _ _ _ rfl (hown.alloc _) ⟨wr.heap.size, 0, none⟩ 1 1 [_] rfl rfl (cell_one_new _ _ _) (by simp [Value.oneCell']) (by unfold maxLen; omega) (by omega) (by simp; omega) ?_; intro v' w3 hown1 hgrow1 _; obtain ⟨g1, cap1, rfl⟩ := ownsRow_succ hown1; have hb3 : Below w.heap.size w w3 := (hbr.alloc (by omega) _).grown hgrow1 (by simp; omega) (fun r e => ownsRow_block hown r e); clear hown hgrow1)
            have hown2 := own_next (n := n + 1 + p) hown1 (by omega) (by simp [Sha.bytes8, Sha.bytes4] <;> omega) (by rw [bytes8_len]; omega)
            refine ⟨?_, by simp [intOf]⟩
            repeat apply Exists.intro
            exact ⟨⟨6, some ⟨g1, 0, none⟩, cap1, by omega, rfl, rfl, hown2, hb3⟩, rfl⟩
          · go_wp2_with (at_builtin; refine wpList_append_own _ rfl _ _ 173 rfl w.heap.size 5 i0 (.int .u8 0) 1 1 Tryz.underlying173 HI.out.1 HI.out.2.1 HI.out.2.2.1 HI.out.2.2.2 rfl (by decide) _ _ _ rfl (hown.alloc _) ⟨wr.heap.size, 0, none⟩ 1 1 [_] rfl rfl (cell_one_new _ _ _) (by simp [Value.oneCell']) (by unfold maxLen; omega) (by omega) (by simp; omega) ?_; intro v' w3 hown1 hgrow1 _; obtain ⟨g1, cap1, rfl⟩ := ownsRow_succ hown1; have hb3 : Below w.heap.size w w3 := (hbr.alloc (by omega) _).grown hgrow1 (by simp; omega) (fun r e => ownsRow_block hown r e); clear hown hgrow1)
            have hown2 := own_next (n := n + 1 + p) hown1 (by omega) (by simp [Sha.bytes8, Sha.bytes4] <;> omega) (by rw [bytes8_len]; omega)
            refine ⟨?_, by simp [intOf]⟩
            repeat apply Exists.intro
            exact ⟨⟨7, some ⟨g1, 0, none⟩, cap1, by omega, rfl, rfl, hown2, hb3⟩, rfl⟩
          · go_wp2_with (at_builtin; refine wpList_append_own _ rfl _ _ 173 rfl w.heap.size 5 i0 (.int .u8 0) 1 1 Tryz.underlying173 HI.out.1 HI.out.2.1 HI.out.2.2.1 HI.out.2.2.2 rfl (by decide) _ _ _ rfl (hown.alloc _) ⟨wr.heap.size, 0, none⟩ 1 1 [_] rfl rfl (cell_one_new _ _ _) (by simp [Value.oneCell']) (by unfold maxLen; omega) (by omega) (by simp; omega) ?_; intro v' w3 hown1 hgrow1 _; obtain ⟨g1, cap1, rfl⟩ := ownsRow_succ hown1; have hb3 : Below w.heap.size w w3 := (hbr.alloc (by omega) _).grown hgrow1 (by simp; omega) (fun r e => ownsRow_block hown r e); clear hown hgrow1)
            have hown2 := own_next (n := n + 1 + p) hown1 (by omega) (by simp [Sha.bytes8, Sha.bytes4] <;> omega) (by rw [bytes8_len]; omega)
            refine ⟨?_, by simp [intOf]⟩
            repeat apply Exists.intro
            exact ⟨⟨8, some ⟨g1, 0, none⟩, cap1, by omega, rfl, rfl, hown2, hb3⟩, rfl⟩
        · have hj8 : j = 8 := by omega
          have hpt : (m ++ 128 :: List.replicate p 0) ++ (Sha.bytes8 (8 * n)).take j = V := by rw [HPAD.out, hj8]; rfl
          have hVl : V.length = n + 1 + p + j := by
            rw [HPAD.out, hj8, List.length_append, List.length_append, List.length_cons, List.length_replicate, bytes8_len, HL.out]
            omega
          rw [hpt] at hown
          rw [← hVl] at hown ⊢
          clear hpt
          go_wp2_with fail
          go_ret
          exact ⟨A, c, rfl, hown, hbr⟩
    · have hc : ¬ ((n : Int) + 1 + (i : Int)) % 64 = 56 := by
        intro e
        exact h (h56.1 (by omega))
      go_wp2_with (first
        | (at_builtin; refine wpList_append_own _ rfl _ _ 173 rfl w.heap.size 5 i0 (.int .u8 0) 1 1 Tryz.underlying173 HI.out.1 HI.out.2.1 HI.out.2.2.1 HI.out.2.2.2 rfl (by decide) _ _ _ rfl (hown.alloc _) ⟨wr.heap.size, 0, none⟩ 1 1 [.int .u8 0] rfl rfl (cell_one_new _ _ _) (by simp [Value.oneCell']) (by unfold maxLen; omega) (by omega) (by simp; omega) ?_; intro v' w3 hown1 hgrow1 _; obtain ⟨g1, cap1, rfl⟩ := ownsRow_succ hown1; have hb3 : Below w.heap.size w w3 := (hbr.alloc (by omega) _).grown hgrow1 (by simp; omega) (fun r e => ownsRow_block hown r e); clear hown hgrow1))
      have hown2 : w3.ownsRow w.heap.size 5 1 (.slice (some ⟨g1, 0, none⟩) (n + 1 + (i + 1)) cap1) (n + 1 + (i + 1)) (b8 (m ++ 128 :: List.replicate (i + 1) 0)) := by
        have e : b8 (m ++ 128 :: List.replicate (i + 1) 0) = b8 (m ++ 128 :: List.replicate i 0) ++ [.int .u8 0] := by
          rw [List.replicate_succ', show m ++ 128 :: (List.replicate i 0 ++ [0]) = (m ++ 128 :: List.replicate i 0) ++ [0] by simp, b8_app]; rfl
        rw [e]; exact hown1
      exact ⟨⟨i + 1, _, _, by omega, rfl, hown2, hb3⟩, by show n + 1 + p - (n + 1 + i + 1) < n + 1 + p - (n + 1 + i); omega⟩
end Go.Proofs.YtjhlpkhfdghngaaGreatDoor
namespace Go.Proofs.YtjhlpkhfdghngaaGreatDoor
open Go.RowKit Go.Sort
set_option linter.unusedVariables false
set_option linter.unusedSimpArgs false
set_option maxRecDepth 100000
def Ks2 (w : World) : Prop := ∃ t fr, w.heap[2]? = some (.cells (w32 Sha.ks).toArray t fr)
theorem Ks2.keep {w w' : World} (h : Ks2 w) (hb : Below w.heap.size w w') : Ks2 w' := by
  obtain ⟨t, fr, h⟩ := h
  refine ⟨t, fr, (hb.block _ ?_).trans h⟩
  rcases Nat.lt_or_ge 2 w.heap.size with hlt | hge
  · exact hlt
  · rw [Array.getElem?_eq_none hge] at h; cases h
theorem Ks2.cell {w : World} (h : Ks2 w) {t : Nat} (ht : t < 64) : w.cell? ⟨2, t, none⟩ = some (.int .u32 (Sha.ks.getD t 0 : Nat)) := by
  obtain ⟨t0, fr, h⟩ := h
  rw [cell_of_row w _ t _ t0 _ h, List.getElem?_toArray]
  exact w32_at Sha.ks (by rw [Sha.ks_len]; exact ht)
def mixL (s u : Sha.St) (i : Nat) : List Nat := (List.zipWith Sha.add32 (stL s) (stL u)).take i ++ (stL s).drop i
theorem mixL_len (s u : Sha.St) {i : Nat} (h : i ≤ 8) : (mixL s u i).length = 8 := by
  unfold mixL stL; simp; omega
theorem mixL_set (s u : Sha.St) {i : Nat} (h : i < 8) : (mixL s u i).set i (Sha.add32 ((mixL s u i).getD i 0) ((stL u).getD i 0)) = mixL s u (i + 1) := by
  have h1 : i = 0 ∨ i = 1 ∨ i = 2 ∨ i = 3 ∨ i = 4 ∨ i = 5 ∨ i = 6 ∨ i = 7 := by omega
  rcases h1 with rfl | rfl | rfl | rfl | rfl | rfl | rfl | rfl <;> rfl
theorem mixL_all (s : Sha.St) (b : List Nat) : mixL s (Sha.upto b s 64) 8 = stL (Sha.comp s b) := by rw [Sha.comp_eq]; rfl
structure SmS (w : World) (M : List Nat) (gm : Nat) (s : Sha.St) (W : World) : Prop where
  r : RowV W w.heap.size 191 (b8 (List.replicate 32 0))
  s : Row32 W (w.heap.size + 1) 183 (stL s)
  p : Reads W 1 (some ⟨gm, 0, none⟩) M.length (b8 M)
  b : Below w.heap.size w W
theorem SmS.keep {w W W' : World} {M : List Nat} {gm : Nat} {s : Sha.St} (h : SmS w M gm s W) (hb : Below W.heap.size W W') : SmS w M gm s W' := ⟨h.r.keep hb, h.s.keep hb, h.p.keep hb, bstep h.b hb⟩
structure SvS (w : World) (M : List Nat) (gm : Nat) (s : Sha.St) (gw gv : Nat) (S : List Nat) (u : Sha.St) (W : World) : Prop where
  m : SmS w M gm s W
  w : Row32 W gw 276 S
  v : Row32 W gv 183 (stL u)
theorem SvS.keep {w W W' : World} {M : List Nat} {gm gw gv : Nat} {s u : Sha.St} {S : List Nat} (h : SvS w M gm s gw gv S u W) (hb : Below W.heap.size W W') : SvS w M gm s gw gv S u W' := ⟨h.m.keep hb, h.w.keep hb, h.v.keep hb⟩
theorem SmS.lt {w W : World} {M : List Nat} {gm : Nat} {s : Sha.St} (h : SmS w M gm s W) (hM : 0 < M.length) : gm < W.heap.size := by
  obtain ⟨b, o, e, hc⟩ := h.p.2 hM
  injection e with e
  injection e with e1 e2
  subst e1
  exact cell_lt (hc 0 _ (b8_at M (k := 0) hM))
theorem reads_row_far {W : World} {gm n k : Nat} {vs : List Value} (h : Reads W 1 (some ⟨gm, 0, none⟩) n vs) (hk : gm ≠ k) (ds : Array Value) : Reads (W.setRow k ds) 1 (some ⟨gm, 0, none⟩) n vs := by
  refine ⟨h.1, fun hn => ?_⟩
  obtain ⟨b, o, e, hc⟩ := h.2 hn
  injection e with e
  injection e with e1 e2
  subst e1; subst e2
  refine ⟨gm, 0, rfl, fun j u hj => ?_⟩
  exact (World.cell?_of_block (w := W) (setRow_other W k gm ds hk)).trans (hc j u hj)
theorem reads_cell_far {W : World} {gm n : Nat} {vs : List Value} (h : Reads W 1 (some ⟨gm, 0, none⟩) n vs) (q : Addr) (v : Value) (hk : gm ≠ q.block) : Reads (W.setCell q v) 1 (some ⟨gm, 0, none⟩) n vs := by
  refine ⟨h.1, fun hn => ?_⟩
  obtain ⟨b, o, e, hc⟩ := h.2 hn
  injection e with e
  injection e with e1 e2
  subst e1; subst e2
  refine ⟨gm, 0, rfl, fun j u hj => ?_⟩
  exact (World.cell?_of_block (w := W) (heap_setCell_other W q gm v hk)).trans (hc j u hj)
structure MxS (w : World) (M : List Nat) (gm : Nat) (s u : Sha.St) (gv i : Nat) (W : World) : Prop where
  r : RowV W w.heap.size 191 (b8 (List.replicate 32 0))
  s : Row32 W (w.heap.size + 1) 183 (mixL s u i)
  p : Reads W 1 (some ⟨gm, 0, none⟩) M.length (b8 M)
  b : Below w.heap.size w W
  v : Row32 W gv 183 (stL u)
theorem MxS.keep {w W W' : World} {M : List Nat} {gm gv i : Nat} {s u : Sha.St} (h : MxS w M gm s u gv i W) (hb : Below W.heap.size W W') : MxS w M gm s u gv i W' := ⟨h.r.keep hb, h.s.keep hb, h.p.keep hb, bstep h.b hb, h.v.keep hb⟩
theorem run_b8 (a b c d e f g h : Int) (W : World) : (Instr.build 183 #[(0, .int .u32 a), (1, .int .u32 b), (2, .int .u32 c), (3, .int .u32 d), (4, .int .u32 e), (5, .int .u32 f), (6, .int .u32 g), (7, .int .u32 h)]).run Tryz.prog W = .ok (.agg #[.int .u32 a, .int .u32 b, .int .u32 c, .int .u32 d, .int .u32 e, .int .u32 f, .int .u32 g, .int .u32 h]) W := by kernel_rfl
theorem wrap_q64 (q : Nat) (h : q ≤ 1000000000000) : wrap64 ((q : Int) + 64) = ((q + 64 : Nat) : Int) := by
  rw [show (q : Int) + 64 = ((q + 64 : Nat) : Int) by omega]
  exact IntWalk.wrap64_in _ (by omega)
theorem meas64 (m q qe : Nat) (h : q < m) (he : qe = q + 64) : m - (intOf (.int .i64 (qe : Int))).toNat < m - (intOf (.int .i64 (q : Int))).toNat := by
  simp [intOf]; omega
theorem next_q (B L j q : Nat) (hL : L = 64 * B) (hm : L ≤ 200000000000) (hj : j < B) (hq : q = 64 * j) : ∃ qe, qe = 64 * (j + 1) ∧ wrap64 ((q : Int) + 64) = (qe : Int) ∧ L - (intOf (.int .i64 (qe : Int))).toNat < L - (intOf (.int .i64 (q : Int))).toNat :=
  ⟨q + 64, by omega, wrap_q64 q (by omega), meas64 L q (q + 64) (by omega) rfl⟩
theorem inf8 : (Tryz.prog.info? 183).map (·.size) = some 8 := by kernel_rfl
theorem w32_all (l : List Nat) : (w32 l).toArray.all (·.oneCell') = true := by rw [List.all_toArray, List.all_eq_true]; exact w32_one l
theorem part_reads {W : World} {gm q : Nat} {M : List Nat} (h : Reads W 1 (some ⟨gm, 0, none⟩) M.length (b8 M)) (hq : q + 64 ≤ M.length) : Reads W 1 (some ⟨gm, q, none⟩) 64 (b8 ((M.drop q).take 64)) := by
  obtain ⟨b, o, e, hc⟩ := h.2 (by omega)
  injection e with e
  injection e with e1 e2
  subst e1; subst e2
  refine ⟨by rw [b8_len, List.length_take, List.length_drop]; omega, fun _ => ⟨gm, q, rfl, fun j u hj => ?_⟩⟩
  have hj2 : j < 64 := by
    have := (List.getElem?_eq_some_iff.1 hj).1
    rw [b8_len, List.length_take] at this
    omega
  have := hc (q + j) u (by
    rw [← hj]
    unfold b8
    rw [List.getElem?_map, List.getElem?_map, List.getElem?_take_of_lt hj2, List.getElem?_drop])
  rw [Nat.zero_add] at this
  exact this
theorem run_st0 (W : World) : (Instr.build 183 #[(0, .int .u32 1779033703), (1, .int .u32 3144134277), (2, .int .u32 1013904242), (3, .int .u32 2773480762), (4, .int .u32 1359893119), (5, .int .u32 2600822924), (6, .int .u32 528734635), (7, .int .u32 1541459225)]).run Tryz.prog W = .ok (.agg (w32 (stL Sha.st0)).toArray) W := by kernel_rfl
set_option maxHeartbeats 16000000 in
theorem rSum_any (A : Option Addr) (n c : Nat) (m : List Nat) (w : World) (hR : Reads w 1 A n (b8 m)) (hm : ∀ x ∈ m, x < 256) (hn : n ≤ 100000000000) (hK : Ks2 w) : Calls Tryz.prog 199 #[.slice A n c] w (Ret w (.agg (b8 (Sha.sum m)).toArray)) := by
  have cP := fun (W : World) (hb : Below w.heap.size w W) => rPadded_any A n c m W (hR.keep hb) hn
  have hl : m.length = n := by have := hR.1; simpa [b8] using this
  obtain ⟨M, hM⟩ : ∃ M, M = Sha.pad m := ⟨_, rfl⟩
  have hM64 : M.length % 64 = 0 := by rw [hM]; exact Sha.pad_len m
  have hMl : M.length = n + (Sha.padT n).length := by rw [hM, Sha.pad_eq, List.length_append, hl]
  have hMpos : 0 < M.length := by rw [hMl, Sha.padT_len]; omega
  have hMmax : M.length ≤ 200000000000 := by rw [hMl, Sha.padT_len]; omega
  have hMb : ∀ x ∈ M, x < 256 := by
    rw [hM, Sha.pad_eq]
    intro x hx
    rcases List.mem_append.1 hx with h | h
    · exact hm x h
    · exact padT_lt (by omega) x h
  obtain ⟨B, hB⟩ : ∃ B, M.length = 64 * B := ⟨M.length / 64, by omega⟩
  obtain ⟨R, hR2⟩ : ∃ R, R = Sha.sum m := ⟨_, rfl⟩
  have hRs : R = Sha.out (Sha.blocks B Sha.st0 M) := by
    rw [hR2]
    unfold Sha.sum
    rw [← hM, hB, Nat.mul_div_cancel_left _ (by decide : 0 < 64)]
  rw [← hR2]
  rw [← hM] at cP
  have HP := Lib.hid cP; have HMB := Lib.hid hMb; have HRS := Lib.hid hRs; have HK := Lib.hid hK; have HB := Lib.hid hB
  clear cP hR hm hl hM hMb hRs hR2 hK hM64 hMl hB
  go_enter Tryz.func199, Tryz.ntmps199
  go_upto_region 1 with fail
  generalize hw0 : World.alloc _ _ = w0
  have hr0 : RowV w0 w.heap.size 191 (b8 (List.replicate 32 0)) := by rw [← hw0]; exact (heap_alloc_new w _).trans rfl
  have hb0 : Below w.heap.size w w0 := by rw [← hw0]; exact belB
  have HS0 := Lib.hid (show w0.heap.size = w.heap.size + 1 by rw [← hw0]; simp)
  clear hw0
  go_upto_region 2 with (first
    | (refine wpList_build_as rfl 183 _ rfl _ (by kernel_rfl) _ (run_st0 _) ?_)
    | (refine wpList_store_row rfl 183 _ _ rfl w0.heap.size (w32 (stL Sha.st0)).toArray rfl rfl _ (w32 (List.replicate 8 0)).toArray ((heap_alloc_new w0 _).trans rfl) inf8 rfl (w32_all _) ?_))
  generalize hw1 : World.setRow _ _ _ = w1
  have hs1 : Row32 w1 (w.heap.size + 1) 183 (stL Sha.st0) := by
    rw [← hw1, ← HS0.out]
    exact setRow_heap _ _ _ _ _ _ (heap_alloc_new w0 _)
  have hbb1 : Below w0.heap.size w0 w1 := by rw [← hw1]; exact below_setRow ((Below.refl _ _).alloc (Nat.le_refl _) _) (Nat.le_refl _) _
  have hr1 := RowV.keep hr0 hbb1
  have hb1 := bstep hb0 hbb1
  rw [HS0.out]
  clear hw1 hbb1 hr0 hb0 HS0
  clear w0
  go_upto_region 3 with (go_at_call 253; refine (HP.out _ hb1).mono ?_; rintro e w2 ⟨A2, cap, rfl, hown2, hb2⟩)
  obtain ⟨gm, cur, rfl, hgm, hcap⟩ : ∃ gm cur, A2 = some ⟨gm, 0, none⟩ ∧ w1.heap.size ≤ gm ∧ M.length ≤ cap := by
    rcases hown2.2 with ⟨e1, e2⟩ | ⟨g, cp, cur, e1, hbg, hh, h1, h2, h3, h4⟩
    · omega
    · injection e1 with e1 e2 e3
      exact ⟨g, cur, e1, hbg, by omega⟩
  have hS0 : SmS w M gm (Sha.blocks 0 Sha.st0 M) w2 := ⟨RowV.keep hr1 hb2, Row32.keep hs1 hb2, reads_own hown2, bstep hb1 hb2⟩
  have HGNE := Lib.hid (show gm ≠ w.heap.size + 1 by have := Row32.lt hs1; omega)
  have HS0 := Lib.hid hS0
  clear hS0 hr1 hs1 hb1 hown2 hb2 hgm cur HP
  clear w1
  go_wp2_with fail
  go_loopw [5] (fun av wr => ∃ j q : Nat, j ≤ B ∧ q = 64 * j ∧ av = .int .i64 (q : Int) ∧ Hid (SmS w M gm (Sha.blocks j Sha.st0 M) wr)) (fun av _ => M.length - (intOf av).toNat)
  case atStart => exact ⟨0, 0, by omega, rfl, rfl, HS0⟩
  case round =>
    obtain ⟨j, q, hj, hq, rfl, HS⟩ := hrel
    clear HS0
    have hbw := HS.out.b
    by_cases hlt : j < B
    · have hq64 : q + 64 ≤ M.length := by have := HB.out; omega
      obtain ⟨L, hL⟩ : ∃ L, L = M.length := ⟨_, rfl⟩
      obtain ⟨qe, hqe⟩ : ∃ qe, qe = q + 64 := ⟨_, rfl⟩
      have d1 : (q : Int) < (M.length : Int) := by omega
      have q0 : (0 : Int) ≤ (q : Int) := by omega
      have q1 : (qe : Int) ≤ (cap : Int) := by omega
      have q2 : (q : Int) ≤ (qe : Int) := by omega
      have q3 : wrap64 ((q : Int) + 64) = (qe : Int) := by rw [show (q : Int) + 64 = (qe : Int) by omega]; exact IntWalk.wrap64_in _ (by omega)
      have q4 : qe - q = 64 := by omega
      have q5 : (0 : Int) ≤ (qe : Int) := by omega
      have hcomp : Sha.comp (Sha.blocks j Sha.st0 M) ((M.drop q).take 64) = Sha.blocks (j + 1) Sha.st0 M := by rw [Sha.comp_take, Sha.blocks_succ, ← hq]
      have hst := Sha.blocks_ok j Sha.st0 M Sha.st0_ok
      have hup := mixL_all (Sha.blocks j Sha.st0 M) ((M.drop q).take 64)
      have hSl := Sha.sched_len ((M.drop q).take 64)
      have hSlt := fun t => Sha.sched_lt (b := (M.drop q).take 64) (fun x hx => HMB.out x (List.mem_of_mem_drop (List.mem_of_mem_take hx))) t
      have hus := fun t (h : t < 64) => Sha.upto_succ ((M.drop q).take 64) (Sha.blocks j Sha.st0 M) t h
      have huo := fun t => Sha.upto_ok ((M.drop q).take 64) hst t
      have hu0 := Sha.upto_zero ((M.drop q).take 64) (Sha.blocks j Sha.st0 M)
      rw [hcomp] at hup
      have hrd := part_reads HS.out.p hq64
      have hwd := fun W (hb : Below wr.heap.size wr W) (cc : Nat) => rWords_any (some ⟨gm, q, none⟩) cc ((M.drop q).take 64) W (hrd.keep hb) (fun x hx => HMB.out x (List.mem_of_mem_drop (List.mem_of_mem_take hx)))
      have HWD := Lib.hid hwd
      clear hrd hwd
      generalize Sha.sched ((M.drop q).take 64) = S at *
      generalize Sha.upto ((M.drop q).take 64) (Sha.blocks j Sha.st0 M) = U at *
      have HUP := Lib.hid hup; have HSL := Lib.hid hSl; have HSLT := Lib.hid hSlt; have HUS := Lib.hid hus; have HUO := Lib.hid huo; have HU0 := Lib.hid hu0; have HST := Lib.hid hst
      clear hcomp hup hSl hSlt hus huo hu0 hst
      have H64 := Lib.hid (show (Tryz.prog.info? 276).map (·.size) = some (w32 S).toArray.size by rw [List.size_toArray, w32_len, HSL.out]; kernel_rfl)
      have Z64 := Lib.hid (show (w32 (List.replicate 64 0)).toArray.size = (w32 S).toArray.size by rw [List.size_toArray, List.size_toArray, w32_len, w32_len, HSL.out]; rfl)
      have O64 := Lib.hid (w32_all S)
      generalize hsb : Sha.blocks j Sha.st0 M = sb at *
      have I8 := Lib.hid (show (Tryz.prog.info? 183).map (·.size) = some (w32 (stL sb)).toArray.size from inf8)
      have Z8 := Lib.hid (show (w32 (List.replicate 8 0)).toArray.size = (w32 (stL sb)).toArray.size from rfl)
      have O8 := Lib.hid (w32_all (stL sb))
      clear hL hqe hq64
      have HHLT := Lib.hid hlt; have HHJ := Lib.hid hj; have HHQ := Lib.hid hq
      clear hlt hj hq hsb
      generalize hXW : (w32 S).toArray = XW at *
      generalize hXS : (w32 (stL sb)).toArray = XS at *
      have HXW := Lib.hid hXW; have HXS := Lib.hid hXS
      clear hXW hXS
      go_upto_region 7 with (first
        | (go_at_call 254; refine (HWD.out _ (Below.refl _ _) _).mono ?_; rintro e w3 ⟨rfl, hb3⟩)
        | (refine wpList_store_row rfl 276 _ _ rfl w3.heap.size XW rfl rfl _ (w32 (List.replicate 64 0)).toArray ((heap_alloc_new w3 _).trans rfl) H64.out Z64.out O64.out ?_))
      obtain ⟨gw, hgw⟩ : ∃ g, g = w3.heap.size := ⟨_, rfl⟩
      rw [← hgw]
      generalize hw4 : World.setRow _ _ _ = w4
      have hbb4 : Below w3.heap.size w3 w4 := by rw [← hw4, hgw]; exact below_setRow ((Below.refl _ _).alloc (Nat.le_refl _) _) (Nat.le_refl _) _
      have hW4 : Row32 w4 gw 276 S := by
        rw [← hw4, hgw, ← HXW.out]
        exact setRow_heap _ _ _ _ _ _ (heap_alloc_new w3 _)
      have hS4 := (HS.out.keep hb3).keep hbb4
      have hgs : w.heap.size + 1 < gw := by have := Row32.lt (HS.out.keep hb3).s; omega
      have hgm : gm < gw := by have := (HS.out.keep hb3).lt hMpos; omega
      have HW4 := Lib.hid hW4; have HS4 := Lib.hid hS4
      clear hw4 hbb4 hW4 hS4 hgw hb3 q0 q1 q2 q3 q4 q5 d1 hbw HWD
      clear w3
      have hrow : w4.heap[w.heap.size + 1]? = some (.cells XS 183 (0, 0)) := by rw [← HXS.out]; exact HS4.out.s
      have HROW := Lib.hid hrow
      clear hrow
      go_upto_region 8 with (first
        | (refine wpList_load_row rfl _ _ rfl (w.heap.size + 1) rfl _ XS (0, 0) _ HROW.out Tryz.underlying183 rfl I8.out ?_)
        | (refine wpList_store_row rfl 183 _ _ rfl w4.heap.size XS rfl rfl _ (w32 (List.replicate 8 0)).toArray ((heap_alloc_new w4 _).trans rfl) I8.out Z8.out O8.out ?_))
      obtain ⟨gv, hgv⟩ : ∃ g, g = w4.heap.size := ⟨_, rfl⟩
      rw [← hgv]
      generalize hw5 : World.setRow _ _ _ = w5
      have hbb5 : Below w4.heap.size w4 w5 := by rw [← hw5, hgv]; exact below_setRow ((Below.refl _ _).alloc (Nat.le_refl _) _) (Nat.le_refl _) _
      have hV5 : Row32 w5 gv 183 (stL (U 0)) := by
        rw [HU0.out, ← hw5, hgv]
        unfold Row32 RowV
        rw [HXS.out]
        exact setRow_heap _ _ _ _ _ _ (heap_alloc_new w4 _)
      have hgs2 : gw < gv := by have := Row32.lt HW4.out; omega
      have hgne : gm ≠ w.heap.size + 1 := by
        intro e
        exact HGNE.out e
      have HS5 := Lib.hid (SvS.mk (HS4.out.keep hbb5) (HW4.out.keep hbb5) hV5)
      clear hw5 hbb5 hV5 hgv HW4 HS4 HS HROW H64 Z64 O64 I8 Z8 O8
      clear w4
      go_wp2_with fail
      go_loopw [8] (fun tv wr => ∃ t : Nat, t ≤ 64 ∧ tv = .int .i64 t ∧ Hid (SvS w M gm sb gw gv S (U t) wr)) (fun tv _ => 64 - (intOf tv).toNat)
      case atStart => exact ⟨0, by omega, rfl, HS5⟩
      case round =>
        obtain ⟨t, ht, rfl, HV⟩ := hrel
        clear HS5
        by_cases h64 : t < 64
        · have hun := HUS.out t h64
          have huo := HUO.out t
          have hlk := Sha.ks_lt t
          have hlw := HSLT.out t
          obtain ⟨u, hu⟩ : ∃ u, u = U t := ⟨_, rfl⟩
          rw [← hu] at hun huo HV
          clear hu
          obtain ⟨va, vb, vc, vd, ve, vf, vg, vh⟩ := u
          obtain ⟨la, lb, lc, ld, le, lf, lg, lh⟩ := huo
          simp only at la lb lc ld le lf lg lh
          unfold Sha.round Sha.mix at hun
          simp only at hun
          have l6 := Sha.rot_lt ve 6 le
          have l11 := Sha.rot_lt ve 11 le
          have l25 := Sha.rot_lt ve 25 le
          have l2 := Sha.rot_lt va 2 la
          have l13 := Sha.rot_lt va 13 la
          have l22 := Sha.rot_lt va 22 la
          have hkc : ∀ W, Below w.heap.size w W → W.cell? ⟨2, t, none⟩ = some (.int .u32 (Sha.ks.getD t 0 : Nat)) := fun W hb => (HK.out.keep hb).cell h64
          have hwc : ∀ W, Row32 W gw 276 S → W.cell? ⟨gw, t, none⟩ = some (.int .u32 (S.getD t 0 : Nat)) := fun W h => h.cell (by rw [HSL.out]; exact h64)
          generalize Sha.ks.getD t 0 = kt at *
          generalize S.getD t 0 = wt at *
          have HKC := Lib.hid hkc; have HWC := Lib.hid hwc
          clear hkc hwc
          have R6 := Lib.hid (show ∀ W : World, Calls Tryz.prog 255 #[.int .u32 (ve : Int), .int .i64 6] W (Ret W (.int .u32 (Sha.rot ve 6 : Nat))) from fun W => rRotr_any ve 6 W le (by omega) (by omega))
          have R11 := Lib.hid (show ∀ W : World, Calls Tryz.prog 255 #[.int .u32 (ve : Int), .int .i64 11] W (Ret W (.int .u32 (Sha.rot ve 11 : Nat))) from fun W => rRotr_any ve 11 W le (by omega) (by omega))
          have R25 := Lib.hid (show ∀ W : World, Calls Tryz.prog 255 #[.int .u32 (ve : Int), .int .i64 25] W (Ret W (.int .u32 (Sha.rot ve 25 : Nat))) from fun W => rRotr_any ve 25 W le (by omega) (by omega))
          have R2 := Lib.hid (show ∀ W : World, Calls Tryz.prog 255 #[.int .u32 (va : Int), .int .i64 2] W (Ret W (.int .u32 (Sha.rot va 2 : Nat))) from fun W => rRotr_any va 2 W la (by omega) (by omega))
          have R13 := Lib.hid (show ∀ W : World, Calls Tryz.prog 255 #[.int .u32 (va : Int), .int .i64 13] W (Ret W (.int .u32 (Sha.rot va 13 : Nat))) from fun W => rRotr_any va 13 W la (by omega) (by omega))
          have R22 := Lib.hid (show ∀ W : World, Calls Tryz.prog 255 #[.int .u32 (va : Int), .int .i64 22] W (Ret W (.int .u32 (Sha.rot va 22 : Nat))) from fun W => rRotr_any va 22 W la (by omega) (by omega))
          have X1 := xor_words (Sha.rot ve 6) (Sha.rot ve 11) l6 l11
          have X2 := xor_words (Sha.rot ve 6 ^^^ Sha.rot ve 11) (Sha.rot ve 25) (Sha.xor_lt l6 l11) l25
          have N1 := u32_and_nat ve vf le lf
          have X3 : bits .xor .u32 (ve : Int) 4294967295 = ((4294967295 - ve : Nat) : Int) := by
            have := u32_xor_nat ve 4294967295 le (by decide)
            rw [Nat.xor_comm, xor_all ve le] at this
            exact this
          have N2 := u32_and_nat (4294967295 - ve) vg (by omega) lg
          have X4 := xor_words (ve &&& vf) ((4294967295 - ve) &&& vg) (Sha.land_lt lf) (Sha.land_lt lg)
          have Y1 := xor_words (Sha.rot va 2) (Sha.rot va 13) l2 l13
          have Y2 := xor_words (Sha.rot va 2 ^^^ Sha.rot va 13) (Sha.rot va 22) (Sha.xor_lt l2 l13) l22
          have M1 := u32_and_nat va vb la lb
          have M2 := u32_and_nat va vc la lc
          have M3 := u32_and_nat vb vc lb lc
          have Y3 := xor_words (va &&& vb) (va &&& vc) (Sha.land_lt lb) (Sha.land_lt lc)
          have Y4 := xor_words ((va &&& vb) ^^^ (va &&& vc)) (vb &&& vc) (Sha.xor_lt (Sha.land_lt lb) (Sha.land_lt lc)) (Sha.land_lt lc)
          generalize Sha.rot ve 6 = r6 at *
          generalize Sha.rot ve 11 = r11 at *
          generalize Sha.rot ve 25 = r25 at *
          generalize Sha.rot va 2 = r2 at *
          generalize Sha.rot va 13 = r13 at *
          generalize Sha.rot va 22 = r22 at *
          generalize r6 ^^^ r11 = x1 at *
          generalize x1 ^^^ r25 = s1 at *
          generalize ve &&& vf = ef at *
          generalize 4294967295 - ve = ne at *
          generalize ne &&& vg = ng at *
          generalize ef ^^^ ng = ch at *
          generalize r2 ^^^ r13 = y1 at *
          generalize y1 ^^^ r22 = s0 at *
          generalize va &&& vb = ab at *
          generalize va &&& vc = ac at *
          generalize vb &&& vc = bc at *
          generalize ab ^^^ ac = z1 at *
          generalize z1 ^^^ bc = mj at *
          have A1 := wrap_add22 (vh) (s1)
          have A1m := mod_add (vh) (s1)
          generalize Sha.add32 vh s1 = a1 at *
          have A2 := wrap_add22 (a1) (ch)
          have A2m := mod_add (a1) (ch)
          generalize Sha.add32 a1 ch = a2 at *
          have A3 := wrap_add22 (a2) (kt)
          have A3m := mod_add (a2) (kt)
          generalize Sha.add32 a2 kt = a3 at *
          have A4 := wrap_add22 (a3) (wt)
          have A4m := mod_add (a3) (wt)
          generalize Sha.add32 a3 wt = xx at *
          have A5 := wrap_add22 (s0) (mj)
          have A5m := mod_add (s0) (mj)
          generalize Sha.add32 s0 mj = yy at *
          have A6 := wrap_add22 (xx) (yy)
          have A6m := mod_add (xx) (yy)
          generalize Sha.add32 xx yy = na at *
          have A7 := wrap_add22 (vd) (xx)
          have A7m := mod_add (vd) (xx)
          generalize Sha.add32 vd xx = nd at *
          have HUN := Lib.hid hun
          clear hun la lb lc ld le lf lg lh l6 l11 l25 l2 l13 l22 hlk hlw
          have P11 := Lib.hid (And.intro X1 (And.intro X2 (And.intro N1 (And.intro X3 (And.intro N2 (And.intro X4 (And.intro A1 (And.intro A1m (And.intro A2 (And.intro A2m (And.intro A3 (And.intro A3m (And.intro A4 (A4m))))))))))))))
          clear X1 X2 N1 X3 N2 X4 A1 A1m A2 A2m A3 A3m A4 A4m
          have P12 := Lib.hid (And.intro Y1 (And.intro Y2 (And.intro M1 (And.intro M2 (And.intro M3 (And.intro Y3 (And.intro Y4 (And.intro A5 (A5m)))))))))
          clear Y1 Y2 M1 M2 M3 Y3 Y4 A5 A5m
          have P13 := Lib.hid (And.intro A6 (And.intro A6m (And.intro A7 (A7m))))
          clear A6 A6m A7 A7m
          have d1 : decide ((t : Int) < 64) = true := decide_eq_true (by omega)
          have t0 : (0 : Int) ≤ (t : Int) := by omega
          have t1 : (t : Int) < 64 := by omega
          go_upto_region 11 with fail
          clear d1
          refine wp_det 35 (by kernel_rfl) (by kernel_rfl) (by kernel_rfl) (fun i => [.pointer (some ⟨gv, 7, none⟩), .int .u32 vh, .pointer (some ⟨gv, 4, none⟩), .int .u32 ve, .int .u32 r6, .pointer (some ⟨gv, 4, none⟩), .int .u32 ve, .int .u32 r11, .int .u32 x1, .pointer (some ⟨gv, 4, none⟩), .int .u32 ve, .int .u32 r25, .int .u32 s1, .int .u32 a1, .pointer (some ⟨gv, 4, none⟩), .int .u32 ve, .pointer (some ⟨gv, 5, none⟩), .int .u32 vf, .int .u32 ef, .pointer (some ⟨gv, 4, none⟩), .int .u32 ve, .int .u32 ne, .pointer (some ⟨gv, 6, none⟩), .int .u32 vg, .int .u32 ng, .int .u32 ch, .int .u32 a2, .int .i64 t, .pointer (some ⟨2, t, none⟩), .int .u32 kt, .int .u32 a3, .int .i64 t, .pointer (some ⟨gw, t, none⟩), .int .u32 wt, .int .u32 xx].getD i undef) (SvS w M gm sb gw gv S ⟨va, vb, vc, vd, ve, vf, vg, vh⟩) (HV.out.keep (Below.drew (Below.refl _ _))) (fun _ _ h hb => h.keep hb) ?_ ?_
          · simp only [putL, List.take_succ_cons, List.take_zero, List.drop_succ_cons, List.drop_zero, Act.put, List.setIfInBounds_toArray, List.set_cons_succ, List.set_cons_zero, List.getD_cons_zero, List.getD_cons_succ]
            obtain ⟨X1, X2, N1, X3, N2, X4, A1, A1m, A2, A2m, A3, A3m, A4, A4m⟩ := P11.out
            clear P11
            refine ⟨fun W hS => ?_, fun W hS => ?_, fun W hS => ?_, fun W hS => ?_, fun W hS => ?_, fun W hS => ?_, fun W hS => ?_, fun W hS => ?_, fun W hS => ?_, fun W hS => ?_, fun W hS => ?_, fun W hS => ?_, fun W hS => ?_, fun W hS => ?_, fun W hS => ?_, fun W hS => ?_, fun W hS => ?_, fun W hS => ?_, fun W hS => ?_, fun W hS => ?_, fun W hS => ?_, fun W hS => ?_, fun W hS => ?_, fun W hS => ?_, fun W hS => ?_, fun W hS => ?_, fun W hS => ?_, fun W hS => ?_, fun W hS => ?_, fun W hS => ?_, fun W hS => ?_, fun W hS => ?_, fun W hS => ?_, fun W hS => ?_, fun W hS => ?_, trivial⟩
            all_goals
              have hbw := hS.m.b
              have c0 : W.cell? ⟨gv, 0, none⟩ = some (.int .u32 (va : Int)) := RowV.cell hS.v rfl
              have c1 : W.cell? ⟨gv, 1, none⟩ = some (.int .u32 (vb : Int)) := RowV.cell hS.v rfl
              have c2 : W.cell? ⟨gv, 2, none⟩ = some (.int .u32 (vc : Int)) := RowV.cell hS.v rfl
              have c4 : W.cell? ⟨gv, 4, none⟩ = some (.int .u32 (ve : Int)) := RowV.cell hS.v rfl
              have c5 : W.cell? ⟨gv, 5, none⟩ = some (.int .u32 (vf : Int)) := RowV.cell hS.v rfl
              have c6 : W.cell? ⟨gv, 6, none⟩ = some (.int .u32 (vg : Int)) := RowV.cell hS.v rfl
              have c7 : W.cell? ⟨gv, 7, none⟩ = some (.int .u32 (vh : Int)) := RowV.cell hS.v rfl
              have ck := HKC.out _ hbw
              have cw := HWC.out _ hS.w
              go_wp2_with (go_at_call 255; (first | (with_reducible refine (R6.out _).mono ?_) | (with_reducible refine (R11.out _).mono ?_) | (with_reducible refine (R25.out _).mono ?_)); rintro e w2 ⟨rfl, hb2⟩)
              exact ⟨rfl, rfl, belB⟩
          intro w6 hS6
          have HS6 := Lib.hid hS6
          clear hS6 HV P11 R6 R11 R25 HKC HWC
          simp only [putL, List.take_succ_cons, List.take_zero, List.drop_succ_cons, List.drop_zero, Act.put, List.setIfInBounds_toArray, List.set_cons_succ, List.set_cons_zero, List.getD_cons_zero, List.getD_cons_succ]
          go_upto_region 12 with fail
          refine wp_det 29 (by kernel_rfl) (by kernel_rfl) (by kernel_rfl) (fun i => [.pointer (some ⟨gv, 0, none⟩), .int .u32 va, .int .u32 r2, .pointer (some ⟨gv, 0, none⟩), .int .u32 va, .int .u32 r13, .int .u32 y1, .pointer (some ⟨gv, 0, none⟩), .int .u32 va, .int .u32 r22, .int .u32 s0, .pointer (some ⟨gv, 0, none⟩), .int .u32 va, .pointer (some ⟨gv, 1, none⟩), .int .u32 vb, .int .u32 ab, .pointer (some ⟨gv, 0, none⟩), .int .u32 va, .pointer (some ⟨gv, 2, none⟩), .int .u32 vc, .int .u32 ac, .int .u32 z1, .pointer (some ⟨gv, 1, none⟩), .int .u32 vb, .pointer (some ⟨gv, 2, none⟩), .int .u32 vc, .int .u32 bc, .int .u32 mj, .int .u32 yy].getD i undef) (SvS w M gm sb gw gv S ⟨va, vb, vc, vd, ve, vf, vg, vh⟩) (HS6.out.keep (Below.drew (Below.refl _ _))) (fun _ _ h hb => h.keep hb) ?_ ?_
          · simp only [putL, List.take_succ_cons, List.take_zero, List.drop_succ_cons, List.drop_zero, Act.put, List.setIfInBounds_toArray, List.set_cons_succ, List.set_cons_zero, List.getD_cons_zero, List.getD_cons_succ]
            obtain ⟨Y1, Y2, M1, M2, M3, Y3, Y4, A5, A5m⟩ := P12.out
            clear P12
            refine ⟨fun W hS => ?_, fun W hS => ?_, fun W hS => ?_, fun W hS => ?_, fun W hS => ?_, fun W hS => ?_, fun W hS => ?_, fun W hS => ?_, fun W hS => ?_, fun W hS => ?_, fun W hS => ?_, fun W hS => ?_, fun W hS => ?_, fun W hS => ?_, fun W hS => ?_, fun W hS => ?_, fun W hS => ?_, fun W hS => ?_, fun W hS => ?_, fun W hS => ?_, fun W hS => ?_, fun W hS => ?_, fun W hS => ?_, fun W hS => ?_, fun W hS => ?_, fun W hS => ?_, fun W hS => ?_, fun W hS => ?_, fun W hS => ?_, trivial⟩
            all_goals
              have hbw := hS.m.b
              have c0 : W.cell? ⟨gv, 0, none⟩ = some (.int .u32 (va : Int)) := RowV.cell hS.v rfl
              have c1 : W.cell? ⟨gv, 1, none⟩ = some (.int .u32 (vb : Int)) := RowV.cell hS.v rfl
              have c2 : W.cell? ⟨gv, 2, none⟩ = some (.int .u32 (vc : Int)) := RowV.cell hS.v rfl
              have c4 : W.cell? ⟨gv, 4, none⟩ = some (.int .u32 (ve : Int)) := RowV.cell hS.v rfl
              have c5 : W.cell? ⟨gv, 5, none⟩ = some (.int .u32 (vf : Int)) := RowV.cell hS.v rfl
              have c6 : W.cell? ⟨gv, 6, none⟩ = some (.int .u32 (vg : Int)) := RowV.cell hS.v rfl
              have c7 : W.cell? ⟨gv, 7, none⟩ = some (.int .u32 (vh : Int)) := RowV.cell hS.v rfl
              go_wp2_with (go_at_call 255; (first | (with_reducible refine (R2.out _).mono ?_) | (with_reducible refine (R13.out _).mono ?_) | (with_reducible refine (R22.out _).mono ?_)); rintro e w2 ⟨rfl, hb2⟩)
              exact ⟨rfl, rfl, belB⟩
          intro w7 hS7
          clear HS6 P12 R2 R13 R22
          simp only [putL, List.take_succ_cons, List.take_zero, List.drop_succ_cons, List.drop_zero, Act.put, List.setIfInBounds_toArray, List.set_cons_succ, List.set_cons_zero, List.getD_cons_zero, List.getD_cons_succ]
          have HS7 := Lib.hid hS7
          clear hS7
          obtain ⟨A6, A6m, A7, A7m⟩ := P13.out
          clear P13
          have c0 : w7.cell? ⟨gv, 0, none⟩ = some (.int .u32 (va : Int)) := RowV.cell HS7.out.v rfl
          have c1 : w7.cell? ⟨gv, 1, none⟩ = some (.int .u32 (vb : Int)) := RowV.cell HS7.out.v rfl
          have c2 : w7.cell? ⟨gv, 2, none⟩ = some (.int .u32 (vc : Int)) := RowV.cell HS7.out.v rfl
          have c3 : w7.cell? ⟨gv, 3, none⟩ = some (.int .u32 (vd : Int)) := RowV.cell HS7.out.v rfl
          have c4 : w7.cell? ⟨gv, 4, none⟩ = some (.int .u32 (ve : Int)) := RowV.cell HS7.out.v rfl
          have c5 : w7.cell? ⟨gv, 5, none⟩ = some (.int .u32 (vf : Int)) := RowV.cell HS7.out.v rfl
          have c6 : w7.cell? ⟨gv, 6, none⟩ = some (.int .u32 (vg : Int)) := RowV.cell HS7.out.v rfl
          have HOLD := Lib.hid (show w7.heap[gv]? = some (.cells (w32 (stL ⟨va, vb, vc, vd, ve, vf, vg, vh⟩)).toArray 183 (0, 0)) from HS7.out.v)
          go_upto_region 10 with (first
            | (refine wpList_build_as rfl 183 _ rfl _ (by kernel_rfl) _ (run_b8 na va vb vc nd ve vf vg _) ?_)
            | (refine wpList_store_row rfl 183 _ _ rfl gv #[.int .u32 na, .int .u32 va, .int .u32 vb, .int .u32 vc, .int .u32 nd, .int .u32 ve, .int .u32 vf, .int .u32 vg] rfl rfl _ (w32 (stL ⟨va, vb, vc, vd, ve, vf, vg, vh⟩)).toArray HOLD.out inf8 rfl (w32_all [na, va, vb, vc, nd, ve, vf, vg]) ?_))
          generalize hw8 : World.setRow _ _ _ = w8
          have hV8 : SvS w M gm sb gw gv S (U (t + 1)) w8 := by
            rw [← hw8]
            refine ⟨⟨RowV.row_far HS7.out.m.r _ _ (by omega), RowV.row_far HS7.out.m.s _ _ (by omega), reads_row_far HS7.out.m.p (by omega) _, below_setRow HS7.out.m.b (by omega) _⟩, RowV.row_far HS7.out.w _ _ (by omega), ?_⟩
            rw [HUN.out]
            exact setRow_heap _ _ _ _ _ _ HOLD.out
          have HV8 := Lib.hid hV8
          clear hw8 hV8 HOLD c0 c1 c2 c3 c4 c5 c6 A6 A6m A7 A7m HS7 HUN
          go_wp2_with fail
          exact ⟨⟨t + 1, by omega, by go_num, HV8⟩, by simp [intOf]; omega⟩
        · have ht64 : t = 64 := by omega
          have HM0 : Hid (MxS w M gm sb (U 64) gv 0 wr) := Lib.hid (by
            have h := HV.out
            rw [ht64] at h
            exact ⟨h.m.r, h.m.s, h.m.p, h.m.b, h.v⟩)
          have d1 : decide ((t : Int) < 64) = false := decide_eq_false (by omega)
          have huo := HUO.out 64
          generalize U 64 = u at *
          generalize (t : Int) = tI at *
          clear ht64 h64 ht HV HUS HUO HU0 HSL HSLT
          have HUO := Lib.hid huo
          clear huo
          go_wp2_with fail
          clear d1
          obtain ⟨wo, rfl⟩ : ∃ wo : World, wo = wr := ⟨_, rfl⟩
          go_loopw [11] (fun iv wr => ∃ i : Nat, i ≤ 8 ∧ iv = .int .i64 i ∧ Hid (MxS w M gm sb u gv i wr)) (fun iv _ => 8 - (intOf iv).toNat)
          case atStart => exact ⟨0, by omega, rfl, HM0⟩
          case round =>
            obtain ⟨i, hi, rfl, HX⟩ := hrel
            clear HM0
            by_cases h8 : i < 8
            · have hset := mixL_set sb u h8
              have c5 : Hid (∀ W, MxS w M gm sb u gv i W → W.cell? ⟨w.heap.size + 1, i, none⟩ = some (.int .u32 ((mixL sb u i).getD i 0 : Nat))) := Lib.hid fun W h => h.s.cell (k := i) (by rw [mixL_len sb u hi]; exact h8)
              have c6 : Hid (∀ W, MxS w M gm sb u gv i W → W.cell? ⟨gv, i, none⟩ = some (.int .u32 ((stL u).getD i 0 : Nat))) := Lib.hid fun W h => h.v.cell (k := i) h8
              have a1 := wrap_add22 ((mixL sb u i).getD i 0) ((stL u).getD i 0)
              generalize (mixL sb u i).getD i 0 = pp at *
              generalize (stL u).getD i 0 = qq at *
              generalize Sha.add32 pp qq = rr at *
              have HSET := Lib.hid hset
              clear hset
              have d2 : decide ((i : Int) < 8) = true := decide_eq_true (by omega)
              have i0' : (0 : Int) ≤ (i : Int) := by omega
              have i1' : (i : Int) < 8 := by omega
              go_upto_region 17 with fail
              obtain ⟨wd, hwd⟩ : ∃ x : World, x = wr.drew := ⟨_, rfl⟩
              have HWd : Hid (MxS w M gm sb u gv i wd) := Lib.hid (by rw [hwd]; exact HX.out.keep (Below.drew (Below.refl _ _)))
              have HWDr := Lib.hid hwd
              clear hwd
              have x1 := c5.out _ HWd.out
              have x2 := c6.out _ HWd.out
              have x3 := HWd.out.s.free i
              have hbd := HWd.out.b
              clear c5 c6 HX
              refine wp_region_still_tail 9 (by kernel_rfl) (by kernel_rfl) ?_
              simp only [List.take_succ_cons, List.take_zero, List.drop_succ_cons, List.drop_zero]
              change wpStill _ _ wr.drew _ _ _
              rw [← HWDr.out]
              repeat still_step
              refine wpStill_nil ?_
              change wpList _ _ _ _ _ wr.drew
              rw [← HWDr.out]
              go_wp2_with fail
              have hn : MxS w M gm sb u gv (i + 1) (wd.setCell ⟨w.heap.size + 1, i, none⟩ (.int .u32 (rr : Int))) := by
                refine ⟨RowV.far HWd.out.r _ _ (by simp), ?_, reads_cell_far HWd.out.p _ _ ?_, hbd.setCell (p := ⟨w.heap.size + 1, i, none⟩) (by show w.heap.size ≤ w.heap.size + 1; omega) _, RowV.far HWd.out.v _ _ (by simp; omega)⟩
                · have := HWd.out.s.set_ i rr
                  rw [HSET.out] at this
                  exact this
                · exact hgne
              exact ⟨⟨i + 1, by omega, by go_num, Lib.hid hn⟩, by simp [intOf]; omega⟩
            · have hi8 : i = 8 := by omega
              have HN : Hid (SmS w M gm (Sha.blocks (j + 1) Sha.st0 M) wr) := Lib.hid (by
                have h := HX.out
                rw [hi8] at h
                refine ⟨h.r, ?_, h.p, h.b⟩
                rw [← HUP.out]
                exact h.s)
              have d2 : decide ((i : Int) < 8) = false := decide_eq_false (by omega)
              obtain ⟨qe, hqe2, hq64, hme⟩ := next_q B M.length j q HB.out hMmax HHLT.out HHQ.out
              have HQ64 := Lib.hid hq64; have HQE := Lib.hid hqe2; have HME := Lib.hid hme
              generalize (i : Int) = iI at *
              clear h8 hi hi8 HX HUP hq64 hqe2 hme
              have hq64 := HQ64.out
              go_wp2_with fail
              (try rw [HQ64.out])
              exact ⟨⟨j + 1, qe, by have := HHLT.out; omega, HQE.out, rfl, HN⟩, HME.out⟩
    · have hjB : j = B := by omega
      have hq2 : q = 64 * B := by rw [hq, hjB]
      have hs : Row32 wr (w.heap.size + 1) 183 (stL (Sha.blocks B Sha.st0 M)) := by rw [← hjB]; exact HS.out.s
      have hz : RowV wr w.heap.size 191 (b8 (preN 32 R 0)) := by rw [show preN 32 R 0 = List.replicate 32 0 by simp [preN]]; exact HS.out.r
      have hok := Sha.blocks_ok B Sha.st0 M Sha.st0_ok
      have hRo := HRS.out
      generalize Sha.blocks B Sha.st0 M = sf at *
      have hRl : R.length = 32 := by rw [hRo]; rfl
      have hout : ∀ i, i < 32 → R.getD i 0 = (Sha.bytes4 ((stL sf).getD (i / 4) 0)).getD (i % 4) 0 := fun i hi => by
        have := out_at sf (q := i / 4) (r := i % 4) (by omega) (by omega)
        rw [show 4 * (i / 4) + i % 4 = i by omega] at this
        rw [hRo]; exact this
      have hlt5 := stL_lt hok
      have dq : decide ((q : Int) < (M.length : Int)) = false := decide_eq_false (by have := HB.out; omega)
      have dq2 : decide (q < M.length) = false := decide_eq_false (by have := HB.out; omega)
      have hgo2 : w.heap.size + 1 < wr.heap.size := Row32.lt hs
      have HSF := Lib.hid hs; have HZ := Lib.hid hz; have HOUT := Lib.hid hout; have HRL := Lib.hid hRl; have HLT := Lib.hid hlt5
      clear hs hz hok hRo hout hRl hlt5 hlt hjB hq2 HS hq hj
      obtain ⟨go, hgo⟩ : ∃ go, go = wr.heap.size := ⟨_, rfl⟩
      go_wp2_with fail
      rw [← hgo]
      have HGO := Lib.hid hgo
      have hgo3 : w.heap.size + 1 < go := by omega
      clear hgo dq dq2 hgo2
      obtain ⟨wo, rfl⟩ : ∃ wo : World, wo = wr := ⟨_, rfl⟩
      go_loopw [13] (fun iv wr => ∃ i : Nat, i ≤ 32 ∧ iv = .int .i64 i ∧ Hid (RowV wr go 191 (b8 (preN 32 R i))) ∧ Hid (Row32 wr (w.heap.size + 1) 183 (stL sf)) ∧ Hid (RowV wr w.heap.size 191 (b8 (preN 32 R 0))) ∧ Below w.heap.size w wr) (fun iv _ => 32 - (intOf iv).toNat)
      case atStart =>
        refine ⟨0, by omega, rfl, Lib.hid ?_, Lib.hid (RowV.alloc HSF.out _), Lib.hid (RowV.alloc HZ.out _), hbw.alloc (by have := HGO.out; omega) _⟩
        rw [HGO.out]; exact (heap_alloc_new wo _).trans rfl
      case round =>
        obtain ⟨i, hi, rfl, HOr, HBr, HZr, hbr⟩ := hrel
        clear HSF HZ hbw
        have hgl : go < wr.heap.size := RowV.lt HOr.out
        by_cases hi32 : i < 32
        · have cst : wr.cell? ⟨w.heap.size + 1, i / 4, none⟩ = some (.int .u32 ((stL sf).getD (i / 4) 0 : Nat)) := RowV.cell HBr.out (w32_at _ (by show i / 4 < 8; omega))
          have cou : wr.cell? ⟨go, i, none⟩ = some (.int .u8 ((preN 32 R i).getD i 0 : Nat)) := RowV.cell HOr.out (b8_at _ (by rw [preN_len HRL.out hi]; exact hi32))
          have fou : wr.frozen? ⟨go, i, none⟩ = false := RowV.free HOr.out i
          have hq0 : (0 : Int) ≤ (i : Int) / 4 := by omega
          have hq8 : (i : Int) / 4 < 8 := by omega
          have hlt5 := HLT.out (i / 4)
          generalize hy : (stL sf).getD (i / 4) 0 = y at *
          have hr4 : i % 4 = 0 ∨ i % 4 = 1 ∨ i % 4 = 2 ∨ i % 4 = 3 := by omega
          have HY := Lib.hid hy
          clear hy
          rcases hr4 with h4 | h4 | h4 | h4
          · have hr : (i : Int) % 4 = 0 := by omega
            have hval : R.getD i 0 = y / 16777216 := by rw [HOUT.out i hi32, h4, HY.out]; rfl
            go_wp2_with fail
            have hcast : (y : Int) / 16777216 = ((R.getD i 0 : Nat) : Int) := by rw [hval]; simp
            rw [hcast]
            refine ⟨⟨i + 1, by omega, by go_num, Lib.hid ?_, Lib.hid (RowV.far HBr.out _ _ (by simp; omega)), Lib.hid (RowV.far HZr.out _ _ (by simp; omega)), hbr.setCell (p := ⟨go, i, none⟩) (by show w.heap.size ≤ go; omega) _⟩, by simp [intOf]; omega⟩
            have := RowV.set_ HOr.out i (.int .u8 ((R.getD i 0 : Nat) : Int))
            rw [← b8_set, preN_succ HRL.out hi32] at this
            exact this
          · have hr : (i : Int) % 4 = 1 := by omega
            have hval : R.getD i 0 = y / 65536 % 256 := by rw [HOUT.out i hi32, h4, HY.out]; rfl
            go_wp2_with fail
            have hcast : (y : Int) / 65536 % 256 = ((R.getD i 0 : Nat) : Int) := by rw [hval]; simp
            rw [hcast]
            refine ⟨⟨i + 1, by omega, by go_num, Lib.hid ?_, Lib.hid (RowV.far HBr.out _ _ (by simp; omega)), Lib.hid (RowV.far HZr.out _ _ (by simp; omega)), hbr.setCell (p := ⟨go, i, none⟩) (by show w.heap.size ≤ go; omega) _⟩, by simp [intOf]; omega⟩
            have := RowV.set_ HOr.out i (.int .u8 ((R.getD i 0 : Nat) : Int))
            rw [← b8_set, preN_succ HRL.out hi32] at this
            exact this
          · have hr : (i : Int) % 4 = 2 := by omega
            have hval : R.getD i 0 = y / 256 % 256 := by rw [HOUT.out i hi32, h4, HY.out]; rfl
            go_wp2_with fail
            have hcast : (y : Int) / 256 % 256 = ((R.getD i 0 : Nat) : Int) := by rw [hval]; simp
            rw [hcast]
            refine ⟨⟨i + 1, by omega, by go_num, Lib.hid ?_, Lib.hid (RowV.far HBr.out _ _ (by simp; omega)), Lib.hid (RowV.far HZr.out _ _ (by simp; omega)), hbr.setCell (p := ⟨go, i, none⟩) (by show w.heap.size ≤ go; omega) _⟩, by simp [intOf]; omega⟩
            have := RowV.set_ HOr.out i (.int .u8 ((R.getD i 0 : Nat) : Int))
            rw [← b8_set, preN_succ HRL.out hi32] at this
            exact this
          · have hr : (i : Int) % 4 = 3 := by omega
            have hval : R.getD i 0 = y % 256 := by rw [HOUT.out i hi32, h4, HY.out]; rfl
            go_wp2_with fail
            have hcast : (y : Int) % 256 = ((R.getD i 0 : Nat) : Int) := by rw [hval]; simp
            rw [hcast]
            refine ⟨⟨i + 1, by omega, by go_num, Lib.hid ?_, Lib.hid (RowV.far HBr.out _ _ (by simp; omega)), Lib.hid (RowV.far HZr.out _ _ (by simp; omega)), hbr.setCell (p := ⟨go, i, none⟩) (by show w.heap.size ≤ go; omega) _⟩, by simp [intOf]; omega⟩
            have := RowV.set_ HOr.out i (.int .u8 ((R.getD i 0 : Nat) : Int))
            rw [← b8_set, preN_succ HRL.out hi32] at this
            exact this
        · have h32 : i = 32 := by omega
          have hO : wr.heap[go]? = some (.cells (b8 R).toArray 191 (0, 0)) := by have := HOr.out; rw [h32, preN_all HRL.out] at this; exact this
          have hi8 : (Tryz.prog.info? 191).map (·.size) = some (b8 R).toArray.size := by rw [List.size_toArray, b8_len, HRL.out]; kernel_rfl
          have hz8 : (b8 (preN 32 R 0)).toArray.size = (b8 R).toArray.size := by rw [List.size_toArray, List.size_toArray, b8_len, b8_len, HRL.out, preN_len HRL.out (by omega)]
          have h1 : (b8 R).toArray.all (·.oneCell') = true := by rw [List.all_toArray, List.all_eq_true]; exact b8_one R
          have HO := Lib.hid hO; have HI8 := Lib.hid hi8; have HZ8 := Lib.hid hz8; have H18 := Lib.hid h1
          clear hO hi8 hz8 h1 h32 HOr hi
          generalize (b8 R).toArray = Y at *
          go_wp2_with (first | (refine wpList_load_row rfl _ _ rfl go rfl _ Y (0, 0) _ HO.out Tryz.underlying191 rfl HI8.out ?_) | (refine wpList_store_row rfl _ _ _ rfl w.heap.size Y rfl rfl _ _ HZr.out HI8.out HZ8.out H18.out ?_))
          refine bodyPost_ret (v := .agg Y) ?_ rfl ⟨rfl, ?_⟩
          · exact results_cell_row rfl _ _ w.heap.size _ _ (0, 0) _ rfl (setRow_heap _ _ _ _ _ _ HZr.out) Tryz.underlying191 rfl HI8.out
          · exact below_setRow hbr (Nat.le_refl _) _
end Go.Proofs.YtjhlpkhfdghngaaGreatDoor
namespace Go.Proofs.YtjhlpkhfdghngaaGreatDoor
open Go.RowKit Go.Sort
set_option linter.unusedVariables false
set_option linter.unusedSimpArgs false
set_option maxRecDepth 100000
theorem infDig16 : (Tryz.prog.info? 38).map (·.size) = some 16 := by kernel_rfl
theorem run_dig0 (W : World) : (Instr.build 38 #[]).run Tryz.prog W = .ok (.agg (b8 (List.replicate 16 0)).toArray) W := by kernel_rfl
theorem b8_all (l : List Nat) : (b8 l).toArray.all (·.oneCell') = true := by rw [List.all_toArray, List.all_eq_true]; exact b8_one l
structure ShS (w : World) (R : List Nat) (gh go i : Nat) (W : World) : Prop where
  r : RowV W w.heap.size 38 (b8 (List.replicate 16 0))
  h : RowV W gh 191 (b8 R)
  o : RowV W go 38 (b8 (preN 16 (R.take 16) i))
  b : Below w.heap.size w W
set_option maxHeartbeats 8000000 in
theorem rShort_any (A : Option Addr) (n c : Nat) (m : List Nat) (w : World) (hR : Reads w 1 A n (b8 m)) (hm : ∀ x ∈ m, x < 256) (hn : n ≤ 100000000000) (hK : Ks2 w) : Calls Tryz.prog 131 #[.slice A n c] w (Ret w (.agg (b8 ((Sha.sum m).take 16)).toArray)) := by
  have cS := fun (W : World) (hb : Below w.heap.size w W) => rSum_any A n c m W (hR.keep hb) hm hn (hK.keep hb)
  have hl : (Sha.sum m).length = 32 := rfl
  generalize Sha.sum m = R at *
  have h32 : (b8 R).toArray.size = 32 := by rw [List.size_toArray, b8_len, hl]
  have HCS := Lib.hid cS; have HL := Lib.hid hl; have H32 := Lib.hid h32
  have HI32 := Lib.hid (show (Tryz.prog.info? 191).map (·.size) = some (b8 R).toArray.size by rw [h32]; kernel_rfl)
  have HZ32 := Lib.hid (show (b8 (List.replicate 32 0)).toArray.size = (b8 R).toArray.size by rw [h32]; rfl)
  have HO32 := Lib.hid (b8_all R)
  clear cS hl h32 hR hm hn hK
  generalize hX : (b8 R).toArray = X at *
  have HX := Lib.hid hX
  clear hX
  go_enter Tryz.func131, Tryz.ntmps131
  go_upto_region 1 with fail
  generalize hw0 : World.alloc _ _ = w0
  have hr0 : RowV w0 w.heap.size 38 (b8 (List.replicate 16 0)) := by rw [← hw0]; exact (heap_alloc_new w _).trans rfl
  have hb0 : Below w.heap.size w w0 := by rw [← hw0]; exact belB
  clear hw0
  go_upto_region 2 with (first
    | (go_at_call 199; refine (HCS.out _ hb0).mono ?_; rintro e w1 ⟨rfl, hb1⟩)
    | (refine wpList_store_row rfl 191 _ _ rfl w1.heap.size X rfl rfl _ (b8 (List.replicate 32 0)).toArray ((heap_alloc_new w1 _).trans rfl) HI32.out HZ32.out HO32.out ?_))
  obtain ⟨gh, hgh⟩ : ∃ g, g = w1.heap.size := ⟨_, rfl⟩
  rw [← hgh]
  generalize hw2 : World.setRow _ _ _ = w2
  have hbb2 : Below w1.heap.size w1 w2 := by rw [← hw2, hgh]; exact below_setRow ((Below.refl _ _).alloc (Nat.le_refl _) _) (Nat.le_refl _) _
  have hh2 : RowV w2 gh 191 (b8 R) := by
    rw [← hw2, hgh]
    unfold RowV
    rw [HX.out]
    exact setRow_heap _ _ _ _ _ _ (heap_alloc_new w1 _)
  have hr2 := RowV.keep (RowV.keep hr0 hb1) hbb2
  have hb2 := bstep (bstep hb0 hb1) hbb2
  have hgs : w.heap.size < gh := by have := RowV.lt (RowV.keep hr0 hb1); omega
  clear hw2 hbb2 hr0 hb0 hb1 hgh
  clear w1 w0
  go_upto_region 3 with (first
    | (refine wpList_build_as rfl 38 _ rfl _ (by kernel_rfl) _ (run_dig0 _) ?_)
    | (refine wpList_store_row rfl 38 _ _ rfl w2.heap.size (b8 (List.replicate 16 0)).toArray rfl rfl _ (b8 (List.replicate 16 0)).toArray ((heap_alloc_new w2 _).trans rfl) infDig16 rfl (b8_all _) ?_))
  obtain ⟨go, hgo⟩ : ∃ g, g = w2.heap.size := ⟨_, rfl⟩
  rw [← hgo]
  generalize hw3 : World.setRow _ _ _ = w3
  have hbb3 : Below w2.heap.size w2 w3 := by rw [← hw3, hgo]; exact below_setRow ((Below.refl _ _).alloc (Nat.le_refl _) _) (Nat.le_refl _) _
  have hS0 : ShS w R gh go 0 w3 := by
    refine ⟨RowV.keep hr2 hbb3, RowV.keep hh2 hbb3, ?_, bstep hb2 hbb3⟩
    rw [← hw3, hgo, show preN 16 (R.take 16) 0 = List.replicate 16 0 by simp [preN]]
    exact setRow_heap _ _ _ _ _ _ (heap_alloc_new w2 _)
  have hgs2 : gh < go := by have := RowV.lt hh2; omega
  have HS0 := Lib.hid hS0
  clear hw3 hbb3 hS0 hr2 hh2 hb2 hgo HCS HI32 HZ32 HO32 H32
  clear w2
  have hR16 : (R.take 16).length = 16 := by rw [List.length_take, HL.out]; rfl
  go_wp2_with fail
  go_loopw [5] (fun iv wr => ∃ i : Nat, i ≤ 16 ∧ iv = .int .i64 i ∧ Hid (ShS w R gh go i wr)) (fun iv _ => 16 - (intOf iv).toNat)
  case atStart => exact ⟨0, by omega, rfl, HS0⟩
  case round =>
    obtain ⟨i, hi, rfl, HS⟩ := hrel
    clear HS0
    have hbw := HS.out.b
    by_cases h16 : i < 16
    · have c1 : wr.cell? ⟨gh, i, none⟩ = some (.int .u8 (R.getD i 0 : Nat)) := RowV.cell HS.out.h (b8_at R (by rw [HL.out]; omega))
      have c2 : wr.cell? ⟨go, i, none⟩ = some (.int .u8 ((preN 16 (R.take 16) i).getD i 0 : Nat)) := RowV.cell HS.out.o (b8_at _ (by rw [preN_len hR16 hi]; exact h16))
      have f2 : wr.frozen? ⟨go, i, none⟩ = false := RowV.free HS.out.o i
      have e1 : (R.take 16).getD i 0 = R.getD i 0 := Sha.getD_take h16
      have hn : ∀ W, ShS w R gh go i W → ShS w R gh go (i + 1) (W.setCell ⟨go, i, none⟩ (.int .u8 (R.getD i 0 : Nat))) := fun W h => by
        refine ⟨RowV.far h.r _ _ (by simp; omega), RowV.far h.h _ _ (by simp; omega), ?_, h.b.setCell (p := ⟨go, i, none⟩) (by show w.heap.size ≤ go; omega) _⟩
        have := RowV.set_ h.o i (.int .u8 ((R.getD i 0 : Nat) : Int))
        rw [← e1, ← b8_set, preN_succ hR16 h16, e1] at this
        exact this
      have HN := Lib.hid hn
      clear hn e1
      generalize R.getD i 0 = x at *
      go_wp2_with fail
      exact ⟨⟨i + 1, by omega, by go_num, Lib.hid (HN.out _ HS.out)⟩, by simp [intOf]; omega⟩
    · have h16' : i = 16 := by omega
      have hO : wr.heap[go]? = some (.cells (b8 (R.take 16)).toArray 38 (0, 0)) := by have := HS.out.o; rw [h16', preN_all hR16] at this; exact this
      have hi8 : (Tryz.prog.info? 38).map (·.size) = some (b8 (R.take 16)).toArray.size := by rw [List.size_toArray, b8_len, hR16]; exact infDig16
      have hz8 : (b8 (List.replicate 16 0)).toArray.size = (b8 (R.take 16)).toArray.size := by rw [List.size_toArray, List.size_toArray, b8_len, b8_len, hR16]; rfl
      have HO := Lib.hid hO; have HI8 := Lib.hid hi8; have HZ8 := Lib.hid hz8; have H18 := Lib.hid (b8_all (R.take 16)); have HRR := Lib.hid HS.out.r
      clear hO hi8 hz8 h16' HS hi
      generalize (b8 (R.take 16)).toArray = Y at *
      go_wp2_with (first | (refine wpList_load_row rfl _ _ rfl go rfl _ Y (0, 0) _ HO.out Tryz.underlying38 rfl HI8.out ?_) | (refine wpList_store_row rfl _ _ _ rfl w.heap.size Y rfl rfl _ _ HRR.out HI8.out HZ8.out H18.out ?_))
      refine bodyPost_ret (v := .agg Y) ?_ rfl ⟨rfl, ?_⟩
      · exact results_cell_row rfl _ _ w.heap.size _ _ (0, 0) _ rfl (setRow_heap _ _ _ _ _ _ HRR.out) Tryz.underlying38 rfl HI8.out
      · exact below_setRow hbw (Nat.le_refl _) _
theorem input_len (tag : Nat) : ∀ ps : List ByteArray, (∀ s ∈ ps, s.size ≤ 1000000) → (Sha.input tag (ps.map nb)).length ≤ 1 + ps.length * 1000011
  | [], _ => by simp [Sha.input]
  | s :: l, h => by
    have ih := input_len tag l (fun x hx => h x (by simp [hx]))
    have h1 := (wireB_len s).2
    have h2 := h s (by simp)
    unfold Sha.input at ih ⊢
    simp only [List.map_cons, List.flatMap_cons, List.length_cons, List.length_append] at ih ⊢
    omega
theorem input_lt (tag : Nat) (ht : tag < 256) (ps : List ByteArray) (hs : ∀ s ∈ ps, s.size ≤ 1000000) : ∀ x ∈ Sha.input tag (ps.map nb), x < 256 := by
  intro x hx
  unfold Sha.input at hx
  rcases List.mem_cons.1 hx with h | h
  · omega
  · obtain ⟨l, hl, hxl⟩ := List.mem_flatMap.1 h
    obtain ⟨s, hsm, rfl⟩ := List.mem_map.1 hl
    exact wireB_lt s (by have := hs s hsm; omega) x hxl
set_option maxHeartbeats 8000000 in
theorem rInput_any (tag : Nat) (ht : tag < 256) (A : Option Addr) (n c : Nat) (ps : List ByteArray) (w : World) (hR : Reads w 1 A n (ps.map .string)) (hn : n ≤ 10000) (hs : ∀ s ∈ ps, s.size ≤ 1000000) : Calls Tryz.prog 132 #[.int .i64 (tag : Int), .slice A n c] w (OwnB (Sha.input tag (ps.map nb)) w) := by
  obtain ⟨i0, hi, hz0, hz1, hz2⟩ := info_parts infoByte22
  have HI := Lib.hid (And.intro hi (And.intro hz0 (And.intro hz1 hz2)))
  clear hi hz0 hz1 hz2
  have hl : ps.length = n := by have := hR.1; simp at this; omega
  have cB := fun (s : ByteArray) (hm : s ∈ ps) (W : World) => rBytes01_any s W (by have := hs s hm; omega)
  have hwl := fun (s : ByteArray) (hm : s ∈ ps) => Nat.le_trans (wireB_len s).2 (show 11 + s.size ≤ 1000011 by have := hs s hm; omega)
  obtain ⟨V, hV⟩ : ∃ V, V = Sha.input tag (ps.map nb) := ⟨_, rfl⟩
  have hV0 : V = [tag] ++ (ps.map nb).flatMap Sha.wireB := hV
  rw [← hV]
  have ht1 : IntKind.u8.wrap (tag : Int) = tag := IntWalk.u8_in _ (by omega)
  have ht2 : (tag : Int) % 256 = tag := by omega
  have HR := Lib.hid hR; have HL := Lib.hid hl; have HB := Lib.hid cB; have HV := Lib.hid hV0; have HW := Lib.hid hwl
  clear hR hl cB hV hV0 hs hwl
  go_enter Tryz.func132, Tryz.ntmps132
  go_wp2_with fail
  clear ht1 ht2
  go_loopw [5, 6] (fun pv iv wr => ∃ (k : Nat) (acc : List Nat) (B : Option Addr) (d : Nat), k ≤ n ∧ iv = .int .i64 k ∧ pv = .slice B acc.length d ∧ acc.length ≤ 1 + k * 1000011 ∧ Hid (V = acc ++ ((ps.drop k).map nb).flatMap Sha.wireB) ∧ wr.ownsRow w.heap.size 5 1 (.slice B acc.length d) acc.length (b8 acc) ∧ Below w.heap.size w wr) (fun _ iv _ => n - (intOf iv).toNat)
  case atStart => exact ⟨0, [tag], some ⟨w.heap.size, 0, none⟩, 1, by omega, rfl, rfl, by simp, Lib.hid (by rw [HV.out]; rfl), own_one w w.heap.size tag (Nat.le_refl _), (Below.refl _ _).alloc (Nat.le_refl _) _⟩
  case round =>
    obtain ⟨k, acc, B, d, hk, rfl, rfl, hak, HVA, hown, hbr⟩ := hrel
    obtain ⟨q, hq⟩ : ∃ q, q = acc.length := ⟨_, rfl⟩
    rw [← hq] at hown hak ⊢
    by_cases hlt : k < n
    · obtain ⟨s, hsx⟩ : ∃ s, ps[k]? = some s := ⟨_, List.getElem?_eq_getElem (by have := HL.out; omega)⟩
      have hsm := List.mem_of_getElem? hsx
      obtain ⟨b, o, rfl, hcell⟩ := (HR.out.keep hbr).2 (by omega)
      have y0 : wr.cell? ⟨b, o + k, none⟩ = some (.string s) := hcell k _ (by simp [hsx])
      have hd : ps.drop k = s :: ps.drop (k + 1) := by
        obtain ⟨hl2, rfl⟩ := List.getElem?_eq_some_iff.1 hsx
        exact List.drop_eq_getElem_cons hl2
      have hVA := HVA.out
      rw [hd, List.map_cons, List.flatMap_cons, ← List.append_assoc] at hVA
      have hby := HB.out s hsm
      have hwl := HW.out s hsm
      generalize Sha.wireB (nb s) = wb at *
      obtain ⟨p, hp⟩ : ∃ p, p = wb.length := ⟨_, rfl⟩
      unfold OwnB at hby
      rw [← hp] at hby hwl
      have HBY := Lib.hid hby; have HVB := Lib.hid hVA; have HQ := Lib.hid hq; have HPP := Lib.hid hp; have HWL := Lib.hid hwl; have HAK := Lib.hid hak
      clear hby hVA hq hp hwl hak hcell hd hsx hsm HVA
      have hk0 : (0 : Int) ≤ (k : Int) := by omega
      have hk1 : (k : Int) < (n : Int) := by omega
      have HO := Lib.hid hown
      clear hown
      go_wp2_with (first
        | (go_at_call 200; refine (HBY.out _).mono ?_; rintro e w2 ⟨A2, c2, rfl, hown2, hb2⟩)
        | (at_builtin; refine wpList_append_reads _ rfl _ _ 173 rfl w.heap.size 5 i0 (.int .u8 0) 1 Tryz.underlying173 HI.out.1 HI.out.2.1 HI.out.2.2.1 HI.out.2.2.2 rfl _ _ _ rfl (ownsRow_keep HO.out hb2) A2 p c2 (b8 wb) rfl (reads_own hown2) (b8_one _) (by have := HAK.out; have := HWL.out; unfold maxLen; omega) (by have := HAK.out; have := HWL.out; omega) (by have := hbr.size; have := hb2.size; omega) ?_; intro v3 w3 hown3 hg3; obtain ⟨B3, d3, rfl⟩ := own_slice hown3))
      have hl3 : (acc ++ wb).length = q + p := by rw [List.length_append, HQ.out, HPP.out]
      refine ⟨⟨k + 1, acc ++ wb, B3, d3, by omega, by go_num, by rw [hl3], by have := HAK.out; have := HWL.out; rw [hl3]; omega, Lib.hid HVB.out, ?_, ?_⟩, by simp [intOf]; omega⟩
      · rw [hl3, b8_app]; exact hown3
      · exact (bstep hbr hb2).grown hg3 (by have := hbr.size; have := hb2.size; omega) (fun r e => ownsRow_block (ownsRow_keep HO.out hb2) r e)
    · have hkn : k = n := by omega
      have hVe : V = acc := by
        rw [HVA.out, hkn, List.drop_eq_nil_of_le (by rw [HL.out]; exact Nat.le_refl _)]
        simp
      have hvl : V.length = q := by rw [hVe, hq]
      have HVE := Lib.hid hVe; have HVL := Lib.hid hvl; have HO := Lib.hid hown
      clear hVe hvl hown HVA hq
      go_wp2_with fail
      go_ret
      refine ⟨B, d, by rw [HVL.out]; rfl, ?_, hbr⟩
      rw [HVL.out, HVE.out]; exact HO.out
set_option maxHeartbeats 8000000 in
theorem rOf_any (tag : Nat) (ht : tag < 256) (A : Option Addr) (n c : Nat) (ps : List ByteArray) (w : World) (hR : Reads w 1 A n (ps.map .string)) (hn : n ≤ 10000) (hs : ∀ s ∈ ps, s.size ≤ 1000000) (hK : Ks2 w) : Calls Tryz.prog 67 #[.int .i64 (tag : Int), .slice A n c] w (Ret w (.agg (b8 (Sha.ofD tag (ps.map nb))).toArray)) := by
  have hl : ps.length = n := by have := hR.1; simp at this; omega
  have cI := fun (W : World) (hb : Below w.heap.size w W) => rInput_any tag ht A n c ps W (hR.keep hb) hn hs
  have hlen := input_len tag ps hs
  have hlt := input_lt tag ht ps hs
  unfold Sha.ofD
  generalize Sha.input tag (ps.map nb) = V at *
  have hvl : V.length ≤ 100000000000 := by rw [hl] at hlen; omega
  have cS := fun (B : Option Addr) (d : Nat) (W : World) (hRv : Reads W 1 B V.length (b8 V)) (hk : Ks2 W) => rShort_any B V.length d V W hRv hlt hvl hk
  have h16 : ((Sha.sum V).take 16).length = 16 := rfl
  generalize (Sha.sum V).take 16 = D at *
  have hi8 : (Tryz.prog.info? 38).map (·.size) = some (b8 D).toArray.size := by rw [List.size_toArray, b8_len, h16]; exact infDig16
  have hz8 : (b8 (List.replicate 16 0)).toArray.size = (b8 D).toArray.size := by rw [List.size_toArray, List.size_toArray, b8_len, b8_len, h16]; rfl
  have HI8 := Lib.hid hi8; have HZ8 := Lib.hid hz8; have H18 := Lib.hid (b8_all D); have HCI := Lib.hid cI; have HCS := Lib.hid cS; have HK := Lib.hid hK
  clear hi8 hz8 h16 cI cS hlen hlt hvl hl hR hn hs hK
  generalize (b8 D).toArray = Y at *
  go_enter Tryz.func67, Tryz.ntmps67
  go_upto_region 1 with fail
  generalize hw0 : World.alloc _ _ = w0
  have hr0 : RowV w0 w.heap.size 38 (b8 (List.replicate 16 0)) := by rw [← hw0]; exact (heap_alloc_new w _).trans rfl
  have hb0 : Below w.heap.size w w0 := by rw [← hw0]; exact belB
  clear hw0
  go_wp2_with (first
    | (go_at_call 132; refine (HCI.out _ hb0).mono ?_; rintro e w1 ⟨B1, d1, rfl, hown1, hb1⟩)
    | (go_at_call 131; refine (HCS.out _ _ _ (reads_own hown1) (HK.out.keep (bstep hb0 hb1))).mono ?_; rintro e w2 ⟨rfl, hb2⟩)
    | (refine wpList_store_row rfl _ _ _ rfl w.heap.size Y rfl rfl _ _ (RowV.keep (RowV.keep hr0 hb1) hb2) HI8.out HZ8.out H18.out ?_))
  refine bodyPost_ret (v := .agg Y) ?_ rfl ⟨rfl, ?_⟩
  · exact results_cell_row rfl _ _ w.heap.size _ _ (0, 0) _ rfl (setRow_heap _ _ _ _ _ _ (RowV.keep (RowV.keep hr0 hb1) hb2)) Tryz.underlying38 rfl HI8.out
  · exact below_setRow (bstep (bstep hb0 hb1) hb2) (Nat.le_refl _) _
end Go.Proofs.YtjhlpkhfdghngaaGreatDoor
namespace Go.Proofs.YtjhlpkhfdghngaaGreatDoor
open Go.RowKit Go.Sort
set_option linter.unusedVariables false
set_option linter.unusedSimpArgs false
set_option maxRecDepth 100000
def begB (p c : ByteArray) : Bool := if p.size < c.size then false else if ((p.extract 0 c.size).toList == c.toList) = false then false else if p.size = c.size then true else decide ((p.data.toList.getD c.size 0).toNat = 47)
set_option maxHeartbeats 4000000 in
theorem rBegins_any (p c : ByteArray) (w : World) (hp : p.size ≤ 100000) (hc : c.size ≤ 100000) : Calls Tryz.prog 59 #[.string p, .string c] w (Ret w (.bool (begB p c))) := by
  obtain ⟨V, hV⟩ : ∃ V, V = begB p c := ⟨_, rfl⟩
  rw [← hV]
  unfold begB at hV
  by_cases h1 : p.size < c.size
  · rw [if_pos h1] at hV
    subst hV
    have d1 : decide ((p.size : Int) < (c.size : Int)) = true := decide_eq_true (by omega)
    have d2 : decide (p.size < c.size) = true := decide_eq_true h1
    go_enter Tryz.func59, Tryz.ntmps59
    go_wp2
    go_ret
    exact ⟨rfl, belB⟩
  rw [if_neg h1] at hV
  have d1 : decide ((p.size : Int) < (c.size : Int)) = false := decide_eq_false (by omega)
  have d2 : decide (p.size < c.size) = false := decide_eq_false h1
  have d3 : (c.size : Int) ≤ (p.size : Int) := by omega
  have d4 : c.size ≤ p.size := by omega
  cases h2 : ((p.extract 0 c.size).toList == c.toList)
  · rw [if_pos h2] at hV
    subst hV
    have h3 : ((p.extract 0 c.size).toList != c.toList) = true := by simp only [bne, h2]; rfl
    go_enter Tryz.func59, Tryz.ntmps59
    go_wp2
    go_ret
    exact ⟨rfl, belB⟩
  rw [if_neg (by rw [h2]; simp)] at hV
  have h3 : ((p.extract 0 c.size).toList != c.toList) = false := by simp only [bne, h2]; rfl
  by_cases h4 : p.size = c.size
  · rw [if_pos h4] at hV
    subst hV
    have d5 : decide ((p.size : Int) = (c.size : Int)) = true := decide_eq_true (by omega)
    have d6 : decide (p.size = c.size) = true := decide_eq_true h4
    have d7 : (p.size == c.size) = true := by simpa using h4
    go_enter Tryz.func59, Tryz.ntmps59
    go_wp2
    go_ret
    exact ⟨rfl, belB⟩
  rw [if_neg h4] at hV
  have d5 : decide ((p.size : Int) = (c.size : Int)) = false := decide_eq_false (by omega)
  have d6 : decide (p.size = c.size) = false := decide_eq_false h4
  have d7 : (p.size == c.size) = false := by simpa using h4
  have d8 : (c.size : Int) < (p.size : Int) := by omega
  have d9 : c.size < p.size := by omega
  go_enter Tryz.func59, Tryz.ntmps59
  go_wp2
  have e0 : p.data.toList.getD c.size 0 = p[c.size] := by
    have h9 : c.size < p.data.toList.length := by rw [Array.length_toList]; exact d9
    rw [List.getD_eq_getElem?_getD, List.getElem?_eq_getElem h9, Option.getD_some, Array.getElem_toList]
    rfl
  have e1 : ((p.size : Int) == (c.size : Int)) = false := by
    rw [beq_eq_false_iff_ne]
    omega
  have e2 : (((p.size : Int) == (c.size : Int)) || ((p[c.size].toNat : Int) == 47)) = V := by
    rw [e1, Bool.false_or, hV, e0, Bool.eq_iff_iff, beq_iff_eq, decide_eq_true_eq]
    omega
  go_ret
  exact ⟨congrArg (fun b => Ending.returned (.bool b)) e2, belB⟩
end Go.Proofs.YtjhlpkhfdghngaaGreatDoor
namespace Go.Proofs.YtjhlpkhfdghngaaGreatDoor
open Go.RowKit Go.Sort
set_option linter.unusedVariables false
set_option linter.unusedSimpArgs false
set_option maxRecDepth 100000
def headL (p : List UInt8) : List UInt8 := (Lib.cut p [47]).1
theorem headL_nil : headL [] = [] := rfl
theorem headL_slash (l : List UInt8) : headL (47 :: l) = [] := by
  unfold headL Lib.cut
  rw [Lib.index_one, indexByte_cons, if_pos rfl]
  rfl
theorem headL_cons {b : UInt8} (hb : ¬ b = 47) (l : List UInt8) : headL (b :: l) = b :: headL l := by
  unfold headL Lib.cut
  rw [Lib.index_one, Lib.index_one, indexByte_cons, if_neg hb]
  have hg := indexByte_ge 47 l
  by_cases h : Lib.indexByte l 47 = -1
  · rw [if_pos h, h]
    rfl
  · rw [if_neg h, if_pos (by omega), if_pos (by omega)]
    obtain ⟨n, hn⟩ : ∃ n : Nat, Lib.indexByte l 47 = (n : Int) := ⟨(Lib.indexByte l 47).toNat, by omega⟩
    rw [hn, show ((n : Int) + 1).toNat = n + 1 by omega, show ((n : Nat) : Int).toNat = n by omega, List.take_succ_cons]
theorem head_iff : ∀ (p c : List UInt8), 47 ∉ c → (headL p = c ↔ (c.length ≤ p.length ∧ p.take c.length = c ∧ (p.length = c.length ∨ p.getD c.length 0 = 47)))
  | [], c, _ => by
    rw [headL_nil]
    cases c with
    | nil => simp
    | cons x c => simp
  | b :: l, c, hc => by
    by_cases hb : b = 47
    · subst hb
      rw [headL_slash]
      cases c with
      | nil => simp
      | cons x c =>
        have hx : ¬ x = 47 := fun e => hc (by rw [e]; simp)
        simp only [List.length_cons, List.take_succ_cons, List.cons.injEq]
        constructor
        · intro h; cases h
        · rintro ⟨_, ⟨h, _⟩, _⟩
          exact absurd h.symm hx
    · rw [headL_cons hb]
      cases c with
      | nil => simp [hb]
      | cons x c =>
        have ih := head_iff l c (fun h => hc (by simp [h]))
        simp only [List.length_cons, List.take_succ_cons, List.cons.injEq, List.getD_cons_succ, Nat.add_le_add_iff_right, Nat.add_right_cancel_iff]
        rw [ih]
        constructor
        · rintro ⟨h1, h2, h3, h4⟩
          exact ⟨h2, ⟨h1, h3⟩, h4⟩
        · rintro ⟨h2, ⟨h1, h3⟩, h4⟩
          exact ⟨h1, h2, h3, h4⟩
theorem toL (s : ByteArray) : s.toList = s.data.toList := Lib.toList_data s
theorem begB_cut {p c : ByteArray} (hc : isNameB c = true) : begB p c = sameB (cutB p) c := by
  have hw : isWordB c = true := by unfold isNameB at hc; rw [Bool.and_eq_true] at hc; exact hc.1
  have hi := head_iff p.data.toList c.data.toList (word_no hw).1
  have h0 : sameB (cutB p) c = true ↔ headL p.data.toList = c.data.toList := by
    unfold sameB cutB headL
    rw [beq_iff_eq, toL, toL]
    exact Iff.rfl
  have hsz : ∀ s : ByteArray, s.size = s.data.toList.length := fun s => by rw [Array.length_toList]; rfl
  have h1 : begB p c = true ↔ (c.data.toList.length ≤ p.data.toList.length ∧ p.data.toList.take c.data.toList.length = c.data.toList ∧ (p.data.toList.length = c.data.toList.length ∨ p.data.toList.getD c.data.toList.length 0 = 47)) := by
    unfold begB
    have he : ((p.extract 0 c.size).toList == c.toList) = true ↔ p.data.toList.take c.data.toList.length = c.data.toList := by
      rw [beq_iff_eq, toL, toL, ByteArray.data_extract, Array.toList_extract, ← hsz]
      simp
    rw [← hsz, ← hsz]
    by_cases a1 : p.size < c.size
    · rw [if_pos a1]
      constructor
      · intro h; cases h
      · rintro ⟨h, _⟩; omega
    · rw [if_neg a1]
      cases a2 : ((p.extract 0 c.size).toList == c.toList)
      · rw [if_pos rfl]
        constructor
        · intro h; cases h
        · rintro ⟨_, h, _⟩
          rw [← hsz] at he
          rw [he.2 h] at a2
          cases a2
      · rw [if_neg (by simp)]
        have a3 := he.1 a2
        rw [← hsz] at a3
        by_cases a4 : p.size = c.size
        · rw [if_pos a4]
          exact ⟨fun _ => ⟨by omega, a3, .inl a4⟩, fun _ => rfl⟩
        · rw [if_neg a4, decide_eq_true_eq]
          constructor
          · intro h
            exact ⟨by omega, a3, .inr (UInt8.toNat_inj.1 (by rw [h]; rfl))⟩
          · rintro ⟨_, _, h | h⟩
            · exact absurd h a4
            · rw [h]; rfl
  rw [Bool.eq_iff_iff, h1, h0, hi]
end Go.Proofs.YtjhlpkhfdghngaaGreatDoor
