/- The hash of a message: the walk of Stream.Sum. -/
import Derived.Test.YtokfclikhfpmhaaGreatDoorIZ16
import Derived.Test.YtokfclikhfpmhaaGreatDoorProg
import Derived.WalkKit
import Derived.WalkSpells
import Derived.WalkLawsBesides
import Derived.Below
import Derived.Deep.QuietTactic
import Derived.BigQuiet
import Derived.Lib.QuietBelow
import Derived.Lib.Strings
import Derived.Lib.Hide
import Derived.Deep.RegionWith
import Derived.Deep.RegionHeld3
import Derived.Lib.IndexBytes
import Derived.Test.YtokfclikhfpmhaaGreatDoorIZ15
import Derived.Test.YtokfclikhfpmhaaGreatDoorIZ7
import Derived.Test.YtokfclikhfpmhaaGreatDoorIZ14
import Derived.Test.YtokfclikhfpmhaaGreatDoorIZ0
namespace Go.Proofs.YtokfclikhfpmhaaGreatDoor
open Go.RowKit Go.Sort
set_option linter.unusedVariables false
set_option linter.unusedSimpArgs false
set_option maxRecDepth 100000
def preN (n : Nat) (S : List Nat) (t : Nat) : List Nat := S.take t ++ List.replicate (n - t) 0
section
variable {n : Nat} {S : List Nat}
theorem preN_succ (hS : S.length = n) {t : Nat} (ht : t < n) : (preN n S t).set t (S.getD t 0) = preN n S (t + 1) := by
  unfold preN
  have hl : (S.take t).length = t := by rw [List.length_take]; omega
  rw [List.set_append_right _ _ (by omega), hl, Nat.sub_self, show n - t = (n - (t + 1)) + 1 by omega, List.replicate_succ, List.set_cons_zero, List.take_add_one, List.getElem?_eq_getElem (by omega)]
  rw [List.getD_eq_getElem?_getD, List.getElem?_eq_getElem (by omega)]
  rw [List.append_assoc]; rfl
theorem preN_len (hS : S.length = n) {t : Nat} (ht : t ≤ n) : (preN n S t).length = n := by unfold preN; simp [hS]; omega
theorem preN_all (hS : S.length = n) : preN n S n = S := by unfold preN; rw [List.take_of_length_le (by omega)]; simp
end
theorem b8_set (L : List Nat) (k v : Nat) : b8 (L.set k v) = (b8 L).set k (.int .u8 (v : Int)) := by simp [b8, List.map_set]
theorem out_at (s : Sha.St) {q r : Nat} (hq : q < 8) (hr : r < 4) : (Sha.out s).getD (4 * q + r) 0 = (Sha.bytes4 ((stL s).getD q 0)).getD r 0 := by
  have h1 : q = 0 ∨ q = 1 ∨ q = 2 ∨ q = 3 ∨ q = 4 ∨ q = 5 ∨ q = 6 ∨ q = 7 := by omega
  have h2 : r = 0 ∨ r = 1 ∨ r = 2 ∨ r = 3 := by omega
  rcases h1 with rfl | rfl | rfl | rfl | rfl | rfl | rfl | rfl <;> rcases h2 with rfl | rfl | rfl | rfl <;> rfl
theorem stL_lt {s : Sha.St} (h : Sha.Ok s) (q : Nat) : (stL s).getD q 0 < 4294967296 := by
  obtain ⟨h0, h1, h2, h3, h4, h5, h6, h7⟩ := h
  unfold stL
  match q with
  | 0 => exact h0
  | 1 => exact h1
  | 2 => exact h2
  | 3 => exact h3
  | 4 => exact h4
  | 5 => exact h5
  | 6 => exact h6
  | 7 => exact h7
  | _ + 8 => exact (by decide : 0 < 4294967296)
theorem bytes8_len (x : Nat) : (Sha.bytes8 x).length = 8 := rfl
theorem own_one (w : World) (base x : Nat) (hb : base ≤ w.heap.size) : (w.alloc (.cells #[.int .u8 (x : Int)] 5)).ownsRow base 5 1 (.slice (some ⟨w.heap.size, 0, none⟩) 1 1) 1 (b8 [x]) :=
  ⟨rfl, .inr ⟨w.heap.size, 1, #[.int .u8 (x : Int)], rfl, hb, heap_alloc_new w _, Nat.le_refl _, by decide, rfl, rfl⟩⟩
theorem own_next {w : World} {base n j k : Nat} {v : Value} {P S : List Nat} {x : Int} (h : w.ownsRow base 5 1 v k (b8 (P ++ S.take j) ++ [.int .u8 x])) (hk : k = n + (j + 1)) (hx : x = ((S.getD j 0 : Nat) : Int)) (hj : j < S.length) :
    w.ownsRow base 5 1 v (n + (j + 1)) (b8 (P ++ S.take (j + 1))) := by
  rw [hk, hx] at h
  have e : b8 (P ++ S.take (j + 1)) = b8 (P ++ S.take j) ++ [.int .u8 ((S.getD j 0 : Nat) : Int)] := by
    rw [List.take_add_one, List.getElem?_eq_getElem hj, List.getD_eq_getElem?_getD, List.getElem?_eq_getElem hj, ← List.append_assoc, b8_app]; rfl
  rw [e]; exact h
theorem bytes8_lt {x : Nat} (hx : x < 18446744073709551616) : ∀ b ∈ Sha.bytes8 x, b < 256 := by
  intro b hb
  unfold Sha.bytes8 at hb
  rcases List.mem_append.1 hb with hb | hb
  · exact Sha.bytes4_lt (Nat.mod_lt _ (by decide)) b hb
  · exact Sha.bytes4_lt (Nat.mod_lt _ (by decide)) b hb
theorem padT_lt {n : Nat} (hn : n ≤ 100000000000) : ∀ b ∈ Sha.padT n, b < 256 := by
  intro b hb
  unfold Sha.padT at hb
  rcases List.mem_cons.1 hb with hb | hb
  · omega
  · rcases List.mem_append.1 hb with hb | hb
    · have := (List.mem_replicate.1 hb).2; omega
    · exact bytes8_lt (by omega) b hb
theorem grown_row {w w' : World} {base n g : Nat} {v : Value} {e t : TypeId} {xs cs : List Value} (hown : w.ownsRow base e 1 v n xs) (hg : w.grownBy w' v.ownBlock) (hlt : g < base) (h : RowV w g t cs) : RowV w' g t cs :=
  (hg.block g (RowV.lt h) (fun e => by have := ownsRow_block hown g e.symm; omega)).trans h
set_option maxHeartbeats 4000000 in
theorem sum_any (m : List Nat) (v : Value) (w : World) (hv : StrV m v) (hm : m.length ≤ 100000000000) (hK : Ks w) :
    Calls Tryz.prog 128 #[v] w (Ret w (.agg (b8 (Sha.sum m)).toArray)) := by
  obtain ⟨i0, hi, hz0, hz1, hz2⟩ := info_parts infoByte22
  have HI := Lib.hid (And.intro hi (And.intro hz0 (And.intro hz1 hz2)))
  clear hi hz0 hz1 hz2
  obtain ⟨st, blk, rfl, hst, hbk⟩ := hv
  obtain ⟨N, hN⟩ : ∃ N, N = m.length := ⟨_, rfl⟩
  have hN2 : N ≤ 100000000000 := by omega
  have hSV : StrV m (.agg (strLH st blk N).toArray) := ⟨st, blk, by rw [hN], hst, hbk⟩
  obtain ⟨R, hR⟩ : ∃ R, R = Sha.sum m := ⟨_, rfl⟩
  rw [← hN, ← hR]
  obtain ⟨X, hX⟩ : ∃ X, X = (strLH st blk N).toArray := ⟨_, rfl⟩
  rw [← hX] at hSV ⊢
  obtain ⟨p, hp⟩ : ∃ p, p = (119 - N % 64) % 64 := ⟨_, rfl⟩
  have hp2 : p ≤ 63 := by omega
  have hp3 : ∀ i, i ≤ p → ((N + 1 + i) % 64 = 56 ↔ i = p) := by intro i hi; omega
  have hblk := hst.len
  have HK := Lib.hid hK; have HSV := Lib.hid hSV; have HR := Lib.hid hR; have HX := Lib.hid hX; have HP := Lib.hid hp; have HP3 := Lib.hid hp3; have HN := Lib.hid hN; have HBL := Lib.hid hblk
  clear hK hSV hR hX hp hp3 hst hbk hN hblk hm
  go_enter Tryz.func128, Tryz.ntmps128
  go_upto_region 1 with fail
  generalize hw0 : World.alloc _ _ = w0
  have hB : RowV w0 w.heap.size 173 (strLH st blk N) := by rw [← hw0, ← show X.toList = strLH st blk N by rw [HX.out]]; exact (heap_alloc2_old w _ _).trans (by simp)
  have hZ : RowV w0 (w.heap.size + 1) 177 (b8 (preN 32 R 0)) := by rw [← hw0]; exact (heap_alloc2_new w _ _).trans rfl
  have hbw : Below w.heap.size w w0 := by rw [← hw0]; exact belB
  clear hw0
  have hz0 : w.heap.size + 1 < w0.heap.size := RowV.lt hZ
  have c72 : w0.cell? ⟨w.heap.size, 72, none⟩ = some (.int .u64 (N : Int)) := RowV.cell hB (strL_n HBL.out)
  have HB := Lib.hid hB; have HZ := Lib.hid hZ
  clear hB hZ
  go_wp2
  clear c72
  go_loopw [4] (fun pv wr => ∃ (i : Nat) (A : Option Addr) (c : Nat), i ≤ p ∧ pv = .slice A (1 + i) c ∧ wr.ownsRow (w.heap.size + 2) 5 1 (.slice A (1 + i) c) (1 + i) (b8 (128 :: List.replicate i 0)) ∧ Hid (RowV wr w.heap.size 173 (strLH st blk N)) ∧ Hid (RowV wr (w.heap.size + 1) 177 (b8 (preN 32 R 0))) ∧ Below w.heap.size w wr) (fun pv _ => match pv with | .slice _ n _ => 65 - n | _ => 0)
  case atStart =>
    refine ⟨0, some ⟨w0.heap.size, 0, none⟩, 1, by omega, rfl, own_one _ _ 128 (by omega), Lib.hid (RowV.alloc HB.out _), Lib.hid (RowV.alloc HZ.out _), (hbw.alloc (by omega) _)⟩
  case round =>
    obtain ⟨i, A, c, hi, rfl, hown, HBr, HZr, hbr⟩ := hrel
    clear HB HZ hbw
    have hbs : w.heap.size + 1 < wr.heap.size := RowV.lt HZr.out
    have c72 : wr.cell? ⟨w.heap.size, 72, none⟩ = some (.int .u64 (N : Int)) := RowV.cell HBr.out (strL_n HBL.out)
    have h56 := HP3.out i hi
    by_cases h : i = p
    · have hc : ((N : Int) + (1 + p)) % 64 = 56 := by omega
      have hpad : 128 :: List.replicate i 0 = (128 :: List.replicate p 0) ++ (Sha.bytes8 (8 * N)).take 0 := by rw [h]; simp
      have hn1 : 1 + i = 1 + p + 0 := by omega
      rw [hpad, hn1] at hown
      rw [hn1]
      clear hpad hn1 h56 h hi
      go_wp2_with fail
      obtain ⟨wo, rfl⟩ : ∃ wo : World, wo = wr := ⟨_, rfl⟩
      go_loopw [23, 4] (fun jv pv wr => ∃ (j : Nat) (A : Option Addr) (c : Nat), j ≤ 8 ∧ jv = .int .i64 j ∧ pv = .slice A (1 + p + j) c ∧ wr.ownsRow (w.heap.size + 2) 5 1 (.slice A (1 + p + j) c) (1 + p + j) (b8 ((128 :: List.replicate p 0) ++ (Sha.bytes8 (8 * N)).take j)) ∧ Hid (RowV wr w.heap.size 173 (strLH st blk N)) ∧ Hid (RowV wr (w.heap.size + 1) 177 (b8 (preN 32 R 0))) ∧ Below w.heap.size w wr) (fun jv _ _ => 8 - (intOf jv).toNat)
      case atStart => exact ⟨0, A, c, by omega, rfl, rfl, hown, HBr, HZr, hbr⟩
      case round =>
        clear HBr HZr hbr hown c72 hc
        obtain ⟨j, A, c, hj, rfl, rfl, hown, HBr, HZr, hbr⟩ := hrel
        have hbs : w.heap.size + 1 < wr.heap.size := RowV.lt HZr.out
        by_cases h8 : j < 8
        · have hj8 : j = 0 ∨ j = 1 ∨ j = 2 ∨ j = 3 ∨ j = 4 ∨ j = 5 ∨ j = 6 ∨ j = 7 := by omega
          clear h8 hj
          rcases hj8 with rfl | rfl | rfl | rfl | rfl | rfl | rfl | rfl
          · go_wp2_with (at_builtin; refine wpList_append_own _ rfl _ _ 128 rfl (w.heap.size + 2) 5 i0 (.int .u8 0) 1 1 Tryz.underlying128 HI.out.1 HI.out.2.1 HI.out.2.2.1 HI.out.2.2.2 rfl (by decide) _ _ _ rfl (hown.alloc _) ⟨wr.heap.size, 0, none⟩ 1 1 [_] rfl rfl (cell_one_new _ _ _) (by simp [Value.oneCell']) (by unfold maxLen; omega) (by omega) (by simp; omega) ?_; intro v' w3 hown1 hgrow1 _; obtain ⟨g1, cap1, rfl⟩ := ownsRow_succ hown1; have hb3 : Below w.heap.size w w3 := (hbr.alloc (by omega) _).grown hgrow1 (by simp; omega) (fun r e => by have := ownsRow_block hown r e; omega); have HB3 := Lib.hid (grown_row (hown.alloc _) hgrow1 (by omega) (RowV.alloc HBr.out _)); have HZ3 := Lib.hid (grown_row (hown.alloc _) hgrow1 (by omega) (RowV.alloc HZr.out _)); have hbs3 : w.heap.size + 1 < w3.heap.size := RowV.lt HZ3.out; clear hown)
            have hown2 := own_next (n := 1 + p) hown1 (by omega) (by simp [Sha.bytes8, Sha.bytes4] <;> omega) (by rw [bytes8_len]; omega)
            refine ⟨?_, by simp [intOf]⟩
            repeat apply Exists.intro
            exact ⟨⟨1, some ⟨g1, 0, none⟩, cap1, by omega, rfl, rfl, hown2, HB3, HZ3, hb3⟩, rfl⟩
          · go_wp2_with (at_builtin; refine wpList_append_own _ rfl _ _ 128 rfl (w.heap.size + 2) 5 i0 (.int .u8 0) 1 1 Tryz.underlying128 HI.out.1 HI.out.2.1 HI.out.2.2.1 HI.out.2.2.2 rfl (by decide) _ _ _ rfl (hown.alloc _) ⟨wr.heap.size, 0, none⟩ 1 1 [_] rfl rfl (cell_one_new _ _ _) (by simp [Value.oneCell']) (by unfold maxLen; omega) (by omega) (by simp; omega) ?_; intro v' w3 hown1 hgrow1 _; obtain ⟨g1, cap1, rfl⟩ := ownsRow_succ hown1; have hb3 : Below w.heap.size w w3 := (hbr.alloc (by omega) _).grown hgrow1 (by simp; omega) (fun r e => by have := ownsRow_block hown r e; omega); have HB3 := Lib.hid (grown_row (hown.alloc _) hgrow1 (by omega) (RowV.alloc HBr.out _)); have HZ3 := Lib.hid (grown_row (hown.alloc _) hgrow1 (by omega) (RowV.alloc HZr.out _)); have hbs3 : w.heap.size + 1 < w3.heap.size := RowV.lt HZ3.out; clear hown)
            have hown2 := own_next (n := 1 + p) hown1 (by omega) (by simp [Sha.bytes8, Sha.bytes4] <;> omega) (by rw [bytes8_len]; omega)
            refine ⟨?_, by simp [intOf]⟩
            repeat apply Exists.intro
            exact ⟨⟨2, some ⟨g1, 0, none⟩, cap1, by omega, rfl, rfl, hown2, HB3, HZ3, hb3⟩, rfl⟩
          · go_wp2_with (at_builtin; refine wpList_append_own _ rfl _ _ 128 rfl (w.heap.size + 2) 5 i0 (.int .u8 0) 1 1 Tryz.underlying128 HI.out.1 HI.out.2.1 HI.out.2.2.1 HI.out.2.2.2 rfl (by decide) _ _ _ rfl (hown.alloc _) ⟨wr.heap.size, 0, none⟩ 1 1 [_] rfl rfl (cell_one_new _ _ _) (by simp [Value.oneCell']) (by unfold maxLen; omega) (by omega) (by simp; omega) ?_; intro v' w3 hown1 hgrow1 _; obtain ⟨g1, cap1, rfl⟩ := ownsRow_succ hown1; have hb3 : Below w.heap.size w w3 := (hbr.alloc (by omega) _).grown hgrow1 (by simp; omega) (fun r e => by have := ownsRow_block hown r e; omega); have HB3 := Lib.hid (grown_row (hown.alloc _) hgrow1 (by omega) (RowV.alloc HBr.out _)); have HZ3 := Lib.hid (grown_row (hown.alloc _) hgrow1 (by omega) (RowV.alloc HZr.out _)); have hbs3 : w.heap.size + 1 < w3.heap.size := RowV.lt HZ3.out; clear hown)
            have hown2 := own_next (n := 1 + p) hown1 (by omega) (by simp [Sha.bytes8, Sha.bytes4] <;> omega) (by rw [bytes8_len]; omega)
            refine ⟨?_, by simp [intOf]⟩
            repeat apply Exists.intro
            exact ⟨⟨3, some ⟨g1, 0, none⟩, cap1, by omega, rfl, rfl, hown2, HB3, HZ3, hb3⟩, rfl⟩
          · go_wp2_with (at_builtin; refine wpList_append_own _ rfl _ _ 128 rfl (w.heap.size + 2) 5 i0 (.int .u8 0) 1 1 Tryz.underlying128 HI.out.1 HI.out.2.1 HI.out.2.2.1 HI.out.2.2.2 rfl (by decide) _ _ _ rfl (hown.alloc _) ⟨wr.heap.size, 0, none⟩ 1 1 [_] rfl rfl (cell_one_new _ _ _) (by simp [Value.oneCell']) (by unfold maxLen; omega) (by omega) (by simp; omega) ?_; intro v' w3 hown1 hgrow1 _; obtain ⟨g1, cap1, rfl⟩ := ownsRow_succ hown1; have hb3 : Below w.heap.size w w3 := (hbr.alloc (by omega) _).grown hgrow1 (by simp; omega) (fun r e => by have := ownsRow_block hown r e; omega); have HB3 := Lib.hid (grown_row (hown.alloc _) hgrow1 (by omega) (RowV.alloc HBr.out _)); have HZ3 := Lib.hid (grown_row (hown.alloc _) hgrow1 (by omega) (RowV.alloc HZr.out _)); have hbs3 : w.heap.size + 1 < w3.heap.size := RowV.lt HZ3.out; clear hown)
            have hown2 := own_next (n := 1 + p) hown1 (by omega) (by simp [Sha.bytes8, Sha.bytes4] <;> omega) (by rw [bytes8_len]; omega)
            refine ⟨?_, by simp [intOf]⟩
            repeat apply Exists.intro
            exact ⟨⟨4, some ⟨g1, 0, none⟩, cap1, by omega, rfl, rfl, hown2, HB3, HZ3, hb3⟩, rfl⟩
          · go_wp2_with (at_builtin; refine wpList_append_own _ rfl _ _ 128 rfl (w.heap.size + 2) 5 i0 (.int .u8 0) 1 1 Tryz.underlying128 HI.out.1 HI.out.2.1 HI.out.2.2.1 HI.out.2.2.2 rfl (by decide) _ _ _ rfl (hown.alloc _) ⟨wr.heap.size, 0, none⟩ 1 1 [_] rfl rfl (cell_one_new _ _ _) (by simp [Value.oneCell']) (by unfold maxLen; omega) (by omega) (by simp; omega) ?_; intro v' w3 hown1 hgrow1 _; obtain ⟨g1, cap1, rfl⟩ := ownsRow_succ hown1; have hb3 : Below w.heap.size w w3 := (hbr.alloc (by omega) _).grown hgrow1 (by simp; omega) (fun r e => by have := ownsRow_block hown r e; omega); have HB3 := Lib.hid (grown_row (hown.alloc _) hgrow1 (by omega) (RowV.alloc HBr.out _)); have HZ3 := Lib.hid (grown_row (hown.alloc _) hgrow1 (by omega) (RowV.alloc HZr.out _)); have hbs3 : w.heap.size + 1 < w3.heap.size := RowV.lt HZ3.out; clear hown)
            have hown2 := own_next (n := 1 + p) hown1 (by omega) (by simp [Sha.bytes8, Sha.bytes4] <;> omega) (by rw [bytes8_len]; omega)
            refine ⟨?_, by simp [intOf]⟩
            repeat apply Exists.intro
            exact ⟨⟨5, some ⟨g1, 0, none⟩, cap1, by omega, rfl, rfl, hown2, HB3, HZ3, hb3⟩, rfl⟩
          · go_wp2_with (at_builtin; refine wpList_append_own _ rfl _ _ 128 rfl (w.heap.size + 2) 5 i0 (.int .u8 0) 1 1 Tryz.underlying128 HI.out.1 HI.out.2.1 HI.out.2.2.1 HI.out.2.2.2 rfl (by decide) _ _ _ rfl (hown.alloc _) ⟨wr.heap.size, 0, none⟩ 1 1 [_] rfl rfl (cell_one_new _ _ _) (by simp [Value.oneCell']) (by unfold maxLen; omega) (by omega) (by simp; omega) ?_; intro v' w3 hown1 hgrow1 _; obtain ⟨g1, cap1, rfl⟩ := ownsRow_succ hown1; have hb3 : Below w.heap.size w w3 := (hbr.alloc (by omega) _).grown hgrow1 (by simp; omega) (fun r e => by have := ownsRow_block hown r e; omega); have HB3 := Lib.hid (grown_row (hown.alloc _) hgrow1 (by omega) (RowV.alloc HBr.out _)); have HZ3 := Lib.hid (grown_row (hown.alloc _) hgrow1 (by omega) (RowV.alloc HZr.out _)); have hbs3 : w.heap.size + 1 < w3.heap.size := RowV.lt HZ3.out; clear hown)
            have hown2 := own_next (n := 1 + p) hown1 (by omega) (by simp [Sha.bytes8, Sha.bytes4] <;> omega) (by rw [bytes8_len]; omega)
            refine ⟨?_, by simp [intOf]⟩
            repeat apply Exists.intro
            exact ⟨⟨6, some ⟨g1, 0, none⟩, cap1, by omega, rfl, rfl, hown2, HB3, HZ3, hb3⟩, rfl⟩
          · go_wp2_with (at_builtin; refine wpList_append_own _ rfl _ _ 128 rfl (w.heap.size + 2) 5 i0 (.int .u8 0) 1 1 Tryz.underlying128 HI.out.1 HI.out.2.1 HI.out.2.2.1 HI.out.2.2.2 rfl (by decide) _ _ _ rfl (hown.alloc _) ⟨wr.heap.size, 0, none⟩ 1 1 [_] rfl rfl (cell_one_new _ _ _) (by simp [Value.oneCell']) (by unfold maxLen; omega) (by omega) (by simp; omega) ?_; intro v' w3 hown1 hgrow1 _; obtain ⟨g1, cap1, rfl⟩ := ownsRow_succ hown1; have hb3 : Below w.heap.size w w3 := (hbr.alloc (by omega) _).grown hgrow1 (by simp; omega) (fun r e => by have := ownsRow_block hown r e; omega); have HB3 := Lib.hid (grown_row (hown.alloc _) hgrow1 (by omega) (RowV.alloc HBr.out _)); have HZ3 := Lib.hid (grown_row (hown.alloc _) hgrow1 (by omega) (RowV.alloc HZr.out _)); have hbs3 : w.heap.size + 1 < w3.heap.size := RowV.lt HZ3.out; clear hown)
            have hown2 := own_next (n := 1 + p) hown1 (by omega) (by simp [Sha.bytes8, Sha.bytes4] <;> omega) (by rw [bytes8_len]; omega)
            refine ⟨?_, by simp [intOf]⟩
            repeat apply Exists.intro
            exact ⟨⟨7, some ⟨g1, 0, none⟩, cap1, by omega, rfl, rfl, hown2, HB3, HZ3, hb3⟩, rfl⟩
          · go_wp2_with (at_builtin; refine wpList_append_own _ rfl _ _ 128 rfl (w.heap.size + 2) 5 i0 (.int .u8 0) 1 1 Tryz.underlying128 HI.out.1 HI.out.2.1 HI.out.2.2.1 HI.out.2.2.2 rfl (by decide) _ _ _ rfl (hown.alloc _) ⟨wr.heap.size, 0, none⟩ 1 1 [_] rfl rfl (cell_one_new _ _ _) (by simp [Value.oneCell']) (by unfold maxLen; omega) (by omega) (by simp; omega) ?_; intro v' w3 hown1 hgrow1 _; obtain ⟨g1, cap1, rfl⟩ := ownsRow_succ hown1; have hb3 : Below w.heap.size w w3 := (hbr.alloc (by omega) _).grown hgrow1 (by simp; omega) (fun r e => by have := ownsRow_block hown r e; omega); have HB3 := Lib.hid (grown_row (hown.alloc _) hgrow1 (by omega) (RowV.alloc HBr.out _)); have HZ3 := Lib.hid (grown_row (hown.alloc _) hgrow1 (by omega) (RowV.alloc HZr.out _)); have hbs3 : w.heap.size + 1 < w3.heap.size := RowV.lt HZ3.out; clear hown)
            have hown2 := own_next (n := 1 + p) hown1 (by omega) (by simp [Sha.bytes8, Sha.bytes4] <;> omega) (by rw [bytes8_len]; omega)
            refine ⟨?_, by simp [intOf]⟩
            repeat apply Exists.intro
            exact ⟨⟨8, some ⟨g1, 0, none⟩, cap1, by omega, rfl, rfl, hown2, HB3, HZ3, hb3⟩, rfl⟩
        · have hj8 : j = 8 := by omega
          have hpt : (128 :: List.replicate p 0) ++ (Sha.bytes8 (8 * N)).take j = Sha.padT N := by rw [hj8, HP.out]; rfl
          rw [hpt] at hown
          have hpl : (Sha.padT N).length = 1 + p + j := by rw [Sha.padT_len, HP.out, hj8]; omega
          have hcv := run_text wr A (1 + p + j) c (Sha.padT N) hpl (padT_lt hN2) (by omega) (reads_own hown)
          have hpz : (toN (Sha.padT N)).size ≤ 200 := by rw [toN_size, hpl]; omega
          have hadd := add_any m (.agg X) (toN (Sha.padT N)) wr HSV.out (by have := HN.out; omega) (HK.out.keep hbr)
          rw [nb_toN (padT_lt hN2), show m ++ Sha.padT N = Sha.pad m by rw [Sha.pad_eq, HN.out]] at hadd
          have hBX : wr.heap[w.heap.size]? = some (.cells X 173 (0, 0)) := by rw [HX.out]; exact HBr.out
          have hiX : (Tryz.prog.info? 173).map (·.size) = some X.size := by rw [HX.out, List.size_toArray, strLH_len HBL.out]; kernel_rfl
          have HADD := Lib.hid hadd; have HBX := Lib.hid hBX; have HIX := Lib.hid hiX
          generalize toN (Sha.padT N) = T at *
          clear hadd hBX hiX hpt hpl hown hj8 HSV
          go_upto_region 11 with (first | (refine wpList_load_row rfl _ _ rfl w.heap.size rfl _ X (0, 0) _ HBX.out Tryz.underlying173 rfl HIX.out ?_) | (go_at_call 126; refine HADD.out.mono ?_; rintro e w5 ⟨⟨v5, rfl, hv5⟩, hb5⟩; obtain ⟨st5, blk5, rfl, hst5, hbk5⟩ := hv5; have hi5 : (Tryz.prog.info? 173).map (·.size) = some (strLH st5 blk5 (Sha.pad m).length).toArray.size := (by rw [List.size_toArray, strLH_len hst5.len]; kernel_rfl)) | (refine wpList_store_row rfl _ _ _ rfl w.heap.size (strLH st5 blk5 (Sha.pad m).length).toArray rfl rfl _ _ (RowV.keep HBr.out hb5) hi5 (by rw [List.size_toArray, List.size_toArray, strLH_len hst5.len, strLH_len HBL.out]) (by rw [List.all_toArray, List.all_eq_true]; exact strL_one) ?_))
          try simp only [Act.put, List.setIfInBounds_toArray, List.set_cons_succ, List.set_cons_zero]
          have hs5 := hb5.size
          obtain ⟨w6, hw6⟩ : ∃ y : World, y = w5.setRow w.heap.size (strLH st5 blk5 (Sha.pad m).length).toArray := ⟨_, rfl⟩
          rw [← hw6]
          have hB6 : RowV w6 w.heap.size 173 (strLH st5 blk5 (Sha.pad m).length) := by rw [hw6]; exact RowV.row (RowV.keep HBr.out hb5) _
          have hZ6 : RowV w6 (w.heap.size + 1) 177 (b8 (preN 32 R 0)) := by rw [hw6]; exact RowV.row_far (RowV.keep HZr.out hb5) _ _ (by omega)
          have hbw6 : Below w.heap.size w w6 := by rw [hw6]; exact below_setRow (hbr.trans (hb5.mono (by omega))) (Nat.le_refl _) _
          have hRo : R = Sha.out st5 := by rw [HR.out]; exact hst5.sum.symm
          have hok5 := hst5.ok
          have hRl : R.length = 32 := by rw [hRo]; rfl
          have hout : ∀ i, i < 32 → R.getD i 0 = (Sha.bytes4 ((stL st5).getD (i / 4) 0)).getD (i % 4) 0 := fun i hi => by
            have := out_at st5 (q := i / 4) (r := i % 4) (by omega) (by omega)
            rw [show 4 * (i / 4) + i % 4 = i by omega] at this
            rw [hRo]; exact this
          have hlt := stL_lt hok5
          have HB6 := Lib.hid hB6; have HZ6 := Lib.hid hZ6; have HOUT := Lib.hid hout; have HRL := Lib.hid hRl; have HLT := Lib.hid hlt; have HBL5 := Lib.hid hst5.len
          clear hw6 hB6 hZ6 hRo hok5 hRl hout hlt hst5 hbk5 hi5 hb5 hs5 HBr HZr hbr HBX HIX HADD hcv HK HR HX
          generalize (Sha.pad m).length = L5 at *
          obtain ⟨go, hgo⟩ : ∃ go, go = w6.heap.size := ⟨_, rfl⟩
          have hgo2 : w.heap.size + 1 < go := by rw [hgo]; exact RowV.lt HZ6.out
          go_wp2_with fail
          rw [← hgo]
          have HGO := Lib.hid hgo
          clear hgo
          go_loopw [40] (fun iv wr => ∃ i : Nat, i ≤ 32 ∧ iv = .int .i64 i ∧ Hid (RowV wr go 177 (b8 (preN 32 R i))) ∧ Hid (RowV wr w.heap.size 173 (strLH st5 blk5 L5)) ∧ Hid (RowV wr (w.heap.size + 1) 177 (b8 (preN 32 R 0))) ∧ Below w.heap.size w wr) (fun iv _ => 32 - (intOf iv).toNat)
          case atStart =>
            refine ⟨0, by omega, rfl, Lib.hid ?_, Lib.hid (RowV.alloc HB6.out _), Lib.hid (RowV.alloc HZ6.out _), hbw6.alloc (by have := HGO.out; omega) _⟩
            rw [HGO.out]; exact (heap_alloc_new w6 _).trans rfl
          case round =>
            obtain ⟨i, hi, rfl, HOr, HBr, HZr, hbr⟩ := hrel
            clear HB6 HZ6 hbw6
            have hgl : go < wr.heap.size := RowV.lt HOr.out
            by_cases hi32 : i < 32
            · have cst : wr.cell? ⟨w.heap.size, i / 4, none⟩ = some (.int .u32 ((stL st5).getD (i / 4) 0 : Nat)) := RowV.cell HBr.out (strL_st (w32_at _ (by show i / 4 < 8; omega)))
              have cou : wr.cell? ⟨go, i, none⟩ = some (.int .u8 ((preN 32 R i).getD i 0 : Nat)) := RowV.cell HOr.out (b8_at _ (by rw [preN_len HRL.out hi]; exact hi32))
              have fou : wr.frozen? ⟨go, i, none⟩ = false := RowV.free HOr.out i
              have hq0 : (0 : Int) ≤ (i : Int) / 4 := by omega
              have hq8 : (i : Int) / 4 < 8 := by omega
              have hlt5 := HLT.out (i / 4)
              generalize hy : (stL st5).getD (i / 4) 0 = y at *
              have hr4 : i % 4 = 0 ∨ i % 4 = 1 ∨ i % 4 = 2 ∨ i % 4 = 3 := by omega
              have HY := Lib.hid hy
              clear hy
              rcases hr4 with h4 | h4 | h4 | h4
              · have hr : (i : Int) % 4 = 0 := by omega
                have hval : R.getD i 0 = y / 16777216 := by rw [HOUT.out i hi32, h4, HY.out]; rfl
                go_wp2_with fail
                have hcast : (y : Int) / 16777216 = ((R.getD i 0 : Nat) : Int) := by rw [hval]; simp
                rw [hcast]
                refine ⟨⟨i + 1, by omega, by go_num, Lib.hid ?_, Lib.hid (RowV.far HBr.out _ _ (by simp; omega)), Lib.hid (RowV.far HZr.out _ _ (by simp; omega)), hbr.setCell (p := ⟨go, i, none⟩) (by show w.heap.size ≤ go; omega) _⟩, by simp [intOf]; omega⟩
                have := RowV.set_ HOr.out i (.int .u8 ((R.getD i 0 : Nat) : Int))
                rw [← b8_set, preN_succ HRL.out hi32] at this
                exact this
              · have hr : (i : Int) % 4 = 1 := by omega
                have hval : R.getD i 0 = y / 65536 % 256 := by rw [HOUT.out i hi32, h4, HY.out]; rfl
                go_wp2_with fail
                have hcast : (y : Int) / 65536 % 256 = ((R.getD i 0 : Nat) : Int) := by rw [hval]; simp
                rw [hcast]
                refine ⟨⟨i + 1, by omega, by go_num, Lib.hid ?_, Lib.hid (RowV.far HBr.out _ _ (by simp; omega)), Lib.hid (RowV.far HZr.out _ _ (by simp; omega)), hbr.setCell (p := ⟨go, i, none⟩) (by show w.heap.size ≤ go; omega) _⟩, by simp [intOf]; omega⟩
                have := RowV.set_ HOr.out i (.int .u8 ((R.getD i 0 : Nat) : Int))
                rw [← b8_set, preN_succ HRL.out hi32] at this
                exact this
              · have hr : (i : Int) % 4 = 2 := by omega
                have hval : R.getD i 0 = y / 256 % 256 := by rw [HOUT.out i hi32, h4, HY.out]; rfl
                go_wp2_with fail
                have hcast : (y : Int) / 256 % 256 = ((R.getD i 0 : Nat) : Int) := by rw [hval]; simp
                rw [hcast]
                refine ⟨⟨i + 1, by omega, by go_num, Lib.hid ?_, Lib.hid (RowV.far HBr.out _ _ (by simp; omega)), Lib.hid (RowV.far HZr.out _ _ (by simp; omega)), hbr.setCell (p := ⟨go, i, none⟩) (by show w.heap.size ≤ go; omega) _⟩, by simp [intOf]; omega⟩
                have := RowV.set_ HOr.out i (.int .u8 ((R.getD i 0 : Nat) : Int))
                rw [← b8_set, preN_succ HRL.out hi32] at this
                exact this
              · have hr : (i : Int) % 4 = 3 := by omega
                have hval : R.getD i 0 = y % 256 := by rw [HOUT.out i hi32, h4, HY.out]; rfl
                go_wp2_with fail
                have hcast : (y : Int) % 256 = ((R.getD i 0 : Nat) : Int) := by rw [hval]; simp
                rw [hcast]
                refine ⟨⟨i + 1, by omega, by go_num, Lib.hid ?_, Lib.hid (RowV.far HBr.out _ _ (by simp; omega)), Lib.hid (RowV.far HZr.out _ _ (by simp; omega)), hbr.setCell (p := ⟨go, i, none⟩) (by show w.heap.size ≤ go; omega) _⟩, by simp [intOf]; omega⟩
                have := RowV.set_ HOr.out i (.int .u8 ((R.getD i 0 : Nat) : Int))
                rw [← b8_set, preN_succ HRL.out hi32] at this
                exact this
            · have h32 : i = 32 := by omega
              have hO : wr.heap[go]? = some (.cells (b8 R).toArray 177 (0, 0)) := by have := HOr.out; rw [h32, preN_all HRL.out] at this; exact this
              have hi8 : (Tryz.prog.info? 177).map (·.size) = some (b8 R).toArray.size := by rw [List.size_toArray, b8_len, HRL.out]; kernel_rfl
              have hz8 : (b8 (preN 32 R 0)).toArray.size = (b8 R).toArray.size := by rw [List.size_toArray, List.size_toArray, b8_len, b8_len, HRL.out, preN_len HRL.out (by omega)]
              have h1 : (b8 R).toArray.all (·.oneCell') = true := by rw [List.all_toArray, List.all_eq_true]; exact b8_one R
              have HO := Lib.hid hO; have HI8 := Lib.hid hi8; have HZ8 := Lib.hid hz8; have H18 := Lib.hid h1
              clear hO hi8 hz8 h1 h32 HOr hi
              generalize (b8 R).toArray = Y at *
              go_wp2_with (first | (refine wpList_load_row rfl _ _ rfl go rfl _ Y (0, 0) _ HO.out Tryz.underlying177 rfl HI8.out ?_) | (refine wpList_store_row rfl _ _ _ rfl (w.heap.size + 1) Y rfl rfl _ _ HZr.out HI8.out HZ8.out H18.out ?_))
              refine bodyPost_ret (v := .agg Y) ?_ rfl ⟨rfl, ?_⟩
              · exact results_cell_row rfl _ _ (w.heap.size + 1) _ _ (0, 0) _ rfl (setRow_heap _ _ _ _ _ _ HZr.out) Tryz.underlying177 rfl HI8.out
              · exact below_setRow hbr (by omega) _
    · have hc : ¬ ((N : Int) + (1 + i)) % 64 = 56 := by omega
      go_wp2_with (at_builtin; refine wpList_append_own _ rfl _ _ 128 rfl (w.heap.size + 2) 5 i0 (.int .u8 0) 1 1 Tryz.underlying128 HI.out.1 HI.out.2.1 HI.out.2.2.1 HI.out.2.2.2 rfl (by decide) _ _ _ rfl (hown.alloc _) ⟨wr.heap.size, 0, none⟩ 1 1 [.int .u8 0] rfl rfl (cell_one_new _ _ _) (by simp [Value.oneCell']) (by unfold maxLen; omega) (by omega) (by simp; omega) ?_; intro v' w3 hown1 hgrow1 _; obtain ⟨g1, cap1, rfl⟩ := ownsRow_succ hown1; have hb3 : Below w.heap.size w w3 := (hbr.alloc (by omega) _).grown hgrow1 (by simp; omega) (fun r e => by have := ownsRow_block hown r e; omega); have HB3 := Lib.hid (grown_row (hown.alloc _) hgrow1 (by omega) (RowV.alloc HBr.out _)); have HZ3 := Lib.hid (grown_row (hown.alloc _) hgrow1 (by omega) (RowV.alloc HZr.out _)); have hbs3 : w.heap.size + 1 < w3.heap.size := RowV.lt HZ3.out; clear hown)
      refine ⟨⟨i + 1, some ⟨g1, 0, none⟩, cap1, by omega, by rw [Nat.add_assoc], ?_, HB3, HZ3, hb3⟩, ?_⟩
      · rw [← Nat.add_assoc, List.replicate_succ', ← List.cons_append, b8_app]; exact hown1
      · show 65 - (1 + i + 1) < 65 - (1 + i)
        omega
end Go.Proofs.YtokfclikhfpmhaaGreatDoor
namespace Go.Proofs.YtokfclikhfpmhaaGreatDoor
open Go.RowKit Go.Sort
set_option linter.unusedVariables false
set_option linter.unusedSimpArgs false
set_option maxRecDepth 100000
set_option maxHeartbeats 4000000 in
theorem rFormed_any (c : ByteArray) (P Q : Option Addr) (np cp nq cq : Nat) (xs : List ByteArray) (qs : List (ByteArray × ByteArray)) (w : World)
    (hP : Reads w 1 P np (xs.map .string)) (hQ : Reads w 2 Q nq (pairCells qs)) (htot : (W06 c xs qs).length ≤ 1000000000) :
    Calls Tryz.prog 149 #[.agg #[.string c, .slice P np cp, .slice Q nq cq]] w (Ret w (.bool (formedB c xs qs))) := by
  have hnp : xs.length = np := by have := hP.1; simp at this; omega
  have hnq : qs.length = nq := by have := hQ.1; rw [pairCells_length] at this; omega
  have hc0 : c.size ≤ 1000000000 := by have := W06_c c xs qs; omega
  have hxs : ∀ x ∈ xs, x.size ≤ 1000000000 := fun x hx => by have := W06_x c xs qs x hx; omega
  have hqs : ∀ q ∈ qs, q.1.size ≤ 1000000000 ∧ q.2.size ≤ 1000000000 := fun q hq => by have := W06_q c xs qs q hq; omega
  have c1 := fun W => rName_any c W (by omega)
  have cX := fun W h1 h2 => rText_any c P Q np cp nq cq xs qs W h1 h2 htot
  have hv : formedB c xs qs = ((isNameB c && decide (np ≤ 32) && decide (nq ≤ 16) && xs.all isWordB) && (List.range nq).all (pairK qs) && decide ((W06 c xs qs).length ≤ 4096)) := by rw [← hnp, ← hnq]; rfl
  obtain ⟨V, hV⟩ : ∃ V, V = formedB c xs qs := ⟨_, rfl⟩
  rw [← hV] at hv ⊢
  have hXz : (toB (W06 c xs qs)).size = (W06 c xs qs).length := rfl
  have HP := Lib.hid hP; have HQ := Lib.hid hQ; have HXS := Lib.hid hxs; have HQS := Lib.hid hqs; have H1 := Lib.hid c1; have HX := Lib.hid cX; have HNP := Lib.hid hnp; have HNQ := Lib.hid hnq
  clear hP hQ htot hxs hqs c1 cX hnp hnq hV
  generalize toB (W06 c xs qs) = T at *
  cases h1 : isNameB c
  · obtain rfl : V = false := by rw [hv, h1]; simp
    rw [h1] at H1
    clear hv h1
    go_enter Tryz.func149, Tryz.ntmps149
    go_wp2_with (go_at_call 75; refine (H1.out _).mono ?_; rintro e w1 ⟨rfl, hb1⟩; have hX1 : Boxed3 w1 w.heap.size c P np cp Q nq cq := Blk.keep (World.alloc_heap_new _ _) hb1; have x1 : w1.cell? ⟨w.heap.size, 1, none⟩ = some (.slice P np cp) := Blk.cell hX1 1; have x2 : w1.cell? ⟨w.heap.size, 2, none⟩ = some (.slice Q nq cq) := Blk.cell hX1 2)
    go_ret
    exact ⟨rfl, belB⟩
  rw [h1] at H1
  by_cases h2 : np ≤ 32
  rotate_left
  · obtain rfl : V = false := by rw [hv, h1]; simp [h2]
    have d1 : decide ((32 : Int) < (np : Int)) = true := decide_eq_true (by omega)
    clear hv h1
    go_enter Tryz.func149, Tryz.ntmps149
    go_wp2_with (go_at_call 75; refine (H1.out _).mono ?_; rintro e w1 ⟨rfl, hb1⟩; have hX1 : Boxed3 w1 w.heap.size c P np cp Q nq cq := Blk.keep (World.alloc_heap_new _ _) hb1; have x1 : w1.cell? ⟨w.heap.size, 1, none⟩ = some (.slice P np cp) := Blk.cell hX1 1; have x2 : w1.cell? ⟨w.heap.size, 2, none⟩ = some (.slice Q nq cq) := Blk.cell hX1 2)
    go_ret
    exact ⟨rfl, belB⟩
  have d1 : decide ((32 : Int) < (np : Int)) = false := decide_eq_false (by omega)
  by_cases h3 : nq ≤ 16
  rotate_left
  · obtain rfl : V = false := by rw [hv, h1]; simp [h3]
    have d2 : decide ((16 : Int) < (nq : Int)) = true := decide_eq_true (by omega)
    clear hv h1
    go_enter Tryz.func149, Tryz.ntmps149
    go_wp2_with (go_at_call 75; refine (H1.out _).mono ?_; rintro e w1 ⟨rfl, hb1⟩; have hX1 : Boxed3 w1 w.heap.size c P np cp Q nq cq := Blk.keep (World.alloc_heap_new _ _) hb1; have x1 : w1.cell? ⟨w.heap.size, 1, none⟩ = some (.slice P np cp) := Blk.cell hX1 1; have x2 : w1.cell? ⟨w.heap.size, 2, none⟩ = some (.slice Q nq cq) := Blk.cell hX1 2)
    go_ret
    exact ⟨rfl, belB⟩
  have d2 : decide ((16 : Int) < (nq : Int)) = false := decide_eq_false (by omega)
  have hv2 : V = (xs.all isWordB && (List.range nq).all (pairK qs) && decide (T.size ≤ 4096)) := by rw [hv, h1, hXz]; simp [h2, h3]
  have HV := Lib.hid hv2
  clear hv hv2 h1 hXz
  go_enter Tryz.func149, Tryz.ntmps149
  go_wp2_with (go_at_call 75; refine (H1.out _).mono ?_; rintro e w1 ⟨rfl, hb1⟩; have hX1 : Boxed3 w1 w.heap.size c P np cp Q nq cq := Blk.keep (World.alloc_heap_new _ _) hb1; have x1 : w1.cell? ⟨w.heap.size, 1, none⟩ = some (.slice P np cp) := Blk.cell hX1 1; have x2 : w1.cell? ⟨w.heap.size, 2, none⟩ = some (.slice Q nq cq) := Blk.cell hX1 2)
  have hbw1 : Below w.heap.size w w1 := belB
  clear x1 x2 hb1
  go_loopw [3] (fun vi wr => ∃ k : Nat, vi = .int .i64 k ∧ k ≤ np ∧ Hid ((xs.take k).all isWordB = true) ∧ Boxed3 wr w.heap.size c P np cp Q nq cq ∧ Below w.heap.size w wr) (fun i _ => np - (intOf i).toNat)
  case atStart => exact ⟨0, rfl, Nat.zero_le _, Lib.hid (by simp), hX1, hbw1⟩
  case round =>
    clear hX1 hbw1
    obtain ⟨k, rfl, hk, HK, hX, hbr⟩ := hrel
    have x1 : wr.cell? ⟨w.heap.size, 1, none⟩ = some (.slice P np cp) := Blk.cell hX 1
    have x2 : wr.cell? ⟨w.heap.size, 2, none⟩ = some (.slice Q nq cq) := Blk.cell hX 2
    by_cases hlt : k < np
    · obtain ⟨x, hx⟩ : ∃ x, xs[k]? = some x := ⟨_, List.getElem?_eq_getElem (by have := HNP.out; omega)⟩
      obtain ⟨b, o, rfl, hcell⟩ := (HP.out.keep hbr).2 (by omega)
      have hc1 : wr.cell? ⟨b, o + k, none⟩ = some (.string x) := hcell k _ (by simp [hx])
      have hxs := HXS.out x (List.mem_of_getElem? hx)
      have cW := fun W => rWord_any x W (by omega)
      have hk0 : (0 : Int) ≤ (k : Int) := by omega
      have hk1 : (k : Int) < (np : Int) := by omega
      cases hw : isWordB x
      · obtain rfl : V = false := by rw [HV.out, all_false hx hw]; rfl
        rw [hw] at cW
        have HW := Lib.hid cW
        clear cW hw hcell hx HK
        go_wp2_with (go_at_call 104; refine (HW.out _).mono ?_; rintro e w2 ⟨rfl, hb2⟩)
        go_ret
        exact ⟨rfl, belB⟩
      · have HK2 : Hid ((xs.take (k + 1)).all isWordB = true) := Lib.hid (all_take HK.out hx hw)
        rw [hw] at cW
        have HW := Lib.hid cW
        clear cW hw hcell hx HK
        go_wp2_with (go_at_call 104; refine (HW.out _).mono ?_; rintro e w2 ⟨rfl, hb2⟩)
        exact ⟨⟨k + 1, by go_num, by omega, HK2, Blk.keep hX belB, belB⟩, by simp [intOf]; omega⟩
    · obtain rfl : k = np := by omega
      have hall : xs.all isWordB = true := by
        have := HK.out
        rwa [List.take_of_length_le (by have := HNP.out; omega)] at this
      have hv3 : V = ((List.range nq).all (pairK qs) && decide (T.size ≤ 4096)) := by rw [HV.out, hall, Bool.true_and]
      have HV2 := Lib.hid hv3
      clear hall hv3 HK HV
      go_wp2
      clear x1 x2
      obtain ⟨wo, rfl⟩ : ∃ wo : World, wo = wr := ⟨_, rfl⟩
      go_loopw [4] (fun vi wz => ∃ j : Nat, vi = .int .i64 j ∧ j ≤ nq ∧ Hid ((List.range j).all (pairK qs) = true) ∧ Boxed3 wz w.heap.size c P k cp Q nq cq ∧ Below w.heap.size w wz) (fun i _ => nq - (intOf i).toNat)
      case atStart => exact ⟨0, rfl, Nat.zero_le _, Lib.hid (by simp), hX, hbr⟩
      case round =>
        clear hX hbr
        obtain ⟨j, rfl, hj, HJ, hX, hbr⟩ := hrel
        have x1 : wr.cell? ⟨w.heap.size, 1, none⟩ = some (.slice P k cp) := Blk.cell hX 1
        have x2 : wr.cell? ⟨w.heap.size, 2, none⟩ = some (.slice Q nq cq) := Blk.cell hX 2
        have x0 : wr.cell? ⟨w.heap.size, 0, none⟩ = some (.string c) := Blk.cell hX 0
        by_cases hlt2 : j < nq
        · have hQr := HQ.out.keep hbr
          obtain ⟨pb, po, rfl, hcell⟩ := hQr.2 (by omega)
          clear hQr
          have hql : j < qs.length := by have := HNQ.out; omega
          obtain ⟨q, hq⟩ : ∃ q, qs[j]? = some q := ⟨_, List.getElem?_eq_getElem hql⟩
          obtain ⟨e1, e2⟩ := pairCells_at qs j q hq
          have hc1 : wr.cell? ⟨pb, po + j * 2, none⟩ = _ := hcell _ _ e1
          have hc2 : wr.cell? ⟨pb, po + j * 2 + 1, none⟩ = _ := hcell _ _ e2
          have hsz := HQS.out q (List.mem_of_getElem? hq)
          have cN := fun W => rName_any q.1 W (by omega)
          have cV := fun W => rWord_any q.2 W (by omega)
          have hpk : pairK qs j = (isNameB q.1 && isWordB q.2 && (j == 0 || !(Op.bytesLess q.1.toList ((qs[j - 1]?.getD (⟨#[]⟩, ⟨#[]⟩)).1).toList || q.1.toList == ((qs[j - 1]?.getD (⟨#[]⟩, ⟨#[]⟩)).1).toList))) := by simp [pairK, hq]
          obtain ⟨q1, q2⟩ := q
          dsimp only at hc1 hc2 hsz cN cV hpk
          have hj0 : (0 : Int) ≤ (j : Int) := by omega
          have hj1 : (j : Int) < (nq : Int) := by omega
          have HC := Lib.hid hcell; have HK := Lib.hid hpk
          clear hcell e1 e2 hq hpk hql
          have hfalse : pairK qs j = false → V = false := by
            intro hf
            have hall : (List.range nq).all (pairK qs) = false := by
              rw [List.all_eq_false]
              exact ⟨j, by simpa using hlt2, by rw [hf]; simp⟩
            rw [HV2.out, hall]
            rfl
          have htrue : pairK qs j = true → (List.range (j + 1)).all (pairK qs) = true := by
            intro ht
            rw [List.range_succ, List.all_append, HJ.out]
            simp [ht]
          have HF := Lib.hid hfalse; have HTr := Lib.hid htrue
          clear hfalse htrue
          cases h1 : isNameB q1
          · have hv := HF.out (by rw [HK.out, h1]; simp)
            subst hv
            rw [h1] at cN
            have HN := Lib.hid cN
            clear cN cV h1
            go_wp2_with fail
            have k1 := cell_regrown hc1; have k2 := cell_regrown hc2; have k3 := cell_regrown x2
            refine wp_region_quiet_below (by kernel_rfl) (by kernel_rfl) ?_; (repeat (any_goals (first | go_big_quiet_step ((first | exact qcalls HN.out _ _)) | quiet_step ((first | exact qcalls HN.out _ _))))); refine wpQuiet_nil ?_; intro _ hwq; obtain ⟨⟨dq, osq⟩, hwq⟩ := hwq; subst hwq; have hb3 := below_regrown (wr) dq osq; generalize grow (redrawn (wr) dq) osq = w3 at *
            go_wp2
            go_ret
            exact ⟨rfl, belB⟩
          cases h2 : isWordB q2
          · have hv := HF.out (by rw [HK.out, h2]; simp)
            subst hv
            rw [h1] at cN
            rw [h2] at cV
            have HN := Lib.hid cN; have HW := Lib.hid cV
            clear cN cV h1 h2
            go_wp2_with fail
            have k1 := cell_regrown hc1; have k2 := cell_regrown hc2; have k3 := cell_regrown x2
            refine wp_region_quiet_below (by kernel_rfl) (by kernel_rfl) ?_; (repeat (any_goals (first | go_big_quiet_step ((first | exact qcalls HN.out _ _ | exact qcalls HW.out _ _)) | quiet_step ((first | exact qcalls HN.out _ _ | exact qcalls HW.out _ _))))); refine wpQuiet_nil ?_; intro _ hwq; obtain ⟨⟨dq, osq⟩, hwq⟩ := hwq; subst hwq; have hb3 := below_regrown (wr) dq osq; generalize grow (redrawn (wr) dq) osq = w3 at *
            go_wp2
            go_ret
            exact ⟨rfl, belB⟩
          rw [h1] at cN
          rw [h2] at cV
          have HN := Lib.hid cN; have HW := Lib.hid cV
          clear cN cV
          rcases j with _ | j
          · have hok := HTr.out (by rw [HK.out, h1, h2]; simp)
            have HO := Lib.hid hok
            have hc1' : wr.cell? ⟨pb, po, none⟩ = some (.string q1) := by simpa using hc1
            have hc2' : wr.cell? ⟨pb, po + 1, none⟩ = some (.string q2) := by simpa using hc2
            clear hok h1 h2 hc1 hc2
            go_wp2_with fail
            have k1 := cell_regrown hc1'; have k2 := cell_regrown hc2'; have k3 := cell_regrown x2
            refine wp_region_quiet_below (by kernel_rfl) (by kernel_rfl) ?_; (repeat (any_goals (first | go_big_quiet_step ((first | exact qcalls HN.out _ _ | exact qcalls HW.out _ _)) | quiet_step ((first | exact qcalls HN.out _ _ | exact qcalls HW.out _ _))))); refine wpQuiet_nil ?_; intro _ hwq; obtain ⟨⟨dq, osq⟩, hwq⟩ := hwq; subst hwq; have hb3 := below_regrown (wr) dq osq; generalize grow (redrawn (wr) dq) osq = w3 at *
            go_wp2
            exact ⟨⟨1, by go_num, by omega, HO, Blk.keep hX belB, belB⟩, by simp [intOf]; omega⟩
          · obtain ⟨q0, hq0⟩ : ∃ q, qs[j]? = some q := ⟨_, List.getElem?_eq_getElem (by have := HNQ.out; omega)⟩
            have hg : (qs[j + 1 - 1]?.getD (⟨#[]⟩, ⟨#[]⟩)).1 = q0.1 := by rw [Nat.add_sub_cancel, hq0]; rfl
            have hc4 : wr.cell? ⟨pb, po + j * 2, none⟩ = _ := HC.out _ _ (pairCells_at qs j q0 hq0).1
            have hsz0 := (HQS.out q0 (List.mem_of_getElem? hq0)).1
            obtain ⟨q0, v0⟩ := q0
            dsimp only at hc4 hg hsz0
            have hpk := HK.out
            rw [hg, h1, h2] at hpk
            clear HK hg hq0 h1 h2
            obtain ⟨t, ht⟩ : ∃ t, (Op.bytesLess q1.toList q0.toList || q1.toList == q0.toList) = t := ⟨_, rfl⟩
            rw [ht] at hpk
            cases t
            · have HO := Lib.hid (HTr.out (by rw [hpk]; simp))
              clear hpk HF HTr
              go_wp2_with fail
              have k1 := cell_regrown hc1; have k2 := cell_regrown hc2; have k3 := cell_regrown x2; have k4 := cell_regrown hc4
              refine wp_region_quiet_below (by kernel_rfl) (by kernel_rfl) ?_; (repeat (any_goals (first | go_big_quiet_step ((first | exact qcalls HN.out _ _ | exact qcalls HW.out _ _)) | quiet_step ((first | exact qcalls HN.out _ _ | exact qcalls HW.out _ _))))); refine wpQuiet_nil ?_; intro _ hwq; obtain ⟨⟨dq, osq⟩, hwq⟩ := hwq; subst hwq; have hb3 := below_regrown (wr) dq osq; generalize grow (redrawn (wr) dq) osq = w3 at *
              go_wp2
              exact ⟨⟨j + 1 + 1, by go_num, by omega, HO, Blk.keep hX belB, belB⟩, by simp [intOf]; omega⟩
            · have hv := HF.out (by rw [hpk]; simp)
              subst hv
              clear hpk HF HTr
              go_wp2_with fail
              have k1 := cell_regrown hc1; have k2 := cell_regrown hc2; have k3 := cell_regrown x2; have k4 := cell_regrown hc4
              refine wp_region_quiet_below (by kernel_rfl) (by kernel_rfl) ?_; (repeat (any_goals (first | go_big_quiet_step ((first | exact qcalls HN.out _ _ | exact qcalls HW.out _ _)) | quiet_step ((first | exact qcalls HN.out _ _ | exact qcalls HW.out _ _))))); refine wpQuiet_nil ?_; intro _ hwq; obtain ⟨⟨dq, osq⟩, hwq⟩ := hwq; subst hwq; have hb3 := below_regrown (wr) dq osq; generalize grow (redrawn (wr) dq) osq = w3 at *
              go_wp2
              go_ret
              exact ⟨rfl, belB⟩
        · obtain rfl : j = nq := by omega
          have hv := HV2.out
          rw [HJ.out, Bool.true_and] at hv
          by_cases hl : T.size ≤ 4096
          · rw [decide_eq_true hl] at hv
            subst hv
            have d3 : decide ((T.size : Int) ≤ 4096) = true := decide_eq_true (by omega)
            go_wp2_with (go_at_call 150; refine (HX.out _ (HP.out.keep belB) (HQ.out.keep belB)).mono ?_; rintro e w3 ⟨rfl, hb3⟩)
            go_ret
            exact ⟨rfl, belB⟩
          · rw [decide_eq_false hl] at hv
            subst hv
            have d3 : decide ((T.size : Int) ≤ 4096) = false := decide_eq_false (by omega)
            go_wp2_with (go_at_call 150; refine (HX.out _ (HP.out.keep belB) (HQ.out.keep belB)).mono ?_; rintro e w3 ⟨rfl, hb3⟩)
            go_ret
            exact ⟨rfl, belB⟩
def textR (c : ByteArray) (xs : List ByteArray) (qs : List (ByteArray × ByteArray)) : ByteArray × Int := if formedB c xs qs then (toB (W06 c xs qs), 0) else (⟨#[]⟩, 1)
theorem textV_R (c : ByteArray) (xs : List ByteArray) (qs : List (ByteArray × ByteArray)) : textV c xs qs = .tuple #[.string (textR c xs qs).1, .int .i64 (textR c xs qs).2] := by
  unfold textV textR
  split <;> rfl
theorem box2 (w : World) (a b : Obj) : ((w.alloc a).alloc b).heap[w.heap.size]? = some a ∧ ((w.alloc a).alloc b).heap[w.heap.size + 1]? = some b := by
  refine ⟨(Below.heap_alloc _ _ _ (by simp)).trans (World.alloc_heap_new w a), ?_⟩
  have := World.alloc_heap_new (w.alloc a) b
  rw [World.size_alloc] at this
  exact this
set_option maxHeartbeats 4000000 in
theorem rText2_any (c : ByteArray) (P Q : Option Addr) (np cp nq cq : Nat) (xs : List ByteArray) (qs : List (ByteArray × ByteArray)) (w : World)
    (hP : Reads w 1 P np (xs.map .string)) (hQ : Reads w 2 Q nq (pairCells qs)) (htot : (W06 c xs qs).length ≤ 1000000000) :
    Calls Tryz.prog 130 #[.agg #[.string c, .slice P np cp, .slice Q nq cq]] w (Ret w (.agg #[.string (textR c xs qs).1, .int .i64 (textR c xs qs).2])) := by
  have cF := fun W h1 h2 => rFormed_any c P Q np cp nq cq xs qs W h1 h2 htot
  have cX := fun W h1 h2 => rText_any c P Q np cp nq cq xs qs W h1 h2 htot
  have HP := Lib.hid hP; have HQ := Lib.hid hQ; have HX := Lib.hid cX
  clear hP hQ htot cX
  unfold textR
  generalize toB (W06 c xs qs) = T at *
  generalize formedB c xs qs = b at *
  have HF := Lib.hid cF
  clear cF
  cases b
  · go_enter Tryz.func130, Tryz.ntmps130
    go_wp2_with (go_at_call 149; refine (HF.out _ (HP.out.keep belB) (HQ.out.keep belB)).mono ?_; rintro e w1 ⟨rfl, hb1⟩; have hA1 : Boxed3 w1 w.heap.size c P np cp Q nq cq := (hb1.block w.heap.size (by simp; omega)).trans (box2 _ _ _).1; have hX1 : ResBox w1 (w.heap.size + 1) ⟨#[]⟩ 0 := (hb1.block (w.heap.size + 1) (by simp)).trans (box2 _ _ _).2; have a0 : w1.cell? ⟨w.heap.size, 0, none⟩ = some (.string c) := Blk.cell hA1 0; have a1 : w1.cell? ⟨w.heap.size, 1, none⟩ = some (.slice P np cp) := Blk.cell hA1 1; have a2 : w1.cell? ⟨w.heap.size, 2, none⟩ = some (.slice Q nq cq) := Blk.cell hA1 2; obtain ⟨x0, x1, f0, f1⟩ := hX1.facts; have hz1 : w.heap.size + 1 < w1.heap.size := Blk.lt hX1)
    exact bodyPost_ret (v := .agg #[.string ⟨#[]⟩, .int .i64 1]) (by simp [results, Tryz.results130, go_sem, hz1, x0, x1, f0, f1]) rfl ⟨rfl, belB⟩
  · go_enter Tryz.func130, Tryz.ntmps130
    go_wp2_with (first | (go_at_call 149; refine (HF.out _ (HP.out.keep belB) (HQ.out.keep belB)).mono ?_; rintro e w1 ⟨rfl, hb1⟩; have hA1 : Boxed3 w1 w.heap.size c P np cp Q nq cq := (hb1.block w.heap.size (by simp; omega)).trans (box2 _ _ _).1; have hX1 : ResBox w1 (w.heap.size + 1) ⟨#[]⟩ 0 := (hb1.block (w.heap.size + 1) (by simp)).trans (box2 _ _ _).2; have a0 : w1.cell? ⟨w.heap.size, 0, none⟩ = some (.string c) := Blk.cell hA1 0; have a1 : w1.cell? ⟨w.heap.size, 1, none⟩ = some (.slice P np cp) := Blk.cell hA1 1; have a2 : w1.cell? ⟨w.heap.size, 2, none⟩ = some (.slice Q nq cq) := Blk.cell hA1 2; obtain ⟨x0, x1, f0, f1⟩ := hX1.facts; have hz1 : w.heap.size + 1 < w1.heap.size := Blk.lt hX1) | (go_at_call 150; refine (HX.out _ (HP.out.keep belB) (HQ.out.keep belB)).mono ?_; rintro e w2 ⟨rfl, hb2⟩; have hX2 : ResBox w2 (w.heap.size + 1) ⟨#[]⟩ 0 := Blk.keep hX1 hb2; obtain ⟨y0, y1, g0, g1⟩ := hX2.facts; have hz2 : w.heap.size + 1 < w2.heap.size := Blk.lt hX2))
    exact bodyPost_ret (v := .agg #[.string T, .int .i64 0]) (by simp [results, Tryz.results130, go_sem, hz2, y0, y1, g0, g1]) rfl ⟨rfl, belB⟩
end Go.Proofs.YtokfclikhfpmhaaGreatDoor
namespace Go.Proofs.YtokfclikhfpmhaaGreatDoor
open Go.RowKit Go.Sort
set_option linter.unusedVariables false
set_option linter.unusedSimpArgs false
set_option maxRecDepth 100000
def strP (p : Part) : ByteArray := stringP p.kind p.text
theorem str0 {p : Part} (h : p.kind = 0) : strP p = p.text := by unfold strP stringP; rw [if_pos h]
end Go.Proofs.YtokfclikhfpmhaaGreatDoor
