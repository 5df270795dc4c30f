/- What the law's sanity returns. -/
import Derived.Test.YtocgkpdolgnbgaaGreatDoorPJD
import Derived.Deep.RegionHeld3
import Derived.Deep.DeepCutAuto
import Derived.Test.YtocgkpdolgnbgaaGreatDoorProg
import Derived.WalkKit
import Derived.WalkSpells
import Derived.WalkLawsBesides
import Derived.Below
import Derived.Deep.QuietTactic
import Derived.BigQuiet
import Derived.Lib.QuietBelow
import Derived.Lib.Strings
import Derived.Lib.Hide
import Derived.Deep.RegionWith
import Derived.Lib.IndexBytes
namespace Go.Proofs.YtocgkpdolgnbgaaGreatDoor
open Go.RowKit Go.Sort
set_option linter.unusedVariables false
set_option linter.unusedSimpArgs false
set_option maxRecDepth 100000
set_option maxHeartbeats 8000000 in
theorem san21_any (w : World) (hE : Env w) (hT : Tab w) : Calls Tryz.prog 11 #[] w (Ret w (.bool true)) := by
  obtain ⟨i0, hi0, hz0, hz1, hz2⟩ := info_parts infoInt
  have HI : Hid ((Tryz.prog.info? 3 = some i0) ∧ i0.zero = some (.int .i64 0) ∧ i0.size = 1 ∧ i0.bytes = 8) := Lib.hid ⟨hi0, hz0, hz1, hz2⟩
  have HE := Lib.hid hE
  have HT := Lib.hid hT
  clear hi0 hz0 hz1 hz2 hE hT
  go_enter Tryz.func11, Tryz.ntmps11
  go_wp2_with fail
  refine (in_any _ _ _ _).mono ?_; rintro e w1 ⟨rfl, hb1⟩
  have b1 : Below w.heap.size w w1 := blater _ hb1
  have r1 := (reads_new w 3 [.int .i64 1, .int .i64 2] 2 rfl).keep hb1
  clear hb1
  go_wp2_with fail
  refine (st_text _ _ _ (r1.keep (by (repeat (first | exact .refl _ _ | assumption | refine .drew ?_ | refine balloc ?_ _ | refine bdrewN ?_ _ | refine .setCell ?_ (by simp <;> omega) _ | refine bstep ?_ (by assumption))))) (HE.out.keep (by (repeat (first | exact .refl _ _ | assumption | refine .drew ?_ | refine balloc ?_ _ | refine bdrewN ?_ _ | refine .setCell ?_ (by simp <;> omega) _ | refine bstep ?_ (by assumption))))) (HT.out.keep (by (repeat (first | exact .refl _ _ | assumption | refine .drew ?_ | refine balloc ?_ _ | refine bdrewN ?_ _ | refine .setCell ?_ (by simp <;> omega) _ | refine bstep ?_ (by assumption)))))).mono ?_; rintro e w2 ⟨rfl, hb2⟩
  have b2 : Below w.heap.size w w2 := by (repeat (first | exact .refl _ _ | assumption | refine .drew ?_ | refine balloc ?_ _ | refine bdrewN ?_ _ | refine .setCell ?_ (by simp <;> omega) _ | refine bstep ?_ (by assumption)))
  clear hb2 b1 r1
  go_wp2_with fail
  refine (in_any _ _ _ _).mono ?_; rintro e w3 ⟨rfl, hb3⟩
  have b3 : Below w.heap.size w w3 := bstep b2 (blater _ hb3)
  have r3 := (reads_new w2 3 [.int .i64 1, .int .i64 2] 2 rfl).keep hb3
  clear hb3 b2
  go_wp2_with fail
  refine (in_any _ _ _ _).mono ?_; rintro e w4 ⟨rfl, hb4⟩
  have b4 : Below w.heap.size w w4 := bstep b3 (blater _ hb4)
  have r4 := (reads_new w3 3 [.int .i64 2, .int .i64 3] 2 rfl).keep hb4
  have r3b := r3.keep (blater _ hb4)
  clear hb4 b3 r3
  go_wp2_with fail
  refine (st_meet w4 [1, 2] [2, 3] [2] e2 e3 v2 _ _ _ _ _ _ rfl rfl r3b r4 (HE.out.keep b4)).mono ?_; rintro e w5 ⟨hb5, m, rfl, hm⟩
  have b5 : Below w.heap.size w w5 := bstep b4 hb5
  clear hb5 b4 r3b r4
  obtain ⟨M0, q0, M1, q1, M2, q2⟩ := m
  obtain ⟨-, -, hm3⟩ := hm
  dsimp only [cIn, CondMem.val, List.length_cons, List.length_nil] at hm3 ⊢
  go_wp2_with fail
  refine (in_any _ _ _ _).mono ?_; rintro e w6 ⟨rfl, hb6⟩
  have hMb : CBox w6 w5.heap.size 0 1099511627777 ⟨#[]⟩ M0 0 q0 M1 0 q1 M2 1 q2 0 := Blk.keep (two_box w5 _ _).1 hb6
  have b6 : Below w.heap.size w w6 := bstep b5 (blater _ (blater _ hb6))
  have r6 := (reads_new _ 3 [.int .i64 1, .int .i64 2] 2 rfl).keep hb6
  simp only [World.size_alloc] at r6
  have hm6 := hm3.keep (blater _ (blater _ hb6))
  have hz5 := Blk.lt hMb
  clear hb6 b5 hm3
  go_wp2_with fail
  refine (in_any _ _ _ _).mono ?_; rintro e w7 ⟨rfl, hb7⟩
  have b7 : Below w.heap.size w w7 := bstep b6 (blater _ hb7)
  have r7 := (reads_new w6 3 [.int .i64 3] 1 rfl).keep hb7
  have r6b := r6.keep (blater _ hb7)
  have hMb7 := Blk.keep hMb (blater _ hb7)
  have hm7 := hm6.keep (blater _ hb7)
  clear hb7 b6 r6 hMb hm6
  go_wp2_with fail
  refine (st_meet0 w7 [1, 2] [3] e2 e4 v3 _ _ _ _ _ _ rfl rfl r6b r7 (HE.out.keep b7)).mono ?_; rintro e w8 ⟨hb8, m, rfl, hn⟩
  have b8 : Below w.heap.size w w8 := bstep b7 hb8
  have hMb8 : CBox w8 w5.heap.size 0 1099511627777 ⟨#[]⟩ M0 0 q0 M1 0 q1 M2 1 q2 0 := Blk.keep hMb7 hb8
  have hm8 := hm7.keep hb8
  clear hb8 b7 r6b r7 hMb7 hm7
  obtain ⟨N0, p0, N1, p1, N2, p2⟩ := m
  dsimp only [zeroC, CondMem.val, List.length_nil] at hn ⊢
  clear hn
  go_wp2_with fail
  refine (always_any _).mono ?_; rintro e w9 ⟨rfl, hb9⟩
  have b9 : Below w.heap.size w w9 := bstep b8 (blater _ hb9)
  have hMb9 : CBox w9 w5.heap.size 0 1099511627777 ⟨#[]⟩ M0 0 q0 M1 0 q1 M2 1 q2 0 := Blk.keep hMb8 (blater _ hb9)
  have hNb9 : CBox w9 w8.heap.size 0 0 ⟨#[]⟩ N0 0 p0 N1 0 p1 N2 0 p2 0 := Blk.keep (World.alloc_heap_new _ _) hb9
  have hm9 := hm8.keep (blater _ hb9)
  clear hb9 b8 hMb8 hm8
  go_wp2_with fail
  refine (always_any _).mono ?_; rintro e w10 ⟨rfl, hb10⟩
  have b10 : Below w.heap.size w w10 := bstep b9 (blater _ (blater _ hb10))
  have hA10 : CBox w10 w9.heap.size 0 1099511627777 ⟨#[]⟩ none 0 0 (some ⟨w9.heap.size + 1, 0, none⟩) 2 2 none 0 0 0 := Blk.keep (two_box w9 _ _).1 hb10
  have rA10 := (reads_new _ 9 [.string ⟨#[100, 101]⟩, .string ⟨#[102, 114]⟩] 2 rfl).keep hb10
  simp only [World.size_alloc] at rA10
  have hMb10 : CBox w10 w5.heap.size 0 1099511627777 ⟨#[]⟩ M0 0 q0 M1 0 q1 M2 1 q2 0 := Blk.keep hMb9 (blater _ (blater _ hb10))
  have hNb10 : CBox w10 w8.heap.size 0 0 ⟨#[]⟩ N0 0 p0 N1 0 p1 N2 0 p2 0 := Blk.keep hNb9 (blater _ (blater _ hb10))
  have hm10 := hm9.keep (blater _ (blater _ hb10))
  clear hb10 b9 hMb9 hNb9 hm9
  obtain ⟨x0, x1, x2, x3, x4, x5, x6⟩ := hA10.facts
  have hzA := Blk.lt hA10
  go_wp2_with fail
  obtain ⟨WB, hWB⟩ : ∃ W, W = (w10.alloc (.cells #[.int .i64 0, .int .i64 1099511627777, .string ⟨#[]⟩, .slice none 0 0, .slice (some ⟨w10.heap.size + 1, 0, none⟩) 1 1, .slice none 0 0, .int .i64 0] 25)).alloc (.cells #[.string ⟨#[100, 101]⟩] 9) := ⟨_, rfl⟩
  have hbB : Below w10.heap.size w10 WB := by rw [hWB]; exact balloc (balloc (Below.refl _ _) _) _
  have rB : Reads WB 1 (some ⟨w10.heap.size + 1, 0, none⟩) 1 ([(⟨#[100, 101]⟩ : ByteArray)].map .string) := by
    have h := reads_new (w10.alloc (.cells #[.int .i64 0, .int .i64 1099511627777, .string ⟨#[]⟩, .slice none 0 0, .slice (some ⟨w10.heap.size + 1, 0, none⟩) 1 1, .slice none 0 0, .int .i64 0] 25)) 9 [.string ⟨#[100, 101]⟩] 1 rfl
    simp only [World.size_alloc] at h
    rw [hWB]
    exact h
  rw [← hWB]
  refine (st_imp WB _ _ _ _ (rA10.keep hbB) rB (HE.out.keep (bstep b10 hbB))).mono ?_; rintro e w11 ⟨rfl, hb11⟩
  have b11 : Below w.heap.size w w11 := bstep b10 (bstep hbB hb11)
  have hMb11 : CBox w11 w5.heap.size 0 1099511627777 ⟨#[]⟩ M0 0 q0 M1 0 q1 M2 1 q2 0 := Blk.keep hMb10 (bstep hbB hb11)
  have hNb11 : CBox w11 w8.heap.size 0 0 ⟨#[]⟩ N0 0 p0 N1 0 p1 N2 0 p2 0 := Blk.keep hNb10 (bstep hbB hb11)
  have hm11 := hm10.keep (bstep hbB hb11)
  clear hb11 b10 hMb10 hNb10 hm10 rB rA10 hWB hbB hA10 x0 x1 x2 x3 x4 x5 x6 hzA
  go_wp2_with fail
  obtain ⟨WL, hWL⟩ : ∃ W, W = w11.alloc (.cells #[.string ⟨#[97]⟩, .string ⟨#[97]⟩, .string ⟨#[102, 114]⟩, .int .i64 0, .int .i64 0, .int .i64 0] 34) := ⟨_, rfl⟩
  have hbL : Below w11.heap.size w11 WL := by rw [hWL]; exact balloc (Below.refl _ _) _
  have hXL : ABox WL w11.heap.size ⟨#[97]⟩ ⟨#[97]⟩ ⟨#[102, 114]⟩ 0 0 0 := by rw [hWL]; exact World.alloc_heap_new _ _
  have hML : CBox WL w5.heap.size 0 1099511627777 ⟨#[]⟩ M0 0 q0 M1 0 q1 M2 1 q2 0 := Blk.keep hMb11 hbL
  have hNL : CBox WL w8.heap.size 0 0 ⟨#[]⟩ N0 0 p0 N1 0 p1 N2 0 p2 0 := Blk.keep hNb11 hbL
  have hmL := hm11.keep hbL
  have bL := bstep b11 hbL
  rw [← hWL]
  have HXL := Lib.hid hXL; have HML := Lib.hid hML; have HNL := Lib.hid hNL; have HmL := Lib.hid hmL; have HBL := Lib.hid bL
  clear hWL hbL hMb11 hNb11 hm11 b11 hXL hML hNL hmL bL
  go_loopw [13, 14] (fun va vi wr => ∃ (k : Nat) (A' : Option Addr) (c' : Nat), (va = .slice A' k c' ∧ vi = .int .i64 k ∧ k ≤ 64) ∧ wr.ownsRow WL.heap.size 3 1 (.slice A' k c') k ((allSites.take k).map (.int .i64)) ∧ Below WL.heap.size WL wr) (fun _ vi _ => 64 - (intOf vi).toNat)
  case atStart => exact ⟨0, none, 0, ⟨rfl, rfl, Nat.zero_le _⟩, World.ownsRow_nil _ _ _ _, Below.refl _ _⟩
  case round =>
    obtain ⟨k, A', c', ⟨rfl, rfl, hk⟩, hown, hbr⟩ := hrel
    by_cases hlt : k < 64
    · have htk : allSites.take (k + 1) = allSites.take k ++ [(k : Int)] := by
        have hx : allSites[k]? = some (k : Int) := by unfold allSites; rw [List.getElem?_map, List.getElem?_range hlt]; rfl
        rw [List.take_add_one, hx]; rfl
      have HTK := Lib.hid htk
      have hk1 : (k : Int) < 64 := by omega
      clear htk
      go_wp2_with (at_builtin; refine wpList_append_own _ rfl _ _ 23 rfl WL.heap.size 3 i0 (.int .i64 0) 1 8 Tryz.underlying23 HI.out.1 HI.out.2.1 HI.out.2.2.1 HI.out.2.2.2 rfl (by decide) _ _ _ rfl (hown.alloc _) ⟨wr.heap.size, 0, none⟩ 1 1 [.int .i64 k] rfl rfl (cell_one_new _ _ _) (by simp [Value.oneCell']) (by unfold maxLen; omega) (by omega) (by have := hbr.size; simp at *; omega) ?_; intro v' w3 hown' hgrow _; obtain ⟨g', cap', rfl⟩ := ownsRow_succ hown')
      refine ⟨⟨k + 1, some ⟨g', 0, none⟩, cap', ⟨rfl, by go_num, by omega⟩, ?_, ?_⟩, by simp [intOf]; omega⟩
      · rw [HTK.out, List.map_append]; exact hown'
      · have h1 := hbr.size
        exact (hbr.alloc (by omega) _).grown hgrow (by simp; omega) (fun r e => ownsRow_block hown r e)
    · obtain rfl : k = 64 := by omega
      have hta : allSites.take 64 = allSites := by kernel_rfl
      rw [hta] at hown
      have rS := Reads.of_own hown
      have b12 := bstep HBL.out hbr
      have hM12 : CBox wr w5.heap.size 0 1099511627777 ⟨#[]⟩ M0 0 q0 M1 0 q1 M2 1 q2 0 := Blk.keep HML.out hbr
      have hN12 : CBox wr w8.heap.size 0 0 ⟨#[]⟩ N0 0 p0 N1 0 p1 N2 0 p2 0 := Blk.keep HNL.out hbr
      have hX12 : ABox wr w11.heap.size ⟨#[97]⟩ ⟨#[97]⟩ ⟨#[102, 114]⟩ 0 0 0 := Blk.keep HXL.out hbr
      have hm12 := HmL.out.keep hbr
      clear hta hown hlt hk HXL HML HNL HmL HBL hbr
      go_wp2_with fail
      refine (always_any _).mono ?_; rintro e w13 ⟨rfl, hb13⟩
      have b13 := bstep b12 hb13
      have hM13 : CBox w13 w5.heap.size 0 1099511627777 ⟨#[]⟩ M0 0 q0 M1 0 q1 M2 1 q2 0 := Blk.keep hM12 (hb13)
      have hN13 : CBox w13 w8.heap.size 0 0 ⟨#[]⟩ N0 0 p0 N1 0 p1 N2 0 p2 0 := Blk.keep hN12 (hb13)
      have hX13 : ABox w13 w11.heap.size ⟨#[97]⟩ ⟨#[97]⟩ ⟨#[102, 114]⟩ 0 0 0 := Blk.keep hX12 (hb13)
      have hm13 := hm12.keep (hb13)
      have rS13 := rS.keep hb13
      clear hb13 b12 hM12 hN12 hX12 hm12 rS
      go_wp2_with fail
      refine (in_any _ _ _ _).mono ?_; rintro e w14 ⟨rfl, hb14⟩
      have b14 := bstep b13 hb14
      have hM14 : CBox w14 w5.heap.size 0 1099511627777 ⟨#[]⟩ M0 0 q0 M1 0 q1 M2 1 q2 0 := Blk.keep hM13 (hb14)
      have hN14 : CBox w14 w8.heap.size 0 0 ⟨#[]⟩ N0 0 p0 N1 0 p1 N2 0 p2 0 := Blk.keep hN13 (hb14)
      have hX14 : ABox w14 w11.heap.size ⟨#[97]⟩ ⟨#[97]⟩ ⟨#[102, 114]⟩ 0 0 0 := Blk.keep hX13 (hb14)
      have hm14 := hm13.keep (hb14)
      have rS14 := rS13.keep hb14
      clear hb14 b13 hM13 hN13 hX13 hm13 rS13
      go_wp2_with fail
      refine (st_imp2 w14 _ _ rS14 (HE.out.keep b14)).mono ?_; rintro e w15 ⟨rfl, hb15⟩
      have b15 := bstep b14 hb15
      have hM15 : CBox w15 w5.heap.size 0 1099511627777 ⟨#[]⟩ M0 0 q0 M1 0 q1 M2 1 q2 0 := Blk.keep hM14 (hb15)
      have hN15 : CBox w15 w8.heap.size 0 0 ⟨#[]⟩ N0 0 p0 N1 0 p1 N2 0 p2 0 := Blk.keep hN14 (hb15)
      have hX15 : ABox w15 w11.heap.size ⟨#[97]⟩ ⟨#[97]⟩ ⟨#[102, 114]⟩ 0 0 0 := Blk.keep hX14 (hb15)
      have hm15 := hm14.keep (hb15)
      clear hb15 b14 hM14 hN14 hX14 hm14 rS14
      go_wp2_with fail
      refine (st_empty1 _ (HE.out.keep (by (repeat (first | exact .refl _ _ | assumption | refine .drew ?_ | refine balloc ?_ _ | refine bdrewN ?_ _ | refine .setCell ?_ (by simp <;> omega) _ | refine bstep ?_ (by assumption)))))).mono ?_; rintro e w16 ⟨rfl, hb16⟩
      have b16 := bstep b15 (blater _ hb16)
      have hM16 : CBox w16 w5.heap.size 0 1099511627777 ⟨#[]⟩ M0 0 q0 M1 0 q1 M2 1 q2 0 := Blk.keep hM15 (blater _ hb16)
      have hN16 : CBox w16 w8.heap.size 0 0 ⟨#[]⟩ N0 0 p0 N1 0 p1 N2 0 p2 0 := Blk.keep hN15 (blater _ hb16)
      have hX16 : ABox w16 w11.heap.size ⟨#[97]⟩ ⟨#[97]⟩ ⟨#[102, 114]⟩ 0 0 0 := Blk.keep hX15 (blater _ hb16)
      have hm16 := hm15.keep (blater _ hb16)
      clear hb16 b15 hM15 hN15 hX15 hm15
      go_wp2_with fail
      refine (st_empty2 _ (HE.out.keep (by (repeat (first | exact .refl _ _ | assumption | refine .drew ?_ | refine balloc ?_ _ | refine bdrewN ?_ _ | refine .setCell ?_ (by simp <;> omega) _ | refine bstep ?_ (by assumption)))))).mono ?_; rintro e w17 ⟨rfl, hb17⟩
      have b17 := bstep b16 (blater _ hb17)
      have hM17 : CBox w17 w5.heap.size 0 1099511627777 ⟨#[]⟩ M0 0 q0 M1 0 q1 M2 1 q2 0 := Blk.keep hM16 (blater _ hb17)
      have hN17 : CBox w17 w8.heap.size 0 0 ⟨#[]⟩ N0 0 p0 N1 0 p1 N2 0 p2 0 := Blk.keep hN16 (blater _ hb17)
      have hX17 : ABox w17 w11.heap.size ⟨#[97]⟩ ⟨#[97]⟩ ⟨#[102, 114]⟩ 0 0 0 := Blk.keep hX16 (blater _ hb17)
      have hm17 := hm16.keep (blater _ hb17)
      clear hb17 b16 hM16 hN16 hX16 hm16
      go_upto_region 20 with fail
      obtain ⟨wZ, hWZ⟩ : ∃ W, W = w17.alloc (.cells #[.string ⟨#[97]⟩, .string ⟨#[97]⟩, .string ⟨#[97, 97]⟩, .int .i64 0, .int .i64 5, .int .i64 5] 34) := ⟨_, rfl⟩
      have hbZ : Below w17.heap.size w17 wZ := by rw [hWZ]; exact balloc (Below.refl _ _) _
      have hYZ : ABox wZ w17.heap.size ⟨#[97]⟩ ⟨#[97]⟩ ⟨#[97, 97]⟩ 0 5 5 := by rw [hWZ]; exact World.alloc_heap_new _ _
      have hMZ : CBox wZ w5.heap.size 0 1099511627777 ⟨#[]⟩ M0 0 q0 M1 0 q1 M2 1 q2 0 := Blk.keep hM17 (hbZ)
      have hNZ : CBox wZ w8.heap.size 0 0 ⟨#[]⟩ N0 0 p0 N1 0 p1 N2 0 p2 0 := Blk.keep hN17 (hbZ)
      have hXZ : ABox wZ w11.heap.size ⟨#[97]⟩ ⟨#[97]⟩ ⟨#[102, 114]⟩ 0 0 0 := Blk.keep hX17 (hbZ)
      have hmZ := hm17.keep (hbZ)
      have bZ := bstep b17 hbZ
      rw [← hWZ]
      clear hWZ hbZ b17 hM17 hN17 hX17 hm17
      obtain ⟨a0, a1, a2, a3, a4, a5, a6⟩ := hMZ.facts
      obtain ⟨n0, n1, n2, n3, n4, n5, n6⟩ := hNZ.facts
      obtain ⟨x0, x1, x2, x3, x4, x5⟩ := hXZ.facts
      obtain ⟨y0, y1, y2, y3, y4, y5⟩ := hYZ.facts
      clear hMZ hNZ hXZ hYZ
      go_region_held3 (fun w' => w'.cell? ⟨w5.heap.size, 0, none⟩ = some (.int .i64 0) ∧ w'.cell? ⟨w5.heap.size, 1, none⟩ = some (.int .i64 1099511627777) ∧ w'.cell? ⟨w5.heap.size, 2, none⟩ = some (.string ⟨#[]⟩) ∧ w'.cell? ⟨w5.heap.size, 3, none⟩ = some (.slice M0 0 q0) ∧ w'.cell? ⟨w5.heap.size, 4, none⟩ = some (.slice M1 0 q1) ∧ w'.cell? ⟨w5.heap.size, 5, none⟩ = some (.slice M2 1 q2) ∧ w'.cell? ⟨w5.heap.size, 6, none⟩ = some (.int .i64 0) ∧ w'.cell? ⟨w8.heap.size, 0, none⟩ = some (.int .i64 0) ∧ w'.cell? ⟨w8.heap.size, 1, none⟩ = some (.int .i64 0) ∧ w'.cell? ⟨w8.heap.size, 2, none⟩ = some (.string ⟨#[]⟩) ∧ w'.cell? ⟨w8.heap.size, 3, none⟩ = some (.slice N0 0 p0) ∧ w'.cell? ⟨w8.heap.size, 4, none⟩ = some (.slice N1 0 p1) ∧ w'.cell? ⟨w8.heap.size, 5, none⟩ = some (.slice N2 0 p2) ∧ w'.cell? ⟨w8.heap.size, 6, none⟩ = some (.int .i64 0) ∧ w'.cell? ⟨w11.heap.size, 2, none⟩ = some (.string ⟨#[102, 114]⟩) ∧ w'.cell? ⟨w17.heap.size, 4, none⟩ = some (.int .i64 5) ∧ w'.cell? ⟨w17.heap.size, 5, none⟩ = some (.int .i64 5) ∧ Reads w' 1 M2 1 ([2].map (.int .i64)) ∧ Below w.heap.size w w')
        (first | exact ⟨a0, a1, a2, a3, a4, a5, a6, n0, n1, n2, n3, n4, n5, n6, x2, y4, y5, hmZ, Below.drew bZ⟩ | (go_split_ands; refine ⟨?_, ?_, ?_, ?_, ?_, ?_, ?_, ?_, ?_, ?_, ?_, ?_, ?_, ?_, ?_, ?_, ?_, ?_, ?_⟩ <;> first | assumption | (refine Lib.cell?_alloc_some _ ?_; assumption) | (refine balloc ?_ _; assumption) | exact Below.drew (balloc bZ _) | (refine Reads.keep ?_ (balloc (Below.refl _ _) _); assumption) | (refine Reads.keep ?_ (Below.drew (balloc (Below.refl _ _) _)); assumption) | (refine cell_keep hb20 ?_; assumption) | (refine bstep ?_ hb20; assumption) | (refine Reads.keep ?_ hb20; assumption) | (refine cell_keep hb19 ?_; assumption) | (refine bstep ?_ hb19; assumption) | (refine Reads.keep ?_ hb19; assumption) | (refine cell_keep hb18 ?_; assumption) | (refine bstep ?_ hb18; assumption) | (refine Reads.keep ?_ hb18; assumption)))
        (first | (go_at_call 32; refine (in_any _ _ _ _).mono ?_; rintro e w18 ⟨rfl, hb18⟩; have hr2 : Reads w18 1 (some ⟨wZ.heap.size, 0, none⟩) 1 ([2].map (.int .i64)) := Reads.keep (by exact reads_new wZ 3 [.int .i64 2] 1 rfl) hb18) | (go_at_call 18; (first | (with_reducible refine (rSame_eq 0 1099511627777 0 ⟨#[]⟩ M0 M1 M2 none none (some ⟨wZ.heap.size, 0, none⟩) 0 q0 0 q1 1 q2 0 0 1 [] [] [2] w18 (Reads.nil_ _ _ _) (Reads.nil_ _ _ _) (by go_split_ands; assumption) (Reads.nil_ _ _ _) (Reads.nil_ _ _ _) hr2 (by omega) (by omega) (by omega)).mono ?_)); rintro e w19 ⟨rfl, hb19⟩) | (go_at_call 18; (with_reducible refine (rSame_eq 0 0 0 ⟨#[]⟩ N0 N1 N2 none none none 0 p0 0 p1 0 p2 0 0 0 [] [] [] w19 (Reads.nil_ _ _ _) (Reads.nil_ _ _ _) (Reads.nil_ _ _ _) (Reads.nil_ _ _ _) (Reads.nil_ _ _ _) (Reads.nil_ _ _ _) (by omega) (by omega) (by omega)).mono ?_); rintro e w20 ⟨rfl, hb20⟩))
      all_goals go_wp2
      all_goals go_ret
      all_goals exact ⟨rfl, by go_split_ands; assumption⟩
end Go.Proofs.YtocgkpdolgnbgaaGreatDoor
namespace Go.Proofs.YtocgkpdolgnbgaaGreatDoor
open Go.RowKit Go.Sort
set_option linter.unusedVariables false
set_option linter.unusedSimpArgs false
set_option maxRecDepth 100000
def fewV (c : CondV) : Bool := fewC c.cl.length c.co.length c.si.length c.pat c.cl c.co
theorem few_fits {c : CondV} (h : fewV c = true) : CondFits c := by
  unfold fewV fewC at h
  simp only [Bool.and_eq_true, decide_eq_true_eq, List.all_eq_true] at h
  obtain ⟨⟨⟨⟨⟨h1, h2⟩, h3⟩, h4⟩, h5⟩, h6⟩ := h
  exact ⟨by omega, fun x hx => by have := h5 x hx; omega, fun x hx => by have := h6 x hx; omega, by omega, by omega, by omega⟩
theorem few_cond (c : CondV) (m : CondMem) (w : World) (hR : CondReads w c m) : Calls Tryz.prog 10 #[CondMem.val c m] w (Ret w (.bool (fewV c))) := rFew_any c.fr c.till c.us c.pat m.A m.B m.S c.cl.length m.ca c.co.length m.cb c.si.length m.cs c.cl c.co w hR.cl hR.co
theorem same_cond (c : CondV) (m n : CondMem) (w : World) (hm : CondReads w c m) (hn : CondReads w c n) (h : CondFits c) : Calls Tryz.prog 18 #[CondMem.val c m, CondMem.val c n] w (Ret w (.bool true)) := rSame_eq c.fr c.till c.us c.pat m.A m.B m.S n.A n.B n.S c.cl.length m.ca c.co.length m.cb c.si.length m.cs n.ca n.cb n.cs c.cl c.co c.si w hm.cl hm.co hm.si hn.cl hn.co hn.si (by have := h.n1; omega) (by have := h.n2; omega) (by have := h.n3; omega)
def VBox (w : World) (g : Nat) (c : CondV) (m : CondMem) : Prop := CBox w g c.fr c.till c.pat m.A c.cl.length m.ca m.B c.co.length m.cb m.S c.si.length m.cs c.us
end Go.Proofs.YtocgkpdolgnbgaaGreatDoor
namespace Go.Proofs.YtocgkpdolgnbgaaGreatDoor
open Go.RowKit Go.Sort
set_option linter.unusedVariables false
set_option linter.unusedSimpArgs false
set_option maxRecDepth 100000
end Go.Proofs.YtocgkpdolgnbgaaGreatDoor
namespace Go.Proofs.YtocgkpdolgnbgaaGreatDoor
open Go.RowKit Go.Sort
set_option linter.unusedVariables false
set_option linter.unusedSimpArgs false
set_option maxRecDepth 100000
theorem VBox.facts {w : World} {g : Nat} {c : CondV} {m : CondMem} (h : VBox w g c m) :
    w.cell? ⟨g, 0, none⟩ = some (.int .i64 c.fr) ∧ w.cell? ⟨g, 1, none⟩ = some (.int .i64 c.till) ∧ w.cell? ⟨g, 2, none⟩ = some (.string c.pat) ∧ w.cell? ⟨g, 3, none⟩ = some (.slice m.A c.cl.length m.ca) ∧ w.cell? ⟨g, 4, none⟩ = some (.slice m.B c.co.length m.cb) ∧ w.cell? ⟨g, 5, none⟩ = some (.slice m.S c.si.length m.cs) ∧ w.cell? ⟨g, 6, none⟩ = some (.int .i64 c.us) := CBox.facts h
theorem VBox.keep {w w' : World} {g : Nat} {c : CondV} {m : CondMem} (h : VBox w g c m) (hb : Below w.heap.size w w') : VBox w' g c m := Blk.keep h hb
def YBox (w : World) (g : Nat) (q : AskV) : Prop := ABox w g q.addr q.client q.country q.site q.lo q.hi
theorem YBox.facts {w : World} {g : Nat} {q : AskV} (h : YBox w g q) :
    w.cell? ⟨g, 0, none⟩ = some (.string q.addr) ∧ w.cell? ⟨g, 1, none⟩ = some (.string q.client) ∧ w.cell? ⟨g, 2, none⟩ = some (.string q.country) ∧ w.cell? ⟨g, 3, none⟩ = some (.int .i64 q.site) ∧ w.cell? ⟨g, 4, none⟩ = some (.int .i64 q.lo) ∧ w.cell? ⟨g, 5, none⟩ = some (.int .i64 q.hi) := ABox.facts h
theorem YBox.keep {w w' : World} {g : Nat} {q : AskV} (h : YBox w g q) (hb : Below w.heap.size w w') : YBox w' g q := Blk.keep h hb
end Go.Proofs.YtocgkpdolgnbgaaGreatDoor
