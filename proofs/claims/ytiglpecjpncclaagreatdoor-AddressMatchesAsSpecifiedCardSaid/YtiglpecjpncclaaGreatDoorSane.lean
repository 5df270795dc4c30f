/- What 'sanity' returns: the examples of the document. -/
import Derived.Test.YtiglpecjpncclaaGreatDoorCovers
import Derived.KernelRfl
import Derived.Test.YtiglpecjpncclaaGreatDoorProg
import Derived.WalkKit
import Derived.WalkSpells
import Derived.WalkLawsBesides
import Derived.Below
import Derived.Deep.QuietTactic
import Derived.BigQuiet
import Derived.Lib.QuietBelow
import Derived.Lib.Strings
import Derived.Lib.Hide
import Derived.Deep.RegionWith
import Derived.Deep.RegionHeld3
import Derived.Lib.IndexBytes
namespace Go.Proofs.YtiglpecjpncclaaGreatDoor
open Go.RowKit Go.Sort
set_option linter.unusedVariables false
set_option linter.unusedSimpArgs false
set_option maxRecDepth 100000
theorem s1 : canonV (⟨#[65, 99, 109, 101, 47, 78, 101, 119, 115, 47, 46, 47, 50, 48, 50, 54, 47, 46, 46, 47, 97, 46, 72, 84, 77, 76, 47, 63, 98, 61, 50, 38, 97, 61, 49]⟩ : ByteArray) = .tuple #[.string (⟨#[97, 99, 109, 101, 47, 110, 101, 119, 115, 47, 97, 46, 104, 116, 109, 108, 63, 97, 61, 49, 38, 98, 61, 50]⟩ : ByteArray), .int .i64 0] := by kernel_rfl
theorem s2 : matchB (⟨#[97, 99, 109, 101, 47, 110, 101, 119, 115, 47, 42, 42]⟩ : ByteArray) (⟨#[97, 99, 109, 101, 47, 110, 101, 119, 115]⟩ : ByteArray) = true := by kernel_rfl
theorem s3 : matchB (⟨#[97, 99, 109, 101, 47, 42, 47, 42, 46, 104, 116, 109, 108]⟩ : ByteArray) (⟨#[97, 99, 109, 101, 47, 110, 101, 119, 115, 47, 97, 46, 104, 116, 109, 108]⟩ : ByteArray) = true := by kernel_rfl
theorem s4 : matchB (⟨#[97, 99, 109, 101, 47, 42]⟩ : ByteArray) (⟨#[97, 99, 109, 101, 47, 97, 47, 98]⟩ : ByteArray) = false := by kernel_rfl
theorem s5 : coversV (compileB (⟨#[97, 99, 109, 101, 47, 42, 42]⟩ : ByteArray)) (compileB (⟨#[97, 99, 109, 101, 47, 42, 46, 99, 115, 115]⟩ : ByteArray)) = .tuple #[.bool true, .string ⟨#[]⟩, .int .i64 0] := by kernel_rfl
theorem s6 : coversV (compileB (⟨#[97, 99, 109, 101, 47, 42, 46, 99, 115, 115]⟩ : ByteArray)) (compileB (⟨#[97, 99, 109, 101, 47, 42]⟩ : ByteArray)) = .tuple #[.bool false, .string (⟨#[97, 99, 109, 101, 47, 97]⟩ : ByteArray), .int .i64 0] := by kernel_rfl
theorem s7 : meetV (bothP (⟨#[97, 99, 109, 101, 47, 42, 47, 98]⟩ : ByteArray) (⟨#[97, 99, 109, 101, 47, 97, 47, 42, 42]⟩ : ByteArray)) = .tuple #[.bool true, .string (⟨#[97, 99, 109, 101, 47, 97, 47, 98]⟩ : ByteArray), .int .i64 0] := by kernel_rfl
theorem s8 : meetV (bothP (⟨#[97, 99, 109, 101, 47, 42, 46, 99, 115, 115]⟩ : ByteArray) (⟨#[97, 99, 109, 101, 47, 42, 46, 106, 115]⟩ : ByteArray)) = .tuple #[.bool false, .string ⟨#[]⟩, .int .i64 0] := by kernel_rfl
theorem s9 : matchB (⟨#[97, 99, 109, 101, 47, 42]⟩ : ByteArray) (⟨#[97, 99, 109, 101, 47, 97]⟩ : ByteArray) = true := by kernel_rfl
/-- The sorted list of some texts. -/
theorem sortL_of {xs ys : List (List UInt8)} (hp : ys.Perm xs) (hs : ys.Pairwise (· ≤ ·)) : sortL xs = ys := by
  have tr : ∀ a b c : List UInt8, decide (a ≤ b) = true → decide (b ≤ c) = true → decide (a ≤ c) = true := fun a b c h1 h2 => by simp only [decide_eq_true_eq] at *; exact List.le_trans h1 h2
  have tot : ∀ a b : List UInt8, (decide (a ≤ b) || decide (b ≤ a)) = true := fun a b => by simp only [Bool.or_eq_true, decide_eq_true_eq]; exact List.le_total a b
  refine List.Perm.eq_of_pairwise (le := fun a b => decide (a ≤ b) = true) (fun a b _ _ h1 h2 => ?_) (List.pairwise_mergeSort tr tot _) (hs.imp fun h => decide_eq_true h) ((List.mergeSort_perm _ _).trans hp.symm)
  simp only [decide_eq_true_eq] at h1 h2
  exact List.le_antisymm h1 h2
theorem t10 : tagsL [(⟨#[98]⟩ : ByteArray), (⟨#[97]⟩ : ByteArray), (⟨#[98]⟩ : ByteArray)] = [97, 44, 98] := by
  have h : sortL (lists [(⟨#[98]⟩ : ByteArray), (⟨#[97]⟩ : ByteArray), (⟨#[98]⟩ : ByteArray)]) = [[97], [98], [98]] := sortL_of (by decide) (by decide)
  unfold tagsL
  rw [h]
  show Lib.join (Lib.compact [[97], [98], [98]]) [44] = [97, 44, 98]
  kernel_rfl
theorem t13 : tagsL [(⟨#[97]⟩ : ByteArray), (⟨#[98]⟩ : ByteArray)] = [97, 44, 98] := by
  have h : sortL (lists [(⟨#[97]⟩ : ByteArray), (⟨#[98]⟩ : ByteArray)]) = [[97], [98]] := sortL_of (by decide) (by decide)
  unfold tagsL
  rw [h]
  show Lib.join (Lib.compact [[97], [98]]) [44] = [97, 44, 98]
  kernel_rfl
theorem s10 : tagsV [(⟨#[98]⟩ : ByteArray), (⟨#[97]⟩ : ByteArray), (⟨#[98]⟩ : ByteArray)] = .tuple #[.string (⟨#[97, 44, 98]⟩ : ByteArray), .int .i64 0] := by
  have h : tagsR [(⟨#[98]⟩ : ByteArray), (⟨#[97]⟩ : ByteArray), (⟨#[98]⟩ : ByteArray)] = ((⟨#[97, 44, 98]⟩ : ByteArray), 0) := by
    unfold tagsR
    rw [t10, if_neg (by decide +kernel), if_neg (by decide)]
    rfl
  unfold tagsV
  rw [h]
theorem s11 : underB (⟨#[97, 99, 109, 101, 47, 110, 101, 119, 115]⟩ : ByteArray) (⟨#[97, 99, 109, 101, 47, 110, 101, 119, 115, 47, 97]⟩ : ByteArray) = true := by kernel_rfl
theorem s12 : underB (⟨#[97, 99, 109, 101, 47, 110, 101, 119]⟩ : ByteArray) (⟨#[97, 99, 109, 101, 47, 110, 101, 119, 115]⟩ : ByteArray) = false := by kernel_rfl
theorem s13 : hasTagB (⟨#[97, 44, 98]⟩ : ByteArray) (⟨#[98]⟩ : ByteArray) = true := by
  have h1 : splitB 44 (⟨#[97, 44, 98]⟩ : ByteArray) = [(⟨#[97]⟩ : ByteArray), (⟨#[98]⟩ : ByteArray)] := by kernel_rfl
  have h : tagsR [(⟨#[97]⟩ : ByteArray), (⟨#[98]⟩ : ByteArray)] = ((⟨#[97, 44, 98]⟩ : ByteArray), 0) := by
    unfold tagsR
    rw [t13, if_neg (by decide +kernel), if_neg (by decide)]
    rfl
  have h2 : splitR (⟨#[97, 44, 98]⟩ : ByteArray) = ([(⟨#[97]⟩ : ByteArray), (⟨#[98]⟩ : ByteArray)], 0) := by
    unfold splitR
    rw [h1, h, if_neg (by decide +kernel), if_pos (by decide +kernel)]
  unfold hasTagB
  rw [h2]
  show Lib.containsS [(⟨#[97]⟩ : ByteArray), (⟨#[98]⟩ : ByteArray)] (⟨#[98]⟩ : ByteArray) = true
  kernel_rfl
set_option maxHeartbeats 4000000 in
theorem sanity_any (w : World) (hE : Env w) : Calls Tryz.prog 11 #[] w (Ret w (.bool true)) := by
  have c1 := fun W h => s1 ▸ canonical_any (⟨#[65, 99, 109, 101, 47, 78, 101, 119, 115, 47, 46, 47, 50, 48, 50, 54, 47, 46, 46, 47, 97, 46, 72, 84, 77, 76, 47, 63, 98, 61, 50, 38, 97, 61, 49]⟩ : ByteArray) W (by decide) h
  have c2 := fun W h => s2 ▸ match_any (⟨#[97, 99, 109, 101, 47, 110, 101, 119, 115, 47, 42, 42]⟩ : ByteArray) (⟨#[97, 99, 109, 101, 47, 110, 101, 119, 115]⟩ : ByteArray) W (by decide) (by decide) h
  have c3 := fun W h => s3 ▸ match_any (⟨#[97, 99, 109, 101, 47, 42, 47, 42, 46, 104, 116, 109, 108]⟩ : ByteArray) (⟨#[97, 99, 109, 101, 47, 110, 101, 119, 115, 47, 97, 46, 104, 116, 109, 108]⟩ : ByteArray) W (by decide) (by decide) h
  have c4 := fun W h => s4 ▸ match_any (⟨#[97, 99, 109, 101, 47, 42]⟩ : ByteArray) (⟨#[97, 99, 109, 101, 47, 97, 47, 98]⟩ : ByteArray) W (by decide) (by decide) h
  have c5 := fun W h => s5 ▸ covers_any2 (⟨#[97, 99, 109, 101, 47, 42, 42]⟩ : ByteArray) (⟨#[97, 99, 109, 101, 47, 42, 46, 99, 115, 115]⟩ : ByteArray) W (by decide) (by decide) h
  have c6 := fun W h => s6 ▸ covers_any2 (⟨#[97, 99, 109, 101, 47, 42, 46, 99, 115, 115]⟩ : ByteArray) (⟨#[97, 99, 109, 101, 47, 42]⟩ : ByteArray) W (by decide) (by decide) h
  have c7 := fun W h => s7 ▸ addrMeet_any (⟨#[97, 99, 109, 101, 47, 42, 47, 98]⟩ : ByteArray) (⟨#[97, 99, 109, 101, 47, 97, 47, 42, 42]⟩ : ByteArray) W (by decide) (by decide) h
  have c8 := fun W h => s8 ▸ addrMeet_any (⟨#[97, 99, 109, 101, 47, 42, 46, 99, 115, 115]⟩ : ByteArray) (⟨#[97, 99, 109, 101, 47, 42, 46, 106, 115]⟩ : ByteArray) W (by decide) (by decide) h
  have c9 := fun W h => s9 ▸ match_any (⟨#[97, 99, 109, 101, 47, 42]⟩ : ByteArray) (⟨#[97, 99, 109, 101, 47, 97]⟩ : ByteArray) W (by decide) (by decide) h
  have c10 := fun A c W h => s10 ▸ tags_any A 3 c [(⟨#[98]⟩ : ByteArray), (⟨#[97]⟩ : ByteArray), (⟨#[98]⟩ : ByteArray)] W h (by decide) (by decide)
  have c11 := fun W h => s11 ▸ under_any (⟨#[97, 99, 109, 101, 47, 110, 101, 119, 115]⟩ : ByteArray) (⟨#[97, 99, 109, 101, 47, 110, 101, 119, 115, 47, 97]⟩ : ByteArray) W (by decide) (by decide) h
  have c12 := fun W h => s12 ▸ under_any (⟨#[97, 99, 109, 101, 47, 110, 101, 119]⟩ : ByteArray) (⟨#[97, 99, 109, 101, 47, 110, 101, 119, 115]⟩ : ByteArray) W (by decide) (by decide) h
  have c13 := fun W h => s13 ▸ hasTag_any (⟨#[97, 44, 98]⟩ : ByteArray) (⟨#[98]⟩ : ByteArray) W (by decide) h
  have H1 := Lib.hid c1; have H2 := Lib.hid c2; have H3 := Lib.hid c3; have H4 := Lib.hid c4; have H5 := Lib.hid c5; have H6 := Lib.hid c6; have H7 := Lib.hid c7; have H8 := Lib.hid c8; have H9 := Lib.hid c9; have H10 := Lib.hid c10; have H11 := Lib.hid c11; have H12 := Lib.hid c12; have H13 := Lib.hid c13
  have HE := Lib.hid hE
  clear c1 c2 c3 c4 c5 c6 c7 c8 c9 c10 c11 c12 c13 hE
  go_enter Tryz.func11, Tryz.ntmps11
  go_wp2_with fail
  refine (H1.out _ HE.out).mono ?_; rintro e w1 ⟨rfl, hb1⟩
  have HE1 := Lib.hid (HE.out.keep hb1)
  go_wp2_with fail
  refine (H2.out _ HE1.out).mono ?_; rintro e w2 ⟨rfl, hb2⟩
  have HE2 := Lib.hid (HE1.out.keep hb2)
  go_wp2_with fail
  refine (H3.out _ HE2.out).mono ?_; rintro e w3 ⟨rfl, hb3⟩
  have HE3 := Lib.hid (HE2.out.keep hb3)
  go_wp2_with fail
  refine (H4.out _ HE3.out).mono ?_; rintro e w4 ⟨rfl, hb4⟩
  have HE4 := Lib.hid (HE3.out.keep hb4)
  go_wp2_with fail
  refine (H5.out _ HE4.out).mono ?_; rintro e w5 ⟨rfl, hb5⟩
  have HE5 := Lib.hid (HE4.out.keep hb5)
  go_wp2_with fail
  refine (H6.out _ HE5.out).mono ?_; rintro e w6 ⟨rfl, hb6⟩
  have HE6 := Lib.hid (HE5.out.keep hb6)
  go_wp2_with fail
  refine (H7.out _ HE6.out).mono ?_; rintro e w7 ⟨rfl, hb7⟩
  have HE7 := Lib.hid (HE6.out.keep hb7)
  go_wp2_with fail
  refine (H8.out _ HE7.out).mono ?_; rintro e w8 ⟨rfl, hb8⟩
  have HE8 := Lib.hid (HE7.out.keep hb8)
  go_wp2_with fail
  refine (H9.out _ HE8.out).mono ?_; rintro e w9 ⟨rfl, hb9⟩
  have HE9 := Lib.hid (HE8.out.keep hb9)
  go_wp2_with fail
  refine (H10.out _ _ _ (reads_new w9 9 [.string (⟨#[98]⟩ : ByteArray), .string (⟨#[97]⟩ : ByteArray), .string (⟨#[98]⟩ : ByteArray)] 3 rfl)).mono ?_; rintro e w10 ⟨rfl, hb10⟩
  have HE10 := Lib.hid (HE9.out.keep (blater _ hb10))
  go_wp2_with fail
  refine (H11.out _ HE10.out).mono ?_; rintro e w11 ⟨rfl, hb11⟩
  have HE11 := Lib.hid (HE10.out.keep hb11)
  go_wp2_with fail
  refine (H12.out _ HE11.out).mono ?_; rintro e w12 ⟨rfl, hb12⟩
  have HE12 := Lib.hid (HE11.out.keep hb12)
  go_wp2_with fail
  refine (H13.out _ HE12.out).mono ?_; rintro e w13 ⟨rfl, hb13⟩
  go_wp2_with fail
  go_ret
  exact ⟨rfl, by (repeat (first | exact Below.refl _ _ | assumption | refine Below.drew ?_ | refine balloc ?_ _ | refine bdrewN ?_ _ | refine Below.setCell ?_ (by first | (simp; done) | (simp; omega)) _ | refine bstep ?_ (by assumption)))⟩

end Go.Proofs.YtiglpecjpncclaaGreatDoor
