/- What the law's sanity returns: the walk. -/
import Derived.Test.YtdlbfjoemabfpaaGreatDoorEZ37
import Derived.Test.YtdlbfjoemabfpaaGreatDoorCards
import Derived.Test.YtdlbfjoemabfpaaGreatDoorTie
import Derived.Deep.DeepHandedRow
import Derived.Stop.LaidErr
namespace Go.Proofs.YtdlbfjoemabfpaaGreatDoor
open Go.RowKit Go.Sort
set_option linter.unusedVariables false
set_option linter.unusedSimpArgs false
set_option maxRecDepth 100000
theorem same01 (l : List Nat) (n : Nat) (hn : l.length = n) (hb : n ≤ 1000000) (A : Option Addr) (c : Nat) (W : World) (hA : Reads W 1 A n (i64s l)) : Calls Tryz.prog 22 #[.slice A n c, .slice (some ⟨W.heap.size, 0, none⟩) n n] (W.alloc (.cells (i64s l).toArray 3)) (Ret (W.alloc (.cells (i64s l).toArray 3)) (.bool true)) :=
 rSame22_eq A (some ⟨W.heap.size, 0, none⟩) n c n l _ (hA.keep ((Below.refl _ _).alloc (Nat.le_refl _) _)) (reads_new W 3 (i64s l) n (by unfold i64s; rw [List.length_map]; exact hn)) hb
theorem same_two (A : Option Addr) (c : Nat) (W : World) (hA : Reads W 1 A 2 (i64s [0, 1])) : Calls Tryz.prog 22 #[.slice A 2 c, .slice (some ⟨W.heap.size, 0, none⟩) 2 2] (W.alloc (.cells #[.int .i64 0, .int .i64 1] 3)) (Ret (W.alloc (.cells #[.int .i64 0, .int .i64 1] 3)) (.bool true)) :=
 same01 [0, 1] 2 rfl (by omega) A c W hA
theorem same_one (A : Option Addr) (c : Nat) (W : World) (hA : Reads W 1 A 1 (i64s [1])) : Calls Tryz.prog 22 #[.slice A 1 c, .slice (some ⟨W.heap.size, 0, none⟩) 1 1] (W.alloc (.cells #[.int .i64 1] 3)) (Ret (W.alloc (.cells #[.int .i64 1] 3)) (.bool true)) :=
 same01 [1] 1 rfl (by omega) A c W hA
def PossN (n : Nat) (l : List Nat) (w : World) (e : Ending) (w' : World) : Prop := ∃ A c, e = .returned (.slice A n c) ∧ Reads w' 1 A n (i64s l) ∧ Below w.heap.size w w'
theorem ex_poss2 {g T pb : Nat} {W : World} (h : PolAt g T pb false W) (hE : Env W) : Calls Tryz.prog 23 #[.slice (some ⟨g, 0, none⟩) 2 2, .string (⟨#[97, 99, 109, 101, 47, 110, 101, 119, 115, 47, 97]⟩ : ByteArray)] W (PossN 2 [0, 1] W) :=
 ex_possible h hE _ [0, 1] (by decide) (po1 T)
theorem ex_poss1 {g T pb : Nat} {W : World} (h : PolAt g T pb false W) (hE : Env W) : Calls Tryz.prog 23 #[.slice (some ⟨g, 0, none⟩) 2 2, .string (⟨#[97, 99, 109, 101, 47, 120]⟩ : ByteArray)] W (PossN 1 [1] W) :=
 ex_possible h hE _ [1] (by decide) (po2 T)
structure SanS (w : World) (g T pb : Nat) (W : World) : Prop where
 a : PolAt g T pb false W
 b : Below w.heap.size w W
theorem SanS.keep {w W W' : World} {g T pb : Nat} (h : SanS w g T pb W) (hb : Below W.heap.size W W') : SanS w g T pb W' := ⟨h.a.keep hb, bstep h.b hb⟩
structure SanT (w : World) (g T pb sb : Nat) (W : World) : Prop where
 a : PolAt g T pb false W
 s : Box1 W sb 56 exStamp.cells.toArray
 b : Below w.heap.size w W
theorem SanT.keep {w W W' : World} {g T pb sb : Nat} (h : SanT w g T pb sb W) (hb : Below W.heap.size W W') : SanT w g T pb sb W' := ⟨h.a.keep hb, h.s.keep hb, bstep h.b hb⟩
structure SanU (w : World) (g T pb sb g2 T2 pb2 : Nat) (sg : Bool) (W : World) : Prop where
 a : PolAt g T pb false W
 s : Box1 W sb 56 exStamp.cells.toArray
 a2 : PolAt g2 T2 pb2 sg W
 b : Below w.heap.size w W
theorem SanU.keep {w W W' : World} {g T pb sb g2 T2 pb2 : Nat} {sg : Bool} (h : SanU w g T pb sb g2 T2 pb2 sg W) (hb : Below W.heap.size W W') : SanU w g T pb sb g2 T2 pb2 sg W' := ⟨h.a.keep hb, h.s.keep hb, h.a2.keep hb, bstep h.b hb⟩
set_option maxHeartbeats 8000000 in
theorem san22_any (w : World) (hE : Env w) (hT : Tab w) (hK : Ks w) : Calls Tryz.prog 10 #[] w (Ret w (.bool true)) := by
 have HE := Lib.hid hE; have HT := Lib.hid hT; have HK := Lib.hid hK
 have HC1 := Lib.hid ch1; have HC2 := Lib.hid ch2; have HC3 := Lib.hid ch3; have HC4 := Lib.hid ch4; have HP1 := Lib.hid po1; have HP2 := Lib.hid po2
 have HS1 : Hid True := Lib.hid trivial
 obtain ⟨X2, hX2⟩ : ∃ X, X = (exTwo false).toArray := ⟨_, rfl⟩
 obtain ⟨SX, hSX⟩ : ∃ X, X = exStamp.cells.toArray := ⟨_, rfl⟩
 have hm1 := fun W => ex_maxAge 200 0 100 (by decide) (by decide) W
 have hm2 := fun W => ex_maxAge 200 1 150 (by decide) (by decide) W
 have hm3 := fun W => ex_maxAge 200 2 1100 (by decide) (by decide) W
 have hm4 := fun W => ex_maxAge 404 2 5 (by decide) (by decide) W
 have hun := ex_until
 have hy1 := ex_young 120 true (by decide)
 have hy2 := ex_young 121 false (by decide)
 have hus := ex_usable
 have hx2 : ∀ {g T pb : Nat} (W : World), PolAt g T pb false W → (loadVar 33 ⟨g, 18, none⟩).run Tryz.prog W = .ok (.agg (exTwo false).toArray) W := fun W h => h.ld2
 simp only [← hX2, ← hSX] at hm1 hm2 hm3 hm4 hun hy1 hy2 hus hx2
 have HM1 := Lib.hid hm1; have HM2 := Lib.hid hm2; have HM3 := Lib.hid hm3; have HM4 := Lib.hid hm4; have HUN := Lib.hid hun; have HY1 := Lib.hid hy1; have HY2 := Lib.hid hy2; have HUS := Lib.hid hus
 have HX2 : Hid (∀ (pb : Nat) (W : World), PolAt (w.heap.size + 5) (w.heap.size + 2) pb false W → (loadVar 33 ⟨w.heap.size + 5, 18, none⟩).run Tryz.prog W = .ok (.agg X2) W) := Lib.hid fun pb W h => hx2 W h
 have HSX := Lib.hid hSX; have HXE := Lib.hid hX2
 clear hX2 hSX hE hT hK hm1 hm2 hm3 hm4 hun hy1 hy2 hus hx2
 go_enter Tryz.func10, Tryz.ntmps10
 go_upto_region 3 with (go_at_call 44; refine (example22_any _).mono ?_; rintro e w1 ⟨rfl, hrow, htags, hb1⟩)
 obtain ⟨pb, hpb⟩ : ∃ pb, pb = w1.heap.size := ⟨_, rfl⟩
 rw [← hpb]
 generalize hw2 : World.alloc _ _ = w2
 have hS : SanS w (w.heap.size + 5) (w.heap.size + 2) pb w2 := by
  rw [← hw2]
  have hbb : Below w1.heap.size w1 (w1.alloc (.cells #[.string (⟨#[97, 99, 109, 101]⟩ : ByteArray), .int .i64 9, .slice (some ⟨w.heap.size + 5, 0, none⟩) 2 2] 24)) := (Below.refl _ _).alloc (Nat.le_refl _) _
  exact ⟨⟨hrow.keep hbb, htags.keep hbb, by rw [hpb]; exact heap_alloc_new w1 _⟩, bstep hb1 hbb⟩
 clear hw2 hpb hrow htags hb1
 clear w1
 go_upto_region 4 with (first
  | (refine wpList_load_addr rfl 24 _ rfl ⟨pb, 0, none⟩ (.agg (exPol (w.heap.size + 5))) rfl hS.a.ldp ?_)
  | (go_at_call 13; refine (ex_check hS.a (HE.out.keep hS.b)).mono ?_; (rintro e w' ⟨rfl, hb'⟩; replace hS := hS.keep hb'; clear hb'))
  | (go_at_call 20; refine (ex_choose hS.a (HE.out.keep hS.b) _ _ 0 (by decide) (by decide) (HC1.out _)).mono ?_; clear HC1; (rintro e w' ⟨rfl, hb'⟩; replace hS := hS.keep hb'; clear hb')) | (go_at_call 20; refine (ex_choose hS.a (HE.out.keep hS.b) _ _ 1 (by decide) (by decide) (HC2.out _)).mono ?_; clear HC2; (rintro e w' ⟨rfl, hb'⟩; replace hS := hS.keep hb'; clear hb')) | (go_at_call 20; refine (ex_choose hS.a (HE.out.keep hS.b) _ _ 1 (by decide) (by decide) (HC3.out _)).mono ?_; clear HC3; (rintro e w' ⟨rfl, hb'⟩; replace hS := hS.keep hb'; clear hb')) | (go_at_call 20; refine (ex_choose hS.a (HE.out.keep hS.b) _ _ (-1) (by decide) (by decide) (HC4.out _)).mono ?_; clear HC4; (rintro e w' ⟨rfl, hb'⟩; replace hS := hS.keep hb'; clear hb')))
 go_upto_region 5 with (first | (go_at_call 23; clear HP1; refine (ex_poss2 hS.a (HE.out.keep hS.b)).mono ?_; rintro e w' ⟨A1, d1, rfl, hr1, hb'⟩; replace hS := hS.keep hb'; clear hb') | (go_at_call 22; clear HS1; refine (same_two A1 d1 _ hr1).mono ?_; rintro e w' ⟨rfl, hb'⟩; replace hS := (hS.keep ((Below.refl _ _).alloc (Nat.le_refl _) _)).keep hb'; clear hb' hr1) | (go_at_call 23; clear HP2; refine (ex_poss1 hS.a (HE.out.keep hS.b)).mono ?_; rintro e w' ⟨A1, d1, rfl, hr1, hb'⟩; replace hS := hS.keep hb'; clear hb') | (go_at_call 22; refine (same_one A1 d1 _ hr1).mono ?_; rintro e w' ⟨rfl, hb'⟩; replace hS := (hS.keep ((Below.refl _ _).alloc (Nat.le_refl _) _)).keep hb'; clear hb' hr1))
 go_upto_region 6 with (first | (refine wpList_load_addr rfl 33 _ rfl ⟨w.heap.size + 5, 18, none⟩ (.agg X2) rfl (HX2.out _ _ hS.a) ?_) | (go_big_want; refine wp_load_addr 33 _ rfl ⟨w.heap.size + 5, 18, none⟩ (.agg X2) rfl (HX2.out _ _ hS.a) ?_; simp only [Act.put, List.setIfInBounds_toArray, List.set_cons_succ, List.set_cons_zero]) | (go_at_call 34; refine (HM1.out _).mono ?_; clear HM1; (rintro e w' ⟨rfl, hb'⟩; replace hS := hS.keep hb'; clear hb')) | (go_at_call 34; refine (HM2.out _).mono ?_; clear HM2; (rintro e w' ⟨rfl, hb'⟩; replace hS := hS.keep hb'; clear hb')) | (go_at_call 34; refine (HM3.out _).mono ?_; clear HM3; (rintro e w' ⟨rfl, hb'⟩; replace hS := hS.keep hb'; clear hb')) | (go_at_call 34; refine (HM4.out _).mono ?_; clear HM4; (rintro e w' ⟨rfl, hb'⟩; replace hS := hS.keep hb'; clear hb')))
 have hsb := run_st
 simp only [← HSX.out] at hsb
 have HSB := Lib.hid hsb
 have sS : SX.size = 41 := by rw [HSX.out]; rfl
 have iS : (Tryz.prog.info? 56).map (·.size) = some SX.size := by rw [sS]; exact infStamp
 have zS : stampZ.size = SX.size := by rw [sS]; rfl
 have oS : SX.all (·.oneCell') = true := by rw [HSX.out, List.all_toArray]; rfl
 have HIS := Lib.hid iS; have HZS := Lib.hid zS; have HOS := Lib.hid oS
 clear hsb sS iS zS oS
 obtain ⟨sb, hsb⟩ : ∃ sb, sb = w'.heap.size := ⟨_, rfl⟩
 have HSBB := Lib.hid hsb
 clear hsb
 go_upto_region 7 with (first
  | (refine wpList_build_as rfl 56 _ rfl _ (by kernel_rfl) _ (HSB.out _) ?_)
  | (refine wpList_store_row rfl 56 _ _ rfl w'.heap.size SX rfl rfl _ stampZ ((heap_alloc_new w' _).trans rfl) HIS.out HZS.out HOS.out ?_))
 rw [← HSBB.out]
 generalize hw6 : World.setRow _ _ _ = w6
 have hT6 : SanT w (w.heap.size + 5) (w.heap.size + 2) pb sb w6 := by
  have hbb : Below w'.heap.size w' w6 := by rw [← hw6]; exact below_setRow ((Below.refl _ _).alloc (Nat.le_refl _) _) (by rw [HSBB.out]; exact Nat.le_refl _) _
  refine ⟨hS.a.keep hbb, ?_, bstep hS.b hbb⟩
  rw [← hw6, ← HSX.out, HSBB.out]
  exact setRow_heap _ _ _ _ _ _ (heap_alloc_new w' _)
 clear hw6 hS HSBB
 clear w'
 have HT6 := Lib.hid hT6
 clear hT6
 have HSL : Hid (∀ (W : World), Box1 W sb 56 exStamp.cells.toArray → (loadVar 56 ⟨sb, 0, none⟩).run Tryz.prog W = .ok (.agg SX) W) := Lib.hid fun W h => by rw [HSX.out]; exact h.stamp rfl
 refine wp_det 23 (by kernel_rfl) (by kernel_rfl) (by kernel_rfl) (fun i => [.slice (some ⟨w.heap.size + 5, 0, none⟩) 2 2, .pointer (some ⟨w.heap.size + 5, 18, none⟩), .agg X2, .agg SX, .int .i64 120, .bool true, .bool true, .slice (some ⟨w.heap.size + 5, 0, none⟩) 2 2, .pointer (some ⟨w.heap.size + 5, 18, none⟩), .agg X2, .agg SX, .agg #[.int .i64 110, .int .i64 120], .bool true, .bool true, .bool true, .slice (some ⟨w.heap.size + 5, 0, none⟩) 2 2, .pointer (some ⟨w.heap.size + 5, 18, none⟩), .agg X2, .agg SX, .agg #[.int .i64 110, .int .i64 121], .bool false, .bool true, .bool true].getD i undef) (SanT w (w.heap.size + 5) (w.heap.size + 2) pb sb) (HT6.out.keep (Below.drew (Below.refl _ _))) (fun _ _ h hb => h.keep hb) ?_ ?_
 ·simp only [putL, List.take_succ_cons, List.take_zero, List.drop_succ_cons, List.drop_zero, Act.put, List.setIfInBounds_toArray, List.set_cons_succ, List.set_cons_zero, List.getD_cons_zero, List.getD_cons_succ]
  refine ⟨fun W hS => ?_, fun W hS => ?_, fun W hS => ?_, fun W hS => ?_, fun W hS => ?_, fun W hS => ?_, fun W hS => ?_, fun W hS => ?_, fun W hS => ?_, fun W hS => ?_, fun W hS => ?_, fun W hS => ?_, fun W hS => ?_, fun W hS => ?_, fun W hS => ?_, fun W hS => ?_, fun W hS => ?_, fun W hS => ?_, fun W hS => ?_, fun W hS => ?_, fun W hS => ?_, fun W hS => ?_, fun W hS => ?_, trivial⟩
  all_goals
   have hbw := hS.b
   go_wp2_with (first | (refine wpList_load_addr rfl 33 _ rfl ⟨w.heap.size + 5, 18, none⟩ (.agg X2) rfl (HX2.out _ _ hS.a) ?_) | (go_big_want; first | (refine wp_load_addr 33 _ rfl ⟨w.heap.size + 5, 18, none⟩ (.agg X2) rfl (HX2.out _ _ hS.a) ?_; simp only [Act.put, List.setIfInBounds_toArray, List.set_cons_succ, List.set_cons_zero]) | (refine wp_load_addr 56 _ rfl ⟨sb, 0, none⟩ (.agg SX) rfl (HSL.out _ hS.s) ?_; simp only [Act.put, List.setIfInBounds_toArray, List.set_cons_succ, List.set_cons_zero])) | (refine wpList_load_addr rfl 56 _ rfl ⟨sb, 0, none⟩ (.agg SX) rfl (HSL.out _ hS.s) ?_) | (go_at_call 32; refine (HUN.out _).mono ?_; rintro e w2 ⟨rfl, hb2⟩) | (go_at_call 31; (first | (with_reducible refine (HY1.out _).mono ?_) | (with_reducible refine (HY2.out _).mono ?_)); rintro e w2 ⟨rfl, hb2⟩))
   exact ⟨rfl, rfl, belB⟩
 intro w7 hS7
 simp only [putL, List.take_succ_cons, List.take_zero, List.drop_succ_cons, List.drop_zero, Act.put, List.setIfInBounds_toArray, List.set_cons_succ, List.set_cons_zero, List.getD_cons_zero, List.getD_cons_succ]
 go_upto_region 9 with (go_at_call 44; refine (example22_any _).mono ?_; rintro e w8 ⟨rfl, hrow2, htags2, hb8⟩)
 have hS8 := hS7.keep hb8
 have hlg := RowV.lt hS7.a.row
 have hlt := RowV.lt hS7.a.tags
 have hlp : pb < w7.heap.size := cell_lt (hS7.a.p.cell (k := 0) rfl)
 have hls : sb < w7.heap.size := cell_lt (hS7.s.cell (k := 2) (v := .int .i64 200) rfl)
 obtain ⟨g2, hg2⟩ : ∃ g2, g2 = w7.heap.size + 5 := ⟨_, rfl⟩
 obtain ⟨T2, hT2⟩ : ∃ T2, T2 = w7.heap.size + 2 := ⟨_, rfl⟩
 rw [← hg2] at hrow2 ⊢
 rw [← hT2] at hrow2 htags2
 have hlg2 := RowV.lt hrow2
 obtain ⟨pb2, hpb2⟩ : ∃ pb2, pb2 = w8.heap.size := ⟨_, rfl⟩
 rw [← hpb2]
 generalize hw9 : World.alloc _ _ = w9
 have hU : SanU w (w.heap.size + 5) (w.heap.size + 2) pb sb g2 T2 pb2 false w9 := by
  have hbb : Below w8.heap.size w8 w9 := by rw [← hw9]; exact (Below.refl _ _).alloc (Nat.le_refl _) _
  refine ⟨hS8.a.keep hbb, hS8.s.keep hbb, ⟨hrow2.keep hbb, htags2.keep hbb, ?_⟩, bstep hS8.b hbb⟩
  rw [← hw9, hpb2]
  exact heap_alloc_new w8 _
 have hne : (w.heap.size + 5 ≠ g2 ∧ w.heap.size + 2 ≠ g2 ∧ pb ≠ g2 ∧ sb ≠ g2 ∧ T2 ≠ g2 ∧ pb2 ≠ g2 ∧ w.heap.size ≤ g2) := by
  have := hS7.b.size
  omega
 clear hw9 hS8 hS7 hlg hlt hlp hls hlg2 hg2 hT2 hpb2 hrow2 htags2 hb8
 clear w7 w8
 have y2 : w9.cell? ⟨pb2, 2, none⟩ = some (.slice (some ⟨g2, 0, none⟩) 2 2) := hU.a2.p.cell rfl
 have c33 : w9.cell? ⟨g2, 33, none⟩ = some (.bool false) := RowV.cell hU.a2.row rfl
 have f33 : w9.frozen? ⟨g2, 33, none⟩ = false := frozen_of_row w9 g2 33 _ _ hU.a2.row
 go_upto_region 10 with fail
 clear y2 c33 f33
 generalize hw10 : World.setCell _ _ _ = w10
 have hV : SanU w (w.heap.size + 5) (w.heap.size + 2) pb sb g2 T2 pb2 true w10 := by
  obtain ⟨n1, n2, n3, n4, n5, n6, n7⟩ := hne
  have ho : ∀ k, k ≠ g2 → w10.heap[k]? = w9.heap[k]? := fun k hk => by rw [← hw10]; exact heap_setCell_other w9 _ k _ hk
  refine ⟨⟨(ho _ n1).trans hU.a.row, (ho _ n2).trans hU.a.tags, (ho _ n3).trans hU.a.p⟩, (ho _ n4).trans hU.s, ⟨?_, (ho _ n5).trans hU.a2.tags, (ho _ n6).trans hU.a2.p⟩, ?_⟩
  ·rw [← hw10]
   exact heap_setCell_same w9 g2 33 _ _ _ hU.a2.row
  ·rw [← hw10]
   exact hU.b.setCell n7 _
 clear hw10 hU hne
 clear w9
 have HV := Lib.hid hV
 clear hV
 obtain ⟨D1, hD1⟩ : ∃ D, D = dig1 := ⟨_, rfl⟩
 obtain ⟨D2, hD2⟩ : ∃ D, D = dig2 := ⟨_, rfl⟩
 have hn1 : ∀ W, SanU w (w.heap.size + 5) (w.heap.size + 2) pb sb g2 T2 pb2 true W → Calls Tryz.prog 15 #[.agg (exPol (w.heap.size + 5))] W (Ret W (.agg D1)) := fun W h => ex_name h.a (HE.out.keep h.b) (HT.out.keep h.b) (HK.out.keep h.b) D1 hD1
 have hn2 : ∀ W, SanU w (w.heap.size + 5) (w.heap.size + 2) pb sb g2 T2 pb2 true W → Calls Tryz.prog 15 #[.agg (exPol g2)] W (Ret W (.agg D2)) := fun W h => ex_name h.a2 (HE.out.keep h.b) (HT.out.keep h.b) (HK.out.keep h.b) D2 hD2
 have hdn : ∀ (x y : Operand) (W : World), (do eqGuard .neq 38 x y (.agg D1) (.agg D2); binOp .neq 38 (.agg D1) (.agg D2)).run Tryz.prog W = .ok (.bool true) W := by rw [hD1, hD2]; exact dig_ne
 obtain ⟨X1, hX1⟩ : ∃ X, X = (exOne (w.heap.size + 2) false).toArray := ⟨_, rfl⟩
 have hx1 : ∀ W, PolAt (w.heap.size + 5) (w.heap.size + 2) pb false W → (loadVar 33 ⟨w.heap.size + 5, 0, none⟩).run Tryz.prog W = .ok (.agg X1) W := fun W h => by rw [hX1]; exact h.ld1
 have hpm : ∀ W, SanU w (w.heap.size + 5) (w.heap.size + 2) pb sb g2 T2 pb2 true W → Calls Tryz.prog 36 #[.agg X1, .agg #[.string (⟨#[97, 99, 109, 101, 47, 120]⟩ : ByteArray), .string (⟨#[98, 111, 98]⟩ : ByteArray), .string (⟨#[100, 101]⟩ : ByteArray), .int .i64 0, .int .i64 0, .int .i64 0]] W (Ret W (.bool true)) := fun W h => by rw [hX1]; exact ex_permits h.a (HE.out.keep h.b)
 have HN1 := Lib.hid hn1; have HN2 := Lib.hid hn2; have HDN := Lib.hid hdn; have HX1 := Lib.hid hx1; have HPM := Lib.hid hpm
 clear hn1 hn2 hdn hx1 hpm hD1 hD2 hX1
 refine wp_det 33 (by kernel_rfl) (by kernel_rfl) (by kernel_rfl) (fun i => [.bool true, .bool true, .bool true, .bool true, .bool true, .bool true, .bool true, .bool true, .bool true, .bool true, .bool true, .agg (exPol (w.heap.size + 5)), .agg D1, .agg (exPol g2), .agg D2, .bool true, .bool true, .bool true, .slice (some ⟨w.heap.size + 5, 0, none⟩) 2 2, .pointer (some ⟨w.heap.size + 5, 18, none⟩), .agg X2, .agg SX, .agg #[.int .i64 110, .int .i64 120], .bool false, .bool true, .bool true, .bool true, .slice (some ⟨w.heap.size + 5, 0, none⟩) 2 2, .pointer (some ⟨w.heap.size + 5, 0, none⟩), .agg X1, .agg #[.string (⟨#[97, 99, 109, 101, 47, 120]⟩ : ByteArray), .string (⟨#[98, 111, 98]⟩ : ByteArray), .string (⟨#[100, 101]⟩ : ByteArray), .int .i64 0, .int .i64 0, .int .i64 0], .bool true, .bool true].getD i undef) (SanU w (w.heap.size + 5) (w.heap.size + 2) pb sb g2 T2 pb2 true) (HV.out.keep (Below.drew (Below.refl _ _))) (fun _ _ h hb => h.keep hb) ?_ ?_
 ·simp only [putL, List.take_succ_cons, List.take_zero, List.drop_succ_cons, List.drop_zero, Act.put, List.setIfInBounds_toArray, List.set_cons_succ, List.set_cons_zero, List.getD_cons_zero, List.getD_cons_succ]
  refine ⟨fun W hS => ?_, fun W hS => ?_, fun W hS => ?_, fun W hS => ?_, fun W hS => ?_, fun W hS => ?_, fun W hS => ?_, fun W hS => ?_, fun W hS => ?_, fun W hS => ?_, fun W hS => ?_, fun W hS => ?_, fun W hS => ?_, fun W hS => ?_, fun W hS => ?_, fun W hS => ?_, fun W hS => ?_, fun W hS => ?_, fun W hS => ?_, fun W hS => ?_, fun W hS => ?_, fun W hS => ?_, fun W hS => ?_, fun W hS => ?_, fun W hS => ?_, fun W hS => ?_, fun W hS => ?_, fun W hS => ?_, fun W hS => ?_, fun W hS => ?_, fun W hS => ?_, fun W hS => ?_, fun W hS => ?_, trivial⟩
  all_goals
   have hbw := hS.b
   go_wp2_with (first
    | (go_big_want; first | (refine wp_load_addr 24 _ rfl ⟨pb, 0, none⟩ (.agg (exPol (w.heap.size + 5))) rfl hS.a.ldp ?_; simp only [Act.put, List.setIfInBounds_toArray, List.set_cons_succ, List.set_cons_zero]) | (refine wp_load_addr 24 _ rfl ⟨pb2, 0, none⟩ (.agg (exPol g2)) rfl hS.a2.ldp ?_; simp only [Act.put, List.setIfInBounds_toArray, List.set_cons_succ, List.set_cons_zero]) | (refine wp_load_addr 33 _ rfl ⟨w.heap.size + 5, 18, none⟩ (.agg X2) rfl (HX2.out _ _ hS.a) ?_; simp only [Act.put, List.setIfInBounds_toArray, List.set_cons_succ, List.set_cons_zero]) | (refine wp_load_addr 33 _ rfl ⟨w.heap.size + 5, 0, none⟩ (.agg X1) rfl (HX1.out _ hS.a) ?_; simp only [Act.put, List.setIfInBounds_toArray, List.set_cons_succ, List.set_cons_zero]) | (refine wp_load_addr 56 _ rfl ⟨sb, 0, none⟩ (.agg SX) rfl (HSL.out _ hS.s) ?_; simp only [Act.put, List.setIfInBounds_toArray, List.set_cons_succ, List.set_cons_zero]) | (refine wp_binOp_as .neq 38 _ _ _ rfl _ (HDN.out _ _ _) ?_; simp only [Act.put, List.setIfInBounds_toArray, List.set_cons_succ, List.set_cons_zero]))
    | (go_at_call 15; (first | (with_reducible refine (HN1.out _ hS).mono ?_) | (with_reducible refine (HN2.out _ hS).mono ?_)); rintro e w2 ⟨rfl, hb2⟩)
    | (go_at_call 33; refine (HUS.out _).mono ?_; rintro e w2 ⟨rfl, hb2⟩)
    | (go_at_call 36; refine (HPM.out _ hS).mono ?_; rintro e w2 ⟨rfl, hb2⟩))
   exact ⟨rfl, rfl, belB⟩
 intro w11 hS11
 simp only [putL, List.take_succ_cons, List.take_zero, List.drop_succ_cons, List.drop_zero, Act.put, List.setIfInBounds_toArray, List.set_cons_succ, List.set_cons_zero, List.getD_cons_zero, List.getD_cons_succ]
 have hbE := hS11.b
 go_wp2
 go_ret
 exact ⟨rfl, hbE⟩
end Go.Proofs.YtdlbfjoemabfpaaGreatDoor
namespace Go.Proofs.YtdlbfjoemabfpaaGreatDoor
open Go.RowKit Go.Sort
set_option linter.unusedVariables false
set_option linter.unusedSimpArgs false
set_option maxRecDepth 100000
theorem fewR_fits {r : RuleV} (h : fewR r = true) : RuleFits r := by
 unfold fewR at h
 simp only [Bool.and_eq_true, decide_eq_true_eq, List.all_eq_true] at h
 obtain ⟨⟨⟨⟨⟨⟨⟨h1, h2⟩, h3⟩, h4⟩, h5⟩, h6⟩, h7⟩, h8⟩ := h
 refine ⟨h1, h2, h3, h4, fun s hs => by simpa using h7 s hs, h5, fun y hy => ?_, few_fits h6⟩
 have h9 := h8 y hy
 unfold fewVy at h9
 simp only [Bool.and_eq_true, decide_eq_true_eq, List.all_eq_true] at h9
 obtain ⟨⟨⟨a1, a2⟩, a3⟩, a4⟩ := h9
 exact ⟨a1, a2, a3, fun s hs => by simpa using a4 s hs⟩
theorem rValid22_any (x : RuleM) (w : World) (hR : RuleReads w x) (hf : RuleFits x.r) : Calls Tryz.prog 12 #[x.val] w (Ret w (.bool (validR x.r))) :=
 rValid22_of x w hR hf (fun W hb => rNames22_any x.T x.r.tags.length x.ct x.r.tags W (hR.tags.keep hb) (by have := hf.nt; omega) (fun s hs => by have := hf.t s hs; omega))
structure LEnv (w : World) : Prop where
 e : Env w
 t : Tab w
 k : Ks w
theorem LEnv.keep {w w' : World} (h : LEnv w) (hb : Below w.heap.size w w') : LEnv w' := ⟨h.e.keep hb, h.t.keep hb, h.k.keep hb⟩
theorem sanL (w : World) (h : LEnv w) : Calls Tryz.prog 10 #[] w (Ret w (.bool true)) := san22_any w h.e h.t h.k
end Go.Proofs.YtdlbfjoemabfpaaGreatDoor
namespace Go.Proofs.YtdlbfjoemabfpaaGreatDoor
open Go.RowKit Go.ChangeShapes Go.WideShapes
section
variable {H : Type} {enc : TypeId × Value → H} {P : Program}
def rowed (P : Program) (ts : List TypeId) : Bool := ts.all fun t => P.readableRec t && decide (t < P.types.size)
theorem args_stay (hl : laidOutB P = true) {W W' : World} (hb : Below W.heap.size W W') (sp : Nat → Bool) :
  ∀ {ts : List TypeId} {vs : List Value} {ds : List (DataW H)} {ps : List MemPlace}, rowed P ts = true → DataW.TrodAll enc P W 0 (fun _ => true) true ts vs ds ps → (∀ x ∈ ps, x.block < W.heap.size) → (∀ x ∈ ps, sp x.block = true) → DataW.TrodAll enc P W' 0 sp true ts vs ds ps
 | [], vs, ds, ps, _, h, _, _ => by
  obtain ⟨rfl, rfl, rfl⟩ := trodAll_nil h
  exact trodAll_mk0
 | t :: ts, vs, ds, ps, hr, h, h1, h2 => by
  obtain ⟨v, vs', d, ds', p, q, rfl, rfl, rfl, hv, hs⟩ := trodAll_cons h
  simp only [rowed, List.all_cons, Bool.and_eq_true, decide_eq_true_eq] at hr
  exact trodAll_cons_mk (WideElems.Trod_stays hl hr.1.1 hr.1.2 hv (fun x hx => hb.same (h1 x (by simp [hx]))) (fun x hx => h2 x (by simp [hx])))
   (args_stay hl hb sp (by simpa [rowed] using hr.2) hs (fun x hx => h1 x (by simp [hx])) (fun x hx => h2 x (by simp [hx])))
theorem bool_reads {t : TypeId} {W : World} {b : Nat} {sp : Nat → Bool} {hd : Bool} (ht : P.underlying t = some .bool) (x : Bool) : DataW.TrodAll enc P W b sp hd [t] [.bool x] [.lit (.bool x)] [] := trodAll_mk1 (shut_bool ht x)
theorem law_post {f : Func} {s : ChangeSpec} {apart fresh handsOn again : Bool} {W W' : World} {args : Array Value} {ds gs : List (DataW H)} {before : List MemPlace} {t : TypeId}
  (hW : DataW.Whole enc P f.params.toList s.vars apart W args.toList ds gs before) (hvars : s.vars = []) (hl : laidOutB P = true) (hrow : rowed P f.params.toList = true) (hres : f.resultTypes = #[t]) (ht : P.underlying t = some .bool)
  (hfn : s.fn H (ds ++ gs) = { results := [.lit (.bool true)], args := ds }) (hb : Below W.heap.size W W') : s.post enc P f apart fresh handsOn again W args (.bool true) W' := by
 have hlt : ∀ x ∈ before, x.block < W.heap.size := fun x hx => hW.lt x hx
 have hW0 := hW
 obtain ⟨p, q, hA, hV, hp, hfz, hnd⟩ := hW
 rw [hvars] at hV
 obtain ⟨rfl, rfl⟩ := trodVars_none hV
 rw [List.append_nil] at hp
 subst hp
 have hr1 : (Value.bool true).resultList f.resultTypes.size = [.bool true] := by rw [hres]; rfl
 have hr2 : f.resultTypes.toList = [t] := by rw [hres]
 have hvs : ∀ sp, DataW.TrodVars enc P W' sp s.vars [] [] := fun sp => by rw [hvars]; rfl
 refine ⟨ds, [], before, [], before, [], hW0, ?_, ?_, ?_, ?_, fun _ => ⟨?_, .lit (.bool true) :: ds, [], before, ?_, fun x hx _ => hx⟩⟩
 ·rw [hfn, hr1, hr2]; exact bool_reads ht true
 ·rw [hfn]; exact args_stay hl hb _ hrow hA hlt (fun x hx => by simpa using hlt x hx)
 ·rw [hfn]; exact hvs _
 ·exact World.keptBut_mono (fun x hx => ⟨hx, .inr (.inl hx)⟩) (hb.frame (· ∈ before))
 ·exact ok_one hres rfl (okWide_bool_mk ht true)
 ·refine ⟨before, [], ?_, hvs _, by simp, ?_, hnd⟩
  ·rw [hr1, hr2]
   have := trodAll_append (args_stay hl hb (fun _ => true) hrow hA hlt (fun _ _ => rfl)) (bool_reads (enc := enc) (P := P) (W := W') (b := 0) (sp := fun _ => true) (hd := true) ht true)
   simpa using this
  ·intro b off hx
   rw [hb.frozen (hlt _ hx)]
   exact hfz b off hx
end
end Go.Proofs.YtdlbfjoemabfpaaGreatDoor
namespace Go.Proofs.YtdlbfjoemabfpaaGreatDoor
open Go.ChangeShapes Go.WideShapes Go.ChangeAt Go.RowKit Go.ChangeMaps
theorem own : ownKnob Tryz.prog.godebug = none := by kernel_rfl
theorem laidOut : laidOutB Tryz.prog = true := by kernel_rfl
theorem env_of {W : World} (h : W.ShapedOpen Tryz.prog) : Env W :=
 Go.Proofs.cell_of_shapedOpen_int (zero := #[.int .i64 0]) (t := 3) h (of_decide_eq_true (by kernel_rfl)) (by kernel_rfl) rfl (by kernel_rfl) (by kernel_rfl) Tryz.underlying3
def laidCells (k : IntKind) (l : List Nat) : Obj → Obj
 | .cells _ t frozen => .cells (l.map fun (n : Nat) => Value.int k (n : Int)).toArray t frozen
 | o => o
def tabA : List Nat := [0, 1, 28, 2, 29, 14, 24, 3, 30, 22, 20, 15, 25, 17, 4, 8, 31, 27, 13, 23, 21, 19, 16, 7, 26, 12, 18, 6, 11, 5, 10, 9]
def tabB : List Nat := [0, 1, 56, 2, 57, 49, 28, 3, 61, 58, 42, 50, 38, 29, 17, 4, 62, 47, 59, 36, 45, 43, 51, 22, 53, 39, 33, 30, 24, 18, 12, 5, 63, 55, 48, 27, 60, 41, 37, 16, 46, 35, 44, 21, 52, 32, 23, 11, 54, 26, 40, 15, 34, 20, 31, 10, 25, 14, 19, 9, 13, 8, 7, 6]
def tabC : List Nat := [1, 10, 100, 1000, 10000, 100000, 1000000, 10000000, 100000000, 1000000000, 10000000000, 100000000000, 1000000000000, 10000000000000, 100000000000000, 1000000000000000, 10000000000000000, 100000000000000000, 1000000000000000000, 10000000000000000000]
noncomputable def laidWorld (os : Os) : World :=
 { World.holding Tryz.prog os ⟨#[], #[], []⟩ with heap := (((((World.holding Tryz.prog os ⟨#[], #[], []⟩).heap.modify 6 (laidCells .u8 tabA)).modify 7 (laidCells .u8 tabB)).modify 3 (laidCells .u64 tabC)).modify 5 (laidCells .u8 ([128, 191, 160, 191, 128, 159, 144, 191, 128, 143] ++ List.replicate 22 0))).modify 4 (laidCells .u8 Go.Pinned.utf8FirstZ) }
theorem tab_same : (Rows.laid_internal_strconv_uint64pow10 : DataW Unit) = Lib.tabData .u64 Lib.pow10Tab := by kernel_rfl
theorem tab_of {W : World} {d1 d2 : DataW Unit} {n1 n2 : String} {rest : List (String × DataW Unit)} (h : laidMet Tryz.prog ((n1, d1) :: (n2, d2) :: ("internal/strconv.uint64pow10", Rows.laid_internal_strconv_uint64pow10) :: rest) W) : Tab W := by
 have h2 := laidMet.tail (laidMet.tail h)
 rw [tab_same] at h2
 exact Lib.tabIs_of_head (g := 3) (by kernel_rfl) (by kernel_rfl) Tryz.underlying237 Tryz.underlying132 (by kernel_rfl) (by kernel_rfl) h2
end Go.Proofs.YtdlbfjoemabfpaaGreatDoor
namespace Go.Proofs.YtdlbfjoemabfpaaGreatDoor
open Go.ChangeShapes Go.WideShapes Go.ChangeAt Go.RowKit Go.ChangeMaps
def ksI : List Int := Sha.ks.map fun n : Nat => (n : Int)
noncomputable def laidWorldP (os : Os) : World :=
 { laidWorld os with heap := (laidWorld os).heap.modify 1 (laidCells .u32 Sha.ks) }
theorem ks_same : (Rows.laid_weirgate_hash_constants : DataW Unit) = Lib.tabData .u32 ksI := by kernel_rfl
theorem ks_of_tab {W : World} (h : Lib.TabIs Tryz.prog W "weirgate/hash.constants" .u32 ksI) : Ks W := by
 unfold Lib.TabIs World.var? at h
 rw [show Tryz.prog.globalNamed "weirgate/hash.constants" = some 1 by kernel_rfl] at h
 rw [Option.bind_some] at h
 split at h
 ·rename_i cs t fr hc
  injection h with h
  refine ⟨t, fr, hc.trans ?_⟩
  rw [h]
  unfold ksI w32
  rw [List.map_map]
  rfl
 ·cases h
theorem lenv_of {W : World} {d1 d2 d4 : DataW Unit} {n1 n2 n4 : String} {rest : List (String × DataW Unit)} (hS : W.ShapedOpen Tryz.prog) (h : laidMet Tryz.prog ((n1, d1) :: (n2, d2) :: ("internal/strconv.uint64pow10", Rows.laid_internal_strconv_uint64pow10) :: (n4, d4) :: ("weirgate/hash.constants", Rows.laid_weirgate_hash_constants) :: rest) W) : LEnv W := by
 refine ⟨env_of hS, tab_of h, ks_of_tab ?_⟩
 have h2 := laidMet.tail (laidMet.tail (laidMet.tail (laidMet.tail h)))
 rw [ks_same] at h2
 exact Lib.tabIs_of_head (g := 1) (by kernel_rfl) (by kernel_rfl) Tryz.underlying204 Tryz.underlying129 (by kernel_rfl) (by kernel_rfl) h2
end Go.Proofs.YtdlbfjoemabfpaaGreatDoor
