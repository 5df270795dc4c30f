/- A tree without a key. -/
import Derived.Test.YtcjeddichookmaaGreatDoorIZ16
import Derived.Test.YtcjeddichookmaaGreatDoorProg
import Derived.WalkKit
import Derived.WalkSpells
import Derived.WalkLawsBesides
import Derived.Below
import Derived.Deep.QuietTactic
import Derived.BigQuiet
import Derived.Lib.QuietBelow
import Derived.Lib.Strings
import Derived.Lib.Hide
import Derived.Deep.RegionWith
import Derived.Deep.RegionHeld3
import Derived.Lib.IndexBytes
import Derived.Laws.Bits64b
namespace Go.Proofs.YtcjeddichookmaaGreatDoor
open Go.RowKit Go.Sort
set_option linter.unusedVariables false
set_option linter.unusedSimpArgs false
set_option maxRecDepth 100000
abbrev woT (k : ByteArray) (t : ITr) : ITr := Tr.without It.k ltB k t
theorem wo_sub (k : ByteArray) : ∀ t : ITr, (∀ x ∈ Tr.toL (woT k t), x ∈ Tr.toL t) ∧ Tr.len (woT k t) ≤ Tr.len t
  | .nil => ⟨fun _ h => h, Nat.le_refl _⟩
  | .node p x l r => by
    obtain ⟨l1, l2⟩ := wo_sub k l
    obtain ⟨r1, r2⟩ := wo_sub k r
    unfold woT at *
    rw [Tr.without]
    split
    · refine ⟨fun y hy => ?_, by simp only [Tr.len]; omega⟩
      simp only [Tr.toL, List.mem_append, List.mem_cons] at hy ⊢
      exact hy.imp (l1 y) id
    · split
      · refine ⟨fun y hy => ?_, by simp only [Tr.len]; omega⟩
        simp only [Tr.toL, List.mem_append, List.mem_cons] at hy ⊢
        exact hy.imp id (fun h => h.imp id (r1 y))
      · refine ⟨fun y hy => ?_, ?_⟩
        · rw [Tr.toL_join] at hy
          simp only [Tr.toL, List.mem_append, List.mem_cons] at hy ⊢
          exact hy.imp id .inr
        · rw [Tr.len_eq, Tr.toL_join, List.length_append, ← Tr.len_eq, ← Tr.len_eq]
          simp only [Tr.len]; omega
theorem wo_ok (k : ByteArray) {t : ITr} (h : TrOk t) : TrOk (woT k t) := by
  obtain ⟨h1, h2⟩ := wo_sub k t
  have := h.len
  exact ⟨by omega, fun x hx => h.z x (h1 x hx)⟩
set_option maxHeartbeats 4000000 in
theorem treeWithout_any (k : ByteArray) (t : ITr) : ∀ (A : Option Addr) (w : World), NodeAt w t A → TrOk t → Calls Tryz.prog 17 #[.pointer A, .string k] w (TrP (woT k t) w) := by
  induction t with
  | nil =>
    intro A w hA _
    cases (show A = none from hA)
    go_enter Tryz.func17, Tryz.ntmps17
    go_wp2
    go_ret
    exact ⟨none, rfl, rfl, belB⟩
  | node p x l r il ir =>
    intro A w hA ho
    obtain ⟨b, L, R, rfl, hl, hr2, hp, hr, c0, c1, c6, c7⟩ := hA.facts
    unfold woT at *
    rw [Tr.without]
    have hs1 := wo_ok k ho.left
    have hs2 := wo_ok k ho.right
    unfold woT at hs1 hs2
    have hS := fun (W : World) (hb' : Below w.heap.size w W) => (show TwoT w (.node p x l r) .nil (some ⟨b, 0, none⟩) none W from ⟨NodeAt.keep hb' hA, rfl, hb'⟩)
    have hn1 := fun (W : World) (hb' : Below w.heap.size w W) => NodeAt.keep hb' hl
    have hn2 := fun (W : World) (hb' : Below w.heap.size w W) => NodeAt.keep hb' hr2
    have HS := Lib.hid hS; have HN1 := Lib.hid hn1; have HN2 := Lib.hid hn2; have C6 := Lib.hid c6; have C7 := Lib.hid c7
    clear hS hn1 hn2 hA hl hr2 hp hr c0 c6 c7
    cases hlt : ltB k x.k
    · rw [if_neg (by decide)]
      cases hgt : ltB x.k k
      · rw [if_neg (by decide)]
        have he : x.k = k := by
          rcases ltB_tot x.k k with h | h | h
          · rw [hgt] at h; cases h
          · exact h
          · rw [hlt] at h; cases h
        have hj := fun (W : World) (h1 : NodeAt W l L) (h2 : NodeAt W r R) => treeJoin_any 1000 l r L R W (by have := ho.len; simp only [Tr.len] at this; omega) (Nat.le_refl _) h1 h2 ho.left ho.right
        have HJ := Lib.hid hj
        rw [← less_ltB] at hlt
        have hq : (k.toList == x.k.toList) = true := by rw [he]; simp
        clear hj il ir ho hs1 hs2 hgt he
        generalize Tr.join l r = T2 at *
        go_enter Tryz.func17, Tryz.ntmps17
        go_upto_region 7 with fail
        refine wp_detD 9 (by kernel_rfl) (by kernel_rfl) (by kernel_rfl) (DL [IsV (.pointer (some ⟨b, 0, none⟩)), IsV (.pointer (some ⟨b, 0, none⟩)), IsV (.pointer (some ⟨b, 6, none⟩)), IsV (.pointer L), IsV (.pointer (some ⟨b, 0, none⟩)), IsV (.pointer (some ⟨b, 0, none⟩)), IsV (.pointer (some ⟨b, 7, none⟩)), IsV (.pointer R), PtrT T2]) (DL.keep _ (by simp only [KeepAll]; repeat' (first | apply And.intro | exact keeps_is _ | exact keeps_ptr _ | exact trivial))) (TwoT w _ .nil (some ⟨b, 0, none⟩) none) ((HS.out _ (Below.refl _ _)).keep (Below.drew (Below.refl _ _))) (fun _ _ h hb => h.keep hb) ?_ ?_
        · dsimp only [List.take_succ_cons, List.take_zero, DetD]
          refine ⟨fun vals W hS hd => ?_, fun vals W hS hd => ?_, fun vals W hS hd => ?_, fun vals W hS hd => ?_, fun vals W hS hd => ?_, fun vals W hS hd => ?_, fun vals W hS hd => ?_, fun vals W hS hd => ?_, fun vals W hS hd => ?_, trivial⟩
          rotate_left 8
          · (try simp only [DepsL, DL, IsV, List.getD_cons_zero, List.getD_cons_succ, Region.binds, and_true, true_and] at hd)
            simp only [putL, putF, Act.put]
            (try simp only [hd])
            clear hd
            have hj := HJ.out W (HN1.out W hS.w) (HN2.out W hS.w)
            go_wp2_with (go_at_call 21; refine hj.mono ?_; rintro e w2 ⟨P, rfl, hP, hb2⟩)
            exact ⟨rfl, ⟨P, rfl, hP⟩, rfl, belB⟩
          all_goals
            (try simp only [DepsL, DL, IsV, List.getD_cons_zero, List.getD_cons_succ, Region.binds, and_true, true_and] at hd)
            simp only [putL, putF, Act.put]
            (try simp only [hd])
            clear hd
            have y1 := cell_keep hS.w C6.out
            have y2 := cell_keep hS.w C7.out
            go_wp2
            exact ⟨rfl, rfl, rfl, belB⟩
        · intro vals w9 hS9 hD
          obtain ⟨P, e11, hP⟩ : PtrT T2 (vals 8) w9 := hD 8 (by omega)
          simp only [putL, putF, Act.put]
          simp only [e11]
          clear hD e11
          have hb9 := hS9.w
          go_wp2
          go_ret
          exact ⟨P, rfl, hP, hb9⟩
      · rw [if_pos rfl]
        have hj := fun (W : World) (h2 : NodeAt W r R) => ir R W h2 ho.right
        have hw := fun (W : World) (P : Option Addr) (h1 : NodeAt W (.node p x l r) (some ⟨b, 0, none⟩)) (h2 : NodeAt W l L) (h3 : NodeAt W (Tr.without It.k ltB k r) P) => nodeWith_any p x l r l (Tr.without It.k ltB k r) _ L P W h1 h2 h3 ho ho.left hs2
        have HJ := Lib.hid hj; have HW := Lib.hid hw
        rw [← less_ltB] at hlt
        have hne : ¬ k.toList = x.k.toList := fun e => (ltB_ne hgt) (bytes_ext (by rw [← Lib.toList_data, ← Lib.toList_data, e]))
        have hq : (k.toList == x.k.toList) = false := by simpa using hne
        clear hj hw il ir ho hs1 hs2 hgt
        generalize Tr.without It.k ltB k r = T1 at *
        generalize Tr.Tree.node p x l T1 = T2 at *
        go_enter Tryz.func17, Tryz.ntmps17
        go_upto_region 6 with fail
        refine wp_detD 12 (by kernel_rfl) (by kernel_rfl) (by kernel_rfl) (DL [IsV (.pointer (some ⟨b, 0, none⟩)), IsV (.pointer (some ⟨b, 0, none⟩)), IsV (.pointer (some ⟨b, 0, none⟩)), IsV (.pointer (some ⟨b, 6, none⟩)), IsV (.pointer L), IsV (.pointer (some ⟨b, 0, none⟩)), IsV (.pointer (some ⟨b, 0, none⟩)), IsV (.pointer (some ⟨b, 7, none⟩)), IsV (.pointer R), IsV (.string k), PtrT T1, PtrT T2]) (DL.keep _ (by simp only [KeepAll]; repeat' (first | apply And.intro | exact keeps_is _ | exact keeps_ptr _ | exact trivial))) (TwoT w _ .nil (some ⟨b, 0, none⟩) none) ((HS.out _ (Below.refl _ _)).keep (Below.drew (Below.refl _ _))) (fun _ _ h hb => h.keep hb) ?_ ?_
        · dsimp only [List.take_succ_cons, List.take_zero, DetD]
          refine ⟨fun vals W hS hd => ?_, fun vals W hS hd => ?_, fun vals W hS hd => ?_, fun vals W hS hd => ?_, fun vals W hS hd => ?_, fun vals W hS hd => ?_, fun vals W hS hd => ?_, fun vals W hS hd => ?_, fun vals W hS hd => ?_, fun vals W hS hd => ?_, fun vals W hS hd => ?_, fun vals W hS hd => ?_, trivial⟩
          rotate_left 10
          · (try simp only [DepsL, DL, IsV, List.getD_cons_zero, List.getD_cons_succ, Region.binds, and_true, true_and] at hd)
            simp only [putL, putF, Act.put]
            (try simp only [hd])
            clear hd
            have hj := HJ.out W (HN2.out W hS.w)
            go_wp2_with (go_at_call 17; refine hj.mono ?_; rintro e w2 ⟨P, rfl, hP, hb2⟩)
            exact ⟨rfl, ⟨P, rfl, hP⟩, rfl, belB⟩
          · (try simp only [DepsL, DL, IsV, List.getD_cons_zero, List.getD_cons_succ, Region.binds, and_true, true_and] at hd)
            obtain ⟨e0, e4, ⟨P, e10, hP⟩, _⟩ := hd
            simp only [putL, putF, Act.put]
            simp only [e0, e4, e10]
            clear e0 e4 e10
            have hj := HW.out W P hS.a (HN1.out W hS.w) hP
            go_wp2_with (go_at_call 33; refine hj.mono ?_; rintro e w2 ⟨P2, rfl, hP2, hb2⟩)
            exact ⟨rfl, ⟨P2, rfl, hP2⟩, rfl, belB⟩
          all_goals
            (try simp only [DepsL, DL, IsV, List.getD_cons_zero, List.getD_cons_succ, Region.binds, and_true, true_and] at hd)
            simp only [putL, putF, Act.put]
            (try simp only [hd])
            clear hd
            have y1 := cell_keep hS.w C6.out
            have y2 := cell_keep hS.w C7.out
            go_wp2
            exact ⟨rfl, rfl, rfl, belB⟩
        · intro vals w9 hS9 hD
          obtain ⟨P, e11, hP⟩ : PtrT T2 (vals 11) w9 := hD 11 (by omega)
          simp only [putL, putF, Act.put]
          simp only [e11]
          clear hD e11
          have hb9 := hS9.w
          go_wp2
          go_ret
          exact ⟨P, rfl, hP, hb9⟩
    · rw [if_pos rfl]
      have hj := fun (W : World) (h2 : NodeAt W l L) => il L W h2 ho.left
      have hw := fun (W : World) (P : Option Addr) (h1 : NodeAt W (.node p x l r) (some ⟨b, 0, none⟩)) (h2 : NodeAt W (Tr.without It.k ltB k l) P) (h3 : NodeAt W r R) => nodeWith_any p x l r (Tr.without It.k ltB k l) r _ P R W h1 h2 h3 ho hs1 ho.right
      have HJ := Lib.hid hj; have HW := Lib.hid hw
      rw [← less_ltB] at hlt
      clear hj hw il ir ho hs1 hs2
      generalize Tr.without It.k ltB k l = T1 at *
      generalize Tr.Tree.node p x T1 r = T2 at *
      go_enter Tryz.func17, Tryz.ntmps17
      go_upto_region 4 with fail
      refine wp_detD 12 (by kernel_rfl) (by kernel_rfl) (by kernel_rfl) (DL [IsV (.pointer (some ⟨b, 0, none⟩)), IsV (.pointer (some ⟨b, 0, none⟩)), IsV (.pointer (some ⟨b, 0, none⟩)), IsV (.pointer (some ⟨b, 6, none⟩)), IsV (.pointer L), IsV (.string k), PtrT T1, IsV (.pointer (some ⟨b, 0, none⟩)), IsV (.pointer (some ⟨b, 0, none⟩)), IsV (.pointer (some ⟨b, 7, none⟩)), IsV (.pointer R), PtrT T2]) (DL.keep _ (by simp only [KeepAll]; repeat' (first | apply And.intro | exact keeps_is _ | exact keeps_ptr _ | exact trivial))) (TwoT w _ .nil (some ⟨b, 0, none⟩) none) ((HS.out _ (Below.refl _ _)).keep (Below.drew (Below.refl _ _))) (fun _ _ h hb => h.keep hb) ?_ ?_
      · dsimp only [List.take_succ_cons, List.take_zero, DetD]
        refine ⟨fun vals W hS hd => ?_, fun vals W hS hd => ?_, fun vals W hS hd => ?_, fun vals W hS hd => ?_, fun vals W hS hd => ?_, fun vals W hS hd => ?_, fun vals W hS hd => ?_, fun vals W hS hd => ?_, fun vals W hS hd => ?_, fun vals W hS hd => ?_, fun vals W hS hd => ?_, fun vals W hS hd => ?_, trivial⟩
        rotate_left 6
        · (try simp only [DepsL, DL, IsV, List.getD_cons_zero, List.getD_cons_succ, Region.binds, and_true, true_and] at hd)
          simp only [putL, putF, Act.put]
          (try simp only [hd])
          clear hd
          have hj := HJ.out W (HN1.out W hS.w)
          go_wp2_with (go_at_call 17; refine hj.mono ?_; rintro e w2 ⟨P, rfl, hP, hb2⟩)
          exact ⟨rfl, ⟨P, rfl, hP⟩, rfl, belB⟩
        rotate_left 4
        · (try simp only [DepsL, DL, IsV, List.getD_cons_zero, List.getD_cons_succ, Region.binds, and_true, true_and] at hd)
          have h6 : PtrT T1 (vals 6) W := by (first | exact hd.2.1 | exact hd.2.1.1 | exact hd.1)
          have h0 : vals 0 = (.pointer (some ⟨b, 0, none⟩)) := hd.1
          have h10 : vals 10 = .pointer R := by (first | exact hd.2.2.1 | exact hd.2.2 | exact hd.2.2.2)
          obtain ⟨P, e6, hP⟩ := h6
          simp only [putL, putF, Act.put]
          simp only [h0, e6, h10]
          clear hd h0 e6 h10
          have hj := HW.out W P hS.a hP (HN2.out W hS.w)
          go_wp2_with (go_at_call 33; refine hj.mono ?_; rintro e w2 ⟨P2, rfl, hP2, hb2⟩)
          exact ⟨rfl, ⟨P2, rfl, hP2⟩, rfl, belB⟩
        all_goals
          (try simp only [DepsL, DL, IsV, List.getD_cons_zero, List.getD_cons_succ, Region.binds, and_true, true_and] at hd)
          simp only [putL, putF, Act.put]
          (try simp only [hd])
          clear hd
          have y1 := cell_keep hS.w C6.out
          have y2 := cell_keep hS.w C7.out
          go_wp2
          exact ⟨rfl, rfl, rfl, belB⟩
      · intro vals w9 hS9 hD
        obtain ⟨P, e11, hP⟩ : PtrT T2 (vals 11) w9 := hD 11 (by omega)
        simp only [putL, putF, Act.put]
        simp only [e11]
        clear hD e11
        have hb9 := hS9.w
        go_wp2
        go_ret
        exact ⟨P, rfl, hP, hb9⟩
end Go.Proofs.YtcjeddichookmaaGreatDoor
namespace Go.Proofs.YtcjeddichookmaaGreatDoor
open Go.RowKit Go.Sort
set_option linter.unusedVariables false
set_option linter.unusedSimpArgs false
set_option maxRecDepth 100000
theorem run_arrayAt16 (w : World) (a : Addr) (n c : Nat) (hn : 16 ≤ n) : (Instr.arrayAt 77 (.slice (some a) n c)).run Tryz.prog w = .ok (.pointer (some a)) w := by
  have h1 := run_underlying Tryz.underlying77 w
  have h2 : ¬ n < 16 := by omega
  simp [Instr.arrayAt, h1, h2]
set_option maxHeartbeats 8000000 in
theorem of_any (tag : Nat) (htag : tag < 256) (A : Option Addr) (n c : Nat) (ps : List ByteArray) (w : World) (hR : Reads w 1 A n (ps.map .string)) (hn : n ≤ 10000) (hsz : ∀ s ∈ ps, s.size ≤ 1000000) (hK : Ks w) :
    Calls Tryz.prog 37 #[.int .i64 (tag : Int), .slice A n c] w (Ret w (.agg (b8 (Sha.ofD tag (ps.map nb))).toArray)) := by
  have hpl : ps.length = n := by have := hR.1; simp at this; omega
  have hhl := heard_len tag ps hsz
  have HR := Lib.hid hR; have HS := Lib.hid hsz; have HK := Lib.hid hK; have HPL := Lib.hid hpl; have HHL := Lib.hid hhl
  obtain ⟨D, hD⟩ : ∃ D, D = b8 (Sha.ofD tag (ps.map nb)) := ⟨_, rfl⟩
  rw [← hD]
  have HD := Lib.hid hD
  clear hR hsz hK hpl hhl hD
  go_enter Tryz.func37, Tryz.ntmps37
  go_upto_region 1 with fail
  generalize hw0 : World.alloc _ _ = w0
  have hZ : RowV w0 w.heap.size 77 (b8 (List.replicate 16 0)) := by rw [← hw0]; exact (heap_alloc_new w _).trans rfl
  have hbw : Below w.heap.size w w0 := by rw [← hw0]; exact belB
  have hz0 : w.heap.size < w0.heap.size := RowV.lt hZ
  have HZ := Lib.hid hZ
  clear hw0 hZ
  have ht0 : (0 : Int) ≤ tag := by omega
  have ht1 : IntKind.u8.wrap (tag : Int) = tag := IntWalk.u8_in _ (by omega)
  go_cut [5] (fun s5 wx => ∃ g : Nat, s5 = .pointer (some ⟨g, 0, none⟩) ∧ w0.heap.size ≤ g ∧ StrR wx g [tag] ∧ Below w0.heap.size w0 wx)
  case first =>
    refine wp_free 7 (by kernel_rfl) (by kernel_rfl) (fun a b => Below a.heap.size a b) (fun a => Below.refl _ _) (fun a b c h k => h.trans (k.mono h.size)) (D1 tag w0.heap.size) D1.keep (fun _ _ => True) trivial ?_ ?_
    · skip
      refine ops_cons ?_ (ops_cons ?_ (ops_cons ?_ (ops_cons ?_ (ops_cons ?_ (ops_cons ?_ (ops_cons ?_ (ops_nil)))))))
      · intro ho L a W hC hi hl hJ hG hA hd
        refine free_call (f := 55) (args := #[]) ho rfl (by simp [go_sem, execOp]) ?_
        refine (begin_any W).mono ?_
        rintro e W' ⟨⟨v, rfl, hv⟩, hb'⟩
        exact ⟨_, rfl, hv, hb', trivial⟩
      · intro ho L a W hC hi hl hJ hG hA hd
        have t0 : a.eval (.tmp 0) = .int .i64 (tag : Int) := agree_eval hA (by kernel_rfl)
        have u0 := (tmp_eq a 0).trans t0
        exact free_step (W' := W) ho rfl (by simp [go_sem, execOp, u0]) ⟨rfl, Below.refl _ _, trivial⟩
      · intro ho L a W hC hi hl hJ hG hA hd
        have t10 : a.eval (.tmp 10) = .int .i64 (tag : Int) := by have := hd _ (Array.mem_of_getElem? (i := 0) rfl) rfl; exact this
        have u10 := (tmp_eq a 10).trans t10
        exact free_step (v := .int .u8 (tag : Int)) (W' := W) ho rfl (by simp [go_sem, execOp, u10, ht1]) ⟨rfl, Below.refl _ _, trivial⟩
      · intro ho L a W hC hi hl hJ hG hA hd
        have t11 : a.eval (.tmp 11) = .int .u8 (tag : Int) := by have := hd _ (Array.mem_of_getElem? (i := 0) rfl) rfl; exact this
        have u11 := (tmp_eq a 11).trans t11
        exact free_step (v := .slice (some ⟨W.heap.size, 0, none⟩) 1 1) (W' := W.alloc (.cells #[.int .u8 (tag : Int)] 5)) ho rfl (by simp [go_sem, execOp, u11]) ⟨⟨_, rfl, Blk.cell (World.alloc_heap_new W (.cells #[.int .u8 (tag : Int)] 5)) 0⟩, balloc (Below.refl _ _) _, trivial⟩
      · intro ho L a W hC hi hl hJ hG hA hd
        obtain ⟨b, t12, hcb⟩ : ∃ b, a.eval (.tmp 12) = .slice (some ⟨b, 0, none⟩) 1 1 ∧ W.cell? ⟨b, 0, none⟩ = some (.int .u8 (tag : Int)) := by have := hd _ (Array.mem_of_getElem? (i := 0) rfl) rfl; exact this
        have u12 := (tmp_eq a 12).trans t12
        have hcv := run_text W (some ⟨b, 0, none⟩) 1 1 [tag] rfl (by intro x hx; rw [List.mem_singleton.1 hx]; exact htag) (by omega) ⟨rfl, fun _ => ⟨b, 0, rfl, fun j u hu => by
          match j, hu with
          | 0, hu => rw [← Option.some.inj hu]; exact hcb⟩⟩
        exact free_step (v := .string (toN [tag])) (W' := W) ho rfl (by simp [go_sem, execOp, u12, hcv]) ⟨rfl, Below.refl _ _, trivial⟩
      · intro ho L a W hC hi hl hJ hG hA hd
        obtain ⟨v9, t9, hv9⟩ : ∃ v9, a.eval (.tmp 9) = v9 ∧ StrV [] v9 := ⟨_, rfl, by have := hd _ (Array.mem_of_getElem? (i := 0) rfl) rfl; exact this⟩
        have t13 : a.eval (.tmp 13) = .string (toN [tag]) := by have := hd _ (Array.mem_of_getElem? (i := 1) rfl) rfl; exact this
        have u9 := (tmp_eq a 9).trans t9
        have u13 := (tmp_eq a 13).trans t13
        refine free_call (f := 56) (args := #[v9, .string (toN [tag])]) ho rfl (by simp [go_sem, execOp, u9, u13]) ?_
        have hlen : ([] : List Nat).length + (toN [tag]).size ≤ 1000000000000 := by rw [toN_size]; simp
        refine (add_any [] v9 (toN [tag]) W hv9 hlen (HK.out.keep ((Below.drew hbw).trans (hG.mono (by show w.heap.size ≤ w0.heap.size; omega))))).mono ?_
        rintro e W' ⟨⟨v, rfl, hv⟩, hb'⟩
        rw [nb_toN (by intro x hx; rw [List.mem_singleton.1 hx]; exact htag)] at hv
        exact ⟨_, rfl, hv, hb', trivial⟩
      · intro ho L a W hC hi hl hJ hG hA hd
        exact free_step (v := .pointer (some ⟨W.heap.size, 0, none⟩)) (W' := W.alloc (.cells Tryz.zeroCells104 104)) ho rfl (by simp [go_sem, execOp]) ⟨⟨_, rfl, by have := hG.size; simpa using this, heap_alloc_new W _⟩, balloc (Below.refl _ _) _, trivial⟩
    · intro vals w' hG _ hD
      obtain ⟨g, e6, hg, hzz⟩ : ∃ g, vals 6 = .pointer (some ⟨g, 0, none⟩) ∧ w0.heap.size ≤ g ∧ w'.heap[g]? = some (.cells Tryz.zeroCells104 104 (0, 0)) := hD 6 (by omega)
      have e5 : StrV [tag] (vals 5) := hD 5 (by omega)
      obtain ⟨X, e5x, hX, hX1⟩ := strV_agg e5
      rw [e5x] at e5
      simp only [List.take_succ_cons, List.take_zero, List.drop_succ_cons, List.drop_zero, putL, e6, e5x]
      generalize vals 0 = v0
      generalize vals 1 = v1
      generalize vals 2 = v2
      generalize vals 3 = v3
      generalize vals 4 = v4
      simp only [Act.put, List.setIfInBounds_toArray, List.set_cons_succ, List.set_cons_zero]
      have hi73 : (Tryz.prog.info? 104).map (·.size) = some X.size := by rw [hX]; exact inf73
      have hzs : Tryz.zeroCells104.size = X.size := by rw [hX]; exact zero73s
      refine wpList_store_row rfl _ _ _ rfl g X rfl rfl _ _ hzz hi73 hzs hX1 ?_
      go_wp2_with fail
      go_meet
      exact ⟨g, rfl, hg, ⟨X, e5, setRow_heap _ _ _ _ _ _ hzz, hX⟩, below_setRow ((Below.drew (Below.refl _ _)).trans hG) hg _⟩
  case rest =>
    obtain ⟨g, rfl, hg, hStr, hbc⟩ := hcut
    have hZ1 : RowV wc w.heap.size 77 (b8 (List.replicate 16 0)) := RowV.keep HZ.out hbc
    have hbw1 : Below w.heap.size w wc := hbw.trans (hbc.mono (by omega))
    have HST := Lib.hid hStr; have HZ1 := Lib.hid hZ1
    clear hStr hZ1 HZ hbw hbc
    have hgw : w.heap.size < g := by omega
    go_wp2_with fail
    go_loopw [17] (fun kv wr => ∃ k : Nat, k ≤ n ∧ kv = .int .i64 k ∧ Hid (StrR wr g (heard tag ps k)) ∧ Hid (RowV wr w.heap.size 77 (b8 (List.replicate 16 0))) ∧ Below w.heap.size w wr) (fun kv _ => n - (intOf kv).toNat)
    case atStart => exact ⟨0, by omega, rfl, Lib.hid (by rw [heard_zero]; exact HST.out), HZ1, hbw1⟩
    case round =>
      obtain ⟨k, hk, rfl, HSr, HZr, hbr⟩ := hrel
      clear HST HZ1 hbw1
      by_cases hlt : k < n
      · obtain ⟨pb, po, u, rfl, hu, hcell⟩ := (HR.out.keep hbr).at_ hlt
        obtain ⟨x, hx, rfl⟩ := strs_at hu
        have hxs := HS.out x (List.mem_of_getElem? hx)
        have hsucc := heard_succ tag hx
        have hml := HHL.out k (by have := HPL.out; omega)
        have hml2 : (heard tag ps k).length ≤ 20000000000 := by omega
        have hwb := wireB_len x
        obtain ⟨X, hSX, hX, hXs⟩ := HSr.out
        have HSU := Lib.hid hsucc; have HSX := Lib.hid hSX; have HXX := Lib.hid hX; have HXS := Lib.hid hXs
        clear hu hx hsucc hml hSX hX hXs HSr
        generalize heard tag ps k = m at *
        go_wp2_with fail
        have hgl : g < wr.heap.size := by
          rcases Nat.lt_or_ge g wr.heap.size with hl | hl
          · exact hl
          · have := HXX.out; rw [Array.getElem?_eq_none hl] at this; cases this
        refine wp_free 5 (by kernel_rfl) (by kernel_rfl) (fun a b => Below a.heap.size a b) (fun a => Below.refl _ _) (fun a b c h k => h.trans (k.mono h.size)) (D2 m x) D2.keep (fun _ _ => True) trivial ?_ ?_
        · skip
          refine ops_cons ?_ (ops_cons ?_ (ops_cons ?_ (ops_cons ?_ (ops_cons ?_ (ops_nil)))))
          · intro ho L a W hC hi hl hJ hG hA hd
            have t5 : a.eval (.tmp 5) = .pointer (some ⟨g, 0, none⟩) := agree_eval hA (by kernel_rfl)
            have u5 := (tmp_eq a 5).trans t5
            have hXW : W.heap[g]? = some (.cells X 104 (0, 0)) := heap_keep (w := wr.drew) HXX.out hG
            have hld := run_loadVar_row (P := Tryz.prog) W g 104 104 X (0, 0) _ hXW Tryz.underlying104 rfl (by rw [HXS.out]; exact inf73)
            exact free_step (v := .agg X) (W' := W) ho rfl (by unfold execOp; simp only [t5, Instr.loadAt, Instr.sureAddr, Sem.run_bind, Sem.run_pure, Result.andThen_ok, hld]) ⟨HSX.out, Below.refl _ _, trivial⟩
          · intro ho L a W hC hi hl hJ hG hA hd
            have t7 : a.eval (.tmp 7) = .string x := agree_eval hA (by kernel_rfl)
            have u7 := (tmp_eq a 7).trans t7
            exact free_step (W' := W) ho rfl (by simp [go_sem, execOp, u7]) ⟨rfl, Below.refl _ _, trivial⟩
          · intro ho L a W hC hi hl hJ hG hA hd
            have t22 : a.eval (.tmp 22) = .string x := by have := hd _ (Array.mem_of_getElem? (i := 0) rfl) rfl; exact this
            have u22 := (tmp_eq a 22).trans t22
            refine free_call (f := 57) (args := #[.string x]) ho rfl (by simp [go_sem, execOp, u22]) ?_
            refine (wireBytes_any x W (by omega)).mono ?_
            rintro e W' ⟨A2, c2, rfl, hown, hb'⟩
            exact ⟨_, rfl, ⟨A2, c2, rfl, reads_own hown⟩, hb', trivial⟩
          · intro ho L a W hC hi hl hJ hG hA hd
            obtain ⟨A2, c2, t23, hR2⟩ : ∃ A2 c2, a.eval (.tmp 23) = .slice A2 (Sha.wireB (nb x)).length c2 ∧ Reads W 1 A2 (Sha.wireB (nb x)).length (b8 (Sha.wireB (nb x))) := by have := hd _ (Array.mem_of_getElem? (i := 0) rfl) rfl; exact this
            have u23 := (tmp_eq a 23).trans t23
            have hcv := run_text W A2 _ c2 (Sha.wireB (nb x)) rfl (wireB_lt x (by omega)) hwb.1 hR2
            exact free_step (v := .string (toN (Sha.wireB (nb x)))) (W' := W) ho rfl (by simp [go_sem, execOp, u23, hcv]) ⟨rfl, Below.refl _ _, trivial⟩
          · intro ho L a W hC hi hl hJ hG hA hd
            obtain ⟨v21, t21, hv21⟩ : ∃ v21, a.eval (.tmp 21) = v21 ∧ StrV m v21 := ⟨_, rfl, by have := hd _ (Array.mem_of_getElem? (i := 0) rfl) rfl; exact this⟩
            have t24 : a.eval (.tmp 24) = .string (toN (Sha.wireB (nb x))) := by have := hd _ (Array.mem_of_getElem? (i := 1) rfl) rfl; exact this
            have u21 := (tmp_eq a 21).trans t21
            have u24 := (tmp_eq a 24).trans t24
            refine free_call (f := 56) (args := #[v21, .string (toN (Sha.wireB (nb x)))]) ho rfl (by simp [go_sem, execOp, u21, u24]) ?_
            refine (add_any m v21 (toN (Sha.wireB (nb x))) W hv21 (by rw [toN_size]; omega) (HK.out.keep ((Below.drew hbr).trans (hG.mono (by show w.heap.size ≤ wr.heap.size; omega))))).mono ?_
            rintro e W' ⟨⟨v, rfl, hv⟩, hb'⟩
            rw [nb_toN (wireB_lt x (by omega))] at hv
            exact ⟨_, rfl, hv, hb', trivial⟩
        · intro vals w' hG _ hD
          have e4 : StrV (m ++ Sha.wireB (nb x)) (vals 4) := hD 4 (by omega)
          obtain ⟨Y, e4y, hY, hY1⟩ := strV_agg e4
          rw [e4y] at e4
          simp only [List.take_succ_cons, List.take_zero, List.drop_succ_cons, List.drop_zero, putL, e4y]
          generalize vals 0 = v0
          generalize vals 1 = v1
          generalize vals 2 = v2
          generalize vals 3 = v3
          simp only [Act.put, List.setIfInBounds_toArray, List.set_cons_succ, List.set_cons_zero]
          have hXW : w'.heap[g]? = some (.cells X 104 (0, 0)) := heap_keep (w := wr.drew) HXX.out hG
          have hi73 : (Tryz.prog.info? 104).map (·.size) = some Y.size := by rw [hY]; exact inf73
          refine wpList_store_row rfl _ _ _ rfl g Y rfl rfl _ _ hXW hi73 (by rw [HXS.out, hY]) hY1 ?_
          have hbw' : Below w.heap.size w w' := (Below.drew hbr).trans (hG.mono (by show w.heap.size ≤ wr.heap.size; omega))
          go_wp2_with fail
          refine ⟨⟨k + 1, by omega, by go_num, Lib.hid ?_, Lib.hid ?_, below_setRow hbw' (by omega) _⟩, by simp [intOf]; omega⟩
          · rw [HSU.out]; exact ⟨Y, e4, setRow_heap _ _ _ _ _ _ hXW, hY⟩
          · exact RowV.row_far (RowV.keep (w := wr.drew) HZr.out hG) _ _ (by omega)
      · have hkn : k = n := by omega
        obtain ⟨X, hSX, hX, hXs⟩ := HSr.out
        rw [hkn, ← HPL.out, heard_all] at hSX
        have hml := HHL.out n (by have := HPL.out; omega)
        rw [← HPL.out, heard_all, HPL.out] at hml
        have hsm := sum_any (Sha.input tag (ps.map nb)) (.agg X) wr hSX (by omega) (HK.out.keep hbr)
        have hDD : D = b8 ((Sha.sum (Sha.input tag (ps.map nb))).take 16) := HD.out
        have hRl : (Sha.sum (Sha.input tag (ps.map nb))).length = 32 := rfl
        generalize Sha.sum (Sha.input tag (ps.map nb)) = R at *
        have HSM := Lib.hid hsm; have HXX := Lib.hid hX; have HXS := Lib.hid hXs; have HDD := Lib.hid hDD; have HRL := Lib.hid hRl
        clear hkn hSX hX hXs hml hsm hDD hRl HSr HD
        have hi73 : (Tryz.prog.info? 104).map (·.size) = some X.size := by rw [HXS.out]; exact inf73
        have HI := Lib.hid hi73
        clear hi73
        obtain ⟨Y, hY⟩ : ∃ Y, Y = (b8 R).toArray := ⟨_, rfl⟩
        have hYs : Y.size = 32 := by rw [hY, List.size_toArray, b8_len, HRL.out]
        have hY1 : Y.all (·.oneCell') = true := by rw [hY, List.all_toArray, List.all_eq_true]; exact b8_one R
        have hYi : (Tryz.prog.info? 108).map (·.size) = some Y.size := by rw [hYs]; kernel_rfl
        have hDl : D.length = 16 := by rw [HDD.out, b8_len, List.length_take, HRL.out]; rfl
        have hDi : (Tryz.prog.info? 77).map (·.size) = some D.length := by rw [hDl]; kernel_rfl
        have hDi2 : (Tryz.prog.info? 77).map (·.size) = some D.toArray.size := by rw [List.size_toArray]; exact hDi
        have hD1 : D.toArray.all (·.oneCell') = true := by rw [HDD.out, List.all_toArray, List.all_eq_true]; exact b8_one _
        have hDc : ∀ j v, D[j]? = some v → (b8 R)[0 + j]? = some v := fun j v h => by
          rw [HDD.out, b8_take] at h
          rw [Nat.zero_add]
          rw [List.getElem?_take] at h
          split at h
          · exact h
          · cases h
        have hz16 : (b8 (List.replicate 16 0)).toArray.size = D.toArray.size := by rw [List.size_toArray, List.size_toArray, hDl]; rfl
        rw [← hY] at HSM
        have HY := Lib.hid hY; have HYS := Lib.hid hYs; have HY1 := Lib.hid hY1; have HYI := Lib.hid hYi; have HDI := Lib.hid hDi; have HDI2 := Lib.hid hDi2; have HD1 := Lib.hid hD1; have HDC := Lib.hid hDc; have HZ16 := Lib.hid hz16
        clear hY hYs hY1 hYi hDi hDi2 hD1 hDc hz16 hDl
        go_upto_region 8 with (first | (refine wpList_load_row rfl _ _ rfl g rfl _ X (0, 0) _ HXX.out Tryz.underlying104 rfl HI.out ?_) | (go_at_call 58; refine HSM.out.mono ?_; rintro e w5 ⟨rfl, hb5⟩) | (refine wpList_store_row rfl _ _ _ rfl w5.heap.size Y rfl rfl _ (b8 (List.replicate 32 0)).toArray ((heap_alloc_new w5 _).trans rfl) HYI.out (by rw [HYS.out]; rfl) HY1.out ?_))
        try simp only [Act.put, List.setIfInBounds_toArray, List.set_cons_succ, List.set_cons_zero]
        have hs5 := hb5.size
        have hzr5 : RowV w5 w.heap.size 77 (b8 (List.replicate 16 0)) := RowV.keep HZr.out hb5
        have hbw5 : Below w.heap.size w w5 := hbr.trans (hb5.mono hbr.size)
        obtain ⟨g8, hg8⟩ : ∃ g8, g8 = w5.heap.size := ⟨_, rfl⟩
        have hgw8 : w.heap.size < g8 := by rw [hg8]; exact RowV.lt hzr5
        rw [← hg8]
        generalize hw6 : World.setRow _ _ _ = w6
        have hR6 : w6.heap[g8]? = some (.cells (b8 R).toArray 108 (0, 0)) := by
          rw [← hw6, ← HY.out, hg8]
          exact setRow_heap _ _ _ _ _ _ (heap_alloc_new w5 _)
        have hZ6 : RowV w6 w.heap.size 77 (b8 (List.replicate 16 0)) := by rw [← hw6]; exact RowV.row_far (RowV.alloc hzr5 _) _ _ (by omega)
        have hb6 : Below w.heap.size w w6 := by rw [← hw6]; exact below_setRow (hbw5.alloc (by omega) _) (by omega) _
        have r16 : ∀ W, (Instr.arrayAt 77 (.slice (some ⟨g8, 0, none⟩) 16 32)).run Tryz.prog W = .ok (.pointer (some ⟨g8, 0, none⟩)) W := fun W => run_arrayAt16 W _ 16 32 (by decide)
        have HR6 := Lib.hid hR6; have HZ6 := Lib.hid hZ6
        clear hw6 hg8 hR6 hZ6 hzr5 hbw5 hb5 hs5 HZr hbr HXX HSM
        go_wp2_with (first | (refine wpList_load_at rfl _ _ rfl g8 0 rfl _ (b8 R) D (0, 0) _ HR6.out HDC.out Tryz.underlying77 rfl HDI.out ?_) | (refine wpList_store_row rfl _ _ _ rfl w.heap.size D.toArray rfl rfl _ _ HZ6.out HDI2.out HZ16.out HD1.out ?_))
        refine bodyPost_ret (v := .agg D.toArray) ?_ rfl ⟨rfl, ?_⟩
        · exact results_cell_row rfl _ _ w.heap.size _ _ (0, 0) _ rfl (setRow_heap _ _ _ _ _ _ HZ6.out) Tryz.underlying77 rfl HDI2.out
        · exact below_setRow hb6 (Nat.le_refl _) _
end Go.Proofs.YtcjeddichookmaaGreatDoor
namespace Go.Proofs.YtcjeddichookmaaGreatDoor
open Go.RowKit Go.Sort
set_option linter.unusedVariables false
set_option linter.unusedSimpArgs false
set_option maxRecDepth 100000
theorem ofS_lt (tag : Nat) (ps : List (List Nat)) : ∀ b ∈ Sha.ofD tag ps, b < 256 := by
  intro b hb
  have hb := List.mem_of_mem_take hb
  have hs := Sha.blocks_ok ((Sha.pad (Sha.input tag ps)).length / 64) Sha.st0 (Sha.pad (Sha.input tag ps)) Sha.st0_ok
  unfold Sha.sum at hb
  generalize Sha.blocks ((Sha.pad (Sha.input tag ps)).length / 64) Sha.st0 (Sha.pad (Sha.input tag ps)) = s at *
  unfold Sha.out at hb
  simp only [List.mem_append] at hb
  rcases hb with ((((((hb | hb) | hb) | hb) | hb) | hb) | hb) | hb
  · exact Sha.bytes4_lt hs.a b hb
  · exact Sha.bytes4_lt hs.b b hb
  · exact Sha.bytes4_lt hs.c b hb
  · exact Sha.bytes4_lt hs.d b hb
  · exact Sha.bytes4_lt hs.e b hb
  · exact Sha.bytes4_lt hs.f b hb
  · exact Sha.bytes4_lt hs.g b hb
  · exact Sha.bytes4_lt hs.h b hb
theorem ofS_len (tag : Nat) (ps : List (List Nat)) : (Sha.ofD tag ps).length = 16 := by
  unfold Sha.ofD Sha.sum
  rw [List.length_take, Sha.out_len]
  rfl
theorem list16 {l : List Nat} (h : l.length = 16) : ∃ a b c d e f g i j k m n o p q r : Nat, l = [a, b, c, d, e, f, g, i, j, k, m, n, o, p, q, r] := by
  match l, h with
  | [a, b, c, d, e, f, g, i, j, k, m, n, o, p, q, r], _ => exact ⟨a, b, c, d, e, f, g, i, j, k, m, n, o, p, q, r, rfl⟩
def PrioP (w : World) (e : Ending) (w' : World) : Prop := ∃ p : Nat, e = .returned (.agg #[.int .u64 (p : Int)]) ∧ p < 18446744073709551616 ∧ Below w.heap.size w w'
theorem shl8 (m b : Nat) (hb : b < 256) : ∃ q : Nat, bits .or .u64 (IntKind.u64.wrap ((m : Int) * 256)) (b : Int) = (q : Int) ∧ q < 18446744073709551616 := by
  have e : IntKind.u64.wrap ((m : Int) * 256) = ((m * 256 % 18446744073709551616 : Nat) : Int) := by
    show ((m : Int) * 256) % 18446744073709551616 = _
    omega
  rw [e, bits_or_u64_nat _ _ (by omega) (by omega)]
  exact ⟨_, rfl, Nat.or_lt_two_pow (n := 64) (by omega) (by omega)⟩
set_option maxHeartbeats 4000000 in
theorem priority_any (k : ByteArray) (w : World) (hk : k.size ≤ 1000000) (hK : Ks w) : Calls Tryz.prog 20 #[.string k] w (PrioP w) := by
  have ho := fun (W : World) (hb : Below w.heap.size w W) (g : Nat) (hc : W.cell? ⟨g, 0, none⟩ = some (.string k)) => of_any 15 (by decide) (some ⟨g, 0, none⟩) 1 1 [k] W ⟨rfl, fun _ => ⟨g, 0, rfl, fun j u hu => by
    cases j with
    | zero => simp at hu; subst hu; exact hc
    | succ j => simp at hu⟩⟩ (by decide) (fun s hs => by simp at hs; subst hs; exact hk) (hK.keep hb)
  obtain ⟨D, hD⟩ : ∃ D, D = Sha.ofD 15 ([k].map nb) := ⟨_, rfl⟩
  have hl : D.length = 16 := by rw [hD]; exact ofS_len _ _
  have hlt : ∀ b ∈ D, b < 256 := by rw [hD]; exact ofS_lt _ _
  rw [← hD] at ho
  clear hD
  have HLT := Lib.hid (show ∀ j, D.getD j 0 < 256 from fun j => by
    rcases Nat.lt_or_ge j D.length with h | h
    · rw [List.getD_eq_getElem?_getD, List.getElem?_eq_getElem h]; exact hlt _ (List.getElem_mem h)
    · rw [List.getD_eq_getElem?_getD, List.getElem?_eq_none h]; exact Nat.zero_lt_succ _)
  have HAT := Lib.hid (show ∀ j, j < 16 → (b8 D)[j]? = some (.int .u8 ((D.getD j 0 : Nat) : Int)) from fun j hj => b8_at D (by omega))
  obtain ⟨a0, a1, a2, a3, a4, a5, a6, a7, a8, a9, a10, a11, a12, a13, a14, a15, hD⟩ := list16 hl
  have hcs : (b8 D).toArray = #[.int .u8 (a0 : Int), .int .u8 (a1 : Int), .int .u8 (a2 : Int), .int .u8 (a3 : Int), .int .u8 (a4 : Int), .int .u8 (a5 : Int), .int .u8 (a6 : Int), .int .u8 (a7 : Int), .int .u8 (a8 : Int), .int .u8 (a9 : Int), .int .u8 (a10 : Int), .int .u8 (a11 : Int), .int .u8 (a12 : Int), .int .u8 (a13 : Int), .int .u8 (a14 : Int), .int .u8 (a15 : Int)] := by rw [hD]; rfl
  rw [hcs] at ho
  have HCS := Lib.hid hcs; have HO := Lib.hid ho
  clear hcs ho hl hlt hK hD
  go_enter Tryz.func20, Tryz.ntmps20
  have hR0 := (RowV.new w 55 [.int .u64 0]).alloc (.cells #[.string k] 9)
  have hS0 : RowV ((w.alloc (.cells #[.int .u64 0] 55)).alloc (.cells #[.string k] 9)) (w.heap.size + 1) 9 [.string k] := by
    have h := RowV.new (w.alloc (.cells #[.int .u64 0] 55)) 9 [.string k]
    rwa [World.size_alloc] at h
  have HR0 := Lib.hid hR0; have HS0 := Lib.hid hS0
  clear hR0 hS0
  go_upto_region 2 with (go_at_call 37; refine (HO.out _ belB _ (HS0.out.cell rfl)).mono ?_; rintro e w2 ⟨rfl, hb2⟩; have hR2 := HR0.out.keep hb2; have hbw2 : Below w.heap.size w w2 := belB; clear hb2)
  have hR3 := hR2.alloc (.cells (b8 D).toArray 77)
  have hD3 := RowV.new w2 77 (b8 D)
  have hb3 : Below w.heap.size w (w2.alloc (.cells (b8 D).toArray 77)) := balloc hbw2 _
  rw [HCS.out] at hR3 hD3 hb3
  generalize hw3 : World.alloc w2 _ = w3 at *
  generalize w2.heap.size = g at *
  have HR3 := Lib.hid hR3; have HD3 := Lib.hid hD3
  clear hw3 hR2 hbw2 hR3 hD3 HR0 HS0 HO
  go_wp2
  go_loopw [4, 12] (fun vo vi wr => ∃ (k m : Nat), (vi = .int .i64 k ∧ vo = .int .u64 (m : Int) ∧ k ≤ 8 ∧ m < 18446744073709551616) ∧ RowV wr w.heap.size 55 [.int .u64 0] ∧ RowV wr g 77 (b8 D) ∧ Below w.heap.size w wr) (fun _ i _ => 8 - (intOf i).toNat)
  case atStart => exact ⟨0, 0, ⟨rfl, rfl, by omega, by omega⟩, HR3.out, HD3.out, hb3⟩
  case round =>
    obtain ⟨i, m, ⟨rfl, rfl, hi, hm⟩, hR, hDD, hbr⟩ := hrel
    clear HR3 HD3 hb3
    by_cases hlt : i < 8
    · have hc := hDD.cell (HAT.out i (by omega))
      have hbd := HLT.out i
      obtain ⟨q, hq, hq2⟩ := shl8 m (D.getD i 0) hbd
      generalize D.getD i 0 = bt at *
      have hi0 : (0 : Int) ≤ (i : Int) := by omega
      have hi1 : (i : Int) < 8 := by omega
      go_wp2
      exact ⟨⟨i + 1, q, ⟨by go_num, rfl, by omega, hq2⟩, hR, hDD, hbr⟩, by simp [intOf]; omega⟩
    · obtain rfl : i = 8 := by omega
      have m0 := hR.cell (k := 0) rfl
      have g0 := hR.free 0
      go_wp2
      have hS := hR.set_ 0 (.int .u64 (m : Int))
      have hb4 : Below w.heap.size w (wr.setCell ⟨w.heap.size, 0, none⟩ (.int .u64 (m : Int))) := hbr.setCell (by simp) _
      generalize hw4 : World.setCell _ _ _ = w4 at *
      have q0 := hS.cell (k := 0) rfl
      exact bodyPost_ret (v := .agg #[.int .u64 (m : Int)]) (by simp [results, Tryz.results20, go_sem, q0]) rfl ⟨m, rfl, hm, hb4⟩
end Go.Proofs.YtcjeddichookmaaGreatDoor
