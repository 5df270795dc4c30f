/- A node with other children: with. -/
import Derived.Test.YtcjeddichookmaaGreatDoorIZ14
import Derived.Test.YtcjeddichookmaaGreatDoorIZ6
import Derived.Test.YtcjeddichookmaaGreatDoorProg
import Derived.WalkKit
import Derived.WalkSpells
import Derived.WalkLawsBesides
import Derived.Below
import Derived.Deep.QuietTactic
import Derived.BigQuiet
import Derived.Lib.QuietBelow
import Derived.Lib.Strings
import Derived.Lib.Hide
import Derived.Deep.RegionWith
import Derived.Deep.RegionHeld3
import Derived.Lib.IndexBytes
import Derived.Test.YtcjeddichookmaaGreatDoorIZ13
import Derived.Test.YtcjeddichookmaaGreatDoorIZ5
import Derived.OwnWalk
namespace Go.Proofs.YtcjeddichookmaaGreatDoor
open Go.RowKit Go.Sort
set_option linter.unusedVariables false
set_option linter.unusedSimpArgs false
set_option maxRecDepth 100000
def TrP (t : ITr) (w : World) (e : Ending) (w' : World) : Prop := ∃ B, e = .returned (.pointer B) ∧ NodeAt w' t B ∧ Below w.heap.size w w'
theorem nodeWith_any (p : Nat) (x : It) (l r tl tr : ITr) (A L R : Option Addr) (w : World) (h : NodeAt w (.node p x l r) A) (hL : NodeAt w tl L) (hR : NodeAt w tr R) (ho : TrOk (.node p x l r)) (h1 : TrOk tl) (h2 : TrOk tr) :
    Calls Tryz.prog 33 #[.pointer A, .pointer L, .pointer R] w (TrP (.node p x tl tr) w) := by
  obtain ⟨b, L0, R0, rfl, hl0, hr0, hp, hr, c0, c1, c6, c7⟩ := h.facts
  have c2 := hr.cell (k := 2) rfl
  have c3 := hr.cell (k := 3) rfl
  have c4 := hr.cell (k := 4) rfl
  have c5 := hr.cell (k := 5) rfl
  have c8 := hr.cell (k := 8) rfl
  have c9 := hr.cell (k := 9) rfl
  have k1 := fun W (hb : Below w.heap.size w W) => len_ret tl L W (NodeAt.keep hb hL)
  have k2 := fun W (hb : Below w.heap.size w W) => len_ret tr R W (NodeAt.keep hb hR)
  have k3 := fun W (hb : Below w.heap.size w W) => own_any p x l r _ W (NodeAt.keep hb h) ho
  have k4 := fun W (hb : Below w.heap.size w W) => total_ret tl L W (NodeAt.keep hb hL)
  have k5 := fun W (hb : Below w.heap.size w W) => total_ret tr R W (NodeAt.keep hb hR)
  have hz := ho.item
  have b1 := h1.bound
  have b2 := h2.bound
  have K1 := Lib.hid k1; have K2 := Lib.hid k2; have K3 := Lib.hid k3; have K4 := Lib.hid k4; have K5 := Lib.hid k5; have HL := Lib.hid hL; have HR := Lib.hid hR
  have ht : Tr.total It.z (.node p x tl tr) = x.z + Tr.total It.z tl + Tr.total It.z tr := rfl
  have hn : Tr.len (.node p x tl tr) = 1 + Tr.len tl + Tr.len tr := rfl
  have HT := Lib.hid ht; have HN := Lib.hid hn; have HP := Lib.hid hp
  obtain ⟨D, hD⟩ : ∃ D, D = TrP (.node p x tl tr) w := ⟨_, rfl⟩
  rw [← hD]
  have HD := Lib.hid hD
  clear k1 k2 k3 k4 k5 hl0 hr0 hp hr h ho hL hR h1 h2 ht hn hD
  generalize Tr.len (.node p x l r) = n0 at *
  generalize Tr.total It.z (.node p x l r) = s0 at *
  generalize Tr.total It.z tl = s1 at *
  generalize Tr.total It.z tr = s2 at *
  generalize Tr.len tl = n1 at *
  generalize Tr.len tr = n2 at *
  unfold ndC at *
  go_enter Tryz.func33, Tryz.ntmps33
  go_upto_region 2 with fail
  have r1 : RowV (w.alloc (.cells (ndC p x L0 R0 n0 s0).toArray 58)) w.heap.size 58 (ndC p x L0 R0 n0 s0) := RowV.new w _ _
  have hb1 : Below w.heap.size w (w.alloc (.cells (ndC p x L0 R0 n0 s0).toArray 58)) := balloc (Below.refl _ _) _
  unfold ndC at r1 hb1
  generalize hw1 : World.alloc _ _ = w1 at *
  clear hw1
  have f6 := r1.free 6
  have f7 := r1.free 7
  have d6 := r1.cell (k := 6) rfl
  have d7 := r1.cell (k := 7) rfl
  go_upto_region 3 with fail
  have r2 := (r1.set_ 6 (.pointer L)).set_ 7 (.pointer R)
  have hb2 : Below w.heap.size w ((w1.setCell ⟨w.heap.size, 6, none⟩ (.pointer L)).setCell ⟨w.heap.size, 7, none⟩ (.pointer R)) := (hb1.setCell (by simp) _).setCell (by simp) _
  generalize hw2 : World.setCell _ _ _ = w2 at *
  clear hw2 r1 hb1 f6 f7 d6 d7 c0 c1 c2 c3 c4 c5 c6 c7 c8 c9
  have f8 := r2.free 8
  have d8 := r2.cell (k := 8) rfl
  go_upto_region 4 with (first | (go_at_call 22; refine (K1.out _ belB).mono ?_; rintro e w3 ⟨rfl, hb3⟩; clear K1; have r3 := r2.keep hb3; clear r2 f8 d8; have f8 := r3.free 8; have d8 := r3.cell (k := 8) rfl) | (go_at_call 22; refine (K2.out _ belB).mono ?_; rintro e w4 ⟨rfl, hb4⟩; clear K2; have r4 := r3.keep hb4; clear r3 f8 d8; have f8 := r4.free 8; have d8 := r4.cell (k := 8) rfl))
  have r5 := r4.set_ 8 (.int .i64 (1 + (n1 : Int) + (n2 : Int)))
  have hb5 : Below w.heap.size w (w4.setCell ⟨w.heap.size, 8, none⟩ (.int .i64 (1 + (n1 : Int) + (n2 : Int)))) := belB
  generalize hw5 : World.setCell _ _ _ = w5 at *
  clear hw5 r4 hb2 hb3 hb4 f8 d8
  have f9 := r5.free 9
  have d9 := r5.cell (k := 9) rfl
  go_upto_region 5 with (first | (go_at_call 50; refine (K3.out _ belB).mono ?_; rintro e w6 ⟨rfl, hb6⟩; clear K3; have r6 := r5.keep hb6; clear r5 f9 d9; have f9 := r6.free 9; have d9 := r6.cell (k := 9) rfl) | (go_at_call 23; refine (K4.out _ belB).mono ?_; rintro e w7 ⟨rfl, hb7⟩; clear K4; have r7 := r6.keep hb7; clear r6 f9 d9; have f9 := r7.free 9; have d9 := r7.cell (k := 9) rfl) | (go_at_call 23; refine (K5.out _ belB).mono ?_; rintro e w8 ⟨rfl, hb8⟩; clear K5; have r8 := r7.keep hb8; clear r7 f9 d9; have f9 := r8.free 9; have d9 := r8.cell (k := 9) rfl))
  have r9 := r8.set_ 9 (.int .i64 (x.z + s1 + s2))
  have hb9 : Below w.heap.size w (w8.setCell ⟨w.heap.size, 9, none⟩ (.int .i64 (x.z + s1 + s2))) := belB
  generalize hw9 : World.setCell _ _ _ = w9 at *
  clear hw9 r8 hb5 hb6 hb7 hb8 f9 d9
  go_wp2
  rw [HD.out]
  refine ⟨_, rfl, ⟨w.heap.size, L, R, rfl, HP.out, ?_, NodeAt.keep hb9 HL.out, NodeAt.keep hb9 HR.out⟩, hb9⟩
  rw [HT.out, HN.out]
  have e : ((1 + n1 + n2 : Nat) : Int) = 1 + (n1 : Int) + (n2 : Int) := by omega
  unfold ndC
  rw [e]
  exact r9
end Go.Proofs.YtcjeddichookmaaGreatDoor
namespace Go.Proofs.YtcjeddichookmaaGreatDoor
open Go.RowKit Go.Sort
set_option linter.unusedVariables false
set_option linter.unusedSimpArgs false
set_option maxRecDepth 100000
theorem above_any (p q : Nat) (w : World) : Calls Tryz.prog 38 #[.agg #[.int .u64 (p : Int)], .agg #[.int .u64 (q : Int)]] w (Ret w (.bool (decide ((q : Int) ≤ (p : Int))))) := by
  go_enter Tryz.func38, Tryz.ntmps38
  go_wp2
  go_ret
  exact ⟨ret_bool (by simp), belB⟩
theorem TrOk.of {t : ITr} (h1 : (Tr.toL t).length ≤ 1000) (h2 : ∀ x ∈ Tr.toL t, 0 ≤ x.z ∧ x.z ≤ 1099511627776) : TrOk t := ⟨by rw [Tr.len_eq]; exact h1, h2⟩
theorem join_ok {a b : ITr} (ha : TrOk a) (hb : TrOk b) (hn : Tr.len a + Tr.len b ≤ 1000) : TrOk (Tr.join a b) := by
  refine .of ?_ ?_
  · rw [Tr.toL_join, List.length_append, ← Tr.len_eq, ← Tr.len_eq]; exact hn
  · intro x hx
    rw [Tr.toL_join] at hx
    exact (List.mem_append.1 hx).elim (ha.z x) (hb.z x)
def PtrT (t : ITr) (v : Value) (W : World) : Prop := ∃ P, v = .pointer P ∧ NodeAt W t P
theorem keeps_ptr (t : ITr) : Keeps (PtrT t) := fun v w w' ⟨P, e, h⟩ hb => ⟨P, e, NodeAt.keep hb h⟩
structure TwoT (w : World) (ta tb : ITr) (A B : Option Addr) (W : World) : Prop where
  a : NodeAt W ta A
  b : NodeAt W tb B
  w : Below w.heap.size w W
theorem TwoT.keep {w : World} {ta tb : ITr} {A B : Option Addr} {W W' : World} (h : TwoT w ta tb A B W) (hb : Below W.heap.size W W') : TwoT w ta tb A B W' := ⟨NodeAt.keep hb h.a, NodeAt.keep hb h.b, bstep h.w hb⟩
set_option maxHeartbeats 4000000 in
theorem treeJoin_any (N : Nat) : ∀ (ta tb : ITr) (A B : Option Addr) (w : World), Tr.len ta + Tr.len tb ≤ N → N ≤ 1000 → NodeAt w ta A → NodeAt w tb B → TrOk ta → TrOk tb → Calls Tryz.prog 21 #[.pointer A, .pointer B] w (TrP (Tr.join ta tb) w) := by
  induction N with
  | zero =>
    intro ta tb A B w hN _ hA hB _ _
    cases ta with
    | node p x l r => simp [Tr.len] at hN
    | nil =>
      cases tb with
      | node p x l r => simp [Tr.len] at hN
      | nil =>
        cases (show A = none from hA)
        cases (show B = none from hB)
        rw [Tr.join]
        go_enter Tryz.func21, Tryz.ntmps21
        go_wp2
        go_ret
        exact ⟨_, rfl, rfl, belB⟩
  | succ N ih =>
    intro ta tb A B w hN hN2 hA hB ha hb
    cases ta with
    | nil =>
      cases (show A = none from hA)
      have e : Tr.join (.nil : ITr) tb = tb := by cases tb <;> rw [Tr.join]
      rw [e]
      have HB := Lib.hid hB
      clear hB ih
      go_enter Tryz.func21, Tryz.ntmps21
      go_wp2
      go_ret
      exact ⟨_, rfl, HB.out, belB⟩
    | node p x l r =>
      cases tb with
      | nil =>
        cases (show B = none from hB)
        rw [Tr.join]
        obtain ⟨ab, L, R, rfl, _⟩ := hA.facts
        have HA := Lib.hid hA
        clear hA ih
        go_enter Tryz.func21, Tryz.ntmps21
        go_wp2
        go_ret
        exact ⟨_, rfl, HA.out, belB⟩
        intro h
        cases h
      | node q y m s =>
        obtain ⟨ab, L, R, rfl, hl, hr2, hp, hr, c0, c1, c6, c7⟩ := hA.facts
        obtain ⟨bb, L2, R2, rfl, hl2, hr22, hp2, hrb, d0, d1, d6, d7⟩ := hB.facts
        have hj1 := fun W hA' hB' => ih r (.node q y m s) R (some ⟨bb, 0, none⟩) W (by simp only [Tr.len] at hN ⊢; omega) (by omega) hA' hB' ha.right hb
        have hj2 := fun W hA' hB' => ih (.node p x l r) m (some ⟨ab, 0, none⟩) L2 W (by simp only [Tr.len] at hN ⊢; omega) (by omega) hA' hB' ha hb.left
        have ho1 : TrOk (Tr.join r (.node q y m s)) := join_ok ha.right hb (by simp only [Tr.len] at hN ⊢; omega)
        have ho2 : TrOk (Tr.join (.node p x l r) m) := join_ok ha hb.left (by simp only [Tr.len] at hN ⊢; omega)
        have hw1 := fun (W : World) (P : Option Addr) (h1 : NodeAt W (.node p x l r) (some ⟨ab, 0, none⟩)) (h2 : NodeAt W l L) (h3 : NodeAt W (Tr.join r (.node q y m s)) P) => nodeWith_any p x l r l (Tr.join r (.node q y m s)) _ L P W h1 h2 h3 ha ha.left ho1
        have hw2 := fun (W : World) (P : Option Addr) (h1 : NodeAt W (.node q y m s) (some ⟨bb, 0, none⟩)) (h2 : NodeAt W (Tr.join (.node p x l r) m) P) (h3 : NodeAt W s R2) => nodeWith_any q y m s (Tr.join (.node p x l r) m) s _ P R2 W h1 h2 h3 hb ho2 hb.right
        rw [Tr.join]
        have hab := fun W => above_any p q W
        have hS := fun (W : World) (hb' : Below w.heap.size w W) => (show TwoT w (.node p x l r) (.node q y m s) (some ⟨ab, 0, none⟩) (some ⟨bb, 0, none⟩) W from ⟨NodeAt.keep hb' hA, NodeAt.keep hb' hB, hb'⟩)
        have hn1 := fun (W : World) (hb' : Below w.heap.size w W) => NodeAt.keep hb' hl
        have hn2 := fun (W : World) (hb' : Below w.heap.size w W) => NodeAt.keep hb' hr2
        have hn3 := fun (W : World) (hb' : Below w.heap.size w W) => NodeAt.keep hb' hl2
        have hn4 := fun (W : World) (hb' : Below w.heap.size w W) => NodeAt.keep hb' hr22
        have HS := Lib.hid hS; have HJ1 := Lib.hid hj1; have HJ2 := Lib.hid hj2; have HW1 := Lib.hid hw1; have HW2 := Lib.hid hw2
        have HN1 := Lib.hid hn1; have HN2 := Lib.hid hn2; have HN3 := Lib.hid hn3; have HN4 := Lib.hid hn4
        have C6 := Lib.hid c6; have C7 := Lib.hid c7; have D6 := Lib.hid d6; have D7 := Lib.hid d7
        clear hA hB hj1 hj2 hw1 hw2 ih hl hr2 hr hl2 hr22 hrb ho1 ho2 ha hb c1 d1 hN hN2 hp hp2 hS c6 c7 d6 d7 hn1 hn2 hn3 hn4
        have k1 := cell_regrown c0; have k2 := cell_regrown d0
        by_cases hqp : q ≤ p
        · rw [if_pos hqp]
          rw [decide_eq_true (show (q : Int) ≤ (p : Int) by omega)] at hab
          have HAB := Lib.hid hab
          clear hab hqp HJ2 HW2 HN3 HN4 D6 D7
          generalize Tr.join r (.node q y m s) = T1 at *
          generalize Tr.Tree.node p x l T1 = T2 at *
          go_enter Tryz.func21, Tryz.ntmps21
          go_upto_region 5 with fail
          refine wp_region_quiet_below (by kernel_rfl) (by kernel_rfl) ?_; (repeat (any_goals (first | go_big_quiet_step ((first | exact qcalls HAB.out _ _)) | quiet_step ((first | exact qcalls HAB.out _ _))))); refine wpQuiet_nil ?_; intro _ hwq; obtain ⟨⟨dq, osq⟩, hwq⟩ := hwq; subst hwq; have hbq := below_regrown (w) dq osq; generalize grow (redrawn (w) dq) osq = wq at *
          clear k1 k2 c0 d0
          go_upto_region 6 with fail
          refine wp_detD 12 (by kernel_rfl) (by kernel_rfl) (by kernel_rfl) (DL [IsV (.pointer (some ⟨ab, 0, none⟩)), IsV (.pointer (some ⟨ab, 0, none⟩)), IsV (.pointer (some ⟨ab, 0, none⟩)), IsV (.pointer (some ⟨ab, 6, none⟩)), IsV (.pointer L), IsV (.pointer (some ⟨ab, 0, none⟩)), IsV (.pointer (some ⟨ab, 0, none⟩)), IsV (.pointer (some ⟨ab, 7, none⟩)), IsV (.pointer R), IsV (.pointer (some ⟨bb, 0, none⟩)), PtrT T1, PtrT T2]) (DL.keep _ (by simp only [KeepAll]; repeat' (first | apply And.intro | exact keeps_is _ | exact keeps_ptr _ | exact trivial))) (TwoT w _ _ (some ⟨ab, 0, none⟩) (some ⟨bb, 0, none⟩)) ((HS.out _ hbq).keep (Below.drew (Below.refl _ _))) (fun _ _ h hb => h.keep hb) ?_ ?_
          · dsimp only [List.take_succ_cons, List.take_zero, DetD]
            refine ⟨fun vals W hS hd => ?_, fun vals W hS hd => ?_, fun vals W hS hd => ?_, fun vals W hS hd => ?_, fun vals W hS hd => ?_, fun vals W hS hd => ?_, fun vals W hS hd => ?_, fun vals W hS hd => ?_, fun vals W hS hd => ?_, fun vals W hS hd => ?_, fun vals W hS hd => ?_, fun vals W hS hd => ?_, trivial⟩
            rotate_left 10
            · (try simp only [DepsL, DL, IsV, List.getD_cons_zero, List.getD_cons_succ, Region.binds, and_true, true_and] at hd)
              simp only [putL, putF, Act.put]
              (try simp only [hd])
              clear hd
              have hj := HJ1.out W (HN2.out W hS.w) hS.b
              go_wp2_with (go_at_call 21; refine hj.mono ?_; rintro e w2 ⟨P, rfl, hP, hb2⟩)
              exact ⟨rfl, ⟨P, rfl, hP⟩, rfl, belB⟩
            · (try simp only [DepsL, DL, IsV, List.getD_cons_zero, List.getD_cons_succ, Region.binds, and_true, true_and] at hd)
              obtain ⟨e0, e4, ⟨P, e10, hP⟩, _⟩ := hd
              simp only [putL, putF, Act.put]
              simp only [e0, e4, e10]
              clear e0 e4 e10
              have hj := HW1.out W P hS.a (HN1.out W hS.w) hP
              go_wp2_with (go_at_call 33; refine hj.mono ?_; rintro e w2 ⟨P2, rfl, hP2, hb2⟩)
              exact ⟨rfl, ⟨P2, rfl, hP2⟩, rfl, belB⟩
            all_goals
              (try simp only [DepsL, DL, IsV, List.getD_cons_zero, List.getD_cons_succ, Region.binds, and_true, true_and] at hd)
              simp only [putL, putF, Act.put]
              (try simp only [hd])
              clear hd
              have y1 := cell_keep hS.w C6.out
              have y2 := cell_keep hS.w C7.out
              go_wp2
              exact ⟨rfl, rfl, rfl, belB⟩
          · intro vals w9 hS9 hD
            obtain ⟨P, e11, hP⟩ : PtrT T2 (vals 11) w9 := hD 11 (by omega)
            simp only [putL, putF, Act.put]
            simp only [e11]
            clear hD e11
            have hb9 := hS9.w
            go_wp2
            go_ret
            exact ⟨P, rfl, hP, hb9⟩
        · rw [if_neg hqp]
          rw [decide_eq_false (show ¬ (q : Int) ≤ (p : Int) by omega)] at hab
          have HAB := Lib.hid hab
          clear hab hqp HJ1 HW1 HN1 HN2 C6 C7
          generalize Tr.join (.node p x l r) m = T1 at *
          generalize Tr.Tree.node q y T1 s = T2 at *
          go_enter Tryz.func21, Tryz.ntmps21
          go_upto_region 5 with fail
          refine wp_region_quiet_below (by kernel_rfl) (by kernel_rfl) ?_; (repeat (any_goals (first | go_big_quiet_step ((first | exact qcalls HAB.out _ _)) | quiet_step ((first | exact qcalls HAB.out _ _))))); refine wpQuiet_nil ?_; intro _ hwq; obtain ⟨⟨dq, osq⟩, hwq⟩ := hwq; subst hwq; have hbq := below_regrown (w) dq osq; generalize grow (redrawn (w) dq) osq = wq at *
          clear k1 k2 c0 d0
          go_upto_region 7 with fail
          refine wp_detD 12 (by kernel_rfl) (by kernel_rfl) (by kernel_rfl) (DL [IsV (.pointer (some ⟨bb, 0, none⟩)), IsV (.pointer (some ⟨ab, 0, none⟩)), IsV (.pointer (some ⟨bb, 0, none⟩)), IsV (.pointer (some ⟨bb, 0, none⟩)), IsV (.pointer (some ⟨bb, 6, none⟩)), IsV (.pointer L2), PtrT T1, IsV (.pointer (some ⟨bb, 0, none⟩)), IsV (.pointer (some ⟨bb, 0, none⟩)), IsV (.pointer (some ⟨bb, 7, none⟩)), IsV (.pointer R2), PtrT T2]) (DL.keep _ (by simp only [KeepAll]; repeat' (first | apply And.intro | exact keeps_is _ | exact keeps_ptr _ | exact trivial))) (TwoT w _ _ (some ⟨ab, 0, none⟩) (some ⟨bb, 0, none⟩)) ((HS.out _ hbq).keep (Below.drew (Below.refl _ _))) (fun _ _ h hb => h.keep hb) ?_ ?_
          · dsimp only [List.take_succ_cons, List.take_zero, DetD]
            refine ⟨fun vals W hS hd => ?_, fun vals W hS hd => ?_, fun vals W hS hd => ?_, fun vals W hS hd => ?_, fun vals W hS hd => ?_, fun vals W hS hd => ?_, fun vals W hS hd => ?_, fun vals W hS hd => ?_, fun vals W hS hd => ?_, fun vals W hS hd => ?_, fun vals W hS hd => ?_, fun vals W hS hd => ?_, trivial⟩
            rotate_left 6
            · (try simp only [DepsL, DL, IsV, List.getD_cons_zero, List.getD_cons_succ, Region.binds, and_true, true_and] at hd)
              simp only [putL, putF, Act.put]
              (try simp only [hd])
              clear hd
              have hj := HJ2.out W hS.a (HN3.out W hS.w)
              go_wp2_with (go_at_call 21; refine hj.mono ?_; rintro e w2 ⟨P, rfl, hP, hb2⟩)
              exact ⟨rfl, ⟨P, rfl, hP⟩, rfl, belB⟩
            rotate_left 4
            · (try simp only [DepsL, DL, IsV, List.getD_cons_zero, List.getD_cons_succ, Region.binds, and_true, true_and] at hd)
              have h6 : PtrT T1 (vals 6) W := by (first | exact hd.2.1 | exact hd.2.1.1 | exact hd.1)
              have h0 : vals 0 = .pointer (some ⟨bb, 0, none⟩) := hd.1
              have h10 : vals 10 = .pointer R2 := by (first | exact hd.2.2.1 | exact hd.2.2 | exact hd.2.2.2)
              obtain ⟨P, e6, hP⟩ := h6
              simp only [putL, putF, Act.put]
              simp only [h0, e6, h10]
              clear hd h0 e6 h10
              have hj := HW2.out W P hS.b hP (HN4.out W hS.w)
              go_wp2_with (go_at_call 33; refine hj.mono ?_; rintro e w2 ⟨P2, rfl, hP2, hb2⟩)
              exact ⟨rfl, ⟨P2, rfl, hP2⟩, rfl, belB⟩
            all_goals
              (try simp only [DepsL, DL, IsV, List.getD_cons_zero, List.getD_cons_succ, Region.binds, and_true, true_and] at hd)
              simp only [putL, putF, Act.put]
              (try simp only [hd])
              clear hd
              have y1 := cell_keep hS.w D6.out
              have y2 := cell_keep hS.w D7.out
              go_wp2
              exact ⟨rfl, rfl, rfl, belB⟩
          · intro vals w9 hS9 hD
            obtain ⟨P, e11, hP⟩ : PtrT T2 (vals 11) w9 := hD 11 (by omega)
            simp only [putL, putF, Act.put]
            simp only [e11]
            clear hD e11
            have hb9 := hS9.w
            go_wp2
            go_ret
            exact ⟨P, rfl, hP, hb9⟩
end Go.Proofs.YtcjeddichookmaaGreatDoor
namespace Go.Proofs.YtcjeddichookmaaGreatDoor
open Go.RowKit Go.Sort
set_option linter.unusedVariables false
set_option linter.unusedSimpArgs false
set_option maxRecDepth 100000
abbrev splT (k : ByteArray) (t : ITr) : ITr × ITr := Tr.split It.k ltB k t
theorem split_sub (k : ByteArray) : ∀ t : ITr, (∀ x ∈ Tr.toL (splT k t).1, x ∈ Tr.toL t) ∧ (∀ x ∈ Tr.toL (splT k t).2, x ∈ Tr.toL t) ∧ Tr.len (splT k t).1 + Tr.len (splT k t).2 = Tr.len t
  | .nil => ⟨fun _ h => h, fun _ h => h, rfl⟩
  | .node p x l r => by
    obtain ⟨l1, l2, l3⟩ := split_sub k l
    obtain ⟨r1, r2, r3⟩ := split_sub k r
    unfold splT at *
    rw [Tr.split]
    split
    · refine ⟨fun y hy => ?_, fun y hy => ?_, ?_⟩
      · simp only [Tr.toL, List.mem_append, List.mem_cons] at hy ⊢
        rcases hy with h | h | h
        · exact .inl h
        · exact .inr (.inl h)
        · exact .inr (.inr (r1 y h))
      · simp only [Tr.toL, List.mem_append, List.mem_cons] at hy ⊢
        exact .inr (.inr (r2 y hy))
      · simp only [Tr.len]; omega
    · refine ⟨fun y hy => ?_, fun y hy => ?_, ?_⟩
      · simp only [Tr.toL, List.mem_append, List.mem_cons] at hy ⊢
        exact .inl (l1 y hy)
      · simp only [Tr.toL, List.mem_append, List.mem_cons] at hy ⊢
        rcases hy with h | h | h
        · exact .inl (l2 y h)
        · exact .inr (.inl h)
        · exact .inr (.inr h)
      · simp only [Tr.len]; omega
theorem split_ok (k : ByteArray) {t : ITr} (h : TrOk t) : TrOk (splT k t).1 ∧ TrOk (splT k t).2 := by
  obtain ⟨h1, h2, h3⟩ := split_sub k t
  have := h.len
  exact ⟨⟨by omega, fun x hx => h.z x (h1 x hx)⟩, ⟨by omega, fun x hx => h.z x (h2 x hx)⟩⟩
def TrP2 (a b : ITr) (w : World) (e : Ending) (w' : World) : Prop := ∃ B C, e = .returned (.tuple #[.pointer B, .pointer C]) ∧ NodeAt w' a B ∧ NodeAt w' b C ∧ Below w.heap.size w w'
set_option maxHeartbeats 4000000 in
theorem treeSplit_any (k : ByteArray) (t : ITr) : ∀ (A : Option Addr) (w : World), NodeAt w t A → TrOk t → Calls Tryz.prog 19 #[.pointer A, .string k] w (TrP2 (splT k t).1 (splT k t).2 w) := by
  induction t with
  | nil =>
    intro A w hA _
    cases (show A = none from hA)
    go_enter Tryz.func19, Tryz.ntmps19
    go_wp2
    go_ret2
    exact ⟨none, none, rfl, rfl, rfl, belB⟩
  | node p x l r il ir =>
    intro A w hA ho
    obtain ⟨b, L, R, rfl, hl, hr2, hp, hr, c0, c1, c6, c7⟩ := hA.facts
    unfold splT at *
    rw [Tr.split]
    have hs1 := split_ok k ho.left
    have hs2 := split_ok k ho.right
    unfold splT at hs1 hs2
    cases hlt : ltB x.k k
    · have hj := il L w hl ho.left
      have hw1 := fun (W : World) (hb : Below w.heap.size w W) (P : Option Addr) (h : NodeAt W (Tr.split It.k ltB k l).2 P) => nodeWith_any p x l r (Tr.split It.k ltB k l).2 r _ P R W (NodeAt.keep hb hA) h (NodeAt.keep hb hr2) ho hs1.2 ho.right
      have HJ := Lib.hid hj; have HW := Lib.hid hw1
      rw [if_neg (by decide)]
      rw [← less_ltB] at hlt
      clear hj hw1 il ir hA hl hr2 hr ho hs1 hs2 hp
      generalize (Tr.split It.k ltB k l).1 = T1 at *
      generalize (Tr.split It.k ltB k l).2 = T2 at *
      go_enter Tryz.func19, Tryz.ntmps19
      go_wp2_with (first | (go_at_call 19; refine HJ.out.mono ?_; rintro e w2 ⟨P, Q, rfl, hP, hQ, hb2⟩; have y7 := cell_keep hb2 c7) | (go_at_call 33; refine (HW.out _ hb2 _ hQ).mono ?_; rintro e w3 ⟨P3, rfl, hP3, hb3⟩))
      go_ret2
      exact ⟨P, P3, rfl, NodeAt.keep hb3 hP, hP3, belB⟩
    · have hj := ir R w hr2 ho.right
      have hw1 := fun (W : World) (hb : Below w.heap.size w W) (P : Option Addr) (h : NodeAt W (Tr.split It.k ltB k r).1 P) => nodeWith_any p x l r l (Tr.split It.k ltB k r).1 _ L P W (NodeAt.keep hb hA) (NodeAt.keep hb hl) h ho ho.left hs2.1
      have HJ := Lib.hid hj; have HW := Lib.hid hw1
      rw [if_pos rfl]
      rw [← less_ltB] at hlt
      clear hj hw1 il ir hA hl hr2 hr ho hs1 hs2 hp
      generalize (Tr.split It.k ltB k r).1 = T1 at *
      generalize (Tr.split It.k ltB k r).2 = T2 at *
      go_enter Tryz.func19, Tryz.ntmps19
      go_wp2_with (first | (go_at_call 19; refine HJ.out.mono ?_; rintro e w2 ⟨P, Q, rfl, hP, hQ, hb2⟩; have y6 := cell_keep hb2 c6) | (go_at_call 33; refine (HW.out _ hb2 _ hP).mono ?_; rintro e w3 ⟨P3, rfl, hP3, hb3⟩))
      go_ret2
      exact ⟨P3, Q, rfl, hP3, NodeAt.keep hb3 hQ, belB⟩
end Go.Proofs.YtcjeddichookmaaGreatDoor
namespace Go.Proofs.YtcjeddichookmaaGreatDoor
open Go.RowKit Go.Sort
set_option linter.unusedVariables false
set_option linter.unusedSimpArgs false
set_option maxRecDepth 100000
abbrev findT (k : ByteArray) (t : ITr) : Option It := Tr.find It.k ltB k t
def cntOf (v : Value) (w : World) : Nat := match v with
  | .pointer (some a) => match w.cell? ⟨a.block, 8, none⟩ with
    | some (.int _ n) => n.toNat
    | _ => 0
  | _ => 0
theorem cnt_eq {w : World} {t : ITr} {P : Option Addr} (h : NodeAt w t P) : cntOf (.pointer P) w = Tr.len t := by
  cases t with
  | nil => cases (show P = none from h); rfl
  | node p x l r =>
    obtain ⟨b, L, R, rfl, hp, hr, _, _⟩ := h
    unfold cntOf
    dsimp only
    rw [hr.cell (k := 8) rfl]
    simp
def FindAt (o : Option It) (P : Option Addr) (W : World) : Prop := match o with
  | none => P = none
  | some x => ∃ p l r, NodeAt W (.node p x l r) P
set_option maxHeartbeats 4000000 in
theorem treeFind_any (k : ByteArray) (t : ITr) (A : Option Addr) (w : World) (hA : NodeAt w t A) : Calls Tryz.prog 16 #[.pointer A, .string k] w (fun e w' => ∃ P, e = .returned (.pointer P) ∧ FindAt (findT k t) P w' ∧ Below w.heap.size w w') := by
  have HA := Lib.hid hA
  clear hA
  go_enter Tryz.func16, Tryz.ntmps16
  go_wp2
  go_loopw [0] (fun v wr => ∃ (P : Option Addr) (t' : ITr), v = .pointer P ∧ Hid (NodeAt wr t' P ∧ findT k t = findT k t') ∧ Below w.heap.size w wr) (fun v wr => cntOf v wr)
  case atStart => exact ⟨A, t, rfl, Lib.hid ⟨HA.out, rfl⟩, Below.refl _ _⟩
  case round =>
    obtain ⟨P, t', rfl, HN, hb⟩ := hrel
    obtain ⟨hn, hf⟩ := HN.out
    cases t' with
    | nil =>
      cases (show P = none from hn)
      have hv : findT k t = none := hf
      have HV := Lib.hid hv
      clear hf hv hn HN
      go_wp2
      go_ret
      rw [HV.out]
      exact ⟨none, rfl, rfl, belB⟩
    | node p x l r =>
      have hcn := cnt_eq hn
      obtain ⟨b, L, R, rfl, hl, hr2, hp, hr, c0, c1, c6, c7⟩ := hn.facts
      by_cases he : x.k = k
      · have hv : findT k t = some x := by rw [hf]; simp [findT, Tr.find, he]
        have HV := Lib.hid hv; have HNN := Lib.hid hn
        have hq : (x.k.toList == k.toList) = true := by rw [he]; simp
        have hq2 : x.k.toList = k.toList := by rw [he]
        clear hf hv hn HN hl hr2 hp hr c0 c6 c7 he hcn
        go_wp2
        go_ret
        rw [HV.out]
        exact ⟨_, rfl, ⟨p, l, r, HNN.out⟩, belB⟩
      · have hq : (x.k.toList == k.toList) = false := by rw [beq_dec]; simpa using he
        have hq2 : ¬ x.k.toList = k.toList := by simpa using hq
        cases hlt : ltB k x.k
        · have hv : findT k t = findT k r := by rw [hf]; simp [findT, Tr.find, he, hlt]
          have hc2 := cnt_eq hr2
          have hdec : cntOf (.pointer R) wr < cntOf (.pointer (some ⟨b, 0, none⟩)) wr := by rw [hcn, hc2]; simp only [Tr.len]; omega
          have HV := Lib.hid (show NodeAt wr r R ∧ findT k t = findT k r from ⟨hr2, hv⟩); have HD := Lib.hid hdec
          rw [← less_ltB] at hlt
          clear hf hv hn HN hl hr2 hp hr c0 he hcn hc2 hdec
          go_wp2
          exact ⟨⟨R, r, rfl, HV, hb⟩, HD.out⟩
        · have hv : findT k t = findT k l := by rw [hf]; simp [findT, Tr.find, he, hlt]
          have hc2 := cnt_eq hl
          have hdec : cntOf (.pointer L) wr < cntOf (.pointer (some ⟨b, 0, none⟩)) wr := by rw [hcn, hc2]; simp only [Tr.len]; omega
          have HV := Lib.hid (show NodeAt wr l L ∧ findT k t = findT k l from ⟨hl, hv⟩); have HD := Lib.hid hdec
          rw [← less_ltB] at hlt
          clear hf hv hn HN hl hr2 hp hr c0 he hcn hc2 hdec
          go_wp2
          exact ⟨⟨L, l, rfl, HV, hb⟩, HD.out⟩
end Go.Proofs.YtcjeddichookmaaGreatDoor
namespace Go.Proofs.YtcjeddichookmaaGreatDoor
open Go.RowKit Go.Sort
set_option linter.unusedVariables false
set_option linter.unusedSimpArgs false
set_option maxRecDepth 100000
theorem begin_strV : StrV [] (.agg (strLH Sha.st0 (List.replicate 64 0) 0).toArray) :=
  ⟨Sha.st0, List.replicate 64 0, rfl, Sha.str0 _ (by simp), fun x hx => by have := (List.mem_replicate.1 hx).2; omega⟩
theorem begin_cells : ((((((((Tryz.zeroCells104.setIfInBounds 0 (.int .u32 1779033703)).setIfInBounds 1 (.int .u32 3144134277)).setIfInBounds 2 (.int .u32 1013904242)).setIfInBounds 3 (.int .u32 2773480762)).setIfInBounds 4 (.int .u32 1359893119)).setIfInBounds 5 (.int .u32 2600822924)).setIfInBounds 6 (.int .u32 528734635)).setIfInBounds 7 (.int .u32 1541459225)) = (strLH Sha.st0 (List.replicate 64 0) 0).toArray := by kernel_rfl
theorem begin_size : (Tryz.prog.info? 104).map (·.size) = some (strLH Sha.st0 (List.replicate 64 0) 0).toArray.size := by kernel_rfl
theorem begin_all : (strLH Sha.st0 (List.replicate 64 0) 0).toArray.all (·.oneCell') = true := by kernel_rfl
theorem zero_size : Tryz.zeroCells104.size = (strLH Sha.st0 (List.replicate 64 0) 0).toArray.size := by kernel_rfl
set_option maxHeartbeats 4000000 in
theorem begin_any (w : World) : Calls Tryz.prog 55 #[] w (fun e w' => (∃ v, e = .returned v ∧ StrV [] v) ∧ Below w.heap.size w w') := by
  have hc := begin_cells
  have hi := begin_size
  have h1 := begin_all
  have hz := zero_size
  have hv := begin_strV
  generalize (strLH Sha.st0 (List.replicate 64 0) 0).toArray = X at *
  have HC := Lib.hid hc; have HI := Lib.hid hi; have H1 := Lib.hid h1; have HZ := Lib.hid hz; have HV := Lib.hid hv
  clear hc hi h1 hz hv
  go_enter Tryz.func55, Tryz.ntmps55
  go_wp2_with (refine wpList_store_row rfl _ _ _ rfl w.heap.size X rfl (congrArg Value.agg HC.out) _ _ (heap_alloc_new w _) HI.out HZ.out H1.out ?_)
  refine bodyPost_ret (v := .agg X) ?_ rfl ⟨⟨_, rfl, HV.out⟩, ?_⟩
  · exact results_cell_row rfl _ _ w.heap.size _ _ (0, 0) _ rfl (setRow_heap _ _ _ _ _ _ (heap_alloc_new w _)) Tryz.underlying104 rfl HI.out
  · exact below_setRow (balloc (Below.refl _ _) _) (Nat.le_refl _) _
end Go.Proofs.YtcjeddichookmaaGreatDoor
namespace Go.Proofs.YtcjeddichookmaaGreatDoor
open Go.RowKit Go.Sort
set_option linter.unusedVariables false
set_option linter.unusedSimpArgs false
set_option maxRecDepth 100000
def StrR (w : World) (g : Nat) (m : List Nat) : Prop := ∃ X, StrV m (.agg X) ∧ w.heap[g]? = some (.cells X 104 (0, 0)) ∧ X.size = 73
theorem StrR.lt {w : World} {g : Nat} {m : List Nat} (h : StrR w g m) : g < w.heap.size := by
  obtain ⟨X, _, h, _⟩ := h
  rcases Nat.lt_or_ge g w.heap.size with hl | hl
  · exact hl
  · rw [Array.getElem?_eq_none hl] at h; cases h
theorem StrR.keep {w w' : World} {g : Nat} {m : List Nat} (h : StrR w g m) (hb : Below w.heap.size w w') : StrR w' g m := by
  have hl := h.lt
  obtain ⟨X, hv, h, hs⟩ := h
  exact ⟨X, hv, (hb.block g hl).trans h, hs⟩
theorem strV_agg {m : List Nat} {v : Value} (h : StrV m v) : ∃ X, v = .agg X ∧ X.size = 73 ∧ X.all (·.oneCell') = true := by
  obtain ⟨st, blk, rfl, hst, _⟩ := h
  exact ⟨_, rfl, by rw [List.size_toArray, strLH_len hst.len], by rw [List.all_toArray, List.all_eq_true]; exact strL_one⟩
theorem inf73 : (Tryz.prog.info? 104).map (·.size) = some 73 := by kernel_rfl
theorem zero73s : Tryz.zeroCells104.size = 73 := by kernel_rfl
def D1 (tag B : Nat) (j : Nat) (v : Value) (w : World) : Prop :=
  match j with
  | 0 => StrV [] v
  | 1 => v = .int .i64 (tag : Int)
  | 2 => v = .int .u8 (tag : Int)
  | 3 => ∃ b, v = .slice (some ⟨b, 0, none⟩) 1 1 ∧ w.cell? ⟨b, 0, none⟩ = some (.int .u8 (tag : Int))
  | 4 => v = .string (toN [tag])
  | 5 => StrV [tag] v
  | 6 => ∃ g, v = .pointer (some ⟨g, 0, none⟩) ∧ B ≤ g ∧ w.heap[g]? = some (.cells Tryz.zeroCells104 104 (0, 0))
  | _ => True
theorem heap_keep {w w' : World} {g : Nat} {o : Obj} (h : w.heap[g]? = some o) (hb : Below w.heap.size w w') : w'.heap[g]? = some o := by
  refine (hb.block g ?_).trans h
  rcases Nat.lt_or_ge g w.heap.size with hl | hl
  · exact hl
  · rw [Array.getElem?_eq_none hl] at h; cases h
theorem D1.keep {tag B : Nat} (j : Nat) (v : Value) (w w' : World) (h : D1 tag B j v w) (hb : Below w.heap.size w w') : D1 tag B j v w' := by
  unfold D1 at h
  split at h
  all_goals first
    | exact h
    | (obtain ⟨b, e, hc⟩ := h; exact ⟨b, e, cell_keep hb hc⟩)
    | (obtain ⟨g, e, hg, hx⟩ := h; exact ⟨g, e, hg, heap_keep hx hb⟩)
    | (unfold D1; split <;> first | trivial | (exfalso; simp_all; done))
def D2 (m : List Nat) (x : ByteArray) (j : Nat) (v : Value) (w : World) : Prop :=
  match j with
  | 0 => StrV m v
  | 1 => v = .string x
  | 2 => ∃ A c, v = .slice A (Sha.wireB (nb x)).length c ∧ Reads w 1 A (Sha.wireB (nb x)).length (b8 (Sha.wireB (nb x)))
  | 3 => v = .string (toN (Sha.wireB (nb x)))
  | 4 => StrV (m ++ Sha.wireB (nb x)) v
  | _ => True
theorem D2.keep {m : List Nat} {x : ByteArray} (j : Nat) (v : Value) (w w' : World) (h : D2 m x j v w) (hb : Below w.heap.size w w') : D2 m x j v w' := by
  unfold D2 at h
  split at h
  all_goals first
    | exact h
    | (obtain ⟨A, c, e, hR⟩ := h; exact ⟨A, c, e, hR.keep hb⟩)
    | (unfold D2; split <;> first | trivial | (exfalso; simp_all; done))
theorem wireB_len (s : ByteArray) : 0 < (Sha.wireB (nb s)).length ∧ (Sha.wireB (nb s)).length ≤ 11 + s.size := by
  unfold Sha.wireB
  rw [List.length_append, nb_len]
  have := Sha.vint_len (2 * s.size)
  refine ⟨?_, by omega⟩
  have : 0 < (Sha.vint (2 * s.size)).length := by
    unfold Sha.vint Sha.vintF
    split <;> simp
  omega
def heard (tag : Nat) (ps : List ByteArray) (k : Nat) : List Nat := Sha.input tag ((ps.take k).map nb)
theorem heard_zero (tag : Nat) (ps : List ByteArray) : heard tag ps 0 = [tag] := rfl
theorem heard_succ (tag : Nat) {ps : List ByteArray} {k : Nat} {x : ByteArray} (hx : ps[k]? = some x) : heard tag ps (k + 1) = heard tag ps k ++ Sha.wireB (nb x) := by
  unfold heard Sha.input
  rw [List.take_add_one, hx]
  simp
theorem heard_len (tag : Nat) (ps : List ByteArray) (hs : ∀ s ∈ ps, s.size ≤ 1000000) : ∀ k, k ≤ ps.length → (heard tag ps k).length ≤ 1 + k * 1000011
  | 0, _ => by rw [heard_zero]; simp
  | k + 1, hk => by
    have hx : ps[k]? = some ps[k] := List.getElem?_eq_getElem (by omega)
    have h1 := heard_len tag ps hs k (by omega)
    have h2 := hs _ (List.getElem_mem (show k < ps.length by omega))
    have h3 := (wireB_len ps[k]).2
    rw [heard_succ tag hx, List.length_append, Nat.add_mul]
    omega
theorem heard_all (tag : Nat) (ps : List ByteArray) : heard tag ps ps.length = Sha.input tag (ps.map nb) := by
  unfold heard
  rw [List.take_of_length_le (Nat.le_refl _)]
end Go.Proofs.YtcjeddichookmaaGreatDoor
namespace Go.Proofs.YtcjeddichookmaaGreatDoor
open Go.RowKit Go.Sort
set_option linter.unusedVariables false
set_option linter.unusedSimpArgs false
set_option maxRecDepth 100000
theorem infoItem : (Tryz.prog.info? 34).map (fun i => (i.zero, i.size, i.bytes)) = some (some (.agg #[.string ⟨#[]⟩, .string ⟨#[]⟩, .int .i64 0, .int .i64 0]), 4, 48) := by kernel_rfl
theorem ItsRead.cells {w : World} {A : Option Addr} {n k : Nat} {L : List It} {x : It} (h : ItsRead w A n L) (hk : L[k]? = some x) :
    ∃ b o, A = some ⟨b, o, none⟩ ∧ w.cell? ⟨b, o + k * 4, none⟩ = some (.string x.k) ∧ w.cell? ⟨b, o + k * 4 + 1, none⟩ = some (.string x.t) ∧ w.cell? ⟨b, o + k * 4 + 2, none⟩ = some (.int .i64 x.z) ∧ w.cell? ⟨b, o + k * 4 + 3, none⟩ = some (.int .i64 x.r) := by
  obtain ⟨b, o, e, hc⟩ := h.at_ hk
  exact ⟨b, o, e, hc 0 _ rfl, hc 1 _ rfl, hc 2 _ rfl, hc 3 _ rfl⟩
theorem ItsRead.cells_at {w : World} {b o n k : Nat} {L : List It} {x : It} (h : ItsRead w (some ⟨b, o, none⟩) n L) (hk : L[k]? = some x) :
    w.cell? ⟨b, o + k * 4, none⟩ = some (.string x.k) ∧ w.cell? ⟨b, o + k * 4 + 1, none⟩ = some (.string x.t) ∧ w.cell? ⟨b, o + k * 4 + 2, none⟩ = some (.int .i64 x.z) ∧ w.cell? ⟨b, o + k * 4 + 3, none⟩ = some (.int .i64 x.r) := by
  obtain ⟨b', o', e, h0, h1, h2, h3⟩ := h.cells hk
  injection e with e
  injection e with e1 e2 _
  subst e1; subst e2
  exact ⟨h0, h1, h2, h3⟩
theorem take_at {L : List It} {k : Nat} {x : It} (hx : L[k]? = some x) : L.take (k + 1) = L.take k ++ [x] := by rw [List.take_add_one, hx]; rfl
theorem size_snoc (l : List It) (x : It) : ixSize (l ++ [x]) = ixSize l + x.z := by
  unfold ixSize
  rw [List.map_append, List.foldr_append]
  have key : ∀ (a : List Int) (c : Int), a.foldr (· + ·) c = a.foldr (· + ·) 0 + c := by
    intro a c
    induction a with
    | nil => simp
    | cons y a ih => rw [List.foldr_cons, List.foldr_cons, ih]; omega
  rw [key]
  simp
theorem size_bound : ∀ (l : List It), (∀ x ∈ l, 0 ≤ x.z ∧ x.z ≤ 1099511627776) → 0 ≤ ixSize l ∧ ixSize l ≤ (l.length : Int) * 1099511627776
  | [], _ => by simp [ixSize]
  | x :: l, h => by
    have h1 := size_bound l (fun y hy => h y (by simp [hy]))
    have h2 := h x (by simp)
    have e : ixSize (x :: l) = x.z + ixSize l := rfl
    rw [e, List.length_cons]
    push_cast
    omega
def ItsPost (L : List It) (w : World) (e : Ending) (w' : World) : Prop := ∃ A c, e = .returned (.slice A L.length c) ∧ ItsRead w' A L.length L ∧ Below w.heap.size w w'
theorem its_own {w : World} {base c : Nat} {A : Option Addr} {L : List It} {m : Nat} (h : w.ownsRow base 34 4 (.slice A m c) m (itsC L)) (hl : L.length = m) : ItsRead w A m L := ⟨hl, Reads.of_own h⟩
def takeI (q : Int) (l : List It) : List It := l.take q.toNat
theorem takeI_yes {q : Int} {F : List It} (x : It) (h : (((takeI q F).length : Nat) : Int) < q) : takeI q (F ++ [x]) = takeI q F ++ [x] := by
  unfold takeI at *
  rw [List.length_take] at h
  rw [List.take_of_length_le (by rw [List.length_append, List.length_singleton]; omega), List.take_of_length_le (l := F) (by omega)]
end Go.Proofs.YtcjeddichookmaaGreatDoor
