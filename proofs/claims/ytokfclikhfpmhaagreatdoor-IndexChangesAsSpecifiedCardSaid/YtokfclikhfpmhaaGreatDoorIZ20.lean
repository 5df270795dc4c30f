/- Two trees made one: join. -/
import Derived.Test.YtokfclikhfpmhaaGreatDoorIZ17
import Derived.Test.YtokfclikhfpmhaaGreatDoorProg
import Derived.WalkKit
import Derived.WalkSpells
import Derived.WalkLawsBesides
import Derived.Below
import Derived.Deep.QuietTactic
import Derived.BigQuiet
import Derived.Lib.QuietBelow
import Derived.Lib.Strings
import Derived.Lib.Hide
import Derived.Deep.RegionWith
import Derived.Deep.RegionHeld3
import Derived.Lib.IndexBytes
import Derived.Test.YtokfclikhfpmhaaGreatDoorIZ18
import Derived.Test.YtokfclikhfpmhaaGreatDoorIZ6
import Derived.Test.YtokfclikhfpmhaaGreatDoorIZ16
import Derived.Test.YtokfclikhfpmhaaGreatDoorIZ7
namespace Go.Proofs.YtokfclikhfpmhaaGreatDoor
open Go.RowKit Go.Sort
set_option linter.unusedVariables false
set_option linter.unusedSimpArgs false
set_option maxRecDepth 100000
theorem above_any (p q : Nat) (w : World) : Calls Tryz.prog 97 #[.agg #[.int .u64 (p : Int)], .agg #[.int .u64 (q : Int)]] w (Ret w (.bool (decide ((q : Int) ≤ (p : Int))))) := by
  go_enter Tryz.func97, Tryz.ntmps97
  go_wp2
  go_ret
  exact ⟨ret_bool (by simp), belB⟩
theorem TrOk.of {t : ITr} (h1 : (Tr.toL t).length ≤ 1000) (h2 : ∀ x ∈ Tr.toL t, 0 ≤ x.z ∧ x.z ≤ 1099511627776) : TrOk t := ⟨by rw [Tr.len_eq]; exact h1, h2⟩
theorem join_ok {a b : ITr} (ha : TrOk a) (hb : TrOk b) (hn : Tr.len a + Tr.len b ≤ 1000) : TrOk (Tr.join a b) := by
  refine .of ?_ ?_
  · rw [Tr.toL_join, List.length_append, ← Tr.len_eq, ← Tr.len_eq]; exact hn
  · intro x hx
    rw [Tr.toL_join] at hx
    exact (List.mem_append.1 hx).elim (ha.z x) (hb.z x)
def PtrT (t : ITr) (v : Value) (W : World) : Prop := ∃ P, v = .pointer P ∧ NodeAt W t P
theorem keeps_ptr (t : ITr) : Keeps (PtrT t) := fun v w w' ⟨P, e, h⟩ hb => ⟨P, e, NodeAt.keep hb h⟩
structure TwoT (w : World) (ta tb : ITr) (A B : Option Addr) (W : World) : Prop where
  a : NodeAt W ta A
  b : NodeAt W tb B
  w : Below w.heap.size w W
theorem TwoT.keep {w : World} {ta tb : ITr} {A B : Option Addr} {W W' : World} (h : TwoT w ta tb A B W) (hb : Below W.heap.size W W') : TwoT w ta tb A B W' := ⟨NodeAt.keep hb h.a, NodeAt.keep hb h.b, bstep h.w hb⟩
set_option maxHeartbeats 4000000 in
theorem treeJoin_any (N : Nat) : ∀ (ta tb : ITr) (A B : Option Addr) (w : World), Tr.len ta + Tr.len tb ≤ N → N ≤ 1000 → NodeAt w ta A → NodeAt w tb B → TrOk ta → TrOk tb → Calls Tryz.prog 62 #[.pointer A, .pointer B] w (TrP (Tr.join ta tb) w) := by
  induction N with
  | zero =>
    intro ta tb A B w hN _ hA hB _ _
    cases ta with
    | node p x l r => simp [Tr.len] at hN
    | nil =>
      cases tb with
      | node p x l r => simp [Tr.len] at hN
      | nil =>
        cases (show A = none from hA)
        cases (show B = none from hB)
        rw [Tr.join]
        go_enter Tryz.func62, Tryz.ntmps62
        go_wp2
        go_ret
        exact ⟨_, rfl, rfl, belB⟩
  | succ N ih =>
    intro ta tb A B w hN hN2 hA hB ha hb
    cases ta with
    | nil =>
      cases (show A = none from hA)
      have e : Tr.join (.nil : ITr) tb = tb := by cases tb <;> rw [Tr.join]
      rw [e]
      have HB := Lib.hid hB
      clear hB ih
      go_enter Tryz.func62, Tryz.ntmps62
      go_wp2
      go_ret
      exact ⟨_, rfl, HB.out, belB⟩
    | node p x l r =>
      cases tb with
      | nil =>
        cases (show B = none from hB)
        rw [Tr.join]
        obtain ⟨ab, L, R, rfl, _⟩ := hA.facts
        have HA := Lib.hid hA
        clear hA ih
        go_enter Tryz.func62, Tryz.ntmps62
        go_wp2
        go_ret
        exact ⟨_, rfl, HA.out, belB⟩
        intro h
        cases h
      | node q y m s =>
        obtain ⟨ab, L, R, rfl, hl, hr2, hp, hr, c0, c1, c6, c7⟩ := hA.facts
        obtain ⟨bb, L2, R2, rfl, hl2, hr22, hp2, hrb, d0, d1, d6, d7⟩ := hB.facts
        have hj1 := fun W hA' hB' => ih r (.node q y m s) R (some ⟨bb, 0, none⟩) W (by simp only [Tr.len] at hN ⊢; omega) (by omega) hA' hB' ha.right hb
        have hj2 := fun W hA' hB' => ih (.node p x l r) m (some ⟨ab, 0, none⟩) L2 W (by simp only [Tr.len] at hN ⊢; omega) (by omega) hA' hB' ha hb.left
        have ho1 : TrOk (Tr.join r (.node q y m s)) := join_ok ha.right hb (by simp only [Tr.len] at hN ⊢; omega)
        have ho2 : TrOk (Tr.join (.node p x l r) m) := join_ok ha hb.left (by simp only [Tr.len] at hN ⊢; omega)
        have hw1 := fun (W : World) (P : Option Addr) (h1 : NodeAt W (.node p x l r) (some ⟨ab, 0, none⟩)) (h2 : NodeAt W l L) (h3 : NodeAt W (Tr.join r (.node q y m s)) P) => nodeWith_any p x l r l (Tr.join r (.node q y m s)) _ L P W h1 h2 h3 ha ha.left ho1
        have hw2 := fun (W : World) (P : Option Addr) (h1 : NodeAt W (.node q y m s) (some ⟨bb, 0, none⟩)) (h2 : NodeAt W (Tr.join (.node p x l r) m) P) (h3 : NodeAt W s R2) => nodeWith_any q y m s (Tr.join (.node p x l r) m) s _ P R2 W h1 h2 h3 hb ho2 hb.right
        rw [Tr.join]
        have hab := fun W => above_any p q W
        have hS := fun (W : World) (hb' : Below w.heap.size w W) => (show TwoT w (.node p x l r) (.node q y m s) (some ⟨ab, 0, none⟩) (some ⟨bb, 0, none⟩) W from ⟨NodeAt.keep hb' hA, NodeAt.keep hb' hB, hb'⟩)
        have hn1 := fun (W : World) (hb' : Below w.heap.size w W) => NodeAt.keep hb' hl
        have hn2 := fun (W : World) (hb' : Below w.heap.size w W) => NodeAt.keep hb' hr2
        have hn3 := fun (W : World) (hb' : Below w.heap.size w W) => NodeAt.keep hb' hl2
        have hn4 := fun (W : World) (hb' : Below w.heap.size w W) => NodeAt.keep hb' hr22
        have HS := Lib.hid hS; have HJ1 := Lib.hid hj1; have HJ2 := Lib.hid hj2; have HW1 := Lib.hid hw1; have HW2 := Lib.hid hw2
        have HN1 := Lib.hid hn1; have HN2 := Lib.hid hn2; have HN3 := Lib.hid hn3; have HN4 := Lib.hid hn4
        have C6 := Lib.hid c6; have C7 := Lib.hid c7; have D6 := Lib.hid d6; have D7 := Lib.hid d7
        clear hA hB hj1 hj2 hw1 hw2 ih hl hr2 hr hl2 hr22 hrb ho1 ho2 ha hb c1 d1 hN hN2 hp hp2 hS c6 c7 d6 d7 hn1 hn2 hn3 hn4
        have k1 := cell_regrown c0; have k2 := cell_regrown d0
        by_cases hqp : q ≤ p
        · rw [if_pos hqp]
          rw [decide_eq_true (show (q : Int) ≤ (p : Int) by omega)] at hab
          have HAB := Lib.hid hab
          clear hab hqp HJ2 HW2 HN3 HN4 D6 D7
          generalize Tr.join r (.node q y m s) = T1 at *
          generalize Tr.Tree.node p x l T1 = T2 at *
          go_enter Tryz.func62, Tryz.ntmps62
          go_upto_region 5 with fail
          refine wp_region_quiet_below (by kernel_rfl) (by kernel_rfl) ?_; (repeat (any_goals (first | go_big_quiet_step ((first | exact qcalls HAB.out _ _)) | quiet_step ((first | exact qcalls HAB.out _ _))))); refine wpQuiet_nil ?_; intro _ hwq; obtain ⟨⟨dq, osq⟩, hwq⟩ := hwq; subst hwq; have hbq := below_regrown (w) dq osq; generalize grow (redrawn (w) dq) osq = wq at *
          clear k1 k2 c0 d0
          go_upto_region 6 with fail
          refine wp_detD 12 (by kernel_rfl) (by kernel_rfl) (by kernel_rfl) (DL [IsV (.pointer (some ⟨ab, 0, none⟩)), IsV (.pointer (some ⟨ab, 0, none⟩)), IsV (.pointer (some ⟨ab, 0, none⟩)), IsV (.pointer (some ⟨ab, 6, none⟩)), IsV (.pointer L), IsV (.pointer (some ⟨ab, 0, none⟩)), IsV (.pointer (some ⟨ab, 0, none⟩)), IsV (.pointer (some ⟨ab, 7, none⟩)), IsV (.pointer R), IsV (.pointer (some ⟨bb, 0, none⟩)), PtrT T1, PtrT T2]) (DL.keep _ (by simp only [KeepAll]; repeat' (first | apply And.intro | exact keeps_is _ | exact keeps_ptr _ | exact trivial))) (TwoT w _ _ (some ⟨ab, 0, none⟩) (some ⟨bb, 0, none⟩)) ((HS.out _ hbq).keep (Below.drew (Below.refl _ _))) (fun _ _ h hb => h.keep hb) ?_ ?_
          · dsimp only [List.take_succ_cons, List.take_zero, DetD]
            refine ⟨fun vals W hS hd => ?_, fun vals W hS hd => ?_, fun vals W hS hd => ?_, fun vals W hS hd => ?_, fun vals W hS hd => ?_, fun vals W hS hd => ?_, fun vals W hS hd => ?_, fun vals W hS hd => ?_, fun vals W hS hd => ?_, fun vals W hS hd => ?_, fun vals W hS hd => ?_, fun vals W hS hd => ?_, trivial⟩
            rotate_left 10
            · (try simp only [DepsL, DL, IsV, List.getD_cons_zero, List.getD_cons_succ, Region.binds, and_true, true_and] at hd)
              simp only [putL, putF, Act.put]
              (try simp only [hd])
              clear hd
              have hj := HJ1.out W (HN2.out W hS.w) hS.b
              go_wp2_with (go_at_call 62; refine hj.mono ?_; rintro e w2 ⟨P, rfl, hP, hb2⟩)
              exact ⟨rfl, ⟨P, rfl, hP⟩, rfl, belB⟩
            · (try simp only [DepsL, DL, IsV, List.getD_cons_zero, List.getD_cons_succ, Region.binds, and_true, true_and] at hd)
              obtain ⟨e0, e4, ⟨P, e10, hP⟩, _⟩ := hd
              simp only [putL, putF, Act.put]
              simp only [e0, e4, e10]
              clear e0 e4 e10
              have hj := HW1.out W P hS.a (HN1.out W hS.w) hP
              go_wp2_with (go_at_call 95; refine hj.mono ?_; rintro e w2 ⟨P2, rfl, hP2, hb2⟩)
              exact ⟨rfl, ⟨P2, rfl, hP2⟩, rfl, belB⟩
            all_goals
              (try simp only [DepsL, DL, IsV, List.getD_cons_zero, List.getD_cons_succ, Region.binds, and_true, true_and] at hd)
              simp only [putL, putF, Act.put]
              (try simp only [hd])
              clear hd
              have y1 := cell_keep hS.w C6.out
              have y2 := cell_keep hS.w C7.out
              go_wp2
              exact ⟨rfl, rfl, rfl, belB⟩
          · intro vals w9 hS9 hD
            obtain ⟨P, e11, hP⟩ : PtrT T2 (vals 11) w9 := hD 11 (by omega)
            simp only [putL, putF, Act.put]
            simp only [e11]
            clear hD e11
            have hb9 := hS9.w
            go_wp2
            go_ret
            exact ⟨P, rfl, hP, hb9⟩
        · rw [if_neg hqp]
          rw [decide_eq_false (show ¬ (q : Int) ≤ (p : Int) by omega)] at hab
          have HAB := Lib.hid hab
          clear hab hqp HJ1 HW1 HN1 HN2 C6 C7
          generalize Tr.join (.node p x l r) m = T1 at *
          generalize Tr.Tree.node q y T1 s = T2 at *
          go_enter Tryz.func62, Tryz.ntmps62
          go_upto_region 5 with fail
          refine wp_region_quiet_below (by kernel_rfl) (by kernel_rfl) ?_; (repeat (any_goals (first | go_big_quiet_step ((first | exact qcalls HAB.out _ _)) | quiet_step ((first | exact qcalls HAB.out _ _))))); refine wpQuiet_nil ?_; intro _ hwq; obtain ⟨⟨dq, osq⟩, hwq⟩ := hwq; subst hwq; have hbq := below_regrown (w) dq osq; generalize grow (redrawn (w) dq) osq = wq at *
          clear k1 k2 c0 d0
          go_upto_region 7 with fail
          refine wp_detD 12 (by kernel_rfl) (by kernel_rfl) (by kernel_rfl) (DL [IsV (.pointer (some ⟨bb, 0, none⟩)), IsV (.pointer (some ⟨ab, 0, none⟩)), IsV (.pointer (some ⟨bb, 0, none⟩)), IsV (.pointer (some ⟨bb, 0, none⟩)), IsV (.pointer (some ⟨bb, 6, none⟩)), IsV (.pointer L2), PtrT T1, IsV (.pointer (some ⟨bb, 0, none⟩)), IsV (.pointer (some ⟨bb, 0, none⟩)), IsV (.pointer (some ⟨bb, 7, none⟩)), IsV (.pointer R2), PtrT T2]) (DL.keep _ (by simp only [KeepAll]; repeat' (first | apply And.intro | exact keeps_is _ | exact keeps_ptr _ | exact trivial))) (TwoT w _ _ (some ⟨ab, 0, none⟩) (some ⟨bb, 0, none⟩)) ((HS.out _ hbq).keep (Below.drew (Below.refl _ _))) (fun _ _ h hb => h.keep hb) ?_ ?_
          · dsimp only [List.take_succ_cons, List.take_zero, DetD]
            refine ⟨fun vals W hS hd => ?_, fun vals W hS hd => ?_, fun vals W hS hd => ?_, fun vals W hS hd => ?_, fun vals W hS hd => ?_, fun vals W hS hd => ?_, fun vals W hS hd => ?_, fun vals W hS hd => ?_, fun vals W hS hd => ?_, fun vals W hS hd => ?_, fun vals W hS hd => ?_, fun vals W hS hd => ?_, trivial⟩
            rotate_left 6
            · (try simp only [DepsL, DL, IsV, List.getD_cons_zero, List.getD_cons_succ, Region.binds, and_true, true_and] at hd)
              simp only [putL, putF, Act.put]
              (try simp only [hd])
              clear hd
              have hj := HJ2.out W hS.a (HN3.out W hS.w)
              go_wp2_with (go_at_call 62; refine hj.mono ?_; rintro e w2 ⟨P, rfl, hP, hb2⟩)
              exact ⟨rfl, ⟨P, rfl, hP⟩, rfl, belB⟩
            rotate_left 4
            · (try simp only [DepsL, DL, IsV, List.getD_cons_zero, List.getD_cons_succ, Region.binds, and_true, true_and] at hd)
              have h6 : PtrT T1 (vals 6) W := by (first | exact hd.2.1 | exact hd.2.1.1 | exact hd.1)
              have h0 : vals 0 = .pointer (some ⟨bb, 0, none⟩) := hd.1
              have h10 : vals 10 = .pointer R2 := by (first | exact hd.2.2.1 | exact hd.2.2 | exact hd.2.2.2)
              obtain ⟨P, e6, hP⟩ := h6
              simp only [putL, putF, Act.put]
              simp only [h0, e6, h10]
              clear hd h0 e6 h10
              have hj := HW2.out W P hS.b hP (HN4.out W hS.w)
              go_wp2_with (go_at_call 95; refine hj.mono ?_; rintro e w2 ⟨P2, rfl, hP2, hb2⟩)
              exact ⟨rfl, ⟨P2, rfl, hP2⟩, rfl, belB⟩
            all_goals
              (try simp only [DepsL, DL, IsV, List.getD_cons_zero, List.getD_cons_succ, Region.binds, and_true, true_and] at hd)
              simp only [putL, putF, Act.put]
              (try simp only [hd])
              clear hd
              have y1 := cell_keep hS.w D6.out
              have y2 := cell_keep hS.w D7.out
              go_wp2
              exact ⟨rfl, rfl, rfl, belB⟩
          · intro vals w9 hS9 hD
            obtain ⟨P, e11, hP⟩ : PtrT T2 (vals 11) w9 := hD 11 (by omega)
            simp only [putL, putF, Act.put]
            simp only [e11]
            clear hD e11
            have hb9 := hS9.w
            go_wp2
            go_ret
            exact ⟨P, rfl, hP, hb9⟩
end Go.Proofs.YtokfclikhfpmhaaGreatDoor
namespace Go.Proofs.YtokfclikhfpmhaaGreatDoor
open Go.RowKit Go.Sort
set_option linter.unusedVariables false
set_option linter.unusedSimpArgs false
set_option maxRecDepth 100000
theorem begin_strV : StrV [] (.agg (strLH Sha.st0 (List.replicate 64 0) 0).toArray) :=
  ⟨Sha.st0, List.replicate 64 0, rfl, Sha.str0 _ (by simp), fun x hx => by have := (List.mem_replicate.1 hx).2; omega⟩
theorem begin_cells : ((((((((Tryz.zeroCells173.setIfInBounds 0 (.int .u32 1779033703)).setIfInBounds 1 (.int .u32 3144134277)).setIfInBounds 2 (.int .u32 1013904242)).setIfInBounds 3 (.int .u32 2773480762)).setIfInBounds 4 (.int .u32 1359893119)).setIfInBounds 5 (.int .u32 2600822924)).setIfInBounds 6 (.int .u32 528734635)).setIfInBounds 7 (.int .u32 1541459225)) = (strLH Sha.st0 (List.replicate 64 0) 0).toArray := by kernel_rfl
theorem begin_size : (Tryz.prog.info? 173).map (·.size) = some (strLH Sha.st0 (List.replicate 64 0) 0).toArray.size := by kernel_rfl
theorem begin_all : (strLH Sha.st0 (List.replicate 64 0) 0).toArray.all (·.oneCell') = true := by kernel_rfl
theorem zero_size : Tryz.zeroCells173.size = (strLH Sha.st0 (List.replicate 64 0) 0).toArray.size := by kernel_rfl
set_option maxHeartbeats 4000000 in
theorem begin_any (w : World) : Calls Tryz.prog 125 #[] w (fun e w' => (∃ v, e = .returned v ∧ StrV [] v) ∧ Below w.heap.size w w') := by
  have hc := begin_cells
  have hi := begin_size
  have h1 := begin_all
  have hz := zero_size
  have hv := begin_strV
  generalize (strLH Sha.st0 (List.replicate 64 0) 0).toArray = X at *
  have HC := Lib.hid hc; have HI := Lib.hid hi; have H1 := Lib.hid h1; have HZ := Lib.hid hz; have HV := Lib.hid hv
  clear hc hi h1 hz hv
  go_enter Tryz.func125, Tryz.ntmps125
  go_wp2_with (refine wpList_store_row rfl _ _ _ rfl w.heap.size X rfl (congrArg Value.agg HC.out) _ _ (heap_alloc_new w _) HI.out HZ.out H1.out ?_)
  refine bodyPost_ret (v := .agg X) ?_ rfl ⟨⟨_, rfl, HV.out⟩, ?_⟩
  · exact results_cell_row rfl _ _ w.heap.size _ _ (0, 0) _ rfl (setRow_heap _ _ _ _ _ _ (heap_alloc_new w _)) Tryz.underlying173 rfl HI.out
  · exact below_setRow (balloc (Below.refl _ _) _) (Nat.le_refl _) _
end Go.Proofs.YtokfclikhfpmhaaGreatDoor
namespace Go.Proofs.YtokfclikhfpmhaaGreatDoor
open Go.RowKit Go.Sort
set_option linter.unusedVariables false
set_option linter.unusedSimpArgs false
set_option maxRecDepth 100000
def PairBox (w : World) (g : Nat) (k v : ByteArray) : Prop := Blk w g 134 #[.string k, .string v] (0, 0)
theorem PairBox.facts {w : World} {g : Nat} {k v : ByteArray} (h : PairBox w g k v) : w.cell? ⟨g, 0, none⟩ = some (.string k) ∧ w.cell? ⟨g, 1, none⟩ = some (.string v) := ⟨Blk.cell h 0, Blk.cell h 1⟩
def OwnPost2 (ps : List BP) (w : World) (e : Ending) (w' : World) : Prop := ∃ A c, e = .returned (.slice A ps.length c) ∧ Reads w' 2 A ps.length (pairCells ps) ∧ (∀ a, A = some a → w.heap.size ≤ a.block) ∧ Below w.heap.size w w'
theorem pairCells_app (a b : List BP) : pairCells (a ++ b) = pairCells a ++ pairCells b := by simp [pairCells]
set_option maxHeartbeats 4000000 in
theorem rPut_any (A : Option Addr) (n c : Nat) (l : List BP) (k0 v0 : ByteArray) (w : World) (hR : Reads w 2 A n (pairCells l)) (hn : n ≤ 1000000) : Calls Tryz.prog 105 #[.slice A n c, .agg #[.string k0, .string v0]] w (OwnPost2 (putB l (k0, v0)) w) := by
  have hl : l.length = n := by have := hR.1; rw [pairCells_length] at this; omega
  obtain ⟨i0, hi0, hz0, hz1, hz2⟩ := info_parts infoPair
  have HI : Hid ((Tryz.prog.info? 134 = some i0) ∧ i0.zero = some (.agg #[.string ⟨#[]⟩, .string ⟨#[]⟩]) ∧ i0.size = 2 ∧ i0.bytes = 32) := Lib.hid ⟨hi0, hz0, hz1, hz2⟩
  have HL := Lib.hid hl
  have HR := Lib.hid hR
  clear hi0 hz0 hz1 hz2 hl hR
  go_enter Tryz.func105, Tryz.ntmps105
  go_wp2
  have hX0 : PairBox (w.alloc (.cells #[.string k0, .string v0] 134)) w.heap.size k0 v0 := World.alloc_heap_new _ _
  go_loopw [5, 6, 7] (fun va vp vi wr => ∃ (k m : Nat) (pl : Bool) (acc : List BP) (A' : Option Addr) (c' : Nat), (vi = .int .i64 k ∧ vp = .bool pl ∧ va = .slice A' m c' ∧ k ≤ n ∧ m ≤ 2 * k) ∧ Hid ((l.take k).foldl (putSt (k0, v0)) ([], false) = (acc, pl) ∧ acc.length = m) ∧ wr.ownsRow (w.heap.size + 1) 134 2 (.slice A' m c') m (pairCells acc) ∧ PairBox wr w.heap.size k0 v0 ∧ Below w.heap.size w wr ∧ w.heap.size + 1 ≤ wr.heap.size) (fun _ _ i _ => n - (intOf i).toNat)
  case atStart => exact ⟨0, 0, false, [], none, 0, ⟨rfl, rfl, rfl, Nat.zero_le _, Nat.le_refl _⟩, Lib.hid ⟨rfl, rfl⟩, World.ownsRow_nil _ _ _ _, hX0, balloc (Below.refl _ _) _, by simp⟩
  case round =>
    clear hX0
    obtain ⟨k, m, pl, acc, A', c', ⟨rfl, rfl, rfl, hk, hm⟩, HK, hown, hX, hbr, hzr⟩ := hrel
    have hbs := hbr.size
    obtain ⟨x0, x1⟩ := hX.facts
    by_cases hlt : k < n
    · obtain ⟨x, hx⟩ : ∃ x, l[k]? = some x := ⟨_, List.getElem?_eq_getElem (by have := HL.out; omega)⟩
      obtain ⟨b, o, rfl, hcell⟩ := HR.out.2 (by omega)
      obtain ⟨e1, e2⟩ := pairCells_at l k x hx
      have hc0 := hcell _ _ e1
      have hc0' := hcell _ _ e2
      have hst : (l.take (k + 1)).foldl (putSt (k0, v0)) ([], false) = putSt (k0, v0) (acc, pl) x := by rw [foldl_take _ _ hx, HK.out.1]
      obtain ⟨xk, xv⟩ := x
      dsimp only at hc0 hc0'
      have hc1 : wr.cell? ⟨b, o + k * 2, none⟩ = some (.string xk) := cell_keep hbr hc0
      have hc2 : wr.cell? ⟨b, o + k * 2 + 1, none⟩ = some (.string xv) := cell_keep hbr hc0'
      have hk0 : (0 : Int) ≤ (k : Int) := by omega
      have hk1 : (k : Int) < (n : Int) := by omega
      have hml := HK.out.2
      clear hcell hx e1 e2
      by_cases hfirst : pl = false ∧ leS k0 xk = true
      · obtain ⟨rfl, hle⟩ := hfirst
        have e1 : putA (k0, v0) (acc, false) (xk, xv) = (acc ++ [(k0, v0)], true) := by simp [putA, hle]
        have hle2 : (Op.bytesLess k0.toList xk.toList || k0.toList == xk.toList) = true := hle
        cases hne : (xk.toList != k0.toList)
        · have e2 : putSt (k0, v0) (acc, false) (xk, xv) = (acc ++ [(k0, v0)], true) := by simp only [putSt, hne, e1]; rfl
          have HK2 := Lib.hid (show (l.take (k + 1)).foldl (putSt (k0, v0)) ([], false) = (acc ++ [(k0, v0)], true) ∧ (acc ++ [(k0, v0)]).length = m + 1 from ⟨hst.trans e2, by simp [hml]⟩)
          have hq : (xk.toList == k0.toList) = true := by simpa [bne] using hne
          have hq2 : xk.toList = k0.toList := beq_iff_eq.1 hq
          clear e1 e2 hst hml HK hle
          go_wp2_with fail
          (have k1 := cell_regrown hc1; have k2 := cell_regrown hc2; have k3 := cell_regrown x0; refine wp_region_quiet_below (by kernel_rfl) (by kernel_rfl) ?_; (repeat (any_goals (first | go_big_quiet_step (fail) | quiet_step (fail)))); refine wpQuiet_nil ?_; intro _ hwq; obtain ⟨⟨dq, osq⟩, hwq⟩ := hwq; subst hwq; have hbq := below_regrown (wr) dq osq; generalize grow (redrawn (wr) dq) osq = wq at *; have hownq := ownsRow_keep hown hbq; have hXq : PairBox wq w.heap.size k0 v0 := Blk.keep hX hbq; have hcq1 := cell_keep hbq hc1; have hcq2 := cell_keep hbq hc2; have hbrq := bstep hbr hbq; have hzrq := Nat.le_trans hzr hbq.size; clear k1 k2 k3 hown hX hc1 hc2 hbr hzr hbs x0 x1 hbq; obtain ⟨x0, x1⟩ := hXq.facts; have hbs := hbrq.size; have hown := hownq; have hX := hXq; have hc1 := hcq1; have hc2 := hcq2; have hbr := hbrq; have hzr := hzrq; clear hownq hXq hcq1 hcq2 hbrq hzrq; obtain ⟨wr, rfl⟩ : ∃ x : World, x = wq := ⟨_, rfl⟩)
          go_wp2_with (at_builtin; refine wpList_append_own _ rfl _ _ 44 rfl (w.heap.size + 1) 134 i0 (.agg #[.string ⟨#[]⟩, .string ⟨#[]⟩]) 2 32 Tryz.underlying44 HI.out.1 HI.out.2.1 HI.out.2.2.1 HI.out.2.2.2 rfl (by decide) _ _ _ rfl (hown.alloc _) ⟨wr.heap.size, 0, none⟩ 1 1 [.string k0, .string v0] rfl rfl (World.news_of_block (cs := #[.string k0, .string v0]) (t := 134) (fr := (0, 0)) (World.alloc_heap_new wr _)) (by simp [Value.oneCell']) (by unfold maxLen; omega) (by omega) (by simp; omega) ?_; intro v' w3 hown1 hgrow1 _; obtain ⟨g1, cap1, rfl⟩ := ownsRow_succ hown1; have hb3 : Below w.heap.size w w3 := (hbr.alloc hbs _).grown hgrow1 (by simp; omega) (fun r e => by have := ownsRow_block hown r e; omega); have hbs3 := hb3.size; have hX3 : PairBox w3 w.heap.size k0 v0 := (hgrow1.block _ (by simp; omega) (fun e => by have := ownsRow_block hown _ e.symm; omega)).trans ((Below.heap_alloc wr _ _ (by omega)).trans hX); obtain ⟨y0, y1⟩ := hX3.facts; have hz3 : w.heap.size + 1 ≤ w3.heap.size := (by have := hgrow1.size; simp at this; omega); have hc3 : w3.cell? ⟨b, o + k * 2, none⟩ = some (.string xk) := cell_keep hb3 hc0; have hc3' : w3.cell? ⟨b, o + k * 2 + 1, none⟩ = some (.string xv) := cell_keep hb3 hc0'; clear hown)
          (have k1 := cell_regrown hc3; have k2 := cell_regrown hc3'; have k3 := cell_regrown y0; refine wp_region_quiet_below (by kernel_rfl) (by kernel_rfl) ?_; (repeat (any_goals (first | go_big_quiet_step (fail) | quiet_step (fail)))); refine wpQuiet_nil ?_; intro _ hwq; obtain ⟨⟨dq, osq⟩, hwq⟩ := hwq; subst hwq; have hbq := below_regrown (w3) dq osq; generalize grow (redrawn (w3) dq) osq = wq at *; have hownq := ownsRow_keep hown1 hbq; have hXq : PairBox wq w.heap.size k0 v0 := Blk.keep hX3 hbq; have hcq1 := cell_keep hbq hc3; have hcq2 := cell_keep hbq hc3'; have hbrq := bstep hb3 hbq; have hzrq := Nat.le_trans hz3 hbq.size; clear k1 k2 k3 hown1 hX3 hc3 hc3' hb3 hz3 hbs3 y0 y1 hbq hgrow1; obtain ⟨y0, y1⟩ := hXq.facts; have hbs3 := hbrq.size; have hown1 := hownq; have hX3 := hXq; have hc3 := hcq1; have hc3' := hcq2; have hb3 := hbrq; have hz3 := hzrq; clear hownq hXq hcq1 hcq2 hbrq hzrq; obtain ⟨w3, rfl⟩ : ∃ x : World, x = wq := ⟨_, rfl⟩)
          go_wp2
          exact ⟨⟨k + 1, m + 1, true, acc ++ [(k0, v0)], some ⟨g1, 0, none⟩, cap1, ⟨by go_num, rfl, rfl, by omega, by omega⟩, HK2, by rw [pairCells_app]; exact hown1, hX3, hb3, hz3⟩, by simp [intOf]; omega⟩
        · have e2 : putSt (k0, v0) (acc, false) (xk, xv) = (acc ++ [(k0, v0)] ++ [(xk, xv)], true) := by simp only [putSt, hne, e1]; rfl
          have HK2 := Lib.hid (show (l.take (k + 1)).foldl (putSt (k0, v0)) ([], false) = (acc ++ [(k0, v0)] ++ [(xk, xv)], true) ∧ (acc ++ [(k0, v0)] ++ [(xk, xv)]).length = m + 1 + 1 from ⟨hst.trans e2, by simp [hml]⟩)
          have hq : ¬ xk.toList = k0.toList := by simpa [bne] using hne
          have hq3 : (xk.toList == k0.toList) = false := by simpa using hq
          clear e1 e2 hst hml HK hle
          go_wp2_with fail
          (have k1 := cell_regrown hc1; have k2 := cell_regrown hc2; have k3 := cell_regrown x0; refine wp_region_quiet_below (by kernel_rfl) (by kernel_rfl) ?_; (repeat (any_goals (first | go_big_quiet_step (fail) | quiet_step (fail)))); refine wpQuiet_nil ?_; intro _ hwq; obtain ⟨⟨dq, osq⟩, hwq⟩ := hwq; subst hwq; have hbq := below_regrown (wr) dq osq; generalize grow (redrawn (wr) dq) osq = wq at *; have hownq := ownsRow_keep hown hbq; have hXq : PairBox wq w.heap.size k0 v0 := Blk.keep hX hbq; have hcq1 := cell_keep hbq hc1; have hcq2 := cell_keep hbq hc2; have hbrq := bstep hbr hbq; have hzrq := Nat.le_trans hzr hbq.size; clear k1 k2 k3 hown hX hc1 hc2 hbr hzr hbs x0 x1 hbq; obtain ⟨x0, x1⟩ := hXq.facts; have hbs := hbrq.size; have hown := hownq; have hX := hXq; have hc1 := hcq1; have hc2 := hcq2; have hbr := hbrq; have hzr := hzrq; clear hownq hXq hcq1 hcq2 hbrq hzrq; obtain ⟨wr, rfl⟩ : ∃ x : World, x = wq := ⟨_, rfl⟩)
          go_wp2_with (at_builtin; refine wpList_append_own _ rfl _ _ 44 rfl (w.heap.size + 1) 134 i0 (.agg #[.string ⟨#[]⟩, .string ⟨#[]⟩]) 2 32 Tryz.underlying44 HI.out.1 HI.out.2.1 HI.out.2.2.1 HI.out.2.2.2 rfl (by decide) _ _ _ rfl (hown.alloc _) ⟨wr.heap.size, 0, none⟩ 1 1 [.string k0, .string v0] rfl rfl (World.news_of_block (cs := #[.string k0, .string v0]) (t := 134) (fr := (0, 0)) (World.alloc_heap_new wr _)) (by simp [Value.oneCell']) (by unfold maxLen; omega) (by omega) (by simp; omega) ?_; intro v' w3 hown1 hgrow1 _; obtain ⟨g1, cap1, rfl⟩ := ownsRow_succ hown1; have hb3 : Below w.heap.size w w3 := (hbr.alloc hbs _).grown hgrow1 (by simp; omega) (fun r e => by have := ownsRow_block hown r e; omega); have hbs3 := hb3.size; have hX3 : PairBox w3 w.heap.size k0 v0 := (hgrow1.block _ (by simp; omega) (fun e => by have := ownsRow_block hown _ e.symm; omega)).trans ((Below.heap_alloc wr _ _ (by omega)).trans hX); obtain ⟨y0, y1⟩ := hX3.facts; have hz3 : w.heap.size + 1 ≤ w3.heap.size := (by have := hgrow1.size; simp at this; omega); have hc3 : w3.cell? ⟨b, o + k * 2, none⟩ = some (.string xk) := cell_keep hb3 hc0; have hc3' : w3.cell? ⟨b, o + k * 2 + 1, none⟩ = some (.string xv) := cell_keep hb3 hc0'; clear hown)
          (have k1 := cell_regrown hc3; have k2 := cell_regrown hc3'; have k3 := cell_regrown y0; refine wp_region_quiet_below (by kernel_rfl) (by kernel_rfl) ?_; (repeat (any_goals (first | go_big_quiet_step (fail) | quiet_step (fail)))); refine wpQuiet_nil ?_; intro _ hwq; obtain ⟨⟨dq, osq⟩, hwq⟩ := hwq; subst hwq; have hbq := below_regrown (w3) dq osq; generalize grow (redrawn (w3) dq) osq = wq at *; have hownq := ownsRow_keep hown1 hbq; have hXq : PairBox wq w.heap.size k0 v0 := Blk.keep hX3 hbq; have hcq1 := cell_keep hbq hc3; have hcq2 := cell_keep hbq hc3'; have hbrq := bstep hb3 hbq; have hzrq := Nat.le_trans hz3 hbq.size; clear k1 k2 k3 hown1 hX3 hc3 hc3' hb3 hz3 hbs3 y0 y1 hbq hgrow1; obtain ⟨y0, y1⟩ := hXq.facts; have hbs3 := hbrq.size; have hown1 := hownq; have hX3 := hXq; have hc3 := hcq1; have hc3' := hcq2; have hb3 := hbrq; have hz3 := hzrq; clear hownq hXq hcq1 hcq2 hbrq hzrq; obtain ⟨w3, rfl⟩ : ∃ x : World, x = wq := ⟨_, rfl⟩)
          go_wp2_with (at_builtin; refine wpList_append_own _ rfl _ _ 44 rfl (w.heap.size + 1) 134 i0 (.agg #[.string ⟨#[]⟩, .string ⟨#[]⟩]) 2 32 Tryz.underlying44 HI.out.1 HI.out.2.1 HI.out.2.2.1 HI.out.2.2.2 rfl (by decide) _ _ _ rfl (hown1.alloc _) ⟨w3.heap.size, 0, none⟩ 1 1 [.string xk, .string xv] rfl rfl (World.news_of_block (cs := #[.string xk, .string xv]) (t := 134) (fr := (0, 0)) (World.alloc_heap_new w3 _)) (by simp [Value.oneCell']) (by unfold maxLen; omega) (by omega) (by simp; omega) ?_; intro v' w4 hown2 hgrow2 _; obtain ⟨g2, cap2, rfl⟩ := ownsRow_succ hown2; have hb4 : Below w.heap.size w w4 := (hb3.alloc hbs3 _).grown hgrow2 (by simp; omega) (fun r e => by have := ownsRow_block hown1 r e; omega); have hX4 : PairBox w4 w.heap.size k0 v0 := (hgrow2.block _ (by simp; omega) (fun e => by have := ownsRow_block hown1 _ e.symm; omega)).trans ((Below.heap_alloc w3 _ _ (by omega)).trans hX3); have hz4 : w.heap.size + 1 ≤ w4.heap.size := (by have := hgrow2.size; simp at this; omega))
          exact ⟨⟨k + 1, m + 1 + 1, true, acc ++ [(k0, v0)] ++ [(xk, xv)], some ⟨g2, 0, none⟩, cap2, ⟨by go_num, rfl, rfl, by omega, by omega⟩, HK2, by rw [pairCells_app, pairCells_app]; exact hown2, hX4, hb4, hz4⟩, by simp [intOf]; omega⟩
      · have e1 : putA (k0, v0) (acc, pl) (xk, xv) = (acc, pl) := by
          unfold putA
          rw [if_neg]
          intro h
          simp only [Bool.and_eq_true, Bool.not_eq_true'] at h
          exact hfirst h
        have hguard : pl = true ∨ (pl = false ∧ (Op.bytesLess k0.toList xk.toList || k0.toList == xk.toList) = false) := by
          cases pl
          · right
            refine ⟨rfl, ?_⟩
            cases hle : leS k0 xk
            · exact hle
            · exact absurd ⟨rfl, hle⟩ hfirst
          · exact .inl rfl
        clear hfirst
        cases hne : (xk.toList != k0.toList)
        · have e2 : putSt (k0, v0) (acc, pl) (xk, xv) = (acc, pl) := by simp only [putSt, hne, e1]; rfl
          have HK2 := Lib.hid (show (l.take (k + 1)).foldl (putSt (k0, v0)) ([], false) = (acc, pl) ∧ acc.length = m from ⟨hst.trans e2, hml⟩)
          have hq : (xk.toList == k0.toList) = true := by simpa [bne] using hne
          have hq2 : xk.toList = k0.toList := beq_iff_eq.1 hq
          clear e1 e2 hst hml HK
          rcases hguard with rfl | ⟨rfl, hg⟩
          · go_wp2_with fail
            (have k1 := cell_regrown hc1; have k2 := cell_regrown hc2; have k3 := cell_regrown x0; refine wp_region_quiet_below (by kernel_rfl) (by kernel_rfl) ?_; (repeat (any_goals (first | go_big_quiet_step (fail) | quiet_step (fail)))); refine wpQuiet_nil ?_; intro _ hwq; obtain ⟨⟨dq, osq⟩, hwq⟩ := hwq; subst hwq; have hbq := below_regrown (wr) dq osq; generalize grow (redrawn (wr) dq) osq = wq at *; have hownq := ownsRow_keep hown hbq; have hXq : PairBox wq w.heap.size k0 v0 := Blk.keep hX hbq; have hcq1 := cell_keep hbq hc1; have hcq2 := cell_keep hbq hc2; have hbrq := bstep hbr hbq; have hzrq := Nat.le_trans hzr hbq.size; clear k1 k2 k3 hown hX hc1 hc2 hbr hzr hbs x0 x1 hbq; obtain ⟨x0, x1⟩ := hXq.facts; have hbs := hbrq.size; have hown := hownq; have hX := hXq; have hc1 := hcq1; have hc2 := hcq2; have hbr := hbrq; have hzr := hzrq; clear hownq hXq hcq1 hcq2 hbrq hzrq; obtain ⟨wr, rfl⟩ : ∃ x : World, x = wq := ⟨_, rfl⟩)
            go_wp2_with fail
            (have k1 := cell_regrown hc1; have k2 := cell_regrown hc2; have k3 := cell_regrown x0; refine wp_region_quiet_below (by kernel_rfl) (by kernel_rfl) ?_; (repeat (any_goals (first | go_big_quiet_step (fail) | quiet_step (fail)))); refine wpQuiet_nil ?_; intro _ hwq; obtain ⟨⟨dq, osq⟩, hwq⟩ := hwq; subst hwq; have hbq := below_regrown (wr) dq osq; generalize grow (redrawn (wr) dq) osq = wq at *; have hownq := ownsRow_keep hown hbq; have hXq : PairBox wq w.heap.size k0 v0 := Blk.keep hX hbq; have hcq1 := cell_keep hbq hc1; have hcq2 := cell_keep hbq hc2; have hbrq := bstep hbr hbq; have hzrq := Nat.le_trans hzr hbq.size; clear k1 k2 k3 hown hX hc1 hc2 hbr hzr hbs x0 x1 hbq; obtain ⟨x0, x1⟩ := hXq.facts; have hbs := hbrq.size; have hown := hownq; have hX := hXq; have hc1 := hcq1; have hc2 := hcq2; have hbr := hbrq; have hzr := hzrq; clear hownq hXq hcq1 hcq2 hbrq hzrq; obtain ⟨wr, rfl⟩ : ∃ x : World, x = wq := ⟨_, rfl⟩)
            go_wp2
            exact ⟨⟨k + 1, m, _, acc, A', c', ⟨by go_num, rfl, rfl, by omega, by omega⟩, HK2, hown, hX, hbr, hzr⟩, by simp [intOf]; omega⟩
          · exact absurd hg (by rw [hq2]; simp)
        · have e2 : putSt (k0, v0) (acc, pl) (xk, xv) = (acc ++ [(xk, xv)], pl) := by simp only [putSt, hne, e1]; rfl
          have HK2 := Lib.hid (show (l.take (k + 1)).foldl (putSt (k0, v0)) ([], false) = (acc ++ [(xk, xv)], pl) ∧ (acc ++ [(xk, xv)]).length = m + 1 from ⟨hst.trans e2, by simp [hml]⟩)
          have hq : ¬ xk.toList = k0.toList := by simpa [bne] using hne
          have hq3 : (xk.toList == k0.toList) = false := by simpa using hq
          clear e1 e2 hst hml HK
          rcases hguard with rfl | ⟨rfl, hg⟩
          all_goals
            go_wp2_with fail
            (have k1 := cell_regrown hc1; have k2 := cell_regrown hc2; have k3 := cell_regrown x0; refine wp_region_quiet_below (by kernel_rfl) (by kernel_rfl) ?_; (repeat (any_goals (first | go_big_quiet_step (fail) | quiet_step (fail)))); refine wpQuiet_nil ?_; intro _ hwq; obtain ⟨⟨dq, osq⟩, hwq⟩ := hwq; subst hwq; have hbq := below_regrown (wr) dq osq; generalize grow (redrawn (wr) dq) osq = wq at *; have hownq := ownsRow_keep hown hbq; have hXq : PairBox wq w.heap.size k0 v0 := Blk.keep hX hbq; have hcq1 := cell_keep hbq hc1; have hcq2 := cell_keep hbq hc2; have hbrq := bstep hbr hbq; have hzrq := Nat.le_trans hzr hbq.size; clear k1 k2 k3 hown hX hc1 hc2 hbr hzr hbs x0 x1 hbq; obtain ⟨x0, x1⟩ := hXq.facts; have hbs := hbrq.size; have hown := hownq; have hX := hXq; have hc1 := hcq1; have hc2 := hcq2; have hbr := hbrq; have hzr := hzrq; clear hownq hXq hcq1 hcq2 hbrq hzrq; obtain ⟨wr, rfl⟩ : ∃ x : World, x = wq := ⟨_, rfl⟩)
            go_wp2_with fail
            (have k1 := cell_regrown hc1; have k2 := cell_regrown hc2; have k3 := cell_regrown x0; refine wp_region_quiet_below (by kernel_rfl) (by kernel_rfl) ?_; (repeat (any_goals (first | go_big_quiet_step (fail) | quiet_step (fail)))); refine wpQuiet_nil ?_; intro _ hwq; obtain ⟨⟨dq, osq⟩, hwq⟩ := hwq; subst hwq; have hbq := below_regrown (wr) dq osq; generalize grow (redrawn (wr) dq) osq = wq at *; have hownq := ownsRow_keep hown hbq; have hXq : PairBox wq w.heap.size k0 v0 := Blk.keep hX hbq; have hcq1 := cell_keep hbq hc1; have hcq2 := cell_keep hbq hc2; have hbrq := bstep hbr hbq; have hzrq := Nat.le_trans hzr hbq.size; clear k1 k2 k3 hown hX hc1 hc2 hbr hzr hbs x0 x1 hbq; obtain ⟨x0, x1⟩ := hXq.facts; have hbs := hbrq.size; have hown := hownq; have hX := hXq; have hc1 := hcq1; have hc2 := hcq2; have hbr := hbrq; have hzr := hzrq; clear hownq hXq hcq1 hcq2 hbrq hzrq; obtain ⟨wr, rfl⟩ : ∃ x : World, x = wq := ⟨_, rfl⟩)
            go_wp2_with (at_builtin; refine wpList_append_own _ rfl _ _ 44 rfl (w.heap.size + 1) 134 i0 (.agg #[.string ⟨#[]⟩, .string ⟨#[]⟩]) 2 32 Tryz.underlying44 HI.out.1 HI.out.2.1 HI.out.2.2.1 HI.out.2.2.2 rfl (by decide) _ _ _ rfl (hown.alloc _) ⟨wr.heap.size, 0, none⟩ 1 1 [.string xk, .string xv] rfl rfl (World.news_of_block (cs := #[.string xk, .string xv]) (t := 134) (fr := (0, 0)) (World.alloc_heap_new wr _)) (by simp [Value.oneCell']) (by unfold maxLen; omega) (by omega) (by simp; omega) ?_; intro v' w3 hown1 hgrow1 _; obtain ⟨g1, cap1, rfl⟩ := ownsRow_succ hown1; have hb3 : Below w.heap.size w w3 := (hbr.alloc hbs _).grown hgrow1 (by simp; omega) (fun r e => by have := ownsRow_block hown r e; omega); have hX3 : PairBox w3 w.heap.size k0 v0 := (hgrow1.block _ (by simp; omega) (fun e => by have := ownsRow_block hown _ e.symm; omega)).trans ((Below.heap_alloc wr _ _ (by omega)).trans hX); have hz3 : w.heap.size + 1 ≤ w3.heap.size := (by have := hgrow1.size; simp at this; omega); clear hown)
            exact ⟨⟨k + 1, m + 1, _, acc ++ [(xk, xv)], some ⟨g1, 0, none⟩, cap1, ⟨by go_num, rfl, rfl, by omega, by omega⟩, HK2, by rw [pairCells_app]; exact hown1, hX3, hb3, hz3⟩, by simp [intOf]; omega⟩
    · obtain rfl : k = n := by omega
      have hfin : l.foldl (putSt (k0, v0)) ([], false) = (acc, pl) := by
        have := HK.out.1
        rwa [List.take_of_length_le (by have := HL.out; omega)] at this
      have hml := HK.out.2
      cases pl
      · have hv : putB l (k0, v0) = acc ++ [(k0, v0)] := by unfold putB; rw [hfin]; rfl
        have hvl : (putB l (k0, v0)).length = m + 1 := by rw [hv]; simp [hml]
        have HV := Lib.hid hv
        have HVL := Lib.hid hvl
        clear hv hvl hfin hml HK
        go_wp2_with (at_builtin; refine wpList_append_own _ rfl _ _ 44 rfl (w.heap.size + 1) 134 i0 (.agg #[.string ⟨#[]⟩, .string ⟨#[]⟩]) 2 32 Tryz.underlying44 HI.out.1 HI.out.2.1 HI.out.2.2.1 HI.out.2.2.2 rfl (by decide) _ _ _ rfl (hown.alloc _) ⟨wr.heap.size, 0, none⟩ 1 1 [.string k0, .string v0] rfl rfl (World.news_of_block (cs := #[.string k0, .string v0]) (t := 134) (fr := (0, 0)) (World.alloc_heap_new wr _)) (by simp [Value.oneCell']) (by unfold maxLen; omega) (by omega) (by simp; omega) ?_; intro v' w3 hown1 hgrow1 _; obtain ⟨g1, cap1, rfl⟩ := ownsRow_succ hown1)
        go_ret
        refine ⟨some ⟨g1, 0, none⟩, cap1, by rw [HVL.out]; rfl, by rw [HVL.out, HV.out, pairCells_app]; exact Reads.of_own hown1, fun a ha => by have := ownsRow_block hown1 a.block (by rw [ha]; rfl); omega, (hbr.alloc hbs _).grown hgrow1 (by simp; omega) (fun r e => by have := ownsRow_block hown r e; omega)⟩
      · have hv : putB l (k0, v0) = acc := by unfold putB; rw [hfin]; rfl
        have HV := Lib.hid hv
        have HML := Lib.hid hml
        clear hv hfin hml HK
        go_wp2
        go_ret
        refine ⟨A', c', by rw [HV.out, HML.out]; rfl, by rw [HV.out, HML.out]; exact Reads.of_own hown, fun a ha => by have := ownsRow_block hown a.block (by rw [ha]; rfl); omega, hbr⟩
end Go.Proofs.YtokfclikhfpmhaaGreatDoor
namespace Go.Proofs.YtokfclikhfpmhaaGreatDoor
open Go.RowKit Go.Sort
set_option linter.unusedVariables false
set_option linter.unusedSimpArgs false
set_option maxRecDepth 100000
theorem putP_len (p : BP) : ∀ l, (putP p l).length ≤ l.length + 1
  | [] => by simp [putP]
  | x :: l => by
    unfold putP
    split
    · have := List.length_filter_le (fun y : BP => y.1.toList != p.1.toList) (x :: l)
      simp only [List.length_cons] at this ⊢; omega
    · have := putP_len p l
      simp only [List.length_cons]; omega
theorem putB_len (l : List BP) (p : BP) : (putB l p).length ≤ l.length + 1 := by rw [putB_eq]; exact putP_len p l
theorem PairsPost.some2 {out : List BP} {w w' : World} {A : Option Addr} {c m : Nat} (hm : out.length = m) (hb : Below w.heap.size w w') (hR : Reads w' 2 A m (pairCells out)) (ha : ∀ a, A = some a → w.heap.size ≤ a.block) : PairsPost (some out) w (.returned (.tuple #[.slice A m c, .bool true])) w' := by
  subst hm; exact ⟨hb, A, c, rfl, hR, ha⟩
theorem PairsPost.none_ {w w' : World} (hb : Below w.heap.size w w') : PairsPost none w (.returned (.tuple #[.slice none 0 0, .bool false])) w' := ⟨hb, rfl⟩
set_option maxHeartbeats 4000000 in
theorem rQuery_any (s : ByteArray) (w : World) (hs : s.size ≤ 100000) : Calls Tryz.prog 77 #[.string s] w (PairsPost (pairsB s) w) := by
  rw [pairsB_ref]
  cases hem : s.toList.isEmpty
  rotate_left
  · rw [if_pos rfl]
    have hq : s.toList = [] := List.isEmpty_iff.1 hem
    go_enter Tryz.func77, Tryz.ntmps77
    go_wp2
    go_ret2
    exact PairsPost.some2 rfl belB (Reads.nil_ _ _ _) (fun a ha => by cases ha)
  rw [if_neg (by simp)]
  have hne : (s.toList == []) = false := by
    cases h : s.toList with
    | nil => rw [h] at hem; cases hem
    | cons a l => rfl
  have hne2 : ¬ s.toList = [] := by simpa using hne
  have cS := fun W => rSplit_any s 38 W (by omega)
  have hsz := splitB_size 38 s
  have hnum := splitB_num 38 s
  generalize splitB 38 s = ps at *
  generalize hV : PairsPost (qRef [] ps) w = V
  have HV := Lib.hid hV
  have HS := Lib.hid cS
  have HZ := Lib.hid hsz
  clear hV cS hsz hem
  go_enter Tryz.func77, Tryz.ntmps77
  go_wp2_with (go_at_call 74; refine (HS.out _).mono ?_; rintro e w1 ⟨A, c, rfl, hown, hb1⟩; have HR := Lib.hid (Reads.of_own hown); clear hown)
  go_loopw [4, 6] (fun vo vi wr => ∃ (k m : Nat) (acc : List BP) (A' : Option Addr) (c' : Nat), (vi = .int .i64 k ∧ vo = .slice A' m c' ∧ k ≤ ps.length ∧ m ≤ k) ∧ Hid (qRef [] ps = qRef acc (ps.drop k) ∧ acc.length = m) ∧ Hid (Reads wr 2 A' m (pairCells acc)) ∧ (∀ a, A' = some a → w.heap.size ≤ a.block) ∧ Below w1.heap.size w1 wr) (fun _ i _ => ps.length - (intOf i).toNat)
  case atStart => exact ⟨0, 0, [], none, 0, ⟨rfl, rfl, Nat.zero_le _, Nat.le_refl _⟩, Lib.hid ⟨rfl, rfl⟩, Lib.hid (Reads.nil_ _ _ _), fun a ha => (by cases ha), Below.refl _ _⟩
  case round =>
    obtain ⟨k, m, acc, A', c', ⟨rfl, rfl, hk, hm⟩, HK, HA, hAb, hbr⟩ := hrel
    by_cases hlt : k < ps.length
    · obtain ⟨x, hx⟩ : ∃ x, ps[k]? = some x := ⟨_, List.getElem?_eq_getElem hlt⟩
      obtain ⟨b, o, rfl, hcell⟩ := (HR.out.keep hbr).2 (by omega)
      have hc1 : wr.cell? ⟨b, o + k, none⟩ = some (.string x) := hcell k _ (by simp [hx])
      have hk0 : (0 : Int) ≤ (k : Int) := by omega
      have hk1 : (k : Int) < (ps.length : Int) := by omega
      have hd : ps.drop k = x :: ps.drop (k + 1) := by
        obtain ⟨hl2, rfl⟩ := List.getElem?_eq_some_iff.1 hx
        exact List.drop_eq_getElem_cons hl2
      have hxs : x.size ≤ s.size := HZ.out x (List.mem_of_getElem? hx)
      have cC := fun W => rCut_any x 61 W (by omega)
      have hr1 := HK.out.1
      have hml := HK.out.2
      have l1 := cut_fst_len x.data.toList [61]
      have l2 := cut_snd_len x.data.toList [61]
      rw [← Lib.size_eq] at l1 l2
      rw [hd, qRef] at hr1
      unfold parsePair at hr1
      unfold cutV at cC
      generalize Lib.cut x.data.toList [61] = ct at *
      obtain ⟨ka, va, is⟩ := ct
      dsimp only at hr1 cC l1 l2
      have cN := fun W => rName_any (toB ka) W (by rw [toB_size]; omega)
      have cW := fun W => rWord_any (toB va) W (by rw [toB_size]; omega)
      have HC := Lib.hid cC
      clear hcell hx hd HK cC l1 l2
      cases is
      · have HN0 : Hid (qRef [] ps = none) := Lib.hid (by rw [hr1]; rfl)
        clear hr1 cN cW
        go_wp2_with (go_at_call 72; refine (HC.out _).mono ?_; rintro e w2 ⟨rfl, hb2⟩)
        rw [← HV.out, HN0.out]
        exact PairsPost.none_ belB
      cases hn : isNameB (toB ka)
      · have HN0 : Hid (qRef [] ps = none) := Lib.hid (by rw [hr1, hn]; rfl)
        rw [hn] at cN
        have HN := Lib.hid cN
        clear hr1 cN cW hn
        go_wp2_with (first | (go_at_call 72; refine (HC.out _).mono ?_; rintro e w2 ⟨rfl, hb2⟩) | (go_at_call 75; refine (HN.out _).mono ?_; rintro e w3 ⟨rfl, hb3⟩))
        rw [← HV.out, HN0.out]
        exact PairsPost.none_ belB
      cases hw : isWordB (toB va)
      · have HN0 : Hid (qRef [] ps = none) := Lib.hid (by rw [hr1, hn, hw]; rfl)
        rw [hn] at cN
        rw [hw] at cW
        have HN := Lib.hid cN
        have HW := Lib.hid cW
        clear hr1 cN cW hn hw
        go_wp2_with (first | (go_at_call 72; refine (HC.out _).mono ?_; rintro e w2 ⟨rfl, hb2⟩) | (go_at_call 75; refine (HN.out _).mono ?_; rintro e w3 ⟨rfl, hb3⟩) | (go_at_call 104; refine (HW.out _).mono ?_; rintro e w4 ⟨rfl, hb4⟩))
        rw [← HV.out, HN0.out]
        exact PairsPost.none_ belB
      · have hr2 : qRef [] ps = qRef (putB acc (toB ka, toB va)) (ps.drop (k + 1)) := by rw [hr1, hn, hw]; rfl
        have hln := putB_len acc (toB ka, toB va)
        rw [hml] at hln
        have cP := fun W h => rPut_any A' m c' acc (toB ka) (toB va) W h (by omega)
        rw [hn] at cN
        rw [hw] at cW
        have HN := Lib.hid cN
        have HW := Lib.hid cW
        have HP := Lib.hid cP
        have HK2 := Lib.hid hr2
        clear hr1 cN cW hn hw cP hr2
        generalize putB acc (toB ka, toB va) = acc2 at *
        go_wp2_with (first | (go_at_call 72; refine (HC.out _).mono ?_; rintro e w2 ⟨rfl, hb2⟩) | (go_at_call 75; refine (HN.out _).mono ?_; rintro e w3 ⟨rfl, hb3⟩) | (go_at_call 104; refine (HW.out _).mono ?_; rintro e w4 ⟨rfl, hb4⟩) | (go_at_call 105; refine (HP.out _ (HA.out.keep belB)).mono ?_; rintro e w5 ⟨A2, c2, rfl, hR2, hA2, hb5⟩))
        exact ⟨⟨k + 1, acc2.length, acc2, A2, c2, ⟨by go_num, rfl, by omega, by omega⟩, Lib.hid ⟨HK2.out, rfl⟩, Lib.hid hR2, fun a ha => by have := hA2 a ha; have := hb1.size; have := hbr.size; have := hb2.size; have := hb3.size; have := hb4.size; omega, belB⟩, by simp [intOf]; omega⟩
    · obtain rfl : k = ps.length := by omega
      have hfin : qRef [] ps = some acc := by rw [HK.out.1, List.drop_eq_nil_of_le (Nat.le_refl _), qRef]
      have HF := Lib.hid hfin
      have hml := HK.out.2
      clear hfin HK
      go_wp2
      rw [← HV.out, HF.out]
      exact PairsPost.some2 hml belB HA.out hAb
end Go.Proofs.YtokfclikhfpmhaaGreatDoor
