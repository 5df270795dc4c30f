/- What the specification's Formed and Text return. -/
import Derived.Test.YtdlbfjoemabfpaaGreatDoorEZ18
import Derived.Test.YtdlbfjoemabfpaaGreatDoorEZ16
import Derived.Test.YtdlbfjoemabfpaaGreatDoorEZ8
import Derived.Test.YtdlbfjoemabfpaaGreatDoorProg
import Derived.WalkKit
import Derived.WalkSpells
import Derived.WalkLawsBesides
import Derived.Below
import Derived.Deep.QuietTactic
import Derived.BigQuiet
import Derived.Lib.QuietBelow
import Derived.Lib.Strings
import Derived.Lib.Hide
import Derived.Deep.RegionWith
import Derived.Deep.RegionHeld3
import Derived.Lib.IndexBytes
namespace Go.Proofs.YtdlbfjoemabfpaaGreatDoor
open Go.RowKit Go.Sort
set_option linter.unusedVariables false
set_option linter.unusedSimpArgs false
set_option maxRecDepth 100000
set_option maxHeartbeats 4000000 in
theorem rFormed_any (c : ByteArray) (P Q : Option Addr) (np cp nq cq : Nat) (xs : List ByteArray) (qs : List (ByteArray × ByteArray)) (w : World)
    (hP : Reads w 1 P np (xs.map .string)) (hQ : Reads w 2 Q nq (pairCells qs)) (htot : (W06 c xs qs).length ≤ 1000000000) :
    Calls Tryz.prog 229 #[.agg #[.string c, .slice P np cp, .slice Q nq cq]] w (Ret w (.bool (formedB c xs qs))) := by
  have hnp : xs.length = np := by have := hP.1; simp at this; omega
  have hnq : qs.length = nq := by have := hQ.1; rw [pairCells_length] at this; omega
  have hc0 : c.size ≤ 1000000000 := by have := W06_c c xs qs; omega
  have hxs : ∀ x ∈ xs, x.size ≤ 1000000000 := fun x hx => by have := W06_x c xs qs x hx; omega
  have hqs : ∀ q ∈ qs, q.1.size ≤ 1000000000 ∧ q.2.size ≤ 1000000000 := fun q hq => by have := W06_q c xs qs q hq; omega
  have c1 := fun W => rName_any c W (by omega)
  have cX := fun W h1 h2 => rText_any c P Q np cp nq cq xs qs W h1 h2 htot
  have hv : formedB c xs qs = ((isNameB c && decide (np ≤ 32) && decide (nq ≤ 16) && xs.all isWordB) && (List.range nq).all (pairK qs) && decide ((W06 c xs qs).length ≤ 4096)) := by rw [← hnp, ← hnq]; rfl
  obtain ⟨V, hV⟩ : ∃ V, V = formedB c xs qs := ⟨_, rfl⟩
  rw [← hV] at hv ⊢
  have hXz : (toB (W06 c xs qs)).size = (W06 c xs qs).length := rfl
  have HP := Lib.hid hP; have HQ := Lib.hid hQ; have HXS := Lib.hid hxs; have HQS := Lib.hid hqs; have H1 := Lib.hid c1; have HX := Lib.hid cX; have HNP := Lib.hid hnp; have HNQ := Lib.hid hnq
  clear hP hQ htot hxs hqs c1 cX hnp hnq hV
  generalize toB (W06 c xs qs) = T at *
  cases h1 : isNameB c
  · obtain rfl : V = false := by rw [hv, h1]; simp
    rw [h1] at H1
    clear hv h1
    go_enter Tryz.func229, Tryz.ntmps229
    go_wp2_with (go_at_call 50; refine (H1.out _).mono ?_; rintro e w1 ⟨rfl, hb1⟩; have hX1 : Boxed3 w1 w.heap.size c P np cp Q nq cq := Blk.keep (World.alloc_heap_new _ _) hb1; have x1 : w1.cell? ⟨w.heap.size, 1, none⟩ = some (.slice P np cp) := Blk.cell hX1 1; have x2 : w1.cell? ⟨w.heap.size, 2, none⟩ = some (.slice Q nq cq) := Blk.cell hX1 2)
    go_ret
    exact ⟨rfl, belB⟩
  rw [h1] at H1
  by_cases h2 : np ≤ 32
  rotate_left
  · obtain rfl : V = false := by rw [hv, h1]; simp [h2]
    have d1 : decide ((32 : Int) < (np : Int)) = true := decide_eq_true (by omega)
    clear hv h1
    go_enter Tryz.func229, Tryz.ntmps229
    go_wp2_with (go_at_call 50; refine (H1.out _).mono ?_; rintro e w1 ⟨rfl, hb1⟩; have hX1 : Boxed3 w1 w.heap.size c P np cp Q nq cq := Blk.keep (World.alloc_heap_new _ _) hb1; have x1 : w1.cell? ⟨w.heap.size, 1, none⟩ = some (.slice P np cp) := Blk.cell hX1 1; have x2 : w1.cell? ⟨w.heap.size, 2, none⟩ = some (.slice Q nq cq) := Blk.cell hX1 2)
    go_ret
    exact ⟨rfl, belB⟩
  have d1 : decide ((32 : Int) < (np : Int)) = false := decide_eq_false (by omega)
  by_cases h3 : nq ≤ 16
  rotate_left
  · obtain rfl : V = false := by rw [hv, h1]; simp [h3]
    have d2 : decide ((16 : Int) < (nq : Int)) = true := decide_eq_true (by omega)
    clear hv h1
    go_enter Tryz.func229, Tryz.ntmps229
    go_wp2_with (go_at_call 50; refine (H1.out _).mono ?_; rintro e w1 ⟨rfl, hb1⟩; have hX1 : Boxed3 w1 w.heap.size c P np cp Q nq cq := Blk.keep (World.alloc_heap_new _ _) hb1; have x1 : w1.cell? ⟨w.heap.size, 1, none⟩ = some (.slice P np cp) := Blk.cell hX1 1; have x2 : w1.cell? ⟨w.heap.size, 2, none⟩ = some (.slice Q nq cq) := Blk.cell hX1 2)
    go_ret
    exact ⟨rfl, belB⟩
  have d2 : decide ((16 : Int) < (nq : Int)) = false := decide_eq_false (by omega)
  have hv2 : V = (xs.all isWordB && (List.range nq).all (pairK qs) && decide (T.size ≤ 4096)) := by rw [hv, h1, hXz]; simp [h2, h3]
  have HV := Lib.hid hv2
  clear hv hv2 h1 hXz
  go_enter Tryz.func229, Tryz.ntmps229
  go_wp2_with (go_at_call 50; refine (H1.out _).mono ?_; rintro e w1 ⟨rfl, hb1⟩; have hX1 : Boxed3 w1 w.heap.size c P np cp Q nq cq := Blk.keep (World.alloc_heap_new _ _) hb1; have x1 : w1.cell? ⟨w.heap.size, 1, none⟩ = some (.slice P np cp) := Blk.cell hX1 1; have x2 : w1.cell? ⟨w.heap.size, 2, none⟩ = some (.slice Q nq cq) := Blk.cell hX1 2)
  have hbw1 : Below w.heap.size w w1 := belB
  clear x1 x2 hb1
  go_loopw [3] (fun vi wr => ∃ k : Nat, vi = .int .i64 k ∧ k ≤ np ∧ Hid ((xs.take k).all isWordB = true) ∧ Boxed3 wr w.heap.size c P np cp Q nq cq ∧ Below w.heap.size w wr) (fun i _ => np - (intOf i).toNat)
  case atStart => exact ⟨0, rfl, Nat.zero_le _, Lib.hid (by simp), hX1, hbw1⟩
  case round =>
    clear hX1 hbw1
    obtain ⟨k, rfl, hk, HK, hX, hbr⟩ := hrel
    have x1 : wr.cell? ⟨w.heap.size, 1, none⟩ = some (.slice P np cp) := Blk.cell hX 1
    have x2 : wr.cell? ⟨w.heap.size, 2, none⟩ = some (.slice Q nq cq) := Blk.cell hX 2
    by_cases hlt : k < np
    · obtain ⟨x, hx⟩ : ∃ x, xs[k]? = some x := ⟨_, List.getElem?_eq_getElem (by have := HNP.out; omega)⟩
      obtain ⟨b, o, rfl, hcell⟩ := (HP.out.keep hbr).2 (by omega)
      have hc1 : wr.cell? ⟨b, o + k, none⟩ = some (.string x) := hcell k _ (by simp [hx])
      have hxs := HXS.out x (List.mem_of_getElem? hx)
      have cW := fun W => rWord_any x W (by omega)
      have hk0 : (0 : Int) ≤ (k : Int) := by omega
      have hk1 : (k : Int) < (np : Int) := by omega
      cases hw : isWordB x
      · obtain rfl : V = false := by rw [HV.out, all_false hx hw]; rfl
        rw [hw] at cW
        have HW := Lib.hid cW
        clear cW hw hcell hx HK
        go_wp2_with (go_at_call 90; refine (HW.out _).mono ?_; rintro e w2 ⟨rfl, hb2⟩)
        go_ret
        exact ⟨rfl, belB⟩
      · have HK2 : Hid ((xs.take (k + 1)).all isWordB = true) := Lib.hid (all_take HK.out hx hw)
        rw [hw] at cW
        have HW := Lib.hid cW
        clear cW hw hcell hx HK
        go_wp2_with (go_at_call 90; refine (HW.out _).mono ?_; rintro e w2 ⟨rfl, hb2⟩)
        exact ⟨⟨k + 1, by go_num, by omega, HK2, Blk.keep hX belB, belB⟩, by simp [intOf]; omega⟩
    · obtain rfl : k = np := by omega
      have hall : xs.all isWordB = true := by
        have := HK.out
        rwa [List.take_of_length_le (by have := HNP.out; omega)] at this
      have hv3 : V = ((List.range nq).all (pairK qs) && decide (T.size ≤ 4096)) := by rw [HV.out, hall, Bool.true_and]
      have HV2 := Lib.hid hv3
      clear hall hv3 HK HV
      go_wp2
      clear x1 x2
      obtain ⟨wo, rfl⟩ : ∃ wo : World, wo = wr := ⟨_, rfl⟩
      go_loopw [4] (fun vi wz => ∃ j : Nat, vi = .int .i64 j ∧ j ≤ nq ∧ Hid ((List.range j).all (pairK qs) = true) ∧ Boxed3 wz w.heap.size c P k cp Q nq cq ∧ Below w.heap.size w wz) (fun i _ => nq - (intOf i).toNat)
      case atStart => exact ⟨0, rfl, Nat.zero_le _, Lib.hid (by simp), hX, hbr⟩
      case round =>
        clear hX hbr
        obtain ⟨j, rfl, hj, HJ, hX, hbr⟩ := hrel
        have x1 : wr.cell? ⟨w.heap.size, 1, none⟩ = some (.slice P k cp) := Blk.cell hX 1
        have x2 : wr.cell? ⟨w.heap.size, 2, none⟩ = some (.slice Q nq cq) := Blk.cell hX 2
        have x0 : wr.cell? ⟨w.heap.size, 0, none⟩ = some (.string c) := Blk.cell hX 0
        by_cases hlt2 : j < nq
        · have hQr := HQ.out.keep hbr
          obtain ⟨pb, po, rfl, hcell⟩ := hQr.2 (by omega)
          clear hQr
          have hql : j < qs.length := by have := HNQ.out; omega
          obtain ⟨q, hq⟩ : ∃ q, qs[j]? = some q := ⟨_, List.getElem?_eq_getElem hql⟩
          obtain ⟨e1, e2⟩ := pairCells_at qs j q hq
          have hc1 : wr.cell? ⟨pb, po + j * 2, none⟩ = _ := hcell _ _ e1
          have hc2 : wr.cell? ⟨pb, po + j * 2 + 1, none⟩ = _ := hcell _ _ e2
          have hsz := HQS.out q (List.mem_of_getElem? hq)
          have cN := fun W => rName_any q.1 W (by omega)
          have cV := fun W => rWord_any q.2 W (by omega)
          have hpk : pairK qs j = (isNameB q.1 && isWordB q.2 && (j == 0 || !(Op.bytesLess q.1.toList ((qs[j - 1]?.getD (⟨#[]⟩, ⟨#[]⟩)).1).toList || q.1.toList == ((qs[j - 1]?.getD (⟨#[]⟩, ⟨#[]⟩)).1).toList))) := by simp [pairK, hq]
          obtain ⟨q1, q2⟩ := q
          dsimp only at hc1 hc2 hsz cN cV hpk
          have hj0 : (0 : Int) ≤ (j : Int) := by omega
          have hj1 : (j : Int) < (nq : Int) := by omega
          have HC := Lib.hid hcell; have HK := Lib.hid hpk
          clear hcell e1 e2 hq hpk hql
          have hfalse : pairK qs j = false → V = false := by
            intro hf
            have hall : (List.range nq).all (pairK qs) = false := by
              rw [List.all_eq_false]
              exact ⟨j, by simpa using hlt2, by rw [hf]; simp⟩
            rw [HV2.out, hall]
            rfl
          have htrue : pairK qs j = true → (List.range (j + 1)).all (pairK qs) = true := by
            intro ht
            rw [List.range_succ, List.all_append, HJ.out]
            simp [ht]
          have HF := Lib.hid hfalse; have HTr := Lib.hid htrue
          clear hfalse htrue
          cases h1 : isNameB q1
          · have hv := HF.out (by rw [HK.out, h1]; simp)
            subst hv
            rw [h1] at cN
            have HN := Lib.hid cN
            clear cN cV h1
            go_wp2_with fail
            have k1 := cell_regrown hc1; have k2 := cell_regrown hc2; have k3 := cell_regrown x2
            refine wp_region_quiet_below (by kernel_rfl) (by kernel_rfl) ?_; (repeat (any_goals (first | go_big_quiet_step ((first | exact qcalls HN.out _ _)) | quiet_step ((first | exact qcalls HN.out _ _))))); refine wpQuiet_nil ?_; intro _ hwq; obtain ⟨⟨dq, osq⟩, hwq⟩ := hwq; subst hwq; have hb3 := below_regrown (wr) dq osq; generalize grow (redrawn (wr) dq) osq = w3 at *
            go_wp2
            go_ret
            exact ⟨rfl, belB⟩
          cases h2 : isWordB q2
          · have hv := HF.out (by rw [HK.out, h2]; simp)
            subst hv
            rw [h1] at cN
            rw [h2] at cV
            have HN := Lib.hid cN; have HW := Lib.hid cV
            clear cN cV h1 h2
            go_wp2_with fail
            have k1 := cell_regrown hc1; have k2 := cell_regrown hc2; have k3 := cell_regrown x2
            refine wp_region_quiet_below (by kernel_rfl) (by kernel_rfl) ?_; (repeat (any_goals (first | go_big_quiet_step ((first | exact qcalls HN.out _ _ | exact qcalls HW.out _ _)) | quiet_step ((first | exact qcalls HN.out _ _ | exact qcalls HW.out _ _))))); refine wpQuiet_nil ?_; intro _ hwq; obtain ⟨⟨dq, osq⟩, hwq⟩ := hwq; subst hwq; have hb3 := below_regrown (wr) dq osq; generalize grow (redrawn (wr) dq) osq = w3 at *
            go_wp2
            go_ret
            exact ⟨rfl, belB⟩
          rw [h1] at cN
          rw [h2] at cV
          have HN := Lib.hid cN; have HW := Lib.hid cV
          clear cN cV
          rcases j with _ | j
          · have hok := HTr.out (by rw [HK.out, h1, h2]; simp)
            have HO := Lib.hid hok
            have hc1' : wr.cell? ⟨pb, po, none⟩ = some (.string q1) := by simpa using hc1
            have hc2' : wr.cell? ⟨pb, po + 1, none⟩ = some (.string q2) := by simpa using hc2
            clear hok h1 h2 hc1 hc2
            go_wp2_with fail
            have k1 := cell_regrown hc1'; have k2 := cell_regrown hc2'; have k3 := cell_regrown x2
            refine wp_region_quiet_below (by kernel_rfl) (by kernel_rfl) ?_; (repeat (any_goals (first | go_big_quiet_step ((first | exact qcalls HN.out _ _ | exact qcalls HW.out _ _)) | quiet_step ((first | exact qcalls HN.out _ _ | exact qcalls HW.out _ _))))); refine wpQuiet_nil ?_; intro _ hwq; obtain ⟨⟨dq, osq⟩, hwq⟩ := hwq; subst hwq; have hb3 := below_regrown (wr) dq osq; generalize grow (redrawn (wr) dq) osq = w3 at *
            go_wp2
            exact ⟨⟨1, by go_num, by omega, HO, Blk.keep hX belB, belB⟩, by simp [intOf]; omega⟩
          · obtain ⟨q0, hq0⟩ : ∃ q, qs[j]? = some q := ⟨_, List.getElem?_eq_getElem (by have := HNQ.out; omega)⟩
            have hg : (qs[j + 1 - 1]?.getD (⟨#[]⟩, ⟨#[]⟩)).1 = q0.1 := by rw [Nat.add_sub_cancel, hq0]; rfl
            have hc4 : wr.cell? ⟨pb, po + j * 2, none⟩ = _ := HC.out _ _ (pairCells_at qs j q0 hq0).1
            have hsz0 := (HQS.out q0 (List.mem_of_getElem? hq0)).1
            obtain ⟨q0, v0⟩ := q0
            dsimp only at hc4 hg hsz0
            have hpk := HK.out
            rw [hg, h1, h2] at hpk
            clear HK hg hq0 h1 h2
            obtain ⟨t, ht⟩ : ∃ t, (Op.bytesLess q1.toList q0.toList || q1.toList == q0.toList) = t := ⟨_, rfl⟩
            rw [ht] at hpk
            cases t
            · have HO := Lib.hid (HTr.out (by rw [hpk]; simp))
              clear hpk HF HTr
              go_wp2_with fail
              have k1 := cell_regrown hc1; have k2 := cell_regrown hc2; have k3 := cell_regrown x2; have k4 := cell_regrown hc4
              refine wp_region_quiet_below (by kernel_rfl) (by kernel_rfl) ?_; (repeat (any_goals (first | go_big_quiet_step ((first | exact qcalls HN.out _ _ | exact qcalls HW.out _ _)) | quiet_step ((first | exact qcalls HN.out _ _ | exact qcalls HW.out _ _))))); refine wpQuiet_nil ?_; intro _ hwq; obtain ⟨⟨dq, osq⟩, hwq⟩ := hwq; subst hwq; have hb3 := below_regrown (wr) dq osq; generalize grow (redrawn (wr) dq) osq = w3 at *
              go_wp2
              exact ⟨⟨j + 1 + 1, by go_num, by omega, HO, Blk.keep hX belB, belB⟩, by simp [intOf]; omega⟩
            · have hv := HF.out (by rw [hpk]; simp)
              subst hv
              clear hpk HF HTr
              go_wp2_with fail
              have k1 := cell_regrown hc1; have k2 := cell_regrown hc2; have k3 := cell_regrown x2; have k4 := cell_regrown hc4
              refine wp_region_quiet_below (by kernel_rfl) (by kernel_rfl) ?_; (repeat (any_goals (first | go_big_quiet_step ((first | exact qcalls HN.out _ _ | exact qcalls HW.out _ _)) | quiet_step ((first | exact qcalls HN.out _ _ | exact qcalls HW.out _ _))))); refine wpQuiet_nil ?_; intro _ hwq; obtain ⟨⟨dq, osq⟩, hwq⟩ := hwq; subst hwq; have hb3 := below_regrown (wr) dq osq; generalize grow (redrawn (wr) dq) osq = w3 at *
              go_wp2
              go_ret
              exact ⟨rfl, belB⟩
        · obtain rfl : j = nq := by omega
          have hv := HV2.out
          rw [HJ.out, Bool.true_and] at hv
          by_cases hl : T.size ≤ 4096
          · rw [decide_eq_true hl] at hv
            subst hv
            have d3 : decide ((T.size : Int) ≤ 4096) = true := decide_eq_true (by omega)
            go_wp2_with (go_at_call 230; refine (HX.out _ (HP.out.keep belB) (HQ.out.keep belB)).mono ?_; rintro e w3 ⟨rfl, hb3⟩)
            go_ret
            exact ⟨rfl, belB⟩
          · rw [decide_eq_false hl] at hv
            subst hv
            have d3 : decide ((T.size : Int) ≤ 4096) = false := decide_eq_false (by omega)
            go_wp2_with (go_at_call 230; refine (HX.out _ (HP.out.keep belB) (HQ.out.keep belB)).mono ?_; rintro e w3 ⟨rfl, hb3⟩)
            go_ret
            exact ⟨rfl, belB⟩
def textR (c : ByteArray) (xs : List ByteArray) (qs : List (ByteArray × ByteArray)) : ByteArray × Int := if formedB c xs qs then (toB (W06 c xs qs), 0) else (⟨#[]⟩, 1)
theorem box2 (w : World) (a b : Obj) : ((w.alloc a).alloc b).heap[w.heap.size]? = some a ∧ ((w.alloc a).alloc b).heap[w.heap.size + 1]? = some b := by
  refine ⟨(Below.heap_alloc _ _ _ (by simp)).trans (World.alloc_heap_new w a), ?_⟩
  have := World.alloc_heap_new (w.alloc a) b
  rw [World.size_alloc] at this
  exact this
set_option maxHeartbeats 4000000 in
theorem rText2_any (c : ByteArray) (P Q : Option Addr) (np cp nq cq : Nat) (xs : List ByteArray) (qs : List (ByteArray × ByteArray)) (w : World)
    (hP : Reads w 1 P np (xs.map .string)) (hQ : Reads w 2 Q nq (pairCells qs)) (htot : (W06 c xs qs).length ≤ 1000000000) :
    Calls Tryz.prog 197 #[.agg #[.string c, .slice P np cp, .slice Q nq cq]] w (Ret w (.agg #[.string (textR c xs qs).1, .int .i64 (textR c xs qs).2])) := by
  have cF := fun W h1 h2 => rFormed_any c P Q np cp nq cq xs qs W h1 h2 htot
  have cX := fun W h1 h2 => rText_any c P Q np cp nq cq xs qs W h1 h2 htot
  have HP := Lib.hid hP; have HQ := Lib.hid hQ; have HX := Lib.hid cX
  clear hP hQ htot cX
  unfold textR
  generalize toB (W06 c xs qs) = T at *
  generalize formedB c xs qs = b at *
  have HF := Lib.hid cF
  clear cF
  cases b
  · go_enter Tryz.func197, Tryz.ntmps197
    go_wp2_with (go_at_call 229; refine (HF.out _ (HP.out.keep belB) (HQ.out.keep belB)).mono ?_; rintro e w1 ⟨rfl, hb1⟩; have hA1 : Boxed3 w1 w.heap.size c P np cp Q nq cq := (hb1.block w.heap.size (by simp; omega)).trans (box2 _ _ _).1; have hX1 : ResBox w1 (w.heap.size + 1) ⟨#[]⟩ 0 := (hb1.block (w.heap.size + 1) (by simp)).trans (box2 _ _ _).2; have a0 : w1.cell? ⟨w.heap.size, 0, none⟩ = some (.string c) := Blk.cell hA1 0; have a1 : w1.cell? ⟨w.heap.size, 1, none⟩ = some (.slice P np cp) := Blk.cell hA1 1; have a2 : w1.cell? ⟨w.heap.size, 2, none⟩ = some (.slice Q nq cq) := Blk.cell hA1 2; obtain ⟨x0, x1, f0, f1⟩ := hX1.facts; have hz1 : w.heap.size + 1 < w1.heap.size := Blk.lt hX1)
    exact bodyPost_ret (v := .agg #[.string ⟨#[]⟩, .int .i64 1]) (by simp [results, Tryz.results197, go_sem, hz1, x0, x1, f0, f1]) rfl ⟨rfl, belB⟩
  · go_enter Tryz.func197, Tryz.ntmps197
    go_wp2_with (first | (go_at_call 229; refine (HF.out _ (HP.out.keep belB) (HQ.out.keep belB)).mono ?_; rintro e w1 ⟨rfl, hb1⟩; have hA1 : Boxed3 w1 w.heap.size c P np cp Q nq cq := (hb1.block w.heap.size (by simp; omega)).trans (box2 _ _ _).1; have hX1 : ResBox w1 (w.heap.size + 1) ⟨#[]⟩ 0 := (hb1.block (w.heap.size + 1) (by simp)).trans (box2 _ _ _).2; have a0 : w1.cell? ⟨w.heap.size, 0, none⟩ = some (.string c) := Blk.cell hA1 0; have a1 : w1.cell? ⟨w.heap.size, 1, none⟩ = some (.slice P np cp) := Blk.cell hA1 1; have a2 : w1.cell? ⟨w.heap.size, 2, none⟩ = some (.slice Q nq cq) := Blk.cell hA1 2; obtain ⟨x0, x1, f0, f1⟩ := hX1.facts; have hz1 : w.heap.size + 1 < w1.heap.size := Blk.lt hX1) | (go_at_call 230; refine (HX.out _ (HP.out.keep belB) (HQ.out.keep belB)).mono ?_; rintro e w2 ⟨rfl, hb2⟩; have hX2 : ResBox w2 (w.heap.size + 1) ⟨#[]⟩ 0 := Blk.keep hX1 hb2; obtain ⟨y0, y1, g0, g1⟩ := hX2.facts; have hz2 : w.heap.size + 1 < w2.heap.size := Blk.lt hX2))
    exact bodyPost_ret (v := .agg #[.string T, .int .i64 0]) (by simp [results, Tryz.results197, go_sem, hz2, y0, y1, g0, g1]) rfl ⟨rfl, belB⟩
end Go.Proofs.YtdlbfjoemabfpaaGreatDoor
