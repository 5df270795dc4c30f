/- What the specification's Same returns of equal addresses; and few. -/
import Derived.Test.YtiglpecjpncclaaGreatDoorRef3
import Derived.Test.YtiglpecjpncclaaGreatDoorProg
import Derived.WalkKit
import Derived.WalkSpells
import Derived.WalkLawsBesides
import Derived.Below
import Derived.Deep.QuietTactic
import Derived.BigQuiet
import Derived.Lib.QuietBelow
import Derived.Lib.Strings
import Derived.Lib.Hide
import Derived.Deep.RegionWith
import Derived.Deep.RegionHeld3
import Derived.Lib.IndexBytes
namespace Go.Proofs.YtiglpecjpncclaaGreatDoor
open Go.RowKit Go.Sort
set_option linter.unusedVariables false
set_option linter.unusedSimpArgs false
set_option maxRecDepth 100000
set_option maxHeartbeats 4000000 in
theorem same_eq (c : ByteArray) (P Q P2 Q2 : Option Addr) (np cp nq cq cp2 cq2 : Nat) (xs : List ByteArray) (qs : List (ByteArray × ByteArray)) (w : World) (hP : Reads w 1 P np (xs.map .string)) (hQ : Reads w 2 Q nq (pairCells qs)) (hP2 : Reads w 1 P2 np (xs.map .string)) (hQ2 : Reads w 2 Q2 nq (pairCells qs)) (hn : np ≤ 1000000000) (hm : nq ≤ 1000000000) :
    Calls Tryz.prog 18 #[.agg #[.string c, .slice P np cp, .slice Q nq cq], .agg #[.string c, .slice P2 np cp2, .slice Q2 nq cq2]] w (Ret w (.bool true)) := by
  have hnp : xs.length = np := by have := hP.1; simp at this; omega
  have hnq : qs.length = nq := by have := hQ.1; rw [pairCells_length] at this; omega
  have HP := Lib.hid hP; have HQ := Lib.hid hQ; have HP2 := Lib.hid hP2; have HQ2 := Lib.hid hQ2; have HNP := Lib.hid hnp; have HNQ := Lib.hid hnq
  have b0 : (c.toList != c.toList) = false := by simp
  clear hP hQ hP2 hQ2 hnp hnq
  go_enter Tryz.func18, Tryz.ntmps18
  go_wp2
  have hX0 : Boxed3 ((w.alloc (.cells #[.string c, .slice P np cp, .slice Q nq cq] 25)).alloc (.cells #[.string c, .slice P2 np cp2, .slice Q2 nq cq2] 25)) w.heap.size c P np cp Q nq cq := (Below.heap_alloc _ _ _ (by simp)).trans (World.alloc_heap_new _ _)
  have hY0 : Boxed3 ((w.alloc (.cells #[.string c, .slice P np cp, .slice Q nq cq] 25)).alloc (.cells #[.string c, .slice P2 np cp2, .slice Q2 nq cq2] 25)) (w.heap.size + 1) c P2 np cp2 Q2 nq cq2 := by
    have := World.alloc_heap_new (w.alloc (.cells #[.string c, .slice P np cp, .slice Q nq cq] 25)) (.cells #[.string c, .slice P2 np cp2, .slice Q2 nq cq2] 25)
    rw [World.size_alloc] at this
    exact this
  go_loopw [5] (fun vi wr => ∃ k : Nat, vi = .int .i64 k ∧ k ≤ np ∧ Boxed3 wr w.heap.size c P np cp Q nq cq ∧ Boxed3 wr (w.heap.size + 1) c P2 np cp2 Q2 nq cq2 ∧ Below w.heap.size w wr) (fun i _ => np - (intOf i).toNat)
  case atStart => exact ⟨0, rfl, Nat.zero_le _, hX0, hY0, balloc (balloc (Below.refl _ _) _) _⟩
  case round =>
    clear hX0 hY0
    obtain ⟨k, rfl, hk, hX, hY, hbr⟩ := hrel
    have x1 : wr.cell? ⟨w.heap.size, 1, none⟩ = some (.slice P np cp) := Blk.cell hX 1
    have y1 : wr.cell? ⟨w.heap.size + 1, 1, none⟩ = some (.slice P2 np cp2) := Blk.cell hY 1
    by_cases hlt : k < np
    · obtain ⟨x, hx⟩ : ∃ x, xs[k]? = some x := ⟨_, List.getElem?_eq_getElem (by have := HNP.out; omega)⟩
      obtain ⟨b, o, rfl, hcell⟩ := (HP.out.keep hbr).2 (by omega)
      obtain ⟨b2, o2, rfl, hcell2⟩ := (HP2.out.keep hbr).2 (by omega)
      have hc1 : wr.cell? ⟨b, o + k, none⟩ = some (.string x) := hcell k _ (by simp [hx])
      have hc2 : wr.cell? ⟨b2, o2 + k, none⟩ = some (.string x) := hcell2 k _ (by simp [hx])
      have bx : (x.toList != x.toList) = false := by simp
      have hk0 : (0 : Int) ≤ (k : Int) := by omega
      have hk1 : (k : Int) < (np : Int) := by omega
      clear hcell hcell2 hx
      go_wp2_with fail
      go_quiet (fail)
      go_wp2
      exact ⟨⟨k + 1, by go_num, by omega, Blk.keep hX (by (repeat (first | exact Below.refl _ _ | assumption | refine Below.drew ?_ | refine balloc ?_ _ | refine bdrewN ?_ _ | refine Below.setCell ?_ (by first | (simp; done) | (simp; omega)) _ | refine bstep ?_ (by assumption)))), Blk.keep hY (by (repeat (first | exact Below.refl _ _ | assumption | refine Below.drew ?_ | refine balloc ?_ _ | refine bdrewN ?_ _ | refine Below.setCell ?_ (by first | (simp; done) | (simp; omega)) _ | refine bstep ?_ (by assumption)))), by (repeat (first | exact Below.refl _ _ | assumption | refine Below.drew ?_ | refine balloc ?_ _ | refine bdrewN ?_ _ | refine Below.setCell ?_ (by first | (simp; done) | (simp; omega)) _ | refine bstep ?_ (by assumption)))⟩, by simp [intOf]; omega⟩
    · obtain rfl : k = np := by omega
      have x2 : wr.cell? ⟨w.heap.size, 2, none⟩ = some (.slice Q nq cq) := Blk.cell hX 2
      go_wp2
      clear x1 x2 y1
      obtain ⟨wo, rfl⟩ : ∃ wo : World, wo = wr := ⟨_, rfl⟩
      go_loopw [6] (fun vi wz => ∃ j : Nat, vi = .int .i64 j ∧ j ≤ nq ∧ Boxed3 wz w.heap.size c P k cp Q nq cq ∧ Boxed3 wz (w.heap.size + 1) c P2 k cp2 Q2 nq cq2 ∧ Below w.heap.size w wz) (fun i _ => nq - (intOf i).toNat)
      case atStart => exact ⟨0, rfl, Nat.zero_le _, hX, hY, hbr⟩
      case round =>
        clear hX hY hbr
        obtain ⟨j, rfl, hj, hX, hY, hbr⟩ := hrel
        have x2 : wr.cell? ⟨w.heap.size, 2, none⟩ = some (.slice Q nq cq) := Blk.cell hX 2
        have y2 : wr.cell? ⟨w.heap.size + 1, 2, none⟩ = some (.slice Q2 nq cq2) := Blk.cell hY 2
        by_cases hlt2 : j < nq
        · obtain ⟨q, hq⟩ : ∃ q, qs[j]? = some q := ⟨_, List.getElem?_eq_getElem (by have := HNQ.out; omega)⟩
          obtain ⟨b, o, rfl, hcell⟩ := (HQ.out.keep hbr).2 (by omega)
          obtain ⟨b2, o2, rfl, hcell2⟩ := (HQ2.out.keep hbr).2 (by omega)
          obtain ⟨e1, e2⟩ := pairCells_at qs j q hq
          have hc1 : wr.cell? ⟨b, o + j * 2, none⟩ = _ := hcell _ _ e1
          have hc2 : wr.cell? ⟨b, o + j * 2 + 1, none⟩ = _ := hcell _ _ e2
          have hc3 : wr.cell? ⟨b2, o2 + j * 2, none⟩ = _ := hcell2 _ _ e1
          have hc4 : wr.cell? ⟨b2, o2 + j * 2 + 1, none⟩ = _ := hcell2 _ _ e2
          obtain ⟨qk, qv⟩ := q
          dsimp only at hc1 hc2 hc3 hc4
          have hj0 : (0 : Int) ≤ (j : Int) := by omega
          have hj1 : (j : Int) < (nq : Int) := by omega
          clear hcell hcell2 hq e1 e2
          go_wp2_with fail
          go_quiet (fail)
          go_wp2
          exact ⟨⟨j + 1, by go_num, by omega, Blk.keep hX (by (repeat (first | exact Below.refl _ _ | assumption | refine Below.drew ?_ | refine balloc ?_ _ | refine bdrewN ?_ _ | refine Below.setCell ?_ (by first | (simp; done) | (simp; omega)) _ | refine bstep ?_ (by assumption)))), Blk.keep hY (by (repeat (first | exact Below.refl _ _ | assumption | refine Below.drew ?_ | refine balloc ?_ _ | refine bdrewN ?_ _ | refine Below.setCell ?_ (by first | (simp; done) | (simp; omega)) _ | refine bstep ?_ (by assumption)))), by (repeat (first | exact Below.refl _ _ | assumption | refine Below.drew ?_ | refine balloc ?_ _ | refine bdrewN ?_ _ | refine Below.setCell ?_ (by first | (simp; done) | (simp; omega)) _ | refine bstep ?_ (by assumption)))⟩, by simp [intOf]; omega⟩
        · obtain rfl : j = nq := by omega
          go_wp2
          go_ret
          exact ⟨rfl, hbr⟩

end Go.Proofs.YtiglpecjpncclaaGreatDoor
