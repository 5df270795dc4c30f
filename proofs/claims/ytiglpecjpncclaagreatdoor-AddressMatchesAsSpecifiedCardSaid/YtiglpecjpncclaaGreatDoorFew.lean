/- What few returns. -/
import Derived.Test.YtiglpecjpncclaaGreatDoorSame
import Derived.Test.YtiglpecjpncclaaGreatDoorProg
import Derived.WalkKit
import Derived.WalkSpells
import Derived.WalkLawsBesides
import Derived.Below
import Derived.Deep.QuietTactic
import Derived.BigQuiet
import Derived.Lib.QuietBelow
import Derived.Lib.Strings
import Derived.Lib.Hide
import Derived.Deep.RegionWith
import Derived.Deep.RegionHeld3
import Derived.Lib.IndexBytes
namespace Go.Proofs.YtiglpecjpncclaaGreatDoor
open Go.RowKit Go.Sort
set_option linter.unusedVariables false
set_option linter.unusedSimpArgs false
set_option maxRecDepth 100000
def fewB (c : ByteArray) (xs : List ByteArray) (qs : List (ByteArray × ByteArray)) : Bool :=
  decide (c.size ≤ 200) && decide (xs.length ≤ 40) && decide (qs.length ≤ 20) && xs.all (fun x => decide (x.size ≤ 200)) && qs.all (fun q => decide (q.1.size ≤ 200) && decide (q.2.size ≤ 200))
theorem all_take {α : Type} {p : α → Bool} {l : List α} {k : Nat} {x : α} (h : (l.take k).all p = true) (hx : l[k]? = some x) (hp : p x = true) : (l.take (k + 1)).all p = true := by
  rw [List.take_add_one, hx]
  simp [h, hp]
theorem all_false {α : Type} {p : α → Bool} {l : List α} {k : Nat} {x : α} (hx : l[k]? = some x) (hp : p x = false) : l.all p = false := by
  rw [List.all_eq_false]
  exact ⟨x, List.mem_of_getElem? hx, by rw [hp]; decide⟩
set_option maxHeartbeats 4000000 in
theorem few_any (c : ByteArray) (P Q : Option Addr) (np cp nq cq : Nat) (xs : List ByteArray) (qs : List (ByteArray × ByteArray)) (w : World) (hP : Reads w 1 P np (xs.map .string)) (hQ : Reads w 2 Q nq (pairCells qs)) :
    Calls Tryz.prog 10 #[.agg #[.string c, .slice P np cp, .slice Q nq cq]] w (Ret w (.bool (fewB c xs qs))) := by
  have hnp : xs.length = np := by have := hP.1; simp at this; omega
  have hnq : qs.length = nq := by have := hQ.1; rw [pairCells_length] at this; omega
  obtain ⟨v, hv⟩ : ∃ v, v = fewB c xs qs := ⟨_, rfl⟩
  rw [← hv]
  unfold fewB at hv
  rw [hnp, hnq] at hv
  by_cases h1 : c.size ≤ 200
  rotate_left
  · obtain rfl : v = false := by rw [hv]; simp [h1]
    have d1 : decide ((200 : Int) < (c.size : Int)) = true := decide_eq_true (by omega)
    clear hv hP hQ hnp hnq
    go_enter Tryz.func10, Tryz.ntmps10
    go_wp2
    go_ret
    exact ⟨rfl, by (repeat (first | exact Below.refl _ _ | assumption | refine Below.drew ?_ | refine balloc ?_ _ | refine bdrewN ?_ _ | refine Below.setCell ?_ (by first | (simp; done) | (simp; omega)) _ | refine bstep ?_ (by assumption)))⟩
  have d1 : decide ((200 : Int) < (c.size : Int)) = false := decide_eq_false (by omega)
  by_cases h2 : np ≤ 40
  rotate_left
  · obtain rfl : v = false := by rw [hv]; simp [h2]
    have d2 : decide ((40 : Int) < (np : Int)) = true := decide_eq_true (by omega)
    clear hv hP hQ hnp hnq
    go_enter Tryz.func10, Tryz.ntmps10
    go_wp2
    go_ret
    exact ⟨rfl, by (repeat (first | exact Below.refl _ _ | assumption | refine Below.drew ?_ | refine balloc ?_ _ | refine bdrewN ?_ _ | refine Below.setCell ?_ (by first | (simp; done) | (simp; omega)) _ | refine bstep ?_ (by assumption)))⟩
  have d2 : decide ((40 : Int) < (np : Int)) = false := decide_eq_false (by omega)
  by_cases h3 : nq ≤ 20
  rotate_left
  · obtain rfl : v = false := by rw [hv]; simp [h3]
    have d3 : decide ((20 : Int) < (nq : Int)) = true := decide_eq_true (by omega)
    clear hv hP hQ hnp hnq
    go_enter Tryz.func10, Tryz.ntmps10
    go_wp2
    go_ret
    exact ⟨rfl, by (repeat (first | exact Below.refl _ _ | assumption | refine Below.drew ?_ | refine balloc ?_ _ | refine bdrewN ?_ _ | refine Below.setCell ?_ (by first | (simp; done) | (simp; omega)) _ | refine bstep ?_ (by assumption)))⟩
  have d3 : decide ((20 : Int) < (nq : Int)) = false := decide_eq_false (by omega)
  have hv2 : v = (xs.all (fun x => decide (x.size ≤ 200)) && qs.all (fun q => decide (q.1.size ≤ 200) && decide (q.2.size ≤ 200))) := by rw [hv]; simp [h1, h2, h3]
  have HV := Lib.hid hv2; have HP := Lib.hid hP; have HQ := Lib.hid hQ; have HNP := Lib.hid hnp; have HNQ := Lib.hid hnq
  clear hv hv2 hP hQ hnp hnq
  go_enter Tryz.func10, Tryz.ntmps10
  go_wp2
  have hX0 : Boxed3 (w.alloc (.cells #[.string c, .slice P np cp, .slice Q nq cq] 25)) w.heap.size c P np cp Q nq cq := World.alloc_heap_new _ _
  go_loopw [3] (fun vi wr => ∃ k : Nat, vi = .int .i64 k ∧ k ≤ np ∧ Hid ((xs.take k).all (fun x => decide (x.size ≤ 200)) = true) ∧ Boxed3 wr w.heap.size c P np cp Q nq cq ∧ Below w.heap.size w wr) (fun i _ => np - (intOf i).toNat)
  case atStart => exact ⟨0, rfl, Nat.zero_le _, Lib.hid (by simp), hX0, balloc (Below.refl _ _) _⟩
  case round =>
    clear hX0
    obtain ⟨k, rfl, hk, HK, hX, hbr⟩ := hrel
    have x1 : wr.cell? ⟨w.heap.size, 1, none⟩ = some (.slice P np cp) := Blk.cell hX 1
    by_cases hlt : k < np
    · obtain ⟨x, hx⟩ : ∃ x, xs[k]? = some x := ⟨_, List.getElem?_eq_getElem (by have := HNP.out; omega)⟩
      obtain ⟨b, o, rfl, hcell⟩ := (HP.out.keep hbr).2 (by omega)
      have hc1 : wr.cell? ⟨b, o + k, none⟩ = some (.string x) := hcell k _ (by simp [hx])
      have hk0 : (0 : Int) ≤ (k : Int) := by omega
      have hk1 : (k : Int) < (np : Int) := by omega
      clear hcell
      by_cases hz : x.size ≤ 200
      · have HK2 := Lib.hid (all_take HK.out hx (decide_eq_true hz))
        have e1 : decide ((200 : Int) < (x.size : Int)) = false := decide_eq_false (by omega)
        clear hx HK
        go_wp2
        exact ⟨⟨k + 1, by go_num, by omega, HK2, hX, hbr⟩, by simp [intOf]; omega⟩
      · obtain rfl : v = false := by rw [HV.out, all_false hx (decide_eq_false hz)]; rfl
        have e1 : decide ((200 : Int) < (x.size : Int)) = true := decide_eq_true (by omega)
        clear hx HK
        go_wp2
        go_ret
        exact ⟨rfl, hbr⟩
    · obtain rfl : k = np := by omega
      have HALL : Hid (xs.all (fun x => decide (x.size ≤ 200)) = true) := Lib.hid (by
        have := HK.out
        rwa [List.take_of_length_le (by have := HNP.out; omega)] at this)
      clear HK
      have x2 : wr.cell? ⟨w.heap.size, 2, none⟩ = some (.slice Q nq cq) := Blk.cell hX 2
      go_wp2
      clear x1 x2
      obtain ⟨wo, rfl⟩ : ∃ wo : World, wo = wr := ⟨_, rfl⟩
      go_loopw [4] (fun vi wz => ∃ j : Nat, vi = .int .i64 j ∧ j ≤ nq ∧ Hid ((qs.take j).all (fun q => decide (q.1.size ≤ 200) && decide (q.2.size ≤ 200)) = true) ∧ Boxed3 wz w.heap.size c P k cp Q nq cq ∧ Below w.heap.size w wz) (fun i _ => nq - (intOf i).toNat)
      case atStart => exact ⟨0, rfl, Nat.zero_le _, Lib.hid (by simp), hX, hbr⟩
      case round =>
        clear hX hbr
        obtain ⟨j, rfl, hj, HK, hX, hbr⟩ := hrel
        have x2 : wr.cell? ⟨w.heap.size, 2, none⟩ = some (.slice Q nq cq) := Blk.cell hX 2
        by_cases hlt2 : j < nq
        · obtain ⟨q, hq⟩ : ∃ q, qs[j]? = some q := ⟨_, List.getElem?_eq_getElem (by have := HNQ.out; omega)⟩
          obtain ⟨b, o, rfl, hcell⟩ := (HQ.out.keep hbr).2 (by omega)
          obtain ⟨e1, e2⟩ := pairCells_at qs j q hq
          have hc1 : wr.cell? ⟨b, o + j * 2, none⟩ = _ := hcell _ _ e1
          have hc2 : wr.cell? ⟨b, o + j * 2 + 1, none⟩ = _ := hcell _ _ e2
          have hj0 : (0 : Int) ≤ (j : Int) := by omega
          have hj1 : (j : Int) < (nq : Int) := by omega
          clear hcell e1 e2
          by_cases hz : q.1.size ≤ 200
          · have e1 : decide ((200 : Int) < (q.1.size : Int)) = false := decide_eq_false (by omega)
            by_cases hz2 : q.2.size ≤ 200
            · have e2 : decide ((200 : Int) < (q.2.size : Int)) = false := decide_eq_false (by omega)
              have HK2 := Lib.hid (all_take HK.out hq (by simp [hz, hz2]))
              clear hq HK
              obtain ⟨qk, qv⟩ := q
              dsimp only at hc1 hc2 e1 e2 hz hz2
              go_wp2
              exact ⟨⟨j + 1, by go_num, by omega, HK2, hX, hbr⟩, by simp [intOf]; omega⟩
            · have e2 : decide ((200 : Int) < (q.2.size : Int)) = true := decide_eq_true (by omega)
              obtain rfl : v = false := by rw [HV.out, all_false hq (by simp [hz2])]; simp
              clear hq HK
              obtain ⟨qk, qv⟩ := q
              dsimp only at hc1 hc2 e1 e2 hz hz2
              go_wp2
              go_ret
              exact ⟨rfl, hbr⟩
          · have e1 : decide ((200 : Int) < (q.1.size : Int)) = true := decide_eq_true (by omega)
            obtain rfl : v = false := by rw [HV.out, all_false hq (by simp [hz])]; simp
            clear hq HK
            obtain ⟨qk, qv⟩ := q
            dsimp only at hc1 hc2 e1 hz
            go_wp2
            go_ret
            exact ⟨rfl, hbr⟩
        · obtain rfl : j = nq := by omega
          obtain rfl : v = true := by
            have := HK.out
            rw [List.take_of_length_le (by have := HNQ.out; omega)] at this
            rw [HV.out, HALL.out, this]; rfl
          go_wp2
          go_ret
          exact ⟨rfl, hbr⟩

end Go.Proofs.YtiglpecjpncclaaGreatDoor
