/- The schedule of a block. -/
import Derived.Test.YtjhlpkhfdghngaaGreatDoorXZ10
import Derived.Test.YtjhlpkhfdghngaaGreatDoorXZ6
import Derived.LoopTactic
import Derived.RegionTactic
import Derived.StillTailTactics
import Derived.IntWalk
import Derived.Test.YtjhlpkhfdghngaaGreatDoorProg
import Derived.WalkKit
import Derived.WalkSpells
import Derived.WalkLawsBesides
import Derived.Below
import Derived.Deep.QuietTactic
import Derived.BigQuiet
import Derived.Lib.QuietBelow
import Derived.Lib.Strings
import Derived.Lib.Hide
import Derived.Deep.RegionWith
import Derived.Deep.RegionHeld3
import Derived.Lib.IndexBytes
import Derived.Deep.DeepCutAuto
import Derived.Test.YtjhlpkhfdghngaaGreatDoorXZ7
namespace Go.Proofs.YtjhlpkhfdghngaaGreatDoor
open Go.RowKit Go.Sort
set_option linter.unusedVariables false
set_option linter.unusedSimpArgs false
set_option maxRecDepth 100000
def b8 (l : List Nat) : List Value := l.map fun x : Nat => Value.int .u8 (x : Int)
theorem b8_at (l : List Nat) {k : Nat} (hk : k < l.length) : (b8 l)[k]? = some (.int .u8 ((l.getD k 0 : Nat) : Int)) := by
  simp [b8, List.getD_eq_getElem?_getD, List.getElem?_eq_getElem hk]
def pre (S : List Nat) (t : Nat) : List Nat := S.take t ++ List.replicate (64 - t) 0
section
variable {S : List Nat}
theorem pre_len (hS : S.length = 64) {t : Nat} (h : t ≤ 64) : (pre S t).length = 64 := by
  unfold pre; simp [hS]; omega
theorem pre_lt (hS : S.length = 64) {t k : Nat} (hk : k < t) (ht : t ≤ 64) : (pre S t).getD k 0 = S.getD k 0 := by
  unfold pre
  rw [List.getD_eq_getElem?_getD, List.getElem?_append_left (by simp [hS]; omega), ← List.getD_eq_getElem?_getD, Sha.getD_take hk]
theorem pre_ge (hS : S.length = 64) {t k : Nat} (hk : t ≤ k) (ht : t ≤ 64) : (pre S t).getD k 0 = 0 := by
  unfold pre
  rw [List.getD_eq_getElem?_getD, List.getElem?_append_right (by simp [hS]; omega)]
  rw [List.getElem?_replicate]
  split <;> simp
theorem at64 (l : List Nat) (hl : l.length = 64) (k : Nat) : l[k]? = if k < 64 then some (l.getD k 0) else none := by
  split
  · rw [List.getD_eq_getElem?_getD, List.getElem?_eq_getElem (by omega)]; simp
  · exact List.getElem?_eq_none (by omega)
theorem pre_succ (hS : S.length = 64) {t : Nat} (ht : t < 64) : (pre S t).set t (S.getD t 0) = pre S (t + 1) := by
  apply List.ext_getElem?
  intro k
  rw [at64 _ (by rw [List.length_set]; exact pre_len hS (by omega)), at64 _ (pre_len hS (by omega))]
  split
  · congr 1
    rcases Nat.lt_trichotomy k t with h | h | h
    · rw [pre_lt hS (by omega) (by omega), ← pre_lt hS h (by omega), List.getD_eq_getElem?_getD, List.getElem?_set_ne (by omega), ← List.getD_eq_getElem?_getD]
    · subst h
      rw [pre_lt hS (by omega) (by omega), List.getD_eq_getElem?_getD, List.getElem?_set_self (by rw [pre_len hS (by omega)]; omega), Option.getD_some]
    · rw [pre_ge hS (by omega) (by omega), List.getD_eq_getElem?_getD, List.getElem?_set_ne (by omega), ← List.getD_eq_getElem?_getD, pre_ge hS (Nat.le_of_lt h) (by omega)]
  · rfl
theorem pre_zero (S : List Nat) : pre S 0 = List.replicate 64 0 := by simp [pre]
theorem pre_all (hS : S.length = 64) : pre S 64 = S := by
  unfold pre
  rw [List.take_of_length_le (by omega)]; simp
theorem pre_none (hS : S.length = 64) {t : Nat} (ht : t < 64) : (pre S t).set t 0 = pre S t := by
  apply List.ext_getElem?
  intro k
  by_cases h : t = k
  · subst h
    rw [List.getElem?_set_self (by rw [pre_len hS (by omega)]; omega), at64 _ (pre_len hS (by omega)), if_pos ht, pre_ge hS (Nat.le_refl _) (by omega)]
  · rw [List.getElem?_set_ne h]
theorem set_set (L : List Nat) (t a v : Nat) : (L.set t a).set t v = L.set t v := List.set_set ..
theorem set_at {L : List Nat} {t v : Nat} (h : t < L.length) : (L.set t v).getD t 0 = v := by
  rw [List.getD_eq_getElem?_getD, List.getElem?_set_self h, Option.getD_some]
end
theorem or8 (a x : Nat) (ha : a < 16777216) (hx : x < 256) : bits .or .u32 ((a : Int) * 256) (x : Int) = ((a * 256 + x : Nat) : Int) := by
  have h := u32_or_nat (a * 256) x (by omega) (by omega)
  rw [Sha.or_byte a x hx] at h
  have e : ((a * 256 : Nat) : Int) = (a : Int) * 256 := by omega
  rw [e] at h; exact h
structure Sched (b S : List Nat) : Prop where
  len : S.length = 64
  lo : ∀ t, t < 16 → S.getD t 0 = Sha.part (b.drop (4 * t)) 4
  hi : ∀ t, 16 ≤ t → t < 64 → S.getD t 0 = Sha.add32 (Sha.add32 (Sha.add32 (S.getD (t - 16) 0) (Sha.s0 (S.getD (t - 15) 0))) (S.getD (t - 7) 0)) (Sha.s1 (S.getD (t - 2) 0))
  lt : ∀ t, S.getD t 0 < 4294967296
theorem sched_is {b : List Nat} (hb : ∀ x ∈ b, x < 256) : Sched b (Sha.sched b) :=
  ⟨Sha.sched_len b, fun t h => by rw [Sha.sched_lo b t h, Sha.part4], Sha.sched_hi b, Sha.sched_lt hb⟩
set_option maxHeartbeats 4000000 in
theorem schedule_any (A : Option Addr) (c : Nat) (b : List Nat) (w : World) (hR : Reads w 1 A 64 (b8 b)) (hb : ∀ x ∈ b, x < 256) (hc : 64 ≤ c) (hc2 : c ≤ 1000000000) :
    Calls Tryz.prog 251 #[.slice A 64 c] w (Ret w (.agg (w32 (Sha.sched b)).toArray)) := by
  obtain ⟨bb, bo, rfl, hcell⟩ := hR.2 (by decide)
  have hbl : b.length = 64 := by have := hR.1; simpa [b8] using this
  have hlt : bb < w.heap.size := by
    have := hcell 0 _ (b8_at b (k := 0) (by omega))
    exact cell_lt this
  have hS := sched_is hb
  generalize Sha.sched b = S at *
  have HS := Lib.hid hS
  have HB := Lib.hid hb; have HL := Lib.hid hbl; have HC := Lib.hid (fun k hk => hcell k _ (b8_at b (k := k) hk))
  clear hR hb hbl hcell hS
  go_enter Tryz.func251, Tryz.ntmps251
  go_wp2
  go_loopw [11] (fun i wr => ∃ t : Nat, t ≤ 64 ∧ i = .int .i64 t ∧ Hid (Row32 wr (w.heap.size + 1) 276 (pre S t)) ∧ Hid (Row32 wr w.heap.size 276 (pre S 0)) ∧ Below w.heap.size w wr) (fun i _ => 64 - (intOf i).toNat)
  case atStart =>
    refine ⟨0, by omega, rfl, Lib.hid ?_, Lib.hid ?_, belB⟩
    · rw [pre_zero]; exact Eq.trans (heap_alloc2_new w _ _) rfl
    · rw [pre_zero]; exact Eq.trans (heap_alloc2_old w _ _) rfl
  case round =>
    obtain ⟨t, ht, rfl, HW, HZ, hbw⟩ := hrel
    have hsz : w.heap.size + 1 < wr.heap.size := HW.out.lt
    by_cases h64 : t < 64
    · by_cases h16 : t < 16
      · have hct : 4 * t + 4 ≤ c := by omega
        have hpd : ∀ j, j < 4 → wr.cell? ⟨bb, bo + (4 * t + j), none⟩ = some (.int .u8 (b.getD (4 * t + j) 0 : Nat)) := fun j hj => cell_keep hbw (HC.out (4 * t + j) (by have := HL.out; omega))
        have HP := Lib.hid hpd
        clear hpd
        obtain ⟨d, hd⟩ : ∃ d, d = b.drop (4 * t) := ⟨_, rfl⟩
        have hdl : ∀ j, d.getD j 0 = b.getD (4 * t + j) 0 := fun j => by rw [hd, Sha.getD_drop]
        have hdb : ∀ j, d.getD j 0 < 256 := fun j => by rw [hdl]; exact Sha.getD_lt HB.out _
        have h4 : Sha.part d 4 = S.getD t 0 := by rw [hd]; exact (HS.out.lo t h16).symm
        have HD := Lib.hid hdl; have HE := Lib.hid hdb; have H4 := Lib.hid h4
        clear hd hdl hdb h4
        go_wp2_with fail
        obtain ⟨wo, rfl⟩ : ∃ wo : World, wo = wr := ⟨_, rfl⟩
        go_loopw [24] (fun i wi => ∃ j : Nat, j ≤ 4 ∧ i = .int .i64 j ∧ Hid (Row32 wi (w.heap.size + 1) 276 ((pre S t).set t (Sha.part d j))) ∧ Hid (Row32 wi w.heap.size 276 (pre S 0)) ∧ Below w.heap.size w wi) (fun i _ => 4 - (intOf i).toNat)
        case atStart =>
          refine ⟨0, by omega, rfl, Lib.hid ?_, HZ, hbw⟩
          show Row32 _ _ _ ((pre S t).set t 0)
          rw [pre_none HS.out.len h64]; exact HW.out
        case round =>
          obtain ⟨j, hj, rfl, HW2, HZ2, hb2⟩ := hrel
          have hsz2 : w.heap.size + 1 < wr.heap.size := HW2.out.lt
          by_cases hj4 : j < 4
          · have hx : wr.cell? ⟨bb, bo + 4 * t + j, none⟩ = some (.int .u8 (d.getD j 0 : Nat)) := by rw [HD.out j, Nat.add_assoc]; exact cell_keep hb2 (HC.out (4 * t + j) (by have := HL.out; omega))
            have hy := HE.out j
            have hp := Sha.part_lt d HE.out j
            have hp2 : Sha.part d j < 16777216 := by
              have : 256 ^ j ≤ 256 ^ 3 := Nat.pow_le_pow_right (by decide) (by omega)
              omega
            have hcw := HW2.out.cell (k := t) (by rw [List.length_set, pre_len HS.out.len (by omega)]; exact h64)
            rw [set_at (by rw [pre_len HS.out.len (by omega)]; exact h64)] at hcw
            have hfw := HW2.out.free t
            have ho := or8 (Sha.part d j) (d.getD j 0) hp2 hy
            have hs : Sha.part d (j + 1) = Sha.part d j * 256 + d.getD j 0 := rfl
            rw [← hs] at ho
            have HW3 : Hid (∀ W, Row32 W (w.heap.size + 1) 276 ((pre S t).set t (Sha.part d j)) → Row32 (W.setCell ⟨w.heap.size + 1, t, none⟩ (.int .u32 (Sha.part d (j + 1) : Nat))) (w.heap.size + 1) 276 ((pre S t).set t (Sha.part d (j + 1)))) := Lib.hid fun W h => by
              have := h.set_ t (Sha.part d (j + 1))
              rw [set_set] at this; exact this
            clear hs hp
            generalize d.getD j 0 = x at *
            generalize Sha.part d j = y at *
            go_wp2_with fail
            exact ⟨⟨j + 1, by omega, by go_num, Lib.hid (HW3.out _ HW2.out), Lib.hid (HZ2.out.far _ _ (by simp)), belB⟩, by simp [intOf]; omega⟩
          · have hj' : j = 4 := by omega
            have HW3 : Hid (Row32 wr (w.heap.size + 1) 276 (pre S (t + 1))) := Lib.hid (by
              have := HW2.out
              rw [hj', H4.out, pre_succ HS.out.len h64] at this; exact this)
            clear hj'
            go_wp2_with fail
            exact ⟨⟨t + 1, by omega, by go_num, HW3, HZ2, hb2⟩, by simp [intOf]; omega⟩
      · have e1 := pre_lt HS.out.len (k := t - 15) (t := t) (by omega) ht
        have e2 := pre_lt HS.out.len (k := t - 2) (t := t) (by omega) ht
        have e3 := pre_lt HS.out.len (k := t - 16) (t := t) (by omega) ht
        have e4 := pre_lt HS.out.len (k := t - 7) (t := t) (by omega) ht
        have c1 := HW.out.cell (k := t - 15) (by rw [pre_len HS.out.len (by omega)]; omega)
        have c2 := HW.out.cell (k := t - 2) (by rw [pre_len HS.out.len (by omega)]; omega)
        have c3 := HW.out.cell (k := t - 16) (by rw [pre_len HS.out.len (by omega)]; omega)
        have c4 := HW.out.cell (k := t - 7) (by rw [pre_len HS.out.len (by omega)]; omega)
        have c5 := HW.out.cell (k := t) (by rw [pre_len HS.out.len (by omega)]; omega)
        have f5 := HW.out.free t
        rw [e1] at c1; rw [e2] at c2; rw [e3] at c3; rw [e4] at c4
        clear e1 e2 e3 e4
        have hi := HS.out.hi t (by omega) h64
        have l1 := HS.out.lt (t - 15)
        have l2 := HS.out.lt (t - 2)
        have l3 := HS.out.lt (t - 16)
        have l4 := HS.out.lt (t - 7)
        have HN : Hid (∀ W, Row32 W (w.heap.size + 1) 276 (pre S t) → Row32 (W.setCell ⟨w.heap.size + 1, t, none⟩ (.int .u32 (S.getD t 0 : Nat))) (w.heap.size + 1) 276 (pre S (t + 1))) := Lib.hid fun W h => by
          have := h.set_ t (S.getD t 0)
          rw [pre_succ HS.out.len h64] at this; exact this
        generalize S.getD t 0 = x0 at *
        generalize S.getD (t - 15) 0 = p at *
        generalize S.getD (t - 2) 0 = q at *
        generalize S.getD (t - 16) 0 = x3 at *
        generalize S.getD (t - 7) 0 = x4 at *
        have i1 : (0 : Int) ≤ (t : Int) - 15 := by omega
        have i2 : (0 : Int) ≤ (t : Int) - 2 := by omega
        have i3 : (0 : Int) ≤ (t : Int) - 16 := by omega
        have i4 : (0 : Int) ≤ (t : Int) - 7 := by omega
        have n1 : ((t : Int) - 15).toNat = t - 15 := by omega
        have n2 : ((t : Int) - 2).toNat = t - 2 := by omega
        have n3 : ((t : Int) - 16).toNat = t - 16 := by omega
        have n4 : ((t : Int) - 7).toNat = t - 7 := by omega
        have HI := Lib.hid hi
        clear hi
        have r1 := Lib.hid fun W => rotl_same p 7 W l1 (by omega) (by omega)
        have r2 := Lib.hid fun W => rotl_same p 18 W l1 (by omega) (by omega)
        have r3 := Lib.hid fun W => rotl_same q 17 W l2 (by omega) (by omega)
        have r4 := Lib.hid fun W => rotl_same q 19 W l2 (by omega) (by omega)
        have x1 := xor_words (Sha.rot p 7) (Sha.rot p 18) (Sha.rot_lt p 7 l1) (Sha.rot_lt p 18 l1)
        have x2 : bits .xor .u32 ((Sha.rot p 7 ^^^ Sha.rot p 18 : Nat) : Int) ((p : Int) / 8) = ((Sha.s0 p : Nat) : Int) := xor_words (Sha.rot p 7 ^^^ Sha.rot p 18) (p / 8) (Sha.xor_lt (Sha.rot_lt p 7 l1) (Sha.rot_lt p 18 l1)) (by omega)
        have x3' := xor_words (Sha.rot q 17) (Sha.rot q 19) (Sha.rot_lt q 17 l2) (Sha.rot_lt q 19 l2)
        have x4' : bits .xor .u32 ((Sha.rot q 17 ^^^ Sha.rot q 19 : Nat) : Int) ((q : Int) / 1024) = ((Sha.s1 q : Nat) : Int) := xor_words (Sha.rot q 17 ^^^ Sha.rot q 19) (q / 1024) (Sha.xor_lt (Sha.rot_lt q 17 l2) (Sha.rot_lt q 19 l2)) (by omega)
        have l5 := Sha.s0_lt p l1
        have l6 := Sha.s1_lt q l2
        go_wp2_with fail
        go_quiet (fail)
        go_wp2_with fail
        refine (r1.out _).mono ?_
        rintro e w1 ⟨rfl, rfl⟩
        go_wp2_with fail
        refine (r2.out _).mono ?_
        rintro e w1 ⟨rfl, rfl⟩
        go_wp2_with fail
        refine (r3.out _).mono ?_
        rintro e w1 ⟨rfl, rfl⟩
        go_wp2_with fail
        refine (r4.out _).mono ?_
        rintro e w1 ⟨rfl, rfl⟩
        go_wp2_with fail
        generalize Sha.s0 p = s0 at *
        generalize Sha.s1 q = s1 at *
        have v3 : IntKind.i64.wrap ((t : Int) - 16) = (t : Int) - 16 := IntWalk.i64_in _ (by omega)
        have v4 : IntKind.i64.wrap ((t : Int) - 7) = (t : Int) - 7 := IntWalk.i64_in _ (by omega)
        have j3 : (t : Int) - 16 < 64 := by omega
        have j4 : (t : Int) - 7 < 64 := by omega
        have j5 : (7 : Int) ≤ t := by omega
        obtain ⟨wd, hwd⟩ : ∃ wd, wd = (wr.drewN nq).drew := ⟨_, rfl⟩
        have d3 : wd.cell? ⟨w.heap.size + 1, t - 16, none⟩ = some (.int .u32 x3) := by rw [hwd]; exact c3
        have d4 : wd.cell? ⟨w.heap.size + 1, t - 7, none⟩ = some (.int .u32 x4) := by rw [hwd]; exact c4
        have d5 : wd.cell? ⟨w.heap.size + 1, t, none⟩ = some (.int .u32 ((pre S t).getD t 0 : Nat)) := by rw [hwd]; exact c5
        have df : wd.frozen? ⟨w.heap.size + 1, t, none⟩ = false := by rw [hwd]; exact f5
        have HW' : Hid (Row32 wd (w.heap.size + 1) 276 (pre S t)) := Lib.hid (by rw [hwd]; exact HW.out)
        have HZ' : Hid (Row32 wd w.heap.size 276 (pre S 0)) := Lib.hid (by rw [hwd]; exact HZ.out)
        have hbd : Below w.heap.size w wd := by rw [hwd]; exact (bdrewN hbw _).drew
        have hszd : w.heap.size + 1 < wd.heap.size := HW'.out.lt
        refine wp_region_still_tail 14 (by kernel_rfl) (by kernel_rfl) ?_
        simp only [List.take_succ_cons, List.take_zero, List.drop_succ_cons, List.drop_zero]
        change wpStill _ _ (wr.drewN nq).drew _ _ _
        rw [← hwd]
        clear c1 c2 c3 c4 c5 f5 HW HZ hbw hsz
        have HWD := Lib.hid hwd
        clear hwd
        repeat still_step
        refine wpStill_nil ?_
        change wpList _ _ _ _ _ (wr.drewN nq).drew
        rw [← HWD.out]
        clear v3 v4 j3 j4 j5 HWD
        go_wp2_with fail
        refine ⟨⟨t + 1, by omega, by go_num, Lib.hid ?_, Lib.hid (HZ'.out.far _ _ (by simp)), belB⟩, by simp [intOf]; omega⟩
        have := HN.out _ HW'.out
        rw [show ((x0 : Nat) : Int) = ((x3 : Int) + s0 + x4 + s1) % 4294967296 by rw [HI.out]; unfold Sha.add32; omega] at this
        exact this
    · have he : t = 64 := by omega
      have HW2 : Hid (Row32 wr (w.heap.size + 1) 276 S) := Lib.hid (by
        have := HW.out
        rw [he, pre_all HS.out.len] at this; exact this)
      have hl : (w32 S).length = 64 := by rw [w32_len, HS.out.len]
      have hi : (Tryz.prog.info? 276).map (·.size) = some (w32 S).toArray.size := by rw [List.size_toArray, hl]; kernel_rfl
      have hpl : (w32 (pre S 0)).toArray.size = (w32 S).toArray.size := by rw [List.size_toArray, List.size_toArray, hl, w32_len, pre_len HS.out.len (by omega)]
      have h1 : (w32 S).toArray.all (·.oneCell') = true := by rw [List.all_toArray, List.all_eq_true]; exact w32_one S
      clear he HW
      go_wp2_with (first | (refine wpList_load_row rfl _ _ rfl (w.heap.size + 1) rfl _ (w32 S).toArray (0, 0) _ HW2.out Tryz.underlying276 rfl hi ?_) | (refine wpList_store_row rfl _ _ _ rfl w.heap.size (w32 S).toArray rfl rfl _ _ HZ.out hi hpl h1 ?_))
      refine bodyPost_ret (v := .agg (w32 S).toArray) ?_ rfl ⟨rfl, ?_⟩
      · exact results_cell_row rfl _ _ w.heap.size _ _ (0, 0) _ rfl (setRow_heap _ _ _ _ _ _ HZ.out) Tryz.underlying276 rfl hi
      · exact below_setRow hbw (Nat.le_refl _) _
end Go.Proofs.YtjhlpkhfdghngaaGreatDoor
namespace Go.Proofs.YtjhlpkhfdghngaaGreatDoor
open Go.RowKit Go.Sort
set_option linter.unusedVariables false
set_option linter.unusedSimpArgs false
set_option maxRecDepth 100000
def Ks (w : World) : Prop := ∃ t fr, w.heap[1]? = some (.cells (w32 Sha.ks).toArray t fr)
theorem Ks.keep {w w' : World} (h : Ks w) (hb : Below w.heap.size w w') : Ks w' := by
  obtain ⟨t, fr, h⟩ := h
  refine ⟨t, fr, (hb.block _ ?_).trans h⟩
  rcases Nat.lt_or_ge 1 w.heap.size with hlt | hge
  · exact hlt
  · rw [Array.getElem?_eq_none hge] at h; cases h
theorem inf32 : (Tryz.prog.info? 182).map (·.size) = some 1 := by kernel_rfl
theorem run_index_w32 (w : World) (L : List Nat) (hL : L.length = 64) (t : Nat) (ht : t < 64) : (Instr.index 276 (.agg (w32 L).toArray) (.int .i64 t)).run Tryz.prog w = .ok (.int .u32 (L.getD t 0 : Nat)) w := by
  have h1 := run_underlying Tryz.underlying276 w
  have h2 := run_underlying Tryz.underlying182 w
  have h3 : (w32 L)[t]? = some (.int .u32 (L.getD t 0 : Nat)) := w32_at L (by omega)
  have h4 : (w32 L).toArray[t]? = some (.int .u32 (L.getD t 0 : Nat)) := by rw [List.getElem?_toArray]; exact h3
  have hi := inf32
  cases hq : Tryz.prog.info? 182 with
  | none => rw [hq] at hi; cases hi
  | some i =>
    have hs : i.size = 1 := by rw [hq] at hi; simpa using hi
    have h5 : (t : Int) < 64 := by omega
    have h6 : (0 : Int) ≤ t := by omega
    generalize (w32 L).toArray = cs at *
    simp [Instr.index, asIntOf, part, isAgg, sizeOf, typeInfo, h1, h2, hq, hs, h5, h6, h4]
    intro h7; omega
theorem run_arrayAt4 (w : World) (a : Addr) (n c : Nat) (hn : 4 ≤ n) : (Instr.arrayAt 278 (.slice (some a) n c)).run Tryz.prog w = .ok (.pointer (some a)) w := by
  have h1 := run_underlying Tryz.underlying278 w
  have h2 : ¬ n < 4 := by omega
  simp [Instr.arrayAt, h1, h2]
theorem W4_put {w : World} {g a b c d : Nat} (h : Row32 w g 278 [a, b, c, d]) (x y z u : Nat) : Row32 ((((w.setCell ⟨g, 0, none⟩ (.int .u32 (x : Int))).setCell ⟨g, 1, none⟩ (.int .u32 (y : Int))).setCell ⟨g, 2, none⟩ (.int .u32 (z : Int))).setCell ⟨g, 3, none⟩ (.int .u32 (u : Int))) g 278 [x, y, z, u] :=
  (((h.set_ 0 x).set_ 1 y).set_ 2 z).set_ 3 u
theorem far4 {w : World} {k g : Nat} {t : TypeId} {cs : List Value} (h : RowV w k t cs) (hk : k ≠ g) (x y z u : Value) : RowV ((((w.setCell ⟨g, 0, none⟩ x).setCell ⟨g, 1, none⟩ y).setCell ⟨g, 2, none⟩ z).setCell ⟨g, 3, none⟩ u) k t cs :=
  (((h.far ⟨g, 0, none⟩ x hk).far ⟨g, 1, none⟩ y hk).far ⟨g, 2, none⟩ z hk).far ⟨g, 3, none⟩ u hk
theorem below4 {B g : Nat} {w0 w : World} (h : Below B w0 w) (hg : B ≤ g) (x y z u : Value) : Below B w0 ((((w.setCell ⟨g, 0, none⟩ x).setCell ⟨g, 1, none⟩ y).setCell ⟨g, 2, none⟩ z).setCell ⟨g, 3, none⟩ u) :=
  (((h.setCell (p := ⟨g, 0, none⟩) hg x).setCell (p := ⟨g, 1, none⟩) hg y).setCell (p := ⟨g, 2, none⟩) hg z).setCell (p := ⟨g, 3, none⟩) hg u
theorem xor_all (x : Nat) (hx : x < 4294967296) : 4294967295 ^^^ x = 4294967295 - x := by
  apply Nat.eq_of_testBit_eq
  intro i
  have h1 := Nat.testBit_two_pow_sub_succ (n := 32) (x := x) (by simpa using hx) i
  rw [show 2 ^ 32 - (x + 1) = 4294967295 - x by omega] at h1
  rw [h1, Nat.testBit_xor, show 4294967295 = 2 ^ 32 - 1 from rfl, Nat.testBit_two_pow_sub_one]
  by_cases hi : i < 32
  · simp [hi]
  · have : x.testBit i = false := Nat.testBit_lt_two_pow (Nat.lt_of_lt_of_le hx (by rw [show 4294967296 = 2 ^ 32 from rfl]; exact Nat.pow_le_pow_right (by decide) (by omega)))
    simp [hi, this]
theorem not32 (x : Nat) (hx : x < 4294967296) : bits .xor .u32 IntKind.u32.max (x : Int) = ((4294967295 - x : Nat) : Int) := by
  have := u32_xor_nat 4294967295 x (by decide) hx
  rw [xor_all x hx] at this
  exact this
theorem wrap_add (a b : Nat) : IntKind.u32.wrap ((a : Int) + b) = ((Sha.add32 a b : Nat) : Int) := by
  simp [IntKind.wrap, IntKind.bits, IntKind.signed, Sha.add32]
theorem mod_add (a b : Nat) : ((a : Int) + b) % 4294967296 = ((Sha.add32 a b : Nat) : Int) := by simp [Sha.add32]
def outLH (s u : Sha.St) (j : Nat) : List Nat := [if 0 < j then Sha.add32 s.a u.a else s.a, if 1 < j then Sha.add32 s.b u.b else s.b, if 2 < j then Sha.add32 s.c u.c else s.c, if 3 < j then Sha.add32 s.d u.d else s.d, if 0 < j then Sha.add32 s.e u.e else s.e, if 1 < j then Sha.add32 s.f u.f else s.f, if 2 < j then Sha.add32 s.g u.g else s.g, if 3 < j then Sha.add32 s.h u.h else s.h]
def W8 (w : World) (g : Nat) (s : Sha.St) : Prop := Row32 w g 183 [s.a, s.b, s.c, s.d, s.e, s.f, s.g, s.h]
def W4 (w : World) (g : Nat) (a b c d : Nat) : Prop := Row32 w g 278 [a, b, c, d]
theorem W4.facts {w : World} {g a b c d : Nat} (h : W4 w g a b c d) : w.cell? ⟨g, 0, none⟩ = some (.int .u32 (a : Int)) ∧ w.cell? ⟨g, 1, none⟩ = some (.int .u32 (b : Int)) ∧ w.cell? ⟨g, 2, none⟩ = some (.int .u32 (c : Int)) ∧ w.cell? ⟨g, 3, none⟩ = some (.int .u32 (d : Int)) :=
  ⟨RowV.cell h rfl, RowV.cell h rfl, RowV.cell h rfl, RowV.cell h rfl⟩
theorem W8.facts {w : World} {g : Nat} {s : Sha.St} (h : W8 w g s) : w.cell? ⟨g, 0, none⟩ = some (.int .u32 (s.a : Int)) ∧ w.cell? ⟨g, 1, none⟩ = some (.int .u32 (s.b : Int)) ∧ w.cell? ⟨g, 2, none⟩ = some (.int .u32 (s.c : Int)) ∧ w.cell? ⟨g, 3, none⟩ = some (.int .u32 (s.d : Int)) ∧ w.cell? ⟨g, 4, none⟩ = some (.int .u32 (s.e : Int)) ∧ w.cell? ⟨g, 5, none⟩ = some (.int .u32 (s.f : Int)) ∧ w.cell? ⟨g, 6, none⟩ = some (.int .u32 (s.g : Int)) ∧ w.cell? ⟨g, 7, none⟩ = some (.int .u32 (s.h : Int)) :=
  ⟨RowV.cell h rfl, RowV.cell h rfl, RowV.cell h rfl, RowV.cell h rfl, RowV.cell h rfl, RowV.cell h rfl, RowV.cell h rfl, RowV.cell h rfl⟩
set_option maxHeartbeats 4000000 in
theorem compress_any (s : Sha.St) (hs : Sha.Ok s) (A : Option Addr) (c : Nat) (b : List Nat) (w : World) (hR : Reads w 1 A 64 (b8 b)) (hb : ∀ x ∈ b, x < 256) (hc : 64 ≤ c) (hc2 : c ≤ 1000000000) (hK : Ks w) :
    Calls Tryz.prog 196 #[.agg #[.int .u32 s.a, .int .u32 s.b, .int .u32 s.c, .int .u32 s.d, .int .u32 s.e, .int .u32 s.f, .int .u32 s.g, .int .u32 s.h], .slice A 64 c] w
      (Ret w (.agg #[.int .u32 (Sha.comp s b).a, .int .u32 (Sha.comp s b).b, .int .u32 (Sha.comp s b).c, .int .u32 (Sha.comp s b).d, .int .u32 (Sha.comp s b).e, .int .u32 (Sha.comp s b).f, .int .u32 (Sha.comp s b).g, .int .u32 (Sha.comp s b).h])) := by
  have hsc := fun W (hb' : Below w.heap.size w W) => schedule_any A c b W (hR.keep hb') hb hc hc2
  have hSl := Sha.sched_len b
  have hSt := Sha.sched_lt hb
  obtain ⟨R, hR'⟩ : ∃ R, R = Sha.comp s b := ⟨_, rfl⟩
  rw [← hR']
  have HRR := Lib.hid hR'
  obtain ⟨U, hU⟩ : ∃ U, U = Sha.upto b s := ⟨_, rfl⟩
  have hU0 : U 0 = s := by rw [hU]; rfl
  have hUs : ∀ t, t < 64 → U (t + 1) = Sha.round (U t) (Sha.ks.getD t 0) ((Sha.sched b).getD t 0) := fun t h => by rw [hU]; exact Sha.upto_succ b s t h
  have hUk : ∀ t, Sha.Ok (U t) := fun t => by rw [hU]; exact Sha.upto_ok b hs t
  have hUR : R = ⟨Sha.add32 s.a (U 64).a, Sha.add32 s.b (U 64).b, Sha.add32 s.c (U 64).c, Sha.add32 s.d (U 64).d, Sha.add32 s.e (U 64).e, Sha.add32 s.f (U 64).f, Sha.add32 s.g (U 64).g, Sha.add32 s.h (U 64).h⟩ := by rw [hR', hU]; exact Sha.comp_eq s b
  generalize Sha.sched b = S at *
  have HSC := Lib.hid hsc
  have HS := Lib.hid hSl; have HT := Lib.hid hSt; have HK := Lib.hid hK
  have HU0 := Lib.hid hU0; have HUS := Lib.hid hUs; have HUK := Lib.hid hUk; have HUR := Lib.hid hUR
  clear hsc hR hb hSl hSt hK hR' hU hU0 hUs hUk hUR HRR
  have hi : (Tryz.prog.info? 276).map (·.size) = some (w32 S).toArray.size := by rw [List.size_toArray, w32_len, HS.out]; kernel_rfl
  have h1 : (w32 S).toArray.all (·.oneCell') = true := by rw [List.all_toArray, List.all_eq_true]; exact w32_one S
  obtain ⟨X, hX⟩ : ∃ X, X = (w32 S).toArray := ⟨_, rfl⟩
  rw [← hX] at hi h1
  have HI := Lib.hid hi; have H1 := Lib.hid h1; have HX := Lib.hid hX
  simp only [← hX] at HSC
  clear hi h1 hX
  go_enter Tryz.func196, Tryz.ntmps196
  go_wp2_with fail
  refine (HSC.out _ belB).mono ?_
  rintro e w1 ⟨rfl, hb1⟩
  have hold : (w32 (List.replicate 64 0)).toArray.size = X.size := by rw [HX.out]; simp [w32_len, HS.out]
  have HO := Lib.hid hold
  clear hold
  go_wp2_with (refine wpList_store_row rfl _ _ _ rfl w1.heap.size X rfl rfl _ (w32 (List.replicate 64 0)).toArray (Eq.trans (heap_alloc_new w1 _) rfl) HI.out HO.out H1.out ?_)
  try simp only [Act.put, List.setIfInBounds_toArray, List.set_cons_succ, List.set_cons_zero]
  have hs1 : w.heap.size + 2 ≤ w1.heap.size := by have := hb1.size; (try simp at this); omega
  have hA8 : W8 w1 w.heap.size s := RowV.keep (Eq.trans (heap_alloc2_old w _ _) rfl) hb1
  have hZ8 : Row32 w1 (w.heap.size + 1) 183 (List.replicate 8 0) := RowV.keep (Eq.trans (heap_alloc2_new w _ _) rfl) hb1
  have hbw1 : Below w.heap.size w w1 := (balloc (balloc (Below.refl _ _) _) _).trans (hb1.mono (by simp; omega))
  obtain ⟨gw, hgw⟩ : ∃ gw, gw = w1.heap.size := ⟨_, rfl⟩
  rw [← hgw]
  generalize hw2 : World.setRow _ _ _ = w2
  have hB8 : W8 w2 w.heap.size s := by rw [← hw2, hgw]; exact RowV.row_far (RowV.alloc hA8 _) _ _ (by omega)
  have hZ : Row32 w2 (w.heap.size + 1) 183 (List.replicate 8 0) := by rw [← hw2, hgw]; exact RowV.row_far (RowV.alloc hZ8 _) _ _ (by omega)
  have hW : Row32 w2 gw 276 S := by
    rw [← hw2, hgw, HX.out]
    exact RowV.row (cs := w32 (List.replicate 64 0)) (Eq.trans (heap_alloc_new w1 _) rfl) _
  have hbw : Below w.heap.size w w2 := by rw [← hw2, hgw]; exact below_setRow (balloc hbw1 _) (by omega) _
  have hgs : w.heap.size + 2 ≤ gw := by omega
  clear hw2 hgw hA8 hZ8 hb1 hs1 hbw1 HI H1 HO HX HSC
  have hgl : gw < w2.heap.size := hW.lt
  have HB8 := Lib.hid hB8; have HZ := Lib.hid hZ; have HW := Lib.hid hW
  obtain ⟨q0, q1, q2, q3, q4, q5, q6, q7⟩ := hB8.facts
  clear hB8 hZ hW
  have r4 : ∀ W, (Instr.arrayAt 278 (.slice (some ⟨w.heap.size, 0, none⟩) 4 8)).run Tryz.prog W = .ok (.pointer (some ⟨w.heap.size, 0, none⟩)) W := fun W => run_arrayAt4 W _ 4 8 (by decide)
  have r5 : ∀ W, (Instr.arrayAt 278 (.slice (some ⟨w.heap.size, 4, none⟩) 4 4)).run Tryz.prog W = .ok (.pointer (some ⟨w.heap.size, 4, none⟩)) W := fun W => run_arrayAt4 W _ 4 4 (by decide)
  have hlt2 : w.heap.size + 2 < w2.heap.size := by omega
  go_cut [6, 7] (fun s6 s7 wx => ∃ gv ge : Nat, s6 = .pointer (some ⟨gv, 0, none⟩) ∧ s7 = .pointer (some ⟨ge, 0, none⟩) ∧ gv ≠ ge ∧ w2.heap.size ≤ gv ∧ w2.heap.size ≤ ge ∧ W4 wx gv s.a s.b s.c s.d ∧ W4 wx ge s.e s.f s.g s.h ∧ Below w2.heap.size w2 wx)
  case first =>
    refine wp_region_noPanic ?_
    refine wp_region_held_drew (S := (fun w' => w'.cell? ⟨w.heap.size, 0, none⟩ = some (.int .u32 (s.a : Int)) ∧ w'.cell? ⟨w.heap.size, 1, none⟩ = some (.int .u32 (s.b : Int)) ∧ w'.cell? ⟨w.heap.size, 2, none⟩ = some (.int .u32 (s.c : Int)) ∧ w'.cell? ⟨w.heap.size, 3, none⟩ = some (.int .u32 (s.d : Int)) ∧ w'.cell? ⟨w.heap.size, 4, none⟩ = some (.int .u32 (s.e : Int)) ∧ w'.cell? ⟨w.heap.size, 5, none⟩ = some (.int .u32 (s.f : Int)) ∧ w'.cell? ⟨w.heap.size, 6, none⟩ = some (.int .u32 (s.g : Int)) ∧ w'.cell? ⟨w.heap.size, 7, none⟩ = some (.int .u32 (s.h : Int)))) (by kernel_rfl) ⟨q0, q1, q2, q3, q4, q5, q6, q7⟩ (fun hHeld => ?_)
    refine wpAnyH_take (i := 0) (oi := _) (v := ?v1) rfl (by kernel_rfl) (by kernel_rfl) (by kernel_rfl) (fun _ _ _ h => h) (Or.inl ⟨by rfl, ?h1⟩) (by assumption) ?r1
    case h1 => (intro w hSw; (try dsimp only at hSw); go_simp; try with_reducible rfl)
    (try simp only [Act.put, List.setIfInBounds_toArray, List.set_cons_zero, List.set_cons_succ])
    refine wpAnyH_take (i := 1) (oi := _) (v := ?v2) rfl (by kernel_rfl) (by kernel_rfl) (by kernel_rfl) (fun _ _ _ h => h) (Or.inl ⟨by rfl, ?h2⟩) (by assumption) ?r2
    case h2 => (intro w hSw; (try dsimp only at hSw); go_simp; try with_reducible rfl)
    (try simp only [Act.put, List.setIfInBounds_toArray, List.set_cons_zero, List.set_cons_succ])
    refine wpAnyH_take (i := 2) (oi := _) (v := ?v3) rfl (by kernel_rfl) (by kernel_rfl) (by kernel_rfl) (fun _ _ _ h => h) (Or.inl ⟨by rfl, ?h3⟩) (by assumption) ?r3
    case h3 => (intro w hSw; (try dsimp only at hSw); go_simp; try with_reducible rfl)
    (try simp only [Act.put, List.setIfInBounds_toArray, List.set_cons_zero, List.set_cons_succ])
    refine wpAnyH_take (i := 3) (oi := _) (v := ?v4) rfl (by kernel_rfl) (by kernel_rfl) (by kernel_rfl) (fun _ _ _ h => h) (Or.inl ⟨by rfl, ?h4⟩) (by assumption) ?r4
    case h4 => (intro w hSw; (try dsimp only at hSw); go_simp; try with_reducible rfl)
    (try simp only [Act.put, List.setIfInBounds_toArray, List.set_cons_zero, List.set_cons_succ])
    refine wpAnyH_take (i := 4) (oi := _) (v := ?v5) rfl (by kernel_rfl) (by kernel_rfl) (by kernel_rfl) (fun _ _ _ h => h) (Or.inl ⟨by rfl, ?h5⟩) (by assumption) ?r5
    case h5 => (intro w hSw; (try dsimp only at hSw); go_simp; try with_reducible rfl)
    (try simp only [Act.put, List.setIfInBounds_toArray, List.set_cons_zero, List.set_cons_succ])
    refine wpAnyH_take (i := 5) (oi := _) (v := ?v6) rfl (by kernel_rfl) (by kernel_rfl) (by kernel_rfl) (fun _ _ _ h => h) (Or.inl ⟨by rfl, ?h6⟩) (by assumption) ?r6
    case h6 => (intro w hSw; (try dsimp only at hSw); go_simp; try with_reducible rfl)
    (try simp only [Act.put, List.setIfInBounds_toArray, List.set_cons_zero, List.set_cons_succ])
    refine wpAnyH_ready (rs := [6, 7]) (by kernel_rfl) (by simp) ?_
    refine AllReadyH.cons (o := _) rfl (fun K hK => ?_) ?_
    · go_simp
      refine hK.out _ _ ?_ (fun hHeld => ?_)
      · (try dsimp only)
        first | (go_split_ands; exact ⟨cell_keep (balloc (Below.refl _ _) _) ‹_›, cell_keep (balloc (Below.refl _ _) _) ‹_›, cell_keep (balloc (Below.refl _ _) _) ‹_›, cell_keep (balloc (Below.refl _ _) _) ‹_›, cell_keep (balloc (Below.refl _ _) _) ‹_›, cell_keep (balloc (Below.refl _ _) _) ‹_›, cell_keep (balloc (Below.refl _ _) _) ‹_›, cell_keep (balloc (Below.refl _ _) _) ‹_›⟩) | go_keep
      clear hK K
      (try simp only [Act.put, List.setIfInBounds_toArray, List.set_cons_zero, List.set_cons_succ])
      refine wpAnyH_ready (rs := [7]) (by kernel_rfl) (by simp) ?_
      refine AllReadyH.cons (o := _) rfl (fun K hK => ?_) ?_
      · go_simp
        refine hK.out _ _ ?_ (fun hHeld => ?_)
        · (try dsimp only)
          first | (go_split_ands; exact ⟨cell_keep (balloc (Below.refl _ _) _) ‹_›, cell_keep (balloc (Below.refl _ _) _) ‹_›, cell_keep (balloc (Below.refl _ _) _) ‹_›, cell_keep (balloc (Below.refl _ _) _) ‹_›, cell_keep (balloc (Below.refl _ _) _) ‹_›, cell_keep (balloc (Below.refl _ _) _) ‹_›, cell_keep (balloc (Below.refl _ _) _) ‹_›, cell_keep (balloc (Below.refl _ _) _) ‹_›⟩) | go_keep
        clear hK K
        (try simp only [Act.put, List.setIfInBounds_toArray, List.set_cons_zero, List.set_cons_succ])
        refine wpAnyH_ready (rs := [8]) (by kernel_rfl) (by simp) ?_
        refine AllReadyH.cons (o := _) rfl (fun K hK => ?_) ?_
        · go_simp
          refine hK.out _ _ ?_ (fun hHeld => ?_)
          · (try dsimp only)
            first | (go_split_ands; exact ⟨cell_keep (balloc (Below.refl _ _) _) ‹_›, cell_keep (balloc (Below.refl _ _) _) ‹_›, cell_keep (balloc (Below.refl _ _) _) ‹_›, cell_keep (balloc (Below.refl _ _) _) ‹_›, cell_keep (balloc (Below.refl _ _) _) ‹_›, cell_keep (balloc (Below.refl _ _) _) ‹_›, cell_keep (balloc (Below.refl _ _) _) ‹_›, cell_keep (balloc (Below.refl _ _) _) ‹_›⟩) | go_keep
          clear hK K
          (try simp only [Act.put, List.setIfInBounds_toArray, List.set_cons_zero, List.set_cons_succ])
          refine wpAnyH_ready (rs := [9]) (by kernel_rfl) (by simp) ?_
          refine AllReadyH.cons (o := _) rfl (fun K hK => ?_) ?_
          · go_simp
            refine hK.out _ _ ?_ (fun hHeld => ?_)
            · (try dsimp only)
              first | (go_split_ands; exact ⟨cell_keep (balloc (Below.refl _ _) _) ‹_›, cell_keep (balloc (Below.refl _ _) _) ‹_›, cell_keep (balloc (Below.refl _ _) _) ‹_›, cell_keep (balloc (Below.refl _ _) _) ‹_›, cell_keep (balloc (Below.refl _ _) _) ‹_›, cell_keep (balloc (Below.refl _ _) _) ‹_›, cell_keep (balloc (Below.refl _ _) _) ‹_›, cell_keep (balloc (Below.refl _ _) _) ‹_›⟩) | go_keep
            clear hK K
            (try simp only [Act.put, List.setIfInBounds_toArray, List.set_cons_zero, List.set_cons_succ])
            refine wpAnyH_done (by kernel_rfl) ?_ _
            refine NoPanic.normal ?_
            go_wp2_with fail
            go_meet
            exact ⟨_, _, rfl, rfl, by omega, by omega, by omega, heap_alloc2_old w2 _ _, heap_alloc2_new w2 _ _, belB⟩
          exact AllReadyH.nil
        exact AllReadyH.nil
      exact AllReadyH.nil
    refine AllReadyH.cons (o := _) rfl (fun K hK => ?_) ?_
    · go_simp
      refine hK.out _ _ ?_ (fun hHeld => ?_)
      · (try dsimp only)
        first | (go_split_ands; exact ⟨cell_keep (balloc (Below.refl _ _) _) ‹_›, cell_keep (balloc (Below.refl _ _) _) ‹_›, cell_keep (balloc (Below.refl _ _) _) ‹_›, cell_keep (balloc (Below.refl _ _) _) ‹_›, cell_keep (balloc (Below.refl _ _) _) ‹_›, cell_keep (balloc (Below.refl _ _) _) ‹_›, cell_keep (balloc (Below.refl _ _) _) ‹_›, cell_keep (balloc (Below.refl _ _) _) ‹_›⟩) | go_keep
      clear hK K
      (try simp only [Act.put, List.setIfInBounds_toArray, List.set_cons_zero, List.set_cons_succ])
      refine wpAnyH_ready (rs := [6]) (by kernel_rfl) (by simp) ?_
      refine AllReadyH.cons (o := _) rfl (fun K hK => ?_) ?_
      · go_simp
        refine hK.out _ _ ?_ (fun hHeld => ?_)
        · (try dsimp only)
          first | (go_split_ands; exact ⟨cell_keep (balloc (Below.refl _ _) _) ‹_›, cell_keep (balloc (Below.refl _ _) _) ‹_›, cell_keep (balloc (Below.refl _ _) _) ‹_›, cell_keep (balloc (Below.refl _ _) _) ‹_›, cell_keep (balloc (Below.refl _ _) _) ‹_›, cell_keep (balloc (Below.refl _ _) _) ‹_›, cell_keep (balloc (Below.refl _ _) _) ‹_›, cell_keep (balloc (Below.refl _ _) _) ‹_›⟩) | go_keep
        clear hK K
        (try simp only [Act.put, List.setIfInBounds_toArray, List.set_cons_zero, List.set_cons_succ])
        refine wpAnyH_ready (rs := [8]) (by kernel_rfl) (by simp) ?_
        refine AllReadyH.cons (o := _) rfl (fun K hK => ?_) ?_
        · go_simp
          refine hK.out _ _ ?_ (fun hHeld => ?_)
          · (try dsimp only)
            first | (go_split_ands; exact ⟨cell_keep (balloc (Below.refl _ _) _) ‹_›, cell_keep (balloc (Below.refl _ _) _) ‹_›, cell_keep (balloc (Below.refl _ _) _) ‹_›, cell_keep (balloc (Below.refl _ _) _) ‹_›, cell_keep (balloc (Below.refl _ _) _) ‹_›, cell_keep (balloc (Below.refl _ _) _) ‹_›, cell_keep (balloc (Below.refl _ _) _) ‹_›, cell_keep (balloc (Below.refl _ _) _) ‹_›⟩) | go_keep
          clear hK K
          (try simp only [Act.put, List.setIfInBounds_toArray, List.set_cons_zero, List.set_cons_succ])
          refine wpAnyH_ready (rs := [9]) (by kernel_rfl) (by simp) ?_
          refine AllReadyH.cons (o := _) rfl (fun K hK => ?_) ?_
          · go_simp
            refine hK.out _ _ ?_ (fun hHeld => ?_)
            · (try dsimp only)
              first | (go_split_ands; exact ⟨cell_keep (balloc (Below.refl _ _) _) ‹_›, cell_keep (balloc (Below.refl _ _) _) ‹_›, cell_keep (balloc (Below.refl _ _) _) ‹_›, cell_keep (balloc (Below.refl _ _) _) ‹_›, cell_keep (balloc (Below.refl _ _) _) ‹_›, cell_keep (balloc (Below.refl _ _) _) ‹_›, cell_keep (balloc (Below.refl _ _) _) ‹_›, cell_keep (balloc (Below.refl _ _) _) ‹_›⟩) | go_keep
            clear hK K
            (try simp only [Act.put, List.setIfInBounds_toArray, List.set_cons_zero, List.set_cons_succ])
            refine wpAnyH_done (by kernel_rfl) ?_ _
            refine NoPanic.normal ?_
            go_wp2_with fail
            go_meet
            exact ⟨_, _, rfl, rfl, by omega, by omega, by omega, heap_alloc2_new w2 _ _, heap_alloc2_old w2 _ _, belB⟩
          exact AllReadyH.nil
        exact AllReadyH.nil
      exact AllReadyH.nil
    exact AllReadyH.nil
  case rest =>
    clear r4 r5 q0 q1 q2 q3 q4 q5 q6 q7
    obtain ⟨gv, ge, rfl, rfl, hne, hg1, hg2, hV, hE, hbc⟩ := hcut
    have hne2 : ge ≠ gv := fun h => hne h.symm
    have HB : Hid (W8 wc w.heap.size s) := Lib.hid (RowV.keep HB8.out hbc)
    have HZ' : Hid (Row32 wc (w.heap.size + 1) 183 (List.replicate 8 0)) := Lib.hid (RowV.keep HZ.out hbc)
    have HW' : Hid (Row32 wc gw 276 S) := Lib.hid (RowV.keep HW.out hbc)
    have hbw' : Below w.heap.size w wc := hbw.trans (hbc.mono (by omega))
    have HV := Lib.hid hV; have HE := Lib.hid hE
    obtain ⟨kt, kf, hks⟩ := HK.out.keep hbw'
    have hki : (Tryz.prog.info? 276).map (·.size) = some (w32 Sha.ks).toArray.size := by rw [List.size_toArray, w32_len, Sha.ks_len]; kernel_rfl
    have hidx := fun (t : Nat) (ht : t < 64) (W : World) => run_index_w32 W Sha.ks Sha.ks_len t ht
    generalize (w32 Sha.ks).toArray = KA at *
    have HKS := Lib.hid hks; have HKI := Lib.hid hki; have HIX := Lib.hid hidx
    clear HB8 HZ HW hbw hbc hks hki hidx hV hE HK
    have hgl2 : w.heap.size + 1 < w2.heap.size := by omega
    go_wp2_with (refine wpList_load_row rfl _ _ rfl 1 rfl kt KA kf _ HKS.out Tryz.underlying276 rfl HKI.out ?_)
    try simp only [Act.put, List.setIfInBounds_toArray, List.set_cons_succ, List.set_cons_zero]
    clear HKS HKI
    go_loopw [22] (fun i wr => ∃ t : Nat, t ≤ 64 ∧ i = .int .i64 t ∧ Hid (W4 wr gv (U t).a (U t).b (U t).c (U t).d) ∧ Hid (W4 wr ge (U t).e (U t).f (U t).g (U t).h) ∧ Hid (W8 wr w.heap.size s) ∧ Hid (Row32 wr (w.heap.size + 1) 183 (List.replicate 8 0)) ∧ Hid (Row32 wr gw 276 S) ∧ Below w.heap.size w wr) (fun i _ => 64 - (intOf i).toNat)
    case atStart => exact ⟨0, by omega, rfl, Lib.hid (by rw [HU0.out]; exact HV.out), Lib.hid (by rw [HU0.out]; exact HE.out), HB, HZ', HW', hbw'⟩
    case round =>
      obtain ⟨t, ht, rfl, HVt, HEt, HBt, HZt, HWt, hbt⟩ := hrel
      clear HV HE HB HZ' HW' hbw'
      have g1 : gv < wr.heap.size := HVt.out.lt
      have g2 : ge < wr.heap.size := HEt.out.lt
      by_cases h64 : t < 64
      · have hus := HUS.out t h64
        have hok := HUK.out t
        obtain ⟨un, hun⟩ : ∃ un, un = U (t + 1) := ⟨_, rfl⟩
        obtain ⟨ut, hut⟩ : ∃ ut, ut = U t := ⟨_, rfl⟩
        rw [← hun, ← hut] at hus
        rw [← hut] at hok HVt HEt
        have HN := Lib.hid hun
        clear hun hut
        obtain ⟨va, vb, vc, vd, ve, vf, vg, vh⟩ := ut
        obtain ⟨oa, ob, oc, od, oe, of, og, oh⟩ := hok
        dsimp only at *
        obtain ⟨c0, c1, c2, c3⟩ := HVt.out.facts
        obtain ⟨d0, d1, d2, d3⟩ := HEt.out.facts
        have f0 := HVt.out.free 0
        have f1 := HVt.out.free 1
        have f2 := HVt.out.free 2
        have f3 := HVt.out.free 3
        have k0 := HEt.out.free 0
        have k1 := HEt.out.free 1
        have k2 := HEt.out.free 2
        have k3 := HEt.out.free 3
        have cw := HWt.out.cell (k := t) (by rw [HS.out]; exact h64)
        have ox := HT.out t
        have ok := Sha.ks_lt t
        have hix := fun W => HIX.out t h64 W
        generalize Sha.ks.getD t 0 = kk at *
        generalize S.getD t 0 = xx at *
        have hm1 : ∀ W, Calls Tryz.prog 252 #[.int .u32 ve, .int .i64 6, .int .i64 11, .int .i64 25] W (fun e w' => e = .returned (.int .u32 (Sha.mix ve 6 11 25 : Nat)) ∧ w' = W) := fun W => mix_same ve 6 11 25 W oe (by omega) (by omega) (by omega) (by omega) (by omega) (by omega)
        have hm2 : ∀ W, Calls Tryz.prog 252 #[.int .u32 va, .int .i64 2, .int .i64 13, .int .i64 22] W (fun e w' => e = .returned (.int .u32 (Sha.mix va 2 13 22 : Nat)) ∧ w' = W) := fun W => mix_same va 2 13 22 W oa (by omega) (by omega) (by omega) (by omega) (by omega) (by omega)
        have b0 := not32 ve oe
        have b1 := u32_and_nat ve vf oe of
        have b2 := u32_and_nat (4294967295 - ve) vg (by omega) og
        have b3 := u32_xor_nat (ve &&& vf) ((4294967295 - ve) &&& vg) (Sha.land_lt of) (Sha.land_lt og)
        have b4 := u32_and_nat va vb oa ob
        have b5 := u32_and_nat va vc oa oc
        have b6 := u32_and_nat vb vc ob oc
        have b7 := u32_xor_nat (va &&& vb) (va &&& vc) (Sha.land_lt ob) (Sha.land_lt oc)
        have b8' := u32_xor_nat ((va &&& vb) ^^^ (va &&& vc)) (vb &&& vc) (Sha.xor_lt (Sha.land_lt ob) (Sha.land_lt oc)) (Sha.land_lt oc)
        unfold Sha.round at hus
        dsimp only at hus
        have ln := Sha.mix_lt ve 6 11 25 oe
        have lm := Sha.mix_lt va 2 13 22 oa
        generalize Sha.mix ve 6 11 25 = M1 at *
        generalize Sha.mix va 2 13 22 = M2 at *
        have s1 := wrap_add vh M1
        have s2 := wrap_add (Sha.add32 vh M1) ((ve &&& vf) ^^^ ((4294967295 - ve) &&& vg))
        have s3 := wrap_add (Sha.add32 (Sha.add32 vh M1) ((ve &&& vf) ^^^ ((4294967295 - ve) &&& vg))) kk
        have s4 := wrap_add (Sha.add32 (Sha.add32 (Sha.add32 vh M1) ((ve &&& vf) ^^^ ((4294967295 - ve) &&& vg))) kk) xx
        have s5 := wrap_add M2 (((va &&& vb) ^^^ (va &&& vc)) ^^^ (vb &&& vc))
        generalize 4294967295 - ve = nve at *
        have HUN := Lib.hid hus
        have HM1 := Lib.hid hm1; have HM2 := Lib.hid hm2
        clear hus hm1 hm2
        go_wp2_with fail
        go_quiet ((go_at_call 252; exact Calls.quiet_of_same (HM1.out _)))
        go_wp2_with fail
        obtain ⟨wq, hwq⟩ : ∃ wq : World, wq = wr.drewN nq := ⟨_, rfl⟩
        rw [← hwq]
        replace HVt : Hid (W4 wq gv va vb vc vd) := Lib.hid (by rw [hwq]; exact HVt.out)
        replace HEt : Hid (W4 wq ge ve vf vg vh) := Lib.hid (by rw [hwq]; exact HEt.out)
        replace HBt : Hid (W8 wq w.heap.size s) := Lib.hid (by rw [hwq]; exact HBt.out)
        replace HZt : Hid (Row32 wq (w.heap.size + 1) 183 (List.replicate 8 0)) := Lib.hid (by rw [hwq]; exact HZt.out)
        replace HWt : Hid (Row32 wq gw 276 S) := Lib.hid (by rw [hwq]; exact HWt.out)
        replace cw : wq.cell? ⟨gw, t, none⟩ = some (.int .u32 xx) := by rw [hwq]; exact cw
        replace hbt : Below w.heap.size w wq := by rw [hwq]; exact bdrewN hbt _
        replace g1 : gv < wq.heap.size := HVt.out.lt
        replace g2 : ge < wq.heap.size := HEt.out.lt
        clear hwq c0 c1 c2 c3 d0 d1 d2 d3 f0 f1 f2 f3 k0 k1 k2 k3
        obtain ⟨c0, c1, c2, c3⟩ := HVt.out.facts
        obtain ⟨d0, d1, d2, d3⟩ := HEt.out.facts
        have f0 := HVt.out.free 0
        have f1 := HVt.out.free 1
        have f2 := HVt.out.free 2
        have f3 := HVt.out.free 3
        have k0 := HEt.out.free 0
        have k1 := HEt.out.free 1
        have k2 := HEt.out.free 2
        have k3 := HEt.out.free 3
        go_quiet ((go_at_call 252; exact Calls.quiet_of_same (HM2.out _)))
        obtain ⟨wz, hwz⟩ : ∃ wz : World, wz = wq.drewN nq := ⟨_, rfl⟩
        rw [← hwz]
        replace HVt : Hid (W4 wz gv va vb vc vd) := Lib.hid (by rw [hwz]; exact HVt.out)
        replace HEt : Hid (W4 wz ge ve vf vg vh) := Lib.hid (by rw [hwz]; exact HEt.out)
        replace HBt : Hid (W8 wz w.heap.size s) := Lib.hid (by rw [hwz]; exact HBt.out)
        replace HZt : Hid (Row32 wz (w.heap.size + 1) 183 (List.replicate 8 0)) := Lib.hid (by rw [hwz]; exact HZt.out)
        replace HWt : Hid (Row32 wz gw 276 S) := Lib.hid (by rw [hwz]; exact HWt.out)
        replace cw : wz.cell? ⟨gw, t, none⟩ = some (.int .u32 xx) := by rw [hwz]; exact cw
        replace hbt : Below w.heap.size w wz := by rw [hwz]; exact bdrewN hbt _
        replace g1 : gv < wz.heap.size := HVt.out.lt
        replace g2 : ge < wz.heap.size := HEt.out.lt
        clear hwz c0 c1 c2 c3 d0 d1 d2 d3 f0 f1 f2 f3 k0 k1 k2 k3
        obtain ⟨c0, c1, c2, c3⟩ := HVt.out.facts
        obtain ⟨d0, d1, d2, d3⟩ := HEt.out.facts
        have f0 := HVt.out.free 0
        have f1 := HVt.out.free 1
        have f2 := HVt.out.free 2
        have f3 := HVt.out.free 3
        have k0 := HEt.out.free 0
        have k1 := HEt.out.free 1
        have k2 := HEt.out.free 2
        have k3 := HEt.out.free 3
        go_wp2_with fail
        have e1 : ((vd : Int) + (((Sha.add32 vh M1 : Nat) : Int) + ((ve &&& vf ^^^ nve &&& vg : Nat) : Int) + kk + xx)) % 4294967296 = ((un.e : Nat) : Int) := by
          rw [HUN.out]; dsimp only; generalize ve &&& vf ^^^ nve &&& vg = z; unfold Sha.add32; omega
        have e2 : (((Sha.add32 vh M1 : Nat) : Int) + ((ve &&& vf ^^^ nve &&& vg : Nat) : Int) + kk + xx + ((Sha.add32 M2 (va &&& vb ^^^ va &&& vc ^^^ vb &&& vc) : Nat) : Int)) % 4294967296 = ((un.a : Nat) : Int) := by
          rw [HUN.out]; dsimp only; generalize ve &&& vf ^^^ nve &&& vg = z; generalize va &&& vb ^^^ va &&& vc ^^^ vb &&& vc = y; unfold Sha.add32; omega
        rw [e1, e2]
        refine ⟨⟨t + 1, by omega, by go_num, Lib.hid ?_, Lib.hid ?_, Lib.hid (far4 (far4 HBt.out (by omega) _ _ _ _) (by omega) _ _ _ _), Lib.hid (far4 (far4 HZt.out (by omega) _ _ _ _) (by omega) _ _ _ _), Lib.hid (far4 (far4 HWt.out (by omega) _ _ _ _) (by omega) _ _ _ _), below4 (below4 hbt (by omega) _ _ _ _) (by omega) _ _ _ _⟩, by simp [intOf]; omega⟩
        · have := W4_put (far4 HVt.out hne (.int .u32 (un.e : Nat)) (.int .u32 (ve : Int)) (.int .u32 (vf : Int)) (.int .u32 (vg : Int))) un.a va vb vc
          rw [← HN.out]
          rw [HUN.out] at this ⊢
          exact this
        · have := far4 (W4_put HEt.out un.e ve vf vg) hne2 (.int .u32 (un.a : Nat)) (.int .u32 (va : Int)) (.int .u32 (vb : Int)) (.int .u32 (vc : Int))
          rw [← HN.out]
          rw [HUN.out] at this ⊢
          exact this
      · have he : t = 64 := by omega
        rw [he] at HVt HEt
        clear he
        obtain ⟨u, hu⟩ : ∃ u, u = U 64 := ⟨_, rfl⟩
        rw [← hu] at HVt HEt
        have hr := HUR.out
        rw [← hu] at hr
        have HR := Lib.hid hr
        clear hu hr
        go_wp2_with fail
        obtain ⟨wo, rfl⟩ : ∃ wo : World, wo = wr := ⟨_, rfl⟩
        go_loopw [94] (fun i wi => ∃ j : Nat, j ≤ 4 ∧ i = .int .i64 j ∧ Hid (W4 wi gv u.a u.b u.c u.d) ∧ Hid (W4 wi ge u.e u.f u.g u.h) ∧ Hid (Row32 wi w.heap.size 183 (outLH s u j)) ∧ Hid (Row32 wi (w.heap.size + 1) 183 (List.replicate 8 0)) ∧ Below w.heap.size w wi) (fun i _ => 4 - (intOf i).toNat)
        case atStart => exact ⟨0, by omega, rfl, HVt, HEt, HBt, HZt, hbt⟩
        case round =>
          obtain ⟨j, hj, rfl, HVj, HEj, HBj, HZj, hbj⟩ := hrel
          by_cases hj4 : j < 4
          · have hj' : j = 0 ∨ j = 1 ∨ j = 2 ∨ j = 3 := by omega
            clear hj4 hj
            rcases hj' with rfl | rfl | rfl | rfl
            · have HB0 : Row32 wr w.heap.size 183 [s.a, s.b, s.c, s.d, s.e, s.f, s.g, s.h] := HBj.out
              obtain ⟨wd, hwd⟩ : ∃ x : World, x = wr.drew := ⟨_, rfl⟩
              have V : W4 wd gv u.a u.b u.c u.d := by rw [hwd]; exact HVj.out
              have E : W4 wd ge u.e u.f u.g u.h := by rw [hwd]; exact HEj.out
              have B : Row32 wd w.heap.size 183 [s.a, s.b, s.c, s.d, s.e, s.f, s.g, s.h] := by rw [hwd]; exact HB0
              have Z : Row32 wd (w.heap.size + 1) 183 (List.replicate 8 0) := by rw [hwd]; exact HZj.out
              have hbd : Below w.heap.size w wd := by rw [hwd]; exact hbj.drew
              have x1 : wd.cell? ⟨w.heap.size, 0, none⟩ = some (.int .u32 (s.a : Int)) := RowV.cell B rfl
              have x2 : wd.frozen? ⟨w.heap.size, 0, none⟩ = false := RowV.free B 0
              have x3 : wd.cell? ⟨gv, 0, none⟩ = some (.int .u32 (u.a : Int)) := RowV.cell V rfl
              have a1 := wrap_add s.a u.a
              have HWD := Lib.hid hwd; have HVd := Lib.hid V; have HEd := Lib.hid E; have HBd := Lib.hid B; have HZd := Lib.hid Z
              clear hwd V E B Z HB0
              go_wp2_with fail
              refine wp_region_still_tail 7 (by kernel_rfl) (by kernel_rfl) ?_
              simp only [List.take_succ_cons, List.take_zero, List.drop_succ_cons, List.drop_zero]
              change wpStill _ _ wr.drew _ _ _
              rw [← HWD.out]
              repeat still_step
              refine wpStill_nil ?_
              change wpList _ _ _ _ _ wr.drew
              rw [← HWD.out]
              go_wp2_with fail
              clear x1 x2 x3 a1 HWD
              obtain ⟨we, hwe⟩ : ∃ x : World, x = (wd.setCell ⟨w.heap.size, 0, none⟩ (.int .u32 (Sha.add32 s.a u.a : Nat))).drew := ⟨_, rfl⟩
              have V : W4 we gv u.a u.b u.c u.d := by rw [hwe]; exact HVd.out.far _ _ (by simp; omega)
              have E : W4 we ge u.e u.f u.g u.h := by rw [hwe]; exact HEd.out.far _ _ (by simp; omega)
              have B : Row32 we w.heap.size 183 [Sha.add32 s.a u.a, s.b, s.c, s.d, s.e, s.f, s.g, s.h] := by rw [hwe]; exact HBd.out.set_ 0 _
              have Z : Row32 we (w.heap.size + 1) 183 (List.replicate 8 0) := by rw [hwe]; exact HZd.out.far _ _ (by simp)
              have hbe : Below w.heap.size w we := by rw [hwe]; exact (hbd.setCell (p := ⟨w.heap.size, 0, none⟩) (Nat.le_refl _) _).drew
              have y1 : IntKind.i64.wrap (4 : Int) = 4 := IntWalk.i64_in _ (by omega)
              have x1 : we.cell? ⟨w.heap.size, 4, none⟩ = some (.int .u32 (s.e : Int)) := RowV.cell B rfl
              have x2 : we.frozen? ⟨w.heap.size, 4, none⟩ = false := RowV.free B 4
              have x3 : we.cell? ⟨ge, 0, none⟩ = some (.int .u32 (u.e : Int)) := RowV.cell E rfl
              have a1 := wrap_add s.e u.e
              have HWE := Lib.hid hwe; have HVe := Lib.hid V; have HEe := Lib.hid E; have HBe := Lib.hid B; have HZe := Lib.hid Z
              clear hwe V E B Z HBd HVd HEd HZd
              refine wp_region_still_tail 8 (by kernel_rfl) (by kernel_rfl) ?_
              simp only [List.take_succ_cons, List.take_zero, List.drop_succ_cons, List.drop_zero]
              change wpStill _ _ (wd.setCell ⟨w.heap.size, 0, none⟩ (.int .u32 (Sha.add32 s.a u.a : Nat))).drew _ _ _
              rw [← HWE.out]
              repeat still_step
              refine wpStill_nil ?_
              change wpList _ _ _ _ _ (wd.setCell ⟨w.heap.size, 0, none⟩ (.int .u32 (Sha.add32 s.a u.a : Nat))).drew
              rw [← HWE.out]
              go_wp2_with fail
              have hB2 : Row32 (we.setCell ⟨w.heap.size, 4, none⟩ (.int .u32 (Sha.add32 s.e u.e : Nat))) w.heap.size 183 [Sha.add32 s.a u.a, s.b, s.c, s.d, Sha.add32 s.e u.e, s.f, s.g, s.h] := HBe.out.set_ 4 _
              exact ⟨⟨1, by omega, by go_num, Lib.hid (HVe.out.far _ _ (by simp; omega)), Lib.hid (HEe.out.far _ _ (by simp; omega)), Lib.hid hB2, Lib.hid (HZe.out.far _ _ (by simp)), hbe.setCell (p := ⟨w.heap.size, 4, none⟩) (Nat.le_refl _) _⟩, by simp [intOf]⟩
            · have HB0 : Row32 wr w.heap.size 183 [Sha.add32 s.a u.a, s.b, s.c, s.d, Sha.add32 s.e u.e, s.f, s.g, s.h] := HBj.out
              obtain ⟨wd, hwd⟩ : ∃ x : World, x = wr.drew := ⟨_, rfl⟩
              have V : W4 wd gv u.a u.b u.c u.d := by rw [hwd]; exact HVj.out
              have E : W4 wd ge u.e u.f u.g u.h := by rw [hwd]; exact HEj.out
              have B : Row32 wd w.heap.size 183 [Sha.add32 s.a u.a, s.b, s.c, s.d, Sha.add32 s.e u.e, s.f, s.g, s.h] := by rw [hwd]; exact HB0
              have Z : Row32 wd (w.heap.size + 1) 183 (List.replicate 8 0) := by rw [hwd]; exact HZj.out
              have hbd : Below w.heap.size w wd := by rw [hwd]; exact hbj.drew
              have x1 : wd.cell? ⟨w.heap.size, 1, none⟩ = some (.int .u32 (s.b : Int)) := RowV.cell B rfl
              have x2 : wd.frozen? ⟨w.heap.size, 1, none⟩ = false := RowV.free B 1
              have x3 : wd.cell? ⟨gv, 1, none⟩ = some (.int .u32 (u.b : Int)) := RowV.cell V rfl
              have a1 := wrap_add s.b u.b
              have HWD := Lib.hid hwd; have HVd := Lib.hid V; have HEd := Lib.hid E; have HBd := Lib.hid B; have HZd := Lib.hid Z
              clear hwd V E B Z HB0
              go_wp2_with fail
              refine wp_region_still_tail 7 (by kernel_rfl) (by kernel_rfl) ?_
              simp only [List.take_succ_cons, List.take_zero, List.drop_succ_cons, List.drop_zero]
              change wpStill _ _ wr.drew _ _ _
              rw [← HWD.out]
              repeat still_step
              refine wpStill_nil ?_
              change wpList _ _ _ _ _ wr.drew
              rw [← HWD.out]
              go_wp2_with fail
              clear x1 x2 x3 a1 HWD
              obtain ⟨we, hwe⟩ : ∃ x : World, x = (wd.setCell ⟨w.heap.size, 1, none⟩ (.int .u32 (Sha.add32 s.b u.b : Nat))).drew := ⟨_, rfl⟩
              have V : W4 we gv u.a u.b u.c u.d := by rw [hwe]; exact HVd.out.far _ _ (by simp; omega)
              have E : W4 we ge u.e u.f u.g u.h := by rw [hwe]; exact HEd.out.far _ _ (by simp; omega)
              have B : Row32 we w.heap.size 183 [Sha.add32 s.a u.a, Sha.add32 s.b u.b, s.c, s.d, Sha.add32 s.e u.e, s.f, s.g, s.h] := by rw [hwe]; exact HBd.out.set_ 1 _
              have Z : Row32 we (w.heap.size + 1) 183 (List.replicate 8 0) := by rw [hwe]; exact HZd.out.far _ _ (by simp)
              have hbe : Below w.heap.size w we := by rw [hwe]; exact (hbd.setCell (p := ⟨w.heap.size, 1, none⟩) (Nat.le_refl _) _).drew
              have y1 : IntKind.i64.wrap (5 : Int) = 5 := IntWalk.i64_in _ (by omega)
              have x1 : we.cell? ⟨w.heap.size, 5, none⟩ = some (.int .u32 (s.f : Int)) := RowV.cell B rfl
              have x2 : we.frozen? ⟨w.heap.size, 5, none⟩ = false := RowV.free B 5
              have x3 : we.cell? ⟨ge, 1, none⟩ = some (.int .u32 (u.f : Int)) := RowV.cell E rfl
              have a1 := wrap_add s.f u.f
              have HWE := Lib.hid hwe; have HVe := Lib.hid V; have HEe := Lib.hid E; have HBe := Lib.hid B; have HZe := Lib.hid Z
              clear hwe V E B Z HBd HVd HEd HZd
              refine wp_region_still_tail 8 (by kernel_rfl) (by kernel_rfl) ?_
              simp only [List.take_succ_cons, List.take_zero, List.drop_succ_cons, List.drop_zero]
              change wpStill _ _ (wd.setCell ⟨w.heap.size, 1, none⟩ (.int .u32 (Sha.add32 s.b u.b : Nat))).drew _ _ _
              rw [← HWE.out]
              repeat still_step
              refine wpStill_nil ?_
              change wpList _ _ _ _ _ (wd.setCell ⟨w.heap.size, 1, none⟩ (.int .u32 (Sha.add32 s.b u.b : Nat))).drew
              rw [← HWE.out]
              go_wp2_with fail
              have hB2 : Row32 (we.setCell ⟨w.heap.size, 5, none⟩ (.int .u32 (Sha.add32 s.f u.f : Nat))) w.heap.size 183 [Sha.add32 s.a u.a, Sha.add32 s.b u.b, s.c, s.d, Sha.add32 s.e u.e, Sha.add32 s.f u.f, s.g, s.h] := HBe.out.set_ 5 _
              exact ⟨⟨2, by omega, by go_num, Lib.hid (HVe.out.far _ _ (by simp; omega)), Lib.hid (HEe.out.far _ _ (by simp; omega)), Lib.hid hB2, Lib.hid (HZe.out.far _ _ (by simp)), hbe.setCell (p := ⟨w.heap.size, 5, none⟩) (Nat.le_refl _) _⟩, by simp [intOf]⟩
            · have HB0 : Row32 wr w.heap.size 183 [Sha.add32 s.a u.a, Sha.add32 s.b u.b, s.c, s.d, Sha.add32 s.e u.e, Sha.add32 s.f u.f, s.g, s.h] := HBj.out
              obtain ⟨wd, hwd⟩ : ∃ x : World, x = wr.drew := ⟨_, rfl⟩
              have V : W4 wd gv u.a u.b u.c u.d := by rw [hwd]; exact HVj.out
              have E : W4 wd ge u.e u.f u.g u.h := by rw [hwd]; exact HEj.out
              have B : Row32 wd w.heap.size 183 [Sha.add32 s.a u.a, Sha.add32 s.b u.b, s.c, s.d, Sha.add32 s.e u.e, Sha.add32 s.f u.f, s.g, s.h] := by rw [hwd]; exact HB0
              have Z : Row32 wd (w.heap.size + 1) 183 (List.replicate 8 0) := by rw [hwd]; exact HZj.out
              have hbd : Below w.heap.size w wd := by rw [hwd]; exact hbj.drew
              have x1 : wd.cell? ⟨w.heap.size, 2, none⟩ = some (.int .u32 (s.c : Int)) := RowV.cell B rfl
              have x2 : wd.frozen? ⟨w.heap.size, 2, none⟩ = false := RowV.free B 2
              have x3 : wd.cell? ⟨gv, 2, none⟩ = some (.int .u32 (u.c : Int)) := RowV.cell V rfl
              have a1 := wrap_add s.c u.c
              have HWD := Lib.hid hwd; have HVd := Lib.hid V; have HEd := Lib.hid E; have HBd := Lib.hid B; have HZd := Lib.hid Z
              clear hwd V E B Z HB0
              go_wp2_with fail
              refine wp_region_still_tail 7 (by kernel_rfl) (by kernel_rfl) ?_
              simp only [List.take_succ_cons, List.take_zero, List.drop_succ_cons, List.drop_zero]
              change wpStill _ _ wr.drew _ _ _
              rw [← HWD.out]
              repeat still_step
              refine wpStill_nil ?_
              change wpList _ _ _ _ _ wr.drew
              rw [← HWD.out]
              go_wp2_with fail
              clear x1 x2 x3 a1 HWD
              obtain ⟨we, hwe⟩ : ∃ x : World, x = (wd.setCell ⟨w.heap.size, 2, none⟩ (.int .u32 (Sha.add32 s.c u.c : Nat))).drew := ⟨_, rfl⟩
              have V : W4 we gv u.a u.b u.c u.d := by rw [hwe]; exact HVd.out.far _ _ (by simp; omega)
              have E : W4 we ge u.e u.f u.g u.h := by rw [hwe]; exact HEd.out.far _ _ (by simp; omega)
              have B : Row32 we w.heap.size 183 [Sha.add32 s.a u.a, Sha.add32 s.b u.b, Sha.add32 s.c u.c, s.d, Sha.add32 s.e u.e, Sha.add32 s.f u.f, s.g, s.h] := by rw [hwe]; exact HBd.out.set_ 2 _
              have Z : Row32 we (w.heap.size + 1) 183 (List.replicate 8 0) := by rw [hwe]; exact HZd.out.far _ _ (by simp)
              have hbe : Below w.heap.size w we := by rw [hwe]; exact (hbd.setCell (p := ⟨w.heap.size, 2, none⟩) (Nat.le_refl _) _).drew
              have y1 : IntKind.i64.wrap (6 : Int) = 6 := IntWalk.i64_in _ (by omega)
              have x1 : we.cell? ⟨w.heap.size, 6, none⟩ = some (.int .u32 (s.g : Int)) := RowV.cell B rfl
              have x2 : we.frozen? ⟨w.heap.size, 6, none⟩ = false := RowV.free B 6
              have x3 : we.cell? ⟨ge, 2, none⟩ = some (.int .u32 (u.g : Int)) := RowV.cell E rfl
              have a1 := wrap_add s.g u.g
              have HWE := Lib.hid hwe; have HVe := Lib.hid V; have HEe := Lib.hid E; have HBe := Lib.hid B; have HZe := Lib.hid Z
              clear hwe V E B Z HBd HVd HEd HZd
              refine wp_region_still_tail 8 (by kernel_rfl) (by kernel_rfl) ?_
              simp only [List.take_succ_cons, List.take_zero, List.drop_succ_cons, List.drop_zero]
              change wpStill _ _ (wd.setCell ⟨w.heap.size, 2, none⟩ (.int .u32 (Sha.add32 s.c u.c : Nat))).drew _ _ _
              rw [← HWE.out]
              repeat still_step
              refine wpStill_nil ?_
              change wpList _ _ _ _ _ (wd.setCell ⟨w.heap.size, 2, none⟩ (.int .u32 (Sha.add32 s.c u.c : Nat))).drew
              rw [← HWE.out]
              go_wp2_with fail
              have hB2 : Row32 (we.setCell ⟨w.heap.size, 6, none⟩ (.int .u32 (Sha.add32 s.g u.g : Nat))) w.heap.size 183 [Sha.add32 s.a u.a, Sha.add32 s.b u.b, Sha.add32 s.c u.c, s.d, Sha.add32 s.e u.e, Sha.add32 s.f u.f, Sha.add32 s.g u.g, s.h] := HBe.out.set_ 6 _
              exact ⟨⟨3, by omega, by go_num, Lib.hid (HVe.out.far _ _ (by simp; omega)), Lib.hid (HEe.out.far _ _ (by simp; omega)), Lib.hid hB2, Lib.hid (HZe.out.far _ _ (by simp)), hbe.setCell (p := ⟨w.heap.size, 6, none⟩) (Nat.le_refl _) _⟩, by simp [intOf]⟩
            · have HB0 : Row32 wr w.heap.size 183 [Sha.add32 s.a u.a, Sha.add32 s.b u.b, Sha.add32 s.c u.c, s.d, Sha.add32 s.e u.e, Sha.add32 s.f u.f, Sha.add32 s.g u.g, s.h] := HBj.out
              obtain ⟨wd, hwd⟩ : ∃ x : World, x = wr.drew := ⟨_, rfl⟩
              have V : W4 wd gv u.a u.b u.c u.d := by rw [hwd]; exact HVj.out
              have E : W4 wd ge u.e u.f u.g u.h := by rw [hwd]; exact HEj.out
              have B : Row32 wd w.heap.size 183 [Sha.add32 s.a u.a, Sha.add32 s.b u.b, Sha.add32 s.c u.c, s.d, Sha.add32 s.e u.e, Sha.add32 s.f u.f, Sha.add32 s.g u.g, s.h] := by rw [hwd]; exact HB0
              have Z : Row32 wd (w.heap.size + 1) 183 (List.replicate 8 0) := by rw [hwd]; exact HZj.out
              have hbd : Below w.heap.size w wd := by rw [hwd]; exact hbj.drew
              have x1 : wd.cell? ⟨w.heap.size, 3, none⟩ = some (.int .u32 (s.d : Int)) := RowV.cell B rfl
              have x2 : wd.frozen? ⟨w.heap.size, 3, none⟩ = false := RowV.free B 3
              have x3 : wd.cell? ⟨gv, 3, none⟩ = some (.int .u32 (u.d : Int)) := RowV.cell V rfl
              have a1 := wrap_add s.d u.d
              have HWD := Lib.hid hwd; have HVd := Lib.hid V; have HEd := Lib.hid E; have HBd := Lib.hid B; have HZd := Lib.hid Z
              clear hwd V E B Z HB0
              go_wp2_with fail
              refine wp_region_still_tail 7 (by kernel_rfl) (by kernel_rfl) ?_
              simp only [List.take_succ_cons, List.take_zero, List.drop_succ_cons, List.drop_zero]
              change wpStill _ _ wr.drew _ _ _
              rw [← HWD.out]
              repeat still_step
              refine wpStill_nil ?_
              change wpList _ _ _ _ _ wr.drew
              rw [← HWD.out]
              go_wp2_with fail
              clear x1 x2 x3 a1 HWD
              obtain ⟨we, hwe⟩ : ∃ x : World, x = (wd.setCell ⟨w.heap.size, 3, none⟩ (.int .u32 (Sha.add32 s.d u.d : Nat))).drew := ⟨_, rfl⟩
              have V : W4 we gv u.a u.b u.c u.d := by rw [hwe]; exact HVd.out.far _ _ (by simp; omega)
              have E : W4 we ge u.e u.f u.g u.h := by rw [hwe]; exact HEd.out.far _ _ (by simp; omega)
              have B : Row32 we w.heap.size 183 [Sha.add32 s.a u.a, Sha.add32 s.b u.b, Sha.add32 s.c u.c, Sha.add32 s.d u.d, Sha.add32 s.e u.e, Sha.add32 s.f u.f, Sha.add32 s.g u.g, s.h] := by rw [hwe]; exact HBd.out.set_ 3 _
              have Z : Row32 we (w.heap.size + 1) 183 (List.replicate 8 0) := by rw [hwe]; exact HZd.out.far _ _ (by simp)
              have hbe : Below w.heap.size w we := by rw [hwe]; exact (hbd.setCell (p := ⟨w.heap.size, 3, none⟩) (Nat.le_refl _) _).drew
              have y1 : IntKind.i64.wrap (7 : Int) = 7 := IntWalk.i64_in _ (by omega)
              have x1 : we.cell? ⟨w.heap.size, 7, none⟩ = some (.int .u32 (s.h : Int)) := RowV.cell B rfl
              have x2 : we.frozen? ⟨w.heap.size, 7, none⟩ = false := RowV.free B 7
              have x3 : we.cell? ⟨ge, 3, none⟩ = some (.int .u32 (u.h : Int)) := RowV.cell E rfl
              have a1 := wrap_add s.h u.h
              have HWE := Lib.hid hwe; have HVe := Lib.hid V; have HEe := Lib.hid E; have HBe := Lib.hid B; have HZe := Lib.hid Z
              clear hwe V E B Z HBd HVd HEd HZd
              refine wp_region_still_tail 8 (by kernel_rfl) (by kernel_rfl) ?_
              simp only [List.take_succ_cons, List.take_zero, List.drop_succ_cons, List.drop_zero]
              change wpStill _ _ (wd.setCell ⟨w.heap.size, 3, none⟩ (.int .u32 (Sha.add32 s.d u.d : Nat))).drew _ _ _
              rw [← HWE.out]
              repeat still_step
              refine wpStill_nil ?_
              change wpList _ _ _ _ _ (wd.setCell ⟨w.heap.size, 3, none⟩ (.int .u32 (Sha.add32 s.d u.d : Nat))).drew
              rw [← HWE.out]
              go_wp2_with fail
              have hB2 : Row32 (we.setCell ⟨w.heap.size, 7, none⟩ (.int .u32 (Sha.add32 s.h u.h : Nat))) w.heap.size 183 [Sha.add32 s.a u.a, Sha.add32 s.b u.b, Sha.add32 s.c u.c, Sha.add32 s.d u.d, Sha.add32 s.e u.e, Sha.add32 s.f u.f, Sha.add32 s.g u.g, Sha.add32 s.h u.h] := HBe.out.set_ 7 _
              exact ⟨⟨4, by omega, by go_num, Lib.hid (HVe.out.far _ _ (by simp; omega)), Lib.hid (HEe.out.far _ _ (by simp; omega)), Lib.hid hB2, Lib.hid (HZe.out.far _ _ (by simp)), hbe.setCell (p := ⟨w.heap.size, 7, none⟩) (Nat.le_refl _) _⟩, by simp [intOf]⟩
          · have he : j = 4 := by omega
            have hB4 : wr.heap[w.heap.size]? = some (.cells (w32 (outLH s u 4)).toArray 183 (0, 0)) := by have := HBj.out; rw [he] at this; exact this
            have HB4 := Lib.hid hB4
            clear hB4 he HBj
            have hl : (w32 (outLH s u 4)).toArray.size = 8 := rfl
            have hi8 : (Tryz.prog.info? 183).map (·.size) = some (w32 (outLH s u 4)).toArray.size := by rw [hl]; kernel_rfl
            have h1 : (w32 (outLH s u 4)).toArray.all (·.oneCell') = true := by rw [List.all_toArray, List.all_eq_true]; exact w32_one _
            have hz8 : (w32 (List.replicate 8 0)).toArray.size = (w32 (outLH s u 4)).toArray.size := rfl
            have hv : Value.agg (w32 (outLH s u 4)).toArray = .agg #[.int .u32 R.a, .int .u32 R.b, .int .u32 R.c, .int .u32 R.d, .int .u32 R.e, .int .u32 R.f, .int .u32 R.g, .int .u32 R.h] := by rw [HR.out]; rfl
            have HI8 := Lib.hid hi8; have H18 := Lib.hid h1; have HZ8 := Lib.hid hz8; have HV8 := Lib.hid hv
            clear hi8 h1 hz8 hv hl
            generalize (w32 (outLH s u 4)).toArray = X8 at *
            go_wp2_with (first | (refine wpList_load_row rfl _ _ rfl w.heap.size rfl _ X8 (0, 0) _ HB4.out Tryz.underlying183 rfl HI8.out ?_) | (refine wpList_store_row rfl _ _ _ rfl (w.heap.size + 1) X8 rfl rfl _ _ HZj.out HI8.out HZ8.out H18.out ?_))
            rw [← HV8.out]
            refine bodyPost_ret (v := .agg X8) ?_ rfl ⟨rfl, ?_⟩
            · exact results_cell_row rfl _ _ (w.heap.size + 1) _ _ (0, 0) _ rfl (setRow_heap _ _ _ _ _ _ HZj.out) Tryz.underlying183 rfl HI8.out
            · exact below_setRow hbj (by omega) _
end Go.Proofs.YtjhlpkhfdghngaaGreatDoor
namespace Go.Proofs.YtjhlpkhfdghngaaGreatDoor
open Go.RowKit Go.Sort
set_option linter.unusedVariables false
set_option linter.unusedSimpArgs false
set_option maxRecDepth 100000
def nb (s : ByteArray) : List Nat := s.data.toList.map (·.toNat)
theorem nb_len (s : ByteArray) : (nb s).length = s.size := by
  unfold nb
  rw [List.length_map, Array.length_toList]; rfl
theorem nb_lt (s : ByteArray) : ∀ x ∈ nb s, x < 256 := by
  intro x hx
  obtain ⟨b, _, rfl⟩ := List.mem_map.1 hx
  exact b.toNat_lt
theorem txt_nb (s : ByteArray) : txtCells s = b8 (nb s) := by
  unfold txtCells b8 nb
  rw [List.map_map]; rfl
def stL (s : Sha.St) : List Nat := [s.a, s.b, s.c, s.d, s.e, s.f, s.g, s.h]
def strLH (s : Sha.St) (blk : List Nat) (n : Nat) : List Value := w32 (stL s) ++ (b8 blk ++ [.int .u64 (n : Int)])
theorem b8_len (l : List Nat) : (b8 l).length = l.length := by simp [b8]
theorem b8_app (a b : List Nat) : b8 (a ++ b) = b8 a ++ b8 b := by simp [b8]
theorem b8_take (a : List Nat) (k : Nat) : b8 (a.take k) = (b8 a).take k := by simp [b8]
theorem b8_drop (a : List Nat) (k : Nat) : b8 (a.drop k) = (b8 a).drop k := by simp [b8]
theorem b8_one (L : List Nat) : ∀ v ∈ b8 L, v.oneCell' = true := by
  intro v hv
  obtain ⟨_, _, rfl⟩ := List.mem_map.1 hv
  rfl
section
variable {s : Sha.St} {blk : List Nat} {n : Nat}
theorem stL_len (s : Sha.St) : (w32 (stL s)).length = 8 := rfl
theorem strLH_len (h : blk.length = 64) : (strLH s blk n).length = 73 := by
  unfold strLH
  rw [List.length_append, List.length_append, stL_len, b8_len, h]; rfl
theorem strL_blk (h : blk.length = 64) {j : Nat} (hj : j < 64) : (strLH s blk n)[8 + j]? = some (.int .u8 (blk.getD j 0 : Nat)) := by
  unfold strLH
  rw [List.getElem?_append_right (by rw [stL_len]; omega), stL_len, Nat.add_sub_cancel_left, List.getElem?_append_left (by rw [b8_len]; omega)]
  exact b8_at blk (by omega)
theorem strL_n (h : blk.length = 64) : (strLH s blk n)[72]? = some (.int .u64 (n : Int)) := by
  unfold strLH
  rw [List.getElem?_append_right (by rw [stL_len]; omega), stL_len, List.getElem?_append_right (by rw [b8_len]; omega), b8_len, h]
  rfl
theorem strL_st {j : Nat} {v : Value} (h : (w32 (stL s))[j]? = some v) : (strLH s blk n)[j]? = some v := by
  unfold strLH
  rw [List.getElem?_append_left (List.getElem?_eq_some_iff.1 h).1]; exact h
theorem strL_put (h : blk.length = 64) {a : Nat} {x : List Nat} (hx : a + x.length ≤ 64) : splice (strLH s blk n) (8 + a) (b8 x) = strLH s (Sha.put blk a x) n := by
  unfold splice strLH Sha.put
  rw [List.take_append, List.take_of_length_le (by rw [stL_len]; omega), stL_len, Nat.add_sub_cancel_left, List.take_append_of_le_length (by rw [b8_len]; omega), b8_len,
    List.drop_append, List.drop_eq_nil_of_le (by rw [stL_len]; omega), stL_len, show 8 + a + x.length - 8 = a + x.length by omega, List.nil_append, List.drop_append_of_le_length (by rw [b8_len]; omega)]
  simp only [b8_app, b8_take, b8_drop, List.append_assoc]
theorem strL_st_put (s' : Sha.St) : splice (strLH s blk n) 0 (w32 (stL s')) = strLH s' blk n := by
  unfold splice strLH
  rw [List.take_zero, List.nil_append, stL_len, List.drop_append, List.drop_eq_nil_of_le (by rw [stL_len]; omega), stL_len]
  rfl
theorem strL_set (h : blk.length = 64) (n' : Nat) : (strLH s blk n).set 72 (.int .u64 (n' : Int)) = strLH s blk n' := by
  unfold strLH
  rw [List.set_append_right _ _ (by rw [stL_len]; omega), stL_len, List.set_append_right _ _ (by rw [b8_len]; omega), b8_len, h]
  rfl
theorem strL_one : ∀ v ∈ strLH s blk n, v.oneCell' = true := by
  intro v hv
  unfold strLH at hv
  rcases List.mem_append.1 hv with hv | hv
  · exact w32_one _ v hv
  · rcases List.mem_append.1 hv with hv | hv
    · exact b8_one _ v hv
    · rw [List.mem_singleton.1 hv]; rfl
end
def StrV (m : List Nat) (v : Value) : Prop := ∃ st blk, v = .agg (strLH st blk m.length).toArray ∧ Sha.Str m st blk ∧ ∀ x ∈ blk, x < 256
theorem put_lt {blk x : List Nat} {a : Nat} (h : ∀ z ∈ blk, z < 256) (hx : ∀ z ∈ x, z < 256) : ∀ z ∈ Sha.put blk a x, z < 256 := by
  intro z hz
  unfold Sha.put at hz
  rcases List.mem_append.1 hz with hz | hz
  · exact h z (List.mem_of_mem_take hz)
  · rcases List.mem_append.1 hz with hz | hz
    · exact hx z hz
    · exact h z (List.mem_of_mem_drop hz)
end Go.Proofs.YtjhlpkhfdghngaaGreatDoor
namespace Go.Proofs.YtjhlpkhfdghngaaGreatDoor
open Go.RowKit Go.Sort
set_option linter.unusedVariables false
set_option linter.unusedSimpArgs false
set_option maxRecDepth 100000
def partsV (v : VaryV) : List ByteArray := [v.header, sepT 32 v.values, v.dflt]
def openB (sg : Bool) : ByteArray := if sg then (⟨#[115, 105, 103, 110, 101, 100]⟩ : ByteArray) else (⟨#[111, 112, 101, 110]⟩ : ByteArray)
def headR (r : RuleV) : List ByteArray := [r.name, r.pat, sepT 44 r.tags, numT [r.fresh, r.stale, r.down, r.neg, r.cost], (textE r.allow).1, openB r.signed, r.prog, itoaB r.vary.length]
def partsR (r : RuleV) : List ByteArray := headR r ++ r.vary.flatMap partsV
def partsP (cust : ByteArray) (party : Int) (l : List RuleV) : List ByteArray := [cust, itoaB party] ++ l.flatMap partsR
structure NameOk (x : RuleM) : Prop where
  ok : RuleOk x.r
  fits : RuleFits x.r
  ct : x.r.tags.length ≤ x.ct
  cy : ∀ y ∈ x.L, y.v.values.length ≤ y.c
  tx : (textE x.r.allow).1.size ≤ 1000000
theorem sep_le (d : UInt8) (B : Nat) (ws : List ByteArray) (h : ∀ x ∈ ws, x.size ≤ B) : (Lib.join (ws.map (·.data.toList)) [d]).length ≤ ws.length * (B + 1) := by
  have := join_le d B (ws.map (·.data.toList)) (by
    intro y hy
    obtain ⟨z, hz, rfl⟩ := List.mem_map.1 hy
    have := h z hz; rw [Lib.size_eq] at this; exact this)
  rwa [List.length_map] at this
theorem sep_size (d : UInt8) (B : Nat) (ws : List ByteArray) (h : ∀ x ∈ ws, x.size ≤ B) : (sepT d ws).size ≤ ws.length * (B + 1) := by
  have := sep_le d B ws h
  unfold sepT
  rw [Lib.size_eq]
  exact this
theorem sep10 (d : UInt8) (ws : List ByteArray) (hn : ws.length ≤ 10) (h : ∀ x ∈ ws, x.size ≤ 200) : (Lib.join (ws.map (·.data.toList)) [d]).length ≤ 2010 := by
  have := sep_le d 200 ws h
  have h2 : ws.length * (200 + 1) ≤ 10 * 201 := Nat.mul_le_mul_right _ hn
  omega
theorem num5_size (l : List Int) (hn : l.length ≤ 5) (h : ∀ x ∈ l, -9223372036854775808 ≤ x ∧ x ≤ 9223372036854775807) : (Lib.join ((l.map itoaB).map (·.data.toList)) [32]).length ≤ 110 := by
  have := sep_le 32 21 (l.map itoaB) (by
    intro y hy
    obtain ⟨z, hz, rfl⟩ := List.mem_map.1 hy
    exact itoa_size z (h z hz).1 (h z hz).2)
  rw [List.length_map] at this
  have h2 : l.length * (21 + 1) ≤ 5 * 22 := Nat.mul_le_mul_right _ hn
  omega
theorem sepR_any (d : UInt8) (A : Option Addr) (n c : Nat) (ws : List ByteArray) (W : World) (hR : Reads W 1 A n (ws.map .string)) (hc : n ≤ c) (hn : n ≤ 1000000) (hlen : (Lib.join (ws.map (·.data.toList)) [d]).length ≤ 140737488355328) :
    Calls Tryz.prog 62 #[.slice A n c, .string ⟨#[d]⟩] W (Ret W (.string (sepT d ws))) := by
  have hl : ws.length = n := by have := hR.1; simp at this; omega
  rcases Nat.eq_zero_or_pos n with h0 | h0
  · subst h0
    obtain rfl : ws = [] := List.eq_nil_of_length_eq_zero hl
    refine (Tryz.strings_Join_none A c ⟨#[d]⟩ W).mono fun e w' ⟨h5, h6⟩ => ⟨?_, by rw [h6]; exact Below.refl _ _⟩
    rw [h5]
    rfl
  · have hlt := fun b o (e : A = some ⟨b, o, none⟩) => reads_lt hR h0 ⟨b, o, none⟩ e
    obtain ⟨b, o, rfl, hcell⟩ := hR.2 h0
    have := Tryz.strings_Join b o c ws ⟨#[d]⟩ W (fun j x hx => hcell j (.string x) (by simp [hx])) (hlt b o rfl) (by omega) (by omega) hlen
    rw [hl] at this
    exact this
theorem headR_size {x : RuleM} (h : NameOk x) : ∀ s ∈ headR x.r, s.size ≤ 1000000 := by
  obtain ⟨ok, f, ct, cy, tx⟩ := h
  have h1 := f.name; have h2 := f.pat; have h3 := f.prog
  have h4 := sep_size 44 200 x.r.tags f.t
  have h4b : x.r.tags.length * (200 + 1) ≤ 10 * 201 := Nat.mul_le_mul_right _ f.nt
  have h5 : (numT [x.r.fresh, x.r.stale, x.r.down, x.r.neg, x.r.cost]).size ≤ 110 := by
    unfold numT sepT
    rw [Lib.size_eq]
    refine num5_size _ (by simp) ?_
    have := ok.f0; have := ok.f1; have := ok.s0; have := ok.s1; have := ok.d0; have := ok.d1; have := ok.n0; have := ok.n1; have := ok.c0; have := ok.c1
    intro y hy
    simp only [List.mem_cons, List.not_mem_nil, or_false] at hy
    rcases hy with rfl | rfl | rfl | rfl | rfl <;> omega
  have h6 : (openB x.r.signed).size ≤ 6 := by
    unfold openB; split <;> decide
  have h7 : (itoaB (x.r.vary.length : Int)).size ≤ 21 := itoa_size _ (by omega) (by have := f.nv; omega)
  intro s hs
  unfold headR at hs
  simp only [List.mem_cons, List.not_mem_nil, or_false] at hs
  rcases hs with rfl | rfl | rfl | rfl | rfl | rfl | rfl | rfl <;> omega
theorem partsV_size {v : VaryV} (h : VaryFits v) : ∀ s ∈ partsV v, s.size ≤ 1000000 := by
  have h1 := h.h; have h2 := h.d
  have h4 := sep_size 32 200 v.values h.x
  have h4b : v.values.length * (200 + 1) ≤ 10 * 201 := Nat.mul_le_mul_right _ h.n
  intro s hs
  unfold partsV at hs
  simp only [List.mem_cons, List.not_mem_nil, or_false] at hs
  rcases hs with rfl | rfl | rfl <;> omega
theorem partsR_size {x : RuleM} (h : NameOk x) : ∀ s ∈ partsR x.r, s.size ≤ 1000000 := by
  intro s hs
  unfold partsR at hs
  rcases List.mem_append.1 hs with hs | hs
  · exact headR_size h s hs
  · obtain ⟨v, hv, hs⟩ := List.mem_flatMap.1 hs
    exact partsV_size (h.fits.v v hv) s hs
theorem flat3_len (l : List VaryV) : (l.flatMap partsV).length = 3 * l.length := by
  induction l with
  | nil => rfl
  | cons v l ih => rw [List.flatMap_cons, List.length_append, ih]; simp [partsV]; omega
theorem partsR_len {x : RuleM} (h : NameOk x) : (partsR x.r).length ≤ 38 := by
  unfold partsR
  rw [List.length_append, flat3_len]
  have := h.fits.nv
  simp [headR]; omega
theorem partsP_size (cust : ByteArray) (party : Int) (L : List RuleM) (hc : cust.size ≤ 1000000) (hp : -9223372036854775808 ≤ party ∧ party ≤ 9223372036854775807) (h : ∀ x ∈ L, NameOk x) : ∀ s ∈ partsP cust party (L.map (·.r)), s.size ≤ 1000000 := by
  intro s hs
  unfold partsP at hs
  rcases List.mem_append.1 hs with hs | hs
  · simp only [List.mem_cons, List.not_mem_nil, or_false] at hs
    rcases hs with rfl | rfl
    · exact hc
    · have := itoa_size party hp.1 hp.2; omega
  · obtain ⟨r, hr, hs⟩ := List.mem_flatMap.1 hs
    obtain ⟨x, hx, rfl⟩ := List.mem_map.1 hr
    exact partsR_size (h x hx) s hs
theorem flatR_len (L : List RuleM) (h : ∀ x ∈ L, NameOk x) : ((L.map (·.r)).flatMap partsR).length ≤ 38 * L.length := by
  induction L with
  | nil => simp
  | cons x L ih =>
    rw [List.map_cons, List.flatMap_cons, List.length_append]
    have h1 := partsR_len (h x (by simp))
    have h2 := ih (fun y hy => h y (by simp [hy]))
    simp only [List.length_cons]
    omega
theorem run_cond_at {W : World} {g : Nat} {X : Array Value} {c : CondV} {m : CondMem} (h : Box1 W g 33 X) (hX : ∀ j v, [Value.int .i64 c.fr, .int .i64 c.till, .string c.pat, .slice m.A c.cl.length m.ca, .slice m.B c.co.length m.cb, .slice m.S c.si.length m.cs, .int .i64 c.us][j]? = some v → X[8 + j]? = some v) :
    (loadVar 31 ⟨g, 8, none⟩).run Tryz.prog W = .ok (CondMem.val c m) W := by
  refine run_loadVar_at (P := Tryz.prog) W g 8 33 31 X.toList [Value.int .i64 c.fr, .int .i64 c.till, .string c.pat, .slice m.A c.cl.length m.ca, .slice m.B c.co.length m.cb, .slice m.S c.si.length m.cs, .int .i64 c.us] (0, 0) _ ?_ ?_ Tryz.underlying31 rfl (by kernel_rfl)
  · rw [Array.toArray_toList]; exact h
  · intro j v hj
    have := hX j v hj
    rwa [← Array.getElem?_toList] at this
end Go.Proofs.YtjhlpkhfdghngaaGreatDoor
