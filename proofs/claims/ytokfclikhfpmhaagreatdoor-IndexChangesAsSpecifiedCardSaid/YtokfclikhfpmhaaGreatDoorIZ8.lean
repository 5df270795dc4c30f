/- The schedule of a block. -/
import Derived.Test.YtokfclikhfpmhaaGreatDoorIZ4
import Derived.Test.YtokfclikhfpmhaaGreatDoorIZ1
import Derived.Test.YtokfclikhfpmhaaGreatDoorIZ5
import Derived.LoopTactic
import Derived.RegionTactic
import Derived.StillTailTactics
import Derived.IntWalk
import Derived.Test.YtokfclikhfpmhaaGreatDoorProg
import Derived.WalkKit
import Derived.WalkSpells
import Derived.WalkLawsBesides
import Derived.Below
import Derived.Deep.QuietTactic
import Derived.BigQuiet
import Derived.Lib.QuietBelow
import Derived.Lib.Strings
import Derived.Lib.Hide
import Derived.Deep.RegionWith
import Derived.Deep.RegionHeld3
import Derived.Lib.IndexBytes
namespace Go.Proofs.YtokfclikhfpmhaaGreatDoor
open Go.RowKit Go.Sort
set_option linter.unusedVariables false
set_option linter.unusedSimpArgs false
set_option maxRecDepth 100000
def b8 (l : List Nat) : List Value := l.map fun x : Nat => Value.int .u8 (x : Int)
theorem b8_at (l : List Nat) {k : Nat} (hk : k < l.length) : (b8 l)[k]? = some (.int .u8 ((l.getD k 0 : Nat) : Int)) := by
  simp [b8, List.getD_eq_getElem?_getD, List.getElem?_eq_getElem hk]
def pre (S : List Nat) (t : Nat) : List Nat := S.take t ++ List.replicate (64 - t) 0
section
variable {S : List Nat}
theorem pre_len (hS : S.length = 64) {t : Nat} (h : t ≤ 64) : (pre S t).length = 64 := by
  unfold pre; simp [hS]; omega
theorem pre_lt (hS : S.length = 64) {t k : Nat} (hk : k < t) (ht : t ≤ 64) : (pre S t).getD k 0 = S.getD k 0 := by
  unfold pre
  rw [List.getD_eq_getElem?_getD, List.getElem?_append_left (by simp [hS]; omega), ← List.getD_eq_getElem?_getD, Sha.getD_take hk]
theorem pre_ge (hS : S.length = 64) {t k : Nat} (hk : t ≤ k) (ht : t ≤ 64) : (pre S t).getD k 0 = 0 := by
  unfold pre
  rw [List.getD_eq_getElem?_getD, List.getElem?_append_right (by simp [hS]; omega)]
  rw [List.getElem?_replicate]
  split <;> simp
theorem at64 (l : List Nat) (hl : l.length = 64) (k : Nat) : l[k]? = if k < 64 then some (l.getD k 0) else none := by
  split
  · rw [List.getD_eq_getElem?_getD, List.getElem?_eq_getElem (by omega)]; simp
  · exact List.getElem?_eq_none (by omega)
theorem pre_succ (hS : S.length = 64) {t : Nat} (ht : t < 64) : (pre S t).set t (S.getD t 0) = pre S (t + 1) := by
  apply List.ext_getElem?
  intro k
  rw [at64 _ (by rw [List.length_set]; exact pre_len hS (by omega)), at64 _ (pre_len hS (by omega))]
  split
  · congr 1
    rcases Nat.lt_trichotomy k t with h | h | h
    · rw [pre_lt hS (by omega) (by omega), ← pre_lt hS h (by omega), List.getD_eq_getElem?_getD, List.getElem?_set_ne (by omega), ← List.getD_eq_getElem?_getD]
    · subst h
      rw [pre_lt hS (by omega) (by omega), List.getD_eq_getElem?_getD, List.getElem?_set_self (by rw [pre_len hS (by omega)]; omega), Option.getD_some]
    · rw [pre_ge hS (by omega) (by omega), List.getD_eq_getElem?_getD, List.getElem?_set_ne (by omega), ← List.getD_eq_getElem?_getD, pre_ge hS (Nat.le_of_lt h) (by omega)]
  · rfl
theorem pre_zero (S : List Nat) : pre S 0 = List.replicate 64 0 := by simp [pre]
theorem pre_all (hS : S.length = 64) : pre S 64 = S := by
  unfold pre
  rw [List.take_of_length_le (by omega)]; simp
theorem pre_none (hS : S.length = 64) {t : Nat} (ht : t < 64) : (pre S t).set t 0 = pre S t := by
  apply List.ext_getElem?
  intro k
  by_cases h : t = k
  · subst h
    rw [List.getElem?_set_self (by rw [pre_len hS (by omega)]; omega), at64 _ (pre_len hS (by omega)), if_pos ht, pre_ge hS (Nat.le_refl _) (by omega)]
  · rw [List.getElem?_set_ne h]
theorem set_set (L : List Nat) (t a v : Nat) : (L.set t a).set t v = L.set t v := List.set_set ..
theorem set_at {L : List Nat} {t v : Nat} (h : t < L.length) : (L.set t v).getD t 0 = v := by
  rw [List.getD_eq_getElem?_getD, List.getElem?_set_self h, Option.getD_some]
end
theorem or8 (a x : Nat) (ha : a < 16777216) (hx : x < 256) : bits .or .u32 ((a : Int) * 256) (x : Int) = ((a * 256 + x : Nat) : Int) := by
  have h := u32_or_nat (a * 256) x (by omega) (by omega)
  rw [Sha.or_byte a x hx] at h
  have e : ((a * 256 : Nat) : Int) = (a : Int) * 256 := by omega
  rw [e] at h; exact h
structure Sched (b S : List Nat) : Prop where
  len : S.length = 64
  lo : ∀ t, t < 16 → S.getD t 0 = Sha.part (b.drop (4 * t)) 4
  hi : ∀ t, 16 ≤ t → t < 64 → S.getD t 0 = Sha.add32 (Sha.add32 (Sha.add32 (S.getD (t - 16) 0) (Sha.s0 (S.getD (t - 15) 0))) (S.getD (t - 7) 0)) (Sha.s1 (S.getD (t - 2) 0))
  lt : ∀ t, S.getD t 0 < 4294967296
theorem sched_is {b : List Nat} (hb : ∀ x ∈ b, x < 256) : Sched b (Sha.sched b) :=
  ⟨Sha.sched_len b, fun t h => by rw [Sha.sched_lo b t h, Sha.part4], Sha.sched_hi b, Sha.sched_lt hb⟩
set_option maxHeartbeats 4000000 in
theorem schedule_any (A : Option Addr) (c : Nat) (b : List Nat) (w : World) (hR : Reads w 1 A 64 (b8 b)) (hb : ∀ x ∈ b, x < 256) (hc : 64 ≤ c) (hc2 : c ≤ 1000000000) :
    Calls Tryz.prog 167 #[.slice A 64 c] w (Ret w (.agg (w32 (Sha.sched b)).toArray)) := by
  obtain ⟨bb, bo, rfl, hcell⟩ := hR.2 (by decide)
  have hbl : b.length = 64 := by have := hR.1; simpa [b8] using this
  have hlt : bb < w.heap.size := by
    have := hcell 0 _ (b8_at b (k := 0) (by omega))
    exact cell_lt this
  have hS := sched_is hb
  generalize Sha.sched b = S at *
  have HS := Lib.hid hS
  have HB := Lib.hid hb; have HL := Lib.hid hbl; have HC := Lib.hid (fun k hk => hcell k _ (b8_at b (k := k) hk))
  clear hR hb hbl hcell hS
  go_enter Tryz.func167, Tryz.ntmps167
  go_wp2
  go_loopw [11] (fun i wr => ∃ t : Nat, t ≤ 64 ∧ i = .int .i64 t ∧ Hid (Row32 wr (w.heap.size + 1) 213 (pre S t)) ∧ Hid (Row32 wr w.heap.size 213 (pre S 0)) ∧ Below w.heap.size w wr) (fun i _ => 64 - (intOf i).toNat)
  case atStart =>
    refine ⟨0, by omega, rfl, Lib.hid ?_, Lib.hid ?_, belB⟩
    · rw [pre_zero]; exact Eq.trans (heap_alloc2_new w _ _) rfl
    · rw [pre_zero]; exact Eq.trans (heap_alloc2_old w _ _) rfl
  case round =>
    obtain ⟨t, ht, rfl, HW, HZ, hbw⟩ := hrel
    have hsz : w.heap.size + 1 < wr.heap.size := HW.out.lt
    by_cases h64 : t < 64
    · by_cases h16 : t < 16
      · have hct : 4 * t + 4 ≤ c := by omega
        have hpd : ∀ j, j < 4 → wr.cell? ⟨bb, bo + (4 * t + j), none⟩ = some (.int .u8 (b.getD (4 * t + j) 0 : Nat)) := fun j hj => cell_keep hbw (HC.out (4 * t + j) (by have := HL.out; omega))
        have HP := Lib.hid hpd
        clear hpd
        obtain ⟨d, hd⟩ : ∃ d, d = b.drop (4 * t) := ⟨_, rfl⟩
        have hdl : ∀ j, d.getD j 0 = b.getD (4 * t + j) 0 := fun j => by rw [hd, Sha.getD_drop]
        have hdb : ∀ j, d.getD j 0 < 256 := fun j => by rw [hdl]; exact Sha.getD_lt HB.out _
        have h4 : Sha.part d 4 = S.getD t 0 := by rw [hd]; exact (HS.out.lo t h16).symm
        have HD := Lib.hid hdl; have HE := Lib.hid hdb; have H4 := Lib.hid h4
        clear hd hdl hdb h4
        go_wp2_with fail
        obtain ⟨wo, rfl⟩ : ∃ wo : World, wo = wr := ⟨_, rfl⟩
        go_loopw [24] (fun i wi => ∃ j : Nat, j ≤ 4 ∧ i = .int .i64 j ∧ Hid (Row32 wi (w.heap.size + 1) 213 ((pre S t).set t (Sha.part d j))) ∧ Hid (Row32 wi w.heap.size 213 (pre S 0)) ∧ Below w.heap.size w wi) (fun i _ => 4 - (intOf i).toNat)
        case atStart =>
          refine ⟨0, by omega, rfl, Lib.hid ?_, HZ, hbw⟩
          show Row32 _ _ _ ((pre S t).set t 0)
          rw [pre_none HS.out.len h64]; exact HW.out
        case round =>
          obtain ⟨j, hj, rfl, HW2, HZ2, hb2⟩ := hrel
          have hsz2 : w.heap.size + 1 < wr.heap.size := HW2.out.lt
          by_cases hj4 : j < 4
          · have hx : wr.cell? ⟨bb, bo + 4 * t + j, none⟩ = some (.int .u8 (d.getD j 0 : Nat)) := by rw [HD.out j, Nat.add_assoc]; exact cell_keep hb2 (HC.out (4 * t + j) (by have := HL.out; omega))
            have hy := HE.out j
            have hp := Sha.part_lt d HE.out j
            have hp2 : Sha.part d j < 16777216 := by
              have : 256 ^ j ≤ 256 ^ 3 := Nat.pow_le_pow_right (by decide) (by omega)
              omega
            have hcw := HW2.out.cell (k := t) (by rw [List.length_set, pre_len HS.out.len (by omega)]; exact h64)
            rw [set_at (by rw [pre_len HS.out.len (by omega)]; exact h64)] at hcw
            have hfw := HW2.out.free t
            have ho := or8 (Sha.part d j) (d.getD j 0) hp2 hy
            have hs : Sha.part d (j + 1) = Sha.part d j * 256 + d.getD j 0 := rfl
            rw [← hs] at ho
            have HW3 : Hid (∀ W, Row32 W (w.heap.size + 1) 213 ((pre S t).set t (Sha.part d j)) → Row32 (W.setCell ⟨w.heap.size + 1, t, none⟩ (.int .u32 (Sha.part d (j + 1) : Nat))) (w.heap.size + 1) 213 ((pre S t).set t (Sha.part d (j + 1)))) := Lib.hid fun W h => by
              have := h.set_ t (Sha.part d (j + 1))
              rw [set_set] at this; exact this
            clear hs hp
            generalize d.getD j 0 = x at *
            generalize Sha.part d j = y at *
            go_wp2_with fail
            exact ⟨⟨j + 1, by omega, by go_num, Lib.hid (HW3.out _ HW2.out), Lib.hid (HZ2.out.far _ _ (by simp)), belB⟩, by simp [intOf]; omega⟩
          · have hj' : j = 4 := by omega
            have HW3 : Hid (Row32 wr (w.heap.size + 1) 213 (pre S (t + 1))) := Lib.hid (by
              have := HW2.out
              rw [hj', H4.out, pre_succ HS.out.len h64] at this; exact this)
            clear hj'
            go_wp2_with fail
            exact ⟨⟨t + 1, by omega, by go_num, HW3, HZ2, hb2⟩, by simp [intOf]; omega⟩
      · have e1 := pre_lt HS.out.len (k := t - 15) (t := t) (by omega) ht
        have e2 := pre_lt HS.out.len (k := t - 2) (t := t) (by omega) ht
        have e3 := pre_lt HS.out.len (k := t - 16) (t := t) (by omega) ht
        have e4 := pre_lt HS.out.len (k := t - 7) (t := t) (by omega) ht
        have c1 := HW.out.cell (k := t - 15) (by rw [pre_len HS.out.len (by omega)]; omega)
        have c2 := HW.out.cell (k := t - 2) (by rw [pre_len HS.out.len (by omega)]; omega)
        have c3 := HW.out.cell (k := t - 16) (by rw [pre_len HS.out.len (by omega)]; omega)
        have c4 := HW.out.cell (k := t - 7) (by rw [pre_len HS.out.len (by omega)]; omega)
        have c5 := HW.out.cell (k := t) (by rw [pre_len HS.out.len (by omega)]; omega)
        have f5 := HW.out.free t
        rw [e1] at c1; rw [e2] at c2; rw [e3] at c3; rw [e4] at c4
        clear e1 e2 e3 e4
        have hi := HS.out.hi t (by omega) h64
        have l1 := HS.out.lt (t - 15)
        have l2 := HS.out.lt (t - 2)
        have l3 := HS.out.lt (t - 16)
        have l4 := HS.out.lt (t - 7)
        have HN : Hid (∀ W, Row32 W (w.heap.size + 1) 213 (pre S t) → Row32 (W.setCell ⟨w.heap.size + 1, t, none⟩ (.int .u32 (S.getD t 0 : Nat))) (w.heap.size + 1) 213 (pre S (t + 1))) := Lib.hid fun W h => by
          have := h.set_ t (S.getD t 0)
          rw [pre_succ HS.out.len h64] at this; exact this
        generalize S.getD t 0 = x0 at *
        generalize S.getD (t - 15) 0 = p at *
        generalize S.getD (t - 2) 0 = q at *
        generalize S.getD (t - 16) 0 = x3 at *
        generalize S.getD (t - 7) 0 = x4 at *
        have i1 : (0 : Int) ≤ (t : Int) - 15 := by omega
        have i2 : (0 : Int) ≤ (t : Int) - 2 := by omega
        have i3 : (0 : Int) ≤ (t : Int) - 16 := by omega
        have i4 : (0 : Int) ≤ (t : Int) - 7 := by omega
        have n1 : ((t : Int) - 15).toNat = t - 15 := by omega
        have n2 : ((t : Int) - 2).toNat = t - 2 := by omega
        have n3 : ((t : Int) - 16).toNat = t - 16 := by omega
        have n4 : ((t : Int) - 7).toNat = t - 7 := by omega
        have HI := Lib.hid hi
        clear hi
        have r1 := Lib.hid fun W => rotl_same p 7 W l1 (by omega) (by omega)
        have r2 := Lib.hid fun W => rotl_same p 18 W l1 (by omega) (by omega)
        have r3 := Lib.hid fun W => rotl_same q 17 W l2 (by omega) (by omega)
        have r4 := Lib.hid fun W => rotl_same q 19 W l2 (by omega) (by omega)
        have x1 := xor_words (Sha.rot p 7) (Sha.rot p 18) (Sha.rot_lt p 7 l1) (Sha.rot_lt p 18 l1)
        have x2 : bits .xor .u32 ((Sha.rot p 7 ^^^ Sha.rot p 18 : Nat) : Int) ((p : Int) / 8) = ((Sha.s0 p : Nat) : Int) := xor_words (Sha.rot p 7 ^^^ Sha.rot p 18) (p / 8) (Sha.xor_lt (Sha.rot_lt p 7 l1) (Sha.rot_lt p 18 l1)) (by omega)
        have x3' := xor_words (Sha.rot q 17) (Sha.rot q 19) (Sha.rot_lt q 17 l2) (Sha.rot_lt q 19 l2)
        have x4' : bits .xor .u32 ((Sha.rot q 17 ^^^ Sha.rot q 19 : Nat) : Int) ((q : Int) / 1024) = ((Sha.s1 q : Nat) : Int) := xor_words (Sha.rot q 17 ^^^ Sha.rot q 19) (q / 1024) (Sha.xor_lt (Sha.rot_lt q 17 l2) (Sha.rot_lt q 19 l2)) (by omega)
        have l5 := Sha.s0_lt p l1
        have l6 := Sha.s1_lt q l2
        go_wp2_with fail
        go_quiet (fail)
        go_wp2_with fail
        refine (r1.out _).mono ?_
        rintro e w1 ⟨rfl, rfl⟩
        go_wp2_with fail
        refine (r2.out _).mono ?_
        rintro e w1 ⟨rfl, rfl⟩
        go_wp2_with fail
        refine (r3.out _).mono ?_
        rintro e w1 ⟨rfl, rfl⟩
        go_wp2_with fail
        refine (r4.out _).mono ?_
        rintro e w1 ⟨rfl, rfl⟩
        go_wp2_with fail
        generalize Sha.s0 p = s0 at *
        generalize Sha.s1 q = s1 at *
        have v3 : IntKind.i64.wrap ((t : Int) - 16) = (t : Int) - 16 := IntWalk.i64_in _ (by omega)
        have v4 : IntKind.i64.wrap ((t : Int) - 7) = (t : Int) - 7 := IntWalk.i64_in _ (by omega)
        have j3 : (t : Int) - 16 < 64 := by omega
        have j4 : (t : Int) - 7 < 64 := by omega
        have j5 : (7 : Int) ≤ t := by omega
        obtain ⟨wd, hwd⟩ : ∃ wd, wd = (wr.drewN nq).drew := ⟨_, rfl⟩
        have d3 : wd.cell? ⟨w.heap.size + 1, t - 16, none⟩ = some (.int .u32 x3) := by rw [hwd]; exact c3
        have d4 : wd.cell? ⟨w.heap.size + 1, t - 7, none⟩ = some (.int .u32 x4) := by rw [hwd]; exact c4
        have d5 : wd.cell? ⟨w.heap.size + 1, t, none⟩ = some (.int .u32 ((pre S t).getD t 0 : Nat)) := by rw [hwd]; exact c5
        have df : wd.frozen? ⟨w.heap.size + 1, t, none⟩ = false := by rw [hwd]; exact f5
        have HW' : Hid (Row32 wd (w.heap.size + 1) 213 (pre S t)) := Lib.hid (by rw [hwd]; exact HW.out)
        have HZ' : Hid (Row32 wd w.heap.size 213 (pre S 0)) := Lib.hid (by rw [hwd]; exact HZ.out)
        have hbd : Below w.heap.size w wd := by rw [hwd]; exact (bdrewN hbw _).drew
        have hszd : w.heap.size + 1 < wd.heap.size := HW'.out.lt
        refine wp_region_still_tail 14 (by kernel_rfl) (by kernel_rfl) ?_
        simp only [List.take_succ_cons, List.take_zero, List.drop_succ_cons, List.drop_zero]
        change wpStill _ _ (wr.drewN nq).drew _ _ _
        rw [← hwd]
        clear c1 c2 c3 c4 c5 f5 HW HZ hbw hsz
        have HWD := Lib.hid hwd
        clear hwd
        repeat still_step
        refine wpStill_nil ?_
        change wpList _ _ _ _ _ (wr.drewN nq).drew
        rw [← HWD.out]
        clear v3 v4 j3 j4 j5 HWD
        go_wp2_with fail
        refine ⟨⟨t + 1, by omega, by go_num, Lib.hid ?_, Lib.hid (HZ'.out.far _ _ (by simp)), belB⟩, by simp [intOf]; omega⟩
        have := HN.out _ HW'.out
        rw [show ((x0 : Nat) : Int) = ((x3 : Int) + s0 + x4 + s1) % 4294967296 by rw [HI.out]; unfold Sha.add32; omega] at this
        exact this
    · have he : t = 64 := by omega
      have HW2 : Hid (Row32 wr (w.heap.size + 1) 213 S) := Lib.hid (by
        have := HW.out
        rw [he, pre_all HS.out.len] at this; exact this)
      have hl : (w32 S).length = 64 := by rw [w32_len, HS.out.len]
      have hi : (Tryz.prog.info? 213).map (·.size) = some (w32 S).toArray.size := by rw [List.size_toArray, hl]; kernel_rfl
      have hpl : (w32 (pre S 0)).toArray.size = (w32 S).toArray.size := by rw [List.size_toArray, List.size_toArray, hl, w32_len, pre_len HS.out.len (by omega)]
      have h1 : (w32 S).toArray.all (·.oneCell') = true := by rw [List.all_toArray, List.all_eq_true]; exact w32_one S
      clear he HW
      go_wp2_with (first | (refine wpList_load_row rfl _ _ rfl (w.heap.size + 1) rfl _ (w32 S).toArray (0, 0) _ HW2.out Tryz.underlying213 rfl hi ?_) | (refine wpList_store_row rfl _ _ _ rfl w.heap.size (w32 S).toArray rfl rfl _ _ HZ.out hi hpl h1 ?_))
      refine bodyPost_ret (v := .agg (w32 S).toArray) ?_ rfl ⟨rfl, ?_⟩
      · exact results_cell_row rfl _ _ w.heap.size _ _ (0, 0) _ rfl (setRow_heap _ _ _ _ _ _ HZ.out) Tryz.underlying213 rfl hi
      · exact below_setRow hbw (Nat.le_refl _) _
end Go.Proofs.YtokfclikhfpmhaaGreatDoor
