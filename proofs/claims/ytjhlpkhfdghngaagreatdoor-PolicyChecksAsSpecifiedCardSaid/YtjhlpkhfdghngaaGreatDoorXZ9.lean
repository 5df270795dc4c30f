/- Whether a rule is valid: the walk of policy.Valid. -/
import Derived.Test.YtjhlpkhfdghngaaGreatDoorXZ8
import Derived.Test.YtjhlpkhfdghngaaGreatDoorXZ6
import Derived.Test.YtjhlpkhfdghngaaGreatDoorXZ7
import Derived.Test.YtjhlpkhfdghngaaGreatDoorXZ5
import Derived.Test.YtjhlpkhfdghngaaGreatDoorXZ4
import Derived.Test.YtjhlpkhfdghngaaGreatDoorProg
import Derived.WalkKit
import Derived.WalkSpells
import Derived.WalkLawsBesides
import Derived.Below
import Derived.Deep.QuietTactic
import Derived.BigQuiet
import Derived.Lib.QuietBelow
import Derived.Lib.Strings
import Derived.Lib.Hide
import Derived.Deep.RegionWith
import Derived.Deep.RegionHeld3
import Derived.Lib.IndexBytes
import Derived.Deep.DeepCutAuto
import Derived.Laws.Tables
import Derived.Test.YtjhlpkhfdghngaaGreatDoorXZ0
import Derived.Orders
import Derived.OrdersIn
import Derived.StillTail
import Derived.TacticsIn
import Derived.Test.YtjhlpkhfdghngaaGreatDoorXZ1
import Derived.Deep.Upon
import Derived.OwnWalkIn
namespace Go.Proofs.YtjhlpkhfdghngaaGreatDoor
open Go.RowKit Go.Sort
set_option linter.unusedVariables false
set_option linter.unusedSimpArgs false
set_option maxRecDepth 100000
theorem okN_at {l : List ByteArray} {k : Nat} {x y : ByteArray} (hx : l[k + 1]? = some x) (hy : l[k]? = some y) : okK ltB isNameB l (k + 1) = (isNameB x && ltB y x) := by
  unfold okK
  rw [hx, Nat.add_sub_cancel, hy]
  simp
theorem okN_zero {l : List ByteArray} {x : ByteArray} (hx : l[0]? = some x) : okK ltB isNameB l 0 = isNameB x := by
  unfold okK
  rw [hx]; simp
theorem namesA_fail {l : List ByteArray} {k : Nat} (hk : k < l.length) (h2 : okK ltB isNameB l k = false) : namesA l = false := by
  unfold namesA
  rw [List.all_eq_false]
  exact ⟨k, by simpa using hk, by rw [h2]; simp⟩
theorem min4 (a b c d : Int) : Lib.minOf [a, b, c, d] = min (min (min a b) c) d := by
  unfold Lib.minOf
  simp
theorem max4 (a b c d : Int) : Lib.maxOf [a, b, c, d] = max (max (max a b) c) d := by
  unfold Lib.maxOf
  simp
theorem four_reads (W : World) (g : Nat) (a b c d : Int) (h : RowV W g 3 [.int .i64 a, .int .i64 b, .int .i64 c, .int .i64 d]) : ∀ j, j < [a, b, c, d].length → W.cell? ⟨g, 0 + j, none⟩ = some (.int .i64 ([a, b, c, d].getD j 0)) := by
  intro j hj
  rw [Nat.zero_add]
  refine RowV.cell h ?_
  match j, hj with
  | 0, _ => rfl
  | 1, _ => rfl
  | 2, _ => rfl
  | 3, _ => rfl
def timesR (r : RuleV) : Bool := decide (0 ≤ min (min (min r.fresh r.stale) r.down) r.neg) && decide (max (max (max r.fresh r.stale) r.down) r.neg ≤ 1099511627776)
theorem times_span (r : RuleV) : timesR r = (spanB r.fresh && spanB r.stale && spanB r.down && spanB r.neg) := by
  unfold timesR spanB
  rw [Bool.eq_iff_iff]
  simp only [Bool.and_eq_true, decide_eq_true_eq]
  omega
theorem validR_eq (r : RuleV) : validR r = (namesA r.tags && (isNameB r.name && (compileB r.pat).isSome && timesR r && validC r.allow && decide (r.vary.length ≤ 8) && decide (0 ≤ r.cost) && decide (r.cost ≤ 1073741824) && decide (r.prog.size ≤ 64))) := by
  unfold validR
  rw [times_span]
  cases isNameB r.name <;> cases (compileB r.pat).isSome <;> cases namesA r.tags <;> cases validC r.allow <;> simp
def Box8 (w : World) (g4 : Nat) (x : RuleM) (W : World) : Prop := RowV W w.heap.size 33 x.cells ∧ RowV W g4 3 [.int .i64 x.r.fresh, .int .i64 x.r.stale, .int .i64 x.r.down, .int .i64 x.r.neg] ∧ Below w.heap.size w W
theorem Box8.keep {w W W' : World} {g4 : Nat} {x : RuleM} (h : Box8 w g4 x W) (hb : Below W.heap.size W W') : Box8 w g4 x W' :=
  ⟨h.1.keep hb, h.2.1.keep hb, h.2.2.trans (hb.mono h.2.2.size)⟩
set_option maxHeartbeats 8000000 in
theorem polValid_any (x : RuleM) (w : World) (hR : RuleReads w x) (hf : RuleFits x.r) (hE : Env w) : Calls Tryz.prog 12 #[x.val] w (Ret w (.bool (validR x.r))) := by
  have cN := fun (s : ByteArray) (hs : s.size ≤ 4294967281) (W : World) (hb : Below w.heap.size w W) => polName_any s W hs (Env.keep hE hb)
  have cP := fun (W : World) (hb : Below w.heap.size w W) => valid_any x.r.pat W (by have := hf.pat; omega) (Env.keep hE hb)
  have cC := fun (W : World) (hb : Below w.heap.size w W) => condValid_any x.r.allow x.m W (hR.allow.keep hb) hf.c.p hf.c.cl hf.c.co hf.c.n1 hf.c.n2 hf.c.n3 (Env.keep hE hb)
  unfold CondMem.val at cC
  have hnm := hf.name
  obtain ⟨V, hV⟩ : ∃ V, V = validR x.r := ⟨_, rfl⟩
  rw [← hV]
  rw [validR_eq] at hV
  have HT := Lib.hid hR.tags
  have HTS := Lib.hid hf.t
  have hnt := hf.nt
  have HV := Lib.hid hV; have HN := Lib.hid cN; have HP := Lib.hid cP; have HC := Lib.hid cC
  clear hV cN cP cC hR hf hE
  rw [RuleM.val_eq]
  go_enter Tryz.func12, Tryz.ntmps12
  go_wp2
  obtain ⟨n, hn⟩ : ∃ n, n = x.r.tags.length := ⟨_, rfl⟩
  have htg := HT.out
  rw [← hn] at hnt htg ⊢
  have HT := Lib.hid htg
  have HNL := Lib.hid hn
  clear hn htg
  have c2v : x.cells[2]? = some (.slice x.T n x.ct) := by rw [HNL.out]; rfl
  go_loopw [9] (fun iv wr => ∃ k : Nat, k ≤ n ∧ iv = .int .i64 k ∧ Hid ((List.range k).all (okK ltB isNameB x.r.tags) = true) ∧ Hid (RowV wr w.heap.size 33 x.cells) ∧ Below w.heap.size w wr) (fun iv _ => n - (intOf iv).toNat)
  case atStart => exact ⟨0, by omega, rfl, Lib.hid rfl, Lib.hid (by unfold RowV; rw [HNL.out]; exact heap_alloc_new w _), belB⟩
  case round =>
    obtain ⟨k, hk, rfl, HK, HRC, hb⟩ := hrel
    have c2 : wr.cell? ⟨w.heap.size, 2, none⟩ = some (.slice x.T n x.ct) := RowV.cell HRC.out c2v
    clear c2v
    by_cases hlt : k < n
    · obtain ⟨u, hu⟩ : ∃ u, x.r.tags[k]? = some u := ⟨_, List.getElem?_eq_getElem (by have := HNL.out; omega)⟩
      obtain ⟨pb, po, hTA, hcell⟩ := (HT.out.keep hb).2 (by omega)
      rw [hTA] at c2 ⊢
      have hc1 : wr.cell? ⟨pb, po + k, none⟩ = some (.string u) := hcell k _ (by simp [hu])
      have hNu := HN.out u (by have := HTS.out u (List.mem_of_getElem? hu); omega)
      have hk0 : (0 : Int) ≤ (k : Int) := by omega
      have hk1 : (k : Int) < (n : Int) := by omega
      cases hnu : isNameB u
      · obtain rfl : V = false := by
          rw [HV.out, namesA_fail (k := k) (by have := HNL.out; omega) (by simp [okK, hu, hnu])]; rfl
        rw [hnu] at hNu
        have HNU := Lib.hid hNu
        clear HK hcell hu hNu hTA hnu
        go_wp2_with (go_at_call 48; refine (HNU.out _ belB).mono ?_; rintro e w2 ⟨rfl, hb2⟩)
        go_ret
        exact ⟨rfl, belB⟩
      · rw [hnu] at hNu
        have HNU := Lib.hid hNu
        rcases Nat.eq_zero_or_pos k with h0 | hpos
        · subst h0
          have HK2 : Hid ((List.range (0 + 1)).all (okK ltB isNameB x.r.tags) = true) := Lib.hid (okK_upto HK.out (by rw [okN_zero hu, hnu]))
          simp only [Nat.add_zero] at hc1
          clear HK hcell hu hNu hTA hnu
          go_wp2_with (go_at_call 48; refine (HNU.out _ belB).mono ?_; rintro e w2 ⟨rfl, hb2⟩)
          exact ⟨⟨1, by omega, rfl, HK2, Lib.hid (RowV.keep HRC.out belB), belB⟩, by simp [intOf]; omega⟩
        · obtain ⟨j, rfl⟩ : ∃ j, k = j + 1 := ⟨k - 1, by omega⟩
          obtain ⟨y, hy⟩ : ∃ y, x.r.tags[j]? = some y := ⟨_, List.getElem?_eq_getElem (by have := HNL.out; omega)⟩
          have hc2 : wr.cell? ⟨pb, po + j, none⟩ = some (.string y) := hcell j _ (by simp [hy])
          have hk2 : (0 : Int) ≤ (j : Int) := by omega
          have hk3 : (j : Int) < (n : Int) := by omega
          have hk4 : ((j : Int) + 1 - 1) = j := by omega
          have hle := le_prev2 u y
          have hat := okN_at hu hy
          rw [hnu, Bool.true_and] at hat
          cases ht : ltB y u
          · obtain rfl : V = false := by
              rw [HV.out, namesA_fail (k := j + 1) (by have := HNL.out; omega) (by rw [hat, ht])]; rfl
            rw [ht] at hle
            clear HK hcell hu hy hat ht hNu hTA hnu
            go_wp2_with (go_at_call 48; refine (HNU.out _ belB).mono ?_; rintro e w2 ⟨rfl, hb2⟩; have hc2' := cell_keep hb2 hc2; have c2' := cell_keep hb2 c2)
            go_ret
            exact ⟨rfl, belB⟩
          · have HK2 : Hid ((List.range (j + 1 + 1)).all (okK ltB isNameB x.r.tags) = true) := Lib.hid (okK_upto HK.out (by rw [hat, ht]))
            rw [ht] at hle
            clear HK hcell hu hy hat ht hNu hTA hnu
            go_wp2_with (go_at_call 48; refine (HNU.out _ belB).mono ?_; rintro e w2 ⟨rfl, hb2⟩; have hc2' := cell_keep hb2 hc2; have c2' := cell_keep hb2 c2)
            exact ⟨⟨j + 1 + 1, by omega, by go_num, HK2, Lib.hid (RowV.keep HRC.out hb2), belB⟩, by simp [intOf]; omega⟩
    · have hV2 : V = (isNameB x.r.name && (compileB x.r.pat).isSome && timesR x.r && validC x.r.allow && decide (x.r.vary.length ≤ 8) && decide (0 ≤ x.r.cost) && decide (x.r.cost ≤ 1073741824) && decide (x.r.prog.size ≤ 64)) := by
        have hall : namesA x.r.tags = true := by
          unfold namesA
          have := HK.out
          rw [show k = x.r.tags.length by have := HNL.out; omega] at this
          exact this
        rw [HV.out, hall, Bool.true_and]
      clear HK c2
      have y3 : wr.cell? ⟨w.heap.size, 3, none⟩ = some (.int .i64 x.r.fresh) := RowV.cell HRC.out rfl
      have y4 : wr.cell? ⟨w.heap.size, 4, none⟩ = some (.int .i64 x.r.stale) := RowV.cell HRC.out rfl
      have y5 : wr.cell? ⟨w.heap.size, 5, none⟩ = some (.int .i64 x.r.down) := RowV.cell HRC.out rfl
      have y6 : wr.cell? ⟨w.heap.size, 6, none⟩ = some (.int .i64 x.r.neg) := RowV.cell HRC.out rfl
      go_upto_region 8 with fail
      clear y3 y4 y5 y6
      obtain ⟨g4, hg4⟩ : ∃ g4, g4 = wr.heap.size := ⟨_, rfl⟩
      rw [← hg4]
      generalize hw1 : World.alloc _ _ = w1
      have hB1 : Box8 w g4 x w1 := by
        rw [← hw1, hg4]
        exact ⟨RowV.alloc HRC.out _, heap_alloc_new wr _, hb.alloc (by have := hb.size; omega) _⟩
      clear hw1 hg4 HRC hb
      obtain ⟨y0, y1, _, y3, y4, y5, y6, y7, y8, y9, y10, y11, y12, y13, y14, y15, y16, y17⟩ := box_facts hB1.1
      have hN1 := HN.out x.r.name (by omega) w1 hB1.2.2
      have HB1 := Lib.hid hB1
      unfold timesR at hV2
      generalize isNameB x.r.name = b1 at *
      generalize (compileB x.r.pat).isSome = b2 at *
      generalize validC x.r.allow = b3 at *
      have HN1 := Lib.hid hN1
      clear hN1 hB1
      cases b1
      obtain rfl : V = false := by rw [hV2]; simp
      rotate_left
      cases b2
      obtain rfl : V = false := by rw [hV2]; simp
      rotate_left
      by_cases t1 : 0 ≤ min (min (min x.r.fresh x.r.stale) x.r.down) x.r.neg
      rotate_left
      obtain rfl : V = false := by rw [hV2]; simp only [decide_eq_false t1]; simp
      have d1 : decide (0 ≤ min (min (min x.r.fresh x.r.stale) x.r.down) x.r.neg) = false := decide_eq_false t1
      rotate_right
      have d1 : decide (0 ≤ min (min (min x.r.fresh x.r.stale) x.r.down) x.r.neg) = true := decide_eq_true t1
      by_cases t2 : max (max (max x.r.fresh x.r.stale) x.r.down) x.r.neg ≤ 1099511627776
      rotate_left
      obtain rfl : V = false := by rw [hV2]; simp only [decide_eq_false t2]; simp
      have d2 : decide (max (max (max x.r.fresh x.r.stale) x.r.down) x.r.neg ≤ 1099511627776) = false := decide_eq_false t2
      rotate_right
      have d2 : decide (max (max (max x.r.fresh x.r.stale) x.r.down) x.r.neg ≤ 1099511627776) = true := decide_eq_true t2
      cases b3
      obtain rfl : V = false := by rw [hV2]; simp
      rotate_left
      by_cases t3 : x.r.vary.length ≤ 8
      rotate_left
      obtain rfl : V = false := by rw [hV2]; simp only [decide_eq_false t3]; simp
      have d3 : decide ((x.r.vary.length : Int) ≤ 8) = false := decide_eq_false (by omega)
      rotate_right
      have d3 : decide ((x.r.vary.length : Int) ≤ 8) = true := decide_eq_true (by omega)
      by_cases t4 : 0 ≤ x.r.cost
      rotate_left
      obtain rfl : V = false := by rw [hV2]; simp only [decide_eq_false t4]; simp
      have d4 : decide (0 ≤ x.r.cost) = false := decide_eq_false t4
      rotate_right
      have d4 : decide (0 ≤ x.r.cost) = true := decide_eq_true t4
      by_cases t5 : x.r.cost ≤ 1073741824
      rotate_left
      obtain rfl : V = false := by rw [hV2]; simp only [decide_eq_false t5]; simp
      have d5 : decide (x.r.cost ≤ 1073741824) = false := decide_eq_false t5
      rotate_right
      have d5 : decide (x.r.cost ≤ 1073741824) = true := decide_eq_true t5
      by_cases t6 : x.r.prog.size ≤ 64
      obtain rfl : V = true := by rw [hV2, d1, d2, decide_eq_true t3, d4, d5, decide_eq_true t6]; rfl
      have d6 : decide ((x.r.prog.size : Int) ≤ 64) = true := decide_eq_true (by omega)
      rotate_left
      obtain rfl : V = false := by rw [hV2]; simp only [decide_eq_false t6]; simp
      have d6 : decide ((x.r.prog.size : Int) ≤ 64) = false := decide_eq_false (by omega)
      all_goals
        clear hV2
        (go_wp2_with (first | (go_at_call 48; refine (HN1.out).mono ?_; rintro e w2 ⟨rfl, hb2⟩; have hB2 := HB1.out.keep hb2; obtain ⟨y0, y1, _, y3, y4, y5, y6, y7, y8, y9, y10, y11, y12, y13, y14, y15, y16, y17⟩ := box_facts hB2.1) | (go_at_call 49; refine (HP.out w2 hB2.2.2).mono ?_; rintro e w3 ⟨rfl, hb3⟩; have hB3 := hB2.keep hb3; obtain ⟨y0, y1, _, y3, y4, y5, y6, y7, y8, y9, y10, y11, y12, y13, y14, y15, y16, y17⟩ := box_facts hB3.1) | (go_at_call 50; refine (Tryz.slices_Min_int g4 0 4 4 [x.r.fresh, x.r.stale, x.r.down, x.r.neg] w3 (by omega) (by simp) (by omega) (four_reads w3 g4 _ _ _ _ hB3.2.1)).mono ?_; rintro e w' ⟨rfl, hww⟩; rw [hww, List.take_of_length_le (by simp), min4]; clear hww w') | (go_at_call 51; refine (Tryz.slices_Max_int g4 0 4 4 [x.r.fresh, x.r.stale, x.r.down, x.r.neg] w3 (by omega) (by simp) (by omega) (four_reads w3 g4 _ _ _ _ hB3.2.1)).mono ?_; rintro e w' ⟨rfl, hww⟩; rw [hww, List.take_of_length_le (by simp), max4]; clear hww w') | (go_at_call 52; refine (HC.out w3 hB3.2.2).mono ?_; rintro e w4 ⟨rfl, hb4⟩; have hB4 := hB3.keep hb4; obtain ⟨y0, y1, _, y3, y4, y5, y6, y7, y8, y9, y10, y11, y12, y13, y14, y15, y16, y17⟩ := box_facts hB4.1)); go_ret; exact ⟨rfl, by first | exact hB4.2.2 | exact hB3.2.2 | exact hB2.2.2⟩)
end Go.Proofs.YtjhlpkhfdghngaaGreatDoor
namespace Go.Proofs.YtjhlpkhfdghngaaGreatDoor
open Go.RowKit Go.Sort
set_option linter.unusedVariables false
set_option linter.unusedSimpArgs false
set_option maxRecDepth 100000
theorem ABox.put {w : World} {g : Nat} {ad cl co : ByteArray} {si lo hi : Int} (h : ABox w g ad cl co si lo hi) (ad' cl' co' : ByteArray) (si' lo' hi' : Int) : ABox ((((((w.setCell ⟨g, 0, none⟩ (.string ad')).setCell ⟨g, 1, none⟩ (.string cl')).setCell ⟨g, 2, none⟩ (.string co')).setCell ⟨g, 3, none⟩ (.int .i64 si')).setCell ⟨g, 4, none⟩ (.int .i64 lo')).setCell ⟨g, 5, none⟩ (.int .i64 hi')) g ad' cl' co' si' lo' hi' :=
  Blk.set_ (Blk.set_ (Blk.set_ (Blk.set_ (Blk.set_ (Blk.set_ h 0 (.string ad')) 1 (.string cl')) 2 (.string co')) 3 (.int .i64 si')) 4 (.int .i64 lo')) 5 (.int .i64 hi')
end Go.Proofs.YtjhlpkhfdghngaaGreatDoor
namespace Go.Proofs.YtjhlpkhfdghngaaGreatDoor
open Go.RowKit Go.Sort
set_option linter.unusedVariables false
set_option linter.unusedSimpArgs false
set_option maxRecDepth 100000
def emptyR (c : CondV) : Bool × AskV × Int := if validC c then (if c.till ≤ c.fr then (true, noAsk, 0) else (false, sampleC c, 0)) else (false, noAsk, 1)
theorem CondReads.own {w : World} {fr till us : Int} {pat : ByteArray} {cl co : List ByteArray} {si : List Int} {m : CondMem} (h : CondReads w ⟨fr, till, pat, cl, co, si, us⟩ m) : CondReads w ⟨fr, till, pat, cl, co, si, us⟩ m := h
end Go.Proofs.YtjhlpkhfdghngaaGreatDoor
namespace Go.Proofs.YtjhlpkhfdghngaaGreatDoor
open Go.RowKit Go.Sort
set_option linter.unusedVariables false
set_option linter.unusedSimpArgs false
set_option maxRecDepth 100000
theorem alloc3_heap (w : World) (A B C : Obj) : (((w.alloc A).alloc B).alloc C).heap[w.heap.size]? = some A ∧ (((w.alloc A).alloc B).alloc C).heap[w.heap.size + 1]? = some B ∧ (((w.alloc A).alloc B).alloc C).heap[w.heap.size + 2]? = some C := by
  refine ⟨?_, ?_, ?_⟩
  · exact (heap_alloc_old ((w.alloc A).alloc B) C (by simp; omega)).trans (heap_alloc2_old w A B)
  · exact (heap_alloc_old ((w.alloc A).alloc B) C (by simp)).trans (heap_alloc2_new w A B)
  · have := heap_alloc_new ((w.alloc A).alloc B) C
    simpa using this
theorem infRule : (Tryz.prog.info? 33).map (·.size) = some 18 := by kernel_rfl
theorem infStamp : (Tryz.prog.info? 82).map (·.size) = some 41 := by kernel_rfl
theorem infPeriod : (Tryz.prog.info? 53).map (·.size) = some 2 := by kernel_rfl
def Box1 (W : World) (g : Nat) (t : TypeId) (X : Array Value) : Prop := W.heap[g]? = some (.cells X t (0, 0))
theorem Box1.keep {W W' : World} {g : Nat} {t : TypeId} {X : Array Value} (h : Box1 W g t X) (hb : Below W.heap.size W W') : Box1 W' g t X := by
  unfold Box1 at *
  have hlt : g < W.heap.size := by
    rcases Nat.lt_or_ge g W.heap.size with h' | h'
    · exact h'
    · rw [Array.getElem?_eq_none h'] at h; cases h
  rw [hb.block g hlt]; exact h
theorem Box1.rule {W : World} {g : Nat} {X : Array Value} (h : Box1 W g 33 X) (hs : X.size = 18) : (loadVar 33 ⟨g, 0, none⟩).run Tryz.prog W = .ok (.agg X) W :=
  run_loadVar_row (P := Tryz.prog) W g _ 33 X _ _ h Tryz.underlying33 rfl (by rw [hs]; exact infRule)
theorem Box1.stamp {W : World} {g : Nat} {X : Array Value} (h : Box1 W g 82 X) (hs : X.size = 41) : (loadVar 82 ⟨g, 0, none⟩).run Tryz.prog W = .ok (.agg X) W :=
  run_loadVar_row (P := Tryz.prog) W g _ 82 X _ _ h Tryz.underlying82 rfl (by rw [hs]; exact infStamp)
theorem Box1.period {W : World} {g : Nat} {X : Array Value} (h : Box1 W g 53 X) (hs : X.size = 2) : (loadVar 53 ⟨g, 0, none⟩).run Tryz.prog W = .ok (.agg X) W :=
  run_loadVar_row (P := Tryz.prog) W g _ 53 X _ _ h Tryz.underlying53 rfl (by rw [hs]; exact infPeriod)
theorem Box1.cell {W : World} {g : Nat} {t : TypeId} {X : Array Value} {k : Nat} {v : Value} (h : Box1 W g t X) (hv : X[k]? = some v) : W.cell? ⟨g, k, none⟩ = some v := (cell_of_row W g k X t _ h).trans hv
structure Box3 (w : World) (X Y Z : Array Value) (W : World) : Prop where
  x : Box1 W w.heap.size 33 X
  y : Box1 W (w.heap.size + 1) 82 Y
  z : Box1 W (w.heap.size + 2) 53 Z
  b : Below w.heap.size w W
theorem Box3.keep {w W W' : World} {X Y Z : Array Value} (h : Box3 w X Y Z W) (hb : Below W.heap.size W W') : Box3 w X Y Z W' := ⟨h.x.keep hb, h.y.keep hb, h.z.keep hb, bstep h.b hb⟩
theorem alloc2_box (w : World) (A B : Obj) : ((w.alloc A).alloc B).heap[w.heap.size]? = some A ∧ ((w.alloc A).alloc B).heap[w.heap.size + 1]? = some B := ⟨heap_alloc2_old w A B, heap_alloc2_new w A B⟩
structure Box2 (w : World) (X Y : Array Value) (W : World) : Prop where
  x : Box1 W w.heap.size 33 X
  y : Box1 W (w.heap.size + 1) 82 Y
  b : Below w.heap.size w W
theorem Box2.keep {w W W' : World} {X Y : Array Value} (h : Box2 w X Y W) (hb : Below W.heap.size W W') : Box2 w X Y W' := ⟨h.x.keep hb, h.y.keep hb, bstep h.b hb⟩
end Go.Proofs.YtjhlpkhfdghngaaGreatDoor
namespace Go.Proofs.YtjhlpkhfdghngaaGreatDoor
open Go.RowKit Go.Sort
set_option linter.unusedVariables false
set_option linter.unusedSimpArgs false
set_option maxRecDepth 100000
section
variable {P : Program} {ops : Array Oper} {Q : Exit → Act → World → Prop} {md : Region.Mode} {step : Nat → (Act → World → Prop) → Act → World → Prop}
def cntU (n : Nat) (listed : Array Bool) : Nat := (List.range n).countP fun i => !listed.getD i true
theorem countP_drop {α : Type} (p q : α → Bool) (h : ∀ x, q x = true → p x = true) : ∀ (l : List α) (i : α), i ∈ l → p i = true → q i = false → l.countP q < l.countP p
  | [], i, hi, _, _ => by cases hi
  | x :: l, i, hi, h1, h2 => by
    have hle : ∀ l : List α, l.countP q ≤ l.countP p := fun l => List.countP_mono_left (fun x _ hx => h x hx)
    rcases List.mem_cons.1 hi with rfl | hi
    · rw [List.countP_cons_of_pos h1, List.countP_cons_of_neg (by simp [h2])]
      have := hle l; omega
    · have ih := countP_drop p q h l i hi h1 h2
      by_cases hq : q x = true
      · rw [List.countP_cons_of_pos hq, List.countP_cons_of_pos (h x hq)]; omega
      · rw [List.countP_cons_of_neg hq]
        by_cases hp : p x = true
        · rw [List.countP_cons_of_pos hp]; omega
        · rw [List.countP_cons_of_neg hp]; exact ih
theorem cntU_drop {listed : Array Bool} {i n : Nat} (hi : i < n) (h : listed.getD i true = false) : cntU n (listed.setIfInBounds i true) < cntU n listed := by
  have hlt : i < listed.size := by
    rcases Nat.lt_or_ge i listed.size with h' | h'
    · exact h'
    · simp [Array.getElem?_eq_none h'] at h
  refine countP_drop _ _ (fun x hx => ?_) _ i (List.mem_range.2 hi) (by rw [h]; rfl) (by simp [hlt])
  by_cases hxi : i = x
  · subst hxi
    simp [hlt] at hx
  · rw [getD_set_ne true hxi] at hx
    exact hx
def anyG (md : Region.Mode) (ops : Array Oper) (Q : Exit → Act → World → Prop) (step : Nat → (Act → World → Prop) → Act → World → Prop) : Nat → Array Bool → Act → World → Prop
  | 0, listed, a, w => Region.ready md ops listed = [] ∧ Q .normal a w
  | n + 1, listed, a, w => (Region.ready md ops listed = [] → Q .normal a w) ∧ ∀ i ∈ Region.ready md ops listed, step i (anyG md ops Q step n (listed.setIfInBounds i true)) a w
def Mono (step : Nat → (Act → World → Prop) → Act → World → Prop) : Prop := ∀ (i : Nat) (K K' : Act → World → Prop) (a : Act) (w : World), (∀ a w, K a w → K' a w) → step i K a w → step i K' a w
theorem mono_op : Mono (wpOp P ops Q) := fun _ _ _ _ _ h hh => wpOp_mono h hh
theorem any_of_G : ∀ (n : Nat) (listed : Array Bool) (a : Act) (w : World), anyG md ops Q (wpOp P ops Q) n listed a w → wpAny P md ops Q n listed a w
  | 0, _, _, _, h => h
  | n + 1, _, _, _, h => ⟨h.1, fun i hi => wpOp_mono (fun a w => any_of_G n _ a w) (h.2 i hi)⟩
theorem G_of_any : ∀ (n : Nat) (listed : Array Bool) (a : Act) (w : World), wpAny P md ops Q n listed a w → anyG md ops Q (wpOp P ops Q) n listed a w
  | 0, _, _, _, h => h
  | n + 1, _, _, _, h => ⟨h.1, fun i hi => wpOp_mono (fun a w => G_of_any n _ a w) (h.2 i hi)⟩
theorem wpAny_inv (hmono : Mono step) (m : Nat) (hm : m ≤ ops.size) (I : Array Bool → Act → World → Prop)
    (hstep : ∀ listed a w, I listed a w → (∃ i, i < m ∧ listed.getD i true = false) → ∀ i ∈ Region.ready md ops listed, i < m ∧ step i (fun a' w' => I (listed.setIfInBounds i true) a' w') a w)
    (hsome : ∀ listed a w, I listed a w → (∃ i, i < m ∧ listed.getD i true = false) → Region.ready md ops listed ≠ [])
    (r : Nat) (hend : ∀ listed a w, I listed a w → (∀ i, i < m → listed.getD i true = true) → anyG md ops Q step r listed a w) :
    ∀ (k : Nat) (listed : Array Bool) (a : Act) (w : World), cntU m listed = k → I listed a w → anyG md ops Q step (r + k) listed a w
  | 0, listed, a, w, hc, hI => by
    refine hend listed a w hI (fun i hi => ?_)
    cases hl : listed.getD i true with
    | true => rfl
    | false =>
      have : 0 < cntU m listed := List.countP_pos_iff.2 ⟨i, List.mem_range.2 hi, by rw [hl]; rfl⟩
      omega
  | k + 1, listed, a, w, hc, hI => by
    have hex : ∃ i, i < m ∧ listed.getD i true = false := by
      have : 0 < cntU m listed := by omega
      obtain ⟨i, hi, hl⟩ := List.countP_pos_iff.1 this
      exact ⟨i, List.mem_range.1 hi, by simpa using hl⟩
    refine ⟨fun h => absurd h (hsome _ _ _ hI hex), fun i hi => ?_⟩
    obtain ⟨him, hw⟩ := hstep _ _ _ hI hex i hi
    have hli := (mem_ready.1 hi).1
    have hdrop : ∀ k', cntU m (listed.setIfInBounds i true) = k' → k' ≤ k := fun k' h => by have := cntU_drop him hli; omega
    have hup : cntU m listed ≤ cntU m (listed.setIfInBounds i true) + 1 := by
      unfold cntU
      have key : ∀ l : List Nat, l.Nodup → l.countP (fun j => !listed.getD j true) ≤ l.countP (fun j => !(listed.setIfInBounds i true).getD j true) + (if i ∈ l then 1 else 0) := by
        intro l
        induction l with
        | nil => intro _; simp
        | cons x l ih =>
          intro hn
          have hn' := List.nodup_cons.1 hn
          have ih' := ih hn'.2
          by_cases hxi : i = x
          · subst hxi
            rw [if_neg hn'.1] at ih'
            rw [if_pos (by simp), List.countP_cons, List.countP_cons]
            split <;> split <;> omega
          · have e : ((!(listed.setIfInBounds i true).getD x true) : Bool) = !listed.getD x true := by rw [getD_set_ne true hxi]
            rw [List.countP_cons, List.countP_cons]
            simp only [e]
            have hm2 : (if i ∈ x :: l then 1 else 0) = (if i ∈ l then 1 else 0) := by
              simp only [List.mem_cons, hxi, false_or]
            rw [hm2]
            split <;> omega
      have := key (List.range m) List.nodup_range
      split at this <;> omega
    have hk : cntU m (listed.setIfInBounds i true) = k := by have := cntU_drop him hli; omega
    exact hmono _ _ _ _ _ (fun a' w' h' => wpAny_inv hmono m hm I hstep hsome r hend k _ a' w' hk h') hw
def dstOf (ops : Array Oper) (i : Nat) : Option Tmp := (ops[i]?).bind (·.dst)
def slotOf (ops : Array Oper) (a : Act) (j : Nat) : Value := match dstOf ops j with
  | some d => a.tmps.getD d undef
  | none => undef
structure Agree (ops : Array Oper) (a1 a : Act) : Prop where
  defers : a.defers = a1.defers
  size : a.tmps.size = a1.tmps.size
  off : ∀ t, (∀ j, dstOf ops j ≠ some t) → a.tmps[t]? = a1.tmps[t]?
theorem Agree.put {a1 a : Act} (h : Agree ops a1 a) (i : Nat) (v : Value) : Agree ops a1 (a.put (dstOf ops i) v) := by
  cases hd : dstOf ops i with
  | none => exact h
  | some d =>
    refine ⟨h.defers, by simpa [Act.put] using h.size, fun t ht => ?_⟩
    have hne : d ≠ t := fun e => ht i (by rw [hd, e])
    simp only [Act.put, Array.getElem?_setIfInBounds_ne hne]
    exact h.off t ht
theorem Agree.eval {a1 a : Act} (h : Agree ops a1 a) {t : Nat} (ht : ∀ j, dstOf ops j ≠ some t) : a.eval (.tmp t) = a1.eval (.tmp t) := by
  show a.tmps.getD t undef = a1.tmps.getD t undef
  have := h.off t ht
  simp only [Array.getD_eq_getD_getElem?, this]
def putTo (ops : Array Oper) (a1 : Act) (vals : Nat → Value) (m : Nat) : Act := (List.range m).foldl (fun a j => a.put (dstOf ops j) (vals j)) a1
structure AgreeM (ops : Array Oper) (m : Nat) (a1 a : Act) : Prop where
  defers : a.defers = a1.defers
  size : a.tmps.size = a1.tmps.size
  off : ∀ t, (∀ j, j < m → dstOf ops j ≠ some t) → a.tmps[t]? = a1.tmps[t]?
theorem putTo_eq {m : Nat} {a1 a : Act} (h : AgreeM ops m a1 a) : putTo ops a1 (slotOf ops a) m = a := by
  unfold putTo
  have key : ∀ (l : List Nat) (b : Act), b.defers = a.defers → b.tmps.size = a.tmps.size → (∀ t, b.tmps[t]? = a.tmps[t]? ∨ ∃ j ∈ l, dstOf ops j = some t) → l.foldl (fun a' j => a'.put (dstOf ops j) (slotOf ops a j)) b = a := by
    intro l
    induction l with
    | nil =>
      intro b h1 h2 h3
      obtain ⟨bt, bd⟩ := b
      obtain ⟨at', ad⟩ := a
      have e1 : bt = at' := Array.ext_getElem? fun t => (h3 t).resolve_right (by rintro ⟨j, hj, _⟩; cases hj)
      have e2 : bd = ad := h1
      rw [e1, e2]; rfl
    | cons j l ih =>
      intro b h1 h2 h3
      rw [List.foldl_cons]
      cases hd : dstOf ops j with
      | none =>
        refine ih _ h1 h2 (fun t => ?_)
        rcases h3 t with h | ⟨j', hj', ht⟩
        · exact .inl h
        · rcases List.mem_cons.1 hj' with rfl | hj'
          · rw [hd] at ht; cases ht
          · exact .inr ⟨j', hj', ht⟩
      | some d =>
        refine ih _ h1 (by simpa [Act.put] using h2) (fun t => ?_)
        by_cases hdt : d = t
        · subst hdt
          refine .inl ?_
          simp only [Act.put, slotOf, hd]
          rcases Nat.lt_or_ge d b.tmps.size with hl | hl
          · have hl2 : d < a.tmps.size := h2 ▸ hl
            simp [hl, hl2]
          · have hl2 : a.tmps.size ≤ d := h2 ▸ hl
            rw [Array.getElem?_eq_none (by simpa using hl), Array.getElem?_eq_none hl2]
        · rcases h3 t with h | ⟨j', hj', ht⟩
          · exact .inl (by simp only [Act.put, Array.getElem?_setIfInBounds_ne hdt]; exact h)
          · rcases List.mem_cons.1 hj' with rfl | hj'
            · rw [hd] at ht; injection ht with ht; exact absurd ht hdt
            · exact .inr ⟨j', hj', ht⟩
  refine key _ a1 h.defers.symm h.size.symm (fun t => ?_)
  by_cases ht : ∃ j, j < m ∧ dstOf ops j = some t
  · obtain ⟨j, hj, e⟩ := ht
    exact .inr ⟨j, List.mem_range.2 hj, e⟩
  · exact .inl (h.off t (fun j hj e => ht ⟨j, hj, e⟩)).symm
def Region.fair (ops : Array Oper) (md : Region.Mode) (m size : Nat) : Bool :=
  (List.range m).all fun i => match ops[i]? with
    | none => false
    | some o => o.after.all (fun e => decide (e.on < i)) && (match o.dst with
      | none => false
      | some d => decide (d < size) && (List.range ops.size).all fun j => i == j || dstOf ops j != some d)
def Region.behind (ops : Array Oper) (md : Region.Mode) : Nat → Nat → Nat → Bool
  | 0, _, _ => false
  | n + 1, i, j => match ops[i]? with
    | none => false
    | some o => (o.after.any fun e => e.on == j && Region.binds md e) || o.after.any fun e => Region.binds md e && Region.behind ops md n e.on j
def Region.last (ops : Array Oper) (md : Region.Mode) (m : Nat) : Bool :=
  (List.range ops.size).all fun i => decide (i < m) || (List.range m).all fun j => Region.behind ops md ops.size i j
def Closed (ops : Array Oper) (md : Region.Mode) (L : Nat → Bool) : Prop := ∀ j o, L j = true → ops[j]? = some o → ∀ e ∈ o.after, Region.binds md e = true → L e.on = true
theorem behind_listed {L : Nat → Bool} (hC : Closed ops md L) : ∀ (n i j : Nat) (o : Oper), Region.behind ops md n i j = true → ops[i]? = some o → (∀ e ∈ o.after, Region.binds md e = true → L e.on = true) → L j = true
  | 0, _, _, _, h, _, _ => by cases h
  | n + 1, i, j, o, h, ho, hd => by
    unfold Region.behind at h
    rw [ho] at h
    dsimp only at h
    rw [Bool.or_eq_true, Array.any_eq_true', Array.any_eq_true'] at h
    rcases h with ⟨e, he, h⟩ | ⟨e, he, h⟩
    · rw [Bool.and_eq_true, beq_iff_eq] at h
      rw [← h.1]; exact hd e he h.2
    · rw [Bool.and_eq_true] at h
      have hl := hd e he h.1
      cases ho2 : ops[e.on]? with
      | none =>
        exfalso
        have h2 := h.2
        cases n with
        | zero => cases h2
        | succ n => unfold Region.behind at h2; rw [ho2] at h2; cases h2
      | some o2 => exact behind_listed hC n e.on j o2 h.2 ho2 (fun e' he' hb' => hC e.on o2 hl ho2 e' he' hb')
theorem wpAny_free (hmono : Mono step) (m r : Nat) (hm : m ≤ ops.size) (a1 : Act) (w1 : World) (G : World → World → Prop) (hrefl : ∀ w, G w w) (htr : ∀ a b c, G a b → G b c → G a c)
    (D : Nat → Value → World → Prop) (hD : ∀ i v w w', D i v w → G w w' → D i v w')
    (J : (Nat → Bool) → World → Prop) (hJ0 : J (fun _ => false) w1)
    (hfair : Region.fair ops md m a1.tmps.size = true) (hlast : Region.last ops md m = true)
    (hop : ∀ i o, i < m → ops[i]? = some o → ∀ L a w, Closed ops md L → L i = false → (∀ e ∈ o.after, Region.binds md e = true → L e.on = true) → J L w → G w1 w → AgreeM ops m a1 a → (∀ e ∈ o.after, Region.binds md e = true → D e.on (slotOf ops a e.on) w) → step i (fun a' w' => ∃ v, a' = a.put o.dst v ∧ D i v w' ∧ G w w' ∧ J (fun j => decide (j = i) || L j) w') a w)
    (hend : ∀ (vals : Nat → Value) w, G w1 w → J (fun j => decide (j < m)) w → (∀ j, j < m → D j (vals j) w) → anyG md ops Q step r ((List.replicate m true ++ List.replicate (ops.size - m) false).toArray) (putTo ops a1 vals m) w) :
    anyG md ops Q step (r + m) (Array.replicate ops.size false) a1 w1 := by
  have fair : ∀ i, i < m → ∃ o d, ops[i]? = some o ∧ (∀ e ∈ o.after, e.on < i) ∧ o.dst = some d ∧ d < a1.tmps.size ∧ ∀ j, j ≠ i → dstOf ops j ≠ some d := by
    intro i hi
    have h := List.all_eq_true.1 hfair i (List.mem_range.2 hi)
    cases ho : ops[i]? with
    | none => rw [ho] at h; cases h
    | some o =>
      rw [ho] at h
      dsimp only at h
      rw [Bool.and_eq_true, Array.all_eq_true'] at h
      cases hd : o.dst with
      | none => rw [hd] at h; cases h.2
      | some d =>
        refine ⟨o, d, rfl, fun e he => by simpa using h.1 e he, hd, ?_⟩
        have h2 := h.2
        rw [hd] at h2
        dsimp only at h2
        rw [Bool.and_eq_true, decide_eq_true_eq, List.all_eq_true] at h2
        refine ⟨h2.1, fun j hj => ?_⟩
        rcases Nat.lt_or_ge j ops.size with hl | hl
        · have := h2.2 j (List.mem_range.2 hl)
          simp only [Bool.or_eq_true, beq_iff_eq, bne_iff_ne] at this
          exact this.resolve_left (fun e => hj e.symm)
        · unfold dstOf
          rw [Array.getElem?_eq_none hl]
          simp
  have last : ∀ i o (L : Nat → Bool), Closed ops md L → m ≤ i → ops[i]? = some o → (∀ e ∈ o.after, Region.binds md e = true → L e.on = true) → ∀ j, j < m → L j = true := by
    intro i o L hC hi ho hd j hj
    have hlt : i < ops.size := (Array.getElem?_eq_some_iff.1 ho).1
    have h := List.all_eq_true.1 hlast i (List.mem_range.2 hlt)
    rw [decide_eq_false (by omega), Bool.false_or] at h
    exact behind_listed hC _ i j o (List.all_eq_true.1 h j (List.mem_range.2 hj)) ho hd
  have getD_same : ∀ (listed : Array Bool) (j : Nat), listed.size = ops.size → j < ops.size → listed.getD j true = listed.getD j false := by
    intro listed j h1 h2
    have : j < listed.size := by omega
    simp [this]
  refine wpAny_inv hmono m hm (fun listed a w => listed.size = ops.size ∧ (Closed ops md (fun j => listed.getD j false) ∧ J (fun j => listed.getD j false) w) ∧ AgreeM ops m a1 a ∧ G w1 w ∧ (∀ j, m ≤ j → j < ops.size → listed.getD j true = false) ∧ (∀ j, j < m → listed.getD j true = true → D j (slotOf ops a j) w)) ?_ ?_ r ?_ m _ a1 w1 ?_ ?_
  · rintro listed a w ⟨hs, ⟨hC, hJ⟩, hA, hG, hR, hF⟩ ⟨u, hu, hul⟩ i hi
    obtain ⟨hil, o, ho, hall⟩ := mem_ready.1 hi
    have him : i < m := by
      rcases Nat.lt_or_ge i m with h | h
      · exact h
      · have := last i o _ hC h ho hall u hu
        rw [← getD_same listed u hs (by omega), hul] at this
        cases this
    obtain ⟨o', d, ho', hback, hd, hdl, hdd⟩ := fair i him
    obtain rfl : o = o' := Option.some.inj (ho.symm.trans ho')
    have hdo : dstOf ops i = some d := by unfold dstOf; rw [ho]; exact hd
    have hil' : listed.getD i false = false := by rw [← getD_same listed i hs (by omega)]; exact hil
    refine ⟨him, hmono _ _ _ _ _ ?_ (hop i o him ho _ a w hC hil' hall hJ hG hA (fun e he hb => hF e.on (by have := hback e he; omega) (by rw [getD_same listed e.on hs (by have := hback e he; omega)]; exact hall e he hb)))⟩
    rintro a' w' ⟨v, rfl, hv, hg, hj⟩
    have hset : (fun j => (listed.setIfInBounds i true).getD j false) = (fun j => decide (j = i) || listed.getD j false) := by
      funext j
      by_cases hji : j = i
      · subst hji
        have : j < listed.size := by omega
        simp [this]
      · rw [getD_set_ne false (Ne.symm hji), decide_eq_false hji, Bool.false_or]
    rw [hd]
    refine ⟨by simpa using hs, ⟨fun j o9 hl ho9 e he hb => ?_, by rw [hset]; exact hj⟩, ⟨hA.defers, by simpa [Act.put] using hA.size, fun t ht => ?_⟩, htr _ _ _ hG hg, fun j hj hj2 => ?_, fun j hj hl => ?_⟩
    · have hl' : (decide (j = i) || listed.getD j false) = true := by rw [← congrFun hset j]; exact hl
      show (fun j => (listed.setIfInBounds i true).getD j false) e.on = true
      rw [hset]
      rw [Bool.or_eq_true, decide_eq_true_eq] at hl'
      rcases hl' with rfl | hl'
      · obtain rfl : o = o9 := Option.some.inj (ho.symm.trans ho9)
        simp [hall e he hb]
      · simp [hC j o9 hl' ho9 e he hb]
    · have hne : d ≠ t := fun e => ht i him (by rw [hdo, e])
      simp only [Act.put, Array.getElem?_setIfInBounds_ne hne]
      exact hA.off t ht
    · rw [getD_set_ne true (by omega)]; exact hR j hj hj2
    · by_cases hji : j = i
      · subst hji
        have e : slotOf ops (a.put (some d) v) j = v := by
          unfold slotOf
          rw [hdo]
          have : d < a.tmps.size := by rw [hA.size]; exact hdl
          simp [Act.put, this]
        rw [e]; exact hv
      · rw [getD_set_ne true (Ne.symm hji)] at hl
        have e : slotOf ops (a.put (some d) v) j = slotOf ops a j := by
          unfold slotOf
          cases hj3 : dstOf ops j with
          | none => rfl
          | some d' =>
            have hne : d ≠ d' := fun e => hdd j hji (by rw [hj3, e])
            simp [Act.put, Array.getElem?_setIfInBounds_ne hne]
        rw [e]
        exact hD _ _ _ _ (hF j hj hl) hg
  · rintro listed a w ⟨hs, ⟨hC, hJ⟩, hA, hG, hR, hF⟩ ⟨u, hu, hul⟩
    have key : ∀ n i, i ≤ n → i < m → listed.getD i true = false → Region.ready md ops listed ≠ [] := by
      intro n
      induction n with
      | zero =>
        intro i hi him hil
        obtain rfl : i = 0 := by omega
        obtain ⟨o, d, ho, hback, _⟩ := fair 0 him
        have : 0 ∈ Region.ready md ops listed := mem_ready.2 ⟨hil, o, ho, fun e he _ => by have := hback e he; omega⟩
        intro h; rw [h] at this; cases this
      | succ n ih =>
        intro i hi him hil
        obtain ⟨o, d, ho, hback, _⟩ := fair i him
        by_cases hall : ∀ e ∈ o.after, Region.binds md e = true → listed.getD e.on false = true
        · have : i ∈ Region.ready md ops listed := mem_ready.2 ⟨hil, o, ho, hall⟩
          intro h; rw [h] at this; cases this
        · obtain ⟨e, he⟩ := Classical.not_forall.1 hall
          obtain ⟨he1, he⟩ := Classical.not_imp.1 he
          obtain ⟨he2, he⟩ := Classical.not_imp.1 he
          have hlt := hback e he1
          refine ih e.on (by omega) (by omega) ?_
          rw [getD_same listed e.on hs (by omega)]
          simpa using he
    exact key u u (Nat.le_refl _) hu hul
  · rintro listed a w ⟨hs, ⟨hC, hJ⟩, hA, hG, hR, hF⟩ hall
    have hl : listed = (List.replicate m true ++ List.replicate (ops.size - m) false).toArray := by
      refine Array.ext (by simp; omega) (fun i h1 h2 => ?_)
      have hg : listed.getD i true = listed[i] := by simp [h1]
      rw [← hg]
      rcases Nat.lt_or_ge i m with h | h
      · rw [hall i h]; simp [h]
      · rw [hR i h (by omega)]
        simp only [List.getElem_toArray]
        rw [List.getElem_append_right (by simpa using h)]
        simp
    have hLm : (fun j => listed.getD j false) = (fun j => decide (j < m)) := by
      funext j
      rcases Nat.lt_or_ge j m with h | h
      · rw [decide_eq_true h, ← getD_same listed j hs (by omega)]; exact hall j h
      · rw [decide_eq_false (by omega)]
        rcases Nat.lt_or_ge j ops.size with h2 | h2
        · rw [← getD_same listed j hs h2]; exact hR j h h2
        · simp [Array.getElem?_eq_none (show listed.size ≤ j by omega)]
    rw [hLm] at hJ
    rw [hl, ← putTo_eq hA]
    exact hend _ w hG hJ (fun j hj => hF j hj (hall j hj))
  · unfold cntU
    have : ∀ i ∈ List.range m, (!(Array.replicate ops.size false).getD i true) = true := fun i hi => by
      have := List.mem_range.1 hi
      have h2 : i < ops.size := by omega
      simp [h2]
    rw [List.countP_eq_length.2 this, List.length_range]
  · have h0 : (fun j => (Array.replicate ops.size false).getD j false) = (fun _ => false) := by
      funext j
      rcases Nat.lt_or_ge j ops.size with h | h
      · simp [h]
      · simp [Array.getElem?_eq_none (show (Array.replicate ops.size false).size ≤ j by simpa using h)]
    refine ⟨by simp, ⟨fun j o hl => ?_, by rw [h0]; exact hJ0⟩, ⟨rfl, rfl, fun _ _ => rfl⟩, hrefl _, fun j hj hj2 => by simp [hj2], fun j hj hl => ?_⟩
    · have := congrFun h0 j
      exact absurd (this.symm.trans hl) (by simp)
    · have h2 : j < ops.size := by omega
      simp [h2] at hl
theorem wp_region_free {id : Nat} {a : Act} {w : World} (hm : P.follows .mixedOrders = true) (r m : Nat) (hrm : r + m = ops.size)
    (h : anyG .any ops Q (wpOp P ops Q) (r + m) (Array.replicate ops.size false) a { w with drawn := w.drawn + 1 }) : (Code.region id ops true).wp P Q a w :=
  wp_region_any hm (by rw [hrm] at h; exact any_of_G _ _ _ _ h)
theorem G_of_seq (l : List Oper) (k : Nat) (listed : Array Bool) (a : Act) (w : World) (hl : ∀ j, l[j]? = ops[k + j]?) (hB : Region.seqB md ops l.length k listed = true) (h : wpList P ops Q l a w) : anyG md ops Q (wpOp P ops Q) l.length listed a w :=
  G_of_any _ _ _ _ (wpAny_of_seq l k listed a w hl hB h)
end
end Go.Proofs.YtjhlpkhfdghngaaGreatDoor
namespace Go.Proofs.YtjhlpkhfdghngaaGreatDoor
open Go.RowKit Go.Sort
set_option linter.unusedVariables false
set_option linter.unusedSimpArgs false
set_option maxRecDepth 100000
section
variable {P : Program} {ops : Array Oper} {Q : Exit → Act → World → Prop} {i : Nat} {o : Oper} {a : Act} {W : World} {R : Value → World → Prop}
def OfType (w : World) (A : Option Addr) (n : Nat) (t : TypeId) : Prop := 0 < n → ∃ b o cs fr, A = some ⟨b, o, none⟩ ∧ Blk w b t cs fr
theorem OfType.keep {w w' : World} {A : Option Addr} {n : Nat} {t : TypeId} (h : OfType w A n t) (hb : Below w.heap.size w w') : OfType w' A n t := fun h0 =>
  let ⟨b, o, cs, fr, e, hB⟩ := h h0
  ⟨b, o, cs, fr, e, Blk.keep hB hb⟩
theorem OfType.off {w : World} {A : Option Addr} {n g : Nat} {t t' : TypeId} {cs : Array Value} {fr : Nat × Nat} (h : OfType w A n t) (hB : Blk w g t' cs fr) (ht : t ≠ t') : 0 < n → ∀ a, A = some a → a.block ≠ g := by
  intro h0 a ha hag
  obtain ⟨b, o, cs', fr', e, hb⟩ := h h0
  rw [e] at ha
  injection ha with ha
  subst ha
  dsimp only at hag
  subst hag
  have := hb.symm.trans hB
  injection this with this
  injection this with _ h2
  exact ht h2
theorem wanted_plain (hg : o.guard = none) (y : Nat → Option Bool) : Region.wanted o y = true := by
  unfold Region.wanted
  rw [hg]
theorem free_step {v : Value} {W' : World} (ho : ops[i]? = some o) (hg : o.guard = none) (hr : (execOp a.eval o).run P W = .ok (.value v) W') (hR : R v W') : wpOp P ops Q i (fun a' w' => ∃ v, a' = a.put o.dst v ∧ R v w') a W := by
  unfold wpOp
  rw [ho]
  dsimp only
  rw [if_pos (wanted_plain hg _)]
  refine .inl ?_
  unfold Oper.wp
  rw [hr]
  exact ⟨v, rfl, hR⟩
theorem free_call {f : FuncId} {args : Array Value} (ho : ops[i]? = some o) (hg : o.guard = none) (hr : (execOp a.eval o).run P W = .ok (.enter f args) W) (hc : Calls P f args W fun e W' => ∃ v, e = .returned v ∧ R v W') : wpOp P ops Q i (fun a' w' => ∃ v, a' = a.put o.dst v ∧ R v w') a W := by
  unfold wpOp
  rw [ho]
  dsimp only
  rw [if_pos (wanted_plain hg _)]
  refine .inl ?_
  unfold Oper.wp
  rw [hr]
  refine Calls.mono hc ?_
  rintro e W' ⟨v, rfl, hR⟩
  exact ⟨v, rfl, hR⟩
def OpsOk (S : Nat → Oper → Prop) : Nat → List Oper → Prop
  | _, [] => True
  | k, o :: l => S k o ∧ OpsOk S (k + 1) l
theorem ops_nil {S : Nat → Oper → Prop} {k : Nat} : OpsOk S k [] := trivial
theorem ops_cons {S : Nat → Oper → Prop} {k : Nat} {o : Oper} {l : List Oper} (h : S k o) (t : OpsOk S (k + 1) l) : OpsOk S k (o :: l) := ⟨h, t⟩
theorem ops_at {S : Nat → Oper → Prop} : ∀ (l : List Oper) (k : Nat), OpsOk S k l → ∀ (i : Nat) (o : Oper), l[i]? = some o → S (k + i) o
  | [], _, _, i, o, h => by simp at h
  | o :: l, k, h, 0, o', h' => by
    have : o = o' := by simpa using h'
    subst this
    exact h.1
  | o :: l, k, h, i + 1, o', h' => by
    have := ops_at l (k + 1) h.2 i o' (by simpa using h')
    rwa [show k + (i + 1) = k + 1 + i by omega]
def FreeS (ops : Array Oper) (md : Region.Mode) (m : Nat) (a1 : Act) (w1 : World) (G : World → World → Prop) (D : Nat → Value → World → Prop) (J : (Nat → Bool) → World → Prop) (step : Nat → (Act → World → Prop) → Act → World → Prop) (i : Nat) (o : Oper) : Prop :=
  ops[i]? = some o → ∀ (L : Nat → Bool) (a : Act) (w : World), Closed ops md L → L i = false → (∀ e ∈ o.after, Region.binds md e = true → L e.on = true) → J L w → G w1 w → AgreeM ops m a1 a → (∀ e ∈ o.after, Region.binds md e = true → D e.on (slotOf ops a e.on) w) →
    step i (fun a' w' => ∃ v, a' = a.put o.dst v ∧ D i v w' ∧ G w w' ∧ J (fun j => decide (j = i) || L j) w') a w
def putL : List Oper → (Nat → Value) → Nat → Act → Act
  | [], _, _, a => a
  | o :: l, vals, k, a => putL l vals (k + 1) (a.put o.dst (vals k))
theorem putL_eq (ops : Array Oper) : ∀ (l : List Oper) (vals : Nat → Value) (k : Nat) (a : Act), (∀ j, j < l.length → ops[k + j]? = l[j]?) → (List.range' k l.length).foldl (fun a j => a.put (dstOf ops j) (vals j)) a = putL l vals k a
  | [], _, _, _, _ => rfl
  | o :: l, vals, k, a, h => by
    rw [List.length_cons, List.range'_succ, List.foldl_cons, putL]
    have h0 : ops[k]? = some o := by simpa using h 0 (by simp)
    rw [show dstOf ops k = o.dst by unfold dstOf; rw [h0]; rfl]
    exact putL_eq ops l vals (k + 1) _ (fun j hj => by have := h (j + 1) (by simpa using hj); simpa [Nat.add_assoc, Nat.add_comm 1 j] using this)
def Region.freeB (md : Region.Mode) (l : List Oper) (m size : Nat) : Bool :=
  decide (m ≤ l.length) && Region.fair l.toArray md m size && Region.last l.toArray md m && Region.seqB md l.toArray (l.length - m) m ((List.replicate m true ++ List.replicate (l.length - m) false).toArray)
theorem agree_eval {m : Nat} {a1 a : Act} (h : AgreeM ops m a1 a) {t : Nat} (ht : (List.range m).all (fun j => dstOf ops j != some t) = true) : a.eval (.tmp t) = a1.eval (.tmp t) := by
  show a.tmps.getD t undef = a1.tmps.getD t undef
  have := h.off t (fun j hj => by have := List.all_eq_true.1 ht j (List.mem_range.2 hj); simpa using this)
  simp only [Array.getD_eq_getD_getElem?, this]
theorem tmp_eq (a : Act) (k : Nat) : a.tmps[k]?.getD undef = a.eval (.tmp k) := (Array.getD_eq_getD_getElem? ..).symm
theorem free_list {md : Region.Mode} {step : Nat → (Act → World → Prop) → Act → World → Prop} (hmono : Mono step) {l : List Oper} {a1 : Act} {w1 : World} (m : Nat) (hB : Region.freeB md l m a1.tmps.size = true)
    (G : World → World → Prop) (hrefl : ∀ w, G w w) (htr : ∀ a b c, G a b → G b c → G a c) (D : Nat → Value → World → Prop) (hD : ∀ i v w w', D i v w → G w w' → D i v w')
    (J : (Nat → Bool) → World → Prop) (hJ0 : J (fun _ => false) w1) (hops : OpsOk (FreeS l.toArray md m a1 w1 G D J step) 0 (l.take m))
    (hend : ∀ (vals : Nat → Value) w, G w1 w → J (fun j => decide (j < m)) w → (∀ j, j < m → D j (vals j) w) → anyG md l.toArray Q step (l.drop m).length ((List.replicate m true ++ List.replicate (l.length - m) false).toArray) (putL (l.take m) vals 0 a1) w) :
    (l.drop m).length + m = l.toArray.size ∧ anyG md l.toArray Q step ((l.drop m).length + m) (Array.replicate l.toArray.size false) a1 w1 := by
  unfold Region.freeB at hB
  simp only [Bool.and_eq_true, decide_eq_true_eq] at hB
  obtain ⟨⟨⟨hm, hf⟩, hl⟩, hs⟩ := hB
  refine ⟨by simp; omega, wpAny_free hmono m _ (by simpa using hm) a1 w1 G hrefl htr D hD J hJ0 hf hl (fun i o hi ho => ?_) (fun vals w h1 h2 h3 => ?_)⟩
  · have := ops_at _ 0 hops i o (by rw [List.getElem?_take_of_lt hi]; simpa using ho)
    rw [Nat.zero_add] at this
    exact this ho
  · have e : putTo l.toArray a1 vals m = putL (l.take m) vals 0 a1 := by
      unfold putTo
      have := putL_eq l.toArray (l.take m) vals 0 a1 (fun j hj => by
        rw [List.getElem?_take_of_lt (by simp at hj; omega)]
        simp)
      rw [List.length_take, Nat.min_eq_left hm] at this
      rw [← this, List.range_eq_range']
    rw [e]
    simpa using hend vals w h1 h2 h3
theorem wp_free {l : List Oper} (m : Nat) {id : Nat} {a : Act} {w : World} (hm : P.follows .mixedOrders = true) (hB : Region.freeB .any l m a.tmps.size = true)
    (G : World → World → Prop) (hrefl : ∀ w, G w w) (htr : ∀ a b c, G a b → G b c → G a c) (D : Nat → Value → World → Prop) (hD : ∀ i v w w', D i v w → G w w' → D i v w')
    (J : (Nat → Bool) → World → Prop) (hJ0 : J (fun _ => false) { w with drawn := w.drawn + 1 }) (hops : OpsOk (FreeS l.toArray .any m a { w with drawn := w.drawn + 1 } G D J (wpOp P l.toArray Q)) 0 (l.take m))
    (hend : ∀ (vals : Nat → Value) w', G { w with drawn := w.drawn + 1 } w' → J (fun j => decide (j < m)) w' → (∀ j, j < m → D j (vals j) w') → wpList P l.toArray Q (l.drop m) (putL (l.take m) vals 0 a) w') :
    (Code.region id l.toArray true).wp P Q a w := by
  have hs : Region.seqB .any l.toArray (l.length - m) m ((List.replicate m true ++ List.replicate (l.length - m) false).toArray) = true := by
    unfold Region.freeB at hB
    simp only [Bool.and_eq_true] at hB
    exact hB.2
  obtain ⟨h1, h2⟩ := free_list (Q := Q) mono_op m hB G hrefl htr D hD J hJ0 hops (fun vals w' g1 g2 g3 => G_of_seq (l.drop m) m _ _ _ (fun j => by simp) (by simpa using hs) (hend vals w' g1 g2 g3))
  exact wp_region_free hm _ m h1 h2
end
end Go.Proofs.YtjhlpkhfdghngaaGreatDoor
namespace Go.Proofs.YtjhlpkhfdghngaaGreatDoor
open Go.RowKit Go.Sort
set_option linter.unusedVariables false
set_option linter.unusedSimpArgs false
set_option maxRecDepth 100000
section
variable {P : Program} {Q : Exit → Act → World → Prop}
def Region.deps (ops : Array Oper) (md : Region.Mode) (m : Nat) : Bool :=
  (List.range m).all fun i => match ops[i]? with
    | none => false
    | some o => (match o.op with | .select .. => false | _ => true) && (o.looksAt ops).all fun t =>
      ((List.range m).all fun j => dstOf ops j != some t) || o.after.any fun e => Region.binds md e && decide (e.on < m) && dstOf ops e.on == some t
theorem putTo_succ (ops : Array Oper) (a1 : Act) (V : Nat → Value) (m : Nat) : putTo ops a1 V (m + 1) = (putTo ops a1 V m).put (dstOf ops m) (V m) := by
  unfold putTo
  rw [List.range_succ, List.foldl_append]; rfl
theorem put_size (a : Act) (d : Option Tmp) (v : Value) : (a.put d v).tmps.size = a.tmps.size := by
  cases d with
  | none => rfl
  | some d => simp [Act.put]
theorem put_defers' (a : Act) (d : Option Tmp) (v : Value) : (a.put d v).defers = a.defers := by
  cases d <;> rfl
theorem putTo_size (ops : Array Oper) (a1 : Act) (V : Nat → Value) : ∀ m, (putTo ops a1 V m).tmps.size = a1.tmps.size
  | 0 => rfl
  | m + 1 => by rw [putTo_succ, put_size]; exact putTo_size ops a1 V m
theorem putTo_off (ops : Array Oper) (a1 : Act) (V : Nat → Value) {t : Nat} : ∀ m, (∀ j, j < m → dstOf ops j ≠ some t) → (putTo ops a1 V m).tmps[t]? = a1.tmps[t]?
  | 0, _ => rfl
  | m + 1, h => by
    rw [putTo_succ]
    have ih := putTo_off ops a1 V m (fun j hj => h j (by omega))
    cases hd : dstOf ops m with
    | none => exact ih
    | some d =>
      have hne : d ≠ t := fun e => h m (by omega) (by rw [hd, e])
      simp only [Act.put, Array.getElem?_setIfInBounds_ne hne]
      exact ih
theorem putTo_at (ops : Array Oper) (a1 : Act) (V : Nat → Value) {t : Nat} (ht : t < a1.tmps.size) : ∀ m, (∀ i j, i < m → j < m → dstOf ops i = some t → dstOf ops j = some t → i = j) → ∀ j, j < m → dstOf ops j = some t → (putTo ops a1 V m).tmps[t]? = some (V j)
  | 0, _, _, hj, _ => by omega
  | m + 1, h, j, hj, hjt => by
    rw [putTo_succ]
    by_cases hjm : j = m
    · subst hjm
      rw [hjt]
      have : t < (putTo ops a1 V j).tmps.size := by rw [putTo_size]; exact ht
      simp [Act.put, this]
    · have hne : dstOf ops m ≠ some t := fun e => hjm (h j m hj (by omega) hjt e)
      have ih := putTo_at ops a1 V ht m (fun i j hi hj => h i j (by omega) (by omega)) j (by omega) hjt
      cases hd : dstOf ops m with
      | none => exact ih
      | some d =>
        have hne2 : d ≠ t := fun e => hne (by rw [hd, e])
        simp only [Act.put, Array.getElem?_setIfInBounds_ne hne2]
        exact ih
theorem putL_congr : ∀ (l : List Oper) (V V' : Nat → Value) (k : Nat) (a : Act), (∀ j, j < l.length → V (k + j) = V' (k + j)) → putL l V k a = putL l V' k a
  | [], _, _, _, _, _ => rfl
  | o :: l, V, V', k, a, h => by
    unfold putL
    rw [show V k = V' k from h 0 (by simp)]
    exact putL_congr l V V' (k + 1) _ (fun j hj => by have := h (j + 1) (by simpa using hj); rwa [show k + (j + 1) = k + 1 + j by omega] at this)
theorem ops_of {S : Nat → Oper → Prop} : ∀ (l : List Oper) (k : Nat), (∀ i o, l[i]? = some o → S (k + i) o) → OpsOk S k l
  | [], _, _ => trivial
  | o :: l, k, h => ⟨h 0 o rfl, ops_of l (k + 1) (fun i o' ho => by have := h (i + 1) o' ho; rwa [show k + (i + 1) = k + 1 + i by omega] at this)⟩
def QD (b : Act) (w : World) : Exit → Act → World → Prop := fun e a' w' => e = .normal ∧ a' = b ∧ Below w.heap.size w w'
def DetAll (P : Program) (ops : Array Oper) (S : World → Prop) (b : Act) : List Oper → Prop
  | [] => True
  | o :: l => (∀ W, S W → wpList P ops (QD b W) [o] b W) ∧ DetAll P ops S b l
theorem det_at {ops : Array Oper} {S : World → Prop} {b : Act} : ∀ (l : List Oper), DetAll P ops S b l → ∀ (i : Nat) (o : Oper), l[i]? = some o → ∀ W, S W → wpList P ops (QD b W) [o] b W
  | [], _, i, o, h => by simp at h
  | o :: l, h, 0, o', ho => by
    obtain rfl : o = o' := by simpa using ho
    exact h.1
  | _ :: l, h, i + 1, o', ho => det_at l h.2 i o' (by simpa using ho)
theorem yielded_congr {ops : Array Oper} {t t' : Array Value} {j : Nat} (h : ∀ d, dstOf ops j = some d → t[d]? = t'[d]?) : yielded ops t j = yielded ops t' j := by
  unfold yielded
  show (match (dstOf ops j).bind (t[·]?) with | some (.bool b) => some b | _ => none) = (match (dstOf ops j).bind (t'[·]?) with | some (.bool b) => some b | _ => none)
  cases hd : dstOf ops j with
  | none => rfl
  | some d => simp only [Option.bind_some, h d hd]
theorem wp_det {l : List Oper} (m : Nat) {id : Nat} {a : Act} {w : World} (hm : P.follows .mixedOrders = true) (hB : Region.freeB .any l m a.tmps.size = true) (hdep : Region.deps l.toArray .any m = true)
    (V : Nat → Value) (S : World → Prop) (hS0 : S { w with drawn := w.drawn + 1 }) (hSk : ∀ w w', S w → Below w.heap.size w w' → S w')
    (hops : DetAll P l.toArray S (putL (l.take m) V 0 a) (l.take m))
    (hend : ∀ w', S w' → wpList P l.toArray Q (l.drop m) (putL (l.take m) V 0 a) w') : (Code.region id l.toArray true).wp P Q a w := by
  have hB2 := hB
  unfold Region.freeB at hB2
  simp only [Bool.and_eq_true, decide_eq_true_eq] at hB2
  obtain ⟨⟨⟨hml, hf⟩, _⟩, _⟩ := hB2
  have fair : ∀ i, i < m → ∃ o d, l[i]? = some o ∧ (∀ e ∈ o.after, e.on < i) ∧ o.dst = some d ∧ d < a.tmps.size ∧ ∀ j, j ≠ i → dstOf l.toArray j ≠ some d := by
    intro i hi
    have h := List.all_eq_true.1 hf i (List.mem_range.2 hi)
    cases ho : l[i]? with
    | none => rw [List.getElem?_toArray, ho] at h; cases h
    | some o =>
      rw [List.getElem?_toArray, ho] at h
      dsimp only at h
      rw [Bool.and_eq_true, Array.all_eq_true'] at h
      cases hd : o.dst with
      | none => rw [hd] at h; cases h.2
      | some d =>
        refine ⟨o, d, rfl, fun e he => by simpa using h.1 e he, hd, ?_⟩
        have h2 := h.2
        rw [hd] at h2
        dsimp only at h2
        rw [Bool.and_eq_true, decide_eq_true_eq, List.all_eq_true] at h2
        refine ⟨h2.1, fun j hj => ?_⟩
        rcases Nat.lt_or_ge j l.toArray.size with hl | hl
        · have := h2.2 j (List.mem_range.2 hl)
          simp only [Bool.or_eq_true, beq_iff_eq, bne_iff_ne] at this
          exact this.resolve_left (fun e => hj e.symm)
        · unfold dstOf
          rw [Array.getElem?_eq_none hl]
          simp
  have hput : putL (l.take m) V 0 a = putTo l.toArray a V m := by
    unfold putTo
    have := putL_eq l.toArray (l.take m) V 0 a (fun j hj => by
      rw [List.getElem?_take_of_lt (by simp at hj; omega)]
      simp)
    rw [List.length_take, Nat.min_eq_left hml] at this
    rw [← this, List.range_eq_range']
  generalize hb : putL (l.take m) V 0 a = b at *
  refine wp_free m hm hB (fun a b => Below a.heap.size a b) (fun a => Below.refl _ _) (fun a b c h k => h.trans (k.mono h.size)) (fun i v _ => v = V i) (fun _ _ _ _ h _ => h) (fun _ _ => True) trivial (ops_of _ _ (fun i o hi => ?_)) (fun vals w' hG _ hv => ?_)
  · rw [Nat.zero_add]
    intro ho L a' W _ _ _ _ hG hA hd
    have hilt : i < m := by
      have := (List.getElem?_eq_some_iff.1 hi).1
      rw [List.length_take] at this; omega
    have hSW : S W := hSk _ _ hS0 hG
    have hD := det_at _ hops i o hi W hSW
    obtain ⟨o', d, ho', hback, hdo, hdl, hdd⟩ := fair i hilt
    obtain rfl : o = o' := by rw [List.getElem?_toArray] at ho; exact Option.some.inj (ho.symm.trans ho')
    have hdist : ∀ t i j, i < m → j < m → dstOf l.toArray i = some t → dstOf l.toArray j = some t → i = j := by
      intro t i j hi hj h1 h2
      obtain ⟨oi, di, hoi, _, hdi, _, hddi⟩ := fair i hi
      have e1 : dstOf l.toArray i = some di := by unfold dstOf; rw [List.getElem?_toArray, hoi]; exact hdi
      by_cases hij : j = i
      · exact hij.symm
      · exact absurd (by rw [h2, ← h1, e1]) (hddi j hij)
    have look : ∀ t ∈ o.looksAt l.toArray, a'.tmps[t]? = b.tmps[t]? := by
      intro t ht
      have h := List.all_eq_true.1 hdep i (List.mem_range.2 hilt)
      rw [ho] at h
      dsimp only at h
      rw [Bool.and_eq_true, List.all_eq_true] at h
      have h2 := h.2 t ht
      rw [Bool.or_eq_true] at h2
      rcases h2 with h2 | h2
      · have hoff : ∀ j, j < m → dstOf l.toArray j ≠ some t := fun j hj => by
          have := List.all_eq_true.1 h2 j (List.mem_range.2 hj)
          simpa using this
        rw [hA.off t hoff, hput, putTo_off _ _ _ m hoff]
      · rw [Array.any_eq_true'] at h2
        obtain ⟨e, he, h2⟩ := h2
        rw [Bool.and_eq_true, Bool.and_eq_true, decide_eq_true_eq, beq_iff_eq] at h2
        obtain ⟨⟨hbd, hem⟩, hdt⟩ := h2
        have hv : slotOf l.toArray a' e.on = V e.on := hd e he hbd
        obtain ⟨oe, de, hoe, _, hde, hdel, _⟩ := fair e.on hem
        have e1 : dstOf l.toArray e.on = some de := by unfold dstOf; rw [List.getElem?_toArray, hoe]; exact hde
        obtain rfl : de = t := Option.some.inj (e1.symm.trans hdt)
        unfold slotOf at hv
        rw [e1] at hv
        dsimp only at hv
        rw [hput, putTo_at _ _ _ hdel m (hdist de) e.on hem e1]
        have hlt : de < a'.tmps.size := by rw [hA.size]; exact hdel
        rw [Array.getD_eq_getD_getElem?, Array.getElem?_eq_getElem hlt] at hv
        rw [Array.getElem?_eq_getElem hlt, ← hv]
        rfl
    have hex : execOp a'.eval o = execOp b.eval o := by
      refine execOp_congr o (fun cs bl hs => ?_) (fun x hx => ?_)
      · have h := List.all_eq_true.1 hdep i (List.mem_range.2 hilt)
        rw [ho] at h
        dsimp only at h
        rw [hs] at h
        cases h
      · cases x with
        | tmp t =>
          have := look t (List.mem_append_left _ (List.mem_filterMap.2 ⟨.tmp t, by simpa using hx, rfl⟩))
          show a'.tmps.getD t undef = b.tmps.getD t undef
          rw [Array.getD_eq_getD_getElem?, Array.getD_eq_getD_getElem?, this]
        | _ => rfl
    have hwt : Region.wanted o (yielded l.toArray a'.tmps) = Region.wanted o (yielded l.toArray b.tmps) := by
      unfold Region.wanted
      cases hg : o.guard with
      | none => rfl
      | some gw =>
        obtain ⟨g, want⟩ := gw
        dsimp only
        rw [yielded_congr (fun d hd => look d ?_)]
        refine List.mem_append_right _ ?_
        rw [hg]
        dsimp only
        unfold dstOf at hd
        rw [hd]
        simp
    have hbd : b.tmps[d]? = some (V i) := by
      have e1 : dstOf l.toArray i = some d := by unfold dstOf; rw [ho]; exact hdo
      rw [hput, putTo_at _ _ _ hdl m (hdist d) i hilt e1]
    have hbs : b.tmps.size = a.tmps.size := by rw [hput, putTo_size]
    have same : ∀ v, b.put o.dst v = b → v = V i := by
      intro v hv
      rw [hdo] at hv
      have h3 : (b.put (some d) v).tmps[d]? = some (V i) := by rw [hv]; exact hbd
      have hlt : d < b.tmps.size := by rw [hbs]; exact hdl
      simp [Act.put, hlt] at h3
      exact h3
    unfold wpOp
    rw [ho]
    dsimp only
    rw [hwt]
    unfold wpList at hD
    split
    · rename_i hw
      rw [if_pos hw] at hD
      rcases hD with hD | ⟨_, a9, w9, h9, _⟩
      · refine .inl ?_
        unfold Oper.wp at hD ⊢
        rw [hex]
        generalize (execOp b.eval o).run P W = r at hD ⊢
        cases r with
        | ok n w9 =>
          cases n with
          | value v => exact ⟨v, rfl, same v hD.2.1, hD.2.2, trivial⟩
          | skip => exact ⟨undef, rfl, same undef hD.2.1, hD.2.2, trivial⟩
          | defer dd =>
            exfalso
            have h3 : ({ b with defers := dd :: b.defers }.put o.dst undef).defers = b.defers := congrArg Act.defers hD.2.1
            rw [put_defers'] at h3
            have := congrArg List.length h3
            simp at this
          | enter f args =>
            refine Calls.mono hD ?_
            intro e w8 h8
            cases e with
            | returned v => exact ⟨v, rfl, same v h8.2.1, h8.2.2, trivial⟩
            | panicked c => cases h8.1
            | outgrown => obtain ⟨_, _, h7, _⟩ := h8; cases h7
          | row r args =>
            refine Rows.mono hD ?_
            intro v w8 h8
            exact ⟨v, rfl, same v h8.2.1, h8.2.2, trivial⟩
          | _ => exact hD.elim
        | halt h w9 =>
          cases h with
          | panic v => exact absurd hD.1 (by intro h; cases h)
          | _ => exact hD.elim
      · cases h9
    · rename_i hw
      rw [if_neg hw] at hD
      exact ⟨undef, rfl, same undef hD.2.1, hD.2.2, trivial⟩
  · have e : putL (l.take m) vals 0 a = b := by
      rw [← hb]
      refine putL_congr _ _ _ _ _ (fun j hj => ?_)
      rw [Nat.zero_add]
      exact hv j (by rw [List.length_take] at hj; omega)
    rw [e]
    exact hend w' (hSk _ _ hS0 hG)
def DepsL (D : Nat → Value → World → Prop) (vals : Nat → Value) (W : World) : List Edge → Prop
  | [] => True
  | e :: r => (match Region.binds .any e with
    | true => D e.on (vals e.on) W
    | false => True) ∧ DepsL D vals W r
theorem depsL_of {D : Nat → Value → World → Prop} {vals : Nat → Value} {W : World} : ∀ l : List Edge, (∀ e ∈ l, Region.binds .any e = true → D e.on (vals e.on) W) → DepsL D vals W l
  | [], _ => trivial
  | e :: r, h => ⟨by
      cases hb : Region.binds .any e with
      | true => exact h e (by simp) hb
      | false => trivial, depsL_of r (fun e' he' hb => h e' (by simp [he']) hb)⟩
def slotD (o : Oper) (a : Act) : Value := match o.dst with
  | some d => a.tmps.getD d undef
  | none => undef
def QV (D : Nat → Value → World → Prop) (i : Nat) (o : Oper) (ds : List Deferred) (w : World) : Exit → Act → World → Prop := fun e a' w' => e = .normal ∧ D i (slotD o a') w' ∧ a'.defers = ds ∧ Below w.heap.size w w'
def DetD (P : Program) (ops : Array Oper) (S : World → Prop) (D : Nat → Value → World → Prop) (fr : (Nat → Value) → Act) : Nat → List Oper → Prop
  | _, [] => True
  | i, o :: l => (∀ vals W, S W → DepsL D vals W o.after.toList → wpList P ops (QV D i o (fr vals).defers W) [o] (fr vals) W) ∧ DetD P ops S D fr (i + 1) l
theorem detD_at {ops : Array Oper} {S : World → Prop} {D : Nat → Value → World → Prop} {fr : (Nat → Value) → Act} : ∀ (l : List Oper) (k : Nat), DetD P ops S D fr k l → ∀ (i : Nat) (o : Oper), l[i]? = some o → ∀ vals W, S W → DepsL D vals W o.after.toList → wpList P ops (QV D (k + i) o (fr vals).defers W) [o] (fr vals) W
  | [], _, _, i, o, h => by simp at h
  | o :: l, k, h, 0, o', ho => by
    obtain rfl : o = o' := by simpa using ho
    exact h.1
  | _ :: l, k, h, i + 1, o', ho => by
    have := detD_at l (k + 1) h.2 i o' (by simpa using ho)
    rwa [show k + 1 + i = k + (i + 1) by omega] at this
theorem wp_detD {l : List Oper} (m : Nat) {id : Nat} {a : Act} {w : World} (hm : P.follows .mixedOrders = true) (hB : Region.freeB .any l m a.tmps.size = true) (hdep : Region.deps l.toArray .any m = true)
    (D : Nat → Value → World → Prop) (hDk : ∀ i v w w', D i v w → Below w.heap.size w w' → D i v w') (S : World → Prop) (hS0 : S { w with drawn := w.drawn + 1 }) (hSk : ∀ w w', S w → Below w.heap.size w w' → S w')
    (hops : DetD P l.toArray S D (fun vals => putL (l.take m) vals 0 a) 0 (l.take m))
    (hend : ∀ vals w', S w' → (∀ j, j < m → D j (vals j) w') → wpList P l.toArray Q (l.drop m) (putL (l.take m) vals 0 a) w') : (Code.region id l.toArray true).wp P Q a w := by
  have hB2 := hB
  unfold Region.freeB at hB2
  simp only [Bool.and_eq_true, decide_eq_true_eq] at hB2
  obtain ⟨⟨⟨hml, hf⟩, _⟩, _⟩ := hB2
  have fair : ∀ i, i < m → ∃ o d, l[i]? = some o ∧ (∀ e ∈ o.after, e.on < i) ∧ o.dst = some d ∧ d < a.tmps.size ∧ ∀ j, j ≠ i → dstOf l.toArray j ≠ some d := by
    intro i hi
    have h := List.all_eq_true.1 hf i (List.mem_range.2 hi)
    cases ho : l[i]? with
    | none => rw [List.getElem?_toArray, ho] at h; cases h
    | some o =>
      rw [List.getElem?_toArray, ho] at h
      dsimp only at h
      rw [Bool.and_eq_true, Array.all_eq_true'] at h
      cases hd : o.dst with
      | none => rw [hd] at h; cases h.2
      | some d =>
        refine ⟨o, d, rfl, fun e he => by simpa using h.1 e he, hd, ?_⟩
        have h2 := h.2
        rw [hd] at h2
        dsimp only at h2
        rw [Bool.and_eq_true, decide_eq_true_eq, List.all_eq_true] at h2
        refine ⟨h2.1, fun j hj => ?_⟩
        rcases Nat.lt_or_ge j l.toArray.size with hl | hl
        · have := h2.2 j (List.mem_range.2 hl)
          simp only [Bool.or_eq_true, beq_iff_eq, bne_iff_ne] at this
          exact this.resolve_left (fun e => hj e.symm)
        · unfold dstOf
          rw [Array.getElem?_eq_none hl]
          simp
  have hput : ∀ V, putL (l.take m) V 0 a = putTo l.toArray a V m := by
    intro V
    unfold putTo
    have := putL_eq l.toArray (l.take m) V 0 a (fun j hj => by
      rw [List.getElem?_take_of_lt (by simp at hj; omega)]
      simp)
    rw [List.length_take, Nat.min_eq_left hml] at this
    rw [← this, List.range_eq_range']
  refine wp_free m hm hB (fun a b => Below a.heap.size a b) (fun a => Below.refl _ _) (fun a b c h k => h.trans (k.mono h.size)) D (fun i v w w' h hb => hDk i v w w' h hb) (fun _ _ => True) trivial (ops_of _ _ (fun i o hi => ?_)) (fun vals w' hG _ hv => ?_)
  · rw [Nat.zero_add]
    intro ho L a' W _ _ _ _ hG hA hd
    have hilt : i < m := by
      have := (List.getElem?_eq_some_iff.1 hi).1
      rw [List.length_take] at this; omega
    have hSW : S W := hSk _ _ hS0 hG
    obtain ⟨V, hV⟩ : ∃ V : Nat → Value, V = fun j => slotOf l.toArray a' j := ⟨_, rfl⟩
    have hD := detD_at _ _ hops i o hi V W hSW (depsL_of _ (fun e he hb => by rw [hV]; exact hd e (by simpa using he) hb))
    rw [Nat.zero_add] at hD
    generalize hb : putL (l.take m) V 0 a = b at *
    have hput := hput V
    rw [hb] at hput
    obtain ⟨o', d, ho', hback, hdo, hdl, hdd⟩ := fair i hilt
    obtain rfl : o = o' := by rw [List.getElem?_toArray] at ho; exact Option.some.inj (ho.symm.trans ho')
    have hdist : ∀ t i j, i < m → j < m → dstOf l.toArray i = some t → dstOf l.toArray j = some t → i = j := by
      intro t i j hi hj h1 h2
      obtain ⟨oi, di, hoi, _, hdi, _, hddi⟩ := fair i hi
      have e1 : dstOf l.toArray i = some di := by unfold dstOf; rw [List.getElem?_toArray, hoi]; exact hdi
      by_cases hij : j = i
      · exact hij.symm
      · exact absurd (by rw [h2, ← h1, e1]) (hddi j hij)
    have look : ∀ t ∈ o.looksAt l.toArray, a'.tmps[t]? = b.tmps[t]? := by
      intro t ht
      have h := List.all_eq_true.1 hdep i (List.mem_range.2 hilt)
      rw [ho] at h
      dsimp only at h
      rw [Bool.and_eq_true, List.all_eq_true] at h
      have h2 := h.2 t ht
      rw [Bool.or_eq_true] at h2
      rcases h2 with h2 | h2
      · have hoff : ∀ j, j < m → dstOf l.toArray j ≠ some t := fun j hj => by
          have := List.all_eq_true.1 h2 j (List.mem_range.2 hj)
          simpa using this
        rw [hA.off t hoff, hput, putTo_off _ _ _ m hoff]
      · rw [Array.any_eq_true'] at h2
        obtain ⟨e, he, h2⟩ := h2
        rw [Bool.and_eq_true, Bool.and_eq_true, decide_eq_true_eq, beq_iff_eq] at h2
        obtain ⟨⟨hbd, hem⟩, hdt⟩ := h2
        have hv : slotOf l.toArray a' e.on = V e.on := by rw [hV]
        obtain ⟨oe, de, hoe, _, hde, hdel, _⟩ := fair e.on hem
        have e1 : dstOf l.toArray e.on = some de := by unfold dstOf; rw [List.getElem?_toArray, hoe]; exact hde
        obtain rfl : de = t := Option.some.inj (e1.symm.trans hdt)
        unfold slotOf at hv
        rw [e1] at hv
        dsimp only at hv
        rw [hput, putTo_at _ _ _ hdel m (hdist de) e.on hem e1]
        have hlt : de < a'.tmps.size := by rw [hA.size]; exact hdel
        rw [Array.getD_eq_getD_getElem?, Array.getElem?_eq_getElem hlt] at hv
        rw [Array.getElem?_eq_getElem hlt, ← hv]
        rfl
    have hex : execOp a'.eval o = execOp b.eval o := by
      refine execOp_congr o (fun cs bl hs => ?_) (fun x hx => ?_)
      · have h := List.all_eq_true.1 hdep i (List.mem_range.2 hilt)
        rw [ho] at h
        dsimp only at h
        rw [hs] at h
        cases h
      · cases x with
        | tmp t =>
          have := look t (List.mem_append_left _ (List.mem_filterMap.2 ⟨.tmp t, by simpa using hx, rfl⟩))
          show a'.tmps.getD t undef = b.tmps.getD t undef
          rw [Array.getD_eq_getD_getElem?, Array.getD_eq_getD_getElem?, this]
        | _ => rfl
    have hwt : Region.wanted o (yielded l.toArray a'.tmps) = Region.wanted o (yielded l.toArray b.tmps) := by
      unfold Region.wanted
      cases hg : o.guard with
      | none => rfl
      | some gw =>
        obtain ⟨g, want⟩ := gw
        dsimp only
        rw [yielded_congr (fun d hd => look d ?_)]
        refine List.mem_append_right _ ?_
        rw [hg]
        dsimp only
        unfold dstOf at hd
        rw [hd]
        simp
    have hbs : b.tmps.size = a.tmps.size := by rw [hput, putTo_size]
    have same : ∀ v, slotD o (b.put o.dst v) = v := by
      intro v
      unfold slotD
      rw [hdo]
      have hlt : d < b.tmps.size := by rw [hbs]; exact hdl
      simp [Act.put, hlt]
    unfold wpOp
    rw [ho]
    dsimp only
    rw [hwt]
    unfold wpList at hD
    split
    · rename_i hw
      rw [if_pos hw] at hD
      rcases hD with hD | ⟨_, a9, w9, h9, _⟩
      · refine .inl ?_
        unfold Oper.wp at hD ⊢
        rw [hex]
        generalize (execOp b.eval o).run P W = r at hD ⊢
        cases r with
        | ok n w9 =>
          cases n with
          | value v => exact ⟨v, rfl, (by have := hD.2.1; rwa [same v] at this), hD.2.2.2, trivial⟩
          | skip => exact ⟨undef, rfl, (by have := hD.2.1; rwa [same undef] at this), hD.2.2.2, trivial⟩
          | defer dd =>
            exfalso
            have h3 : ({ b with defers := dd :: b.defers }.put o.dst undef).defers = b.defers := hD.2.2.1
            rw [put_defers'] at h3
            have := congrArg List.length h3
            simp at this
          | enter f args =>
            refine Calls.mono hD ?_
            intro e w8 h8
            cases e with
            | returned v => exact ⟨v, rfl, (by have := h8.2.1; rwa [same v] at this), h8.2.2.2, trivial⟩
            | panicked c => cases h8.1
            | outgrown => obtain ⟨_, _, h7, _⟩ := h8; cases h7
          | row r args =>
            refine Rows.mono hD ?_
            intro v w8 h8
            exact ⟨v, rfl, (by have := h8.2.1; rwa [same v] at this), h8.2.2.2, trivial⟩
          | _ => exact hD.elim
        | halt h w9 =>
          cases h with
          | panic v => exact absurd hD.1 (by intro h; cases h)
          | _ => exact hD.elim
      · cases h9
    · rename_i hw
      rw [if_neg hw] at hD
      exact ⟨undef, rfl, (by have := hD.2.1; rwa [same undef] at this), hD.2.2.2, trivial⟩
  · exact hend vals w' (hSk _ _ hS0 hG) hv
def IsV (c : Value) : Value → World → Prop := fun v _ => v = c
def Keeps (f : Value → World → Prop) : Prop := ∀ v w w', f v w → Below w.heap.size w w' → f v w'
theorem keeps_is (c : Value) : Keeps (IsV c) := fun _ _ _ h _ => h
def KeepAll : List (Value → World → Prop) → Prop
  | [] => True
  | f :: l => Keeps f ∧ KeepAll l
def DL (Ds : List (Value → World → Prop)) (i : Nat) (v : Value) (W : World) : Prop := Ds.getD i (fun _ _ => False) v W
theorem DL.keep : ∀ (Ds : List (Value → World → Prop)), KeepAll Ds → ∀ i v w w', DL Ds i v w → Below w.heap.size w w' → DL Ds i v w'
  | [], _, _, _, _, _, h, _ => h.elim
  | f :: l, hk, 0, v, w, w', h, hb => hk.1 v w w' h hb
  | f :: l, hk, i + 1, v, w, w', h, hb => DL.keep l hk.2 i v w w' h hb
end
end Go.Proofs.YtjhlpkhfdghngaaGreatDoor
