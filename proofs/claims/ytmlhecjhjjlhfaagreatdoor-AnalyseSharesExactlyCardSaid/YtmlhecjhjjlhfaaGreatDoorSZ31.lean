/- Whether a rule matches; which rule counts. -/
import Derived.Test.YtmlhecjhjjlhfaaGreatDoorSZ30
import Derived.Test.YtmlhecjhjjlhfaaGreatDoorSZ18
import Derived.Test.YtmlhecjhjjlhfaaGreatDoorSZ13
import Derived.Test.YtmlhecjhjjlhfaaGreatDoorSZ3
import Derived.Test.YtmlhecjhjjlhfaaGreatDoorProg
import Derived.WalkKit
import Derived.WalkSpells
import Derived.WalkLawsBesides
import Derived.Below
import Derived.Deep.QuietTactic
import Derived.BigQuiet
import Derived.Lib.QuietBelow
import Derived.Lib.Strings
import Derived.Lib.Hide
import Derived.Deep.RegionWith
import Derived.Deep.RegionHeld3
import Derived.Lib.IndexBytes
import Derived.Test.YtmlhecjhjjlhfaaGreatDoorSZ4
import Derived.Laws.EntriesVeiled
import Derived.Test.YtmlhecjhjjlhfaaGreatDoorSZ17
import Derived.Test.YtmlhecjhjjlhfaaGreatDoorSZ27
import Derived.Test.YtmlhecjhjjlhfaaGreatDoorSZ16
import Derived.Test.YtmlhecjhjjlhfaaGreatDoorSZ25
import Derived.Test.YtmlhecjhjjlhfaaGreatDoorSZ23
namespace Go.Proofs.YtmlhecjhjjlhfaaGreatDoor
open Go.RowKit Go.Sort
set_option linter.unusedVariables false
set_option linter.unusedSimpArgs false
set_option maxRecDepth 100000
set_option maxHeartbeats 1000000 in
theorem indexFuncC_any (g : Nat) (eg : ∀ args w, (callFunc g args).run Tryz.prog w = .ok (.enter g args) w) (cv : Value) (p : ByteArray → Bool) (A : Option Addr) (n c : Nat) (xs : List ByteArray) (w : World)
    (hp : ∀ x ∈ xs, ∀ W, Below w.heap.size w W → Calls Tryz.prog g #[.string x, cv] W (Ret W (.bool (p x)))) (hA : Reads w 1 A n (xs.map .string)) (hn : n ≤ 1000000000) :
    Calls Tryz.prog 76 #[.slice A n c, .func (.func g) #[] #[cv]] w (Ret w (.int .i64 (idxFrom p xs 0))) := by
  have hl : n ≤ xs.length ∧ xs.length ≤ n := by have := hA.1; simp at this; omega
  have HP := Lib.hid hp; have HA := Lib.hid hA
  clear hp hA
  go_enter Tryz.func76, Tryz.ntmps76
  go_wp2
  go_loopw [8] (fun i wr => ∃ k : Nat, k ≤ n ∧ i = .int .i64 k ∧ Hid (idxFrom p xs 0 = idxFrom p (xs.drop k) k) ∧ Below w.heap.size w wr) (fun i _ => n - (intOf i).toNat)
  case atStart => exact ⟨0, by omega, rfl, Lib.hid rfl, Below.refl _ _⟩
  case round =>
    obtain ⟨k, hk, rfl, HI, hb⟩ := hrel
    by_cases hlt : k < n
    · obtain ⟨pb, po, u, rfl, hu, hcell⟩ := (HA.out.keep hb).at_ hlt
      obtain ⟨x, hx, rfl⟩ := strs_at hu
      clear hu
      have hc := HP.out x (List.mem_of_getElem? hx) wr hb
      have hd : xs.drop k = x :: xs.drop (k + 1) := by
        obtain ⟨hl2, rfl⟩ := List.getElem?_eq_some_iff.1 hx
        exact List.drop_eq_getElem_cons hl2
      have HI2 := HI.out
      rw [hd, idxFrom] at HI2
      clear hd hx HI
      have HI := Lib.hid HI2
      clear HI2
      cases hpx : p x
      all_goals
        rw [hpx] at hc HI
        have HC := Lib.hid hc
        clear hc hpx
        go_wp2_with (go_at_fn g; refine (HC.out).mono ?_; rintro e w2 ⟨rfl, hb2⟩)
      · refine ⟨⟨k + 1, by omega, by go_num, Lib.hid (by have := HI.out; simpa using this), bstep hb hb2⟩, by simp [intOf]; omega⟩
      · go_ret
        have := HI.out
        exact ⟨ret_int (by rw [this]; simp), bstep hb hb2⟩
    · have he : idxFrom p xs 0 = -1 := by rw [HI.out, List.drop_eq_nil_of_le (by omega)]; rfl
      have HE := Lib.hid he
      clear he HI
      go_wp2
      go_ret
      exact ⟨ret_int HE.out.symm, hb⟩
theorem containsFuncC_any (g : Nat) (eg : ∀ args w, (callFunc g args).run Tryz.prog w = .ok (.enter g args) w) (cv : Value) (p : ByteArray → Bool) (A : Option Addr) (n c : Nat) (xs : List ByteArray) (w : World)
    (hp : ∀ x ∈ xs, ∀ W, Below w.heap.size w W → Calls Tryz.prog g #[.string x, cv] W (Ret W (.bool (p x)))) (hA : Reads w 1 A n (xs.map .string)) (hn : n ≤ 1000000000) :
    Calls Tryz.prog 34 #[.slice A n c, .func (.func g) #[] #[cv]] w (Ret w (.bool (xs.any p))) := by
  rw [← idxFrom_any p xs 0]
  have H := Lib.hid (indexFuncC_any g eg cv p A n c xs w hp hA hn)
  clear hp hA
  generalize idxFrom p xs 0 = r at H ⊢
  go_enter Tryz.func34, Tryz.ntmps34
  go_wp2_with (go_at_call 76; refine H.out.mono ?_; rintro e w2 ⟨rfl, hb2⟩)
  go_ret
  exact ⟨rfl, hb2⟩
end Go.Proofs.YtmlhecjhjjlhfaaGreatDoor
namespace Go.Proofs.YtmlhecjhjjlhfaaGreatDoor
open Go.RowKit Go.Sort
set_option linter.unusedVariables false
set_option linter.unusedSimpArgs false
set_option maxRecDepth 100000
def idxA {α : Type} (p : α → Bool) : List α → Nat → Int
  | [], _ => -1
  | x :: r, k => if p x then k else idxA p r (k + 1)
theorem rule_load (w : World) (b o : Nat) (x : RuleM) (hc : ∀ j u, x.cells[j]? = some u → w.cell? ⟨b, o + j, none⟩ = some u) : (loadVar 38 ⟨b, o, none⟩).run Tryz.prog w = .ok x.val w := by
  have hl : (loadCells ⟨b, o, none⟩ 18).run Tryz.prog w = .ok x.cells.toArray w :=
    run_loadCells_list (P := Tryz.prog) w ⟨b, o, none⟩ x.cells (fun j v hv => by
      have hadd : (⟨b, o, none⟩ : Addr).add j = ⟨b, o + j, none⟩ := by unfold Addr.add; split <;> simp_all
      rw [hadd]; exact hc j v hv)
  have hi : (Tryz.prog.info? 38).map (·.size) = some 18 := by kernel_rfl
  cases hq : Tryz.prog.info? 38 with
  | none => rw [hq] at hi; cases hi
  | some i =>
    have hs : i.size = 18 := by rw [hq] at hi; simpa using hi
    have hagg : (isAgg 38).run Tryz.prog w = .ok true w := by
      unfold isAgg
      rw [Sem.run_bind, run_underlying Tryz.underlying38 w]
      rfl
    simp [loadVar, Sem.run_bind, hagg, sizeOf, typeInfo, hq, hs, hl, RuleM.val]
end Go.Proofs.YtmlhecjhjjlhfaaGreatDoor
namespace Go.Proofs.YtmlhecjhjjlhfaaGreatDoor
open Go.RowKit Go.Sort
set_option linter.unusedVariables false
set_option linter.unusedSimpArgs false
set_option maxRecDepth 100000
theorem okN_at {l : List ByteArray} {k : Nat} {x y : ByteArray} (hx : l[k + 1]? = some x) (hy : l[k]? = some y) : okK ltB isNameB l (k + 1) = (isNameB x && ltB y x) := by
  unfold okK
  rw [hx, Nat.add_sub_cancel, hy]
  simp
theorem okN_zero {l : List ByteArray} {x : ByteArray} (hx : l[0]? = some x) : okK ltB isNameB l 0 = isNameB x := by
  unfold okK
  rw [hx]; simp
theorem namesA_fail {l : List ByteArray} {k : Nat} (hk : k < l.length) (h2 : okK ltB isNameB l k = false) : namesA l = false := by
  unfold namesA
  rw [List.all_eq_false]
  exact ⟨k, by simpa using hk, by rw [h2]; simp⟩
theorem min4 (a b c d : Int) : Lib.minOf [a, b, c, d] = min (min (min a b) c) d := by
  unfold Lib.minOf
  simp
theorem max4 (a b c d : Int) : Lib.maxOf [a, b, c, d] = max (max (max a b) c) d := by
  unfold Lib.maxOf
  simp
theorem four_reads (W : World) (g : Nat) (a b c d : Int) (h : RowV W g 3 [.int .i64 a, .int .i64 b, .int .i64 c, .int .i64 d]) : ∀ j, j < [a, b, c, d].length → W.cell? ⟨g, 0 + j, none⟩ = some (.int .i64 ([a, b, c, d].getD j 0)) := by
  intro j hj
  rw [Nat.zero_add]
  refine RowV.cell h ?_
  match j, hj with
  | 0, _ => rfl
  | 1, _ => rfl
  | 2, _ => rfl
  | 3, _ => rfl
def timesR (r : RuleV) : Bool := decide (0 ≤ min (min (min r.fresh r.stale) r.down) r.neg) && decide (max (max (max r.fresh r.stale) r.down) r.neg ≤ 1099511627776)
theorem times_span (r : RuleV) : timesR r = (spanB r.fresh && spanB r.stale && spanB r.down && spanB r.neg) := by
  unfold timesR spanB
  rw [Bool.eq_iff_iff]
  simp only [Bool.and_eq_true, decide_eq_true_eq]
  omega
theorem validR_eq (r : RuleV) : validR r = (namesA r.tags && (isNameB r.name && (compileB r.pat).isSome && timesR r && validC r.allow && decide (r.vary.length ≤ 8) && decide (0 ≤ r.cost) && decide (r.cost ≤ 1073741824) && decide (r.prog.size ≤ 64))) := by
  unfold validR
  rw [times_span]
  cases isNameB r.name <;> cases (compileB r.pat).isSome <;> cases namesA r.tags <;> cases validC r.allow <;> simp
def Box8 (w : World) (g4 : Nat) (x : RuleM) (W : World) : Prop := RowV W w.heap.size 38 x.cells ∧ RowV W g4 3 [.int .i64 x.r.fresh, .int .i64 x.r.stale, .int .i64 x.r.down, .int .i64 x.r.neg] ∧ Below w.heap.size w W
theorem Box8.keep {w W W' : World} {g4 : Nat} {x : RuleM} (h : Box8 w g4 x W) (hb : Below W.heap.size W W') : Box8 w g4 x W' :=
  ⟨h.1.keep hb, h.2.1.keep hb, h.2.2.trans (hb.mono h.2.2.size)⟩
set_option maxHeartbeats 8000000 in
theorem polValid_any (x : RuleM) (w : World) (hR : RuleReads w x) (hf : RuleFits x.r) (hE : Env w) : Calls Tryz.prog 55 #[x.val] w (Ret w (.bool (validR x.r))) := by
  have cN := fun (s : ByteArray) (hs : s.size ≤ 4294967281) (W : World) (hb : Below w.heap.size w W) => polName_any s W hs (Env.keep hE hb)
  have cP := fun (W : World) (hb : Below w.heap.size w W) => valid_any x.r.pat W (by have := hf.pat; omega) (Env.keep hE hb)
  have cC := fun (W : World) (hb : Below w.heap.size w W) => condValid_any x.r.allow x.m W (hR.allow.keep hb) hf.c.p hf.c.cl hf.c.co hf.c.n1 hf.c.n2 hf.c.n3 (Env.keep hE hb)
  unfold CondMem.val at cC
  have hnm := hf.name
  obtain ⟨V, hV⟩ : ∃ V, V = validR x.r := ⟨_, rfl⟩
  rw [← hV]
  rw [validR_eq] at hV
  have HT := Lib.hid hR.tags
  have HTS := Lib.hid hf.t
  have hnt := hf.nt
  have HV := Lib.hid hV; have HN := Lib.hid cN; have HP := Lib.hid cP; have HC := Lib.hid cC
  clear hV cN cP cC hR hf hE
  rw [RuleM.val_eq]
  go_enter Tryz.func55, Tryz.ntmps55
  go_wp2
  obtain ⟨n, hn⟩ : ∃ n, n = x.r.tags.length := ⟨_, rfl⟩
  have htg := HT.out
  rw [← hn] at hnt htg ⊢
  have HT := Lib.hid htg
  have HNL := Lib.hid hn
  clear hn htg
  have c2v : x.cells[2]? = some (.slice x.T n x.ct) := by rw [HNL.out]; rfl
  go_loopw [9] (fun iv wr => ∃ k : Nat, k ≤ n ∧ iv = .int .i64 k ∧ Hid ((List.range k).all (okK ltB isNameB x.r.tags) = true) ∧ Hid (RowV wr w.heap.size 38 x.cells) ∧ Below w.heap.size w wr) (fun iv _ => n - (intOf iv).toNat)
  case atStart => exact ⟨0, by omega, rfl, Lib.hid rfl, Lib.hid (by unfold RowV; rw [HNL.out]; exact heap_alloc_new w _), belB⟩
  case round =>
    obtain ⟨k, hk, rfl, HK, HRC, hb⟩ := hrel
    have c2 : wr.cell? ⟨w.heap.size, 2, none⟩ = some (.slice x.T n x.ct) := RowV.cell HRC.out c2v
    clear c2v
    by_cases hlt : k < n
    · obtain ⟨u, hu⟩ : ∃ u, x.r.tags[k]? = some u := ⟨_, List.getElem?_eq_getElem (by have := HNL.out; omega)⟩
      obtain ⟨pb, po, hTA, hcell⟩ := (HT.out.keep hb).2 (by omega)
      rw [hTA] at c2 ⊢
      have hc1 : wr.cell? ⟨pb, po + k, none⟩ = some (.string u) := hcell k _ (by simp [hu])
      have hNu := HN.out u (by have := HTS.out u (List.mem_of_getElem? hu); omega)
      have hk0 : (0 : Int) ≤ (k : Int) := by omega
      have hk1 : (k : Int) < (n : Int) := by omega
      cases hnu : isNameB u
      · obtain rfl : V = false := by
          rw [HV.out, namesA_fail (k := k) (by have := HNL.out; omega) (by simp [okK, hu, hnu])]; rfl
        rw [hnu] at hNu
        have HNU := Lib.hid hNu
        clear HK hcell hu hNu hTA hnu
        go_wp2_with (go_at_call 86; refine (HNU.out _ belB).mono ?_; rintro e w2 ⟨rfl, hb2⟩)
        go_ret
        exact ⟨rfl, belB⟩
      · rw [hnu] at hNu
        have HNU := Lib.hid hNu
        rcases Nat.eq_zero_or_pos k with h0 | hpos
        · subst h0
          have HK2 : Hid ((List.range (0 + 1)).all (okK ltB isNameB x.r.tags) = true) := Lib.hid (okK_upto HK.out (by rw [okN_zero hu, hnu]))
          simp only [Nat.add_zero] at hc1
          clear HK hcell hu hNu hTA hnu
          go_wp2_with (go_at_call 86; refine (HNU.out _ belB).mono ?_; rintro e w2 ⟨rfl, hb2⟩)
          exact ⟨⟨1, by omega, rfl, HK2, Lib.hid (RowV.keep HRC.out belB), belB⟩, by simp [intOf]; omega⟩
        · obtain ⟨j, rfl⟩ : ∃ j, k = j + 1 := ⟨k - 1, by omega⟩
          obtain ⟨y, hy⟩ : ∃ y, x.r.tags[j]? = some y := ⟨_, List.getElem?_eq_getElem (by have := HNL.out; omega)⟩
          have hc2 : wr.cell? ⟨pb, po + j, none⟩ = some (.string y) := hcell j _ (by simp [hy])
          have hk2 : (0 : Int) ≤ (j : Int) := by omega
          have hk3 : (j : Int) < (n : Int) := by omega
          have hk4 : ((j : Int) + 1 - 1) = j := by omega
          have hle := le_prev2 u y
          have hat := okN_at hu hy
          rw [hnu, Bool.true_and] at hat
          cases ht : ltB y u
          · obtain rfl : V = false := by
              rw [HV.out, namesA_fail (k := j + 1) (by have := HNL.out; omega) (by rw [hat, ht])]; rfl
            rw [ht] at hle
            clear HK hcell hu hy hat ht hNu hTA hnu
            go_wp2_with (go_at_call 86; refine (HNU.out _ belB).mono ?_; rintro e w2 ⟨rfl, hb2⟩; have hc2' := cell_keep hb2 hc2; have c2' := cell_keep hb2 c2)
            go_ret
            exact ⟨rfl, belB⟩
          · have HK2 : Hid ((List.range (j + 1 + 1)).all (okK ltB isNameB x.r.tags) = true) := Lib.hid (okK_upto HK.out (by rw [hat, ht]))
            rw [ht] at hle
            clear HK hcell hu hy hat ht hNu hTA hnu
            go_wp2_with (go_at_call 86; refine (HNU.out _ belB).mono ?_; rintro e w2 ⟨rfl, hb2⟩; have hc2' := cell_keep hb2 hc2; have c2' := cell_keep hb2 c2)
            exact ⟨⟨j + 1 + 1, by omega, by go_num, HK2, Lib.hid (RowV.keep HRC.out hb2), belB⟩, by simp [intOf]; omega⟩
    · have hV2 : V = (isNameB x.r.name && (compileB x.r.pat).isSome && timesR x.r && validC x.r.allow && decide (x.r.vary.length ≤ 8) && decide (0 ≤ x.r.cost) && decide (x.r.cost ≤ 1073741824) && decide (x.r.prog.size ≤ 64)) := by
        have hall : namesA x.r.tags = true := by
          unfold namesA
          have := HK.out
          rw [show k = x.r.tags.length by have := HNL.out; omega] at this
          exact this
        rw [HV.out, hall, Bool.true_and]
      clear HK c2
      have y3 : wr.cell? ⟨w.heap.size, 3, none⟩ = some (.int .i64 x.r.fresh) := RowV.cell HRC.out rfl
      have y4 : wr.cell? ⟨w.heap.size, 4, none⟩ = some (.int .i64 x.r.stale) := RowV.cell HRC.out rfl
      have y5 : wr.cell? ⟨w.heap.size, 5, none⟩ = some (.int .i64 x.r.down) := RowV.cell HRC.out rfl
      have y6 : wr.cell? ⟨w.heap.size, 6, none⟩ = some (.int .i64 x.r.neg) := RowV.cell HRC.out rfl
      go_upto_region 8 with fail
      clear y3 y4 y5 y6
      obtain ⟨g4, hg4⟩ : ∃ g4, g4 = wr.heap.size := ⟨_, rfl⟩
      rw [← hg4]
      generalize hw1 : World.alloc _ _ = w1
      have hB1 : Box8 w g4 x w1 := by
        rw [← hw1, hg4]
        exact ⟨RowV.alloc HRC.out _, heap_alloc_new wr _, hb.alloc (by have := hb.size; omega) _⟩
      clear hw1 hg4 HRC hb
      obtain ⟨y0, y1, _, y3, y4, y5, y6, y7, y8, y9, y10, y11, y12, y13, y14, y15, y16, y17⟩ := box_facts hB1.1
      have hN1 := HN.out x.r.name (by omega) w1 hB1.2.2
      have HB1 := Lib.hid hB1
      unfold timesR at hV2
      generalize isNameB x.r.name = b1 at *
      generalize (compileB x.r.pat).isSome = b2 at *
      generalize validC x.r.allow = b3 at *
      have HN1 := Lib.hid hN1
      clear hN1 hB1
      cases b1
      obtain rfl : V = false := by rw [hV2]; simp
      rotate_left
      cases b2
      obtain rfl : V = false := by rw [hV2]; simp
      rotate_left
      by_cases t1 : 0 ≤ min (min (min x.r.fresh x.r.stale) x.r.down) x.r.neg
      rotate_left
      obtain rfl : V = false := by rw [hV2]; simp only [decide_eq_false t1]; simp
      have d1 : decide (0 ≤ min (min (min x.r.fresh x.r.stale) x.r.down) x.r.neg) = false := decide_eq_false t1
      rotate_right
      have d1 : decide (0 ≤ min (min (min x.r.fresh x.r.stale) x.r.down) x.r.neg) = true := decide_eq_true t1
      by_cases t2 : max (max (max x.r.fresh x.r.stale) x.r.down) x.r.neg ≤ 1099511627776
      rotate_left
      obtain rfl : V = false := by rw [hV2]; simp only [decide_eq_false t2]; simp
      have d2 : decide (max (max (max x.r.fresh x.r.stale) x.r.down) x.r.neg ≤ 1099511627776) = false := decide_eq_false t2
      rotate_right
      have d2 : decide (max (max (max x.r.fresh x.r.stale) x.r.down) x.r.neg ≤ 1099511627776) = true := decide_eq_true t2
      cases b3
      obtain rfl : V = false := by rw [hV2]; simp
      rotate_left
      by_cases t3 : x.r.vary.length ≤ 8
      rotate_left
      obtain rfl : V = false := by rw [hV2]; simp only [decide_eq_false t3]; simp
      have d3 : decide ((x.r.vary.length : Int) ≤ 8) = false := decide_eq_false (by omega)
      rotate_right
      have d3 : decide ((x.r.vary.length : Int) ≤ 8) = true := decide_eq_true (by omega)
      by_cases t4 : 0 ≤ x.r.cost
      rotate_left
      obtain rfl : V = false := by rw [hV2]; simp only [decide_eq_false t4]; simp
      have d4 : decide (0 ≤ x.r.cost) = false := decide_eq_false t4
      rotate_right
      have d4 : decide (0 ≤ x.r.cost) = true := decide_eq_true t4
      by_cases t5 : x.r.cost ≤ 1073741824
      rotate_left
      obtain rfl : V = false := by rw [hV2]; simp only [decide_eq_false t5]; simp
      have d5 : decide (x.r.cost ≤ 1073741824) = false := decide_eq_false t5
      rotate_right
      have d5 : decide (x.r.cost ≤ 1073741824) = true := decide_eq_true t5
      by_cases t6 : x.r.prog.size ≤ 64
      obtain rfl : V = true := by rw [hV2, d1, d2, decide_eq_true t3, d4, d5, decide_eq_true t6]; rfl
      have d6 : decide ((x.r.prog.size : Int) ≤ 64) = true := decide_eq_true (by omega)
      rotate_left
      obtain rfl : V = false := by rw [hV2]; simp only [decide_eq_false t6]; simp
      have d6 : decide ((x.r.prog.size : Int) ≤ 64) = false := decide_eq_false (by omega)
      all_goals
        clear hV2
        (go_wp2_with (first | (go_at_call 86; refine (HN1.out).mono ?_; rintro e w2 ⟨rfl, hb2⟩; have hB2 := HB1.out.keep hb2; obtain ⟨y0, y1, _, y3, y4, y5, y6, y7, y8, y9, y10, y11, y12, y13, y14, y15, y16, y17⟩ := box_facts hB2.1) | (go_at_call 33; refine (HP.out w2 hB2.2.2).mono ?_; rintro e w3 ⟨rfl, hb3⟩; have hB3 := hB2.keep hb3; obtain ⟨y0, y1, _, y3, y4, y5, y6, y7, y8, y9, y10, y11, y12, y13, y14, y15, y16, y17⟩ := box_facts hB3.1) | (go_at_call 109; refine (Tryz.slices_Min_int g4 0 4 4 [x.r.fresh, x.r.stale, x.r.down, x.r.neg] w3 (by omega) (by simp) (by omega) (four_reads w3 g4 _ _ _ _ hB3.2.1)).mono ?_; rintro e w' ⟨rfl, hww⟩; rw [hww, List.take_of_length_le (by simp), min4]; clear hww w') | (go_at_call 110; refine (Tryz.slices_Max_int g4 0 4 4 [x.r.fresh, x.r.stale, x.r.down, x.r.neg] w3 (by omega) (by simp) (by omega) (four_reads w3 g4 _ _ _ _ hB3.2.1)).mono ?_; rintro e w' ⟨rfl, hww⟩; rw [hww, List.take_of_length_le (by simp), max4]; clear hww w') | (go_at_call 83; refine (HC.out w3 hB3.2.2).mono ?_; rintro e w4 ⟨rfl, hb4⟩; have hB4 := hB3.keep hb4; obtain ⟨y0, y1, _, y3, y4, y5, y6, y7, y8, y9, y10, y11, y12, y13, y14, y15, y16, y17⟩ := box_facts hB4.1)); go_ret; exact ⟨rfl, by first | exact hB4.2.2 | exact hB3.2.2 | exact hB2.2.2⟩)
end Go.Proofs.YtmlhecjhjjlhfaaGreatDoor
namespace Go.Proofs.YtmlhecjhjjlhfaaGreatDoor
open Go.RowKit Go.Sort
set_option linter.unusedVariables false
set_option linter.unusedSimpArgs false
set_option maxRecDepth 100000
def wL (k : Nat) : List UInt8 := 119 :: Lib.decDigits k
def wN (k : Nat) : ByteArray := ⟨(wL k).toArray⟩
theorem wN_data (k : Nat) : (wN k).data.toList = wL k := by unfold wN; simp
theorem wL_inj {i j : Nat} (h : wL i = wL j) : i = j := by
  unfold wL at h
  injection h with _ h
  have h1 := dec_zero i
  rw [h, dec_zero j] at h1
  injection h1 with h1
  exact h1.symm
theorem wL_letters (k : Nat) : ∀ b ∈ wL k, letterB b = true ∧ b ≠ 46 := by
  intro b hb
  rcases List.mem_cons.1 hb with rfl | hb
  · decide
  · have := dec_digit k b hb
    refine ⟨?_, fun e => ?_⟩
    · unfold letterB isLetN
      simp only [decide_eq_true_eq]
      omega
    · subst e
      have h1 : (46 : UInt8).toNat = 46 := rfl
      omega
theorem wL_len (k : Nat) (h : k ≤ 1000000) : (wL k).length ≤ 14 := by
  have := (dec_len k (by omega)).1
  unfold wL; simp; omega
def wE (k : Nat) (e : ByteArray) : ByteArray := wN k ++ e
theorem append_data (a b : ByteArray) : (a ++ b).data.toList = a.data.toList ++ b.data.toList := by simp
theorem wE_data (k : Nat) (e : ByteArray) : (wE k e).data.toList = wL k ++ e.data.toList := by unfold wE; rw [append_data, wN_data]
theorem wE_word {p : Part} (hp : PartFit p) (hk : p.kind ≠ 0) (k : Nat) (h : k ≤ 1000000) : isWordB (wE k p.text) = true := by
  rw [isWord_iff, wE_data]
  have hl := wL_len k h
  have he : p.text.data.toList.length ≤ 33 ∧ ∀ b ∈ p.text.data.toList, letterB b = true := by
    rcases hp with ⟨h1, _⟩ | ⟨_, s, h2, h3, h4⟩ | ⟨_, h2⟩
    · exact absurd h1 hk
    · rw [h4]
      refine ⟨by rw [List.length_cons, ← size_data]; omega, fun b hb => ?_⟩
      rcases List.mem_cons.1 hb with rfl | hb
      · decide
      · exact word_letters h2 b hb
    · rw [h2]; exact ⟨by decide, fun b hb => by simp at hb⟩
  refine ⟨by simp [wL], by simp [wL], by simp [wL], ?_, ?_⟩
  · rw [size_data, wE_data, List.length_append]; omega
  · intro b hb
    rcases List.mem_append.1 hb with hb | hb
    · exact (wL_letters k b hb).1
    · exact he.2 b hb
theorem wN_name (k : Nat) (h : k ≤ 1000000) : isNameB (wN k) = true := by
  rw [isName_iff, isWord_iff, wN_data]
  have hl := wL_len k h
  refine ⟨⟨by simp [wL], by simp [wL], by simp [wL], by rw [size_data, wN_data]; omega, fun b hb => (wL_letters k b hb).1⟩, fun hb => (wL_letters k _ hb).2 rfl⟩
theorem len_of_sub {α : Type} (l named : List α) (hn : l.Nodup) (hs : ∀ x ∈ l, x ∈ named) : l.length ≤ named.length := by
  classical
  induction l generalizing named with
  | nil => simp
  | cons x l ih =>
    have hx := hs x (by simp)
    have h1 := List.length_erase_of_mem hx
    have hpos := List.length_pos_of_mem hx
    have h2 := ih (named.erase x) (List.nodup_cons.1 hn).2 (fun y hy => (List.mem_erase_of_ne (fun e => (List.nodup_cons.1 hn).1 (by rw [← e]; exact hy))).2 (hs y (by simp [hy])))
    rw [List.length_cons]; omega
theorem map_nodup {α β : Type} (f : α → β) (hf : ∀ a b, f a = f b → a = b) : ∀ l : List α, l.Nodup → (l.map f).Nodup
  | [], _ => by simp
  | x :: l, h => by
    rw [List.map_cons, List.nodup_cons]
    refine ⟨fun hx => ?_, map_nodup f hf l (List.nodup_cons.1 h).2⟩
    obtain ⟨y, hy, e⟩ := List.mem_map.1 hx
    rw [hf y x e] at hy
    exact (List.nodup_cons.1 h).1 hy
theorem few_passed (named : List ByteArray) (e : ByteArray) (a n : Nat) (h : ∀ j, a ≤ j → j < n → wN j ∈ named ∨ wE j e ∈ named) : n - a ≤ 2 * named.length := by
  classical
  have nd : (List.range' a (n - a)).Nodup := List.nodup_range'
  have mem : ∀ j ∈ List.range' a (n - a), wN j ∈ named ∨ wE j e ∈ named := fun j hj => by
    rw [List.mem_range'_1] at hj
    exact h j hj.1 (by omega)
  have key : ∀ l : List Nat, l.Nodup → (∀ j ∈ l, wN j ∈ named ∨ wE j e ∈ named) → l.length ≤ named.length + named.length := by
    intro l hl hm
    have h1 := len_of_sub ((l.filter fun j => decide (wN j ∈ named)).map wN) named (map_nodup wN (fun i j e => wL_inj (by rw [← wN_data, ← wN_data, e])) _ (hl.filter _)) (fun x hx => by
      obtain ⟨j, hj, rfl⟩ := List.mem_map.1 hx
      simpa using (List.mem_filter.1 hj).2)
    have h2 := len_of_sub ((l.filter fun j => !decide (wN j ∈ named)).map fun j => wE j e) named (map_nodup _ (fun i j e' => wL_inj (by
      have h3 : (wE i e).data.toList = (wE j e).data.toList := by rw [e']
      rw [wE_data, wE_data] at h3
      exact List.append_cancel_right h3)) _ (hl.filter _)) (fun x hx => by
      obtain ⟨j, hj, rfl⟩ := List.mem_map.1 hx
      have h3 := List.mem_filter.1 hj
      exact (hm j h3.1).resolve_left (by simpa using h3.2))
    rw [List.length_map] at h1 h2
    have h3 : l.length = (l.filter fun j => decide (wN j ∈ named)).length + (l.filter fun j => !decide (wN j ∈ named)).length := by
      induction l with
      | nil => rfl
      | cons x l ih =>
        rw [List.filter_cons, List.filter_cons]
        cases hx : decide (wN x ∈ named)
        · simp only [Bool.false_eq_true, if_false, Bool.not_false, if_true, List.length_cons]
          have := ih (List.nodup_cons.1 hl).2 (fun j hj => hm j (by simp [hj])) (by rw [List.filter_cons, hx] at h1; simpa using h1) (by rw [List.filter_cons, hx] at h2; simp at h2; omega)
          omega
        · simp only [if_true, Bool.not_true, Bool.false_eq_true, if_false, List.length_cons]
          have := ih (List.nodup_cons.1 hl).2 (fun j hj => hm j (by simp [hj])) (by rw [List.filter_cons, hx] at h1; simp at h1; omega) (by rw [List.filter_cons, hx] at h2; simpa using h2)
          omega
    omega
  have := key _ nd mem
  rw [List.length_range'] at this
  omega
theorem fresh_found {qs : List Part} {named : List ByteArray} (hq : ∀ q ∈ qs, q.kind = 0 → q.text ∈ named) {p : Part} (hk : p.kind ≠ 0) {k : Nat} (h : wE k p.text ∉ named) : FreshAt qs p (wE k p.text) :=
  .inr ⟨hk, fun q hm hz e => h (by rw [← e]; exact hq q hm hz), wL k, by simp [wL], fun hb => (wL_letters k _ hb).2 rfl, wE_data k p.text⟩
end Go.Proofs.YtmlhecjhjjlhfaaGreatDoor
namespace Go.Proofs.YtmlhecjhjjlhfaaGreatDoor
open Go.RowKit Go.Sort
set_option linter.unusedVariables false
set_option linter.unusedSimpArgs false
set_option maxRecDepth 100000
theorem CBox.s0 {w : World} {g : Nat} {fr till us : Int} {pat : ByteArray} {A B S : Option Addr} {na ca nb cb ns cs : Nat} (h : CBox w g fr till pat A na ca B nb cb S ns cs us) (fr' : Int) : CBox (w.setCell ⟨g, 0, none⟩ (.int .i64 fr')) g fr' till pat A na ca B nb cb S ns cs us := Blk.set_ h 0 (.int .i64 fr')
theorem CBox.s1 {w : World} {g : Nat} {fr till us : Int} {pat : ByteArray} {A B S : Option Addr} {na ca nb cb ns cs : Nat} (h : CBox w g fr till pat A na ca B nb cb S ns cs us) (till' : Int) : CBox (w.setCell ⟨g, 1, none⟩ (.int .i64 till')) g fr till' pat A na ca B nb cb S ns cs us := Blk.set_ h 1 (.int .i64 till')
theorem CBox.s2 {w : World} {g : Nat} {fr till us : Int} {pat : ByteArray} {A B S : Option Addr} {na ca nb cb ns cs : Nat} (h : CBox w g fr till pat A na ca B nb cb S ns cs us) (pat' : ByteArray) : CBox (w.setCell ⟨g, 2, none⟩ (.string pat')) g fr till pat' A na ca B nb cb S ns cs us := Blk.set_ h 2 (.string pat')
theorem CBox.s3 {w : World} {g : Nat} {fr till us : Int} {pat : ByteArray} {A B S : Option Addr} {na ca nb cb ns cs : Nat} (h : CBox w g fr till pat A na ca B nb cb S ns cs us) (A' : Option Addr) (na' ca' : Nat) : CBox (w.setCell ⟨g, 3, none⟩ (.slice A' na' ca')) g fr till pat A' na' ca' B nb cb S ns cs us := Blk.set_ h 3 (.slice A' na' ca')
theorem CBox.s4 {w : World} {g : Nat} {fr till us : Int} {pat : ByteArray} {A B S : Option Addr} {na ca nb cb ns cs : Nat} (h : CBox w g fr till pat A na ca B nb cb S ns cs us) (B' : Option Addr) (nb' cb' : Nat) : CBox (w.setCell ⟨g, 4, none⟩ (.slice B' nb' cb')) g fr till pat A na ca B' nb' cb' S ns cs us := Blk.set_ h 4 (.slice B' nb' cb')
theorem CBox.s5 {w : World} {g : Nat} {fr till us : Int} {pat : ByteArray} {A B S : Option Addr} {na ca nb cb ns cs : Nat} (h : CBox w g fr till pat A na ca B nb cb S ns cs us) (S' : Option Addr) (ns' cs' : Nat) : CBox (w.setCell ⟨g, 5, none⟩ (.slice S' ns' cs')) g fr till pat A na ca B nb cb S' ns' cs' us := Blk.set_ h 5 (.slice S' ns' cs')
theorem CBox.s6 {w : World} {g : Nat} {fr till us : Int} {pat : ByteArray} {A B S : Option Addr} {na ca nb cb ns cs : Nat} (h : CBox w g fr till pat A na ca B nb cb S ns cs us) (us' : Int) : CBox (w.setCell ⟨g, 6, none⟩ (.int .i64 us')) g fr till pat A na ca B nb cb S ns cs us' := Blk.set_ h 6 (.int .i64 us')
theorem CBox.put {w : World} {g : Nat} {fr till us : Int} {pat : ByteArray} {A B S : Option Addr} {na ca nb cb ns cs : Nat} (h : CBox w g fr till pat A na ca B nb cb S ns cs us) (fr' till' : Int) (pat' : ByteArray) (A' : Option Addr) (na' ca' : Nat) (B' : Option Addr) (nb' cb' : Nat) (S' : Option Addr) (ns' cs' : Nat) (us' : Int) :
    CBox (((((((w.setCell ⟨g, 0, none⟩ (.int .i64 fr')).setCell ⟨g, 1, none⟩ (.int .i64 till')).setCell ⟨g, 2, none⟩ (.string pat')).setCell ⟨g, 3, none⟩ (.slice A' na' ca')).setCell ⟨g, 4, none⟩ (.slice B' nb' cb')).setCell ⟨g, 5, none⟩ (.slice S' ns' cs')).setCell ⟨g, 6, none⟩ (.int .i64 us')) g fr' till' pat' A' na' ca' B' nb' cb' S' ns' cs' us' :=
  ((((((h.s0 fr').s1 till').s2 pat').s3 A' na' ca').s4 B' nb' cb').s5 S' ns' cs').s6 us'
end Go.Proofs.YtmlhecjhjjlhfaaGreatDoor
