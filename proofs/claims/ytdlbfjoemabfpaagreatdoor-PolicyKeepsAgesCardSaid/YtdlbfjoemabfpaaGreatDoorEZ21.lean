/- What the specification's Valid, Match and Under return. -/
import Derived.Test.YtdlbfjoemabfpaaGreatDoorEZ17
import Derived.Test.YtdlbfjoemabfpaaGreatDoorEZ20
import Derived.Test.YtdlbfjoemabfpaaGreatDoorEZ11
import Derived.Test.YtdlbfjoemabfpaaGreatDoorProg
import Derived.WalkKit
import Derived.WalkSpells
import Derived.WalkLawsBesides
import Derived.Below
import Derived.Deep.QuietTactic
import Derived.BigQuiet
import Derived.Lib.QuietBelow
import Derived.Lib.Strings
import Derived.Lib.Hide
import Derived.Deep.RegionWith
import Derived.Deep.RegionHeld3
import Derived.Lib.IndexBytes
import Derived.Test.YtdlbfjoemabfpaaGreatDoorEZ9
import Derived.Test.YtdlbfjoemabfpaaGreatDoorEZ15
import Derived.Test.YtdlbfjoemabfpaaGreatDoorEZ14
namespace Go.Proofs.YtdlbfjoemabfpaaGreatDoor
open Go.RowKit Go.Sort
set_option linter.unusedVariables false
set_option linter.unusedSimpArgs false
set_option maxRecDepth 100000
theorem RCompPost.any_ {r : Option Pat} {w w' : World} {e : Ending} (h : RCompPost r w e w') : Below w.heap.size w w' ∧ ∃ (c : ByteArray) (A : Option Addr) (n k : Nat) (t : Bool), e = .returned (.tuple #[.agg #[.string c, .slice A n k, .bool t], .bool r.isSome]) := by
  obtain ⟨hb, h⟩ := h
  cases r with
  | none => exact ⟨hb, _, none, 0, 0, _, h⟩
  | some x => obtain ⟨A, c, h, _⟩ := h; exact ⟨hb, _, A, _, c, _, h⟩
set_option maxHeartbeats 1000000 in
theorem rValid_any (s : ByteArray) (w : World) (hs : s.size ≤ 100000) : Calls Tryz.prog 51 #[.string s] w (Ret w (.bool (compileB s).isSome)) := by
  have cC := fun W => (rCompile_any s W hs).mono (fun e w' h => h.any_)
  generalize (compileB s).isSome = b at *
  have HC := Lib.hid cC
  clear cC
  go_enter Tryz.func51, Tryz.ntmps51
  go_wp2_with (go_at_call 92; refine (HC.out _).mono ?_; rintro e w1 ⟨hb1, c, A, n, k, t, rfl⟩)
  go_ret
  exact ⟨rfl, belB⟩
theorem run_fieldR (c : ByteArray) (A B : Option Addr) (na ca nb cb : Nat) (e : Value) (w : World) : (Instr.field 154 (.agg #[.string c, .slice A na ca, .slice B nb cb, e]) 0).run Tryz.prog w = .ok (.agg #[.string c, .slice A na ca, .slice B nb cb]) w := by
  first | kernel_rfl | rfl | simp [Instr.field, part, go_sem, Tryz.underlying154]
theorem strL_at (ps : List Part) (k : Nat) (p : Part) (h : ps[k]? = some p) : (strL ps)[k]? = some (strP p) := by
  unfold strL
  rw [List.getElem?_map, h]; rfl
theorem matchesL_at : ∀ (ps : List Part) (ws : List ByteArray), ps.length ≤ ws.length → (matchesL ps ws = true ↔ ∀ (k : Nat) (p : Part) (x : ByteArray), ps[k]? = some p → ws[k]? = some x → hasP p.kind p.text x = true)
  | [], ws, _ => by simp [matchesL]
  | p :: ps, [], h => by simp at h
  | p :: ps, x :: ws, h => by
    have ih := matchesL_at ps ws (by simpa using h)
    rw [matchesL, Bool.and_eq_true, ih]
    constructor
    · rintro ⟨h1, h2⟩ k q y hq hy
      cases k with
      | zero => simp at hq hy; rw [← hq, ← hy]; exact h1
      | succ k => exact h2 k q y (by simpa using hq) (by simpa using hy)
    · intro h3
      exact ⟨h3 0 p x rfl rfl, fun k q y hq hy => h3 (k + 1) q y (by simpa using hq) (by simpa using hy)⟩
theorem cust_has {p : Part} (hp : CustFit p) (a : ByteArray) : hasP p.kind p.text a = ((strP p).toList == [42] || (strP p).toList == a.toList) := by
  rcases hp with ⟨hk, ht⟩ | ⟨hk, ht⟩
  · rw [str0 hk, hk]
    have h42 : (p.text.toList == [42]) = false := by
      rw [Lib.toList_data, beq_eq_false_iff_ne]; exact word_star (name_word ht) []
    rw [h42, Bool.false_or]
    unfold hasP
    rw [if_pos rfl]
  · have e := str_star (p := p) (by omega)
    rw [hk, ht, has2, Lib.toList_data, e, ht]
    rfl
set_option maxHeartbeats 4000000 in
theorem rMatch_any (p q : ByteArray) (w : World) (hp : p.size ≤ 100000) (hq : q.size ≤ 100000) : Calls Tryz.prog 69 #[.string p, .string q] w (Ret w (.bool (matchB p q))) := by
  have cC := fun W => rCompile_any p W hp
  have cD := fun W => rCanon_any q W (by omega)
  have cP := fun W => rParse_any q W (by omega)
  unfold matchB
  cases hx : compileB p with
  | none =>
    rw [hx] at cC
    have HC := Lib.hid cC
    clear cC cD cP hx
    go_enter Tryz.func69, Tryz.ntmps69
    go_wp2_with (go_at_call 92; refine (HC.out _).mono ?_; rintro e w1 ⟨hb1, rfl⟩)
    go_ret
    exact ⟨rfl, belB⟩
  | some x =>
    have hfit := compile_fit hx
    have hgood := compile_good p hp x hx
    have hm32 := hgood.num
    rw [hx] at cC
    obtain ⟨V, hV⟩ : ∃ V, V = (readB q && matchP x (parseB q).1) := ⟨_, rfl⟩
    show Calls Tryz.prog 69 #[.string p, .string q] w (Ret w (.bool (readB q && matchP x (parseB q).1)))
    rw [← hV]
    obtain ⟨m, hm⟩ : ∃ m, m = x.parts.length := ⟨_, rfl⟩
    obtain ⟨cu, hcu⟩ : ∃ cu, cu = strP x.cust := ⟨_, rfl⟩
    obtain ⟨tl, htl⟩ : ∃ tl, tl = x.tail := ⟨_, rfl⟩
    have HC : Hid (∀ W, Calls Tryz.prog 92 #[.string p] W (fun e w' => Below W.heap.size W w' ∧ ∃ A c, e = .returned (.tuple #[.agg #[.string cu, .slice A m c, .bool tl], .bool true]) ∧ Reads w' 1 A m ((strL x.parts).map .string))) := Lib.hid (by rw [hm, hcu, htl]; exact cC)
    have hPS : ∀ y ∈ x.parts, PartFit y ∧ (strP y).size ≤ 200000 := fun y hy => ⟨hfit.parts y hy, by have := stringP_size y.kind y.text; have := (hgood.parts y hy).2; unfold strP; omega⟩
    have HPS := Lib.hid hPS
    have HM := Lib.hid hm
    cases hrd : readB q
    · rw [hrd] at cD hV
      obtain rfl : V = false := hV
      have HD := Lib.hid cD
      clear cC cD cP hx hfit hgood hrd hPS hm hcu htl
      go_enter Tryz.func69, Tryz.ntmps69
      go_wp2_with (first | (go_at_call 92; refine (HC.out _).mono ?_; rintro e w1 ⟨hb1, A, c, rfl, hR⟩; have HR := Lib.hid hR; clear hR) | (go_at_call 117; refine (HD.out _).mono ?_; rintro e w2 ⟨rfl, hb2⟩; have hX2 : PatBox w2 w1.heap.size cu (.slice A m c) _ := (hb2.block w1.heap.size (by simp)).trans (World.alloc_heap_new _ _)))
      go_ret
      exact ⟨rfl, belB⟩
    · rw [hrd] at cD hV
      rw [Bool.true_and] at hV
      have herr : (parseB q).2 = 0 := by
        unfold readB at hrd
        simp only [Bool.and_eq_true, decide_eq_true_eq] at hrd
        exact hrd.1
      have hpg := parse_good q herr
      have hcn : (parseB q).1.cust.size ≤ 64 := size_of_name hpg.name
      have hwd := hpg.words
      have hn32 := hpg.parts
      generalize parseB q = r at *
      obtain ⟨⟨ac, ap, aq⟩, er⟩ := r
      dsimp only at herr hcn hwd hn32 hV
      subst herr
      obtain ⟨n, hn⟩ : ∃ n, n = ap.length := ⟨_, rfl⟩
      have HP : Hid (∀ W, Calls Tryz.prog 118 #[.string q] W (fun e w' => Below W.heap.size W w' ∧ ∃ A ca B cb, e = .returned (.agg #[.string ac, .slice A n ca, .slice B aq.length cb, .int .i64 0]) ∧ Reads w' 1 A n (ap.map .string) ∧ Reads w' 2 B aq.length (pairCells aq))) := Lib.hid (by rw [hn]; exact cP)
      have hh := cust_has hfit.cust ac
      rw [← hcu] at hh
      have hV2 : V = ((cu.toList == [42] || cu.toList == ac.toList) && !decide (n < m) && !(decide (m < n) && !tl) && matchesL x.parts ap) := by
        rw [hV, hn, hm, htl, ← hh]; rfl
      have HV := Lib.hid hV2
      have HD := Lib.hid cD
      have HWD := Lib.hid hwd
      have HN := Lib.hid hn
      rw [← hn] at hn32
      rw [← hm] at hm32
      clear cC cD cP hx hfit hgood hrd hPS hm hcu htl hpg hV hV2 hh hwd hn
      have rest : V = (!decide (n < m) && !(decide (m < n) && !tl) && matchesL x.parts ap) → (((cu.toList == [42]) = true ∧ cu.toList = [42]) ∨ ((cu.toList == [42]) = false ∧ ¬ cu.toList = [42] ∧ (cu.toList == ac.toList) = true ∧ cu.toList = ac.toList)) → Calls Tryz.prog 69 #[.string p, .string q] w (Ret w (.bool V)) := by
        intro hv3 hB
        clear HV
        by_cases h1 : n < m
        · obtain rfl : V = false := by rw [hv3, decide_eq_true h1]; rfl
          have d1 : decide ((n : Int) < (m : Int)) = true := decide_eq_true (by omega)
          have d1' : decide (n < m) = true := decide_eq_true h1
          clear hv3 h1
          rcases hB with ⟨t1, t1'⟩ | ⟨t1, t1', t2, t2'⟩
          all_goals
            go_enter Tryz.func69, Tryz.ntmps69
            go_wp2_with (first | (go_at_call 92; refine (HC.out _).mono ?_; rintro e w1 ⟨hb1, A, c, rfl, hR⟩; have HR := Lib.hid hR; clear hR) | (go_at_call 117; refine (HD.out _).mono ?_; rintro e w2 ⟨rfl, hb2⟩; have hX2 : PatBox w2 w1.heap.size cu (.slice A m c) _ := (hb2.block w1.heap.size (by simp)).trans (World.alloc_heap_new _ _)) | (go_at_call 118; refine (HP.out _).mono ?_; rintro e w3 ⟨hb3, B, cb, D, cd, rfl, hB, hD⟩; have HB := Lib.hid hB; clear hB hD; have hX3 : PatBox w3 w1.heap.size cu (.slice A m c) _ := Blk.keep hX2 hb3; obtain ⟨x0, x1, x2, _⟩ := hX3.facts; have hz3 : w1.heap.size < w3.heap.size := Blk.lt hX3))
            all_goals (rw [run_fieldR]; go_wp2)
            all_goals (go_ret; exact ⟨rfl, belB⟩)
        have d1 : decide ((n : Int) < (m : Int)) = false := decide_eq_false (by omega)
        have d1' : decide (n < m) = false := decide_eq_false h1
        by_cases h2 : m < n ∧ tl = false
        · obtain ⟨h2, rfl⟩ := h2
          obtain rfl : V = false := by rw [hv3, decide_eq_true h2]; simp
          have d2 : decide ((m : Int) < (n : Int)) = true := decide_eq_true (by omega)
          have d2' : decide (m < n) = true := decide_eq_true h2
          clear hv3
          rcases hB with ⟨t1, t1'⟩ | ⟨t1, t1', t2, t2'⟩
          all_goals
            go_enter Tryz.func69, Tryz.ntmps69
            go_wp2_with (first | (go_at_call 92; refine (HC.out _).mono ?_; rintro e w1 ⟨hb1, A, c, rfl, hR⟩; have HR := Lib.hid hR; clear hR) | (go_at_call 117; refine (HD.out _).mono ?_; rintro e w2 ⟨rfl, hb2⟩; have hX2 : PatBox w2 w1.heap.size cu (.slice A m c) _ := (hb2.block w1.heap.size (by simp)).trans (World.alloc_heap_new _ _)) | (go_at_call 118; refine (HP.out _).mono ?_; rintro e w3 ⟨hb3, B, cb, D, cd, rfl, hB, hD⟩; have HB := Lib.hid hB; clear hB hD; have hX3 : PatBox w3 w1.heap.size cu (.slice A m c) _ := Blk.keep hX2 hb3; obtain ⟨x0, x1, x2, _⟩ := hX3.facts; have hz3 : w1.heap.size < w3.heap.size := Blk.lt hX3))
            all_goals (rw [run_fieldR]; go_wp2)
            all_goals (go_ret; exact ⟨rfl, belB⟩)
        have hv4 : V = matchesL x.parts ap := by
          rw [hv3, d1', Bool.not_false, Bool.true_and]
          have : (!(decide (m < n) && !tl)) = true := by
            cases tl
            · by_cases h3 : m < n
              · exact absurd ⟨h3, rfl⟩ h2
              · rw [decide_eq_false h3]; rfl
            · simp
          rw [this, Bool.true_and]
        have hD : (decide ((m : Int) < (n : Int)) = false ∧ decide (m < n) = false) ∨ (decide ((m : Int) < (n : Int)) = true ∧ decide (m < n) = true ∧ tl = true) := by
          by_cases h3 : m < n
          · right
            refine ⟨decide_eq_true (by omega), decide_eq_true h3, ?_⟩
            cases tl
            · exact absurd ⟨h3, rfl⟩ h2
            · rfl
          · left; exact ⟨decide_eq_false (by omega), decide_eq_false h3⟩
        have HV4 := Lib.hid hv4
        have hnm : m ≤ n := by omega
        clear hv3 hv4 h2 h1
        rcases hB with ⟨t1, t1'⟩ | ⟨t1, t1', t2, t2'⟩ <;> rcases hD with ⟨d2, d2'⟩ | ⟨d2, d2', rfl⟩
        all_goals
          go_enter Tryz.func69, Tryz.ntmps69
          go_wp2_with (first | (go_at_call 92; refine (HC.out _).mono ?_; rintro e w1 ⟨hb1, A, c, rfl, hR⟩; have HR := Lib.hid hR; clear hR) | (go_at_call 117; refine (HD.out _).mono ?_; rintro e w2 ⟨rfl, hb2⟩; have hX2 : PatBox w2 w1.heap.size cu (.slice A m c) _ := (hb2.block w1.heap.size (by simp)).trans (World.alloc_heap_new _ _)) | (go_at_call 118; refine (HP.out _).mono ?_; rintro e w3 ⟨hb3, B, cb, D, cd, rfl, hB, hD⟩; have HB := Lib.hid hB; clear hB hD; have hX3 : PatBox w3 w1.heap.size cu (.slice A m c) _ := Blk.keep hX2 hb3; obtain ⟨x0, x1, x2, _⟩ := hX3.facts; have hz3 : w1.heap.size < w3.heap.size := Blk.lt hX3))
        all_goals (rw [run_fieldR]; go_wp2)
        all_goals
          have hA0 : Boxed3 (w3.alloc (.cells #[.string ac, .slice B n cb, .slice D aq.length cd] 148)) w3.heap.size ac B n cb D aq.length cd := World.alloc_heap_new _ _
          have hX4 : PatBox (w3.alloc (.cells #[.string ac, .slice B n cb, .slice D aq.length cd] 148)) w1.heap.size cu (.slice A m c) _ := (Below.heap_alloc _ _ _ hz3).trans hX3
          have hb4 : Below w.heap.size w (w3.alloc (.cells #[.string ac, .slice B n cb, .slice D aq.length cd] 148)) := belB
          have hb5 : Below w1.heap.size w1 (w3.alloc (.cells #[.string ac, .slice B n cb, .slice D aq.length cd] 148)) := belB
          have hb6 : Below w3.heap.size w3 (w3.alloc (.cells #[.string ac, .slice B n cb, .slice D aq.length cd] 148)) := belB
          clear x0 x1 x2
          go_loopw [8] (fun vi wr => ∃ k : Nat, vi = .int .i64 k ∧ k ≤ m ∧ Hid (∀ j, j < k → ∀ y z, x.parts[j]? = some y → ap[j]? = some z → hasP y.kind y.text z = true) ∧ (∃ t, PatBox wr w1.heap.size cu (.slice A m c) t) ∧ Boxed3 wr w3.heap.size ac B n cb D aq.length cd ∧ Below w.heap.size w wr ∧ Below w1.heap.size w1 wr ∧ Below w3.heap.size w3 wr) (fun vi _ => m - (intOf vi).toNat)
          case atStart => exact ⟨0, rfl, Nat.zero_le _, Lib.hid (fun j h => absurd h (by omega)), ⟨_, hX4⟩, hA0, hb4, hb5, hb6⟩
          case round =>
            clear hX4 hA0 hb4 hb5 hb6
            obtain ⟨k, rfl, hk, HK, ⟨t0, hX⟩, hA, hbr, hbr1, hbr3⟩ := hrel
            obtain ⟨x0, x1, x2, _⟩ := hX.facts
            have a1 : wr.cell? ⟨w3.heap.size, 1, none⟩ = some (.slice B n cb) := Blk.cell hA 1
            by_cases hlt : k < m
            · obtain ⟨y, hy⟩ : ∃ y, x.parts[k]? = some y := ⟨_, List.getElem?_eq_getElem (by have := HM.out; omega)⟩
              obtain ⟨z, hz⟩ : ∃ z, ap[k]? = some z := ⟨_, List.getElem?_eq_getElem (by have := HN.out; omega)⟩
              obtain ⟨b, o, rfl, hcell⟩ := (HR.out.keep hbr1).2 (by omega)
              obtain ⟨b2, o2, rfl, hcell2⟩ := (HB.out.keep hbr3).2 (by omega)
              have hc1 : wr.cell? ⟨b, o + k, none⟩ = some (.string (strP y)) := hcell k _ (by rw [List.getElem?_map, strL_at _ _ _ hy]; rfl)
              have hc2 : wr.cell? ⟨b2, o2 + k, none⟩ = some (.string z) := hcell2 k _ (by simp [hz])
              obtain ⟨hyf, hys⟩ := HPS.out y (List.mem_of_getElem? hy)
              have hzw := HWD.out z (List.mem_of_getElem? hz)
              have cM := fun W => rMatches_any (strP y) z W (by omega) (by have := size_of_word hzw; omega)
              rw [mtch_has hyf hzw] at cM
              have hk0 : (0 : Int) ≤ (k : Int) := by omega
              have hk1 : (k : Int) < (m : Int) := by omega
              have hk2 : (k : Int) < (n : Int) := by omega
              have HY := Lib.hid (show x.parts[k]? = some y ∧ ap[k]? = some z from ⟨hy, hz⟩)
              generalize strP y = sy at *
              clear hcell hcell2 hy hz hyf hzw
              cases hh : hasP y.kind y.text z
              · have hv : V = false := by
                  rw [HV4.out]
                  cases hml : matchesL x.parts ap
                  · rfl
                  · have := (matchesL_at x.parts ap (by have := HM.out; have := HN.out; omega)).1 hml k y z HY.out.1 HY.out.2
                    rw [hh] at this; cases this
                subst hv
                rw [hh] at cM
                have HMM := Lib.hid cM
                clear cM hh
                go_wp2_with fail
                have k1 := cell_regrown hc1; have k2 := cell_regrown hc2; have k3 := cell_regrown x1; have k4 := cell_regrown a1
                refine wp_region_quiet_below (by kernel_rfl) (by kernel_rfl) ?_; (repeat (any_goals (first | go_big_quiet_step ((first | exact qcalls HMM.out _ _)) | quiet_step ((first | exact qcalls HMM.out _ _))))); refine wpQuiet_nil ?_; intro _ hwq; obtain ⟨⟨dq, osq⟩, hwq⟩ := hwq; subst hwq; have hb9 := below_regrown (wr) dq osq; generalize grow (redrawn (wr) dq) osq = w9 at *
                go_wp2
                go_ret
                exact ⟨rfl, belB⟩
              · have HK2 : Hid (∀ j, j < k + 1 → ∀ y z, x.parts[j]? = some y → ap[j]? = some z → hasP y.kind y.text z = true) := Lib.hid (fun j hj y' z' h1 h2 => by
                  by_cases e : j = k
                  · subst e
                    have e1 := HY.out.1.symm.trans h1
                    have e2 := HY.out.2.symm.trans h2
                    injection e1 with e1; injection e2 with e2
                    rw [← e1, ← e2]; exact hh
                  · exact HK.out j (by omega) y' z' h1 h2)
                rw [hh] at cM
                have HMM := Lib.hid cM
                clear cM hh HK
                go_wp2_with fail
                have k1 := cell_regrown hc1; have k2 := cell_regrown hc2; have k3 := cell_regrown x1; have k4 := cell_regrown a1
                refine wp_region_quiet_below (by kernel_rfl) (by kernel_rfl) ?_; (repeat (any_goals (first | go_big_quiet_step ((first | exact qcalls HMM.out _ _)) | quiet_step ((first | exact qcalls HMM.out _ _))))); refine wpQuiet_nil ?_; intro _ hwq; obtain ⟨⟨dq, osq⟩, hwq⟩ := hwq; subst hwq; have hb9 := below_regrown (wr) dq osq; generalize grow (redrawn (wr) dq) osq = w9 at *
                go_wp2
                exact ⟨⟨k + 1, by go_num, by omega, HK2, ⟨t0, Blk.keep hX hb9⟩, Blk.keep hA hb9, bstep hbr hb9, bstep hbr1 hb9, bstep hbr3 hb9⟩, by simp [intOf]; omega⟩
            · obtain rfl : k = m := by omega
              have hv : V = true := by
                rw [HV4.out]
                exact (matchesL_at x.parts ap (by have := HM.out; have := HN.out; omega)).2 (fun j y z h1 h2 => HK.out j (by have := (List.getElem?_eq_some_iff.1 h1).1; have := HM.out; omega) y z h1 h2)
              subst hv
              go_wp2
              go_ret
              exact ⟨rfl, belB⟩
      cases t1 : (cu.toList == [42])
      · have t1' : ¬ cu.toList = [42] := by simpa using t1
        cases t2 : (cu.toList == ac.toList)
        · have t2' : ¬ cu.toList = ac.toList := by simpa using t2
          obtain rfl : V = false := by rw [HV.out, t1, t2]; rfl
          go_enter Tryz.func69, Tryz.ntmps69
          go_wp2_with (first | (go_at_call 92; refine (HC.out _).mono ?_; rintro e w1 ⟨hb1, A, c, rfl, hR⟩; have HR := Lib.hid hR; clear hR) | (go_at_call 117; refine (HD.out _).mono ?_; rintro e w2 ⟨rfl, hb2⟩; have hX2 : PatBox w2 w1.heap.size cu (.slice A m c) _ := (hb2.block w1.heap.size (by simp)).trans (World.alloc_heap_new _ _)) | (go_at_call 118; refine (HP.out _).mono ?_; rintro e w3 ⟨hb3, B, cb, D, cd, rfl, hB, hD⟩; have HB := Lib.hid hB; clear hB hD; have hX3 : PatBox w3 w1.heap.size cu (.slice A m c) _ := Blk.keep hX2 hb3; obtain ⟨x0, x1, x2, _⟩ := hX3.facts; have hz3 : w1.heap.size < w3.heap.size := Blk.lt hX3))
          all_goals (rw [run_fieldR]; go_wp2)
          all_goals (go_ret; exact ⟨rfl, belB⟩)
        · have t2' : cu.toList = ac.toList := by simpa using t2
          have hv3 : V = (!decide (n < m) && !(decide (m < n) && !tl) && matchesL x.parts ap) := by rw [HV.out, t1, t2]; rfl
          exact rest hv3 (.inr ⟨t1, t1', t2, t2'⟩)
      · have t1' : cu.toList = [42] := by simpa using t1
        have hv3 : V = (!decide (n < m) && !(decide (m < n) && !tl) && matchesL x.parts ap) := by rw [HV.out, t1]; rfl
        exact rest hv3 (.inl ⟨t1, t1'⟩)
end Go.Proofs.YtdlbfjoemabfpaaGreatDoor
namespace Go.Proofs.YtdlbfjoemabfpaaGreatDoor
open Go.RowKit Go.Sort
set_option linter.unusedVariables false
set_option linter.unusedSimpArgs false
set_option maxRecDepth 100000
def LBox (w : World) (g : Nat) (v : Value) (e : Int) : Prop := Blk w g 157 #[v, .int .i64 e] (0, 0)
theorem LBox.facts {w : World} {g : Nat} {v : Value} {e : Int} (h : LBox w g v e) : w.cell? ⟨g, 0, none⟩ = some v ∧ w.cell? ⟨g, 1, none⟩ = some (.int .i64 e) ∧ w.frozen? ⟨g, 0, none⟩ = false ∧ w.frozen? ⟨g, 1, none⟩ = false :=
  ⟨Blk.cell h 0, Blk.cell h 1, blk_free0 h 0, blk_free0 h 1⟩
def RListPost (r : List ByteArray × Int) (w : World) (e : Ending) (w' : World) : Prop := Below w.heap.size w w' ∧ ∃ A c, e = .returned (.agg #[.slice A r.1.length c, .int .i64 r.2]) ∧ Reads w' 1 A r.1.length (r.1.map .string)
theorem RListPost.none_ {w w' : World} {er : Int} (hb : Below w.heap.size w w') : RListPost ([], er) w (.returned (.agg #[.slice none 0 0, .int .i64 er])) w' := ⟨hb, none, 0, rfl, Reads.nil_ _ _ _⟩
end Go.Proofs.YtdlbfjoemabfpaaGreatDoor
namespace Go.Proofs.YtdlbfjoemabfpaaGreatDoor
open Go.RowKit Go.Sort
set_option linter.unusedVariables false
set_option linter.unusedSimpArgs false
set_option maxRecDepth 100000
def fewVy (v : VaryV) : Bool := decide (v.header.size ≤ 200) && decide (v.dflt.size ≤ 200) && decide (v.values.length ≤ 10) && v.values.all (fun x => decide (x.size ≤ 200))
def fewCR (c : CondV) : Bool := fewC c.cl.length c.co.length c.si.length c.pat c.cl c.co
def fewR (r : RuleV) : Bool := decide (r.name.size ≤ 200) && decide (r.pat.size ≤ 200) && decide (r.prog.size ≤ 200) && decide (r.tags.length ≤ 10) && decide (r.vary.length ≤ 10) && fewCR r.allow && r.tags.all (fun x => decide (x.size ≤ 200)) && r.vary.all fewVy
set_option maxHeartbeats 4000000 in
theorem rFew22_head (x : RuleM) (w : World) (hR : RuleReads w x) (hbad : (decide (x.r.name.size ≤ 200) && decide (x.r.pat.size ≤ 200) && decide (x.r.prog.size ≤ 200) && decide (x.r.tags.length ≤ 10) && decide (x.r.vary.length ≤ 10) && fewCR x.r.allow) = false) :
    Calls Tryz.prog 27 #[x.val] w (Ret w (.bool false)) := by
  have cF := fun W (hb : Below w.heap.size w W) => rFew_any x.r.allow.fr x.r.allow.till x.r.allow.us x.r.allow.pat x.m.A x.m.B x.m.S x.r.allow.cl.length x.m.ca x.r.allow.co.length x.m.cb x.r.allow.si.length x.m.cs x.r.allow.cl x.r.allow.co W (hR.allow.cl.keep hb) (hR.allow.co.keep hb)
  have hfc : fewC x.r.allow.cl.length x.r.allow.co.length x.r.allow.si.length x.r.allow.pat x.r.allow.cl x.r.allow.co = fewCR x.r.allow := rfl
  rw [hfc] at cF
  generalize fewCR x.r.allow = fc at *
  rw [RuleM.val_eq]
  have HF := Lib.hid cF
  clear cF hR hfc
  by_cases h0 : x.r.name.size ≤ 200
  rotate_left
  · have d0 : decide ((200 : Int) < (x.r.name.size : Int)) = true := decide_eq_true (by omega)
    clear hbad
    go_enter Tryz.func27, Tryz.ntmps27
    go_wp2
    go_ret
    exact ⟨rfl, belB⟩
  have d0 : decide ((200 : Int) < (x.r.name.size : Int)) = false := decide_eq_false (by omega)
  by_cases h1 : x.r.pat.size ≤ 200
  rotate_left
  · have d1 : decide ((200 : Int) < (x.r.pat.size : Int)) = true := decide_eq_true (by omega)
    clear hbad
    go_enter Tryz.func27, Tryz.ntmps27
    go_wp2
    go_ret
    exact ⟨rfl, belB⟩
  have d1 : decide ((200 : Int) < (x.r.pat.size : Int)) = false := decide_eq_false (by omega)
  by_cases h2 : x.r.prog.size ≤ 200
  rotate_left
  · have d2 : decide ((200 : Int) < (x.r.prog.size : Int)) = true := decide_eq_true (by omega)
    clear hbad
    go_enter Tryz.func27, Tryz.ntmps27
    go_wp2
    go_ret
    exact ⟨rfl, belB⟩
  have d2 : decide ((200 : Int) < (x.r.prog.size : Int)) = false := decide_eq_false (by omega)
  by_cases h3 : x.r.tags.length ≤ 10
  rotate_left
  · have d3 : decide ((10 : Int) < (x.r.tags.length : Int)) = true := decide_eq_true (by omega)
    clear hbad
    go_enter Tryz.func27, Tryz.ntmps27
    go_wp2
    go_ret
    exact ⟨rfl, belB⟩
  have d3 : decide ((10 : Int) < (x.r.tags.length : Int)) = false := decide_eq_false (by omega)
  by_cases h4 : x.r.vary.length ≤ 10
  rotate_left
  · have d4 : decide ((10 : Int) < (x.r.vary.length : Int)) = true := decide_eq_true (by omega)
    clear hbad
    go_enter Tryz.func27, Tryz.ntmps27
    go_wp2
    go_ret
    exact ⟨rfl, belB⟩
  have d4 : decide ((10 : Int) < (x.r.vary.length : Int)) = false := decide_eq_false (by omega)
  obtain rfl : fc = false := by simpa [h0, h1, h2, h3, h4] using hbad
  clear hbad
  go_enter Tryz.func27, Tryz.ntmps27
  go_wp2_with (go_at_call 79; refine (HF.out _ belB).mono ?_; rintro e w2 ⟨rfl, hb2⟩)
  go_ret
  exact ⟨rfl, belB⟩
end Go.Proofs.YtdlbfjoemabfpaaGreatDoor
namespace Go.Proofs.YtdlbfjoemabfpaaGreatDoor
open Go.RowKit Go.Sort
set_option linter.unusedVariables false
set_option linter.unusedSimpArgs false
set_option maxRecDepth 100000
set_option maxHeartbeats 8000000 in
theorem rFew22_tail (x : RuleM) (w : World) (hR : RuleReads w x) (hgood : (decide (x.r.name.size ≤ 200) && decide (x.r.pat.size ≤ 200) && decide (x.r.prog.size ≤ 200) && decide (x.r.tags.length ≤ 10) && decide (x.r.vary.length ≤ 10) && fewCR x.r.allow) = true) :
    Calls Tryz.prog 27 #[x.val] w (Ret w (.bool (x.r.tags.all (fun x : ByteArray => decide (x.size ≤ 200)) && x.r.vary.all fewVy))) := by
  have cF := fun W (hb : Below w.heap.size w W) => rFew_any x.r.allow.fr x.r.allow.till x.r.allow.us x.r.allow.pat x.m.A x.m.B x.m.S x.r.allow.cl.length x.m.ca x.r.allow.co.length x.m.cb x.r.allow.si.length x.m.cs x.r.allow.cl x.r.allow.co W (hR.allow.cl.keep hb) (hR.allow.co.keep hb)
  have hfc : fewC x.r.allow.cl.length x.r.allow.co.length x.r.allow.si.length x.r.allow.pat x.r.allow.cl x.r.allow.co = fewCR x.r.allow := rfl
  rw [hfc] at cF
  generalize fewCR x.r.allow = fc at *
  simp only [Bool.and_eq_true, decide_eq_true_eq] at hgood
  obtain ⟨⟨⟨⟨⟨h0, h1⟩, h2⟩, h3⟩, h4⟩, rfl⟩ := hgood
  have d0 : decide ((200 : Int) < (x.r.name.size : Int)) = false := decide_eq_false (by omega)
  have d1 : decide ((200 : Int) < (x.r.pat.size : Int)) = false := decide_eq_false (by omega)
  have d2 : decide ((200 : Int) < (x.r.prog.size : Int)) = false := decide_eq_false (by omega)
  have d3 : decide ((10 : Int) < (x.r.tags.length : Int)) = false := decide_eq_false (by omega)
  have d4 : decide ((10 : Int) < (x.r.vary.length : Int)) = false := decide_eq_false (by omega)
  obtain ⟨V, hV⟩ : ∃ V, V = (x.r.tags.all (fun x : ByteArray => decide (x.size ≤ 200)) && x.r.vary.all fewVy) := ⟨_, rfl⟩
  rw [← hV]
  rw [RuleM.val_eq]
  have hA := hR.tags
  have hsame := hR.same
  have HF := Lib.hid cF; have HV := Lib.hid hV; have HA := Lib.hid hA; have HR := Lib.hid hR; have HSM := Lib.hid hsame
  have hvl : x.L.length = x.r.vary.length := by rw [← hsame, List.length_map]
  have HVL := Lib.hid hvl
  clear cF hR hfc hV hA hsame hvl h0 h1 h2
  go_enter Tryz.func27, Tryz.ntmps27
  go_wp2_with (go_at_call 79; refine (HF.out _ belB).mono ?_; rintro e w2 ⟨rfl, hb2⟩; have y2 : w2.cell? ⟨w.heap.size, 2, none⟩ = some (.slice x.T x.r.tags.length x.ct) := cell_keep hb2 ((cell_of_row _ _ 2 _ _ _ (heap_alloc_new w _)).trans rfl); have y7 : w2.cell? ⟨w.heap.size, 7, none⟩ = some (.slice x.V x.r.vary.length x.cv) := cell_keep hb2 ((cell_of_row _ _ 7 _ _ _ (heap_alloc_new w _)).trans rfl))
  have hbw2 : Below w.heap.size w w2 := belB
  clear d0 d1 d2 d3 d4 HF
  obtain ⟨n, hn⟩ : ∃ n, n = x.r.tags.length := ⟨_, rfl⟩
  obtain ⟨m, hm⟩ : ∃ m, m = x.r.vary.length := ⟨_, rfl⟩
  rw [← hn] at y2 HA h3
  rw [← hm] at y7 h4 HVL
  have HN := Lib.hid hn; have HMM := Lib.hid hm
  clear hn hm
  go_loopw [3] (fun vi wr => ∃ k : Nat, vi = .int .i64 k ∧ k ≤ n ∧ Hid ((x.r.tags.take k).all (fun x : ByteArray => decide (x.size ≤ 200)) = true) ∧ wr.cell? ⟨w.heap.size, 2, none⟩ = some (.slice x.T n x.ct) ∧ wr.cell? ⟨w.heap.size, 7, none⟩ = some (.slice x.V m x.cv) ∧ Below w.heap.size w wr ∧ w.heap.size < wr.heap.size) (fun i _ => n - (intOf i).toNat)
  case atStart => exact ⟨0, rfl, Nat.zero_le _, Lib.hid (by simp), y2, y7, hbw2, cell_lt y2⟩
  case round =>
    clear y2 y7 hbw2 hb2
    obtain ⟨k, rfl, hk, HK, y2, y7, hbr, hgr⟩ := hrel
    by_cases hlt : k < n
    · obtain ⟨t, ht⟩ : ∃ t, x.r.tags[k]? = some t := ⟨_, List.getElem?_eq_getElem (by have := HN.out; omega)⟩
      obtain ⟨b, o, hT, hcell⟩ := (HA.out.keep hbr).2 (by omega)
      rw [hT] at y2
      have hc1 : wr.cell? ⟨b, o + k, none⟩ = some (.string t) := hcell k _ (by simp [ht])
      have hk0 : (0 : Int) ≤ (k : Int) := by omega
      have hk1 : (k : Int) < (n : Int) := by omega
      by_cases hs : t.size ≤ 200
      · have HK2 : Hid ((x.r.tags.take (k + 1)).all (fun x : ByteArray => decide (x.size ≤ 200)) = true) := Lib.hid (all_take2 HK.out ht (by simpa using hs))
        have d5 : decide ((200 : Int) < (t.size : Int)) = false := decide_eq_false (by omega)
        have HTT := Lib.hid hT
        clear hcell ht HK hT
        go_wp2
        exact ⟨⟨k + 1, by go_num, by omega, HK2, by rw [HTT.out]; exact y2, y7, hbr, hgr⟩, by simp [intOf]; omega⟩
      · obtain rfl : V = false := by rw [HV.out, all_false2 ht (by simpa using hs)]; rfl
        have d5 : decide ((200 : Int) < (t.size : Int)) = true := decide_eq_true (by omega)
        clear hcell ht HK hT
        go_wp2
        go_ret
        exact ⟨rfl, hbr⟩
    · obtain rfl : k = n := by omega
      have hall : x.r.tags.all (fun x : ByteArray => decide (x.size ≤ 200)) = true := by
        have := HK.out
        rwa [List.take_of_length_le (by have := HN.out; omega)] at this
      have hv3 : V = x.r.vary.all fewVy := by rw [HV.out, hall, Bool.true_and]
      have HV2 := Lib.hid hv3
      clear hall hv3 HK HV
      go_wp2
      obtain ⟨wo, rfl⟩ : ∃ wo : World, wo = wr := ⟨_, rfl⟩
      clear y2 HA
      go_loopw [4] (fun vi wz => ∃ j : Nat, vi = .int .i64 j ∧ j ≤ m ∧ Hid ((x.r.vary.take j).all fewVy = true) ∧ wz.cell? ⟨w.heap.size, 7, none⟩ = some (.slice x.V m x.cv) ∧ Below w.heap.size w wz ∧ w.heap.size < wz.heap.size) (fun i _ => m - (intOf i).toNat)
      case atStart => exact ⟨0, rfl, Nat.zero_le _, Lib.hid (by simp), y7, hbr, hgr⟩
      case round =>
        clear y7 hbr hgr
        obtain ⟨j, rfl, hj, HJ, y7, hbr, hgr⟩ := hrel
        by_cases hlt2 : j < m
        · obtain ⟨y, hy⟩ : ∃ y, x.L[j]? = some y := ⟨_, List.getElem?_eq_getElem (by have := HVL.out; omega)⟩
          have hxv : x.r.vary[j]? = some y.v := by rw [← HSM.out, List.getElem?_map, hy]; rfl
          obtain ⟨b, o, hVV, hcell⟩ := Reads.row (HR.out.vary.keep hbr) (fun a _ => a.cells_len) (by have := HVL.out; have := HMM.out; omega) hy
          have hyr := (HR.out.each y (List.mem_of_getElem? hy))
          rw [hVV] at y7
          have e0 : wr.cell? ⟨b, o + j * 3, none⟩ = some (.string y.v.header) := hcell 0 _ rfl
          have e1 : wr.cell? ⟨b, o + j * 3 + 1, none⟩ = some (.slice y.A y.v.values.length y.c) := hcell 1 _ rfl
          have e2 : wr.cell? ⟨b, o + j * 3 + 2, none⟩ = some (.string y.v.dflt) := hcell 2 _ rfl
          have hj0 : (0 : Int) ≤ (j : Int) := by omega
          have hj1 : (j : Int) < (m : Int) := by omega
          have HYR := Lib.hid hyr; have HVV := Lib.hid hVV
          clear hcell hy hyr hVV
          by_cases g0 : y.v.header.size ≤ 200
          rotate_left
          · obtain rfl : V = false := by rw [HV2.out, all_false2 hxv (by simp [fewVy, g0])]
            have dg0 : decide ((200 : Int) < (y.v.header.size : Int)) = true := decide_eq_true (by omega)
            clear HJ hxv
            go_wp2
            go_ret
            exact ⟨rfl, belB⟩
          have dg0 : decide ((200 : Int) < (y.v.header.size : Int)) = false := decide_eq_false (by omega)
          by_cases g1 : y.v.dflt.size ≤ 200
          rotate_left
          · obtain rfl : V = false := by rw [HV2.out, all_false2 hxv (by simp [fewVy, g1])]
            have dg1 : decide ((200 : Int) < (y.v.dflt.size : Int)) = true := decide_eq_true (by omega)
            clear HJ hxv
            go_wp2
            go_ret
            exact ⟨rfl, belB⟩
          have dg1 : decide ((200 : Int) < (y.v.dflt.size : Int)) = false := decide_eq_false (by omega)
          by_cases g2 : y.v.values.length ≤ 10
          rotate_left
          · obtain rfl : V = false := by rw [HV2.out, all_false2 hxv (by simp [fewVy, g2])]
            have dg2 : decide ((10 : Int) < (y.v.values.length : Int)) = true := decide_eq_true (by omega)
            clear HJ hxv
            go_wp2
            go_ret
            exact ⟨rfl, belB⟩
          have dg2 : decide ((10 : Int) < (y.v.values.length : Int)) = false := decide_eq_false (by omega)
          have HXV := Lib.hid hxv
          clear hxv
          go_wp2
          obtain ⟨wv, hwv⟩ : ∃ wv : World, wv = wr := ⟨_, rfl⟩
          have z7 : (wr.alloc (.cells #[.string y.v.header, .slice y.A y.v.values.length y.c, .string y.v.dflt] 84)).cell? ⟨w.heap.size, 7, none⟩ = some (.slice (some ⟨b, o, none⟩) m x.cv) := cell_keep ((Below.refl wr.heap.size wr).alloc (Nat.le_refl _) _) y7
          have z1 : (wr.alloc (.cells #[.string y.v.header, .slice y.A y.v.values.length y.c, .string y.v.dflt] 84)).cell? ⟨wr.heap.size, 1, none⟩ = some (.slice y.A y.v.values.length y.c) := (cell_of_row _ _ 1 _ _ _ (heap_alloc_new wr _)).trans rfl
          have hb3 : Below w.heap.size w (wr.alloc (.cells #[.string y.v.header, .slice y.A y.v.values.length y.c, .string y.v.dflt] 84)) := belB
          clear e0 e1 e2 dg0 dg1 dg2 y7
          generalize hg : wr.heap.size = g at *
          have hgg : w.heap.size < g := hgr
          obtain ⟨q, hq⟩ : ∃ q, q = y.v.values.length := ⟨_, rfl⟩
          rw [← hq] at z1 z7 hb3 g2 ⊢
          have HQ := Lib.hid hq
          clear hq
          go_loopw [6] (fun vi wy => ∃ i : Nat, vi = .int .i64 i ∧ i ≤ q ∧ Hid ((y.v.values.take i).all (fun x : ByteArray => decide (x.size ≤ 200)) = true) ∧ wy.cell? ⟨w.heap.size, 7, none⟩ = some (.slice (some ⟨b, o, none⟩) m x.cv) ∧ wy.cell? ⟨g, 1, none⟩ = some (.slice y.A q y.c) ∧ Below w.heap.size w wy) (fun i _ => q - (intOf i).toNat)
          case atStart => exact ⟨0, rfl, Nat.zero_le _, Lib.hid (by simp), z7, z1, hb3⟩
          case round =>
            clear z7 z1 hb3 hbr
            obtain ⟨i, rfl, hi, HK3, z7, z1, hbr⟩ := hrel
            by_cases hlt3 : i < q
            · obtain ⟨t, ht⟩ : ∃ t, y.v.values[i]? = some t := ⟨_, List.getElem?_eq_getElem (by have := HQ.out; omega)⟩
              obtain ⟨b3, o3, hYA, hcell⟩ := (Reads.keep HYR.out hbr).2 (by have := HQ.out; omega)
              rw [hYA] at z1
              have hc1 : wr.cell? ⟨b3, o3 + i, none⟩ = some (.string t) := hcell i _ (by simp [ht])
              have hi0 : (0 : Int) ≤ (i : Int) := by omega
              have hi1 : (i : Int) < (q : Int) := by omega
              by_cases hs : t.size ≤ 200
              · have HK4 : Hid ((y.v.values.take (i + 1)).all (fun x : ByteArray => decide (x.size ≤ 200)) = true) := Lib.hid (all_take2 HK3.out ht (by simpa using hs))
                have d5 : decide ((200 : Int) < (t.size : Int)) = false := decide_eq_false (by omega)
                have HTT := Lib.hid hYA
                clear hcell ht HK3 hYA
                go_wp2
                exact ⟨⟨i + 1, by go_num, by omega, HK4, z7, by rw [HTT.out]; exact z1, hbr⟩, by simp [intOf]; omega⟩
              · obtain rfl : V = false := by rw [HV2.out, all_false2 HXV.out (by simp [fewVy, all_false2 ht (p := (fun x : ByteArray => decide (x.size ≤ 200))) (by simpa using hs)])]
                have d5 : decide ((200 : Int) < (t.size : Int)) = true := decide_eq_true (by omega)
                clear hcell ht HK3 hYA
                go_wp2
                go_ret
                exact ⟨rfl, hbr⟩
            · obtain rfl : i = q := by omega
              have hall : y.v.values.all (fun x : ByteArray => decide (x.size ≤ 200)) = true := by
                have := HK3.out
                rwa [List.take_of_length_le (by have := HQ.out; omega)] at this
              have hfv : fewVy y.v = true := by
                unfold fewVy
                rw [hall]
                have := HQ.out
                simp [g0, g1, ← HQ.out, g2]
              have HJ2 : Hid ((x.r.vary.take (j + 1)).all fewVy = true) := Lib.hid (all_take2 HJ.out HXV.out hfv)
              clear hall hfv HK3
              go_wp2
              exact ⟨⟨j + 1, by go_num, by omega, HJ2, by rw [HVV.out]; exact z7, hbr, cell_lt z7⟩, by simp [intOf]; omega⟩
        · obtain rfl : j = m := by omega
          have hall : x.r.vary.all fewVy = true := by
            have := HJ.out
            rwa [List.take_of_length_le (by have := HMM.out; omega)] at this
          obtain rfl : V = true := by rw [HV2.out, hall]
          clear hall HJ
          go_wp2
          go_ret
          exact ⟨rfl, hbr⟩
theorem rFew22_any (x : RuleM) (w : World) (hR : RuleReads w x) : Calls Tryz.prog 27 #[x.val] w (Ret w (.bool (fewR x.r))) := by
  unfold fewR
  cases hc : (decide (x.r.name.size ≤ 200) && decide (x.r.pat.size ≤ 200) && decide (x.r.prog.size ≤ 200) && decide (x.r.tags.length ≤ 10) && decide (x.r.vary.length ≤ 10) && fewCR x.r.allow)
  · rw [Bool.false_and, Bool.false_and]; exact rFew22_head x w hR hc
  · rw [Bool.true_and]; exact rFew22_tail x w hR hc
end Go.Proofs.YtdlbfjoemabfpaaGreatDoor
