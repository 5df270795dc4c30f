/- What the specification's Valid, Match and Under return. -/
import Derived.Test.YtiglpecjpncclaaGreatDoorRef17
import Derived.Test.YtiglpecjpncclaaGreatDoorJoinA
import Derived.Test.YtiglpecjpncclaaGreatDoorMatch
import Derived.Test.YtiglpecjpncclaaGreatDoorProg
import Derived.WalkKit
import Derived.WalkSpells
import Derived.WalkLawsBesides
import Derived.Below
import Derived.Deep.QuietTactic
import Derived.BigQuiet
import Derived.Lib.QuietBelow
import Derived.Lib.Strings
import Derived.Lib.Hide
import Derived.Deep.RegionWith
import Derived.Deep.RegionHeld3
import Derived.Lib.IndexBytes
import Derived.Test.YtiglpecjpncclaaGreatDoorPlainX
import Derived.Test.YtiglpecjpncclaaGreatDoorBoth
import Derived.Deep.DeepCutAuto
import Derived.Test.YtiglpecjpncclaaGreatDoorMeets
import Derived.Test.YtiglpecjpncclaaGreatDoorCovers
import Derived.Test.YtiglpecjpncclaaGreatDoorSane
import Derived.Test.YtiglpecjpncclaaGreatDoorLaid
namespace Go.Proofs.YtiglpecjpncclaaGreatDoor
open Go.RowKit Go.Sort
set_option linter.unusedVariables false
set_option linter.unusedSimpArgs false
set_option maxRecDepth 100000
theorem RCompPost.any_ {r : Option Pat} {w w' : World} {e : Ending} (h : RCompPost r w e w') : Below w.heap.size w w' ∧ ∃ (c : ByteArray) (A : Option Addr) (n k : Nat) (t : Bool), e = .returned (.tuple #[.agg #[.string c, .slice A n k, .bool t], .bool r.isSome]) := by
  obtain ⟨hb, h⟩ := h
  cases r with
  | none => exact ⟨hb, _, none, 0, 0, _, h⟩
  | some x => obtain ⟨A, c, h, _⟩ := h; exact ⟨hb, _, A, _, c, _, h⟩
set_option maxHeartbeats 1000000 in
theorem rValid_any (s : ByteArray) (w : World) (hs : s.size ≤ 100000) : Calls Tryz.prog 35 #[.string s] w (Ret w (.bool (compileB s).isSome)) := by
  have cC := fun W => (rCompile_any s W hs).mono (fun e w' h => h.any_)
  generalize (compileB s).isSome = b at *
  have HC := Lib.hid cC
  clear cC
  go_enter Tryz.func35, Tryz.ntmps35
  go_wp2_with (go_at_call 78; refine (HC.out _).mono ?_; rintro e w1 ⟨hb1, c, A, n, k, t, rfl⟩)
  go_ret
  exact ⟨rfl, by (repeat (first | exact Below.refl _ _ | assumption | refine Below.drew ?_ | refine balloc ?_ _ | refine bdrewN ?_ _ | refine Below.setCell ?_ (by first | (simp; done) | (simp; omega)) _ | refine bstep ?_ (by assumption)))⟩
theorem run_fieldR (c : ByteArray) (A B : Option Addr) (na ca nb cb : Nat) (e : Value) (w : World) : (Instr.field 35 (.agg #[.string c, .slice A na ca, .slice B nb cb, e]) 0).run Tryz.prog w = .ok (.agg #[.string c, .slice A na ca, .slice B nb cb]) w := by
  first | kernel_rfl | rfl | simp [Instr.field, part, go_sem, Tryz.underlying35]
theorem strL_at (ps : List Part) (k : Nat) (p : Part) (h : ps[k]? = some p) : (strL ps)[k]? = some (strP p) := by
  unfold strL
  rw [List.getElem?_map, h]; rfl
theorem matchesL_at : ∀ (ps : List Part) (ws : List ByteArray), ps.length ≤ ws.length → (matchesL ps ws = true ↔ ∀ (k : Nat) (p : Part) (x : ByteArray), ps[k]? = some p → ws[k]? = some x → hasP p.kind p.text x = true)
  | [], ws, _ => by simp [matchesL]
  | p :: ps, [], h => by simp at h
  | p :: ps, x :: ws, h => by
    have ih := matchesL_at ps ws (by simpa using h)
    rw [matchesL, Bool.and_eq_true, ih]
    constructor
    · rintro ⟨h1, h2⟩ k q y hq hy
      cases k with
      | zero => simp at hq hy; rw [← hq, ← hy]; exact h1
      | succ k => exact h2 k q y (by simpa using hq) (by simpa using hy)
    · intro h3
      exact ⟨h3 0 p x rfl rfl, fun k q y hq hy => h3 (k + 1) q y (by simpa using hq) (by simpa using hy)⟩
theorem cust_has {p : Part} (hp : CustFit p) (a : ByteArray) : hasP p.kind p.text a = ((strP p).toList == [42] || (strP p).toList == a.toList) := by
  rcases hp with ⟨hk, ht⟩ | ⟨hk, ht⟩
  · rw [str0 hk, hk]
    have h42 : (p.text.toList == [42]) = false := by
      rw [Lib.toList_data, beq_eq_false_iff_ne]; exact word_star (name_word ht) []
    rw [h42, Bool.false_or]
    unfold hasP
    rw [if_pos rfl]
  · have e := str_star (p := p) (by omega)
    rw [hk, ht, has2, Lib.toList_data, e, ht]
    rfl
def ABox (w : World) (g : Nat) (c : ByteArray) (P : Option Addr) (np cp : Nat) (Q : Option Addr) (nq cq : Nat) : Prop := Boxed3 w g c P np cp Q nq cq
set_option maxHeartbeats 4000000 in
theorem rMatch_any (p q : ByteArray) (w : World) (hp : p.size ≤ 100000) (hq : q.size ≤ 100000) : Calls Tryz.prog 36 #[.string p, .string q] w (Ret w (.bool (matchB p q))) := by
  have cC := fun W => rCompile_any p W hp
  have cD := fun W => rCanon_any q W (by omega)
  have cP := fun W => rParse_any q W (by omega)
  unfold matchB
  cases hx : compileB p with
  | none =>
    rw [hx] at cC
    have HC := Lib.hid cC
    clear cC cD cP hx
    go_enter Tryz.func36, Tryz.ntmps36
    go_wp2_with (go_at_call 78; refine (HC.out _).mono ?_; rintro e w1 ⟨hb1, rfl⟩)
    go_ret
    exact ⟨rfl, by (repeat (first | exact Below.refl _ _ | assumption | refine Below.drew ?_ | refine balloc ?_ _ | refine bdrewN ?_ _ | refine Below.setCell ?_ (by first | (simp; done) | (simp; omega)) _ | refine bstep ?_ (by assumption)))⟩
  | some x =>
    have hfit := compile_fit hx
    have hgood := compile_good p hp x hx
    have hm32 := hgood.num
    rw [hx] at cC
    obtain ⟨V, hV⟩ : ∃ V, V = (readB q && matchP x (parseB q).1) := ⟨_, rfl⟩
    show Calls Tryz.prog 36 #[.string p, .string q] w (Ret w (.bool (readB q && matchP x (parseB q).1)))
    rw [← hV]
    obtain ⟨m, hm⟩ : ∃ m, m = x.parts.length := ⟨_, rfl⟩
    obtain ⟨cu, hcu⟩ : ∃ cu, cu = strP x.cust := ⟨_, rfl⟩
    obtain ⟨tl, htl⟩ : ∃ tl, tl = x.tail := ⟨_, rfl⟩
    have HC : Hid (∀ W, Calls Tryz.prog 78 #[.string p] W (fun e w' => Below W.heap.size W w' ∧ ∃ A c, e = .returned (.tuple #[.agg #[.string cu, .slice A m c, .bool tl], .bool true]) ∧ Reads w' 1 A m ((strL x.parts).map .string))) := Lib.hid (by rw [hm, hcu, htl]; exact cC)
    have hPS : ∀ y ∈ x.parts, PartFit y ∧ (strP y).size ≤ 200000 := fun y hy => ⟨hfit.parts y hy, by have := stringP_size y.kind y.text; have := (hgood.parts y hy).2; unfold strP; omega⟩
    have HPS := Lib.hid hPS
    have HM := Lib.hid hm
    cases hrd : readB q
    · rw [hrd] at cD hV
      obtain rfl : V = false := hV
      have HD := Lib.hid cD
      clear cC cD cP hx hfit hgood hrd hPS hm hcu htl
      go_enter Tryz.func36, Tryz.ntmps36
      go_wp2_with (first | (go_at_call 78; refine (HC.out _).mono ?_; rintro e w1 ⟨hb1, A, c, rfl, hR⟩; have HR := Lib.hid hR; clear hR) | (go_at_call 81; refine (HD.out _).mono ?_; rintro e w2 ⟨rfl, hb2⟩; have hX2 : PatBox w2 w1.heap.size cu (.slice A m c) _ := (hb2.block w1.heap.size (by simp)).trans (World.alloc_heap_new _ _)))
      go_ret
      exact ⟨rfl, by (repeat (first | exact Below.refl _ _ | assumption | refine Below.drew ?_ | refine balloc ?_ _ | refine bdrewN ?_ _ | refine Below.setCell ?_ (by first | (simp; done) | (simp; omega)) _ | refine bstep ?_ (by assumption)))⟩
    · rw [hrd] at cD hV
      rw [Bool.true_and] at hV
      have herr : (parseB q).2 = 0 := by
        unfold readB at hrd
        simp only [Bool.and_eq_true, decide_eq_true_eq] at hrd
        exact hrd.1
      have hpg := parse_good q herr
      have hcn : (parseB q).1.cust.size ≤ 64 := size_of_name hpg.name
      have hwd := hpg.words
      have hn32 := hpg.parts
      generalize parseB q = r at *
      obtain ⟨⟨ac, ap, aq⟩, er⟩ := r
      dsimp only at herr hcn hwd hn32 hV
      subst herr
      obtain ⟨n, hn⟩ : ∃ n, n = ap.length := ⟨_, rfl⟩
      have HP : Hid (∀ W, Calls Tryz.prog 15 #[.string q] W (fun e w' => Below W.heap.size W w' ∧ ∃ A ca B cb, e = .returned (.agg #[.string ac, .slice A n ca, .slice B aq.length cb, .int .i64 0]) ∧ Reads w' 1 A n (ap.map .string) ∧ Reads w' 2 B aq.length (pairCells aq))) := Lib.hid (by rw [hn]; exact cP)
      have hh := cust_has hfit.cust ac
      rw [← hcu] at hh
      have hV2 : V = ((cu.toList == [42] || cu.toList == ac.toList) && !decide (n < m) && !(decide (m < n) && !tl) && matchesL x.parts ap) := by
        rw [hV, hn, hm, htl, ← hh]; rfl
      have HV := Lib.hid hV2
      have HD := Lib.hid cD
      have HWD := Lib.hid hwd
      have HN := Lib.hid hn
      rw [← hn] at hn32
      rw [← hm] at hm32
      clear cC cD cP hx hfit hgood hrd hPS hm hcu htl hpg hV hV2 hh hwd hn
      have rest : V = (!decide (n < m) && !(decide (m < n) && !tl) && matchesL x.parts ap) → (((cu.toList == [42]) = true ∧ cu.toList = [42]) ∨ ((cu.toList == [42]) = false ∧ ¬ cu.toList = [42] ∧ (cu.toList == ac.toList) = true ∧ cu.toList = ac.toList)) → Calls Tryz.prog 36 #[.string p, .string q] w (Ret w (.bool V)) := by
        intro hv3 hB
        clear HV
        by_cases h1 : n < m
        · obtain rfl : V = false := by rw [hv3, decide_eq_true h1]; rfl
          have d1 : decide ((n : Int) < (m : Int)) = true := decide_eq_true (by omega)
          have d1' : decide (n < m) = true := decide_eq_true h1
          clear hv3 h1
          rcases hB with ⟨t1, t1'⟩ | ⟨t1, t1', t2, t2'⟩
          all_goals
            go_enter Tryz.func36, Tryz.ntmps36
            go_wp2_with (first | (go_at_call 78; refine (HC.out _).mono ?_; rintro e w1 ⟨hb1, A, c, rfl, hR⟩; have HR := Lib.hid hR; clear hR) | (go_at_call 81; refine (HD.out _).mono ?_; rintro e w2 ⟨rfl, hb2⟩; have hX2 : PatBox w2 w1.heap.size cu (.slice A m c) _ := (hb2.block w1.heap.size (by simp)).trans (World.alloc_heap_new _ _)) | (go_at_call 15; refine (HP.out _).mono ?_; rintro e w3 ⟨hb3, B, cb, D, cd, rfl, hB, hD⟩; have HB := Lib.hid hB; clear hB hD; have hX3 : PatBox w3 w1.heap.size cu (.slice A m c) _ := Blk.keep hX2 hb3; obtain ⟨x0, x1, x2, _⟩ := hX3.facts; have hz3 : w1.heap.size < w3.heap.size := Blk.lt hX3))
            all_goals (rw [run_fieldR]; go_wp2)
            all_goals (go_ret; exact ⟨rfl, by (repeat (first | exact Below.refl _ _ | assumption | refine Below.drew ?_ | refine balloc ?_ _ | refine bdrewN ?_ _ | refine Below.setCell ?_ (by first | (simp; done) | (simp; omega)) _ | refine bstep ?_ (by assumption)))⟩)
        have d1 : decide ((n : Int) < (m : Int)) = false := decide_eq_false (by omega)
        have d1' : decide (n < m) = false := decide_eq_false h1
        by_cases h2 : m < n ∧ tl = false
        · obtain ⟨h2, rfl⟩ := h2
          obtain rfl : V = false := by rw [hv3, decide_eq_true h2]; simp
          have d2 : decide ((m : Int) < (n : Int)) = true := decide_eq_true (by omega)
          have d2' : decide (m < n) = true := decide_eq_true h2
          clear hv3
          rcases hB with ⟨t1, t1'⟩ | ⟨t1, t1', t2, t2'⟩
          all_goals
            go_enter Tryz.func36, Tryz.ntmps36
            go_wp2_with (first | (go_at_call 78; refine (HC.out _).mono ?_; rintro e w1 ⟨hb1, A, c, rfl, hR⟩; have HR := Lib.hid hR; clear hR) | (go_at_call 81; refine (HD.out _).mono ?_; rintro e w2 ⟨rfl, hb2⟩; have hX2 : PatBox w2 w1.heap.size cu (.slice A m c) _ := (hb2.block w1.heap.size (by simp)).trans (World.alloc_heap_new _ _)) | (go_at_call 15; refine (HP.out _).mono ?_; rintro e w3 ⟨hb3, B, cb, D, cd, rfl, hB, hD⟩; have HB := Lib.hid hB; clear hB hD; have hX3 : PatBox w3 w1.heap.size cu (.slice A m c) _ := Blk.keep hX2 hb3; obtain ⟨x0, x1, x2, _⟩ := hX3.facts; have hz3 : w1.heap.size < w3.heap.size := Blk.lt hX3))
            all_goals (rw [run_fieldR]; go_wp2)
            all_goals (go_ret; exact ⟨rfl, by (repeat (first | exact Below.refl _ _ | assumption | refine Below.drew ?_ | refine balloc ?_ _ | refine bdrewN ?_ _ | refine Below.setCell ?_ (by first | (simp; done) | (simp; omega)) _ | refine bstep ?_ (by assumption)))⟩)
        have hv4 : V = matchesL x.parts ap := by
          rw [hv3, d1', Bool.not_false, Bool.true_and]
          have : (!(decide (m < n) && !tl)) = true := by
            cases tl
            · by_cases h3 : m < n
              · exact absurd ⟨h3, rfl⟩ h2
              · rw [decide_eq_false h3]; rfl
            · simp
          rw [this, Bool.true_and]
        have hD : (decide ((m : Int) < (n : Int)) = false ∧ decide (m < n) = false) ∨ (decide ((m : Int) < (n : Int)) = true ∧ decide (m < n) = true ∧ tl = true) := by
          by_cases h3 : m < n
          · right
            refine ⟨decide_eq_true (by omega), decide_eq_true h3, ?_⟩
            cases tl
            · exact absurd ⟨h3, rfl⟩ h2
            · rfl
          · left; exact ⟨decide_eq_false (by omega), decide_eq_false h3⟩
        have HV4 := Lib.hid hv4
        have hnm : m ≤ n := by omega
        clear hv3 hv4 h2 h1
        rcases hB with ⟨t1, t1'⟩ | ⟨t1, t1', t2, t2'⟩ <;> rcases hD with ⟨d2, d2'⟩ | ⟨d2, d2', rfl⟩
        all_goals
          go_enter Tryz.func36, Tryz.ntmps36
          go_wp2_with (first | (go_at_call 78; refine (HC.out _).mono ?_; rintro e w1 ⟨hb1, A, c, rfl, hR⟩; have HR := Lib.hid hR; clear hR) | (go_at_call 81; refine (HD.out _).mono ?_; rintro e w2 ⟨rfl, hb2⟩; have hX2 : PatBox w2 w1.heap.size cu (.slice A m c) _ := (hb2.block w1.heap.size (by simp)).trans (World.alloc_heap_new _ _)) | (go_at_call 15; refine (HP.out _).mono ?_; rintro e w3 ⟨hb3, B, cb, D, cd, rfl, hB, hD⟩; have HB := Lib.hid hB; clear hB hD; have hX3 : PatBox w3 w1.heap.size cu (.slice A m c) _ := Blk.keep hX2 hb3; obtain ⟨x0, x1, x2, _⟩ := hX3.facts; have hz3 : w1.heap.size < w3.heap.size := Blk.lt hX3))
        all_goals (rw [run_fieldR]; go_wp2)
        all_goals
          have hA0 : Boxed3 (w3.alloc (.cells #[.string ac, .slice B n cb, .slice D aq.length cd] 25)) w3.heap.size ac B n cb D aq.length cd := World.alloc_heap_new _ _
          have hX4 : PatBox (w3.alloc (.cells #[.string ac, .slice B n cb, .slice D aq.length cd] 25)) w1.heap.size cu (.slice A m c) _ := (Below.heap_alloc _ _ _ hz3).trans hX3
          have hb4 : Below w.heap.size w (w3.alloc (.cells #[.string ac, .slice B n cb, .slice D aq.length cd] 25)) := by (repeat (first | exact Below.refl _ _ | assumption | refine Below.drew ?_ | refine balloc ?_ _ | refine bdrewN ?_ _ | refine Below.setCell ?_ (by first | (simp; done) | (simp; omega)) _ | refine bstep ?_ (by assumption)))
          have hb5 : Below w1.heap.size w1 (w3.alloc (.cells #[.string ac, .slice B n cb, .slice D aq.length cd] 25)) := by (repeat (first | exact Below.refl _ _ | assumption | refine Below.drew ?_ | refine balloc ?_ _ | refine bdrewN ?_ _ | refine Below.setCell ?_ (by first | (simp; done) | (simp; omega)) _ | refine bstep ?_ (by assumption)))
          have hb6 : Below w3.heap.size w3 (w3.alloc (.cells #[.string ac, .slice B n cb, .slice D aq.length cd] 25)) := by (repeat (first | exact Below.refl _ _ | assumption | refine Below.drew ?_ | refine balloc ?_ _ | refine bdrewN ?_ _ | refine Below.setCell ?_ (by first | (simp; done) | (simp; omega)) _ | refine bstep ?_ (by assumption)))
          clear x0 x1 x2
          go_loopw [8] (fun vi wr => ∃ k : Nat, vi = .int .i64 k ∧ k ≤ m ∧ Hid (∀ j, j < k → ∀ y z, x.parts[j]? = some y → ap[j]? = some z → hasP y.kind y.text z = true) ∧ (∃ t, PatBox wr w1.heap.size cu (.slice A m c) t) ∧ Boxed3 wr w3.heap.size ac B n cb D aq.length cd ∧ Below w.heap.size w wr ∧ Below w1.heap.size w1 wr ∧ Below w3.heap.size w3 wr) (fun vi _ => m - (intOf vi).toNat)
          case atStart => exact ⟨0, rfl, Nat.zero_le _, Lib.hid (fun j h => absurd h (by omega)), ⟨_, hX4⟩, hA0, hb4, hb5, hb6⟩
          case round =>
            clear hX4 hA0 hb4 hb5 hb6
            obtain ⟨k, rfl, hk, HK, ⟨t0, hX⟩, hA, hbr, hbr1, hbr3⟩ := hrel
            obtain ⟨x0, x1, x2, _⟩ := hX.facts
            have a1 : wr.cell? ⟨w3.heap.size, 1, none⟩ = some (.slice B n cb) := Blk.cell hA 1
            by_cases hlt : k < m
            · obtain ⟨y, hy⟩ : ∃ y, x.parts[k]? = some y := ⟨_, List.getElem?_eq_getElem (by have := HM.out; omega)⟩
              obtain ⟨z, hz⟩ : ∃ z, ap[k]? = some z := ⟨_, List.getElem?_eq_getElem (by have := HN.out; omega)⟩
              obtain ⟨b, o, rfl, hcell⟩ := (HR.out.keep hbr1).2 (by omega)
              obtain ⟨b2, o2, rfl, hcell2⟩ := (HB.out.keep hbr3).2 (by omega)
              have hc1 : wr.cell? ⟨b, o + k, none⟩ = some (.string (strP y)) := hcell k _ (by rw [List.getElem?_map, strL_at _ _ _ hy]; rfl)
              have hc2 : wr.cell? ⟨b2, o2 + k, none⟩ = some (.string z) := hcell2 k _ (by simp [hz])
              obtain ⟨hyf, hys⟩ := HPS.out y (List.mem_of_getElem? hy)
              have hzw := HWD.out z (List.mem_of_getElem? hz)
              have cM := fun W => rMatches_any (strP y) z W (by omega) (by have := size_of_word hzw; omega)
              rw [mtch_has hyf hzw] at cM
              have hk0 : (0 : Int) ≤ (k : Int) := by omega
              have hk1 : (k : Int) < (m : Int) := by omega
              have hk2 : (k : Int) < (n : Int) := by omega
              have HY := Lib.hid (show x.parts[k]? = some y ∧ ap[k]? = some z from ⟨hy, hz⟩)
              generalize strP y = sy at *
              clear hcell hcell2 hy hz hyf hzw
              cases hh : hasP y.kind y.text z
              · have hv : V = false := by
                  rw [HV4.out]
                  cases hml : matchesL x.parts ap
                  · rfl
                  · have := (matchesL_at x.parts ap (by have := HM.out; have := HN.out; omega)).1 hml k y z HY.out.1 HY.out.2
                    rw [hh] at this; cases this
                subst hv
                rw [hh] at cM
                have HMM := Lib.hid cM
                clear cM hh
                go_wp2_with fail
                have k1 := cell_regrown hc1; have k2 := cell_regrown hc2; have k3 := cell_regrown x1; have k4 := cell_regrown a1
                refine wp_region_quiet_below (by kernel_rfl) (by kernel_rfl) ?_; (repeat (any_goals (first | go_big_quiet_step ((first | exact qcalls HMM.out _ _)) | quiet_step ((first | exact qcalls HMM.out _ _))))); refine wpQuiet_nil ?_; intro _ hwq; obtain ⟨⟨dq, osq⟩, hwq⟩ := hwq; subst hwq; have hb9 := below_regrown (wr) dq osq; generalize grow (redrawn (wr) dq) osq = w9 at *
                go_wp2
                go_ret
                exact ⟨rfl, by (repeat (first | exact Below.refl _ _ | assumption | refine Below.drew ?_ | refine balloc ?_ _ | refine bdrewN ?_ _ | refine Below.setCell ?_ (by first | (simp; done) | (simp; omega)) _ | refine bstep ?_ (by assumption)))⟩
              · have HK2 : Hid (∀ j, j < k + 1 → ∀ y z, x.parts[j]? = some y → ap[j]? = some z → hasP y.kind y.text z = true) := Lib.hid (fun j hj y' z' h1 h2 => by
                  by_cases e : j = k
                  · subst e
                    have e1 := HY.out.1.symm.trans h1
                    have e2 := HY.out.2.symm.trans h2
                    injection e1 with e1; injection e2 with e2
                    rw [← e1, ← e2]; exact hh
                  · exact HK.out j (by omega) y' z' h1 h2)
                rw [hh] at cM
                have HMM := Lib.hid cM
                clear cM hh HK
                go_wp2_with fail
                have k1 := cell_regrown hc1; have k2 := cell_regrown hc2; have k3 := cell_regrown x1; have k4 := cell_regrown a1
                refine wp_region_quiet_below (by kernel_rfl) (by kernel_rfl) ?_; (repeat (any_goals (first | go_big_quiet_step ((first | exact qcalls HMM.out _ _)) | quiet_step ((first | exact qcalls HMM.out _ _))))); refine wpQuiet_nil ?_; intro _ hwq; obtain ⟨⟨dq, osq⟩, hwq⟩ := hwq; subst hwq; have hb9 := below_regrown (wr) dq osq; generalize grow (redrawn (wr) dq) osq = w9 at *
                go_wp2
                exact ⟨⟨k + 1, by go_num, by omega, HK2, ⟨t0, Blk.keep hX hb9⟩, Blk.keep hA hb9, bstep hbr hb9, bstep hbr1 hb9, bstep hbr3 hb9⟩, by simp [intOf]; omega⟩
            · obtain rfl : k = m := by omega
              have hv : V = true := by
                rw [HV4.out]
                exact (matchesL_at x.parts ap (by have := HM.out; have := HN.out; omega)).2 (fun j y z h1 h2 => HK.out j (by have := (List.getElem?_eq_some_iff.1 h1).1; have := HM.out; omega) y z h1 h2)
              subst hv
              go_wp2
              go_ret
              exact ⟨rfl, by (repeat (first | exact Below.refl _ _ | assumption | refine Below.drew ?_ | refine balloc ?_ _ | refine bdrewN ?_ _ | refine Below.setCell ?_ (by first | (simp; done) | (simp; omega)) _ | refine bstep ?_ (by assumption)))⟩
      cases t1 : (cu.toList == [42])
      · have t1' : ¬ cu.toList = [42] := by simpa using t1
        cases t2 : (cu.toList == ac.toList)
        · have t2' : ¬ cu.toList = ac.toList := by simpa using t2
          obtain rfl : V = false := by rw [HV.out, t1, t2]; rfl
          go_enter Tryz.func36, Tryz.ntmps36
          go_wp2_with (first | (go_at_call 78; refine (HC.out _).mono ?_; rintro e w1 ⟨hb1, A, c, rfl, hR⟩; have HR := Lib.hid hR; clear hR) | (go_at_call 81; refine (HD.out _).mono ?_; rintro e w2 ⟨rfl, hb2⟩; have hX2 : PatBox w2 w1.heap.size cu (.slice A m c) _ := (hb2.block w1.heap.size (by simp)).trans (World.alloc_heap_new _ _)) | (go_at_call 15; refine (HP.out _).mono ?_; rintro e w3 ⟨hb3, B, cb, D, cd, rfl, hB, hD⟩; have HB := Lib.hid hB; clear hB hD; have hX3 : PatBox w3 w1.heap.size cu (.slice A m c) _ := Blk.keep hX2 hb3; obtain ⟨x0, x1, x2, _⟩ := hX3.facts; have hz3 : w1.heap.size < w3.heap.size := Blk.lt hX3))
          all_goals (rw [run_fieldR]; go_wp2)
          all_goals (go_ret; exact ⟨rfl, by (repeat (first | exact Below.refl _ _ | assumption | refine Below.drew ?_ | refine balloc ?_ _ | refine bdrewN ?_ _ | refine Below.setCell ?_ (by first | (simp; done) | (simp; omega)) _ | refine bstep ?_ (by assumption)))⟩)
        · have t2' : cu.toList = ac.toList := by simpa using t2
          have hv3 : V = (!decide (n < m) && !(decide (m < n) && !tl) && matchesL x.parts ap) := by rw [HV.out, t1, t2]; rfl
          exact rest hv3 (.inr ⟨t1, t1', t2, t2'⟩)
      · have t1' : cu.toList = [42] := by simpa using t1
        have hv3 : V = (!decide (n < m) && !(decide (m < n) && !tl) && matchesL x.parts ap) := by rw [HV.out, t1]; rfl
        exact rest hv3 (.inl ⟨t1, t1'⟩)

end Go.Proofs.YtiglpecjpncclaaGreatDoor
/- What the specification's Covers returns. -/
namespace Go.Proofs.YtiglpecjpncclaaGreatDoor
open Go.RowKit Go.Sort
set_option linter.unusedVariables false
set_option linter.unusedSimpArgs false
set_option maxRecDepth 100000
def KBox (w : World) (g : Nat) (b : Bool) (e : Int) : Prop := Blk w g 60 #[.bool b, .int .i64 e] (0, 0)
theorem KBox.facts {w : World} {g : Nat} {b : Bool} {e : Int} (h : KBox w g b e) : w.cell? ⟨g, 0, none⟩ = some (.bool b) ∧ w.cell? ⟨g, 1, none⟩ = some (.int .i64 e) ∧ w.frozen? ⟨g, 0, none⟩ = false ∧ w.frozen? ⟨g, 1, none⟩ = false :=
  ⟨Blk.cell h 0, Blk.cell h 1, blk_free0 h 0, blk_free0 h 1⟩
theorem cust_cov {p q : Part} (hp : CustFit p) (hq : CustFit q) : coversP p.kind p.text q.kind q.text = ((strP p).toList == [42] || (strP p).toList == (strP q).toList) := by
  rw [← cov_covers hp.part hq.part]
  unfold covB
  have hs : sufB (strP p) = false := by
    rcases hp with ⟨hk, ht⟩ | ⟨hk, ht⟩
    · rw [str0 hk]; exact sufB_word (name_word ht)
    · have e := str_star (p := p) (by omega)
      unfold sufB
      rw [size_data, e, ht]
      rfl
  rw [hs, Bool.false_and, Bool.false_and, Bool.or_false]
theorem coverL_at : ∀ (xs ys : List Part), xs.length ≤ ys.length → (coverL xs ys = true ↔ ∀ (k : Nat) (p q : Part), xs[k]? = some p → ys[k]? = some q → coversP p.kind p.text q.kind q.text = true)
  | [], ys, _ => by simp [coverL]
  | p :: ps, [], h => by simp at h
  | p :: ps, x :: ws, h => by
    have ih := coverL_at ps ws (by simpa using h)
    rw [coverL, Bool.and_eq_true, ih]
    constructor
    · rintro ⟨h1, h2⟩ k q y hq hy
      cases k with
      | zero => simp at hq hy; rw [← hq, ← hy]; exact h1
      | succ k => exact h2 k q y (by simpa using hq) (by simpa using hy)
    · intro h3
      exact ⟨h3 0 p x rfl rfl, fun k q y hq hy => h3 (k + 1) q y (by simpa using hq) (by simpa using hy)⟩
/-- A pattern's contract in plain words. -/
def CompAs (s : ByteArray) (x : Pat) (cu : ByteArray) (n : Nat) (tl : Bool) : Prop :=
  ∀ W, Calls Tryz.prog 78 #[.string s] W (fun e w' => Below W.heap.size W w' ∧ ∃ A c, e = .returned (.tuple #[.agg #[.string cu, .slice A n c, .bool tl], .bool true]) ∧ Reads w' 1 A n ((strL x.parts).map .string))
theorem compAs {s : ByteArray} {x : Pat} (hs : s.size ≤ 100000) (hx : compileB s = some x) : CompAs s x (strP x.cust) x.parts.length x.tail := fun W => by
  have := rCompile_any s W hs
  rw [hx] at this
  exact this
theorem compNo {s : ByteArray} (hs : s.size ≤ 100000) (hx : compileB s = none) : ∀ W, Calls Tryz.prog 78 #[.string s] W (fun e w' => Below W.heap.size W w' ∧ ∃ (c : ByteArray) (A : Option Addr) (n k : Nat) (t : Bool), e = .returned (.tuple #[.agg #[.string c, .slice A n k, .bool t], .bool false])) := fun W => by
  have := (rCompile_any s W hs).mono (fun e w' h => h.any_)
  rw [hx] at this
  exact this
theorem compAny {s : ByteArray} (hs : s.size ≤ 100000) : ∀ W, Calls Tryz.prog 78 #[.string s] W (fun e w' => Below W.heap.size W w' ∧ ∃ (c : ByteArray) (A : Option Addr) (n k : Nat) (t : Bool), e = .returned (.tuple #[.agg #[.string c, .slice A n k, .bool t], .bool (compileB s).isSome])) := fun W =>
  (rCompile_any s W hs).mono (fun e w' h => h.any_)
def coverR (p q : ByteArray) : Bool × Int := match compileB p, compileB q with
  | some x, some y => (coverB x y, 0)
  | _, _ => (false, 1)
set_option maxHeartbeats 4000000 in
theorem rCovers0 (p q : ByteArray) (w : World) (b1 b2 : Bool) (hb : (b1 && b2) = false)
    (HC1 : Hid (∀ W, Calls Tryz.prog 78 #[.string p] W (fun e w' => Below W.heap.size W w' ∧ ∃ (c : ByteArray) (A : Option Addr) (n k : Nat) (t : Bool), e = .returned (.tuple #[.agg #[.string c, .slice A n k, .bool t], .bool b1]))))
    (HC2 : Hid (∀ W, Calls Tryz.prog 78 #[.string q] W (fun e w' => Below W.heap.size W w' ∧ ∃ (c : ByteArray) (A : Option Addr) (n k : Nat) (t : Bool), e = .returned (.tuple #[.agg #[.string c, .slice A n k, .bool t], .bool b2])))) :
    Calls Tryz.prog 32 #[.string p, .string q] w (Ret w (.agg #[.bool false, .int .i64 1])) := by
  cases b1 <;> cases b2
  rotate_right
  · cases hb
  all_goals
    go_enter Tryz.func32, Tryz.ntmps32
    go_wp2_with (first | (go_at_call 78; refine (HC1.out _).mono ?_; rintro e w1 ⟨hb1, cx, A, n, k, t, rfl⟩; have hK1 : KBox w1 w.heap.size false 0 := Blk.keep (World.alloc_heap_new _ _) hb1; clear HC1) | (go_at_call 78; refine (HC2.out _).mono ?_; rintro e w2 ⟨hb2, cy, A2, n2, k2, t2, rfl⟩; have hK2 : KBox w2 w.heap.size false 0 := Blk.keep hK1 (blater _ hb2); obtain ⟨k0, k1, g0, g1⟩ := hK2.facts; have hz2 : w.heap.size < w2.heap.size := Blk.lt hK2))
    exact bodyPost_ret (v := .agg #[.bool false, .int .i64 1]) (by simp [results, Tryz.results32, go_sem, hz2, k0, k1, g0, g1]) rfl ⟨rfl, by (repeat (first | exact Below.refl _ _ | assumption | refine Below.drew ?_ | refine balloc ?_ _ | refine bdrewN ?_ _ | refine Below.setCell ?_ (by first | (simp; done) | (simp; omega)) _ | refine bstep ?_ (by assumption)))⟩
set_option maxHeartbeats 4000000 in
theorem rCovers1 (p q : ByteArray) (x y : Pat) (w : World) (hx : PatFit x) (hy : PatFit y) (gx : PatGood x) (gy : PatGood y) (cu cv : ByteArray) (n m : Nat) (tl tm : Bool) (hcu : cu = strP x.cust) (hcv : cv = strP y.cust) (hn : n = x.parts.length) (hm : m = y.parts.length) (htl : tl = x.tail) (htm : tm = y.tail)
    (HC1 : Hid (CompAs p x cu n tl)) (HC2 : Hid (CompAs q y cv m tm)) : Calls Tryz.prog 32 #[.string p, .string q] w (Ret w (.agg #[.bool (coverB x y), .int .i64 0])) := by
  obtain ⟨V, hV⟩ : ∃ V, V = coverB x y := ⟨_, rfl⟩
  rw [← hV]
  have hV2 : V = ((cu.toList == [42] || cu.toList == cv.toList) && !decide (m < n) && !(decide (n < m) && !tl) && !(tm && !tl) && coverL x.parts y.parts) := by
    rw [hV, hcu, hcv, hn, hm, htl, htm, ← cust_cov hx.cust hy.cust]; rfl
  have hn32 := gx.num
  have hm32 := gy.num
  rw [← hn] at hn32
  rw [← hm] at hm32
  have hPS : ∀ z ∈ x.parts, PartFit z ∧ (strP z).size ≤ 200000 := fun z hz => ⟨hx.parts z hz, by have := stringP_size z.kind z.text; have := (gx.parts z hz).2; unfold strP; omega⟩
  have hQS : ∀ z ∈ y.parts, PartFit z ∧ (strP z).size ≤ 200000 := fun z hz => ⟨hy.parts z hz, by have := stringP_size z.kind z.text; have := (gy.parts z hz).2; unfold strP; omega⟩
  have HPS := Lib.hid hPS
  have HQS := Lib.hid hQS
  have HN := Lib.hid hn
  have HM := Lib.hid hm
  have HV := Lib.hid hV2
  clear hV hV2 hcu hcv hn hm htl htm hPS hQS hx hy gx gy
  have h10 : (decide ((10 : Int) < 0)) = false := rfl
  by_cases hA : ((cu.toList == [42]) = true ∧ cu.toList = [42]) ∨ ((cu.toList == [42]) = false ∧ ¬ cu.toList = [42] ∧ (cu.toList == cv.toList) = true ∧ cu.toList = cv.toList)
  rotate_left
  · have t1 : (cu.toList == [42]) = false := by
      cases h : (cu.toList == [42])
      · rfl
      · exact absurd (.inl ⟨h, by simpa using h⟩) hA
    have t1' : ¬ cu.toList = [42] := by simpa using t1
    have t2 : (cu.toList == cv.toList) = false := by
      cases h : (cu.toList == cv.toList)
      · rfl
      · exact absurd (.inr ⟨t1, t1', h, by simpa using h⟩) hA
    have t2' : ¬ cu.toList = cv.toList := by simpa using t2
    have hVf : V = false := by rw [HV.out, t1, t2]; rfl
    clear hA
    go_enter Tryz.func32, Tryz.ntmps32
    go_wp2_with (first | (go_at_call 78; refine (HC1.out _).mono ?_; rintro e w1 ⟨hb1, A, c, rfl, hR⟩; have HR := Lib.hid hR; clear hR; have hK1 : KBox w1 w.heap.size false 0 := Blk.keep (World.alloc_heap_new _ _) hb1; clear HC1) | (go_at_call 78; refine (HC2.out _).mono ?_; rintro e w2 ⟨hb2, B, c2, rfl, hR2⟩; have HR2 := Lib.hid hR2; clear hR2; have hK2 : KBox w2 w.heap.size false 0 := Blk.keep hK1 (blater _ hb2); obtain ⟨k0, k1, g0, g1⟩ := hK2.facts; have hz2 : w.heap.size < w2.heap.size := Blk.lt hK2; have hX2 : PatBox w2 w1.heap.size cu (.slice A n c) _ := (hb2.block w1.heap.size (by simp)).trans (World.alloc_heap_new _ _); obtain ⟨x0, x1, x2, _⟩ := hX2.facts; have hz3 : w1.heap.size < w2.heap.size := Blk.lt hX2; have hz4 : w.heap.size ≠ w1.heap.size := (by have := Blk.lt hK1; omega)))
    all_goals (subst hVf; exact bodyPost_ret (v := .agg #[.bool false, .int .i64 0]) (by simp [results, Tryz.results32, go_sem, hz2, hz4, k0, k1, g0, g1]) rfl ⟨rfl, by (repeat (first | exact Below.refl _ _ | assumption | refine Below.drew ?_ | refine balloc ?_ _ | refine bdrewN ?_ _ | refine Below.setCell ?_ (by first | (simp; done) | (simp; omega)) _ | refine bstep ?_ (by assumption)))⟩)
  have hV3 : V = (!decide (m < n) && !(decide (n < m) && !tl) && !(tm && !tl) && coverL x.parts y.parts) := by
    rw [HV.out]
    rcases hA with ⟨h, _⟩ | ⟨h, _, h2, _⟩
    · rw [h]; rfl
    · rw [h, h2]; rfl
  clear HV
  by_cases h1 : m < n
  · have hVf : V = false := by rw [hV3, decide_eq_true h1]; rfl
    have d1 : decide ((m : Int) < (n : Int)) = true := decide_eq_true (by omega)
    have d1' : decide (m < n) = true := decide_eq_true h1
    clear hV3
    rcases hA with ⟨t1, t1'⟩ | ⟨t1, t1', t2, t2'⟩
    all_goals
      go_enter Tryz.func32, Tryz.ntmps32
      go_wp2_with (first | (go_at_call 78; refine (HC1.out _).mono ?_; rintro e w1 ⟨hb1, A, c, rfl, hR⟩; have HR := Lib.hid hR; clear hR; have hK1 : KBox w1 w.heap.size false 0 := Blk.keep (World.alloc_heap_new _ _) hb1; clear HC1) | (go_at_call 78; refine (HC2.out _).mono ?_; rintro e w2 ⟨hb2, B, c2, rfl, hR2⟩; have HR2 := Lib.hid hR2; clear hR2; have hK2 : KBox w2 w.heap.size false 0 := Blk.keep hK1 (blater _ hb2); obtain ⟨k0, k1, g0, g1⟩ := hK2.facts; have hz2 : w.heap.size < w2.heap.size := Blk.lt hK2; have hX2 : PatBox w2 w1.heap.size cu (.slice A n c) _ := (hb2.block w1.heap.size (by simp)).trans (World.alloc_heap_new _ _); obtain ⟨x0, x1, x2, _⟩ := hX2.facts; have hz3 : w1.heap.size < w2.heap.size := Blk.lt hX2; have hz4 : w.heap.size ≠ w1.heap.size := (by have := Blk.lt hK1; omega)))
      all_goals (subst hVf; exact bodyPost_ret (v := .agg #[.bool false, .int .i64 0]) (by simp [results, Tryz.results32, go_sem, hz2, hz4, k0, k1, g0, g1]) rfl ⟨rfl, by (repeat (first | exact Below.refl _ _ | assumption | refine Below.drew ?_ | refine balloc ?_ _ | refine bdrewN ?_ _ | refine Below.setCell ?_ (by first | (simp; done) | (simp; omega)) _ | refine bstep ?_ (by assumption)))⟩)
  have d1 : decide ((m : Int) < (n : Int)) = false := decide_eq_false (by omega)
  have d1' : decide (m < n) = false := decide_eq_false h1
  by_cases h2 : tl = false ∧ (tm = true ∨ n < m)
  · obtain ⟨rfl, h2⟩ := h2
    have hVf : V = false := by
      rw [hV3]
      rcases h2 with rfl | h2
      · simp
      · rw [decide_eq_true h2]; simp
    clear hV3
    cases tm
    · have h3 : n < m := by
        rcases h2 with h | h
        · cases h
        · exact h
      have d2 : decide ((n : Int) < (m : Int)) = true := decide_eq_true (by omega)
      have d2' : decide (n < m) = true := decide_eq_true h3
      clear h2
      rcases hA with ⟨t1, t1'⟩ | ⟨t1, t1', t2, t2'⟩
      all_goals
        go_enter Tryz.func32, Tryz.ntmps32
        go_wp2_with (first | (go_at_call 78; refine (HC1.out _).mono ?_; rintro e w1 ⟨hb1, A, c, rfl, hR⟩; have HR := Lib.hid hR; clear hR; have hK1 : KBox w1 w.heap.size false 0 := Blk.keep (World.alloc_heap_new _ _) hb1; clear HC1) | (go_at_call 78; refine (HC2.out _).mono ?_; rintro e w2 ⟨hb2, B, c2, rfl, hR2⟩; have HR2 := Lib.hid hR2; clear hR2; have hK2 : KBox w2 w.heap.size false 0 := Blk.keep hK1 (blater _ hb2); obtain ⟨k0, k1, g0, g1⟩ := hK2.facts; have hz2 : w.heap.size < w2.heap.size := Blk.lt hK2; have hX2 : PatBox w2 w1.heap.size cu (.slice A n c) _ := (hb2.block w1.heap.size (by simp)).trans (World.alloc_heap_new _ _); obtain ⟨x0, x1, x2, _⟩ := hX2.facts; have hz3 : w1.heap.size < w2.heap.size := Blk.lt hX2; have hz4 : w.heap.size ≠ w1.heap.size := (by have := Blk.lt hK1; omega)))
        all_goals (subst hVf; exact bodyPost_ret (v := .agg #[.bool false, .int .i64 0]) (by simp [results, Tryz.results32, go_sem, hz2, hz4, k0, k1, g0, g1]) rfl ⟨rfl, by (repeat (first | exact Below.refl _ _ | assumption | refine Below.drew ?_ | refine balloc ?_ _ | refine bdrewN ?_ _ | refine Below.setCell ?_ (by first | (simp; done) | (simp; omega)) _ | refine bstep ?_ (by assumption)))⟩)
    · clear h2
      rcases hA with ⟨t1, t1'⟩ | ⟨t1, t1', t2, t2'⟩
      all_goals
        go_enter Tryz.func32, Tryz.ntmps32
        go_wp2_with (first | (go_at_call 78; refine (HC1.out _).mono ?_; rintro e w1 ⟨hb1, A, c, rfl, hR⟩; have HR := Lib.hid hR; clear hR; have hK1 : KBox w1 w.heap.size false 0 := Blk.keep (World.alloc_heap_new _ _) hb1; clear HC1) | (go_at_call 78; refine (HC2.out _).mono ?_; rintro e w2 ⟨hb2, B, c2, rfl, hR2⟩; have HR2 := Lib.hid hR2; clear hR2; have hK2 : KBox w2 w.heap.size false 0 := Blk.keep hK1 (blater _ hb2); obtain ⟨k0, k1, g0, g1⟩ := hK2.facts; have hz2 : w.heap.size < w2.heap.size := Blk.lt hK2; have hX2 : PatBox w2 w1.heap.size cu (.slice A n c) _ := (hb2.block w1.heap.size (by simp)).trans (World.alloc_heap_new _ _); obtain ⟨x0, x1, x2, _⟩ := hX2.facts; have hz3 : w1.heap.size < w2.heap.size := Blk.lt hX2; have hz4 : w.heap.size ≠ w1.heap.size := (by have := Blk.lt hK1; omega)))
        all_goals (subst hVf; exact bodyPost_ret (v := .agg #[.bool false, .int .i64 0]) (by simp [results, Tryz.results32, go_sem, hz2, hz4, k0, k1, g0, g1]) rfl ⟨rfl, by (repeat (first | exact Below.refl _ _ | assumption | refine Below.drew ?_ | refine balloc ?_ _ | refine bdrewN ?_ _ | refine Below.setCell ?_ (by first | (simp; done) | (simp; omega)) _ | refine bstep ?_ (by assumption)))⟩)
  have hC : (tl = true) ∨ (tl = false ∧ tm = false ∧ decide ((n : Int) < (m : Int)) = false ∧ decide (n < m) = false) := by
    cases tl
    · right
      refine ⟨rfl, ?_, ?_, ?_⟩
      · cases tm
        · rfl
        · exact absurd ⟨rfl, .inl rfl⟩ h2
      · exact decide_eq_false (fun h => h2 ⟨rfl, .inr (by omega)⟩)
      · exact decide_eq_false (fun h => h2 ⟨rfl, .inr h⟩)
    · exact .inl rfl
  have hV4 : V = coverL x.parts y.parts := by
    rw [hV3, d1']
    rcases hC with rfl | ⟨rfl, rfl, _, d⟩
    · simp
    · rw [d]; rfl
  have HV4 := Lib.hid hV4
  have hnm : n ≤ m := by omega
  clear hV3 hV4 h1 h2
  rcases hA with ⟨t1, t1'⟩ | ⟨t1, t1', t2, t2'⟩ <;> rcases hC with rfl | ⟨rfl, rfl, d2, d2'⟩
  all_goals
    go_enter Tryz.func32, Tryz.ntmps32
    go_wp2_with (first | (go_at_call 78; refine (HC1.out _).mono ?_; rintro e w1 ⟨hb1, A, c, rfl, hR⟩; have HR := Lib.hid hR; clear hR; have hK1 : KBox w1 w.heap.size false 0 := Blk.keep (World.alloc_heap_new _ _) hb1; clear HC1) | (go_at_call 78; refine (HC2.out _).mono ?_; rintro e w2 ⟨hb2, B, c2, rfl, hR2⟩; have HR2 := Lib.hid hR2; clear hR2; have hK2 : KBox w2 w.heap.size false 0 := Blk.keep hK1 (blater _ hb2); obtain ⟨k0, k1, g0, g1⟩ := hK2.facts; have hz2 : w.heap.size < w2.heap.size := Blk.lt hK2; have hX2 : PatBox w2 w1.heap.size cu (.slice A n c) _ := (hb2.block w1.heap.size (by simp)).trans (World.alloc_heap_new _ _); obtain ⟨x0, x1, x2, _⟩ := hX2.facts; have hz3 : w1.heap.size < w2.heap.size := Blk.lt hX2; have hz4 : w.heap.size ≠ w1.heap.size := (by have := Blk.lt hK1; omega)))
  all_goals
    go_loopw [9] (fun vi wr => ∃ k : Nat, vi = .int .i64 k ∧ k ≤ n ∧ Hid (∀ j, j < k → ∀ y' z, x.parts[j]? = some y' → y.parts[j]? = some z → coversP y'.kind y'.text z.kind z.text = true) ∧ KBox wr w.heap.size false 0 ∧ (∃ t, PatBox wr w1.heap.size cu (.slice A n c) t) ∧ (∃ t, PatBox wr w2.heap.size cv (.slice B m c2) t) ∧ Below w.heap.size w wr ∧ Below w1.heap.size w1 wr ∧ Below w2.heap.size w2 wr) (fun vi _ => n - (intOf vi).toNat)
    case atStart => exact ⟨0, rfl, Nat.zero_le _, Lib.hid (fun j h => absurd h (by omega)), (Below.heap_alloc _ _ _ hz2).trans hK2, ⟨_, (Below.heap_alloc _ _ _ hz3).trans hX2⟩, ⟨_, World.alloc_heap_new _ _⟩, by (repeat (first | exact Below.refl _ _ | assumption | refine Below.drew ?_ | refine balloc ?_ _ | refine bdrewN ?_ _ | refine Below.setCell ?_ (by first | (simp; done) | (simp; omega)) _ | refine bstep ?_ (by assumption))), by (repeat (first | exact Below.refl _ _ | assumption | refine Below.drew ?_ | refine balloc ?_ _ | refine bdrewN ?_ _ | refine Below.setCell ?_ (by first | (simp; done) | (simp; omega)) _ | refine bstep ?_ (by assumption))), by (repeat (first | exact Below.refl _ _ | assumption | refine Below.drew ?_ | refine balloc ?_ _ | refine bdrewN ?_ _ | refine Below.setCell ?_ (by first | (simp; done) | (simp; omega)) _ | refine bstep ?_ (by assumption)))⟩
    case round =>
      clear hK2 hX2 x0 x1 x2 k0 k1 g0 g1
      obtain ⟨k, rfl, hk, HK, hK, ⟨tx, hX⟩, ⟨ty, hY⟩, hbr, hbr1, hbr2⟩ := hrel
      obtain ⟨x0, x1, x2, _⟩ := hX.facts
      obtain ⟨y0, y1, y2, _⟩ := hY.facts
      by_cases hlt : k < n
      · obtain ⟨a, ha⟩ : ∃ a, x.parts[k]? = some a := ⟨_, List.getElem?_eq_getElem (by have := HN.out; omega)⟩
        obtain ⟨z, hz⟩ : ∃ z, y.parts[k]? = some z := ⟨_, List.getElem?_eq_getElem (by have := HM.out; omega)⟩
        obtain ⟨b, o, rfl, hcell⟩ := (HR.out.keep hbr1).2 (by omega)
        obtain ⟨b2, o2, rfl, hcell2⟩ := (HR2.out.keep hbr2).2 (by omega)
        have hc1 : wr.cell? ⟨b, o + k, none⟩ = some (.string (strP a)) := hcell k _ (by rw [List.getElem?_map, strL_at _ _ _ ha]; rfl)
        have hc2 : wr.cell? ⟨b2, o2 + k, none⟩ = some (.string (strP z)) := hcell2 k _ (by rw [List.getElem?_map, strL_at _ _ _ hz]; rfl)
        obtain ⟨haf, has⟩ := HPS.out a (List.mem_of_getElem? ha)
        obtain ⟨hzf, hzs⟩ := HQS.out z (List.mem_of_getElem? hz)
        have cM := fun W => rCovers_any (strP a) (strP z) W (by omega) (by omega)
        rw [cov_covers haf hzf] at cM
        have hk0 : (0 : Int) ≤ (k : Int) := by omega
        have hk1 : (k : Int) < (n : Int) := by omega
        have hk2 : (k : Int) < (m : Int) := by omega
        have HY := Lib.hid (show x.parts[k]? = some a ∧ y.parts[k]? = some z from ⟨ha, hz⟩)
        generalize strP a = sa at *
        generalize strP z = sz at *
        clear hcell hcell2 ha hz haf hzf
        cases hh : coversP a.kind a.text z.kind z.text
        · have hVf : V = false := by
            rw [HV4.out]
            cases hml : coverL x.parts y.parts
            · rfl
            · have := (coverL_at x.parts y.parts (by have := HM.out; have := HN.out; omega)).1 hml k a z HY.out.1 HY.out.2
              rw [hh] at this; cases this
          rw [hh] at cM
          have HMM := Lib.hid cM
          clear cM hh
          go_wp2_with fail
          have q1 := cell_regrown hc1; have q2 := cell_regrown hc2; have q3 := cell_regrown x1; have q4 := cell_regrown y1
          refine wp_region_quiet_below (by kernel_rfl) (by kernel_rfl) ?_; (repeat (any_goals (first | go_big_quiet_step ((first | exact qcalls HMM.out _ _)) | quiet_step ((first | exact qcalls HMM.out _ _))))); refine wpQuiet_nil ?_; intro _ hwq; obtain ⟨⟨dq, osq⟩, hwq⟩ := hwq; subst hwq; have hb9 := below_regrown (wr) dq osq; generalize grow (redrawn (wr) dq) osq = w9 at *
          have hK9 : KBox w9 w.heap.size false 0 := Blk.keep hK hb9
          obtain ⟨k0, k1, g0, g1⟩ := hK9.facts
          have hz9 : w.heap.size < w9.heap.size := Blk.lt hK9
          go_wp2
          subst hVf
          exact bodyPost_ret (v := .agg #[.bool false, .int .i64 0]) (by simp [results, Tryz.results32, go_sem, hz9, k0, k1, g0, g1]) rfl ⟨rfl, by (repeat (first | exact Below.refl _ _ | assumption | refine Below.drew ?_ | refine balloc ?_ _ | refine bdrewN ?_ _ | refine Below.setCell ?_ (by first | (simp; done) | (simp; omega)) _ | refine bstep ?_ (by assumption)))⟩
        · have HK2 : Hid (∀ j, j < k + 1 → ∀ y' z, x.parts[j]? = some y' → y.parts[j]? = some z → coversP y'.kind y'.text z.kind z.text = true) := Lib.hid (fun j hj y' z' h1 h2 => by
            by_cases e : j = k
            · subst e
              have e1 := HY.out.1.symm.trans h1
              have e2 := HY.out.2.symm.trans h2
              injection e1 with e1; injection e2 with e2
              rw [← e1, ← e2]; exact hh
            · exact HK.out j (by omega) y' z' h1 h2)
          rw [hh] at cM
          have HMM := Lib.hid cM
          clear cM hh HK
          go_wp2_with fail
          have q1 := cell_regrown hc1; have q2 := cell_regrown hc2; have q3 := cell_regrown x1; have q4 := cell_regrown y1
          refine wp_region_quiet_below (by kernel_rfl) (by kernel_rfl) ?_; (repeat (any_goals (first | go_big_quiet_step ((first | exact qcalls HMM.out _ _)) | quiet_step ((first | exact qcalls HMM.out _ _))))); refine wpQuiet_nil ?_; intro _ hwq; obtain ⟨⟨dq, osq⟩, hwq⟩ := hwq; subst hwq; have hb9 := below_regrown (wr) dq osq; generalize grow (redrawn (wr) dq) osq = w9 at *
          go_wp2
          exact ⟨⟨k + 1, by go_num, by omega, HK2, Blk.keep hK hb9, ⟨tx, Blk.keep hX hb9⟩, ⟨ty, Blk.keep hY hb9⟩, bstep hbr hb9, bstep hbr1 hb9, bstep hbr2 hb9⟩, by simp [intOf]; omega⟩
      · obtain rfl : k = n := by omega
        have hVt : V = true := by
          rw [HV4.out]
          exact (coverL_at x.parts y.parts (by have := HM.out; have := HN.out; omega)).2 (fun j y' z h1 h2 => HK.out j (by have := (List.getElem?_eq_some_iff.1 h1).1; have := HN.out; omega) y' z h1 h2)
        obtain ⟨k0, k1, g0, g1⟩ := hK.facts
        have hz9 : w.heap.size < wr.heap.size := Blk.lt hK
        subst hVt
        go_wp2
        exact bodyPost_ret (v := .agg #[.bool true, .int .i64 0]) (by simp [results, Tryz.results32, go_sem, hz9, k0, k1, g0, g1]) rfl ⟨rfl, by (repeat (first | exact Below.refl _ _ | assumption | refine Below.drew ?_ | refine balloc ?_ _ | refine bdrewN ?_ _ | refine Below.setCell ?_ (by first | (simp; done) | (simp; omega)) _ | refine bstep ?_ (by assumption)))⟩
theorem rCovers2_any (p q : ByteArray) (w : World) (hp : p.size ≤ 100000) (hq : q.size ≤ 100000) : Calls Tryz.prog 32 #[.string p, .string q] w (Ret w (.agg #[.bool (coverR p q).1, .int .i64 (coverR p q).2])) := by
  unfold coverR
  cases hx : compileB p with
  | none => exact rCovers0 p q w _ _ rfl (Lib.hid (compNo hp hx)) (Lib.hid (compAny hq))
  | some x =>
    cases hy : compileB q with
    | none => exact rCovers0 p q w _ _ (Bool.and_false _) (Lib.hid (compAny hp)) (Lib.hid (compNo hq hy))
    | some y => exact rCovers1 p q x y w (compile_fit hx) (compile_fit hy) (compile_good p hp x hx) (compile_good q hq y hy) _ _ _ _ _ _ rfl rfl rfl rfl rfl rfl (Lib.hid (compAs hp hx)) (Lib.hid (compAs hq hy))

end Go.Proofs.YtiglpecjpncclaaGreatDoor
/- Plain: the patterns that the specification puts together are the program's. -/
namespace Go.Proofs.YtiglpecjpncclaaGreatDoor
open Go.RowKit Go.Sort
set_option linter.unusedVariables false
set_option linter.unusedSimpArgs false
set_option maxRecDepth 100000
def meetL (xs ys : List Part) : Bool := (mtL [] xs ys).isSome
theorem mtL_isSome : ∀ (xs ys acc : List Part), (mtL acc xs ys).isSome = true ↔ ∀ (k : Nat) (p q : Part), xs[k]? = some p → ys[k]? = some q → meetsP p q = true
  | [], ys, acc => by simp [mtL]
  | a :: xs, [], acc => by
    rw [mtL, mtL_isSome xs []]
    simp
  | a :: xs, b :: ys, acc => by
    rw [mtL]
    cases hm : meetsP a b
    · simp only [Bool.false_eq_true, if_false, Option.isSome_none, false_iff]
      intro h
      have := h 0 a b rfl rfl
      rw [hm] at this; cases this
    · rw [if_pos rfl, mtL_isSome xs ys]
      constructor
      · intro h k p q hp hq
        cases k with
        | zero => simp at hp hq; rw [← hp, ← hq]; exact hm
        | succ k => exact h k p q (by simpa using hp) (by simpa using hq)
      · intro h k p q hp hq
        exact h (k + 1) p q (by simpa using hp) (by simpa using hq)
theorem meetL_iff (xs ys : List Part) : meetL xs ys = true ↔ ∀ (k : Nat) (p q : Part), xs[k]? = some p → ys[k]? = some q → meetsP p q = true := mtL_isSome xs ys []
theorem meetsP_comm (p q : Part) : meetsP p q = meetsP q p := by unfold meetsP; exact Bool.or_comm _ _
theorem meetL_comm (xs ys : List Part) : meetL xs ys = meetL ys xs := by
  rw [Bool.eq_iff_iff, meetL_iff, meetL_iff]
  exact ⟨fun h k p q hp hq => by rw [meetsP_comm]; exact h k q p hq hp, fun h k p q hp hq => by rw [meetsP_comm]; exact h k q p hq hp⟩
theorem commonO_isSome (x y : Pat) : (commonO x y).isSome = (meetsP x.cust y.cust && !(decide (y.parts.length < x.parts.length) && !y.tail) && meetL x.parts y.parts) := by
  unfold commonO meetL
  cases hm : meetsP x.cust y.cust
  · simp
  · cases hd : (decide (y.parts.length < x.parts.length) && !y.tail)
    · simp
    · simp
theorem common_isSome (x y : Pat) : (commonP x y).isSome = (meetsP x.cust y.cust && !(decide (x.parts.length < y.parts.length) && !x.tail) && !(decide (y.parts.length < x.parts.length) && !y.tail) && meetL x.parts y.parts) := by
  unfold commonP
  by_cases h : x.parts.length < y.parts.length
  · rw [if_pos h, commonO_isSome, meetsP_comm, meetL_comm, decide_eq_true h, decide_eq_false (show ¬ y.parts.length < x.parts.length by omega)]
    simp
  · rw [if_neg h, commonO_isSome, decide_eq_false h]
    simp
theorem cust_meets {p q : Part} (hp : CustFit p) (hq : CustFit q) : meetsP p q = ((strP p).toList == [42] || (strP q).toList == [42] || (strP p).toList == (strP q).toList) := by
  unfold meetsP
  rw [cust_cov hp hq, cust_cov hq hp]
  have e : ((strP q).toList == (strP p).toList) = ((strP p).toList == (strP q).toList) := by
    rw [Bool.eq_iff_iff, beq_iff_eq, beq_iff_eq]; exact eq_comm
  rw [e]
  cases ((strP p).toList == [42]) <;> cases ((strP q).toList == [42]) <;> cases ((strP p).toList == (strP q).toList) <;> rfl
theorem part_meets {p q : Part} (hp : PartFit p) (hq : PartFit q) : meetsB (strP p) (strP q) = meetsP p q := by
  unfold meetsB meetsP
  rw [cov_covers hp hq, cov_covers hq hp]
theorem mtL_at : ∀ (xs ys acc r : List Part), mtL acc xs ys = some r → ∃ r', r = acc ++ r' ∧ r'.length = xs.length ∧ ∀ (k : Nat) (a : Part), xs[k]? = some a → r'[k]? = some (match ys[k]? with | some b => meetP a b | none => a)
  | [], ys, acc, r, e => by
    simp [mtL] at e; subst e
    exact ⟨[], by simp, rfl, by simp⟩
  | a :: xs, [], acc, r, e => by
    rw [mtL] at e
    obtain ⟨r', h1, h2, h3⟩ := mtL_at xs [] (acc ++ [a]) r e
    refine ⟨a :: r', by rw [h1]; simp, by simp [h2], fun k b hb => ?_⟩
    cases k with
    | zero => simp at hb ⊢; exact hb
    | succ k =>
      have := h3 k b (by simpa using hb)
      simpa using this
  | a :: xs, b :: ys, acc, r, e => by
    rw [mtL] at e
    split at e
    · obtain ⟨r', h1, h2, h3⟩ := mtL_at xs ys (acc ++ [meetP a b]) r e
      refine ⟨meetP a b :: r', by rw [h1]; simp, by simp [h2], fun k c hc => ?_⟩
      cases k with
      | zero => simp at hc ⊢; rw [hc]
      | succ k =>
        have := h3 k c (by simpa using hc)
        simpa using this
    · cases e
/-- The part that stands at place k in the text of both. -/
def wAt (x y : Pat) (k : Nat) : ByteArray :=
  let w := match x.parts[k]? with
    | some a => strP a
    | none => ⟨#[42]⟩
  match y.parts[k]? with
  | some b => if covB w (strP b) then strP b else w
  | none => w
theorem strP_meet {a b : Part} (ha : PartFit a) (hb : PartFit b) : strP (meetP a b) = if covB (strP a) (strP b) then strP b else strP a := by
  unfold meetP
  rw [cov_covers ha hb]
  split <;> rfl
theorem strP_meet2 {a b : Part} (ha : PartFit a) (hb : PartFit b) (hm : meetsP a b = true) : strP (meetP b a) = if covB (strP a) (strP b) then strP b else strP a := by
  unfold meetP
  rw [cov_covers ha hb]
  unfold meetsP at hm
  cases h1 : coversP a.kind a.text b.kind b.text
  · rw [h1, Bool.false_or] at hm
    rw [if_pos hm]; rfl
  · rw [if_pos rfl]
    split
    · rename_i h2
      rw [covers_anti ha hb h1 h2]
    · rfl
theorem common_at {x y z : Pat} (hx : PatFit x) (hy : PatFit y) (h : commonP x y = some z) : z.tail = (x.tail && y.tail) ∧ z.parts.length = max x.parts.length y.parts.length ∧ (∀ k, k < max x.parts.length y.parts.length → (strL z.parts)[k]? = some (wAt x y k)) ∧ strP z.cust = if (strP x.cust).toList == [42] then strP y.cust else strP x.cust := by
  have hsome : (commonP x y).isSome = true := by rw [h]; rfl
  rw [common_isSome] at hsome
  simp only [Bool.and_eq_true] at hsome
  obtain ⟨⟨⟨hc, hg1⟩, hg2⟩, hl⟩ := hsome
  rw [meetL_iff] at hl
  have hfx : ∀ (k : Nat) (a : Part), x.parts[k]? = some a → PartFit a := fun k a ha => hx.parts a (List.mem_of_getElem? ha)
  have hfy : ∀ (k : Nat) (a : Part), y.parts[k]? = some a → PartFit a := fun k a ha => hy.parts a (List.mem_of_getElem? ha)
  have hcv := cust_cov hx.cust hy.cust
  have hcv2 := cust_cov hy.cust hx.cust
  rw [cust_meets hx.cust hy.cust] at hc
  unfold commonP at h
  by_cases hlt : x.parts.length < y.parts.length
  · rw [if_pos hlt] at h
    unfold commonO at h
    split at h
    · cases h
    · cases hm : mtL [] y.parts x.parts with
      | none => rw [hm] at h; cases h
      | some l =>
        rw [hm, Option.map_some] at h
        injection h with h
        subst h
        obtain ⟨r', h1, h2, h3⟩ := mtL_at _ _ _ _ hm
        rw [List.nil_append] at h1
        subst h1
        refine ⟨Bool.and_comm _ _, by dsimp only; omega, fun k hk => ?_, ?_⟩
        · obtain ⟨b, hb⟩ : ∃ b, y.parts[k]? = some b := ⟨_, List.getElem?_eq_getElem (by omega)⟩
          have h4 := h3 k b hb
          unfold strL
          dsimp only
          rw [List.getElem?_map, h4, Option.map_some]
          congr 1
          show strP _ = _
          unfold wAt
          rw [hb]
          cases ha : x.parts[k]? with
          | none =>
            dsimp only
            rw [if_pos]
            unfold covB
            rw [show ((⟨#[42]⟩ : ByteArray).toList == [42]) = true by rw [Lib.toList_data]; rfl]
            rfl
          | some a => exact strP_meet2 (hfx k a ha) (hfy k b hb) (hl k a b ha hb)
        · dsimp only
          unfold meetP
          rw [hcv2]
          cases e1 : ((strP x.cust).toList == [42])
          · rw [e1, Bool.false_or] at hc
            have e3 : ((strP y.cust).toList == (strP x.cust).toList) = ((strP x.cust).toList == (strP y.cust).toList) := by
              rw [Bool.eq_iff_iff, beq_iff_eq, beq_iff_eq]; exact eq_comm
            rw [e3, hc]; rfl
          · cases e2 : ((strP y.cust).toList == [42])
            · have e3 : ((strP y.cust).toList == (strP x.cust).toList) = false := by
                rw [beq_eq_false_iff_ne]
                intro h
                rw [h] at e2
                rw [e1] at e2; cases e2
              rw [e3]; rfl
            · have : strP x.cust = strP y.cust := by
                rw [beq_iff_eq] at e1 e2
                exact (beq_bytes _ _).1 (by rw [e1, e2]; rfl)
              rw [Bool.true_or, if_pos rfl, if_pos rfl, this]
  · rw [if_neg hlt] at h
    unfold commonO at h
    split at h
    · cases h
    · cases hm : mtL [] x.parts y.parts with
      | none => rw [hm] at h; cases h
      | some l =>
        rw [hm, Option.map_some] at h
        injection h with h
        subst h
        obtain ⟨r', h1, h2, h3⟩ := mtL_at _ _ _ _ hm
        rw [List.nil_append] at h1
        subst h1
        refine ⟨rfl, by dsimp only; omega, fun k hk => ?_, ?_⟩
        · obtain ⟨a, ha⟩ : ∃ a, x.parts[k]? = some a := ⟨_, List.getElem?_eq_getElem (by omega)⟩
          have h4 := h3 k a ha
          unfold strL
          dsimp only
          rw [List.getElem?_map, h4, Option.map_some]
          congr 1
          show strP _ = _
          unfold wAt
          rw [ha]
          cases hb : y.parts[k]? with
          | none => rfl
          | some b => exact strP_meet (hfx k a ha) (hfy k b hb)
        · dsimp only
          unfold meetP
          rw [hcv]
          cases e1 : ((strP x.cust).toList == [42])
          · rw [Bool.false_or]
            cases e3 : ((strP x.cust).toList == (strP y.cust).toList)
            · rfl
            · rw [if_pos rfl, (beq_bytes _ _).1 e3]; rfl
          · rfl

end Go.Proofs.YtiglpecjpncclaaGreatDoor
/- What the specification's Meet returns. -/
namespace Go.Proofs.YtiglpecjpncclaaGreatDoor
open Go.RowKit Go.Sort
set_option linter.unusedVariables false
set_option linter.unusedSimpArgs false
set_option maxRecDepth 100000
def meetR (p q : ByteArray) : Bool × Int := match compileB p, compileB q with
  | some x, some y => ((commonP x y).isSome, 0)
  | _, _ => (false, 1)
set_option maxHeartbeats 4000000 in
theorem rMeet0 (p q : ByteArray) (w : World) (b1 b2 : Bool) (hb : (b1 && b2) = false)
    (HC1 : Hid (∀ W, Calls Tryz.prog 78 #[.string p] W (fun e w' => Below W.heap.size W w' ∧ ∃ (c : ByteArray) (A : Option Addr) (n k : Nat) (t : Bool), e = .returned (.tuple #[.agg #[.string c, .slice A n k, .bool t], .bool b1]))))
    (HC2 : Hid (∀ W, Calls Tryz.prog 78 #[.string q] W (fun e w' => Below W.heap.size W w' ∧ ∃ (c : ByteArray) (A : Option Addr) (n k : Nat) (t : Bool), e = .returned (.tuple #[.agg #[.string c, .slice A n k, .bool t], .bool b2])))) :
    Calls Tryz.prog 33 #[.string p, .string q] w (Ret w (.agg #[.bool false, .int .i64 1])) := by
  cases b1 <;> cases b2
  rotate_right
  · cases hb
  all_goals
    go_enter Tryz.func33, Tryz.ntmps33
    go_wp2_with (first | (go_at_call 78; refine (HC1.out _).mono ?_; rintro e w1 ⟨hb1, cx, A, n, k, t, rfl⟩; have hK1 : KBox w1 w.heap.size false 0 := Blk.keep (World.alloc_heap_new _ _) hb1; clear HC1) | (go_at_call 78; refine (HC2.out _).mono ?_; rintro e w2 ⟨hb2, cy, A2, n2, k2, t2, rfl⟩; have hK2 : KBox w2 w.heap.size false 0 := Blk.keep hK1 (blater _ hb2); obtain ⟨k0, k1, g0, g1⟩ := hK2.facts; have hz2 : w.heap.size < w2.heap.size := Blk.lt hK2))
    exact bodyPost_ret (v := .agg #[.bool false, .int .i64 1]) (by simp [results, Tryz.results33, go_sem, hz2, k0, k1, g0, g1]) rfl ⟨rfl, by (repeat (first | exact Below.refl _ _ | assumption | refine Below.drew ?_ | refine balloc ?_ _ | refine bdrewN ?_ _ | refine Below.setCell ?_ (by first | (simp; done) | (simp; omega)) _ | refine bstep ?_ (by assumption)))⟩
set_option maxHeartbeats 4000000 in
theorem rMeet1 (p q : ByteArray) (x y : Pat) (w : World) (hx : PatFit x) (hy : PatFit y) (gx : PatGood x) (gy : PatGood y) (cu cv : ByteArray) (n m : Nat) (tl tm : Bool) (hcu : cu = strP x.cust) (hcv : cv = strP y.cust) (hn : n = x.parts.length) (hm : m = y.parts.length) (htl : tl = x.tail) (htm : tm = y.tail)
    (HC1 : Hid (CompAs p x cu n tl)) (HC2 : Hid (CompAs q y cv m tm)) : Calls Tryz.prog 33 #[.string p, .string q] w (Ret w (.agg #[.bool (commonP x y).isSome, .int .i64 0])) := by
  obtain ⟨V, hV⟩ : ∃ V, V = (commonP x y).isSome := ⟨_, rfl⟩
  rw [← hV]
  obtain ⟨g1, hg1⟩ : ∃ g1, g1 = !(cu.toList == [42] || cv.toList == [42] || cu.toList == cv.toList) := ⟨_, rfl⟩
  obtain ⟨g2, hg2⟩ : ∃ g2, g2 = ((decide (n < m) && !tl) || (decide (m < n) && !tm)) := ⟨_, rfl⟩
  have hV2 : V = (!g1 && !g2 && meetL x.parts y.parts) := by
    rw [hV, common_isSome, cust_meets hx.cust hy.cust, hg1, hg2, hcu, hcv, hn, hm, htl, htm, Bool.not_not, Bool.not_or, ← Bool.and_assoc]
  have hn32 := gx.num
  have hm32 := gy.num
  rw [← hn] at hn32
  rw [← hm] at hm32
  have hPS : ∀ z ∈ x.parts, PartFit z ∧ (strP z).size ≤ 200000 := fun z hz => ⟨hx.parts z hz, by have := stringP_size z.kind z.text; have := (gx.parts z hz).2; unfold strP; omega⟩
  have hQS : ∀ z ∈ y.parts, PartFit z ∧ (strP z).size ≤ 200000 := fun z hz => ⟨hy.parts z hz, by have := stringP_size z.kind z.text; have := (gy.parts z hz).2; unfold strP; omega⟩
  have HPS := Lib.hid hPS
  have HQS := Lib.hid hQS
  have HN := Lib.hid hn
  have HM := Lib.hid hm
  have HV := Lib.hid hV2
  have HG1 := Lib.hid hg1
  have HG2 := Lib.hid hg2
  clear hV hV2 hcu hcv hn hm htl htm hPS hQS hx hy gx gy hg1 hg2
  go_enter Tryz.func33, Tryz.ntmps33
  go_upto_region 5 with (first | (go_at_call 78; refine (HC1.out _).mono ?_; rintro e w1 ⟨hb1, A, c, rfl, hR⟩; have HR := Lib.hid hR; clear hR; have hK1 : KBox w1 w.heap.size false 0 := Blk.keep (World.alloc_heap_new _ _) hb1; clear HC1) | (go_at_call 78; refine (HC2.out _).mono ?_; rintro e w2 ⟨hb2, B, c2, rfl, hR2⟩; have HR2 := Lib.hid hR2; clear hR2; have hK2 : KBox w2 w.heap.size false 0 := Blk.keep hK1 (blater _ hb2); have hz2 : w.heap.size < w2.heap.size := Blk.lt hK2; have hX2 : PatBox w2 w1.heap.size cu (.slice A n c) tl := (hb2.block w1.heap.size (by simp)).trans (World.alloc_heap_new _ _); obtain ⟨x0, x1, x2, _⟩ := hX2.facts; have hz3 : w1.heap.size < w2.heap.size := Blk.lt hX2))
  go_cut [41] (fun v wx => v = .bool g1 ∧ KBox wx w.heap.size false 0 ∧ PatBox wx w1.heap.size cu (.slice A n c) tl ∧ PatBox wx w2.heap.size cv (.slice B m c2) tm ∧ Below w.heap.size w wx ∧ Below w1.heap.size w1 wx ∧ Below w2.heap.size w2 wx)
  case first =>
    have hbA : Below w.heap.size w w2 := by (repeat (first | exact Below.refl _ _ | assumption | refine Below.drew ?_ | refine balloc ?_ _ | refine bdrewN ?_ _ | refine Below.setCell ?_ (by first | (simp; done) | (simp; omega)) _ | refine bstep ?_ (by assumption)))
    have hbB : Below w1.heap.size w1 w2 := blater _ hb2
    cases t1 : (cu.toList == [42])
    · have t1' : ¬ cu.toList = [42] := by simpa using t1
      cases t2 : (cv.toList == [42])
      · have t2' : ¬ cv.toList = [42] := by simpa using t2
        cases t3 : (cu.toList == cv.toList)
        · have t3' : ¬ cu.toList = cv.toList := by simpa using t3
          obtain rfl : g1 = true := by rw [HG1.out, t1, t2, t3]; rfl
          clear HG1
          go_wp2_with fail
          go_meet
          exact ⟨rfl, (Below.heap_alloc _ _ _ hz2).trans hK2, (Below.heap_alloc _ _ _ hz3).trans hX2, World.alloc_heap_new _ _, balloc hbA _, balloc hbB _, balloc (Below.refl _ _) _⟩
        · have t3' : cu.toList = cv.toList := by simpa using t3
          obtain rfl : g1 = false := by rw [HG1.out, t3]; simp
          clear HG1
          go_wp2_with fail
          go_meet
          exact ⟨rfl, (Below.heap_alloc _ _ _ hz2).trans hK2, (Below.heap_alloc _ _ _ hz3).trans hX2, World.alloc_heap_new _ _, balloc hbA _, balloc hbB _, balloc (Below.refl _ _) _⟩
      · have t2' : cv.toList = [42] := by simpa using t2
        obtain rfl : g1 = false := by rw [HG1.out, t2]; simp
        clear HG1
        go_wp2_with fail
        go_meet
        exact ⟨rfl, (Below.heap_alloc _ _ _ hz2).trans hK2, (Below.heap_alloc _ _ _ hz3).trans hX2, World.alloc_heap_new _ _, balloc hbA _, balloc hbB _, balloc (Below.refl _ _) _⟩
    · have t1' : cu.toList = [42] := by simpa using t1
      obtain rfl : g1 = false := by rw [HG1.out, t1]; rfl
      clear HG1
      go_wp2_with fail
      go_meet
      exact ⟨rfl, (Below.heap_alloc _ _ _ hz2).trans hK2, (Below.heap_alloc _ _ _ hz3).trans hX2, World.alloc_heap_new _ _, balloc hbA _, balloc hbB _, balloc (Below.refl _ _) _⟩
  case rest =>
    obtain ⟨rfl, hKc, hXc, hYc, hbc, hbc1, hbc2⟩ := hcut
    clear hK1 hK2 hX2 x0 x1 x2 hb1 hb2 HG1
    obtain ⟨k0, k1, g0, g9⟩ := hKc.facts
    obtain ⟨x0, x1, x2, _⟩ := hXc.facts
    obtain ⟨y0, y1, y2, _⟩ := hYc.facts
    have hzc : w.heap.size < wc.heap.size := Blk.lt hKc
    cases g1
    rotate_left
    · obtain rfl : V = false := by rw [HV.out]; rfl
      go_wp2
      exact bodyPost_ret (v := .agg #[.bool false, .int .i64 0]) (by simp [results, Tryz.results33, go_sem, hzc, k0, k1, g0, g9]) rfl ⟨rfl, by (repeat (first | exact Below.refl _ _ | assumption | refine Below.drew ?_ | refine balloc ?_ _ | refine bdrewN ?_ _ | refine Below.setCell ?_ (by first | (simp; done) | (simp; omega)) _ | refine bstep ?_ (by assumption)))⟩
    go_upto_region 7 with fail
    go_cut [68] (fun v wx => v = .bool g2 ∧ wx = wc)
    case first =>
      rcases Nat.lt_trichotomy n m with h | h | h
      · have d1 : decide ((n : Int) < (m : Int)) = true := decide_eq_true (by omega)
        have d1' : decide (n < m) = true := decide_eq_true h
        have d2 : decide ((m : Int) < (n : Int)) = false := decide_eq_false (by omega)
        have d2' : decide (m < n) = false := decide_eq_false (by omega)
        obtain rfl : g2 = !tl := by rw [HG2.out, d1', d2']; simp
        clear HG2
        cases tl
        all_goals
          go_wp2_with fail
          go_meet
          exact ⟨rfl, rfl⟩
      · subst h
        have d1 : decide ((n : Int) < (n : Int)) = false := decide_eq_false (by omega)
        have d1' : decide (n < n) = false := decide_eq_false (by omega)
        obtain rfl : g2 = false := by rw [HG2.out, d1']; simp
        clear HG2
        go_wp2_with fail
        go_meet
        exact ⟨rfl, rfl⟩
      · have d1 : decide ((n : Int) < (m : Int)) = false := decide_eq_false (by omega)
        have d1' : decide (n < m) = false := decide_eq_false (by omega)
        have d2 : decide ((m : Int) < (n : Int)) = true := decide_eq_true (by omega)
        have d2' : decide (m < n) = true := decide_eq_true h
        obtain rfl : g2 = !tm := by rw [HG2.out, d1', d2']; simp
        clear HG2
        cases tm
        all_goals
          go_wp2_with fail
          go_meet
          exact ⟨rfl, rfl⟩
    case rest =>
    obtain ⟨rfl, rfl⟩ := hcut
    clear HG2
    cases g2
    rotate_left
    · obtain rfl : V = false := by rw [HV.out]; rfl
      go_wp2
      exact bodyPost_ret (v := .agg #[.bool false, .int .i64 0]) (by simp [results, Tryz.results33, go_sem, hzc, k0, k1, g0, g9]) rfl ⟨rfl, by (repeat (first | exact Below.refl _ _ | assumption | refine Below.drew ?_ | refine balloc ?_ _ | refine bdrewN ?_ _ | refine Below.setCell ?_ (by first | (simp; done) | (simp; omega)) _ | refine bstep ?_ (by assumption)))⟩
    have HV4 : Hid (V = meetL x.parts y.parts) := Lib.hid (by rw [HV.out]; simp)
    clear HV
    go_wp2
    clear k0 k1 g0 g9 x0 x1 x2 y0 y1 y2 hzc
    go_loopw [9] (fun vi wr => ∃ k : Nat, vi = .int .i64 k ∧ k ≤ n ∧ k ≤ m ∧ Hid (∀ j, j < k → ∀ y' z, x.parts[j]? = some y' → y.parts[j]? = some z → meetsP y' z = true) ∧ KBox wr w.heap.size false 0 ∧ PatBox wr w1.heap.size cu (.slice A n c) tl ∧ PatBox wr w2.heap.size cv (.slice B m c2) tm ∧ Below w.heap.size w wr ∧ Below w1.heap.size w1 wr ∧ Below w2.heap.size w2 wr) (fun vi _ => n - (intOf vi).toNat)
    case atStart => exact ⟨0, rfl, Nat.zero_le _, Nat.zero_le _, Lib.hid (fun j h => absurd h (by omega)), hKc, hXc, hYc, hbc, hbc1, hbc2⟩
    case round =>
      clear hKc hXc hYc hbc hbc1 hbc2
      obtain ⟨k, rfl, hk, hkm, HK, hK, hX, hY, hbr, hbr1, hbr2⟩ := hrel
      obtain ⟨x0, x1, x2, _⟩ := hX.facts
      obtain ⟨y0, y1, y2, _⟩ := hY.facts
      have hend : (k = n ∨ k = m) → V = true := fun he => by
        rw [HV4.out]
        refine (meetL_iff _ _).2 (fun j y' z h1 h2 => HK.out j ?_ y' z h1 h2)
        have := (List.getElem?_eq_some_iff.1 h1).1
        have := (List.getElem?_eq_some_iff.1 h2).1
        have := HM.out
        have := HN.out
        omega
      have HEND := Lib.hid hend
      clear hend
      by_cases hlt : k < n
      rotate_left
      · have hVt := HEND.out (.inl (by omega))
        have d1 : decide ((k : Int) < (n : Int)) = false := decide_eq_false (by omega)
        obtain ⟨k0, k1, g0, g9⟩ := hK.facts
        have hz9 : w.heap.size < wr.heap.size := Blk.lt hK
        subst hVt
        go_wp2
        exact bodyPost_ret (v := .agg #[.bool true, .int .i64 0]) (by simp [results, Tryz.results33, go_sem, hz9, k0, k1, g0, g9]) rfl ⟨rfl, by (repeat (first | exact Below.refl _ _ | assumption | refine Below.drew ?_ | refine balloc ?_ _ | refine bdrewN ?_ _ | refine Below.setCell ?_ (by first | (simp; done) | (simp; omega)) _ | refine bstep ?_ (by assumption)))⟩
      have d1 : decide ((k : Int) < (n : Int)) = true := decide_eq_true (by omega)
      by_cases hlt2 : k < m
      rotate_left
      · have hVt := HEND.out (.inr (by omega))
        have d2 : decide ((k : Int) < (m : Int)) = false := decide_eq_false (by omega)
        obtain ⟨k0, k1, g0, g9⟩ := hK.facts
        have hz9 : w.heap.size < wr.heap.size := Blk.lt hK
        subst hVt
        go_wp2
        exact bodyPost_ret (v := .agg #[.bool true, .int .i64 0]) (by simp [results, Tryz.results33, go_sem, hz9, k0, k1, g0, g9]) rfl ⟨rfl, by (repeat (first | exact Below.refl _ _ | assumption | refine Below.drew ?_ | refine balloc ?_ _ | refine bdrewN ?_ _ | refine Below.setCell ?_ (by first | (simp; done) | (simp; omega)) _ | refine bstep ?_ (by assumption)))⟩
      have d2 : decide ((k : Int) < (m : Int)) = true := decide_eq_true (by omega)
      clear HEND
      obtain ⟨a, ha⟩ : ∃ a, x.parts[k]? = some a := ⟨_, List.getElem?_eq_getElem (by have := HN.out; omega)⟩
      obtain ⟨z, hz⟩ : ∃ z, y.parts[k]? = some z := ⟨_, List.getElem?_eq_getElem (by have := HM.out; omega)⟩
      obtain ⟨b, o, rfl, hcell⟩ := (HR.out.keep hbr1).2 (by omega)
      obtain ⟨b2, o2, rfl, hcell2⟩ := (HR2.out.keep hbr2).2 (by omega)
      have hc1 : wr.cell? ⟨b, o + k, none⟩ = some (.string (strP a)) := hcell k _ (by rw [List.getElem?_map, strL_at _ _ _ ha]; rfl)
      have hc2 : wr.cell? ⟨b2, o2 + k, none⟩ = some (.string (strP z)) := hcell2 k _ (by rw [List.getElem?_map, strL_at _ _ _ hz]; rfl)
      obtain ⟨haf, has⟩ := HPS.out a (List.mem_of_getElem? ha)
      obtain ⟨hzf, hzs⟩ := HQS.out z (List.mem_of_getElem? hz)
      have cM := fun W => rMeets_any (strP a) (strP z) W (by omega) (by omega)
      rw [part_meets haf hzf] at cM
      have hk0 : (0 : Int) ≤ (k : Int) := by omega
      have hk1 : (k : Int) < (n : Int) := by omega
      have hk2 : (k : Int) < (m : Int) := by omega
      have HY := Lib.hid (show x.parts[k]? = some a ∧ y.parts[k]? = some z from ⟨ha, hz⟩)
      generalize strP a = sa at *
      generalize strP z = sz at *
      clear hcell hcell2 ha hz haf hzf
      cases hh : meetsP a z
      · have hVf : V = false := by
          rw [HV4.out]
          cases hml : meetL x.parts y.parts
          · rfl
          · have := (meetL_iff x.parts y.parts).1 hml k a z HY.out.1 HY.out.2
            rw [hh] at this; cases this
        rw [hh] at cM
        have HMM := Lib.hid cM
        clear cM hh
        go_wp2_with fail
        have q1 := cell_regrown hc1; have q2 := cell_regrown hc2; have q3 := cell_regrown x1; have q4 := cell_regrown y1
        refine wp_region_quiet_below (by kernel_rfl) (by kernel_rfl) ?_; (repeat (any_goals (first | go_big_quiet_step ((first | exact qcalls HMM.out _ _)) | quiet_step ((first | exact qcalls HMM.out _ _))))); refine wpQuiet_nil ?_; intro _ hwq; obtain ⟨⟨dq, osq⟩, hwq⟩ := hwq; subst hwq; have hb9 := below_regrown (wr) dq osq; generalize grow (redrawn (wr) dq) osq = w9 at *
        have hK9 : KBox w9 w.heap.size false 0 := Blk.keep hK hb9
        obtain ⟨k0, k1, g0, g9⟩ := hK9.facts
        have hz9 : w.heap.size < w9.heap.size := Blk.lt hK9
        subst hVf
        go_wp2
        exact bodyPost_ret (v := .agg #[.bool false, .int .i64 0]) (by simp [results, Tryz.results33, go_sem, hz9, k0, k1, g0, g9]) rfl ⟨rfl, by (repeat (first | exact Below.refl _ _ | assumption | refine Below.drew ?_ | refine balloc ?_ _ | refine bdrewN ?_ _ | refine Below.setCell ?_ (by first | (simp; done) | (simp; omega)) _ | refine bstep ?_ (by assumption)))⟩
      · have HK2 : Hid (∀ j, j < k + 1 → ∀ y' z, x.parts[j]? = some y' → y.parts[j]? = some z → meetsP y' z = true) := Lib.hid (fun j hj y' z' h1 h2 => by
          by_cases e : j = k
          · subst e
            have e1 := HY.out.1.symm.trans h1
            have e2 := HY.out.2.symm.trans h2
            injection e1 with e1; injection e2 with e2
            rw [← e1, ← e2]; exact hh
          · exact HK.out j (by omega) y' z' h1 h2)
        rw [hh] at cM
        have HMM := Lib.hid cM
        clear cM hh HK
        go_wp2_with fail
        have q1 := cell_regrown hc1; have q2 := cell_regrown hc2; have q3 := cell_regrown x1; have q4 := cell_regrown y1
        refine wp_region_quiet_below (by kernel_rfl) (by kernel_rfl) ?_; (repeat (any_goals (first | go_big_quiet_step ((first | exact qcalls HMM.out _ _)) | quiet_step ((first | exact qcalls HMM.out _ _))))); refine wpQuiet_nil ?_; intro _ hwq; obtain ⟨⟨dq, osq⟩, hwq⟩ := hwq; subst hwq; have hb9 := below_regrown (wr) dq osq; generalize grow (redrawn (wr) dq) osq = w9 at *
        go_wp2
        exact ⟨⟨k + 1, by go_num, by omega, by omega, HK2, Blk.keep hK hb9, Blk.keep hX hb9, Blk.keep hY hb9, bstep hbr hb9, bstep hbr1 hb9, bstep hbr2 hb9⟩, by simp [intOf]; omega⟩
theorem rMeet2_any (p q : ByteArray) (w : World) (hp : p.size ≤ 100000) (hq : q.size ≤ 100000) : Calls Tryz.prog 33 #[.string p, .string q] w (Ret w (.agg #[.bool (meetR p q).1, .int .i64 (meetR p q).2])) := by
  unfold meetR
  cases hx : compileB p with
  | none => exact rMeet0 p q w _ _ rfl (Lib.hid (compNo hp hx)) (Lib.hid (compAny hq))
  | some x =>
    cases hy : compileB q with
    | none => exact rMeet0 p q w _ _ (Bool.and_false _) (Lib.hid (compAny hp)) (Lib.hid (compNo hq hy))
    | some y => exact rMeet1 p q x y w (compile_fit hx) (compile_fit hy) (compile_good p hp x hx) (compile_good q hq y hy) _ _ _ _ _ _ rfl rfl rfl rfl rfl rfl (Lib.hid (compAs hp hx)) (Lib.hid (compAs hq hy))

end Go.Proofs.YtiglpecjpncclaaGreatDoor
/- What the specification's Both returns. -/
namespace Go.Proofs.YtiglpecjpncclaaGreatDoor
open Go.RowKit Go.Sort
set_option linter.unusedVariables false
set_option linter.unusedSimpArgs false
set_option maxRecDepth 100000
def bothR (r : Option (Option Pat)) : ByteArray × Bool × Int := match r with
  | none => (⟨#[]⟩, false, 1)
  | some none => (⟨#[]⟩, false, 0)
  | some (some z) => (patS z, true, 0)
theorem bothV_R (r : Option (Option Pat)) : bothV r = .tuple #[.string (bothR r).1, .bool (bothR r).2.1, .int .i64 (bothR r).2.2] := by
  rcases r with _ | _ | z <;> rfl
def JBox (w : World) (g : Nat) (s : ByteArray) (b : Bool) (e : Int) : Prop := Blk w g 63 #[.string s, .bool b, .int .i64 e] (0, 0)
theorem JBox.facts {w : World} {g : Nat} {s : ByteArray} {b : Bool} {e : Int} (h : JBox w g s b e) : w.cell? ⟨g, 0, none⟩ = some (.string s) ∧ w.cell? ⟨g, 1, none⟩ = some (.bool b) ∧ w.cell? ⟨g, 2, none⟩ = some (.int .i64 e) ∧ w.frozen? ⟨g, 0, none⟩ = false ∧ w.frozen? ⟨g, 1, none⟩ = false ∧ w.frozen? ⟨g, 2, none⟩ = false :=
  ⟨Blk.cell h 0, Blk.cell h 1, Blk.cell h 2, blk_free0 h 0, blk_free0 h 1, blk_free0 h 2⟩
theorem pathL_bd (B : Nat) : ∀ l : List (List UInt8), (∀ p ∈ l, p.length ≤ B) → (pathL l).length ≤ l.length * (B + 1)
  | [], _ => by simp [pathL]
  | p :: l, h => by
    have h1 := h p (by simp)
    have h2 := pathL_bd B l (fun q hq => h q (by simp [hq]))
    simp only [pathL, List.flatMap_cons, List.length_append, List.length_cons] at h2 ⊢
    rw [Nat.add_mul]
    omega
theorem pathK_bd (c : ByteArray) (xs : List ByteArray) (k B : Nat) (h : ∀ x ∈ xs, x.size ≤ B) (hk : xs.length ≤ 100) : (toB (pathK c xs k)).size ≤ c.size + 100 * (B + 1) := by
  rw [toB_size]
  unfold pathK
  have := pathL_bd B ((lists xs).take k) (fun p hp => by
    obtain ⟨x, hx, rfl⟩ := List.mem_map.1 (List.mem_of_mem_take hp)
    have := h x hx
    rw [size_data] at this; exact this)
  have hl : ((lists xs).take k).length ≤ 100 := by
    rw [List.length_take]; simp [lists]; omega
  rw [List.length_append, size_data]
  have := Nat.mul_le_mul_right (B + 1) hl
  omega
theorem patS_path (z : Pat) : patS z = if z.tail then toB (pathK (strP z.cust) (strL z.parts) z.parts.length) ++ ⟨#[47, 42, 42]⟩ else toB (pathK (strP z.cust) (strL z.parts) z.parts.length) := by
  have hall : (lists (strL z.parts)).take z.parts.length = lists (strL z.parts) := List.take_of_length_le (by simp [lists, strL])
  have hd : (patS z).data.toList = (strP z.cust).data.toList ++ pathL (lists (strL z.parts ++ tailL z.tail)) := by
    rw [patS_eq]; exact join_data _ _
  have hl : lists (strL z.parts ++ tailL z.tail) = lists (strL z.parts) ++ lists (tailL z.tail) := by simp [lists]
  have hp : ∀ a b : List (List UInt8), pathL (a ++ b) = pathL a ++ pathL b := fun a b => by simp [pathL]
  rw [hl, hp] at hd
  refine bytes_ext ?_
  rw [hd]
  unfold pathK
  rw [hall]
  cases z.tail
  · simp [tailL, lists, pathL, toB]
  · simp [tailL, lists, pathL, toB]
set_option maxHeartbeats 2000000 in
theorem rBoth0 (p q : ByteArray) (w : World) (er : Int) (her : er = 0 ∨ er = 1) (HMT : Hid (∀ W, Calls Tryz.prog 33 #[.string p, .string q] W (Ret W (.agg #[.bool false, .int .i64 er])))) :
    Calls Tryz.prog 34 #[.string p, .string q] w (Ret w (.agg #[.string ⟨#[]⟩, .bool false, .int .i64 er])) := by
  rcases her with rfl | rfl
  · go_enter Tryz.func34, Tryz.ntmps34
    go_wp2_with (go_at_call 33; refine (HMT.out _).mono ?_; rintro e w1 ⟨rfl, hb1⟩; have hJ1 : JBox w1 w.heap.size ⟨#[]⟩ false 0 := Blk.keep (World.alloc_heap_new _ _) hb1; obtain ⟨j0, j1, j2, f0, f1, f2⟩ := hJ1.facts; have hz1 : w.heap.size < w1.heap.size := Blk.lt hJ1)
    exact bodyPost_ret (v := .agg #[.string ⟨#[]⟩, .bool false, .int .i64 0]) (by simp [results, Tryz.results34, go_sem, hz1, j0, j1, j2, f0, f1, f2]) rfl ⟨rfl, by (repeat (first | exact Below.refl _ _ | assumption | refine Below.drew ?_ | refine balloc ?_ _ | refine bdrewN ?_ _ | refine Below.setCell ?_ (by first | (simp; done) | (simp; omega)) _ | refine bstep ?_ (by assumption)))⟩
  · go_enter Tryz.func34, Tryz.ntmps34
    go_wp2_with (go_at_call 33; refine (HMT.out _).mono ?_; rintro e w1 ⟨rfl, hb1⟩; have hJ1 : JBox w1 w.heap.size ⟨#[]⟩ false 0 := Blk.keep (World.alloc_heap_new _ _) hb1; obtain ⟨j0, j1, j2, f0, f1, f2⟩ := hJ1.facts; have hz1 : w.heap.size < w1.heap.size := Blk.lt hJ1)
    exact bodyPost_ret (v := .agg #[.string ⟨#[]⟩, .bool false, .int .i64 1]) (by simp [results, Tryz.results34, go_sem, hz1, j0, j1, j2, f0, f1, f2]) rfl ⟨rfl, by (repeat (first | exact Below.refl _ _ | assumption | refine Below.drew ?_ | refine balloc ?_ _ | refine bdrewN ?_ _ | refine Below.setCell ?_ (by first | (simp; done) | (simp; omega)) _ | refine bstep ?_ (by assumption)))⟩
set_option maxHeartbeats 4000000 in
theorem rBoth1 (p q : ByteArray) (x y z : Pat) (w : World) (hx : PatFit x) (hy : PatFit y) (gx : PatGood x) (gy : PatGood y) (hxy : commonP x y = some z) (cu cv : ByteArray) (n m : Nat) (tl tm : Bool) (hcu : cu = strP x.cust) (hcv : cv = strP y.cust) (hn : n = x.parts.length) (hm : m = y.parts.length) (htl : tl = x.tail) (htm : tm = y.tail)
    (HMT : Hid (∀ W, Calls Tryz.prog 33 #[.string p, .string q] W (Ret W (.agg #[.bool true, .int .i64 0]))))
    (HC1 : Hid (CompAs p x cu n tl)) (HC2 : Hid (CompAs q y cv m tm)) : Calls Tryz.prog 34 #[.string p, .string q] w (Ret w (.agg #[.string (patS z), .bool true, .int .i64 0])) := by
  obtain ⟨e1, e2, e3, e4⟩ := common_at hx hy hxy
  obtain ⟨V, hV⟩ : ∃ V, V = patS z := ⟨_, rfl⟩
  rw [← hV]
  rw [patS_path, e1, e2, ← hn, ← hm, ← htl, ← htm] at hV
  rw [← hcu, ← hcv] at e4
  rw [← hn, ← hm] at e3
  obtain ⟨cz, hcz⟩ : ∃ cz, cz = strP z.cust := ⟨_, rfl⟩
  rw [← hcz] at hV e4
  have hn32 := gx.num
  have hm32 := gy.num
  rw [← hn] at hn32
  rw [← hm] at hm32
  have hPS : ∀ z ∈ x.parts, PartFit z ∧ (strP z).size ≤ 200000 := fun z hz => ⟨hx.parts z hz, by have := stringP_size z.kind z.text; have := (gx.parts z hz).2; unfold strP; omega⟩
  have hQS : ∀ z ∈ y.parts, PartFit z ∧ (strP z).size ≤ 200000 := fun z hz => ⟨hy.parts z hz, by have := stringP_size z.kind z.text; have := (gy.parts z hz).2; unfold strP; omega⟩
  have hcus : cu.size ≤ 200000 := by rw [hcu]; have := stringP_size x.cust.kind x.cust.text; have := gx.text; unfold strP; omega
  have hcvs : cv.size ≤ 200000 := by rw [hcv]; have := stringP_size y.cust.kind y.cust.text; have := gy.text; unfold strP; omega
  have hws : ∀ k, (wAt x y k).size ≤ 200000 := fun k => by
    unfold wAt
    have h1 : ∀ a, x.parts[k]? = some a → (strP a).size ≤ 200000 := fun a ha => (hPS a (List.mem_of_getElem? ha)).2
    have h2 : ∀ a, y.parts[k]? = some a → (strP a).size ≤ 200000 := fun a ha => (hQS a (List.mem_of_getElem? ha)).2
    cases ha : x.parts[k]? with
    | none =>
      cases hb : y.parts[k]? with
      | none => exact (by decide : (1 : Nat) ≤ 200000)
      | some b =>
        dsimp only
        split
        · exact h2 b hb
        · exact (by decide : (1 : Nat) ≤ 200000)
    | some a =>
      cases hb : y.parts[k]? with
      | none => exact h1 a ha
      | some b =>
        dsimp only
        split
        · exact h2 b hb
        · exact h1 a ha
  have hzl : (strL z.parts).length = max n m := by rw [strL_len, e2, hn, hm]
  have hzs : ∀ s ∈ strL z.parts, s.size ≤ 200000 := fun s hs => by
    obtain ⟨k, hk, rfl⟩ := List.getElem_of_mem hs
    have h5 := e3 k (by omega)
    rw [List.getElem?_eq_getElem hk] at h5
    injection h5 with h5
    rw [h5]; exact hws k
  have hbd : ∀ k, (toB (pathK cz (strL z.parts) k)).size ≤ 40000000 := fun k => by
    have := pathK_bd cz (strL z.parts) k 200000 hzs (by omega)
    have : cz.size ≤ 200000 := by rw [e4]; split <;> assumption
    omega
  have hc0 : toB (pathK cz (strL z.parts) 0) = cz := by simp [pathK, pathL, toB]
  have hadd : ∀ k, k < max n m → toB (pathK cz (strL z.parts) k) ++ ⟨#[47]⟩ ++ wAt x y k = toB (pathK cz (strL z.parts) (k + 1)) := fun k hk => pathK_add _ _ _ _ (e3 k hk)
  have HPS := Lib.hid hPS
  have HQS := Lib.hid hQS
  have HN := Lib.hid hn
  have HM := Lib.hid hm
  have HV := Lib.hid hV
  have HADD := Lib.hid hadd
  have HBD := Lib.hid hbd
  have HC0 := Lib.hid hc0
  have HE4 := Lib.hid e4
  have HWS := Lib.hid hws
  clear hV hcu hcv hn hm htl htm hPS hQS hx hy gx gy e1 e2 e3 e4 hcz hws hzl hzs hbd hc0 hadd hxy
  generalize strL z.parts = zs at *
  have hEND : (cu.toList == [42]) = true ∧ cu.toList = [42] ∧ cz = cv ∨ (cu.toList == [42]) = false ∧ ¬ cu.toList = [42] ∧ cz = cu := by
    cases h : (cu.toList == [42])
    · exact .inr ⟨rfl, by simpa using h, by rw [HE4.out, if_neg (by rw [h]; decide)]⟩
    · exact .inl ⟨rfl, by simpa using h, by rw [HE4.out, if_pos h]⟩
  rcases hEND with ⟨t1, t1', hz⟩ | ⟨t1, t1', hz⟩
  all_goals
    go_enter Tryz.func34, Tryz.ntmps34
    go_wp2_with (first | (go_at_call 33; refine (HMT.out _).mono ?_; rintro e w1 ⟨rfl, hb1⟩; have hJ1 : JBox w1 w.heap.size ⟨#[]⟩ false 0 := Blk.keep (World.alloc_heap_new _ _) hb1; obtain ⟨j0, j1, j2, f0, f1, f2⟩ := hJ1.facts; have hz1 : w.heap.size < w1.heap.size := Blk.lt hJ1) | (go_at_call 78; refine (HC1.out _).mono ?_; rintro e w2 ⟨hb2, A, c, rfl, hR⟩; have HR := Lib.hid hR; clear hR; have hJ2 : JBox w2 w.heap.size ⟨#[]⟩ false 0 := Blk.keep hJ1 (blater _ hb2); clear HC1) | (go_at_call 78; refine (HC2.out _).mono ?_; rintro e w3 ⟨hb3, B, c2, rfl, hR2⟩; have HR2 := Lib.hid hR2; clear hR2; have hJ3 : JBox w3 w.heap.size ⟨#[]⟩ false 0 := Blk.keep hJ2 (blater _ hb3); have hX3 : PatBox w3 w2.heap.size cu (.slice A n c) tl := (hb3.block w2.heap.size (by simp)).trans (World.alloc_heap_new _ _); clear j0 j1 j2 f0 f1 f2; obtain ⟨x0, x1, x2, _⟩ := hX3.facts; have hz3 : w2.heap.size < w3.heap.size := Blk.lt hX3; have hz33 : w.heap.size < w3.heap.size := Blk.lt hJ3))
  all_goals
    clear x0 x1 x2 t1 t1'
    go_loopw [10, 11] (fun vo vi wr => ∃ k : Nat, vi = .int .i64 k ∧ k ≤ max n m ∧ vo = .string (toB (pathK cz zs k)) ∧ JBox wr w.heap.size ⟨#[]⟩ false 0 ∧ PatBox wr w2.heap.size cu (.slice A n c) tl ∧ PatBox wr w3.heap.size cv (.slice B m c2) tm ∧ Below w.heap.size w wr ∧ Below w2.heap.size w2 wr ∧ Below w3.heap.size w3 wr) (fun _ vi _ => max n m - (intOf vi).toNat)
    case atStart => exact ⟨0, rfl, Nat.zero_le _, by rw [HC0.out, hz], (Below.heap_alloc _ _ _ hz33).trans hJ3, (Below.heap_alloc _ _ _ hz3).trans hX3, World.alloc_heap_new _ _, by (repeat (first | exact Below.refl _ _ | assumption | refine Below.drew ?_ | refine balloc ?_ _ | refine bdrewN ?_ _ | refine Below.setCell ?_ (by first | (simp; done) | (simp; omega)) _ | refine bstep ?_ (by assumption))), balloc (blater _ hb3) _, balloc (Below.refl _ _) _⟩
    case round =>
      clear hJ3 hX3
      obtain ⟨k, rfl, hk, rfl, hJ, hX, hY, hbr, hbr2, hbr3⟩ := hrel
      obtain ⟨x0, x1, x2, _⟩ := hX.facts
      obtain ⟨y0, y1, y2, _⟩ := hY.facts
      by_cases hlt : k < max n m
      · have hs := HBD.out k
        have hA := HADD.out k hlt
        have hw := HWS.out k
        unfold wAt at hA hw
        have hmx : (max (n : Int) (m : Int)) = ((max n m : Nat) : Int) := by omega
        by_cases hkn : k < n
        · have dn : decide ((k : Int) < (n : Int)) = true := decide_eq_true (by omega)
          obtain ⟨a, ha⟩ : ∃ a, x.parts[k]? = some a := ⟨_, List.getElem?_eq_getElem (by have := HN.out; omega)⟩
          obtain ⟨b, o, rfl, hcell⟩ := (HR.out.keep hbr2).2 (by omega)
          have hc1 : wr.cell? ⟨b, o + k, none⟩ = some (.string (strP a)) := hcell k _ (by rw [List.getElem?_map, strL_at _ _ _ ha]; rfl)
          rw [ha] at hA hw
          obtain ⟨haf, has⟩ := HPS.out a (List.mem_of_getElem? ha)
          clear hcell ha haf
          by_cases hkm : k < m
          · have dm : decide ((k : Int) < (m : Int)) = true := decide_eq_true (by omega)
            obtain ⟨z', hz'⟩ : ∃ z', y.parts[k]? = some z' := ⟨_, List.getElem?_eq_getElem (by have := HM.out; omega)⟩
            obtain ⟨b2, o2, rfl, hcell2⟩ := (HR2.out.keep hbr3).2 (by omega)
            have hc2 : wr.cell? ⟨b2, o2 + k, none⟩ = some (.string (strP z')) := hcell2 k _ (by rw [List.getElem?_map, strL_at _ _ _ hz']; rfl)
            rw [hz'] at hA hw
            obtain ⟨hzf, hzs⟩ := HQS.out z' (List.mem_of_getElem? hz')
            dsimp only at hA hw
            have cM := fun W => rCovers_any (strP a) (strP z') W (by omega) (by omega)
            clear hcell2 hz' hzf
            generalize strP a = sa at *
            generalize strP z' = sz at *
            generalize covB sa sz = cv' at *
            generalize toB (pathK cz zs k) = S at *
            have HCV := Lib.hid cM
            have HA := Lib.hid hA
            clear cM hA
            have n1 : ¬ 9223372036854775807 < S.size + 1 := by omega
            have n2 : ¬ 9223372036854775807 < S.size + 1 + sa.size := by omega
            have n3 : ¬ 9223372036854775807 < S.size + 1 + sz.size := by omega
            cases cv'
            · go_wp2_with (go_at_call 79; refine (HCV.out _).mono ?_; rintro e w9 ⟨rfl, hb9⟩; have hJ9 : JBox w9 w.heap.size ⟨#[]⟩ false 0 := Blk.keep hJ hb9; have hX9 : PatBox w9 w2.heap.size cu _ tl := Blk.keep hX hb9; have hY9 : PatBox w9 w3.heap.size cv _ tm := Blk.keep hY hb9; obtain ⟨v0, v1, v2, _⟩ := hX9.facts; obtain ⟨u0, u1, u2, _⟩ := hY9.facts; have hc3 := cell_keep hb9 hc2)
              exact ⟨⟨k + 1, by go_num, by omega, congrArg Value.string HA.out, hJ9, hX9, hY9, bstep hbr hb9, bstep hbr2 hb9, bstep hbr3 hb9⟩, by simp [intOf]; omega⟩
            · go_wp2_with (go_at_call 79; refine (HCV.out _).mono ?_; rintro e w9 ⟨rfl, hb9⟩; have hJ9 : JBox w9 w.heap.size ⟨#[]⟩ false 0 := Blk.keep hJ hb9; have hX9 : PatBox w9 w2.heap.size cu _ tl := Blk.keep hX hb9; have hY9 : PatBox w9 w3.heap.size cv _ tm := Blk.keep hY hb9; obtain ⟨v0, v1, v2, _⟩ := hX9.facts; obtain ⟨u0, u1, u2, _⟩ := hY9.facts; have hc3 := cell_keep hb9 hc2)
              exact ⟨⟨k + 1, by go_num, by omega, congrArg Value.string HA.out, hJ9, hX9, hY9, bstep hbr hb9, bstep hbr2 hb9, bstep hbr3 hb9⟩, by simp [intOf]; omega⟩
          · have dm : decide ((k : Int) < (m : Int)) = false := decide_eq_false (by omega)
            have hb : y.parts[k]? = none := List.getElem?_eq_none (by have := HM.out; omega)
            rw [hb] at hA hw
            dsimp only at hA hw
            clear hb
            generalize strP a = sa at *
            generalize toB (pathK cz zs k) = S at *
            have HA := Lib.hid hA
            clear hA
            have n1 : ¬ 9223372036854775807 < S.size + 1 := by omega
            have n2 : ¬ 9223372036854775807 < S.size + 1 + sa.size := by omega
            go_wp2
            exact ⟨⟨k + 1, by go_num, by omega, congrArg Value.string HA.out, hJ, hX, hY, hbr, hbr2, hbr3⟩, by simp [intOf]; omega⟩
        · have dn : decide ((k : Int) < (n : Int)) = false := decide_eq_false (by omega)
          have hkm : k < m := by omega
          have dm : decide ((k : Int) < (m : Int)) = true := decide_eq_true (by omega)
          have ha : x.parts[k]? = none := List.getElem?_eq_none (by have := HN.out; omega)
          rw [ha] at hA hw
          obtain ⟨z', hz'⟩ : ∃ z', y.parts[k]? = some z' := ⟨_, List.getElem?_eq_getElem (by have := HM.out; omega)⟩
          obtain ⟨b2, o2, rfl, hcell2⟩ := (HR2.out.keep hbr3).2 (by omega)
          have hc2 : wr.cell? ⟨b2, o2 + k, none⟩ = some (.string (strP z')) := hcell2 k _ (by rw [List.getElem?_map, strL_at _ _ _ hz']; rfl)
          rw [hz'] at hA hw
          obtain ⟨hzf, hzs⟩ := HQS.out z' (List.mem_of_getElem? hz')
          dsimp only at hA hw
          have cM := fun W => rCovers_any ⟨#[42]⟩ (strP z') W (by decide) (by omega)
          clear hcell2 hz' hzf ha
          generalize strP z' = sz at *
          generalize covB ⟨#[42]⟩ sz = cv' at *
          generalize toB (pathK cz zs k) = S at *
          have HCV := Lib.hid cM
          have HA := Lib.hid hA
          clear cM hA
          have n1 : ¬ 9223372036854775807 < S.size + 1 := by omega
          have n2 : ¬ 9223372036854775807 < S.size + 1 + 1 := by omega
          have n3 : ¬ 9223372036854775807 < S.size + 1 + sz.size := by omega
          cases cv'
          · go_wp2_with (go_at_call 79; refine (HCV.out _).mono ?_; rintro e w9 ⟨rfl, hb9⟩; have hJ9 : JBox w9 w.heap.size ⟨#[]⟩ false 0 := Blk.keep hJ hb9; have hX9 : PatBox w9 w2.heap.size cu _ tl := Blk.keep hX hb9; have hY9 : PatBox w9 w3.heap.size cv _ tm := Blk.keep hY hb9; obtain ⟨v0, v1, v2, _⟩ := hX9.facts; obtain ⟨u0, u1, u2, _⟩ := hY9.facts; have hc3 := cell_keep hb9 hc2)
            exact ⟨⟨k + 1, by go_num, by omega, congrArg Value.string HA.out, hJ9, hX9, hY9, bstep hbr hb9, bstep hbr2 hb9, bstep hbr3 hb9⟩, by simp [intOf]; omega⟩
          · go_wp2_with (go_at_call 79; refine (HCV.out _).mono ?_; rintro e w9 ⟨rfl, hb9⟩; have hJ9 : JBox w9 w.heap.size ⟨#[]⟩ false 0 := Blk.keep hJ hb9; have hX9 : PatBox w9 w2.heap.size cu _ tl := Blk.keep hX hb9; have hY9 : PatBox w9 w3.heap.size cv _ tm := Blk.keep hY hb9; obtain ⟨v0, v1, v2, _⟩ := hX9.facts; obtain ⟨u0, u1, u2, _⟩ := hY9.facts; have hc3 := cell_keep hb9 hc2)
            exact ⟨⟨k + 1, by go_num, by omega, congrArg Value.string HA.out, hJ9, hX9, hY9, bstep hbr hb9, bstep hbr2 hb9, bstep hbr3 hb9⟩, by simp [intOf]; omega⟩
      · obtain rfl : k = max n m := by omega
        have hs := HBD.out (max n m)
        have hV := HV.out
        have hmx : (max (n : Int) (m : Int)) = ((max n m : Nat) : Int) := by omega
        have hmm : ¬ ((max n m : Nat) : Int) < (n : Int) ∧ ¬ ((max n m : Nat) : Int) < (m : Int) := by omega
        obtain ⟨j0, j1, j2, f0, f1, f2⟩ := hJ.facts
        have hz9 : w.heap.size < wr.heap.size := Blk.lt hJ
        generalize toB (pathK cz zs (max n m)) = S at *
        have n1 : ¬ 9223372036854775807 < S.size + 3 := by omega
        cases tl
        · simp only [Bool.false_and, Bool.false_eq_true, if_false] at hV
          subst hV
          go_wp2
          exact bodyPost_ret (v := .agg #[.string V, .bool true, .int .i64 0]) (by simp [results, Tryz.results34, go_sem, hz9, j0, j1, j2, f0, f1, f2]) rfl ⟨rfl, by (repeat (first | exact Below.refl _ _ | assumption | refine Below.drew ?_ | refine balloc ?_ _ | refine bdrewN ?_ _ | refine Below.setCell ?_ (by first | (simp; done) | (simp; omega)) _ | refine bstep ?_ (by assumption)))⟩
        · cases tm
          · simp only [Bool.and_false, Bool.false_eq_true, if_false] at hV
            subst hV
            go_wp2
            exact bodyPost_ret (v := .agg #[.string V, .bool true, .int .i64 0]) (by simp [results, Tryz.results34, go_sem, hz9, j0, j1, j2, f0, f1, f2]) rfl ⟨rfl, by (repeat (first | exact Below.refl _ _ | assumption | refine Below.drew ?_ | refine balloc ?_ _ | refine bdrewN ?_ _ | refine Below.setCell ?_ (by first | (simp; done) | (simp; omega)) _ | refine bstep ?_ (by assumption)))⟩
          · simp only [Bool.and_self, if_true] at hV
            subst hV
            go_wp2
            exact bodyPost_ret (v := .agg #[.string (S ++ ⟨#[47, 42, 42]⟩), .bool true, .int .i64 0]) (by simp [results, Tryz.results34, go_sem, hz9, j0, j1, j2, f0, f1, f2]) rfl ⟨rfl, by (repeat (first | exact Below.refl _ _ | assumption | refine Below.drew ?_ | refine balloc ?_ _ | refine bdrewN ?_ _ | refine Below.setCell ?_ (by first | (simp; done) | (simp; omega)) _ | refine bstep ?_ (by assumption)))⟩
theorem rBoth2_any (p q : ByteArray) (w : World) (hp : p.size ≤ 100000) (hq : q.size ≤ 100000) : Calls Tryz.prog 34 #[.string p, .string q] w (Ret w (.agg #[.string (bothR (bothP p q)).1, .bool (bothR (bothP p q)).2.1, .int .i64 (bothR (bothP p q)).2.2])) := by
  have cM := fun W => rMeet2_any p q W hp hq
  unfold meetR at cM
  unfold bothP
  cases hx : compileB p with
  | none =>
    rw [hx] at cM
    exact rBoth0 p q w 1 (.inr rfl) (Lib.hid cM)
  | some x =>
    cases hy : compileB q with
    | none =>
      rw [hx, hy] at cM
      exact rBoth0 p q w 1 (.inr rfl) (Lib.hid cM)
    | some y =>
      rw [hx, hy] at cM
      have cM2 : ∀ W, Calls Tryz.prog 33 #[.string p, .string q] W (Ret W (.agg #[.bool (commonP x y).isSome, .int .i64 0])) := cM
      show Calls Tryz.prog 34 #[.string p, .string q] w (Ret w (.agg #[.string (bothR (some (commonP x y))).1, .bool (bothR (some (commonP x y))).2.1, .int .i64 (bothR (some (commonP x y))).2.2]))
      cases hz : commonP x y with
      | none =>
        rw [hz] at cM2
        exact rBoth0 p q w 0 (.inl rfl) (Lib.hid cM2)
      | some z =>
        rw [hz] at cM2
        exact rBoth1 p q x y z w (compile_fit hx) (compile_fit hy) (compile_good p hp x hx) (compile_good q hq y hy) hz _ _ _ _ _ _ rfl rfl rfl rfl rfl rfl (Lib.hid cM2) (Lib.hid (compAs hp hx)) (Lib.hid (compAs hq hy))

end Go.Proofs.YtiglpecjpncclaaGreatDoor
/- What the specification's Under returns. -/
namespace Go.Proofs.YtiglpecjpncclaaGreatDoor
open Go.RowKit Go.Sort
set_option linter.unusedVariables false
set_option linter.unusedSimpArgs false
set_option maxRecDepth 100000
theorem prefix_eq (a p : ByteArray) (h : p.size ≤ a.size) : Lib.hasPrefix a.data.toList p.data.toList = ((a.extract 0 p.size).toList == p.toList) := by
  rw [Lib.toList_data, Lib.toList_data, Lib.extract_data, Bool.eq_iff_iff, beq_iff_eq]
  unfold Lib.hasPrefix
  rw [List.isPrefixOf_iff_prefix]
  simp only [List.drop_zero, Nat.sub_zero]
  constructor
  · rintro ⟨r, h⟩
    rw [← h, size_data, List.take_left]
  · intro h
    exact ⟨a.data.toList.drop p.size, by have := List.take_append_drop p.size a.data.toList; rw [h] at this; exact this⟩
theorem has_query {p : ByteArray} (h : readB p = true) : anyEq 63 p.data.toList = decide (0 < (parseB p).1.query.length) := by
  have herr : (parseB p).2 = 0 := by
    unfold readB at h
    simp only [Bool.and_eq_true, decide_eq_true_eq] at h
    exact h.1
  have hg := parse_good p herr
  have hd : p.data.toList = W06 (parseB p).1.cust (parseB p).1.path (parseB p).1.query := by
    unfold readB at h
    simp only [Bool.and_eq_true, beq_iff_eq] at h
    have := h.2
    rw [Lib.toList_data, Lib.toList_data] at this
    exact this.symm
  have hf := front_no63 hg
  rw [hd]
  generalize parseB p = r at *
  obtain ⟨⟨c, ps, qs⟩, er⟩ := r
  dsimp only at hg hf ⊢
  have e : W06 c ps qs = frontL ⟨c, ps, qs⟩ ++ queryL 63 (lists2 qs) := rfl
  rw [e]
  unfold anyEq
  rw [List.any_append]
  have h1 : (frontL ⟨c, ps, qs⟩).any (fun b => b.toNat == 63) = false := by
    rw [List.any_eq_false]
    intro b hb h63
    rw [beq_iff_eq] at h63
    have : b = 63 := UInt8.toNat_inj.1 h63
    rw [this] at hb
    exact hf hb
  rw [h1, Bool.false_or]
  cases qs with
  | nil => rfl
  | cons q qs => simp [lists2, queryL]
set_option maxHeartbeats 4000000 in
theorem rUnder_any (p a : ByteArray) (w : World) (hp : p.size ≤ 4294967281) (ha : a.size ≤ 4294967281) : Calls Tryz.prog 37 #[.string p, .string a] w (Ret w (.bool (underB p a))) := by
  have c1 := fun W => rCanon_any p W hp
  have c2 := fun W => rCanon_any a W ha
  have c3 := fun W => rHas_any p 63 W hp
  have hq := @has_query p
  obtain ⟨V, hV⟩ : ∃ V, V = underB p a := ⟨_, rfl⟩
  rw [← hV]
  unfold underB at hV
  generalize readB p = r1 at *
  generalize readB a = r2 at *
  generalize decide (0 < (parseB p).1.query.length) = qd at *
  have H1 := Lib.hid c1
  have H2 := Lib.hid c2
  clear c1 c2
  cases r1
  · obtain rfl : V = false := by rw [hV]; rfl
    clear hq c3 hV
    go_enter Tryz.func37, Tryz.ntmps37
    go_wp2_with (go_at_call 81; refine (H1.out _).mono ?_; rintro e w1 ⟨rfl, hb1⟩; clear H1)
    go_ret
    exact ⟨rfl, by (repeat (first | exact Below.refl _ _ | assumption | refine Below.drew ?_ | refine balloc ?_ _ | refine bdrewN ?_ _ | refine Below.setCell ?_ (by first | (simp; done) | (simp; omega)) _ | refine bstep ?_ (by assumption)))⟩
  rw [hq rfl] at c3
  have H3 := Lib.hid c3
  clear c3 hq
  cases r2
  · obtain rfl : V = false := by rw [hV]; rfl
    clear hV
    go_enter Tryz.func37, Tryz.ntmps37
    go_wp2_with (first | (go_at_call 81; refine (H1.out _).mono ?_; rintro e w1 ⟨rfl, hb1⟩; clear H1) | (go_at_call 81; refine (H2.out _).mono ?_; rintro e w2 ⟨rfl, hb2⟩))
    go_ret
    exact ⟨rfl, by (repeat (first | exact Below.refl _ _ | assumption | refine Below.drew ?_ | refine balloc ?_ _ | refine bdrewN ?_ _ | refine Below.setCell ?_ (by first | (simp; done) | (simp; omega)) _ | refine bstep ?_ (by assumption)))⟩
  cases qd
  rotate_left
  · obtain rfl : V = false := by rw [hV]; rfl
    clear hV
    go_enter Tryz.func37, Tryz.ntmps37
    go_wp2_with (first | (go_at_call 81; refine (H1.out _).mono ?_; rintro e w1 ⟨rfl, hb1⟩; clear H1) | (go_at_call 81; refine (H2.out _).mono ?_; rintro e w2 ⟨rfl, hb2⟩) | (go_at_call 83; refine (H3.out _).mono ?_; rintro e w3 ⟨rfl, hb3⟩))
    go_ret
    exact ⟨rfl, by (repeat (first | exact Below.refl _ _ | assumption | refine Below.drew ?_ | refine balloc ?_ _ | refine bdrewN ?_ _ | refine Below.setCell ?_ (by first | (simp; done) | (simp; omega)) _ | refine bstep ?_ (by assumption)))⟩
  have hV2 : V = (Lib.hasPrefix a.data.toList p.data.toList && ((a.data.toList.drop p.size).isEmpty || (a.data.toList.drop p.size).head? == some 47 || (a.data.toList.drop p.size).head? == some 63)) := hV
  clear hV
  by_cases hl : a.size < p.size
  · have hnp : Lib.hasPrefix a.data.toList p.data.toList = false := by
      cases h : Lib.hasPrefix a.data.toList p.data.toList
      · rfl
      · unfold Lib.hasPrefix at h
        rw [List.isPrefixOf_iff_prefix] at h
        have := h.length_le
        rw [size_data, size_data] at hl
        omega
    obtain rfl : V = false := by rw [hV2, hnp]; rfl
    have d1 : decide ((a.size : Int) < (p.size : Int)) = true := decide_eq_true (by omega)
    have d1' : decide (a.size < p.size) = true := decide_eq_true hl
    clear hV2 hnp
    go_enter Tryz.func37, Tryz.ntmps37
    go_wp2_with (first | (go_at_call 81; refine (H1.out _).mono ?_; rintro e w1 ⟨rfl, hb1⟩; clear H1) | (go_at_call 81; refine (H2.out _).mono ?_; rintro e w2 ⟨rfl, hb2⟩) | (go_at_call 83; refine (H3.out _).mono ?_; rintro e w3 ⟨rfl, hb3⟩))
    go_ret
    exact ⟨rfl, by (repeat (first | exact Below.refl _ _ | assumption | refine Below.drew ?_ | refine balloc ?_ _ | refine bdrewN ?_ _ | refine Below.setCell ?_ (by first | (simp; done) | (simp; omega)) _ | refine bstep ?_ (by assumption)))⟩
  have d1 : decide ((a.size : Int) < (p.size : Int)) = false := decide_eq_false (by omega)
  have d1' : decide (a.size < p.size) = false := decide_eq_false hl
  have hp0 : (0 : Int) ≤ (p.size : Int) := by omega
  have hpa : (p.size : Int) ≤ (a.size : Int) := by omega
  rw [prefix_eq a p (by omega)] at hV2
  cases hpx : ((a.extract 0 p.size).toList == p.toList)
  · obtain rfl : V = false := by rw [hV2, hpx]; rfl
    have hpx' : ¬ (a.extract 0 p.size).toList = p.toList := by simpa using hpx
    clear hV2
    go_enter Tryz.func37, Tryz.ntmps37
    go_wp2_with (first | (go_at_call 81; refine (H1.out _).mono ?_; rintro e w1 ⟨rfl, hb1⟩; clear H1) | (go_at_call 81; refine (H2.out _).mono ?_; rintro e w2 ⟨rfl, hb2⟩) | (go_at_call 83; refine (H3.out _).mono ?_; rintro e w3 ⟨rfl, hb3⟩))
    go_ret
    exact ⟨rfl, by (repeat (first | exact Below.refl _ _ | assumption | refine Below.drew ?_ | refine balloc ?_ _ | refine bdrewN ?_ _ | refine Below.setCell ?_ (by first | (simp; done) | (simp; omega)) _ | refine bstep ?_ (by assumption)))⟩
  have hpx' : (a.extract 0 p.size).toList = p.toList := by simpa using hpx
  rw [hpx, Bool.true_and] at hV2
  by_cases he : a.size = p.size
  · have hdr : a.data.toList.drop p.size = [] := List.drop_eq_nil_of_le (by rw [← Lib.size_eq]; omega)
    obtain rfl : V = true := by rw [hV2, hdr]; rfl
    have d2 : ((a.size : Int) == (p.size : Int)) = true := by simp; omega
    clear hV2 hdr
    go_enter Tryz.func37, Tryz.ntmps37
    go_wp2_with (first | (go_at_call 81; refine (H1.out _).mono ?_; rintro e w1 ⟨rfl, hb1⟩; clear H1) | (go_at_call 81; refine (H2.out _).mono ?_; rintro e w2 ⟨rfl, hb2⟩) | (go_at_call 83; refine (H3.out _).mono ?_; rintro e w3 ⟨rfl, hb3⟩))
    go_ret
    exact ⟨rfl, by (repeat (first | exact Below.refl _ _ | assumption | refine Below.drew ?_ | refine balloc ?_ _ | refine bdrewN ?_ _ | refine Below.setCell ?_ (by first | (simp; done) | (simp; omega)) _ | refine bstep ?_ (by assumption)))⟩
  · have d2 : ((a.size : Int) == (p.size : Int)) = false := beq_eq_false_iff_ne.2 (by omega)
    have hlt : p.size < a.size := by omega
    have hpl : (p.size : Int) < (a.size : Int) := by omega
    have hll : p.size < a.data.toList.length := by rw [← Lib.size_eq]; exact hlt
    have hdr : a.data.toList.drop p.size = a[p.size] :: a.data.toList.drop (p.size + 1) := by
      rw [byte_at a p.size hlt]; exact List.drop_eq_getElem_cons hll
    have hub := under_bytes a[p.size]
    have hV3 : V = ((a[p.size].toNat : Int) == 47 || (a[p.size].toNat : Int) == 63) := by
      rw [hub, hV2, hdr]; simp only [List.isEmpty_cons, Bool.false_or, List.head?_cons]
    clear hV2 hdr hub
    cases e1 : ((a[p.size].toNat : Int) == 47)
    · cases e2 : ((a[p.size].toNat : Int) == 63)
      · obtain rfl : V = false := by rw [hV3, e1, e2]; rfl
        clear hV3
        go_enter Tryz.func37, Tryz.ntmps37
        go_wp2_with (first | (go_at_call 81; refine (H1.out _).mono ?_; rintro e w1 ⟨rfl, hb1⟩; clear H1) | (go_at_call 81; refine (H2.out _).mono ?_; rintro e w2 ⟨rfl, hb2⟩) | (go_at_call 83; refine (H3.out _).mono ?_; rintro e w3 ⟨rfl, hb3⟩))
        go_ret
        exact ⟨rfl, by (repeat (first | exact Below.refl _ _ | assumption | refine Below.drew ?_ | refine balloc ?_ _ | refine bdrewN ?_ _ | refine Below.setCell ?_ (by first | (simp; done) | (simp; omega)) _ | refine bstep ?_ (by assumption)))⟩
      · obtain rfl : V = true := by rw [hV3, e2]; simp
        clear hV3
        go_enter Tryz.func37, Tryz.ntmps37
        go_wp2_with (first | (go_at_call 81; refine (H1.out _).mono ?_; rintro e w1 ⟨rfl, hb1⟩; clear H1) | (go_at_call 81; refine (H2.out _).mono ?_; rintro e w2 ⟨rfl, hb2⟩) | (go_at_call 83; refine (H3.out _).mono ?_; rintro e w3 ⟨rfl, hb3⟩))
        go_ret
        exact ⟨rfl, by (repeat (first | exact Below.refl _ _ | assumption | refine Below.drew ?_ | refine balloc ?_ _ | refine bdrewN ?_ _ | refine Below.setCell ?_ (by first | (simp; done) | (simp; omega)) _ | refine bstep ?_ (by assumption)))⟩
    · obtain rfl : V = true := by rw [hV3, e1]; rfl
      clear hV3
      go_enter Tryz.func37, Tryz.ntmps37
      go_wp2_with (first | (go_at_call 81; refine (H1.out _).mono ?_; rintro e w1 ⟨rfl, hb1⟩; clear H1) | (go_at_call 81; refine (H2.out _).mono ?_; rintro e w2 ⟨rfl, hb2⟩) | (go_at_call 83; refine (H3.out _).mono ?_; rintro e w3 ⟨rfl, hb3⟩))
      go_ret
      exact ⟨rfl, by (repeat (first | exact Below.refl _ _ | assumption | refine Below.drew ?_ | refine balloc ?_ _ | refine bdrewN ?_ _ | refine Below.setCell ?_ (by first | (simp; done) | (simp; omega)) _ | refine bstep ?_ (by assumption)))⟩

end Go.Proofs.YtiglpecjpncclaaGreatDoor
/- What AddressMatchesAsSpecified returns: true. -/
namespace Go.Proofs.YtiglpecjpncclaaGreatDoor
open Go.RowKit Go.Sort
set_option linter.unusedVariables false
set_option linter.unusedSimpArgs false
set_option maxRecDepth 100000
theorem coversV_R (p q : ByteArray) : ∃ s : ByteArray, coversV (compileB p) (compileB q) = .tuple #[.bool (coverR p q).1, .string s, .int .i64 (coverR p q).2] := by
  unfold coversV coverR
  cases compileB p with
  | none => exact ⟨_, rfl⟩
  | some x =>
    cases compileB q with
    | none => exact ⟨_, rfl⟩
    | some y => exact ⟨_, rfl⟩
theorem meetV_R (p q : ByteArray) : ∃ s : ByteArray, meetV (bothP p q) = .tuple #[.bool (meetR p q).1, .string s, .int .i64 (meetR p q).2] := by
  unfold bothP meetR
  cases compileB p with
  | none => exact ⟨_, rfl⟩
  | some x =>
    cases compileB q with
    | none => exact ⟨_, rfl⟩
    | some y =>
      show ∃ s : ByteArray, meetV (some (commonP x y)) = .tuple #[.bool (commonP x y).isSome, .string s, .int .i64 0]
      cases commonP x y with
      | none => exact ⟨_, rfl⟩
      | some z => exact ⟨_, rfl⟩
set_option maxHeartbeats 4000000 in
theorem lawMatches (p q : ByteArray) (w : World) (hp : p.size ≤ 9223372036854775807) (hq : q.size ≤ 9223372036854775807) (hE : Env w) :
    Calls Tryz.prog 9 #[.string p, .string q] w (Ret w (.bool true)) := by
  have HS := Lib.hid (fun W h => sanity_any W h)
  have HE := Lib.hid hE
  clear hE
  by_cases h1 : p.size ≤ 3000
  rotate_left
  · have d1 : decide ((3000 : Int) < (p.size : Int)) = true := decide_eq_true (by omega)
    go_enter Tryz.func9, Tryz.ntmps9
    go_wp2_with (go_at_call 11; refine (HS.out _ (Env.keep HE.out (by (repeat (first | exact Below.refl _ _ | assumption | refine Below.drew ?_ | refine balloc ?_ _ | refine bdrewN ?_ _ | refine Below.setCell ?_ (by first | (simp; done) | (simp; omega)) _ | refine bstep ?_ (by assumption)))))).mono ?_; rintro e ws ⟨rfl, hbs⟩)
    go_ret
    exact ⟨rfl, by (repeat (first | exact Below.refl _ _ | assumption | refine Below.drew ?_ | refine balloc ?_ _ | refine bdrewN ?_ _ | refine Below.setCell ?_ (by first | (simp; done) | (simp; omega)) _ | refine bstep ?_ (by assumption)))⟩
  have d1 : decide ((3000 : Int) < (p.size : Int)) = false := decide_eq_false (by omega)
  by_cases h2 : q.size ≤ 3000
  rotate_left
  · have d2 : decide ((3000 : Int) < (q.size : Int)) = true := decide_eq_true (by omega)
    go_enter Tryz.func9, Tryz.ntmps9
    go_wp2_with (go_at_call 11; refine (HS.out _ (Env.keep HE.out (by (repeat (first | exact Below.refl _ _ | assumption | refine Below.drew ?_ | refine balloc ?_ _ | refine bdrewN ?_ _ | refine Below.setCell ?_ (by first | (simp; done) | (simp; omega)) _ | refine bstep ?_ (by assumption)))))).mono ?_; rintro e ws ⟨rfl, hbs⟩)
    go_ret
    exact ⟨rfl, by (repeat (first | exact Below.refl _ _ | assumption | refine Below.drew ?_ | refine balloc ?_ _ | refine bdrewN ?_ _ | refine Below.setCell ?_ (by first | (simp; done) | (simp; omega)) _ | refine bstep ?_ (by assumption)))⟩
  have d2 : decide ((3000 : Int) < (q.size : Int)) = false := decide_eq_false (by omega)
  have cCO := fun W h => covers_any2 p q W (by omega) (by omega) h
  have cME := fun W h => addrMeet_any p q W (by omega) (by omega) h
  have cRC := fun W => rCovers2_any p q W (by omega) (by omega)
  have cRM := fun W => rMeet2_any p q W (by omega) (by omega)
  have cBO := fun W h => addrBoth_any p q W (by omega) (by omega) h
  have cRB := fun W => rBoth2_any p q W (by omega) (by omega)
  have cVA := fun W h => valid_any p W (by omega) h
  have cRV := fun W => rValid_any p W (by omega)
  have cMA := fun W h => match_any p q W (by omega) (by omega) h
  have cRA := fun W => rMatch_any p q W (by omega) (by omega)
  have cUN := fun W h => under_any p q W (by omega) (by omega) h
  have cRU := fun W => rUnder_any p q W (by omega) (by omega)
  obtain ⟨s1, e1⟩ := coversV_R p q
  obtain ⟨s2, e2⟩ := meetV_R p q
  rw [e1] at cCO
  rw [e2] at cME
  rw [bothV_R] at cBO
  clear e1 e2
  generalize coverR p q = cr at *
  generalize meetR p q = mr at *
  generalize bothR (bothP p q) = br at *
  generalize (compileB p).isSome = vb at *
  generalize matchB p q = ma at *
  generalize underB p q = ub at *
  obtain ⟨cb, ce⟩ := cr
  obtain ⟨mb, me⟩ := mr
  obtain ⟨bs, bb, be⟩ := br
  dsimp only at cCO cME cRC cRM cBO cRB
  have HCO := Lib.hid cCO; have HME := Lib.hid cME; have HRC := Lib.hid cRC; have HRM := Lib.hid cRM; have HBO := Lib.hid cBO; have HRB := Lib.hid cRB
  have HVA := Lib.hid cVA; have HRV := Lib.hid cRV; have HMA := Lib.hid cMA; have HRA := Lib.hid cRA; have HUN := Lib.hid cUN; have HRU := Lib.hid cRU
  clear cCO cME cRC cRM cBO cRB cVA cRV cMA cRA cUN cRU
  have q1 : (bs.toList != bs.toList) = false := by simp
  have q2 : (bb != bb) = false := by cases bb <;> rfl
  have q3 : (be != be) = false := by simp
  have q4 : (vb == vb) = true := by cases vb <;> rfl
  have q5 : (ma == ma) = true := by cases ma <;> rfl
  have q6 : (ub == ub) = true := by cases ub <;> rfl
  have q7 : (cb == cb) = true := by cases cb <;> rfl
  have q8 : (mb == mb) = true := by cases mb <;> rfl
  go_enter Tryz.func9, Tryz.ntmps9
  go_wp2_with (first | (go_at_call 27; refine (HCO.out _ (Env.keep HE.out (by (repeat (first | exact Below.refl _ _ | assumption | refine Below.drew ?_ | refine balloc ?_ _ | refine bdrewN ?_ _ | refine Below.setCell ?_ (by first | (simp; done) | (simp; omega)) _ | refine bstep ?_ (by assumption)))))).mono ?_; rintro e w1 ⟨rfl, hb1⟩) | (go_at_call 30; refine (HME.out _ (Env.keep HE.out (by (repeat (first | exact Below.refl _ _ | assumption | refine Below.drew ?_ | refine balloc ?_ _ | refine bdrewN ?_ _ | refine Below.setCell ?_ (by first | (simp; done) | (simp; omega)) _ | refine bstep ?_ (by assumption)))))).mono ?_; rintro e w2 ⟨rfl, hb2⟩) | (go_at_call 32; refine (HRC.out _).mono ?_; rintro e w3 ⟨rfl, hb3⟩) | (go_at_call 33; refine (HRM.out _).mono ?_; rintro e w4 ⟨rfl, hb4⟩; have hA4 : KBox w4 w3.heap.size cb ce := (hb4.block w3.heap.size (by simp)).trans (World.alloc_heap_new _ _)) | (go_at_call 31; refine (HBO.out _ (Env.keep HE.out (by (repeat (first | exact Below.refl _ _ | assumption | refine Below.drew ?_ | refine balloc ?_ _ | refine bdrewN ?_ _ | refine Below.setCell ?_ (by first | (simp; done) | (simp; omega)) _ | refine bstep ?_ (by assumption)))))).mono ?_; rintro e w5 ⟨rfl, hb5⟩; have hA5 : KBox w5 w3.heap.size cb ce := Blk.keep hA4 (blater _ hb5); have hM5 : KBox w5 w4.heap.size mb me := (hb5.block w4.heap.size (by simp)).trans (World.alloc_heap_new _ _)) | (go_at_call 34; refine (HRB.out _).mono ?_; rintro e w6 ⟨rfl, hb6⟩; have hA6 : KBox w6 w3.heap.size cb ce := Blk.keep hA5 hb6; have hM6 : KBox w6 w4.heap.size mb me := Blk.keep hM5 hb6) | (go_at_call 11; refine (HS.out _ (Env.keep HE.out (by (repeat (first | exact Below.refl _ _ | assumption | refine Below.drew ?_ | refine balloc ?_ _ | refine bdrewN ?_ _ | refine Below.setCell ?_ (by first | (simp; done) | (simp; omega)) _ | refine bstep ?_ (by assumption)))))).mono ?_; rintro e ws ⟨rfl, hbs⟩; have hAs : KBox ws w3.heap.size cb ce := Blk.keep hA6 (blater _ hbs); have hMs : KBox ws w4.heap.size mb me := Blk.keep hM6 (blater _ hbs)) | (go_at_call 28; refine (HVA.out _ (Env.keep HE.out (by (repeat (first | exact Below.refl _ _ | assumption | refine Below.drew ?_ | refine balloc ?_ _ | refine bdrewN ?_ _ | refine Below.setCell ?_ (by first | (simp; done) | (simp; omega)) _ | refine bstep ?_ (by assumption)))))).mono ?_; rintro e w7 ⟨rfl, hb7⟩; have hA7 : KBox w7 w3.heap.size cb ce := Blk.keep hAs hb7; have hM7 : KBox w7 w4.heap.size mb me := Blk.keep hMs hb7) | (go_at_call 35; refine (HRV.out _).mono ?_; rintro e w8 ⟨rfl, hb8⟩; have hA8 : KBox w8 w3.heap.size cb ce := Blk.keep hA7 hb8; have hM8 : KBox w8 w4.heap.size mb me := Blk.keep hM7 hb8) | (go_at_call 29; refine (HMA.out _ (Env.keep HE.out (by (repeat (first | exact Below.refl _ _ | assumption | refine Below.drew ?_ | refine balloc ?_ _ | refine bdrewN ?_ _ | refine Below.setCell ?_ (by first | (simp; done) | (simp; omega)) _ | refine bstep ?_ (by assumption)))))).mono ?_; rintro e w9 ⟨rfl, hb9⟩; have hA9 : KBox w9 w3.heap.size cb ce := Blk.keep hA8 hb9; have hM9 : KBox w9 w4.heap.size mb me := Blk.keep hM8 hb9) | (go_at_call 36; refine (HRA.out _).mono ?_; rintro e wa ⟨rfl, hba⟩; have hAa : KBox wa w3.heap.size cb ce := Blk.keep hA9 hba; have hMa : KBox wa w4.heap.size mb me := Blk.keep hM9 hba) | (go_at_call 26; refine (HUN.out _ (Env.keep HE.out (by (repeat (first | exact Below.refl _ _ | assumption | refine Below.drew ?_ | refine balloc ?_ _ | refine bdrewN ?_ _ | refine Below.setCell ?_ (by first | (simp; done) | (simp; omega)) _ | refine bstep ?_ (by assumption)))))).mono ?_; rintro e wb ⟨rfl, hbb⟩; have hAb : KBox wb w3.heap.size cb ce := Blk.keep hAa hbb; have hMb : KBox wb w4.heap.size mb me := Blk.keep hMa hbb) | (go_at_call 37; refine (HRU.out _).mono ?_; rintro e wc ⟨rfl, hbc⟩; have hAc : KBox wc w3.heap.size cb ce := Blk.keep hAb hbc; have hMc : KBox wc w4.heap.size mb me := Blk.keep hMb hbc; obtain ⟨a0, a1, _⟩ := hAc.facts; obtain ⟨m0, m1, _⟩ := hMc.facts))
  go_ret
  exact ⟨rfl, by (repeat (first | exact Below.refl _ _ | assumption | refine Below.drew ?_ | refine balloc ?_ _ | refine bdrewN ?_ _ | refine Below.setCell ?_ (by first | (simp; done) | (simp; omega)) _ | refine bstep ?_ (by assumption)))⟩

end Go.Proofs.YtiglpecjpncclaaGreatDoor
/- AddressMatchesAsSpecified, the tied card: for every input the law returns true, and the input reads as it did. -/
namespace Go.Proofs.YtiglpecjpncclaaGreatDoor
open Go.ChangeShapes Go.WideShapes Go.ChangeAt Go.RowKit Go.ChangeMaps
set_option linter.unusedVariables false
def argsN : Array Value := #[.string ByteArray.empty, .string ByteArray.empty]
theorem laid_metN (os : Os) : laidMet Tryz.prog Rows.addressMatchesAsSpecifiedRow.laid ((laidWorld os).forCall (fun _ _ => 0) ⟨#[], argsN, []⟩).memory :=
  laidMet_of_run' 8 (by kernel_rfl) (by kernel_rfl)
theorem readsN (os : Os) {H : Type} (enc : TypeId × Value → H) : ∃ places, DataW.whole enc Tryz.prog ((laidWorld os).forCall (fun _ _ => 0) ⟨#[], argsN, []⟩).memory Tryz.f9.params.toList Rows.addressMatchesAsSpecifiedSpec.vars false argsN.toList 8 = some ([.lit (.string []), .lit (.string [])], [], places) :=
  ⟨[], by kernel_rfl⟩
set_option maxRecDepth 100000 in
theorem contractN (H : Type) (enc : TypeId × Value → H) (W : World) (base : Nat) (args : Array Value) (ds gs : List (DataW H)) (before : List MemPlace)
    (hval : ∀ (j : Nat) t v, Tryz.f9.params[j]? = some t → args[j]? = some v → Value.okWide Tryz.prog W .any base t v)
    (hW : DataW.Whole enc Tryz.prog Tryz.f9.params.toList Rows.addressMatchesAsSpecifiedSpec.vars false W args.toList ds gs before) (hS : W.ShapedOpen Tryz.prog) :
    Calls Tryz.prog 9 args W fun e W' => ∃ v, e = .returned v ∧ Rows.addressMatchesAsSpecifiedSpec.post enc Tryz.prog Tryz.f9 false true false false W args v W' := by
  have hW' := hW
  obtain ⟨p, q, hA0, hV, rfl, hfz, hnd⟩ := hW
  have hA : DataW.TrodAll enc Tryz.prog W 0 (fun _ => true) true Tryz.f9.params.toList args.toList ds p := hA0
  rw [Tryz.params9] at hA hval
  obtain ⟨v0, vs0, d0, ds0, p0, q0, hargs, rfl, rfl, h0, r0⟩ := trodAll_cons hA
  obtain ⟨v1, vs1, d1, ds1, p1, q1, rfl, rfl, rfl, h1, r1⟩ := trodAll_cons r0
  obtain ⟨rfl, rfl, rfl⟩ := trodAll_nil r1
  obtain rfl : args = #[v0, v1] := by cases args; simp_all
  obtain ⟨s0, rfl, rfl, -, z0⟩ := open_string Tryz.underlying9 (hval 0 9 v0 rfl rfl) h0
  obtain ⟨s1, rfl, rfl, -, z1⟩ := open_string Tryz.underlying9 (hval 1 9 v1 rfl rfl) h1
  obtain ⟨rfl, rfl⟩ := trodVars_none hV
  unfold maxLen at z0
  unfold maxLen at z1
  refine (lawMatches s0 s1 W z0 z1 (env_of hS)).mono fun e W' ⟨he, hb⟩ => ?_
  subst he
  exact ⟨_, rfl, law_post (t := 4) hW' rfl laidOut (by kernel_rfl) (by kernel_rfl) Tryz.underlying4 rfl hb⟩
set_option maxRecDepth 100000 in
theorem liftedN (os : Os) (started : os.Started) (H : Type) (enc : TypeId × Value → H) (F : Stop.Interp) :
    ReturnsInHanded {} Tryz.checked os 9 .any ((OpenSpec.ofChange Rows.addressMatchesAsSpecifiedSpec).preRow enc Tryz.prog Tryz.f9 Rows.addressMatchesAsSpecifiedRow.domain false Rows.addressMatchesAsSpecifiedRow.laid) (((OpenSpec.ofChange Rows.addressMatchesAsSpecifiedSpec).at F).post enc Tryz.prog Tryz.f9 false true false false) := by
  obtain ⟨places, hx⟩ := readsN os enc
  refine returnsInHanded_of_row (C := Tryz.checked) (s := OpenSpec.ofChange Rows.addressMatchesAsSpecifiedSpec) own started (by kernel_rfl) Tryz.func9
    (witness_row_at (enc := enc) (C := Tryz.checked) false (laidWorld os) argsN rfl (by kernel_rfl) (by kernel_rfl) (by kernel_rfl)
      (OpenSpec.preRow_of_cond 8 hx (by kernel_rfl) (fun k hk => by cases hk) (by kernel_rfl) (laid_metN os))) ?_
  intro W base args ds gs before hval hW _ _ _ _ hS _
  exact contractN H enc W base args ds gs before hval hW hS
theorem saidN : Rows.AddressMatchesAsSpecifiedSaid :=
  OpenClaim.holds_of_cond 9 Tryz.f9 rfl rfl rfl rfl rfl rfl rfl ⟨rfl, rfl, rfl, rfl, rfl⟩ rfl rfl rfl rfl rfl (by kernel_rfl) Tryz.func9 (by kernel_rfl)
    (of_decide_eq_true (by kernel_rfl)) (by unfold Func.isWrapper; first | (rw [if_pos (by decide +kernel)]; kernel_rfl) | (rw [if_neg (by decide +kernel)]; exact ⟨rfl, rfl⟩))
    (fun os started H enc _ F => by rw [OpenClaim.pre_eq_preRow]; exact liftedN os started H enc F)
theorem plainN (f : FuncId) (fn : Func) (hf : Tryz.pinned.checked.prog.funcNamed "weirgate/weirgatelaw06.AddressMatchesAsSpecified" = some f) (hfn : Tryz.pinned.checked.prog.funcs[f]? = some fn) :
    false = Tryz.pinned.checked.prog.looks [] ∧ ∀ (j : Nat) t, fn.params[j]? = some t → Tryz.pinned.checked.prog.wantsStandIn t = false := by
  obtain rfl : f = 9 := Option.some.inj ((show Tryz.prog.funcNamed "weirgate/weirgatelaw06.AddressMatchesAsSpecified" = some 9 by kernel_rfl).symm.trans hf) |>.symm
  obtain rfl : fn = Tryz.f9 := (Option.some.inj (Tryz.func9.symm.trans hfn)).symm
  refine ⟨by kernel_rfl, fun j t ht => ?_⟩
  rw [Tryz.params9] at ht
  have hall : ∀ t ∈ #[9, 9], Tryz.prog.wantsStandIn t = false := by
    intro t ht
    simp at ht
    subst ht
    exact (show Tryz.prog.wantsStandIn 9 = false by kernel_rfl)
  exact hall t (Array.mem_of_getElem? ht)
/-- The tied card. -/
theorem cardN : Rows.AddressMatchesAsSpecifiedCardSaid :=
  Claim7.holds_tied_plain_at .later [] _ _ _ _ saidN (fun _ h => by cases h) (by kernel_rfl) (fun _ h => by cases h) addressMatchesAsSpecified_row_tie rfl ⟨rfl, rfl⟩ (by kernel_rfl) rfl plainN (by kernel_rfl)
end Go.Proofs.YtiglpecjpncclaaGreatDoor
