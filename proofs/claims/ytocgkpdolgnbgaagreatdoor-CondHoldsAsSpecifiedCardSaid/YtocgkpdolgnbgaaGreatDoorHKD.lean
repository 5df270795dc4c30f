/- What the specification's Canonical and Canon return. -/
import Derived.Test.YtocgkpdolgnbgaaGreatDoorHKB
import Derived.Test.YtocgkpdolgnbgaaGreatDoorHCanon
import Derived.Test.YtocgkpdolgnbgaaGreatDoorHJA
import Derived.Test.YtocgkpdolgnbgaaGreatDoorProg
import Derived.WalkKit
import Derived.WalkSpells
import Derived.WalkLawsBesides
import Derived.Below
import Derived.Deep.QuietTactic
import Derived.BigQuiet
import Derived.Lib.QuietBelow
import Derived.Lib.Strings
import Derived.Lib.Hide
import Derived.Deep.RegionWith
import Derived.Deep.RegionHeld3
import Derived.Lib.IndexBytes
import Derived.Test.YtocgkpdolgnbgaaGreatDoorHKA
import Derived.Test.YtocgkpdolgnbgaaGreatDoorHMatch
namespace Go.Proofs.YtocgkpdolgnbgaaGreatDoor
open Go.RowKit Go.Sort
set_option linter.unusedVariables false
set_option linter.unusedSimpArgs false
set_option maxRecDepth 100000
def canonR (s : ByteArray) : ByteArray × Int := if (parseB s).2 = 0 then textR (parseB s).1.cust (parseB s).1.path (parseB s).1.query else (⟨#[]⟩, (parseB s).2)
set_option maxHeartbeats 2000000 in
theorem rCanonical_any (s : ByteArray) (w : World) (hs : s.size ≤ 4294967281) : Calls Tryz.prog 120 #[.string s] w (Ret w (.agg #[.string (canonR s).1, .int .i64 (canonR s).2])) := by
  have cP := fun W => rParse_any s W hs
  have he := parse_errno s
  have hbd := parse_bound s
  unfold canonR
  generalize parseB s = r at *
  obtain ⟨⟨c, ps, qs⟩, er⟩ := r
  dsimp only at he hbd ⊢
  have cT := fun A ca B cb W h1 h2 => rText2_any c A B ps.length ca qs.length cb ps qs W h1 h2 (by omega)
  generalize textR c ps qs = t at *
  obtain ⟨t, e0⟩ := t
  dsimp only at cT
  have HP := Lib.hid cP
  have HT := Lib.hid cT
  clear cP hbd cT
  rcases he with rfl | rfl | rfl
  · rw [if_pos rfl]
    go_enter Tryz.func120, Tryz.ntmps120
    go_wp2_with (first | (go_at_call 125; refine (HP.out _).mono ?_; rintro e w1 ⟨hb1, A, ca, B, cb, rfl, hA, hB⟩; have hX1 : ResBox w1 w.heap.size ⟨#[]⟩ 0 := Blk.keep (World.alloc_heap_new _ _) hb1; obtain ⟨x0, x1, f0, f1⟩ := hX1.facts; have hz1 : w.heap.size < w1.heap.size := Blk.lt hX1; have hz9 : w1.heap.size ≠ w.heap.size := (by omega); have HA := Lib.hid hA; have HB := Lib.hid hB; clear hA hB) | (go_at_call 161; refine (HT.out _ _ _ _ _ (HA.out.keep (by (repeat (first | exact .refl _ _ | assumption | refine .drew ?_ | refine balloc ?_ _ | refine bdrewN ?_ _ | refine .setCell ?_ (by simp <;> omega) _ | refine bstep ?_ (by assumption))))) (HB.out.keep (by (repeat (first | exact .refl _ _ | assumption | refine .drew ?_ | refine balloc ?_ _ | refine bdrewN ?_ _ | refine .setCell ?_ (by simp <;> omega) _ | refine bstep ?_ (by assumption)))))).mono ?_; rintro e w2 ⟨rfl, hb2⟩; have hX2 : ResBox w2 w.heap.size ⟨#[]⟩ 0 := Blk.keep hX1 (blater _ hb2); obtain ⟨y0, y1, g0, g1⟩ := hX2.facts; have hz2 : w.heap.size < w2.heap.size := Blk.lt hX2))
    exact bodyPost_ret (v := .agg #[.string t, .int .i64 e0]) (by simp [results, Tryz.results120, go_sem, hz2, y0, y1, g0, g1]) rfl ⟨rfl, by (repeat (first | exact .refl _ _ | assumption | refine .drew ?_ | refine balloc ?_ _ | refine bdrewN ?_ _ | refine .setCell ?_ (by simp <;> omega) _ | refine bstep ?_ (by assumption)))⟩
  · rw [if_neg (by decide)]
    go_enter Tryz.func120, Tryz.ntmps120
    go_wp2_with (go_at_call 125; refine (HP.out _).mono ?_; rintro e w1 ⟨hb1, A, ca, B, cb, rfl, hA, hB⟩; have hX1 : ResBox w1 w.heap.size ⟨#[]⟩ 0 := Blk.keep (World.alloc_heap_new _ _) hb1; obtain ⟨x0, x1, f0, f1⟩ := hX1.facts; have hz1 : w.heap.size < w1.heap.size := Blk.lt hX1; have hz9 : w1.heap.size ≠ w.heap.size := (by omega); have HA := Lib.hid hA; have HB := Lib.hid hB; clear hA hB)
    exact bodyPost_ret (v := .agg #[.string ⟨#[]⟩, .int .i64 2]) (by simp [results, Tryz.results120, go_sem, hz1, hz9, x0, x1, f0, f1]) rfl ⟨rfl, by (repeat (first | exact .refl _ _ | assumption | refine .drew ?_ | refine balloc ?_ _ | refine bdrewN ?_ _ | refine .setCell ?_ (by simp <;> omega) _ | refine bstep ?_ (by assumption)))⟩
  · rw [if_neg (by decide)]
    go_enter Tryz.func120, Tryz.ntmps120
    go_wp2_with (go_at_call 125; refine (HP.out _).mono ?_; rintro e w1 ⟨hb1, A, ca, B, cb, rfl, hA, hB⟩; have hX1 : ResBox w1 w.heap.size ⟨#[]⟩ 0 := Blk.keep (World.alloc_heap_new _ _) hb1; obtain ⟨x0, x1, f0, f1⟩ := hX1.facts; have hz1 : w.heap.size < w1.heap.size := Blk.lt hX1; have hz9 : w1.heap.size ≠ w.heap.size := (by omega); have HA := Lib.hid hA; have HB := Lib.hid hB; clear hA hB)
    exact bodyPost_ret (v := .agg #[.string ⟨#[]⟩, .int .i64 3]) (by simp [results, Tryz.results120, go_sem, hz1, hz9, x0, x1, f0, f1]) rfl ⟨rfl, by (repeat (first | exact .refl _ _ | assumption | refine .drew ?_ | refine balloc ?_ _ | refine bdrewN ?_ _ | refine .setCell ?_ (by simp <;> omega) _ | refine bstep ?_ (by assumption)))⟩
def canB (s : ByteArray) : Bool := decide ((canonR s).2 = 0) && ((canonR s).1.toList == s.toList)
theorem canB_read (s : ByteArray) : canB s = readB s := by
  unfold canB readB canonR
  by_cases h : (parseB s).2 = 0
  · rw [if_pos h, decide_eq_true h, Bool.true_and]
    have hg := parse_good s h
    have hsh := parse_short s h
    have hf : formedB (parseB s).1.cust (parseB s).1.path (parseB s).1.query = true := (formed_iff _ _ _).2 ⟨hg, by omega⟩
    unfold textR
    rw [if_pos hf]
    rfl
  · rw [if_neg h, decide_eq_false h]
    simp [h]
set_option maxHeartbeats 2000000 in
theorem rCanon_any (s : ByteArray) (w : World) (hs : s.size ≤ 4294967281) : Calls Tryz.prog 80 #[.string s] w (Ret w (.bool (readB s))) := by
  rw [← canB_read]
  have cC := fun W => rCanonical_any s W hs
  unfold canB
  generalize canonR s = r at *
  obtain ⟨t, er⟩ := r
  dsimp only at cC ⊢
  have HC := Lib.hid cC
  clear cC
  cases h2 : (t.toList == s.toList)
  · by_cases h : er = 0
    · subst h
      go_enter Tryz.func80, Tryz.ntmps80
      go_wp2_with (go_at_call 120; refine (HC.out _).mono ?_; rintro e w1 ⟨rfl, hb1⟩)
      go_ret
      exact ⟨rfl, by (repeat (first | exact .refl _ _ | assumption | refine .drew ?_ | refine balloc ?_ _ | refine bdrewN ?_ _ | refine .setCell ?_ (by simp <;> omega) _ | refine bstep ?_ (by assumption)))⟩
    · have d1 : (er == 0) = false := beq_eq_false_iff_ne.2 h
      rw [decide_eq_false h]
      go_enter Tryz.func80, Tryz.ntmps80
      go_wp2_with (go_at_call 120; refine (HC.out _).mono ?_; rintro e w1 ⟨rfl, hb1⟩)
      go_ret
      exact ⟨rfl, by (repeat (first | exact .refl _ _ | assumption | refine .drew ?_ | refine balloc ?_ _ | refine bdrewN ?_ _ | refine .setCell ?_ (by simp <;> omega) _ | refine bstep ?_ (by assumption)))⟩
  · by_cases h : er = 0
    · subst h
      go_enter Tryz.func80, Tryz.ntmps80
      go_wp2_with (go_at_call 120; refine (HC.out _).mono ?_; rintro e w1 ⟨rfl, hb1⟩)
      go_ret
      exact ⟨rfl, by (repeat (first | exact .refl _ _ | assumption | refine .drew ?_ | refine balloc ?_ _ | refine bdrewN ?_ _ | refine .setCell ?_ (by simp <;> omega) _ | refine bstep ?_ (by assumption)))⟩
    · have d1 : (er == 0) = false := beq_eq_false_iff_ne.2 h
      rw [decide_eq_false h]
      go_enter Tryz.func80, Tryz.ntmps80
      go_wp2_with (go_at_call 120; refine (HC.out _).mono ?_; rintro e w1 ⟨rfl, hb1⟩)
      go_ret
      exact ⟨rfl, by (repeat (first | exact .refl _ _ | assumption | refine .drew ?_ | refine balloc ?_ _ | refine bdrewN ?_ _ | refine .setCell ?_ (by simp <;> omega) _ | refine bstep ?_ (by assumption)))⟩
end Go.Proofs.YtocgkpdolgnbgaaGreatDoor
namespace Go.Proofs.YtocgkpdolgnbgaaGreatDoor
open Go.RowKit Go.Sort
set_option linter.unusedVariables false
set_option linter.unusedSimpArgs false
set_option maxRecDepth 100000
theorem RCompPost.any_ {r : Option Pat} {w w' : World} {e : Ending} (h : RCompPost r w e w') : Below w.heap.size w w' ∧ ∃ (c : ByteArray) (A : Option Addr) (n k : Nat) (t : Bool), e = .returned (.tuple #[.agg #[.string c, .slice A n k, .bool t], .bool r.isSome]) := by
  obtain ⟨hb, h⟩ := h
  cases r with
  | none => exact ⟨hb, _, none, 0, 0, _, h⟩
  | some x => obtain ⟨A, c, h, _⟩ := h; exact ⟨hb, _, A, _, c, _, h⟩
set_option maxHeartbeats 1000000 in
theorem rValid_any (s : ByteArray) (w : World) (hs : s.size ≤ 100000) : Calls Tryz.prog 75 #[.string s] w (Ret w (.bool (compileB s).isSome)) := by
  have cC := fun W => (rCompile_any s W hs).mono (fun e w' h => h.any_)
  generalize (compileB s).isSome = b at *
  have HC := Lib.hid cC
  clear cC
  go_enter Tryz.func75, Tryz.ntmps75
  go_wp2_with (go_at_call 105; refine (HC.out _).mono ?_; rintro e w1 ⟨hb1, c, A, n, k, t, rfl⟩)
  go_ret
  exact ⟨rfl, by (repeat (first | exact .refl _ _ | assumption | refine .drew ?_ | refine balloc ?_ _ | refine bdrewN ?_ _ | refine .setCell ?_ (by simp <;> omega) _ | refine bstep ?_ (by assumption)))⟩
theorem run_fieldR (c : ByteArray) (A B : Option Addr) (na ca nb cb : Nat) (e : Value) (w : World) : (Instr.field 162 (.agg #[.string c, .slice A na ca, .slice B nb cb, e]) 0).run Tryz.prog w = .ok (.agg #[.string c, .slice A na ca, .slice B nb cb]) w := by
  first | kernel_rfl | rfl | simp [Instr.field, part, go_sem, Tryz.underlying162]
theorem strL_at (ps : List Part) (k : Nat) (p : Part) (h : ps[k]? = some p) : (strL ps)[k]? = some (strP p) := by
  unfold strL
  rw [List.getElem?_map, h]; rfl
theorem matchesL_at : ∀ (ps : List Part) (ws : List ByteArray), ps.length ≤ ws.length → (matchesL ps ws = true ↔ ∀ (k : Nat) (p : Part) (x : ByteArray), ps[k]? = some p → ws[k]? = some x → hasP p.kind p.text x = true)
  | [], ws, _ => by simp [matchesL]
  | p :: ps, [], h => by simp at h
  | p :: ps, x :: ws, h => by
    have ih := matchesL_at ps ws (by simpa using h)
    rw [matchesL, Bool.and_eq_true, ih]
    constructor
    · rintro ⟨h1, h2⟩ k q y hq hy
      cases k with
      | zero => simp at hq hy; rw [← hq, ← hy]; exact h1
      | succ k => exact h2 k q y (by simpa using hq) (by simpa using hy)
    · intro h3
      exact ⟨h3 0 p x rfl rfl, fun k q y hq hy => h3 (k + 1) q y (by simpa using hq) (by simpa using hy)⟩
theorem cust_has {p : Part} (hp : CustFit p) (a : ByteArray) : hasP p.kind p.text a = ((strP p).toList == [42] || (strP p).toList == a.toList) := by
  rcases hp with ⟨hk, ht⟩ | ⟨hk, ht⟩
  · rw [str0 hk, hk]
    have h42 : (p.text.toList == [42]) = false := by
      rw [Lib.toList_data, beq_eq_false_iff_ne]; exact word_star (name_word ht) []
    rw [h42, Bool.false_or]
    unfold hasP
    rw [if_pos rfl]
  · have e := str_star (p := p) (by omega)
    rw [hk, ht, has2, Lib.toList_data, e, ht]
    rfl
set_option maxHeartbeats 4000000 in
theorem rMatch_any (p q : ByteArray) (w : World) (hp : p.size ≤ 100000) (hq : q.size ≤ 100000) : Calls Tryz.prog 84 #[.string p, .string q] w (Ret w (.bool (matchB p q))) := by
  have cC := fun W => rCompile_any p W hp
  have cD := fun W => rCanon_any q W (by omega)
  have cP := fun W => rParse_any q W (by omega)
  unfold matchB
  cases hx : compileB p with
  | none =>
    rw [hx] at cC
    have HC := Lib.hid cC
    clear cC cD cP hx
    go_enter Tryz.func84, Tryz.ntmps84
    go_wp2_with (go_at_call 105; refine (HC.out _).mono ?_; rintro e w1 ⟨hb1, rfl⟩)
    go_ret
    exact ⟨rfl, by (repeat (first | exact .refl _ _ | assumption | refine .drew ?_ | refine balloc ?_ _ | refine bdrewN ?_ _ | refine .setCell ?_ (by simp <;> omega) _ | refine bstep ?_ (by assumption)))⟩
  | some x =>
    have hfit := compile_fit hx
    have hgood := compile_good p hp x hx
    have hm32 := hgood.num
    rw [hx] at cC
    obtain ⟨V, hV⟩ : ∃ V, V = (readB q && matchP x (parseB q).1) := ⟨_, rfl⟩
    show Calls Tryz.prog 84 #[.string p, .string q] w (Ret w (.bool (readB q && matchP x (parseB q).1)))
    rw [← hV]
    obtain ⟨m, hm⟩ : ∃ m, m = x.parts.length := ⟨_, rfl⟩
    obtain ⟨cu, hcu⟩ : ∃ cu, cu = strP x.cust := ⟨_, rfl⟩
    obtain ⟨tl, htl⟩ : ∃ tl, tl = x.tail := ⟨_, rfl⟩
    have HC : Hid (∀ W, Calls Tryz.prog 105 #[.string p] W (fun e w' => Below W.heap.size W w' ∧ ∃ A c, e = .returned (.tuple #[.agg #[.string cu, .slice A m c, .bool tl], .bool true]) ∧ Reads w' 1 A m ((strL x.parts).map .string))) := Lib.hid (by rw [hm, hcu, htl]; exact cC)
    have hPS : ∀ y ∈ x.parts, PartFit y ∧ (strP y).size ≤ 200000 := fun y hy => ⟨hfit.parts y hy, by have := stringP_size y.kind y.text; have := (hgood.parts y hy).2; unfold strP; omega⟩
    have HPS := Lib.hid hPS
    have HM := Lib.hid hm
    cases hrd : readB q
    · rw [hrd] at cD hV
      obtain rfl : V = false := hV
      have HD := Lib.hid cD
      clear cC cD cP hx hfit hgood hrd hPS hm hcu htl
      go_enter Tryz.func84, Tryz.ntmps84
      go_wp2_with (first | (go_at_call 105; refine (HC.out _).mono ?_; rintro e w1 ⟨hb1, A, c, rfl, hR⟩; have HR := Lib.hid hR; clear hR) | (go_at_call 80; refine (HD.out _).mono ?_; rintro e w2 ⟨rfl, hb2⟩; have hX2 : PatBox w2 w1.heap.size cu (.slice A m c) _ := (hb2.block w1.heap.size (by simp)).trans (World.alloc_heap_new _ _)))
      go_ret
      exact ⟨rfl, by (repeat (first | exact .refl _ _ | assumption | refine .drew ?_ | refine balloc ?_ _ | refine bdrewN ?_ _ | refine .setCell ?_ (by simp <;> omega) _ | refine bstep ?_ (by assumption)))⟩
    · rw [hrd] at cD hV
      rw [Bool.true_and] at hV
      have herr : (parseB q).2 = 0 := by
        unfold readB at hrd
        simp only [Bool.and_eq_true, decide_eq_true_eq] at hrd
        exact hrd.1
      have hpg := parse_good q herr
      have hcn : (parseB q).1.cust.size ≤ 64 := size_of_name hpg.name
      have hwd := hpg.words
      have hn32 := hpg.parts
      generalize parseB q = r at *
      obtain ⟨⟨ac, ap, aq⟩, er⟩ := r
      dsimp only at herr hcn hwd hn32 hV
      subst herr
      obtain ⟨n, hn⟩ : ∃ n, n = ap.length := ⟨_, rfl⟩
      have HP : Hid (∀ W, Calls Tryz.prog 125 #[.string q] W (fun e w' => Below W.heap.size W w' ∧ ∃ A ca B cb, e = .returned (.agg #[.string ac, .slice A n ca, .slice B aq.length cb, .int .i64 0]) ∧ Reads w' 1 A n (ap.map .string) ∧ Reads w' 2 B aq.length (pairCells aq))) := Lib.hid (by rw [hn]; exact cP)
      have hh := cust_has hfit.cust ac
      rw [← hcu] at hh
      have hV2 : V = ((cu.toList == [42] || cu.toList == ac.toList) && !decide (n < m) && !(decide (m < n) && !tl) && matchesL x.parts ap) := by
        rw [hV, hn, hm, htl, ← hh]; rfl
      have HV := Lib.hid hV2
      have HD := Lib.hid cD
      have HWD := Lib.hid hwd
      have HN := Lib.hid hn
      rw [← hn] at hn32
      rw [← hm] at hm32
      clear cC cD cP hx hfit hgood hrd hPS hm hcu htl hpg hV hV2 hh hwd hn
      have rest : V = (!decide (n < m) && !(decide (m < n) && !tl) && matchesL x.parts ap) → (((cu.toList == [42]) = true ∧ cu.toList = [42]) ∨ ((cu.toList == [42]) = false ∧ ¬ cu.toList = [42] ∧ (cu.toList == ac.toList) = true ∧ cu.toList = ac.toList)) → Calls Tryz.prog 84 #[.string p, .string q] w (Ret w (.bool V)) := by
        intro hv3 hB
        clear HV
        by_cases h1 : n < m
        · obtain rfl : V = false := by rw [hv3, decide_eq_true h1]; rfl
          have d1 : decide ((n : Int) < (m : Int)) = true := decide_eq_true (by omega)
          have d1' : decide (n < m) = true := decide_eq_true h1
          clear hv3 h1
          rcases hB with ⟨t1, t1'⟩ | ⟨t1, t1', t2, t2'⟩
          all_goals
            go_enter Tryz.func84, Tryz.ntmps84
            go_wp2_with (first | (go_at_call 105; refine (HC.out _).mono ?_; rintro e w1 ⟨hb1, A, c, rfl, hR⟩; have HR := Lib.hid hR; clear hR) | (go_at_call 80; refine (HD.out _).mono ?_; rintro e w2 ⟨rfl, hb2⟩; have hX2 : PatBox w2 w1.heap.size cu (.slice A m c) _ := (hb2.block w1.heap.size (by simp)).trans (World.alloc_heap_new _ _)) | (go_at_call 125; refine (HP.out _).mono ?_; rintro e w3 ⟨hb3, B, cb, D, cd, rfl, hB, hD⟩; have HB := Lib.hid hB; clear hB hD; have hX3 : PatBox w3 w1.heap.size cu (.slice A m c) _ := Blk.keep hX2 hb3; obtain ⟨x0, x1, x2, _⟩ := hX3.facts; have hz3 : w1.heap.size < w3.heap.size := Blk.lt hX3))
            all_goals (rw [run_fieldR]; go_wp2)
            all_goals (go_ret; exact ⟨rfl, by (repeat (first | exact .refl _ _ | assumption | refine .drew ?_ | refine balloc ?_ _ | refine bdrewN ?_ _ | refine .setCell ?_ (by simp <;> omega) _ | refine bstep ?_ (by assumption)))⟩)
        have d1 : decide ((n : Int) < (m : Int)) = false := decide_eq_false (by omega)
        have d1' : decide (n < m) = false := decide_eq_false h1
        by_cases h2 : m < n ∧ tl = false
        · obtain ⟨h2, rfl⟩ := h2
          obtain rfl : V = false := by rw [hv3, decide_eq_true h2]; simp
          have d2 : decide ((m : Int) < (n : Int)) = true := decide_eq_true (by omega)
          have d2' : decide (m < n) = true := decide_eq_true h2
          clear hv3
          rcases hB with ⟨t1, t1'⟩ | ⟨t1, t1', t2, t2'⟩
          all_goals
            go_enter Tryz.func84, Tryz.ntmps84
            go_wp2_with (first | (go_at_call 105; refine (HC.out _).mono ?_; rintro e w1 ⟨hb1, A, c, rfl, hR⟩; have HR := Lib.hid hR; clear hR) | (go_at_call 80; refine (HD.out _).mono ?_; rintro e w2 ⟨rfl, hb2⟩; have hX2 : PatBox w2 w1.heap.size cu (.slice A m c) _ := (hb2.block w1.heap.size (by simp)).trans (World.alloc_heap_new _ _)) | (go_at_call 125; refine (HP.out _).mono ?_; rintro e w3 ⟨hb3, B, cb, D, cd, rfl, hB, hD⟩; have HB := Lib.hid hB; clear hB hD; have hX3 : PatBox w3 w1.heap.size cu (.slice A m c) _ := Blk.keep hX2 hb3; obtain ⟨x0, x1, x2, _⟩ := hX3.facts; have hz3 : w1.heap.size < w3.heap.size := Blk.lt hX3))
            all_goals (rw [run_fieldR]; go_wp2)
            all_goals (go_ret; exact ⟨rfl, by (repeat (first | exact .refl _ _ | assumption | refine .drew ?_ | refine balloc ?_ _ | refine bdrewN ?_ _ | refine .setCell ?_ (by simp <;> omega) _ | refine bstep ?_ (by assumption)))⟩)
        have hv4 : V = matchesL x.parts ap := by
          rw [hv3, d1', Bool.not_false, Bool.true_and]
          have : (!(decide (m < n) && !tl)) = true := by
            cases tl
            · by_cases h3 : m < n
              · exact absurd ⟨h3, rfl⟩ h2
              · rw [decide_eq_false h3]; rfl
            · simp
          rw [this, Bool.true_and]
        have hD : (decide ((m : Int) < (n : Int)) = false ∧ decide (m < n) = false) ∨ (decide ((m : Int) < (n : Int)) = true ∧ decide (m < n) = true ∧ tl = true) := by
          by_cases h3 : m < n
          · right
            refine ⟨decide_eq_true (by omega), decide_eq_true h3, ?_⟩
            cases tl
            · exact absurd ⟨h3, rfl⟩ h2
            · rfl
          · left; exact ⟨decide_eq_false (by omega), decide_eq_false h3⟩
        have HV4 := Lib.hid hv4
        have hnm : m ≤ n := by omega
        clear hv3 hv4 h2 h1
        rcases hB with ⟨t1, t1'⟩ | ⟨t1, t1', t2, t2'⟩ <;> rcases hD with ⟨d2, d2'⟩ | ⟨d2, d2', rfl⟩
        all_goals
          go_enter Tryz.func84, Tryz.ntmps84
          go_wp2_with (first | (go_at_call 105; refine (HC.out _).mono ?_; rintro e w1 ⟨hb1, A, c, rfl, hR⟩; have HR := Lib.hid hR; clear hR) | (go_at_call 80; refine (HD.out _).mono ?_; rintro e w2 ⟨rfl, hb2⟩; have hX2 : PatBox w2 w1.heap.size cu (.slice A m c) _ := (hb2.block w1.heap.size (by simp)).trans (World.alloc_heap_new _ _)) | (go_at_call 125; refine (HP.out _).mono ?_; rintro e w3 ⟨hb3, B, cb, D, cd, rfl, hB, hD⟩; have HB := Lib.hid hB; clear hB hD; have hX3 : PatBox w3 w1.heap.size cu (.slice A m c) _ := Blk.keep hX2 hb3; obtain ⟨x0, x1, x2, _⟩ := hX3.facts; have hz3 : w1.heap.size < w3.heap.size := Blk.lt hX3))
        all_goals (rw [run_fieldR]; go_wp2)
        all_goals
          have hA0 : Boxed3 (w3.alloc (.cells #[.string ac, .slice B n cb, .slice D aq.length cd] 153)) w3.heap.size ac B n cb D aq.length cd := World.alloc_heap_new _ _
          have hX4 : PatBox (w3.alloc (.cells #[.string ac, .slice B n cb, .slice D aq.length cd] 153)) w1.heap.size cu (.slice A m c) _ := (Below.heap_alloc _ _ _ hz3).trans hX3
          have hb4 : Below w.heap.size w (w3.alloc (.cells #[.string ac, .slice B n cb, .slice D aq.length cd] 153)) := by (repeat (first | exact .refl _ _ | assumption | refine .drew ?_ | refine balloc ?_ _ | refine bdrewN ?_ _ | refine .setCell ?_ (by simp <;> omega) _ | refine bstep ?_ (by assumption)))
          have hb5 : Below w1.heap.size w1 (w3.alloc (.cells #[.string ac, .slice B n cb, .slice D aq.length cd] 153)) := by (repeat (first | exact .refl _ _ | assumption | refine .drew ?_ | refine balloc ?_ _ | refine bdrewN ?_ _ | refine .setCell ?_ (by simp <;> omega) _ | refine bstep ?_ (by assumption)))
          have hb6 : Below w3.heap.size w3 (w3.alloc (.cells #[.string ac, .slice B n cb, .slice D aq.length cd] 153)) := by (repeat (first | exact .refl _ _ | assumption | refine .drew ?_ | refine balloc ?_ _ | refine bdrewN ?_ _ | refine .setCell ?_ (by simp <;> omega) _ | refine bstep ?_ (by assumption)))
          clear x0 x1 x2
          go_loopw [8] (fun vi wr => ∃ k : Nat, vi = .int .i64 k ∧ k ≤ m ∧ Hid (∀ j, j < k → ∀ y z, x.parts[j]? = some y → ap[j]? = some z → hasP y.kind y.text z = true) ∧ (∃ t, PatBox wr w1.heap.size cu (.slice A m c) t) ∧ Boxed3 wr w3.heap.size ac B n cb D aq.length cd ∧ Below w.heap.size w wr ∧ Below w1.heap.size w1 wr ∧ Below w3.heap.size w3 wr) (fun vi _ => m - (intOf vi).toNat)
          case atStart => exact ⟨0, rfl, Nat.zero_le _, Lib.hid (fun j h => absurd h (by omega)), ⟨_, hX4⟩, hA0, hb4, hb5, hb6⟩
          case round =>
            clear hX4 hA0 hb4 hb5 hb6
            obtain ⟨k, rfl, hk, HK, ⟨t0, hX⟩, hA, hbr, hbr1, hbr3⟩ := hrel
            obtain ⟨x0, x1, x2, _⟩ := hX.facts
            have a1 : wr.cell? ⟨w3.heap.size, 1, none⟩ = some (.slice B n cb) := Blk.cell hA 1
            by_cases hlt : k < m
            · obtain ⟨y, hy⟩ : ∃ y, x.parts[k]? = some y := ⟨_, List.getElem?_eq_getElem (by have := HM.out; omega)⟩
              obtain ⟨z, hz⟩ : ∃ z, ap[k]? = some z := ⟨_, List.getElem?_eq_getElem (by have := HN.out; omega)⟩
              obtain ⟨b, o, rfl, hcell⟩ := (HR.out.keep hbr1).2 (by omega)
              obtain ⟨b2, o2, rfl, hcell2⟩ := (HB.out.keep hbr3).2 (by omega)
              have hc1 : wr.cell? ⟨b, o + k, none⟩ = some (.string (strP y)) := hcell k _ (by rw [List.getElem?_map, strL_at _ _ _ hy]; rfl)
              have hc2 : wr.cell? ⟨b2, o2 + k, none⟩ = some (.string z) := hcell2 k _ (by simp [hz])
              obtain ⟨hyf, hys⟩ := HPS.out y (List.mem_of_getElem? hy)
              have hzw := HWD.out z (List.mem_of_getElem? hz)
              have cM := fun W => rMatches_any (strP y) z W (by omega) (by have := size_of_word hzw; omega)
              rw [mtch_has hyf hzw] at cM
              have hk0 : (0 : Int) ≤ (k : Int) := by omega
              have hk1 : (k : Int) < (m : Int) := by omega
              have hk2 : (k : Int) < (n : Int) := by omega
              have HY := Lib.hid (show x.parts[k]? = some y ∧ ap[k]? = some z from ⟨hy, hz⟩)
              generalize strP y = sy at *
              clear hcell hcell2 hy hz hyf hzw
              cases hh : hasP y.kind y.text z
              · have hv : V = false := by
                  rw [HV4.out]
                  cases hml : matchesL x.parts ap
                  · rfl
                  · have := (matchesL_at x.parts ap (by have := HM.out; have := HN.out; omega)).1 hml k y z HY.out.1 HY.out.2
                    rw [hh] at this; cases this
                subst hv
                rw [hh] at cM
                have HMM := Lib.hid cM
                clear cM hh
                go_wp2_with fail
                have k1 := cell_regrown hc1; have k2 := cell_regrown hc2; have k3 := cell_regrown x1; have k4 := cell_regrown a1
                refine wp_region_quiet_below (by kernel_rfl) (by kernel_rfl) ?_; (repeat (any_goals (first | go_big_quiet_step ((first | exact qcalls HMM.out _ _)) | quiet_step ((first | exact qcalls HMM.out _ _))))); refine wpQuiet_nil ?_; intro _ hwq; obtain ⟨⟨dq, osq⟩, hwq⟩ := hwq; subst hwq; have hb9 := below_regrown (wr) dq osq; generalize grow (redrawn (wr) dq) osq = w9 at *
                go_wp2
                go_ret
                exact ⟨rfl, by (repeat (first | exact .refl _ _ | assumption | refine .drew ?_ | refine balloc ?_ _ | refine bdrewN ?_ _ | refine .setCell ?_ (by simp <;> omega) _ | refine bstep ?_ (by assumption)))⟩
              · have HK2 : Hid (∀ j, j < k + 1 → ∀ y z, x.parts[j]? = some y → ap[j]? = some z → hasP y.kind y.text z = true) := Lib.hid (fun j hj y' z' h1 h2 => by
                  by_cases e : j = k
                  · subst e
                    have e1 := HY.out.1.symm.trans h1
                    have e2 := HY.out.2.symm.trans h2
                    injection e1 with e1; injection e2 with e2
                    rw [← e1, ← e2]; exact hh
                  · exact HK.out j (by omega) y' z' h1 h2)
                rw [hh] at cM
                have HMM := Lib.hid cM
                clear cM hh HK
                go_wp2_with fail
                have k1 := cell_regrown hc1; have k2 := cell_regrown hc2; have k3 := cell_regrown x1; have k4 := cell_regrown a1
                refine wp_region_quiet_below (by kernel_rfl) (by kernel_rfl) ?_; (repeat (any_goals (first | go_big_quiet_step ((first | exact qcalls HMM.out _ _)) | quiet_step ((first | exact qcalls HMM.out _ _))))); refine wpQuiet_nil ?_; intro _ hwq; obtain ⟨⟨dq, osq⟩, hwq⟩ := hwq; subst hwq; have hb9 := below_regrown (wr) dq osq; generalize grow (redrawn (wr) dq) osq = w9 at *
                go_wp2
                exact ⟨⟨k + 1, by go_num, by omega, HK2, ⟨t0, Blk.keep hX hb9⟩, Blk.keep hA hb9, bstep hbr hb9, bstep hbr1 hb9, bstep hbr3 hb9⟩, by simp [intOf]; omega⟩
            · obtain rfl : k = m := by omega
              have hv : V = true := by
                rw [HV4.out]
                exact (matchesL_at x.parts ap (by have := HM.out; have := HN.out; omega)).2 (fun j y z h1 h2 => HK.out j (by have := (List.getElem?_eq_some_iff.1 h1).1; have := HM.out; omega) y z h1 h2)
              subst hv
              go_wp2
              go_ret
              exact ⟨rfl, by (repeat (first | exact .refl _ _ | assumption | refine .drew ?_ | refine balloc ?_ _ | refine bdrewN ?_ _ | refine .setCell ?_ (by simp <;> omega) _ | refine bstep ?_ (by assumption)))⟩
      cases t1 : (cu.toList == [42])
      · have t1' : ¬ cu.toList = [42] := by simpa using t1
        cases t2 : (cu.toList == ac.toList)
        · have t2' : ¬ cu.toList = ac.toList := by simpa using t2
          obtain rfl : V = false := by rw [HV.out, t1, t2]; rfl
          go_enter Tryz.func84, Tryz.ntmps84
          go_wp2_with (first | (go_at_call 105; refine (HC.out _).mono ?_; rintro e w1 ⟨hb1, A, c, rfl, hR⟩; have HR := Lib.hid hR; clear hR) | (go_at_call 80; refine (HD.out _).mono ?_; rintro e w2 ⟨rfl, hb2⟩; have hX2 : PatBox w2 w1.heap.size cu (.slice A m c) _ := (hb2.block w1.heap.size (by simp)).trans (World.alloc_heap_new _ _)) | (go_at_call 125; refine (HP.out _).mono ?_; rintro e w3 ⟨hb3, B, cb, D, cd, rfl, hB, hD⟩; have HB := Lib.hid hB; clear hB hD; have hX3 : PatBox w3 w1.heap.size cu (.slice A m c) _ := Blk.keep hX2 hb3; obtain ⟨x0, x1, x2, _⟩ := hX3.facts; have hz3 : w1.heap.size < w3.heap.size := Blk.lt hX3))
          all_goals (rw [run_fieldR]; go_wp2)
          all_goals (go_ret; exact ⟨rfl, by (repeat (first | exact .refl _ _ | assumption | refine .drew ?_ | refine balloc ?_ _ | refine bdrewN ?_ _ | refine .setCell ?_ (by simp <;> omega) _ | refine bstep ?_ (by assumption)))⟩)
        · have t2' : cu.toList = ac.toList := by simpa using t2
          have hv3 : V = (!decide (n < m) && !(decide (m < n) && !tl) && matchesL x.parts ap) := by rw [HV.out, t1, t2]; rfl
          exact rest hv3 (.inr ⟨t1, t1', t2, t2'⟩)
      · have t1' : cu.toList = [42] := by simpa using t1
        have hv3 : V = (!decide (n < m) && !(decide (m < n) && !tl) && matchesL x.parts ap) := by rw [HV.out, t1]; rfl
        exact rest hv3 (.inl ⟨t1, t1'⟩)
end Go.Proofs.YtocgkpdolgnbgaaGreatDoor
