/- What the specification's Covers returns. -/
import Derived.Test.YtocgkpdolgnbgaaGreatDoorMGH
import Derived.Test.YtocgkpdolgnbgaaGreatDoorMPlainX
import Derived.Test.YtocgkpdolgnbgaaGreatDoorProg
import Derived.WalkKit
import Derived.WalkSpells
import Derived.WalkLawsBesides
import Derived.Below
import Derived.Deep.QuietTactic
import Derived.BigQuiet
import Derived.Lib.QuietBelow
import Derived.Lib.Strings
import Derived.Lib.Hide
import Derived.Deep.RegionWith
import Derived.Deep.RegionHeld3
import Derived.Lib.IndexBytes
namespace Go.Proofs.YtocgkpdolgnbgaaGreatDoor
open Go.RowKit Go.Sort
set_option linter.unusedVariables false
set_option linter.unusedSimpArgs false
set_option maxRecDepth 100000
def KBox (w : World) (g : Nat) (b : Bool) (e : Int) : Prop := Blk w g 83 #[.bool b, .int .i64 e] (0, 0)
theorem KBox.facts {w : World} {g : Nat} {b : Bool} {e : Int} (h : KBox w g b e) : w.cell? ⟨g, 0, none⟩ = some (.bool b) ∧ w.cell? ⟨g, 1, none⟩ = some (.int .i64 e) ∧ w.frozen? ⟨g, 0, none⟩ = false ∧ w.frozen? ⟨g, 1, none⟩ = false :=
  ⟨Blk.cell h 0, Blk.cell h 1, blk_free0 h 0, blk_free0 h 1⟩
theorem cust_cov {p q : Part} (hp : CustFit p) (hq : CustFit q) : coversP p.kind p.text q.kind q.text = ((strP p).toList == [42] || (strP p).toList == (strP q).toList) := by
  rw [← cov_covers hp.part hq.part]
  unfold covB
  have hs : sufB (strP p) = false := by
    rcases hp with ⟨hk, ht⟩ | ⟨hk, ht⟩
    · rw [str0 hk]; exact sufB_word (name_word ht)
    · have e := str_star (p := p) (by omega)
      unfold sufB
      rw [size_data, e, ht]
      rfl
  rw [hs, Bool.false_and, Bool.false_and, Bool.or_false]
theorem coverL_at : ∀ (xs ys : List Part), xs.length ≤ ys.length → (coverL xs ys = true ↔ ∀ (k : Nat) (p q : Part), xs[k]? = some p → ys[k]? = some q → coversP p.kind p.text q.kind q.text = true)
  | [], ys, _ => by simp [coverL]
  | p :: ps, [], h => by simp at h
  | p :: ps, x :: ws, h => by
    have ih := coverL_at ps ws (by simpa using h)
    rw [coverL, Bool.and_eq_true, ih]
    constructor
    · rintro ⟨h1, h2⟩ k q y hq hy
      cases k with
      | zero => simp at hq hy; rw [← hq, ← hy]; exact h1
      | succ k => exact h2 k q y (by simpa using hq) (by simpa using hy)
    · intro h3
      exact ⟨h3 0 p x rfl rfl, fun k q y hq hy => h3 (k + 1) q y (by simpa using hq) (by simpa using hy)⟩
def CompAs (s : ByteArray) (x : Pat) (cu : ByteArray) (n : Nat) (tl : Bool) : Prop :=
  ∀ W, Calls Tryz.prog 105 #[.string s] W (fun e w' => Below W.heap.size W w' ∧ ∃ A c, e = .returned (.tuple #[.agg #[.string cu, .slice A n c, .bool tl], .bool true]) ∧ Reads w' 1 A n ((strL x.parts).map .string))
theorem compAs {s : ByteArray} {x : Pat} (hs : s.size ≤ 100000) (hx : compileB s = some x) : CompAs s x (strP x.cust) x.parts.length x.tail := fun W => by
  have := rCompile_any s W hs
  rw [hx] at this
  exact this
theorem compNo {s : ByteArray} (hs : s.size ≤ 100000) (hx : compileB s = none) : ∀ W, Calls Tryz.prog 105 #[.string s] W (fun e w' => Below W.heap.size W w' ∧ ∃ (c : ByteArray) (A : Option Addr) (n k : Nat) (t : Bool), e = .returned (.tuple #[.agg #[.string c, .slice A n k, .bool t], .bool false])) := fun W => by
  have := (rCompile_any s W hs).mono (fun e w' h => h.any_)
  rw [hx] at this
  exact this
theorem compAny {s : ByteArray} (hs : s.size ≤ 100000) : ∀ W, Calls Tryz.prog 105 #[.string s] W (fun e w' => Below W.heap.size W w' ∧ ∃ (c : ByteArray) (A : Option Addr) (n k : Nat) (t : Bool), e = .returned (.tuple #[.agg #[.string c, .slice A n k, .bool t], .bool (compileB s).isSome])) := fun W =>
  (rCompile_any s W hs).mono (fun e w' h => h.any_)
def coverR (p q : ByteArray) : Bool × Int := match compileB p, compileB q with
  | some x, some y => (coverB x y, 0)
  | _, _ => (false, 1)
set_option maxHeartbeats 4000000 in
theorem rCovers0 (p q : ByteArray) (w : World) (b1 b2 : Bool) (hb : (b1 && b2) = false)
    (HC1 : Hid (∀ W, Calls Tryz.prog 105 #[.string p] W (fun e w' => Below W.heap.size W w' ∧ ∃ (c : ByteArray) (A : Option Addr) (n k : Nat) (t : Bool), e = .returned (.tuple #[.agg #[.string c, .slice A n k, .bool t], .bool b1]))))
    (HC2 : Hid (∀ W, Calls Tryz.prog 105 #[.string q] W (fun e w' => Below W.heap.size W w' ∧ ∃ (c : ByteArray) (A : Option Addr) (n k : Nat) (t : Bool), e = .returned (.tuple #[.agg #[.string c, .slice A n k, .bool t], .bool b2])))) :
    Calls Tryz.prog 51 #[.string p, .string q] w (Ret w (.agg #[.bool false, .int .i64 1])) := by
  cases b1 <;> cases b2
  rotate_right
  · cases hb
  all_goals
    go_enter Tryz.func51, Tryz.ntmps51
    go_wp2_with (first | (go_at_call 105; refine (HC1.out _).mono ?_; rintro e w1 ⟨hb1, cx, A, n, k, t, rfl⟩; have hK1 : KBox w1 w.heap.size false 0 := Blk.keep (World.alloc_heap_new _ _) hb1; clear HC1) | (go_at_call 105; refine (HC2.out _).mono ?_; rintro e w2 ⟨hb2, cy, A2, n2, k2, t2, rfl⟩; have hK2 : KBox w2 w.heap.size false 0 := Blk.keep hK1 (blater _ hb2); obtain ⟨k0, k1, g0, g1⟩ := hK2.facts; have hz2 : w.heap.size < w2.heap.size := Blk.lt hK2))
    exact bodyPost_ret (v := .agg #[.bool false, .int .i64 1]) (by simp [results, Tryz.results51, go_sem, hz2, k0, k1, g0, g1]) rfl ⟨rfl, by (repeat (first | exact .refl _ _ | assumption | refine .drew ?_ | refine balloc ?_ _ | refine bdrewN ?_ _ | refine .setCell ?_ (by simp <;> omega) _ | refine bstep ?_ (by assumption)))⟩
set_option maxHeartbeats 4000000 in
theorem rCovers1 (p q : ByteArray) (x y : Pat) (w : World) (hx : PatFit x) (hy : PatFit y) (gx : PatGood x) (gy : PatGood y) (cu cv : ByteArray) (n m : Nat) (tl tm : Bool) (hcu : cu = strP x.cust) (hcv : cv = strP y.cust) (hn : n = x.parts.length) (hm : m = y.parts.length) (htl : tl = x.tail) (htm : tm = y.tail)
    (HC1 : Hid (CompAs p x cu n tl)) (HC2 : Hid (CompAs q y cv m tm)) : Calls Tryz.prog 51 #[.string p, .string q] w (Ret w (.agg #[.bool (coverB x y), .int .i64 0])) := by
  obtain ⟨V, hV⟩ : ∃ V, V = coverB x y := ⟨_, rfl⟩
  rw [← hV]
  have hV2 : V = ((cu.toList == [42] || cu.toList == cv.toList) && !decide (m < n) && !(decide (n < m) && !tl) && !(tm && !tl) && coverL x.parts y.parts) := by
    rw [hV, hcu, hcv, hn, hm, htl, htm, ← cust_cov hx.cust hy.cust]; rfl
  have hn32 := gx.num
  have hm32 := gy.num
  rw [← hn] at hn32
  rw [← hm] at hm32
  have hPS : ∀ z ∈ x.parts, PartFit z ∧ (strP z).size ≤ 200000 := fun z hz => ⟨hx.parts z hz, by have := stringP_size z.kind z.text; have := (gx.parts z hz).2; unfold strP; omega⟩
  have hQS : ∀ z ∈ y.parts, PartFit z ∧ (strP z).size ≤ 200000 := fun z hz => ⟨hy.parts z hz, by have := stringP_size z.kind z.text; have := (gy.parts z hz).2; unfold strP; omega⟩
  have HPS := Lib.hid hPS
  have HQS := Lib.hid hQS
  have HN := Lib.hid hn
  have HM := Lib.hid hm
  have HV := Lib.hid hV2
  clear hV hV2 hcu hcv hn hm htl htm hPS hQS hx hy gx gy
  have h10 : (decide ((10 : Int) < 0)) = false := rfl
  by_cases hA : ((cu.toList == [42]) = true ∧ cu.toList = [42]) ∨ ((cu.toList == [42]) = false ∧ ¬ cu.toList = [42] ∧ (cu.toList == cv.toList) = true ∧ cu.toList = cv.toList)
  rotate_left
  · have t1 : (cu.toList == [42]) = false := by
      cases h : (cu.toList == [42])
      · rfl
      · exact absurd (.inl ⟨h, by simpa using h⟩) hA
    have t1' : ¬ cu.toList = [42] := by simpa using t1
    have t2 : (cu.toList == cv.toList) = false := by
      cases h : (cu.toList == cv.toList)
      · rfl
      · exact absurd (.inr ⟨t1, t1', h, by simpa using h⟩) hA
    have t2' : ¬ cu.toList = cv.toList := by simpa using t2
    have hVf : V = false := by rw [HV.out, t1, t2]; rfl
    clear hA
    go_enter Tryz.func51, Tryz.ntmps51
    go_wp2_with (first | (go_at_call 105; refine (HC1.out _).mono ?_; rintro e w1 ⟨hb1, A, c, rfl, hR⟩; have HR := Lib.hid hR; clear hR; have hK1 : KBox w1 w.heap.size false 0 := Blk.keep (World.alloc_heap_new _ _) hb1; clear HC1) | (go_at_call 105; refine (HC2.out _).mono ?_; rintro e w2 ⟨hb2, B, c2, rfl, hR2⟩; have HR2 := Lib.hid hR2; clear hR2; have hK2 : KBox w2 w.heap.size false 0 := Blk.keep hK1 (blater _ hb2); obtain ⟨k0, k1, g0, g1⟩ := hK2.facts; have hz2 : w.heap.size < w2.heap.size := Blk.lt hK2; have hX2 : PatBox w2 w1.heap.size cu (.slice A n c) _ := (hb2.block w1.heap.size (by simp)).trans (World.alloc_heap_new _ _); obtain ⟨x0, x1, x2, _⟩ := hX2.facts; have hz3 : w1.heap.size < w2.heap.size := Blk.lt hX2; have hz4 : w.heap.size ≠ w1.heap.size := (by have := Blk.lt hK1; omega)))
    all_goals (subst hVf; exact bodyPost_ret (v := .agg #[.bool false, .int .i64 0]) (by simp [results, Tryz.results51, go_sem, hz2, hz4, k0, k1, g0, g1]) rfl ⟨rfl, by (repeat (first | exact .refl _ _ | assumption | refine .drew ?_ | refine balloc ?_ _ | refine bdrewN ?_ _ | refine .setCell ?_ (by simp <;> omega) _ | refine bstep ?_ (by assumption)))⟩)
  have hV3 : V = (!decide (m < n) && !(decide (n < m) && !tl) && !(tm && !tl) && coverL x.parts y.parts) := by
    rw [HV.out]
    rcases hA with ⟨h, _⟩ | ⟨h, _, h2, _⟩
    · rw [h]; rfl
    · rw [h, h2]; rfl
  clear HV
  by_cases h1 : m < n
  · have hVf : V = false := by rw [hV3, decide_eq_true h1]; rfl
    have d1 : decide ((m : Int) < (n : Int)) = true := decide_eq_true (by omega)
    have d1' : decide (m < n) = true := decide_eq_true h1
    clear hV3
    rcases hA with ⟨t1, t1'⟩ | ⟨t1, t1', t2, t2'⟩
    all_goals
      go_enter Tryz.func51, Tryz.ntmps51
      go_wp2_with (first | (go_at_call 105; refine (HC1.out _).mono ?_; rintro e w1 ⟨hb1, A, c, rfl, hR⟩; have HR := Lib.hid hR; clear hR; have hK1 : KBox w1 w.heap.size false 0 := Blk.keep (World.alloc_heap_new _ _) hb1; clear HC1) | (go_at_call 105; refine (HC2.out _).mono ?_; rintro e w2 ⟨hb2, B, c2, rfl, hR2⟩; have HR2 := Lib.hid hR2; clear hR2; have hK2 : KBox w2 w.heap.size false 0 := Blk.keep hK1 (blater _ hb2); obtain ⟨k0, k1, g0, g1⟩ := hK2.facts; have hz2 : w.heap.size < w2.heap.size := Blk.lt hK2; have hX2 : PatBox w2 w1.heap.size cu (.slice A n c) _ := (hb2.block w1.heap.size (by simp)).trans (World.alloc_heap_new _ _); obtain ⟨x0, x1, x2, _⟩ := hX2.facts; have hz3 : w1.heap.size < w2.heap.size := Blk.lt hX2; have hz4 : w.heap.size ≠ w1.heap.size := (by have := Blk.lt hK1; omega)))
      all_goals (subst hVf; exact bodyPost_ret (v := .agg #[.bool false, .int .i64 0]) (by simp [results, Tryz.results51, go_sem, hz2, hz4, k0, k1, g0, g1]) rfl ⟨rfl, by (repeat (first | exact .refl _ _ | assumption | refine .drew ?_ | refine balloc ?_ _ | refine bdrewN ?_ _ | refine .setCell ?_ (by simp <;> omega) _ | refine bstep ?_ (by assumption)))⟩)
  have d1 : decide ((m : Int) < (n : Int)) = false := decide_eq_false (by omega)
  have d1' : decide (m < n) = false := decide_eq_false h1
  by_cases h2 : tl = false ∧ (tm = true ∨ n < m)
  · obtain ⟨rfl, h2⟩ := h2
    have hVf : V = false := by
      rw [hV3]
      rcases h2 with rfl | h2
      · simp
      · rw [decide_eq_true h2]; simp
    clear hV3
    cases tm
    · have h3 : n < m := by
        rcases h2 with h | h
        · cases h
        · exact h
      have d2 : decide ((n : Int) < (m : Int)) = true := decide_eq_true (by omega)
      have d2' : decide (n < m) = true := decide_eq_true h3
      clear h2
      rcases hA with ⟨t1, t1'⟩ | ⟨t1, t1', t2, t2'⟩
      all_goals
        go_enter Tryz.func51, Tryz.ntmps51
        go_wp2_with (first | (go_at_call 105; refine (HC1.out _).mono ?_; rintro e w1 ⟨hb1, A, c, rfl, hR⟩; have HR := Lib.hid hR; clear hR; have hK1 : KBox w1 w.heap.size false 0 := Blk.keep (World.alloc_heap_new _ _) hb1; clear HC1) | (go_at_call 105; refine (HC2.out _).mono ?_; rintro e w2 ⟨hb2, B, c2, rfl, hR2⟩; have HR2 := Lib.hid hR2; clear hR2; have hK2 : KBox w2 w.heap.size false 0 := Blk.keep hK1 (blater _ hb2); obtain ⟨k0, k1, g0, g1⟩ := hK2.facts; have hz2 : w.heap.size < w2.heap.size := Blk.lt hK2; have hX2 : PatBox w2 w1.heap.size cu (.slice A n c) _ := (hb2.block w1.heap.size (by simp)).trans (World.alloc_heap_new _ _); obtain ⟨x0, x1, x2, _⟩ := hX2.facts; have hz3 : w1.heap.size < w2.heap.size := Blk.lt hX2; have hz4 : w.heap.size ≠ w1.heap.size := (by have := Blk.lt hK1; omega)))
        all_goals (subst hVf; exact bodyPost_ret (v := .agg #[.bool false, .int .i64 0]) (by simp [results, Tryz.results51, go_sem, hz2, hz4, k0, k1, g0, g1]) rfl ⟨rfl, by (repeat (first | exact .refl _ _ | assumption | refine .drew ?_ | refine balloc ?_ _ | refine bdrewN ?_ _ | refine .setCell ?_ (by simp <;> omega) _ | refine bstep ?_ (by assumption)))⟩)
    · clear h2
      rcases hA with ⟨t1, t1'⟩ | ⟨t1, t1', t2, t2'⟩
      all_goals
        go_enter Tryz.func51, Tryz.ntmps51
        go_wp2_with (first | (go_at_call 105; refine (HC1.out _).mono ?_; rintro e w1 ⟨hb1, A, c, rfl, hR⟩; have HR := Lib.hid hR; clear hR; have hK1 : KBox w1 w.heap.size false 0 := Blk.keep (World.alloc_heap_new _ _) hb1; clear HC1) | (go_at_call 105; refine (HC2.out _).mono ?_; rintro e w2 ⟨hb2, B, c2, rfl, hR2⟩; have HR2 := Lib.hid hR2; clear hR2; have hK2 : KBox w2 w.heap.size false 0 := Blk.keep hK1 (blater _ hb2); obtain ⟨k0, k1, g0, g1⟩ := hK2.facts; have hz2 : w.heap.size < w2.heap.size := Blk.lt hK2; have hX2 : PatBox w2 w1.heap.size cu (.slice A n c) _ := (hb2.block w1.heap.size (by simp)).trans (World.alloc_heap_new _ _); obtain ⟨x0, x1, x2, _⟩ := hX2.facts; have hz3 : w1.heap.size < w2.heap.size := Blk.lt hX2; have hz4 : w.heap.size ≠ w1.heap.size := (by have := Blk.lt hK1; omega)))
        all_goals (subst hVf; exact bodyPost_ret (v := .agg #[.bool false, .int .i64 0]) (by simp [results, Tryz.results51, go_sem, hz2, hz4, k0, k1, g0, g1]) rfl ⟨rfl, by (repeat (first | exact .refl _ _ | assumption | refine .drew ?_ | refine balloc ?_ _ | refine bdrewN ?_ _ | refine .setCell ?_ (by simp <;> omega) _ | refine bstep ?_ (by assumption)))⟩)
  have hC : (tl = true) ∨ (tl = false ∧ tm = false ∧ decide ((n : Int) < (m : Int)) = false ∧ decide (n < m) = false) := by
    cases tl
    · right
      refine ⟨rfl, ?_, ?_, ?_⟩
      · cases tm
        · rfl
        · exact absurd ⟨rfl, .inl rfl⟩ h2
      · exact decide_eq_false (fun h => h2 ⟨rfl, .inr (by omega)⟩)
      · exact decide_eq_false (fun h => h2 ⟨rfl, .inr h⟩)
    · exact .inl rfl
  have hV4 : V = coverL x.parts y.parts := by
    rw [hV3, d1']
    rcases hC with rfl | ⟨rfl, rfl, _, d⟩
    · simp
    · rw [d]; rfl
  have HV4 := Lib.hid hV4
  have hnm : n ≤ m := by omega
  clear hV3 hV4 h1 h2
  rcases hA with ⟨t1, t1'⟩ | ⟨t1, t1', t2, t2'⟩ <;> rcases hC with rfl | ⟨rfl, rfl, d2, d2'⟩
  all_goals
    go_enter Tryz.func51, Tryz.ntmps51
    go_wp2_with (first | (go_at_call 105; refine (HC1.out _).mono ?_; rintro e w1 ⟨hb1, A, c, rfl, hR⟩; have HR := Lib.hid hR; clear hR; have hK1 : KBox w1 w.heap.size false 0 := Blk.keep (World.alloc_heap_new _ _) hb1; clear HC1) | (go_at_call 105; refine (HC2.out _).mono ?_; rintro e w2 ⟨hb2, B, c2, rfl, hR2⟩; have HR2 := Lib.hid hR2; clear hR2; have hK2 : KBox w2 w.heap.size false 0 := Blk.keep hK1 (blater _ hb2); obtain ⟨k0, k1, g0, g1⟩ := hK2.facts; have hz2 : w.heap.size < w2.heap.size := Blk.lt hK2; have hX2 : PatBox w2 w1.heap.size cu (.slice A n c) _ := (hb2.block w1.heap.size (by simp)).trans (World.alloc_heap_new _ _); obtain ⟨x0, x1, x2, _⟩ := hX2.facts; have hz3 : w1.heap.size < w2.heap.size := Blk.lt hX2; have hz4 : w.heap.size ≠ w1.heap.size := (by have := Blk.lt hK1; omega)))
  all_goals
    go_loopw [9] (fun vi wr => ∃ k : Nat, vi = .int .i64 k ∧ k ≤ n ∧ Hid (∀ j, j < k → ∀ y' z, x.parts[j]? = some y' → y.parts[j]? = some z → coversP y'.kind y'.text z.kind z.text = true) ∧ KBox wr w.heap.size false 0 ∧ (∃ t, PatBox wr w1.heap.size cu (.slice A n c) t) ∧ (∃ t, PatBox wr w2.heap.size cv (.slice B m c2) t) ∧ Below w.heap.size w wr ∧ Below w1.heap.size w1 wr ∧ Below w2.heap.size w2 wr) (fun vi _ => n - (intOf vi).toNat)
    case atStart => exact ⟨0, rfl, Nat.zero_le _, Lib.hid (fun j h => absurd h (by omega)), (Below.heap_alloc _ _ _ hz2).trans hK2, ⟨_, (Below.heap_alloc _ _ _ hz3).trans hX2⟩, ⟨_, World.alloc_heap_new _ _⟩, by (repeat (first | exact .refl _ _ | assumption | refine .drew ?_ | refine balloc ?_ _ | refine bdrewN ?_ _ | refine .setCell ?_ (by simp <;> omega) _ | refine bstep ?_ (by assumption))), by (repeat (first | exact .refl _ _ | assumption | refine .drew ?_ | refine balloc ?_ _ | refine bdrewN ?_ _ | refine .setCell ?_ (by simp <;> omega) _ | refine bstep ?_ (by assumption))), by (repeat (first | exact .refl _ _ | assumption | refine .drew ?_ | refine balloc ?_ _ | refine bdrewN ?_ _ | refine .setCell ?_ (by simp <;> omega) _ | refine bstep ?_ (by assumption)))⟩
    case round =>
      clear hK2 hX2 x0 x1 x2 k0 k1 g0 g1
      obtain ⟨k, rfl, hk, HK, hK, ⟨tx, hX⟩, ⟨ty, hY⟩, hbr, hbr1, hbr2⟩ := hrel
      obtain ⟨x0, x1, x2, _⟩ := hX.facts
      obtain ⟨y0, y1, y2, _⟩ := hY.facts
      by_cases hlt : k < n
      · obtain ⟨a, ha⟩ : ∃ a, x.parts[k]? = some a := ⟨_, List.getElem?_eq_getElem (by have := HN.out; omega)⟩
        obtain ⟨z, hz⟩ : ∃ z, y.parts[k]? = some z := ⟨_, List.getElem?_eq_getElem (by have := HM.out; omega)⟩
        obtain ⟨b, o, rfl, hcell⟩ := (HR.out.keep hbr1).2 (by omega)
        obtain ⟨b2, o2, rfl, hcell2⟩ := (HR2.out.keep hbr2).2 (by omega)
        have hc1 : wr.cell? ⟨b, o + k, none⟩ = some (.string (strP a)) := hcell k _ (by rw [List.getElem?_map, strL_at _ _ _ ha]; rfl)
        have hc2 : wr.cell? ⟨b2, o2 + k, none⟩ = some (.string (strP z)) := hcell2 k _ (by rw [List.getElem?_map, strL_at _ _ _ hz]; rfl)
        obtain ⟨haf, has⟩ := HPS.out a (List.mem_of_getElem? ha)
        obtain ⟨hzf, hzs⟩ := HQS.out z (List.mem_of_getElem? hz)
        have cM := fun W => rCovers_any (strP a) (strP z) W (by omega) (by omega)
        rw [cov_covers haf hzf] at cM
        have hk0 : (0 : Int) ≤ (k : Int) := by omega
        have hk1 : (k : Int) < (n : Int) := by omega
        have hk2 : (k : Int) < (m : Int) := by omega
        have HY := Lib.hid (show x.parts[k]? = some a ∧ y.parts[k]? = some z from ⟨ha, hz⟩)
        generalize strP a = sa at *
        generalize strP z = sz at *
        clear hcell hcell2 ha hz haf hzf
        cases hh : coversP a.kind a.text z.kind z.text
        · have hVf : V = false := by
            rw [HV4.out]
            cases hml : coverL x.parts y.parts
            · rfl
            · have := (coverL_at x.parts y.parts (by have := HM.out; have := HN.out; omega)).1 hml k a z HY.out.1 HY.out.2
              rw [hh] at this; cases this
          rw [hh] at cM
          have HMM := Lib.hid cM
          clear cM hh
          go_wp2_with fail
          have q1 := cell_regrown hc1; have q2 := cell_regrown hc2; have q3 := cell_regrown x1; have q4 := cell_regrown y1
          refine wp_region_quiet_below (by kernel_rfl) (by kernel_rfl) ?_; (repeat (any_goals (first | go_big_quiet_step ((first | exact qcalls HMM.out _ _)) | quiet_step ((first | exact qcalls HMM.out _ _))))); refine wpQuiet_nil ?_; intro _ hwq; obtain ⟨⟨dq, osq⟩, hwq⟩ := hwq; subst hwq; have hb9 := below_regrown (wr) dq osq; generalize grow (redrawn (wr) dq) osq = w9 at *
          have hK9 : KBox w9 w.heap.size false 0 := Blk.keep hK hb9
          obtain ⟨k0, k1, g0, g1⟩ := hK9.facts
          have hz9 : w.heap.size < w9.heap.size := Blk.lt hK9
          go_wp2
          subst hVf
          exact bodyPost_ret (v := .agg #[.bool false, .int .i64 0]) (by simp [results, Tryz.results51, go_sem, hz9, k0, k1, g0, g1]) rfl ⟨rfl, by (repeat (first | exact .refl _ _ | assumption | refine .drew ?_ | refine balloc ?_ _ | refine bdrewN ?_ _ | refine .setCell ?_ (by simp <;> omega) _ | refine bstep ?_ (by assumption)))⟩
        · have HK2 : Hid (∀ j, j < k + 1 → ∀ y' z, x.parts[j]? = some y' → y.parts[j]? = some z → coversP y'.kind y'.text z.kind z.text = true) := Lib.hid (fun j hj y' z' h1 h2 => by
            by_cases e : j = k
            · subst e
              have e1 := HY.out.1.symm.trans h1
              have e2 := HY.out.2.symm.trans h2
              injection e1 with e1; injection e2 with e2
              rw [← e1, ← e2]; exact hh
            · exact HK.out j (by omega) y' z' h1 h2)
          rw [hh] at cM
          have HMM := Lib.hid cM
          clear cM hh HK
          go_wp2_with fail
          have q1 := cell_regrown hc1; have q2 := cell_regrown hc2; have q3 := cell_regrown x1; have q4 := cell_regrown y1
          refine wp_region_quiet_below (by kernel_rfl) (by kernel_rfl) ?_; (repeat (any_goals (first | go_big_quiet_step ((first | exact qcalls HMM.out _ _)) | quiet_step ((first | exact qcalls HMM.out _ _))))); refine wpQuiet_nil ?_; intro _ hwq; obtain ⟨⟨dq, osq⟩, hwq⟩ := hwq; subst hwq; have hb9 := below_regrown (wr) dq osq; generalize grow (redrawn (wr) dq) osq = w9 at *
          go_wp2
          exact ⟨⟨k + 1, by go_num, by omega, HK2, Blk.keep hK hb9, ⟨tx, Blk.keep hX hb9⟩, ⟨ty, Blk.keep hY hb9⟩, bstep hbr hb9, bstep hbr1 hb9, bstep hbr2 hb9⟩, by simp [intOf]; omega⟩
      · obtain rfl : k = n := by omega
        have hVt : V = true := by
          rw [HV4.out]
          exact (coverL_at x.parts y.parts (by have := HM.out; have := HN.out; omega)).2 (fun j y' z h1 h2 => HK.out j (by have := (List.getElem?_eq_some_iff.1 h1).1; have := HN.out; omega) y' z h1 h2)
        obtain ⟨k0, k1, g0, g1⟩ := hK.facts
        have hz9 : w.heap.size < wr.heap.size := Blk.lt hK
        subst hVt
        go_wp2
        exact bodyPost_ret (v := .agg #[.bool true, .int .i64 0]) (by simp [results, Tryz.results51, go_sem, hz9, k0, k1, g0, g1]) rfl ⟨rfl, by (repeat (first | exact .refl _ _ | assumption | refine .drew ?_ | refine balloc ?_ _ | refine bdrewN ?_ _ | refine .setCell ?_ (by simp <;> omega) _ | refine bstep ?_ (by assumption)))⟩
theorem rCovers2_any (p q : ByteArray) (w : World) (hp : p.size ≤ 100000) (hq : q.size ≤ 100000) : Calls Tryz.prog 51 #[.string p, .string q] w (Ret w (.agg #[.bool (coverR p q).1, .int .i64 (coverR p q).2])) := by
  unfold coverR
  cases hx : compileB p with
  | none => exact rCovers0 p q w _ _ rfl (Lib.hid (compNo hp hx)) (Lib.hid (compAny hq))
  | some x =>
    cases hy : compileB q with
    | none => exact rCovers0 p q w _ _ (Bool.and_false _) (Lib.hid (compAny hp)) (Lib.hid (compNo hq hy))
    | some y => exact rCovers1 p q x y w (compile_fit hx) (compile_fit hy) (compile_good p hp x hx) (compile_good q hq y hy) _ _ _ _ _ _ rfl rfl rfl rfl rfl rfl (Lib.hid (compAs hp hx)) (Lib.hid (compAs hq hy))
end Go.Proofs.YtocgkpdolgnbgaaGreatDoor
