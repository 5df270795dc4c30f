/- What the specification's Meet returns. -/
import Derived.Test.YtocgkpdolgnbgaaGreatDoorMPlainN
import Derived.Deep.DeepCutAuto
import Derived.Test.YtocgkpdolgnbgaaGreatDoorProg
import Derived.WalkKit
import Derived.WalkSpells
import Derived.WalkLawsBesides
import Derived.Below
import Derived.Deep.QuietTactic
import Derived.BigQuiet
import Derived.Lib.QuietBelow
import Derived.Lib.Strings
import Derived.Lib.Hide
import Derived.Deep.RegionWith
import Derived.Deep.RegionHeld3
import Derived.Lib.IndexBytes
namespace Go.Proofs.YtocgkpdolgnbgaaGreatDoor
open Go.RowKit Go.Sort
set_option linter.unusedVariables false
set_option linter.unusedSimpArgs false
set_option maxRecDepth 100000
def meetR (p q : ByteArray) : Bool × Int := match compileB p, compileB q with
  | some x, some y => ((commonP x y).isSome, 0)
  | _, _ => (false, 1)
set_option maxHeartbeats 4000000 in
theorem rMeet0 (p q : ByteArray) (w : World) (b1 b2 : Bool) (hb : (b1 && b2) = false)
    (HC1 : Hid (∀ W, Calls Tryz.prog 105 #[.string p] W (fun e w' => Below W.heap.size W w' ∧ ∃ (c : ByteArray) (A : Option Addr) (n k : Nat) (t : Bool), e = .returned (.tuple #[.agg #[.string c, .slice A n k, .bool t], .bool b1]))))
    (HC2 : Hid (∀ W, Calls Tryz.prog 105 #[.string q] W (fun e w' => Below W.heap.size W w' ∧ ∃ (c : ByteArray) (A : Option Addr) (n k : Nat) (t : Bool), e = .returned (.tuple #[.agg #[.string c, .slice A n k, .bool t], .bool b2])))) :
    Calls Tryz.prog 137 #[.string p, .string q] w (Ret w (.agg #[.bool false, .int .i64 1])) := by
  cases b1 <;> cases b2
  rotate_right
  · cases hb
  all_goals
    go_enter Tryz.func137, Tryz.ntmps137
    go_wp2_with (first | (go_at_call 105; refine (HC1.out _).mono ?_; rintro e w1 ⟨hb1, cx, A, n, k, t, rfl⟩; have hK1 : KBox w1 w.heap.size false 0 := Blk.keep (World.alloc_heap_new _ _) hb1; clear HC1) | (go_at_call 105; refine (HC2.out _).mono ?_; rintro e w2 ⟨hb2, cy, A2, n2, k2, t2, rfl⟩; have hK2 : KBox w2 w.heap.size false 0 := Blk.keep hK1 (blater _ hb2); obtain ⟨k0, k1, g0, g1⟩ := hK2.facts; have hz2 : w.heap.size < w2.heap.size := Blk.lt hK2))
    exact bodyPost_ret (v := .agg #[.bool false, .int .i64 1]) (by simp [results, Tryz.results137, go_sem, hz2, k0, k1, g0, g1]) rfl ⟨rfl, by (repeat (first | exact .refl _ _ | assumption | refine .drew ?_ | refine balloc ?_ _ | refine bdrewN ?_ _ | refine .setCell ?_ (by simp <;> omega) _ | refine bstep ?_ (by assumption)))⟩
set_option maxHeartbeats 4000000 in
theorem rMeet1 (p q : ByteArray) (x y : Pat) (w : World) (hx : PatFit x) (hy : PatFit y) (gx : PatGood x) (gy : PatGood y) (cu cv : ByteArray) (n m : Nat) (tl tm : Bool) (hcu : cu = strP x.cust) (hcv : cv = strP y.cust) (hn : n = x.parts.length) (hm : m = y.parts.length) (htl : tl = x.tail) (htm : tm = y.tail)
    (HC1 : Hid (CompAs p x cu n tl)) (HC2 : Hid (CompAs q y cv m tm)) : Calls Tryz.prog 137 #[.string p, .string q] w (Ret w (.agg #[.bool (commonP x y).isSome, .int .i64 0])) := by
  obtain ⟨V, hV⟩ : ∃ V, V = (commonP x y).isSome := ⟨_, rfl⟩
  rw [← hV]
  obtain ⟨g1, hg1⟩ : ∃ g1, g1 = !(cu.toList == [42] || cv.toList == [42] || cu.toList == cv.toList) := ⟨_, rfl⟩
  obtain ⟨g2, hg2⟩ : ∃ g2, g2 = ((decide (n < m) && !tl) || (decide (m < n) && !tm)) := ⟨_, rfl⟩
  have hV2 : V = (!g1 && !g2 && meetL x.parts y.parts) := by
    rw [hV, common_isSome, cust_meets hx.cust hy.cust, hg1, hg2, hcu, hcv, hn, hm, htl, htm, Bool.not_not, Bool.not_or, ← Bool.and_assoc]
  have hn32 := gx.num
  have hm32 := gy.num
  rw [← hn] at hn32
  rw [← hm] at hm32
  have hPS : ∀ z ∈ x.parts, PartFit z ∧ (strP z).size ≤ 200000 := fun z hz => ⟨hx.parts z hz, by have := stringP_size z.kind z.text; have := (gx.parts z hz).2; unfold strP; omega⟩
  have hQS : ∀ z ∈ y.parts, PartFit z ∧ (strP z).size ≤ 200000 := fun z hz => ⟨hy.parts z hz, by have := stringP_size z.kind z.text; have := (gy.parts z hz).2; unfold strP; omega⟩
  have HPS := Lib.hid hPS
  have HQS := Lib.hid hQS
  have HN := Lib.hid hn
  have HM := Lib.hid hm
  have HV := Lib.hid hV2
  have HG1 := Lib.hid hg1
  have HG2 := Lib.hid hg2
  clear hV hV2 hcu hcv hn hm htl htm hPS hQS hx hy gx gy hg1 hg2
  go_enter Tryz.func137, Tryz.ntmps137
  go_upto_region 5 with (first | (go_at_call 105; refine (HC1.out _).mono ?_; rintro e w1 ⟨hb1, A, c, rfl, hR⟩; have HR := Lib.hid hR; clear hR; have hK1 : KBox w1 w.heap.size false 0 := Blk.keep (World.alloc_heap_new _ _) hb1; clear HC1) | (go_at_call 105; refine (HC2.out _).mono ?_; rintro e w2 ⟨hb2, B, c2, rfl, hR2⟩; have HR2 := Lib.hid hR2; clear hR2; have hK2 : KBox w2 w.heap.size false 0 := Blk.keep hK1 (blater _ hb2); have hz2 : w.heap.size < w2.heap.size := Blk.lt hK2; have hX2 : PatBox w2 w1.heap.size cu (.slice A n c) tl := (hb2.block w1.heap.size (by simp)).trans (World.alloc_heap_new _ _); obtain ⟨x0, x1, x2, _⟩ := hX2.facts; have hz3 : w1.heap.size < w2.heap.size := Blk.lt hX2))
  go_cut [41] (fun v wx => v = .bool g1 ∧ KBox wx w.heap.size false 0 ∧ PatBox wx w1.heap.size cu (.slice A n c) tl ∧ PatBox wx w2.heap.size cv (.slice B m c2) tm ∧ Below w.heap.size w wx ∧ Below w1.heap.size w1 wx ∧ Below w2.heap.size w2 wx)
  case first =>
    have hbA : Below w.heap.size w w2 := by (repeat (first | exact .refl _ _ | assumption | refine .drew ?_ | refine balloc ?_ _ | refine bdrewN ?_ _ | refine .setCell ?_ (by simp <;> omega) _ | refine bstep ?_ (by assumption)))
    have hbB : Below w1.heap.size w1 w2 := blater _ hb2
    cases t1 : (cu.toList == [42])
    · have t1' : ¬ cu.toList = [42] := by simpa using t1
      cases t2 : (cv.toList == [42])
      · have t2' : ¬ cv.toList = [42] := by simpa using t2
        cases t3 : (cu.toList == cv.toList)
        · have t3' : ¬ cu.toList = cv.toList := by simpa using t3
          obtain rfl : g1 = true := by rw [HG1.out, t1, t2, t3]; rfl
          clear HG1
          go_wp2_with fail
          go_meet
          exact ⟨rfl, (Below.heap_alloc _ _ _ hz2).trans hK2, (Below.heap_alloc _ _ _ hz3).trans hX2, World.alloc_heap_new _ _, balloc hbA _, balloc hbB _, balloc (Below.refl _ _) _⟩
        · have t3' : cu.toList = cv.toList := by simpa using t3
          obtain rfl : g1 = false := by rw [HG1.out, t3]; simp
          clear HG1
          go_wp2_with fail
          go_meet
          exact ⟨rfl, (Below.heap_alloc _ _ _ hz2).trans hK2, (Below.heap_alloc _ _ _ hz3).trans hX2, World.alloc_heap_new _ _, balloc hbA _, balloc hbB _, balloc (Below.refl _ _) _⟩
      · have t2' : cv.toList = [42] := by simpa using t2
        obtain rfl : g1 = false := by rw [HG1.out, t2]; simp
        clear HG1
        go_wp2_with fail
        go_meet
        exact ⟨rfl, (Below.heap_alloc _ _ _ hz2).trans hK2, (Below.heap_alloc _ _ _ hz3).trans hX2, World.alloc_heap_new _ _, balloc hbA _, balloc hbB _, balloc (Below.refl _ _) _⟩
    · have t1' : cu.toList = [42] := by simpa using t1
      obtain rfl : g1 = false := by rw [HG1.out, t1]; rfl
      clear HG1
      go_wp2_with fail
      go_meet
      exact ⟨rfl, (Below.heap_alloc _ _ _ hz2).trans hK2, (Below.heap_alloc _ _ _ hz3).trans hX2, World.alloc_heap_new _ _, balloc hbA _, balloc hbB _, balloc (Below.refl _ _) _⟩
  case rest =>
    obtain ⟨rfl, hKc, hXc, hYc, hbc, hbc1, hbc2⟩ := hcut
    clear hK1 hK2 hX2 x0 x1 x2 hb1 hb2 HG1
    obtain ⟨k0, k1, g0, g9⟩ := hKc.facts
    obtain ⟨x0, x1, x2, _⟩ := hXc.facts
    obtain ⟨y0, y1, y2, _⟩ := hYc.facts
    have hzc : w.heap.size < wc.heap.size := Blk.lt hKc
    cases g1
    rotate_left
    · obtain rfl : V = false := by rw [HV.out]; rfl
      go_wp2
      exact bodyPost_ret (v := .agg #[.bool false, .int .i64 0]) (by simp [results, Tryz.results137, go_sem, hzc, k0, k1, g0, g9]) rfl ⟨rfl, by (repeat (first | exact .refl _ _ | assumption | refine .drew ?_ | refine balloc ?_ _ | refine bdrewN ?_ _ | refine .setCell ?_ (by simp <;> omega) _ | refine bstep ?_ (by assumption)))⟩
    go_upto_region 7 with fail
    go_cut [68] (fun v wx => v = .bool g2 ∧ wx = wc)
    case first =>
      rcases Nat.lt_trichotomy n m with h | h | h
      · have d1 : decide ((n : Int) < (m : Int)) = true := decide_eq_true (by omega)
        have d1' : decide (n < m) = true := decide_eq_true h
        have d2 : decide ((m : Int) < (n : Int)) = false := decide_eq_false (by omega)
        have d2' : decide (m < n) = false := decide_eq_false (by omega)
        obtain rfl : g2 = !tl := by rw [HG2.out, d1', d2']; simp
        clear HG2
        cases tl
        all_goals
          go_wp2_with fail
          go_meet
          exact ⟨rfl, rfl⟩
      · subst h
        have d1 : decide ((n : Int) < (n : Int)) = false := decide_eq_false (by omega)
        have d1' : decide (n < n) = false := decide_eq_false (by omega)
        obtain rfl : g2 = false := by rw [HG2.out, d1']; simp
        clear HG2
        go_wp2_with fail
        go_meet
        exact ⟨rfl, rfl⟩
      · have d1 : decide ((n : Int) < (m : Int)) = false := decide_eq_false (by omega)
        have d1' : decide (n < m) = false := decide_eq_false (by omega)
        have d2 : decide ((m : Int) < (n : Int)) = true := decide_eq_true (by omega)
        have d2' : decide (m < n) = true := decide_eq_true h
        obtain rfl : g2 = !tm := by rw [HG2.out, d1', d2']; simp
        clear HG2
        cases tm
        all_goals
          go_wp2_with fail
          go_meet
          exact ⟨rfl, rfl⟩
    case rest =>
    obtain ⟨rfl, rfl⟩ := hcut
    clear HG2
    cases g2
    rotate_left
    · obtain rfl : V = false := by rw [HV.out]; rfl
      go_wp2
      exact bodyPost_ret (v := .agg #[.bool false, .int .i64 0]) (by simp [results, Tryz.results137, go_sem, hzc, k0, k1, g0, g9]) rfl ⟨rfl, by (repeat (first | exact .refl _ _ | assumption | refine .drew ?_ | refine balloc ?_ _ | refine bdrewN ?_ _ | refine .setCell ?_ (by simp <;> omega) _ | refine bstep ?_ (by assumption)))⟩
    have HV4 : Hid (V = meetL x.parts y.parts) := Lib.hid (by rw [HV.out]; simp)
    clear HV
    go_wp2
    clear k0 k1 g0 g9 x0 x1 x2 y0 y1 y2 hzc
    go_loopw [9] (fun vi wr => ∃ k : Nat, vi = .int .i64 k ∧ k ≤ n ∧ k ≤ m ∧ Hid (∀ j, j < k → ∀ y' z, x.parts[j]? = some y' → y.parts[j]? = some z → meetsP y' z = true) ∧ KBox wr w.heap.size false 0 ∧ PatBox wr w1.heap.size cu (.slice A n c) tl ∧ PatBox wr w2.heap.size cv (.slice B m c2) tm ∧ Below w.heap.size w wr ∧ Below w1.heap.size w1 wr ∧ Below w2.heap.size w2 wr) (fun vi _ => n - (intOf vi).toNat)
    case atStart => exact ⟨0, rfl, Nat.zero_le _, Nat.zero_le _, Lib.hid (fun j h => absurd h (by omega)), hKc, hXc, hYc, hbc, hbc1, hbc2⟩
    case round =>
      clear hKc hXc hYc hbc hbc1 hbc2
      obtain ⟨k, rfl, hk, hkm, HK, hK, hX, hY, hbr, hbr1, hbr2⟩ := hrel
      obtain ⟨x0, x1, x2, _⟩ := hX.facts
      obtain ⟨y0, y1, y2, _⟩ := hY.facts
      have hend : (k = n ∨ k = m) → V = true := fun he => by
        rw [HV4.out]
        refine (meetL_iff _ _).2 (fun j y' z h1 h2 => HK.out j ?_ y' z h1 h2)
        have := (List.getElem?_eq_some_iff.1 h1).1
        have := (List.getElem?_eq_some_iff.1 h2).1
        have := HM.out
        have := HN.out
        omega
      have HEND := Lib.hid hend
      clear hend
      by_cases hlt : k < n
      rotate_left
      · have hVt := HEND.out (.inl (by omega))
        have d1 : decide ((k : Int) < (n : Int)) = false := decide_eq_false (by omega)
        obtain ⟨k0, k1, g0, g9⟩ := hK.facts
        have hz9 : w.heap.size < wr.heap.size := Blk.lt hK
        subst hVt
        go_wp2
        exact bodyPost_ret (v := .agg #[.bool true, .int .i64 0]) (by simp [results, Tryz.results137, go_sem, hz9, k0, k1, g0, g9]) rfl ⟨rfl, by (repeat (first | exact .refl _ _ | assumption | refine .drew ?_ | refine balloc ?_ _ | refine bdrewN ?_ _ | refine .setCell ?_ (by simp <;> omega) _ | refine bstep ?_ (by assumption)))⟩
      have d1 : decide ((k : Int) < (n : Int)) = true := decide_eq_true (by omega)
      by_cases hlt2 : k < m
      rotate_left
      · have hVt := HEND.out (.inr (by omega))
        have d2 : decide ((k : Int) < (m : Int)) = false := decide_eq_false (by omega)
        obtain ⟨k0, k1, g0, g9⟩ := hK.facts
        have hz9 : w.heap.size < wr.heap.size := Blk.lt hK
        subst hVt
        go_wp2
        exact bodyPost_ret (v := .agg #[.bool true, .int .i64 0]) (by simp [results, Tryz.results137, go_sem, hz9, k0, k1, g0, g9]) rfl ⟨rfl, by (repeat (first | exact .refl _ _ | assumption | refine .drew ?_ | refine balloc ?_ _ | refine bdrewN ?_ _ | refine .setCell ?_ (by simp <;> omega) _ | refine bstep ?_ (by assumption)))⟩
      have d2 : decide ((k : Int) < (m : Int)) = true := decide_eq_true (by omega)
      clear HEND
      obtain ⟨a, ha⟩ : ∃ a, x.parts[k]? = some a := ⟨_, List.getElem?_eq_getElem (by have := HN.out; omega)⟩
      obtain ⟨z, hz⟩ : ∃ z, y.parts[k]? = some z := ⟨_, List.getElem?_eq_getElem (by have := HM.out; omega)⟩
      obtain ⟨b, o, rfl, hcell⟩ := (HR.out.keep hbr1).2 (by omega)
      obtain ⟨b2, o2, rfl, hcell2⟩ := (HR2.out.keep hbr2).2 (by omega)
      have hc1 : wr.cell? ⟨b, o + k, none⟩ = some (.string (strP a)) := hcell k _ (by rw [List.getElem?_map, strL_at _ _ _ ha]; rfl)
      have hc2 : wr.cell? ⟨b2, o2 + k, none⟩ = some (.string (strP z)) := hcell2 k _ (by rw [List.getElem?_map, strL_at _ _ _ hz]; rfl)
      obtain ⟨haf, has⟩ := HPS.out a (List.mem_of_getElem? ha)
      obtain ⟨hzf, hzs⟩ := HQS.out z (List.mem_of_getElem? hz)
      have cM := fun W => rMeets_any (strP a) (strP z) W (by omega) (by omega)
      rw [part_meets haf hzf] at cM
      have hk0 : (0 : Int) ≤ (k : Int) := by omega
      have hk1 : (k : Int) < (n : Int) := by omega
      have hk2 : (k : Int) < (m : Int) := by omega
      have HY := Lib.hid (show x.parts[k]? = some a ∧ y.parts[k]? = some z from ⟨ha, hz⟩)
      generalize strP a = sa at *
      generalize strP z = sz at *
      clear hcell hcell2 ha hz haf hzf
      cases hh : meetsP a z
      · have hVf : V = false := by
          rw [HV4.out]
          cases hml : meetL x.parts y.parts
          · rfl
          · have := (meetL_iff x.parts y.parts).1 hml k a z HY.out.1 HY.out.2
            rw [hh] at this; cases this
        rw [hh] at cM
        have HMM := Lib.hid cM
        clear cM hh
        go_wp2_with fail
        have q1 := cell_regrown hc1; have q2 := cell_regrown hc2; have q3 := cell_regrown x1; have q4 := cell_regrown y1
        refine wp_region_quiet_below (by kernel_rfl) (by kernel_rfl) ?_; (repeat (any_goals (first | go_big_quiet_step ((first | exact qcalls HMM.out _ _)) | quiet_step ((first | exact qcalls HMM.out _ _))))); refine wpQuiet_nil ?_; intro _ hwq; obtain ⟨⟨dq, osq⟩, hwq⟩ := hwq; subst hwq; have hb9 := below_regrown (wr) dq osq; generalize grow (redrawn (wr) dq) osq = w9 at *
        have hK9 : KBox w9 w.heap.size false 0 := Blk.keep hK hb9
        obtain ⟨k0, k1, g0, g9⟩ := hK9.facts
        have hz9 : w.heap.size < w9.heap.size := Blk.lt hK9
        subst hVf
        go_wp2
        exact bodyPost_ret (v := .agg #[.bool false, .int .i64 0]) (by simp [results, Tryz.results137, go_sem, hz9, k0, k1, g0, g9]) rfl ⟨rfl, by (repeat (first | exact .refl _ _ | assumption | refine .drew ?_ | refine balloc ?_ _ | refine bdrewN ?_ _ | refine .setCell ?_ (by simp <;> omega) _ | refine bstep ?_ (by assumption)))⟩
      · have HK2 : Hid (∀ j, j < k + 1 → ∀ y' z, x.parts[j]? = some y' → y.parts[j]? = some z → meetsP y' z = true) := Lib.hid (fun j hj y' z' h1 h2 => by
          by_cases e : j = k
          · subst e
            have e1 := HY.out.1.symm.trans h1
            have e2 := HY.out.2.symm.trans h2
            injection e1 with e1; injection e2 with e2
            rw [← e1, ← e2]; exact hh
          · exact HK.out j (by omega) y' z' h1 h2)
        rw [hh] at cM
        have HMM := Lib.hid cM
        clear cM hh HK
        go_wp2_with fail
        have q1 := cell_regrown hc1; have q2 := cell_regrown hc2; have q3 := cell_regrown x1; have q4 := cell_regrown y1
        refine wp_region_quiet_below (by kernel_rfl) (by kernel_rfl) ?_; (repeat (any_goals (first | go_big_quiet_step ((first | exact qcalls HMM.out _ _)) | quiet_step ((first | exact qcalls HMM.out _ _))))); refine wpQuiet_nil ?_; intro _ hwq; obtain ⟨⟨dq, osq⟩, hwq⟩ := hwq; subst hwq; have hb9 := below_regrown (wr) dq osq; generalize grow (redrawn (wr) dq) osq = w9 at *
        go_wp2
        exact ⟨⟨k + 1, by go_num, by omega, by omega, HK2, Blk.keep hK hb9, Blk.keep hX hb9, Blk.keep hY hb9, bstep hbr hb9, bstep hbr1 hb9, bstep hbr2 hb9⟩, by simp [intOf]; omega⟩
theorem rMeet2_any (p q : ByteArray) (w : World) (hp : p.size ≤ 100000) (hq : q.size ≤ 100000) : Calls Tryz.prog 137 #[.string p, .string q] w (Ret w (.agg #[.bool (meetR p q).1, .int .i64 (meetR p q).2])) := by
  unfold meetR
  cases hx : compileB p with
  | none => exact rMeet0 p q w _ _ rfl (Lib.hid (compNo hp hx)) (Lib.hid (compAny hq))
  | some x =>
    cases hy : compileB q with
    | none => exact rMeet0 p q w _ _ (Bool.and_false _) (Lib.hid (compAny hp)) (Lib.hid (compNo hq hy))
    | some y => exact rMeet1 p q x y w (compile_fit hx) (compile_fit hy) (compile_good p hp x hx) (compile_good q hq y hy) _ _ _ _ _ _ rfl rfl rfl rfl rfl rfl (Lib.hid (compAs hp hx)) (Lib.hid (compAs hq hy))
end Go.Proofs.YtocgkpdolgnbgaaGreatDoor
