/- What the cond package's small functions return. -/
import Derived.Test.YtocgkpdolgnbgaaGreatDoorPGA
import Derived.Sort.Walk0
import Derived.Test.YtocgkpdolgnbgaaGreatDoorProg
import Derived.WalkKit
import Derived.WalkSpells
import Derived.WalkLawsBesides
import Derived.Below
import Derived.Deep.QuietTactic
import Derived.BigQuiet
import Derived.Lib.QuietBelow
import Derived.Lib.Strings
import Derived.Lib.Hide
import Derived.Deep.RegionWith
import Derived.Deep.RegionHeld3
import Derived.Lib.IndexBytes
namespace Go.Proofs.YtocgkpdolgnbgaaGreatDoor
open Go.RowKit Go.Sort
set_option linter.unusedVariables false
set_option linter.unusedSimpArgs false
set_option maxRecDepth 100000
theorem isSite_any (n : Int) (w : World) : Calls Tryz.prog 59 #[.int .i64 n] w (Ret w (.bool (siteB n))) := by
  by_cases h0 : 0 ≤ n
  · by_cases h1 : n < 64
    · have hv : siteB n = true := decide_eq_true ⟨h0, h1⟩
      have d0 : decide (0 ≤ n) = true := decide_eq_true h0
      have d1 : decide (n < 64) = true := decide_eq_true h1
      rw [hv]
      go_enter Tryz.func59, Tryz.ntmps59
      go_wp2
      go_ret
      exact ⟨rfl, by (repeat (first | exact .refl _ _ | assumption | refine .drew ?_ | refine balloc ?_ _ | refine bdrewN ?_ _ | refine .setCell ?_ (by simp <;> omega) _ | refine bstep ?_ (by assumption)))⟩
    · have hv : siteB n = false := decide_eq_false (fun h => h1 h.2)
      have d0 : decide (0 ≤ n) = true := decide_eq_true h0
      have d1 : decide (n < 64) = false := decide_eq_false h1
      rw [hv]
      go_enter Tryz.func59, Tryz.ntmps59
      go_wp2
      go_ret
      exact ⟨rfl, by (repeat (first | exact .refl _ _ | assumption | refine .drew ?_ | refine balloc ?_ _ | refine bdrewN ?_ _ | refine .setCell ?_ (by simp <;> omega) _ | refine bstep ?_ (by assumption)))⟩
  · have hv : siteB n = false := decide_eq_false (fun h => h0 h.1)
    have d0 : decide (0 ≤ n) = false := decide_eq_false h0
    rw [hv]
    go_enter Tryz.func59, Tryz.ntmps59
    go_wp2
    go_ret
    exact ⟨rfl, by (repeat (first | exact .refl _ _ | assumption | refine .drew ?_ | refine balloc ?_ _ | refine bdrewN ?_ _ | refine .setCell ?_ (by simp <;> omega) _ | refine bstep ?_ (by assumption)))⟩
theorem two_bytes (s : ByteArray) (h : s.size = 2) : s.data.toList = [s[0]'(by omega), s[1]'(by omega)] := by
  have hl : s.data.toList.length = 2 := by rw [← Lib.size_eq]; exact h
  refine List.ext_getElem (by simpa using hl) fun i h1 h2 => ?_
  have hi : i < 2 := by omega
  rcases i with _ | _ | i
  · rfl
  · rfl
  · omega
theorem country_two (s : ByteArray) (h : s.size = 2) : countryB s = (decide ((97 : Int) ≤ min ((s[0]'(by omega)).toNat : Int) ((s[1]'(by omega)).toNat : Int)) && decide (max ((s[0]'(by omega)).toNat : Int) ((s[1]'(by omega)).toNat : Int) ≤ 122)) := by
  unfold countryB
  rw [decide_eq_true h, Bool.true_and, two_bytes s h]
  simp only [List.all_cons, List.all_nil, Bool.and_true]
  rw [Bool.eq_iff_iff]
  simp only [Bool.and_eq_true, decide_eq_true_eq]
  omega
set_option maxHeartbeats 1000000 in
theorem isCountry_any (s : ByteArray) (w : World) (hs : s.size ≤ 4294967281) : Calls Tryz.prog 57 #[.string s] w (Ret w (.bool (countryB s))) := by
  by_cases h2 : s.size = 2
  · have d2 : ((s.size : Int) == 2) = true := by simp; omega
    have hv := country_two s h2
    have q0 : (0 : Int) < (s.size : Int) := by omega
    have q1 : (1 : Int) < (s.size : Int) := by omega
    rw [hv]
    clear hv
    cases e1 : decide ((97 : Int) ≤ min ((s[0]'(by omega)).toNat : Int) ((s[1]'(by omega)).toNat : Int))
    · go_enter Tryz.func57, Tryz.ntmps57
      go_wp2_with fail
      go_quiet (fail)
      go_wp2
      go_ret
      exact ⟨rfl, by (repeat (first | exact .refl _ _ | assumption | refine .drew ?_ | refine balloc ?_ _ | refine bdrewN ?_ _ | refine .setCell ?_ (by simp <;> omega) _ | refine bstep ?_ (by assumption)))⟩
    · generalize e2 : decide (max ((s[0]'(by omega)).toNat : Int) ((s[1]'(by omega)).toNat : Int) ≤ 122) = b2
      go_enter Tryz.func57, Tryz.ntmps57
      go_wp2_with fail
      go_quiet (fail)
      go_wp2
      go_ret
      exact ⟨ret_bool (by simp), by (repeat (first | exact .refl _ _ | assumption | refine .drew ?_ | refine balloc ?_ _ | refine bdrewN ?_ _ | refine .setCell ?_ (by simp <;> omega) _ | refine bstep ?_ (by assumption)))⟩
  · have d2 : ((s.size : Int) == 2) = false := beq_eq_false_iff_ne.2 (by omega)
    have hv : countryB s = false := by unfold countryB; rw [decide_eq_false h2]; rfl
    rw [hv]
    go_enter Tryz.func57, Tryz.ntmps57
    go_wp2_with fail
    go_quiet (fail)
    go_wp2
    go_ret
    exact ⟨rfl, by (repeat (first | exact .refl _ _ | assumption | refine .drew ?_ | refine balloc ?_ _ | refine bdrewN ?_ _ | refine .setCell ?_ (by simp <;> omega) _ | refine bstep ?_ (by assumption)))⟩
theorem key_less2 (a b : ByteArray) : (!(Op.bytesLess a.toList b.toList || a.toList == b.toList)) = decide (b.data.toList < a.data.toList) := by
  rw [bytesLess_eq, Lib.toList_data, Lib.toList_data, Bool.eq_iff_iff]
  simp only [Bool.not_eq_true', Bool.or_eq_false_iff, decide_eq_false_iff_not, beq_eq_false_iff_ne, decide_eq_true_eq]
  constructor
  · rintro ⟨h1, h2⟩; exact lt_tri _ _ h2 h1
  · intro h
    exact ⟨fun h1 => List.lt_irrefl _ (List.lt_trans h h1), fun e => List.lt_irrefl _ (by rw [e] at h; exact h)⟩
theorem le_prev (x y : ByteArray) : (Op.bytesLess x.toList y.toList || x.toList == y.toList) = !ltB y x := by
  have := key_less2 x y
  unfold ltB
  rw [← this, Bool.not_not]
theorem okK_upto {α : Type} {lt : α → α → Bool} {right : α → Bool} {l : List α} {k : Nat} (h : (List.range k).all (okK lt right l) = true) (h2 : okK lt right l k = true) : (List.range (k + 1)).all (okK lt right l) = true := by
  rw [List.range_succ, List.all_append, h]; simp [h2]
theorem okK_fail {α : Type} {lt : α → α → Bool} {right : α → Bool} {l : List α} {k most : Nat} (hk : k < l.length) (h2 : okK lt right l k = false) : setB lt right most l = false := by
  unfold setB
  have : (List.range l.length).all (okK lt right l) = false := by
    rw [List.all_eq_false]
    exact ⟨k, by simpa using hk, by rw [h2]; simp⟩
  rw [this]; rfl
set_option maxHeartbeats 2000000 in
theorem isSetS_any (g : Nat) (eg : ∀ args w, (callFunc g args).run Tryz.prog w = .ok (.enter g args) w) (right : ByteArray → Bool) (A : Option Addr) (n c : Nat) (xs : List ByteArray) (most : Nat) (w : World)
    (hp : ∀ x ∈ xs, ∀ W, Env W → Calls Tryz.prog g #[.string x] W (Ret W (.bool (right x)))) (hA : Reads w 1 A n (xs.map .string)) (hn : n ≤ 1000000000) (hm : most ≤ 1000000) (hE : Env w) :
    Calls Tryz.prog 55 #[.slice A n c, .int .i64 most, .func (.func g) #[] #[]] w (Ret w (.bool (setB ltB right most xs))) := by
  have hl : xs.length = n := by have := hA.1; simp at this; omega
  have HP := Lib.hid hp; have HA := Lib.hid hA; have HL := Lib.hid hl; have HE := Lib.hid hE
  obtain ⟨V, hV⟩ : ∃ V, V = setB ltB right most xs := ⟨_, rfl⟩
  rw [← hV]
  have HV := Lib.hid hV
  clear hp hA hl hE hV
  go_enter Tryz.func55, Tryz.ntmps55
  go_wp2
  go_loopw [11] (fun i wr => ∃ k : Nat, k ≤ n ∧ i = .int .i64 k ∧ Hid ((List.range k).all (okK ltB right xs) = true) ∧ Below w.heap.size w wr) (fun i _ => n - (intOf i).toNat)
  case atStart => exact ⟨0, by omega, rfl, Lib.hid rfl, Below.refl _ _⟩
  case round =>
    obtain ⟨k, hk, rfl, HK, hb⟩ := hrel
    by_cases hlt : k < n
    · obtain ⟨x, hx⟩ : ∃ x, xs[k]? = some x := ⟨_, List.getElem?_eq_getElem (by have := HL.out; omega)⟩
      obtain ⟨pb, po, rfl, hcell⟩ := (HA.out.keep hb).2 (by omega)
      have hc1 : wr.cell? ⟨pb, po + k, none⟩ = some (.string x) := hcell k _ (by simp [hx])
      have hc := fun W h => HP.out x (List.mem_of_getElem? hx) W h
      have hok : okK ltB right xs k = (right x && (k == 0 || (match xs[k - 1]? with
        | none => true
        | some y => ltB y x))) := by unfold okK; rw [hx]; cases xs[k - 1]? <;> rfl
      have hfail : okK ltB right xs k = false → V = false := fun h => by rw [HV.out]; exact okK_fail (by have := HL.out; omega) h
      cases hr : right x
      · have hVf : V = false := hfail (by rw [hok, hr]; rfl)
        rw [hr] at hc
        have HC := Lib.hid hc
        clear hc hr hok hfail hcell hx
        subst hVf
        go_wp2_with (go_at_fn g; refine (HC.out _ (Env.keep HE.out (by (repeat (first | exact .refl _ _ | assumption | refine .drew ?_ | refine balloc ?_ _ | refine bdrewN ?_ _ | refine .setCell ?_ (by simp <;> omega) _ | refine bstep ?_ (by assumption)))))).mono ?_; rintro e w2 ⟨rfl, hb2⟩)
        go_ret
        exact ⟨rfl, by (repeat (first | exact .refl _ _ | assumption | refine .drew ?_ | refine balloc ?_ _ | refine bdrewN ?_ _ | refine .setCell ?_ (by simp <;> omega) _ | refine bstep ?_ (by assumption)))⟩
      · rw [hr] at hc
        have HC := Lib.hid hc
        rcases k with _ | j
        · have HK2 : Hid ((List.range (0 + 1)).all (okK ltB right xs) = true) := Lib.hid (okK_upto HK.out (by rw [hok, hr]; rfl))
          simp only [Nat.add_zero] at hc1
          clear hc hr hok hfail hcell hx
          go_wp2_with (go_at_fn g; refine (HC.out _ (Env.keep HE.out (by (repeat (first | exact .refl _ _ | assumption | refine .drew ?_ | refine balloc ?_ _ | refine bdrewN ?_ _ | refine .setCell ?_ (by simp <;> omega) _ | refine bstep ?_ (by assumption)))))).mono ?_; rintro e w2 ⟨rfl, hb2⟩)
          exact ⟨⟨1, by omega, by go_num, HK2, by (repeat (first | exact .refl _ _ | assumption | refine .drew ?_ | refine balloc ?_ _ | refine bdrewN ?_ _ | refine .setCell ?_ (by simp <;> omega) _ | refine bstep ?_ (by assumption)))⟩, by simp [intOf]; omega⟩
        · obtain ⟨y, hy⟩ : ∃ y, xs[j]? = some y := ⟨_, List.getElem?_eq_getElem (by have := HL.out; omega)⟩
          have hc2 : wr.cell? ⟨pb, po + j, none⟩ = some (.string y) := hcell j _ (by simp [hy])
          have hle := le_prev x y
          rw [Nat.add_sub_cancel, hy] at hok
          have hok : okK ltB right xs (j + 1) = ltB y x := by rw [hok, hr]; simp
          have hj0 : (0 : Int) ≤ (j : Int) := by omega
          have hj1 : (j : Int) < (n : Int) := by omega
          cases ht : ltB y x
          · have hVf : V = false := hfail (by rw [hok, ht])
            rw [ht] at hle
            clear hc hr hok hfail hcell hx hy
            subst hVf
            go_wp2_with (go_at_fn g; refine (HC.out _ (Env.keep HE.out (by (repeat (first | exact .refl _ _ | assumption | refine .drew ?_ | refine balloc ?_ _ | refine bdrewN ?_ _ | refine .setCell ?_ (by simp <;> omega) _ | refine bstep ?_ (by assumption)))))).mono ?_; rintro e w2 ⟨rfl, hb2⟩; have hc3 := cell_keep hb2 hc2)
            go_ret
            exact ⟨rfl, by (repeat (first | exact .refl _ _ | assumption | refine .drew ?_ | refine balloc ?_ _ | refine bdrewN ?_ _ | refine .setCell ?_ (by simp <;> omega) _ | refine bstep ?_ (by assumption)))⟩
          · have HK2 : Hid ((List.range (j + 1 + 1)).all (okK ltB right xs) = true) := Lib.hid (okK_upto HK.out (by rw [hok, ht]))
            rw [ht] at hle
            clear hc hr hok hfail hcell hx hy
            go_wp2_with (go_at_fn g; refine (HC.out _ (Env.keep HE.out (by (repeat (first | exact .refl _ _ | assumption | refine .drew ?_ | refine balloc ?_ _ | refine bdrewN ?_ _ | refine .setCell ?_ (by simp <;> omega) _ | refine bstep ?_ (by assumption)))))).mono ?_; rintro e w2 ⟨rfl, hb2⟩; have hc3 := cell_keep hb2 hc2)
            exact ⟨⟨j + 1 + 1, by omega, by go_num, HK2, by (repeat (first | exact .refl _ _ | assumption | refine .drew ?_ | refine balloc ?_ _ | refine bdrewN ?_ _ | refine .setCell ?_ (by simp <;> omega) _ | refine bstep ?_ (by assumption)))⟩, by simp [intOf]; omega⟩
    · obtain rfl : k = n := by omega
      have hv : V = decide (k ≤ most) := by rw [HV.out]; unfold setB; rw [HL.out, HK.out]; rfl
      by_cases hm2 : k ≤ most
      · rw [decide_eq_true hm2] at hv
        have d1 : decide ((k : Int) ≤ (most : Int)) = true := decide_eq_true (by omega)
        have d1' : decide (k ≤ most) = true := decide_eq_true hm2
        subst hv
        go_wp2
        go_ret
        exact ⟨rfl, hb⟩
      · rw [decide_eq_false hm2] at hv
        have d1 : decide ((k : Int) ≤ (most : Int)) = false := decide_eq_false (by omega)
        have d1' : decide (k ≤ most) = false := decide_eq_false hm2
        subst hv
        go_wp2
        go_ret
        exact ⟨rfl, hb⟩
end Go.Proofs.YtocgkpdolgnbgaaGreatDoor
