/- What AddressMeetsExactly returns: true. -/
import Derived.Test.YtiglpecjpncclaaGreatDoorLawC
import Derived.Test.YtiglpecjpncclaaGreatDoorProg
import Derived.WalkKit
import Derived.WalkSpells
import Derived.WalkLawsBesides
import Derived.Below
import Derived.Deep.QuietTactic
import Derived.BigQuiet
import Derived.Lib.QuietBelow
import Derived.Lib.Strings
import Derived.Lib.Hide
import Derived.Deep.RegionWith
import Derived.Deep.RegionHeld3
import Derived.Lib.IndexBytes
namespace Go.Proofs.YtiglpecjpncclaaGreatDoor
open Go.RowKit Go.Sort
set_option linter.unusedVariables false
set_option linter.unusedSimpArgs false
set_option maxRecDepth 100000
theorem pathL_le (B : Nat) : ∀ l : List (List UInt8), (∀ p ∈ l, p.length ≤ B) → (pathL l).length ≤ l.length * (B + 1)
  | [], _ => by simp [pathL]
  | p :: l, h => by
    have h1 := h p (by simp)
    have h2 := pathL_le B l (fun q hq => h q (by simp [hq]))
    simp only [pathL, List.flatMap_cons, List.length_append, List.length_cons, Nat.succ_mul] at h2 ⊢
    omega
theorem str_size {p : Part} (h : PartFit p) : (stringP p.kind p.text).size ≤ 66 := by
  have e := str_data p.kind p.text
  rw [size_data, e]
  rcases h with ⟨hk, hw⟩ | ⟨hk, s, hs, hs2, ht⟩ | ⟨hk, ht⟩
  · have := (word_ne hw).2.2.2
    rw [size_data] at this
    rw [if_pos hk]; omega
  · rw [if_neg (by omega), ht]
    rw [size_data] at hs2
    simp only [List.length_cons]; omega
  · rw [if_neg (by omega), ht]
    decide
theorem patS_size {z : Pat} (h : PatFit z) : (patS z).size ≤ 10000 := by
  rw [patS_eq, size_data, join_data]
  have h1 := str_size h.cust.part
  rw [size_data] at h1
  have h2 := pathL_le 66 (lists (strL z.parts ++ tailL z.tail)) (by
    intro p hp
    obtain ⟨x, hx, rfl⟩ := List.mem_map.1 hp
    rw [← size_data]
    rcases List.mem_append.1 hx with hx | hx
    · obtain ⟨y, hy, rfl⟩ := List.mem_map.1 hx
      exact str_size (h.parts y hy)
    · unfold tailL at hx
      split at hx
      · rw [List.mem_singleton.1 hx]; decide
      · cases hx)
  have h3 := h.num
  have h4 : (lists (strL z.parts ++ tailL z.tail)).length ≤ 33 := by
    unfold lists strL tailL
    rw [List.length_map, List.length_append, List.length_map]
    split <;> simp <;> omega
  rw [List.length_append]
  have := Nat.mul_le_mul_right 67 h4
  omega
theorem exText_size {z : Pat} (h : PatFit z) {p : ByteArray} (hp : compileB p = some z) : (exText z).size ≤ 100000 := by
  have := match_exText hp h
  rw [exA_match h] at this
  exact Nat.le_trans (match_size this) (by decide)
set_option maxHeartbeats 4000000 in
theorem lawMeets (p q a : ByteArray) (w : World) (hp : p.size ≤ 9223372036854775807) (hq : q.size ≤ 9223372036854775807) (ha : a.size ≤ 9223372036854775807) (hE : Env w) :
    Calls Tryz.prog 8 #[.string p, .string q, .string a] w (Ret w (.bool true)) := by
  have HS := Lib.hid (fun W h => sanity_any W h)
  have HE := Lib.hid hE
  clear hE
  by_cases h1 : p.size ≤ 1000
  rotate_left
  · have d1 : decide ((1000 : Int) < (p.size : Int)) = true := decide_eq_true (by omega)
    go_enter Tryz.func8, Tryz.ntmps8
    go_wp2_with (go_at_call 11; refine (HS.out _ (Env.keep HE.out (by (repeat (first | exact Below.refl _ _ | assumption | refine Below.drew ?_ | refine balloc ?_ _ | refine bdrewN ?_ _ | refine Below.setCell ?_ (by first | (simp; done) | (simp; omega)) _ | refine bstep ?_ (by assumption)))))).mono ?_; rintro e ws ⟨rfl, hbs⟩)
    go_ret
    exact ⟨rfl, by (repeat (first | exact Below.refl _ _ | assumption | refine Below.drew ?_ | refine balloc ?_ _ | refine bdrewN ?_ _ | refine Below.setCell ?_ (by first | (simp; done) | (simp; omega)) _ | refine bstep ?_ (by assumption)))⟩
  have d1 : decide ((1000 : Int) < (p.size : Int)) = false := decide_eq_false (by omega)
  by_cases h2 : q.size ≤ 1000
  rotate_left
  · have d2 : decide ((1000 : Int) < (q.size : Int)) = true := decide_eq_true (by omega)
    go_enter Tryz.func8, Tryz.ntmps8
    go_wp2_with (go_at_call 11; refine (HS.out _ (Env.keep HE.out (by (repeat (first | exact Below.refl _ _ | assumption | refine Below.drew ?_ | refine balloc ?_ _ | refine bdrewN ?_ _ | refine Below.setCell ?_ (by first | (simp; done) | (simp; omega)) _ | refine bstep ?_ (by assumption)))))).mono ?_; rintro e ws ⟨rfl, hbs⟩)
    go_ret
    exact ⟨rfl, by (repeat (first | exact Below.refl _ _ | assumption | refine Below.drew ?_ | refine balloc ?_ _ | refine bdrewN ?_ _ | refine Below.setCell ?_ (by first | (simp; done) | (simp; omega)) _ | refine bstep ?_ (by assumption)))⟩
  have d2 : decide ((1000 : Int) < (q.size : Int)) = false := decide_eq_false (by omega)
  by_cases h3 : a.size ≤ 5000
  rotate_left
  · have d3 : decide ((5000 : Int) < (a.size : Int)) = true := decide_eq_true (by omega)
    go_enter Tryz.func8, Tryz.ntmps8
    go_wp2_with (go_at_call 11; refine (HS.out _ (Env.keep HE.out (by (repeat (first | exact Below.refl _ _ | assumption | refine Below.drew ?_ | refine balloc ?_ _ | refine bdrewN ?_ _ | refine Below.setCell ?_ (by first | (simp; done) | (simp; omega)) _ | refine bstep ?_ (by assumption)))))).mono ?_; rintro e ws ⟨rfl, hbs⟩)
    go_ret
    exact ⟨rfl, by (repeat (first | exact Below.refl _ _ | assumption | refine Below.drew ?_ | refine balloc ?_ _ | refine bdrewN ?_ _ | refine Below.setCell ?_ (by first | (simp; done) | (simp; omega)) _ | refine bstep ?_ (by assumption)))⟩
  have d3 : decide ((5000 : Int) < (a.size : Int)) = false := decide_eq_false (by omega)
  have cQ1 := fun W h => addrMeet_any p q W (by omega) (by omega) h
  have cQ2 := fun W h => addrMeet_any q p W (by omega) (by omega) h
  have cC1 := fun W h => covers_any2 p p W (by omega) (by omega) h
  have cC2 := fun W h => covers_any2 p q W (by omega) (by omega) h
  have cB := fun W h => addrBoth_any p q W (by omega) (by omega) h
  have cM1 := fun W h => match_any p a W (by omega) (by omega) h
  have cM2 := fun W h => match_any q a W (by omega) (by omega) h
  by_cases hbad : (compileB p).isSome = false ∨ (compileB q).isSome = false
  · have hv : bothP p q = none ∧ bothP q p = none := by
      unfold bothP
      cases h4 : compileB p with
      | none => exact ⟨rfl, by cases compileB q <;> rfl⟩
      | some x =>
        cases h5 : compileB q with
        | none => exact ⟨rfl, rfl⟩
        | some y => rw [h4, h5] at hbad; simp at hbad
    rw [hv.1] at cQ1
    rw [hv.2] at cQ2
    unfold meetV at cQ1 cQ2
    dsimp only at cQ1 cQ2
    have HQ1 := Lib.hid cQ1
    have HQ2 := Lib.hid cQ2
    clear hv hbad cM1 cM2 cC1 cC2 cB cQ1 cQ2
    go_enter Tryz.func8, Tryz.ntmps8
    go_wp2_with (first | (go_at_call 11; refine (HS.out _ (Env.keep HE.out (by (repeat (first | exact Below.refl _ _ | assumption | refine Below.drew ?_ | refine balloc ?_ _ | refine bdrewN ?_ _ | refine Below.setCell ?_ (by first | (simp; done) | (simp; omega)) _ | refine bstep ?_ (by assumption)))))).mono ?_; rintro e ws ⟨rfl, hbs⟩) | (go_at_call 30; refine (HQ1.out _ (Env.keep HE.out (by (repeat (first | exact Below.refl _ _ | assumption | refine Below.drew ?_ | refine balloc ?_ _ | refine bdrewN ?_ _ | refine Below.setCell ?_ (by first | (simp; done) | (simp; omega)) _ | refine bstep ?_ (by assumption)))))).mono ?_; rintro e wa ⟨rfl, hba⟩; clear HQ1) | (go_at_call 30; refine (HQ2.out _ (Env.keep HE.out (by (repeat (first | exact Below.refl _ _ | assumption | refine Below.drew ?_ | refine balloc ?_ _ | refine bdrewN ?_ _ | refine Below.setCell ?_ (by first | (simp; done) | (simp; omega)) _ | refine bstep ?_ (by assumption)))))).mono ?_; rintro e wb ⟨rfl, hbb⟩))
    go_ret
    exact ⟨rfl, by (repeat (first | exact Below.refl _ _ | assumption | refine Below.drew ?_ | refine balloc ?_ _ | refine bdrewN ?_ _ | refine Below.setCell ?_ (by first | (simp; done) | (simp; omega)) _ | refine bstep ?_ (by assumption)))⟩
  simp only [not_or, Bool.not_eq_false] at hbad
  obtain ⟨x, hx⟩ := Option.isSome_iff_exists.1 hbad.1
  obtain ⟨y, hy⟩ := Option.isSome_iff_exists.1 hbad.2
  clear hbad
  have fx := compile_fit hx
  have fy := compile_fit hy
  have hb1 : bothP p q = some (commonP x y) := by unfold bothP; rw [hx, hy]
  have hb2 : bothP q p = some (commonP y x) := by unfold bothP; rw [hx, hy]
  have hself : coversV (some x) (some x) = .tuple #[.bool true, .string ⟨#[]⟩, .int .i64 0] := by simp [coversV, cover_refl fx]
  have hm1 : matchB p a = (readB a && matchP x (parseB a).1) := by unfold matchB; rw [hx]
  have hm2 : matchB q a = (readB a && matchP y (parseB a).1) := by unfold matchB; rw [hy]
  rw [hx, hself] at cC1
  rw [hx, hy] at cC2
  rw [hb1] at cQ1 cB
  rw [hb2] at cQ2
  have hsw := common_swap fx fy
  clear hself hb1 hb2
  cases hz : commonP x y with
  | none =>
    rw [hz] at cQ1 cB hsw
    obtain hz' : commonP y x = none := by
      cases h : commonP y x with
      | none => rfl
      | some _ => rw [h] at hsw; simp at hsw
    rw [hz'] at cQ2
    have hcf : coverB x y = false := by
      rw [Bool.eq_false_iff]; intro h
      obtain ⟨z, h2⟩ := cover_meets fx fy h
      rw [hz] at h2; cases h2
    have hcv : coversV (some x) (some y) = .tuple #[.bool false, .string (coverW x y), .int .i64 0] := by simp [coversV, hcf]
    rw [hcv] at cC2
    have hboth : (matchB p a && matchB q a) = false := by
      rw [hm1, hm2]
      have := commonP_none fx fy hz (parseB a).1
      cases h4 : matchP x (parseB a).1 <;> cases h5 : matchP y (parseB a).1 <;> simp_all
    generalize matchB p a = m1 at *
    generalize matchB q a = m2 at *
    generalize coverW x y = cw at *
    unfold meetV at cQ1 cQ2
    unfold bothV at cB
    dsimp only at cQ1 cQ2 cB
    have HQ1 := Lib.hid cQ1
    have HQ2 := Lib.hid cQ2
    have HC1 := Lib.hid cC1
    have HC2 := Lib.hid cC2
    have HB := Lib.hid cB
    have HM1 := Lib.hid cM1
    have HM2 := Lib.hid cM2
    clear cM1 cM2 cC1 cC2 cB cQ1 cQ2 hz hz' hcf hcv hm1 hm2 hx hy fx fy hsw
    cases m1
    · clear hboth
      go_enter Tryz.func8, Tryz.ntmps8
      go_wp2_with (first | (go_at_call 11; refine (HS.out _ (Env.keep HE.out (by (repeat (first | exact Below.refl _ _ | assumption | refine Below.drew ?_ | refine balloc ?_ _ | refine bdrewN ?_ _ | refine Below.setCell ?_ (by first | (simp; done) | (simp; omega)) _ | refine bstep ?_ (by assumption)))))).mono ?_; rintro e ws ⟨rfl, hbs⟩) | (go_at_call 30; refine (HQ1.out _ (Env.keep HE.out (by (repeat (first | exact Below.refl _ _ | assumption | refine Below.drew ?_ | refine balloc ?_ _ | refine bdrewN ?_ _ | refine Below.setCell ?_ (by first | (simp; done) | (simp; omega)) _ | refine bstep ?_ (by assumption)))))).mono ?_; rintro e wa ⟨rfl, hba⟩; clear HQ1) | (go_at_call 30; refine (HQ2.out _ (Env.keep HE.out (by (repeat (first | exact Below.refl _ _ | assumption | refine Below.drew ?_ | refine balloc ?_ _ | refine bdrewN ?_ _ | refine Below.setCell ?_ (by first | (simp; done) | (simp; omega)) _ | refine bstep ?_ (by assumption)))))).mono ?_; rintro e wb ⟨rfl, hbb⟩) | (go_at_call 27; refine (HC1.out _ (Env.keep HE.out (by (repeat (first | exact Below.refl _ _ | assumption | refine Below.drew ?_ | refine balloc ?_ _ | refine bdrewN ?_ _ | refine Below.setCell ?_ (by first | (simp; done) | (simp; omega)) _ | refine bstep ?_ (by assumption)))))).mono ?_; rintro e wc ⟨rfl, hbc⟩; clear HC1) | (go_at_call 27; refine (HC2.out _ (Env.keep HE.out (by (repeat (first | exact Below.refl _ _ | assumption | refine Below.drew ?_ | refine balloc ?_ _ | refine bdrewN ?_ _ | refine Below.setCell ?_ (by first | (simp; done) | (simp; omega)) _ | refine bstep ?_ (by assumption)))))).mono ?_; rintro e wd ⟨rfl, hbd⟩) | (go_at_call 31; refine (HB.out _ (Env.keep HE.out (by (repeat (first | exact Below.refl _ _ | assumption | refine Below.drew ?_ | refine balloc ?_ _ | refine bdrewN ?_ _ | refine Below.setCell ?_ (by first | (simp; done) | (simp; omega)) _ | refine bstep ?_ (by assumption)))))).mono ?_; rintro e we ⟨rfl, hbe⟩) | (go_at_call 29; refine (HM1.out _ (Env.keep HE.out (by (repeat (first | exact Below.refl _ _ | assumption | refine Below.drew ?_ | refine balloc ?_ _ | refine bdrewN ?_ _ | refine Below.setCell ?_ (by first | (simp; done) | (simp; omega)) _ | refine bstep ?_ (by assumption)))))).mono ?_; rintro e wf ⟨rfl, hbf⟩; clear HM1) | (go_at_call 29; refine (HM2.out _ (Env.keep HE.out (by (repeat (first | exact Below.refl _ _ | assumption | refine Below.drew ?_ | refine balloc ?_ _ | refine bdrewN ?_ _ | refine Below.setCell ?_ (by first | (simp; done) | (simp; omega)) _ | refine bstep ?_ (by assumption)))))).mono ?_; rintro e wg ⟨rfl, hbg⟩; clear HM2))
      go_ret
      exact ⟨rfl, by (repeat (first | exact Below.refl _ _ | assumption | refine Below.drew ?_ | refine balloc ?_ _ | refine bdrewN ?_ _ | refine Below.setCell ?_ (by first | (simp; done) | (simp; omega)) _ | refine bstep ?_ (by assumption)))⟩
    · obtain rfl : m2 = false := by simpa using hboth
      clear hboth
      go_enter Tryz.func8, Tryz.ntmps8
      go_wp2_with (first | (go_at_call 11; refine (HS.out _ (Env.keep HE.out (by (repeat (first | exact Below.refl _ _ | assumption | refine Below.drew ?_ | refine balloc ?_ _ | refine bdrewN ?_ _ | refine Below.setCell ?_ (by first | (simp; done) | (simp; omega)) _ | refine bstep ?_ (by assumption)))))).mono ?_; rintro e ws ⟨rfl, hbs⟩) | (go_at_call 30; refine (HQ1.out _ (Env.keep HE.out (by (repeat (first | exact Below.refl _ _ | assumption | refine Below.drew ?_ | refine balloc ?_ _ | refine bdrewN ?_ _ | refine Below.setCell ?_ (by first | (simp; done) | (simp; omega)) _ | refine bstep ?_ (by assumption)))))).mono ?_; rintro e wa ⟨rfl, hba⟩; clear HQ1) | (go_at_call 30; refine (HQ2.out _ (Env.keep HE.out (by (repeat (first | exact Below.refl _ _ | assumption | refine Below.drew ?_ | refine balloc ?_ _ | refine bdrewN ?_ _ | refine Below.setCell ?_ (by first | (simp; done) | (simp; omega)) _ | refine bstep ?_ (by assumption)))))).mono ?_; rintro e wb ⟨rfl, hbb⟩) | (go_at_call 27; refine (HC1.out _ (Env.keep HE.out (by (repeat (first | exact Below.refl _ _ | assumption | refine Below.drew ?_ | refine balloc ?_ _ | refine bdrewN ?_ _ | refine Below.setCell ?_ (by first | (simp; done) | (simp; omega)) _ | refine bstep ?_ (by assumption)))))).mono ?_; rintro e wc ⟨rfl, hbc⟩; clear HC1) | (go_at_call 27; refine (HC2.out _ (Env.keep HE.out (by (repeat (first | exact Below.refl _ _ | assumption | refine Below.drew ?_ | refine balloc ?_ _ | refine bdrewN ?_ _ | refine Below.setCell ?_ (by first | (simp; done) | (simp; omega)) _ | refine bstep ?_ (by assumption)))))).mono ?_; rintro e wd ⟨rfl, hbd⟩) | (go_at_call 31; refine (HB.out _ (Env.keep HE.out (by (repeat (first | exact Below.refl _ _ | assumption | refine Below.drew ?_ | refine balloc ?_ _ | refine bdrewN ?_ _ | refine Below.setCell ?_ (by first | (simp; done) | (simp; omega)) _ | refine bstep ?_ (by assumption)))))).mono ?_; rintro e we ⟨rfl, hbe⟩) | (go_at_call 29; refine (HM1.out _ (Env.keep HE.out (by (repeat (first | exact Below.refl _ _ | assumption | refine Below.drew ?_ | refine balloc ?_ _ | refine bdrewN ?_ _ | refine Below.setCell ?_ (by first | (simp; done) | (simp; omega)) _ | refine bstep ?_ (by assumption)))))).mono ?_; rintro e wf ⟨rfl, hbf⟩; clear HM1) | (go_at_call 29; refine (HM2.out _ (Env.keep HE.out (by (repeat (first | exact Below.refl _ _ | assumption | refine Below.drew ?_ | refine balloc ?_ _ | refine bdrewN ?_ _ | refine Below.setCell ?_ (by first | (simp; done) | (simp; omega)) _ | refine bstep ?_ (by assumption)))))).mono ?_; rintro e wg ⟨rfl, hbg⟩; clear HM2))
      go_ret
      exact ⟨rfl, by (repeat (first | exact Below.refl _ _ | assumption | refine Below.drew ?_ | refine balloc ?_ _ | refine bdrewN ?_ _ | refine Below.setCell ?_ (by first | (simp; done) | (simp; omega)) _ | refine bstep ?_ (by assumption)))⟩
  | some z =>
    rw [hz] at cQ1 cB hsw
    obtain ⟨z', hz'⟩ : ∃ z', commonP y x = some z' := Option.isSome_iff_exists.1 (by rw [← hsw]; rfl)
    rw [hz'] at cQ2
    obtain ⟨fz, hzm⟩ := commonP_some fx fy hz
    obtain ⟨cv, hcv⟩ : ∃ cv, cv = coverB x y := ⟨_, rfl⟩
    obtain ⟨cw, hcw⟩ : ∃ cw, coversV (some x) (some y) = .tuple #[.bool cv, .string cw, .int .i64 0] := by rw [hcv]; exact ⟨_, rfl⟩
    rw [hcw] at cC2
    have hex := exA_match fz
    rw [hzm, Bool.and_eq_true] at hex
    have e1 : matchB p (exText z) = true := by rw [match_exText hx fz]; exact hex.1
    have e2 : matchB q (exText z) = true := by rw [match_exText hy fz]; exact hex.2
    have hms : matchB (patS z) a = (matchB p a && matchB q a) := by
      rw [hm1, hm2]
      unfold matchB
      rw [compile_str fz]
      dsimp only
      rw [hzm]
      cases readB a <;> simp
    have hsq : cv = true → patS z = q := by
      intro h
      rw [cover_common fx fy (by rw [← hcv]; exact h) hz]
      exact str_compile hy
    have hsz := match_size e1
    have hsz2 := patS_size fz
    have cM3 := fun W h => match_any p (exText z) W (by omega) (by omega) h
    have cM4 := fun W h => match_any q (exText z) W (by omega) (by omega) h
    have cM5 := fun W h => match_any (patS z) a W (by omega) (by omega) h
    rw [e1] at cM3
    rw [e2] at cM4
    rw [hms] at cM5
    unfold meetV at cQ1 cQ2
    unfold bothV at cB
    unfold exText at cM3 cM4
    dsimp only at cQ1 cQ2 cB
    clear hm1 hm2 hms e1 e2 hex hsz hsz2 hcw hcv hsw hz hz' fx fy hx hy
    generalize joinS (withP z.cust.kind z.cust.text ⟨#[97]⟩ :: wordsL z.parts) = t at *
    generalize joinS (withP z'.cust.kind z'.cust.text ⟨#[97]⟩ :: wordsL z'.parts) = t' at *
    generalize patS z = s at *
    generalize matchB p a = m1 at *
    generalize matchB q a = m2 at *
    have hbq : cv = true → (s.toList == q.toList) = true := fun h => by rw [hsq h]; simp
    clear hsq fz hzm z z'
    have HQ1 := Lib.hid cQ1
    have HQ2 := Lib.hid cQ2
    have HC1 := Lib.hid cC1
    have HC2 := Lib.hid cC2
    have HB := Lib.hid cB
    have HM1 := Lib.hid cM1
    have HM2 := Lib.hid cM2
    have HM3 := Lib.hid cM3
    have HM4 := Lib.hid cM4
    have HM5 := Lib.hid cM5
    clear cM1 cM2 cM3 cM4 cM5 cC1 cC2 cB cQ1 cQ2
    cases cv
    · clear hbq
      cases m1
      · clear HM2
        go_enter Tryz.func8, Tryz.ntmps8
        go_wp2_with (first | (go_at_call 11; refine (HS.out _ (Env.keep HE.out (by (repeat (first | exact Below.refl _ _ | assumption | refine Below.drew ?_ | refine balloc ?_ _ | refine bdrewN ?_ _ | refine Below.setCell ?_ (by first | (simp; done) | (simp; omega)) _ | refine bstep ?_ (by assumption)))))).mono ?_; rintro e ws ⟨rfl, hbs⟩) | (go_at_call 30; refine (HQ1.out _ (Env.keep HE.out (by (repeat (first | exact Below.refl _ _ | assumption | refine Below.drew ?_ | refine balloc ?_ _ | refine bdrewN ?_ _ | refine Below.setCell ?_ (by first | (simp; done) | (simp; omega)) _ | refine bstep ?_ (by assumption)))))).mono ?_; rintro e wa ⟨rfl, hba⟩; clear HQ1) | (go_at_call 30; refine (HQ2.out _ (Env.keep HE.out (by (repeat (first | exact Below.refl _ _ | assumption | refine Below.drew ?_ | refine balloc ?_ _ | refine bdrewN ?_ _ | refine Below.setCell ?_ (by first | (simp; done) | (simp; omega)) _ | refine bstep ?_ (by assumption)))))).mono ?_; rintro e wb ⟨rfl, hbb⟩) | (go_at_call 27; refine (HC1.out _ (Env.keep HE.out (by (repeat (first | exact Below.refl _ _ | assumption | refine Below.drew ?_ | refine balloc ?_ _ | refine bdrewN ?_ _ | refine Below.setCell ?_ (by first | (simp; done) | (simp; omega)) _ | refine bstep ?_ (by assumption)))))).mono ?_; rintro e wc ⟨rfl, hbc⟩; clear HC1) | (go_at_call 27; refine (HC2.out _ (Env.keep HE.out (by (repeat (first | exact Below.refl _ _ | assumption | refine Below.drew ?_ | refine balloc ?_ _ | refine bdrewN ?_ _ | refine Below.setCell ?_ (by first | (simp; done) | (simp; omega)) _ | refine bstep ?_ (by assumption)))))).mono ?_; rintro e wd ⟨rfl, hbd⟩) | (go_at_call 31; refine (HB.out _ (Env.keep HE.out (by (repeat (first | exact Below.refl _ _ | assumption | refine Below.drew ?_ | refine balloc ?_ _ | refine bdrewN ?_ _ | refine Below.setCell ?_ (by first | (simp; done) | (simp; omega)) _ | refine bstep ?_ (by assumption)))))).mono ?_; rintro e we ⟨rfl, hbe⟩) | (go_at_call 29; refine (HM1.out _ (Env.keep HE.out (by (repeat (first | exact Below.refl _ _ | assumption | refine Below.drew ?_ | refine balloc ?_ _ | refine bdrewN ?_ _ | refine Below.setCell ?_ (by first | (simp; done) | (simp; omega)) _ | refine bstep ?_ (by assumption)))))).mono ?_; rintro e wf ⟨rfl, hbf⟩; clear HM1) | (go_at_call 29; refine (HM2.out _ (Env.keep HE.out (by (repeat (first | exact Below.refl _ _ | assumption | refine Below.drew ?_ | refine balloc ?_ _ | refine bdrewN ?_ _ | refine Below.setCell ?_ (by first | (simp; done) | (simp; omega)) _ | refine bstep ?_ (by assumption)))))).mono ?_; rintro e wg ⟨rfl, hbg⟩; clear HM2) | (go_at_call 29; refine (HM3.out _ (Env.keep HE.out (by (repeat (first | exact Below.refl _ _ | assumption | refine Below.drew ?_ | refine balloc ?_ _ | refine bdrewN ?_ _ | refine Below.setCell ?_ (by first | (simp; done) | (simp; omega)) _ | refine bstep ?_ (by assumption)))))).mono ?_; rintro e wh ⟨rfl, hbh⟩; clear HM3) | (go_at_call 29; refine (HM4.out _ (Env.keep HE.out (by (repeat (first | exact Below.refl _ _ | assumption | refine Below.drew ?_ | refine balloc ?_ _ | refine bdrewN ?_ _ | refine Below.setCell ?_ (by first | (simp; done) | (simp; omega)) _ | refine bstep ?_ (by assumption)))))).mono ?_; rintro e wi ⟨rfl, hbi⟩; clear HM4) | (go_at_call 29; refine (HM5.out _ (Env.keep HE.out (by (repeat (first | exact Below.refl _ _ | assumption | refine Below.drew ?_ | refine balloc ?_ _ | refine bdrewN ?_ _ | refine Below.setCell ?_ (by first | (simp; done) | (simp; omega)) _ | refine bstep ?_ (by assumption)))))).mono ?_; rintro e wj ⟨rfl, hbj⟩))
        go_ret
        exact ⟨rfl, by (repeat (first | exact Below.refl _ _ | assumption | refine Below.drew ?_ | refine balloc ?_ _ | refine bdrewN ?_ _ | refine Below.setCell ?_ (by first | (simp; done) | (simp; omega)) _ | refine bstep ?_ (by assumption)))⟩
      · cases m2
        all_goals
          go_enter Tryz.func8, Tryz.ntmps8
          go_wp2_with (first | (go_at_call 11; refine (HS.out _ (Env.keep HE.out (by (repeat (first | exact Below.refl _ _ | assumption | refine Below.drew ?_ | refine balloc ?_ _ | refine bdrewN ?_ _ | refine Below.setCell ?_ (by first | (simp; done) | (simp; omega)) _ | refine bstep ?_ (by assumption)))))).mono ?_; rintro e ws ⟨rfl, hbs⟩) | (go_at_call 30; refine (HQ1.out _ (Env.keep HE.out (by (repeat (first | exact Below.refl _ _ | assumption | refine Below.drew ?_ | refine balloc ?_ _ | refine bdrewN ?_ _ | refine Below.setCell ?_ (by first | (simp; done) | (simp; omega)) _ | refine bstep ?_ (by assumption)))))).mono ?_; rintro e wa ⟨rfl, hba⟩; clear HQ1) | (go_at_call 30; refine (HQ2.out _ (Env.keep HE.out (by (repeat (first | exact Below.refl _ _ | assumption | refine Below.drew ?_ | refine balloc ?_ _ | refine bdrewN ?_ _ | refine Below.setCell ?_ (by first | (simp; done) | (simp; omega)) _ | refine bstep ?_ (by assumption)))))).mono ?_; rintro e wb ⟨rfl, hbb⟩) | (go_at_call 27; refine (HC1.out _ (Env.keep HE.out (by (repeat (first | exact Below.refl _ _ | assumption | refine Below.drew ?_ | refine balloc ?_ _ | refine bdrewN ?_ _ | refine Below.setCell ?_ (by first | (simp; done) | (simp; omega)) _ | refine bstep ?_ (by assumption)))))).mono ?_; rintro e wc ⟨rfl, hbc⟩; clear HC1) | (go_at_call 27; refine (HC2.out _ (Env.keep HE.out (by (repeat (first | exact Below.refl _ _ | assumption | refine Below.drew ?_ | refine balloc ?_ _ | refine bdrewN ?_ _ | refine Below.setCell ?_ (by first | (simp; done) | (simp; omega)) _ | refine bstep ?_ (by assumption)))))).mono ?_; rintro e wd ⟨rfl, hbd⟩) | (go_at_call 31; refine (HB.out _ (Env.keep HE.out (by (repeat (first | exact Below.refl _ _ | assumption | refine Below.drew ?_ | refine balloc ?_ _ | refine bdrewN ?_ _ | refine Below.setCell ?_ (by first | (simp; done) | (simp; omega)) _ | refine bstep ?_ (by assumption)))))).mono ?_; rintro e we ⟨rfl, hbe⟩) | (go_at_call 29; refine (HM1.out _ (Env.keep HE.out (by (repeat (first | exact Below.refl _ _ | assumption | refine Below.drew ?_ | refine balloc ?_ _ | refine bdrewN ?_ _ | refine Below.setCell ?_ (by first | (simp; done) | (simp; omega)) _ | refine bstep ?_ (by assumption)))))).mono ?_; rintro e wf ⟨rfl, hbf⟩; clear HM1) | (go_at_call 29; refine (HM2.out _ (Env.keep HE.out (by (repeat (first | exact Below.refl _ _ | assumption | refine Below.drew ?_ | refine balloc ?_ _ | refine bdrewN ?_ _ | refine Below.setCell ?_ (by first | (simp; done) | (simp; omega)) _ | refine bstep ?_ (by assumption)))))).mono ?_; rintro e wg ⟨rfl, hbg⟩; clear HM2) | (go_at_call 29; refine (HM3.out _ (Env.keep HE.out (by (repeat (first | exact Below.refl _ _ | assumption | refine Below.drew ?_ | refine balloc ?_ _ | refine bdrewN ?_ _ | refine Below.setCell ?_ (by first | (simp; done) | (simp; omega)) _ | refine bstep ?_ (by assumption)))))).mono ?_; rintro e wh ⟨rfl, hbh⟩; clear HM3) | (go_at_call 29; refine (HM4.out _ (Env.keep HE.out (by (repeat (first | exact Below.refl _ _ | assumption | refine Below.drew ?_ | refine balloc ?_ _ | refine bdrewN ?_ _ | refine Below.setCell ?_ (by first | (simp; done) | (simp; omega)) _ | refine bstep ?_ (by assumption)))))).mono ?_; rintro e wi ⟨rfl, hbi⟩; clear HM4) | (go_at_call 29; refine (HM5.out _ (Env.keep HE.out (by (repeat (first | exact Below.refl _ _ | assumption | refine Below.drew ?_ | refine balloc ?_ _ | refine bdrewN ?_ _ | refine Below.setCell ?_ (by first | (simp; done) | (simp; omega)) _ | refine bstep ?_ (by assumption)))))).mono ?_; rintro e wj ⟨rfl, hbj⟩))
          go_ret
          exact ⟨rfl, by (repeat (first | exact Below.refl _ _ | assumption | refine Below.drew ?_ | refine balloc ?_ _ | refine bdrewN ?_ _ | refine Below.setCell ?_ (by first | (simp; done) | (simp; omega)) _ | refine bstep ?_ (by assumption)))⟩
    · have hbq2 := hbq rfl
      clear hbq
      cases m1
      · clear HM2
        go_enter Tryz.func8, Tryz.ntmps8
        go_wp2_with (first | (go_at_call 11; refine (HS.out _ (Env.keep HE.out (by (repeat (first | exact Below.refl _ _ | assumption | refine Below.drew ?_ | refine balloc ?_ _ | refine bdrewN ?_ _ | refine Below.setCell ?_ (by first | (simp; done) | (simp; omega)) _ | refine bstep ?_ (by assumption)))))).mono ?_; rintro e ws ⟨rfl, hbs⟩) | (go_at_call 30; refine (HQ1.out _ (Env.keep HE.out (by (repeat (first | exact Below.refl _ _ | assumption | refine Below.drew ?_ | refine balloc ?_ _ | refine bdrewN ?_ _ | refine Below.setCell ?_ (by first | (simp; done) | (simp; omega)) _ | refine bstep ?_ (by assumption)))))).mono ?_; rintro e wa ⟨rfl, hba⟩; clear HQ1) | (go_at_call 30; refine (HQ2.out _ (Env.keep HE.out (by (repeat (first | exact Below.refl _ _ | assumption | refine Below.drew ?_ | refine balloc ?_ _ | refine bdrewN ?_ _ | refine Below.setCell ?_ (by first | (simp; done) | (simp; omega)) _ | refine bstep ?_ (by assumption)))))).mono ?_; rintro e wb ⟨rfl, hbb⟩) | (go_at_call 27; refine (HC1.out _ (Env.keep HE.out (by (repeat (first | exact Below.refl _ _ | assumption | refine Below.drew ?_ | refine balloc ?_ _ | refine bdrewN ?_ _ | refine Below.setCell ?_ (by first | (simp; done) | (simp; omega)) _ | refine bstep ?_ (by assumption)))))).mono ?_; rintro e wc ⟨rfl, hbc⟩; clear HC1) | (go_at_call 27; refine (HC2.out _ (Env.keep HE.out (by (repeat (first | exact Below.refl _ _ | assumption | refine Below.drew ?_ | refine balloc ?_ _ | refine bdrewN ?_ _ | refine Below.setCell ?_ (by first | (simp; done) | (simp; omega)) _ | refine bstep ?_ (by assumption)))))).mono ?_; rintro e wd ⟨rfl, hbd⟩) | (go_at_call 31; refine (HB.out _ (Env.keep HE.out (by (repeat (first | exact Below.refl _ _ | assumption | refine Below.drew ?_ | refine balloc ?_ _ | refine bdrewN ?_ _ | refine Below.setCell ?_ (by first | (simp; done) | (simp; omega)) _ | refine bstep ?_ (by assumption)))))).mono ?_; rintro e we ⟨rfl, hbe⟩) | (go_at_call 29; refine (HM1.out _ (Env.keep HE.out (by (repeat (first | exact Below.refl _ _ | assumption | refine Below.drew ?_ | refine balloc ?_ _ | refine bdrewN ?_ _ | refine Below.setCell ?_ (by first | (simp; done) | (simp; omega)) _ | refine bstep ?_ (by assumption)))))).mono ?_; rintro e wf ⟨rfl, hbf⟩; clear HM1) | (go_at_call 29; refine (HM2.out _ (Env.keep HE.out (by (repeat (first | exact Below.refl _ _ | assumption | refine Below.drew ?_ | refine balloc ?_ _ | refine bdrewN ?_ _ | refine Below.setCell ?_ (by first | (simp; done) | (simp; omega)) _ | refine bstep ?_ (by assumption)))))).mono ?_; rintro e wg ⟨rfl, hbg⟩; clear HM2) | (go_at_call 29; refine (HM3.out _ (Env.keep HE.out (by (repeat (first | exact Below.refl _ _ | assumption | refine Below.drew ?_ | refine balloc ?_ _ | refine bdrewN ?_ _ | refine Below.setCell ?_ (by first | (simp; done) | (simp; omega)) _ | refine bstep ?_ (by assumption)))))).mono ?_; rintro e wh ⟨rfl, hbh⟩; clear HM3) | (go_at_call 29; refine (HM4.out _ (Env.keep HE.out (by (repeat (first | exact Below.refl _ _ | assumption | refine Below.drew ?_ | refine balloc ?_ _ | refine bdrewN ?_ _ | refine Below.setCell ?_ (by first | (simp; done) | (simp; omega)) _ | refine bstep ?_ (by assumption)))))).mono ?_; rintro e wi ⟨rfl, hbi⟩; clear HM4) | (go_at_call 29; refine (HM5.out _ (Env.keep HE.out (by (repeat (first | exact Below.refl _ _ | assumption | refine Below.drew ?_ | refine balloc ?_ _ | refine bdrewN ?_ _ | refine Below.setCell ?_ (by first | (simp; done) | (simp; omega)) _ | refine bstep ?_ (by assumption)))))).mono ?_; rintro e wj ⟨rfl, hbj⟩))
        go_ret
        exact ⟨rfl, by (repeat (first | exact Below.refl _ _ | assumption | refine Below.drew ?_ | refine balloc ?_ _ | refine bdrewN ?_ _ | refine Below.setCell ?_ (by first | (simp; done) | (simp; omega)) _ | refine bstep ?_ (by assumption)))⟩
      · cases m2
        all_goals
          go_enter Tryz.func8, Tryz.ntmps8
          go_wp2_with (first | (go_at_call 11; refine (HS.out _ (Env.keep HE.out (by (repeat (first | exact Below.refl _ _ | assumption | refine Below.drew ?_ | refine balloc ?_ _ | refine bdrewN ?_ _ | refine Below.setCell ?_ (by first | (simp; done) | (simp; omega)) _ | refine bstep ?_ (by assumption)))))).mono ?_; rintro e ws ⟨rfl, hbs⟩) | (go_at_call 30; refine (HQ1.out _ (Env.keep HE.out (by (repeat (first | exact Below.refl _ _ | assumption | refine Below.drew ?_ | refine balloc ?_ _ | refine bdrewN ?_ _ | refine Below.setCell ?_ (by first | (simp; done) | (simp; omega)) _ | refine bstep ?_ (by assumption)))))).mono ?_; rintro e wa ⟨rfl, hba⟩; clear HQ1) | (go_at_call 30; refine (HQ2.out _ (Env.keep HE.out (by (repeat (first | exact Below.refl _ _ | assumption | refine Below.drew ?_ | refine balloc ?_ _ | refine bdrewN ?_ _ | refine Below.setCell ?_ (by first | (simp; done) | (simp; omega)) _ | refine bstep ?_ (by assumption)))))).mono ?_; rintro e wb ⟨rfl, hbb⟩) | (go_at_call 27; refine (HC1.out _ (Env.keep HE.out (by (repeat (first | exact Below.refl _ _ | assumption | refine Below.drew ?_ | refine balloc ?_ _ | refine bdrewN ?_ _ | refine Below.setCell ?_ (by first | (simp; done) | (simp; omega)) _ | refine bstep ?_ (by assumption)))))).mono ?_; rintro e wc ⟨rfl, hbc⟩; clear HC1) | (go_at_call 27; refine (HC2.out _ (Env.keep HE.out (by (repeat (first | exact Below.refl _ _ | assumption | refine Below.drew ?_ | refine balloc ?_ _ | refine bdrewN ?_ _ | refine Below.setCell ?_ (by first | (simp; done) | (simp; omega)) _ | refine bstep ?_ (by assumption)))))).mono ?_; rintro e wd ⟨rfl, hbd⟩) | (go_at_call 31; refine (HB.out _ (Env.keep HE.out (by (repeat (first | exact Below.refl _ _ | assumption | refine Below.drew ?_ | refine balloc ?_ _ | refine bdrewN ?_ _ | refine Below.setCell ?_ (by first | (simp; done) | (simp; omega)) _ | refine bstep ?_ (by assumption)))))).mono ?_; rintro e we ⟨rfl, hbe⟩) | (go_at_call 29; refine (HM1.out _ (Env.keep HE.out (by (repeat (first | exact Below.refl _ _ | assumption | refine Below.drew ?_ | refine balloc ?_ _ | refine bdrewN ?_ _ | refine Below.setCell ?_ (by first | (simp; done) | (simp; omega)) _ | refine bstep ?_ (by assumption)))))).mono ?_; rintro e wf ⟨rfl, hbf⟩; clear HM1) | (go_at_call 29; refine (HM2.out _ (Env.keep HE.out (by (repeat (first | exact Below.refl _ _ | assumption | refine Below.drew ?_ | refine balloc ?_ _ | refine bdrewN ?_ _ | refine Below.setCell ?_ (by first | (simp; done) | (simp; omega)) _ | refine bstep ?_ (by assumption)))))).mono ?_; rintro e wg ⟨rfl, hbg⟩; clear HM2) | (go_at_call 29; refine (HM3.out _ (Env.keep HE.out (by (repeat (first | exact Below.refl _ _ | assumption | refine Below.drew ?_ | refine balloc ?_ _ | refine bdrewN ?_ _ | refine Below.setCell ?_ (by first | (simp; done) | (simp; omega)) _ | refine bstep ?_ (by assumption)))))).mono ?_; rintro e wh ⟨rfl, hbh⟩; clear HM3) | (go_at_call 29; refine (HM4.out _ (Env.keep HE.out (by (repeat (first | exact Below.refl _ _ | assumption | refine Below.drew ?_ | refine balloc ?_ _ | refine bdrewN ?_ _ | refine Below.setCell ?_ (by first | (simp; done) | (simp; omega)) _ | refine bstep ?_ (by assumption)))))).mono ?_; rintro e wi ⟨rfl, hbi⟩; clear HM4) | (go_at_call 29; refine (HM5.out _ (Env.keep HE.out (by (repeat (first | exact Below.refl _ _ | assumption | refine Below.drew ?_ | refine balloc ?_ _ | refine bdrewN ?_ _ | refine Below.setCell ?_ (by first | (simp; done) | (simp; omega)) _ | refine bstep ?_ (by assumption)))))).mono ?_; rintro e wj ⟨rfl, hbj⟩))
          go_ret
          exact ⟨rfl, by (repeat (first | exact Below.refl _ _ | assumption | refine Below.drew ?_ | refine balloc ?_ _ | refine bdrewN ?_ _ | refine Below.setCell ?_ (by first | (simp; done) | (simp; omega)) _ | refine bstep ?_ (by assumption)))⟩

end Go.Proofs.YtiglpecjpncclaaGreatDoor
