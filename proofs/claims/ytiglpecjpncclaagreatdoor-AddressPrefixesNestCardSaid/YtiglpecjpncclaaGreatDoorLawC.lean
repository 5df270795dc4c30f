/- What AddressCoversExactly returns: true. -/
import Derived.Test.YtiglpecjpncclaaGreatDoorSane
import Derived.Test.YtiglpecjpncclaaGreatDoorProg
import Derived.WalkKit
import Derived.WalkSpells
import Derived.WalkLawsBesides
import Derived.Below
import Derived.Deep.QuietTactic
import Derived.BigQuiet
import Derived.Lib.QuietBelow
import Derived.Lib.Strings
import Derived.Lib.Hide
import Derived.Deep.RegionWith
import Derived.Deep.RegionHeld3
import Derived.Lib.IndexBytes
namespace Go.Proofs.YtiglpecjpncclaaGreatDoor
open Go.RowKit Go.Sort
set_option linter.unusedVariables false
set_option linter.unusedSimpArgs false
set_option maxRecDepth 100000
theorem match_size {q t : ByteArray} (h : matchB q t = true) : t.size ≤ 10000 := by
  unfold matchB at h
  split at h
  · cases h
  · rw [Bool.and_eq_true] at h
    have h2 := h.1
    unfold readB at h2
    rw [Bool.and_eq_true, Lib.toList_data, Lib.toList_data, beq_iff_eq] at h2
    rw [size_data, ← h2.2]
    exact parse_bound t
set_option maxHeartbeats 4000000 in
theorem lawCovers (p q a : ByteArray) (w : World) (hp : p.size ≤ 9223372036854775807) (hq : q.size ≤ 9223372036854775807) (ha : a.size ≤ 9223372036854775807) (hE : Env w) :
    Calls Tryz.prog 7 #[.string p, .string q, .string a] w (Ret w (.bool true)) := by
  have HS := Lib.hid (fun W h => sanity_any W h)
  have HE := Lib.hid hE
  clear hE
  by_cases h1 : p.size ≤ 1000
  rotate_left
  · have d1 : decide ((1000 : Int) < (p.size : Int)) = true := decide_eq_true (by omega)
    go_enter Tryz.func7, Tryz.ntmps7
    go_wp2_with (go_at_call 11; refine (HS.out _ (Env.keep HE.out (by (repeat (first | exact Below.refl _ _ | assumption | refine Below.drew ?_ | refine balloc ?_ _ | refine bdrewN ?_ _ | refine Below.setCell ?_ (by first | (simp; done) | (simp; omega)) _ | refine bstep ?_ (by assumption)))))).mono ?_; rintro e ws ⟨rfl, hbs⟩)
    go_ret
    exact ⟨rfl, by (repeat (first | exact Below.refl _ _ | assumption | refine Below.drew ?_ | refine balloc ?_ _ | refine bdrewN ?_ _ | refine Below.setCell ?_ (by first | (simp; done) | (simp; omega)) _ | refine bstep ?_ (by assumption)))⟩
  have d1 : decide ((1000 : Int) < (p.size : Int)) = false := decide_eq_false (by omega)
  by_cases h2 : q.size ≤ 1000
  rotate_left
  · have d2 : decide ((1000 : Int) < (q.size : Int)) = true := decide_eq_true (by omega)
    go_enter Tryz.func7, Tryz.ntmps7
    go_wp2_with (go_at_call 11; refine (HS.out _ (Env.keep HE.out (by (repeat (first | exact Below.refl _ _ | assumption | refine Below.drew ?_ | refine balloc ?_ _ | refine bdrewN ?_ _ | refine Below.setCell ?_ (by first | (simp; done) | (simp; omega)) _ | refine bstep ?_ (by assumption)))))).mono ?_; rintro e ws ⟨rfl, hbs⟩)
    go_ret
    exact ⟨rfl, by (repeat (first | exact Below.refl _ _ | assumption | refine Below.drew ?_ | refine balloc ?_ _ | refine bdrewN ?_ _ | refine Below.setCell ?_ (by first | (simp; done) | (simp; omega)) _ | refine bstep ?_ (by assumption)))⟩
  have d2 : decide ((1000 : Int) < (q.size : Int)) = false := decide_eq_false (by omega)
  by_cases h3 : a.size ≤ 5000
  rotate_left
  · have d3 : decide ((5000 : Int) < (a.size : Int)) = true := decide_eq_true (by omega)
    go_enter Tryz.func7, Tryz.ntmps7
    go_wp2_with (go_at_call 11; refine (HS.out _ (Env.keep HE.out (by (repeat (first | exact Below.refl _ _ | assumption | refine Below.drew ?_ | refine balloc ?_ _ | refine bdrewN ?_ _ | refine Below.setCell ?_ (by first | (simp; done) | (simp; omega)) _ | refine bstep ?_ (by assumption)))))).mono ?_; rintro e ws ⟨rfl, hbs⟩)
    go_ret
    exact ⟨rfl, by (repeat (first | exact Below.refl _ _ | assumption | refine Below.drew ?_ | refine balloc ?_ _ | refine bdrewN ?_ _ | refine Below.setCell ?_ (by first | (simp; done) | (simp; omega)) _ | refine bstep ?_ (by assumption)))⟩
  have d3 : decide ((5000 : Int) < (a.size : Int)) = false := decide_eq_false (by omega)
  have cC := fun W h => covers_any2 p q W (by omega) (by omega) h
  have cV1 := fun W h => valid_any p W (by omega) h
  have cV2 := fun W h => valid_any q W (by omega) h
  have cM1 := fun W h => match_any q a W (by omega) (by omega) h
  have cM2 := fun W h => match_any p a W (by omega) (by omega) h
  by_cases hbad : (compileB p).isSome = false ∨ (compileB q).isSome = false
  · have hv : coversV (compileB p) (compileB q) = .tuple #[.bool false, .string ⟨#[]⟩, .int .i64 1] := by
      cases h4 : compileB p with
      | none => rfl
      | some x =>
        cases h5 : compileB q with
        | none => rfl
        | some y => rw [h4, h5] at hbad; simp at hbad
    rw [hv] at cC
    clear hv cM1 cM2
    generalize (compileB p).isSome = o1 at *
    generalize (compileB q).isSome = o2 at *
    have HC := Lib.hid cC
    have HV1 := Lib.hid cV1
    have HV2 := Lib.hid cV2
    clear cC cV1 cV2
    cases o1
    · clear hbad
      go_enter Tryz.func7, Tryz.ntmps7
      go_wp2_with (first | (go_at_call 11; refine (HS.out _ (Env.keep HE.out (by (repeat (first | exact Below.refl _ _ | assumption | refine Below.drew ?_ | refine balloc ?_ _ | refine bdrewN ?_ _ | refine Below.setCell ?_ (by first | (simp; done) | (simp; omega)) _ | refine bstep ?_ (by assumption)))))).mono ?_; rintro e ws ⟨rfl, hbs⟩) | (go_at_call 27; refine (HC.out _ (Env.keep HE.out (by (repeat (first | exact Below.refl _ _ | assumption | refine Below.drew ?_ | refine balloc ?_ _ | refine bdrewN ?_ _ | refine Below.setCell ?_ (by first | (simp; done) | (simp; omega)) _ | refine bstep ?_ (by assumption)))))).mono ?_; rintro e wc ⟨rfl, hbc⟩) | (go_at_call 28; refine (HV1.out _ (Env.keep HE.out (by (repeat (first | exact Below.refl _ _ | assumption | refine Below.drew ?_ | refine balloc ?_ _ | refine bdrewN ?_ _ | refine Below.setCell ?_ (by first | (simp; done) | (simp; omega)) _ | refine bstep ?_ (by assumption)))))).mono ?_; rintro e wv ⟨rfl, hbv⟩; clear HV1) | (go_at_call 28; refine (HV2.out _ (Env.keep HE.out (by (repeat (first | exact Below.refl _ _ | assumption | refine Below.drew ?_ | refine balloc ?_ _ | refine bdrewN ?_ _ | refine Below.setCell ?_ (by first | (simp; done) | (simp; omega)) _ | refine bstep ?_ (by assumption)))))).mono ?_; rintro e wu ⟨rfl, hbu⟩))
      go_ret
      exact ⟨rfl, by (repeat (first | exact Below.refl _ _ | assumption | refine Below.drew ?_ | refine balloc ?_ _ | refine bdrewN ?_ _ | refine Below.setCell ?_ (by first | (simp; done) | (simp; omega)) _ | refine bstep ?_ (by assumption)))⟩
    · obtain rfl : o2 = false := by simpa using hbad
      clear hbad
      go_enter Tryz.func7, Tryz.ntmps7
      go_wp2_with (first | (go_at_call 11; refine (HS.out _ (Env.keep HE.out (by (repeat (first | exact Below.refl _ _ | assumption | refine Below.drew ?_ | refine balloc ?_ _ | refine bdrewN ?_ _ | refine Below.setCell ?_ (by first | (simp; done) | (simp; omega)) _ | refine bstep ?_ (by assumption)))))).mono ?_; rintro e ws ⟨rfl, hbs⟩) | (go_at_call 27; refine (HC.out _ (Env.keep HE.out (by (repeat (first | exact Below.refl _ _ | assumption | refine Below.drew ?_ | refine balloc ?_ _ | refine bdrewN ?_ _ | refine Below.setCell ?_ (by first | (simp; done) | (simp; omega)) _ | refine bstep ?_ (by assumption)))))).mono ?_; rintro e wc ⟨rfl, hbc⟩) | (go_at_call 28; refine (HV1.out _ (Env.keep HE.out (by (repeat (first | exact Below.refl _ _ | assumption | refine Below.drew ?_ | refine balloc ?_ _ | refine bdrewN ?_ _ | refine Below.setCell ?_ (by first | (simp; done) | (simp; omega)) _ | refine bstep ?_ (by assumption)))))).mono ?_; rintro e wv ⟨rfl, hbv⟩; clear HV1) | (go_at_call 28; refine (HV2.out _ (Env.keep HE.out (by (repeat (first | exact Below.refl _ _ | assumption | refine Below.drew ?_ | refine balloc ?_ _ | refine bdrewN ?_ _ | refine Below.setCell ?_ (by first | (simp; done) | (simp; omega)) _ | refine bstep ?_ (by assumption)))))).mono ?_; rintro e wu ⟨rfl, hbu⟩))
      go_ret
      exact ⟨rfl, by (repeat (first | exact Below.refl _ _ | assumption | refine Below.drew ?_ | refine balloc ?_ _ | refine bdrewN ?_ _ | refine Below.setCell ?_ (by first | (simp; done) | (simp; omega)) _ | refine bstep ?_ (by assumption)))⟩
  simp only [not_or, Bool.not_eq_false] at hbad
  obtain ⟨x, hx⟩ := Option.isSome_iff_exists.1 hbad.1
  obtain ⟨y, hy⟩ := Option.isSome_iff_exists.1 hbad.2
  clear hbad cV1 cV2
  rw [hx, hy] at cC
  cases hcv : coverB x y
  · have hex := coverW_exact hx hy hcv
    have hsz : (coverW x y).size ≤ 100000 := Nat.le_trans (match_size hex.1) (by decide)
    have hv : coversV (some x) (some y) = .tuple #[.bool false, .string (coverW x y), .int .i64 0] := by simp [coversV, hcv]
    rw [hv] at cC
    generalize coverW x y = t at *
    have cN1 := fun W h => match_any q t W (by omega) hsz h
    have cN2 := fun W h => match_any p t W (by omega) hsz h
    rw [hex.1] at cN1
    rw [hex.2] at cN2
    have HC := Lib.hid cC
    have HM1 := Lib.hid cN1
    have HM2 := Lib.hid cN2
    clear cC cN1 cN2 cM1 cM2 hv hex hsz hcv hx hy
    go_enter Tryz.func7, Tryz.ntmps7
    go_wp2_with (first | (go_at_call 11; refine (HS.out _ (Env.keep HE.out (by (repeat (first | exact Below.refl _ _ | assumption | refine Below.drew ?_ | refine balloc ?_ _ | refine bdrewN ?_ _ | refine Below.setCell ?_ (by first | (simp; done) | (simp; omega)) _ | refine bstep ?_ (by assumption)))))).mono ?_; rintro e ws ⟨rfl, hbs⟩) | (go_at_call 27; refine (HC.out _ (Env.keep HE.out (by (repeat (first | exact Below.refl _ _ | assumption | refine Below.drew ?_ | refine balloc ?_ _ | refine bdrewN ?_ _ | refine Below.setCell ?_ (by first | (simp; done) | (simp; omega)) _ | refine bstep ?_ (by assumption)))))).mono ?_; rintro e wc ⟨rfl, hbc⟩) | (go_at_call 29; refine (HM1.out _ (Env.keep HE.out (by (repeat (first | exact Below.refl _ _ | assumption | refine Below.drew ?_ | refine balloc ?_ _ | refine bdrewN ?_ _ | refine Below.setCell ?_ (by first | (simp; done) | (simp; omega)) _ | refine bstep ?_ (by assumption)))))).mono ?_; rintro e wm ⟨rfl, hbm⟩; clear HM1) | (go_at_call 29; refine (HM2.out _ (Env.keep HE.out (by (repeat (first | exact Below.refl _ _ | assumption | refine Below.drew ?_ | refine balloc ?_ _ | refine bdrewN ?_ _ | refine Below.setCell ?_ (by first | (simp; done) | (simp; omega)) _ | refine bstep ?_ (by assumption)))))).mono ?_; rintro e wn ⟨rfl, hbn⟩))
    go_ret
    exact ⟨rfl, by (repeat (first | exact Below.refl _ _ | assumption | refine Below.drew ?_ | refine balloc ?_ _ | refine bdrewN ?_ _ | refine Below.setCell ?_ (by first | (simp; done) | (simp; omega)) _ | refine bstep ?_ (by assumption)))⟩
  · have hv : coversV (some x) (some y) = .tuple #[.bool true, .string ⟨#[]⟩, .int .i64 0] := by simp [coversV, hcv]
    rw [hv] at cC
    have himp : matchB q a = true → matchB p a = true := by
      unfold matchB
      rw [hx, hy]
      simp only [Bool.and_eq_true]
      exact fun h => ⟨h.1, cover_sound (compile_fit hx) (compile_fit hy) hcv _ h.2⟩
    have HC := Lib.hid cC
    clear hv hcv cC hx hy
    generalize matchB q a = m1 at *
    generalize matchB p a = m2 at *
    have HM1 := Lib.hid cM1
    have HM2 := Lib.hid cM2
    clear cM1 cM2
    cases m1
    · clear himp
      go_enter Tryz.func7, Tryz.ntmps7
      go_wp2_with (first | (go_at_call 11; refine (HS.out _ (Env.keep HE.out (by (repeat (first | exact Below.refl _ _ | assumption | refine Below.drew ?_ | refine balloc ?_ _ | refine bdrewN ?_ _ | refine Below.setCell ?_ (by first | (simp; done) | (simp; omega)) _ | refine bstep ?_ (by assumption)))))).mono ?_; rintro e ws ⟨rfl, hbs⟩) | (go_at_call 27; refine (HC.out _ (Env.keep HE.out (by (repeat (first | exact Below.refl _ _ | assumption | refine Below.drew ?_ | refine balloc ?_ _ | refine bdrewN ?_ _ | refine Below.setCell ?_ (by first | (simp; done) | (simp; omega)) _ | refine bstep ?_ (by assumption)))))).mono ?_; rintro e wc ⟨rfl, hbc⟩) | (go_at_call 29; refine (HM1.out _ (Env.keep HE.out (by (repeat (first | exact Below.refl _ _ | assumption | refine Below.drew ?_ | refine balloc ?_ _ | refine bdrewN ?_ _ | refine Below.setCell ?_ (by first | (simp; done) | (simp; omega)) _ | refine bstep ?_ (by assumption)))))).mono ?_; rintro e wm ⟨rfl, hbm⟩; clear HM1) | (go_at_call 29; refine (HM2.out _ (Env.keep HE.out (by (repeat (first | exact Below.refl _ _ | assumption | refine Below.drew ?_ | refine balloc ?_ _ | refine bdrewN ?_ _ | refine Below.setCell ?_ (by first | (simp; done) | (simp; omega)) _ | refine bstep ?_ (by assumption)))))).mono ?_; rintro e wn ⟨rfl, hbn⟩))
      go_ret
      exact ⟨rfl, by (repeat (first | exact Below.refl _ _ | assumption | refine Below.drew ?_ | refine balloc ?_ _ | refine bdrewN ?_ _ | refine Below.setCell ?_ (by first | (simp; done) | (simp; omega)) _ | refine bstep ?_ (by assumption)))⟩
    · obtain rfl := himp rfl
      clear himp
      go_enter Tryz.func7, Tryz.ntmps7
      go_wp2_with (first | (go_at_call 11; refine (HS.out _ (Env.keep HE.out (by (repeat (first | exact Below.refl _ _ | assumption | refine Below.drew ?_ | refine balloc ?_ _ | refine bdrewN ?_ _ | refine Below.setCell ?_ (by first | (simp; done) | (simp; omega)) _ | refine bstep ?_ (by assumption)))))).mono ?_; rintro e ws ⟨rfl, hbs⟩) | (go_at_call 27; refine (HC.out _ (Env.keep HE.out (by (repeat (first | exact Below.refl _ _ | assumption | refine Below.drew ?_ | refine balloc ?_ _ | refine bdrewN ?_ _ | refine Below.setCell ?_ (by first | (simp; done) | (simp; omega)) _ | refine bstep ?_ (by assumption)))))).mono ?_; rintro e wc ⟨rfl, hbc⟩) | (go_at_call 29; refine (HM1.out _ (Env.keep HE.out (by (repeat (first | exact Below.refl _ _ | assumption | refine Below.drew ?_ | refine balloc ?_ _ | refine bdrewN ?_ _ | refine Below.setCell ?_ (by first | (simp; done) | (simp; omega)) _ | refine bstep ?_ (by assumption)))))).mono ?_; rintro e wm ⟨rfl, hbm⟩; clear HM1) | (go_at_call 29; refine (HM2.out _ (Env.keep HE.out (by (repeat (first | exact Below.refl _ _ | assumption | refine Below.drew ?_ | refine balloc ?_ _ | refine bdrewN ?_ _ | refine Below.setCell ?_ (by first | (simp; done) | (simp; omega)) _ | refine bstep ?_ (by assumption)))))).mono ?_; rintro e wn ⟨rfl, hbn⟩))
      go_ret
      exact ⟨rfl, by (repeat (first | exact Below.refl _ _ | assumption | refine Below.drew ?_ | refine balloc ?_ _ | refine bdrewN ?_ _ | refine Below.setCell ?_ (by first | (simp; done) | (simp; omega)) _ | refine bstep ?_ (by assumption)))⟩

end Go.Proofs.YtiglpecjpncclaaGreatDoor
