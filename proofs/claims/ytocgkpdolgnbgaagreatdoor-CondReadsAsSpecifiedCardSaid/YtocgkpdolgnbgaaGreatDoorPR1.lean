/- The specification's Country, has and site. -/
import Derived.Test.YtocgkpdolgnbgaaGreatDoorPC1
import Derived.Test.YtocgkpdolgnbgaaGreatDoorPRef1
import Derived.Test.YtocgkpdolgnbgaaGreatDoorPGC
import Derived.Test.YtocgkpdolgnbgaaGreatDoorProg
import Derived.WalkKit
import Derived.WalkSpells
import Derived.WalkLawsBesides
import Derived.Below
import Derived.Deep.QuietTactic
import Derived.BigQuiet
import Derived.Lib.QuietBelow
import Derived.Lib.Strings
import Derived.Lib.Hide
import Derived.Deep.RegionWith
import Derived.Deep.RegionHeld3
import Derived.Lib.IndexBytes
namespace Go.Proofs.YtocgkpdolgnbgaaGreatDoor
open Go.RowKit Go.Sort
set_option linter.unusedVariables false
set_option linter.unusedSimpArgs false
set_option maxRecDepth 100000
theorem country_four (s : ByteArray) (h : s.size = 2) : countryB s = (decide ((97 : Int) ≤ ((s[0]'(by omega)).toNat : Int)) && decide (((s[0]'(by omega)).toNat : Int) ≤ 122) && decide ((97 : Int) ≤ ((s[1]'(by omega)).toNat : Int)) && decide (((s[1]'(by omega)).toNat : Int) ≤ 122)) := by
  unfold countryB
  rw [decide_eq_true h, Bool.true_and, two_bytes s h]
  simp only [List.all_cons, List.all_nil, Bool.and_true]
  rw [Bool.eq_iff_iff]
  simp only [Bool.and_eq_true, decide_eq_true_eq]
  omega
set_option maxHeartbeats 2000000 in
theorem rCountry_any (s : ByteArray) (w : World) (hs : s.size ≤ 4294967281) : Calls Tryz.prog 77 #[.string s] w (Ret w (.bool (countryB s))) := by
  by_cases h2 : s.size = 2
  · have d2 : ((s.size : Int) == 2) = true := by simp; omega
    have hv := country_four s h2
    have q0 : (0 : Int) < (s.size : Int) := by omega
    have q1 : (1 : Int) < (s.size : Int) := by omega
    rw [hv]
    clear hv
    cases e1 : decide ((97 : Int) ≤ ((s[0]'(by omega)).toNat : Int))
    · (go_enter Tryz.func77, Tryz.ntmps77; go_wp2; go_ret; exact ⟨rfl, by (repeat (first | exact .refl _ _ | assumption | refine .drew ?_ | refine balloc ?_ _ | refine bdrewN ?_ _ | refine .setCell ?_ (by simp <;> omega) _ | refine bstep ?_ (by assumption)))⟩)
    cases e2 : decide (((s[0]'(by omega)).toNat : Int) ≤ 122)
    · (go_enter Tryz.func77, Tryz.ntmps77; go_wp2; go_ret; exact ⟨rfl, by (repeat (first | exact .refl _ _ | assumption | refine .drew ?_ | refine balloc ?_ _ | refine bdrewN ?_ _ | refine .setCell ?_ (by simp <;> omega) _ | refine bstep ?_ (by assumption)))⟩)
    cases e3 : decide ((97 : Int) ≤ ((s[1]'(by omega)).toNat : Int))
    · (go_enter Tryz.func77, Tryz.ntmps77; go_wp2; go_ret; exact ⟨rfl, by (repeat (first | exact .refl _ _ | assumption | refine .drew ?_ | refine balloc ?_ _ | refine bdrewN ?_ _ | refine .setCell ?_ (by simp <;> omega) _ | refine bstep ?_ (by assumption)))⟩)
    cases e4 : decide (((s[1]'(by omega)).toNat : Int) ≤ 122)
    · (go_enter Tryz.func77, Tryz.ntmps77; go_wp2; go_ret; exact ⟨rfl, by (repeat (first | exact .refl _ _ | assumption | refine .drew ?_ | refine balloc ?_ _ | refine bdrewN ?_ _ | refine .setCell ?_ (by simp <;> omega) _ | refine bstep ?_ (by assumption)))⟩)
    · (go_enter Tryz.func77, Tryz.ntmps77; go_wp2; go_ret; exact ⟨rfl, by (repeat (first | exact .refl _ _ | assumption | refine .drew ?_ | refine balloc ?_ _ | refine bdrewN ?_ _ | refine .setCell ?_ (by simp <;> omega) _ | refine bstep ?_ (by assumption)))⟩)
  · have d2 : ((s.size : Int) == 2) = false := beq_eq_false_iff_ne.2 (by omega)
    have hv : countryB s = false := by unfold countryB; rw [decide_eq_false h2]; rfl
    rw [hv]
    (go_enter Tryz.func77, Tryz.ntmps77; go_wp2; go_ret; exact ⟨rfl, by (repeat (first | exact .refl _ _ | assumption | refine .drew ?_ | refine balloc ?_ _ | refine bdrewN ?_ _ | refine .setCell ?_ (by simp <;> omega) _ | refine bstep ?_ (by assumption)))⟩)
end Go.Proofs.YtocgkpdolgnbgaaGreatDoor
