/- What the specification's HasTag returns. -/
import Derived.Test.YtiglpecjpncclaaGreatDoorRef7
import Derived.Test.YtiglpecjpncclaaGreatDoorProg
import Derived.WalkKit
import Derived.WalkSpells
import Derived.WalkLawsBesides
import Derived.Below
import Derived.Deep.QuietTactic
import Derived.BigQuiet
import Derived.Lib.QuietBelow
import Derived.Lib.Strings
import Derived.Lib.Hide
import Derived.Deep.RegionWith
import Derived.Deep.RegionHeld3
import Derived.Lib.IndexBytes
namespace Go.Proofs.YtiglpecjpncclaaGreatDoor
open Go.RowKit Go.Sort
set_option linter.unusedVariables false
set_option linter.unusedSimpArgs false
set_option maxRecDepth 100000
theorem splitR_len (s : ByteArray) : (splitR s).1.length ≤ 2 * s.size + 2 := by
  unfold splitR
  have := splitB_num 44 s
  split
  · simp
  · split
    · simp; omega
    · simp
theorem run_fieldL (A : Option Addr) (n c : Nat) (x : Value) (w : World) : (Instr.field 48 (.agg #[.slice A n c, x]) 0).run Tryz.prog w = .ok (.slice A n c) w := by
  first | kernel_rfl | rfl | simp [Instr.field, part, go_sem, Tryz.underlying48]
set_option maxHeartbeats 4000000 in
theorem rHasTag_any (s tag : ByteArray) (w : World) (hs : s.size ≤ 100000) : Calls Tryz.prog 25 #[.string s, .string tag] w (Ret w (.bool (hasTagB s tag))) := by
  have cS := rSplitTags_any s w hs
  unfold hasTagB
  have hlen := splitR_len s
  generalize splitR s = r at *
  obtain ⟨ps, er⟩ := r
  dsimp only at *
  have hn : ps.length ≤ 1000000 := by omega
  generalize hres : Lib.containsS ps tag = res
  have HRES := Lib.hid hres
  have HS := Lib.hid cS
  clear cS hlen hres
  go_enter Tryz.func25, Tryz.ntmps25
  go_wp2_with (go_at_call 22; refine HS.out.mono ?_; rintro e w1 ⟨hb1, A, c, rfl, hR⟩; have HR := Lib.hid hR)
  rw [run_fieldL]
  go_wp2
  go_loopw [6] (fun vi wr => ∃ k : Nat, vi = .int .i64 k ∧ k ≤ ps.length ∧ Hid (tag ∉ ps.take k) ∧ Below w1.heap.size w1 wr) (fun i _ => ps.length - (intOf i).toNat)
  case atStart => exact ⟨0, rfl, Nat.zero_le _, Lib.hid (by simp), by (repeat (first | exact Below.refl _ _ | assumption | refine Below.drew ?_ | refine balloc ?_ _ | refine bdrewN ?_ _ | refine Below.setCell ?_ (by first | (simp; done) | (simp; omega)) _ | refine bstep ?_ (by assumption)))⟩
  case round =>
    obtain ⟨k, rfl, hk, HK, hbr⟩ := hrel
    by_cases hlt : k < ps.length
    · obtain ⟨x, hx⟩ : ∃ x, ps[k]? = some x := ⟨_, List.getElem?_eq_getElem hlt⟩
      obtain ⟨b, o, rfl, hcell⟩ := (HR.out.keep hbr).2 (by omega)
      have hc1 : wr.cell? ⟨b, o + k, none⟩ = some (.string x) := hcell k _ (by simp [hx])
      have hk0 : (0 : Int) ≤ (k : Int) := by omega
      have hk1 : (k : Int) < (ps.length : Int) := by omega
      have HX := Lib.hid hx
      clear hcell hx hR
      by_cases he : x = tag
      · subst he
        have hv : true = res := by rw [← HRES.out]; exact ((Lib.containsS_iff _ _).2 (List.mem_of_getElem? HX.out)).symm
        have hq : (x.toList == x.toList) = true := by simp
        subst hv
        go_wp2
        go_ret
        exact ⟨rfl, by (repeat (first | exact Below.refl _ _ | assumption | refine Below.drew ?_ | refine balloc ?_ _ | refine bdrewN ?_ _ | refine Below.setCell ?_ (by first | (simp; done) | (simp; omega)) _ | refine bstep ?_ (by assumption)))⟩
      · have hq2 : ¬ x.toList = tag.toList := by
          rw [Lib.toList_data, Lib.toList_data]
          exact fun h => he (bytes_ext h)
        have hq : (x.toList == tag.toList) = false := by simpa using hq2
        have HK2 : Hid (tag ∉ ps.take (k + 1)) := Lib.hid (by
          rw [List.take_add_one, HX.out]
          intro h
          rcases List.mem_append.1 h with h | h
          · exact HK.out h
          · exact he (by simpa using (show tag ∈ [x] from h) : tag = x).symm)
        clear HK
        go_wp2
        exact ⟨⟨k + 1, by go_num, by omega, HK2, hbr⟩, by simp [intOf]; omega⟩
    · obtain rfl : k = ps.length := by omega
      have hv : false = res := by
        rw [← HRES.out]
        cases h : Lib.containsS ps tag
        · rfl
        · have := HK.out
          rw [List.take_length] at this
          exact absurd ((Lib.containsS_iff _ _).1 h) this
      subst hv
      go_wp2
      go_ret
      exact ⟨rfl, by (repeat (first | exact Below.refl _ _ | assumption | refine Below.drew ?_ | refine balloc ?_ _ | refine bdrewN ?_ _ | refine Below.setCell ?_ (by first | (simp; done) | (simp; omega)) _ | refine bstep ?_ (by assumption)))⟩

end Go.Proofs.YtiglpecjpncclaaGreatDoor
