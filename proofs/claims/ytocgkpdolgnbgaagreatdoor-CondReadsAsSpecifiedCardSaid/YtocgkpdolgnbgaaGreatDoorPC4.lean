/- What the specification's Same returns of equal conditions; the package's pattern. -/
import Derived.Test.YtocgkpdolgnbgaaGreatDoorPC3
import Derived.Test.YtocgkpdolgnbgaaGreatDoorProg
import Derived.WalkKit
import Derived.WalkSpells
import Derived.WalkLawsBesides
import Derived.Below
import Derived.Deep.QuietTactic
import Derived.BigQuiet
import Derived.Lib.QuietBelow
import Derived.Lib.Strings
import Derived.Lib.Hide
import Derived.Deep.RegionWith
import Derived.Deep.RegionHeld3
import Derived.Lib.IndexBytes
namespace Go.Proofs.YtocgkpdolgnbgaaGreatDoor
open Go.RowKit Go.Sort
set_option linter.unusedVariables false
set_option linter.unusedSimpArgs false
set_option maxRecDepth 100000
set_option maxHeartbeats 4000000 in
theorem cmpOr_any (g c : Nat) (a b : ByteArray) (w : World) (h0 : w.cell? ⟨g, 0, none⟩ = some (.string a)) (h1 : w.cell? ⟨g, 1, none⟩ = some (.string b)) : Calls Tryz.prog 34 #[.slice (some ⟨g, 0, none⟩) 2 c] w (Ret w (.string (if a.size = 0 then b else a))) := by
  have hE : ∀ s : ByteArray, s.size = 0 → s = ⟨#[]⟩ := fun s h => bytes_ext (List.eq_nil_of_length_eq_zero (by rw [← Lib.size_eq]; exact h))
  have hN : ∀ s : ByteArray, s.size ≠ 0 → ¬ s.toList = [] := fun s h e => h (by rw [Lib.toList_data] at e; rw [Lib.size_eq, e]; rfl)
  obtain ⟨V, hV⟩ : ∃ V, V = if a.size = 0 then b else a := ⟨_, rfl⟩
  rw [← hV]
  have HV := Lib.hid hV
  have H0 := Lib.hid h0
  have H1 := Lib.hid h1
  clear h0 h1 hV
  go_enter Tryz.func34, Tryz.ntmps34
  go_wp2
  go_loopw [8] (fun vi wr => ∃ k : Nat, vi = .int .i64 k ∧ k ≤ 2 ∧ Hid ((0 < k → a.size = 0) ∧ (1 < k → b.size = 0)) ∧ Below w.heap.size w wr) (fun i _ => 2 - (intOf i).toNat)
  case atStart => exact ⟨0, rfl, by omega, Lib.hid ⟨fun h => by omega, fun h => by omega⟩, Below.refl _ _⟩
  case round =>
    obtain ⟨k, rfl, hk, HK, hbr⟩ := hrel
    have c0 := cell_keep hbr H0.out
    have c1 := cell_keep hbr H1.out
    by_cases hlt : k < 2
    · rcases k with _ | _ | k
      · by_cases hs : a.size = 0
        · have ha := hE a hs
          have HK2 : Hid ((0 < 1 → a.size = 0) ∧ (1 < 1 → b.size = 0)) := Lib.hid ⟨fun _ => hs, fun h => by omega⟩
          rw [ha] at c0
          clear HK ha
          go_wp2
          exact ⟨⟨1, by go_num, by omega, HK2, hbr⟩, by simp [intOf]; try omega⟩
        · have hn := hN a hs
          have hn2 : (a.toList == []) = false := by simpa using hn
          obtain rfl : V = a := by rw [HV.out, if_neg hs]
          clear HK
          go_wp2
          go_ret
          exact ⟨rfl, hbr⟩
      · have hs := HK.out.1 (by omega)
        obtain rfl : V = b := by rw [HV.out, if_pos hs]
        by_cases hs2 : V.size = 0
        · have hb := hE V hs2
          have HK2 : Hid ((0 < 2 → a.size = 0) ∧ (1 < 2 → V.size = 0)) := Lib.hid ⟨fun _ => hs, fun _ => hs2⟩
          rw [hb] at c1
          clear HK hb
          go_wp2
          exact ⟨⟨2, by go_num, by omega, HK2, hbr⟩, by simp [intOf]; try omega⟩
        · have hn := hN V hs2
          have hn2 : (V.toList == []) = false := by simpa using hn
          clear HK
          go_wp2
          go_ret
          exact ⟨rfl, hbr⟩
      · omega
    · obtain rfl : k = 2 := by omega
      have hs := HK.out.1 (by omega)
      have hs2 := HK.out.2 (by omega)
      obtain rfl : V = ⟨#[]⟩ := by rw [HV.out, if_pos hs, hE b hs2]
      go_wp2
      go_ret
      exact ⟨rfl, hbr⟩
end Go.Proofs.YtocgkpdolgnbgaaGreatDoor
