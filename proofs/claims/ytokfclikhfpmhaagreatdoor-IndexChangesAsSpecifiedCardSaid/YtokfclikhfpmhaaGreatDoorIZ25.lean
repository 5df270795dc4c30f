/- What the specification's Under returns. -/
import Derived.Test.YtokfclikhfpmhaaGreatDoorIZ18
import Derived.Test.YtokfclikhfpmhaaGreatDoorIZ12
import Derived.Test.YtokfclikhfpmhaaGreatDoorIZ15
import Derived.Deep.RegionHeldLaw
import Derived.Deep.RegionLaw
import Derived.Test.YtokfclikhfpmhaaGreatDoorProg
import Derived.WalkKit
import Derived.WalkSpells
import Derived.WalkLawsBesides
import Derived.Below
import Derived.Deep.QuietTactic
import Derived.BigQuiet
import Derived.Lib.QuietBelow
import Derived.Lib.Strings
import Derived.Lib.Hide
import Derived.Deep.RegionWith
import Derived.Deep.RegionHeld3
import Derived.Lib.IndexBytes
import Derived.Test.YtokfclikhfpmhaaGreatDoorIZ23
import Derived.Test.YtokfclikhfpmhaaGreatDoorIZ14
namespace Go.Proofs.YtokfclikhfpmhaaGreatDoor
open Go.RowKit Go.Sort
set_option linter.unusedVariables false
set_option linter.unusedSimpArgs false
set_option maxRecDepth 100000
theorem prefix_eq (a p : ByteArray) (h : p.size ≤ a.size) : Lib.hasPrefix a.data.toList p.data.toList = ((a.extract 0 p.size).toList == p.toList) := by
  rw [Lib.toList_data, Lib.toList_data, Lib.extract_data, Bool.eq_iff_iff, beq_iff_eq]
  unfold Lib.hasPrefix
  rw [List.isPrefixOf_iff_prefix]
  simp only [List.drop_zero, Nat.sub_zero]
  constructor
  · rintro ⟨r, h⟩
    rw [← h, size_data, List.take_left]
  · intro h
    exact ⟨a.data.toList.drop p.size, by have := List.take_append_drop p.size a.data.toList; rw [h] at this; exact this⟩
theorem has_query {p : ByteArray} (h : readB p = true) : anyEq 63 p.data.toList = decide (0 < (parseB p).1.query.length) := by
  have herr : (parseB p).2 = 0 := by
    unfold readB at h
    simp only [Bool.and_eq_true, decide_eq_true_eq] at h
    exact h.1
  have hg := parse_good p herr
  have hd : p.data.toList = W06 (parseB p).1.cust (parseB p).1.path (parseB p).1.query := by
    unfold readB at h
    simp only [Bool.and_eq_true, beq_iff_eq] at h
    have := h.2
    rw [Lib.toList_data, Lib.toList_data] at this
    exact this.symm
  have hf := front_no63 hg
  rw [hd]
  generalize parseB p = r at *
  obtain ⟨⟨c, ps, qs⟩, er⟩ := r
  dsimp only at hg hf ⊢
  have e : W06 c ps qs = frontL ⟨c, ps, qs⟩ ++ queryL 63 (lists2 qs) := rfl
  rw [e]
  unfold anyEq
  rw [List.any_append]
  have h1 : (frontL ⟨c, ps, qs⟩).any (fun b => b.toNat == 63) = false := by
    rw [List.any_eq_false]
    intro b hb h63
    rw [beq_iff_eq] at h63
    have : b = 63 := UInt8.toNat_inj.1 h63
    rw [this] at hb
    exact hf hb
  rw [h1, Bool.false_or]
  cases qs with
  | nil => rfl
  | cons q qs => simp [lists2, queryL]
set_option maxHeartbeats 4000000 in
theorem rUnder_any (p a : ByteArray) (w : World) (hp : p.size ≤ 4294967281) (ha : a.size ≤ 4294967281) : Calls Tryz.prog 40 #[.string p, .string a] w (Ret w (.bool (underB p a))) := by
  have c1 := fun W => rCanon_any p W hp
  have c2 := fun W => rCanon_any a W ha
  have c3 := fun W => rHas_any p 63 W hp
  have hq := @has_query p
  obtain ⟨V, hV⟩ : ∃ V, V = underB p a := ⟨_, rfl⟩
  rw [← hV]
  unfold underB at hV
  generalize readB p = r1 at *
  generalize readB a = r2 at *
  generalize decide (0 < (parseB p).1.query.length) = qd at *
  have H1 := Lib.hid c1
  have H2 := Lib.hid c2
  clear c1 c2
  cases r1
  · obtain rfl : V = false := by rw [hV]; rfl
    clear hq c3 hV
    go_enter Tryz.func40, Tryz.ntmps40
    go_wp2_with (go_at_call 66; refine (H1.out _).mono ?_; rintro e w1 ⟨rfl, hb1⟩; clear H1)
    go_ret
    exact ⟨rfl, belB⟩
  rw [hq rfl] at c3
  have H3 := Lib.hid c3
  clear c3 hq
  cases r2
  · obtain rfl : V = false := by rw [hV]; rfl
    clear hV
    go_enter Tryz.func40, Tryz.ntmps40
    go_wp2_with (first | (go_at_call 66; refine (H1.out _).mono ?_; rintro e w1 ⟨rfl, hb1⟩; clear H1) | (go_at_call 66; refine (H2.out _).mono ?_; rintro e w2 ⟨rfl, hb2⟩))
    go_ret
    exact ⟨rfl, belB⟩
  cases qd
  rotate_left
  · obtain rfl : V = false := by rw [hV]; rfl
    clear hV
    go_enter Tryz.func40, Tryz.ntmps40
    go_wp2_with (first | (go_at_call 66; refine (H1.out _).mono ?_; rintro e w1 ⟨rfl, hb1⟩; clear H1) | (go_at_call 66; refine (H2.out _).mono ?_; rintro e w2 ⟨rfl, hb2⟩) | (go_at_call 70; refine (H3.out _).mono ?_; rintro e w3 ⟨rfl, hb3⟩))
    go_ret
    exact ⟨rfl, belB⟩
  have hV2 : V = (Lib.hasPrefix a.data.toList p.data.toList && ((a.data.toList.drop p.size).isEmpty || (a.data.toList.drop p.size).head? == some 47 || (a.data.toList.drop p.size).head? == some 63)) := hV
  clear hV
  by_cases hl : a.size < p.size
  · have hnp : Lib.hasPrefix a.data.toList p.data.toList = false := by
      cases h : Lib.hasPrefix a.data.toList p.data.toList
      · rfl
      · unfold Lib.hasPrefix at h
        rw [List.isPrefixOf_iff_prefix] at h
        have := h.length_le
        rw [size_data, size_data] at hl
        omega
    obtain rfl : V = false := by rw [hV2, hnp]; rfl
    have d1 : decide ((a.size : Int) < (p.size : Int)) = true := decide_eq_true (by omega)
    have d1' : decide (a.size < p.size) = true := decide_eq_true hl
    clear hV2 hnp
    go_enter Tryz.func40, Tryz.ntmps40
    go_wp2_with (first | (go_at_call 66; refine (H1.out _).mono ?_; rintro e w1 ⟨rfl, hb1⟩; clear H1) | (go_at_call 66; refine (H2.out _).mono ?_; rintro e w2 ⟨rfl, hb2⟩) | (go_at_call 70; refine (H3.out _).mono ?_; rintro e w3 ⟨rfl, hb3⟩))
    go_ret
    exact ⟨rfl, belB⟩
  have d1 : decide ((a.size : Int) < (p.size : Int)) = false := decide_eq_false (by omega)
  have d1' : decide (a.size < p.size) = false := decide_eq_false hl
  have hp0 : (0 : Int) ≤ (p.size : Int) := by omega
  have hpa : (p.size : Int) ≤ (a.size : Int) := by omega
  rw [prefix_eq a p (by omega)] at hV2
  cases hpx : ((a.extract 0 p.size).toList == p.toList)
  · obtain rfl : V = false := by rw [hV2, hpx]; rfl
    have hpx' : ¬ (a.extract 0 p.size).toList = p.toList := by simpa using hpx
    clear hV2
    go_enter Tryz.func40, Tryz.ntmps40
    go_wp2_with (first | (go_at_call 66; refine (H1.out _).mono ?_; rintro e w1 ⟨rfl, hb1⟩; clear H1) | (go_at_call 66; refine (H2.out _).mono ?_; rintro e w2 ⟨rfl, hb2⟩) | (go_at_call 70; refine (H3.out _).mono ?_; rintro e w3 ⟨rfl, hb3⟩))
    go_ret
    exact ⟨rfl, belB⟩
  have hpx' : (a.extract 0 p.size).toList = p.toList := by simpa using hpx
  rw [hpx, Bool.true_and] at hV2
  by_cases he : a.size = p.size
  · have hdr : a.data.toList.drop p.size = [] := List.drop_eq_nil_of_le (by rw [← Lib.size_eq]; omega)
    obtain rfl : V = true := by rw [hV2, hdr]; rfl
    have d2 : ((a.size : Int) == (p.size : Int)) = true := by simp; omega
    clear hV2 hdr
    go_enter Tryz.func40, Tryz.ntmps40
    go_wp2_with (first | (go_at_call 66; refine (H1.out _).mono ?_; rintro e w1 ⟨rfl, hb1⟩; clear H1) | (go_at_call 66; refine (H2.out _).mono ?_; rintro e w2 ⟨rfl, hb2⟩) | (go_at_call 70; refine (H3.out _).mono ?_; rintro e w3 ⟨rfl, hb3⟩))
    go_ret
    exact ⟨rfl, belB⟩
  · have d2 : ((a.size : Int) == (p.size : Int)) = false := beq_eq_false_iff_ne.2 (by omega)
    have hlt : p.size < a.size := by omega
    have hpl : (p.size : Int) < (a.size : Int) := by omega
    have hll : p.size < a.data.toList.length := by rw [← Lib.size_eq]; exact hlt
    have hdr : a.data.toList.drop p.size = a[p.size] :: a.data.toList.drop (p.size + 1) := by
      rw [byte_at a p.size hlt]; exact List.drop_eq_getElem_cons hll
    have hub := under_bytes a[p.size]
    have hV3 : V = ((a[p.size].toNat : Int) == 47 || (a[p.size].toNat : Int) == 63) := by
      rw [hub, hV2, hdr]; simp only [List.isEmpty_cons, Bool.false_or, List.head?_cons]
    clear hV2 hdr hub
    cases e1 : ((a[p.size].toNat : Int) == 47)
    · cases e2 : ((a[p.size].toNat : Int) == 63)
      · obtain rfl : V = false := by rw [hV3, e1, e2]; rfl
        clear hV3
        go_enter Tryz.func40, Tryz.ntmps40
        go_wp2_with (first | (go_at_call 66; refine (H1.out _).mono ?_; rintro e w1 ⟨rfl, hb1⟩; clear H1) | (go_at_call 66; refine (H2.out _).mono ?_; rintro e w2 ⟨rfl, hb2⟩) | (go_at_call 70; refine (H3.out _).mono ?_; rintro e w3 ⟨rfl, hb3⟩))
        go_ret
        exact ⟨rfl, belB⟩
      · obtain rfl : V = true := by rw [hV3, e2]; simp
        clear hV3
        go_enter Tryz.func40, Tryz.ntmps40
        go_wp2_with (first | (go_at_call 66; refine (H1.out _).mono ?_; rintro e w1 ⟨rfl, hb1⟩; clear H1) | (go_at_call 66; refine (H2.out _).mono ?_; rintro e w2 ⟨rfl, hb2⟩) | (go_at_call 70; refine (H3.out _).mono ?_; rintro e w3 ⟨rfl, hb3⟩))
        go_ret
        exact ⟨rfl, belB⟩
    · obtain rfl : V = true := by rw [hV3, e1]; rfl
      clear hV3
      go_enter Tryz.func40, Tryz.ntmps40
      go_wp2_with (first | (go_at_call 66; refine (H1.out _).mono ?_; rintro e w1 ⟨rfl, hb1⟩; clear H1) | (go_at_call 66; refine (H2.out _).mono ?_; rintro e w2 ⟨rfl, hb2⟩) | (go_at_call 70; refine (H3.out _).mono ?_; rintro e w3 ⟨rfl, hb3⟩))
      go_ret
      exact ⟨rfl, belB⟩
end Go.Proofs.YtokfclikhfpmhaaGreatDoor
