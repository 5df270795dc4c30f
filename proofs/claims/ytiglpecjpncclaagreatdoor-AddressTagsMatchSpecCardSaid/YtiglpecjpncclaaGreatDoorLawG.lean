/- What AddressTagsMatchSpec returns: true. -/
import Derived.Test.YtiglpecjpncclaaGreatDoorPlainH
import Derived.Test.YtiglpecjpncclaaGreatDoorRef9
import Derived.Test.YtiglpecjpncclaaGreatDoorSane
import Derived.Deep.DeepCutAuto
import Derived.Test.YtiglpecjpncclaaGreatDoorProg
import Derived.WalkKit
import Derived.WalkSpells
import Derived.WalkLawsBesides
import Derived.Below
import Derived.Deep.QuietTactic
import Derived.BigQuiet
import Derived.Lib.QuietBelow
import Derived.Lib.Strings
import Derived.Lib.Hide
import Derived.Deep.RegionWith
import Derived.Deep.RegionHeld3
import Derived.Lib.IndexBytes
namespace Go.Proofs.YtiglpecjpncclaaGreatDoor
open Go.RowKit Go.Sort
set_option linter.unusedVariables false
set_option linter.unusedSimpArgs false
set_option maxRecDepth 100000
set_option maxHeartbeats 4000000 in
theorem lawTags (A : Option Addr) (n c : Nat) (l : List ByteArray) (s tag : ByteArray) (w : World) (hR : Reads w 1 A n (l.map .string)) (hsz : ∀ x ∈ l, x.size ≤ maxLen) (hs : s.size ≤ 9223372036854775807) (ht : tag.size ≤ 9223372036854775807) (hE : Env w) :
    Calls Tryz.prog 4 #[.slice A n c, .string s, .string tag] w (Ret w (.bool true)) := by
  have HS := Lib.hid (fun W h => sanity_any W h)
  have HE := Lib.hid hE
  have hl : l.length = n := by have := hR.1; simpa using this
  have HL := Lib.hid hl
  have HR := Lib.hid hR
  have HZ := Lib.hid hsz
  clear hE hl hR hsz
  by_cases h1 : n ≤ 100
  rotate_left
  · have d1 : decide ((100 : Int) < (n : Int)) = true := decide_eq_true (by omega)
    go_enter Tryz.func4, Tryz.ntmps4
    go_wp2_with (go_at_call 11; refine (HS.out _ (Env.keep HE.out (by (repeat (first | exact Below.refl _ _ | assumption | refine Below.drew ?_ | refine balloc ?_ _ | refine bdrewN ?_ _ | refine Below.setCell ?_ (by first | (simp; done) | (simp; omega)) _ | refine bstep ?_ (by assumption)))))).mono ?_; rintro e ws ⟨rfl, hbs⟩)
    go_ret
    exact ⟨rfl, by (repeat (first | exact Below.refl _ _ | assumption | refine Below.drew ?_ | refine balloc ?_ _ | refine bdrewN ?_ _ | refine Below.setCell ?_ (by first | (simp; done) | (simp; omega)) _ | refine bstep ?_ (by assumption)))⟩
  have d1 : decide ((100 : Int) < (n : Int)) = false := decide_eq_false (by omega)
  by_cases h2 : s.size ≤ 5000
  rotate_left
  · have d2 : decide ((5000 : Int) < (s.size : Int)) = true := decide_eq_true (by omega)
    go_enter Tryz.func4, Tryz.ntmps4
    go_wp2_with (go_at_call 11; refine (HS.out _ (Env.keep HE.out (by (repeat (first | exact Below.refl _ _ | assumption | refine Below.drew ?_ | refine balloc ?_ _ | refine bdrewN ?_ _ | refine Below.setCell ?_ (by first | (simp; done) | (simp; omega)) _ | refine bstep ?_ (by assumption)))))).mono ?_; rintro e ws ⟨rfl, hbs⟩)
    go_ret
    exact ⟨rfl, by (repeat (first | exact Below.refl _ _ | assumption | refine Below.drew ?_ | refine balloc ?_ _ | refine bdrewN ?_ _ | refine Below.setCell ?_ (by first | (simp; done) | (simp; omega)) _ | refine bstep ?_ (by assumption)))⟩
  have d2 : decide ((5000 : Int) < (s.size : Int)) = false := decide_eq_false (by omega)
  by_cases h3 : tag.size ≤ 100
  rotate_left
  · have d3 : decide ((100 : Int) < (tag.size : Int)) = true := decide_eq_true (by omega)
    go_enter Tryz.func4, Tryz.ntmps4
    go_wp2_with (go_at_call 11; refine (HS.out _ (Env.keep HE.out (by (repeat (first | exact Below.refl _ _ | assumption | refine Below.drew ?_ | refine balloc ?_ _ | refine bdrewN ?_ _ | refine Below.setCell ?_ (by first | (simp; done) | (simp; omega)) _ | refine bstep ?_ (by assumption)))))).mono ?_; rintro e ws ⟨rfl, hbs⟩)
    go_ret
    exact ⟨rfl, by (repeat (first | exact Below.refl _ _ | assumption | refine Below.drew ?_ | refine balloc ?_ _ | refine bdrewN ?_ _ | refine Below.setCell ?_ (by first | (simp; done) | (simp; omega)) _ | refine bstep ?_ (by assumption)))⟩
  have d3 : decide ((100 : Int) < (tag.size : Int)) = false := decide_eq_false (by omega)
  go_enter Tryz.func4, Tryz.ntmps4
  go_wp2
  go_loopw [7] (fun vi wr => ∃ k : Nat, vi = .int .i64 k ∧ k ≤ n ∧ Hid (∀ x ∈ l.take k, x.size ≤ 100) ∧ Below w.heap.size w wr) (fun i _ => n - (intOf i).toNat)
  case atStart => exact ⟨0, rfl, Nat.zero_le _, Lib.hid (by simp), Below.refl _ _⟩
  case round =>
    obtain ⟨k, rfl, hk, HK, hbr⟩ := hrel
    by_cases hlt : k < n
    · obtain ⟨x, hx⟩ : ∃ x, l[k]? = some x := ⟨_, List.getElem?_eq_getElem (by have := HL.out; omega)⟩
      obtain ⟨b, o, rfl, hcell⟩ := (HR.out.keep hbr).2 (by omega)
      have hc1 : wr.cell? ⟨b, o + k, none⟩ = some (.string x) := hcell k _ (by simp [hx])
      have hk0 : (0 : Int) ≤ (k : Int) := by omega
      have hk1 : (k : Int) < (n : Int) := by omega
      have HX := Lib.hid hx
      clear hcell hx
      by_cases hx1 : x.size ≤ 100
      · have d4 : decide ((100 : Int) < (x.size : Int)) = false := decide_eq_false (by omega)
        have HK2 : Hid (∀ x ∈ l.take (k + 1), x.size ≤ 100) := Lib.hid (by
          rw [List.take_add_one, HX.out]
          intro y hy
          rcases List.mem_append.1 hy with hy | hy
          · exact HK.out y hy
          · rw [show y = x by simpa using (show y ∈ [x] from hy)]; exact hx1)
        clear HK
        go_wp2
        exact ⟨⟨k + 1, by go_num, by omega, HK2, hbr⟩, by simp [intOf]; omega⟩
      · have d4 : decide ((100 : Int) < (x.size : Int)) = true := decide_eq_true (by omega)
        go_wp2_with (go_at_call 11; refine (HS.out _ (Env.keep HE.out (by (repeat (first | exact Below.refl _ _ | assumption | refine Below.drew ?_ | refine balloc ?_ _ | refine bdrewN ?_ _ | refine Below.setCell ?_ (by first | (simp; done) | (simp; omega)) _ | refine bstep ?_ (by assumption)))))).mono ?_; rintro e ws ⟨rfl, hbs⟩)
        go_ret
        exact ⟨rfl, by (repeat (first | exact Below.refl _ _ | assumption | refine Below.drew ?_ | refine balloc ?_ _ | refine bdrewN ?_ _ | refine Below.setCell ?_ (by first | (simp; done) | (simp; omega)) _ | refine bstep ?_ (by assumption)))⟩
    · obtain rfl : k = n := by omega
      have hall : ∀ x ∈ l, x.size ≤ 100 := fun x hx => HK.out x (by rw [List.take_of_length_le (by have := HL.out; omega)]; exact hx)
      have cT := fun W h => tags_any A k c l W h (by have := HL.out; omega) (fun p hp => by have := hall p hp; omega)
      have cRT := fun W h => rTags_any A k c l W h (by omega) (fun p hp => by have := hall p hp; omega)
      have cSP := fun W h => addrSplit_any s W (by omega) h
      have cRS := fun W => rSplitTags_any s W (by omega)
      have cH := fun W h => hasTag_any s tag W (by omega) h
      have cRH := fun W => rHasTag_any s tag W (by omega)
      have hpn : (splitR s).1.length ≤ 1000000 := by have := splitR_len s; omega
      unfold tagsV at cT
      unfold rTagsV at cRT
      rw [rTagsR_eq] at cRT
      have herr := tagsR_err l
      have hTs := tagsR_small l
      obtain ⟨T, er, htr⟩ : ∃ T er, tagsR l = (T, er) := ⟨_, _, rfl⟩
      rw [htr] at cT cRT herr hTs
      generalize splitR s = r at *
      obtain ⟨ps, fe⟩ := r
      generalize hasTagB s tag = hb at *
      dsimp only at *
      have HT := Lib.hid cT; have HRT := Lib.hid cRT; have HSP := Lib.hid cSP; have HRS := Lib.hid cRS; have HH := Lib.hid cH; have HRH := Lib.hid cRH
      have HTR := Lib.hid htr
      have q1 : (T.toList != T.toList) = false := by simp
      have q2 : (hb != hb) = false := by cases hb <;> rfl
      have q3 : (fe != fe) = false := by simp
      clear cT cRT cSP cRS cH cRH htr hall HK
      rcases herr with rfl | rfl | rfl
      · go_wp2_with (first | (go_at_call 19; refine (HT.out _ (HR.out.keep (by (repeat (first | exact Below.refl _ _ | assumption | refine Below.drew ?_ | refine balloc ?_ _ | refine bdrewN ?_ _ | refine Below.setCell ?_ (by first | (simp; done) | (simp; omega)) _ | refine bstep ?_ (by assumption)))))).mono ?_; rintro e w1 ⟨rfl, hb1⟩) | (go_at_call 20; refine (HRT.out _ (HR.out.keep (by (repeat (first | exact Below.refl _ _ | assumption | refine Below.drew ?_ | refine balloc ?_ _ | refine bdrewN ?_ _ | refine Below.setCell ?_ (by first | (simp; done) | (simp; omega)) _ | refine bstep ?_ (by assumption)))))).mono ?_; rintro e w2 ⟨rfl, hb2⟩) | (go_at_call 21; refine (HSP.out _ (Env.keep HE.out (by (repeat (first | exact Below.refl _ _ | assumption | refine Below.drew ?_ | refine balloc ?_ _ | refine bdrewN ?_ _ | refine Below.setCell ?_ (by first | (simp; done) | (simp; omega)) _ | refine bstep ?_ (by assumption)))))).mono ?_; rintro e w3 ⟨hb3, A1, c1, rfl, hR1⟩; have hX3 : ResBox w3 w2.heap.size T _ := Blk.keep (World.alloc_heap_new _ _) hb3) | (go_at_call 22; refine (HRS.out _).mono ?_; rintro e w4 ⟨hb4, A2, c2, rfl, hR2⟩; have hX4 : ResBox w4 w2.heap.size T _ := Blk.keep hX3 hb4; obtain ⟨x0, x1, f0, f1⟩ := hX4.facts; have hz4 : w2.heap.size < w4.heap.size := Blk.lt hX4) | (go_at_call 23; refine (sameList_eq A1 A2 ps.length c1 c2 ps _ (hR1.keep (by (repeat (first | exact Below.refl _ _ | assumption | refine Below.drew ?_ | refine balloc ?_ _ | refine bdrewN ?_ _ | refine Below.setCell ?_ (by first | (simp; done) | (simp; omega)) _ | refine bstep ?_ (by assumption))))) (hR2.keep (by (repeat (first | exact Below.refl _ _ | assumption | refine Below.drew ?_ | refine balloc ?_ _ | refine bdrewN ?_ _ | refine Below.setCell ?_ (by first | (simp; done) | (simp; omega)) _ | refine bstep ?_ (by assumption))))) hpn).mono ?_; rintro e w5 ⟨rfl, hb5⟩; have hY5 : LBox w5 w4.heap.size (.slice A2 ps.length c2) fe := (hb5.block w4.heap.size (by simp)).trans (World.alloc_heap_new _ _); obtain ⟨y0, y1, g0, g1⟩ := hY5.facts) | (go_at_call 24; refine (HH.out _ (Env.keep HE.out (by (repeat (first | exact Below.refl _ _ | assumption | refine Below.drew ?_ | refine balloc ?_ _ | refine bdrewN ?_ _ | refine Below.setCell ?_ (by first | (simp; done) | (simp; omega)) _ | refine bstep ?_ (by assumption)))))).mono ?_; rintro e w6 ⟨rfl, hb6⟩) | (go_at_call 25; refine (HRH.out _).mono ?_; rintro e w7 ⟨rfl, hb7⟩))
        have hbw : Below w.heap.size w w7 := by (repeat (first | exact Below.refl _ _ | assumption | refine Below.drew ?_ | refine balloc ?_ _ | refine bdrewN ?_ _ | refine Below.setCell ?_ (by first | (simp; done) | (simp; omega)) _ | refine bstep ?_ (by assumption)))
        have cST := fun W h => addrSplit_any T W (by omega) h
        have hst := splitR_tags HTR.out
        rw [hst] at cST
        have HST := Lib.hid cST
        clear cST hst
        obtain ⟨wo, rfl⟩ : ∃ wo : World, wo = wr := ⟨_, rfl⟩
        go_loopw [14] (fun vi wz => ∃ j : Nat, vi = .int .i64 j ∧ j ≤ k ∧ Below w.heap.size w wz) (fun i _ => k - (intOf i).toNat)
        case atStart => exact ⟨0, rfl, Nat.zero_le _, hbw⟩
        case round =>
          clear hbr hbw
          obtain ⟨j, rfl, hj, hbr⟩ := hrel
          by_cases hlt2 : j < k
          · obtain ⟨x, hx⟩ : ∃ x, l[j]? = some x := ⟨_, List.getElem?_eq_getElem (by have := HL.out; omega)⟩
            obtain ⟨b, o, rfl, hcell⟩ := (HR.out.keep hbr).2 (by omega)
            have hc1 : wr.cell? ⟨b, o + j, none⟩ = some (.string x) := hcell j _ (by simp [hx])
            have hj0 : (0 : Int) ≤ (j : Int) := by omega
            have hj1 : (j : Int) < (k : Int) := by omega
            have hv := hasTag_tags HTR.out x (List.mem_of_getElem? hx)
            have cX := fun W h => hasTag_any T x W (by omega) h
            rw [hv] at cX
            clear hcell hx
            go_wp2_with (go_at_call 24; refine (cX _ (Env.keep HE.out (by (repeat (first | exact Below.refl _ _ | assumption | refine Below.drew ?_ | refine balloc ?_ _ | refine bdrewN ?_ _ | refine Below.setCell ?_ (by first | (simp; done) | (simp; omega)) _ | refine bstep ?_ (by assumption)))))).mono ?_; rintro e wy ⟨rfl, hby⟩)
            exact ⟨⟨j + 1, by go_num, by omega, by (repeat (first | exact Below.refl _ _ | assumption | refine Below.drew ?_ | refine balloc ?_ _ | refine bdrewN ?_ _ | refine Below.setCell ?_ (by first | (simp; done) | (simp; omega)) _ | refine bstep ?_ (by assumption)))⟩, by simp [intOf]; omega⟩
          · obtain rfl : j = k := by omega
            go_wp2_with (first | (go_at_call 11; refine (HS.out _ (Env.keep HE.out (by (repeat (first | exact Below.refl _ _ | assumption | refine Below.drew ?_ | refine balloc ?_ _ | refine bdrewN ?_ _ | refine Below.setCell ?_ (by first | (simp; done) | (simp; omega)) _ | refine bstep ?_ (by assumption)))))).mono ?_; rintro e ws ⟨rfl, hbs⟩) | (go_at_call 21; refine (HST.out _ (Env.keep HE.out (by (repeat (first | exact Below.refl _ _ | assumption | refine Below.drew ?_ | refine balloc ?_ _ | refine bdrewN ?_ _ | refine Below.setCell ?_ (by first | (simp; done) | (simp; omega)) _ | refine bstep ?_ (by assumption)))))).mono ?_; rintro e wq ⟨hbq, A9, c9, rfl, _⟩))
            go_ret
            exact ⟨rfl, by (repeat (first | exact Below.refl _ _ | assumption | refine Below.drew ?_ | refine balloc ?_ _ | refine bdrewN ?_ _ | refine Below.setCell ?_ (by first | (simp; done) | (simp; omega)) _ | refine bstep ?_ (by assumption)))⟩
      all_goals
        go_wp2_with (first | (go_at_call 19; refine (HT.out _ (HR.out.keep (by (repeat (first | exact Below.refl _ _ | assumption | refine Below.drew ?_ | refine balloc ?_ _ | refine bdrewN ?_ _ | refine Below.setCell ?_ (by first | (simp; done) | (simp; omega)) _ | refine bstep ?_ (by assumption)))))).mono ?_; rintro e w1 ⟨rfl, hb1⟩) | (go_at_call 20; refine (HRT.out _ (HR.out.keep (by (repeat (first | exact Below.refl _ _ | assumption | refine Below.drew ?_ | refine balloc ?_ _ | refine bdrewN ?_ _ | refine Below.setCell ?_ (by first | (simp; done) | (simp; omega)) _ | refine bstep ?_ (by assumption)))))).mono ?_; rintro e w2 ⟨rfl, hb2⟩) | (go_at_call 21; refine (HSP.out _ (Env.keep HE.out (by (repeat (first | exact Below.refl _ _ | assumption | refine Below.drew ?_ | refine balloc ?_ _ | refine bdrewN ?_ _ | refine Below.setCell ?_ (by first | (simp; done) | (simp; omega)) _ | refine bstep ?_ (by assumption)))))).mono ?_; rintro e w3 ⟨hb3, A1, c1, rfl, hR1⟩; have hX3 : ResBox w3 w2.heap.size T _ := Blk.keep (World.alloc_heap_new _ _) hb3) | (go_at_call 22; refine (HRS.out _).mono ?_; rintro e w4 ⟨hb4, A2, c2, rfl, hR2⟩; have hX4 : ResBox w4 w2.heap.size T _ := Blk.keep hX3 hb4; obtain ⟨x0, x1, f0, f1⟩ := hX4.facts; have hz4 : w2.heap.size < w4.heap.size := Blk.lt hX4) | (go_at_call 23; refine (sameList_eq A1 A2 ps.length c1 c2 ps _ (hR1.keep (by (repeat (first | exact Below.refl _ _ | assumption | refine Below.drew ?_ | refine balloc ?_ _ | refine bdrewN ?_ _ | refine Below.setCell ?_ (by first | (simp; done) | (simp; omega)) _ | refine bstep ?_ (by assumption))))) (hR2.keep (by (repeat (first | exact Below.refl _ _ | assumption | refine Below.drew ?_ | refine balloc ?_ _ | refine bdrewN ?_ _ | refine Below.setCell ?_ (by first | (simp; done) | (simp; omega)) _ | refine bstep ?_ (by assumption))))) hpn).mono ?_; rintro e w5 ⟨rfl, hb5⟩; have hY5 : LBox w5 w4.heap.size (.slice A2 ps.length c2) fe := (hb5.block w4.heap.size (by simp)).trans (World.alloc_heap_new _ _); obtain ⟨y0, y1, g0, g1⟩ := hY5.facts) | (go_at_call 24; refine (HH.out _ (Env.keep HE.out (by (repeat (first | exact Below.refl _ _ | assumption | refine Below.drew ?_ | refine balloc ?_ _ | refine bdrewN ?_ _ | refine Below.setCell ?_ (by first | (simp; done) | (simp; omega)) _ | refine bstep ?_ (by assumption)))))).mono ?_; rintro e w6 ⟨rfl, hb6⟩) | (go_at_call 25; refine (HRH.out _).mono ?_; rintro e w7 ⟨rfl, hb7⟩) | (go_at_call 11; refine (HS.out _ (Env.keep HE.out (by (repeat (first | exact Below.refl _ _ | assumption | refine Below.drew ?_ | refine balloc ?_ _ | refine bdrewN ?_ _ | refine Below.setCell ?_ (by first | (simp; done) | (simp; omega)) _ | refine bstep ?_ (by assumption)))))).mono ?_; rintro e ws ⟨rfl, hbs⟩))
        go_ret
        exact ⟨rfl, by (repeat (first | exact Below.refl _ _ | assumption | refine Below.drew ?_ | refine balloc ?_ _ | refine bdrewN ?_ _ | refine Below.setCell ?_ (by first | (simp; done) | (simp; omega)) _ | refine bstep ?_ (by assumption)))⟩

end Go.Proofs.YtiglpecjpncclaaGreatDoor
