/- What the specification's Compile and Valid return. -/
import Derived.Test.YtocgkpdolgnbgaaGreatDoorPGF
import Derived.Test.YtocgkpdolgnbgaaGreatDoorPComp
import Derived.Deep.RegionHeldLaw
import Derived.Deep.RegionLaw
import Derived.Test.YtocgkpdolgnbgaaGreatDoorProg
import Derived.WalkKit
import Derived.WalkSpells
import Derived.WalkLawsBesides
import Derived.Below
import Derived.Deep.QuietTactic
import Derived.BigQuiet
import Derived.Lib.QuietBelow
import Derived.Lib.Strings
import Derived.Lib.Hide
import Derived.Deep.RegionWith
import Derived.Deep.RegionHeld3
import Derived.Lib.IndexBytes
namespace Go.Proofs.YtocgkpdolgnbgaaGreatDoor
open Go.RowKit Go.Sort
set_option linter.unusedVariables false
set_option linter.unusedSimpArgs false
set_option maxRecDepth 100000
def PatBox (w : World) (g : Nat) (c : ByteArray) (v : Value) (b : Bool) : Prop := Blk w g 138 #[.string c, v, .bool b] (0, 0)
theorem PatBox.facts {w : World} {g : Nat} {c : ByteArray} {v : Value} {b : Bool} (h : PatBox w g c v b) :
    w.cell? ⟨g, 0, none⟩ = some (.string c) ∧ w.cell? ⟨g, 1, none⟩ = some v ∧ w.cell? ⟨g, 2, none⟩ = some (.bool b) ∧ w.frozen? ⟨g, 0, none⟩ = false ∧ w.frozen? ⟨g, 1, none⟩ = false ∧ w.frozen? ⟨g, 2, none⟩ = false :=
  ⟨Blk.cell h 0, Blk.cell h 1, Blk.cell h 2, blk_free0 h 0, blk_free0 h 1, blk_free0 h 2⟩
def RCompPost (r : Option Pat) (w : World) (e : Ending) (w' : World) : Prop :=
  Below w.heap.size w w' ∧ match r with
  | none => e = .returned (.tuple #[.agg #[.string ⟨#[]⟩, .slice none 0 0, .bool false], .bool false])
  | some x => ∃ A c, e = .returned (.tuple #[.agg #[.string (strP x.cust), .slice A x.parts.length c, .bool x.tail], .bool true]) ∧ Reads w' 1 A x.parts.length ((strL x.parts).map .string)
theorem strL_snoc (acc : List Part) (w : ByteArray) (h : partOkB w = true) : strL (acc ++ [partOfP w]) = strL acc ++ [w] := by
  unfold strL
  rw [List.map_append, List.map_singleton, str_part h]
set_option maxHeartbeats 4000000 in
theorem rCompile_any (s : ByteArray) (w : World) (hs : s.size ≤ 100000) : Calls Tryz.prog 105 #[.string s] w (RCompPost (compileB s) w) := by
  have cS := fun W => rSplit_any s 47 W (by omega)
  have hsz := splitB_size 47 s
  have hnum := splitB_num 47 s
  have hne : splitB 47 s ≠ [] := by
    intro h
    have := congrArg List.length h
    unfold splitB at this
    rw [List.length_map] at this
    exact splitL_ne 47 s.data.toList (List.eq_nil_of_length_eq_zero this)
  unfold compileB
  generalize splitB 47 s = l at *
  obtain ⟨l0, r, rfl⟩ := List.exists_cons_of_ne_nil hne
  have hl0 : l0.size ≤ 100000 := Nat.le_trans (hsz l0 (by simp)) hs
  have cN := fun W => rName_any l0 W (by omega)
  obtain ⟨m, hm⟩ : ∃ m, m = r.length := ⟨_, rfl⟩
  have HS : Hid (∀ W, Calls Tryz.prog 138 #[.string s, .int .u8 47] W (fun e w' => ∃ A c, e = .returned (.slice A (m + 1) c) ∧ w'.ownsRow W.heap.size 9 1 (.slice A (m + 1) c) (m + 1) ((l0 :: r).map .string) ∧ Below W.heap.size W w')) := Lib.hid (by rw [hm]; exact cS)
  have HN := Lib.hid cN
  have HM := Lib.hid hm
  have hm9 : m ≤ 100001 := by rw [hm]; simp at hnum; omega
  have hv : compL (l0 :: r) = if decide (m ≤ 32) && headOkB l0 then (cmpL r []).map fun x => ⟨partOfP l0, x.1, x.2⟩ else none := by rw [compL_cons, hm]
  have hn0 : (0 : Int) < (m : Int) + 1 := by omega
  generalize hV : RCompPost (compL (l0 :: r)) w = V
  have HV := Lib.hid hV
  have HSZ : Hid (∀ p ∈ r, p.size ≤ 100000) := Lib.hid (fun p hp => Nat.le_trans (hsz p (by simp [hp])) hs)
  obtain ⟨i0, hi0, hz0, hz1, hz2⟩ := info_parts infoStr
  have HI : Hid ((Tryz.prog.info? 9 = some i0) ∧ i0.zero = some (.string ⟨#[]⟩) ∧ i0.size = 1 ∧ i0.bytes = 16) := Lib.hid ⟨hi0, hz0, hz1, hz2⟩
  clear hne cS cN hm hsz hnum hV hi0 hz0 hz1 hz2
  cases hho : headOkB l0
  · have HNO : Hid (compL (l0 :: r) = none) := Lib.hid (by rw [hv, hho]; simp)
    unfold headOkB at hho
    simp only [Bool.or_eq_false_iff] at hho
    obtain ⟨h1, h2⟩ := hho
    have h1' : ¬ l0.toList = [42] := by simpa using h1
    rw [h2] at HN
    clear h2 hv
    go_enter Tryz.func105, Tryz.ntmps105
    go_wp2_with (first | (go_at_call 138; refine (HS.out _).mono ?_; rintro e w1 ⟨A, c, rfl, hown, hb1⟩; have hX1 : PatBox w1 w.heap.size ⟨#[]⟩ (.slice none 0 0) false := Blk.keep (World.alloc_heap_new _ _) hb1; obtain ⟨pb, po, u, rfl, hu, g0⟩ := (Reads.of_own hown).at_ (k := 0) (by omega); (obtain rfl : u = .string l0 := (by simpa using hu.symm)); clear hu; have gg : w1.cell? ⟨pb, po, none⟩ = some (.string l0) := g0; clear g0; have hR1 := Reads.of_own hown; clear hown; obtain ⟨x0, x1, x2, f0, f1, f2⟩ := hX1.facts; have hz1 : w.heap.size < w1.heap.size := Blk.lt hX1) | (go_at_call 76; refine (HN.out _).mono ?_; rintro e w2 ⟨rfl, hb2⟩; have hX2 : PatBox w2 w.heap.size ⟨#[]⟩ (.slice none 0 0) false := Blk.keep hX1 hb2; have gg2 := cell_keep hb2 gg; have hR2 := hR1.keep hb2; clear x0 x1 x2 f0 f1 f2; obtain ⟨x0, x1, x2, f0, f1, f2⟩ := hX2.facts; have hz2 : w.heap.size < w2.heap.size := Blk.lt hX2))
    rw [← HV.out, HNO.out]
    exact bodyPost_ret (v := .tuple #[.agg #[.string ⟨#[]⟩, .slice none 0 0, .bool false], .bool false]) (by simp [results, Tryz.results105, go_sem, hz2, x0, x1, x2, f0, f1, f2]) rfl ⟨by (repeat (first | exact .refl _ _ | assumption | refine .drew ?_ | refine balloc ?_ _ | refine bdrewN ?_ _ | refine .setCell ?_ (by simp <;> omega) _ | refine bstep ?_ (by assumption))), rfl⟩
  have hho2 : ((l0.toList == [42]) = true ∧ l0.toList = [42]) ∨ ((l0.toList == [42]) = false ∧ ¬ l0.toList = [42] ∧ isNameB l0 = true) := by
    have hho' := hho
    unfold headOkB at hho'
    cases h : (l0.toList == [42])
    · right; exact ⟨rfl, by simpa using h, by simpa [h] using hho'⟩
    · left; exact ⟨rfl, by simpa using h⟩
  by_cases hbig : m ≤ 32
  rotate_left
  · have HNO : Hid (compL (l0 :: r) = none) := Lib.hid (by rw [hv]; simp [hbig])
    have hd : decide ((32 : Int) < (m : Int)) = true := by simp; omega
    clear hv hho
    rcases hho2 with ⟨h1, h1'⟩ | ⟨h1, h1', h2⟩
    · go_enter Tryz.func105, Tryz.ntmps105
      go_wp2_with (first | (go_at_call 138; refine (HS.out _).mono ?_; rintro e w1 ⟨A, c, rfl, hown, hb1⟩; have hX1 : PatBox w1 w.heap.size ⟨#[]⟩ (.slice none 0 0) false := Blk.keep (World.alloc_heap_new _ _) hb1; obtain ⟨pb, po, u, rfl, hu, g0⟩ := (Reads.of_own hown).at_ (k := 0) (by omega); (obtain rfl : u = .string l0 := (by simpa using hu.symm)); clear hu; have gg : w1.cell? ⟨pb, po, none⟩ = some (.string l0) := g0; clear g0; have hR1 := Reads.of_own hown; clear hown; obtain ⟨x0, x1, x2, f0, f1, f2⟩ := hX1.facts; have hz1 : w.heap.size < w1.heap.size := Blk.lt hX1) | (go_at_call 76; refine (HN.out _).mono ?_; rintro e w2 ⟨rfl, hb2⟩; have hX2 : PatBox w2 w.heap.size ⟨#[]⟩ (.slice none 0 0) false := Blk.keep hX1 hb2; have gg2 := cell_keep hb2 gg; have hR2 := hR1.keep hb2; clear x0 x1 x2 f0 f1 f2; obtain ⟨x0, x1, x2, f0, f1, f2⟩ := hX2.facts; have hz2 : w.heap.size < w2.heap.size := Blk.lt hX2))
      rw [← HV.out, HNO.out]
      exact bodyPost_ret (v := .tuple #[.agg #[.string ⟨#[]⟩, .slice none 0 0, .bool false], .bool false]) (by simp [results, Tryz.results105, go_sem, hz1, x0, x1, x2, f0, f1, f2]) rfl ⟨by (repeat (first | exact .refl _ _ | assumption | refine .drew ?_ | refine balloc ?_ _ | refine bdrewN ?_ _ | refine .setCell ?_ (by simp <;> omega) _ | refine bstep ?_ (by assumption))), rfl⟩
    · rw [h2] at HN
      go_enter Tryz.func105, Tryz.ntmps105
      go_wp2_with (first | (go_at_call 138; refine (HS.out _).mono ?_; rintro e w1 ⟨A, c, rfl, hown, hb1⟩; have hX1 : PatBox w1 w.heap.size ⟨#[]⟩ (.slice none 0 0) false := Blk.keep (World.alloc_heap_new _ _) hb1; obtain ⟨pb, po, u, rfl, hu, g0⟩ := (Reads.of_own hown).at_ (k := 0) (by omega); (obtain rfl : u = .string l0 := (by simpa using hu.symm)); clear hu; have gg : w1.cell? ⟨pb, po, none⟩ = some (.string l0) := g0; clear g0; have hR1 := Reads.of_own hown; clear hown; obtain ⟨x0, x1, x2, f0, f1, f2⟩ := hX1.facts; have hz1 : w.heap.size < w1.heap.size := Blk.lt hX1) | (go_at_call 76; refine (HN.out _).mono ?_; rintro e w2 ⟨rfl, hb2⟩; have hX2 : PatBox w2 w.heap.size ⟨#[]⟩ (.slice none 0 0) false := Blk.keep hX1 hb2; have gg2 := cell_keep hb2 gg; have hR2 := hR1.keep hb2; clear x0 x1 x2 f0 f1 f2; obtain ⟨x0, x1, x2, f0, f1, f2⟩ := hX2.facts; have hz2 : w.heap.size < w2.heap.size := Blk.lt hX2))
      rw [← HV.out, HNO.out]
      exact bodyPost_ret (v := .tuple #[.agg #[.string ⟨#[]⟩, .slice none 0 0, .bool false], .bool false]) (by simp [results, Tryz.results105, go_sem, hz2, x0, x1, x2, f0, f1, f2]) rfl ⟨by (repeat (first | exact .refl _ _ | assumption | refine .drew ?_ | refine balloc ?_ _ | refine bdrewN ?_ _ | refine .setCell ?_ (by simp <;> omega) _ | refine bstep ?_ (by assumption))), rfl⟩
  have hd : decide ((32 : Int) < (m : Int)) = false := by simp; omega
  have hv2 : compL (l0 :: r) = (cmpL r []).map fun x => ⟨partOfP l0, x.1, x.2⟩ := by rw [hv, hho]; simp [hbig]
  have hst : strP (partOfP l0) = l0 := str_head hho
  have HV2 := Lib.hid hv2
  have HST := Lib.hid hst
  clear hv hho hv2 hst
  rcases hho2 with ⟨h1, h1'⟩ | ⟨h1, h1', h2⟩
  rotate_left
  rw [h2] at HN; clear h2
  rotate_left
  all_goals
    go_enter Tryz.func105, Tryz.ntmps105
    go_wp2_with (first | (go_at_call 138; refine (HS.out _).mono ?_; rintro e w1 ⟨A, c, rfl, hown, hb1⟩; have hX1 : PatBox w1 w.heap.size ⟨#[]⟩ (.slice none 0 0) false := Blk.keep (World.alloc_heap_new _ _) hb1; obtain ⟨pb, po, u, rfl, hu, g0⟩ := (Reads.of_own hown).at_ (k := 0) (by omega); (obtain rfl : u = .string l0 := (by simpa using hu.symm)); clear hu; have gg : w1.cell? ⟨pb, po, none⟩ = some (.string l0) := g0; clear g0; have hR1 := Reads.of_own hown; clear hown; obtain ⟨x0, x1, x2, f0, f1, f2⟩ := hX1.facts; have hz1 : w.heap.size < w1.heap.size := Blk.lt hX1) | (go_at_call 76; refine (HN.out _).mono ?_; rintro e w2 ⟨rfl, hb2⟩; have hX2 : PatBox w2 w.heap.size ⟨#[]⟩ (.slice none 0 0) false := Blk.keep hX1 hb2; have gg2 := cell_keep hb2 gg; have hR2 := hR1.keep hb2; clear x0 x1 x2 f0 f1 f2; obtain ⟨x0, x1, x2, f0, f1, f2⟩ := hX2.facts; have hz2 : w.heap.size < w2.heap.size := Blk.lt hX2))
  rotate_left
  have hX1' := hX2
  have hbA : Below w.heap.size w w2 := by (repeat (first | exact .refl _ _ | assumption | refine .drew ?_ | refine balloc ?_ _ | refine bdrewN ?_ _ | refine .setCell ?_ (by simp <;> omega) _ | refine bstep ?_ (by assumption)))
  clear hX1 hR1 gg hb1 hb2
  rotate_left
  obtain ⟨w2, rfl⟩ : ∃ x : World, x = w1 := ⟨_, rfl⟩
  have hX1' := hX1
  have hR2 := hR1
  have gg2 := gg
  have hz2 := hz1
  have hbA : Below w.heap.size w w2 := by (repeat (first | exact .refl _ _ | assumption | refine .drew ?_ | refine balloc ?_ _ | refine bdrewN ?_ _ | refine .setCell ?_ (by simp <;> omega) _ | refine bstep ?_ (by assumption)))
  clear hX1 hR1 gg hb1
  all_goals
    clear x0 x1 x2 f0 f1 f2
    have HRd := Lib.hid hR2
    have hpb : pb < w2.heap.size := cell_lt gg2
    have hB0 : PatBox (w2.alloc (.cells #[.string l0, .slice none 0 0, .bool false] 138)) w2.heap.size l0 (.slice none 0 0) false := World.alloc_heap_new _ _
    have hP0 : PatBox (w2.alloc (.cells #[.string l0, .slice none 0 0, .bool false] 138)) w.heap.size ⟨#[]⟩ (.slice none 0 0) false := (Below.heap_alloc _ _ _ hz2).trans hX1'
    clear hR2 gg2 hX1'
    go_loopw [6] (fun vi wr => ∃ (k : Nat) (acc : List Part) (A' : Option Addr) (c' : Nat) (tl : Bool), (vi = .int .i64 ((k : Int) + 1) ∧ k ≤ m ∧ acc.length ≤ k) ∧ Hid (CmpI r k acc tl) ∧ PatBox wr w2.heap.size l0 (.slice A' acc.length c') tl ∧ PatBox wr w.heap.size ⟨#[]⟩ (.slice none 0 0) false ∧
        wr.ownsRow (w2.heap.size + 1) 9 1 (.slice A' acc.length c') acc.length ((strL acc).map .string) ∧ Below w.heap.size w wr ∧ (∀ j, j < w2.heap.size → wr.heap[j]? = w2.heap[j]?) ∧ w2.heap.size + 1 ≤ wr.heap.size) (fun vi _ => m + 1 - (intOf vi).toNat)
    case atStart => exact ⟨0, [], none, 0, false, ⟨rfl, Nat.zero_le _, Nat.le_refl _⟩, Lib.hid (.inl ⟨rfl, by simp⟩), hB0, hP0, World.ownsRow_nil _ _ _ _, by (repeat (first | exact .refl _ _ | assumption | refine .drew ?_ | refine balloc ?_ _ | refine bdrewN ?_ _ | refine .setCell ?_ (by simp <;> omega) _ | refine bstep ?_ (by assumption))), fun j hj => Below.heap_alloc _ _ _ hj, by simp⟩
    case round =>
      clear hB0 hP0
      obtain ⟨k, acc, A', c', tl, ⟨rfl, hk, hak⟩, HC, hB, hP, hown, hbw, hFr, hzr⟩ := hrel
      obtain ⟨x0, x1, x2, f0, f1, f2⟩ := hP.facts
      obtain ⟨y0, y1, y2, g0, g1, g2⟩ := hB.facts
      by_cases hlt : k < m
      · obtain ⟨p, hp⟩ : ∃ p, r[k]? = some p := ⟨_, List.getElem?_eq_getElem (by have := HM.out; omega)⟩
        have hps := HSZ.out p (List.mem_of_getElem? hp)
        have hcell : wr.cell? ⟨pb, po + (k + 1), none⟩ = some (.string p) := by
          obtain ⟨b', o', e', hc'⟩ := HRd.out.2 (by omega)
          injection e' with e'; injection e' with e1 e2; subst e1; subst e2
          have := hc' (k + 1) (.string p) (by simp [hp])
          exact (World.cell?_of_block (hFr pb hpb)).trans this
        obtain ⟨rfl, hcmp⟩ : tl = false ∧ cmpL r [] = cmpL (r.drop k) acc := by
          rcases HC.out with h | ⟨_, h, _⟩
          · exact h
          · exfalso; have := HM.out; omega
        have hd2 : r.drop k = p :: r.drop (k + 1) := by
          obtain ⟨hl2, rfl⟩ := List.getElem?_eq_some_iff.1 hp
          exact List.drop_eq_getElem_cons hl2
        rw [hd2, cmpL] at hcmp
        have hemp : (r.drop (k + 1)).isEmpty = decide (k + 1 = m) := by
          have := HM.out
          by_cases h : k + 1 = m
          · rw [List.drop_eq_nil_of_le (by omega)]; simp [h]
          · simp [h]; omega
        rw [hemp] at hcmp
        have hk0 : (0 : Int) ≤ (k : Int) + 1 := by omega
        have hkm : (k : Int) + 1 < (m : Int) + 1 := by omega
        clear hd2 hemp hp HC HRd
        have cP := fun W => rPart_any p W (by omega)
        rw [part_ok] at cP
        cases h2s : (p.toList == [42, 42])
        · simp only [h2s, Bool.false_and, Bool.false_eq_true, if_false] at hcmp
          cases hok : partOkB p
          · have HNO : Hid (cmpL r [] = none) := Lib.hid (by rw [hcmp, hok]; rfl)
            rw [hok] at cP
            have HP := Lib.hid cP
            clear hcmp cP hok
            go_wp2_with (go_at_call 139; refine (HP.out _).mono ?_; rintro e w4 ⟨rfl, hb4⟩; have hP4 : PatBox w4 w.heap.size ⟨#[]⟩ (.slice none 0 0) false := Blk.keep hP hb4; have hB4 : PatBox w4 w2.heap.size l0 (.slice A' acc.length c') false := Blk.keep hB hb4; have hown4 := ownsRow_keep hown hb4; have hbw4 := bstep hbw hb4; have hFr4 : ∀ j, j < w2.heap.size → w4.heap[j]? = w2.heap[j]? := (fun j q1 => (hb4.block j (by omega)).trans (hFr j q1)); have hzr4 : w2.heap.size + 1 ≤ w4.heap.size := Nat.le_trans hzr hb4.size; have hcell4 := cell_keep hb4 hcell; clear x0 x1 x2 f0 f1 f2 y0 y1 y2 g0 g1 g2; obtain ⟨x0, x1, x2, f0, f1, f2⟩ := hP4.facts; obtain ⟨y0, y1, y2, g0, g1, g2⟩ := hB4.facts)
            rw [← HV.out, HV2.out, HNO.out]
            exact bodyPost_ret (v := .tuple #[.agg #[.string ⟨#[]⟩, .slice none 0 0, .bool false], .bool false]) (by simp [results, Tryz.results105, go_sem, hz2, x0, x1, x2, f0, f1, f2]) rfl ⟨by (repeat (first | exact .refl _ _ | assumption | refine .drew ?_ | refine balloc ?_ _ | refine bdrewN ?_ _ | refine .setCell ?_ (by simp <;> omega) _ | refine bstep ?_ (by assumption))), rfl⟩
          · have HSO : Hid (cmpL r [] = cmpL (r.drop (k + 1)) (acc ++ [partOfP p])) := Lib.hid (by rw [hcmp, hok]; rfl)
            have HSL := Lib.hid (strL_snoc acc p hok)
            rw [hok] at cP
            have HP := Lib.hid cP
            clear hcmp cP hok
            go_wp2_with (go_at_call 139; refine (HP.out _).mono ?_; rintro e w4 ⟨rfl, hb4⟩; have hP4 : PatBox w4 w.heap.size ⟨#[]⟩ (.slice none 0 0) false := Blk.keep hP hb4; have hB4 : PatBox w4 w2.heap.size l0 (.slice A' acc.length c') false := Blk.keep hB hb4; have hown4 := ownsRow_keep hown hb4; have hbw4 := bstep hbw hb4; have hFr4 : ∀ j, j < w2.heap.size → w4.heap[j]? = w2.heap[j]? := (fun j q1 => (hb4.block j (by omega)).trans (hFr j q1)); have hzr4 : w2.heap.size + 1 ≤ w4.heap.size := Nat.le_trans hzr hb4.size; have hcell4 := cell_keep hb4 hcell; clear x0 x1 x2 f0 f1 f2 y0 y1 y2 g0 g1 g2; obtain ⟨x0, x1, x2, f0, f1, f2⟩ := hP4.facts; obtain ⟨y0, y1, y2, g0, g1, g2⟩ := hB4.facts)
            have hown4d : w4.drew.ownsRow (w2.heap.size + 1) 9 1 (.slice A' acc.length c') acc.length ((strL acc).map .string) := hown4
            have y1d : w4.drew.cell? ⟨w2.heap.size, 1, none⟩ = some (.slice A' acc.length c') := y1
            have hcd : w4.drew.cell? ⟨pb, po + (k + 1), none⟩ = some (.string p) := hcell4
            have hzz : w2.heap.size < w4.heap.size := by omega
            have hzp : pb < w4.heap.size := by omega
            have y1e : (w4.alloc (.cells #[.string p] 9)).cell? ⟨w2.heap.size, 1, none⟩ = some (.slice A' acc.length c') := (World.cell?_of_block (Below.heap_alloc w4 _ _ hzz)).trans y1
            go_region_law ((refine step_append_lies _ (by rfl) _ _ _ (by rfl) (w2.heap.size + 1) 9 i0 (.string ⟨#[]⟩) 1 16 Tryz.underlying22 HI.out.1 HI.out.2.1 HI.out.2.2.1 HI.out.2.2.2 (by rfl) (by omega) (.slice A' acc.length c') acc.length ((strL acc).map .string) (by rfl) (hown4d.alloc _) ⟨w4.heap.size, 0, none⟩ 1 1 [.string p] (by rfl) (by rfl) (World.news_of_block (cs := #[.string p]) (t := 9) (fr := (0, 0)) (World.alloc_heap_new w4.drew _)) (by simp [Value.oneCell']) (by omega) (by unfold maxLen; omega) (by omega) (by simp; omega) (w4.heap.size + 1) (by simp) ?_; intro gg cap w7 hown7 hgrow hat hlt7; have hB7 : PatBox w7 w2.heap.size l0 (.slice A' acc.length c') false := (hgrow.block w2.heap.size (by simp; omega) (fun e => by have := ownsRow_block hown4 _ e.symm; omega)).trans ((Below.heap_alloc w4.drew _ w2.heap.size (show w2.heap.size < w4.heap.size by omega)).trans hB4); clear y0 y1 y2 g0 g1 g2; obtain ⟨y0, y1, y2, g0, g1, g2⟩ := hB7.facts))
            all_goals go_wp2
            all_goals
              have hal : (acc ++ [partOfP p]).length = acc.length + 1 := by simp
              have hb7 : Below w.heap.size w w7 := ((Below.drew hbw4).alloc hbw4.size _).grown hgrow (by have := hbw4.size; simp; omega) (fun r e => by have := ownsRow_block hown4 r e; omega)
              have hP7 : PatBox w7 w.heap.size ⟨#[]⟩ (.slice none 0 0) false := (hgrow.block w.heap.size (by simp; omega) (fun e => by have := ownsRow_block hown4 _ e.symm; omega)).trans ((Below.heap_alloc w4.drew _ _ (show w.heap.size < w4.heap.size by omega)).trans hP4)
              refine ⟨⟨k + 1, acc ++ [partOfP p], some ⟨gg, 0, none⟩, cap, false, ⟨by go_num, by omega, by simp; omega⟩, Lib.hid (.inl ⟨rfl, HSO.out⟩), by rw [hal]; exact Blk.set_ hB7 1 _, (Below.heap_setCell _ _ _ _ (by simp; omega)).trans hP7, by rw [hal, HSL.out, List.map_append]; exact ownsRow_same hown7 (fun j hj => Below.heap_setCell _ _ _ _ (by simp; omega)), hb7.setCell (p := ⟨w2.heap.size, 1, none⟩) (by simp; omega) _, fun j q1 => (Below.heap_setCell _ _ _ _ (by simp; omega)).trans ((hgrow.block j (by simp; omega) (fun e => by have := ownsRow_block hown4 _ e.symm; omega)).trans ((Below.heap_alloc w4.drew _ j (show j < w4.heap.size by omega)).trans (hFr4 j q1))), by have := hgrow.size; simp [World.setCell] at this ⊢; omega⟩, by simp [intOf]; omega⟩
        · obtain rfl : p = ⟨#[42, 42]⟩ := bytes_ext (by rw [← Lib.toList_data]; simpa using h2s)
          by_cases hlast : k + 1 = m
          · obtain rfl : m = k + 1 := hlast.symm
            have hlb : ((k : Int) + 1 == ((k + 1 : Nat) : Int)) = true := by simp
            rw [h2s, show decide (k + 1 = k + 1) = true by simp] at hcmp
            simp only [Bool.and_self, if_true] at hcmp
            have HH := Lib.hid hcmp
            clear hcmp cP
            go_wp2
            exact ⟨⟨k + 1, acc, A', c', true, ⟨by go_num, by omega, by omega⟩, Lib.hid (.inr ⟨rfl, HM.out, HH.out⟩), Blk.set_ hB 2 (.bool true), (Below.heap_setCell _ _ _ _ (by first | (simp; done) | (simp; omega))).trans hP, ownsRow_same hown (fun j hj => Below.heap_setCell _ _ _ _ (by first | (simp; done) | (simp; omega))), hbw.setCell (p := ⟨w2.heap.size, 2, none⟩) (by first | (simp; done) | (simp; omega)) _,
              fun j q1 => (Below.heap_setCell _ _ _ _ (by first | (simp; done) | (simp; omega))).trans (hFr j q1), by first | (simp [World.setCell]; done) | (simp [World.setCell]; omega)⟩, by simp [intOf]; omega⟩
          · have hlb : ((k : Int) + 1 == (m : Int)) = false := by simp; omega
            have HNO : Hid (cmpL r [] = none) := Lib.hid (by rw [hcmp, show decide (k + 1 = m) = false by simpa using hlast, partOk_stars]; simp)
            rw [partOk_stars] at cP
            have HP := Lib.hid cP
            clear hcmp cP
            go_wp2_with (go_at_call 139; refine (HP.out _).mono ?_; rintro e w4 ⟨rfl, hb4⟩; have hP4 : PatBox w4 w.heap.size ⟨#[]⟩ (.slice none 0 0) false := Blk.keep hP hb4; have hB4 : PatBox w4 w2.heap.size l0 (.slice A' acc.length c') false := Blk.keep hB hb4; have hown4 := ownsRow_keep hown hb4; have hbw4 := bstep hbw hb4; have hFr4 : ∀ j, j < w2.heap.size → w4.heap[j]? = w2.heap[j]? := (fun j q1 => (hb4.block j (by omega)).trans (hFr j q1)); have hzr4 : w2.heap.size + 1 ≤ w4.heap.size := Nat.le_trans hzr hb4.size; have hcell4 := cell_keep hb4 hcell; clear x0 x1 x2 f0 f1 f2 y0 y1 y2 g0 g1 g2; obtain ⟨x0, x1, x2, f0, f1, f2⟩ := hP4.facts; obtain ⟨y0, y1, y2, g0, g1, g2⟩ := hB4.facts)
            rw [← HV.out, HV2.out, HNO.out]
            exact bodyPost_ret (v := .tuple #[.agg #[.string ⟨#[]⟩, .slice none 0 0, .bool false], .bool false]) (by simp [results, Tryz.results105, go_sem, hz2, x0, x1, x2, f0, f1, f2]) rfl ⟨by (repeat (first | exact .refl _ _ | assumption | refine .drew ?_ | refine balloc ?_ _ | refine bdrewN ?_ _ | refine .setCell ?_ (by simp <;> omega) _ | refine bstep ?_ (by assumption))), rfl⟩
      · obtain rfl : k = m := by omega
        have HE : Hid (cmpL r [] = some (acc, tl)) := Lib.hid (by
          rcases HC.out with ⟨h, e⟩ | ⟨h, _, e⟩
          · rw [e, h, HM.out, List.drop_eq_nil_of_le (Nat.le_refl _), cmpL]
          · rw [e, h])
        have hob : ∀ a, A' = some a → a.block ≠ w.heap.size := fun a ha => by have := ownsRow_block hown a.block (by rw [ha]; rfl); omega
        have hRr := Reads.of_own hown
        clear HC
        go_wp2
        rw [← HV.out, HV2.out, HE.out]
        exact bodyPost_ret (v := .tuple #[.agg #[.string l0, .slice A' acc.length c', .bool tl], .bool true]) (by simp [results, Tryz.results105, go_sem, hz2, x0, x1, x2, f0, f1, f2]) rfl ⟨by (repeat (first | exact .refl _ _ | assumption | refine .drew ?_ | refine balloc ?_ _ | refine bdrewN ?_ _ | refine .setCell ?_ (by simp <;> omega) _ | refine bstep ?_ (by assumption))), A', c', by rw [HST.out], (((hRr.set_ _ _ hob).set_ _ _ hob).set_ _ _ hob)⟩
end Go.Proofs.YtocgkpdolgnbgaaGreatDoor
