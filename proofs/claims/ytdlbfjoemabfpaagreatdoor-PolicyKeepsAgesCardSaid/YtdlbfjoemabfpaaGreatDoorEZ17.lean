/- What the specification's Compile and Valid return. -/
import Derived.Test.YtdlbfjoemabfpaaGreatDoorEZ16
import Derived.Test.YtdlbfjoemabfpaaGreatDoorEZ10
import Derived.Deep.RegionHeldLaw
import Derived.Deep.RegionLaw
import Derived.Test.YtdlbfjoemabfpaaGreatDoorProg
import Derived.WalkKit
import Derived.WalkSpells
import Derived.WalkLawsBesides
import Derived.Below
import Derived.Deep.QuietTactic
import Derived.BigQuiet
import Derived.Lib.QuietBelow
import Derived.Lib.Strings
import Derived.Lib.Hide
import Derived.Deep.RegionWith
import Derived.Deep.RegionHeld3
import Derived.Lib.IndexBytes
import Derived.Test.YtdlbfjoemabfpaaGreatDoorEZ12
import Derived.Test.YtdlbfjoemabfpaaGreatDoorEZ13
namespace Go.Proofs.YtdlbfjoemabfpaaGreatDoor
open Go.RowKit Go.Sort
set_option linter.unusedVariables false
set_option linter.unusedSimpArgs false
set_option maxRecDepth 100000
def PatBox (w : World) (g : Nat) (c : ByteArray) (v : Value) (b : Bool) : Prop := Blk w g 112 #[.string c, v, .bool b] (0, 0)
theorem PatBox.facts {w : World} {g : Nat} {c : ByteArray} {v : Value} {b : Bool} (h : PatBox w g c v b) :
    w.cell? ⟨g, 0, none⟩ = some (.string c) ∧ w.cell? ⟨g, 1, none⟩ = some v ∧ w.cell? ⟨g, 2, none⟩ = some (.bool b) ∧ w.frozen? ⟨g, 0, none⟩ = false ∧ w.frozen? ⟨g, 1, none⟩ = false ∧ w.frozen? ⟨g, 2, none⟩ = false :=
  ⟨Blk.cell h 0, Blk.cell h 1, Blk.cell h 2, blk_free0 h 0, blk_free0 h 1, blk_free0 h 2⟩
def RCompPost (r : Option Pat) (w : World) (e : Ending) (w' : World) : Prop :=
  Below w.heap.size w w' ∧ match r with
  | none => e = .returned (.tuple #[.agg #[.string ⟨#[]⟩, .slice none 0 0, .bool false], .bool false])
  | some x => ∃ A c, e = .returned (.tuple #[.agg #[.string (strP x.cust), .slice A x.parts.length c, .bool x.tail], .bool true]) ∧ Reads w' 1 A x.parts.length ((strL x.parts).map .string)
theorem strL_snoc (acc : List Part) (w : ByteArray) (h : partOkB w = true) : strL (acc ++ [partOfP w]) = strL acc ++ [w] := by
  unfold strL
  rw [List.map_append, List.map_singleton, str_part h]
set_option maxHeartbeats 4000000 in
theorem rCompile_any (s : ByteArray) (w : World) (hs : s.size ≤ 100000) : Calls Tryz.prog 92 #[.string s] w (RCompPost (compileB s) w) := by
  have cS := fun W => rSplit_any s 47 W (by omega)
  have hsz := splitB_size 47 s
  have hnum := splitB_num 47 s
  have hne : splitB 47 s ≠ [] := by
    intro h
    have := congrArg List.length h
    unfold splitB at this
    rw [List.length_map] at this
    exact splitL_ne 47 s.data.toList (List.eq_nil_of_length_eq_zero this)
  unfold compileB
  generalize splitB 47 s = l at *
  obtain ⟨l0, r, rfl⟩ := List.exists_cons_of_ne_nil hne
  have hl0 : l0.size ≤ 100000 := Nat.le_trans (hsz l0 (by simp)) hs
  have cN := fun W => rName_any l0 W (by omega)
  obtain ⟨m, hm⟩ : ∃ m, m = r.length := ⟨_, rfl⟩
  have HS : Hid (∀ W, Calls Tryz.prog 137 #[.string s, .int .u8 47] W (fun e w' => ∃ A c, e = .returned (.slice A (m + 1) c) ∧ w'.ownsRow W.heap.size 9 1 (.slice A (m + 1) c) (m + 1) ((l0 :: r).map .string) ∧ Below W.heap.size W w')) := Lib.hid (by rw [hm]; exact cS)
  have HN := Lib.hid cN
  have HM := Lib.hid hm
  have hm9 : m ≤ 100001 := by rw [hm]; simp at hnum; omega
  have hv : compL (l0 :: r) = if decide (m ≤ 32) && headOkB l0 then (cmpL r []).map fun x => ⟨partOfP l0, x.1, x.2⟩ else none := by rw [compL_cons, hm]
  have hn0 : (0 : Int) < (m : Int) + 1 := by omega
  generalize hV : RCompPost (compL (l0 :: r)) w = V
  have HV := Lib.hid hV
  have HSZ : Hid (∀ p ∈ r, p.size ≤ 100000) := Lib.hid (fun p hp => Nat.le_trans (hsz p (by simp [hp])) hs)
  obtain ⟨i0, hi0, hz0, hz1, hz2⟩ := info_parts infoStr
  have HI : Hid ((Tryz.prog.info? 9 = some i0) ∧ i0.zero = some (.string ⟨#[]⟩) ∧ i0.size = 1 ∧ i0.bytes = 16) := Lib.hid ⟨hi0, hz0, hz1, hz2⟩
  clear hne cS cN hm hsz hnum hV hi0 hz0 hz1 hz2
  cases hho : headOkB l0
  · have HNO : Hid (compL (l0 :: r) = none) := Lib.hid (by rw [hv, hho]; simp)
    unfold headOkB at hho
    simp only [Bool.or_eq_false_iff] at hho
    obtain ⟨h1, h2⟩ := hho
    have h1' : ¬ l0.toList = [42] := by simpa using h1
    rw [h2] at HN
    clear h2 hv
    go_enter Tryz.func92, Tryz.ntmps92
    go_wp2_with (first | (go_at_call 137; refine (HS.out _).mono ?_; rintro e w1 ⟨A, c, rfl, hown, hb1⟩; have hX1 : PatBox w1 w.heap.size ⟨#[]⟩ (.slice none 0 0) false := Blk.keep (World.alloc_heap_new _ _) hb1; obtain ⟨pb, po, u, rfl, hu, g0⟩ := (Reads.of_own hown).at_ (k := 0) (by omega); (obtain rfl : u = .string l0 := (by simpa using hu.symm)); clear hu; have gg : w1.cell? ⟨pb, po, none⟩ = some (.string l0) := g0; clear g0; have hR1 := Reads.of_own hown; clear hown; obtain ⟨x0, x1, x2, f0, f1, f2⟩ := hX1.facts; have hz1 : w.heap.size < w1.heap.size := Blk.lt hX1) | (go_at_call 50; refine (HN.out _).mono ?_; rintro e w2 ⟨rfl, hb2⟩; have hX2 : PatBox w2 w.heap.size ⟨#[]⟩ (.slice none 0 0) false := Blk.keep hX1 hb2; have gg2 := cell_keep hb2 gg; have hR2 := hR1.keep hb2; clear x0 x1 x2 f0 f1 f2; obtain ⟨x0, x1, x2, f0, f1, f2⟩ := hX2.facts; have hz2 : w.heap.size < w2.heap.size := Blk.lt hX2))
    rw [← HV.out, HNO.out]
    exact bodyPost_ret (v := .tuple #[.agg #[.string ⟨#[]⟩, .slice none 0 0, .bool false], .bool false]) (by simp [results, Tryz.results92, go_sem, hz2, x0, x1, x2, f0, f1, f2]) rfl ⟨belB, rfl⟩
  have hho2 : ((l0.toList == [42]) = true ∧ l0.toList = [42]) ∨ ((l0.toList == [42]) = false ∧ ¬ l0.toList = [42] ∧ isNameB l0 = true) := by
    have hho' := hho
    unfold headOkB at hho'
    cases h : (l0.toList == [42])
    · right; exact ⟨rfl, by simpa using h, by simpa [h] using hho'⟩
    · left; exact ⟨rfl, by simpa using h⟩
  by_cases hbig : m ≤ 32
  rotate_left
  · have HNO : Hid (compL (l0 :: r) = none) := Lib.hid (by rw [hv]; simp [hbig])
    have hd : decide ((32 : Int) < (m : Int)) = true := by simp; omega
    clear hv hho
    rcases hho2 with ⟨h1, h1'⟩ | ⟨h1, h1', h2⟩
    · go_enter Tryz.func92, Tryz.ntmps92
      go_wp2_with (first | (go_at_call 137; refine (HS.out _).mono ?_; rintro e w1 ⟨A, c, rfl, hown, hb1⟩; have hX1 : PatBox w1 w.heap.size ⟨#[]⟩ (.slice none 0 0) false := Blk.keep (World.alloc_heap_new _ _) hb1; obtain ⟨pb, po, u, rfl, hu, g0⟩ := (Reads.of_own hown).at_ (k := 0) (by omega); (obtain rfl : u = .string l0 := (by simpa using hu.symm)); clear hu; have gg : w1.cell? ⟨pb, po, none⟩ = some (.string l0) := g0; clear g0; have hR1 := Reads.of_own hown; clear hown; obtain ⟨x0, x1, x2, f0, f1, f2⟩ := hX1.facts; have hz1 : w.heap.size < w1.heap.size := Blk.lt hX1) | (go_at_call 50; refine (HN.out _).mono ?_; rintro e w2 ⟨rfl, hb2⟩; have hX2 : PatBox w2 w.heap.size ⟨#[]⟩ (.slice none 0 0) false := Blk.keep hX1 hb2; have gg2 := cell_keep hb2 gg; have hR2 := hR1.keep hb2; clear x0 x1 x2 f0 f1 f2; obtain ⟨x0, x1, x2, f0, f1, f2⟩ := hX2.facts; have hz2 : w.heap.size < w2.heap.size := Blk.lt hX2))
      rw [← HV.out, HNO.out]
      exact bodyPost_ret (v := .tuple #[.agg #[.string ⟨#[]⟩, .slice none 0 0, .bool false], .bool false]) (by simp [results, Tryz.results92, go_sem, hz1, x0, x1, x2, f0, f1, f2]) rfl ⟨belB, rfl⟩
    · rw [h2] at HN
      go_enter Tryz.func92, Tryz.ntmps92
      go_wp2_with (first | (go_at_call 137; refine (HS.out _).mono ?_; rintro e w1 ⟨A, c, rfl, hown, hb1⟩; have hX1 : PatBox w1 w.heap.size ⟨#[]⟩ (.slice none 0 0) false := Blk.keep (World.alloc_heap_new _ _) hb1; obtain ⟨pb, po, u, rfl, hu, g0⟩ := (Reads.of_own hown).at_ (k := 0) (by omega); (obtain rfl : u = .string l0 := (by simpa using hu.symm)); clear hu; have gg : w1.cell? ⟨pb, po, none⟩ = some (.string l0) := g0; clear g0; have hR1 := Reads.of_own hown; clear hown; obtain ⟨x0, x1, x2, f0, f1, f2⟩ := hX1.facts; have hz1 : w.heap.size < w1.heap.size := Blk.lt hX1) | (go_at_call 50; refine (HN.out _).mono ?_; rintro e w2 ⟨rfl, hb2⟩; have hX2 : PatBox w2 w.heap.size ⟨#[]⟩ (.slice none 0 0) false := Blk.keep hX1 hb2; have gg2 := cell_keep hb2 gg; have hR2 := hR1.keep hb2; clear x0 x1 x2 f0 f1 f2; obtain ⟨x0, x1, x2, f0, f1, f2⟩ := hX2.facts; have hz2 : w.heap.size < w2.heap.size := Blk.lt hX2))
      rw [← HV.out, HNO.out]
      exact bodyPost_ret (v := .tuple #[.agg #[.string ⟨#[]⟩, .slice none 0 0, .bool false], .bool false]) (by simp [results, Tryz.results92, go_sem, hz2, x0, x1, x2, f0, f1, f2]) rfl ⟨belB, rfl⟩
  have hd : decide ((32 : Int) < (m : Int)) = false := by simp; omega
  have hv2 : compL (l0 :: r) = (cmpL r []).map fun x => ⟨partOfP l0, x.1, x.2⟩ := by rw [hv, hho]; simp [hbig]
  have hst : strP (partOfP l0) = l0 := str_head hho
  have HV2 := Lib.hid hv2
  have HST := Lib.hid hst
  clear hv hho hv2 hst
  rcases hho2 with ⟨h1, h1'⟩ | ⟨h1, h1', h2⟩
  rotate_left
  rw [h2] at HN; clear h2
  rotate_left
  all_goals
    go_enter Tryz.func92, Tryz.ntmps92
    go_wp2_with (first | (go_at_call 137; refine (HS.out _).mono ?_; rintro e w1 ⟨A, c, rfl, hown, hb1⟩; have hX1 : PatBox w1 w.heap.size ⟨#[]⟩ (.slice none 0 0) false := Blk.keep (World.alloc_heap_new _ _) hb1; obtain ⟨pb, po, u, rfl, hu, g0⟩ := (Reads.of_own hown).at_ (k := 0) (by omega); (obtain rfl : u = .string l0 := (by simpa using hu.symm)); clear hu; have gg : w1.cell? ⟨pb, po, none⟩ = some (.string l0) := g0; clear g0; have hR1 := Reads.of_own hown; clear hown; obtain ⟨x0, x1, x2, f0, f1, f2⟩ := hX1.facts; have hz1 : w.heap.size < w1.heap.size := Blk.lt hX1) | (go_at_call 50; refine (HN.out _).mono ?_; rintro e w2 ⟨rfl, hb2⟩; have hX2 : PatBox w2 w.heap.size ⟨#[]⟩ (.slice none 0 0) false := Blk.keep hX1 hb2; have gg2 := cell_keep hb2 gg; have hR2 := hR1.keep hb2; clear x0 x1 x2 f0 f1 f2; obtain ⟨x0, x1, x2, f0, f1, f2⟩ := hX2.facts; have hz2 : w.heap.size < w2.heap.size := Blk.lt hX2))
  rotate_left
  have hX1' := hX2
  have hbA : Below w.heap.size w w2 := belB
  clear hX1 hR1 gg hb1 hb2
  rotate_left
  obtain ⟨w2, rfl⟩ : ∃ x : World, x = w1 := ⟨_, rfl⟩
  have hX1' := hX1
  have hR2 := hR1
  have gg2 := gg
  have hz2 := hz1
  have hbA : Below w.heap.size w w2 := belB
  clear hX1 hR1 gg hb1
  all_goals
    clear x0 x1 x2 f0 f1 f2
    have HRd := Lib.hid hR2
    have hpb : pb < w2.heap.size := cell_lt gg2
    have hB0 : PatBox (w2.alloc (.cells #[.string l0, .slice none 0 0, .bool false] 112)) w2.heap.size l0 (.slice none 0 0) false := World.alloc_heap_new _ _
    have hP0 : PatBox (w2.alloc (.cells #[.string l0, .slice none 0 0, .bool false] 112)) w.heap.size ⟨#[]⟩ (.slice none 0 0) false := (Below.heap_alloc _ _ _ hz2).trans hX1'
    clear hR2 gg2 hX1'
    go_loopw [6] (fun vi wr => ∃ (k : Nat) (acc : List Part) (A' : Option Addr) (c' : Nat) (tl : Bool), (vi = .int .i64 ((k : Int) + 1) ∧ k ≤ m ∧ acc.length ≤ k) ∧ Hid (CmpI r k acc tl) ∧ PatBox wr w2.heap.size l0 (.slice A' acc.length c') tl ∧ PatBox wr w.heap.size ⟨#[]⟩ (.slice none 0 0) false ∧
        wr.ownsRow (w2.heap.size + 1) 9 1 (.slice A' acc.length c') acc.length ((strL acc).map .string) ∧ Below w.heap.size w wr ∧ (∀ j, j < w2.heap.size → wr.heap[j]? = w2.heap[j]?) ∧ w2.heap.size + 1 ≤ wr.heap.size) (fun vi _ => m + 1 - (intOf vi).toNat)
    case atStart => exact ⟨0, [], none, 0, false, ⟨rfl, Nat.zero_le _, Nat.le_refl _⟩, Lib.hid (.inl ⟨rfl, by simp⟩), hB0, hP0, World.ownsRow_nil _ _ _ _, belB, fun j hj => Below.heap_alloc _ _ _ hj, by simp⟩
    case round =>
      clear hB0 hP0
      obtain ⟨k, acc, A', c', tl, ⟨rfl, hk, hak⟩, HC, hB, hP, hown, hbw, hFr, hzr⟩ := hrel
      obtain ⟨x0, x1, x2, f0, f1, f2⟩ := hP.facts
      obtain ⟨y0, y1, y2, g0, g1, g2⟩ := hB.facts
      by_cases hlt : k < m
      · obtain ⟨p, hp⟩ : ∃ p, r[k]? = some p := ⟨_, List.getElem?_eq_getElem (by have := HM.out; omega)⟩
        have hps := HSZ.out p (List.mem_of_getElem? hp)
        have hcell : wr.cell? ⟨pb, po + (k + 1), none⟩ = some (.string p) := by
          obtain ⟨b', o', e', hc'⟩ := HRd.out.2 (by omega)
          injection e' with e'; injection e' with e1 e2; subst e1; subst e2
          have := hc' (k + 1) (.string p) (by simp [hp])
          exact (World.cell?_of_block (hFr pb hpb)).trans this
        obtain ⟨rfl, hcmp⟩ : tl = false ∧ cmpL r [] = cmpL (r.drop k) acc := by
          rcases HC.out with h | ⟨_, h, _⟩
          · exact h
          · exfalso; have := HM.out; omega
        have hd2 : r.drop k = p :: r.drop (k + 1) := by
          obtain ⟨hl2, rfl⟩ := List.getElem?_eq_some_iff.1 hp
          exact List.drop_eq_getElem_cons hl2
        rw [hd2, cmpL] at hcmp
        have hemp : (r.drop (k + 1)).isEmpty = decide (k + 1 = m) := by
          have := HM.out
          by_cases h : k + 1 = m
          · rw [List.drop_eq_nil_of_le (by omega)]; simp [h]
          · simp [h]; omega
        rw [hemp] at hcmp
        have hk0 : (0 : Int) ≤ (k : Int) + 1 := by omega
        have hkm : (k : Int) + 1 < (m : Int) + 1 := by omega
        clear hd2 hemp hp HC HRd
        have cP := fun W => rPart_any p W (by omega)
        rw [part_ok] at cP
        cases h2s : (p.toList == [42, 42])
        · simp only [h2s, Bool.false_and, Bool.false_eq_true, if_false] at hcmp
          cases hok : partOkB p
          · have HNO : Hid (cmpL r [] = none) := Lib.hid (by rw [hcmp, hok]; rfl)
            rw [hok] at cP
            have HP := Lib.hid cP
            clear hcmp cP hok
            go_wp2_with (go_at_call 138; refine (HP.out _).mono ?_; rintro e w4 ⟨rfl, hb4⟩; have hP4 : PatBox w4 w.heap.size ⟨#[]⟩ (.slice none 0 0) false := Blk.keep hP hb4; have hB4 : PatBox w4 w2.heap.size l0 (.slice A' acc.length c') false := Blk.keep hB hb4; have hown4 := ownsRow_keep hown hb4; have hbw4 := bstep hbw hb4; have hFr4 : ∀ j, j < w2.heap.size → w4.heap[j]? = w2.heap[j]? := (fun j q1 => (hb4.block j (by omega)).trans (hFr j q1)); have hzr4 : w2.heap.size + 1 ≤ w4.heap.size := Nat.le_trans hzr hb4.size; have hcell4 := cell_keep hb4 hcell; clear x0 x1 x2 f0 f1 f2 y0 y1 y2 g0 g1 g2; obtain ⟨x0, x1, x2, f0, f1, f2⟩ := hP4.facts; obtain ⟨y0, y1, y2, g0, g1, g2⟩ := hB4.facts)
            rw [← HV.out, HV2.out, HNO.out]
            exact bodyPost_ret (v := .tuple #[.agg #[.string ⟨#[]⟩, .slice none 0 0, .bool false], .bool false]) (by simp [results, Tryz.results92, go_sem, hz2, x0, x1, x2, f0, f1, f2]) rfl ⟨belB, rfl⟩
          · have HSO : Hid (cmpL r [] = cmpL (r.drop (k + 1)) (acc ++ [partOfP p])) := Lib.hid (by rw [hcmp, hok]; rfl)
            have HSL := Lib.hid (strL_snoc acc p hok)
            rw [hok] at cP
            have HP := Lib.hid cP
            clear hcmp cP hok
            go_wp2_with (go_at_call 138; refine (HP.out _).mono ?_; rintro e w4 ⟨rfl, hb4⟩; have hP4 : PatBox w4 w.heap.size ⟨#[]⟩ (.slice none 0 0) false := Blk.keep hP hb4; have hB4 : PatBox w4 w2.heap.size l0 (.slice A' acc.length c') false := Blk.keep hB hb4; have hown4 := ownsRow_keep hown hb4; have hbw4 := bstep hbw hb4; have hFr4 : ∀ j, j < w2.heap.size → w4.heap[j]? = w2.heap[j]? := (fun j q1 => (hb4.block j (by omega)).trans (hFr j q1)); have hzr4 : w2.heap.size + 1 ≤ w4.heap.size := Nat.le_trans hzr hb4.size; have hcell4 := cell_keep hb4 hcell; clear x0 x1 x2 f0 f1 f2 y0 y1 y2 g0 g1 g2; obtain ⟨x0, x1, x2, f0, f1, f2⟩ := hP4.facts; obtain ⟨y0, y1, y2, g0, g1, g2⟩ := hB4.facts)
            have hown4d : w4.drew.ownsRow (w2.heap.size + 1) 9 1 (.slice A' acc.length c') acc.length ((strL acc).map .string) := hown4
            have y1d : w4.drew.cell? ⟨w2.heap.size, 1, none⟩ = some (.slice A' acc.length c') := y1
            have hcd : w4.drew.cell? ⟨pb, po + (k + 1), none⟩ = some (.string p) := hcell4
            have hzz : w2.heap.size < w4.heap.size := by omega
            have hzp : pb < w4.heap.size := by omega
            have y1e : (w4.alloc (.cells #[.string p] 9)).cell? ⟨w2.heap.size, 1, none⟩ = some (.slice A' acc.length c') := (World.cell?_of_block (Below.heap_alloc w4 _ _ hzz)).trans y1
            go_region_law ((refine step_append_lies _ (by rfl) _ _ _ (by rfl) (w2.heap.size + 1) 9 i0 (.string ⟨#[]⟩) 1 16 Tryz.underlying27 HI.out.1 HI.out.2.1 HI.out.2.2.1 HI.out.2.2.2 (by rfl) (by omega) (.slice A' acc.length c') acc.length ((strL acc).map .string) (by rfl) (hown4d.alloc _) ⟨w4.heap.size, 0, none⟩ 1 1 [.string p] (by rfl) (by rfl) (World.news_of_block (cs := #[.string p]) (t := 9) (fr := (0, 0)) (World.alloc_heap_new w4.drew _)) (by simp [Value.oneCell']) (by omega) (by unfold maxLen; omega) (by omega) (by simp; omega) (w4.heap.size + 1) (by simp) ?_; intro gg cap w7 hown7 hgrow hat hlt7; have hB7 : PatBox w7 w2.heap.size l0 (.slice A' acc.length c') false := (hgrow.block w2.heap.size (by simp; omega) (fun e => by have := ownsRow_block hown4 _ e.symm; omega)).trans ((Below.heap_alloc w4.drew _ w2.heap.size (show w2.heap.size < w4.heap.size by omega)).trans hB4); clear y0 y1 y2 g0 g1 g2; obtain ⟨y0, y1, y2, g0, g1, g2⟩ := hB7.facts))
            all_goals go_wp2
            all_goals
              have hal : (acc ++ [partOfP p]).length = acc.length + 1 := by simp
              have hb7 : Below w.heap.size w w7 := ((Below.drew hbw4).alloc hbw4.size _).grown hgrow (by have := hbw4.size; simp; omega) (fun r e => by have := ownsRow_block hown4 r e; omega)
              have hP7 : PatBox w7 w.heap.size ⟨#[]⟩ (.slice none 0 0) false := (hgrow.block w.heap.size (by simp; omega) (fun e => by have := ownsRow_block hown4 _ e.symm; omega)).trans ((Below.heap_alloc w4.drew _ _ (show w.heap.size < w4.heap.size by omega)).trans hP4)
              refine ⟨⟨k + 1, acc ++ [partOfP p], some ⟨gg, 0, none⟩, cap, false, ⟨by go_num, by omega, by simp; omega⟩, Lib.hid (.inl ⟨rfl, HSO.out⟩), by rw [hal]; exact Blk.set_ hB7 1 _, (Below.heap_setCell _ _ _ _ (by simp; omega)).trans hP7, by rw [hal, HSL.out, List.map_append]; exact ownsRow_same hown7 (fun j hj => Below.heap_setCell _ _ _ _ (by simp; omega)), hb7.setCell (p := ⟨w2.heap.size, 1, none⟩) (by simp; omega) _, fun j q1 => (Below.heap_setCell _ _ _ _ (by simp; omega)).trans ((hgrow.block j (by simp; omega) (fun e => by have := ownsRow_block hown4 _ e.symm; omega)).trans ((Below.heap_alloc w4.drew _ j (show j < w4.heap.size by omega)).trans (hFr4 j q1))), by have := hgrow.size; simp [World.setCell] at this ⊢; omega⟩, by simp [intOf]; omega⟩
        · obtain rfl : p = ⟨#[42, 42]⟩ := bytes_ext (by rw [← Lib.toList_data]; simpa using h2s)
          by_cases hlast : k + 1 = m
          · obtain rfl : m = k + 1 := hlast.symm
            have hlb : ((k : Int) + 1 == ((k + 1 : Nat) : Int)) = true := by simp
            rw [h2s, show decide (k + 1 = k + 1) = true by simp] at hcmp
            simp only [Bool.and_self, if_true] at hcmp
            have HH := Lib.hid hcmp
            clear hcmp cP
            go_wp2
            exact ⟨⟨k + 1, acc, A', c', true, ⟨by go_num, by omega, by omega⟩, Lib.hid (.inr ⟨rfl, HM.out, HH.out⟩), Blk.set_ hB 2 (.bool true), (Below.heap_setCell _ _ _ _ (by first | (simp; done) | (simp; omega))).trans hP, ownsRow_same hown (fun j hj => Below.heap_setCell _ _ _ _ (by first | (simp; done) | (simp; omega))), hbw.setCell (p := ⟨w2.heap.size, 2, none⟩) (by first | (simp; done) | (simp; omega)) _,
              fun j q1 => (Below.heap_setCell _ _ _ _ (by first | (simp; done) | (simp; omega))).trans (hFr j q1), by first | (simp [World.setCell]; done) | (simp [World.setCell]; omega)⟩, by simp [intOf]; omega⟩
          · have hlb : ((k : Int) + 1 == (m : Int)) = false := by simp; omega
            have HNO : Hid (cmpL r [] = none) := Lib.hid (by rw [hcmp, show decide (k + 1 = m) = false by simpa using hlast, partOk_stars]; simp)
            rw [partOk_stars] at cP
            have HP := Lib.hid cP
            clear hcmp cP
            go_wp2_with (go_at_call 138; refine (HP.out _).mono ?_; rintro e w4 ⟨rfl, hb4⟩; have hP4 : PatBox w4 w.heap.size ⟨#[]⟩ (.slice none 0 0) false := Blk.keep hP hb4; have hB4 : PatBox w4 w2.heap.size l0 (.slice A' acc.length c') false := Blk.keep hB hb4; have hown4 := ownsRow_keep hown hb4; have hbw4 := bstep hbw hb4; have hFr4 : ∀ j, j < w2.heap.size → w4.heap[j]? = w2.heap[j]? := (fun j q1 => (hb4.block j (by omega)).trans (hFr j q1)); have hzr4 : w2.heap.size + 1 ≤ w4.heap.size := Nat.le_trans hzr hb4.size; have hcell4 := cell_keep hb4 hcell; clear x0 x1 x2 f0 f1 f2 y0 y1 y2 g0 g1 g2; obtain ⟨x0, x1, x2, f0, f1, f2⟩ := hP4.facts; obtain ⟨y0, y1, y2, g0, g1, g2⟩ := hB4.facts)
            rw [← HV.out, HV2.out, HNO.out]
            exact bodyPost_ret (v := .tuple #[.agg #[.string ⟨#[]⟩, .slice none 0 0, .bool false], .bool false]) (by simp [results, Tryz.results92, go_sem, hz2, x0, x1, x2, f0, f1, f2]) rfl ⟨belB, rfl⟩
      · obtain rfl : k = m := by omega
        have HE : Hid (cmpL r [] = some (acc, tl)) := Lib.hid (by
          rcases HC.out with ⟨h, e⟩ | ⟨h, _, e⟩
          · rw [e, h, HM.out, List.drop_eq_nil_of_le (Nat.le_refl _), cmpL]
          · rw [e, h])
        have hob : ∀ a, A' = some a → a.block ≠ w.heap.size := fun a ha => by have := ownsRow_block hown a.block (by rw [ha]; rfl); omega
        have hRr := Reads.of_own hown
        clear HC
        go_wp2
        rw [← HV.out, HV2.out, HE.out]
        exact bodyPost_ret (v := .tuple #[.agg #[.string l0, .slice A' acc.length c', .bool tl], .bool true]) (by simp [results, Tryz.results92, go_sem, hz2, x0, x1, x2, f0, f1, f2]) rfl ⟨belB, A', c', by rw [HST.out], (((hRr.set_ _ _ hob).set_ _ _ hob).set_ _ _ hob)⟩
end Go.Proofs.YtdlbfjoemabfpaaGreatDoor
namespace Go.Proofs.YtdlbfjoemabfpaaGreatDoor
open Go.RowKit Go.Sort
set_option linter.unusedVariables false
set_option linter.unusedSimpArgs false
set_option maxRecDepth 100000
abbrev BL := List UInt8
theorem uniq_sorted : ∀ (xs ys : List BL), xs.Pairwise (· < ·) → ys.Pairwise (· < ·) → (∀ a, a ∈ xs ↔ a ∈ ys) → xs = ys
  | [], [], _, _, _ => rfl
  | [], y :: _, _, _, h => absurd ((h y).2 (by simp)) (by simp)
  | x :: _, [], _, _, h => absurd ((h x).1 (by simp)) (by simp)
  | x :: xs, y :: ys, hx, hy, h => by
    have hx' := List.pairwise_cons.1 hx
    have hy' := List.pairwise_cons.1 hy
    have e : x = y := by
      rcases List.mem_cons.1 ((h x).1 (by simp)) with e | e
      · exact e
      · rcases List.mem_cons.1 ((h y).2 (by simp)) with e2 | e2
        · exact e2.symm
        · exact absurd (hy'.1 x e) (List.lt_asymm (hx'.1 y e2))
    subst e
    rw [uniq_sorted xs ys hx'.2 hy'.2 (fun a => ?_)]
    constructor
    · intro ha
      rcases List.mem_cons.1 ((h a).1 (by simp [ha])) with e | e
      · subst e; exact absurd (hx'.1 a ha) (List.lt_irrefl a)
      · exact e
    · intro ha
      rcases List.mem_cons.1 ((h a).2 (by simp [ha])) with e | e
      · subst e; exact absurd (hy'.1 a ha) (List.lt_irrefl a)
      · exact e
theorem lt_of_le_ne' {a b : BL} (h : a ≤ b) (hn : a ≠ b) : a < b := by
  rcases Decidable.em (a < b) with h1 | h1
  · exact h1
  · exact absurd (List.le_antisymm h (List.not_lt.1 h1)) hn
theorem compact_inv (d : Array BL) (hs : ∀ i j, i ≤ j → j < d.size → d[i]! ≤ d[j]!) : ∀ m, m ≤ d.size → (Lib.compactUpTo d m).Pairwise (· < ·) ∧ (∀ j, j < m → d[j]! ∈ Lib.compactUpTo d m) ∧ (∀ x ∈ Lib.compactUpTo d m, ∃ j, j < m ∧ x = d[j]!)
  | 0, _ => by simp [Lib.compactUpTo]
  | m + 1, hm => by
    obtain ⟨h1, h2, h3⟩ := compact_inv d hs m (by omega)
    rw [Lib.compactUpTo_succ]
    by_cases hk : Lib.keeps d m = true
    · rw [if_pos hk]
      refine ⟨List.pairwise_append.2 ⟨h1, by simp, fun a ha b hb => ?_⟩, fun j hj => ?_, fun x hx => ?_⟩
      · rw [List.mem_singleton.1 hb]
        obtain ⟨j, hj, rfl⟩ := h3 a ha
        have hne : d[m - 1]! ≠ d[m]! := by
          intro e
          simp [Lib.keeps] at hk
          rcases hk with hk | hk
          · omega
          · first | exact hk e.symm | exact hk e
        have l1 := hs j (m - 1) (by omega) (by omega)
        have l2 := lt_of_le_ne' (hs (m - 1) m (by omega) (by omega)) hne
        exact Std.lt_of_le_of_lt l1 l2
      · by_cases e : j = m
        · subst e; simp
        · exact List.mem_append_left _ (h2 j (by omega))
      · rcases List.mem_append.1 hx with hx | hx
        · obtain ⟨j, hj, rfl⟩ := h3 x hx
          exact ⟨j, by omega, rfl⟩
        · exact ⟨m, by omega, List.mem_singleton.1 hx⟩
    · rw [if_neg hk, List.append_nil]
      refine ⟨h1, fun j hj => ?_, fun x hx => ?_⟩
      · by_cases e : j = m
        · subst e
          have hj0 : j ≠ 0 ∧ d[j]! = d[j - 1]! := by
            simp [Lib.keeps] at hk
            first | exact hk | exact ⟨hk.1, hk.2.symm⟩
          rw [hj0.2]
          exact h2 (j - 1) (by omega)
        · exact h2 j (by omega)
      · obtain ⟨j, hj, rfl⟩ := h3 x hx
        exact ⟨j, by omega, rfl⟩
theorem compact_sorted (zs : List BL) (hs : zs.Pairwise (· ≤ ·)) : (Lib.compact zs).Pairwise (· < ·) ∧ ∀ a, a ∈ Lib.compact zs ↔ a ∈ zs := by
  have hd : ∀ i j, i ≤ j → j < zs.toArray.size → zs.toArray[i]! ≤ zs.toArray[j]! := by
    intro i j hij hj
    simp only [List.size_toArray] at hj
    rw [getElem!_pos _ i (by simp; omega), getElem!_pos _ j (by simpa using hj)]
    simp only [List.getElem_toArray]
    rcases Nat.lt_or_eq_of_le hij with h | h
    · exact List.pairwise_iff_getElem.1 hs i j (by omega) hj h
    · subst h; exact List.le_refl _
  obtain ⟨h1, h2, h3⟩ := compact_inv zs.toArray hd zs.length (by simp)
  refine ⟨h1, fun a => ⟨fun h => ?_, fun h => ?_⟩⟩
  · exact compact_mem zs a h
  · obtain ⟨j, hj, rfl⟩ := List.getElem_of_mem h
    have := h2 j hj
    rw [getElem!_pos _ j (by simpa using hj)] at this
    unfold Lib.compact
    simpa using this
theorem leS_iff (s x : ByteArray) : leS s x = true ↔ s.data.toList ≤ x.data.toList := by
  have h := key_less s x
  unfold leS
  rw [← List.not_lt]
  constructor
  · intro h1 h2
    rw [h1] at h
    simp [h2] at h
  · intro h1
    cases hb : (Op.bytesLess s.toList x.toList || s.toList == x.toList)
    · rw [hb] at h
      exact absurd (by simpa using h) h1
    · rfl
theorem ne_iff (s x : ByteArray) : (x.toList != s.toList) = true ↔ x.data.toList ≠ s.data.toList := by
  rw [Lib.toList_data, Lib.toList_data]; simp
end Go.Proofs.YtdlbfjoemabfpaaGreatDoor
namespace Go.Proofs.YtdlbfjoemabfpaaGreatDoor
open Go.RowKit Go.Sort
set_option linter.unusedVariables false
set_option linter.unusedSimpArgs false
set_option maxRecDepth 100000
abbrev BP := ByteArray × ByteArray
def putA (p : BP) (st : List BP × Bool) (x : BP) : List BP × Bool := if !st.2 && leS p.1 x.1 then (st.1 ++ [p], true) else st
def putSt (p : BP) (st : List BP × Bool) (x : BP) : List BP × Bool := if x.1.toList != p.1.toList then ((putA p st x).1 ++ [x], (putA p st x).2) else putA p st x
def putB (l : List BP) (p : BP) : List BP := if (l.foldl (putSt p) ([], false)).2 then (l.foldl (putSt p) ([], false)).1 else (l.foldl (putSt p) ([], false)).1 ++ [p]
def putP (p : BP) : List BP → List BP
  | [] => [p]
  | x :: l => if leS p.1 x.1 then p :: (x :: l).filter (fun y => y.1.toList != p.1.toList) else x :: putP p l
theorem put_true (p : BP) : ∀ (l acc : List BP), l.foldl (putSt p) (acc, true) = (acc ++ l.filter (fun y => y.1.toList != p.1.toList), true)
  | [], acc => by simp
  | x :: l, acc => by
    rw [List.foldl_cons]
    have e : putA p (acc, true) x = (acc, true) := by simp [putA]
    cases hne : (x.1.toList != p.1.toList)
    · rw [show putSt p (acc, true) x = (acc, true) by simp only [putSt, hne, e]; rfl, put_true p l acc, List.filter_cons, if_neg (by rw [hne]; decide)]
    · rw [show putSt p (acc, true) x = (acc ++ [x], true) by simp only [putSt, hne, e]; rfl, put_true p l (acc ++ [x]), List.filter_cons, if_pos hne]
      simp
theorem put_false (p : BP) : ∀ (l acc : List BP), (if (l.foldl (putSt p) (acc, false)).2 then (l.foldl (putSt p) (acc, false)).1 else (l.foldl (putSt p) (acc, false)).1 ++ [p]) = acc ++ putP p l
  | [], acc => by simp [putP]
  | x :: l, acc => by
    rw [List.foldl_cons]
    cases hle : leS p.1 x.1
    · have e : putA p (acc, false) x = (acc, false) := by simp [putA, hle]
      have hne : (x.1.toList != p.1.toList) = true := by
        rw [ne_iff]
        intro h
        have : leS p.1 x.1 = true := (leS_iff _ _).2 (by rw [h]; exact List.le_refl _)
        rw [hle] at this; cases this
      rw [show putSt p (acc, false) x = (acc ++ [x], false) by simp only [putSt, hne, e]; rfl, put_false p l (acc ++ [x]), putP, hle]
      simp
    · have e : putA p (acc, false) x = (acc ++ [p], true) := by simp [putA, hle]
      have hp : putP p (x :: l) = p :: (x :: l).filter (fun y => y.1.toList != p.1.toList) := by rw [putP, if_pos hle]
      cases hne : (x.1.toList != p.1.toList)
      · rw [show putSt p (acc, false) x = (acc ++ [p], true) by simp only [putSt, hne, e]; rfl, hp, put_true]
        have hf : (x :: l).filter (fun y => y.1.toList != p.1.toList) = l.filter (fun y => y.1.toList != p.1.toList) := by rw [List.filter_cons, if_neg (by rw [hne]; decide)]
        rw [hf]
        simp
      · rw [show putSt p (acc, false) x = (acc ++ [p] ++ [x], true) by simp only [putSt, hne, e]; rfl, hp, put_true]
        have hf : (x :: l).filter (fun y => y.1.toList != p.1.toList) = x :: l.filter (fun y => y.1.toList != p.1.toList) := by rw [List.filter_cons, if_pos hne]
        rw [hf]
        simp
theorem putB_eq (l : List BP) (p : BP) : putB l p = putP p l := by
  have := put_false p l []
  unfold putB
  rw [this]; rfl
theorem putP_ins (p : BP) : ∀ l : List BP, SortedK (lists2 l) → lists2 (putP p l) = insL (lists2 l) (p.1.data.toList, p.2.data.toList)
  | [], _ => rfl
  | x :: l, h => by
    have h' := List.pairwise_cons.1 (show SortedK ((x.1.data.toList, x.2.data.toList) :: lists2 l) from h)
    have hf : p.1.data.toList ≤ x.1.data.toList → l.filter (fun y => y.1.toList != p.1.toList) = l := fun hle => by
      refine List.filter_eq_self.2 fun y hy => (ne_iff _ _).2 fun e => ?_
      have := h'.1 (y.1.data.toList, y.2.data.toList) (List.mem_map_of_mem hy)
      dsimp only at this
      rw [e] at this
      exact List.not_lt.2 hle this
    unfold putP
    show _ = insL ((x.1.data.toList, x.2.data.toList) :: lists2 l) _
    rw [insL]
    by_cases e : p.1.data.toList = x.1.data.toList
    · have hle : p.1.data.toList ≤ x.1.data.toList := by rw [e]; exact List.le_refl _
      have hx : ¬ (x.1.toList != p.1.toList) = true := by rw [ne_iff]; exact fun h => h e.symm
      rw [if_pos ((leS_iff _ _).2 hle), if_pos e, List.filter_cons, if_neg hx, hf hle]
      rfl
    · by_cases e2 : p.1.data.toList < x.1.data.toList
      · have hle := List.le_of_lt e2
        have hx : (x.1.toList != p.1.toList) = true := by rw [ne_iff]; exact fun h => e h.symm
        rw [if_pos ((leS_iff _ _).2 hle), if_neg e, if_pos e2, List.filter_cons, if_pos hx, hf hle]
        rfl
      · rw [if_neg (fun h => e2 (lt_of_le_ne' ((leS_iff _ _).1 h) e)), if_neg e, if_neg e2]
        show _ :: lists2 (putP p l) = _
        rw [putP_ins p l h'.2]
theorem putB_sorted {l : List BP} {a : List (BL × BL)} (h : lists2 l = pairsL a) (q : BL × BL) : lists2 (putB l (toB q.1, toB q.2)) = pairsL (a ++ [q]) := by
  rw [putB_eq, putP_ins _ _ (by rw [h]; exact (good_pairs a).2.2.1), h]
  simp [pairsL, toB]
def qRef : List BP → List ByteArray → Option (List BP)
  | acc, [] => some acc
  | acc, p :: r => match parsePair p with
    | none => none
    | some q => qRef (putB acc (toB q.1, toB q.2)) r
theorem qRef_eq : ∀ (ps : List ByteArray) (acc : List BP) (a : List (BL × BL)), lists2 acc = pairsL a → (qRef acc ps).map lists2 = (qAcc a ps).map pairsL
  | [], acc, a, h => by simp [qRef, qAcc, h]
  | p :: r, acc, a, h => by
    rw [qRef, qAcc]
    cases parsePair p with
    | none => rfl
    | some q => exact qRef_eq r _ _ (putB_sorted h q)
theorem lists2_back (l : List BP) : (lists2 l).map (fun q => (toB q.1, toB q.2)) = l := by
  simp [lists2, Function.comp_def, toB_data]
theorem pairsB_ref (s : ByteArray) : pairsB s = if s.toList.isEmpty then some [] else qRef [] (splitB 38 s) := by
  unfold pairsB
  split
  · rfl
  · have h := qRef_eq (splitB 38 s) [] [] rfl
    have h2 := congrArg (Option.map fun l : List (BL × BL) => l.map fun q => (toB q.1, toB q.2)) h
    rw [Option.map_map, Option.map_map] at h2
    have e : (fun l : List (BL × BL) => l.map fun q => (toB q.1, toB q.2)) ∘ lists2 = id := funext lists2_back
    rw [e, Option.map_id] at h2
    exact h2.symm
theorem at_first (c : UInt8) : ∀ l : BL, c ∈ l → ∃ a b, l = a ++ c :: b ∧ c ∉ a
  | [], h => by simp at h
  | x :: l, h => by
    by_cases e : x = c
    · subst e; exact ⟨[], l, rfl, by simp⟩
    · rcases List.mem_cons.1 h with h | h
      · exact absurd h.symm e
      · obtain ⟨a, b, h1, h2⟩ := at_first c l h
        exact ⟨x :: a, b, by rw [h1]; rfl, by simp [h2]; exact fun e2 => e e2.symm⟩
theorem split_cut (c : UInt8) (t : BL) : splitL c t = (Lib.cut t [c]).1 :: (if (Lib.cut t [c]).2.2 then splitL c (Lib.cut t [c]).2.1 else []) := by
  by_cases h : c ∈ t
  · obtain ⟨a, b, rfl, hna⟩ := at_first c t h
    rw [cut_hit a b c hna, split_hit a b c hna]
    rfl
  · rw [cut_none t c h, split_none t c h]
    rfl
def stemB (s : ByteArray) : ByteArray := toB (Lib.trimSuffix (leftL s).1 [47])
theorem stem_split (s : ByteArray) : ∃ r, splitB 47 (stemB s) = toB (custL s).1 :: r ∧ pathB (custL s) = resB [] r := by
  refine ⟨if (custL s).2.2 then splitB 47 (toB (custL s).2.1) else [], ?_, ?_⟩
  · unfold splitB stemB
    rw [show (toB (Lib.trimSuffix (leftL s).1 [47])).data.toList = Lib.trimSuffix (leftL s).1 [47] from rfl, split_cut]
    unfold custL
    rw [List.map_cons]
    congr 1
    split <;> rfl
  · unfold pathB
    split <;> rfl
end Go.Proofs.YtdlbfjoemabfpaaGreatDoor
