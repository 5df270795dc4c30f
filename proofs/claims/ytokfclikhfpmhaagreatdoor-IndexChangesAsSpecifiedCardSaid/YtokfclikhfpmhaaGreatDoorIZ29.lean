/- The law's sanity: the example is made. -/
import Derived.Test.YtokfclikhfpmhaaGreatDoorIZ28
import Derived.Test.YtokfclikhfpmhaaGreatDoorProg
import Derived.WalkKit
import Derived.WalkSpells
import Derived.WalkLawsBesides
import Derived.Below
import Derived.Deep.QuietTactic
import Derived.BigQuiet
import Derived.Lib.QuietBelow
import Derived.Lib.Strings
import Derived.Lib.Hide
import Derived.Deep.RegionWith
import Derived.Deep.RegionHeld3
import Derived.Lib.IndexBytes
import Derived.Test.YtokfclikhfpmhaaGreatDoorIZ15
import Derived.Test.YtokfclikhfpmhaaGreatDoorIZ1
import Derived.Lib.SmallJoins
import Derived.Deep.Slices
import Derived.Deep.Fields
namespace Go.Proofs.YtokfclikhfpmhaaGreatDoor
open Go.RowKit Go.Sort
set_option linter.unusedVariables false
set_option linter.unusedSimpArgs false
set_option maxRecDepth 100000
def SC : List Value := [.string (⟨#[97, 99, 109, 101, 47, 97, 32, 100, 101]⟩ : ByteArray), .string (⟨#[120]⟩ : ByteArray), .int .i64 0, .int .i64 1, .string (⟨#[97, 99, 109, 101, 47, 97, 47, 98, 32, 45]⟩ : ByteArray), .string (⟨#[120, 44, 121]⟩ : ByteArray), .int .i64 0, .int .i64 2, .string (⟨#[97, 99, 109, 101, 47, 97, 98, 32, 45]⟩ : ByteArray), .string ⟨#[]⟩, .int .i64 0, .int .i64 3, .string (⟨#[98, 111, 108, 116, 47, 97, 32, 45]⟩ : ByteArray), .string (⟨#[120]⟩ : ByteArray), .int .i64 0, .int .i64 4]
theorem sc_row {w : World} {g : Nat} (h : RowV w g 41 SC) : ItsRead w (some ⟨g, 0, none⟩) 4 SL :=
  ⟨rfl, by rfl, fun _ => ⟨g, 0, rfl, fun j u hu => by rw [Nat.zero_add]; exact h.cell (show SC[j]? = some u from hu)⟩⟩
theorem ItsRead.sub {w : World} {b o n : Nat} {L : List It} (h : ItsRead w (some ⟨b, o, none⟩) n L) (i m : Nat) (hm : i + m ≤ n) : ItsRead w (some ⟨b, o + 4 * i, none⟩) m ((L.drop i).take m) := by
  have hl := h.len
  refine ⟨by rw [List.length_take, List.length_drop]; omega, by rw [itsC_len, List.length_take, List.length_drop, Nat.min_eq_left (by omega)], fun h0 => ⟨b, o + 4 * i, rfl, fun j u hu => ?_⟩⟩
  obtain ⟨b', o', e, hc⟩ := h.rows.2 (by omega)
  injection e with e
  injection e with e1 e2 _
  subst e1; subst e2
  have hjl : j < ((L.drop i).take m).length * 4 := by
    have := (List.getElem?_eq_some_iff.1 hu).1
    rwa [itsC_len] at this
  rw [List.length_take, List.length_drop] at hjl
  obtain ⟨x, hx⟩ : ∃ x, L[i + j / 4]? = some x := ⟨_, List.getElem?_eq_getElem (by omega)⟩
  have hx2 : ((L.drop i).take m)[j / 4]? = some x := by rw [List.getElem?_take_of_lt (by omega), List.getElem?_drop]; exact hx
  have h1 := itsC_at L (i + j / 4) (j % 4) x hx (by omega)
  have h2 := itsC_at ((L.drop i).take m) (j / 4) (j % 4) x hx2 (by omega)
  rw [show 4 * (j / 4) + j % 4 = j by omega] at h2
  rw [h2, ← h1, show 4 * (i + j / 4) + j % 4 = 4 * i + j by omega] at hu
  rw [show o + 4 * i + j = o + (4 * i + j) by omega]
  exact hc _ _ hu
def ItsN (n : Nat) (L : List It) (w : World) (e : Ending) (w' : World) : Prop := ∃ A c, e = .returned (.slice A n c) ∧ ItsRead w' A n L ∧ Below w.heap.size w w'
theorem its_n {n : Nat} {L : List It} {w w' : World} {e : Ending} (hn : L.length = n) (h : ItsPost L w e w') : ItsN n L w e w' := by subst hn; exact h
set_option maxHeartbeats 8000000 in
theorem sanity15_any (w : World) (hE : Env w) (hK : Ks w) : Calls Tryz.prog 10 #[] w (Ret w (.bool true)) := by
  have hnew := fun W => new_any W
  have HNW := Lib.hid hnew; have HE := Lib.hid hE; have HK := Lib.hid hK
  clear hnew hE hK
  go_enter Tryz.func10, Tryz.ntmps10
  go_upto_region 2 with fail
  have hS0 : RowV (w.alloc (.cells SC.toArray 41)) w.heap.size 41 SC := RowV.new w _ SC
  have hb0 : Below w.heap.size w (w.alloc (.cells SC.toArray 41)) := balloc (Below.refl _ _) _
  unfold SC at hS0 hb0
  generalize hw0 : World.alloc _ _ = w0 at *
  clear hw0
  have HS0 := Lib.hid hS0
  clear hS0
  go_upto_region 3 with (go_at_call 22; refine (HNW.out _).mono ?_; rintro e w1 ⟨rfl, hb1⟩)
  have hS1 := HS0.out.keep hb1
  have hX2 := RowV.new w1 27 [.pointer none]
  have hS2 := hS1.alloc (.cells #[.pointer none] 27)
  have hb2 : Below w.heap.size w (w1.alloc (.cells #[.pointer none] 27)) := balloc (bstep hb0 hb1) _
  have hg2 : w.heap.size < w1.heap.size := hS1.lt
  generalize hw2 : w1.alloc (.cells #[.pointer none] 27) = w2 at *
  generalize w1.heap.size = g2 at *
  have HS2 := Lib.hid hS2; have HX2 := Lib.hid hX2; have HB2 := Lib.hid hb2
  clear hw2 hb0 hb1 hS1 hX2 hS2 hb2 HS0 HNW
  go_wp2
  go_loopw [3] (fun vi wr => ∃ (j : Nat) (z : Int) (P : Option Addr), (vi = .int .i64 z ∧ z = (j : Int) - 1 ∧ j ≤ 4) ∧ RowV wr g2 27 [.pointer P] ∧ Hid (IxAt wr P (SL.drop j)) ∧ Below w.heap.size w wr ∧ Hid (RowV wr w.heap.size 41 SC)) (fun vi _ => (intOf vi + 1).toNat)
  case atStart => exact ⟨4, 3, none, ⟨rfl, rfl, Nat.le_refl _⟩, HX2.out, Lib.hid (IxAt.nil_ _), HB2.out, HS2⟩
  case round =>
    clear HX2 HB2
    obtain ⟨j, z, P, ⟨rfl, hz, hj⟩, hX, HI, hbr, HSR⟩ := hrel
    by_cases h0 : j = 0
    · subst h0
      have hz1 : z = -1 := by omega
      subst hz1
      clear hz
      have hI : IxAt wr P SL := HI.out
      have hLr := sc_row HSR.out
      have x5 := hX.cell (k := 0) rfl
      have f1 := fun W (h : IxAt W P SL) => ixFrom_any P SL ⟨#[]⟩ 9 W h up0 (by simp [SL])
      have f2 := fun W (h : IxAt W P SL) => ixFrom_any P SL (⟨#[97, 99, 109, 101, 47, 97, 47]⟩ : ByteArray) 2 W h up0 (by simp [SL])
      rw [ck1] at f1
      rw [ck2] at f2
      replace f1 := fun W h => (f1 W h).mono fun _ _ h => its_n (n := 4) rfl h
      replace f2 := fun W h => (f2 W h).mono fun _ _ h => its_n (n := 2) rfl h
      have hsz : ∀ x ∈ SL, x.k.size ≤ 100000 ∧ x.t.size ≤ 100000 := fun x hx => by
        simp only [SL, List.mem_cons, List.not_mem_nil, or_false] at hx
        rcases hx with rfl | rfl | rfl | rfl <;> exact ⟨by decide +kernel, by decide +kernel⟩
      have f3 := fun W (h : IxAt W P SL) (hb : Below w.heap.size w W) => ixUnder_any P SL (⟨#[97, 99, 109, 101, 47, 97]⟩ : ByteArray) W h up0 (by simp [SL]) (fun x hx => (hsz x hx).1) (by decide +kernel) (Env.keep HE.out hb)
      have f4 := fun W (h : IxAt W P SL) (hb : Below w.heap.size w W) => ixUnder_any P SL (⟨#[97, 99, 109, 101]⟩ : ByteArray) W h up0 (by simp [SL]) (fun x hx => (hsz x hx).1) (by decide +kernel) (Env.keep HE.out hb)
      rw [ck3] at f3
      rw [ck4] at f4
      replace f3 := fun W h hb => (f3 W h hb).mono fun _ _ h => its_n (n := 2) rfl h
      replace f4 := fun W h hb => (f4 W h hb).mono fun _ _ h => its_n (n := 3) rfl h
      have f5 := fun W (h : IxAt W P SL) (hb : Below w.heap.size w W) => ixTagged_any P SL (⟨#[97, 99, 109, 101]⟩ : ByteArray) (⟨#[120]⟩ : ByteArray) W h up0 (by simp [SL]) hsz (Env.keep HE.out hb)
      have f6 := fun W (h : IxAt W P SL) (hb : Below w.heap.size w W) => ixTagged_any P SL (⟨#[98, 111, 108, 116]⟩ : ByteArray) (⟨#[121]⟩ : ByteArray) W h up0 (by simp [SL]) hsz (Env.keep HE.out hb)
      rw [ck5] at f5
      rw [ck6] at f6
      replace f5 := fun W h hb => (f5 W h hb).mono fun _ _ h => its_n (n := 2) rfl h
      replace f6 := fun W h hb => (f6 W h hb).mono fun _ _ h => its_n (n := 0) rfl h
      have f7 := fun W (h : IxAt W P SL) => ixLen_any P SL W h
      have F1 := Lib.hid f1; have F2 := Lib.hid f2; have F3 := Lib.hid f3; have F4 := Lib.hid f4; have F5 := Lib.hid f5; have F6 := Lib.hid f6; have F7 := Lib.hid f7; have HII := Lib.hid hI; have HLR := Lib.hid hLr
      clear f1 f2 f3 f4 f5 f6 f7 hI hLr hsz HI HSR
      go_upto_region 10 with fail
      go_cut [6] (fun s6 wx => s6 = .bool true ∧ Below wr.heap.size wr wx)
      case first =>
        go_region_held3 (fun w' => w'.cell? ⟨g2, 0, none⟩ = some (.pointer P) ∧ Below wr.heap.size wr w')
          (first | (go_split_ands; refine (fun (hB : Below wr.heap.size wr _) => (⟨cell_keep hB x5, hB⟩ : _ ∧ _)) ?_; (repeat (first | exact .refl _ _ | assumption | refine .drew ?_ | refine balloc ?_ _ | refine bdrewN ?_ _ | refine .setCell ?_ (by simp <;> omega) _ | refine bstep ?_ (by assumption)))) | (refine (fun (hB : Below wr.heap.size wr _) => (⟨cell_keep hB x5, hB⟩ : _ ∧ _)) ?_; (repeat (first | exact .refl _ _ | assumption | refine .drew ?_ | refine balloc ?_ _ | refine bdrewN ?_ _ | refine .setCell ?_ (by simp <;> omega) _ | refine bstep ?_ (by assumption)))))
          (first | (go_at_call 17; go_split_ands; refine (F1.out _ (HII.out.keep ‹_›)).mono ?_; rintro e wa1 ⟨A1, a1, rfl, r1, hba1⟩; clear F1) | (go_at_call 17; go_split_ands; refine (F2.out _ (HII.out.keep ‹_›)).mono ?_; rintro e wa2 ⟨A2, a2, rfl, r2, hba2⟩; clear F2) | (go_at_call 13; go_split_ands; refine (F3.out _ (HII.out.keep ‹_›) (bstep hbr ‹_›)).mono ?_; rintro e wa3 ⟨A3, a3, rfl, r3, hba3⟩; clear F3) | (go_at_call 13; go_split_ands; refine (F4.out _ (HII.out.keep ‹_›) (bstep hbr ‹_›)).mono ?_; rintro e wa4 ⟨A4, a4, rfl, r4, hba4⟩; clear F4) | (go_at_call 12; go_split_ands; refine (rSame15_eq _ _ 4 _ _ _ _ r1 (HLR.out.keep ‹_›) (by decide)).mono ?_; rintro e wb1 ⟨rfl, hbb1⟩; clear r1) | (go_at_call 12; go_split_ands; refine (rSame15_eq _ _ 2 _ _ _ _ r2 ((HLR.out.keep ‹_›).sub 1 2 (by decide)) (by decide)).mono ?_; rintro e wb2 ⟨rfl, hbb2⟩; clear r2) | (go_at_call 12; go_split_ands; refine (rSame15_eq _ _ 2 _ _ _ _ r3 ((HLR.out.keep ‹_›).sub 0 2 (by decide)) (by decide)).mono ?_; rintro e wb3 ⟨rfl, hbb3⟩; clear r3) | (go_at_call 12; go_split_ands; refine (rSame15_eq _ _ 3 _ _ _ _ r4 ((HLR.out.keep ‹_›).sub 0 3 (by decide)) (by decide)).mono ?_; rintro e wb4 ⟨rfl, hbb4⟩; clear r4))
        all_goals go_wp2_with fail
        all_goals go_meet
        all_goals exact ⟨rfl, by first | assumption | (go_split_ands; assumption)⟩
      case rest =>
        obtain ⟨rfl, hbx⟩ := hcut
        go_upto_region 11 with fail
        go_region_held3 (fun w' => w'.cell? ⟨g2, 0, none⟩ = some (.pointer P) ∧ Below wr.heap.size wr w')
          (first | (go_split_ands; refine (fun (hB : Below wr.heap.size wr _) => (⟨cell_keep hB x5, hB⟩ : _ ∧ _)) ?_; (repeat (first | exact .refl _ _ | assumption | refine .drew ?_ | refine balloc ?_ _ | refine bdrewN ?_ _ | refine .setCell ?_ (by simp <;> omega) _ | refine bstep ?_ (by assumption)))) | (refine (fun (hB : Below wr.heap.size wr _) => (⟨cell_keep hB x5, hB⟩ : _ ∧ _)) ?_; (repeat (first | exact .refl _ _ | assumption | refine .drew ?_ | refine balloc ?_ _ | refine bdrewN ?_ _ | refine .setCell ?_ (by simp <;> omega) _ | refine bstep ?_ (by assumption)))))
          (first | (go_at_call 15; go_split_ands; refine (F5.out _ (HII.out.keep ‹_›) (bstep hbr ‹_›)).mono ?_; rintro e wa5 ⟨A5, a5, rfl, r5, hba5⟩; clear F5) | (go_at_call 15; go_split_ands; refine (F6.out _ (HII.out.keep ‹_›) (bstep hbr ‹_›)).mono ?_; rintro e wa6 ⟨A6, a6, rfl, r6, hba6⟩; clear F6) | (go_at_call 25; go_split_ands; refine (F7.out _ (HII.out.keep ‹_›)).mono ?_; rintro e wa7 ⟨rfl, hba7⟩; clear F7) | (go_at_call 12; go_split_ands; refine (rSame15_eq _ _ 2 _ _ _ _ r5 ((HLR.out.keep ‹_›).sub 0 2 (by decide)) (by decide)).mono ?_; rintro e wb5 ⟨rfl, hbb5⟩; clear r5))
        all_goals go_wp2_with fail
        all_goals go_ret
        all_goals exact ⟨rfl, bstep hbr (by first | assumption | (go_split_ands; assumption))⟩
    · obtain ⟨j', rfl⟩ : ∃ j', j = j' + 1 := ⟨j - 1, by omega⟩
      have hz1 : z = (j' : Int) := by omega
      subst hz1
      have hj4 : j' < 4 := by omega
      obtain ⟨x, hx⟩ : ∃ x, SL[j']? = some x := ⟨_, List.getElem?_eq_getElem (show j' < SL.length from hj4)⟩
      have hL := sc_row HSR.out
      obtain ⟨c0, c1, c2, c3⟩ := hL.cells_at hx
      obtain ⟨hps, hup⟩ := put_step j' hj4 x hx
      have hsm : x.k.size ≤ 300 ∧ x.t.size ≤ 300 := by
        match j', hj4, x, hx with
        | 0, _, _, rfl => exact ⟨by decide +kernel, by decide +kernel⟩
        | 1, _, _, rfl => exact ⟨by decide +kernel, by decide +kernel⟩
        | 2, _, _, rfl => exact ⟨by decide +kernel, by decide +kernel⟩
        | 3, _, _, rfl => exact ⟨by decide +kernel, by decide +kernel⟩
      have hpt := fun W (h : IxAt W P (SL.drop (j' + 1))) (hb : Below w.heap.size w W) => ixPut_any P (SL.drop (j' + 1)) x W h hup (by rw [List.length_drop]; simp [SL]; omega) (by omega) (by omega) (Env.keep HE.out hb) (HK.out.keep hb)
      unfold IxPutP at hpt
      rw [hps] at hpt
      have HPTT := Lib.hid hpt
      have hj0 : (0 : Int) ≤ (j' : Int) := by omega
      have hj4b : (j' : Int) < 4 := by omega
      have x5 := hX.cell (k := 0) rfl
      have x6 := hX.free 0
      simp only [Nat.zero_add] at c0 c1 c2 c3
      clear hpt hps hup hL hz hx hsm
      go_upto_region 6 with fail
      go_cut [4, 5] (fun s8 s9 wx => ∃ (g : Nat) (Q : Option Addr), s8 = .pointer (some ⟨g, 0, none⟩) ∧ s9 = .int .i64 0 ∧ wr.heap.size ≤ g ∧ RowV wx g 27 [.pointer Q] ∧ IxAt wx Q (SL.drop j') ∧ Below wr.heap.size wr wx)
      case first =>
        go_region_held3 (fun w' => w'.cell? ⟨g2, 0, none⟩ = some (.pointer P) ∧ w'.cell? ⟨w.heap.size, j' * 4, none⟩ = some (.string x.k) ∧ w'.cell? ⟨w.heap.size, j' * 4 + 1, none⟩ = some (.string x.t) ∧ w'.cell? ⟨w.heap.size, j' * 4 + 2, none⟩ = some (.int .i64 x.z) ∧ w'.cell? ⟨w.heap.size, j' * 4 + 3, none⟩ = some (.int .i64 x.r) ∧ Below wr.heap.size wr w')
          (first | (go_split_ands; refine (fun (hB : Below wr.heap.size wr _) => (⟨cell_keep hB x5, cell_keep hB c0, cell_keep hB c1, cell_keep hB c2, cell_keep hB c3, hB⟩ : _ ∧ _ ∧ _ ∧ _ ∧ _ ∧ _)) ?_; (repeat (first | exact .refl _ _ | assumption | refine .drew ?_ | refine balloc ?_ _ | refine bdrewN ?_ _ | refine .setCell ?_ (by simp <;> omega) _ | refine bstep ?_ (by assumption)))) | (refine (fun (hB : Below wr.heap.size wr _) => (⟨cell_keep hB x5, cell_keep hB c0, cell_keep hB c1, cell_keep hB c2, cell_keep hB c3, hB⟩ : _ ∧ _ ∧ _ ∧ _ ∧ _ ∧ _)) ?_; (repeat (first | exact .refl _ _ | assumption | refine .drew ?_ | refine balloc ?_ _ | refine bdrewN ?_ _ | refine .setCell ?_ (by simp <;> omega) _ | refine bstep ?_ (by assumption)))))
          (first | (go_at_call 24; go_split_ands; refine (HPTT.out _ (HI.out.keep ‹_›) (bstep hbr ‹_›)).mono ?_; rintro e w3 ⟨Q, rfl, hix, hb3⟩; first | (have hn : RowV w3 wr.heap.size 27 [.pointer none] := RowV.keep (w := (wr.alloc (.cells #[.pointer none] 27)).drew) (RowV.new wr 27 [.pointer none]) hb3; have n0 := hn.cell (k := 0) rfl; have n1 := hn.free 0) | skip))
        all_goals go_wp2_with fail
        all_goals go_meet
        · exact ⟨_, Q, rfl, rfl, by have := hb3.size; exact this, RowV.new w3 27 [.pointer Q], hix.keep (balloc (Below.refl _ _) _), balloc (bstep (Below.drew (Below.refl _ _)) hb3) _⟩
        · exact ⟨_, Q, rfl, rfl, Nat.le_refl _, hn.set_ 0 _, hix.far hn (by decide) 0 _, (bstep (Below.drew (balloc (Below.refl _ _) _)) hb3).setCell (by simp) _⟩
      case rest =>
        obtain ⟨g, Q, rfl, rfl, hgg, hgR, hix, hbx⟩ := hcut
        have HIX := Lib.hid hix
        have hX2 := hX.keep hbx
        have y5 := hX2.cell (k := 0) rfl
        have yg := hgR.cell (k := 0) rfl
        have yf := hX2.free 0
        clear HPTT c0 c1 c2 c3 x5 x6 hix
        go_wp2
        exact ⟨⟨j', (j' : Int) - 1, Q, ⟨rfl, rfl, by omega⟩, hX2.set_ 0 _, Lib.hid (HIX.out.far hX2 (by decide) 0 _), (bstep hbr hbx).setCell (by simp; omega) _, Lib.hid ((HSR.out.keep hbx).far _ _ (by simp; omega))⟩, by simp [intOf] <;> omega⟩
end Go.Proofs.YtokfclikhfpmhaaGreatDoor
namespace Go.Proofs.YtokfclikhfpmhaaGreatDoor
open Go.RowKit Go.Sort
set_option linter.unusedVariables false
set_option linter.unusedSimpArgs false
set_option maxRecDepth 100000
theorem cut_pre (k : ByteArray) : ∃ s, k.data.toList = (cutK k).1 ++ s := by
  unfold cutK Lib.cut
  split
  · exact ⟨_, (List.take_append_drop _ _).symm⟩
  · exact ⟨[], by simp⟩
theorem adr_pre (x : It) : ∃ s, x.k.data.toList = (adrI x).data.toList ++ s := cut_pre x.k
theorem valid_adr {x : It} (h : validI x = true) : (cutK x.k).2.2 = true ∧ readB (adrI x) = true ∧ (splitR x.t).2 = 0 := by
  unfold validI at h
  simp only [Bool.and_eq_true, decide_eq_true_eq] at h
  exact ⟨h.1.1.1.1.1.1, h.1.1.1.1.1.2, h.1.1.1.1.2⟩
theorem valid_adrT {x : It} (h : validI x = true) : adrT x.k = adrI x := by
  unfold adrT adrI
  rw [if_pos (valid_adr h).1]
theorem under_beg {pr : ByteArray} {x : It} (h : underB pr (adrI x) = true) : bgB pr x.k = true := by
  obtain ⟨_, _, _, r, hr, _⟩ := (under_iff _ _).1 h
  obtain ⟨s, hs⟩ := adr_pre x
  rw [beg_iff]
  exact ⟨r ++ s, by rw [hs, hr, List.append_assoc]⟩
theorem read_text {a : ByteArray} (h : readB a = true) : (parseB a).2 = 0 ∧ a.data.toList = W06 (parseB a).1.cust (parseB a).1.path (parseB a).1.query := by
  unfold readB at h
  rw [Bool.and_eq_true, decide_eq_true_eq, beq_iff_eq, Lib.toList_data, Lib.toList_data] at h
  exact ⟨h.1, h.2.symm⟩
theorem tag_beg {cu tg : ByteArray} {x : It} (hv : validI x = true) (h : tagB x cu tg = true) : bgB cu x.k = true := by
  unfold tagB at h
  simp only [Bool.and_eq_true, decide_eq_true_eq] at h
  obtain ⟨_, ht⟩ := read_text (valid_adr hv).2.1
  obtain ⟨s, hs⟩ := adr_pre x
  rw [beg_iff, hs, ht, h.1.2]
  unfold W06 writeL
  simp only [List.append_assoc]
  exact ⟨_, rfl⟩
theorem under_list {pr : ByteArray} {L : List It} (hu : UpI L) (hv : ∀ x ∈ L, validI x = true) : (((ixFrom L pr).takeWhile fun y => bgB pr y.k).filter fun x => underB pr (adrI x)) = L.filter fun x => underB pr (adrT x.k) := by
  rw [filter_begin hu (fun y _ h => under_beg h)]
  exact filter_eq L fun y hy => by rw [valid_adrT (hv y hy)]
theorem tag_list {cu tg : ByteArray} {L : List It} (hu : UpI L) (hv : ∀ x ∈ L, validI x = true) : (((ixFrom L cu).takeWhile fun y => bgB cu y.k).filter fun x => tagB x cu tg) = L.filter (rTagB cu tg) := by
  rw [filter_begin hu (fun y hy h => tag_beg (hv y hy) h)]
  exact filter_eq L fun y hy => by
    unfold tagB rTagB
    rw [valid_adrT (hv y hy), (read_text (valid_adr (hv y hy)).2.1).1]
    simp
theorem few_good {os : List OpI} (hf : fewO os = true) : LGood 40 (opsS os) ∧ ∀ x ∈ opsS os, x.k.size ≤ 100000 ∧ x.t.size ≤ 100000 := by
  unfold fewO at hf
  simp only [Bool.and_eq_true, decide_eq_true_eq, List.all_eq_true] at hf
  have hg := ops_good os os.length (Nat.le_refl _)
  rw [List.take_length] at hg
  refine ⟨⟨hg.up, Nat.le_trans hg.len hf.2, hg.ok⟩, ?_⟩
  have key : ∀ (k : Nat), k ≤ os.length → ∀ x ∈ opsS (os.take k), x.k.size ≤ 100000 ∧ x.t.size ≤ 100000 := by
    intro k
    induction k with
    | zero => intro _ x hx; simp [opsS] at hx
    | succ k ih =>
      intro hk x hx
      obtain ⟨o, ho⟩ : ∃ o, os[k]? = some o := ⟨_, List.getElem?_eq_getElem (by omega)⟩
      rw [ops_take ho] at hx
      have hs := hf.1 o (List.mem_of_getElem? ho)
      unfold smallI at hs
      simp only [Bool.and_eq_true, decide_eq_true_eq] at hs
      unfold opS at hx
      split at hx
      · exact ih (by omega) x (mem_del hx)
      · unfold ixPutS at hx
        split at hx
        · split at hx
          · exact ih (by omega) x hx
          · rcases mem_put hx with rfl | hx
            · exact ⟨by omega, by omega⟩
            · exact ih (by omega) x hx
        · exact ih (by omega) x hx
  have := key os.length (Nat.le_refl _)
  rwa [List.take_length] at this
end Go.Proofs.YtokfclikhfpmhaaGreatDoor
namespace Go.Proofs.YtokfclikhfpmhaaGreatDoor
open Go.RowKit Go.Sort
set_option linter.unusedVariables false
set_option linter.unusedSimpArgs false
set_option maxRecDepth 100000
set_option maxHeartbeats 8000000 in
theorem lawFinds15 (A : Option Addr) (n c : Nat) (os : List OpI) (p cu tg : ByteArray) (w : World) (hA : OpsRead w A n os) (hn : n ≤ 9223372036854775807) (hE : Env w) (hK : Ks w) : Calls Tryz.prog 3 #[.slice A n c, .string p, .string cu, .string tg] w (Ret w (.bool true)) := by
  have hfw := fun W (hb : Below w.heap.size w W) => few15_any A n c os W (hA.keep hb) hn
  have hsn := fun W (hb : Below w.heap.size w W) => sanity15_any W (Env.keep hE hb) (hK.keep hb)
  have hmd := fun (hf : fewO os = true) W (hb : Below w.heap.size w W) => made15_any A n c os W (hA.keep hb) hf (Env.keep hE hb) (hK.keep hb)
  have HFW := Lib.hid hfw; have HSN := Lib.hid hsn; have HMD := Lib.hid hmd; have HE := Lib.hid hE
  clear hfw hsn hmd hA hE hK
  cases hf : fewO os
  · rw [hf] at HFW
    clear HMD
    go_enter Tryz.func3, Tryz.ntmps3; go_wp2_with (first | (go_at_call 9; refine (HFW.out _ belB).mono ?_; rintro e wf ⟨rfl, hbf⟩) | (go_at_call 10; refine (HSN.out _ belB).mono ?_; rintro e ws ⟨rfl, hbs⟩)); go_ret; exact ⟨rfl, belB⟩
  by_cases h1 : p.size ≤ 300
  rotate_left
  · have h1b : (300 : Int) < (p.size : Int) := by omega
    rw [hf] at HFW
    clear HMD
    go_enter Tryz.func3, Tryz.ntmps3; go_wp2_with (first | (go_at_call 9; refine (HFW.out _ belB).mono ?_; rintro e wf ⟨rfl, hbf⟩) | (go_at_call 10; refine (HSN.out _ belB).mono ?_; rintro e ws ⟨rfl, hbs⟩)); go_ret; exact ⟨rfl, belB⟩
  by_cases h2 : cu.size ≤ 300
  rotate_left
  · have h1b : ¬ (300 : Int) < (p.size : Int) := by omega
    have h2b : (300 : Int) < (cu.size : Int) := by omega
    rw [hf] at HFW
    clear HMD
    go_enter Tryz.func3, Tryz.ntmps3; go_wp2_with (first | (go_at_call 9; refine (HFW.out _ belB).mono ?_; rintro e wf ⟨rfl, hbf⟩) | (go_at_call 10; refine (HSN.out _ belB).mono ?_; rintro e ws ⟨rfl, hbs⟩)); go_ret; exact ⟨rfl, belB⟩
  by_cases h3 : tg.size ≤ 300
  rotate_left
  · have h1b : ¬ (300 : Int) < (p.size : Int) := by omega
    have h2b : ¬ (300 : Int) < (cu.size : Int) := by omega
    have h3b : (300 : Int) < (tg.size : Int) := by omega
    rw [hf] at HFW
    clear HMD
    go_enter Tryz.func3, Tryz.ntmps3; go_wp2_with (first | (go_at_call 9; refine (HFW.out _ belB).mono ?_; rintro e wf ⟨rfl, hbf⟩) | (go_at_call 10; refine (HSN.out _ belB).mono ?_; rintro e ws ⟨rfl, hbs⟩)); go_ret; exact ⟨rfl, belB⟩
  have h1b : ¬ (300 : Int) < (p.size : Int) := by omega
  have h2b : ¬ (300 : Int) < (cu.size : Int) := by omega
  have h3b : ¬ (300 : Int) < (tg.size : Int) := by omega
  obtain ⟨hgd, hsz⟩ := few_good hf
  have hmd := HMD.out hf
  unfold MadeP at hmd
  obtain ⟨L, hL⟩ : ∃ L, L = opsS os := ⟨_, rfl⟩
  rw [← hL] at hmd hgd hsz
  rw [hf] at HFW
  have hl40 := hgd.len
  have hun := fun P W (h : IxAt W P L) (hb : Below w.heap.size w W) => ixUnder_any P L p W h hgd.up (by omega) (fun x hx => (hsz x hx).1) (by omega) (Env.keep HE.out hb)
  rw [under_list hgd.up hgd.ok] at hun
  have htg := fun P W (h : IxAt W P L) (hb : Below w.heap.size w W) => ixTagged_any P L cu tg W h hgd.up (by omega) hsz (Env.keep HE.out hb)
  rw [tag_list hgd.up hgd.ok] at htg
  have hru := fun B c2 W (h : ItsRead W B L.length L) => rUnder15_any B L.length c2 L p W h (by omega) (fun x hx => (hsz x hx).1) (by omega)
  have hrt := fun B c2 W (h : ItsRead W B L.length L) => rTagged15_any B L.length c2 L cu tg W h (by omega) hsz
  have hlu : (L.filter fun x => underB p (adrT x.k)).length ≤ 1000000 := Nat.le_trans (List.length_filter_le _ _) (by omega)
  have hlt : (L.filter (rTagB cu tg)).length ≤ 1000000 := Nat.le_trans (List.length_filter_le _ _) (by omega)
  have HM := Lib.hid hmd; have HU := Lib.hid hun; have HT := Lib.hid htg; have HRU := Lib.hid hru; have HRT := Lib.hid hrt
  clear hmd hun htg hru hrt HMD hgd hsz hL h1 h2 h3 hf
  generalize L.filter (fun x => underB p (adrT x.k)) = RU at *
  generalize L.filter (rTagB cu tg) = RT at *
  go_enter Tryz.func3, Tryz.ntmps3
  go_upto_region 4 with (first | (go_at_call 9; refine (HFW.out _ belB).mono ?_; rintro e wf ⟨rfl, hbf⟩) | (go_at_call 11; refine (HM.out _ belB).mono ?_; rintro e wm ⟨P, B, c2, rfl, hix, hrd, hbm⟩))
  have hc0 := (RowV.new wm 27 [.pointer P]).cell (k := 0) rfl
  have hix4 := hix.keep (balloc (Below.refl _ _) (.cells #[.pointer P] 27))
  have hrd4 := hrd.keep (balloc (Below.refl _ _) (.cells #[.pointer P] 27))
  have hb4 : Below w.heap.size w (wm.alloc (.cells #[.pointer P] 27)) := balloc belB _
  generalize hw4 : wm.alloc (.cells #[.pointer P] 27) = w4 at *
  generalize wm.heap.size = g at *
  have HIX := Lib.hid hix4; have HRD := Lib.hid hrd4
  clear hw4 hix4 hrd4 hix hrd hbm hbf HM HFW HE
  go_wp2_with (first | (go_at_call 10; refine (HSN.out _ hb4).mono ?_; rintro e ws ⟨rfl, hbs⟩; clear HSN; have c0 := cell_keep hbs hc0) | (go_at_call 13; refine (HU.out P _ (HIX.out.keep hbs) (bstep hb4 hbs)).mono ?_; rintro e wa1 ⟨A1, a1, rfl, r1, hba1⟩; clear HU; have hq1 := bstep hbs hba1; have c1 := cell_keep hq1 hc0) | (go_at_call 14; refine (HRU.out B c2 _ (HRD.out.keep hq1)).mono ?_; rintro e wa2 ⟨A2, a2, rfl, r2, hba2⟩; clear HRU; have hq2 := bstep hq1 hba2; have r3 := r1.keep hba2; clear r1) | (go_at_call 12; refine (rSame15_eq _ _ _ _ _ _ _ r3 r2 hlu).mono ?_; rintro e wa3 ⟨rfl, hba3⟩; clear r3 r2; have hq3 := bstep hq2 hba3; have c3 := cell_keep hq3 hc0) | (go_at_call 15; refine (HT.out P _ (HIX.out.keep hq3) (bstep hb4 hq3)).mono ?_; rintro e wa4 ⟨A4, a4, rfl, r4, hba4⟩; clear HT; have hq4 := bstep hq3 hba4) | (go_at_call 16; refine (HRT.out B c2 _ (HRD.out.keep hq4)).mono ?_; rintro e wa5 ⟨A5, a5, rfl, r5, hba5⟩; clear HRT; have hq5 := bstep hq4 hba5; have r6 := r4.keep hba5; clear r4) | (go_at_call 12; refine (rSame15_eq _ _ _ _ _ _ _ r6 r5 hlt).mono ?_; rintro e wa6 ⟨rfl, hba6⟩; clear r6 r5; have hq6 := bstep hq5 hba6))
  go_ret
  exact ⟨rfl, bstep hb4 hq6⟩
end Go.Proofs.YtokfclikhfpmhaaGreatDoor
namespace Go.Proofs.YtokfclikhfpmhaaGreatDoor
open Go.RowKit Go.Sort
set_option linter.unusedVariables false
set_option linter.unusedSimpArgs false
set_option maxRecDepth 100000
theorem cellsOp : Tryz.prog.cellsOf 57 = 5 := by kernel_rfl
theorem list_of {α : Type} {p : Nat → α → Prop} : ∀ n : Nat, (∀ i, i < n → ∃ x, p i x) → ∃ l : List α, l.length = n ∧ ∀ i x, l[i]? = some x → p i x
  | 0, _ => ⟨[], rfl, fun i x h => by simp at h⟩
  | n + 1, h => by
    obtain ⟨l, h1, h2⟩ := list_of n (fun i hi => h i (by omega))
    obtain ⟨x, hx⟩ := h n (by omega)
    refine ⟨l ++ [x], by simp [h1], fun i y hy => ?_⟩
    rw [List.getElem?_append] at hy
    split at hy
    · exact h2 i y hy
    · rename_i hn
      have hlt := (List.getElem?_eq_some_iff.1 hy).1
      simp at hlt
      have : i = n := by omega
      subst this
      rw [h1] at hy
      simp at hy
      subst hy
      exact hx
theorem plain_addr {w : World} {a : Addr} {v : Value} (h : w.cell? (a.add 0) = some v) : ∃ b o, a = ⟨b, o, none⟩ := by
  obtain ⟨b, o, s⟩ := a
  refine ⟨b, o, ?_⟩
  have e : (⟨b, o, s⟩ : Addr).add 0 = ⟨b, o, s⟩ := by simp [Addr.add]
  rw [e] at h
  cases s with
  | none => rfl
  | some s =>
    unfold World.cell? at h
    split at h <;> simp at h
theorem add_plain (b o j : Nat) : (⟨b, o, none⟩ : Addr).add j = ⟨b, o + j, none⟩ := by
  unfold Addr.add; split <;> simp_all
section
variable {H : Type} {enc : TypeId × Value → H} {W : World} {base : Nat} {sp : Nat → Bool} {hd : Bool}
theorem slice_bound {t e : TypeId} (ht : Tryz.prog.underlying t = some (.slice e)) {A : Option Addr} {n c : Nat} {fuel : Nat} {x : DataW H × List MemPlace} (h : DataW.trod enc Tryz.prog W base sp hd fuel t [.slice A n c] = some x) : n ≤ 9223372036854775807 := by
  rcases Go.Deep.open_slice ht h with ⟨h0, _⟩ | ⟨a, len, cap, m, k, D, Pl, hcs, _, hl, hm, _⟩
  · injection h0 with h0
    injection h0 with h1 h2 h3
    omega
  · injection hcs with hcs
    injection hcs with h1 h2 h3
    unfold maxLen at hm
    omega
theorem it_row {fuel : Nat} {cs : List Value} {x : DataW H × List MemPlace} (hl : cs.length = 4) (h : DataW.trod enc Tryz.prog W base sp hd fuel 41 cs = some x) : ∃ y : It, cs = y.vals := by
  obtain ⟨ys, n', hn', hy, hlen, hyl, hg⟩ := DataW.trod_struct Tryz.underlying41 h
  match cs, hl with
  | [c1, c2, c3, c4], _ =>
    have hyl2 : ys.length = 4 := hyl
    have h1 : DataW.trod enc Tryz.prog W base sp hd n' 9 [c1] = ys[0]? := hg 0 _ rfl
    have h2 : DataW.trod enc Tryz.prog W base sp hd n' 9 [c2] = ys[1]? := hg 1 _ rfl
    have h3 : DataW.trod enc Tryz.prog W base sp hd n' 3 [c3] = ys[2]? := hg 2 _ rfl
    have h4 : DataW.trod enc Tryz.prog W base sp hd n' 3 [c4] = ys[3]? := hg 3 _ rfl
    rw [List.getElem?_eq_getElem (by omega)] at h1 h2 h3 h4
    obtain ⟨k, e1, _⟩ := DataW.trod_string Tryz.underlying9 h1
    obtain ⟨t, e2, _⟩ := DataW.trod_string Tryz.underlying9 h2
    obtain ⟨z, e3, _⟩ := DataW.trod_int Tryz.underlying3 h3
    obtain ⟨r, e4, _⟩ := DataW.trod_int Tryz.underlying3 h4
    injection e1 with e1; injection e2 with e2; injection e3 with e3; injection e4 with e4
    subst e1 e2 e3 e4
    exact ⟨⟨k, t, z, r⟩, rfl⟩
theorem op_row {fuel : Nat} {cs : List Value} {x : DataW H × List MemPlace} (hl : cs.length = 5) (h : DataW.trod enc Tryz.prog W base sp hd fuel 57 cs = some x) : ∃ y : OpI, cs = opC y := by
  obtain ⟨ys, n', hn', hy, hlen, hyl, hg⟩ := DataW.trod_struct Tryz.underlying57 h
  match cs, hl with
  | [c0, c1, c2, c3, c4], _ =>
    have hyl2 : ys.length = 2 := hyl
    have h0 : DataW.trod enc Tryz.prog W base sp hd n' 4 [c0] = ys[0]? := hg 0 _ rfl
    have h1 : DataW.trod enc Tryz.prog W base sp hd n' 41 [c1, c2, c3, c4] = ys[1]? := hg 1 _ rfl
    rw [List.getElem?_eq_getElem (by omega)] at h0 h1
    obtain ⟨b, e0, _⟩ := DataW.trod_bool Tryz.underlying4 h0
    obtain ⟨y, e1⟩ := it_row rfl h1
    injection e0 with e0
    subst e0
    refine ⟨⟨b, y⟩, ?_⟩
    unfold opC
    rw [e1]
    rfl
theorem open_ops {r : Reach} {b0 : Nat} {v : Value} {d : DataW H} {ps : List MemPlace} (hval : Value.okWide Tryz.prog W r b0 22 v) (h : DataW.Trod enc Tryz.prog W base sp hd 22 v d ps) :
    ∃ (A : Option Addr) (n c : Nat) (L : List OpI), v = .slice A n c ∧ OpsRead W A n L ∧ n ≤ 9223372036854775807 := by
  obtain ⟨fuel, hf⟩ := h
  obtain ⟨A, n, c, rfl⟩ := Go.WideShapes.okWide_slice Tryz.underlying22 hval
  have hf2 : DataW.trod enc Tryz.prog W base sp hd fuel 22 [.slice A n c] = some (d, ps) := by simpa [Value.cells] using hf
  have hn := slice_bound Tryz.underlying22 hf2
  rcases Go.Deep.open_slice Tryz.underlying22 hf2 with ⟨h0, _⟩ | ⟨a, len, cap, m, n', D, Pl, hcs, hb, hl, hm, hmm, hx, hi⟩
  · injection h0 with h0
    injection h0 with e1 e2 e3
    subst e1; subst e2; subst e3
    exact ⟨none, 0, 0, [], rfl, ⟨rfl, Reads.nil_ _ _ _⟩, hn⟩
  · injection hcs with hcs
    injection hcs with e1 e2 e3
    subst e1; subst e2; subst e3
    have hlm : n ≤ m := by rw [hmm]; split <;> omega
    obtain ⟨L, h1, h2⟩ := list_of (p := fun i (z : OpI) => ∀ j u, (opC z)[j]? = some u → W.cell? ((a.add (i * 5)).add j) = some u) n (fun i hil => by
      obtain ⟨cs', hcc, ht'⟩ := hi i (by omega)
      rw [cellsOp] at hcc
      obtain ⟨_, hcl, hat⟩ := World.cells?_some hcc
      obtain ⟨z, rfl⟩ := op_row hcl ht'
      refine ⟨z, fun j u hu => ?_⟩
      have hj : j < 5 := (List.getElem?_eq_some_iff.1 hu).1
      rw [hat j hj]; exact hu)
    refine ⟨some a, n, c, L, rfl, ⟨h1, by rw [opsC_len, h1], fun hn => ?_⟩, hn⟩
    obtain ⟨z0, hz0⟩ : ∃ z, L[0]? = some z := ⟨_, List.getElem?_eq_getElem (by omega)⟩
    obtain ⟨b, o, rfl⟩ := plain_addr (a := a) (w := W) (by have := h2 0 z0 hz0 0 _ rfl; simpa [Addr.add] using this)
    refine ⟨b, o, rfl, fun j u hu => ?_⟩
    have hjl := (List.getElem?_eq_some_iff.1 hu).1
    rw [opsC_len] at hjl
    obtain ⟨z, hz⟩ : ∃ z, L[j / 5]? = some z := ⟨_, List.getElem?_eq_getElem (by omega)⟩
    have h3 := opsC_at L (j / 5) (j % 5) z hz (by omega)
    rw [show 5 * (j / 5) + j % 5 = j by omega] at h3
    have h4 := h2 (j / 5) z hz (j % 5) u (h3.symm.trans hu)
    rw [add_plain, add_plain] at h4
    rw [show o + j = o + j / 5 * 5 + j % 5 by omega]
    exact h4
end
end Go.Proofs.YtokfclikhfpmhaaGreatDoor
