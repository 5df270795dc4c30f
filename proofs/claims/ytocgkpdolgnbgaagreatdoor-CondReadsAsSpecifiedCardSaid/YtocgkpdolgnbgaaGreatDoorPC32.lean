/- What CondReadsAsSpecified returns: true. -/
import Derived.Test.YtocgkpdolgnbgaaGreatDoorPGN
import Derived.Test.YtocgkpdolgnbgaaGreatDoorPC30
import Derived.Test.YtocgkpdolgnbgaaGreatDoorPR14
import Derived.Test.YtocgkpdolgnbgaaGreatDoorProg
import Derived.WalkKit
import Derived.WalkSpells
import Derived.WalkLawsBesides
import Derived.Below
import Derived.Deep.QuietTactic
import Derived.BigQuiet
import Derived.Lib.QuietBelow
import Derived.Lib.Strings
import Derived.Lib.Hide
import Derived.Deep.RegionWith
import Derived.Deep.RegionHeld3
import Derived.Lib.IndexBytes
namespace Go.Proofs.YtocgkpdolgnbgaaGreatDoor
open Go.RowKit Go.Sort
set_option linter.unusedVariables false
set_option linter.unusedSimpArgs false
set_option maxRecDepth 100000
set_option maxHeartbeats 32000000 in
theorem lawReadsC (s : ByteArray) (c : CondV) (mc : CondMem) (w : World) (hR : CondReads w c mc) (hE : Env w) (hT : Tab w) (hX : Errs w) (h2 : 2 < w.heap.size) :
    Calls Tryz.prog 5 #[.string s, CondMem.val c mc] w (Ret w (.bool true)) := by
  have g1 := fun W (hb : Below w.heap.size w W) => few_cond c mc W (hR.keep hb)
  have HE := Lib.hid hE
  have HT := Lib.hid hT
  by_cases hs : 3000 < s.size
  · have hs1 : (3000 : Int) < (s.size : Int) := by omega
    clear g1 hE hT hX h2 hR hs
    unfold CondMem.val
    go_enter Tryz.func5, Tryz.ntmps5
    go_wp2_with (go_at_call 11; refine (san21_any _ (HE.out.keep (by (repeat (first | exact .refl _ _ | assumption | refine .drew ?_ | refine balloc ?_ _ | refine bdrewN ?_ _ | refine .setCell ?_ (by simp <;> omega) _ | refine bstep ?_ (by assumption))))) (HT.out.keep (by (repeat (first | exact .refl _ _ | assumption | refine .drew ?_ | refine balloc ?_ _ | refine bdrewN ?_ _ | refine .setCell ?_ (by simp <;> omega) _ | refine bstep ?_ (by assumption)))))).mono ?_; rintro e ws ⟨rfl, hbs⟩)
    go_ret
    exact ⟨rfl, (balloc (Below.refl _ _) _).trans (hbs.mono (by simp))⟩
  have hs1 : ¬ (3000 : Int) < (s.size : Int) := by omega
  have hsz : s.size ≤ 100000 := by omega
  cases hfc : fewV c
  · rw [hfc] at g1
    have G1 := Lib.hid g1
    clear g1 hE hT hX h2 hR hs hsz hfc
    unfold CondMem.val at *
    go_enter Tryz.func5, Tryz.ntmps5
    go_wp2_with (first | (go_at_call 10; refine (G1.out _ (by (repeat (first | exact .refl _ _ | assumption | refine .drew ?_ | refine balloc ?_ _ | refine bdrewN ?_ _ | refine .setCell ?_ (by simp <;> omega) _ | refine bstep ?_ (by assumption))))).mono ?_; rintro e w2 ⟨rfl, hb2⟩; clear G1; have hbw : Below w.heap.size w w2 := (by (repeat (first | exact .refl _ _ | assumption | refine .drew ?_ | refine balloc ?_ _ | refine bdrewN ?_ _ | refine .setCell ?_ (by simp <;> omega) _ | refine bstep ?_ (by assumption)))); (have hY2 : VBox w2 (w.heap.size) c mc := (by first | exact VBox.keep hY2 hb2 | exact Blk.keep (World.alloc_heap_new _ _) hb2)); (try clear y0 y1 y2 y3 y4 y5 y6); obtain ⟨y0, y1, y2, y3, y4, y5, y6⟩ := hY2.facts) | (go_at_call 11; refine (san21_any _ (HE.out.keep hbw) (HT.out.keep hbw)).mono ?_; rintro e ws ⟨rfl, hbs⟩))
    go_ret
    exact ⟨rfl, bstep hbw hbs⟩
  rw [hfc] at g1
  have fc := few_fits hfc
  have fX := readR_fits s hsz
  have p1 := fun W (hb : Below w.heap.size w W) => condParse_any s W hsz (hE.keep hb) (hX.keep hb) (hT.keep hb) (Nat.lt_of_lt_of_le h2 hb.size)
  rw [read_eq s] at p1
  have r1 := fun W => rParse21_any s W hsz
  have tx := fun n W hn (hb : Below w.heap.size w W) => text_all ((readR s).getD zeroC) n W hn fX (hE.keep hb) (hT.keep hb)
  have hte := readR_textE s
  have v1 := fun W (hb : Below w.heap.size w W) => condValid_any c mc W (hR.keep hb) fc.p fc.cl fc.co fc.n1 fc.n2 fc.n3 (hE.keep hb)
  have tc := fun W (hb : Below w.heap.size w W) => text_all c mc W (hR.keep hb) fc (hE.keep hb) (hT.keep hb)
  have sx := fun n n' W hn hn' => same_cond ((readR s).getD zeroC) n n' W hn hn' fX
  have sc := fun n W hn (hb : Below w.heap.size w W) => same_cond c n mc W hn (hR.keep hb) fc
  unfold ReadPost at p1
  unfold RMadePost at r1
  cases hok : (readR s).isSome
  rotate_left
  · rw [hok] at p1 r1
    rw [hte hok] at tx
    rw [if_pos rfl] at p1 r1
    generalize (readR s).getD zeroC = X at *
    cases hv : validC c
    · rw [hv] at v1
      have G1 := Lib.hid g1; have P1 := Lib.hid p1; have R1 := Lib.hid r1; have V1 := Lib.hid v1; have SX := Lib.hid sx; have TX := Lib.hid tx
      have b2 : (s.toList == s.toList) = true := by simp
      clear g1 p1 r1 v1 sx fc fX hfc hR hE hT hX h2 hs hsz hok hv tx hte tc sc
      unfold CondMem.val at *
      go_enter Tryz.func5, Tryz.ntmps5
      go_wp2_with (go_at_call 10; refine (G1.out _ (by (repeat (first | exact .refl _ _ | assumption | refine .drew ?_ | refine balloc ?_ _ | refine bdrewN ?_ _ | refine .setCell ?_ (by simp <;> omega) _ | refine bstep ?_ (by assumption))))).mono ?_; rintro e w2 ⟨rfl, hb2⟩; clear G1; have hbw : Below w.heap.size w w2 := (by (repeat (first | exact .refl _ _ | assumption | refine .drew ?_ | refine balloc ?_ _ | refine bdrewN ?_ _ | refine .setCell ?_ (by simp <;> omega) _ | refine bstep ?_ (by assumption)))); (have hY2 : VBox w2 (w.heap.size) c mc := (by first | exact VBox.keep hY2 hb2 | exact Blk.keep (World.alloc_heap_new _ _) hb2)); (try clear y0 y1 y2 y3 y4 y5 y6); obtain ⟨y0, y1, y2, y3, y4, y5, y6⟩ := hY2.facts)
      have hbw2 := hbw
      clear hbw hb2 y0 y1 y2 y3 y4 y5 y6
      refine (P1.out _ hbw2).mono ?_; rintro e w3 ⟨hb3, m1, rfl, hr13⟩
      have hbw3 := bstep hbw2 (hb3)
      have hY3 : VBox w3 (w.heap.size) c mc := hY2.keep (hb3)
      clear hb3 hbw2 hY2
      try dsimp only
      obtain ⟨y0, y1, y2, y3, y4, y5, y6⟩ := hY3.facts
      have ly := Blk.lt hY3
      go_wp2_with fail
      clear y0 y1 y2 y3 y4 y5 y6 ly
      refine (R1.out _).mono ?_; rintro e w4 ⟨hb4, m2, rfl, hr24⟩
      have hbw4 := bstep hbw3 (blater _ hb4)
      have hY4 : VBox w4 (w.heap.size) c mc := hY3.keep (blater _ hb4)
      have hr14 := hr13.keep (blater _ hb4)
      have hP4 : VBox w4 (w3.heap.size) X m1 := Blk.keep (World.alloc_heap_new _ _) hb4
      clear hb4 hbw3 hY3 hr13
      try dsimp only
      obtain ⟨y0, y1, y2, y3, y4, y5, y6⟩ := hY4.facts
      have ly := Blk.lt hY4
      obtain ⟨v0, v1, v2, v3, v4, v5, v6⟩ := hP4.facts
      have lv := Blk.lt hP4
      go_wp2_with fail
      clear y0 y1 y2 y3 y4 y5 y6 v0 v1 v2 v3 v4 v5 v6 ly lv
      refine (SX.out m1 m2 _ (hr14.keep (by (repeat (first | exact .refl _ _ | assumption | refine .drew ?_ | refine balloc ?_ _ | refine bdrewN ?_ _ | refine .setCell ?_ (by simp <;> omega) _ | refine bstep ?_ (by assumption))))) (hr24.keep (by (repeat (first | exact .refl _ _ | assumption | refine .drew ?_ | refine balloc ?_ _ | refine bdrewN ?_ _ | refine .setCell ?_ (by simp <;> omega) _ | refine bstep ?_ (by assumption)))))).mono ?_; rintro e w5 ⟨rfl, hb5⟩
      have hbw5 := bstep hbw4 (blater _ hb5)
      have hY5 : VBox w5 (w.heap.size) c mc := hY4.keep (blater _ hb5)
      have hP5 : VBox w5 (w3.heap.size) X m1 := hP4.keep (blater _ hb5)
      have hr15 := hr14.keep (blater _ hb5)
      have hr25 := hr24.keep (blater _ hb5)
      have hQ5 : MX w5 (w4.heap.size) X m2 0 := Blk.keep (World.alloc_heap_new _ _) hb5
      clear hb5 hbw4 hY4 hP4 hr14 hr24
      try dsimp only
      obtain ⟨y0, y1, y2, y3, y4, y5, y6⟩ := hY5.facts
      have ly := Blk.lt hY5
      obtain ⟨v0, v1, v2, v3, v4, v5, v6⟩ := hP5.facts
      have lv := Blk.lt hP5
      obtain ⟨u0, u1, u2, u3, u4, u5, u6, u7⟩ := hQ5.facts
      have lu := Blk.lt hQ5
      go_wp2_with fail
      clear y0 y1 y2 y3 y4 y5 y6 v0 v1 v2 v3 v4 v5 v6 u0 u1 u2 u3 u4 u5 u6 u7 ly lv lu
      refine (TX.out m1 _ hr15 hbw5).mono ?_; rintro e w6 ⟨rfl, hb6⟩
      have hbw6 := bstep hbw5 (hb6)
      have hY6 : VBox w6 (w.heap.size) c mc := hY5.keep (hb6)
      have hP6 : VBox w6 (w3.heap.size) X m1 := hP5.keep (hb6)
      have hQ6 : MX w6 (w4.heap.size) X m2 0 := hQ5.keep (hb6)
      have hr16 := hr15.keep (hb6)
      have hr26 := hr25.keep (hb6)
      clear hb6 hbw5 hY5 hP5 hQ5 hr15 hr25
      try dsimp only
      obtain ⟨y0, y1, y2, y3, y4, y5, y6⟩ := hY6.facts
      have ly := Blk.lt hY6
      obtain ⟨v0, v1, v2, v3, v4, v5, v6⟩ := hP6.facts
      have lv := Blk.lt hP6
      obtain ⟨u0, u1, u2, u3, u4, u5, u6, u7⟩ := hQ6.facts
      have lu := Blk.lt hQ6
      go_wp2_with fail
      clear y0 y1 y2 y3 y4 y5 y6 v0 v1 v2 v3 v4 v5 v6 u0 u1 u2 u3 u4 u5 u6 u7 ly lv lu
      refine (V1.out _ hbw6).mono ?_; rintro e w7 ⟨rfl, hb7⟩
      have hbw7 := bstep hbw6 (hb7)
      have hY7 : VBox w7 (w.heap.size) c mc := hY6.keep (hb7)
      have hP7 : VBox w7 (w3.heap.size) X m1 := hP6.keep (hb7)
      have hQ7 : MX w7 (w4.heap.size) X m2 0 := hQ6.keep (hb7)
      have hr17 := hr16.keep (hb7)
      have hr27 := hr26.keep (hb7)
      clear hb7 hbw6 hY6 hP6 hQ6 hr16 hr26
      try dsimp only
      obtain ⟨y0, y1, y2, y3, y4, y5, y6⟩ := hY7.facts
      have ly := Blk.lt hY7
      obtain ⟨v0, v1, v2, v3, v4, v5, v6⟩ := hP7.facts
      have lv := Blk.lt hP7
      obtain ⟨u0, u1, u2, u3, u4, u5, u6, u7⟩ := hQ7.facts
      have lu := Blk.lt hQ7
      go_wp2_with fail
      clear y0 y1 y2 y3 y4 y5 y6 v0 v1 v2 v3 v4 v5 v6 u0 u1 u2 u3 u4 u5 u6 u7 ly lv lu
      refine (san21_any _ (HE.out.keep (by (repeat (first | exact .refl _ _ | assumption | refine .drew ?_ | refine balloc ?_ _ | refine bdrewN ?_ _ | refine .setCell ?_ (by simp <;> omega) _ | refine bstep ?_ (by assumption))))) (HT.out.keep (by (repeat (first | exact .refl _ _ | assumption | refine .drew ?_ | refine balloc ?_ _ | refine bdrewN ?_ _ | refine .setCell ?_ (by simp <;> omega) _ | refine bstep ?_ (by assumption)))))).mono ?_; rintro e w8 ⟨rfl, hb8⟩
      have hbw8 := bstep hbw7 (hb8)
      have hY8 : VBox w8 (w.heap.size) c mc := hY7.keep (hb8)
      have hP8 : VBox w8 (w3.heap.size) X m1 := hP7.keep (hb8)
      have hQ8 : MX w8 (w4.heap.size) X m2 0 := hQ7.keep (hb8)
      have hr18 := hr17.keep (hb8)
      have hr28 := hr27.keep (hb8)
      clear hb8 hbw7 hY7 hP7 hQ7 hr17 hr27
      obtain ⟨y0, y1, y2, y3, y4, y5, y6⟩ := hY8.facts
      have ly := Blk.lt hY8
      obtain ⟨v0, v1, v2, v3, v4, v5, v6⟩ := hP8.facts
      have lv := Blk.lt hP8
      obtain ⟨u0, u1, u2, u3, u4, u5, u6, u7⟩ := hQ8.facts
      have lu := Blk.lt hQ8
      go_wp2_with fail
      go_ret
      exact ⟨rfl, hbw8⟩
    · rw [hv] at v1
      have p2 := fun W (hb : Below w.heap.size w W) => condParse_any (textC c) W (textC_size hv hfc) (hE.keep hb) (hX.keep hb) (hT.keep hb) (Nat.lt_of_lt_of_le h2 hb.size)
      rw [readC_text hv] at p2
      have hq : textE c = (textC c, 0) := by unfold textE; rw [hv]; rfl
      rw [hq] at tc
      unfold ReadPost at p2
      generalize textC c = T at *
      have P2 := Lib.hid (show ∀ W, Below w.heap.size w W → Calls Tryz.prog 20 #[.string T] W fun e w' => Below W.heap.size W w' ∧ ∃ m, e = .returned (.tuple #[CondMem.val c m, .int .i64 0]) ∧ CondReads w' c m from p2); have TC := Lib.hid tc; have SC := Lib.hid sc
      have G1 := Lib.hid g1; have P1 := Lib.hid p1; have R1 := Lib.hid r1; have V1 := Lib.hid v1; have SX := Lib.hid sx; have TX := Lib.hid tx
      have b1 : (T.toList == T.toList) = true := by simp
      have b2 : (s.toList == s.toList) = true := by simp
      clear g1 p1 r1 v1 sx fc fX hfc hR hE hT hX h2 hs hsz hok hv tx hte p2 tc sc hq
      unfold CondMem.val at *
      go_enter Tryz.func5, Tryz.ntmps5
      go_wp2_with (go_at_call 10; refine (G1.out _ (by (repeat (first | exact .refl _ _ | assumption | refine .drew ?_ | refine balloc ?_ _ | refine bdrewN ?_ _ | refine .setCell ?_ (by simp <;> omega) _ | refine bstep ?_ (by assumption))))).mono ?_; rintro e w2 ⟨rfl, hb2⟩; clear G1; have hbw : Below w.heap.size w w2 := (by (repeat (first | exact .refl _ _ | assumption | refine .drew ?_ | refine balloc ?_ _ | refine bdrewN ?_ _ | refine .setCell ?_ (by simp <;> omega) _ | refine bstep ?_ (by assumption)))); (have hY2 : VBox w2 (w.heap.size) c mc := (by first | exact VBox.keep hY2 hb2 | exact Blk.keep (World.alloc_heap_new _ _) hb2)); (try clear y0 y1 y2 y3 y4 y5 y6); obtain ⟨y0, y1, y2, y3, y4, y5, y6⟩ := hY2.facts)
      have hbw2 := hbw
      clear hbw hb2 y0 y1 y2 y3 y4 y5 y6
      refine (P1.out _ hbw2).mono ?_; rintro e w3 ⟨hb3, m1, rfl, hr13⟩
      have hbw3 := bstep hbw2 (hb3)
      have hY3 : VBox w3 (w.heap.size) c mc := hY2.keep (hb3)
      clear hb3 hbw2 hY2
      try dsimp only
      obtain ⟨y0, y1, y2, y3, y4, y5, y6⟩ := hY3.facts
      have ly := Blk.lt hY3
      go_wp2_with fail
      clear y0 y1 y2 y3 y4 y5 y6 ly
      refine (R1.out _).mono ?_; rintro e w4 ⟨hb4, m2, rfl, hr24⟩
      have hbw4 := bstep hbw3 (blater _ hb4)
      have hY4 : VBox w4 (w.heap.size) c mc := hY3.keep (blater _ hb4)
      have hr14 := hr13.keep (blater _ hb4)
      have hP4 : VBox w4 (w3.heap.size) X m1 := Blk.keep (World.alloc_heap_new _ _) hb4
      clear hb4 hbw3 hY3 hr13
      try dsimp only
      obtain ⟨y0, y1, y2, y3, y4, y5, y6⟩ := hY4.facts
      have ly := Blk.lt hY4
      obtain ⟨v0, v1, v2, v3, v4, v5, v6⟩ := hP4.facts
      have lv := Blk.lt hP4
      go_wp2_with fail
      clear y0 y1 y2 y3 y4 y5 y6 v0 v1 v2 v3 v4 v5 v6 ly lv
      refine (SX.out m1 m2 _ (hr14.keep (by (repeat (first | exact .refl _ _ | assumption | refine .drew ?_ | refine balloc ?_ _ | refine bdrewN ?_ _ | refine .setCell ?_ (by simp <;> omega) _ | refine bstep ?_ (by assumption))))) (hr24.keep (by (repeat (first | exact .refl _ _ | assumption | refine .drew ?_ | refine balloc ?_ _ | refine bdrewN ?_ _ | refine .setCell ?_ (by simp <;> omega) _ | refine bstep ?_ (by assumption)))))).mono ?_; rintro e w5 ⟨rfl, hb5⟩
      have hbw5 := bstep hbw4 (blater _ hb5)
      have hY5 : VBox w5 (w.heap.size) c mc := hY4.keep (blater _ hb5)
      have hP5 : VBox w5 (w3.heap.size) X m1 := hP4.keep (blater _ hb5)
      have hr15 := hr14.keep (blater _ hb5)
      have hr25 := hr24.keep (blater _ hb5)
      have hQ5 : MX w5 (w4.heap.size) X m2 0 := Blk.keep (World.alloc_heap_new _ _) hb5
      clear hb5 hbw4 hY4 hP4 hr14 hr24
      try dsimp only
      obtain ⟨y0, y1, y2, y3, y4, y5, y6⟩ := hY5.facts
      have ly := Blk.lt hY5
      obtain ⟨v0, v1, v2, v3, v4, v5, v6⟩ := hP5.facts
      have lv := Blk.lt hP5
      obtain ⟨u0, u1, u2, u3, u4, u5, u6, u7⟩ := hQ5.facts
      have lu := Blk.lt hQ5
      go_wp2_with fail
      clear y0 y1 y2 y3 y4 y5 y6 v0 v1 v2 v3 v4 v5 v6 u0 u1 u2 u3 u4 u5 u6 u7 ly lv lu
      refine (TX.out m1 _ hr15 hbw5).mono ?_; rintro e w6 ⟨rfl, hb6⟩
      have hbw6 := bstep hbw5 (hb6)
      have hY6 : VBox w6 (w.heap.size) c mc := hY5.keep (hb6)
      have hP6 : VBox w6 (w3.heap.size) X m1 := hP5.keep (hb6)
      have hQ6 : MX w6 (w4.heap.size) X m2 0 := hQ5.keep (hb6)
      have hr16 := hr15.keep (hb6)
      have hr26 := hr25.keep (hb6)
      clear hb6 hbw5 hY5 hP5 hQ5 hr15 hr25
      try dsimp only
      obtain ⟨y0, y1, y2, y3, y4, y5, y6⟩ := hY6.facts
      have ly := Blk.lt hY6
      obtain ⟨v0, v1, v2, v3, v4, v5, v6⟩ := hP6.facts
      have lv := Blk.lt hP6
      obtain ⟨u0, u1, u2, u3, u4, u5, u6, u7⟩ := hQ6.facts
      have lu := Blk.lt hQ6
      go_wp2_with fail
      clear y0 y1 y2 y3 y4 y5 y6 v0 v1 v2 v3 v4 v5 v6 u0 u1 u2 u3 u4 u5 u6 u7 ly lv lu
      refine (V1.out _ hbw6).mono ?_; rintro e w7 ⟨rfl, hb7⟩
      have hbw7 := bstep hbw6 (hb7)
      have hY7 : VBox w7 (w.heap.size) c mc := hY6.keep (hb7)
      have hP7 : VBox w7 (w3.heap.size) X m1 := hP6.keep (hb7)
      have hQ7 : MX w7 (w4.heap.size) X m2 0 := hQ6.keep (hb7)
      have hr17 := hr16.keep (hb7)
      have hr27 := hr26.keep (hb7)
      clear hb7 hbw6 hY6 hP6 hQ6 hr16 hr26
      try dsimp only
      obtain ⟨y0, y1, y2, y3, y4, y5, y6⟩ := hY7.facts
      have ly := Blk.lt hY7
      obtain ⟨v0, v1, v2, v3, v4, v5, v6⟩ := hP7.facts
      have lv := Blk.lt hP7
      obtain ⟨u0, u1, u2, u3, u4, u5, u6, u7⟩ := hQ7.facts
      have lu := Blk.lt hQ7
      go_wp2_with fail
      clear y0 y1 y2 y3 y4 y5 y6 v0 v1 v2 v3 v4 v5 v6 u0 u1 u2 u3 u4 u5 u6 u7 ly lv lu
      refine (TC.out _ hbw7).mono ?_; rintro e w8 ⟨rfl, hb8⟩
      have hbw8 := bstep hbw7 (hb8)
      have hY8 : VBox w8 (w.heap.size) c mc := hY7.keep (hb8)
      have hP8 : VBox w8 (w3.heap.size) X m1 := hP7.keep (hb8)
      have hQ8 : MX w8 (w4.heap.size) X m2 0 := hQ7.keep (hb8)
      have hr18 := hr17.keep (hb8)
      have hr28 := hr27.keep (hb8)
      clear hb8 hbw7 hY7 hP7 hQ7 hr17 hr27
      try dsimp only
      obtain ⟨y0, y1, y2, y3, y4, y5, y6⟩ := hY8.facts
      have ly := Blk.lt hY8
      obtain ⟨v0, v1, v2, v3, v4, v5, v6⟩ := hP8.facts
      have lv := Blk.lt hP8
      obtain ⟨u0, u1, u2, u3, u4, u5, u6, u7⟩ := hQ8.facts
      have lu := Blk.lt hQ8
      go_wp2_with fail
      clear y0 y1 y2 y3 y4 y5 y6 v0 v1 v2 v3 v4 v5 v6 u0 u1 u2 u3 u4 u5 u6 u7 ly lv lu
      refine (P2.out _ hbw8).mono ?_; rintro e w9 ⟨hb9, m3, rfl, hr39⟩
      have hbw9 := bstep hbw8 (hb9)
      have hY9 : VBox w9 (w.heap.size) c mc := hY8.keep (hb9)
      have hP9 : VBox w9 (w3.heap.size) X m1 := hP8.keep (hb9)
      have hQ9 : MX w9 (w4.heap.size) X m2 0 := hQ8.keep (hb9)
      have hr19 := hr18.keep (hb9)
      have hr29 := hr28.keep (hb9)
      clear hb9 hbw8 hY8 hP8 hQ8 hr18 hr28
      try dsimp only
      obtain ⟨y0, y1, y2, y3, y4, y5, y6⟩ := hY9.facts
      have ly := Blk.lt hY9
      obtain ⟨v0, v1, v2, v3, v4, v5, v6⟩ := hP9.facts
      have lv := Blk.lt hP9
      obtain ⟨u0, u1, u2, u3, u4, u5, u6, u7⟩ := hQ9.facts
      have lu := Blk.lt hQ9
      go_wp2_with fail
      clear y0 y1 y2 y3 y4 y5 y6 v0 v1 v2 v3 v4 v5 v6 u0 u1 u2 u3 u4 u5 u6 u7 ly lv lu
      refine (san21_any _ (HE.out.keep (by (repeat (first | exact .refl _ _ | assumption | refine .drew ?_ | refine balloc ?_ _ | refine bdrewN ?_ _ | refine .setCell ?_ (by simp <;> omega) _ | refine bstep ?_ (by assumption))))) (HT.out.keep (by (repeat (first | exact .refl _ _ | assumption | refine .drew ?_ | refine balloc ?_ _ | refine bdrewN ?_ _ | refine .setCell ?_ (by simp <;> omega) _ | refine bstep ?_ (by assumption)))))).mono ?_; rintro e w10 ⟨rfl, hb10⟩
      have hbw10 := bstep hbw9 (blater _ hb10)
      have hY10 : VBox w10 (w.heap.size) c mc := hY9.keep (blater _ hb10)
      have hP10 : VBox w10 (w3.heap.size) X m1 := hP9.keep (blater _ hb10)
      have hQ10 : MX w10 (w4.heap.size) X m2 0 := hQ9.keep (blater _ hb10)
      have hr110 := hr19.keep (blater _ hb10)
      have hr210 := hr29.keep (blater _ hb10)
      have hr310 := hr39.keep (blater _ hb10)
      have hS10 : VBox w10 (w9.heap.size) c m3 := Blk.keep (World.alloc_heap_new _ _) hb10
      clear hb10 hbw9 hY9 hP9 hQ9 hr19 hr29 hr39
      try dsimp only
      obtain ⟨y0, y1, y2, y3, y4, y5, y6⟩ := hY10.facts
      have ly := Blk.lt hY10
      obtain ⟨v0, v1, v2, v3, v4, v5, v6⟩ := hP10.facts
      have lv := Blk.lt hP10
      obtain ⟨u0, u1, u2, u3, u4, u5, u6, u7⟩ := hQ10.facts
      have lu := Blk.lt hQ10
      obtain ⟨s0, s1, s2, s3, s4, s5, s6⟩ := hS10.facts
      have ls := Blk.lt hS10
      go_wp2_with fail
      clear y0 y1 y2 y3 y4 y5 y6 v0 v1 v2 v3 v4 v5 v6 u0 u1 u2 u3 u4 u5 u6 u7 s0 s1 s2 s3 s4 s5 s6 ly lv lu ls
      refine (SC.out m3 _ hr310 hbw10).mono ?_; rintro e w11 ⟨rfl, hb11⟩
      have hbw11 := bstep hbw10 (hb11)
      have hY11 : VBox w11 (w.heap.size) c mc := hY10.keep (hb11)
      have hP11 : VBox w11 (w3.heap.size) X m1 := hP10.keep (hb11)
      have hQ11 : MX w11 (w4.heap.size) X m2 0 := hQ10.keep (hb11)
      have hS11 : VBox w11 (w9.heap.size) c m3 := hS10.keep (hb11)
      have hr111 := hr110.keep (hb11)
      have hr211 := hr210.keep (hb11)
      have hr311 := hr310.keep (hb11)
      clear hb11 hbw10 hY10 hP10 hQ10 hS10 hr110 hr210 hr310
      obtain ⟨y0, y1, y2, y3, y4, y5, y6⟩ := hY11.facts
      have ly := Blk.lt hY11
      obtain ⟨v0, v1, v2, v3, v4, v5, v6⟩ := hP11.facts
      have lv := Blk.lt hP11
      obtain ⟨u0, u1, u2, u3, u4, u5, u6, u7⟩ := hQ11.facts
      have lu := Blk.lt hQ11
      obtain ⟨s0, s1, s2, s3, s4, s5, s6⟩ := hS11.facts
      have ls := Blk.lt hS11
      go_wp2_with fail
      go_ret
      exact ⟨rfl, hbw11⟩
  · rw [hok] at p1 r1
    rw [if_neg Bool.false_ne_true] at p1 r1
    clear tx hte
    generalize (readR s).getD zeroC = X at *
    cases hv : validC c
    · rw [hv] at v1
      have G1 := Lib.hid g1; have P1 := Lib.hid p1; have R1 := Lib.hid r1; have V1 := Lib.hid v1; have SX := Lib.hid sx
      have b2 : (s.toList == s.toList) = true := by simp
      clear g1 p1 r1 v1 sx fc fX hfc hR hE hT hX h2 hs hsz hok hv tc sc
      unfold CondMem.val at *
      go_enter Tryz.func5, Tryz.ntmps5
      go_wp2_with (go_at_call 10; refine (G1.out _ (by (repeat (first | exact .refl _ _ | assumption | refine .drew ?_ | refine balloc ?_ _ | refine bdrewN ?_ _ | refine .setCell ?_ (by simp <;> omega) _ | refine bstep ?_ (by assumption))))).mono ?_; rintro e w2 ⟨rfl, hb2⟩; clear G1; have hbw : Below w.heap.size w w2 := (by (repeat (first | exact .refl _ _ | assumption | refine .drew ?_ | refine balloc ?_ _ | refine bdrewN ?_ _ | refine .setCell ?_ (by simp <;> omega) _ | refine bstep ?_ (by assumption)))); (have hY2 : VBox w2 (w.heap.size) c mc := (by first | exact VBox.keep hY2 hb2 | exact Blk.keep (World.alloc_heap_new _ _) hb2)); (try clear y0 y1 y2 y3 y4 y5 y6); obtain ⟨y0, y1, y2, y3, y4, y5, y6⟩ := hY2.facts)
      have hbw2 := hbw
      clear hbw hb2 y0 y1 y2 y3 y4 y5 y6
      refine (P1.out _ hbw2).mono ?_; rintro e w3 ⟨hb3, m1, rfl, hr13⟩
      have hbw3 := bstep hbw2 (hb3)
      have hY3 : VBox w3 (w.heap.size) c mc := hY2.keep (hb3)
      clear hb3 hbw2 hY2
      try dsimp only
      obtain ⟨y0, y1, y2, y3, y4, y5, y6⟩ := hY3.facts
      have ly := Blk.lt hY3
      go_wp2_with fail
      clear y0 y1 y2 y3 y4 y5 y6 ly
      refine (R1.out _).mono ?_; rintro e w4 ⟨hb4, m2, rfl, hr24⟩
      have hbw4 := bstep hbw3 (blater _ hb4)
      have hY4 : VBox w4 (w.heap.size) c mc := hY3.keep (blater _ hb4)
      have hr14 := hr13.keep (blater _ hb4)
      have hP4 : VBox w4 (w3.heap.size) X m1 := Blk.keep (World.alloc_heap_new _ _) hb4
      clear hb4 hbw3 hY3 hr13
      try dsimp only
      obtain ⟨y0, y1, y2, y3, y4, y5, y6⟩ := hY4.facts
      have ly := Blk.lt hY4
      obtain ⟨v0, v1, v2, v3, v4, v5, v6⟩ := hP4.facts
      have lv := Blk.lt hP4
      go_wp2_with fail
      clear y0 y1 y2 y3 y4 y5 y6 v0 v1 v2 v3 v4 v5 v6 ly lv
      refine (SX.out m1 m2 _ (hr14.keep (by (repeat (first | exact .refl _ _ | assumption | refine .drew ?_ | refine balloc ?_ _ | refine bdrewN ?_ _ | refine .setCell ?_ (by simp <;> omega) _ | refine bstep ?_ (by assumption))))) (hr24.keep (by (repeat (first | exact .refl _ _ | assumption | refine .drew ?_ | refine balloc ?_ _ | refine bdrewN ?_ _ | refine .setCell ?_ (by simp <;> omega) _ | refine bstep ?_ (by assumption)))))).mono ?_; rintro e w5 ⟨rfl, hb5⟩
      have hbw5 := bstep hbw4 (blater _ hb5)
      have hY5 : VBox w5 (w.heap.size) c mc := hY4.keep (blater _ hb5)
      have hP5 : VBox w5 (w3.heap.size) X m1 := hP4.keep (blater _ hb5)
      have hr15 := hr14.keep (blater _ hb5)
      have hr25 := hr24.keep (blater _ hb5)
      have hQ5 : MX w5 (w4.heap.size) X m2 3 := Blk.keep (World.alloc_heap_new _ _) hb5
      clear hb5 hbw4 hY4 hP4 hr14 hr24
      try dsimp only
      obtain ⟨y0, y1, y2, y3, y4, y5, y6⟩ := hY5.facts
      have ly := Blk.lt hY5
      obtain ⟨v0, v1, v2, v3, v4, v5, v6⟩ := hP5.facts
      have lv := Blk.lt hP5
      obtain ⟨u0, u1, u2, u3, u4, u5, u6, u7⟩ := hQ5.facts
      have lu := Blk.lt hQ5
      go_wp2_with fail
      clear y0 y1 y2 y3 y4 y5 y6 v0 v1 v2 v3 v4 v5 v6 u0 u1 u2 u3 u4 u5 u6 u7 ly lv lu
      refine (V1.out _ hbw5).mono ?_; rintro e w6 ⟨rfl, hb6⟩
      have hbw6 := bstep hbw5 (hb6)
      have hY6 : VBox w6 (w.heap.size) c mc := hY5.keep (hb6)
      have hP6 : VBox w6 (w3.heap.size) X m1 := hP5.keep (hb6)
      have hQ6 : MX w6 (w4.heap.size) X m2 3 := hQ5.keep (hb6)
      have hr16 := hr15.keep (hb6)
      have hr26 := hr25.keep (hb6)
      clear hb6 hbw5 hY5 hP5 hQ5 hr15 hr25
      try dsimp only
      obtain ⟨y0, y1, y2, y3, y4, y5, y6⟩ := hY6.facts
      have ly := Blk.lt hY6
      obtain ⟨v0, v1, v2, v3, v4, v5, v6⟩ := hP6.facts
      have lv := Blk.lt hP6
      obtain ⟨u0, u1, u2, u3, u4, u5, u6, u7⟩ := hQ6.facts
      have lu := Blk.lt hQ6
      go_wp2_with fail
      clear y0 y1 y2 y3 y4 y5 y6 v0 v1 v2 v3 v4 v5 v6 u0 u1 u2 u3 u4 u5 u6 u7 ly lv lu
      refine (san21_any _ (HE.out.keep (by (repeat (first | exact .refl _ _ | assumption | refine .drew ?_ | refine balloc ?_ _ | refine bdrewN ?_ _ | refine .setCell ?_ (by simp <;> omega) _ | refine bstep ?_ (by assumption))))) (HT.out.keep (by (repeat (first | exact .refl _ _ | assumption | refine .drew ?_ | refine balloc ?_ _ | refine bdrewN ?_ _ | refine .setCell ?_ (by simp <;> omega) _ | refine bstep ?_ (by assumption)))))).mono ?_; rintro e w7 ⟨rfl, hb7⟩
      have hbw7 := bstep hbw6 (hb7)
      have hY7 : VBox w7 (w.heap.size) c mc := hY6.keep (hb7)
      have hP7 : VBox w7 (w3.heap.size) X m1 := hP6.keep (hb7)
      have hQ7 : MX w7 (w4.heap.size) X m2 3 := hQ6.keep (hb7)
      have hr17 := hr16.keep (hb7)
      have hr27 := hr26.keep (hb7)
      clear hb7 hbw6 hY6 hP6 hQ6 hr16 hr26
      obtain ⟨y0, y1, y2, y3, y4, y5, y6⟩ := hY7.facts
      have ly := Blk.lt hY7
      obtain ⟨v0, v1, v2, v3, v4, v5, v6⟩ := hP7.facts
      have lv := Blk.lt hP7
      obtain ⟨u0, u1, u2, u3, u4, u5, u6, u7⟩ := hQ7.facts
      have lu := Blk.lt hQ7
      go_wp2_with fail
      go_ret
      exact ⟨rfl, hbw7⟩
    · rw [hv] at v1
      have p2 := fun W (hb : Below w.heap.size w W) => condParse_any (textC c) W (textC_size hv hfc) (hE.keep hb) (hX.keep hb) (hT.keep hb) (Nat.lt_of_lt_of_le h2 hb.size)
      rw [readC_text hv] at p2
      have hq : textE c = (textC c, 0) := by unfold textE; rw [hv]; rfl
      rw [hq] at tc
      unfold ReadPost at p2
      generalize textC c = T at *
      have P2 := Lib.hid (show ∀ W, Below w.heap.size w W → Calls Tryz.prog 20 #[.string T] W fun e w' => Below W.heap.size W w' ∧ ∃ m, e = .returned (.tuple #[CondMem.val c m, .int .i64 0]) ∧ CondReads w' c m from p2); have TC := Lib.hid tc; have SC := Lib.hid sc
      have G1 := Lib.hid g1; have P1 := Lib.hid p1; have R1 := Lib.hid r1; have V1 := Lib.hid v1; have SX := Lib.hid sx
      have b1 : (T.toList == T.toList) = true := by simp
      have b2 : (s.toList == s.toList) = true := by simp
      clear g1 p1 r1 v1 sx fc fX hfc hR hE hT hX h2 hs hsz hok hv p2 tc sc hq
      unfold CondMem.val at *
      go_enter Tryz.func5, Tryz.ntmps5
      go_wp2_with (go_at_call 10; refine (G1.out _ (by (repeat (first | exact .refl _ _ | assumption | refine .drew ?_ | refine balloc ?_ _ | refine bdrewN ?_ _ | refine .setCell ?_ (by simp <;> omega) _ | refine bstep ?_ (by assumption))))).mono ?_; rintro e w2 ⟨rfl, hb2⟩; clear G1; have hbw : Below w.heap.size w w2 := (by (repeat (first | exact .refl _ _ | assumption | refine .drew ?_ | refine balloc ?_ _ | refine bdrewN ?_ _ | refine .setCell ?_ (by simp <;> omega) _ | refine bstep ?_ (by assumption)))); (have hY2 : VBox w2 (w.heap.size) c mc := (by first | exact VBox.keep hY2 hb2 | exact Blk.keep (World.alloc_heap_new _ _) hb2)); (try clear y0 y1 y2 y3 y4 y5 y6); obtain ⟨y0, y1, y2, y3, y4, y5, y6⟩ := hY2.facts)
      have hbw2 := hbw
      clear hbw hb2 y0 y1 y2 y3 y4 y5 y6
      refine (P1.out _ hbw2).mono ?_; rintro e w3 ⟨hb3, m1, rfl, hr13⟩
      have hbw3 := bstep hbw2 (hb3)
      have hY3 : VBox w3 (w.heap.size) c mc := hY2.keep (hb3)
      clear hb3 hbw2 hY2
      try dsimp only
      obtain ⟨y0, y1, y2, y3, y4, y5, y6⟩ := hY3.facts
      have ly := Blk.lt hY3
      go_wp2_with fail
      clear y0 y1 y2 y3 y4 y5 y6 ly
      refine (R1.out _).mono ?_; rintro e w4 ⟨hb4, m2, rfl, hr24⟩
      have hbw4 := bstep hbw3 (blater _ hb4)
      have hY4 : VBox w4 (w.heap.size) c mc := hY3.keep (blater _ hb4)
      have hr14 := hr13.keep (blater _ hb4)
      have hP4 : VBox w4 (w3.heap.size) X m1 := Blk.keep (World.alloc_heap_new _ _) hb4
      clear hb4 hbw3 hY3 hr13
      try dsimp only
      obtain ⟨y0, y1, y2, y3, y4, y5, y6⟩ := hY4.facts
      have ly := Blk.lt hY4
      obtain ⟨v0, v1, v2, v3, v4, v5, v6⟩ := hP4.facts
      have lv := Blk.lt hP4
      go_wp2_with fail
      clear y0 y1 y2 y3 y4 y5 y6 v0 v1 v2 v3 v4 v5 v6 ly lv
      refine (SX.out m1 m2 _ (hr14.keep (by (repeat (first | exact .refl _ _ | assumption | refine .drew ?_ | refine balloc ?_ _ | refine bdrewN ?_ _ | refine .setCell ?_ (by simp <;> omega) _ | refine bstep ?_ (by assumption))))) (hr24.keep (by (repeat (first | exact .refl _ _ | assumption | refine .drew ?_ | refine balloc ?_ _ | refine bdrewN ?_ _ | refine .setCell ?_ (by simp <;> omega) _ | refine bstep ?_ (by assumption)))))).mono ?_; rintro e w5 ⟨rfl, hb5⟩
      have hbw5 := bstep hbw4 (blater _ hb5)
      have hY5 : VBox w5 (w.heap.size) c mc := hY4.keep (blater _ hb5)
      have hP5 : VBox w5 (w3.heap.size) X m1 := hP4.keep (blater _ hb5)
      have hr15 := hr14.keep (blater _ hb5)
      have hr25 := hr24.keep (blater _ hb5)
      have hQ5 : MX w5 (w4.heap.size) X m2 3 := Blk.keep (World.alloc_heap_new _ _) hb5
      clear hb5 hbw4 hY4 hP4 hr14 hr24
      try dsimp only
      obtain ⟨y0, y1, y2, y3, y4, y5, y6⟩ := hY5.facts
      have ly := Blk.lt hY5
      obtain ⟨v0, v1, v2, v3, v4, v5, v6⟩ := hP5.facts
      have lv := Blk.lt hP5
      obtain ⟨u0, u1, u2, u3, u4, u5, u6, u7⟩ := hQ5.facts
      have lu := Blk.lt hQ5
      go_wp2_with fail
      clear y0 y1 y2 y3 y4 y5 y6 v0 v1 v2 v3 v4 v5 v6 u0 u1 u2 u3 u4 u5 u6 u7 ly lv lu
      refine (V1.out _ hbw5).mono ?_; rintro e w6 ⟨rfl, hb6⟩
      have hbw6 := bstep hbw5 (hb6)
      have hY6 : VBox w6 (w.heap.size) c mc := hY5.keep (hb6)
      have hP6 : VBox w6 (w3.heap.size) X m1 := hP5.keep (hb6)
      have hQ6 : MX w6 (w4.heap.size) X m2 3 := hQ5.keep (hb6)
      have hr16 := hr15.keep (hb6)
      have hr26 := hr25.keep (hb6)
      clear hb6 hbw5 hY5 hP5 hQ5 hr15 hr25
      try dsimp only
      obtain ⟨y0, y1, y2, y3, y4, y5, y6⟩ := hY6.facts
      have ly := Blk.lt hY6
      obtain ⟨v0, v1, v2, v3, v4, v5, v6⟩ := hP6.facts
      have lv := Blk.lt hP6
      obtain ⟨u0, u1, u2, u3, u4, u5, u6, u7⟩ := hQ6.facts
      have lu := Blk.lt hQ6
      go_wp2_with fail
      clear y0 y1 y2 y3 y4 y5 y6 v0 v1 v2 v3 v4 v5 v6 u0 u1 u2 u3 u4 u5 u6 u7 ly lv lu
      refine (TC.out _ hbw6).mono ?_; rintro e w7 ⟨rfl, hb7⟩
      have hbw7 := bstep hbw6 (hb7)
      have hY7 : VBox w7 (w.heap.size) c mc := hY6.keep (hb7)
      have hP7 : VBox w7 (w3.heap.size) X m1 := hP6.keep (hb7)
      have hQ7 : MX w7 (w4.heap.size) X m2 3 := hQ6.keep (hb7)
      have hr17 := hr16.keep (hb7)
      have hr27 := hr26.keep (hb7)
      clear hb7 hbw6 hY6 hP6 hQ6 hr16 hr26
      try dsimp only
      obtain ⟨y0, y1, y2, y3, y4, y5, y6⟩ := hY7.facts
      have ly := Blk.lt hY7
      obtain ⟨v0, v1, v2, v3, v4, v5, v6⟩ := hP7.facts
      have lv := Blk.lt hP7
      obtain ⟨u0, u1, u2, u3, u4, u5, u6, u7⟩ := hQ7.facts
      have lu := Blk.lt hQ7
      go_wp2_with fail
      clear y0 y1 y2 y3 y4 y5 y6 v0 v1 v2 v3 v4 v5 v6 u0 u1 u2 u3 u4 u5 u6 u7 ly lv lu
      refine (P2.out _ hbw7).mono ?_; rintro e w8 ⟨hb8, m3, rfl, hr38⟩
      have hbw8 := bstep hbw7 (hb8)
      have hY8 : VBox w8 (w.heap.size) c mc := hY7.keep (hb8)
      have hP8 : VBox w8 (w3.heap.size) X m1 := hP7.keep (hb8)
      have hQ8 : MX w8 (w4.heap.size) X m2 3 := hQ7.keep (hb8)
      have hr18 := hr17.keep (hb8)
      have hr28 := hr27.keep (hb8)
      clear hb8 hbw7 hY7 hP7 hQ7 hr17 hr27
      try dsimp only
      obtain ⟨y0, y1, y2, y3, y4, y5, y6⟩ := hY8.facts
      have ly := Blk.lt hY8
      obtain ⟨v0, v1, v2, v3, v4, v5, v6⟩ := hP8.facts
      have lv := Blk.lt hP8
      obtain ⟨u0, u1, u2, u3, u4, u5, u6, u7⟩ := hQ8.facts
      have lu := Blk.lt hQ8
      go_wp2_with fail
      clear y0 y1 y2 y3 y4 y5 y6 v0 v1 v2 v3 v4 v5 v6 u0 u1 u2 u3 u4 u5 u6 u7 ly lv lu
      refine (san21_any _ (HE.out.keep (by (repeat (first | exact .refl _ _ | assumption | refine .drew ?_ | refine balloc ?_ _ | refine bdrewN ?_ _ | refine .setCell ?_ (by simp <;> omega) _ | refine bstep ?_ (by assumption))))) (HT.out.keep (by (repeat (first | exact .refl _ _ | assumption | refine .drew ?_ | refine balloc ?_ _ | refine bdrewN ?_ _ | refine .setCell ?_ (by simp <;> omega) _ | refine bstep ?_ (by assumption)))))).mono ?_; rintro e w9 ⟨rfl, hb9⟩
      have hbw9 := bstep hbw8 (blater _ hb9)
      have hY9 : VBox w9 (w.heap.size) c mc := hY8.keep (blater _ hb9)
      have hP9 : VBox w9 (w3.heap.size) X m1 := hP8.keep (blater _ hb9)
      have hQ9 : MX w9 (w4.heap.size) X m2 3 := hQ8.keep (blater _ hb9)
      have hr19 := hr18.keep (blater _ hb9)
      have hr29 := hr28.keep (blater _ hb9)
      have hr39 := hr38.keep (blater _ hb9)
      have hS9 : VBox w9 (w8.heap.size) c m3 := Blk.keep (World.alloc_heap_new _ _) hb9
      clear hb9 hbw8 hY8 hP8 hQ8 hr18 hr28 hr38
      try dsimp only
      obtain ⟨y0, y1, y2, y3, y4, y5, y6⟩ := hY9.facts
      have ly := Blk.lt hY9
      obtain ⟨v0, v1, v2, v3, v4, v5, v6⟩ := hP9.facts
      have lv := Blk.lt hP9
      obtain ⟨u0, u1, u2, u3, u4, u5, u6, u7⟩ := hQ9.facts
      have lu := Blk.lt hQ9
      obtain ⟨s0, s1, s2, s3, s4, s5, s6⟩ := hS9.facts
      have ls := Blk.lt hS9
      go_wp2_with fail
      clear y0 y1 y2 y3 y4 y5 y6 v0 v1 v2 v3 v4 v5 v6 u0 u1 u2 u3 u4 u5 u6 u7 s0 s1 s2 s3 s4 s5 s6 ly lv lu ls
      refine (SC.out m3 _ hr39 hbw9).mono ?_; rintro e w10 ⟨rfl, hb10⟩
      have hbw10 := bstep hbw9 (hb10)
      have hY10 : VBox w10 (w.heap.size) c mc := hY9.keep (hb10)
      have hP10 : VBox w10 (w3.heap.size) X m1 := hP9.keep (hb10)
      have hQ10 : MX w10 (w4.heap.size) X m2 3 := hQ9.keep (hb10)
      have hS10 : VBox w10 (w8.heap.size) c m3 := hS9.keep (hb10)
      have hr110 := hr19.keep (hb10)
      have hr210 := hr29.keep (hb10)
      have hr310 := hr39.keep (hb10)
      clear hb10 hbw9 hY9 hP9 hQ9 hS9 hr19 hr29 hr39
      obtain ⟨y0, y1, y2, y3, y4, y5, y6⟩ := hY10.facts
      have ly := Blk.lt hY10
      obtain ⟨v0, v1, v2, v3, v4, v5, v6⟩ := hP10.facts
      have lv := Blk.lt hP10
      obtain ⟨u0, u1, u2, u3, u4, u5, u6, u7⟩ := hQ10.facts
      have lu := Blk.lt hQ10
      obtain ⟨s0, s1, s2, s3, s4, s5, s6⟩ := hS10.facts
      have ls := Blk.lt hS10
      go_wp2_with fail
      go_ret
      exact ⟨rfl, hbw10⟩
end Go.Proofs.YtocgkpdolgnbgaaGreatDoor
