/- The specification's parts of patterns: what its suffix, ends, matches, covers, meets and part return. -/
import Derived.Test.YtiglpecjpncclaaGreatDoorRef3
import Derived.Test.YtiglpecjpncclaaGreatDoorParts
import Derived.Test.YtiglpecjpncclaaGreatDoorProg
import Derived.WalkKit
import Derived.WalkSpells
import Derived.WalkLawsBesides
import Derived.Below
import Derived.Deep.QuietTactic
import Derived.BigQuiet
import Derived.Lib.QuietBelow
import Derived.Lib.Strings
import Derived.Lib.Hide
import Derived.Deep.RegionWith
import Derived.Deep.RegionHeld3
import Derived.Lib.IndexBytes
namespace Go.Proofs.YtiglpecjpncclaaGreatDoor
open Go.RowKit Go.Sort
set_option linter.unusedVariables false
set_option linter.unusedSimpArgs false
set_option maxRecDepth 100000
def sufB (p : ByteArray) : Bool := decide (1 < p.size) && (p.data.toList.head? == some 42)
def endsB (p w : ByteArray) : Bool := decide (p.size - 1 < w.size) && ((w.extract (w.size - (p.size - 1)) w.size).toList == (p.extract 1 p.size).toList)
def mtchB (p w : ByteArray) : Bool := p.toList == [42] || p.toList == w.toList || (sufB p && endsB p w)
def covB (p q : ByteArray) : Bool := p.toList == [42] || p.toList == q.toList || (sufB p && !(q.toList == [42]) && (if sufB q then endsB p (⟨#[97]⟩ ++ q.extract 1 q.size) else endsB p q))
def meetsB (p q : ByteArray) : Bool := covB p q || covB q p
theorem head_byte (s : ByteArray) (h : 0 < s.size) : (s.data.toList.head? == some 42) = (s[0].toNat == 42) := by
  have hl : 0 < s.data.toList.length := by rw [← Lib.size_eq]; exact h
  rw [byte_at s 0 h, List.head?_eq_getElem?, List.getElem?_eq_getElem hl, Bool.eq_iff_iff, beq_iff_eq, beq_iff_eq]
  constructor
  · intro e; injection e with e; rw [e]; rfl
  · intro e; exact congrArg some (UInt8.toNat_inj.1 e)
set_option maxHeartbeats 1000000 in
theorem rSuffix_any (p : ByteArray) (w : World) (hp : p.size ≤ 4294967281) : Calls Tryz.prog 110 #[.string p] w (Ret w (.bool (sufB p))) := by
  by_cases h1 : 1 < p.size
  · have d1 : decide ((1 : Int) < (p.size : Int)) = true := decide_eq_true (by omega)
    have hv : sufB p = (p[0].toNat == 42) := by unfold sufB; rw [decide_eq_true h1, head_byte p (by omega)]; rfl
    have hb := byte_int p[0] 42
    rw [← hv] at hb
    clear hv
    generalize sufB p = b at *
    have h0 : (0 : Int) < (p.size : Int) := by omega
    go_enter Tryz.func110, Tryz.ntmps110
    go_wp2
    go_ret
    exact ⟨ret_bool hb, by (repeat (first | exact Below.refl _ _ | assumption | refine Below.drew ?_ | refine balloc ?_ _ | refine bdrewN ?_ _ | refine Below.setCell ?_ (by first | (simp; done) | (simp; omega)) _ | refine bstep ?_ (by assumption)))⟩
  · have d1 : decide ((1 : Int) < (p.size : Int)) = false := decide_eq_false (by omega)
    have hv : sufB p = false := by unfold sufB; rw [decide_eq_false h1]; rfl
    rw [hv]
    clear hv
    go_enter Tryz.func110, Tryz.ntmps110
    go_wp2
    go_ret
    exact ⟨rfl, by (repeat (first | exact Below.refl _ _ | assumption | refine Below.drew ?_ | refine balloc ?_ _ | refine bdrewN ?_ _ | refine Below.setCell ?_ (by first | (simp; done) | (simp; omega)) _ | refine bstep ?_ (by assumption)))⟩
set_option maxHeartbeats 1000000 in
theorem rEnds_any (p s : ByteArray) (w : World) (hp : p.size ≤ 4294967281) (h1 : 1 ≤ p.size) (hs : s.size ≤ 4294967281) : Calls Tryz.prog 111 #[.string p, .string s] w (Ret w (.bool (endsB p s))) := by
  obtain ⟨n, hn⟩ : ∃ n, p.size = n + 1 := ⟨p.size - 1, by omega⟩
  have hi : (p.size : Int) - 1 = (n : Int) := by omega
  unfold endsB
  rw [show p.size - 1 = n by omega]
  by_cases h2 : n < s.size
  · obtain ⟨m, hm⟩ : ∃ m, s.size - n = m := ⟨_, rfl⟩
    have hi2 : (s.size : Int) - (n : Int) = (m : Int) := by omega
    have d1 : decide ((n : Int) < (s.size : Int)) = true := decide_eq_true (by omega)
    have hm0 : (0 : Int) ≤ (m : Int) := by omega
    have hm1 : (m : Int) ≤ (s.size : Int) := by omega
    have hp1 : (1 : Int) ≤ (p.size : Int) := by omega
    rw [hm, decide_eq_true h2, Bool.true_and]
    rw [hn]
    generalize hb : ((s.extract m s.size).toList == (p.extract 1 (n + 1)).toList) = b
    go_enter Tryz.func111, Tryz.ntmps111
    go_wp2_with fail
    go_quiet (fail)
    go_wp2
    go_ret
    exact ⟨rfl, by (repeat (first | exact Below.refl _ _ | assumption | refine Below.drew ?_ | refine balloc ?_ _ | refine bdrewN ?_ _ | refine Below.setCell ?_ (by first | (simp; done) | (simp; omega)) _ | refine bstep ?_ (by assumption)))⟩
  · have d1 : decide ((n : Int) < (s.size : Int)) = false := decide_eq_false (by omega)
    rw [decide_eq_false h2, Bool.false_and]
    go_enter Tryz.func111, Tryz.ntmps111
    go_wp2_with fail
    go_quiet (fail)
    go_wp2
    go_ret
    exact ⟨rfl, by (repeat (first | exact Below.refl _ _ | assumption | refine Below.drew ?_ | refine balloc ?_ _ | refine bdrewN ?_ _ | refine Below.setCell ?_ (by first | (simp; done) | (simp; omega)) _ | refine bstep ?_ (by assumption)))⟩
set_option maxHeartbeats 1000000 in
theorem rMatches_any (p s : ByteArray) (w : World) (hp : p.size ≤ 4294967281) (hs : s.size ≤ 4294967281) : Calls Tryz.prog 82 #[.string p, .string s] w (Ret w (.bool (mtchB p s))) := by
  have cS := fun W => rSuffix_any p W hp
  have hsz : sufB p = true → 1 ≤ p.size := by
    intro h; unfold sufB at h; simp only [Bool.and_eq_true, decide_eq_true_eq] at h; omega
  have cE := fun W (h : sufB p = true) => rEnds_any p s W hp (hsz h) hs
  unfold mtchB
  generalize endsB p s = en at *
  generalize sufB p = sf at *
  have HSF := Lib.hid cS
  clear cS hsz
  cases h1 : (p.toList == [42])
  · cases h2 : (p.toList == s.toList)
    · cases sf
      · clear cE
        go_enter Tryz.func82, Tryz.ntmps82
        go_wp2_with (go_at_call 110; refine (HSF.out _).mono ?_; rintro e w1 ⟨rfl, hb1⟩)
        go_ret
        exact ⟨rfl, by (repeat (first | exact Below.refl _ _ | assumption | refine Below.drew ?_ | refine balloc ?_ _ | refine bdrewN ?_ _ | refine Below.setCell ?_ (by first | (simp; done) | (simp; omega)) _ | refine bstep ?_ (by assumption)))⟩
      · have HEN := Lib.hid (fun W => cE W rfl)
        clear cE
        go_enter Tryz.func82, Tryz.ntmps82
        go_wp2_with (first | (go_at_call 110; refine (HSF.out _).mono ?_; rintro e w1 ⟨rfl, hb1⟩) | (go_at_call 111; refine (HEN.out _).mono ?_; rintro e w2 ⟨rfl, hb2⟩))
        go_ret
        exact ⟨ret_bool (by simp), by (repeat (first | exact Below.refl _ _ | assumption | refine Below.drew ?_ | refine balloc ?_ _ | refine bdrewN ?_ _ | refine Below.setCell ?_ (by first | (simp; done) | (simp; omega)) _ | refine bstep ?_ (by assumption)))⟩
    · clear cE
      go_enter Tryz.func82, Tryz.ntmps82
      go_wp2
      go_ret
      exact ⟨rfl, by (repeat (first | exact Below.refl _ _ | assumption | refine Below.drew ?_ | refine balloc ?_ _ | refine bdrewN ?_ _ | refine Below.setCell ?_ (by first | (simp; done) | (simp; omega)) _ | refine bstep ?_ (by assumption)))⟩
  · clear cE
    go_enter Tryz.func82, Tryz.ntmps82
    go_wp2
    go_ret
    exact ⟨rfl, by (repeat (first | exact Below.refl _ _ | assumption | refine Below.drew ?_ | refine balloc ?_ _ | refine bdrewN ?_ _ | refine Below.setCell ?_ (by first | (simp; done) | (simp; omega)) _ | refine bstep ?_ (by assumption)))⟩
set_option maxHeartbeats 1000000 in
theorem rCovers_any (p q : ByteArray) (w : World) (hp : p.size ≤ 4294967200) (hq : q.size ≤ 4294967200) : Calls Tryz.prog 79 #[.string p, .string q] w (Ret w (.bool (covB p q))) := by
  have cS := fun W => rSuffix_any p W (by omega)
  have cQ := fun W => rSuffix_any q W (by omega)
  have hsz : sufB p = true → 1 ≤ p.size := by
    intro h; unfold sufB at h; simp only [Bool.and_eq_true, decide_eq_true_eq] at h; omega
  have hsq : sufB q = true → 1 ≤ q.size := by
    intro h; unfold sufB at h; simp only [Bool.and_eq_true, decide_eq_true_eq] at h; omega
  have hz : (⟨#[97]⟩ ++ q.extract 1 q.size : ByteArray).size ≤ 1 + q.size := by
    rw [ByteArray.size_append, ByteArray.size_extract]
    show 1 + _ ≤ _
    omega
  have cE := fun W (h : sufB p = true) => rEnds_any p q W (by omega) (hsz h) (by omega)
  have cE2 := fun W (h : sufB p = true) => rEnds_any p (⟨#[97]⟩ ++ q.extract 1 q.size) W (by omega) (hsz h) (by omega)
  unfold covB
  generalize endsB p q = en at *
  generalize endsB p (⟨#[97]⟩ ++ q.extract 1 q.size) = en2 at *
  generalize sufB p = sf at *
  generalize sufB q = sq at *
  have HSF := Lib.hid cS
  have HSQ := Lib.hid cQ
  clear cS hsz cQ hz
  cases h1 : (p.toList == [42])
  rotate_left
  · clear cE cE2 hsq
    go_enter Tryz.func79, Tryz.ntmps79
    go_wp2
    all_goals (go_ret; exact ⟨rfl, by (repeat (first | exact Below.refl _ _ | assumption | refine Below.drew ?_ | refine balloc ?_ _ | refine bdrewN ?_ _ | refine Below.setCell ?_ (by first | (simp; done) | (simp; omega)) _ | refine bstep ?_ (by assumption)))⟩)
  cases h2 : (p.toList == q.toList)
  rotate_left
  · clear cE cE2 hsq
    go_enter Tryz.func79, Tryz.ntmps79
    go_wp2
    all_goals (go_ret; exact ⟨rfl, by (repeat (first | exact Below.refl _ _ | assumption | refine Below.drew ?_ | refine balloc ?_ _ | refine bdrewN ?_ _ | refine Below.setCell ?_ (by first | (simp; done) | (simp; omega)) _ | refine bstep ?_ (by assumption)))⟩)
  cases sf
  · clear cE cE2 hsq
    go_enter Tryz.func79, Tryz.ntmps79
    go_wp2_with (go_at_call 110; refine (HSF.out _).mono ?_; rintro e w1 ⟨rfl, hb1⟩; clear HSF)
    all_goals (go_ret; exact ⟨rfl, by (repeat (first | exact Below.refl _ _ | assumption | refine Below.drew ?_ | refine balloc ?_ _ | refine bdrewN ?_ _ | refine Below.setCell ?_ (by first | (simp; done) | (simp; omega)) _ | refine bstep ?_ (by assumption)))⟩)
  cases h3 : (q.toList == [42])
  rotate_left
  · clear cE cE2 hsq
    go_enter Tryz.func79, Tryz.ntmps79
    go_wp2_with (go_at_call 110; refine (HSF.out _).mono ?_; rintro e w1 ⟨rfl, hb1⟩; clear HSF)
    all_goals (go_ret; exact ⟨rfl, by (repeat (first | exact Below.refl _ _ | assumption | refine Below.drew ?_ | refine balloc ?_ _ | refine bdrewN ?_ _ | refine Below.setCell ?_ (by first | (simp; done) | (simp; omega)) _ | refine bstep ?_ (by assumption)))⟩)
  cases sq
  · have HEN := Lib.hid (fun W => cE W rfl)
    clear cE cE2 hsq
    go_enter Tryz.func79, Tryz.ntmps79
    go_wp2_with (first | (go_at_call 110; refine (HSF.out _).mono ?_; rintro e w1 ⟨rfl, hb1⟩; clear HSF) | (go_at_call 110; refine (HSQ.out _).mono ?_; rintro e w3 ⟨rfl, hb3⟩) | (go_at_call 111; refine (HEN.out _).mono ?_; rintro e w2 ⟨rfl, hb2⟩))
    go_ret
    exact ⟨ret_bool (by simp), by (repeat (first | exact Below.refl _ _ | assumption | refine Below.drew ?_ | refine balloc ?_ _ | refine bdrewN ?_ _ | refine Below.setCell ?_ (by first | (simp; done) | (simp; omega)) _ | refine bstep ?_ (by assumption)))⟩
  · have HEN := Lib.hid (fun W => cE2 W rfl)
    have hq1 : (1 : Int) ≤ (q.size : Int) := by have := hsq rfl; omega
    clear cE cE2 hsq
    go_enter Tryz.func79, Tryz.ntmps79
    go_wp2_with (first | (go_at_call 110; refine (HSF.out _).mono ?_; rintro e w1 ⟨rfl, hb1⟩; clear HSF) | (go_at_call 110; refine (HSQ.out _).mono ?_; rintro e w3 ⟨rfl, hb3⟩) | (go_at_call 111; refine (HEN.out _).mono ?_; rintro e w2 ⟨rfl, hb2⟩))
    go_ret
    exact ⟨ret_bool (by simp), by (repeat (first | exact Below.refl _ _ | assumption | refine Below.drew ?_ | refine balloc ?_ _ | refine bdrewN ?_ _ | refine Below.setCell ?_ (by first | (simp; done) | (simp; omega)) _ | refine bstep ?_ (by assumption)))⟩
set_option maxHeartbeats 1000000 in
theorem rMeets_any (p q : ByteArray) (w : World) (hp : p.size ≤ 4294967200) (hq : q.size ≤ 4294967200) : Calls Tryz.prog 80 #[.string p, .string q] w (Ret w (.bool (meetsB p q))) := by
  have c1 := fun W => rCovers_any p q W hp hq
  have c2 := fun W => rCovers_any q p W hq hp
  unfold meetsB
  generalize covB p q = a at *
  generalize covB q p = b at *
  have HC1 := Lib.hid c1
  have HC2 := Lib.hid c2
  clear c1 c2
  cases a <;> cases b
  all_goals
    go_enter Tryz.func80, Tryz.ntmps80
    go_wp2_with (first | (go_at_call 79; refine (HC1.out _).mono ?_; rintro e w1 ⟨rfl, hb1⟩; clear HC1) | (go_at_call 79; refine (HC2.out _).mono ?_; rintro e w2 ⟨rfl, hb2⟩))
    go_ret
    exact ⟨rfl, by (repeat (first | exact Below.refl _ _ | assumption | refine Below.drew ?_ | refine balloc ?_ _ | refine bdrewN ?_ _ | refine Below.setCell ?_ (by first | (simp; done) | (simp; omega)) _ | refine bstep ?_ (by assumption)))⟩
def partR (s : ByteArray) : Bool := if decide (2 < s.size) && ((s.extract 0 2).toList == [42, 46]) then decide (s.size ≤ 34) && isWordB (s.extract 2 s.size) else s.toList == [42] || isWordB s
set_option maxHeartbeats 1000000 in
theorem rPart_any (s : ByteArray) (w : World) (hs : s.size ≤ 4294967200) : Calls Tryz.prog 109 #[.string s] w (Ret w (.bool (partR s))) := by
  have c1 := fun W => rWord_any s W (by omega)
  have c2 := fun W => rWord_any (s.extract 2 s.size) W (by rw [ByteArray.size_extract]; omega)
  unfold partR
  generalize isWordB (s.extract 2 s.size) = b2 at *
  generalize isWordB s = b1 at *
  by_cases h1 : 2 < s.size
  · have d1 : decide ((2 : Int) < (s.size : Int)) = true := decide_eq_true (by omega)
    have q2 : (2 : Int) ≤ (s.size : Int) := by omega
    rw [decide_eq_true h1]
    cases h2 : ((s.extract 0 2).toList == [42, 46])
    · simp only [Bool.and_false, Bool.false_eq_true, if_false]
      cases h3 : (s.toList == [42])
      · have HW := Lib.hid c1
        clear c1 c2
        go_enter Tryz.func109, Tryz.ntmps109
        go_wp2_with (go_at_call 95; refine (HW.out _).mono ?_; rintro e w1 ⟨rfl, hb1⟩)
        go_ret
        exact ⟨ret_bool (by simp), by (repeat (first | exact Below.refl _ _ | assumption | refine Below.drew ?_ | refine balloc ?_ _ | refine bdrewN ?_ _ | refine Below.setCell ?_ (by first | (simp; done) | (simp; omega)) _ | refine bstep ?_ (by assumption)))⟩
      · clear c1 c2
        go_enter Tryz.func109, Tryz.ntmps109
        go_wp2
        go_ret
        exact ⟨rfl, by (repeat (first | exact Below.refl _ _ | assumption | refine Below.drew ?_ | refine balloc ?_ _ | refine bdrewN ?_ _ | refine Below.setCell ?_ (by first | (simp; done) | (simp; omega)) _ | refine bstep ?_ (by assumption)))⟩
    · simp only [Bool.and_self, if_true]
      by_cases h4 : s.size ≤ 34
      · have d4 : decide ((s.size : Int) ≤ 34) = true := decide_eq_true (by omega)
        have HW := Lib.hid c2
        rw [decide_eq_true h4]
        clear c1 c2
        go_enter Tryz.func109, Tryz.ntmps109
        go_wp2_with (go_at_call 95; refine (HW.out _).mono ?_; rintro e w1 ⟨rfl, hb1⟩)
        go_ret
        exact ⟨ret_bool (by simp), by (repeat (first | exact Below.refl _ _ | assumption | refine Below.drew ?_ | refine balloc ?_ _ | refine bdrewN ?_ _ | refine Below.setCell ?_ (by first | (simp; done) | (simp; omega)) _ | refine bstep ?_ (by assumption)))⟩
      · have d4 : decide ((s.size : Int) ≤ 34) = false := decide_eq_false (by omega)
        rw [decide_eq_false h4]
        clear c1 c2
        go_enter Tryz.func109, Tryz.ntmps109
        go_wp2
        go_ret
        exact ⟨rfl, by (repeat (first | exact Below.refl _ _ | assumption | refine Below.drew ?_ | refine balloc ?_ _ | refine bdrewN ?_ _ | refine Below.setCell ?_ (by first | (simp; done) | (simp; omega)) _ | refine bstep ?_ (by assumption)))⟩
  · have d1 : decide ((2 : Int) < (s.size : Int)) = false := decide_eq_false (by omega)
    rw [decide_eq_false h1]
    simp only [Bool.false_and, Bool.false_eq_true, if_false]
    cases h3 : (s.toList == [42])
    · have HW := Lib.hid c1
      clear c1 c2
      go_enter Tryz.func109, Tryz.ntmps109
      go_wp2_with (go_at_call 95; refine (HW.out _).mono ?_; rintro e w1 ⟨rfl, hb1⟩)
      go_ret
      exact ⟨ret_bool (by simp), by (repeat (first | exact Below.refl _ _ | assumption | refine Below.drew ?_ | refine balloc ?_ _ | refine bdrewN ?_ _ | refine Below.setCell ?_ (by first | (simp; done) | (simp; omega)) _ | refine bstep ?_ (by assumption)))⟩
    · clear c1 c2
      go_enter Tryz.func109, Tryz.ntmps109
      go_wp2
      go_ret
      exact ⟨rfl, by (repeat (first | exact Below.refl _ _ | assumption | refine Below.drew ?_ | refine balloc ?_ _ | refine bdrewN ?_ _ | refine Below.setCell ?_ (by first | (simp; done) | (simp; omega)) _ | refine bstep ?_ (by assumption)))⟩

end Go.Proofs.YtiglpecjpncclaaGreatDoor
