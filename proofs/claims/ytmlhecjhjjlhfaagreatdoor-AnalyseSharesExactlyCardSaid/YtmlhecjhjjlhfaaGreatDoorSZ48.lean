/- The law of shared variants, walked. -/
import Derived.Test.YtmlhecjhjjlhfaaGreatDoorSZ47
import Derived.Test.YtmlhecjhjjlhfaaGreatDoorSZ36
import Derived.Test.YtmlhecjhjjlhfaaGreatDoorSZ37
import Derived.Test.YtmlhecjhjjlhfaaGreatDoorSZ33
import Derived.Test.YtmlhecjhjjlhfaaGreatDoorSZ42
import Derived.Test.YtmlhecjhjjlhfaaGreatDoorProg
import Derived.WalkKit
import Derived.WalkSpells
import Derived.WalkLawsBesides
import Derived.Below
import Derived.Deep.QuietTactic
import Derived.BigQuiet
import Derived.Lib.QuietBelow
import Derived.Lib.Strings
import Derived.Lib.Hide
import Derived.Deep.RegionWith
import Derived.Deep.RegionHeld3
import Derived.Lib.IndexBytes
namespace Go.Proofs.YtmlhecjhjjlhfaaGreatDoor
open Go.RowKit Go.Sort
set_option linter.unusedVariables false
set_option linter.unusedSimpArgs false
set_option maxRecDepth 100000
theorem cl_det {L : List RuleM} {i k : Int} {s s' : ByteArray} {is is' : Bool} {er er' : Int} (h : ClRes L i k s is er) (h' : ClRes L i k s' is' er') : is' = is ∧ er' = er := by
  rcases h with ⟨h0, _, h1, h2⟩ | ⟨h0, h1, x, y, px, py, hx, hy, hpx, hpy, h2, _⟩
  · rcases h' with ⟨_, _, k1, k2⟩ | ⟨k0, _⟩
    · exact ⟨by rw [k1, h1], by rw [k2, h2]⟩
    · rw [h0] at k0; cases k0
  · rcases h' with ⟨k0, _⟩ | ⟨_, k1, x', y', px', py', hx', hy', hpx', hpy', k2, _⟩
    · rw [h0] at k0; cases k0
    · rw [hx] at hx'
      rw [hy] at hy'
      injection hx' with hx'
      injection hy' with hy'
      subst hx'; subst hy'
      rw [hpx] at hpx'
      rw [hpy] at hpy'
      injection hpx' with hpx'
      injection hpy' with hpy'
      subst hpx'; subst hpy'
      exact ⟨by rw [k2, h2], by rw [k1, h1]⟩
theorem cl_none {L : List RuleM} {i k : Int} {s : ByteArray} {er : Int} (h : ClRes L i k s false er) : (er = 1) ∨ (er = 0 ∧ validL L = true ∧ ∃ (a b : Nat) (x y : RuleM), i = (a : Int) ∧ k = (b : Int) ∧ L[a]? = some x ∧ L[b]? = some y ∧ ∀ t, (matchB x.r.pat t && matchB y.r.pat t) = false) := by
  rcases h with ⟨_, _, _, h⟩ | ⟨h0, h1, x, y, px, py, h2, h3, hpx, hpy, h4, _⟩
  · exact .inl h
  · unfold clOk at h0
    simp only [Bool.and_eq_true, decide_eq_true_eq] at h0
    refine .inr ⟨h1, h0.1, i.toNat, k.toNat, x, y, by omega, by omega, h2, h3, fun t => clash_no hpx hpy ?_ t⟩
    cases hz : commonP px py with
    | none => rfl
    | some z => rw [hz] at h4; cases h4
theorem cl_some {L : List RuleM} {i k : Int} {s : ByteArray} {er : Int} (h : ClRes L i k s true er) : er = 0 ∧ validL L = true ∧ s.size ≤ 10000 ∧ ∃ (a b : Nat) (x y : RuleM), i = (a : Int) ∧ k = (b : Int) ∧ L[a]? = some x ∧ L[b]? = some y ∧ matchB x.r.pat s = true ∧ matchB y.r.pat s = true := by
  rcases h with ⟨_, _, h, _⟩ | ⟨h0, h1, x, y, _, _, h2, h3, _, _, _, h4, _⟩
  · cases h
  · unfold clOk at h0
    simp only [Bool.and_eq_true, decide_eq_true_eq] at h0
    obtain ⟨m1, m2, m3⟩ := h4 rfl
    exact ⟨h1, h0.1, m3, i.toNat, k.toNat, x, y, by omega, by omega, h2, h3, m1, m2⟩
structure TwoKeys (w : World) (x y : RuleM) (GA : Option Addr) (gn gc : Nat) (HA : Option Addr) (hn hc : Nat) (k1 k2 k3 k4 : ByteArray) : Prop where
  c1 : ∀ W, Below w.heap.size w W → Calls Tryz.prog 10 #[.slice x.V x.r.vary.length x.cv, .slice GA gn gc] W (Ret W (.string k1))
  c2 : ∀ W, Below w.heap.size w W → Calls Tryz.prog 10 #[.slice x.V x.r.vary.length x.cv, .slice HA hn hc] W (Ret W (.string k2))
  c3 : ∀ W, Below w.heap.size w W → Calls Tryz.prog 10 #[.slice y.V y.r.vary.length y.cv, .slice GA gn gc] W (Ret W (.string k3))
  c4 : ∀ W, Below w.heap.size w W → Calls Tryz.prog 10 #[.slice y.V y.r.vary.length y.cv, .slice HA hn hc] W (Ret W (.string k4))
theorem two_keys {w : World} {x y : RuleM} (hx : RuleReads w x) (hy : RuleReads w y) (hxf : RuleFits x.r) (hyf : RuleFits y.r) {GA : Option Addr} {gn gc : Nat} {HA : Option Addr} {hn hc : Nat} {G H : List Hdr} (hG : HdrsRead w GA gn G) (hH : HdrsRead w HA hn H) (h1 : gn ≤ 1000) (h2 : hn ≤ 1000) :
    ∃ k1 k2 k3 k4, TwoKeys w x y GA gn gc HA hn hc k1 k2 k3 k4 ∧ (k1.toList == k2.toList) = sameV (x.L.map (·.v)) G H ∧ (k3.toList == k4.toList) = sameV (y.L.map (·.v)) G H :=
  ⟨_, _, _, _, ⟨fun W hb => Key_any _ _ _ x.L GA gn gc G W ((hx.keep hb).varys) (hG.keep hb) (fits_at hx hxf) hxf.nv h1, fun W hb => Key_any _ _ _ x.L HA hn hc H W ((hx.keep hb).varys) (hH.keep hb) (fits_at hx hxf) hxf.nv h2,
    fun W hb => Key_any _ _ _ y.L GA gn gc G W ((hy.keep hb).varys) (hG.keep hb) (fits_at hy hyf) hyf.nv h1, fun W hb => Key_any _ _ _ y.L HA hn hc H W ((hy.keep hb).varys) (hH.keep hb) (fits_at hy hyf) hyf.nv h2⟩, same_keys _ _ _, same_keys _ _ _⟩
set_option maxHeartbeats 16000000 in
theorem lawShares (A : Option Addr) (n c : Nat) (L : List RuleM) (n1 n2 : Int) (ad : ByteArray) (GA : Option Addr) (gn gc : Nat) (G : List Hdr) (HA : Option Addr) (hn hc : Nat) (H : List Hdr) (w : World) (hL : RulesRead w A n L) (hnn : n ≤ 9223372036854775807) (hcp : ∀ x ∈ L, RuleCaps x) (hnc : n ≤ c)
    (hk0 : 0 ≤ n1) (hk1 : n1 ≤ 255) (hl0 : 0 ≤ n2) (hl1 : n2 ≤ 255) (hG : HdrsRead w GA gn G) (hgn : gn ≤ 9223372036854775807) (hH : HdrsRead w HA hn H) (hhn : hn ≤ 9223372036854775807) (hE : Env w) (hT : Tab w) :
    Calls Tryz.prog 3 #[.slice A n c, .int .u8 n1, .int .u8 n2, .string ad, .slice GA gn gc, .slice HA hn hc] w (Ret w (.bool true)) := by
  have hl : L.length = n := hL.len
  have cF := fun W (hb : Below w.heap.size w W) => rFewRules22_any (fun x => fewR x.r) A n c L 10 W (hL.keep hb) hnn (fun x hx W' hb' => rFew22_any x W' ((hL.each x hx).keep (bstep hb hb')))
  have cN := fun W (hb : Below w.heap.size w W) => san24_any W (hE.keep hb) (hT.keep hb)
  have HN := Lib.hid cN
  have HAR := Lib.hid hL; have HL := Lib.hid hl; have HCP := Lib.hid hcp; have HE := Lib.hid hE; have HG := Lib.hid hG; have HH := Lib.hid hH
  clear cN hL hl hcp hE hT hG hH
  by_cases hn2 : (n : Int) < 2
  · have d0 : decide ((n : Int) < 2) = true := decide_eq_true hn2
    clear cF
    go_enter Tryz.func3, Tryz.ntmps3
    go_wp2_with (go_at_call 6; refine (HN.out _ belB).mono ?_; rintro e wn ⟨rfl, hbn⟩)
    go_ret
    exact ⟨rfl, belB⟩
  have d0 : decide ((n : Int) < 2) = false := decide_eq_false hn2
  cases hfv : (L.all (fun x => fewR x.r) && decide ((n : Int) ≤ 10))
  · rw [hfv] at cF
    have HF := Lib.hid cF
    clear cF hfv
    go_enter Tryz.func3, Tryz.ntmps3
    go_wp2_with (first | (go_at_call 5; refine (HF.out _ belB).mono ?_; rintro e wf ⟨rfl, hbf⟩) | (go_at_call 6; refine (HN.out _ belB).mono ?_; rintro e wn ⟨rfl, hbn⟩))
    go_ret
    exact ⟨rfl, belB⟩
  rw [hfv] at cF
  have HF := Lib.hid cF
  rw [Bool.and_eq_true, decide_eq_true_eq, List.all_eq_true] at hfv
  obtain ⟨hff, hn10⟩ := hfv
  have HFF := Lib.hid hff
  clear cF hff
  rcases Nat.lt_or_ge 3000 ad.size with had | had
  · go_enter Tryz.func3, Tryz.ntmps3
    go_wp2_with (first | (go_at_call 5; refine (HF.out _ belB).mono ?_; rintro e wf ⟨rfl, hbf⟩) | (go_at_call 6; refine (HN.out _ belB).mono ?_; rintro e wn ⟨rfl, hbn⟩))
    go_ret
    exact ⟨rfl, belB⟩
  rcases Nat.lt_or_ge 8 gn with hg8 | hg8
  · go_enter Tryz.func3, Tryz.ntmps3
    go_wp2_with (first | (go_at_call 5; refine (HF.out _ belB).mono ?_; rintro e wf ⟨rfl, hbf⟩) | (go_at_call 6; refine (HN.out _ belB).mono ?_; rintro e wn ⟨rfl, hbn⟩))
    go_ret
    exact ⟨rfl, belB⟩
  rcases Nat.lt_or_ge 8 hn with hh8 | hh8
  · go_enter Tryz.func3, Tryz.ntmps3
    go_wp2_with (first | (go_at_call 5; refine (HF.out _ belB).mono ?_; rintro e wf ⟨rfl, hbf⟩) | (go_at_call 6; refine (HN.out _ belB).mono ?_; rintro e wn ⟨rfl, hbn⟩))
    go_ret
    exact ⟨rfl, belB⟩
  have e1 : ((n : Int) - 1 == 0) = false := beq_eq_false_iff_ne.2 (by omega)
  have e2 : decide ((n : Int) - 1 = 0) = false := decide_eq_false (by omega)
  go_enter Tryz.func3, Tryz.ntmps3
  go_upto_region 3 with (first | (go_at_call 5; refine (HF.out _ belB).mono ?_; rintro e wf ⟨rfl, hbf⟩))
  go_upto_region 4 with fail
  clear e1 e2
  obtain ⟨a, ha⟩ : ∃ a : Nat, n1 % ((n : Int) - 1) = (a : Int) := ⟨(n1 % ((n : Int) - 1)).toNat, (Int.toNat_of_nonneg (Int.emod_nonneg _ (by omega))).symm⟩
  have han : (a : Int) < (n : Int) - 1 := by have := Int.emod_lt_of_pos n1 (show (0 : Int) < (n : Int) - 1 by omega); omega
  rw [ha]
  clear ha
  have e1 : ((n : Int) - 1 - a == 0) = false := beq_eq_false_iff_ne.2 (by omega)
  have e2 : decide ((n : Int) - 1 - a = 0) = false := decide_eq_false (by omega)
  go_upto_region 5 with fail
  clear e1 e2
  obtain ⟨t, ht⟩ : ∃ t : Nat, n2 % ((n : Int) - 1 - a) = (t : Int) := ⟨(n2 % ((n : Int) - 1 - a)).toNat, (Int.toNat_of_nonneg (Int.emod_nonneg _ (by omega))).symm⟩
  have htn : (t : Int) < (n : Int) - 1 - a := by have := Int.emod_lt_of_pos n2 (show (0 : Int) < (n : Int) - 1 - a by omega); omega
  rw [ht]
  clear ht
  obtain ⟨b, hb⟩ : ∃ b : Nat, (a : Int) + 1 + (t : Int) = (b : Int) := ⟨a + 1 + t, by omega⟩
  have hbn : b < n := by omega
  have han2 : a < n := by omega
  rw [hb]
  have hwb : wrap64 (b : Int) = (b : Int) := IntWalk.wrap64_in _ (by omega)
  simp only [hwb]
  clear hb htn han hwb
  go_wp2_with fail
  refine (clash_any A n c (a : Int) (b : Int) L wf (HAR.out.keep hbf) (fun x hx => fewR_fits (HFF.out x hx)) HCP.out (by omega) (HE.out.keep hbf)).mono ?_
  rintro e w1 ⟨s, clash, er, rfl, hcl, hb1⟩
  have hbw1 := bstep hbf hb1
  clear hbf hb1
  have HCL := Lib.hid hcl
  clear hcl
  go_wp2_with fail
  refine (shared_any A n c (a : Int) (b : Int) L w1 (HAR.out.keep hbw1) (fun x hx => fewR_fits (HFF.out x hx)) HCP.out (by omega) (HE.out.keep hbw1)).mono ?_
  rintro e w2 ⟨sy, g, h, is, er2, rfl, ⟨s1, is1, er1, hcl1, hsh⟩, hsz, hb2⟩
  have hbw := bstep hbw1 hb2
  clear hb2 hbw1
  obtain ⟨rfl, rfl⟩ := cl_det HCL.out hcl1
  cases is1
  · obtain ⟨rfl, rfl⟩ : is = false ∧ er2 = er1 := by
      rcases hsh with ⟨_, h1, h2⟩ | ⟨h1, _⟩
      · exact ⟨h1, h2⟩
      · cases h1
    clear hsh hcl1
    rcases cl_none HCL.out with rfl | ⟨rfl, hv, a', b', x, y, ea, eb, hx, hy, hno⟩
    · go_wp2_with (first | (go_at_call 6; refine (HN.out _ hbw).mono ?_; rintro e wn ⟨rfl, hbn⟩; replace hbw := bstep hbw hbn; clear hbn))
      go_ret
      exact ⟨rfl, hbw⟩
    obtain rfl : a = a' := by omega
    obtain rfl : b = b' := by omega
    have hmm := hno ad
    have hxm := List.mem_of_getElem? hx
    have hym := List.mem_of_getElem? hy
    have hM1 := fun W (hb : Below w.heap.size w W) => match_any x.r.pat ad W (by have := (fewR_fits (HFF.out x hxm)).pat; omega) (by omega) (HE.out.keep hb)
    have hM2 := fun W (hb : Below w.heap.size w W) => match_any y.r.pat ad W (by have := (fewR_fits (HFF.out y hym)).pat; omega) (by omega) (HE.out.keep hb)
    obtain ⟨_, pb, po, rfl, hcx⟩ := HAR.out.at_ hx
    obtain ⟨_, pb', po', he, hcy⟩ := HAR.out.at_ hy
    injection he with he
    injection he with f1 f2 _
    subst f1; subst f2
    have c1 := hcx 1 _ rfl
    have c2 := hcy 1 _ rfl
    have c7 := hcx 7 _ rfl
    have c8 := hcy 7 _ rfl
    generalize matchB x.r.pat ad = m1 at *
    generalize matchB y.r.pat ad = m2 at *
    have HM1 := Lib.hid hM1; have HM2 := Lib.hid hM2; have HC1 := Lib.hid c7; have HC2 := Lib.hid c8; have HP1 := Lib.hid c1; have HP2 := Lib.hid c2
    clear hno hM1 hM2 c7 c8 c1 c2 hcx hcy hx hy hxm hym hv HF HFF HCP HL ea eb HCL HAR HG HH
    have hi1 : (0 : Int) ≤ (a : Int) := by omega
    have hi2 : (a : Int) < (n : Int) := by omega
    have hk1 : (0 : Int) ≤ (b : Int) := by omega
    have hk2 : (b : Int) < (n : Int) := by omega
    have z1 := cell_keep hbw HP1.out
    have z2 := cell_keep hbw HP2.out
    cases m1
    · go_upto_region 14 with (first | (go_at_call 9; (with_reducible refine (HM1.out _ hbw).mono ?_); rintro e wm ⟨rfl, hbm⟩; replace hbw := bstep hbw hbm; clear hbm; have z1 := cell_keep hbw HP1.out; have z2 := cell_keep hbw HP2.out) | (go_at_call 9; (with_reducible refine (HM2.out _ hbw).mono ?_); rintro e wm ⟨rfl, hbm⟩; replace hbw := bstep hbw hbm; clear hbm; have z1 := cell_keep hbw HP1.out; have z2 := cell_keep hbw HP2.out))
      clear z1 z2
      refine wp_det 39 (by kernel_rfl) (by kernel_rfl) (by kernel_rfl) (fun q => [.bool true, .bool true, .bool false, .bool true, .bool true, undef, undef, undef, undef, undef, undef, undef, undef, undef, undef, undef, undef, undef, undef, undef, .bool true, .bool true, undef, undef, undef, undef, undef, undef, undef, undef, undef, undef, undef, undef, undef, undef, undef, .bool true, .bool true].getD q undef) (fun W => Below w.heap.size w W) (hbw.trans (Below.drew (Below.refl _ _))) (fun _ _ h hb => bstep h hb) ?_ ?_
      · simp only [putL, List.take_succ_cons, List.take_zero, List.drop_succ_cons, List.drop_zero, Act.put, List.setIfInBounds_toArray, List.set_cons_succ, List.set_cons_zero, List.getD_cons_zero, List.getD_cons_succ]
        refine ⟨fun W hS => ?_, fun W hS => ?_, fun W hS => ?_, fun W hS => ?_, fun W hS => ?_, fun W hS => ?_, fun W hS => ?_, fun W hS => ?_, fun W hS => ?_, fun W hS => ?_, fun W hS => ?_, fun W hS => ?_, fun W hS => ?_, fun W hS => ?_, fun W hS => ?_, fun W hS => ?_, fun W hS => ?_, fun W hS => ?_, fun W hS => ?_, fun W hS => ?_, fun W hS => ?_, fun W hS => ?_, fun W hS => ?_, fun W hS => ?_, fun W hS => ?_, fun W hS => ?_, fun W hS => ?_, fun W hS => ?_, fun W hS => ?_, fun W hS => ?_, fun W hS => ?_, fun W hS => ?_, fun W hS => ?_, fun W hS => ?_, fun W hS => ?_, fun W hS => ?_, fun W hS => ?_, fun W hS => ?_, fun W hS => ?_, trivial⟩
        rotate_left 0
        · go_wp2_with (go_at_call 6; refine (HN.out _ hS).mono ?_; rintro e wn ⟨rfl, hbn⟩)
          exact ⟨rfl, rfl, belB⟩
        all_goals
          have y1 := cell_keep hS HC1.out
          have y2 := cell_keep hS HC2.out
          go_wp2
          exact ⟨rfl, rfl, belB⟩
      intro w9 hS9
      simp only [putL, List.take_succ_cons, List.take_zero, List.drop_succ_cons, List.drop_zero, Act.put, List.setIfInBounds_toArray, List.set_cons_succ, List.set_cons_zero, List.getD_cons_zero, List.getD_cons_succ]
      go_wp2_with fail
      go_ret
      exact ⟨rfl, hS9⟩
    · obtain rfl : m2 = false := by simpa using hmm
      clear hmm
      go_upto_region 14 with (first | (go_at_call 9; (with_reducible refine (HM1.out _ hbw).mono ?_); rintro e wm ⟨rfl, hbm⟩; replace hbw := bstep hbw hbm; clear hbm; have z1 := cell_keep hbw HP1.out; have z2 := cell_keep hbw HP2.out) | (go_at_call 9; (with_reducible refine (HM2.out _ hbw).mono ?_); rintro e wm ⟨rfl, hbm⟩; replace hbw := bstep hbw hbm; clear hbm; have z1 := cell_keep hbw HP1.out; have z2 := cell_keep hbw HP2.out))
      clear z1 z2
      refine wp_det 39 (by kernel_rfl) (by kernel_rfl) (by kernel_rfl) (fun q => [.bool true, .bool true, .bool false, .bool true, .bool true, undef, undef, undef, undef, undef, undef, undef, undef, undef, undef, undef, undef, undef, undef, undef, .bool true, .bool true, undef, undef, undef, undef, undef, undef, undef, undef, undef, undef, undef, undef, undef, undef, undef, .bool true, .bool true].getD q undef) (fun W => Below w.heap.size w W) (hbw.trans (Below.drew (Below.refl _ _))) (fun _ _ h hb => bstep h hb) ?_ ?_
      · simp only [putL, List.take_succ_cons, List.take_zero, List.drop_succ_cons, List.drop_zero, Act.put, List.setIfInBounds_toArray, List.set_cons_succ, List.set_cons_zero, List.getD_cons_zero, List.getD_cons_succ]
        refine ⟨fun W hS => ?_, fun W hS => ?_, fun W hS => ?_, fun W hS => ?_, fun W hS => ?_, fun W hS => ?_, fun W hS => ?_, fun W hS => ?_, fun W hS => ?_, fun W hS => ?_, fun W hS => ?_, fun W hS => ?_, fun W hS => ?_, fun W hS => ?_, fun W hS => ?_, fun W hS => ?_, fun W hS => ?_, fun W hS => ?_, fun W hS => ?_, fun W hS => ?_, fun W hS => ?_, fun W hS => ?_, fun W hS => ?_, fun W hS => ?_, fun W hS => ?_, fun W hS => ?_, fun W hS => ?_, fun W hS => ?_, fun W hS => ?_, fun W hS => ?_, fun W hS => ?_, fun W hS => ?_, fun W hS => ?_, fun W hS => ?_, fun W hS => ?_, fun W hS => ?_, fun W hS => ?_, fun W hS => ?_, fun W hS => ?_, trivial⟩
        rotate_left 0
        · go_wp2_with (go_at_call 6; refine (HN.out _ hS).mono ?_; rintro e wn ⟨rfl, hbn⟩)
          exact ⟨rfl, rfl, belB⟩
        all_goals
          have y1 := cell_keep hS HC1.out
          have y2 := cell_keep hS HC2.out
          go_wp2
          exact ⟨rfl, rfl, belB⟩
      intro w9 hS9
      simp only [putL, List.take_succ_cons, List.take_zero, List.drop_succ_cons, List.drop_zero, Act.put, List.setIfInBounds_toArray, List.set_cons_succ, List.set_cons_zero, List.getD_cons_zero, List.getD_cons_succ]
      go_wp2_with fail
      go_ret
      exact ⟨rfl, hS9⟩
  · obtain ⟨rfl, hv, hssz, a', b', x, y, ea, eb, hx, hy, hm1, hm2⟩ := cl_some HCL.out
    obtain rfl : a = a' := by omega
    obtain rfl : b = b' := by omega
    rcases hsh with ⟨h0, _⟩ | ⟨_, rfl, x', y', hx', hy', hsh⟩
    · cases h0
    rw [Int.toNat_natCast] at hx' hy'
    obtain rfl : x = x' := Option.some.inj (hx.symm.trans hx')
    obtain rfl : y = y' := Option.some.inj (hy.symm.trans hy')
    obtain ⟨_, _, hss1, a2, b2, x2, y2, ea2, eb2, hx2, hy2, hm3, hm4⟩ := cl_some hcl1
    obtain rfl : a = a2 := by omega
    obtain rfl : b = b2 := by omega
    obtain rfl : x = x2 := Option.some.inj (hx.symm.trans hx2)
    obtain rfl : y = y2 := Option.some.inj (hy.symm.trans hy2)
    have hxm := List.mem_of_getElem? hx
    have hym := List.mem_of_getElem? hy
    have hxf := fewR_fits (HFF.out x hxm)
    have hyf := fewR_fits (HFF.out y hym)
    have hxr := HAR.out.each x hxm
    have hyr := HAR.out.each y hym
    have hM1 := fun W (hb : Below w.heap.size w W) => match_any x.r.pat s W (by have := hxf.pat; omega) (by omega) (HE.out.keep hb)
    have hM2 := fun W (hb : Below w.heap.size w W) => match_any y.r.pat s W (by have := hyf.pat; omega) (by omega) (HE.out.keep hb)
    rw [hm1] at hM1
    rw [hm2] at hM2
    have hM3 := fun W (hb : Below w.heap.size w W) => match_any x.r.pat s1 W (by have := hxf.pat; omega) (by omega) (HE.out.keep hb)
    have hM4 := fun W (hb : Below w.heap.size w W) => match_any y.r.pat s1 W (by have := hyf.pat; omega) (by omega) (HE.out.keep hb)
    rw [hm3] at hM3
    rw [hm4] at hM4
    have HM3 := Lib.hid hM3; have HM4 := Lib.hid hM4
    clear hM3 hM4 ea2 eb2 hx2 hy2 hm3 hm4 hss1
    obtain ⟨_, pb, po, rfl, hcx⟩ := HAR.out.at_ hx
    obtain ⟨_, pb', po', he, hcy⟩ := HAR.out.at_ hy
    injection he with he
    injection he with f1 f2 _
    subst f1; subst f2
    have c1 := hcx 1 _ rfl
    have c2 := hcy 1 _ rfl
    have c7 := hcx 7 _ rfl
    have c8 := hcy 7 _ rfl
    have HM1 := Lib.hid hM1; have HM2 := Lib.hid hM2; have HC1 := Lib.hid c7; have HC2 := Lib.hid c8; have HP1 := Lib.hid c1; have HP2 := Lib.hid c2
    have hcka := (valid_at hv hxm).2
    have hckb := (valid_at hv hym).2
    clear hM1 hM2 c7 c8 c1 c2 hcx hcy hx hy hx' hy' hxm hym hv HF HFF HCP HL ea eb HCL HAR hm1 hm2 hcl1
    have hi1 : (0 : Int) ≤ (a : Int) := by omega
    have hi2 : (a : Int) < (n : Int) := by omega
    have hk1 : (0 : Int) ≤ (b : Int) := by omega
    have hk2 : (b : Int) < (n : Int) := by omega
    have z1 := cell_keep hbw HP1.out
    have z2 := cell_keep hbw HP2.out
    rcases hsh with ⟨rfl, hgd⟩ | ⟨rfl, rfl, hsg, hshh, hsa, hsb⟩
    · obtain ⟨k1, k2, k3, k4, hTK, q1, q2⟩ := two_keys (GA := GA) (gn := gn) (gc := gc) (HA := HA) (hn := hn) (hc := hc) hxr hyr hxf hyf HG.out HH.out (by omega) (by omega)
      have hap : sameV (x.L.map (·.v)) G H = true → sameV (y.L.map (·.v)) G H = true := fun h => apart_none (check_hdr hcka) (check_hdr hckb) (fun v hv => hgd v hv) G H h
      generalize sameV (x.L.map (·.v)) G H = sa at *
      generalize sameV (y.L.map (·.v)) G H = sb at *
      have K1 := Lib.hid hTK.c1; have K2 := Lib.hid hTK.c2; have K3 := Lib.hid hTK.c3; have K4 := Lib.hid hTK.c4
      have q3 : (k1.toList != k2.toList) = !sa := by rw [← q1]; rfl
      have q4 : (k3.toList != k4.toList) = !sb := by rw [← q2]; rfl
      clear hTK hgd hcka hckb hxr hyr hxf hyf HG HH
      cases sa
      · clear hap
        go_upto_region 14 with (first | (go_at_call 9; (with_reducible refine (HM1.out _ hbw).mono ?_); rintro e wm ⟨rfl, hbm⟩; replace hbw := bstep hbw hbm; clear hbm; have z1 := cell_keep hbw HP1.out; have z2 := cell_keep hbw HP2.out) | (go_at_call 9; (with_reducible refine (HM2.out _ hbw).mono ?_); rintro e wm ⟨rfl, hbm⟩; replace hbw := bstep hbw hbm; clear hbm; have z1 := cell_keep hbw HP1.out; have z2 := cell_keep hbw HP2.out))
        clear z1 z2
        refine wp_det 39 (by kernel_rfl) (by kernel_rfl) (by kernel_rfl) (fun q => [.bool true, .bool true, .bool true, .bool false, .bool false, .slice (some ⟨pb, po, none⟩) n c, .int .i64 (a : Int), .pointer (some ⟨pb, po + a * 18, none⟩), .pointer (some ⟨pb, po + a * 18 + 7, none⟩), .slice x.V x.r.vary.length x.cv, .slice GA gn gc, .string k1, .slice (some ⟨pb, po, none⟩) n c, .int .i64 (a : Int), .pointer (some ⟨pb, po + a * 18, none⟩), .pointer (some ⟨pb, po + a * 18 + 7, none⟩), .slice x.V x.r.vary.length x.cv, .slice HA hn hc, .string k2, .bool true, .bool true, .bool true, undef, undef, undef, undef, undef, undef, undef, undef, undef, undef, undef, undef, undef, undef, undef, .bool true, .bool true].getD q undef) (fun W => Below w.heap.size w W) (hbw.trans (Below.drew (Below.refl _ _))) (fun _ _ h hb => bstep h hb) ?_ ?_
        · simp only [putL, List.take_succ_cons, List.take_zero, List.drop_succ_cons, List.drop_zero, Act.put, List.setIfInBounds_toArray, List.set_cons_succ, List.set_cons_zero, List.getD_cons_zero, List.getD_cons_succ]
          refine ⟨fun W hS => ?_, fun W hS => ?_, fun W hS => ?_, fun W hS => ?_, fun W hS => ?_, fun W hS => ?_, fun W hS => ?_, fun W hS => ?_, fun W hS => ?_, fun W hS => ?_, fun W hS => ?_, fun W hS => ?_, fun W hS => ?_, fun W hS => ?_, fun W hS => ?_, fun W hS => ?_, fun W hS => ?_, fun W hS => ?_, fun W hS => ?_, fun W hS => ?_, fun W hS => ?_, fun W hS => ?_, fun W hS => ?_, fun W hS => ?_, fun W hS => ?_, fun W hS => ?_, fun W hS => ?_, fun W hS => ?_, fun W hS => ?_, fun W hS => ?_, fun W hS => ?_, fun W hS => ?_, fun W hS => ?_, fun W hS => ?_, fun W hS => ?_, fun W hS => ?_, fun W hS => ?_, fun W hS => ?_, fun W hS => ?_, trivial⟩
          rotate_left 0
          · go_wp2_with (go_at_call 6; refine (HN.out _ hS).mono ?_; rintro e wn ⟨rfl, hbn⟩)
            exact ⟨rfl, rfl, belB⟩
          rotate_left 10
          · go_wp2_with (go_at_call 10; refine (K1.out _ hS).mono ?_; rintro e wk ⟨rfl, hbk⟩)
            exact ⟨rfl, rfl, belB⟩
          rotate_left 6
          · go_wp2_with (go_at_call 10; refine (K2.out _ hS).mono ?_; rintro e wk ⟨rfl, hbk⟩)
            exact ⟨rfl, rfl, belB⟩
          all_goals
            have y1 := cell_keep hS HC1.out
            have y2 := cell_keep hS HC2.out
            go_wp2
            exact ⟨rfl, rfl, belB⟩
        intro w9 hS9
        simp only [putL, List.take_succ_cons, List.take_zero, List.drop_succ_cons, List.drop_zero, Act.put, List.setIfInBounds_toArray, List.set_cons_succ, List.set_cons_zero, List.getD_cons_zero, List.getD_cons_succ]
        go_wp2_with fail
        go_ret
        exact ⟨rfl, hS9⟩
      · obtain rfl := hap rfl
        clear hap
        go_upto_region 14 with (first | (go_at_call 9; (with_reducible refine (HM1.out _ hbw).mono ?_); rintro e wm ⟨rfl, hbm⟩; replace hbw := bstep hbw hbm; clear hbm; have z1 := cell_keep hbw HP1.out; have z2 := cell_keep hbw HP2.out) | (go_at_call 9; (with_reducible refine (HM2.out _ hbw).mono ?_); rintro e wm ⟨rfl, hbm⟩; replace hbw := bstep hbw hbm; clear hbm; have z1 := cell_keep hbw HP1.out; have z2 := cell_keep hbw HP2.out))
        clear z1 z2
        refine wp_det 39 (by kernel_rfl) (by kernel_rfl) (by kernel_rfl) (fun q => [.bool true, .bool true, .bool true, .bool false, .bool false, .slice (some ⟨pb, po, none⟩) n c, .int .i64 (a : Int), .pointer (some ⟨pb, po + a * 18, none⟩), .pointer (some ⟨pb, po + a * 18 + 7, none⟩), .slice x.V x.r.vary.length x.cv, .slice GA gn gc, .string k1, .slice (some ⟨pb, po, none⟩) n c, .int .i64 (a : Int), .pointer (some ⟨pb, po + a * 18, none⟩), .pointer (some ⟨pb, po + a * 18 + 7, none⟩), .slice x.V x.r.vary.length x.cv, .slice HA hn hc, .string k2, .bool false, .bool false, .bool false, .slice (some ⟨pb, po, none⟩) n c, .int .i64 (b : Int), .pointer (some ⟨pb, po + b * 18, none⟩), .pointer (some ⟨pb, po + b * 18 + 7, none⟩), .slice y.V y.r.vary.length y.cv, .slice GA gn gc, .string k3, .slice (some ⟨pb, po, none⟩) n c, .int .i64 (b : Int), .pointer (some ⟨pb, po + b * 18, none⟩), .pointer (some ⟨pb, po + b * 18 + 7, none⟩), .slice y.V y.r.vary.length y.cv, .slice HA hn hc, .string k4, .bool true, .bool true, .bool true].getD q undef) (fun W => Below w.heap.size w W) (hbw.trans (Below.drew (Below.refl _ _))) (fun _ _ h hb => bstep h hb) ?_ ?_
        · simp only [putL, List.take_succ_cons, List.take_zero, List.drop_succ_cons, List.drop_zero, Act.put, List.setIfInBounds_toArray, List.set_cons_succ, List.set_cons_zero, List.getD_cons_zero, List.getD_cons_succ]
          refine ⟨fun W hS => ?_, fun W hS => ?_, fun W hS => ?_, fun W hS => ?_, fun W hS => ?_, fun W hS => ?_, fun W hS => ?_, fun W hS => ?_, fun W hS => ?_, fun W hS => ?_, fun W hS => ?_, fun W hS => ?_, fun W hS => ?_, fun W hS => ?_, fun W hS => ?_, fun W hS => ?_, fun W hS => ?_, fun W hS => ?_, fun W hS => ?_, fun W hS => ?_, fun W hS => ?_, fun W hS => ?_, fun W hS => ?_, fun W hS => ?_, fun W hS => ?_, fun W hS => ?_, fun W hS => ?_, fun W hS => ?_, fun W hS => ?_, fun W hS => ?_, fun W hS => ?_, fun W hS => ?_, fun W hS => ?_, fun W hS => ?_, fun W hS => ?_, fun W hS => ?_, fun W hS => ?_, fun W hS => ?_, fun W hS => ?_, trivial⟩
          rotate_left 0
          · go_wp2_with (go_at_call 6; refine (HN.out _ hS).mono ?_; rintro e wn ⟨rfl, hbn⟩)
            exact ⟨rfl, rfl, belB⟩
          rotate_left 10
          · go_wp2_with (go_at_call 10; refine (K1.out _ hS).mono ?_; rintro e wk ⟨rfl, hbk⟩)
            exact ⟨rfl, rfl, belB⟩
          rotate_left 6
          · go_wp2_with (go_at_call 10; refine (K2.out _ hS).mono ?_; rintro e wk ⟨rfl, hbk⟩)
            exact ⟨rfl, rfl, belB⟩
          rotate_left 9
          · go_wp2_with (go_at_call 10; refine (K3.out _ hS).mono ?_; rintro e wk ⟨rfl, hbk⟩)
            exact ⟨rfl, rfl, belB⟩
          rotate_left 6
          · go_wp2_with (go_at_call 10; refine (K4.out _ hS).mono ?_; rintro e wk ⟨rfl, hbk⟩)
            exact ⟨rfl, rfl, belB⟩
          all_goals
            have y1 := cell_keep hS HC1.out
            have y2 := cell_keep hS HC2.out
            go_wp2
            exact ⟨rfl, rfl, belB⟩
        intro w9 hS9
        simp only [putL, List.take_succ_cons, List.take_zero, List.drop_succ_cons, List.drop_zero, Act.put, List.setIfInBounds_toArray, List.set_cons_succ, List.set_cons_zero, List.getD_cons_zero, List.getD_cons_succ]
        go_wp2_with fail
        go_ret
        exact ⟨rfl, hS9⟩
    · obtain ⟨k1, k2, k3, k4, hTK, q1, q2⟩ := two_keys (GA := g.A) (gn := g.h.length) (gc := g.c) (HA := h.A) (hn := h.h.length) (hc := h.c) (hxr.keep hbw) (hyr.keep hbw) hxf hyf hsg.r hshh.r (by have := hsg.l; omega) (by have := hshh.l; omega)
      rw [hsa] at q1
      rw [hsb] at q2
      have K1 := Lib.hid hTK.c1; have K2 := Lib.hid hTK.c2; have K3 := Lib.hid hTK.c3; have K4 := Lib.hid hTK.c4
      have q3 : (k1.toList != k2.toList) = false := by show (!(k1.toList == k2.toList)) = false; rw [q1]; rfl
      have q4 : (k3.toList != k4.toList) = true := by show (!(k3.toList == k4.toList)) = true; rw [q2]; rfl
      have HD1 := Lib.hid (cell_keep hbw HC1.out); have HD2 := Lib.hid (cell_keep hbw HC2.out)
      have hbz : Below w2.heap.size w2 w2 := Below.refl _ _
      clear hTK hcka hckb hxr hyr hxf hyf hsa hsb HG HH
      go_upto_region 12 with (first | (go_at_call 9; (with_reducible refine (HM1.out _ (bstep hbw hbz)).mono ?_); rintro e wm ⟨rfl, hbm⟩; replace hbz := bstep hbz hbm; clear hbm; have z1 := cell_keep (bstep hbw hbz) HP1.out; have z2 := cell_keep (bstep hbw hbz) HP2.out) | (go_at_call 9; (with_reducible refine (HM2.out _ (bstep hbw hbz)).mono ?_); rintro e wm ⟨rfl, hbm⟩; replace hbz := bstep hbz hbm; clear hbm; have z1 := cell_keep (bstep hbw hbz) HP1.out; have z2 := cell_keep (bstep hbw hbz) HP2.out))
      clear z1 z2
      refine wp_det 32 (by kernel_rfl) (by kernel_rfl) (by kernel_rfl) (fun q => [.slice (some ⟨pb, po, none⟩) n c, .int .i64 (a : Int), .pointer (some ⟨pb, po + a * 18, none⟩), .pointer (some ⟨pb, po + a * 18 + 7, none⟩), .slice x.V x.r.vary.length x.cv, .slice g.A g.h.length g.c, .string k1, .slice (some ⟨pb, po, none⟩) n c, .int .i64 (a : Int), .pointer (some ⟨pb, po + a * 18, none⟩), .pointer (some ⟨pb, po + a * 18 + 7, none⟩), .slice x.V x.r.vary.length x.cv, .slice h.A h.h.length h.c, .string k2, .bool true, .bool true, .slice (some ⟨pb, po, none⟩) n c, .int .i64 (b : Int), .pointer (some ⟨pb, po + b * 18, none⟩), .pointer (some ⟨pb, po + b * 18 + 7, none⟩), .slice y.V y.r.vary.length y.cv, .slice g.A g.h.length g.c, .string k3, .slice (some ⟨pb, po, none⟩) n c, .int .i64 (b : Int), .pointer (some ⟨pb, po + b * 18, none⟩), .pointer (some ⟨pb, po + b * 18 + 7, none⟩), .slice y.V y.r.vary.length y.cv, .slice h.A h.h.length h.c, .string k4, .bool true, .bool true].getD q undef) (fun W => Below w2.heap.size w2 W) (hbz.trans (Below.drew (Below.refl _ _))) (fun _ _ h hb => bstep h hb) ?_ ?_
      · simp only [putL, List.take_succ_cons, List.take_zero, List.drop_succ_cons, List.drop_zero, Act.put, List.setIfInBounds_toArray, List.set_cons_succ, List.set_cons_zero, List.getD_cons_zero, List.getD_cons_succ]
        refine ⟨fun W hS => ?_, fun W hS => ?_, fun W hS => ?_, fun W hS => ?_, fun W hS => ?_, fun W hS => ?_, fun W hS => ?_, fun W hS => ?_, fun W hS => ?_, fun W hS => ?_, fun W hS => ?_, fun W hS => ?_, fun W hS => ?_, fun W hS => ?_, fun W hS => ?_, fun W hS => ?_, fun W hS => ?_, fun W hS => ?_, fun W hS => ?_, fun W hS => ?_, fun W hS => ?_, fun W hS => ?_, fun W hS => ?_, fun W hS => ?_, fun W hS => ?_, fun W hS => ?_, fun W hS => ?_, fun W hS => ?_, fun W hS => ?_, fun W hS => ?_, fun W hS => ?_, fun W hS => ?_, trivial⟩
        rotate_left 6
        · go_wp2_with (go_at_call 10; refine (K1.out _ hS).mono ?_; rintro e wk ⟨rfl, hbk⟩)
          exact ⟨rfl, rfl, belB⟩
        rotate_left 6
        · go_wp2_with (go_at_call 10; refine (K2.out _ hS).mono ?_; rintro e wk ⟨rfl, hbk⟩)
          exact ⟨rfl, rfl, belB⟩
        rotate_left 8
        · go_wp2_with (go_at_call 10; refine (K3.out _ hS).mono ?_; rintro e wk ⟨rfl, hbk⟩)
          exact ⟨rfl, rfl, belB⟩
        rotate_left 6
        · go_wp2_with (go_at_call 10; refine (K4.out _ hS).mono ?_; rintro e wk ⟨rfl, hbk⟩)
          exact ⟨rfl, rfl, belB⟩
        all_goals
          have y1 := cell_keep hS HD1.out
          have y2 := cell_keep hS HD2.out
          go_wp2
          exact ⟨rfl, rfl, belB⟩
      intro w9 hS9
      clear hbz
      have hbz : Below w2.heap.size w2 w9 := hS9
      clear hS9
      have z1 := cell_keep (bstep hbw hbz) HP1.out
      have z2 := cell_keep (bstep hbw hbz) HP2.out
      simp only [putL, List.take_succ_cons, List.take_zero, List.drop_succ_cons, List.drop_zero, Act.put, List.setIfInBounds_toArray, List.set_cons_succ, List.set_cons_zero, List.getD_cons_zero, List.getD_cons_succ]
      go_wp2_with (first | (go_at_call 6; refine (HN.out _ (bstep hbw hbz)).mono ?_; rintro e wn ⟨rfl, hbn⟩; replace hbz := bstep hbz hbn; clear hbn; have z1 := cell_keep (bstep hbw hbz) HP1.out; have z2 := cell_keep (bstep hbw hbz) HP2.out) | (go_at_call 9; (with_reducible refine (HM3.out _ (bstep hbw hbz)).mono ?_); rintro e wm ⟨rfl, hbm⟩; replace hbz := bstep hbz hbm; clear hbm; have z1 := cell_keep (bstep hbw hbz) HP1.out; have z2 := cell_keep (bstep hbw hbz) HP2.out) | (go_at_call 9; (with_reducible refine (HM4.out _ (bstep hbw hbz)).mono ?_); rintro e wm ⟨rfl, hbm⟩; replace hbz := bstep hbz hbm; clear hbm; have z1 := cell_keep (bstep hbw hbz) HP1.out; have z2 := cell_keep (bstep hbw hbz) HP2.out))
      go_ret
      exact ⟨rfl, bstep hbw hbz⟩
end Go.Proofs.YtmlhecjhjjlhfaaGreatDoor
