/- Whether there is an address between patterns: analyse.isMatched, analyse.gap and analyse.Gap. -/
import Derived.Test.YtmlhecjhjjlhfaaGreatDoorSZ40
import Derived.Test.YtmlhecjhjjlhfaaGreatDoorSZ31
import Derived.Test.YtmlhecjhjjlhfaaGreatDoorSZ16
import Derived.Test.YtmlhecjhjjlhfaaGreatDoorProg
import Derived.WalkKit
import Derived.WalkSpells
import Derived.WalkLawsBesides
import Derived.Below
import Derived.Deep.QuietTactic
import Derived.BigQuiet
import Derived.Lib.QuietBelow
import Derived.Lib.Strings
import Derived.Lib.Hide
import Derived.Deep.RegionWith
import Derived.Deep.RegionHeld3
import Derived.Lib.IndexBytes
import Derived.Test.YtmlhecjhjjlhfaaGreatDoorSZ34
namespace Go.Proofs.YtmlhecjhjjlhfaaGreatDoor
open Go.RowKit Go.Sort
set_option linter.unusedVariables false
set_option linter.unusedSimpArgs false
set_option maxRecDepth 100000
theorem isMatched1_any (q a : ByteArray) (b : Nat) (w : World) (hc : w.cell? ⟨b, 0, none⟩ = some (.string a)) (hq : q.size ≤ 100000) (ha : a.size ≤ 100000) (hE : Env w) : Calls Tryz.prog 142 #[.string q, .pointer (some ⟨b, 0, none⟩)] w (Ret w (.bool (matchB q a))) := by
  have HH := Lib.hid (match_any q a w hq ha hE)
  clear hE
  generalize matchB q a = v at *
  go_enter Tryz.func142, Tryz.ntmps142
  go_wp2_with (go_at_call 9; refine HH.out.mono ?_; rintro e w2 ⟨rfl, hb2⟩)
  go_ret
  exact ⟨rfl, hb2⟩
theorem isMatched_any (a : ByteArray) (A : Option Addr) (n c : Nat) (bs : List ByteArray) (w : World) (hR : Reads w 1 A n (bs.map .string)) (hn : n ≤ 1000) (hs : ∀ b ∈ bs, b.size ≤ 100000) (ha : a.size ≤ 100000) (hE : Env w) :
    Calls Tryz.prog 80 #[.slice A n c, .string a] w (Ret w (.bool (bs.any fun q => matchB q a))) := by
  have hb0 : ∀ W (hb : Below w.heap.size w W) (b : Nat), W.cell? ⟨b, 0, none⟩ = some (.string a) → Calls Tryz.prog 34 #[.slice A n c, .func (.func 142) #[] #[.pointer (some ⟨b, 0, none⟩)]] W (Ret W (.bool (bs.any fun q => matchB q a))) := fun W hb b hc =>
    containsFuncC_any 142 (enters_of Tryz.func142 (by kernel_rfl) rfl) (.pointer (some ⟨b, 0, none⟩)) (fun q => matchB q a) A n c bs W (fun y hy W' hb' => isMatched1_any y a b W' (cell_keep hb' hc) (hs y hy) ha (Env.keep hE (bstep hb hb'))) (hR.keep hb) (by omega)
  generalize (bs.any fun q => matchB q a) = v at *
  have hmf : ∀ (fn : Fn) (first cap : Array Value) (w : World), (Instr.makeFunc fn first cap).run Tryz.prog w = .ok (.func fn first cap) w := fun _ _ _ _ => rfl
  have HC := Lib.hid hb0
  clear hb0 hR hE hs
  go_enter Tryz.func80, Tryz.ntmps80
  go_wp2_with (go_at_call 34; refine (HC.out _ belB w.heap.size (by exact ((cell_of_row _ _ 0 _ _ _ (World.alloc_heap_new w _)).trans rfl))).mono ?_; rintro e w3 ⟨rfl, hb3⟩)
  go_ret
  exact ⟨rfl, belB⟩
theorem cutSuf_any (p : ByteArray) (x : Pat) (w : World) (hx : compileB p = some x) (hp : p.size ≤ 100000) : Calls Tryz.prog 77 #[.string p, .string ⟨#[47, 42, 42]⟩] w (Ret w (.tuple #[.string (fixS x), .bool x.tail])) := by
  have hh := fix_has hx
  have ht := fix_trim hx
  refine (Tryz.strings_CutSuffix p ⟨#[47, 42, 42]⟩ w (by omega)).mono ?_
  rintro e w' ⟨rfl, rfl⟩
  refine ⟨?_, Below.refl _ _⟩
  rw [ht, hh]
theorem join_size {c : ByteArray} {ws : List ByteArray} (hc : isNameB c = true) (hw : ∀ w ∈ ws, isWordB w = true) (hn : ws.length ≤ 32) : (joinS (c :: ws)).size ≤ 4096 := by
  rw [joinS_write, toB_size]
  exact adr_short hc hw hn
set_option maxHeartbeats 8000000 in
theorem gapT_any (p : ByteArray) (x : Pat) (ys : List Pat) (A : Option Addr) (n c : Nat) (bs : List ByteArray) (w : World) (hx : compileB p = some x) (hy : bs.map compileB = ys.map some) (hp : p.size ≤ 100000)
    (hR : Reads w 1 A n (bs.map .string)) (hn : n ≤ 10) (hs : ∀ b ∈ bs, b.size ≤ 300) (hE : Env w) (hT : Tab w) :
    Calls Tryz.prog 36 #[.string p, .slice A n c] w fun e w' => ∃ s is, e = .returned (.tuple #[.string s, .bool is]) ∧ GapPost p bs s is ∧ s.size ≤ 4096 ∧ Below w.heap.size w w' := by
  have hfit := compile_fit hx
  have hnum := hfit.num
  have hmost := most_le hfit
  have hml : x.parts.length ≤ mostP x := by
    unfold mostP
    split <;> omega
  have cC := fun W => cutSuf_any p x W hx hp
  have cN := fun W => Tryz.strings_Count_one (fixS x) 47 W
  rw [fix_count hfit] at cN
  have cX := fun (k : Nat) (hk : x.parts.length + k ≤ 32) (W : World) (hb : Below w.heap.size w W) => exampl_any p x (x.parts.length + k) A n c bs W hx hp (by omega) hk (hR.keep hb) hn hs (hE.keep hb) (hT.keep hb)
  have cM := fun (a : ByteArray) (ha : a.size ≤ 100000) (W : World) (hb : Below w.heap.size w W) => isMatched_any a A n c bs W (hR.keep hb) (by omega) (fun b h => by have := hs b h; omega) ha (hE.keep hb)
  obtain ⟨l, hl⟩ : ∃ l, l = x.parts.length := ⟨_, rfl⟩
  obtain ⟨N, hN⟩ : ∃ N, N = mostP x + 1 - l := ⟨_, rfl⟩
  have hNT : x.tail = true → (32 : Int) - (l : Int) + 1 = (N : Int) := fun h => by
    have e : mostP x = 32 := by unfold mostP; rw [if_pos h]
    omega
  have hNF : x.tail = false → (l : Int) - (l : Int) + 1 = (N : Int) := fun h => by
    have e : mostP x = x.parts.length := by unfold mostP; rw [if_neg (by rw [h]; decide)]
    omega
  obtain ⟨tl, htl⟩ : ∃ tl, tl = x.tail := ⟨_, rfl⟩
  rw [← htl] at cC hNT hNF
  clear htl
  have HNT := Lib.hid hNT; have HNF := Lib.hid hNF
  clear hNT hNF
  have hNP : ∀ k, k < N → l + k ≤ mostP x ∧ l + k ≤ 32 := fun k hk => by omega
  rw [← hl] at cN cX
  have cX2 : ∀ k, k < N → ∀ W, Below w.heap.size w W → Calls Tryz.prog 79 #[.string p, .int .i64 ((l : Int) + (k : Int)), .slice A n c] W fun e w' => ∃ cu ws, e = .returned (.string (joinS (cu :: ws))) ∧ MadeAt (namedL bs) x.cust cu ∧ Made (namedL bs) (partsM x (l + k)) ws ∧ Below W.heap.size W w' := fun k hk W hb => by
    have := cX k (hNP k hk).2 W hb
    rwa [show (((l + k : Nat)) : Int) = (l : Int) + (k : Int) from by omega] at this
  have HC := Lib.hid cC; have HN := Lib.hid cN; have HX := Lib.hid cX2; have HM := Lib.hid cM; have HNP := Lib.hid hNP; have HF := Lib.hid hfit; have HP := Lib.hid hx; have HY := Lib.hid hy; have HLL := Lib.hid hl; have HNN := Lib.hid hN
  have hl32 : l ≤ 32 := by omega
  clear cC cN cX cX2 cM hNP hfit hx hy hE hT hR hs hnum hmost hml hl hN
  go_enter Tryz.func36, Tryz.ntmps36
  go_upto_if 20 with (first | (go_at_call 77; refine (HC.out _).mono ?_; rintro e w2 ⟨rfl, hb2⟩) | (go_at_call 78; refine (HN.out _).mono ?_; rintro e w' ⟨rfl, hww⟩; rw [hww]; clear hww w'))
  go_cut [9] (fun v9 wx => (∃ M : Int, v9 = .int .i64 M ∧ M - (l : Int) + 1 = (N : Int) ∧ M ≤ 32) ∧ wx = w2)
  case first =>
    cases tl
    all_goals
      go_wp2_with fail
      go_meet
      first
        | exact ⟨⟨_, rfl, HNT.out (by simp), by omega⟩, rfl⟩
        | exact ⟨⟨_, rfl, HNF.out (by simp), by omega⟩, rfl⟩
  case rest =>
    obtain ⟨⟨M, rfl, hM, hM32⟩, rfl⟩ := hcut
    clear HNT HNF
    go_upto_region 6 with fail
    go_cut [24, 25] (fun v24 v25 wx => v24 = .int .i64 (N : Int) ∧ v25 = .int .i64 0 ∧ wx = wc)
    case first =>
      go_wp2_with fail
      go_meet
      rw [← hM]
      exact ⟨rfl, rfl, rfl⟩
    case rest =>
      obtain ⟨rfl, rfl, rfl⟩ := hcut
      go_wp2_with fail
      go_loopw [25] (fun iv wr => ∃ k : Nat, k ≤ N ∧ iv = .int .i64 k ∧ Hid (Missed x ys k) ∧ Below w.heap.size w wr) (fun iv _ => N - (intOf iv).toNat)
      case atStart => exact ⟨0, by omega, rfl, Lib.hid (Missed.zero x ys), hb2⟩
      case round =>
        obtain ⟨k, hk, rfl, HMI, hb⟩ := hrel
        clear hb2
        by_cases hlt : k < N
        · have hk0 : (0 : Int) ≤ (k : Int) := by omega
          have hk1 : (k : Int) < (N : Int) := by omega
          have hnp := HNP.out k hlt
          have hcX := HX.out k hlt wr hb
          have HCX := Lib.hid hcX
          clear hcX
          go_upto_region 10 with (go_at_call 79; refine HCX.out.mono ?_; rintro e w3 ⟨cu, ws, rfl, hmc, hmw, hb3⟩)
          have hnamed := named_all HY.out
          have hml : x.parts.length ≤ l + k := by have := HLL.out; omega
          have hex := exam_of hnamed HF.out hml hmc hmw
          have hws : ws.length ≤ 32 := by rw [hex.len]; exact hnp.2
          have hsz := join_size hex.name hex.words hws
          have hcM := HM.out (joinS (cu :: ws)) (by omega) w3 (bstep hb hb3)
          have hem := ex_match HY.out HF.out hml hnp.2 hex
          have HEX := Lib.hid hex; have HEM := Lib.hid hem
          clear hmc hmw hnamed hex hem
          cases hv : (bs.any fun q => matchB q (joinS (cu :: ws)))
          · rw [hv] at hcM
            have HCM := Lib.hid hcM; have HV := Lib.hid hv
            clear hcM hv
            have hpost : GapPost p bs (joinS (cu :: ws)) true := gap_hit HP.out HY.out (by have := HLL.out; have := hnp.1; omega) HMI.out HV.out (by have := HEX.out; rwa [HLL.out] at this)
            have HPO := Lib.hid hpost
            clear hpost
            go_wp2_with (go_at_call 80; refine HCM.out.mono ?_; rintro e w4 ⟨rfl, hb4⟩)
            go_ret2
            exact ⟨_, _, rfl, HPO.out, hsz, bstep (bstep hb hb3) hb4⟩
          · rw [hv] at hcM
            have HCM := Lib.hid hcM
            have HMI2 := Lib.hid (HMI.out.succ (by rw [← HLL.out, ← HEM.out]; exact hv))
            clear hcM hv
            go_wp2_with (go_at_call 80; refine HCM.out.mono ?_; rintro e w4 ⟨rfl, hb4⟩)
            exact ⟨⟨k + 1, by omega, by go_num, HMI2, bstep (bstep hb hb3) hb4⟩, by simp [intOf]; omega⟩
        · obtain rfl : k = N := by omega
          have hpost : GapPost p bs ⟨#[]⟩ false := gap_miss HP.out HY.out (by rw [← HLL.out, ← HNN.out]; exact HMI.out)
          have HPO := Lib.hid hpost
          clear hpost
          go_wp2_with fail
          go_ret2
          exact ⟨_, _, rfl, HPO.out, by decide, hb⟩
end Go.Proofs.YtmlhecjhjjlhfaaGreatDoor
namespace Go.Proofs.YtmlhecjhjjlhfaaGreatDoor
open Go.RowKit Go.Sort
set_option linter.unusedVariables false
set_option linter.unusedSimpArgs false
set_option maxRecDepth 100000
theorem gap1_any (q : ByteArray) (w : World) (hq : q.size ≤ 100000) (hE : Env w) : Calls Tryz.prog 35 #[.string q] w (Ret w (.bool (!(compileB q).isSome))) := by
  have HH := Lib.hid (valid_any q w hq hE)
  clear hE
  generalize (compileB q).isSome = v at *
  go_enter Tryz.func35, Tryz.ntmps35
  go_wp2_with (go_at_call 33; refine HH.out.mono ?_; rintro e w2 ⟨rfl, hb2⟩)
  go_ret
  exact ⟨rfl, hb2⟩
def gapOk (p : ByteArray) (bs : List ByteArray) : Bool := (compileB p).isSome && decide (bs.length ≤ 64) && bs.all fun q => (compileB q).isSome
theorem all_comp : ∀ bs : List ByteArray, (bs.all fun q => (compileB q).isSome) = true → ∃ ys : List Pat, bs.map compileB = ys.map some
  | [], _ => ⟨[], rfl⟩
  | b :: bs, h => by
    rw [List.all_cons, Bool.and_eq_true] at h
    obtain ⟨y, hy⟩ := Option.isSome_iff_exists.1 h.1
    obtain ⟨ys, e⟩ := all_comp bs h.2
    exact ⟨y :: ys, by rw [List.map_cons, List.map_cons, hy, e]⟩
def GapRes (p : ByteArray) (bs : List ByteArray) (s : ByteArray) (is : Bool) (er : Int) : Prop :=
  (gapOk p bs = false ∧ s = ⟨#[]⟩ ∧ is = false ∧ er = 1) ∨ (gapOk p bs = true ∧ er = 0 ∧ GapPost p bs s is ∧ s.size ≤ 4096)
set_option maxHeartbeats 8000000 in
theorem gap_any (p : ByteArray) (A : Option Addr) (n c : Nat) (bs : List ByteArray) (w : World) (hp : p.size ≤ 100000) (hR : Reads w 1 A n (bs.map .string)) (hn : n ≤ 10 ∨ 64 < n ∧ n ≤ 1000) (hs : ∀ b ∈ bs, b.size ≤ 300) (hE : Env w) (hT : Tab w) :
    Calls Tryz.prog 12 #[.string p, .slice A n c] w fun e w' => ∃ s is er, e = .returned (.tuple #[.string s, .bool is, .int .i64 er]) ∧ GapRes p bs s is er ∧ Below w.heap.size w w' := by
  have hbl : bs.length = n := by have := hR.1; simpa using this
  have cV := fun (W : World) (hb : Below w.heap.size w W) => valid_any p W hp (hE.keep hb)
  have cA := fun (W : World) (hb : Below w.heap.size w W) => containsFuncS0_any 35 (enters_of Tryz.func35 (by kernel_rfl) rfl) (fun q => !(compileB q).isSome) A n c bs W (fun y hy W' hb' => gap1_any y W' (by have := hs y hy; omega) (hE.keep (bstep hb hb'))) (hR.keep hb) (by omega)
  have hany : (bs.any fun q => !(compileB q).isSome) = !(bs.all fun q => (compileB q).isSome) := by rw [List.all_eq_not_any_not]; simp
  rw [hany] at cA
  clear hany
  have cG := fun (x : Pat) (hx : compileB p = some x) (h : (bs.all fun q => (compileB q).isSome) = true) (h10 : n ≤ 10) (W : World) (hb : Below w.heap.size w W) => show Calls Tryz.prog 36 #[.string p, .slice A n c] W fun e w' => ∃ s is, e = .returned (.tuple #[.string s, .bool is]) ∧ GapPost p bs s is ∧ s.size ≤ 4096 ∧ Below W.heap.size W w' by
    obtain ⟨ys, e⟩ := all_comp bs h
    exact gapT_any p x ys A n c bs W hx e hp (hR.keep hb) h10 hs (hE.keep hb) (hT.keep hb)
  have HV := Lib.hid cV; have HA := Lib.hid cA; have HG := Lib.hid cG; have HBL := Lib.hid hbl
  clear cV cA cG hE hT hR hs
  have fail_ : gapOk p bs = false → GapRes p bs ⟨#[]⟩ false 1 := fun h => .inl ⟨h, rfl, rfl, rfl⟩
  have HFA := Lib.hid fail_
  clear fail_
  cases hv : (compileB p).isSome
  · have hf : gapOk p bs = false := by unfold gapOk; rw [hv]; rfl
    have HF := Lib.hid (HFA.out hf)
    rw [hv] at HV
    clear hf hv HFA hbl
    go_enter Tryz.func12, Tryz.ntmps12
    go_wp2_with (go_at_call 33; refine (HV.out _ (Below.refl _ _)).mono ?_; rintro e w2 ⟨rfl, hb2⟩)
    go_ret3
    exact ⟨_, _, _, rfl, HF.out, hb2⟩
  · rw [hv] at HV
    by_cases h64 : 64 < n
    · have hf : gapOk p bs = false := by unfold gapOk; rw [hv, decide_eq_false (by omega)]; rfl
      have HF := Lib.hid (HFA.out hf)
      have h6 : decide ((64 : Int) < (n : Int)) = true := decide_eq_true (by omega)
      clear hf hv HFA hbl
      go_enter Tryz.func12, Tryz.ntmps12
      go_wp2_with (go_at_call 33; refine (HV.out _ (Below.refl _ _)).mono ?_; rintro e w2 ⟨rfl, hb2⟩)
      go_ret3
      exact ⟨_, _, _, rfl, HF.out, hb2⟩
    · have h6 : decide ((64 : Int) < (n : Int)) = false := decide_eq_false (by omega)
      have h10 : n ≤ 10 := by omega
      cases ha : (bs.all fun q => (compileB q).isSome)
      · have hf : gapOk p bs = false := by unfold gapOk; rw [ha, Bool.and_false]
        have HF := Lib.hid (HFA.out hf)
        rw [ha] at HA
        clear hf hv ha HFA hbl
        go_enter Tryz.func12, Tryz.ntmps12
        go_wp2_with (first | (go_at_call 33; refine (HV.out _ (Below.refl _ _)).mono ?_; rintro e w2 ⟨rfl, hb2⟩) | (go_at_call 34; refine (HA.out _ hb2).mono ?_; rintro e w3 ⟨rfl, hb3⟩))
        go_ret3
        exact ⟨_, _, _, rfl, HF.out, bstep hb2 hb3⟩
      · have hf : gapOk p bs = true := by unfold gapOk; rw [hv, ha, decide_eq_true (by omega)]; rfl
        obtain ⟨x, hx⟩ := Option.isSome_iff_exists.1 hv
        have HG2 := Lib.hid (HG.out x hx ha h10)
        rw [ha] at HA
        have HF := Lib.hid hf
        clear hf hv ha hx HFA hbl HG
        go_enter Tryz.func12, Tryz.ntmps12
        go_wp2_with (first | (go_at_call 33; refine (HV.out _ (Below.refl _ _)).mono ?_; rintro e w2 ⟨rfl, hb2⟩) | (go_at_call 34; refine (HA.out _ hb2).mono ?_; rintro e w3 ⟨rfl, hb3⟩) | (go_at_call 36; refine (HG2.out _ (bstep hb2 hb3)).mono ?_; rintro e w4 ⟨s, is, rfl, hpo, hsz, hb4⟩; have HPO := Lib.hid hpo; clear hpo))
        go_ret3
        exact ⟨_, _, _, rfl, .inr ⟨HF.out, rfl, HPO.out, hsz⟩, bstep (bstep hb2 hb3) hb4⟩
end Go.Proofs.YtmlhecjhjjlhfaaGreatDoor
