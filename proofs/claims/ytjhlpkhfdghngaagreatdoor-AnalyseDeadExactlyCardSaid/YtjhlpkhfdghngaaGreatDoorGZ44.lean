/- Whether there is an address between patterns: analyse.isMatched, analyse.gap and analyse.Gap. -/
import Derived.Test.YtjhlpkhfdghngaaGreatDoorGZ41
import Derived.Test.YtjhlpkhfdghngaaGreatDoorGZ33
import Derived.Test.YtjhlpkhfdghngaaGreatDoorGZ17
import Derived.Test.YtjhlpkhfdghngaaGreatDoorProg
import Derived.WalkKit
import Derived.WalkSpells
import Derived.WalkLawsBesides
import Derived.Below
import Derived.Deep.QuietTactic
import Derived.BigQuiet
import Derived.Lib.QuietBelow
import Derived.Lib.Strings
import Derived.Lib.Hide
import Derived.Deep.RegionWith
import Derived.Deep.RegionHeld3
import Derived.Lib.IndexBytes
import Derived.Test.YtjhlpkhfdghngaaGreatDoorGZ42
import Derived.Test.YtjhlpkhfdghngaaGreatDoorGZ38
import Derived.Test.YtjhlpkhfdghngaaGreatDoorGZ40
import Derived.Test.YtjhlpkhfdghngaaGreatDoorGZ1
import Derived.Laws.Rows
import Derived.Laws.Tables
import Derived.Laws.CopyOwn
import Derived.Test.YtjhlpkhfdghngaaGreatDoorGZ4
import Derived.OwnWalk
import Derived.Maps.AppendAt
import Derived.Test.YtjhlpkhfdghngaaGreatDoorGZ39
import Derived.Test.YtjhlpkhfdghngaaGreatDoorGZ13
import Derived.Test.YtjhlpkhfdghngaaGreatDoorGZ25
import Derived.Test.YtjhlpkhfdghngaaGreatDoorGZ31
import Derived.Test.YtjhlpkhfdghngaaGreatDoorGZ14
import Derived.Test.YtjhlpkhfdghngaaGreatDoorGZ24
import Derived.Test.YtjhlpkhfdghngaaGreatDoorGZ19
namespace Go.Proofs.YtjhlpkhfdghngaaGreatDoor
open Go.RowKit Go.Sort
set_option linter.unusedVariables false
set_option linter.unusedSimpArgs false
set_option maxRecDepth 100000
theorem isMatched1_any (q a : ByteArray) (b : Nat) (w : World) (hc : w.cell? ⟨b, 0, none⟩ = some (.string a)) (hq : q.size ≤ 100000) (ha : a.size ≤ 100000) (hE : Env w) : Calls Tryz.prog 207 #[.string q, .pointer (some ⟨b, 0, none⟩)] w (Ret w (.bool (matchB q a))) := by
  have HH := Lib.hid (match_any q a w hq ha hE)
  clear hE
  generalize matchB q a = v at *
  go_enter Tryz.func207, Tryz.ntmps207
  go_wp2_with (go_at_call 21; refine HH.out.mono ?_; rintro e w2 ⟨rfl, hb2⟩)
  go_ret
  exact ⟨rfl, hb2⟩
theorem isMatched_any (a : ByteArray) (A : Option Addr) (n c : Nat) (bs : List ByteArray) (w : World) (hR : Reads w 1 A n (bs.map .string)) (hn : n ≤ 1000) (hs : ∀ b ∈ bs, b.size ≤ 100000) (ha : a.size ≤ 100000) (hE : Env w) :
    Calls Tryz.prog 137 #[.slice A n c, .string a] w (Ret w (.bool (bs.any fun q => matchB q a))) := by
  have hb0 : ∀ W (hb : Below w.heap.size w W) (b : Nat), W.cell? ⟨b, 0, none⟩ = some (.string a) → Calls Tryz.prog 69 #[.slice A n c, .func (.func 207) #[] #[.pointer (some ⟨b, 0, none⟩)]] W (Ret W (.bool (bs.any fun q => matchB q a))) := fun W hb b hc =>
    containsFuncC_any 207 (enters_of Tryz.func207 (by kernel_rfl) rfl) (.pointer (some ⟨b, 0, none⟩)) (fun q => matchB q a) A n c bs W (fun y hy W' hb' => isMatched1_any y a b W' (cell_keep hb' hc) (hs y hy) ha (Env.keep hE (bstep hb hb'))) (hR.keep hb) (by omega)
  generalize (bs.any fun q => matchB q a) = v at *
  have hmf : ∀ (fn : Fn) (first cap : Array Value) (w : World), (Instr.makeFunc fn first cap).run Tryz.prog w = .ok (.func fn first cap) w := fun _ _ _ _ => rfl
  have HC := Lib.hid hb0
  clear hb0 hR hE hs
  go_enter Tryz.func137, Tryz.ntmps137
  go_wp2_with (go_at_call 69; refine (HC.out _ belB w.heap.size (by exact ((cell_of_row _ _ 0 _ _ _ (World.alloc_heap_new w _)).trans rfl))).mono ?_; rintro e w3 ⟨rfl, hb3⟩)
  go_ret
  exact ⟨rfl, belB⟩
theorem cutSuf_any (p : ByteArray) (x : Pat) (w : World) (hx : compileB p = some x) (hp : p.size ≤ 100000) : Calls Tryz.prog 134 #[.string p, .string ⟨#[47, 42, 42]⟩] w (Ret w (.tuple #[.string (fixS x), .bool x.tail])) := by
  have hh := fix_has hx
  have ht := fix_trim hx
  refine (Tryz.strings_CutSuffix p ⟨#[47, 42, 42]⟩ w (by omega)).mono ?_
  rintro e w' ⟨rfl, rfl⟩
  refine ⟨?_, Below.refl _ _⟩
  rw [ht, hh]
theorem join_size {c : ByteArray} {ws : List ByteArray} (hc : isNameB c = true) (hw : ∀ w ∈ ws, isWordB w = true) (hn : ws.length ≤ 32) : (joinS (c :: ws)).size ≤ 4096 := by
  rw [joinS_write, toB_size]
  exact adr_short hc hw hn
set_option maxHeartbeats 8000000 in
theorem gapT_any (p : ByteArray) (x : Pat) (ys : List Pat) (A : Option Addr) (n c : Nat) (bs : List ByteArray) (w : World) (hx : compileB p = some x) (hy : bs.map compileB = ys.map some) (hp : p.size ≤ 100000)
    (hR : Reads w 1 A n (bs.map .string)) (hn : n ≤ 10) (hs : ∀ b ∈ bs, b.size ≤ 300) (hE : Env w) (hT : Tab w) :
    Calls Tryz.prog 71 #[.string p, .slice A n c] w fun e w' => ∃ s is, e = .returned (.tuple #[.string s, .bool is]) ∧ GapPost p bs s is ∧ s.size ≤ 4096 ∧ Below w.heap.size w w' := by
  have hfit := compile_fit hx
  have hnum := hfit.num
  have hmost := most_le hfit
  have hml : x.parts.length ≤ mostP x := by
    unfold mostP
    split <;> omega
  have cC := fun W => cutSuf_any p x W hx hp
  have cN := fun W => Tryz.strings_Count_one (fixS x) 47 W
  rw [fix_count hfit] at cN
  have cX := fun (k : Nat) (hk : x.parts.length + k ≤ 32) (W : World) (hb : Below w.heap.size w W) => exampl_any p x (x.parts.length + k) A n c bs W hx hp (by omega) hk (hR.keep hb) hn hs (hE.keep hb) (hT.keep hb)
  have cM := fun (a : ByteArray) (ha : a.size ≤ 100000) (W : World) (hb : Below w.heap.size w W) => isMatched_any a A n c bs W (hR.keep hb) (by omega) (fun b h => by have := hs b h; omega) ha (hE.keep hb)
  obtain ⟨l, hl⟩ : ∃ l, l = x.parts.length := ⟨_, rfl⟩
  obtain ⟨N, hN⟩ : ∃ N, N = mostP x + 1 - l := ⟨_, rfl⟩
  have hNT : x.tail = true → (32 : Int) - (l : Int) + 1 = (N : Int) := fun h => by
    have e : mostP x = 32 := by unfold mostP; rw [if_pos h]
    omega
  have hNF : x.tail = false → (l : Int) - (l : Int) + 1 = (N : Int) := fun h => by
    have e : mostP x = x.parts.length := by unfold mostP; rw [if_neg (by rw [h]; decide)]
    omega
  obtain ⟨tl, htl⟩ : ∃ tl, tl = x.tail := ⟨_, rfl⟩
  rw [← htl] at cC hNT hNF
  clear htl
  have HNT := Lib.hid hNT; have HNF := Lib.hid hNF
  clear hNT hNF
  have hNP : ∀ k, k < N → l + k ≤ mostP x ∧ l + k ≤ 32 := fun k hk => by omega
  rw [← hl] at cN cX
  have cX2 : ∀ k, k < N → ∀ W, Below w.heap.size w W → Calls Tryz.prog 136 #[.string p, .int .i64 ((l : Int) + (k : Int)), .slice A n c] W fun e w' => ∃ cu ws, e = .returned (.string (joinS (cu :: ws))) ∧ MadeAt (namedL bs) x.cust cu ∧ Made (namedL bs) (partsM x (l + k)) ws ∧ Below W.heap.size W w' := fun k hk W hb => by
    have := cX k (hNP k hk).2 W hb
    rwa [show (((l + k : Nat)) : Int) = (l : Int) + (k : Int) from by omega] at this
  have HC := Lib.hid cC; have HN := Lib.hid cN; have HX := Lib.hid cX2; have HM := Lib.hid cM; have HNP := Lib.hid hNP; have HF := Lib.hid hfit; have HP := Lib.hid hx; have HY := Lib.hid hy; have HLL := Lib.hid hl; have HNN := Lib.hid hN
  have hl32 : l ≤ 32 := by omega
  clear cC cN cX cX2 cM hNP hfit hx hy hE hT hR hs hnum hmost hml hl hN
  go_enter Tryz.func71, Tryz.ntmps71
  go_upto_if 20 with (first | (go_at_call 134; refine (HC.out _).mono ?_; rintro e w2 ⟨rfl, hb2⟩) | (go_at_call 135; refine (HN.out _).mono ?_; rintro e w' ⟨rfl, hww⟩; rw [hww]; clear hww w'))
  go_cut [9] (fun v9 wx => (∃ M : Int, v9 = .int .i64 M ∧ M - (l : Int) + 1 = (N : Int) ∧ M ≤ 32) ∧ wx = w2)
  case first =>
    cases tl
    all_goals
      go_wp2_with fail
      go_meet
      first
        | exact ⟨⟨_, rfl, HNT.out (by simp), by omega⟩, rfl⟩
        | exact ⟨⟨_, rfl, HNF.out (by simp), by omega⟩, rfl⟩
  case rest =>
    obtain ⟨⟨M, rfl, hM, hM32⟩, rfl⟩ := hcut
    clear HNT HNF
    go_upto_region 6 with fail
    go_cut [24, 25] (fun v24 v25 wx => v24 = .int .i64 (N : Int) ∧ v25 = .int .i64 0 ∧ wx = wc)
    case first =>
      go_wp2_with fail
      go_meet
      rw [← hM]
      exact ⟨rfl, rfl, rfl⟩
    case rest =>
      obtain ⟨rfl, rfl, rfl⟩ := hcut
      go_wp2_with fail
      go_loopw [25] (fun iv wr => ∃ k : Nat, k ≤ N ∧ iv = .int .i64 k ∧ Hid (Missed x ys k) ∧ Below w.heap.size w wr) (fun iv _ => N - (intOf iv).toNat)
      case atStart => exact ⟨0, by omega, rfl, Lib.hid (Missed.zero x ys), hb2⟩
      case round =>
        obtain ⟨k, hk, rfl, HMI, hb⟩ := hrel
        clear hb2
        by_cases hlt : k < N
        · have hk0 : (0 : Int) ≤ (k : Int) := by omega
          have hk1 : (k : Int) < (N : Int) := by omega
          have hnp := HNP.out k hlt
          have hcX := HX.out k hlt wr hb
          have HCX := Lib.hid hcX
          clear hcX
          go_upto_region 10 with (go_at_call 136; refine HCX.out.mono ?_; rintro e w3 ⟨cu, ws, rfl, hmc, hmw, hb3⟩)
          have hnamed := named_all HY.out
          have hml : x.parts.length ≤ l + k := by have := HLL.out; omega
          have hex := exam_of hnamed HF.out hml hmc hmw
          have hws : ws.length ≤ 32 := by rw [hex.len]; exact hnp.2
          have hsz := join_size hex.name hex.words hws
          have hcM := HM.out (joinS (cu :: ws)) (by omega) w3 (bstep hb hb3)
          have hem := ex_match HY.out HF.out hml hnp.2 hex
          have HEX := Lib.hid hex; have HEM := Lib.hid hem
          clear hmc hmw hnamed hex hem
          cases hv : (bs.any fun q => matchB q (joinS (cu :: ws)))
          · rw [hv] at hcM
            have HCM := Lib.hid hcM; have HV := Lib.hid hv
            clear hcM hv
            have hpost : GapPost p bs (joinS (cu :: ws)) true := gap_hit HP.out HY.out (by have := HLL.out; have := hnp.1; omega) HMI.out HV.out (by have := HEX.out; rwa [HLL.out] at this)
            have HPO := Lib.hid hpost
            clear hpost
            go_wp2_with (go_at_call 137; refine HCM.out.mono ?_; rintro e w4 ⟨rfl, hb4⟩)
            go_ret2
            exact ⟨_, _, rfl, HPO.out, hsz, bstep (bstep hb hb3) hb4⟩
          · rw [hv] at hcM
            have HCM := Lib.hid hcM
            have HMI2 := Lib.hid (HMI.out.succ (by rw [← HLL.out, ← HEM.out]; exact hv))
            clear hcM hv
            go_wp2_with (go_at_call 137; refine HCM.out.mono ?_; rintro e w4 ⟨rfl, hb4⟩)
            exact ⟨⟨k + 1, by omega, by go_num, HMI2, bstep (bstep hb hb3) hb4⟩, by simp [intOf]; omega⟩
        · obtain rfl : k = N := by omega
          have hpost : GapPost p bs ⟨#[]⟩ false := gap_miss HP.out HY.out (by rw [← HLL.out, ← HNN.out]; exact HMI.out)
          have HPO := Lib.hid hpost
          clear hpost
          go_wp2_with fail
          go_ret2
          exact ⟨_, _, rfl, HPO.out, by decide, hb⟩
end Go.Proofs.YtjhlpkhfdghngaaGreatDoor
namespace Go.Proofs.YtjhlpkhfdghngaaGreatDoor
open Go.RowKit Go.Sort
set_option linter.unusedVariables false
set_option linter.unusedSimpArgs false
set_option maxRecDepth 100000
def ruleP (x : RuleM) : RuleP := (x.r.pat, x.r.tags)
def befK (L : List RuleM) (ts : List ByteArray) (k : Nat) : List ByteArray := ((L.take k).filter fun q => subB q.r.tags ts).map (·.r.pat)
theorem befK_eq (L : List RuleM) (ts : List ByteArray) (i : Nat) : beforeR (L.map ruleP) i ts = befK L ts i := by
  unfold beforeR befK
  rw [← List.map_take, List.filter_map, List.map_map]
  rfl
theorem befK_succ {L : List RuleM} {ts : List ByteArray} {k : Nat} {x : RuleM} (h : L[k]? = some x) : befK L ts (k + 1) = if subB x.r.tags ts = true then befK L ts k ++ [x.r.pat] else befK L ts k := by
  unfold befK
  rw [List.take_add_one, h, List.filter_append, List.map_append]
  by_cases hs : subB x.r.tags ts = true
  · rw [if_pos hs]; simp [hs]
  · rw [if_neg hs]; simp [hs]
theorem befK_len (L : List RuleM) (ts : List ByteArray) (k : Nat) : (befK L ts k).length ≤ k := by
  unfold befK
  rw [List.length_map]
  exact Nat.le_trans (List.length_filter_le _ _) (by rw [List.length_take]; omega)
theorem sub_any (a b : List ByteArray) : (a.any fun t => !Lib.containsS b t) = !subB a b := by
  unfold subB
  rw [List.all_eq_not_any_not]; simp
structure LiS (g : Nat) (A : Option Addr) (n c i : Nat) (W : World) : Prop where
  l : Box1 W g 22 #[.slice A n c]
  i : Box1 W (g + 1) 3 #[.int .i64 i]
theorem LiS.keep {g : Nat} {A : Option Addr} {n c i : Nat} {W W' : World} (h : LiS g A n c i W) (hb : Below W.heap.size W W') : LiS g A n c i W' := ⟨h.l.keep hb, h.i.keep hb⟩
theorem LiS.low {g B : Nat} {A : Option Addr} {n c i : Nat} {W W' : World} (h : LiS g A n c i W) (hb : Below B W W') (hB : g + 1 < B) : LiS g A n c i W' := ⟨(hb.block g (by omega)).trans h.l, (hb.block (g + 1) hB).trans h.i⟩
theorem bef1_any (t : ByteArray) (g : Nat) (A : Option Addr) (n c i : Nat) (L : List RuleM) (x : RuleM) (w : World) (hS : LiS g A n c i w) (hL : RulesRead w A n L) (hx : L[i]? = some x) (hn : n ≤ 1000) (ht : x.r.tags.length ≤ 1000) :
    Calls Tryz.prog 147 #[.string t, .pointer (some ⟨g, 0, none⟩), .pointer (some ⟨g + 1, 0, none⟩)] w (Ret w (.bool (!Lib.containsS x.r.tags t))) := by
  obtain ⟨hr, b, o, rfl, hcell⟩ := hL.at_ hx
  have hlt : i < n := by have := (List.getElem?_eq_some_iff.1 hx).1; have := hL.len; omega
  have cK := fun W (hb : Below w.heap.size w W) => contains_any x.T x.r.tags.length x.ct x.r.tags t W (hr.tags.keep hb) (by omega)
  have c0 : w.cell? ⟨g, 0, none⟩ = some (.slice (some ⟨b, o, none⟩) n c) := hS.l.cell rfl
  have c1 : w.cell? ⟨g + 1, 0, none⟩ = some (.int .i64 i) := hS.i.cell rfl
  have c2 : w.cell? ⟨b, o + i * 18 + 2, none⟩ = some (.slice x.T x.r.tags.length x.ct) := hcell 2 _ rfl
  generalize Lib.containsS x.r.tags t = v at *
  have HK := Lib.hid cK
  clear cK hcell hr hS hL hx
  have hi0 : (0 : Int) ≤ (i : Int) := by omega
  have hi1 : (i : Int) < (n : Int) := by omega
  go_enter Tryz.func147, Tryz.ntmps147
  go_wp2_with (go_at_call 148; refine (HK.out _ (Below.refl _ _)).mono ?_; rintro e w2 ⟨rfl, hb2⟩)
  go_ret
  exact ⟨rfl, hb2⟩
end Go.Proofs.YtjhlpkhfdghngaaGreatDoor
namespace Go.Proofs.YtjhlpkhfdghngaaGreatDoor
open Go.RowKit Go.Sort
set_option linter.unusedVariables false
set_option linter.unusedSimpArgs false
set_option maxRecDepth 100000
def BefPost (L : List RuleM) (x : RuleM) (i : Nat) (w : World) (e : Ending) (w' : World) : Prop :=
  Below w.heap.size w w' ∧ (((tagsR x.r.tags).2 ≠ 0 ∧ e = .returned (.tuple #[.slice none 0 0, .bool false])) ∨ ((tagsR x.r.tags).2 = 0 ∧ ∃ B d, e = .returned (.tuple #[.slice B (befK L x.r.tags i).length d, .bool true]) ∧ Reads w' 1 B (befK L x.r.tags i).length ((befK L x.r.tags i).map .string)))
theorem infStrW : (Tryz.prog.info? 9).map (fun i => (i.zero, i.size, i.bytes)) = some (some (.string ⟨#[]⟩), 1, 16) := by kernel_rfl
set_option maxHeartbeats 8000000 in
theorem befor_any (A : Option Addr) (n c i : Nat) (L : List RuleM) (x : RuleM) (w : World) (hL : RulesRead w A n L) (hx : L[i]? = some x) (hn : n ≤ 1000) (hcap : n ≤ c) (hf : ∀ y ∈ L, RuleFits y.r) :
    Calls Tryz.prog 76 #[.slice A n c, .int .i64 (i : Int)] w (BefPost L x i w) := by
  obtain ⟨hr, b, o, rfl, hcell⟩ := hL.at_ hx
  have hlen := hL.len
  have hlt : i < n := by have := (List.getElem?_eq_some_iff.1 hx).1; omega
  have hxm := List.mem_of_getElem? hx
  have hbox : LiS w.heap.size (some ⟨b, o, none⟩) n c i ((w.alloc (.cells #[.slice (some ⟨b, o, none⟩) n c] 22)).alloc (.cells #[.int .i64 (i : Int)] 3)) := ⟨heap_alloc2_old w _ _, heap_alloc2_new w _ _⟩
  have cT := fun (W : World) (hb : Below w.heap.size w W) => tags_any x.T x.r.tags.length x.ct x.r.tags W (hr.tags.keep hb) (by have := (hf x hxm).nt; omega) (fun p hp => by have := (hf x hxm).t p hp; omega)
  have cF := fun (y : RuleM) (hy : y ∈ L) (W : World) (hb : Below w.heap.size w W) (hS : LiS w.heap.size (some ⟨b, o, none⟩) n c i W) => containsFuncS2_any 147 (enters_of Tryz.func147 (by kernel_rfl) rfl) (.pointer (some ⟨w.heap.size, 0, none⟩)) (.pointer (some ⟨w.heap.size + 1, 0, none⟩)) (fun t => !Lib.containsS x.r.tags t) y.T y.r.tags.length y.ct y.r.tags W (fun t _ W' hb' => bef1_any t w.heap.size (some ⟨b, o, none⟩) n c i L x W' (hS.keep hb') (hL.keep (bstep hb hb')) hx hn (by have := (hf x hxm).nt; omega)) ((hL.each y hy).tags.keep hb) (by have := (hf y hy).nt; omega)
  have hcT : w.cell? ⟨b, o + i * 18 + 2, none⟩ = some (.slice x.T x.r.tags.length x.ct) := hcell 2 _ rfl
  obtain ⟨i0, hi0, hz0, hz1, hz2⟩ := info_parts infStrW
  have HI := Lib.hid (And.intro hi0 (And.intro hz0 (And.intro hz1 hz2)))
  clear hi0 hz0 hz1 hz2
  obtain ⟨P, hP⟩ : ∃ P, P = BefPost L x i w := ⟨_, rfl⟩
  rw [← hP]
  have HP := Lib.hid hP
  unfold tagsV at cT
  obtain ⟨tv, htv⟩ : ∃ tv, tv = tagsR x.r.tags := ⟨_, rfl⟩
  rw [← htv] at cT
  obtain ⟨T, er⟩ := tv
  have HTV := Lib.hid htv
  have hmf : ∀ (fn : Fn) (first cap : Array Value) (w : World), (Instr.makeFunc fn first cap).run Tryz.prog w = .ok (.func fn first cap) w := fun _ _ _ _ => rfl
  have HT := Lib.hid cT; have HF := Lib.hid cF; have HL := Lib.hid hL; have HLN := Lib.hid hlen; have HBX := Lib.hid hbox
  clear hP cT cF hL hf hr hcell htv hbox hlen hxm
  have hi1 : (0 : Int) ≤ (i : Int) := by omega
  have hi2 : (i : Int) < (n : Int) := by omega
  have hi3 : (i : Int) ≤ (c : Int) := by omega
  by_cases h0 : er = 0
  rotate_left
  · have e1 : (er == 0) = false := beq_eq_false_iff_ne.2 h0
    have e2 : (er != 0) = true := bne_iff_ne.2 h0
    go_enter Tryz.func76, Tryz.ntmps76
    go_upto_region 1 with fail
    generalize hw0 : World.alloc _ _ = w0
    have hS : LiS w.heap.size (some ⟨b, o, none⟩) n c i w0 := by rw [← hw0]; exact HBX.out
    have hbw : Below w.heap.size w w0 := by rw [← hw0]; exact balloc (balloc (Below.refl _ _) _) _
    clear hw0
    have c0 : w0.cell? ⟨w.heap.size, 0, none⟩ = some (.slice (some ⟨b, o, none⟩) n c) := hS.l.cell rfl
    have c1 : w0.cell? ⟨w.heap.size + 1, 0, none⟩ = some (.int .i64 i) := hS.i.cell rfl
    have c2 := cell_keep hbw hcT
    go_wp2_with (go_at_call 23; refine (HT.out _ hbw).mono ?_; rintro e w2 ⟨rfl, hb2⟩)
    rw [HP.out]
    exact ⟨bstep hbw hb2, .inl ⟨by rw [← HTV.out]; exact h0, rfl⟩⟩
  · subst h0
    go_enter Tryz.func76, Tryz.ntmps76
    go_upto_region 1 with fail
    generalize hw0 : World.alloc _ _ = w0
    have hS : LiS w.heap.size (some ⟨b, o, none⟩) n c i w0 := by rw [← hw0]; exact HBX.out
    have hbw : Below w.heap.size w w0 := by rw [← hw0]; exact balloc (balloc (Below.refl _ _) _) _
    have hs0 : w.heap.size + 2 ≤ w0.heap.size := by rw [← hw0]; simp
    clear hw0
    have c0 : w0.cell? ⟨w.heap.size, 0, none⟩ = some (.slice (some ⟨b, o, none⟩) n c) := hS.l.cell rfl
    have c1 : w0.cell? ⟨w.heap.size + 1, 0, none⟩ = some (.int .i64 i) := hS.i.cell rfl
    have c2 := cell_keep hbw hcT
    go_upto_region 5 with (go_at_call 23; refine (HT.out _ hbw).mono ?_; rintro e w2 ⟨rfl, hb2⟩)
    have hS2 := hS.keep hb2
    have hbw2 := bstep hbw hb2
    have hs2 := hb2.size
    clear c0 c1 c2 hS
    have c0 : w2.cell? ⟨w.heap.size, 0, none⟩ = some (.slice (some ⟨b, o, none⟩) n c) := hS2.l.cell rfl
    have c1 : w2.cell? ⟨w.heap.size + 1, 0, none⟩ = some (.int .i64 i) := hS2.i.cell rfl
    have HS2 := Lib.hid hS2
    have hown0 : w2.ownsRow (w.heap.size + 2) 9 1 (.slice none 0 0) (befK L x.r.tags 0).length ((befK L x.r.tags 0).map .string) := World.ownsRow_nil _ _ _ _
    have HO0 := Lib.hid hown0
    clear hS2 hown0 hbw hb2
    go_wp2_with fail
    clear c0 c1
    go_loopw [8, 26] (fun ov iv wr => ∃ (k : Nat) (B : Option Addr) (d : Nat), k ≤ i ∧ iv = .int .i64 k ∧ ov = .slice B (befK L x.r.tags k).length d ∧ Hid (wr.ownsRow (w.heap.size + 2) 9 1 (.slice B (befK L x.r.tags k).length d) (befK L x.r.tags k).length ((befK L x.r.tags k).map .string)) ∧ Hid (LiS w.heap.size (some ⟨b, o, none⟩) n c i wr) ∧ Below w.heap.size w wr ∧ w.heap.size + 2 ≤ wr.heap.size) (fun _ iv _ => i - (intOf iv).toNat)
    case atStart => exact ⟨0, none, 0, by omega, rfl, rfl, HO0, HS2, hbw2, by omega⟩
    case round =>
      obtain ⟨k, B, d, hk, rfl, rfl, HO, HS, hbr, hsr⟩ := hrel
      clear HO0 HS2 hbw2
      by_cases hlk : k < i
      · obtain ⟨y, hy⟩ : ∃ y, L[k]? = some y := ⟨_, List.getElem?_eq_getElem (by have := HLN.out; omega)⟩
        obtain ⟨_, b', o', he, hcell⟩ := (HL.out.keep hbr).at_ hy
        injection he with he
        injection he with he1 he2 _
        subst he1; subst he2
        have hld := rule_load wr b (o + k * 18) y hcell
        have hym := List.mem_of_getElem? hy
        have hcf := HF.out y hym
        have hsucc := befK_succ (ts := x.r.tags) hy
        have hkl := befK_len L x.r.tags k
        rw [sub_any] at hcf
        have hc1 : y.cells.toArray[1]? = some (.string y.r.pat) := rfl
        have hc2 : y.cells.toArray[2]? = some (.slice y.T y.r.tags.length y.ct) := rfl
        have hone : y.cells.toArray.all (·.oneCell') = true := by rw [List.all_toArray]; rfl
        have hsz2 : y.cells.toArray.size = 18 := by rw [List.size_toArray, y.cells_len]
        have hi18 : (Tryz.prog.info? 33).map (·.size) = some y.cells.toArray.size := by rw [hsz2]; exact infRule
        have hsz : y.cells.toArray.size = (#[.string ⟨#[]⟩, .string ⟨#[]⟩, .slice none 0 0, .int .i64 0, .int .i64 0, .int .i64 0, .int .i64 0, .slice none 0 0, .int .i64 0, .int .i64 0, .string ⟨#[]⟩, .slice none 0 0, .slice none 0 0, .slice none 0 0, .int .i64 0, .bool false, .int .i64 0, .string ⟨#[]⟩] : Array Value).size := by rw [hsz2]; rfl
        unfold RuleM.val at hld
        generalize y.cells.toArray = X at *
        generalize subB y.r.tags x.r.tags = sb at *
        have HLD := Lib.hid hld; have HCF := Lib.hid hcf; have HC1 := Lib.hid hc1; have HC2 := Lib.hid hc2; have HON := Lib.hid hone; have HXS := Lib.hid hsz2; have HI18 := Lib.hid hi18; have HSZ := Lib.hid hsz; have HSU := Lib.hid hsucc
        clear hld hcf hc1 hc2 hone hsz2 hi18 hsz hcell hy hym hsucc
        have hk0 : (0 : Int) ≤ (k : Int) := by omega
        have hk1 : (k : Int) < (i : Int) := by omega
        have hsg : wr.heap.size < wr.heap.size + 1 := by omega
        cases sb
        · have hsu := HSU.out
          rw [if_neg (by decide)] at hsu
          go_wp2_with (first | (refine wpList_load_addr rfl 33 _ rfl ⟨b, o + k * 18, none⟩ (.agg X) rfl HLD.out ?_) | (refine wpList_store_row rfl 33 _ _ rfl wr.heap.size X rfl rfl _ #[.string ⟨#[]⟩, .string ⟨#[]⟩, .slice none 0 0, .int .i64 0, .int .i64 0, .int .i64 0, .int .i64 0, .slice none 0 0, .int .i64 0, .int .i64 0, .string ⟨#[]⟩, .slice none 0 0, .slice none 0 0, .slice none 0 0, .int .i64 0, .bool false, .int .i64 0, .string ⟨#[]⟩] ((heap_alloc_new wr _).trans rfl) HI18.out HSZ.out.symm HON.out ?_; generalize hw6 : World.setRow _ _ _ = w6; have B6 : Box1 w6 wr.heap.size 33 X := (by rw [← hw6]; exact setRow_heap _ _ _ _ _ _ (heap_alloc_new wr _)); have hb6 : Below wr.heap.size wr w6 := (by rw [← hw6]; exact below_setRow ((Below.refl _ _).alloc (Nat.le_refl _) _) (Nat.le_refl _) _); clear hw6; have x2 := B6.cell HC2.out; have x1 := B6.cell HC1.out) | (go_at_call 69; refine (HCF.out _ (bstep hbr hb6) (HS.out.keep hb6)).mono ?_; rintro e w7 ⟨rfl, hb7⟩))
          have hb67 := bstep hb6 hb7
          refine ⟨⟨k + 1, B, d, by omega, by go_num, by rw [hsu], by rw [hsu]; exact Lib.hid (ownsRow_keep HO.out hb67), Lib.hid (HS.out.keep hb67), bstep hbr hb67, by have := hb67.size; omega⟩, by simp [intOf]; omega⟩
        · have hsu := HSU.out
          rw [if_pos rfl] at hsu
          have hsl : (befK L x.r.tags (k + 1)).length = (befK L x.r.tags k).length + 1 := by rw [hsu]; simp
          go_wp2_with (first | (refine wpList_load_addr rfl 33 _ rfl ⟨b, o + k * 18, none⟩ (.agg X) rfl HLD.out ?_) | (refine wpList_store_row rfl 33 _ _ rfl wr.heap.size X rfl rfl _ #[.string ⟨#[]⟩, .string ⟨#[]⟩, .slice none 0 0, .int .i64 0, .int .i64 0, .int .i64 0, .int .i64 0, .slice none 0 0, .int .i64 0, .int .i64 0, .string ⟨#[]⟩, .slice none 0 0, .slice none 0 0, .slice none 0 0, .int .i64 0, .bool false, .int .i64 0, .string ⟨#[]⟩] ((heap_alloc_new wr _).trans rfl) HI18.out HSZ.out.symm HON.out ?_; generalize hw6 : World.setRow _ _ _ = w6; have B6 : Box1 w6 wr.heap.size 33 X := (by rw [← hw6]; exact setRow_heap _ _ _ _ _ _ (heap_alloc_new wr _)); have hb6 : Below wr.heap.size wr w6 := (by rw [← hw6]; exact below_setRow ((Below.refl _ _).alloc (Nat.le_refl _) _) (Nat.le_refl _) _); clear hw6; have x2 := B6.cell HC2.out; have x1 := B6.cell HC1.out) | (go_at_call 69; refine (HCF.out _ (bstep hbr hb6) (HS.out.keep hb6)).mono ?_; rintro e w7 ⟨rfl, hb7⟩; have hb67 := bstep hb6 hb7; have hs67 := hb67.size; have x1' := (B6.keep hb7).cell HC1.out) | (at_builtin; refine wpList_append_own _ rfl _ _ 27 rfl (w.heap.size + 2) 9 i0 (.string ⟨#[]⟩) 1 16 Tryz.underlying27 HI.out.1 HI.out.2.1 HI.out.2.2.1 HI.out.2.2.2 rfl (by decide) _ _ _ rfl ((ownsRow_keep HO.out hb67).alloc _) ⟨w7.heap.size, 0, none⟩ 1 1 [.string y.r.pat] rfl rfl (cell_one_new _ _ _) (by simp [Value.oneCell']) (by unfold maxLen; omega) (by omega) (by simp; omega) ?_; intro v' w8 hown' hgrow _; obtain ⟨g', cap', rfl⟩ := ownsRow_succ hown'))
          have hb8 : Below (w.heap.size + 2) w7 w8 := ((Below.refl _ _).alloc (by omega) _).grown hgrow (by simp; omega) (fun r e => ownsRow_block HO.out r e)
          have hs8 := hb8.size
          refine ⟨⟨k + 1, some ⟨g', 0, none⟩, cap', by omega, by go_num, by rw [hsl], by rw [hsl, hsu, List.map_append]; exact Lib.hid hown', Lib.hid ((HS.out.keep hb67).low hb8 (by omega)), (bstep hbr hb67).trans (hb8.mono (by omega)), by omega⟩, by simp [intOf]; omega⟩
      · obtain rfl : k = i := by omega
        have hre := Reads.of_own HO.out
        have HRE := Lib.hid hre
        clear hre
        go_wp2_with fail
        rw [HP.out]
        exact ⟨hbr, .inr ⟨by rw [← HTV.out], B, d, rfl, HRE.out⟩⟩
end Go.Proofs.YtjhlpkhfdghngaaGreatDoor
