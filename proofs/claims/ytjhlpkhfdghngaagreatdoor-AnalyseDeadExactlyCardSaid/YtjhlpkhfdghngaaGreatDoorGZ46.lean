/- Whether nobody gets anything by a rule: analyse.Dead of a rule that there is. -/
import Derived.Test.YtjhlpkhfdghngaaGreatDoorGZ45
import Derived.Test.YtjhlpkhfdghngaaGreatDoorGZ32
import Derived.Deep.DeepCutAuto
import Derived.Test.YtjhlpkhfdghngaaGreatDoorProg
import Derived.WalkKit
import Derived.WalkSpells
import Derived.WalkLawsBesides
import Derived.Below
import Derived.Deep.QuietTactic
import Derived.BigQuiet
import Derived.Lib.QuietBelow
import Derived.Lib.Strings
import Derived.Lib.Hide
import Derived.Deep.RegionWith
import Derived.Deep.RegionHeld3
import Derived.Lib.IndexBytes
namespace Go.Proofs.YtjhlpkhfdghngaaGreatDoor
open Go.RowKit Go.Sort
set_option linter.unusedVariables false
set_option linter.unusedSimpArgs false
set_option maxRecDepth 100000
def DeadIs (x : RuleM) (ok : Bool) (m : ByteArray) : Prop := (ok = true → (tagsR x.r.tags).2 = 0 ∧ pmeet x.r.pat x.r.allow.pat = some m) ∧ (ok = false → (tagsR x.r.tags).2 ≠ 0 ∨ (tagsR x.r.tags).2 = 0 ∧ pmeet x.r.pat x.r.allow.pat = none)
def DeadPost (L : List RuleM) (k : Nat) (x : RuleM) (w : World) (e : Ending) (w' : World) : Prop := ∃ a is, e = .returned (.tuple #[AskV.val a, .bool is, .int .i64 0]) ∧ DeadAt L k x a is ∧ Below w.heap.size w w'
set_option maxHeartbeats 8000000 in
theorem dead_good (A : Option Addr) (n c k : Nat) (L : List RuleM) (x : RuleM) (w : World) (hL : RulesRead w A n L) (hf : ∀ x ∈ L, RuleFits x.r) (hcp : ∀ x ∈ L, RuleCaps x) (hcap : n ≤ c) (hn : n ≤ 10) (hE : Env w) (hT : Tab w) (hv : validL L = true) (hx : L[k]? = some x) :
    Calls Tryz.prog 27 #[.slice A n c, .int .i64 (k : Int)] w (DeadPost L k x w) := by
  have hlen := hL.len
  have hxm := List.mem_of_getElem? hx
  have hkn : k < n := by have := (List.getElem?_eq_some_iff.1 hx).1; omega
  have cV := fun (W : World) (hb : Below w.heap.size w W) => isValid_any A n c L W (hL.keep hb) hf hcp (by omega) (hE.keep hb)
  rw [hv] at cV
  have hro := (valid_at hv hxm).1
  have hco := (valid_iff x.r.allow).1 hro.allow
  have hfx := hf x hxm
  have cB : ∀ W, Below w.heap.size w W → Calls Tryz.prog 76 #[.slice A n c, .int .i64 (k : Int)] W (fun e w' => ∃ (B : Option Addr) (ln d : Nat), e = .returned (.tuple #[.slice B ln d, .bool (decide ((tagsR x.r.tags).2 = 0))]) ∧ ((tagsR x.r.tags).2 = 0 → ln = (befK L x.r.tags k).length ∧ Reads w' 1 B (befK L x.r.tags k).length ((befK L x.r.tags k).map .string)) ∧ Below W.heap.size W w') := fun W hb =>
    (befor_any A n c k L x W (hL.keep hb) hx (by omega) hcap hf).mono fun e w' h => by
      rcases h with ⟨hb', ⟨h, rfl⟩ | ⟨h, B, d, rfl, hr⟩⟩
      · exact ⟨none, 0, 0, by rw [decide_eq_false h], fun h2 => absurd h2 h, hb'⟩
      · exact ⟨B, _, d, by rw [decide_eq_true h], fun _ => ⟨rfl, hr⟩, hb'⟩
  obtain ⟨hrr, b, o, rfl, hcell⟩ := hL.at_ hx
  have cEM := fun (W : World) (hb : Below w.heap.size w W) => empty_any x.r.allow x.m W (hrr.allow.keep hb) hfx.c (hE.keep hb)
  have hemp : impV (emptyR x.r.allow) = .tuple #[.bool (decide (x.r.allow.till ≤ x.r.allow.fr)), AskV.val (if x.r.allow.till ≤ x.r.allow.fr then noAsk else sampleC x.r.allow), .int .i64 0] := by
    unfold emptyR
    rw [if_pos hro.allow]
    by_cases h : x.r.allow.till ≤ x.r.allow.fr
    · rw [if_pos h, if_pos h, decide_eq_true h]; rfl
    · rw [if_neg h, if_neg h, decide_eq_false h]; rfl
  rw [hemp] at cEM
  have hld := fun (W : World) (hb : Below w.heap.size w W) => condA_load W b (o + k * 18) x (fun j u hu => cell_keep hb (hcell j u hu))
  have cBo := fun (W : World) (hb : Below w.heap.size w W) => addrBoth_any x.r.pat x.r.allow.pat W (by have := hfx.pat; omega) hfx.c.p (hE.keep hb)
  have hc1 : w.cell? ⟨b, o + k * 18 + 1, none⟩ = some (.string x.r.pat) := hcell 1 _ rfl
  have hc10 : w.cell? ⟨b, o + k * 18 + 8 + 2, none⟩ = some (.string x.r.allow.pat) := hcell 10 _ rfl
  have hpz : x.r.pat.size ≠ 0 := comp_ne hro.pat
  have cG := fun (m : ByteArray) (hm : (compileB m).isSome = true) (hms : m.size ≤ 100000) (W : World) (hb : Below w.heap.size w W) (B : Option Addr) (d : Nat) hR => gapB_any (A := some ⟨b, o, none⟩) (n := n) (c := c) (w := W) hv hf x.r.tags k (by omega) m hm hms (hE.keep hb) (hT.keep hb) B d hR
  have hmc : ∀ m, pmeet x.r.pat x.r.allow.pat = some m → (compileB m).isSome = true ∧ m.size ≤ 100000 := fun m hm => by
    have hps : x.r.pat.size ≤ 200 := hfx.pat
    unfold pmeet at hm
    rw [if_neg hpz] at hm
    split at hm
    · injection hm with hm
      subst hm
      exact ⟨hro.pat, by omega⟩
    · rename_i hq
      have hqc : (compileB x.r.allow.pat).isSome = true := by
        have := hco.pat
        unfold patOk at this
        rwa [decide_eq_false hq, Bool.false_or] at this
      obtain ⟨x1, h1⟩ := Option.isSome_iff_exists.1 hro.pat
      obtain ⟨y1, h2⟩ := Option.isSome_iff_exists.1 hqc
      rw [h1, h2] at hm
      dsimp only at hm
      cases hcm : commonP x1 y1 with
      | none => rw [hcm] at hm; cases hm
      | some z =>
        rw [hcm] at hm
        injection hm with hm
        have hfz := (commonP_some (compile_fit h1) (compile_fit h2) hcm).1
        subst hm
        exact ⟨by rw [compile_str hfz]; rfl, by have := patS_size2 hfz; omega⟩
  have hqc : x.r.allow.pat.toList.isEmpty = false → (compileB x.r.allow.pat).isSome = true := fun h => by
    have h2 := hco.pat
    unfold patOk at h2
    rcases Nat.eq_zero_or_pos x.r.allow.pat.size with h3 | h3
    · rw [Lib.toList_data] at h
      rw [size_data] at h3
      rw [List.eq_nil_of_length_eq_zero h3] at h
      cases h
    · rwa [decide_eq_false (by omega), Bool.false_or] at h2
  have hpe : x.r.allow.pat.toList.isEmpty = true → pmeet x.r.pat x.r.allow.pat = some x.r.pat := fun h => by
    have h3 : x.r.allow.pat.size = 0 := by
      rw [Lib.toList_data, List.isEmpty_iff] at h
      rw [size_data, h]; rfl
    unfold pmeet
    rw [if_neg hpz, if_pos h3]
  have hbv := fun h => bothV_meet hro.pat (hqc h)
  obtain ⟨ok0, hok0⟩ : ∃ ok0, ok0 = decide ((tagsR x.r.tags).2 = 0) := ⟨_, rfl⟩
  obtain ⟨nn, hnn⟩ : ∃ nn, nn = decide (x.r.allow.till ≤ x.r.allow.fr) := ⟨_, rfl⟩
  obtain ⟨av, hav⟩ : ∃ av, av = (if x.r.allow.till ≤ x.r.allow.fr then noAsk else sampleC x.r.allow) := ⟨_, rfl⟩
  rw [← hok0] at cB
  rw [← hnn, ← hav] at cEM
  obtain ⟨ad, cl, co, si, lo, hi⟩ := av
  unfold AskV.val at cEM
  dsimp only at cEM
  have HV := Lib.hid cV; have HB := Lib.hid cB; have HEM := Lib.hid cEM; have HLD := Lib.hid hld; have HBO := Lib.hid cBo; have HC1 := Lib.hid hc1; have HC10 := Lib.hid hc10; have HG := Lib.hid cG; have HMC := Lib.hid hmc; have HBV := Lib.hid hbv; have HPE := Lib.hid hpe; have HOK := Lib.hid hok0; have HNN := Lib.hid hnn; have HAV := Lib.hid hav
  clear cV cB cEM hld cBo hc1 hc10 cG hmc hbv hpe hok0 hnn hav hqc hpz hcell hrr hfx hco hro hxm hlen hemp hx hv hE hT hcp hf hL
  have hk0 : (0 : Int) ≤ (k : Int) := by omega
  have hk1 : (k : Int) < (n : Int) := by omega
  have d0 : decide ((k : Int) < 0) = false := decide_eq_false (by omega)
  have d1 : decide ((n : Int) ≤ (k : Int)) = false := decide_eq_false (by omega)
  go_enter Tryz.func27, Tryz.ntmps27
  go_upto_region 1 with fail
  generalize hw0 : World.alloc _ _ = w0
  have hY : ABox w0 w.heap.size ⟨#[]⟩ ⟨#[]⟩ ⟨#[]⟩ 0 0 0 := by rw [← hw0]; exact heap_alloc_new w _
  have hbw : Below w.heap.size w w0 := by rw [← hw0]; exact balloc (Below.refl _ _) _
  clear hw0
  go_upto_region 4 with (first | (go_at_call 75; refine (HV.out _ hbw).mono ?_; rintro e w2 ⟨rfl, hb2⟩; replace hY := ABox.keepB hY hb2; replace hbw := bstep hbw hb2) | (go_at_call 76; refine (HB.out _ hbw).mono ?_; rintro e w3 ⟨B, ln, d, rfl, hbr, hb3⟩; replace hY := ABox.keepB hY hb3; replace hbw := bstep hbw hb3; have HBR := Lib.hid hbr; clear hbr))
  go_upto_region 5 with (first | (refine wpList_load_addr rfl 31 _ rfl ⟨b, o + k * 18 + 8, none⟩ (CondMem.val x.r.allow x.m) rfl (HLD.out _ hbw) ?_) | (go_at_call 87; refine (HEM.out _ hbw).mono ?_; rintro e w4 ⟨rfl, hb4⟩; replace hY := ABox.keepB hY hb4; replace hbw := bstep hbw hb4; have hs4 := hbw.size))
  have hRB4 := HBR.out
  have HB4 := Lib.hid hb4
  have hgw : w.heap.size < w4.heap.size := Blk.lt hY
  generalize hw5 : World.alloc _ _ = w5
  have hal : Below w4.heap.size w4 w5 := by rw [← hw5]; exact balloc (Below.refl _ _) _
  have hZ : ABox w5 w4.heap.size ad cl co si lo hi := by rw [← hw5]; exact heap_alloc_new w4 _
  replace hY := ABox.keepB hY hal
  replace hbw := bstep hbw hal
  have HR5 : Hid ((tagsR x.r.tags).2 = 0 → ln = (befK L x.r.tags k).length ∧ Reads w5 1 B (befK L x.r.tags k).length ((befK L x.r.tags k).map .string)) := Lib.hid (fun h => ⟨(hRB4 h).1, ((hRB4 h).2.keep hb4).keep hal⟩)
  clear hw5 hal hRB4 HBR HB4 hb2 hb3 hb4 hs4
  obtain ⟨g1, hg1⟩ : ∃ g1, g1 = w4.heap.size := ⟨_, rfl⟩
  rw [← hg1] at hZ hgw ⊢
  clear hg1 w4
  (have c1 := cell_keep hbw HC1.out; have c10 := cell_keep hbw HC10.out)
  go_upto_region 7 with fail
  clear c1 c10
  go_cut [61] (fun v61 wx => v61 = .bool (!x.r.allow.pat.toList.isEmpty && ok0) ∧ wx = w5)
  case first =>
    cases hqe : x.r.allow.pat.toList.isEmpty
    all_goals
      go_wp2_with fail
      go_meet
      exact ⟨by simp [hqe], rfl⟩
  obtain ⟨rfl, hwc⟩ := hcut
  have hwc2 : w5 = wc := hwc.symm
  subst hwc2
  go_upto_if 61 with fail
  go_cut [8, 12] (fun v8 v12 wx => ∃ (okb : Bool) (m : ByteArray), v8 = .bool okb ∧ v12 = .string m ∧ Hid (DeadIs x okb m) ∧ Below w5.heap.size w5 wx)
  case first =>
    cases hqe : x.r.allow.pat.toList.isEmpty
    · cases ok0
      · have ht : (tagsR x.r.tags).2 ≠ 0 := by have := HOK.out; exact of_decide_eq_false this.symm
        simp only [Bool.not_false, Bool.and_false]
        go_wp2_with fail
        go_meet
        exact ⟨false, x.r.pat, rfl, rfl, Lib.hid ⟨fun h => (by cases h), fun _ => .inl ht⟩, Below.refl _ _⟩
      · have ht : (tagsR x.r.tags).2 = 0 := by have := HOK.out; exact of_decide_eq_true this.symm
        have hbo := HBO.out w5 hbw
        rw [HBV.out hqe] at hbo
        cases hpm : pmeet x.r.pat x.r.allow.pat with
        | none =>
          rw [hpm] at hbo
          have HBQ := Lib.hid hbo; have HPM := Lib.hid hpm
          clear hbo hpm
          simp only [Bool.not_false, Bool.and_true]
          go_wp2_with (go_at_call 88; refine HBQ.out.mono ?_; rintro e w6 ⟨rfl, hb6⟩)
          go_meet
          exact ⟨false, ⟨#[]⟩, rfl, rfl, Lib.hid ⟨fun h => (by cases h), fun _ => .inr ⟨ht, HPM.out⟩⟩, hb6⟩
        | some m =>
          rw [hpm] at hbo
          have HBQ := Lib.hid hbo; have HPM := Lib.hid hpm
          clear hbo hpm
          simp only [Bool.not_false, Bool.and_true]
          go_wp2_with (go_at_call 88; refine HBQ.out.mono ?_; rintro e w6 ⟨rfl, hb6⟩)
          go_meet
          exact ⟨true, m, rfl, rfl, Lib.hid ⟨fun _ => ⟨ht, HPM.out⟩, fun h => (by cases h)⟩, hb6⟩
    · have hpm := HPE.out hqe
      have HPM := Lib.hid hpm
      clear hpm
      simp only [Bool.not_true, Bool.false_and]
      go_wp2_with fail
      go_meet
      refine ⟨ok0, x.r.pat, rfl, rfl, Lib.hid ⟨fun h => ⟨?_, HPM.out⟩, fun h => .inl ?_⟩, Below.refl _ _⟩
      · have := HOK.out; rw [h] at this; exact of_decide_eq_true this.symm
      · have := HOK.out; rw [h] at this; exact of_decide_eq_false this.symm
  case rest =>
    obtain ⟨okb, m, rfl, rfl, HDI, hbc⟩ := hcut
    replace hY := ABox.keepB hY hbc
    replace hZ := ABox.keepB hZ hbc
    replace hbw := bstep hbw hbc
    clear HBO HBV HPE HC1 HC10 HLD HEM HB HV
    have HRC : Hid ((tagsR x.r.tags).2 = 0 → ln = (befK L x.r.tags k).length ∧ Reads wc 1 B (befK L x.r.tags k).length ((befK L x.r.tags k).map .string)) := Lib.hid (fun h => ⟨(HR5.out h).1, (HR5.out h).2.keep hbc⟩)
    clear HR5
    cases okb
    · have hdi := HDI.out.2 rfl
      have hda : DeadAt L k x noAsk true := .inl ⟨rfl, rfl, hdi.elim .inl (fun h => .inr (.inr (.inl h)))⟩
      have HDA := Lib.hid hda
      clear hdi hda HDI
      (obtain ⟨y0, y1, y2, y3, y4, y5⟩ := hY.facts; obtain ⟨z0, z1, z2, z3, z4, z5⟩ := hY.free)
      go_wp2_with fail
      (obtain ⟨p0, p1, p2, p3, p4, p5⟩ := (hY.put ⟨#[]⟩ ⟨#[]⟩ ⟨#[]⟩ 0 0 0).facts; clear y0 y1 y2 y3 y4 y5 z0 z1 z2 z3 z4 z5)
      exact bodyPost_ret (v := .tuple #[.agg #[.string ⟨#[]⟩, .string ⟨#[]⟩, .string ⟨#[]⟩, .int .i64 0, .int .i64 0, .int .i64 0], .bool true, .int .i64 0]) (by simp only [results, Tryz.results27]; simp [go_sem, p0, p1, p2, p3, p4, p5]) rfl ⟨noAsk, true, rfl, HDA.out, below_put6 hbw (Nat.le_refl _) _ _ _ _ _ _⟩
    obtain ⟨ht, hpm⟩ := HDI.out.1 rfl
    cases nn
    rotate_left
    · have htf : x.r.allow.till ≤ x.r.allow.fr := of_decide_eq_true HNN.out.symm
      have hda : DeadAt L k x noAsk true := .inl ⟨rfl, rfl, .inr (.inl htf)⟩
      have HDA := Lib.hid hda
      clear hda HDI htf ht hpm
      (obtain ⟨y0, y1, y2, y3, y4, y5⟩ := hY.facts; obtain ⟨z0, z1, z2, z3, z4, z5⟩ := hY.free)
      go_wp2_with fail
      (obtain ⟨p0, p1, p2, p3, p4, p5⟩ := (hY.put ⟨#[]⟩ ⟨#[]⟩ ⟨#[]⟩ 0 0 0).facts; clear y0 y1 y2 y3 y4 y5 z0 z1 z2 z3 z4 z5)
      exact bodyPost_ret (v := .tuple #[.agg #[.string ⟨#[]⟩, .string ⟨#[]⟩, .string ⟨#[]⟩, .int .i64 0, .int .i64 0, .int .i64 0], .bool true, .int .i64 0]) (by simp only [results, Tryz.results27]; simp [go_sem, p0, p1, p2, p3, p4, p5]) rfl ⟨noAsk, true, rfl, HDA.out, below_put6 hbw (Nat.le_refl _) _ _ _ _ _ _⟩
    have htf : x.r.allow.fr < x.r.allow.till := by have := of_decide_eq_false HNN.out.symm; omega
    obtain ⟨hln, hrb⟩ := HRC.out ht
    subst hln
    obtain ⟨hm1, hm2⟩ := HMC.out m hpm
    have hg := HG.out m hm1 hm2 wc hbw B d hrb
    have HGP := Lib.hid hg; have HT0 := Lib.hid ht; have HPM := Lib.hid hpm
    clear hg ht hpm hrb hm1 hm2 HRC HDI HMC HG
    go_upto_region 12 with (go_at_call 71; refine HGP.out.mono ?_; rintro e w7 ⟨s, is, rfl, hpo, hsz, hb7⟩; have HPO := Lib.hid hpo; clear hpo)
    replace hY := ABox.keepB hY hb7
    replace hZ := ABox.keepB hZ hb7
    replace hbw := bstep hbw hb7
    cases is
    · have hda : DeadAt L k x noAsk true := .inl ⟨rfl, rfl, .inr (.inr (.inr ⟨HT0.out, htf, m, s, HPM.out, HPO.out⟩))⟩
      have HDA := Lib.hid hda
      clear hda
      (obtain ⟨y0, y1, y2, y3, y4, y5⟩ := hY.facts; obtain ⟨z0, z1, z2, z3, z4, z5⟩ := hY.free)
      go_wp2_with fail
      (obtain ⟨p0, p1, p2, p3, p4, p5⟩ := (hY.put ⟨#[]⟩ ⟨#[]⟩ ⟨#[]⟩ 0 0 0).facts; clear y0 y1 y2 y3 y4 y5 z0 z1 z2 z3 z4 z5)
      exact bodyPost_ret (v := .tuple #[.agg #[.string ⟨#[]⟩, .string ⟨#[]⟩, .string ⟨#[]⟩, .int .i64 0, .int .i64 0, .int .i64 0], .bool true, .int .i64 0]) (by simp only [results, Tryz.results27]; simp [go_sem, p0, p1, p2, p3, p4, p5]) rfl ⟨noAsk, true, rfl, HDA.out, below_put6 hbw (Nat.le_refl _) _ _ _ _ _ _⟩
    · have hda : DeadAt L k x ⟨s, cl, co, si, lo, hi⟩ false := .inr ⟨rfl, HT0.out, htf, m, s, HPM.out, HPO.out, hsz, by
        have h := HAV.out
        rw [if_neg (by omega)] at h
        rw [← h]⟩
      have HDA := Lib.hid hda
      clear hda
      have q0 := (hZ.facts).1
      have r0 := (hZ.free).1
      go_upto_region 15 with fail
      clear q0 r0
      generalize hw8 : World.setCell _ _ _ = w8
      have hset := But.set w7 g1 0 (.string s)
      have hZ8 : ABox w8 g1 s cl co si lo hi := by rw [← hw8]; exact hZ.set0
      have hY8 : ABox w8 w.heap.size ⟨#[]⟩ ⟨#[]⟩ ⟨#[]⟩ 0 0 0 := by rw [← hw8]; exact hset.blk hY (by omega)
      have hbw8 : Below w.heap.size w w8 := by rw [← hw8]; exact hbw.trans (hset.below (by omega) (by have := hbw.size; omega))
      clear hw8 hset hY hZ hbw
      have hY := hY8
      obtain ⟨q0, q1, q2, q3, q4, q5⟩ := hZ8.facts
      (obtain ⟨y0, y1, y2, y3, y4, y5⟩ := hY.facts; obtain ⟨z0, z1, z2, z3, z4, z5⟩ := hY.free)
      go_wp2_with fail
      obtain ⟨p0, p1, p2, p3, p4, p5⟩ := (hY.put s cl co si lo hi).facts
      clear y0 y1 y2 y3 y4 y5 z0 z1 z2 z3 z4 z5
      clear q0 q1 q2 q3 q4 q5
      exact bodyPost_ret (v := .tuple #[.agg #[.string s, .string cl, .string co, .int .i64 si, .int .i64 lo, .int .i64 hi], .bool false, .int .i64 0]) (by simp only [results, Tryz.results27]; simp [go_sem, p0, p1, p2, p3, p4, p5]) rfl ⟨⟨s, cl, co, si, lo, hi⟩, false, rfl, HDA.out, below_put6 hbw8 (Nat.le_refl _) _ _ _ _ _ _⟩
end Go.Proofs.YtjhlpkhfdghngaaGreatDoor
namespace Go.Proofs.YtjhlpkhfdghngaaGreatDoor
open Go.RowKit Go.Sort
set_option linter.unusedVariables false
set_option linter.unusedSimpArgs false
set_option maxRecDepth 100000
theorem map_some_inj : ∀ (l : List (Option Pat)) (xs ys : List Pat), l = xs.map some → l = ys.map some → xs = ys
  | _, [], [], _, _ => rfl
  | _, [], _ :: _, h1, h2 => by rw [h1] at h2; simp at h2
  | _, _ :: _, [], h1, h2 => by rw [h1] at h2; simp at h2
  | _, x :: xs, y :: ys, h1, h2 => by
    rw [h1] at h2
    simp only [List.map_cons, List.cons.injEq, Option.some.injEq] at h2
    rw [h2.1, map_some_inj (xs.map some) xs ys rfl h2.2]
theorem gap_is {p : ByteArray} {bs : List ByteArray} {s : ByteArray} {is : Bool} {x : Pat} {ys : List Pat} (h : GapPost p bs s is) (hx : compileB p = some x) (hb : bs.map compileB = ys.map some) : is = (gapN x ys).isSome := by
  obtain ⟨x', ys', hx', hb', h⟩ := h
  have e1 : x' = x := Option.some.inj (hx'.symm.trans hx)
  have e2 := map_some_inj _ _ _ hb' hb
  subst e1; subst e2
  rcases h with ⟨h, h2, _⟩ | ⟨m, c, ws, h, h2, _⟩
  · rw [h, h2]; rfl
  · rw [h, h2]; rfl
theorem gap_text {p : ByteArray} {bs : List ByteArray} {s : ByteArray} {x : Pat} {ys : List Pat} {m : Nat} (h : GapPost p bs s true) (hx : compileB p = some x) (hb : bs.map compileB = ys.map some) (hg : gapN x ys = some m) : ∃ c ws, s = joinS (c :: ws) ∧ Exam (partsOf ys) x m c ws := by
  obtain ⟨x', ys', hx', hb', h⟩ := h
  have e1 : x' = x := Option.some.inj (hx'.symm.trans hx)
  have e2 := map_some_inj _ _ _ hb' hb
  subst e1; subst e2
  rcases h with ⟨_, h2, _⟩ | ⟨m', c, ws, h, _, h3, h4⟩
  · cases h2
  · have e3 : m' = m := Option.some.inj (h.symm.trans hg)
    subst e3
    exact ⟨c, ws, h3, h4⟩
def xTail : Pat := ⟨⟨0, (⟨#[97, 99, 109, 101]⟩ : ByteArray)⟩, [], true⟩
def xStar : Pat := ⟨⟨0, (⟨#[97, 99, 109, 101]⟩ : ByteArray)⟩, [⟨2, ⟨#[]⟩⟩], false⟩
def xOne : Pat := ⟨⟨0, (⟨#[97, 99, 109, 101]⟩ : ByteArray)⟩, [], false⟩
def xStars : Pat := ⟨⟨0, (⟨#[97, 99, 109, 101]⟩ : ByteArray)⟩, [⟨2, ⟨#[]⟩⟩], true⟩
def xCss : Pat := ⟨⟨0, (⟨#[97, 99, 109, 101]⟩ : ByteArray)⟩, [⟨1, (⟨#[46, 99, 115, 115]⟩ : ByteArray)⟩], false⟩
def xA : Pat := ⟨⟨0, (⟨#[97, 99, 109, 101]⟩ : ByteArray)⟩, [⟨0, (⟨#[97]⟩ : ByteArray)⟩], false⟩
theorem cTa : compileB (⟨#[97, 99, 109, 101, 47, 42, 42]⟩ : ByteArray) = some xTail := by kernel_rfl
theorem cSt : compileB (⟨#[97, 99, 109, 101, 47, 42]⟩ : ByteArray) = some xStar := by kernel_rfl
theorem cOn : compileB (⟨#[97, 99, 109, 101]⟩ : ByteArray) = some xOne := by kernel_rfl
theorem cSts : compileB (⟨#[97, 99, 109, 101, 47, 42, 47, 42, 42]⟩ : ByteArray) = some xStars := by kernel_rfl
theorem cCs : compileB (⟨#[97, 99, 109, 101, 47, 42, 46, 99, 115, 115]⟩ : ByteArray) = some xCss := by kernel_rfl
theorem cAa : compileB (⟨#[97, 99, 109, 101, 47, 97]⟩ : ByteArray) = some xA := by kernel_rfl
theorem g1 {s : ByteArray} {is : Bool} (h : GapPost (⟨#[97, 99, 109, 101, 47, 42, 42]⟩ : ByteArray) [(⟨#[97, 99, 109, 101]⟩ : ByteArray), (⟨#[97, 99, 109, 101, 47, 42]⟩ : ByteArray), (⟨#[97, 99, 109, 101, 47, 42, 47, 42, 42]⟩ : ByteArray)] s is) : is = false := by
  rw [gap_is (x := xTail) (ys := [xOne, xStar, xStars]) h cTa (by rw [List.map_cons, List.map_cons, List.map_cons, cOn, cSt, cSts]; rfl)]
  decide +kernel
theorem g2 {s : ByteArray} {is : Bool} (h : GapPost (⟨#[97, 99, 109, 101, 47, 42, 42]⟩ : ByteArray) [(⟨#[97, 99, 109, 101, 47, 42]⟩ : ByteArray), (⟨#[97, 99, 109, 101, 47, 42, 47, 42, 42]⟩ : ByteArray)] s is) : is = true ∧ s = (⟨#[97, 99, 109, 101]⟩ : ByteArray) := by
  have hb : [(⟨#[97, 99, 109, 101, 47, 42]⟩ : ByteArray), (⟨#[97, 99, 109, 101, 47, 42, 47, 42, 42]⟩ : ByteArray)].map compileB = [xStar, xStars].map some := by rw [List.map_cons, List.map_cons, cSt, cSts]; rfl
  have h1 : is = true := by
    rw [gap_is (x := xTail) (ys := [xStar, xStars]) h cTa hb]
    decide +kernel
  subst h1
  obtain ⟨c, ws, rfl, he⟩ := gap_text (m := 0) h cTa hb (by decide +kernel)
  refine ⟨rfl, ?_⟩
  have hw : ws = [] := List.eq_nil_of_length_eq_zero he.len
  subst hw
  rcases he.cust with ⟨_, h2⟩ | ⟨h2, _⟩
  · rw [h2]; decide +kernel
  · exact absurd rfl h2
theorem g3 {s : ByteArray} {is : Bool} (h : GapPost (⟨#[97, 99, 109, 101, 47, 42]⟩ : ByteArray) [(⟨#[97, 99, 109, 101, 47, 42, 46, 99, 115, 115]⟩ : ByteArray), (⟨#[97, 99, 109, 101, 47, 97]⟩ : ByteArray)] s is) : is = true ∧ matchB (⟨#[97, 99, 109, 101, 47, 42]⟩ : ByteArray) s = true ∧ matchB (⟨#[97, 99, 109, 101, 47, 42, 46, 99, 115, 115]⟩ : ByteArray) s = false ∧ (s.toList == ((⟨#[97, 99, 109, 101, 47, 97]⟩ : ByteArray) : ByteArray).toList) = false := by
  have hb : [(⟨#[97, 99, 109, 101, 47, 42, 46, 99, 115, 115]⟩ : ByteArray), (⟨#[97, 99, 109, 101, 47, 97]⟩ : ByteArray)].map compileB = [xCss, xA].map some := by rw [List.map_cons, List.map_cons, cCs, cAa]; rfl
  have h1 : is = true := by
    rw [gap_is (x := xStar) (ys := [xCss, xA]) h cSt hb]
    decide +kernel
  subst h1
  obtain ⟨h2, h3⟩ := gap_found h
  refine ⟨rfl, h2, h3 _ (by simp), ?_⟩
  cases he : (s.toList == ((⟨#[97, 99, 109, 101, 47, 97]⟩ : ByteArray) : ByteArray).toList)
  · rfl
  · rw [beq_iff_eq, Lib.toList_data, Lib.toList_data] at he
    have hs : s = (⟨#[97, 99, 109, 101, 47, 97]⟩ : ByteArray) := bytes_ext he
    have h4 := h3 (⟨#[97, 99, 109, 101, 47, 97]⟩ : ByteArray) (by simp)
    rw [hs] at h4
    have h5 : matchB (⟨#[97, 99, 109, 101, 47, 97]⟩ : ByteArray) (⟨#[97, 99, 109, 101, 47, 97]⟩ : ByteArray) = true := by decide +kernel
    rw [h5] at h4
    cases h4
def mkC (al : ByteArray) : CondV := ⟨0, 1099511627777, al, [], [], [], 0⟩
def mkR (nm pt : ByteArray) (ts : List ByteArray) (T : Option Addr) (c : Nat) (al : ByteArray) : RuleM := ⟨⟨nm, pt, ts, 0, 0, 0, 0, [], mkC al, false, 0, ⟨#[]⟩⟩, T, c, none, 0, [], ⟨none, 0, none, 0, none, 0⟩⟩
def rA (T : Option Addr) : RuleM := mkR (⟨#[111, 110, 101]⟩ : ByteArray) (⟨#[97, 99, 109, 101, 47, 42, 42]⟩ : ByteArray) [(⟨#[104, 111, 116]⟩ : ByteArray)] T 1 ⟨#[]⟩
def rB (T : Option Addr) : RuleM := mkR (⟨#[116, 119, 111]⟩ : ByteArray) (⟨#[97, 99, 109, 101, 47, 97]⟩ : ByteArray) [(⟨#[104, 111, 116]⟩ : ByteArray), (⟨#[110, 101, 119]⟩ : ByteArray)] T 2 ⟨#[]⟩
def rC : RuleM := mkR (⟨#[116, 104, 114, 101, 101]⟩ : ByteArray) (⟨#[97, 99, 109, 101, 47, 97]⟩ : ByteArray) [] none 0 (⟨#[97, 99, 109, 101, 47, 98]⟩ : ByteArray)
def rL (T U : Option Addr) : List RuleM := [rA T, rB U, rC]
theorem vA : validR (rA none).r = true := by decide +kernel
theorem vB : validR (rB none).r = true := by decide +kernel
theorem vC : validR rC.r = true := by decide +kernel
theorem vL (T U : Option Addr) : validL (rL T U) = true := by
  have h1 : ruleOkB (rA T) = true := by
    unfold ruleOkB
    rw [show validR (rA T).r = true from vA, show checkV (rA T).L = 0 from rfl]; rfl
  have h2 : ruleOkB (rB U) = true := by
    unfold ruleOkB
    rw [show validR (rB U).r = true from vB, show checkV (rB U).L = 0 from rfl]; rfl
  have h3 : ruleOkB rC = true := by
    unfold ruleOkB
    rw [vC, show checkV rC.L = 0 from rfl]; rfl
  unfold validL rL
  simp only [List.all_cons, List.all_nil, h1, h2, h3]
  rfl
theorem tA : tagsR [(⟨#[104, 111, 116]⟩ : ByteArray)] = ((⟨#[104, 111, 116]⟩ : ByteArray), 0) := by decide +kernel
theorem tB : (tagsR [(⟨#[104, 111, 116]⟩ : ByteArray), (⟨#[110, 101, 119]⟩ : ByteArray)]).2 = 0 := tags_few (fun p hp => by
  have h : [(⟨#[104, 111, 116]⟩ : ByteArray), (⟨#[110, 101, 119]⟩ : ByteArray)].all isNameB = true := by decide +kernel
  exact List.all_eq_true.1 h p hp) (by decide)
theorem t0 : (tagsR []).2 = 0 := by decide +kernel
theorem bB (T U : Option Addr) : befK (rL T U) [(⟨#[104, 111, 116]⟩ : ByteArray), (⟨#[110, 101, 119]⟩ : ByteArray)] 1 = [(⟨#[97, 99, 109, 101, 47, 42, 42]⟩ : ByteArray)] := by
  have : befK (rL none none) [(⟨#[104, 111, 116]⟩ : ByteArray), (⟨#[110, 101, 119]⟩ : ByteArray)] 1 = [(⟨#[97, 99, 109, 101, 47, 42, 42]⟩ : ByteArray)] := by decide +kernel
  exact this
theorem bC (T U : Option Addr) : befK (rL T U) [] 2 = [] := by
  have : befK (rL none none) [] 2 = [] := by decide +kernel
  exact this
theorem gs1 {s : ByteArray} {g : Bool} (h : GapPost (⟨#[97, 99, 109, 101, 47, 97]⟩ : ByteArray) [(⟨#[97, 99, 109, 101, 47, 42, 42]⟩ : ByteArray)] s g) : g = false := by
  rw [gap_is (x := xA) (ys := [xTail]) h cAa (by rw [List.map_cons, cTa]; rfl)]
  decide +kernel
theorem gs2 {s : ByteArray} {g : Bool} (h : GapPost (⟨#[97, 99, 109, 101, 47, 97]⟩ : ByteArray) [] s g) : g = true ∧ s = (⟨#[97, 99, 109, 101, 47, 97]⟩ : ByteArray) := by
  have h1 : g = true := by
    rw [gap_is (x := xA) (ys := []) h cAa rfl]
    decide +kernel
  subst h1
  obtain ⟨c, ws, rfl, he⟩ := gap_text (x := xA) (ys := []) (m := 1) h cAa rfl (by decide +kernel)
  refine ⟨rfl, ?_⟩
  obtain ⟨w1, rfl⟩ : ∃ w1, ws = [w1] := by
    match ws, he.len with
    | [a], _ => exact ⟨a, rfl⟩
  have hc : c = (⟨#[97, 99, 109, 101]⟩ : ByteArray) := by
    rcases he.cust with ⟨_, h2⟩ | ⟨h2, _⟩
    · exact h2
    · exact absurd rfl h2
  have hw : w1 = (⟨#[97]⟩ : ByteArray) := by
    rcases he.fresh 0 ⟨0, (⟨#[97]⟩ : ByteArray)⟩ w1 rfl rfl with ⟨_, h2⟩ | ⟨h2, _⟩
    · exact h2
    · exact absurd rfl h2
  rw [hc, hw]
  decide +kernel
theorem gd0 {s : ByteArray} {g : Bool} (h : GapPost (⟨#[97, 99, 109, 101, 47, 42, 42]⟩ : ByteArray) [] s g) : g = true := by
  rw [gap_is (x := xTail) (ys := []) h cTa rfl]
  decide +kernel
end Go.Proofs.YtjhlpkhfdghngaaGreatDoor
