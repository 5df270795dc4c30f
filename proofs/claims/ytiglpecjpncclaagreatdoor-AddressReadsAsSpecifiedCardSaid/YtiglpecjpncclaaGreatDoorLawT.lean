/- What AddressTextsReturn returns: true. -/
import Derived.Test.YtiglpecjpncclaaGreatDoorFew
import Derived.Test.YtiglpecjpncclaaGreatDoorPlainL
import Derived.Test.YtiglpecjpncclaaGreatDoorSane
import Derived.Deep.DeepCutAuto
import Derived.Test.YtiglpecjpncclaaGreatDoorProg
import Derived.WalkKit
import Derived.WalkSpells
import Derived.WalkLawsBesides
import Derived.Below
import Derived.Deep.QuietTactic
import Derived.BigQuiet
import Derived.Lib.QuietBelow
import Derived.Lib.Strings
import Derived.Lib.Hide
import Derived.Deep.RegionWith
import Derived.Deep.RegionHeld3
import Derived.Lib.IndexBytes
namespace Go.Proofs.YtiglpecjpncclaaGreatDoor
open Go.RowKit Go.Sort
set_option linter.unusedVariables false
set_option linter.unusedSimpArgs false
set_option maxRecDepth 100000
theorem sum_le {c : ByteArray} {xs : List ByteArray} {qs : List (ByteArray × ByteArray)} (h : fewB c xs qs = true) : (W06 c xs qs).length ≤ 1000000000 := by
  unfold fewB at h
  simp only [Bool.and_eq_true, decide_eq_true_eq, List.all_eq_true] at h
  obtain ⟨⟨⟨⟨h1, h2⟩, h3⟩, h4⟩, h5⟩ := h
  have e1 : (pathL (lists xs)).length ≤ (lists xs).length * 201 := by
    have : ∀ l : List (List UInt8), (∀ p ∈ l, p.length ≤ 200) → (pathL l).length ≤ l.length * 201 := by
      intro l
      induction l with
      | nil => simp [pathL]
      | cons p l ih =>
        intro h
        have a1 := h p (by simp)
        have a2 := ih (fun q hq => h q (by simp [hq]))
        simp only [pathL, List.flatMap_cons, List.length_append, List.length_cons] at a2 ⊢
        omega
    refine this _ (fun p hp => ?_)
    obtain ⟨x, hx, rfl⟩ := List.mem_map.1 hp
    have := h4 x hx
    rw [size_data] at this; exact this
  have e2 : totQ (lists2 qs) ≤ qs.length * 402 := by
    clear h3
    induction qs with
    | nil => simp [lists2, totQ]
    | cons q qs ih =>
      have a1 := h5 q (by simp)
      have a2 := ih (fun p hp => h5 p (by simp [hp]))
      rw [size_data, size_data] at a1
      simp only [lists2, List.map_cons, totQ, List.length_cons] at a2 ⊢
      omega
  rw [size_data] at h1
  unfold W06 writeL
  rw [List.length_append, List.length_append, query_tot]
  have e3 : (lists xs).length = xs.length := by simp [lists]
  rw [e3] at e1
  omega
/-- The contract of Parse at a text that is read as (xc, ps, qs). -/
theorem parse_at (s : ByteArray) (xc : ByteArray) (ps : List ByteArray) (qs : List (ByteArray × ByteArray)) (er : Int) (hs : s.size ≤ 4294967281) (h : parseB s = (⟨xc, ps, qs⟩, er)) (na nb : Nat) (hna : na = ps.length) (hnb : nb = qs.length) :
    ∀ W, Env W → Calls Tryz.prog 12 #[.string s] W fun e w' => Below W.heap.size W w' ∧ ∃ A ca B cb, e = .returned (.tuple #[.agg #[.string xc, .slice A na ca, .slice B nb cb], .int .i64 er]) ∧ Reads w' 1 A na (ps.map .string) ∧ Reads w' 2 B nb (pairCells qs) := fun W hE => by
  have := parse_any s W hs hE
  rw [h] at this
  subst hna; subst hnb
  exact this.mono (by rintro e w' ⟨hb, A, ca, B, cb, rfl, hA, hB, _⟩; exact ⟨hb, A, ca, B, cb, rfl, hA, hB⟩)
set_option maxHeartbeats 4000000 in
theorem lawTexts (s : ByteArray) (c : ByteArray) (P Q : Option Addr) (np cp nq cq : Nat) (xs : List ByteArray) (qs : List (ByteArray × ByteArray)) (w : World) (hs : s.size ≤ 9223372036854775807) (hP : Reads w 1 P np (xs.map .string)) (hQ : Reads w 2 Q nq (pairCells qs)) (hcz : c.size ≤ maxLen) (_ : True) (hE : Env w) :
    Calls Tryz.prog 5 #[.string s, .agg #[.string c, .slice P np cp, .slice Q nq cq]] w (Ret w (.bool true)) := by
  have HS := Lib.hid (fun W h => sanity_any W h)
  have HE := Lib.hid hE
  have hnp : xs.length = np := by have := hP.1; simp at this; omega
  have hnq : qs.length = nq := by have := hQ.1; rw [pairCells_length] at this; omega
  have HPR := Lib.hid hP
  have HQR := Lib.hid hQ
  have cF := fun W h1 h2 => few_any c P Q np cp nq cq xs qs W h1 h2
  clear hE hP hQ
  by_cases h1 : s.size ≤ 5000
  rotate_left
  · have d1 : decide ((5000 : Int) < (s.size : Int)) = true := decide_eq_true (by omega)
    clear cF hnp hnq
    go_enter Tryz.func5, Tryz.ntmps5
    go_wp2_with (go_at_call 11; refine (HS.out _ (Env.keep HE.out (by (repeat (first | exact Below.refl _ _ | assumption | refine Below.drew ?_ | refine balloc ?_ _ | refine bdrewN ?_ _ | refine Below.setCell ?_ (by first | (simp; done) | (simp; omega)) _ | refine bstep ?_ (by assumption)))))).mono ?_; rintro e ws ⟨rfl, hbs⟩)
    go_ret
    exact ⟨rfl, by (repeat (first | exact Below.refl _ _ | assumption | refine Below.drew ?_ | refine balloc ?_ _ | refine bdrewN ?_ _ | refine Below.setCell ?_ (by first | (simp; done) | (simp; omega)) _ | refine bstep ?_ (by assumption)))⟩
  have d1 : decide ((5000 : Int) < (s.size : Int)) = false := decide_eq_false (by omega)
  have hsum := @sum_le c xs qs
  have hlen : fewB c xs qs = true → np ≤ 40 ∧ nq ≤ 20 := by
    intro h
    unfold fewB at h
    simp only [Bool.and_eq_true, decide_eq_true_eq] at h
    rw [← hnp, ← hnq]
    exact ⟨h.1.1.1.2, h.1.1.2⟩
  cases hf : fewB c xs qs
  · rw [hf] at cF
    have HF := Lib.hid cF
    clear cF hsum hlen hnp hnq
    go_enter Tryz.func5, Tryz.ntmps5
    go_wp2_with (first | (go_at_call 11; refine (HS.out _ (Env.keep HE.out (by (repeat (first | exact Below.refl _ _ | assumption | refine Below.drew ?_ | refine balloc ?_ _ | refine bdrewN ?_ _ | refine Below.setCell ?_ (by first | (simp; done) | (simp; omega)) _ | refine bstep ?_ (by assumption)))))).mono ?_; rintro e ws ⟨rfl, hbs⟩) | (go_at_call 10; refine (HF.out _ (HPR.out.keep (by (repeat (first | exact Below.refl _ _ | assumption | refine Below.drew ?_ | refine balloc ?_ _ | refine bdrewN ?_ _ | refine Below.setCell ?_ (by first | (simp; done) | (simp; omega)) _ | refine bstep ?_ (by assumption))))) (HQR.out.keep (by (repeat (first | exact Below.refl _ _ | assumption | refine Below.drew ?_ | refine balloc ?_ _ | refine bdrewN ?_ _ | refine Below.setCell ?_ (by first | (simp; done) | (simp; omega)) _ | refine bstep ?_ (by assumption)))))).mono ?_; rintro e wf ⟨rfl, hbf⟩; have hXf : Boxed3 wf w.heap.size c P np cp Q nq cq := (hbf.block w.heap.size (by simp)).trans (World.alloc_heap_new _ _)))
    go_ret
    exact ⟨rfl, by (repeat (first | exact Below.refl _ _ | assumption | refine Below.drew ?_ | refine balloc ?_ _ | refine bdrewN ?_ _ | refine Below.setCell ?_ (by first | (simp; done) | (simp; omega)) _ | refine bstep ?_ (by assumption)))⟩
  rw [hf] at cF
  have htot := hsum hf
  obtain ⟨hn40, hn20⟩ := hlen hf
  have HF := Lib.hid cF
  have cT := fun W h1 h2 => text_any c P Q np cp nq cq xs qs W h1 h2 htot
  have cSA := fun P2 Q2 cp2 cq2 W h1 h2 h3 h4 => same_eq c P Q P2 Q2 np cp nq cq cp2 cq2 xs qs W h1 h2 h3 h4 (by omega) (by omega)
  -- what the given text is read as
  obtain ⟨xc, ps, qs', er, hr⟩ : ∃ xc ps qs' er, parseB s = (⟨xc, ps, qs'⟩, er) := by
    obtain ⟨⟨xc, ps, qs'⟩, er⟩ := parseB s
    exact ⟨_, _, _, _, rfl⟩
  obtain ⟨na, hna⟩ : ∃ na, na = ps.length := ⟨_, rfl⟩
  obtain ⟨nb, hnb⟩ : ∃ nb, nb = qs'.length := ⟨_, rfl⟩
  have cP1 := parse_at s xc ps qs' er (by omega) hr na nb hna hnb
  have HP1 := Lib.hid cP1
  have HR := Lib.hid hr
  have HNA := Lib.hid hna
  have HNB := Lib.hid hnb
  have HT0 := Lib.hid cT
  have HSA0 := Lib.hid cSA
  have HNP := Lib.hid hnp
  have HNQ := Lib.hid hnq
  clear cF hsum hlen cT cSA cP1 hr hna hnb hnp hnq hf htot
  go_enter Tryz.func5, Tryz.ntmps5
  go_upto_if 32 with (first | (go_at_call 10; refine (HF.out _ (HPR.out.keep (by (repeat (first | exact Below.refl _ _ | assumption | refine Below.drew ?_ | refine balloc ?_ _ | refine bdrewN ?_ _ | refine Below.setCell ?_ (by first | (simp; done) | (simp; omega)) _ | refine bstep ?_ (by assumption))))) (HQR.out.keep (by (repeat (first | exact Below.refl _ _ | assumption | refine Below.drew ?_ | refine balloc ?_ _ | refine bdrewN ?_ _ | refine Below.setCell ?_ (by first | (simp; done) | (simp; omega)) _ | refine bstep ?_ (by assumption)))))).mono ?_; rintro e wf ⟨rfl, hbf⟩; have hXf : Boxed3 wf w.heap.size c P np cp Q nq cq := (hbf.block w.heap.size (by simp)).trans (World.alloc_heap_new _ _)) | (go_at_call 12; refine (HP1.out _ (Env.keep HE.out (by (repeat (first | exact Below.refl _ _ | assumption | refine Below.drew ?_ | refine balloc ?_ _ | refine bdrewN ?_ _ | refine Below.setCell ?_ (by first | (simp; done) | (simp; omega)) _ | refine bstep ?_ (by assumption)))))).mono ?_; rintro e w1 ⟨hb1, A, ca, B, cb, rfl, hA, hB⟩; have hX1 : Boxed3 w1 w.heap.size c P np cp Q nq cq := Blk.keep hXf hb1))
  go_cut [] (fun wx => Boxed3 wx w.heap.size c P np cp Q nq cq ∧ Below w.heap.size w wx)
  case first =>
    by_cases he : er = 0
    rotate_left
    · have b1 : (er == 0) = false := beq_eq_false_iff_ne.2 he
      go_wp2_with fail
      go_meet
      exact ⟨Blk.keep hX1 (by (repeat (first | exact Below.refl _ _ | assumption | refine Below.drew ?_ | refine balloc ?_ _ | refine bdrewN ?_ _ | refine Below.setCell ?_ (by first | (simp; done) | (simp; omega)) _ | refine bstep ?_ (by assumption)))), by (repeat (first | exact Below.refl _ _ | assumption | refine Below.drew ?_ | refine balloc ?_ _ | refine bdrewN ?_ _ | refine Below.setCell ?_ (by first | (simp; done) | (simp; omega)) _ | refine bstep ?_ (by assumption)))⟩
    · subst he
      have hg := parse_good s (by rw [HR.out])
      have hsh := parse_short s (by rw [HR.out])
      rw [HR.out] at hg hsh
      dsimp only at hg hsh
      have hwr := parse_write hg (by dsimp only; omega)
      have htx := text_good hg (by dsimp only; omega)
      dsimp only at hwr htx
      have hTz : (toB (W06 xc ps qs')).size = (W06 xc ps qs').length := rfl
      have cC1 := fun W h => canonical_any s W (by omega) h
      have cC2 := fun W h => canonical_any (toB (W06 xc ps qs')) W (by omega) h
      have ev1 : canonV s = .tuple #[.string (toB (W06 xc ps qs')), .int .i64 0] := by unfold canonV; rw [HR.out]; exact htx
      have ev2 : canonV (toB (W06 xc ps qs')) = .tuple #[.string (toB (W06 xc ps qs')), .int .i64 0] := by unfold canonV; rw [hwr]; exact htx
      rw [ev1] at cC1
      rw [ev2] at cC2
      have cP2 := parse_at (toB (W06 xc ps qs')) xc ps qs' 0 (by omega) hwr na nb HNA.out HNB.out
      have hna9 : na ≤ 32 := by rw [HNA.out]; exact hg.parts
      have hnb9 : nb ≤ 16 := by rw [HNB.out]; exact hg.pairs
      have cSM := fun P1 Q1 P2 Q2 cp1 cq1 cp2 cq2 W h1 h2 h3 h4 => same_eq xc P1 Q1 P2 Q2 na cp1 nb cq1 cp2 cq2 ps qs' W h1 h2 h3 h4 (by omega) (by omega)
      have hle : (toB (W06 xc ps qs')).size ≤ s.size := by omega
      generalize toB (W06 xc ps qs') = T at *
      have d2 : decide ((s.size : Int) < (T.size : Int)) = false := decide_eq_false (by omega)
      have d3 : decide (s.size < T.size) = false := decide_eq_false (by omega)
      have HC1 := Lib.hid cC1
      have HC2 := Lib.hid cC2
      have HP2 := Lib.hid cP2
      have HSM := Lib.hid cSM
      clear hg hsh hwr htx hTz cC1 cC2 ev1 ev2 cP2 cSM
      go_wp2_with (first | (go_at_call 13; refine (HC1.out _ (Env.keep HE.out (by (repeat (first | exact Below.refl _ _ | assumption | refine Below.drew ?_ | refine balloc ?_ _ | refine bdrewN ?_ _ | refine Below.setCell ?_ (by first | (simp; done) | (simp; omega)) _ | refine bstep ?_ (by assumption)))))).mono ?_; rintro e w2 ⟨rfl, hb2⟩; have hB2 : Boxed3 w2 w1.heap.size xc A na ca B nb cb := (hb2.block w1.heap.size (by simp)).trans (World.alloc_heap_new _ _); clear HC1) | (go_at_call 13; refine (HC2.out _ (Env.keep HE.out (by (repeat (first | exact Below.refl _ _ | assumption | refine Below.drew ?_ | refine balloc ?_ _ | refine bdrewN ?_ _ | refine Below.setCell ?_ (by first | (simp; done) | (simp; omega)) _ | refine bstep ?_ (by assumption)))))).mono ?_; rintro e w3 ⟨rfl, hb3⟩; have hB3 : Boxed3 w3 w1.heap.size xc A na ca B nb cb := Blk.keep hB2 hb3) | (go_at_call 12; refine (HP2.out _ (Env.keep HE.out (by (repeat (first | exact Below.refl _ _ | assumption | refine Below.drew ?_ | refine balloc ?_ _ | refine bdrewN ?_ _ | refine Below.setCell ?_ (by first | (simp; done) | (simp; omega)) _ | refine bstep ?_ (by assumption)))))).mono ?_; rintro e w4 ⟨hb4, A2, ca2, B2, cb2, rfl, hA2, hB2'⟩; have hB4 : Boxed3 w4 w1.heap.size xc A na ca B nb cb := Blk.keep hB3 hb4; have b0 : w4.cell? ⟨w1.heap.size, 0, none⟩ = some (.string xc) := Blk.cell hB4 0; have b1 : w4.cell? ⟨w1.heap.size, 1, none⟩ = some (.slice A na ca) := Blk.cell hB4 1; have b2 : w4.cell? ⟨w1.heap.size, 2, none⟩ = some (.slice B nb cb) := Blk.cell hB4 2; have hzb := Blk.lt hB4) | (go_at_call 18; refine (HSM.out _ _ _ _ _ _ _ _ _ (hA.keep (by (repeat (first | exact Below.refl _ _ | assumption | refine Below.drew ?_ | refine balloc ?_ _ | refine bdrewN ?_ _ | refine Below.setCell ?_ (by first | (simp; done) | (simp; omega)) _ | refine bstep ?_ (by assumption))))) (hB.keep (by (repeat (first | exact Below.refl _ _ | assumption | refine Below.drew ?_ | refine balloc ?_ _ | refine bdrewN ?_ _ | refine Below.setCell ?_ (by first | (simp; done) | (simp; omega)) _ | refine bstep ?_ (by assumption))))) (hA2.keep (by (repeat (first | exact Below.refl _ _ | assumption | refine Below.drew ?_ | refine balloc ?_ _ | refine bdrewN ?_ _ | refine Below.setCell ?_ (by first | (simp; done) | (simp; omega)) _ | refine bstep ?_ (by assumption))))) (hB2'.keep (by (repeat (first | exact Below.refl _ _ | assumption | refine Below.drew ?_ | refine balloc ?_ _ | refine bdrewN ?_ _ | refine Below.setCell ?_ (by first | (simp; done) | (simp; omega)) _ | refine bstep ?_ (by assumption)))))).mono ?_; rintro e w5 ⟨rfl, hb5⟩))
      go_meet
      exact ⟨Blk.keep hX1 (by (repeat (first | exact Below.refl _ _ | assumption | refine Below.drew ?_ | refine balloc ?_ _ | refine bdrewN ?_ _ | refine Below.setCell ?_ (by first | (simp; done) | (simp; omega)) _ | refine bstep ?_ (by assumption)))), by (repeat (first | exact Below.refl _ _ | assumption | refine Below.drew ?_ | refine balloc ?_ _ | refine bdrewN ?_ _ | refine Below.setCell ?_ (by first | (simp; done) | (simp; omega)) _ | refine bstep ?_ (by assumption)))⟩
  case rest =>
    obtain ⟨hXc, hbc⟩ := hcut
    clear hX1 hXf HP1 HR hbf hb1 hA hB
    have x0 : wc.cell? ⟨w.heap.size, 0, none⟩ = some (.string c) := Blk.cell hXc 0
    have x1 : wc.cell? ⟨w.heap.size, 1, none⟩ = some (.slice P np cp) := Blk.cell hXc 1
    have x2 : wc.cell? ⟨w.heap.size, 2, none⟩ = some (.slice Q nq cq) := Blk.cell hXc 2
    have cT := HT0.out
    unfold textV at cT
    cases hF : formedB c xs qs
    · rw [hF] at cT
      have HT := Lib.hid cT
      clear cT HT0 hF
      go_wp2_with (first | (go_at_call 14; refine (HT.out _ (HPR.out.keep (by (repeat (first | exact Below.refl _ _ | assumption | refine Below.drew ?_ | refine balloc ?_ _ | refine bdrewN ?_ _ | refine Below.setCell ?_ (by first | (simp; done) | (simp; omega)) _ | refine bstep ?_ (by assumption))))) (HQR.out.keep (by (repeat (first | exact Below.refl _ _ | assumption | refine Below.drew ?_ | refine balloc ?_ _ | refine bdrewN ?_ _ | refine Below.setCell ?_ (by first | (simp; done) | (simp; omega)) _ | refine bstep ?_ (by assumption)))))).mono ?_; rintro e wt ⟨rfl, hbt⟩) | (go_at_call 11; refine (HS.out _ (Env.keep HE.out (by (repeat (first | exact Below.refl _ _ | assumption | refine Below.drew ?_ | refine balloc ?_ _ | refine bdrewN ?_ _ | refine Below.setCell ?_ (by first | (simp; done) | (simp; omega)) _ | refine bstep ?_ (by assumption)))))).mono ?_; rintro e ws ⟨rfl, hbs⟩))
      go_ret
      exact ⟨rfl, by (repeat (first | exact Below.refl _ _ | assumption | refine Below.drew ?_ | refine balloc ?_ _ | refine bdrewN ?_ _ | refine Below.setCell ?_ (by first | (simp; done) | (simp; omega)) _ | refine bstep ?_ (by assumption)))⟩
    · rw [hF] at cT
      simp only [if_true] at cT
      have hfi := (formed_iff _ _ _).1 hF
      have hwr := parse_write hfi.1 hfi.2
      dsimp only at hwr
      have hTz : (toB (W06 c xs qs)).size = (W06 c xs qs).length := rfl
      have cP3 := parse_at (toB (W06 c xs qs)) c xs qs 0 (by have := hfi.2; omega) hwr np nq HNP.out.symm HNQ.out.symm
      have cT2 : ∀ W, Reads W 1 P np (xs.map .string) → Reads W 2 Q nq (pairCells qs) → Calls Tryz.prog 14 #[.agg #[.string c, .slice P np cp, .slice Q nq cq]] W (Ret W (.tuple #[.string (toB (W06 c xs qs)), .int .i64 0])) := cT
      generalize toB (W06 c xs qs) = T at *
      have HT := Lib.hid cT2
      have HP3 := Lib.hid cP3
      have HSA : Hid (∀ P1 Q1 P2 Q2 cp1 cq1 cp2 cq2 W, Reads W 1 P1 np (xs.map .string) → Reads W 2 Q1 nq (pairCells qs) → Reads W 1 P2 np (xs.map .string) → Reads W 2 Q2 nq (pairCells qs) → Calls Tryz.prog 18 #[.agg #[.string c, .slice P1 np cp1, .slice Q1 nq cq1], .agg #[.string c, .slice P2 np cp2, .slice Q2 nq cq2]] W (Ret W (.bool true))) := Lib.hid (fun P1 Q1 P2 Q2 cp1 cq1 cp2 cq2 W h1 h2 h3 h4 => same_eq c P1 Q1 P2 Q2 np cp1 nq cq1 cp2 cq2 xs qs W h1 h2 h3 h4 (by omega) (by omega))
      clear cT HT0 HSA0 hF hfi hwr hTz cP3 cT2
      go_wp2_with (first | (go_at_call 14; refine (HT.out _ (HPR.out.keep (by (repeat (first | exact Below.refl _ _ | assumption | refine Below.drew ?_ | refine balloc ?_ _ | refine bdrewN ?_ _ | refine Below.setCell ?_ (by first | (simp; done) | (simp; omega)) _ | refine bstep ?_ (by assumption))))) (HQR.out.keep (by (repeat (first | exact Below.refl _ _ | assumption | refine Below.drew ?_ | refine balloc ?_ _ | refine bdrewN ?_ _ | refine Below.setCell ?_ (by first | (simp; done) | (simp; omega)) _ | refine bstep ?_ (by assumption)))))).mono ?_; rintro e wt ⟨rfl, hbt⟩) | (go_at_call 12; refine (HP3.out _ (Env.keep HE.out (by (repeat (first | exact Below.refl _ _ | assumption | refine Below.drew ?_ | refine balloc ?_ _ | refine bdrewN ?_ _ | refine Below.setCell ?_ (by first | (simp; done) | (simp; omega)) _ | refine bstep ?_ (by assumption)))))).mono ?_; rintro e wp ⟨hbp, A3, ca3, B3, cb3, rfl, hA3, hB3⟩; have hXp : Boxed3 wp w.heap.size c P np cp Q nq cq := Blk.keep hXc (by (repeat (first | exact Below.refl _ _ | assumption | refine Below.drew ?_ | refine balloc ?_ _ | refine bdrewN ?_ _ | refine Below.setCell ?_ (by first | (simp; done) | (simp; omega)) _ | refine bstep ?_ (by assumption))))) | (go_at_call 11; refine (HS.out _ (Env.keep HE.out (by (repeat (first | exact Below.refl _ _ | assumption | refine Below.drew ?_ | refine balloc ?_ _ | refine bdrewN ?_ _ | refine Below.setCell ?_ (by first | (simp; done) | (simp; omega)) _ | refine bstep ?_ (by assumption)))))).mono ?_; rintro e ws ⟨rfl, hbs⟩; have hXs : Boxed3 ws w.heap.size c P np cp Q nq cq := Blk.keep hXp (by (repeat (first | exact Below.refl _ _ | assumption | refine Below.drew ?_ | refine balloc ?_ _ | refine bdrewN ?_ _ | refine Below.setCell ?_ (by first | (simp; done) | (simp; omega)) _ | refine bstep ?_ (by assumption)))); have hZs : Boxed3 ws wp.heap.size c A3 np ca3 B3 nq cb3 := (hbs.block wp.heap.size (by simp)).trans (World.alloc_heap_new _ _); clear x0 x1 x2; have x0 : ws.cell? ⟨w.heap.size, 0, none⟩ = some (.string c) := Blk.cell hXs 0; have x1 : ws.cell? ⟨w.heap.size, 1, none⟩ = some (.slice P np cp) := Blk.cell hXs 1; have x2 : ws.cell? ⟨w.heap.size, 2, none⟩ = some (.slice Q nq cq) := Blk.cell hXs 2; have y0 : ws.cell? ⟨wp.heap.size, 0, none⟩ = some (.string c) := Blk.cell hZs 0; have y1 : ws.cell? ⟨wp.heap.size, 1, none⟩ = some (.slice A3 np ca3) := Blk.cell hZs 1; have y2 : ws.cell? ⟨wp.heap.size, 2, none⟩ = some (.slice B3 nq cb3) := Blk.cell hZs 2) | (go_at_call 18; refine (HSA.out _ _ _ _ _ _ _ _ _ (HPR.out.keep (by (repeat (first | exact Below.refl _ _ | assumption | refine Below.drew ?_ | refine balloc ?_ _ | refine bdrewN ?_ _ | refine Below.setCell ?_ (by first | (simp; done) | (simp; omega)) _ | refine bstep ?_ (by assumption))))) (HQR.out.keep (by (repeat (first | exact Below.refl _ _ | assumption | refine Below.drew ?_ | refine balloc ?_ _ | refine bdrewN ?_ _ | refine Below.setCell ?_ (by first | (simp; done) | (simp; omega)) _ | refine bstep ?_ (by assumption))))) (hA3.keep (by (repeat (first | exact Below.refl _ _ | assumption | refine Below.drew ?_ | refine balloc ?_ _ | refine bdrewN ?_ _ | refine Below.setCell ?_ (by first | (simp; done) | (simp; omega)) _ | refine bstep ?_ (by assumption))))) (hB3.keep (by (repeat (first | exact Below.refl _ _ | assumption | refine Below.drew ?_ | refine balloc ?_ _ | refine bdrewN ?_ _ | refine Below.setCell ?_ (by first | (simp; done) | (simp; omega)) _ | refine bstep ?_ (by assumption)))))).mono ?_; rintro e wz ⟨rfl, hbz⟩))
      go_ret
      exact ⟨rfl, by (repeat (first | exact Below.refl _ _ | assumption | refine Below.drew ?_ | refine balloc ?_ _ | refine bdrewN ?_ _ | refine Below.setCell ?_ (by first | (simp; done) | (simp; omega)) _ | refine bstep ?_ (by assumption)))⟩

end Go.Proofs.YtiglpecjpncclaaGreatDoor
