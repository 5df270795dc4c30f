/- What AddressPrefixesNest returns: true. -/
import Derived.Test.YtiglpecjpncclaaGreatDoorLawC
import Derived.Test.YtiglpecjpncclaaGreatDoorPlainU
import Derived.Deep.DeepCutAuto
import Derived.Test.YtiglpecjpncclaaGreatDoorProg
import Derived.WalkKit
import Derived.WalkSpells
import Derived.WalkLawsBesides
import Derived.Below
import Derived.Deep.QuietTactic
import Derived.BigQuiet
import Derived.Lib.QuietBelow
import Derived.Lib.Strings
import Derived.Lib.Hide
import Derived.Deep.RegionWith
import Derived.Deep.RegionHeld3
import Derived.Lib.IndexBytes
namespace Go.Proofs.YtiglpecjpncclaaGreatDoor
open Go.RowKit Go.Sort
set_option linter.unusedVariables false
set_option linter.unusedSimpArgs false
set_option maxRecDepth 100000
/-- The box of an address. -/
def ABox (w : World) (g : Nat) (c : ByteArray) (P : Option Addr) (np cp : Nat) (Q : Option Addr) (nq cq : Nat) : Prop := Blk w g 25 #[.string c, .slice P np cp, .slice Q nq cq] (0, 0)
theorem reads_take {w : World} {A : Option Addr} {n k : Nat} {ps : List ByteArray} (h : Reads w 1 A n (ps.map .string)) (hk : k ≤ n) : Reads w 1 A k ((ps.take k).map .string) := by
  have hl : ps.length = n := by have := h.1; simpa using this
  refine ⟨by simp; omega, fun h0 => ?_⟩
  obtain ⟨b, o, he, hc⟩ := h.2 (by omega)
  refine ⟨b, o, he, fun j u hu => hc j u ?_⟩
  rw [List.map_take, List.getElem?_take] at hu
  split at hu
  · exact hu
  · cases hu
set_option maxHeartbeats 4000000 in
theorem lawPrefixes (s o : ByteArray) (w : World) (hs : s.size ≤ 9223372036854775807) (ho : o.size ≤ 9223372036854775807) (hE : Env w) :
    Calls Tryz.prog 6 #[.string s, .string o] w (Ret w (.bool true)) := by
  have HS := Lib.hid (fun W h => sanity_any W h)
  have HE := Lib.hid hE
  clear hE
  by_cases h1 : s.size ≤ 4096
  rotate_left
  · have d1 : decide ((4096 : Int) < (s.size : Int)) = true := decide_eq_true (by omega)
    go_enter Tryz.func6, Tryz.ntmps6
    go_wp2_with (go_at_call 11; refine (HS.out _ (Env.keep HE.out (by (repeat (first | exact Below.refl _ _ | assumption | refine Below.drew ?_ | refine balloc ?_ _ | refine bdrewN ?_ _ | refine Below.setCell ?_ (by first | (simp; done) | (simp; omega)) _ | refine bstep ?_ (by assumption)))))).mono ?_; rintro e ws ⟨rfl, hbs⟩)
    go_ret
    exact ⟨rfl, by (repeat (first | exact Below.refl _ _ | assumption | refine Below.drew ?_ | refine balloc ?_ _ | refine bdrewN ?_ _ | refine Below.setCell ?_ (by first | (simp; done) | (simp; omega)) _ | refine bstep ?_ (by assumption)))⟩
  have d1 : decide ((4096 : Int) < (s.size : Int)) = false := decide_eq_false (by omega)
  by_cases h2 : o.size ≤ 4096
  rotate_left
  · have d2 : decide ((4096 : Int) < (o.size : Int)) = true := decide_eq_true (by omega)
    go_enter Tryz.func6, Tryz.ntmps6
    go_wp2_with (go_at_call 11; refine (HS.out _ (Env.keep HE.out (by (repeat (first | exact Below.refl _ _ | assumption | refine Below.drew ?_ | refine balloc ?_ _ | refine bdrewN ?_ _ | refine Below.setCell ?_ (by first | (simp; done) | (simp; omega)) _ | refine bstep ?_ (by assumption)))))).mono ?_; rintro e ws ⟨rfl, hbs⟩)
    go_ret
    exact ⟨rfl, by (repeat (first | exact Below.refl _ _ | assumption | refine Below.drew ?_ | refine balloc ?_ _ | refine bdrewN ?_ _ | refine Below.setCell ?_ (by first | (simp; done) | (simp; omega)) _ | refine bstep ?_ (by assumption)))⟩
  have d2 : decide ((4096 : Int) < (o.size : Int)) = false := decide_eq_false (by omega)
  have cP := fun W h => parse_any s W (by omega) h
  have cC := fun W h => canonical_any s W (by omega) h
  have he := parse_errno s
  have hg := parse_good s
  unfold canonV at cC
  generalize parseB s = r at *
  obtain ⟨⟨c, ps, qs⟩, er⟩ := r
  dsimp only at *
  have hbad : ∀ V : ByteArray × Int, (er ≠ 0 ∨ V.2 ≠ 0 ∨ (V.1.toList == s.toList) = false ∨ qs ≠ []) → (∀ W, Env W → Calls Tryz.prog 13 #[.string s] W (Ret W (.tuple #[.string V.1, .int .i64 V.2]))) → Calls Tryz.prog 6 #[.string s, .string o] w (Ret w (.bool true)) := by
    rintro ⟨T, f⟩ hbad cC
    dsimp only at *
    have HP := Lib.hid cP
    have HC := Lib.hid cC
    clear cP cC he hg
    by_cases e1 : er = 0
    rotate_left
    · have b1 : (er != 0) = true := bne_iff_ne.2 e1
      clear hbad e1
      go_enter Tryz.func6, Tryz.ntmps6
      go_wp2_with (first | (go_at_call 11; refine (HS.out _ (Env.keep HE.out (by (repeat (first | exact Below.refl _ _ | assumption | refine Below.drew ?_ | refine balloc ?_ _ | refine bdrewN ?_ _ | refine Below.setCell ?_ (by first | (simp; done) | (simp; omega)) _ | refine bstep ?_ (by assumption)))))).mono ?_; rintro e ws ⟨rfl, hbs⟩) | (go_at_call 12; refine (HP.out _ (Env.keep HE.out (by (repeat (first | exact Below.refl _ _ | assumption | refine Below.drew ?_ | refine balloc ?_ _ | refine bdrewN ?_ _ | refine Below.setCell ?_ (by first | (simp; done) | (simp; omega)) _ | refine bstep ?_ (by assumption)))))).mono ?_; rintro e w1 ⟨hb1, A, ca, B, cb, rfl, hA, hB, hAb, hBb, hcap⟩) | (go_at_call 13; refine (HC.out _ (Env.keep HE.out (by (repeat (first | exact Below.refl _ _ | assumption | refine Below.drew ?_ | refine balloc ?_ _ | refine bdrewN ?_ _ | refine Below.setCell ?_ (by first | (simp; done) | (simp; omega)) _ | refine bstep ?_ (by assumption)))))).mono ?_; rintro e w2 ⟨rfl, hb2⟩; obtain ⟨hc2, hf2⟩ := bcell hb2; have hz12 : w1.heap.size < w2.heap.size := (by have := hb2.size; simp at this; omega)))
      go_ret
      exact ⟨rfl, by (repeat (first | exact Below.refl _ _ | assumption | refine Below.drew ?_ | refine balloc ?_ _ | refine bdrewN ?_ _ | refine Below.setCell ?_ (by first | (simp; done) | (simp; omega)) _ | refine bstep ?_ (by assumption)))⟩
    subst e1
    by_cases e2 : f = 0
    rotate_left
    · have b2 : (f != 0) = true := bne_iff_ne.2 e2
      clear hbad e2
      go_enter Tryz.func6, Tryz.ntmps6
      go_wp2_with (first | (go_at_call 11; refine (HS.out _ (Env.keep HE.out (by (repeat (first | exact Below.refl _ _ | assumption | refine Below.drew ?_ | refine balloc ?_ _ | refine bdrewN ?_ _ | refine Below.setCell ?_ (by first | (simp; done) | (simp; omega)) _ | refine bstep ?_ (by assumption)))))).mono ?_; rintro e ws ⟨rfl, hbs⟩) | (go_at_call 12; refine (HP.out _ (Env.keep HE.out (by (repeat (first | exact Below.refl _ _ | assumption | refine Below.drew ?_ | refine balloc ?_ _ | refine bdrewN ?_ _ | refine Below.setCell ?_ (by first | (simp; done) | (simp; omega)) _ | refine bstep ?_ (by assumption)))))).mono ?_; rintro e w1 ⟨hb1, A, ca, B, cb, rfl, hA, hB, hAb, hBb, hcap⟩) | (go_at_call 13; refine (HC.out _ (Env.keep HE.out (by (repeat (first | exact Below.refl _ _ | assumption | refine Below.drew ?_ | refine balloc ?_ _ | refine bdrewN ?_ _ | refine Below.setCell ?_ (by first | (simp; done) | (simp; omega)) _ | refine bstep ?_ (by assumption)))))).mono ?_; rintro e w2 ⟨rfl, hb2⟩; obtain ⟨hc2, hf2⟩ := bcell hb2; have hz12 : w1.heap.size < w2.heap.size := (by have := hb2.size; simp at this; omega)))
      go_ret
      exact ⟨rfl, by (repeat (first | exact Below.refl _ _ | assumption | refine Below.drew ?_ | refine balloc ?_ _ | refine bdrewN ?_ _ | refine Below.setCell ?_ (by first | (simp; done) | (simp; omega)) _ | refine bstep ?_ (by assumption)))⟩
    subst e2
    cases hq : (T.toList == s.toList)
    · have b3 : (T.toList != s.toList) = true := by rw [bne, hq]; rfl
      have b5 : ¬ T.toList = s.toList := by simpa using hq
      clear hbad
      go_enter Tryz.func6, Tryz.ntmps6
      go_wp2_with (first | (go_at_call 11; refine (HS.out _ (Env.keep HE.out (by (repeat (first | exact Below.refl _ _ | assumption | refine Below.drew ?_ | refine balloc ?_ _ | refine bdrewN ?_ _ | refine Below.setCell ?_ (by first | (simp; done) | (simp; omega)) _ | refine bstep ?_ (by assumption)))))).mono ?_; rintro e ws ⟨rfl, hbs⟩) | (go_at_call 12; refine (HP.out _ (Env.keep HE.out (by (repeat (first | exact Below.refl _ _ | assumption | refine Below.drew ?_ | refine balloc ?_ _ | refine bdrewN ?_ _ | refine Below.setCell ?_ (by first | (simp; done) | (simp; omega)) _ | refine bstep ?_ (by assumption)))))).mono ?_; rintro e w1 ⟨hb1, A, ca, B, cb, rfl, hA, hB, hAb, hBb, hcap⟩) | (go_at_call 13; refine (HC.out _ (Env.keep HE.out (by (repeat (first | exact Below.refl _ _ | assumption | refine Below.drew ?_ | refine balloc ?_ _ | refine bdrewN ?_ _ | refine Below.setCell ?_ (by first | (simp; done) | (simp; omega)) _ | refine bstep ?_ (by assumption)))))).mono ?_; rintro e w2 ⟨rfl, hb2⟩; obtain ⟨hc2, hf2⟩ := bcell hb2; have hz12 : w1.heap.size < w2.heap.size := (by have := hb2.size; simp at this; omega)))
      go_ret
      exact ⟨rfl, by (repeat (first | exact Below.refl _ _ | assumption | refine Below.drew ?_ | refine balloc ?_ _ | refine bdrewN ?_ _ | refine Below.setCell ?_ (by first | (simp; done) | (simp; omega)) _ | refine bstep ?_ (by assumption)))⟩
    · have hTs := (beq_bytes T s).1 hq
      have hql : 0 < qs.length := by
        rcases hbad with h | h | h | h
        · exact absurd rfl h
        · exact absurd rfl h
        · rw [hq] at h; cases h
        · exact List.length_pos_iff.2 h
      have b4 : decide ((0 : Int) < (qs.length : Int)) = true := decide_eq_true (by omega)
      have b5 : decide (0 < qs.length) = true := decide_eq_true hql
      clear hbad hq
      subst hTs
      go_enter Tryz.func6, Tryz.ntmps6
      go_wp2_with (first | (go_at_call 11; refine (HS.out _ (Env.keep HE.out (by (repeat (first | exact Below.refl _ _ | assumption | refine Below.drew ?_ | refine balloc ?_ _ | refine bdrewN ?_ _ | refine Below.setCell ?_ (by first | (simp; done) | (simp; omega)) _ | refine bstep ?_ (by assumption)))))).mono ?_; rintro e ws ⟨rfl, hbs⟩) | (go_at_call 12; refine (HP.out _ (Env.keep HE.out (by (repeat (first | exact Below.refl _ _ | assumption | refine Below.drew ?_ | refine balloc ?_ _ | refine bdrewN ?_ _ | refine Below.setCell ?_ (by first | (simp; done) | (simp; omega)) _ | refine bstep ?_ (by assumption)))))).mono ?_; rintro e w1 ⟨hb1, A, ca, B, cb, rfl, hA, hB, hAb, hBb, hcap⟩) | (go_at_call 13; refine (HC.out _ (Env.keep HE.out (by (repeat (first | exact Below.refl _ _ | assumption | refine Below.drew ?_ | refine balloc ?_ _ | refine bdrewN ?_ _ | refine Below.setCell ?_ (by first | (simp; done) | (simp; omega)) _ | refine bstep ?_ (by assumption)))))).mono ?_; rintro e w2 ⟨rfl, hb2⟩; obtain ⟨hc2, hf2⟩ := bcell hb2; have hz12 : w1.heap.size < w2.heap.size := (by have := hb2.size; simp at this; omega)))
      go_ret
      exact ⟨rfl, by (repeat (first | exact Below.refl _ _ | assumption | refine Below.drew ?_ | refine balloc ?_ _ | refine bdrewN ?_ _ | refine Below.setCell ?_ (by first | (simp; done) | (simp; omega)) _ | refine bstep ?_ (by assumption)))⟩
  rcases he with rfl | rfl | rfl
  rotate_left
  · exact hbad (⟨#[]⟩, 2) (.inl (by decide)) (fun W h => cC W h)
  · exact hbad (⟨#[]⟩, 3) (.inl (by decide)) (fun W h => cC W h)
  rw [if_pos rfl] at cC
  have hg := hg rfl
  unfold textV at cC
  cases hF : formedB c ps qs
  · rw [hF] at cC
    exact hbad (⟨#[]⟩, 1) (.inr (.inl (by decide))) (fun W h => cC W h)
  rw [hF] at cC
  simp only [if_true] at cC
  cases hq : ((toB (W06 c ps qs)).toList == s.toList)
  · exact hbad (toB (W06 c ps qs), 0) (.inr (.inr (.inl hq))) (fun W h => cC W h)
  cases qs with
  | cons q qs => exact hbad (toB (W06 c ps (q :: qs)), 0) (.inr (.inr (.inr (by simp)))) (fun W h => cC W h)
  | nil =>
  clear hbad
  have hse : s = joinS (c :: ps) := by rw [joinS_write]; exact ((beq_bytes _ _).1 hq).symm
  have hc := hg.name
  have hw := hg.words
  have hn := hg.parts
  dsimp only at hc hw hn
  have cC2 : ∀ W, Env W → Calls Tryz.prog 13 #[.string s] W (Ret W (.tuple #[.string s, .int .i64 0])) := fun W h => by
    have := cC W h
    rw [show (⟨(W06 c ps []).toArray⟩ : ByteArray) = s from (beq_bytes _ _).1 hq] at this
    exact this
  have HP := Lib.hid cP
  have HC := Lib.hid cC2
  obtain ⟨np, hnp⟩ : ∃ np, np = ps.length := ⟨_, rfl⟩
  have cT : ∀ k, k ≤ np → ∀ A ca W, Reads W 1 A k ((ps.take k).map .string) → Calls Tryz.prog 14 #[.agg #[.string c, .slice A k ca, .slice none 0 0]] W (Ret W (.tuple #[.string (partT c ps k), .int .i64 0])) := fun k hk A ca W h => by
    rw [← text_part hc hw hn k]
    have hsh := adr_short (c := c) (ws := ps.take k) hc (fun w h => hw w (List.mem_of_mem_take h)) (by rw [List.length_take]; omega)
    exact text_any c A none k ca 0 0 (ps.take k) [] W h (Reads.nil_ _ _ _) (by omega)
  have hpz : ∀ k, (partT c ps k).size ≤ 4096 := fun k => by
    have hsh := adr_short (c := c) (ws := ps.take k) hc (fun w h => hw w (List.mem_of_mem_take h)) (by rw [List.length_take]; omega)
    unfold partT
    rw [joinS_write, size_data]
    exact hsh
  have cU1 : ∀ k, ∀ W, Env W → Calls Tryz.prog 26 #[.string (partT c ps k), .string s] W (Ret W (.bool true)) := fun k W h => by
    have := under_any (partT c ps k) s W (by have := hpz k; omega) (by omega) h
    rw [show underB (partT c ps k) s = true by rw [hse]; exact under_part hc hw hn k] at this
    exact this
  have cU2 : ∀ k, k ≤ np → ∀ W, Env W → Calls Tryz.prog 26 #[.string s, .string (partT c ps k)] W (Ret W (.bool (k == np))) := fun k hk W h => by
    have := under_any s (partT c ps k) W (by omega) (by have := hpz k; omega) h
    rw [show underB s (partT c ps k) = (k == np) by rw [hse, hnp]; exact under_back hc hw hn k (by omega)] at this
    exact this
  have cU3 := fun W h => under_any s o W (by omega) (by omega) h
  have cU4 := fun k W h => under_any (partT c ps k) o W (by have := hpz k; omega) (by omega) h
  have himp : ∀ k, underB s o = true → underB (partT c ps k) o = true := fun k h => under_trans hc hw hn k o (by rw [← hse]; exact h)
  generalize underB s o = u at *
  have HT := Lib.hid cT
  have HU1 := Lib.hid cU1
  have HU2 := Lib.hid cU2
  have HU3 := Lib.hid cU3
  have HU4 := Lib.hid cU4
  have HIM := Lib.hid himp
  have HP2 : Hid (∀ W, Env W → Calls Tryz.prog 12 #[.string s] W fun e w' => Below W.heap.size W w' ∧ ∃ A ca B cb, e = .returned (.tuple #[.agg #[.string c, .slice A np ca, .slice B 0 cb], .int .i64 0]) ∧ Reads w' 1 A np (ps.map .string) ∧ np ≤ ca) := Lib.hid (fun W h => by
    rw [hnp]
    exact (HP.out W h).mono (by rintro e w' ⟨hb, A, ca, B, cb, rfl, hA, _, _, _, hc⟩; exact ⟨hb, A, ca, B, cb, rfl, hA, hc⟩))
  have hnp9 : np ≤ 32 := by omega
  clear cP cC cC2 HP hg hF hq hse hc hw hn hnp cT hpz cU1 cU2 cU3 cU4 himp
  go_enter Tryz.func6, Tryz.ntmps6
  go_wp2_with (first | (go_at_call 11; refine (HS.out _ (Env.keep HE.out (by (repeat (first | exact Below.refl _ _ | assumption | refine Below.drew ?_ | refine balloc ?_ _ | refine bdrewN ?_ _ | refine Below.setCell ?_ (by first | (simp; done) | (simp; omega)) _ | refine bstep ?_ (by assumption)))))).mono ?_; rintro e ws ⟨rfl, hbs⟩) | (go_at_call 12; refine (HP2.out _ (Env.keep HE.out (by (repeat (first | exact Below.refl _ _ | assumption | refine Below.drew ?_ | refine balloc ?_ _ | refine bdrewN ?_ _ | refine Below.setCell ?_ (by first | (simp; done) | (simp; omega)) _ | refine bstep ?_ (by assumption)))))).mono ?_; rintro e w1 ⟨hb1, A, ca, B, cb, rfl, hA, hcap⟩) | (go_at_call 13; refine (HC.out _ (Env.keep HE.out (by (repeat (first | exact Below.refl _ _ | assumption | refine Below.drew ?_ | refine balloc ?_ _ | refine bdrewN ?_ _ | refine Below.setCell ?_ (by first | (simp; done) | (simp; omega)) _ | refine bstep ?_ (by assumption)))))).mono ?_; rintro e w2 ⟨rfl, hb2⟩; obtain ⟨hc2, hf2⟩ := bcell hb2; have hz12 : w1.heap.size < w2.heap.size := (by have := hb2.size; simp at this; omega)))
  have hX2 : ABox w2 w1.heap.size c A np ca B 0 cb := (hb2.block w1.heap.size (by simp)).trans (World.alloc_heap_new _ _)
  clear hc2 hf2
  go_loopw [9] (fun vi wr => ∃ k : Nat, (vi = .int .i64 k ∧ k ≤ np + 1) ∧ Below w2.heap.size w2 wr) (fun vi _ => np + 1 - (intOf vi).toNat)
  case atStart => exact ⟨0, ⟨rfl, by omega⟩, Below.refl _ _⟩
  case round =>
    obtain ⟨k, ⟨rfl, hk⟩, hbr⟩ := hrel
    have hX : ABox wr w1.heap.size c A np ca B 0 cb := Blk.keep hX2 hbr
    have x0 : wr.cell? ⟨w1.heap.size, 0, none⟩ = some (.string c) := Blk.cell hX 0
    have x1 : wr.cell? ⟨w1.heap.size, 1, none⟩ = some (.slice A np ca) := Blk.cell hX 1
    have hbw : Below w.heap.size w wr := bstep (bstep (balloc hb1 _) hb2) hbr
    have hAr : Reads wr 1 A np (ps.map .string) := (hA.keep (blater _ hb2)).keep hbr
    have HAR := Lib.hid hAr
    have HX := Lib.hid hX
    clear hAr hX
    by_cases hkn : k ≤ np
    · have hd : decide (k ≤ np) = true := decide_eq_true hkn
      go_upto_region 10 with fail
      go_cut [10, 11] (fun s10 s11 wx => s10 = .string (partT c ps k) ∧ s11 = .int .i64 0 ∧ Below wr.heap.size wr wx)
      case first =>
        have k0 := cell_regrown x0; have k1 := cell_regrown x1
        have hk0 : (0 : Int) ≤ (k : Int) := by omega
        have hk1 : (k : Int) ≤ (ca : Int) := by omega
        have HQ := Lib.hid (fun W (hW : Below wr.heap.size wr W) => HT.out k hkn A ca W (reads_take (HAR.out.keep hW) hkn))
        refine wp_region_quiet_below (by kernel_rfl) (by kernel_rfl) ?_; (repeat (any_goals (first | go_big_quiet_step ((first | exact qcalls2 HQ.out _ _)) | quiet_step ((first | exact qcalls2 HQ.out _ _))))); refine wpQuiet_nil ?_; intro _ hwq; obtain ⟨⟨dq, osq⟩, hwq⟩ := hwq; subst hwq; have hb3 := below_regrown (wr) dq osq; generalize grow (redrawn (wr) dq) osq = w3 at *
        go_wp2_with fail
        go_meet
        exact ⟨rfl, rfl, hb3⟩
      case rest =>
        obtain ⟨rfl, rfl, hb3⟩ := hcut
        have hXc : ABox wc w1.heap.size c A np ca B 0 cb := Blk.keep HX.out hb3
        clear x0 x1
        have x1 : wc.cell? ⟨w1.heap.size, 1, none⟩ = some (.slice A np ca) := Blk.cell hXc 1
        have hbc : Below w.heap.size w wc := bstep hbw hb3
        have hu2 := HU2.out k hkn
        have q1 := fun W (hW : Below wc.heap.size wc W) => HU1.out k W (HE.out.keep (bstep hbc hW))
        have q3 := fun W (hW : Below wc.heap.size wc W) => HU3.out W (HE.out.keep (bstep hbc hW))
        have q4 := fun W (hW : Below wc.heap.size wc W) => HU4.out k W (HE.out.keep (bstep hbc hW))
        have him := HIM.out k
        generalize underB (partT c ps k) o = v at *
        generalize partT c ps k = t at *
        have q2 := fun W (hW : Below wc.heap.size wc W) => hu2 W (HE.out.keep (bstep hbc hW))
        have Q1 := Lib.hid q1; have Q3 := Lib.hid q3; have Q4 := Lib.hid q4
        have k1 := cell_regrown x1
        clear hXc q1 q3 q4 hu2
        by_cases hkk : k = np
        · have e1 : (k == np) = true := by rw [beq_iff_eq]; exact hkk
          rw [e1] at q2
          have Q2 := Lib.hid q2
          have e2 : ((k : Int) == (np : Int)) = true := by rw [beq_iff_eq]; omega
          clear q2
          cases u
          · go_wp2_with fail
            refine wp_region_quiet_below (by kernel_rfl) (by kernel_rfl) ?_; (repeat (any_goals (first | go_big_quiet_step ((first | first | (with_reducible exact qcalls2 Q1.out _ _) | (with_reducible exact qcalls2 Q2.out _ _) | (with_reducible exact qcalls2 Q3.out _ _) | (with_reducible exact qcalls2 Q4.out _ _))) | quiet_step ((first | first | (with_reducible exact qcalls2 Q1.out _ _) | (with_reducible exact qcalls2 Q2.out _ _) | (with_reducible exact qcalls2 Q3.out _ _) | (with_reducible exact qcalls2 Q4.out _ _)))))); refine wpQuiet_nil ?_; intro _ hwq; obtain ⟨⟨dq, osq⟩, hwq⟩ := hwq; subst hwq; have hb4 := below_regrown (wc) dq osq; generalize grow (redrawn (wc) dq) osq = w4 at *
            go_wp2_with fail
            exact ⟨⟨k + 1, ⟨by go_num, by omega⟩, bstep (bstep hbr hb3) hb4⟩, by simp [intOf]; omega⟩
          · obtain rfl : v = true := him rfl
            go_wp2_with fail
            refine wp_region_quiet_below (by kernel_rfl) (by kernel_rfl) ?_; (repeat (any_goals (first | go_big_quiet_step ((first | first | (with_reducible exact qcalls2 Q1.out _ _) | (with_reducible exact qcalls2 Q2.out _ _) | (with_reducible exact qcalls2 Q3.out _ _) | (with_reducible exact qcalls2 Q4.out _ _))) | quiet_step ((first | first | (with_reducible exact qcalls2 Q1.out _ _) | (with_reducible exact qcalls2 Q2.out _ _) | (with_reducible exact qcalls2 Q3.out _ _) | (with_reducible exact qcalls2 Q4.out _ _)))))); refine wpQuiet_nil ?_; intro _ hwq; obtain ⟨⟨dq, osq⟩, hwq⟩ := hwq; subst hwq; have hb4 := below_regrown (wc) dq osq; generalize grow (redrawn (wc) dq) osq = w4 at *
            go_wp2_with fail
            exact ⟨⟨k + 1, ⟨by go_num, by omega⟩, bstep (bstep hbr hb3) hb4⟩, by simp [intOf]; omega⟩
        · have e1 : (k == np) = false := beq_eq_false_iff_ne.2 hkk
          rw [e1] at q2
          have Q2 := Lib.hid q2
          have e2 : ((k : Int) == (np : Int)) = false := beq_eq_false_iff_ne.2 (by omega)
          clear q2
          cases u
          · go_wp2_with fail
            refine wp_region_quiet_below (by kernel_rfl) (by kernel_rfl) ?_; (repeat (any_goals (first | go_big_quiet_step ((first | first | (with_reducible exact qcalls2 Q1.out _ _) | (with_reducible exact qcalls2 Q2.out _ _) | (with_reducible exact qcalls2 Q3.out _ _) | (with_reducible exact qcalls2 Q4.out _ _))) | quiet_step ((first | first | (with_reducible exact qcalls2 Q1.out _ _) | (with_reducible exact qcalls2 Q2.out _ _) | (with_reducible exact qcalls2 Q3.out _ _) | (with_reducible exact qcalls2 Q4.out _ _)))))); refine wpQuiet_nil ?_; intro _ hwq; obtain ⟨⟨dq, osq⟩, hwq⟩ := hwq; subst hwq; have hb4 := below_regrown (wc) dq osq; generalize grow (redrawn (wc) dq) osq = w4 at *
            go_wp2_with fail
            exact ⟨⟨k + 1, ⟨by go_num, by omega⟩, bstep (bstep hbr hb3) hb4⟩, by simp [intOf]; omega⟩
          · obtain rfl : v = true := him rfl
            go_wp2_with fail
            refine wp_region_quiet_below (by kernel_rfl) (by kernel_rfl) ?_; (repeat (any_goals (first | go_big_quiet_step ((first | first | (with_reducible exact qcalls2 Q1.out _ _) | (with_reducible exact qcalls2 Q2.out _ _) | (with_reducible exact qcalls2 Q3.out _ _) | (with_reducible exact qcalls2 Q4.out _ _))) | quiet_step ((first | first | (with_reducible exact qcalls2 Q1.out _ _) | (with_reducible exact qcalls2 Q2.out _ _) | (with_reducible exact qcalls2 Q3.out _ _) | (with_reducible exact qcalls2 Q4.out _ _)))))); refine wpQuiet_nil ?_; intro _ hwq; obtain ⟨⟨dq, osq⟩, hwq⟩ := hwq; subst hwq; have hb4 := below_regrown (wc) dq osq; generalize grow (redrawn (wc) dq) osq = w4 at *
            go_wp2_with fail
            exact ⟨⟨k + 1, ⟨by go_num, by omega⟩, bstep (bstep hbr hb3) hb4⟩, by simp [intOf]; omega⟩
    · obtain rfl : k = np + 1 := by omega
      have hd : decide (np + 1 ≤ np) = false := decide_eq_false (by omega)
      go_wp2_with (go_at_call 11; refine (HS.out _ (Env.keep HE.out (by (repeat (first | exact Below.refl _ _ | assumption | refine Below.drew ?_ | refine balloc ?_ _ | refine bdrewN ?_ _ | refine Below.setCell ?_ (by first | (simp; done) | (simp; omega)) _ | refine bstep ?_ (by assumption)))))).mono ?_; rintro e ws ⟨rfl, hbs⟩)
      go_ret
      exact ⟨rfl, by (repeat (first | exact Below.refl _ _ | assumption | refine Below.drew ?_ | refine balloc ?_ _ | refine bdrewN ?_ _ | refine Below.setCell ?_ (by first | (simp; done) | (simp; omega)) _ | refine bstep ?_ (by assumption)))⟩

end Go.Proofs.YtiglpecjpncclaaGreatDoor
