/- What 'Canonical' and 'read' return. -/
import Derived.Test.YtocgkpdolgnbgaaGreatDoorHParseL
import Derived.Test.YtocgkpdolgnbgaaGreatDoorProg
import Derived.WalkKit
import Derived.WalkSpells
import Derived.WalkLawsBesides
import Derived.Below
import Derived.Deep.QuietTactic
import Derived.BigQuiet
import Derived.Lib.QuietBelow
import Derived.Lib.Strings
import Derived.Lib.Hide
import Derived.Deep.RegionWith
import Derived.Deep.RegionHeld3
import Derived.Lib.IndexBytes
namespace Go.Proofs.YtocgkpdolgnbgaaGreatDoor
open Go.RowKit Go.Sort
set_option linter.unusedVariables false
set_option linter.unusedSimpArgs false
set_option maxRecDepth 100000
def canonV (s : ByteArray) : Value := if (parseB s).2 = 0 then textV (parseB s).1.cust (parseB s).1.path (parseB s).1.query else .tuple #[.string ⟨#[]⟩, .int .i64 (parseB s).2]
set_option maxHeartbeats 2000000 in
theorem canonical_any (s : ByteArray) (w : World) (hs : s.size ≤ 4294967281) (hE : Env w) : Calls Tryz.prog 79 #[.string s] w (Ret w (canonV s)) := by
  have cP := parse_any s w hs hE
  have he := parse_errno s
  have hbd := parse_bound s
  unfold canonV
  generalize parseB s = r at *
  obtain ⟨⟨c, ps, qs⟩, er⟩ := r
  dsimp only at he hbd ⊢
  have HP := Lib.hid cP
  have HB := Lib.hid hbd
  clear cP hbd
  rcases he with rfl | rfl | rfl
  · simp only [if_true]
    generalize hv : textV c ps qs = V
    have cT : ∀ A ca B cb W, Reads W 1 A ps.length (ps.map .string) → Reads W 2 B qs.length (pairCells qs) → Calls Tryz.prog 119 #[.agg #[.string c, .slice A ps.length ca, .slice B qs.length cb]] W (Ret W V) := fun A ca B cb W h1 h2 => by
      rw [← hv]
      exact text_any c A B ps.length ca qs.length cb ps qs W h1 h2 (by have := HB.out; omega)
    have HT := Lib.hid cT
    obtain ⟨x, y, hxy⟩ : ∃ x y, V = .tuple #[.string x, .int .i64 y] := by
      rw [← hv]; unfold textV; split <;> exact ⟨_, _, rfl⟩
    clear cT hv
    subst hxy
    go_enter Tryz.func79, Tryz.ntmps79
    go_wp2_with (first | (go_at_call 118; refine HP.out.mono ?_; rintro e w1 ⟨hb1, A, ca, B, cb, rfl, hA, hB, _, _⟩) | (go_at_call 119; refine (HT.out _ _ _ _ _ ?_ ?_).mono ?_; exact hA.keep (by (repeat (first | exact .refl _ _ | assumption | refine .drew ?_ | refine balloc ?_ _ | refine bdrewN ?_ _ | refine .setCell ?_ (by simp <;> omega) _ | refine bstep ?_ (by assumption)))); exact hB.keep (by (repeat (first | exact .refl _ _ | assumption | refine .drew ?_ | refine balloc ?_ _ | refine bdrewN ?_ _ | refine .setCell ?_ (by simp <;> omega) _ | refine bstep ?_ (by assumption)))); rintro e w2 ⟨rfl, hb2⟩))
    go_ret2
    exact ⟨rfl, by (repeat (first | exact .refl _ _ | assumption | refine .drew ?_ | refine balloc ?_ _ | refine bdrewN ?_ _ | refine .setCell ?_ (by simp <;> omega) _ | refine bstep ?_ (by assumption)))⟩
  all_goals
    rw [if_neg (by decide)]
    go_enter Tryz.func79, Tryz.ntmps79
    go_wp2_with (go_at_call 118; refine HP.out.mono ?_; rintro e w1 ⟨hb1, A, ca, B, cb, rfl, hA, hB, _, _⟩)
    go_ret2
    exact ⟨rfl, by (repeat (first | exact .refl _ _ | assumption | refine .drew ?_ | refine balloc ?_ _ | refine bdrewN ?_ _ | refine .setCell ?_ (by simp <;> omega) _ | refine bstep ?_ (by assumption)))⟩
def readB (s : ByteArray) : Bool := decide ((parseB s).2 = 0) && (ByteArray.toList ⟨(W06 (parseB s).1.cust (parseB s).1.path (parseB s).1.query).toArray⟩ == s.toList)
def ReadP (a : Adr) (ok : Bool) (w : World) (e : Ending) (w' : World) : Prop :=
  Below w.heap.size w w' ∧ ∃ A ca B cb, e = .returned (.tuple #[.agg #[.string a.cust, .slice A a.path.length ca, .slice B a.query.length cb], .bool ok]) ∧ Reads w' 1 A a.path.length (a.path.map .string) ∧ Reads w' 2 B a.query.length (pairCells a.query)
theorem ReadP.mk_ {c : ByteArray} {ps : List ByteArray} {qs : List (ByteArray × ByteArray)} {ok : Bool} {w w' : World} {A B : Option Addr} {ca cb : Nat} (hb : Below w.heap.size w w') (hA : Reads w' 1 A ps.length (ps.map .string)) (hB : Reads w' 2 B qs.length (pairCells qs)) :
    ReadP ⟨c, ps, qs⟩ ok w (.returned (.tuple #[.agg #[.string c, .slice A ps.length ca, .slice B qs.length cb], .bool ok])) w' := ⟨hb, A, ca, B, cb, rfl, hA, hB⟩
set_option maxHeartbeats 2000000 in
theorem read_any (s : ByteArray) (w : World) (hs : s.size ≤ 4294967281) (hE : Env w) : Calls Tryz.prog 121 #[.string s] w (ReadP (parseB s).1 (readB s) w) := by
  have cP := fun W h => parse_any s W hs h
  have he := parse_errno s
  have hbd := parse_bound s
  unfold readB
  generalize parseB s = r at *
  obtain ⟨⟨c, ps, qs⟩, er⟩ := r
  dsimp only at he hbd ⊢
  have HP := Lib.hid cP
  have HB := Lib.hid hbd
  clear cP hbd
  generalize hT : (ByteArray.mk (W06 c ps qs).toArray) = T
  have cW : ∀ A ca B cb W, Reads W 1 A ps.length (ps.map .string) → Reads W 2 B qs.length (pairCells qs) → Calls Tryz.prog 160 #[.agg #[.string c, .slice A ps.length ca, .slice B qs.length cb]] W (Ret W (.string T)) := fun A ca B cb W h1 h2 => by
    rw [← hT]
    exact write_any c A B ps.length ca qs.length cb ps qs W h1 h2 (by have := HB.out; omega)
  have HW := Lib.hid cW
  clear cW hT
  rcases he with rfl | he
  · simp only [decide_true, Bool.true_and]
    generalize hq : (T.toList == s.toList) = q
    have HQ := Lib.hid hq
    clear hq
    go_enter Tryz.func121, Tryz.ntmps121
    go_wp2_with (go_at_call 118; refine (HP.out _ (hE.keep (balloc (Below.refl _ _) _))).mono ?_; rintro e w1 ⟨hb1, A, ca, B, cb, rfl, hA, hB, hA1, hB1, _⟩; obtain ⟨hc1, hf1⟩ := bcell hb1; have hz1_0 : w.heap.size < w1.heap.size := (by have := hb1.size; (try simp at this); omega))
    have f1 : (w1.alloc (.cells #[.string c, .slice A ps.length ca, .slice B qs.length cb] 153)).cell? ⟨w1.heap.size, 0, none⟩ = some (.string c) := by simp [go_sem]
    have f2 : (w1.alloc (.cells #[.string c, .slice A ps.length ca, .slice B qs.length cb] 153)).cell? ⟨w1.heap.size, 1, none⟩ = some (.slice A ps.length ca) := by simp [go_sem]
    have f3 : (w1.alloc (.cells #[.string c, .slice A ps.length ca, .slice B qs.length cb] 153)).cell? ⟨w1.heap.size, 2, none⟩ = some (.slice B qs.length cb) := by simp [go_sem]
    have f4 : (w1.alloc (.cells #[.string c, .slice A ps.length ca, .slice B qs.length cb] 153)).cell? ⟨w.heap.size, 0, none⟩ = some (.string ⟨#[]⟩) := by simp [go_sem, *]
    have f5 : (w1.alloc (.cells #[.string c, .slice A ps.length ca, .slice B qs.length cb] 153)).cell? ⟨w.heap.size, 1, none⟩ = some (.slice none 0 0) := by simp [go_sem, *]
    have f6 : (w1.alloc (.cells #[.string c, .slice A ps.length ca, .slice B qs.length cb] 153)).cell? ⟨w.heap.size, 2, none⟩ = some (.slice none 0 0) := by simp [go_sem, *]
    have f7 : (w1.alloc (.cells #[.string c, .slice A ps.length ca, .slice B qs.length cb] 153)).frozen? ⟨w.heap.size, 0, none⟩ = false := by simp [go_sem, *]
    have f8 : (w1.alloc (.cells #[.string c, .slice A ps.length ca, .slice B qs.length cb] 153)).frozen? ⟨w.heap.size, 1, none⟩ = false := by simp [go_sem, *]
    have f9 : (w1.alloc (.cells #[.string c, .slice A ps.length ca, .slice B qs.length cb] 153)).frozen? ⟨w.heap.size, 2, none⟩ = false := by simp [go_sem, *]
    have hA2 : ∀ a, A = some a → a.block ≠ w.heap.size := fun a ha => by have := hA1 a ha; simp at this; omega
    have hB2 : ∀ a, B = some a → a.block ≠ w.heap.size := fun a ha => by have := hB1 a ha; simp at this; omega
    have hA3 := hA.keep (balloc (Below.refl _ w1) (.cells #[.string c, .slice A ps.length ca, .slice B qs.length cb] 153))
    have hB3 := hB.keep (balloc (Below.refl _ w1) (.cells #[.string c, .slice A ps.length ca, .slice B qs.length cb] 153))
    have hb3 := balloc (blater _ hb1) (.cells #[.string c, .slice A ps.length ca, .slice B qs.length cb] 153)
    have hne : w1.heap.size ≠ w.heap.size := by omega
    clear hc1 hf1 hA hB hA1 hB1
    generalize hW0 : w1.alloc (.cells #[.string c, .slice A ps.length ca, .slice B qs.length cb] 153) = W0 at *
    clear hW0
    go_region_held3 (fun w' => w'.cell? ⟨w1.heap.size, 0, none⟩ = some (.string c) ∧ w'.cell? ⟨w1.heap.size, 1, none⟩ = some (.slice A ps.length ca) ∧ w'.cell? ⟨w1.heap.size, 2, none⟩ = some (.slice B qs.length cb) ∧ w'.cell? ⟨w.heap.size, 0, none⟩ = some (rd w' ⟨w.heap.size, 0, none⟩) ∧ w'.cell? ⟨w.heap.size, 1, none⟩ = some (rd w' ⟨w.heap.size, 1, none⟩) ∧ w'.cell? ⟨w.heap.size, 2, none⟩ = some (rd w' ⟨w.heap.size, 2, none⟩) ∧ w'.frozen? ⟨w.heap.size, 0, none⟩ = false ∧ w'.frozen? ⟨w.heap.size, 1, none⟩ = false ∧ w'.frozen? ⟨w.heap.size, 2, none⟩ = false ∧ Reads w' 1 A ps.length (ps.map .string) ∧ Reads w' 2 B qs.length (pairCells qs) ∧ Below w.heap.size w w')
      (first | exact ⟨f1, f2, f3, rd_of f4, rd_of f5, rd_of f6, f7, f8, f9, hA3, hB3, Below.drew hb3⟩ | (go_split_ands; exact ⟨cell_keep hb2 ‹_›, cell_keep hb2 ‹_›, cell_keep hb2 ‹_›, rd_keep hb2 ‹_›, rd_keep hb2 ‹_›, rd_keep hb2 ‹_›, frozen_keep hb2 (cell_lt ‹_›) ‹_›, frozen_keep hb2 (cell_lt ‹_›) ‹_›, frozen_keep hb2 (cell_lt ‹_›) ‹_›, Reads.keep ‹_› hb2, Reads.keep ‹_› hb2, bstep ‹_› hb2⟩) | (go_split_ands; refine ⟨?_, ?_, ?_, rd_set (rd_set (rd_set ‹_›)), rd_set (rd_set (rd_set ‹_›)), rd_set (rd_set (rd_set ‹_›)), ?_, ?_, ?_, ((Reads.set_ ‹_› _ _ hA2).set_ _ _ hA2).set_ _ _ hA2, ((Reads.set_ ‹_› _ _ hB2).set_ _ _ hB2).set_ _ _ hB2, ?_⟩ <;> first | (simp [go_sem, *]; done) | (repeat (first | exact .refl _ _ | assumption | refine .drew ?_ | refine balloc ?_ _ | refine bdrewN ?_ _ | refine .setCell ?_ (by simp <;> omega) _ | refine bstep ?_ (by assumption)))))
      ((go_at_call 160; refine (HW.out _ _ _ _ _ (by go_split_ands; assumption) (by go_split_ands; assumption)).mono ?_; rintro e w2 ⟨rfl, hb2⟩))
    go_wp2
    exact bodyPost_ret (v := .tuple #[.agg #[.string c, .slice A ps.length ca, .slice B qs.length cb], .bool q]) (by have g4 := cell_keep (w := W0.drew) hb2 f4; have g5 := cell_keep (w := W0.drew) hb2 f5; have g6 := cell_keep (w := W0.drew) hb2 f6; simp [results, Tryz.results121, go_sem, g4, g5, g6, HQ.out]) rfl (ReadP.mk_ (by go_split_ands; assumption) (by go_split_ands; assumption) (by go_split_ands; assumption))
  rcases he with rfl | rfl
  all_goals
    rw [show (decide ((_ : Int) = 0)) = false from rfl, Bool.false_and]
    go_enter Tryz.func121, Tryz.ntmps121
    go_wp2_with (go_at_call 118; refine (HP.out _ (hE.keep (balloc (Below.refl _ _) _))).mono ?_; rintro e w1 ⟨hb1, A, ca, B, cb, rfl, hA, hB, hA1, hB1, _⟩; obtain ⟨hc1, hf1⟩ := bcell hb1; have hz1_0 : w.heap.size < w1.heap.size := (by have := hb1.size; (try simp at this); omega))
    have f1 : (w1.alloc (.cells #[.string c, .slice A ps.length ca, .slice B qs.length cb] 153)).cell? ⟨w1.heap.size, 0, none⟩ = some (.string c) := by simp [go_sem]
    have f2 : (w1.alloc (.cells #[.string c, .slice A ps.length ca, .slice B qs.length cb] 153)).cell? ⟨w1.heap.size, 1, none⟩ = some (.slice A ps.length ca) := by simp [go_sem]
    have f3 : (w1.alloc (.cells #[.string c, .slice A ps.length ca, .slice B qs.length cb] 153)).cell? ⟨w1.heap.size, 2, none⟩ = some (.slice B qs.length cb) := by simp [go_sem]
    have f4 : (w1.alloc (.cells #[.string c, .slice A ps.length ca, .slice B qs.length cb] 153)).cell? ⟨w.heap.size, 0, none⟩ = some (.string ⟨#[]⟩) := by simp [go_sem, *]
    have f5 : (w1.alloc (.cells #[.string c, .slice A ps.length ca, .slice B qs.length cb] 153)).cell? ⟨w.heap.size, 1, none⟩ = some (.slice none 0 0) := by simp [go_sem, *]
    have f6 : (w1.alloc (.cells #[.string c, .slice A ps.length ca, .slice B qs.length cb] 153)).cell? ⟨w.heap.size, 2, none⟩ = some (.slice none 0 0) := by simp [go_sem, *]
    have f7 : (w1.alloc (.cells #[.string c, .slice A ps.length ca, .slice B qs.length cb] 153)).frozen? ⟨w.heap.size, 0, none⟩ = false := by simp [go_sem, *]
    have f8 : (w1.alloc (.cells #[.string c, .slice A ps.length ca, .slice B qs.length cb] 153)).frozen? ⟨w.heap.size, 1, none⟩ = false := by simp [go_sem, *]
    have f9 : (w1.alloc (.cells #[.string c, .slice A ps.length ca, .slice B qs.length cb] 153)).frozen? ⟨w.heap.size, 2, none⟩ = false := by simp [go_sem, *]
    have hA2 : ∀ a, A = some a → a.block ≠ w.heap.size := fun a ha => by have := hA1 a ha; simp at this; omega
    have hB2 : ∀ a, B = some a → a.block ≠ w.heap.size := fun a ha => by have := hB1 a ha; simp at this; omega
    have hA3 := hA.keep (balloc (Below.refl _ w1) (.cells #[.string c, .slice A ps.length ca, .slice B qs.length cb] 153))
    have hB3 := hB.keep (balloc (Below.refl _ w1) (.cells #[.string c, .slice A ps.length ca, .slice B qs.length cb] 153))
    have hb3 := balloc (blater _ hb1) (.cells #[.string c, .slice A ps.length ca, .slice B qs.length cb] 153)
    have hne : w1.heap.size ≠ w.heap.size := by omega
    clear hc1 hf1 hA hB hA1 hB1
    generalize hW0 : w1.alloc (.cells #[.string c, .slice A ps.length ca, .slice B qs.length cb] 153) = W0 at *
    clear hW0
    go_big_region
    go_wp2
    exact bodyPost_ret (v := .tuple #[.agg #[.string c, .slice A ps.length ca, .slice B qs.length cb], .bool false]) (by simp [results, Tryz.results121, go_sem, f4, f5, f6]) rfl (ReadP.mk_ (by (repeat (first | exact .refl _ _ | assumption | refine .drew ?_ | refine balloc ?_ _ | refine bdrewN ?_ _ | refine .setCell ?_ (by simp <;> omega) _ | refine bstep ?_ (by assumption)))) (((hA3.set_ _ _ hA2).set_ _ _ hA2).set_ _ _ hA2) (((hB3.set_ _ _ hB2).set_ _ _ hB2).set_ _ _ hB2))
end Go.Proofs.YtocgkpdolgnbgaaGreatDoor
