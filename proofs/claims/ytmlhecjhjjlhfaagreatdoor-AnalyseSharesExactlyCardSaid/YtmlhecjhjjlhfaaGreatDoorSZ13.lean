/- Plain: what a parsed address is like. -/
import Derived.Test.YtmlhecjhjjlhfaaGreatDoorSZ11
import Derived.Test.YtmlhecjhjjlhfaaGreatDoorSZ9
import Derived.Test.YtmlhecjhjjlhfaaGreatDoorProg
import Derived.WalkKit
import Derived.WalkSpells
import Derived.WalkLawsBesides
import Derived.Below
import Derived.Deep.QuietTactic
import Derived.BigQuiet
import Derived.Lib.QuietBelow
import Derived.Lib.Strings
import Derived.Lib.Hide
import Derived.Deep.RegionWith
import Derived.Deep.RegionHeld3
import Derived.Lib.IndexBytes
import Derived.Test.YtmlhecjhjjlhfaaGreatDoorSZ12
import Derived.Lib.Split
import Derived.Lib.CountLaws
namespace Go.Proofs.YtmlhecjhjjlhfaaGreatDoor
open Go.RowKit Go.Sort
set_option linter.unusedVariables false
set_option linter.unusedSimpArgs false
theorem resB_words : ∀ (ps out r : List ByteArray), (∀ p ∈ out, isWordB p = true) → resB out ps = some r → ∀ p ∈ r, isWordB p = true
  | [], out, r, h, e => by simp [resB] at e; subst e; exact h
  | p :: ps, out, r, h, e => by
    rw [resB] at e
    cases hs : resStep out p with
    | none => rw [hs] at e; cases e
    | some o =>
      rw [hs, Option.bind_some] at e
      refine resB_words ps o r (fun q hq => ?_) e
      unfold resStep at hs
      split at hs
      · injection hs with hs; subst hs; exact h q hq
      · split at hs
        · injection hs with hs; subst hs; exact h q (List.dropLast_subset _ hq)
        · split at hs
          · injection hs with hs; subst hs
            rcases List.mem_append.1 hq with hq | hq
            · exact h q hq
            · rw [List.mem_singleton.1 hq]; assumption
          · cases hs
theorem qAcc_words : ∀ (ps : List ByteArray) (acc r : List (List UInt8 × List UInt8)), (∀ q ∈ acc, isNameB (toB q.1) = true ∧ isWordB (toB q.2) = true) → qAcc acc ps = some r → ∀ q ∈ r, isNameB (toB q.1) = true ∧ isWordB (toB q.2) = true
  | [], acc, r, h, e => by simp [qAcc] at e; subst e; exact h
  | p :: ps, acc, r, h, e => by
    rw [qAcc] at e
    cases hs : parsePair p with
    | none => rw [hs] at e; cases e
    | some x =>
      rw [hs] at e
      refine qAcc_words ps _ r (fun q hq => ?_) e
      rcases List.mem_append.1 hq with hq | hq
      · exact h q hq
      · rw [List.mem_singleton.1 hq]
        unfold parsePair at hs
        split at hs
        · rename_i hc
          simp only [Bool.and_eq_true] at hc
          injection hs with hs; subst hs
          exact ⟨hc.1.2, hc.2⟩
        · cases hs
def KeysUp (q : List (ByteArray × ByteArray)) : Prop := q.Pairwise fun a b => a.1.data.toList < b.1.data.toList
theorem pairsB_good (s : ByteArray) (r : List (ByteArray × ByteArray)) (h : pairsB s = some r) : (∀ q ∈ r, isNameB q.1 = true ∧ isWordB q.2 = true) ∧ KeysUp r := by
  unfold pairsB at h
  split at h
  · injection h with h; subst h; exact ⟨by simp, List.Pairwise.nil⟩
  · cases hq : qAcc [] (splitB 38 s) with
    | none => rw [hq] at h; cases h
    | some acc =>
      rw [hq, Option.map_some] at h
      injection h with h; subst h
      constructor
      · intro q hq'
        obtain ⟨x, hx, rfl⟩ := List.mem_map.1 hq'
        exact qAcc_words _ _ _ (by simp) hq x (mem_pairsL hx)
      · exact List.pairwise_map.2 ((good_pairs acc).2.2.1)
structure AdrGood (a : Adr) : Prop where
  name : isNameB a.cust = true
  words : ∀ p ∈ a.path, isWordB p = true
  parts : a.path.length ≤ 32
  pairs : a.query.length ≤ 16
  query : ∀ q ∈ a.query, isNameB q.1 = true ∧ isWordB q.2 = true
  up : KeysUp a.query
theorem parse_good (s : ByteArray) (h : (parseB s).2 = 0) : AdrGood (parseB s).1 := by
  unfold parseB at h ⊢
  split at h
  · cases h
  · rename_i hs
    rw [if_neg hs]
    generalize hrr : pathB (custL s) = rr at h ⊢
    generalize hqq : pairsB (toB (leftL s).2.1) = qq at h ⊢
    generalize hnm : isNameB (toB (custL s).1) = nm at h ⊢
    unfold adrOf at h ⊢
    split at h
    · split at h
      · rename_i hl
        simp only [hl, and_self, if_true]
        have hp := pairsB_good _ _ hqq
        refine ⟨hnm, ?_, hl.1, hl.2, hp.1, hp.2⟩
        unfold pathB at hrr
        split at hrr
        · exact resB_words _ _ _ (by simp) hrr
        · injection hrr with hrr; subst hrr; simp
      · cases h
    · cases h
theorem parse_err (s : ByteArray) (h : (parseB s).2 ≠ 0) : (parseB s).1 = noAdr := by
  unfold parseB at h ⊢
  split
  · rfl
  · rename_i hs
    rw [if_neg hs] at h
    generalize pathB (custL s) = rr at h ⊢
    generalize pairsB (toB (leftL s).2.1) = qq at h ⊢
    generalize isNameB (toB (custL s).1) = nm at h ⊢
    unfold adrOf at h ⊢
    split
    · split
      · rename_i hl; exact absurd (by simp [hl]) h
      · rfl
    · rfl
theorem parse_errno (s : ByteArray) : (parseB s).2 = 0 ∨ (parseB s).2 = 2 ∨ (parseB s).2 = 3 := by
  unfold parseB
  split
  · simp
  · unfold adrOf
    split
    · split <;> simp
    · simp
theorem pathL_bound : ∀ l : List (List UInt8), (∀ p ∈ l, p.length ≤ 64) → (pathL l).length ≤ l.length * 65
  | [], _ => by simp [pathL]
  | p :: l, h => by
    have h1 := h p (by simp)
    have h2 := pathL_bound l (fun q hq => h q (by simp [hq]))
    simp only [pathL, List.flatMap_cons, List.length_append, List.length_cons] at h2 ⊢
    omega
theorem queryL_bound : ∀ (sep : UInt8) (l : List (List UInt8 × List UInt8)), (∀ p ∈ l, p.1.length ≤ 64 ∧ p.2.length ≤ 64) → (queryL sep l).length ≤ l.length * 130
  | _, [], _ => by simp [queryL]
  | _, p :: l, h => by
    have h1 := h p (by simp)
    have h2 := queryL_bound 38 l (fun q hq => h q (by simp [hq]))
    simp only [queryL, List.length_append, List.length_cons] at h2 ⊢
    omega
theorem good_bound {a : Adr} (h : AdrGood a) : (W06 a.cust a.path a.query).length ≤ 10000 := by
  have h1 := pathL_bound (lists a.path) (by
    intro p hp
    obtain ⟨x, hx, rfl⟩ := List.mem_map.1 hp
    have := size_of_word (h.words x hx)
    rw [Lib.size_eq] at this; exact this)
  have h2 := queryL_bound 63 (lists2 a.query) (by
    intro p hp
    obtain ⟨x, hx, rfl⟩ := List.mem_map.1 hp
    have h3 := size_of_name (h.query x hx).1
    have h4 := size_of_word (h.query x hx).2
    rw [Lib.size_eq] at h3 h4; exact ⟨h3, h4⟩)
  have h3 := size_of_name h.name
  rw [Lib.size_eq] at h3
  have h4 := h.parts
  have h5 := h.pairs
  simp only [lists, lists2, List.length_map] at h1 h2
  simp only [W06, writeL, List.length_append, lists, lists2]
  omega
theorem parse_bound (s : ByteArray) : (W06 (parseB s).1.cust (parseB s).1.path (parseB s).1.query).length ≤ 10000 := by
  by_cases h : (parseB s).2 = 0
  · exact good_bound (parse_good s h)
  · rw [parse_err s h]
    simp [noAdr, W06, writeL, pathL, queryL, lists, lists2]
end Go.Proofs.YtmlhecjhjjlhfaaGreatDoor
namespace Go.Proofs.YtmlhecjhjjlhfaaGreatDoor
open Go.RowKit Go.Sort
set_option linter.unusedVariables false
set_option linter.unusedSimpArgs false
set_option maxRecDepth 100000
def canonV (s : ByteArray) : Value := if (parseB s).2 = 0 then textV (parseB s).1.cust (parseB s).1.path (parseB s).1.query else .tuple #[.string ⟨#[]⟩, .int .i64 (parseB s).2]
set_option maxHeartbeats 2000000 in
theorem canonical_any (s : ByteArray) (w : World) (hs : s.size ≤ 4294967281) (hE : Env w) : Calls Tryz.prog 168 #[.string s] w (Ret w (canonV s)) := by
  have cP := parse_any s w hs hE
  have he := parse_errno s
  have hbd := parse_bound s
  unfold canonV
  generalize parseB s = r at *
  obtain ⟨⟨c, ps, qs⟩, er⟩ := r
  dsimp only at he hbd ⊢
  have HP := Lib.hid cP
  have HB := Lib.hid hbd
  clear cP hbd
  rcases he with rfl | rfl | rfl
  · simp only [if_true]
    generalize hv : textV c ps qs = V
    have cT : ∀ A ca B cb W, Reads W 1 A ps.length (ps.map .string) → Reads W 2 B qs.length (pairCells qs) → Calls Tryz.prog 193 #[.agg #[.string c, .slice A ps.length ca, .slice B qs.length cb]] W (Ret W V) := fun A ca B cb W h1 h2 => by
      rw [← hv]
      exact text_any c A B ps.length ca qs.length cb ps qs W h1 h2 (by have := HB.out; omega)
    have HT := Lib.hid cT
    obtain ⟨x, y, hxy⟩ : ∃ x y, V = .tuple #[.string x, .int .i64 y] := by
      rw [← hv]; unfold textV; split <;> exact ⟨_, _, rfl⟩
    clear cT hv
    subst hxy
    go_enter Tryz.func168, Tryz.ntmps168
    go_wp2_with (first | (go_at_call 68; refine HP.out.mono ?_; rintro e w1 ⟨hb1, A, ca, B, cb, rfl, hA, hB, _, _⟩) | (go_at_call 193; refine (HT.out _ _ _ _ _ ?_ ?_).mono ?_; exact hA.keep belB; exact hB.keep belB; rintro e w2 ⟨rfl, hb2⟩))
    go_ret2
    exact ⟨rfl, belB⟩
  all_goals
    rw [if_neg (by decide)]
    go_enter Tryz.func168, Tryz.ntmps168
    go_wp2_with (go_at_call 68; refine HP.out.mono ?_; rintro e w1 ⟨hb1, A, ca, B, cb, rfl, hA, hB, _, _⟩)
    go_ret2
    exact ⟨rfl, belB⟩
def readB (s : ByteArray) : Bool := decide ((parseB s).2 = 0) && (ByteArray.toList ⟨(W06 (parseB s).1.cust (parseB s).1.path (parseB s).1.query).toArray⟩ == s.toList)
def ReadP (a : Adr) (ok : Bool) (w : World) (e : Ending) (w' : World) : Prop :=
  Below w.heap.size w w' ∧ ∃ A ca B cb, e = .returned (.tuple #[.agg #[.string a.cust, .slice A a.path.length ca, .slice B a.query.length cb], .bool ok]) ∧ Reads w' 1 A a.path.length (a.path.map .string) ∧ Reads w' 2 B a.query.length (pairCells a.query)
theorem ReadP.mk_ {c : ByteArray} {ps : List ByteArray} {qs : List (ByteArray × ByteArray)} {ok : Bool} {w w' : World} {A B : Option Addr} {ca cb : Nat} (hb : Below w.heap.size w w') (hA : Reads w' 1 A ps.length (ps.map .string)) (hB : Reads w' 2 B qs.length (pairCells qs)) :
    ReadP ⟨c, ps, qs⟩ ok w (.returned (.tuple #[.agg #[.string c, .slice A ps.length ca, .slice B qs.length cb], .bool ok])) w' := ⟨hb, A, ca, B, cb, rfl, hA, hB⟩
set_option maxHeartbeats 2000000 in
theorem read_any (s : ByteArray) (w : World) (hs : s.size ≤ 4294967281) (hE : Env w) : Calls Tryz.prog 29 #[.string s] w (ReadP (parseB s).1 (readB s) w) := by
  have cP := fun W h => parse_any s W hs h
  have he := parse_errno s
  have hbd := parse_bound s
  unfold readB
  generalize parseB s = r at *
  obtain ⟨⟨c, ps, qs⟩, er⟩ := r
  dsimp only at he hbd ⊢
  have HP := Lib.hid cP
  have HB := Lib.hid hbd
  clear cP hbd
  generalize hT : (ByteArray.mk (W06 c ps qs).toArray) = T
  have cW : ∀ A ca B cb W, Reads W 1 A ps.length (ps.map .string) → Reads W 2 B qs.length (pairCells qs) → Calls Tryz.prog 69 #[.agg #[.string c, .slice A ps.length ca, .slice B qs.length cb]] W (Ret W (.string T)) := fun A ca B cb W h1 h2 => by
    rw [← hT]
    exact write_any c A B ps.length ca qs.length cb ps qs W h1 h2 (by have := HB.out; omega)
  have HW := Lib.hid cW
  clear cW hT
  rcases he with rfl | he
  · simp only [decide_true, Bool.true_and]
    generalize hq : (T.toList == s.toList) = q
    have HQ := Lib.hid hq
    clear hq
    go_enter Tryz.func29, Tryz.ntmps29
    go_wp2_with (go_at_call 68; refine (HP.out _ (hE.keep (balloc (Below.refl _ _) _))).mono ?_; rintro e w1 ⟨hb1, A, ca, B, cb, rfl, hA, hB, hA1, hB1, _⟩; obtain ⟨hc1, hf1⟩ := bcell hb1; have hz1_0 : w.heap.size < w1.heap.size := (by have := hb1.size; (try simp at this); omega))
    have f1 : (w1.alloc (.cells #[.string c, .slice A ps.length ca, .slice B qs.length cb] 78)).cell? ⟨w1.heap.size, 0, none⟩ = some (.string c) := by simp [go_sem]
    have f2 : (w1.alloc (.cells #[.string c, .slice A ps.length ca, .slice B qs.length cb] 78)).cell? ⟨w1.heap.size, 1, none⟩ = some (.slice A ps.length ca) := by simp [go_sem]
    have f3 : (w1.alloc (.cells #[.string c, .slice A ps.length ca, .slice B qs.length cb] 78)).cell? ⟨w1.heap.size, 2, none⟩ = some (.slice B qs.length cb) := by simp [go_sem]
    have f4 : (w1.alloc (.cells #[.string c, .slice A ps.length ca, .slice B qs.length cb] 78)).cell? ⟨w.heap.size, 0, none⟩ = some (.string ⟨#[]⟩) := by simp [go_sem, *]
    have f5 : (w1.alloc (.cells #[.string c, .slice A ps.length ca, .slice B qs.length cb] 78)).cell? ⟨w.heap.size, 1, none⟩ = some (.slice none 0 0) := by simp [go_sem, *]
    have f6 : (w1.alloc (.cells #[.string c, .slice A ps.length ca, .slice B qs.length cb] 78)).cell? ⟨w.heap.size, 2, none⟩ = some (.slice none 0 0) := by simp [go_sem, *]
    have f7 : (w1.alloc (.cells #[.string c, .slice A ps.length ca, .slice B qs.length cb] 78)).frozen? ⟨w.heap.size, 0, none⟩ = false := by simp [go_sem, *]
    have f8 : (w1.alloc (.cells #[.string c, .slice A ps.length ca, .slice B qs.length cb] 78)).frozen? ⟨w.heap.size, 1, none⟩ = false := by simp [go_sem, *]
    have f9 : (w1.alloc (.cells #[.string c, .slice A ps.length ca, .slice B qs.length cb] 78)).frozen? ⟨w.heap.size, 2, none⟩ = false := by simp [go_sem, *]
    have hA2 : ∀ a, A = some a → a.block ≠ w.heap.size := fun a ha => by have := hA1 a ha; simp at this; omega
    have hB2 : ∀ a, B = some a → a.block ≠ w.heap.size := fun a ha => by have := hB1 a ha; simp at this; omega
    have hA3 := hA.keep (balloc (Below.refl _ w1) (.cells #[.string c, .slice A ps.length ca, .slice B qs.length cb] 78))
    have hB3 := hB.keep (balloc (Below.refl _ w1) (.cells #[.string c, .slice A ps.length ca, .slice B qs.length cb] 78))
    have hb3 := balloc (blater _ hb1) (.cells #[.string c, .slice A ps.length ca, .slice B qs.length cb] 78)
    have hne : w1.heap.size ≠ w.heap.size := by omega
    clear hc1 hf1 hA hB hA1 hB1
    generalize hW0 : w1.alloc (.cells #[.string c, .slice A ps.length ca, .slice B qs.length cb] 78) = W0 at *
    clear hW0
    go_region_held3 (fun w' => w'.cell? ⟨w1.heap.size, 0, none⟩ = some (.string c) ∧ w'.cell? ⟨w1.heap.size, 1, none⟩ = some (.slice A ps.length ca) ∧ w'.cell? ⟨w1.heap.size, 2, none⟩ = some (.slice B qs.length cb) ∧ w'.cell? ⟨w.heap.size, 0, none⟩ = some (rd w' ⟨w.heap.size, 0, none⟩) ∧ w'.cell? ⟨w.heap.size, 1, none⟩ = some (rd w' ⟨w.heap.size, 1, none⟩) ∧ w'.cell? ⟨w.heap.size, 2, none⟩ = some (rd w' ⟨w.heap.size, 2, none⟩) ∧ w'.frozen? ⟨w.heap.size, 0, none⟩ = false ∧ w'.frozen? ⟨w.heap.size, 1, none⟩ = false ∧ w'.frozen? ⟨w.heap.size, 2, none⟩ = false ∧ Reads w' 1 A ps.length (ps.map .string) ∧ Reads w' 2 B qs.length (pairCells qs) ∧ Below w.heap.size w w')
      (first | exact ⟨f1, f2, f3, rd_of f4, rd_of f5, rd_of f6, f7, f8, f9, hA3, hB3, Below.drew hb3⟩ | (go_split_ands; exact ⟨cell_keep hb2 ‹_›, cell_keep hb2 ‹_›, cell_keep hb2 ‹_›, rd_keep hb2 ‹_›, rd_keep hb2 ‹_›, rd_keep hb2 ‹_›, frozen_keep hb2 (cell_lt ‹_›) ‹_›, frozen_keep hb2 (cell_lt ‹_›) ‹_›, frozen_keep hb2 (cell_lt ‹_›) ‹_›, Reads.keep ‹_› hb2, Reads.keep ‹_› hb2, bstep ‹_› hb2⟩) | (go_split_ands; refine ⟨?_, ?_, ?_, rd_set (rd_set (rd_set ‹_›)), rd_set (rd_set (rd_set ‹_›)), rd_set (rd_set (rd_set ‹_›)), ?_, ?_, ?_, ((Reads.set_ ‹_› _ _ hA2).set_ _ _ hA2).set_ _ _ hA2, ((Reads.set_ ‹_› _ _ hB2).set_ _ _ hB2).set_ _ _ hB2, ?_⟩ <;> first | (simp [go_sem, *]; done) | (repeat (first | exact .refl _ _ | assumption | refine .drew ?_ | refine balloc ?_ _ | refine bdrewN ?_ _ | refine .setCell ?_ (by simp <;> omega) _ | refine bstep ?_ (by assumption)))))
      ((go_at_call 69; refine (HW.out _ _ _ _ _ (by go_split_ands; assumption) (by go_split_ands; assumption)).mono ?_; rintro e w2 ⟨rfl, hb2⟩))
    go_wp2
    exact bodyPost_ret (v := .tuple #[.agg #[.string c, .slice A ps.length ca, .slice B qs.length cb], .bool q]) (by have g4 := cell_keep (w := W0.drew) hb2 f4; have g5 := cell_keep (w := W0.drew) hb2 f5; have g6 := cell_keep (w := W0.drew) hb2 f6; simp [results, Tryz.results29, go_sem, g4, g5, g6, HQ.out]) rfl (ReadP.mk_ (by go_split_ands; assumption) (by go_split_ands; assumption) (by go_split_ands; assumption))
  rcases he with rfl | rfl
  all_goals
    rw [show (decide ((_ : Int) = 0)) = false from rfl, Bool.false_and]
    go_enter Tryz.func29, Tryz.ntmps29
    go_wp2_with (go_at_call 68; refine (HP.out _ (hE.keep (balloc (Below.refl _ _) _))).mono ?_; rintro e w1 ⟨hb1, A, ca, B, cb, rfl, hA, hB, hA1, hB1, _⟩; obtain ⟨hc1, hf1⟩ := bcell hb1; have hz1_0 : w.heap.size < w1.heap.size := (by have := hb1.size; (try simp at this); omega))
    have f1 : (w1.alloc (.cells #[.string c, .slice A ps.length ca, .slice B qs.length cb] 78)).cell? ⟨w1.heap.size, 0, none⟩ = some (.string c) := by simp [go_sem]
    have f2 : (w1.alloc (.cells #[.string c, .slice A ps.length ca, .slice B qs.length cb] 78)).cell? ⟨w1.heap.size, 1, none⟩ = some (.slice A ps.length ca) := by simp [go_sem]
    have f3 : (w1.alloc (.cells #[.string c, .slice A ps.length ca, .slice B qs.length cb] 78)).cell? ⟨w1.heap.size, 2, none⟩ = some (.slice B qs.length cb) := by simp [go_sem]
    have f4 : (w1.alloc (.cells #[.string c, .slice A ps.length ca, .slice B qs.length cb] 78)).cell? ⟨w.heap.size, 0, none⟩ = some (.string ⟨#[]⟩) := by simp [go_sem, *]
    have f5 : (w1.alloc (.cells #[.string c, .slice A ps.length ca, .slice B qs.length cb] 78)).cell? ⟨w.heap.size, 1, none⟩ = some (.slice none 0 0) := by simp [go_sem, *]
    have f6 : (w1.alloc (.cells #[.string c, .slice A ps.length ca, .slice B qs.length cb] 78)).cell? ⟨w.heap.size, 2, none⟩ = some (.slice none 0 0) := by simp [go_sem, *]
    have f7 : (w1.alloc (.cells #[.string c, .slice A ps.length ca, .slice B qs.length cb] 78)).frozen? ⟨w.heap.size, 0, none⟩ = false := by simp [go_sem, *]
    have f8 : (w1.alloc (.cells #[.string c, .slice A ps.length ca, .slice B qs.length cb] 78)).frozen? ⟨w.heap.size, 1, none⟩ = false := by simp [go_sem, *]
    have f9 : (w1.alloc (.cells #[.string c, .slice A ps.length ca, .slice B qs.length cb] 78)).frozen? ⟨w.heap.size, 2, none⟩ = false := by simp [go_sem, *]
    have hA2 : ∀ a, A = some a → a.block ≠ w.heap.size := fun a ha => by have := hA1 a ha; simp at this; omega
    have hB2 : ∀ a, B = some a → a.block ≠ w.heap.size := fun a ha => by have := hB1 a ha; simp at this; omega
    have hA3 := hA.keep (balloc (Below.refl _ w1) (.cells #[.string c, .slice A ps.length ca, .slice B qs.length cb] 78))
    have hB3 := hB.keep (balloc (Below.refl _ w1) (.cells #[.string c, .slice A ps.length ca, .slice B qs.length cb] 78))
    have hb3 := balloc (blater _ hb1) (.cells #[.string c, .slice A ps.length ca, .slice B qs.length cb] 78)
    have hne : w1.heap.size ≠ w.heap.size := by omega
    clear hc1 hf1 hA hB hA1 hB1
    generalize hW0 : w1.alloc (.cells #[.string c, .slice A ps.length ca, .slice B qs.length cb] 78) = W0 at *
    clear hW0
    go_big_region
    go_wp2
    exact bodyPost_ret (v := .tuple #[.agg #[.string c, .slice A ps.length ca, .slice B qs.length cb], .bool false]) (by simp [results, Tryz.results29, go_sem, f4, f5, f6]) rfl (ReadP.mk_ belB (((hA3.set_ _ _ hA2).set_ _ _ hA2).set_ _ _ hA2) (((hB3.set_ _ _ hB2).set_ _ _ hB2).set_ _ _ hB2))
end Go.Proofs.YtmlhecjhjjlhfaaGreatDoor
namespace Go.Proofs.YtmlhecjhjjlhfaaGreatDoor
open Go.RowKit Go.Sort
set_option linter.unusedVariables false
set_option linter.unusedSimpArgs false
set_option maxRecDepth 100000
theorem split_eq (c : UInt8) : ∀ (k : Nat) (s : ByteArray), Lib.countB s ⟨#[c]⟩ = k → Lib.splitB ⟨#[c]⟩ 0 k s = splitB c s
  | k, s, h => by
    have hidx : Lib.indexB s ⟨#[c]⟩ = Lib.indexByte s.data.toList c := Lib.index_one s.data.toList c
    by_cases hm : Lib.indexB s ⟨#[c]⟩ = -1
    · rw [Lib.splitB_miss _ _ _ _ hm, splitB_miss c s (by omega)]
    · have hge := Lib.index_ge s.data.toList [c]
      obtain ⟨i, hi⟩ : ∃ i : Nat, Lib.indexB s ⟨#[c]⟩ = i := by
        have : Lib.indexB s ⟨#[c]⟩ = Lib.index s.data.toList [c] := rfl
        exact ⟨(Lib.indexB s ⟨#[c]⟩).toNat, by omega⟩
      have hcount := Lib.countB_hit s ⟨#[c]⟩ i (Nat.le_refl _) hi
      cases k with
      | zero => omega
      | succ k =>
        rw [Lib.splitB_hit _ _ _ _ i hi, (splitB_hit c s i (by rw [← hidx]; exact hi)).1]
        rw [show i + 0 = i from rfl]
        congr 1
        exact split_eq c k _ (by omega)
theorem count_split (c : UInt8) (s : ByteArray) : Lib.countB s ⟨#[c]⟩ + 1 = (splitB c s).length := by
  rw [← split_eq c _ s rfl]
  exact (Lib.splitB_all ⟨#[c]⟩ (Nat.le_refl _) 0 _ s rfl).symm
theorem reads_new (w : World) (t : TypeId) (vs : List Value) (n : Nat) (hn : vs.length = n) : Reads (w.alloc (.cells vs.toArray t)) 1 (some ⟨w.heap.size, 0, none⟩) n vs :=
  ⟨by omega, fun _ => ⟨_, _, rfl, fun j u hu => by
    have := World.news_of_block (w := w.alloc (.cells vs.toArray t)) (World.alloc_heap_new w (.cells vs.toArray t)) j u (by simpa using hu)
    have hadd : (⟨w.heap.size, 0, none⟩ : Addr).add j = ⟨w.heap.size, 0 + j, none⟩ := by unfold Addr.add; split <;> simp_all
    rw [hadd] at this; exact this⟩⟩
def ListPost (ps : List ByteArray) (w : World) (e : Ending) (w' : World) : Prop := Below w.heap.size w w' ∧ ∃ A c, e = .returned (.slice A ps.length c) ∧ Reads w' 1 A ps.length (ps.map .string) ∧ (∀ a, A = some a → w.heap.size ≤ a.block) ∧ ps.length ≤ c
theorem split_any (s : ByteArray) (c : UInt8) (w : World) (hs : s.size ≤ 4294967200) (hE : Env w) : Calls Tryz.prog 63 #[.string s, .string ⟨#[c]⟩] w (ListPost (splitB c s) w) := by
  obtain ⟨m, hm⟩ := hE
  refine (Tryz.strings_Split s ⟨#[c]⟩ m w (by omega) hm (Nat.le_refl _)).mono ?_
  rintro e w' ⟨rfl, rfl⟩
  rw [count_split, split_eq c _ s rfl]
  exact ⟨balloc (Below.refl _ _) _, _, _, rfl, reads_new _ _ _ _ (by simp), fun a ha => by injection ha with ha; subst ha; exact Nat.le_refl _, Nat.le_refl _⟩
def splitR (s : ByteArray) : List ByteArray × Int :=
  if s.toList.isEmpty then ([], 0) else if (tagsR (splitB 44 s)).2 = 0 ∧ ((tagsR (splitB 44 s)).1.toList == s.toList) = true then (splitB 44 s, 0) else ([], 3)
def SplitPost (r : List ByteArray × Int) (w : World) (e : Ending) (w' : World) : Prop := Below w.heap.size w w' ∧ ∃ A c, e = .returned (.tuple #[.slice A r.1.length c, .int .i64 r.2]) ∧ Reads w' 1 A r.1.length (r.1.map .string)
theorem SplitPost.none_ {w w' : World} {er : Int} (hb : Below w.heap.size w w') : SplitPost ([], er) w (.returned (.tuple #[.slice none 0 0, .int .i64 er])) w' := ⟨hb, none, 0, rfl, Reads.nil_ _ _ _⟩
def hasTagB (s tag : ByteArray) : Bool := Lib.containsS (splitR s).1 tag
end Go.Proofs.YtmlhecjhjjlhfaaGreatDoor
