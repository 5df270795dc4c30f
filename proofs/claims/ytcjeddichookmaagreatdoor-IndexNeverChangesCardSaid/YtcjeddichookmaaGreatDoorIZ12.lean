/- What 'Canonical' and 'read' return. -/
import Derived.Test.YtcjeddichookmaaGreatDoorIZ9
import Derived.Test.YtcjeddichookmaaGreatDoorProg
import Derived.WalkKit
import Derived.WalkSpells
import Derived.WalkLawsBesides
import Derived.Below
import Derived.Deep.QuietTactic
import Derived.BigQuiet
import Derived.Lib.QuietBelow
import Derived.Lib.Strings
import Derived.Lib.Hide
import Derived.Deep.RegionWith
import Derived.Deep.RegionHeld3
import Derived.Lib.IndexBytes
import Derived.Test.YtcjeddichookmaaGreatDoorIZ11
import Derived.Lib.Split
import Derived.Lib.CountLaws
import Derived.Test.YtcjeddichookmaaGreatDoorIZ0
import Derived.Deep.RegionHeldLaw
import Derived.Deep.RegionLaw
import Derived.OwnWalk
import Derived.Test.YtcjeddichookmaaGreatDoorIZ10
import Derived.Test.YtcjeddichookmaaGreatDoorIZ1
namespace Go.Proofs.YtcjeddichookmaaGreatDoor
open Go.RowKit Go.Sort
set_option linter.unusedVariables false
set_option linter.unusedSimpArgs false
set_option maxRecDepth 100000
def canonV (s : ByteArray) : Value := if (parseB s).2 = 0 then textV (parseB s).1.cust (parseB s).1.path (parseB s).1.query else .tuple #[.string ⟨#[]⟩, .int .i64 (parseB s).2]
set_option maxHeartbeats 2000000 in
theorem canonical_any (s : ByteArray) (w : World) (hs : s.size ≤ 4294967281) (hE : Env w) : Calls Tryz.prog 35 #[.string s] w (Ret w (canonV s)) := by
  have cP := parse_any s w hs hE
  have he := parse_errno s
  have hbd := parse_bound s
  unfold canonV
  generalize parseB s = r at *
  obtain ⟨⟨c, ps, qs⟩, er⟩ := r
  dsimp only at he hbd ⊢
  have HP := Lib.hid cP
  have HB := Lib.hid hbd
  clear cP hbd
  rcases he with rfl | rfl | rfl
  · simp only [if_true]
    generalize hv : textV c ps qs = V
    have cT : ∀ A ca B cb W, Reads W 1 A ps.length (ps.map .string) → Reads W 2 B qs.length (pairCells qs) → Calls Tryz.prog 52 #[.agg #[.string c, .slice A ps.length ca, .slice B qs.length cb]] W (Ret W V) := fun A ca B cb W h1 h2 => by
      rw [← hv]
      exact text_any c A B ps.length ca qs.length cb ps qs W h1 h2 (by have := HB.out; omega)
    have HT := Lib.hid cT
    obtain ⟨x, y, hxy⟩ : ∃ x y, V = .tuple #[.string x, .int .i64 y] := by
      rw [← hv]; unfold textV; split <;> exact ⟨_, _, rfl⟩
    clear cT hv
    subst hxy
    go_enter Tryz.func35, Tryz.ntmps35
    go_wp2_with (first | (go_at_call 29; refine HP.out.mono ?_; rintro e w1 ⟨hb1, A, ca, B, cb, rfl, hA, hB, _, _⟩) | (go_at_call 52; refine (HT.out _ _ _ _ _ ?_ ?_).mono ?_; exact hA.keep belB; exact hB.keep belB; rintro e w2 ⟨rfl, hb2⟩))
    go_ret2
    exact ⟨rfl, belB⟩
  all_goals
    rw [if_neg (by decide)]
    go_enter Tryz.func35, Tryz.ntmps35
    go_wp2_with (go_at_call 29; refine HP.out.mono ?_; rintro e w1 ⟨hb1, A, ca, B, cb, rfl, hA, hB, _, _⟩)
    go_ret2
    exact ⟨rfl, belB⟩
def readB (s : ByteArray) : Bool := decide ((parseB s).2 = 0) && (ByteArray.toList ⟨(W06 (parseB s).1.cust (parseB s).1.path (parseB s).1.query).toArray⟩ == s.toList)
def ReadP (a : Adr) (ok : Bool) (w : World) (e : Ending) (w' : World) : Prop :=
  Below w.heap.size w w' ∧ ∃ A ca B cb, e = .returned (.tuple #[.agg #[.string a.cust, .slice A a.path.length ca, .slice B a.query.length cb], .bool ok]) ∧ Reads w' 1 A a.path.length (a.path.map .string) ∧ Reads w' 2 B a.query.length (pairCells a.query)
theorem ReadP.mk_ {c : ByteArray} {ps : List ByteArray} {qs : List (ByteArray × ByteArray)} {ok : Bool} {w w' : World} {A B : Option Addr} {ca cb : Nat} (hb : Below w.heap.size w w') (hA : Reads w' 1 A ps.length (ps.map .string)) (hB : Reads w' 2 B qs.length (pairCells qs)) :
    ReadP ⟨c, ps, qs⟩ ok w (.returned (.tuple #[.agg #[.string c, .slice A ps.length ca, .slice B qs.length cb], .bool ok])) w' := ⟨hb, A, ca, B, cb, rfl, hA, hB⟩
set_option maxHeartbeats 2000000 in
theorem read_any (s : ByteArray) (w : World) (hs : s.size ≤ 4294967281) (hE : Env w) : Calls Tryz.prog 40 #[.string s] w (ReadP (parseB s).1 (readB s) w) := by
  have cP := fun W h => parse_any s W hs h
  have he := parse_errno s
  have hbd := parse_bound s
  unfold readB
  generalize parseB s = r at *
  obtain ⟨⟨c, ps, qs⟩, er⟩ := r
  dsimp only at he hbd ⊢
  have HP := Lib.hid cP
  have HB := Lib.hid hbd
  clear cP hbd
  generalize hT : (ByteArray.mk (W06 c ps qs).toArray) = T
  have cW : ∀ A ca B cb W, Reads W 1 A ps.length (ps.map .string) → Reads W 2 B qs.length (pairCells qs) → Calls Tryz.prog 60 #[.agg #[.string c, .slice A ps.length ca, .slice B qs.length cb]] W (Ret W (.string T)) := fun A ca B cb W h1 h2 => by
    rw [← hT]
    exact write_any c A B ps.length ca qs.length cb ps qs W h1 h2 (by have := HB.out; omega)
  have HW := Lib.hid cW
  clear cW hT
  rcases he with rfl | he
  · simp only [decide_true, Bool.true_and]
    generalize hq : (T.toList == s.toList) = q
    have HQ := Lib.hid hq
    clear hq
    go_enter Tryz.func40, Tryz.ntmps40
    go_wp2_with (go_at_call 29; refine (HP.out _ (hE.keep (balloc (Below.refl _ _) _))).mono ?_; rintro e w1 ⟨hb1, A, ca, B, cb, rfl, hA, hB, hA1, hB1, _⟩; obtain ⟨hc1, hf1⟩ := bcell hb1; have hz1_0 : w.heap.size < w1.heap.size := (by have := hb1.size; (try simp at this); omega))
    have f1 : (w1.alloc (.cells #[.string c, .slice A ps.length ca, .slice B qs.length cb] 66)).cell? ⟨w1.heap.size, 0, none⟩ = some (.string c) := by simp [go_sem]
    have f2 : (w1.alloc (.cells #[.string c, .slice A ps.length ca, .slice B qs.length cb] 66)).cell? ⟨w1.heap.size, 1, none⟩ = some (.slice A ps.length ca) := by simp [go_sem]
    have f3 : (w1.alloc (.cells #[.string c, .slice A ps.length ca, .slice B qs.length cb] 66)).cell? ⟨w1.heap.size, 2, none⟩ = some (.slice B qs.length cb) := by simp [go_sem]
    have f4 : (w1.alloc (.cells #[.string c, .slice A ps.length ca, .slice B qs.length cb] 66)).cell? ⟨w.heap.size, 0, none⟩ = some (.string ⟨#[]⟩) := by simp [go_sem, *]
    have f5 : (w1.alloc (.cells #[.string c, .slice A ps.length ca, .slice B qs.length cb] 66)).cell? ⟨w.heap.size, 1, none⟩ = some (.slice none 0 0) := by simp [go_sem, *]
    have f6 : (w1.alloc (.cells #[.string c, .slice A ps.length ca, .slice B qs.length cb] 66)).cell? ⟨w.heap.size, 2, none⟩ = some (.slice none 0 0) := by simp [go_sem, *]
    have f7 : (w1.alloc (.cells #[.string c, .slice A ps.length ca, .slice B qs.length cb] 66)).frozen? ⟨w.heap.size, 0, none⟩ = false := by simp [go_sem, *]
    have f8 : (w1.alloc (.cells #[.string c, .slice A ps.length ca, .slice B qs.length cb] 66)).frozen? ⟨w.heap.size, 1, none⟩ = false := by simp [go_sem, *]
    have f9 : (w1.alloc (.cells #[.string c, .slice A ps.length ca, .slice B qs.length cb] 66)).frozen? ⟨w.heap.size, 2, none⟩ = false := by simp [go_sem, *]
    have hA2 : ∀ a, A = some a → a.block ≠ w.heap.size := fun a ha => by have := hA1 a ha; simp at this; omega
    have hB2 : ∀ a, B = some a → a.block ≠ w.heap.size := fun a ha => by have := hB1 a ha; simp at this; omega
    have hA3 := hA.keep (balloc (Below.refl _ w1) (.cells #[.string c, .slice A ps.length ca, .slice B qs.length cb] 66))
    have hB3 := hB.keep (balloc (Below.refl _ w1) (.cells #[.string c, .slice A ps.length ca, .slice B qs.length cb] 66))
    have hb3 := balloc (blater _ hb1) (.cells #[.string c, .slice A ps.length ca, .slice B qs.length cb] 66)
    have hne : w1.heap.size ≠ w.heap.size := by omega
    clear hc1 hf1 hA hB hA1 hB1
    generalize hW0 : w1.alloc (.cells #[.string c, .slice A ps.length ca, .slice B qs.length cb] 66) = W0 at *
    clear hW0
    go_region_held3 (fun w' => w'.cell? ⟨w1.heap.size, 0, none⟩ = some (.string c) ∧ w'.cell? ⟨w1.heap.size, 1, none⟩ = some (.slice A ps.length ca) ∧ w'.cell? ⟨w1.heap.size, 2, none⟩ = some (.slice B qs.length cb) ∧ w'.cell? ⟨w.heap.size, 0, none⟩ = some (rd w' ⟨w.heap.size, 0, none⟩) ∧ w'.cell? ⟨w.heap.size, 1, none⟩ = some (rd w' ⟨w.heap.size, 1, none⟩) ∧ w'.cell? ⟨w.heap.size, 2, none⟩ = some (rd w' ⟨w.heap.size, 2, none⟩) ∧ w'.frozen? ⟨w.heap.size, 0, none⟩ = false ∧ w'.frozen? ⟨w.heap.size, 1, none⟩ = false ∧ w'.frozen? ⟨w.heap.size, 2, none⟩ = false ∧ Reads w' 1 A ps.length (ps.map .string) ∧ Reads w' 2 B qs.length (pairCells qs) ∧ Below w.heap.size w w')
      (first | exact ⟨f1, f2, f3, rd_of f4, rd_of f5, rd_of f6, f7, f8, f9, hA3, hB3, Below.drew hb3⟩ | (go_split_ands; exact ⟨cell_keep hb2 ‹_›, cell_keep hb2 ‹_›, cell_keep hb2 ‹_›, rd_keep hb2 ‹_›, rd_keep hb2 ‹_›, rd_keep hb2 ‹_›, frozen_keep hb2 (cell_lt ‹_›) ‹_›, frozen_keep hb2 (cell_lt ‹_›) ‹_›, frozen_keep hb2 (cell_lt ‹_›) ‹_›, Reads.keep ‹_› hb2, Reads.keep ‹_› hb2, bstep ‹_› hb2⟩) | (go_split_ands; refine ⟨?_, ?_, ?_, rd_set (rd_set (rd_set ‹_›)), rd_set (rd_set (rd_set ‹_›)), rd_set (rd_set (rd_set ‹_›)), ?_, ?_, ?_, ((Reads.set_ ‹_› _ _ hA2).set_ _ _ hA2).set_ _ _ hA2, ((Reads.set_ ‹_› _ _ hB2).set_ _ _ hB2).set_ _ _ hB2, ?_⟩ <;> first | (simp [go_sem, *]; done) | (repeat (first | exact .refl _ _ | assumption | refine .drew ?_ | refine balloc ?_ _ | refine bdrewN ?_ _ | refine .setCell ?_ (by simp <;> omega) _ | refine bstep ?_ (by assumption)))))
      ((go_at_call 60; refine (HW.out _ _ _ _ _ (by go_split_ands; assumption) (by go_split_ands; assumption)).mono ?_; rintro e w2 ⟨rfl, hb2⟩))
    go_wp2
    exact bodyPost_ret (v := .tuple #[.agg #[.string c, .slice A ps.length ca, .slice B qs.length cb], .bool q]) (by have g4 := cell_keep (w := W0.drew) hb2 f4; have g5 := cell_keep (w := W0.drew) hb2 f5; have g6 := cell_keep (w := W0.drew) hb2 f6; simp [results, Tryz.results40, go_sem, g4, g5, g6, HQ.out]) rfl (ReadP.mk_ (by go_split_ands; assumption) (by go_split_ands; assumption) (by go_split_ands; assumption))
  rcases he with rfl | rfl
  all_goals
    rw [show (decide ((_ : Int) = 0)) = false from rfl, Bool.false_and]
    go_enter Tryz.func40, Tryz.ntmps40
    go_wp2_with (go_at_call 29; refine (HP.out _ (hE.keep (balloc (Below.refl _ _) _))).mono ?_; rintro e w1 ⟨hb1, A, ca, B, cb, rfl, hA, hB, hA1, hB1, _⟩; obtain ⟨hc1, hf1⟩ := bcell hb1; have hz1_0 : w.heap.size < w1.heap.size := (by have := hb1.size; (try simp at this); omega))
    have f1 : (w1.alloc (.cells #[.string c, .slice A ps.length ca, .slice B qs.length cb] 66)).cell? ⟨w1.heap.size, 0, none⟩ = some (.string c) := by simp [go_sem]
    have f2 : (w1.alloc (.cells #[.string c, .slice A ps.length ca, .slice B qs.length cb] 66)).cell? ⟨w1.heap.size, 1, none⟩ = some (.slice A ps.length ca) := by simp [go_sem]
    have f3 : (w1.alloc (.cells #[.string c, .slice A ps.length ca, .slice B qs.length cb] 66)).cell? ⟨w1.heap.size, 2, none⟩ = some (.slice B qs.length cb) := by simp [go_sem]
    have f4 : (w1.alloc (.cells #[.string c, .slice A ps.length ca, .slice B qs.length cb] 66)).cell? ⟨w.heap.size, 0, none⟩ = some (.string ⟨#[]⟩) := by simp [go_sem, *]
    have f5 : (w1.alloc (.cells #[.string c, .slice A ps.length ca, .slice B qs.length cb] 66)).cell? ⟨w.heap.size, 1, none⟩ = some (.slice none 0 0) := by simp [go_sem, *]
    have f6 : (w1.alloc (.cells #[.string c, .slice A ps.length ca, .slice B qs.length cb] 66)).cell? ⟨w.heap.size, 2, none⟩ = some (.slice none 0 0) := by simp [go_sem, *]
    have f7 : (w1.alloc (.cells #[.string c, .slice A ps.length ca, .slice B qs.length cb] 66)).frozen? ⟨w.heap.size, 0, none⟩ = false := by simp [go_sem, *]
    have f8 : (w1.alloc (.cells #[.string c, .slice A ps.length ca, .slice B qs.length cb] 66)).frozen? ⟨w.heap.size, 1, none⟩ = false := by simp [go_sem, *]
    have f9 : (w1.alloc (.cells #[.string c, .slice A ps.length ca, .slice B qs.length cb] 66)).frozen? ⟨w.heap.size, 2, none⟩ = false := by simp [go_sem, *]
    have hA2 : ∀ a, A = some a → a.block ≠ w.heap.size := fun a ha => by have := hA1 a ha; simp at this; omega
    have hB2 : ∀ a, B = some a → a.block ≠ w.heap.size := fun a ha => by have := hB1 a ha; simp at this; omega
    have hA3 := hA.keep (balloc (Below.refl _ w1) (.cells #[.string c, .slice A ps.length ca, .slice B qs.length cb] 66))
    have hB3 := hB.keep (balloc (Below.refl _ w1) (.cells #[.string c, .slice A ps.length ca, .slice B qs.length cb] 66))
    have hb3 := balloc (blater _ hb1) (.cells #[.string c, .slice A ps.length ca, .slice B qs.length cb] 66)
    have hne : w1.heap.size ≠ w.heap.size := by omega
    clear hc1 hf1 hA hB hA1 hB1
    generalize hW0 : w1.alloc (.cells #[.string c, .slice A ps.length ca, .slice B qs.length cb] 66) = W0 at *
    clear hW0
    go_big_region
    go_wp2
    exact bodyPost_ret (v := .tuple #[.agg #[.string c, .slice A ps.length ca, .slice B qs.length cb], .bool false]) (by simp [results, Tryz.results40, go_sem, f4, f5, f6]) rfl (ReadP.mk_ belB (((hA3.set_ _ _ hA2).set_ _ _ hA2).set_ _ _ hA2) (((hB3.set_ _ _ hB2).set_ _ _ hB2).set_ _ _ hB2))
end Go.Proofs.YtcjeddichookmaaGreatDoor
namespace Go.Proofs.YtcjeddichookmaaGreatDoor
open Go.RowKit Go.Sort
set_option linter.unusedVariables false
set_option linter.unusedSimpArgs false
set_option maxRecDepth 100000
theorem split_eq (c : UInt8) : ∀ (k : Nat) (s : ByteArray), Lib.countB s ⟨#[c]⟩ = k → Lib.splitB ⟨#[c]⟩ 0 k s = splitB c s
  | k, s, h => by
    have hidx : Lib.indexB s ⟨#[c]⟩ = Lib.indexByte s.data.toList c := Lib.index_one s.data.toList c
    by_cases hm : Lib.indexB s ⟨#[c]⟩ = -1
    · rw [Lib.splitB_miss _ _ _ _ hm, splitB_miss c s (by omega)]
    · have hge := Lib.index_ge s.data.toList [c]
      obtain ⟨i, hi⟩ : ∃ i : Nat, Lib.indexB s ⟨#[c]⟩ = i := by
        have : Lib.indexB s ⟨#[c]⟩ = Lib.index s.data.toList [c] := rfl
        exact ⟨(Lib.indexB s ⟨#[c]⟩).toNat, by omega⟩
      have hcount := Lib.countB_hit s ⟨#[c]⟩ i (Nat.le_refl _) hi
      cases k with
      | zero => omega
      | succ k =>
        rw [Lib.splitB_hit _ _ _ _ i hi, (splitB_hit c s i (by rw [← hidx]; exact hi)).1]
        rw [show i + 0 = i from rfl]
        congr 1
        exact split_eq c k _ (by omega)
theorem count_split (c : UInt8) (s : ByteArray) : Lib.countB s ⟨#[c]⟩ + 1 = (splitB c s).length := by
  rw [← split_eq c _ s rfl]
  exact (Lib.splitB_all ⟨#[c]⟩ (Nat.le_refl _) 0 _ s rfl).symm
theorem reads_new (w : World) (t : TypeId) (vs : List Value) (n : Nat) (hn : vs.length = n) : Reads (w.alloc (.cells vs.toArray t)) 1 (some ⟨w.heap.size, 0, none⟩) n vs :=
  ⟨by omega, fun _ => ⟨_, _, rfl, fun j u hu => by
    have := World.news_of_block (w := w.alloc (.cells vs.toArray t)) (World.alloc_heap_new w (.cells vs.toArray t)) j u (by simpa using hu)
    have hadd : (⟨w.heap.size, 0, none⟩ : Addr).add j = ⟨w.heap.size, 0 + j, none⟩ := by unfold Addr.add; split <;> simp_all
    rw [hadd] at this; exact this⟩⟩
def ListPost (ps : List ByteArray) (w : World) (e : Ending) (w' : World) : Prop := Below w.heap.size w w' ∧ ∃ A c, e = .returned (.slice A ps.length c) ∧ Reads w' 1 A ps.length (ps.map .string) ∧ (∀ a, A = some a → w.heap.size ≤ a.block) ∧ ps.length ≤ c
theorem split_any (s : ByteArray) (c : UInt8) (w : World) (hs : s.size ≤ 4294967200) (hE : Env w) : Calls Tryz.prog 53 #[.string s, .string ⟨#[c]⟩] w (ListPost (splitB c s) w) := by
  obtain ⟨m, hm⟩ := hE
  refine (Tryz.strings_Split s ⟨#[c]⟩ m w (by omega) hm (Nat.le_refl _)).mono ?_
  rintro e w' ⟨rfl, rfl⟩
  rw [count_split, split_eq c _ s rfl]
  exact ⟨balloc (Below.refl _ _) _, _, _, rfl, reads_new _ _ _ _ (by simp), fun a ha => by injection ha with ha; subst ha; exact Nat.le_refl _, Nat.le_refl _⟩
def splitR (s : ByteArray) : List ByteArray × Int :=
  if s.toList.isEmpty then ([], 0) else if (tagsR (splitB 44 s)).2 = 0 ∧ ((tagsR (splitB 44 s)).1.toList == s.toList) = true then (splitB 44 s, 0) else ([], 3)
def SplitPost (r : List ByteArray × Int) (w : World) (e : Ending) (w' : World) : Prop := Below w.heap.size w w' ∧ ∃ A c, e = .returned (.tuple #[.slice A r.1.length c, .int .i64 r.2]) ∧ Reads w' 1 A r.1.length (r.1.map .string)
theorem SplitPost.none_ {w w' : World} {er : Int} (hb : Below w.heap.size w w') : SplitPost ([], er) w (.returned (.tuple #[.slice none 0 0, .int .i64 er])) w' := ⟨hb, none, 0, rfl, Reads.nil_ _ _ _⟩
theorem tagsR_err (ps : List ByteArray) : (tagsR ps).2 = 0 ∨ (tagsR ps).2 = 1 ∨ (tagsR ps).2 = 2 := by
  unfold tagsR; split <;> (try split) <;> simp
set_option maxHeartbeats 2000000 in
theorem addrSplit_any (s : ByteArray) (w : World) (hs : s.size ≤ 100000) (hE : Env w) : Calls Tryz.prog 36 #[.string s] w (SplitPost (splitR s) w) := by
  cases hem : s.toList.isEmpty
  · have hr : splitR s = if (tagsR (splitB 44 s)).2 = 0 ∧ ((tagsR (splitB 44 s)).1.toList == s.toList) = true then (splitB 44 s, 0) else ([], 3) := by
      unfold splitR; rw [if_neg (by simp [hem])]
    rw [hr]
    have cS := split_any s 44 w (by omega) hE
    have hnum := splitB_num 44 s
    have hsz := splitB_size 44 s
    have herr := tagsR_err (splitB 44 s)
    have cT := fun A c W h => tags_any A (splitB 44 s).length c (splitB 44 s) W h (by omega) (fun p hp => by have := hsz p hp; omega)
    unfold tagsV at cT
    generalize splitB 44 s = ps at *
    generalize tagsR ps = r at *
    obtain ⟨T, er⟩ := r
    dsimp only at *
    have HT := Lib.hid cT
    have HS := Lib.hid cS
    clear cT cS hr
    have walkbad : ∀ V, V = SplitPost ([], 3) w → (er = 0 → (T.toList == s.toList) = false) → Calls Tryz.prog 36 #[.string s] w V := by
      intro V hV h
      have HV := Lib.hid hV
      rcases herr with rfl | rfl | rfl
      · have h := h rfl
        go_enter Tryz.func36, Tryz.ntmps36
        go_wp2_with (first | (go_at_call 53; refine HS.out.mono ?_; rintro e w1 ⟨hb1, A, c, rfl, hR, hA⟩) | (go_at_call 54; refine (HT.out _ _ _ hR).mono ?_; rintro e w2 ⟨rfl, hb2⟩))
        rw [HV.out]; exact SplitPost.none_ belB
      all_goals
        go_enter Tryz.func36, Tryz.ntmps36
        go_wp2_with (first | (go_at_call 53; refine HS.out.mono ?_; rintro e w1 ⟨hb1, A, c, rfl, hR, hA⟩) | (go_at_call 54; refine (HT.out _ _ _ hR).mono ?_; rintro e w2 ⟨rfl, hb2⟩))
        rw [HV.out]; exact SplitPost.none_ belB
    by_cases hok : er = 0 ∧ (T.toList == s.toList) = true
    · rw [if_pos hok]
      obtain ⟨rfl, he⟩ := hok
      generalize hV : SplitPost (ps, 0) w = V
      have HV := Lib.hid hV
      clear hV
      go_enter Tryz.func36, Tryz.ntmps36
      go_wp2_with (first | (go_at_call 53; refine HS.out.mono ?_; rintro e w1 ⟨hb1, A, c, rfl, hR, hA⟩) | (go_at_call 54; refine (HT.out _ _ _ hR).mono ?_; rintro e w2 ⟨rfl, hb2⟩))
      rw [← HV.out]; exact ⟨belB, A, c, rfl, hR.keep hb2⟩
    · rw [if_neg hok]
      exact walkbad _ rfl (fun h0 => by simpa [h0] using hok)
  · have hr : splitR s = ([], 0) := by unfold splitR; rw [if_pos hem]
    rw [hr]
    go_enter Tryz.func36, Tryz.ntmps36
    go_wp2
    go_ret2
    exact SplitPost.none_ belB
def hasTagB (s tag : ByteArray) : Bool := Lib.containsS (splitR s).1 tag
theorem hasTag_any (s tag : ByteArray) (w : World) (hs : s.size ≤ 100000) (hE : Env w) : Calls Tryz.prog 30 #[.string s, .string tag] w (Ret w (.bool (hasTagB s tag))) := by
  have cS := addrSplit_any s w hs hE
  unfold hasTagB
  have hlen : (splitR s).1.length ≤ 200000 := by
    unfold splitR
    have := splitB_num 44 s
    split
    · simp
    · split
      · simp; omega
      · simp
  generalize splitR s = r at *
  obtain ⟨ps, er⟩ := r
  dsimp only at *
  have HS := Lib.hid cS
  clear cS
  have cK : ∀ (A : Option Addr) (c : Nat) (W : World), Reads W 1 A ps.length (ps.map .string) → Calls Tryz.prog 49 #[.slice A ps.length c, .string tag] W (Ret W (.bool (Lib.containsS ps tag))) := by
    intro A c W hR
    by_cases h0 : ps = []
    · subst h0
      refine (Tryz.slices_Contains_string_empty A c tag W).mono ?_
      rintro e w' ⟨rfl, rfl⟩
      exact ⟨rfl, Below.refl _ _⟩
    · obtain ⟨b, o, rfl, hc⟩ := hR.2 (List.length_pos_iff.2 h0)
      have := Tryz.slices_Contains_string b o ps.length c ps tag W (Nat.le_refl _) (by omega) (fun j hj => by
        refine hc j _ ?_
        rw [List.getElem?_map, List.getElem?_eq_getElem hj]
        simp [List.getD_eq_getElem?_getD, List.getElem?_eq_getElem hj])
      refine this.mono ?_
      rintro e w' ⟨rfl, rfl⟩
      rw [List.take_length]
      exact ⟨rfl, Below.refl _ _⟩
  have HK := Lib.hid cK
  clear cK
  generalize Lib.containsS ps tag = res at *
  go_enter Tryz.func30, Tryz.ntmps30
  go_wp2_with (first | (go_at_call 36; refine HS.out.mono ?_; rintro e w1 ⟨hb1, A, c, rfl, hR⟩) | (go_at_call 49; refine (HK.out _ _ _ hR).mono ?_; rintro e w2 ⟨rfl, hb2⟩))
  go_ret
  exact ⟨rfl, belB⟩
def underB (p a : ByteArray) : Bool :=
  readB p && readB a && !decide (0 < (parseB p).1.query.length) && (Lib.hasPrefix a.data.toList p.data.toList && ((a.data.toList.drop p.size).isEmpty || (a.data.toList.drop p.size).head? == some 47 || (a.data.toList.drop p.size).head? == some 63))
theorem byte_beq (b : UInt8) (c : Nat) (hc : c < 256) : ((b.toNat : Int) == (c : Int)) = (some b == some (UInt8.ofNat c)) := by
  rw [Bool.eq_iff_iff, beq_iff_eq, beq_iff_eq, Option.some_inj, ← UInt8.toNat_inj, UInt8.toNat_ofNat']
  omega
theorem under_bytes (b : UInt8) : ((b.toNat : Int) == 47 || (b.toNat : Int) == 63) = (some b == some 47 || some b == some 63) := by
  have h1 := byte_beq b 47 (by omega)
  have h2 := byte_beq b 63 (by omega)
  rw [show ((b.toNat : Int) == 47) = _ from h1, show ((b.toNat : Int) == 63) = _ from h2]
  rfl
set_option maxHeartbeats 2000000 in
theorem under_any (p a : ByteArray) (w : World) (hp : p.size ≤ 4294967281) (ha : a.size ≤ 4294967281) (hE : Env w) : Calls Tryz.prog 26 #[.string p, .string a] w (Ret w (.bool (underB p a))) := by
  have c1 := fun W h => read_any p W hp h
  have c2 := fun W h => read_any a W ha h
  have c3 := fun W => Tryz.strings_CutPrefix a p W
  unfold underB
  have hql := parse_bound p
  have hrest : Lib.hasPrefix a.data.toList p.data.toList = true → Lib.trimPrefix a.data.toList p.data.toList = a.data.toList.drop p.size := by
    intro h
    unfold Lib.trimPrefix
    rw [if_pos h, Lib.size_eq]
  have hR : (Lib.trimPrefix a.data.toList p.data.toList).length ≤ 4294967281 := by
    unfold Lib.trimPrefix
    have hz := Lib.size_eq a
    split
    · rw [List.length_drop]; omega
    · omega
  have hql2 : (parseB p).1.query.length ≤ 100000 := by
    rcases parse_errno p with h | h | h
    · have := (parse_good p h).pairs; omega
    all_goals rw [parse_err p (by omega)]; simp [noAdr]
  generalize readB p = k1 at *
  generalize readB a = k2 at *
  generalize (parseB p).1 = x at *
  generalize (parseB a).1 = y at *
  generalize Lib.hasPrefix a.data.toList p.data.toList = hp2 at *
  have hv : ∀ R, Lib.trimPrefix a.data.toList p.data.toList = R → (k1 && k2 && !decide (0 < x.query.length) && (hp2 && ((a.data.toList.drop p.size).isEmpty || (a.data.toList.drop p.size).head? == some 47 || (a.data.toList.drop p.size).head? == some 63))) =
      (k1 && k2 && !decide (0 < x.query.length) && (hp2 && (R.isEmpty || R.head? == some 47 || R.head? == some 63))) := by
    intro R hR
    cases hp2
    · simp
    · rw [← hR, hrest rfl]
  rw [hv _ rfl]
  clear hv hrest
  generalize Lib.trimPrefix a.data.toList p.data.toList = R at *
  obtain ⟨nq, hnq⟩ : ∃ nq, nq = x.query.length := ⟨_, rfl⟩
  rw [← hnq] at hql2 ⊢
  have H1 : Hid (∀ W, Env W → Calls Tryz.prog 40 #[.string p] W fun e w' => ∃ A ca B cb, e = .returned (.tuple #[.agg #[.string x.cust, .slice A x.path.length ca, .slice B nq cb], .bool k1]) ∧ Below W.heap.size W w') := Lib.hid (fun W h => (c1 W h).mono (by
    rintro e w' ⟨hb, A, ca, B, cb, rfl, _, _⟩; rw [hnq]; exact ⟨A, ca, B, cb, rfl, hb⟩))
  have H2 : Hid (∀ W, Env W → Calls Tryz.prog 40 #[.string a] W fun e w' => ∃ A ca B cb, e = .returned (.tuple #[.agg #[.string y.cust, .slice A y.path.length ca, .slice B y.query.length cb], .bool k2]) ∧ Below W.heap.size W w') := Lib.hid (fun W h => (c2 W h).mono (by
    rintro e w' ⟨hb, A, ca, B, cb, rfl, _, _⟩; exact ⟨A, ca, B, cb, rfl, hb⟩))
  have H3 := Lib.hid c3
  clear c1 c2 c3 hql hnq
  cases k1
  · simp only [Bool.false_and]
    go_enter Tryz.func26, Tryz.ntmps26
    go_wp2_with (first | (go_at_call 40; refine (H1.out _ hE).mono ?_; rintro e w1 ⟨A, ca, B, cb, rfl, hb1⟩; have hE1 := Env.keep (Env.keep hE hb1) (balloc (Below.refl _ _) (.cells #[.string x.cust, .slice A x.path.length ca, .slice B nq cb] 66)); clear hE) | (go_at_call 40; refine (H2.out _ hE1).mono ?_; rintro e w2 ⟨A2, ca2, B2, cb2, rfl, hb2⟩; obtain ⟨hc2, hf2⟩ := bcell hb2; have hz2 : w1.heap.size < w2.heap.size := (by have := hb2.size; simp at this; omega); clear hE1))
    go_ret
    exact ⟨rfl, belB⟩
  cases k2
  · simp only [Bool.and_false, Bool.false_and]
    go_enter Tryz.func26, Tryz.ntmps26
    go_wp2_with (first | (go_at_call 40; refine (H1.out _ hE).mono ?_; rintro e w1 ⟨A, ca, B, cb, rfl, hb1⟩; have hE1 := Env.keep (Env.keep hE hb1) (balloc (Below.refl _ _) (.cells #[.string x.cust, .slice A x.path.length ca, .slice B nq cb] 66)); clear hE) | (go_at_call 40; refine (H2.out _ hE1).mono ?_; rintro e w2 ⟨A2, ca2, B2, cb2, rfl, hb2⟩; obtain ⟨hc2, hf2⟩ := bcell hb2; have hz2 : w1.heap.size < w2.heap.size := (by have := hb2.size; simp at this; omega); clear hE1))
    go_ret
    exact ⟨rfl, belB⟩
  by_cases h0 : 0 < nq
  · have hd : decide ((0 : Int) < (nq : Int)) = true := by simp; omega
    rw [show decide (0 < nq) = true by simpa using h0]
    simp only [Bool.and_self, Bool.not_true, Bool.and_false, Bool.false_and]
    go_enter Tryz.func26, Tryz.ntmps26
    go_wp2_with (first | (go_at_call 40; refine (H1.out _ hE).mono ?_; rintro e w1 ⟨A, ca, B, cb, rfl, hb1⟩; have hE1 := Env.keep (Env.keep hE hb1) (balloc (Below.refl _ _) (.cells #[.string x.cust, .slice A x.path.length ca, .slice B nq cb] 66)); clear hE) | (go_at_call 40; refine (H2.out _ hE1).mono ?_; rintro e w2 ⟨A2, ca2, B2, cb2, rfl, hb2⟩; obtain ⟨hc2, hf2⟩ := bcell hb2; have hz2 : w1.heap.size < w2.heap.size := (by have := hb2.size; simp at this; omega); clear hE1))
    go_ret
    exact ⟨rfl, belB⟩
  have hd : decide ((0 : Int) < (nq : Int)) = false := by simp; omega
  rw [show decide (0 < nq) = false by simpa using h0]
  simp only [Bool.and_self, Bool.not_false, Bool.true_and]
  cases hp2
  · simp only [Bool.false_and]
    go_enter Tryz.func26, Tryz.ntmps26
    go_wp2_with (first | (go_at_call 40; refine (H1.out _ hE).mono ?_; rintro e w1 ⟨A, ca, B, cb, rfl, hb1⟩; have hE1 := Env.keep (Env.keep hE hb1) (balloc (Below.refl _ _) (.cells #[.string x.cust, .slice A x.path.length ca, .slice B nq cb] 66)); clear hE) | (go_at_call 40; refine (H2.out _ hE1).mono ?_; rintro e w2 ⟨A2, ca2, B2, cb2, rfl, hb2⟩; obtain ⟨hc2, hf2⟩ := bcell hb2; have hz2 : w1.heap.size < w2.heap.size := (by have := hb2.size; simp at this; omega); clear hE1) | (go_at_call 41; refine (H3.out _).mono ?_; rintro e w3 ⟨rfl, hw3⟩; rw [hw3]; clear hw3 w3))
    go_ret
    exact ⟨rfl, belB⟩
  cases R with
  | nil =>
    go_enter Tryz.func26, Tryz.ntmps26
    go_wp2_with (first | (go_at_call 40; refine (H1.out _ hE).mono ?_; rintro e w1 ⟨A, ca, B, cb, rfl, hb1⟩; have hE1 := Env.keep (Env.keep hE hb1) (balloc (Below.refl _ _) (.cells #[.string x.cust, .slice A x.path.length ca, .slice B nq cb] 66)); clear hE) | (go_at_call 40; refine (H2.out _ hE1).mono ?_; rintro e w2 ⟨A2, ca2, B2, cb2, rfl, hb2⟩; obtain ⟨hc2, hf2⟩ := bcell hb2; have hz2 : w1.heap.size < w2.heap.size := (by have := hb2.size; simp at this; omega); clear hE1) | (go_at_call 41; refine (H3.out _).mono ?_; rintro e w3 ⟨rfl, hw3⟩; rw [hw3]; clear hw3 w3))
    go_ret
    exact ⟨rfl, belB⟩
  | cons b r =>
    simp only [Bool.true_and, List.isEmpty_cons, Bool.false_or, List.head?_cons]
    go_enter Tryz.func26, Tryz.ntmps26
    go_wp2_with (first | (go_at_call 40; refine (H1.out _ hE).mono ?_; rintro e w1 ⟨A, ca, B, cb, rfl, hb1⟩; have hE1 := Env.keep (Env.keep hE hb1) (balloc (Below.refl _ _) (.cells #[.string x.cust, .slice A x.path.length ca, .slice B nq cb] 66)); clear hE) | (go_at_call 40; refine (H2.out _ hE1).mono ?_; rintro e w2 ⟨A2, ca2, B2, cb2, rfl, hb2⟩; obtain ⟨hc2, hf2⟩ := bcell hb2; have hz2 : w1.heap.size < w2.heap.size := (by have := hb2.size; simp at this; omega); clear hE1) | (go_at_call 41; refine (H3.out _).mono ?_; rintro e w3 ⟨rfl, hw3⟩; rw [hw3]; clear hw3 w3))
    all_goals
      go_ret
      refine ⟨ret_bool ?_, belB⟩
      rw [← under_bytes]
      first | rfl | (rename_i hh; have hh2 : (b.toNat : Int) = 47 := hh; rw [hh2]; rfl)
end Go.Proofs.YtcjeddichookmaaGreatDoor
namespace Go.Proofs.YtcjeddichookmaaGreatDoor
open Go.RowKit Go.Sort
set_option linter.unusedVariables false
set_option linter.unusedSimpArgs false
set_option maxRecDepth 100000
theorem index_hit (a b : List UInt8) (c : UInt8) (h : c ∉ a) : Lib.index (a ++ c :: b) [c] = a.length := by
  rw [Lib.index_one]
  induction a with
  | nil => simp [indexByte_cons]
  | cons x a ih =>
    simp only [List.mem_cons, not_or] at h
    rw [List.cons_append, indexByte_cons, if_neg (fun e => h.1 e.symm), ih h.2, if_neg (by omega)]
    simp
theorem indexByte_miss (a : List UInt8) (c : UInt8) (h : c ∉ a) : Lib.indexByte a c = -1 := by
  induction a with
  | nil => rfl
  | cons x a ih =>
    simp only [List.mem_cons, not_or] at h
    rw [indexByte_cons, if_neg (fun e => h.1 e.symm), ih h.2, if_pos rfl]
theorem index_miss (a : List UInt8) (c : UInt8) (h : c ∉ a) : Lib.index a [c] = -1 := by
  rw [Lib.index_one]; exact indexByte_miss a c h
theorem cut_hit (a b : List UInt8) (c : UInt8) (h : c ∉ a) : Lib.cut (a ++ c :: b) [c] = (a, b, true) := by
  unfold Lib.cut
  rw [index_hit a b c h, if_pos (by omega)]
  simp
theorem cut_none (a : List UInt8) (c : UInt8) (h : c ∉ a) : Lib.cut a [c] = (a, [], false) := by
  unfold Lib.cut
  rw [index_miss a c h, if_neg (by omega)]
theorem name_word {s : ByteArray} (h : isNameB s = true) : isWordB s = true := by
  unfold isNameB at h
  simp only [Bool.and_eq_true] at h
  exact h.1
end Go.Proofs.YtcjeddichookmaaGreatDoor
namespace Go.Proofs.YtcjeddichookmaaGreatDoor
open Go.RowKit Go.Sort
set_option linter.unusedVariables false
set_option linter.unusedSimpArgs false
set_option maxRecDepth 100000
structure Pat where
  cust : Part
  parts : List Part
  tail : Bool
def partCells (ps : List Part) : List Value := ps.flatMap fun p => [.int .i64 p.kind, .string p.text]
def partOkB (w : ByteArray) : Bool := w.toList == [42] || isWordB w || (decide (w.size ≤ 34) && Lib.hasPrefix w.data.toList [42, 46] && isWordB (w.extract 2 w.size))
def cmpL : List ByteArray → List Part → Option (List Part × Bool)
  | [], acc => some (acc, false)
  | w :: r, acc => if w.toList == [42, 42] && r.isEmpty then some (acc, true) else if partOkB w then cmpL r (acc ++ [partOfP w]) else none
def headOkB (l0 : ByteArray) : Bool := l0.toList == [42] || isNameB l0
def compL : List ByteArray → Option Pat
  | [] => none
  | l0 :: r => if r.length ≤ 32 && headOkB l0 then (cmpL r []).map fun x => ⟨partOfP l0, x.1, x.2⟩ else none
def compileB (s : ByteArray) : Option Pat := compL (splitB 47 s)
def CompPost (r : Option Pat) (w : World) (e : Ending) (w' : World) : Prop :=
  Below w.heap.size w w' ∧ match r with
  | none => ∃ (k : Nat) (t : ByteArray) (A : Option Addr) (n c : Nat) (b : Bool), e = .returned (.tuple #[.agg #[.int .i64 k, .string t, .slice A n c, .bool b], .bool false])
  | some p => ∃ A c, e = .returned (.tuple #[.agg #[.int .i64 p.cust.kind, .string p.cust.text, .slice A p.parts.length c, .bool p.tail], .bool true]) ∧ Reads w' 2 A p.parts.length (partCells p.parts) ∧ ∀ a, A = some a → w.heap.size ≤ a.block
theorem CompPost.none_ {w w' : World} (k : Nat) (t : ByteArray) (A : Option Addr) (n c : Nat) (b : Bool) (hb : Below w.heap.size w w') : CompPost none w (.returned (.tuple #[.agg #[.int .i64 k, .string t, .slice A n c, .bool b], .bool false])) w' := ⟨hb, k, t, A, n, c, b, rfl⟩
end Go.Proofs.YtcjeddichookmaaGreatDoor
namespace Go.Proofs.YtcjeddichookmaaGreatDoor
open Go.RowKit Go.Sort
set_option linter.unusedVariables false
set_option linter.unusedSimpArgs false
set_option maxRecDepth 100000
def wordsL (ps : List Part) : List ByteArray := ps.map fun p => withP p.kind p.text ⟨#[97]⟩
def joinS (ws : List ByteArray) : ByteArray := toB (Lib.join (lists ws) [47])
end Go.Proofs.YtcjeddichookmaaGreatDoor
namespace Go.Proofs.YtcjeddichookmaaGreatDoor
open Go.RowKit Go.Sort
set_option linter.unusedVariables false
set_option linter.unusedSimpArgs false
set_option maxRecDepth 100000
def matchesL : List Part → List ByteArray → Bool
  | [], _ => true
  | p :: ps, w :: ws => hasP p.kind p.text w && matchesL ps ws
  | _ :: _, [] => false
def matchP (x : Pat) (a : Adr) : Bool :=
  hasP x.cust.kind x.cust.text a.cust && !decide (a.path.length < x.parts.length) && !(decide (x.parts.length < a.path.length) && !x.tail) && matchesL x.parts a.path
def matchB (p q : ByteArray) : Bool := match compileB p with
  | none => false
  | some x => readB q && matchP x (parseB q).1
end Go.Proofs.YtcjeddichookmaaGreatDoor
namespace Go.Proofs.YtcjeddichookmaaGreatDoor
open Go.RowKit Go.Sort
set_option linter.unusedVariables false
set_option linter.unusedSimpArgs false
set_option maxRecDepth 100000
def nb (s : ByteArray) : List Nat := s.data.toList.map (·.toNat)
theorem nb_len (s : ByteArray) : (nb s).length = s.size := by
  unfold nb
  rw [List.length_map, Array.length_toList]; rfl
theorem nb_lt (s : ByteArray) : ∀ x ∈ nb s, x < 256 := by
  intro x hx
  obtain ⟨b, _, rfl⟩ := List.mem_map.1 hx
  exact b.toNat_lt
theorem txt_nb (s : ByteArray) : txtCells s = b8 (nb s) := by
  unfold txtCells b8 nb
  rw [List.map_map]; rfl
def stL (s : Sha.St) : List Nat := [s.a, s.b, s.c, s.d, s.e, s.f, s.g, s.h]
def strLH (s : Sha.St) (blk : List Nat) (n : Nat) : List Value := w32 (stL s) ++ (b8 blk ++ [.int .u64 (n : Int)])
theorem b8_len (l : List Nat) : (b8 l).length = l.length := by simp [b8]
theorem b8_app (a b : List Nat) : b8 (a ++ b) = b8 a ++ b8 b := by simp [b8]
theorem b8_take (a : List Nat) (k : Nat) : b8 (a.take k) = (b8 a).take k := by simp [b8]
theorem b8_drop (a : List Nat) (k : Nat) : b8 (a.drop k) = (b8 a).drop k := by simp [b8]
theorem b8_one (L : List Nat) : ∀ v ∈ b8 L, v.oneCell' = true := by
  intro v hv
  obtain ⟨_, _, rfl⟩ := List.mem_map.1 hv
  rfl
section
variable {s : Sha.St} {blk : List Nat} {n : Nat}
theorem stL_len (s : Sha.St) : (w32 (stL s)).length = 8 := rfl
theorem strLH_len (h : blk.length = 64) : (strLH s blk n).length = 73 := by
  unfold strLH
  rw [List.length_append, List.length_append, stL_len, b8_len, h]; rfl
theorem strL_blk (h : blk.length = 64) {j : Nat} (hj : j < 64) : (strLH s blk n)[8 + j]? = some (.int .u8 (blk.getD j 0 : Nat)) := by
  unfold strLH
  rw [List.getElem?_append_right (by rw [stL_len]; omega), stL_len, Nat.add_sub_cancel_left, List.getElem?_append_left (by rw [b8_len]; omega)]
  exact b8_at blk (by omega)
theorem strL_n (h : blk.length = 64) : (strLH s blk n)[72]? = some (.int .u64 (n : Int)) := by
  unfold strLH
  rw [List.getElem?_append_right (by rw [stL_len]; omega), stL_len, List.getElem?_append_right (by rw [b8_len]; omega), b8_len, h]
  rfl
theorem strL_st {j : Nat} {v : Value} (h : (w32 (stL s))[j]? = some v) : (strLH s blk n)[j]? = some v := by
  unfold strLH
  rw [List.getElem?_append_left (List.getElem?_eq_some_iff.1 h).1]; exact h
theorem strL_put (h : blk.length = 64) {a : Nat} {x : List Nat} (hx : a + x.length ≤ 64) : splice (strLH s blk n) (8 + a) (b8 x) = strLH s (Sha.put blk a x) n := by
  unfold splice strLH Sha.put
  rw [List.take_append, List.take_of_length_le (by rw [stL_len]; omega), stL_len, Nat.add_sub_cancel_left, List.take_append_of_le_length (by rw [b8_len]; omega), b8_len,
    List.drop_append, List.drop_eq_nil_of_le (by rw [stL_len]; omega), stL_len, show 8 + a + x.length - 8 = a + x.length by omega, List.nil_append, List.drop_append_of_le_length (by rw [b8_len]; omega)]
  simp only [b8_app, b8_take, b8_drop, List.append_assoc]
theorem strL_st_put (s' : Sha.St) : splice (strLH s blk n) 0 (w32 (stL s')) = strLH s' blk n := by
  unfold splice strLH
  rw [List.take_zero, List.nil_append, stL_len, List.drop_append, List.drop_eq_nil_of_le (by rw [stL_len]; omega), stL_len]
  rfl
theorem strL_set (h : blk.length = 64) (n' : Nat) : (strLH s blk n).set 72 (.int .u64 (n' : Int)) = strLH s blk n' := by
  unfold strLH
  rw [List.set_append_right _ _ (by rw [stL_len]; omega), stL_len, List.set_append_right _ _ (by rw [b8_len]; omega), b8_len, h]
  rfl
theorem strL_one : ∀ v ∈ strLH s blk n, v.oneCell' = true := by
  intro v hv
  unfold strLH at hv
  rcases List.mem_append.1 hv with hv | hv
  · exact w32_one _ v hv
  · rcases List.mem_append.1 hv with hv | hv
    · exact b8_one _ v hv
    · rw [List.mem_singleton.1 hv]; rfl
end
def StrV (m : List Nat) (v : Value) : Prop := ∃ st blk, v = .agg (strLH st blk m.length).toArray ∧ Sha.Str m st blk ∧ ∀ x ∈ blk, x < 256
theorem put_lt {blk x : List Nat} {a : Nat} (h : ∀ z ∈ blk, z < 256) (hx : ∀ z ∈ x, z < 256) : ∀ z ∈ Sha.put blk a x, z < 256 := by
  intro z hz
  unfold Sha.put at hz
  rcases List.mem_append.1 hz with hz | hz
  · exact h z (List.mem_of_mem_take hz)
  · rcases List.mem_append.1 hz with hz | hz
    · exact hx z hz
    · exact h z (List.mem_of_mem_drop hz)
end Go.Proofs.YtcjeddichookmaaGreatDoor
