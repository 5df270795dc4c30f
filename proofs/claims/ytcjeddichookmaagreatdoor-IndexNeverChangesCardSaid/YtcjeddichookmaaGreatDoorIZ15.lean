/- Plain: which addresses are well formed, and which are under which. -/
import Derived.Test.YtcjeddichookmaaGreatDoorIZ13
import Derived.Sort.Walk0
import Derived.Test.YtcjeddichookmaaGreatDoorProg
import Derived.WalkKit
import Derived.WalkSpells
import Derived.WalkLawsBesides
import Derived.Below
import Derived.Deep.QuietTactic
import Derived.BigQuiet
import Derived.Lib.QuietBelow
import Derived.Lib.Strings
import Derived.Lib.Hide
import Derived.Deep.RegionWith
import Derived.Deep.RegionHeld3
import Derived.Lib.IndexBytes
import Derived.Test.YtcjeddichookmaaGreatDoorIZ12
import Derived.OwnWalk
import Derived.Test.YtcjeddichookmaaGreatDoorIZ11
import Derived.Test.YtcjeddichookmaaGreatDoorIZ7
import Derived.Test.YtcjeddichookmaaGreatDoorIZ8
import Derived.Test.YtcjeddichookmaaGreatDoorIZ9
import Derived.Deep.DeepCutAuto
import Derived.Test.YtcjeddichookmaaGreatDoorIZ0
namespace Go.Proofs.YtcjeddichookmaaGreatDoor
open Go.RowKit Go.Sort
set_option linter.unusedVariables false
set_option linter.unusedSimpArgs false
set_option maxRecDepth 100000
theorem key_less (a b : ByteArray) : (!(Op.bytesLess a.toList b.toList || a.toList == b.toList)) = decide (b.data.toList < a.data.toList) := by
  rw [bytesLess_eq, Lib.toList_data, Lib.toList_data, Bool.eq_iff_iff]
  simp only [Bool.not_eq_true', Bool.or_eq_false_iff, decide_eq_false_iff_not, beq_eq_false_iff_ne, decide_eq_true_eq]
  constructor
  · rintro ⟨h1, h2⟩; exact lt_tri _ _ h2 h1
  · intro h
    exact ⟨fun h1 => List.lt_irrefl _ (List.lt_trans h h1), fun e => List.lt_irrefl _ (by rw [e] at h; exact h)⟩
theorem pairK_at (qs : List (ByteArray × ByteArray)) (k : Nat) (hk : k < qs.length) : pairK qs k = true ↔ isNameB qs[k].1 = true ∧ isWordB qs[k].2 = true ∧ (k = 0 ∨ ∃ h : k - 1 < qs.length, qs[k - 1].1.data.toList < qs[k].1.data.toList) := by
  unfold pairK
  rw [List.getElem?_eq_getElem hk]
  simp only [Bool.and_eq_true, Bool.or_eq_true, beq_iff_eq]
  have hk1 : k - 1 < qs.length := by omega
  rw [List.getElem?_eq_getElem hk1]
  simp only [Option.getD_some]
  rw [key_less, decide_eq_true_eq]
  constructor
  · rintro ⟨⟨h1, h2⟩, h3⟩
    exact ⟨h1, h2, h3.imp id fun h => ⟨hk1, h⟩⟩
  · rintro ⟨h1, h2, h3⟩
    exact ⟨⟨h1, h2⟩, h3.imp id fun ⟨_, h⟩ => h⟩
theorem formed_iff (c : ByteArray) (xs : List ByteArray) (qs : List (ByteArray × ByteArray)) : formedB c xs qs = true ↔ AdrGood ⟨c, xs, qs⟩ ∧ (W06 c xs qs).length ≤ 4096 := by
  unfold formedB headOk
  simp only [Bool.and_eq_true, decide_eq_true_eq, List.all_eq_true, List.mem_range]
  constructor
  · rintro ⟨⟨⟨⟨⟨h1, h2⟩, h3⟩, h4⟩, h5⟩, h6⟩
    have hat := fun k hk => (pairK_at qs k hk).1 (h5 k hk)
    refine ⟨⟨h1, h4, h2, h3, ?_, ?_⟩, h6⟩
    · intro q hq
      obtain ⟨k, hk, rfl⟩ := List.getElem_of_mem hq
      exact ⟨(hat k hk).1, (hat k hk).2.1⟩
    · unfold KeysUp
      rw [List.pairwise_iff_getElem]
      intro i j
      induction j with
      | zero => intro _ _ h; omega
      | succ j ih =>
        intro hi hj hij
        rcases (hat (j + 1) hj).2.2 with h | ⟨h, h7⟩
        · omega
        · have e : j + 1 - 1 = j := rfl
          simp only [e] at h7
          by_cases hij2 : i = j
          · subst hij2; exact h7
          · exact List.lt_trans (ih hi (by omega) (by omega)) h7
  · rintro ⟨⟨h1, h4, h2, h3, h5, h7⟩, h6⟩
    refine ⟨⟨⟨⟨⟨h1, h2⟩, h3⟩, h4⟩, fun k hk => ?_⟩, h6⟩
    rw [pairK_at qs k hk]
    have hq := h5 qs[k] (List.getElem_mem hk)
    refine ⟨hq.1, hq.2, ?_⟩
    by_cases h0 : k = 0
    · exact .inl h0
    · have hk1 : k - 1 < qs.length := by omega
      exact .inr ⟨hk1, List.pairwise_iff_getElem.1 h7 (k - 1) k hk1 hk (by omega)⟩
section
variable {c : ByteArray} {ws : List ByteArray} (hc : isNameB c = true) (hw : ∀ w ∈ ws, isWordB w = true) (hn : ws.length ≤ 32)
include hc hw hn
end
end Go.Proofs.YtcjeddichookmaaGreatDoor
namespace Go.Proofs.YtcjeddichookmaaGreatDoor
open Go.RowKit Go.Sort
set_option linter.unusedVariables false
set_option linter.unusedSimpArgs false
set_option maxRecDepth 100000
def totP (l : List (List UInt8)) : Nat := (pathL l).length
theorem totP_cons (x : List UInt8) (l : List (List UInt8)) : totP (x :: l) = x.length + 1 + totP l := by simp [totP, pathL]; omega
theorem totP_nil : totP [] = 0 := rfl
theorem totP_app (a b : List (List UInt8)) : totP (a ++ b) = totP a + totP b := by simp [totP, pathL]
theorem split_tot (c : UInt8) : ∀ l : List UInt8, totP (splitL c l) = l.length + 1
  | [] => by simp [splitL, totP_cons, totP_nil]
  | b :: l => by
    have ih := split_tot c l
    unfold splitL
    split
    · rw [totP_cons, ih]; simp; omega
    · cases hs : splitL c l with
      | nil => exact absurd hs (splitL_ne c l)
      | cons p ps =>
        rw [hs, totP_cons] at ih
        simp only [totP_cons, List.length_cons]
        omega
theorem lists_split (c : UInt8) (s : ByteArray) : lists (splitB c s) = splitL c s.data.toList := by
  unfold splitB lists
  rw [List.map_map]
  conv => rhs; rw [← List.map_id (splitL c s.data.toList)]
  exact List.map_congr_left fun x _ => rfl
theorem totP_dropLast (l : List ByteArray) : totP (lists l.dropLast) ≤ totP (lists l) := by
  rcases List.eq_nil_or_concat l with rfl | ⟨a, x, rfl⟩
  · exact Nat.le_refl _
  · rw [List.concat_eq_append, List.dropLast_concat]
    unfold lists
    rw [List.map_append, totP_app]
    omega
theorem res_tot : ∀ (ps out r : List ByteArray), resB out ps = some r → totP (lists r) ≤ totP (lists out) + totP (lists ps)
  | [], out, r, e => by simp [resB] at e; subst e; simp [lists, totP_nil]
  | p :: ps, out, r, e => by
    rw [resB] at e
    cases hs : resStep out p with
    | none => rw [hs] at e; cases e
    | some o =>
      rw [hs, Option.bind_some] at e
      have ih := res_tot ps o r e
      have ho : totP (lists o) ≤ totP (lists out) + (p.data.toList.length + 1) := by
        unfold resStep at hs
        split at hs
        · injection hs with hs; subst hs; omega
        · split at hs
          · injection hs with hs; subst hs
            have := totP_dropLast out
            omega
          · split at hs
            · injection hs with hs; subst hs
              unfold lists
              rw [List.map_append, totP_app, List.map_cons, totP_cons]
              simp [totP_nil]
            · cases hs
      have hp : totP (lists (p :: ps)) = p.data.toList.length + 1 + totP (lists ps) := totP_cons _ _
      omega
def totQ : List (List UInt8 × List UInt8) → Nat
  | [] => 0
  | q :: l => q.1.length + q.2.length + 2 + totQ l
theorem query_tot : ∀ (sep : UInt8) (l : List (List UInt8 × List UInt8)), (queryL sep l).length = totQ l
  | _, [] => rfl
  | sep, (k, v) :: l => by simp [queryL, totQ, query_tot 38 l]; omega
theorem insL_tot (p : List UInt8 × List UInt8) : ∀ l : List (List UInt8 × List UInt8), totQ (insL l p) ≤ totQ l + (p.1.length + p.2.length + 2)
  | [] => by simp [insL, totQ]
  | q :: l => by
    unfold insL
    have ih := insL_tot p l
    split
    · simp only [totQ]; omega
    · split <;> simp only [totQ] <;> omega
theorem fold_tot : ∀ (l acc : List (List UInt8 × List UInt8)), totQ (l.foldl insL acc) ≤ totQ acc + totQ l
  | [], acc => by simp [totQ]
  | p :: l, acc => by
    have h1 := fold_tot l (insL acc p)
    have h2 := insL_tot p acc
    rw [List.foldl_cons]
    simp only [totQ]
    omega
theorem totQ_app : ∀ (a b : List (List UInt8 × List UInt8)), totQ (a ++ b) = totQ a + totQ b
  | [], b => by simp [totQ]
  | q :: a, b => by simp only [List.cons_append, totQ, totQ_app a b]; omega
theorem cut_tot (l : List UInt8) (c : UInt8) : (Lib.cut l [c]).1.length + (if (Lib.cut l [c]).2.2 then 1 + (Lib.cut l [c]).2.1.length else 0) = l.length ∧ ((Lib.cut l [c]).2.2 = false → (Lib.cut l [c]).2.1 = []) := by
  by_cases h : c ∈ l
  · obtain ⟨a, b, rfl, hna⟩ : ∃ a b, l = a ++ c :: b ∧ c ∉ a := by
      induction l with
      | nil => simp at h
      | cons x l ih =>
        by_cases e : x = c
        · subst e; exact ⟨[], l, rfl, by simp⟩
        · rcases List.mem_cons.1 h with h | h
          · exact absurd h.symm e
          · obtain ⟨a, b, h1, h2⟩ := ih h
            exact ⟨x :: a, b, by rw [h1]; rfl, by simp [h2]; exact fun e2 => e e2.symm⟩
    rw [cut_hit a b c hna]
    simp
    omega
  · rw [cut_none l c h]
    simp
theorem qAcc_tot : ∀ (ps : List ByteArray) (acc r : List (List UInt8 × List UInt8)), qAcc acc ps = some r → totQ r ≤ totQ acc + totP (lists ps)
  | [], acc, r, e => by simp [qAcc] at e; subst e; simp [lists, totP_nil]
  | p :: ps, acc, r, e => by
    rw [qAcc] at e
    cases hs : parsePair p with
    | none => rw [hs] at e; cases e
    | some x =>
      rw [hs] at e
      have ih := qAcc_tot ps _ r e
      have hx : x.1.length + x.2.length + 1 = p.data.toList.length := by
        unfold parsePair at hs
        split at hs
        · rename_i hc
          injection hs with hs
          subst hs
          simp only [Bool.and_eq_true] at hc
          have := (cut_tot p.data.toList 61).1
          rw [hc.1.1] at this
          simp only [if_true] at this
          dsimp only
          omega
        · cases hs
      have hp : totP (lists (p :: ps)) = p.data.toList.length + 1 + totP (lists ps) := totP_cons _ _
      rw [totQ_app] at ih
      simp only [totQ] at ih
      omega
theorem pairs_tot (q : List UInt8) (r : List (ByteArray × ByteArray)) (h : pairsB (toB q) = some r) : totQ (lists2 r) ≤ (if q = [] then 0 else q.length + 1) := by
  unfold pairsB at h
  split at h
  · injection h with h; subst h; simp [lists2, totQ]
  · rename_i hne
    rw [Lib.toList_data] at hne
    have hq : q ≠ [] := fun e => hne (by rw [e]; rfl)
    rw [if_neg hq]
    obtain ⟨acc, ha, rfl⟩ := Option.map_eq_some_iff.1 h
    have h1 := qAcc_tot _ _ _ ha
    rw [lists_split, split_tot] at h1
    have h2 := fold_tot acc []
    have h3 : lists2 ((pairsL acc).map fun q => (toB q.1, toB q.2)) = pairsL acc := by
      unfold lists2
      rw [List.map_map]
      conv => rhs; rw [← List.map_id (pairsL acc)]
      exact List.map_congr_left fun x _ => rfl
    rw [h3]
    unfold pairsL
    simp only [totQ] at h1 h2
    have h4 : (toB q).data.toList.length = q.length := rfl
    omega
theorem trimS_le (l : List UInt8) : (Lib.trimSuffix l [47]).length ≤ l.length := trim_len l [47]
theorem parse_short (s : ByteArray) (h : (parseB s).2 = 0) : (W06 (parseB s).1.cust (parseB s).1.path (parseB s).1.query).length ≤ s.size ∧ s.size ≤ 4096 := by
  unfold parseB at h ⊢
  split at h
  · cases h
  · rename_i hs
    rw [if_neg hs]
    refine ⟨?_, by omega⟩
    have hl0 := cut_tot (lowL s.data.toList) 63
    have hc0 := cut_tot (Lib.trimSuffix (leftL s).1 [47]) 47
    have ht := trimS_le (leftL s).1
    have hlow := lowL_len s.data.toList
    have hp : ∀ p, pathB (custL s) = some p → totP (lists p) ≤ if (custL s).2.2 then 1 + (custL s).2.1.length else 0 := by
      intro p hp
      unfold pathB at hp
      split at hp
      · rename_i hm
        have := res_tot _ _ _ hp
        rw [lists_split, split_tot] at this
        have e : (toB (custL s).2.1).data.toList.length = (custL s).2.1.length := rfl
        simp only [lists, List.map_nil, totP_nil] at this
        rw [if_pos hm]
        unfold lists
        omega
      · injection hp with hp; subst hp; simp [lists, totP_nil]
    have hq := fun r h => pairs_tot (leftL s).2.1 r h
    rw [size_data, ← hlow]
    change (leftL s).1.length + (if (leftL s).2.2 then 1 + (leftL s).2.1.length else 0) = _ ∧ _ at hl0
    change (custL s).1.length + (if (custL s).2.2 then 1 + (custL s).2.1.length else 0) = _ ∧ _ at hc0
    generalize pathB (custL s) = rr at *
    generalize pairsB (toB (leftL s).2.1) = qq at *
    generalize isNameB (toB (custL s).1) = nm at *
    unfold adrOf at h ⊢
    split at h
    · split at h
      · rename_i hl
        rw [if_pos hl]
        dsimp only
        have h1 := hp _ rfl
        have h2 := hq _ rfl
        unfold W06 writeL
        rw [List.length_append, List.length_append, query_tot]
        have e1 : (toB (custL s).1).data.toList.length = (custL s).1.length := rfl
        unfold totP at h1
        have h3 : (if (leftL s).2.1 = [] then 0 else (leftL s).2.1.length + 1) ≤ if (leftL s).2.2 then 1 + (leftL s).2.1.length else 0 := by
          split
          · omega
          · rename_i hne
            cases hb : (leftL s).2.2
            · exact absurd (hl0.2 hb) hne
            · simp; omega
        omega
      · cases h
    · cases h
end Go.Proofs.YtcjeddichookmaaGreatDoor
namespace Go.Proofs.YtcjeddichookmaaGreatDoor
open Go.RowKit Go.Sort
set_option linter.unusedVariables false
set_option linter.unusedSimpArgs false
set_option maxRecDepth 100000
def PairBox (w : World) (g : Nat) (k v : ByteArray) : Prop := Blk w g 116 #[.string k, .string v] (0, 0)
theorem PairBox.facts {w : World} {g : Nat} {k v : ByteArray} (h : PairBox w g k v) : w.cell? ⟨g, 0, none⟩ = some (.string k) ∧ w.cell? ⟨g, 1, none⟩ = some (.string v) := ⟨Blk.cell h 0, Blk.cell h 1⟩
end Go.Proofs.YtcjeddichookmaaGreatDoor
namespace Go.Proofs.YtcjeddichookmaaGreatDoor
open Go.RowKit Go.Sort
set_option linter.unusedVariables false
set_option linter.unusedSimpArgs false
set_option maxRecDepth 100000
theorem PairsPost.none_ {w w' : World} (hb : Below w.heap.size w w') : PairsPost none w (.returned (.tuple #[.slice none 0 0, .bool false])) w' := ⟨hb, rfl⟩
end Go.Proofs.YtcjeddichookmaaGreatDoor
namespace Go.Proofs.YtcjeddichookmaaGreatDoor
open Go.RowKit Go.Sort
set_option linter.unusedVariables false
set_option linter.unusedSimpArgs false
set_option maxRecDepth 100000
def textR (c : ByteArray) (xs : List ByteArray) (qs : List (ByteArray × ByteArray)) : ByteArray × Int := if formedB c xs qs then (toB (W06 c xs qs), 0) else (⟨#[]⟩, 1)
theorem textV_R (c : ByteArray) (xs : List ByteArray) (qs : List (ByteArray × ByteArray)) : textV c xs qs = .tuple #[.string (textR c xs qs).1, .int .i64 (textR c xs qs).2] := by
  unfold textV textR
  split <;> rfl
end Go.Proofs.YtcjeddichookmaaGreatDoor
namespace Go.Proofs.YtcjeddichookmaaGreatDoor
open Go.RowKit Go.Sort
set_option linter.unusedVariables false
set_option linter.unusedSimpArgs false
set_option maxRecDepth 100000
theorem RPathPost.some_ {rr : Option (List ByteArray)} {X w' : World} {e : Ending} (h : RPathPost rr X e w') : Below X.heap.size X w' ∧ ∃ A c, e = .returned (.tuple #[.slice A (rr.getD []).length c, .bool rr.isSome]) ∧ Reads w' 1 A (rr.getD []).length ((rr.getD []).map .string) ∧ (∀ a, A = some a → X.heap.size ≤ a.block) := by
  obtain ⟨hb, h⟩ := h
  cases rr with
  | none => exact ⟨hb, none, 0, h, Reads.nil_ _ _ _, fun a ha => (by cases ha)⟩
  | some p => exact ⟨hb, h⟩
end Go.Proofs.YtcjeddichookmaaGreatDoor
namespace Go.Proofs.YtcjeddichookmaaGreatDoor
open Go.RowKit Go.Sort
set_option linter.unusedVariables false
set_option linter.unusedSimpArgs false
set_option maxRecDepth 100000
def canonR (s : ByteArray) : ByteArray × Int := if (parseB s).2 = 0 then textR (parseB s).1.cust (parseB s).1.path (parseB s).1.query else (⟨#[]⟩, (parseB s).2)
theorem canonV_R (s : ByteArray) : canonV s = .tuple #[.string (canonR s).1, .int .i64 (canonR s).2] := by
  unfold canonV canonR
  split
  · exact textV_R _ _ _
  · rfl
def canB (s : ByteArray) : Bool := decide ((canonR s).2 = 0) && ((canonR s).1.toList == s.toList)
theorem canB_read (s : ByteArray) : canB s = readB s := by
  unfold canB readB canonR
  by_cases h : (parseB s).2 = 0
  · rw [if_pos h, decide_eq_true h, Bool.true_and]
    have hg := parse_good s h
    have hsh := parse_short s h
    have hf : formedB (parseB s).1.cust (parseB s).1.path (parseB s).1.query = true := (formed_iff _ _ _).2 ⟨hg, by omega⟩
    unfold textR
    rw [if_pos hf]
    rfl
  · rw [if_neg h, decide_eq_false h]
    simp [h]
end Go.Proofs.YtcjeddichookmaaGreatDoor
namespace Go.Proofs.YtcjeddichookmaaGreatDoor
open Go.RowKit Go.Sort
set_option linter.unusedVariables false
set_option linter.unusedSimpArgs false
set_option maxRecDepth 100000
def RListPost (r : List ByteArray × Int) (w : World) (e : Ending) (w' : World) : Prop := Below w.heap.size w w' ∧ ∃ A c, e = .returned (.agg #[.slice A r.1.length c, .int .i64 r.2]) ∧ Reads w' 1 A r.1.length (r.1.map .string)
theorem RListPost.none_ {w w' : World} {er : Int} (hb : Below w.heap.size w w') : RListPost ([], er) w (.returned (.agg #[.slice none 0 0, .int .i64 er])) w' := ⟨hb, none, 0, rfl, Reads.nil_ _ _ _⟩
end Go.Proofs.YtcjeddichookmaaGreatDoor
namespace Go.Proofs.YtcjeddichookmaaGreatDoor
open Go.RowKit Go.Sort
set_option linter.unusedVariables false
set_option linter.unusedSimpArgs false
set_option maxRecDepth 100000
def strP (p : Part) : ByteArray := stringP p.kind p.text
theorem str0 {p : Part} (h : p.kind = 0) : strP p = p.text := by unfold strP stringP; rw [if_pos h]
end Go.Proofs.YtcjeddichookmaaGreatDoor
namespace Go.Proofs.YtcjeddichookmaaGreatDoor
open Go.RowKit Go.Sort
set_option linter.unusedVariables false
set_option linter.unusedSimpArgs false
set_option maxRecDepth 100000
def bothP (p q : ByteArray) : Option (Option Pat) := match compileB p, compileB q with
  | some x, some y => some (commonP x y)
  | _, _ => none
def BothPost (r : Option (Option Pat)) (w : World) (e : Ending) (w' : World) : Prop :=
  Below w.heap.size w w' ∧ match r with
  | none => ∃ (k : Nat) (t : ByteArray) (A : Option Addr) (n c : Nat) (b : Bool), e = .returned (.tuple #[.agg #[.int .i64 k, .string t, .slice A n c, .bool b], .bool false, .int .i64 1])
  | some none => ∃ (k : Nat) (t : ByteArray) (A : Option Addr) (n c : Nat) (b : Bool), e = .returned (.tuple #[.agg #[.int .i64 k, .string t, .slice A n c, .bool b], .bool false, .int .i64 0])
  | some (some p) => ∃ A c, e = .returned (.tuple #[.agg #[.int .i64 p.cust.kind, .string p.cust.text, .slice A p.parts.length c, .bool p.tail], .bool true, .int .i64 0]) ∧ Reads w' 2 A p.parts.length (partCells p.parts)
theorem BothPost.none_ {w w' : World} (k : Nat) (t : ByteArray) (A : Option Addr) (n c : Nat) (b : Bool) (hb : Below w.heap.size w w') : BothPost none w (.returned (.tuple #[.agg #[.int .i64 k, .string t, .slice A n c, .bool b], .bool false, .int .i64 1])) w' := ⟨hb, k, t, A, n, c, b, rfl⟩
end Go.Proofs.YtcjeddichookmaaGreatDoor
namespace Go.Proofs.YtcjeddichookmaaGreatDoor
open Go.RowKit Go.Sort
set_option linter.unusedVariables false
set_option linter.unusedSimpArgs false
set_option maxRecDepth 100000
def meetV (r : Option (Option Pat)) : Value := match r with
  | none => .tuple #[.bool false, .string ⟨#[]⟩, .int .i64 1]
  | some none => .tuple #[.bool false, .string ⟨#[]⟩, .int .i64 0]
  | some (some z) => .tuple #[.bool true, .string (joinS (withP z.cust.kind z.cust.text ⟨#[97]⟩ :: wordsL z.parts)), .int .i64 0]
end Go.Proofs.YtcjeddichookmaaGreatDoor
namespace Go.Proofs.YtcjeddichookmaaGreatDoor
open Go.RowKit Go.Sort
set_option linter.unusedVariables false
set_option linter.unusedSimpArgs false
set_option maxRecDepth 100000
def coversV : Option Pat → Option Pat → Value
  | some x, some y => .tuple #[.bool (coverB x y), .string (if coverB x y then ⟨#[]⟩ else coverW x y), .int .i64 0]
  | _, _ => .tuple #[.bool false, .string ⟨#[]⟩, .int .i64 1]
theorem Reads.put {w : World} {g n k : Nat} {vs : List Value} (h : Reads w 1 (some ⟨g, 0, none⟩) n vs) (hk : k < n) (v : Value) : Reads (w.setCell ⟨g, 0 + k, none⟩ v) 1 (some ⟨g, 0, none⟩) n (vs.set k v) := by
  refine ⟨by simpa using h.1, fun hn => ⟨g, 0, rfl, fun j u hu => ?_⟩⟩
  obtain ⟨b, o, he, hc⟩ := h.2 hn
  injection he with he; injection he with h1 h2 _; subst h1; subst h2
  by_cases e : k = j
  · subst e
    have hl : k < vs.length := by have := h.1; omega
    rw [List.getElem?_set_self hl] at hu
    injection hu with hu; subst hu
    exact World.cell?_setCell_same w _ v (hc k _ (List.getElem?_eq_getElem hl))
  · rw [List.getElem?_set_ne e] at hu
    exact (World.cell?_setCell_other w _ ⟨g, 0 + j, none⟩ v (by intro h; injection h with _ h _; omega)).trans (hc j u hu)
end Go.Proofs.YtcjeddichookmaaGreatDoor
