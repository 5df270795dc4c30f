/- Plain: which addresses are well formed, and which are under which. -/
import Derived.Test.YtiglpecjpncclaaGreatDoorPlainX
import Derived.Sort.Walk0
import Derived.Test.YtiglpecjpncclaaGreatDoorProg
import Derived.WalkKit
import Derived.WalkSpells
import Derived.WalkLawsBesides
import Derived.Below
import Derived.Deep.QuietTactic
import Derived.BigQuiet
import Derived.Lib.QuietBelow
import Derived.Lib.Strings
import Derived.Lib.Hide
import Derived.Deep.RegionWith
import Derived.Deep.RegionHeld3
import Derived.Lib.IndexBytes
namespace Go.Proofs.YtiglpecjpncclaaGreatDoor
open Go.RowKit Go.Sort
set_option linter.unusedVariables false
set_option linter.unusedSimpArgs false
set_option maxRecDepth 100000
theorem key_less (a b : ByteArray) : (!(Op.bytesLess a.toList b.toList || a.toList == b.toList)) = decide (b.data.toList < a.data.toList) := by
  rw [bytesLess_eq, Lib.toList_data, Lib.toList_data, Bool.eq_iff_iff]
  simp only [Bool.not_eq_true', Bool.or_eq_false_iff, decide_eq_false_iff_not, beq_eq_false_iff_ne, decide_eq_true_eq]
  constructor
  · rintro ⟨h1, h2⟩; exact lt_tri _ _ h2 h1
  · intro h
    exact ⟨fun h1 => List.lt_irrefl _ (List.lt_trans h h1), fun e => List.lt_irrefl _ (by rw [e] at h; exact h)⟩
theorem pairK_at (qs : List (ByteArray × ByteArray)) (k : Nat) (hk : k < qs.length) : pairK qs k = true ↔ isNameB qs[k].1 = true ∧ isWordB qs[k].2 = true ∧ (k = 0 ∨ ∃ h : k - 1 < qs.length, qs[k - 1].1.data.toList < qs[k].1.data.toList) := by
  unfold pairK
  rw [List.getElem?_eq_getElem hk]
  simp only [Bool.and_eq_true, Bool.or_eq_true, beq_iff_eq]
  have hk1 : k - 1 < qs.length := by omega
  rw [List.getElem?_eq_getElem hk1]
  simp only [Option.getD_some]
  rw [key_less, decide_eq_true_eq]
  constructor
  · rintro ⟨⟨h1, h2⟩, h3⟩
    exact ⟨h1, h2, h3.imp id fun h => ⟨hk1, h⟩⟩
  · rintro ⟨h1, h2, h3⟩
    exact ⟨⟨h1, h2⟩, h3.imp id fun ⟨_, h⟩ => h⟩
theorem formed_iff (c : ByteArray) (xs : List ByteArray) (qs : List (ByteArray × ByteArray)) : formedB c xs qs = true ↔ AdrGood ⟨c, xs, qs⟩ ∧ (W06 c xs qs).length ≤ 4096 := by
  unfold formedB headOk
  simp only [Bool.and_eq_true, decide_eq_true_eq, List.all_eq_true, List.mem_range]
  constructor
  · rintro ⟨⟨⟨⟨⟨h1, h2⟩, h3⟩, h4⟩, h5⟩, h6⟩
    have hat := fun k hk => (pairK_at qs k hk).1 (h5 k hk)
    refine ⟨⟨h1, h4, h2, h3, ?_, ?_⟩, h6⟩
    · intro q hq
      obtain ⟨k, hk, rfl⟩ := List.getElem_of_mem hq
      exact ⟨(hat k hk).1, (hat k hk).2.1⟩
    · unfold KeysUp
      rw [List.pairwise_iff_getElem]
      intro i j
      induction j with
      | zero => intro _ _ h; omega
      | succ j ih =>
        intro hi hj hij
        rcases (hat (j + 1) hj).2.2 with h | ⟨h, h7⟩
        · omega
        · have e : j + 1 - 1 = j := rfl
          simp only [e] at h7
          by_cases hij2 : i = j
          · subst hij2; exact h7
          · exact List.lt_trans (ih hi (by omega) (by omega)) h7
  · rintro ⟨⟨h1, h4, h2, h3, h5, h7⟩, h6⟩
    refine ⟨⟨⟨⟨⟨h1, h2⟩, h3⟩, h4⟩, fun k hk => ?_⟩, h6⟩
    rw [pairK_at qs k hk]
    have hq := h5 qs[k] (List.getElem_mem hk)
    refine ⟨hq.1, hq.2, ?_⟩
    by_cases h0 : k = 0
    · exact .inl h0
    · have hk1 : k - 1 < qs.length := by omega
      exact .inr ⟨hk1, List.pairwise_iff_getElem.1 h7 (k - 1) k hk1 hk (by omega)⟩
theorem text_good {a : Adr} (h : AdrGood a) (hs : (W06 a.cust a.path a.query).length ≤ 4096) : textV a.cust a.path a.query = .tuple #[.string (toB (W06 a.cust a.path a.query)), .int .i64 0] := by
  unfold textV
  rw [if_pos ((formed_iff _ _ _).2 ⟨h, hs⟩)]
  rfl
theorem under_iff (p a : ByteArray) : underB p a = true ↔ readB p = true ∧ readB a = true ∧ (parseB p).1.query = [] ∧ ∃ r, a.data.toList = p.data.toList ++ r ∧ (r = [] ∨ r.head? = some 47 ∨ r.head? = some 63) := by
  unfold underB Lib.hasPrefix
  simp only [Bool.and_eq_true, Bool.not_eq_true', decide_eq_false_iff_not, Bool.or_eq_true, List.isEmpty_iff, beq_iff_eq, List.isPrefixOf_iff_prefix]
  constructor
  · rintro ⟨⟨⟨h1, h2⟩, h3⟩, ⟨r, hr⟩, h4⟩
    refine ⟨h1, h2, List.eq_nil_of_length_eq_zero (by omega), r, hr.symm, ?_⟩
    rw [← hr, size_data, List.drop_left] at h4
    rcases h4 with (h4 | h4) | h4
    · exact .inl h4
    · exact .inr (.inl h4)
    · exact .inr (.inr h4)
  · rintro ⟨h1, h2, h3, r, hr, h4⟩
    refine ⟨⟨⟨h1, h2⟩, by rw [h3]; simp⟩, ⟨r, hr.symm⟩, ?_⟩
    rw [hr, size_data, List.drop_left]
    rcases h4 with h4 | h4 | h4
    · exact .inl (.inl h4)
    · exact .inl (.inr h4)
    · exact .inr h4
/-- The text of an address' first parts. -/
def partT (c : ByteArray) (ws : List ByteArray) (n : Nat) : ByteArray := joinS (c :: ws.take n)
theorem partT_all (c : ByteArray) (ws : List ByteArray) (n : Nat) (h : ws.length ≤ n) : partT c ws n = joinS (c :: ws) := by unfold partT; rw [List.take_of_length_le h]
theorem partT_data (c : ByteArray) (ws : List ByteArray) (n : Nat) : (joinS (c :: ws)).data.toList = (partT c ws n).data.toList ++ pathL (lists (ws.drop n)) := by
  unfold partT
  rw [join_data, join_data, List.append_assoc]
  congr 1
  unfold lists pathL
  rw [← List.flatMap_append, ← List.map_append, List.take_append_drop]
theorem rest_head (ws : List ByteArray) : pathL (lists ws) = [] ∨ (pathL (lists ws)).head? = some 47 ∨ (pathL (lists ws)).head? = some 63 := by
  cases ws with
  | nil => exact .inl rfl
  | cons w ws => exact .inr (.inl rfl)
section
variable {c : ByteArray} {ws : List ByteArray} (hc : isNameB c = true) (hw : ∀ w ∈ ws, isWordB w = true) (hn : ws.length ≤ 32)
include hc hw hn
theorem parse_part (n : Nat) : parseB (partT c ws n) = (⟨c, ws.take n, []⟩, 0) ∧ readB (partT c ws n) = true :=
  parse_join hc (fun w h => hw w (List.mem_of_mem_take h)) (by rw [List.length_take]; omega)
theorem text_part (n : Nat) : textV c (ws.take n) [] = .tuple #[.string (partT c ws n), .int .i64 0] := by
  have hw' : ∀ w ∈ ws.take n, isWordB w = true := fun w h => hw w (List.mem_of_mem_take h)
  have hn' : (ws.take n).length ≤ 32 := by rw [List.length_take]; omega
  rw [text_good (a := ⟨c, ws.take n, []⟩) (adr_words hc hw' hn') (adr_short hc hw' hn')]
  unfold partT
  rw [joinS_write]
theorem under_part (n : Nat) : underB (partT c ws n) (joinS (c :: ws)) = true := by
  rw [under_iff]
  refine ⟨(parse_part hc hw hn n).2, (parse_join hc hw hn).2, by rw [(parse_part hc hw hn n).1], _, partT_data c ws n, rest_head _⟩
theorem under_back (n : Nat) (h : n ≤ ws.length) : underB (joinS (c :: ws)) (partT c ws n) = (n == ws.length) := by
  rw [Bool.eq_iff_iff, beq_iff_eq]
  constructor
  · intro hu
    rw [under_iff] at hu
    obtain ⟨_, _, _, r, hr, _⟩ := hu
    rw [partT_data c ws n] at hr
    have hl := congrArg List.length hr
    simp only [List.length_append] at hl
    have : (pathL (lists (ws.drop n))).length = 0 := by omega
    have h2 := pathL_len (lists (ws.drop n))
    simp only [lists, List.length_map, List.length_drop] at h2 this
    omega
  · rintro rfl
    have := under_part hc hw hn ws.length
    rwa [partT_all c ws _ (Nat.le_refl _)] at this ⊢
theorem under_trans (n : Nat) (o : ByteArray) (h : underB (joinS (c :: ws)) o = true) : underB (partT c ws n) o = true := by
  rw [under_iff] at h ⊢
  obtain ⟨_, h2, _, r, hr, h4⟩ := h
  refine ⟨(parse_part hc hw hn n).2, h2, by rw [(parse_part hc hw hn n).1], pathL (lists (ws.drop n)) ++ r, by rw [hr, partT_data c ws n, List.append_assoc], ?_⟩
  rcases rest_head (ws.drop n) with e | e
  · rw [e, List.nil_append]; exact h4
  · right
    cases hp : pathL (lists (ws.drop n)) with
    | nil => rw [hp] at e; simp at e
    | cons x l => rw [hp] at e; exact e
end

end Go.Proofs.YtiglpecjpncclaaGreatDoor
