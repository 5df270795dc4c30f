/- Plain: an address that is well formed and whose text is not too long is read back from its text. -/
import Derived.Test.YtmlhecjhjjlhfaaGreatDoorSZ13
import Derived.Test.YtmlhecjhjjlhfaaGreatDoorProg
import Derived.WalkKit
import Derived.WalkSpells
import Derived.WalkLawsBesides
import Derived.Below
import Derived.Deep.QuietTactic
import Derived.BigQuiet
import Derived.Lib.QuietBelow
import Derived.Lib.Strings
import Derived.Lib.Hide
import Derived.Deep.RegionWith
import Derived.Deep.RegionHeld3
import Derived.Lib.IndexBytes
import Derived.Test.YtmlhecjhjjlhfaaGreatDoorSZ7
import Derived.Deep.DeepCutAuto
import Derived.Test.YtmlhecjhjjlhfaaGreatDoorSZ4
namespace Go.Proofs.YtmlhecjhjjlhfaaGreatDoor
open Go.RowKit Go.Sort
set_option linter.unusedVariables false
set_option linter.unusedSimpArgs false
set_option maxRecDepth 100000
theorem index_hit (a b : List UInt8) (c : UInt8) (h : c ∉ a) : Lib.index (a ++ c :: b) [c] = a.length := by
  rw [Lib.index_one]
  induction a with
  | nil => simp [indexByte_cons]
  | cons x a ih =>
    simp only [List.mem_cons, not_or] at h
    rw [List.cons_append, indexByte_cons, if_neg (fun e => h.1 e.symm), ih h.2, if_neg (by omega)]
    simp
theorem indexByte_miss (a : List UInt8) (c : UInt8) (h : c ∉ a) : Lib.indexByte a c = -1 := by
  induction a with
  | nil => rfl
  | cons x a ih =>
    simp only [List.mem_cons, not_or] at h
    rw [indexByte_cons, if_neg (fun e => h.1 e.symm), ih h.2, if_pos rfl]
theorem index_miss (a : List UInt8) (c : UInt8) (h : c ∉ a) : Lib.index a [c] = -1 := by
  rw [Lib.index_one]; exact indexByte_miss a c h
theorem indexByte_mem (a : List UInt8) (c : UInt8) (h : Lib.indexByte a c < 0) : c ∉ a := by
  induction a with
  | nil => simp
  | cons x a ih =>
    have := indexByte_ge c a
    rw [indexByte_cons] at h
    split at h
    · omega
    · rename_i hne
      split at h
      · rename_i he
        simp only [List.mem_cons, not_or]
        exact ⟨fun e => hne e.symm, ih (by omega)⟩
      · omega
theorem cut_hit (a b : List UInt8) (c : UInt8) (h : c ∉ a) : Lib.cut (a ++ c :: b) [c] = (a, b, true) := by
  unfold Lib.cut
  rw [index_hit a b c h, if_pos (by omega)]
  simp
theorem cut_none (a : List UInt8) (c : UInt8) (h : c ∉ a) : Lib.cut a [c] = (a, [], false) := by
  unfold Lib.cut
  rw [index_miss a c h, if_neg (by omega)]
theorem split_hit (a b : List UInt8) (c : UInt8) (h : c ∉ a) : splitL c (a ++ c :: b) = a :: splitL c b := by
  induction a with
  | nil => simp [splitL]
  | cons x a ih =>
    simp only [List.mem_cons, not_or] at h
    rw [List.cons_append, splitL, if_neg (fun e => h.1 e.symm), ih h.2]
theorem split_none (a : List UInt8) (c : UInt8) (h : c ∉ a) : splitL c a = [a] := splitL_miss c a (by rw [indexByte_miss a c h]; omega)
theorem split_path : ∀ (x : List UInt8) (l : List (List UInt8)), 47 ∉ x → (∀ y ∈ l, 47 ∉ y) → splitL 47 (x ++ pathL l) = x :: l
  | x, [], h, _ => by simp [pathL, split_none x 47 h]
  | x, y :: l, h, hl => by
    have e : x ++ pathL (y :: l) = x ++ 47 :: (y ++ pathL l) := by simp [pathL]
    rw [e, split_hit _ _ _ h, split_path y l (hl y (by simp)) (fun z hz => hl z (by simp [hz]))]
def pairT (q : List UInt8 × List UInt8) : List UInt8 := q.1 ++ 61 :: q.2
theorem split_query : ∀ (q : List UInt8 × List UInt8) (l : List (List UInt8 × List UInt8)), 38 ∉ pairT q → (∀ r ∈ l, 38 ∉ pairT r) → splitL 38 (pairT q ++ queryL 38 l) = (q :: l).map pairT
  | q, [], h, _ => by simp [queryL, split_none _ 38 h]
  | q, r :: l, h, hl => by
    have e : pairT q ++ queryL 38 (r :: l) = pairT q ++ 38 :: (pairT r ++ queryL 38 l) := by simp [queryL, pairT]
    rw [e, split_hit _ _ _ h, split_query r l (hl r (by simp)) (fun z hz => hl z (by simp [hz]))]
    rfl
theorem letter_no (b : UInt8) (h : letterB b = true) : b ≠ 47 ∧ b ≠ 63 ∧ b ≠ 38 ∧ b ≠ 61 ∧ b ≠ 42 ∧ b ≠ 44 ∧ ¬ (65 ≤ b.toNat ∧ b.toNat ≤ 90) := by
  unfold letterB isLetN at h
  simp only [decide_eq_true_eq] at h
  have k : ∀ c : Nat, c < 256 → b.toNat ≠ c → b ≠ UInt8.ofNat c := fun c hc h e => h (by rw [e, UInt8.toNat_ofNat']; omega)
  exact ⟨k 47 (by omega) (by omega), k 63 (by omega) (by omega), k 38 (by omega) (by omega), k 61 (by omega) (by omega), k 42 (by omega) (by omega), k 44 (by omega) (by omega), by omega⟩
theorem word_letters {s : ByteArray} (h : isWordB s = true) : ∀ b ∈ s.data.toList, letterB b = true := by
  unfold isWordB at h
  simp only [Bool.and_eq_true, List.all_eq_true] at h
  exact h.2
theorem name_word {s : ByteArray} (h : isNameB s = true) : isWordB s = true := by
  unfold isNameB at h
  simp only [Bool.and_eq_true] at h
  exact h.1
theorem word_no {s : ByteArray} (h : isWordB s = true) : 47 ∉ s.data.toList ∧ 63 ∉ s.data.toList ∧ 38 ∉ s.data.toList ∧ 61 ∉ s.data.toList ∧ 42 ∉ s.data.toList ∧ 44 ∉ s.data.toList :=
  ⟨fun hm => (letter_no _ (word_letters h _ hm)).1 rfl, fun hm => (letter_no _ (word_letters h _ hm)).2.1 rfl, fun hm => (letter_no _ (word_letters h _ hm)).2.2.1 rfl, fun hm => (letter_no _ (word_letters h _ hm)).2.2.2.1 rfl, fun hm => (letter_no _ (word_letters h _ hm)).2.2.2.2.1 rfl, fun hm => (letter_no _ (word_letters h _ hm)).2.2.2.2.2.1 rfl⟩
theorem word_ne {s : ByteArray} (h : isWordB s = true) : s.data.toList ≠ [] ∧ s.data.toList ≠ [46] ∧ s.data.toList ≠ [46, 46] ∧ s.size ≤ 64 := by
  unfold isWordB at h
  simp only [Bool.and_eq_true, Bool.not_eq_true', decide_eq_true_eq, Lib.toList_data] at h
  obtain ⟨⟨⟨⟨h1, h2⟩, h3⟩, h4⟩, _⟩ := h
  exact ⟨by intro e; simp [e] at h1, by intro e; simp [e] at h3, by intro e; simp [e] at h4, h2⟩
theorem low_same : ∀ l : List UInt8, (∀ b ∈ l, ¬ (65 ≤ b.toNat ∧ b.toNat ≤ 90)) → lowL l = l
  | [], _ => rfl
  | b :: l, h => by
    have h1 := h b (by simp)
    have h2 := low_same l (fun c hc => h c (by simp [hc]))
    unfold lowL at h2 ⊢
    rw [List.map_cons, h2]
    congr 1
    unfold lowN
    rw [if_neg h1]
    exact UInt8.ofNat_toNat
theorem res_words : ∀ (l out : List ByteArray), (∀ p ∈ l, isWordB p = true) → resB out l = some (out ++ l)
  | [], out, _ => by simp [resB]
  | p :: l, out, h => by
    have hp := h p (by simp)
    obtain ⟨h1, h2, h3, _⟩ := word_ne hp
    have e : resStep out p = some (out ++ [p]) := by
      unfold resStep
      rw [Lib.toList_data, if_neg (by simp [h2]), if_neg (by simp [h3]), if_pos hp]
    rw [resB, e, Option.bind_some, res_words l _ (fun q hq => h q (by simp [hq]))]
    simp
theorem parsePair_of {k v : List UInt8} (hk : isNameB (toB k) = true) (hv : isWordB (toB v) = true) : parsePair (toB (pairT (k, v))) = some (k, v) := by
  have h61 : 61 ∉ k := (word_no (name_word hk)).2.2.2.1
  have e : Lib.cut (pairT (k, v)) [61] = (k, v, true) := cut_hit k v 61 h61
  unfold parsePair
  rw [show (toB (pairT (k, v))).data.toList = pairT (k, v) from rfl, e]
  simp [hk, hv]
theorem qAcc_of : ∀ (l acc : List (List UInt8 × List UInt8)), (∀ q ∈ l, isNameB (toB q.1) = true ∧ isWordB (toB q.2) = true) → qAcc acc (l.map fun q => toB (pairT q)) = some (acc ++ l)
  | [], acc, _ => by simp [qAcc]
  | q :: l, acc, h => by
    have hq := h q (by simp)
    rw [List.map_cons, qAcc, parsePair_of hq.1 hq.2]
    simp only
    rw [qAcc_of l _ (fun r hr => h r (by simp [hr]))]
    simp
theorem insL_last (p : List UInt8 × List UInt8) : ∀ acc : List (List UInt8 × List UInt8), (∀ q ∈ acc, q.1 < p.1) → insL acc p = acc ++ [p]
  | [], _ => rfl
  | q :: acc, h => by
    have h1 := h q (by simp)
    rw [insL, if_neg (fun e => List.lt_irrefl _ (by rw [← e] at h1; exact h1)), if_neg (fun e => List.lt_irrefl _ (List.lt_trans h1 e)), insL_last p acc (fun r hr => h r (by simp [hr]))]
    rfl
theorem fold_sorted : ∀ (l acc : List (List UInt8 × List UInt8)), SortedK (acc ++ l) → l.foldl insL acc = acc ++ l
  | [], acc, _ => by simp
  | p :: l, acc, h => by
    have h1 := List.pairwise_append.1 h
    rw [List.foldl_cons, insL_last p acc (fun q hq => h1.2.2 q hq p (by simp)), fold_sorted l (acc ++ [p]) (by simpa using h)]
    simp
theorem pairs_sorted (l : List (List UInt8 × List UInt8)) (h : SortedK l) : pairsL l = l := by
  have := fold_sorted l [] (by simpa using h)
  simpa [pairsL] using this
theorem toB_data (s : ByteArray) : toB s.data.toList = s := bytes_ext rfl
theorem pairsB_of (qs : List (ByteArray × ByteArray)) (q : ByteArray × ByteArray) (h : ∀ r ∈ q :: qs, isNameB r.1 = true ∧ isWordB r.2 = true) (hup : KeysUp (q :: qs)) :
    pairsB (toB (pairT (q.1.data.toList, q.2.data.toList) ++ queryL 38 (lists2 qs))) = some (q :: qs) := by
  have h38 : ∀ r ∈ q :: qs, 38 ∉ pairT (r.1.data.toList, r.2.data.toList) := by
    intro r hr
    have h1 := (word_no (name_word (h r hr).1)).2.2.1
    have h2 := (word_no (h r hr).2).2.2.1
    simp [pairT, h1, h2]
  have hs := split_query (q.1.data.toList, q.2.data.toList) (lists2 qs) (h38 q (by simp)) (by
    intro r hr
    obtain ⟨x, hx, rfl⟩ := List.mem_map.1 hr
    exact h38 x (by simp [hx]))
  unfold pairsB
  have hne : ¬ ((toB (pairT (q.1.data.toList, q.2.data.toList) ++ queryL 38 (lists2 qs))).toList.isEmpty = true) := by
    rw [Lib.toList_data]; simp [toB, pairT]
  rw [if_neg hne]
  have hsp : splitB 38 (toB (pairT (q.1.data.toList, q.2.data.toList) ++ queryL 38 (lists2 qs))) = (lists2 (q :: qs)).map fun r => toB (pairT r) := by
    unfold splitB
    rw [show (toB (pairT (q.1.data.toList, q.2.data.toList) ++ queryL 38 (lists2 qs))).data.toList = pairT (q.1.data.toList, q.2.data.toList) ++ queryL 38 (lists2 qs) from rfl, hs]
    simp [lists2, toB]
  rw [hsp, qAcc_of _ [] (by
    intro r hr
    obtain ⟨x, hx, rfl⟩ := List.mem_map.1 hr
    have := h x hx
    rw [toB_data, toB_data]; exact this)]
  simp only [List.nil_append, Option.map_some]
  rw [pairs_sorted _ (by
    unfold SortedK lists2
    exact List.pairwise_map.2 hup)]
  congr 1
  unfold lists2
  rw [List.map_map]
  conv => rhs; rw [← List.map_id (q :: qs)]
  refine List.map_congr_left fun x _ => ?_
  simp [toB_data]
theorem path_letters (xs : List ByteArray) (h : ∀ p ∈ xs, isWordB p = true) (b : UInt8) (hb : b ∈ pathL (lists xs)) : b = 47 ∨ letterB b = true := by
  unfold pathL lists at hb
  obtain ⟨l, hl, hb⟩ := List.mem_flatMap.1 hb
  obtain ⟨x, hx, rfl⟩ := List.mem_map.1 hl
  rcases List.mem_cons.1 hb with h1 | h1
  · exact .inl h1
  · exact .inr (word_letters (h x hx) b h1)
theorem query_letters : ∀ (sep : UInt8) (qs : List (ByteArray × ByteArray)), (∀ r ∈ qs, isNameB r.1 = true ∧ isWordB r.2 = true) → ∀ b, b ∈ queryL sep (lists2 qs) → b = sep ∨ b = 38 ∨ b = 61 ∨ letterB b = true
  | sep, [], _, b, hb => by simp [lists2, queryL] at hb
  | sep, q :: qs, h, b, hb => by
    have e : queryL sep (lists2 (q :: qs)) = sep :: (q.1.data.toList ++ 61 :: q.2.data.toList) ++ queryL 38 (lists2 qs) := rfl
    rw [e] at hb
    have hq := h q (by simp)
    simp only [List.cons_append, List.mem_cons, List.mem_append] at hb
    rcases hb with h1 | (h1 | h1 | h1) | h1
    · exact .inl h1
    · exact .inr (.inr (.inr (word_letters (name_word hq.1) b h1)))
    · exact .inr (.inr (.inl h1))
    · exact .inr (.inr (.inr (word_letters hq.2 b h1)))
    · rcases query_letters 38 qs (fun r hr => h r (by simp [hr])) b h1 with h2 | h2
      · exact .inr (.inl h2)
      · exact .inr h2
theorem noCap_of {b : UInt8} (h : b = 47 ∨ b = 63 ∨ b = 38 ∨ b = 61 ∨ letterB b = true) : ¬ (65 ≤ b.toNat ∧ b.toNat ≤ 90) := by
  rcases h with rfl | rfl | rfl | rfl | h
  · decide
  · decide
  · decide
  · decide
  · exact (letter_no b h).2.2.2.2.2.2
theorem adr_noCap {a : Adr} (h : AdrGood a) : ∀ b ∈ W06 a.cust a.path a.query, ¬ (65 ≤ b.toNat ∧ b.toNat ≤ 90) := by
  intro b hb
  unfold W06 writeL at hb
  simp only [List.mem_append] at hb
  refine noCap_of ?_
  rcases hb with (h1 | h1) | h1
  · exact .inr (.inr (.inr (.inr (word_letters (name_word h.name) b h1))))
  · rcases path_letters _ h.words b h1 with h2 | h2
    · exact .inl h2
    · exact .inr (.inr (.inr (.inr h2)))
  · rcases query_letters 63 _ h.query b h1 with h2 | h2 | h2 | h2
    · exact .inr (.inl h2)
    · exact .inr (.inr (.inl h2))
    · exact .inr (.inr (.inr (.inl h2)))
    · exact .inr (.inr (.inr (.inr h2)))
theorem pairsB_nil : pairsB (toB []) = some [] := by
  unfold pairsB
  rw [if_pos (by rw [Lib.toList_data]; rfl)]
def frontL (a : Adr) : List UInt8 := a.cust.data.toList ++ pathL (lists a.path)
theorem front_no63 {a : Adr} (h : AdrGood a) : 63 ∉ frontL a := by
  intro hm
  unfold frontL at hm
  rcases List.mem_append.1 hm with h1 | h1
  · exact (word_no (name_word h.name)).2.1 h1
  · rcases path_letters _ h.words _ h1 with h2 | h2
    · exact absurd h2 (by decide)
    · exact (letter_no _ h2).2.1 rfl
theorem left_of {a : Adr} (h : AdrGood a) : (leftL (toB (W06 a.cust a.path a.query))).1 = frontL a ∧ pairsB (toB (leftL (toB (W06 a.cust a.path a.query))).2.1) = some a.query := by
  unfold leftL
  rw [show (toB (W06 a.cust a.path a.query)).data.toList = W06 a.cust a.path a.query from rfl, low_same _ (adr_noCap h)]
  have e : W06 a.cust a.path a.query = frontL a ++ queryL 63 (lists2 a.query) := rfl
  rw [e]
  cases hq : a.query with
  | nil =>
    rw [show queryL 63 (lists2 []) = [] from rfl, List.append_nil, cut_none _ _ (front_no63 h)]
    exact ⟨rfl, pairsB_nil⟩
  | cons q qs =>
    have e2 : queryL 63 (lists2 (q :: qs)) = 63 :: (pairT (q.1.data.toList, q.2.data.toList) ++ queryL 38 (lists2 qs)) := by
      simp [lists2, queryL, pairT]
    rw [e2, cut_hit _ _ _ (front_no63 h)]
    exact ⟨rfl, pairsB_of qs q (by rw [← hq]; exact h.query) (by rw [← hq]; exact h.up)⟩
theorem trim_none (l : List UInt8) (x : UInt8) (hx : x ≠ 47) : Lib.trimSuffix (l ++ [x]) [47] = l ++ [x] := by
  unfold Lib.trimSuffix
  rw [if_neg]
  unfold Lib.hasSuffix
  intro h
  rw [List.isSuffixOf_iff_suffix] at h
  obtain ⟨t, ht⟩ := h
  have := (List.append_inj' ht rfl).2
  simp at this
  exact hx this.symm
theorem word_end {s : ByteArray} (h : isWordB s = true) : ∃ l x, s.data.toList = l ++ [x] ∧ x ≠ 47 := by
  have hne := (word_ne h).1
  refine ⟨s.data.toList.dropLast, s.data.toList.getLast hne, (List.dropLast_concat_getLast hne).symm, ?_⟩
  exact (letter_no _ (word_letters h _ (List.getLast_mem hne))).1
theorem front_end {a : Adr} (h : AdrGood a) : ∃ l x, frontL a = l ++ [x] ∧ x ≠ 47 := by
  unfold frontL
  rcases List.eq_nil_or_concat a.path with hp | ⟨p, x, hp⟩
  · rw [hp]
    obtain ⟨l, x, h1, h2⟩ := word_end (name_word h.name)
    exact ⟨l, x, by simp [lists, pathL, h1], h2⟩
  · obtain ⟨l, y, h1, h2⟩ := word_end (h.words x (by rw [hp]; simp))
    refine ⟨a.cust.data.toList ++ (pathL (lists p) ++ 47 :: l), y, ?_, h2⟩
    rw [hp]
    simp [lists, pathL, h1]
theorem cust_of {a : Adr} (h : AdrGood a) : (custL (toB (W06 a.cust a.path a.query))).1 = a.cust.data.toList ∧ pathB (custL (toB (W06 a.cust a.path a.query))) = some a.path := by
  obtain ⟨l, x, he, hx⟩ := front_end h
  have hc := (word_no (name_word h.name)).1
  unfold custL
  rw [(left_of h).1, he, trim_none l x hx, ← he]
  unfold frontL
  cases hp : a.path with
  | nil =>
    rw [show pathL (lists []) = [] from rfl, List.append_nil, cut_none _ _ hc]
    exact ⟨rfl, rfl⟩
  | cons p ps =>
    have e2 : pathL (lists (p :: ps)) = 47 :: (p.data.toList ++ pathL (lists ps)) := by simp [pathL, lists]
    have hw : ∀ q ∈ p :: ps, isWordB q = true := by rw [← hp]; exact h.words
    rw [e2, cut_hit _ _ _ hc]
    refine ⟨rfl, ?_⟩
    unfold pathB
    simp only [if_true]
    have hs := split_path p.data.toList (lists ps) (word_no (hw p (by simp))).1 (by
      intro y hy
      obtain ⟨z, hz, rfl⟩ := List.mem_map.1 hy
      exact (word_no (hw z (by simp [hz]))).1)
    have hsp : splitB 47 (toB (p.data.toList ++ pathL (lists ps))) = p :: ps := by
      unfold splitB
      rw [show (toB (p.data.toList ++ pathL (lists ps))).data.toList = p.data.toList ++ pathL (lists ps) from rfl, hs]
      have : ∀ z : ByteArray, (⟨z.data.toList.toArray⟩ : ByteArray) = z := fun z => bytes_ext rfl
      simp [lists, Function.comp_def]
    rw [hsp, res_words _ _ hw]
    rfl
theorem parse_write {a : Adr} (h : AdrGood a) (hs : (W06 a.cust a.path a.query).length ≤ 4096) : parseB (toB (W06 a.cust a.path a.query)) = (a, 0) := by
  unfold parseB
  have hz : ¬ 4096 < (toB (W06 a.cust a.path a.query)).size := by
    rw [Lib.size_eq, show (toB (W06 a.cust a.path a.query)).data.toList = W06 a.cust a.path a.query from rfl]; omega
  rw [if_neg hz, (cust_of h).1, (cust_of h).2, (left_of h).2, toB_data, h.name]
  unfold adrOf
  simp only
  rw [if_pos ⟨h.parts, h.pairs⟩]
theorem read_write {a : Adr} (h : AdrGood a) (hs : (W06 a.cust a.path a.query).length ≤ 4096) : readB (toB (W06 a.cust a.path a.query)) = true := by
  unfold readB
  rw [parse_write h hs]
  simp [toB]
end Go.Proofs.YtmlhecjhjjlhfaaGreatDoor
namespace Go.Proofs.YtmlhecjhjjlhfaaGreatDoor
open Go.RowKit Go.Sort
set_option linter.unusedVariables false
set_option linter.unusedSimpArgs false
set_option maxRecDepth 100000
structure CondMem where
  A : Option Addr
  ca : Nat
  B : Option Addr
  cb : Nat
  S : Option Addr
  cs : Nat
structure CondReads (w : World) (c : CondV) (m : CondMem) : Prop where
  cl : Reads w 1 m.A c.cl.length (c.cl.map .string)
  co : Reads w 1 m.B c.co.length (c.co.map .string)
  si : Reads w 1 m.S c.si.length (c.si.map (.int .i64))
theorem CondReads.keep {w w' : World} {c : CondV} {m : CondMem} (h : CondReads w c m) (hb : Below w.heap.size w w') : CondReads w' c m := ⟨h.cl.keep hb, h.co.keep hb, h.si.keep hb⟩
def CondMem.val (c : CondV) (m : CondMem) : Value := .agg #[.int .i64 c.fr, .int .i64 c.till, .string c.pat, .slice m.A c.cl.length m.ca, .slice m.B c.co.length m.cb, .slice m.S c.si.length m.cs, .int .i64 c.us]
def CBox (w : World) (g : Nat) (fr till : Int) (pat : ByteArray) (A : Option Addr) (na ca : Nat) (B : Option Addr) (nb cb : Nat) (S : Option Addr) (ns cs : Nat) (us : Int) : Prop := Blk w g 36 #[.int .i64 fr, .int .i64 till, .string pat, .slice A na ca, .slice B nb cb, .slice S ns cs, .int .i64 us] (0, 0)
section
variable {w : World} {g : Nat} {fr till us : Int} {pat : ByteArray} {A B S : Option Addr} {na ca nb cb ns cs : Nat}
theorem CBox.facts (h : CBox w g fr till pat A na ca B nb cb S ns cs us) :
    w.cell? ⟨g, 0, none⟩ = some (.int .i64 fr) ∧ w.cell? ⟨g, 1, none⟩ = some (.int .i64 till) ∧ w.cell? ⟨g, 2, none⟩ = some (.string pat) ∧ w.cell? ⟨g, 3, none⟩ = some (.slice A na ca) ∧ w.cell? ⟨g, 4, none⟩ = some (.slice B nb cb) ∧ w.cell? ⟨g, 5, none⟩ = some (.slice S ns cs) ∧ w.cell? ⟨g, 6, none⟩ = some (.int .i64 us) :=
  ⟨Blk.cell h 0, Blk.cell h 1, Blk.cell h 2, Blk.cell h 3, Blk.cell h 4, Blk.cell h 5, Blk.cell h 6⟩
end
def fewC (na nb ns : Nat) (pat : ByteArray) (cl co : List ByteArray) : Bool := decide (na ≤ 40) && decide (nb ≤ 40) && decide (ns ≤ 70) && decide (pat.size ≤ 1000) && cl.all (fun x => decide (x.size ≤ 100)) && co.all (fun x => decide (x.size ≤ 100))
theorem all_take2 {α : Type} {p : α → Bool} {l : List α} {k : Nat} {x : α} (h : (l.take k).all p = true) (hx : l[k]? = some x) (hp : p x = true) : (l.take (k + 1)).all p = true := by
  rw [List.take_add_one, hx]
  simp [h, hp]
theorem all_false2 {α : Type} {p : α → Bool} {l : List α} {k : Nat} {x : α} (hx : l[k]? = some x) (hp : p x = false) : l.all p = false := by
  rw [List.all_eq_false]
  exact ⟨x, List.mem_of_getElem? hx, by rw [hp]; decide⟩
set_option maxHeartbeats 4000000 in
theorem rFew_any (fr till us : Int) (pat : ByteArray) (A B S : Option Addr) (na ca nb cb ns cs : Nat) (cl co : List ByteArray) (w : World) (hA : Reads w 1 A na (cl.map .string)) (hB : Reads w 1 B nb (co.map .string)) :
    Calls Tryz.prog 51 #[.agg #[.int .i64 fr, .int .i64 till, .string pat, .slice A na ca, .slice B nb cb, .slice S ns cs, .int .i64 us]] w (Ret w (.bool (fewC na nb ns pat cl co))) := by
  have hna : cl.length = na := by have := hA.1; simp at this; omega
  have hnb : co.length = nb := by have := hB.1; simp at this; omega
  obtain ⟨V, hV⟩ : ∃ V, V = fewC na nb ns pat cl co := ⟨_, rfl⟩
  rw [← hV]
  unfold fewC at hV
  have HA := Lib.hid hA; have HB := Lib.hid hB; have HNA := Lib.hid hna; have HNB := Lib.hid hnb
  clear hA hB hna hnb
  by_cases h1 : na ≤ 40
  rotate_left
  · obtain rfl : V = false := by rw [hV]; simp [h1]
    have d1 : decide ((40 : Int) < (na : Int)) = true := decide_eq_true (by omega)
    clear hV
    go_enter Tryz.func51, Tryz.ntmps51
    go_wp2
    go_ret
    exact ⟨rfl, belB⟩
  have d1 : decide ((40 : Int) < (na : Int)) = false := decide_eq_false (by omega)
  by_cases h2 : nb ≤ 40
  rotate_left
  · obtain rfl : V = false := by rw [hV]; simp [h2]
    have d2 : decide ((40 : Int) < (nb : Int)) = true := decide_eq_true (by omega)
    clear hV
    go_enter Tryz.func51, Tryz.ntmps51
    go_wp2
    go_ret
    exact ⟨rfl, belB⟩
  have d2 : decide ((40 : Int) < (nb : Int)) = false := decide_eq_false (by omega)
  by_cases h3 : ns ≤ 70
  rotate_left
  · obtain rfl : V = false := by rw [hV]; simp [h3]
    have d3 : decide ((70 : Int) < (ns : Int)) = true := decide_eq_true (by omega)
    clear hV
    go_enter Tryz.func51, Tryz.ntmps51
    go_wp2
    go_ret
    exact ⟨rfl, belB⟩
  have d3 : decide ((70 : Int) < (ns : Int)) = false := decide_eq_false (by omega)
  by_cases h4 : pat.size ≤ 1000
  rotate_left
  · obtain rfl : V = false := by rw [hV]; simp [h4]
    have d4 : decide ((1000 : Int) < (pat.size : Int)) = true := decide_eq_true (by omega)
    clear hV
    go_enter Tryz.func51, Tryz.ntmps51
    go_wp2
    go_ret
    exact ⟨rfl, belB⟩
  have d4 : decide ((1000 : Int) < (pat.size : Int)) = false := decide_eq_false (by omega)
  have hv2 : V = (cl.all (fun x => decide (x.size ≤ 100)) && co.all (fun x => decide (x.size ≤ 100))) := by rw [hV]; simp [h1, h2, h3, h4]
  have HV := Lib.hid hv2
  clear hV hv2
  go_enter Tryz.func51, Tryz.ntmps51
  go_wp2
  have hX0 : CBox (w.alloc (.cells #[.int .i64 fr, .int .i64 till, .string pat, .slice A na ca, .slice B nb cb, .slice S ns cs, .int .i64 us] 36)) w.heap.size fr till pat A na ca B nb cb S ns cs us := World.alloc_heap_new _ _
  go_loopw [3] (fun vi wr => ∃ k : Nat, vi = .int .i64 k ∧ k ≤ na ∧ Hid ((cl.take k).all (fun x => decide (x.size ≤ 100)) = true) ∧ CBox wr w.heap.size fr till pat A na ca B nb cb S ns cs us ∧ Below w.heap.size w wr) (fun i _ => na - (intOf i).toNat)
  case atStart => exact ⟨0, rfl, Nat.zero_le _, Lib.hid (by simp), hX0, balloc (Below.refl _ _) _⟩
  case round =>
    clear hX0
    obtain ⟨k, rfl, hk, HK, hX, hbr⟩ := hrel
    obtain ⟨x0, x1, x2, x3, x4, x5, x6⟩ := hX.facts
    by_cases hlt : k < na
    · obtain ⟨x, hx⟩ : ∃ x, cl[k]? = some x := ⟨_, List.getElem?_eq_getElem (by have := HNA.out; omega)⟩
      obtain ⟨b, o, rfl, hcell⟩ := (HA.out.keep hbr).2 (by omega)
      have hc1 : wr.cell? ⟨b, o + k, none⟩ = some (.string x) := hcell k _ (by simp [hx])
      have hk0 : (0 : Int) ≤ (k : Int) := by omega
      have hk1 : (k : Int) < (na : Int) := by omega
      by_cases hs : x.size ≤ 100
      · have HK2 : Hid ((cl.take (k + 1)).all (fun x => decide (x.size ≤ 100)) = true) := Lib.hid (all_take2 HK.out hx (by simpa using hs))
        have d5 : decide ((100 : Int) < (x.size : Int)) = false := decide_eq_false (by omega)
        clear hcell hx HK
        go_wp2
        exact ⟨⟨k + 1, by go_num, by omega, HK2, hX, hbr⟩, by simp [intOf]; omega⟩
      · obtain rfl : V = false := by rw [HV.out, all_false2 hx (by simpa using hs)]; rfl
        have d5 : decide ((100 : Int) < (x.size : Int)) = true := decide_eq_true (by omega)
        clear hcell hx HK
        go_wp2
        go_ret
        exact ⟨rfl, hbr⟩
    · obtain rfl : k = na := by omega
      have hall : cl.all (fun x => decide (x.size ≤ 100)) = true := by
        have := HK.out
        rwa [List.take_of_length_le (by have := HNA.out; omega)] at this
      have hv3 : V = co.all (fun x => decide (x.size ≤ 100)) := by rw [HV.out, hall, Bool.true_and]
      have HV2 := Lib.hid hv3
      clear hall hv3 HK HV
      go_wp2
      clear x0 x1 x2 x3 x4 x5 x6
      obtain ⟨wo, rfl⟩ : ∃ wo : World, wo = wr := ⟨_, rfl⟩
      go_loopw [4] (fun vi wz => ∃ j : Nat, vi = .int .i64 j ∧ j ≤ nb ∧ Hid ((co.take j).all (fun x => decide (x.size ≤ 100)) = true) ∧ CBox wz w.heap.size fr till pat A k ca B nb cb S ns cs us ∧ Below w.heap.size w wz) (fun i _ => nb - (intOf i).toNat)
      case atStart => exact ⟨0, rfl, Nat.zero_le _, Lib.hid (by simp), hX, hbr⟩
      case round =>
        clear hX hbr
        obtain ⟨j, rfl, hj, HJ, hX, hbr⟩ := hrel
        obtain ⟨x0, x1, x2, x3, x4, x5, x6⟩ := hX.facts
        by_cases hlt2 : j < nb
        · obtain ⟨x, hx⟩ : ∃ x, co[j]? = some x := ⟨_, List.getElem?_eq_getElem (by have := HNB.out; omega)⟩
          obtain ⟨b, o, rfl, hcell⟩ := (HB.out.keep hbr).2 (by omega)
          have hc1 : wr.cell? ⟨b, o + j, none⟩ = some (.string x) := hcell j _ (by simp [hx])
          have hj0 : (0 : Int) ≤ (j : Int) := by omega
          have hj1 : (j : Int) < (nb : Int) := by omega
          by_cases hs : x.size ≤ 100
          · have HJ2 : Hid ((co.take (j + 1)).all (fun x => decide (x.size ≤ 100)) = true) := Lib.hid (all_take2 HJ.out hx (by simpa using hs))
            have d5 : decide ((100 : Int) < (x.size : Int)) = false := decide_eq_false (by omega)
            clear hcell hx HJ
            go_wp2
            exact ⟨⟨j + 1, by go_num, by omega, HJ2, hX, hbr⟩, by simp [intOf]; omega⟩
          · obtain rfl : V = false := by rw [HV2.out, all_false2 hx (by simpa using hs)]
            have d5 : decide ((100 : Int) < (x.size : Int)) = true := decide_eq_true (by omega)
            clear hcell hx HJ
            go_wp2
            go_ret
            exact ⟨rfl, hbr⟩
        · obtain rfl : j = nb := by omega
          have hall : co.all (fun x => decide (x.size ≤ 100)) = true := by
            have := HJ.out
            rwa [List.take_of_length_le (by have := HNB.out; omega)] at this
          obtain rfl : V = true := by rw [HV2.out, hall]
          go_wp2
          go_ret
          exact ⟨rfl, hbr⟩
end Go.Proofs.YtmlhecjhjjlhfaaGreatDoor
namespace Go.Proofs.YtmlhecjhjjlhfaaGreatDoor
open Go.RowKit Go.Sort
set_option linter.unusedVariables false
set_option linter.unusedSimpArgs false
set_option maxRecDepth 100000
theorem beq_bytes (a b : ByteArray) : (a.toList == b.toList) = true ↔ a = b := by
  rw [Lib.toList_data, Lib.toList_data, beq_iff_eq]
  exact ⟨bytes_ext, fun h => by rw [h]⟩
theorem isWord_iff (s : ByteArray) : isWordB s = true ↔ s.data.toList ≠ [] ∧ s.data.toList ≠ [46] ∧ s.data.toList ≠ [46, 46] ∧ s.size ≤ 64 ∧ ∀ b ∈ s.data.toList, letterB b = true := by
  constructor
  · intro h
    obtain ⟨h1, h2, h3, h4⟩ := word_ne h
    exact ⟨h1, h2, h3, h4, word_letters h⟩
  · rintro ⟨h1, h2, h3, h4, h5⟩
    unfold isWordB
    rw [Lib.toList_data]
    simp only [Bool.and_eq_true, Bool.not_eq_true', decide_eq_true_eq, List.all_eq_true, beq_eq_false_iff_ne]
    exact ⟨⟨⟨⟨by simpa using h1, h4⟩, h2⟩, h3⟩, h5⟩
theorem isName_iff (s : ByteArray) : isNameB s = true ↔ isWordB s = true ∧ 46 ∉ s.data.toList := by
  unfold isNameB
  simp only [Bool.and_eq_true, Bool.not_eq_true', decide_eq_false_iff_not]
  constructor
  · rintro ⟨h1, h2⟩
    exact ⟨h1, indexByte_mem _ _ (by omega)⟩
  · rintro ⟨h1, h2⟩
    exact ⟨h1, by rw [indexByte_miss _ _ h2]; omega⟩
theorem has0 (t w : ByteArray) : hasP 0 t w = true ↔ t = w := by
  unfold hasP; rw [if_pos rfl]; exact beq_bytes t w
theorem has1 (t w : ByteArray) : hasP 1 t w = true ↔ t.size < w.size ∧ t.data.toList <:+ w.data.toList := by
  unfold hasP
  rw [if_neg (by decide), if_pos rfl]
  simp only [Bool.and_eq_true, decide_eq_true_eq, Lib.hasSuffix, List.isSuffixOf_iff_suffix]
theorem has2 (t w : ByteArray) : hasP 2 t w = true := by
  unfold hasP; rw [if_neg (by decide), if_neg (by decide)]
theorem cov0 (k : Nat) (t t2 : ByteArray) : coversP k t 0 t2 = hasP k t t2 := by
  unfold coversP; rw [if_pos rfl]
theorem cov1 (k : Nat) (t t2 : ByteArray) : coversP k t 1 t2 = true ↔ k = 2 ∨ (k = 1 ∧ t.data.toList <:+ t2.data.toList) := by
  unfold coversP
  rw [if_neg (by decide), if_pos rfl]
  simp only [Bool.or_eq_true, Bool.and_eq_true, beq_iff_eq, Lib.hasSuffix, List.isSuffixOf_iff_suffix]
theorem cov2 (k : Nat) (t t2 : ByteArray) : coversP k t 2 t2 = true ↔ k = 2 := by
  unfold coversP
  rw [if_neg (by decide), if_neg (by decide), beq_iff_eq]
def PartFit (p : Part) : Prop :=
  (p.kind = 0 ∧ isWordB p.text = true) ∨ (p.kind = 1 ∧ ∃ s : ByteArray, isWordB s = true ∧ s.size ≤ 32 ∧ p.text.data.toList = 46 :: s.data.toList) ∨ (p.kind = 2 ∧ p.text = ⟨#[]⟩)
def CustFit (p : Part) : Prop := (p.kind = 0 ∧ isNameB p.text = true) ∨ (p.kind = 2 ∧ p.text = ⟨#[]⟩)
theorem CustFit.part {p : Part} (h : CustFit p) : PartFit p := by
  rcases h with ⟨h1, h2⟩ | h
  · exact .inl ⟨h1, name_word h2⟩
  · exact .inr (.inr h)
theorem size_data (s : ByteArray) : s.size = s.data.toList.length := Lib.size_eq s
theorem covers_sound {p q : Part} (hq : PartFit q) (h : coversP p.kind p.text q.kind q.text = true) (w : ByteArray) (hw : hasP q.kind q.text w = true) : hasP p.kind p.text w = true := by
  obtain ⟨k, t⟩ := p
  obtain ⟨k2, t2⟩ := q
  dsimp only at *
  rcases hq with ⟨hk, _⟩ | ⟨hk, _⟩ | ⟨hk, _⟩ <;> dsimp only at hk <;> subst hk
  · rw [cov0] at h
    rw [has0] at hw
    subst hw
    exact h
  · rw [has1] at hw
    rcases (cov1 k t t2).1 h with rfl | ⟨rfl, hs⟩
    · exact has2 _ _
    · rw [has1]
      have := hs.length_le
      rw [← size_data, ← size_data] at this
      exact ⟨by omega, hs.trans hw.2⟩
  · rw [cov2] at h
    subst h
    exact has2 _ _
theorem letter_ab {c : UInt8} (hc : c = 97 ∨ c = 98) : letterB c = true ∧ c ≠ 46 := by
  rcases hc with rfl | rfl <;> exact ⟨by decide, by decide⟩
theorem with_data (k : Nat) (t : ByteArray) (c : UInt8) : (withP k t ⟨#[c]⟩).data.toList = if k = 0 then t.data.toList else if k = 1 then c :: t.data.toList else [c] := by
  unfold withP
  split
  · rfl
  · split
    · simp
    · rfl
theorem word_one {c : UInt8} (hc : c = 97 ∨ c = 98) : isNameB ⟨#[c]⟩ = true := by
  rcases hc with rfl | rfl <;> decide +kernel
theorem with_fit {p : Part} (hp : PartFit p) {c : UInt8} (hc : c = 97 ∨ c = 98) : isWordB (withP p.kind p.text ⟨#[c]⟩) = true ∧ hasP p.kind p.text (withP p.kind p.text ⟨#[c]⟩) = true := by
  obtain ⟨k, t⟩ := p
  rcases hp with ⟨hk, hw⟩ | ⟨hk, s, hs, hs2, ht⟩ | ⟨hk, hw⟩ <;> dsimp only at * <;> subst hk
  · have e : withP 0 t ⟨#[c]⟩ = t := rfl
    rw [e, has0]
    exact ⟨hw, rfl⟩
  · have e := with_data 1 t c
    rw [if_neg (by decide), if_pos rfl] at e
    have hz : t.size = s.size + 1 := by rw [size_data, size_data, ht]; rfl
    have hz2 : (withP 1 t ⟨#[c]⟩).size = t.size + 1 := by rw [size_data, size_data, e]; rfl
    rw [has1, isWord_iff, e, hz2]
    obtain ⟨g1, g2, g3, g4, g5⟩ := (isWord_iff s).1 hs
    refine ⟨⟨by simp, by rw [ht]; simp, ?_, by omega, ?_⟩, by omega, List.suffix_cons _ _⟩
    · rw [ht]; intro h
      injection h with h1 h2
      exact (letter_ab hc).2 h1
    · intro b hb
      rw [ht] at hb
      rcases List.mem_cons.1 hb with rfl | hb
      · exact (letter_ab hc).1
      · rcases List.mem_cons.1 hb with rfl | hb
        · decide
        · exact g5 b hb
  · have e : withP 2 t ⟨#[c]⟩ = ⟨#[c]⟩ := rfl
    rw [e]
    exact ⟨name_word (word_one hc), has2 _ _⟩
theorem with_cust {p : Part} (hp : CustFit p) {c : UInt8} (hc : c = 97 ∨ c = 98) : isNameB (withP p.kind p.text ⟨#[c]⟩) = true := by
  obtain ⟨k, t⟩ := p
  rcases hp with ⟨hk, hw⟩ | ⟨hk, hw⟩ <;> dsimp only at * <;> subst hk
  · exact hw
  · exact word_one hc
theorem suffix_total {a b w : List UInt8} (ha : a <:+ w) (hb : b <:+ w) : a <:+ b ∨ b <:+ a := by
  rcases Nat.le_total a.length b.length with h | h
  · exact .inl (List.suffix_of_suffix_length_le ha hb h)
  · exact .inr (List.suffix_of_suffix_length_le hb ha h)
theorem not_meets {p q : Part} (hp : PartFit p) (hq : PartFit q) (h : meetsP p q = false) (w : ByteArray) (h1 : hasP p.kind p.text w = true) (h2 : hasP q.kind q.text w = true) : False := by
  unfold meetsP at h
  rw [Bool.or_eq_false_iff] at h
  obtain ⟨k, t⟩ := p
  obtain ⟨k2, t2⟩ := q
  dsimp only at *
  have n1 : coversP k t k2 t2 ≠ true := by rw [h.1]; decide
  have n2 : coversP k2 t2 k t ≠ true := by rw [h.2]; decide
  rcases hp with ⟨hk, _⟩ | ⟨hk, _⟩ | ⟨hk, _⟩ <;> dsimp only at hk <;> subst hk
  · rw [has0] at h1; subst h1
    rw [cov0] at n2
    exact n2 h2
  · rcases hq with ⟨hk, _⟩ | ⟨hk, _⟩ | ⟨hk, _⟩ <;> dsimp only at hk <;> subst hk
    · rw [has0] at h2; subst h2
      rw [cov0] at n1
      exact n1 h1
    · rw [has1] at h1 h2
      rcases suffix_total h1.2 h2.2 with e | e
      · exact n1 ((cov1 _ _ _).2 (.inr ⟨rfl, e⟩))
      · exact n2 ((cov1 _ _ _).2 (.inr ⟨rfl, e⟩))
    · exact n2 ((cov1 _ _ _).2 (.inl rfl))
  · rcases hq with ⟨hk, _⟩ | ⟨hk, _⟩ | ⟨hk, _⟩ <;> dsimp only at hk <;> subst hk
    · rw [cov0] at n1; exact n1 (has2 _ _)
    · exact n1 ((cov1 _ _ _).2 (.inl rfl))
    · exact n1 ((cov2 _ _ _).2 rfl)
theorem meets_has {p q : Part} (hp : PartFit p) (hq : PartFit q) (h : meetsP p q = true) (w : ByteArray) :
    hasP (meetP p q).kind (meetP p q).text w = (hasP p.kind p.text w && hasP q.kind q.text w) := by
  unfold meetsP at h
  unfold meetP
  cases hc : coversP p.kind p.text q.kind q.text
  · rw [hc, Bool.false_or] at h
    simp only [Bool.false_eq_true, if_false]
    cases hw : hasP p.kind p.text w
    · rfl
    · rw [covers_sound hp h w hw]; rfl
  · simp only [if_true]
    cases hw : hasP q.kind q.text w
    · rw [Bool.and_false]
    · rw [covers_sound hq hc w hw]; rfl
theorem meetP_fit {p q : Part} (hp : PartFit p) (hq : PartFit q) : PartFit (meetP p q) := by
  unfold meetP; split <;> assumption
theorem meetP_cust {p q : Part} (hp : CustFit p) (hq : CustFit q) : CustFit (meetP p q) := by
  unfold meetP; split <;> assumption
end Go.Proofs.YtmlhecjhjjlhfaaGreatDoor
