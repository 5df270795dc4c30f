/- Plain: an address that is well formed and whose text is not too long is read back from its text. -/
import Derived.Test.YtocgkpdolgnbgaaGreatDoorMGB
import Derived.Test.YtocgkpdolgnbgaaGreatDoorProg
import Derived.WalkKit
import Derived.WalkSpells
import Derived.WalkLawsBesides
import Derived.Below
import Derived.Deep.QuietTactic
import Derived.BigQuiet
import Derived.Lib.QuietBelow
import Derived.Lib.Strings
import Derived.Lib.Hide
import Derived.Deep.RegionWith
import Derived.Deep.RegionHeld3
import Derived.Lib.IndexBytes
namespace Go.Proofs.YtocgkpdolgnbgaaGreatDoor
open Go.RowKit Go.Sort
set_option linter.unusedVariables false
set_option linter.unusedSimpArgs false
set_option maxRecDepth 100000
theorem index_hit (a b : List UInt8) (c : UInt8) (h : c ∉ a) : Lib.index (a ++ c :: b) [c] = a.length := by
  rw [Lib.index_one]
  induction a with
  | nil => simp [indexByte_cons]
  | cons x a ih =>
    simp only [List.mem_cons, not_or] at h
    rw [List.cons_append, indexByte_cons, if_neg (fun e => h.1 e.symm), ih h.2, if_neg (by omega)]
    simp
theorem indexByte_miss (a : List UInt8) (c : UInt8) (h : c ∉ a) : Lib.indexByte a c = -1 := by
  induction a with
  | nil => rfl
  | cons x a ih =>
    simp only [List.mem_cons, not_or] at h
    rw [indexByte_cons, if_neg (fun e => h.1 e.symm), ih h.2, if_pos rfl]
theorem index_miss (a : List UInt8) (c : UInt8) (h : c ∉ a) : Lib.index a [c] = -1 := by
  rw [Lib.index_one]; exact indexByte_miss a c h
theorem indexByte_mem (a : List UInt8) (c : UInt8) (h : Lib.indexByte a c < 0) : c ∉ a := by
  induction a with
  | nil => simp
  | cons x a ih =>
    have := indexByte_ge c a
    rw [indexByte_cons] at h
    split at h
    · omega
    · rename_i hne
      split at h
      · rename_i he
        simp only [List.mem_cons, not_or]
        exact ⟨fun e => hne e.symm, ih (by omega)⟩
      · omega
theorem cut_hit (a b : List UInt8) (c : UInt8) (h : c ∉ a) : Lib.cut (a ++ c :: b) [c] = (a, b, true) := by
  unfold Lib.cut
  rw [index_hit a b c h, if_pos (by omega)]
  simp
theorem cut_none (a : List UInt8) (c : UInt8) (h : c ∉ a) : Lib.cut a [c] = (a, [], false) := by
  unfold Lib.cut
  rw [index_miss a c h, if_neg (by omega)]
theorem split_hit (a b : List UInt8) (c : UInt8) (h : c ∉ a) : splitL c (a ++ c :: b) = a :: splitL c b := by
  induction a with
  | nil => simp [splitL]
  | cons x a ih =>
    simp only [List.mem_cons, not_or] at h
    rw [List.cons_append, splitL, if_neg (fun e => h.1 e.symm), ih h.2]
theorem split_none (a : List UInt8) (c : UInt8) (h : c ∉ a) : splitL c a = [a] := splitL_miss c a (by rw [indexByte_miss a c h]; omega)
theorem split_path : ∀ (x : List UInt8) (l : List (List UInt8)), 47 ∉ x → (∀ y ∈ l, 47 ∉ y) → splitL 47 (x ++ pathL l) = x :: l
  | x, [], h, _ => by simp [pathL, split_none x 47 h]
  | x, y :: l, h, hl => by
    have e : x ++ pathL (y :: l) = x ++ 47 :: (y ++ pathL l) := by simp [pathL]
    rw [e, split_hit _ _ _ h, split_path y l (hl y (by simp)) (fun z hz => hl z (by simp [hz]))]
def pairT (q : List UInt8 × List UInt8) : List UInt8 := q.1 ++ 61 :: q.2
theorem split_query : ∀ (q : List UInt8 × List UInt8) (l : List (List UInt8 × List UInt8)), 38 ∉ pairT q → (∀ r ∈ l, 38 ∉ pairT r) → splitL 38 (pairT q ++ queryL 38 l) = (q :: l).map pairT
  | q, [], h, _ => by simp [queryL, split_none _ 38 h]
  | q, r :: l, h, hl => by
    have e : pairT q ++ queryL 38 (r :: l) = pairT q ++ 38 :: (pairT r ++ queryL 38 l) := by simp [queryL, pairT]
    rw [e, split_hit _ _ _ h, split_query r l (hl r (by simp)) (fun z hz => hl z (by simp [hz]))]
    rfl
theorem letter_no (b : UInt8) (h : letterB b = true) : b ≠ 47 ∧ b ≠ 63 ∧ b ≠ 38 ∧ b ≠ 61 ∧ b ≠ 42 ∧ b ≠ 44 ∧ ¬ (65 ≤ b.toNat ∧ b.toNat ≤ 90) := by
  unfold letterB isLetN at h
  simp only [decide_eq_true_eq] at h
  have k : ∀ c : Nat, c < 256 → b.toNat ≠ c → b ≠ UInt8.ofNat c := fun c hc h e => h (by rw [e, UInt8.toNat_ofNat']; omega)
  exact ⟨k 47 (by omega) (by omega), k 63 (by omega) (by omega), k 38 (by omega) (by omega), k 61 (by omega) (by omega), k 42 (by omega) (by omega), k 44 (by omega) (by omega), by omega⟩
theorem word_letters {s : ByteArray} (h : isWordB s = true) : ∀ b ∈ s.data.toList, letterB b = true := by
  unfold isWordB at h
  simp only [Bool.and_eq_true, List.all_eq_true] at h
  exact h.2
theorem name_word {s : ByteArray} (h : isNameB s = true) : isWordB s = true := by
  unfold isNameB at h
  simp only [Bool.and_eq_true] at h
  exact h.1
theorem word_no {s : ByteArray} (h : isWordB s = true) : 47 ∉ s.data.toList ∧ 63 ∉ s.data.toList ∧ 38 ∉ s.data.toList ∧ 61 ∉ s.data.toList ∧ 42 ∉ s.data.toList ∧ 44 ∉ s.data.toList :=
  ⟨fun hm => (letter_no _ (word_letters h _ hm)).1 rfl, fun hm => (letter_no _ (word_letters h _ hm)).2.1 rfl, fun hm => (letter_no _ (word_letters h _ hm)).2.2.1 rfl, fun hm => (letter_no _ (word_letters h _ hm)).2.2.2.1 rfl, fun hm => (letter_no _ (word_letters h _ hm)).2.2.2.2.1 rfl, fun hm => (letter_no _ (word_letters h _ hm)).2.2.2.2.2.1 rfl⟩
theorem word_ne {s : ByteArray} (h : isWordB s = true) : s.data.toList ≠ [] ∧ s.data.toList ≠ [46] ∧ s.data.toList ≠ [46, 46] ∧ s.size ≤ 64 := by
  unfold isWordB at h
  simp only [Bool.and_eq_true, Bool.not_eq_true', decide_eq_true_eq, Lib.toList_data] at h
  obtain ⟨⟨⟨⟨h1, h2⟩, h3⟩, h4⟩, _⟩ := h
  exact ⟨by intro e; simp [e] at h1, by intro e; simp [e] at h3, by intro e; simp [e] at h4, h2⟩
theorem low_same : ∀ l : List UInt8, (∀ b ∈ l, ¬ (65 ≤ b.toNat ∧ b.toNat ≤ 90)) → lowL l = l
  | [], _ => rfl
  | b :: l, h => by
    have h1 := h b (by simp)
    have h2 := low_same l (fun c hc => h c (by simp [hc]))
    unfold lowL at h2 ⊢
    rw [List.map_cons, h2]
    congr 1
    unfold lowN
    rw [if_neg h1]
    exact UInt8.ofNat_toNat
theorem res_words : ∀ (l out : List ByteArray), (∀ p ∈ l, isWordB p = true) → resB out l = some (out ++ l)
  | [], out, _ => by simp [resB]
  | p :: l, out, h => by
    have hp := h p (by simp)
    obtain ⟨h1, h2, h3, _⟩ := word_ne hp
    have e : resStep out p = some (out ++ [p]) := by
      unfold resStep
      rw [Lib.toList_data, if_neg (by simp [h2]), if_neg (by simp [h3]), if_pos hp]
    rw [resB, e, Option.bind_some, res_words l _ (fun q hq => h q (by simp [hq]))]
    simp
theorem parsePair_of {k v : List UInt8} (hk : isNameB (toB k) = true) (hv : isWordB (toB v) = true) : parsePair (toB (pairT (k, v))) = some (k, v) := by
  have h61 : 61 ∉ k := (word_no (name_word hk)).2.2.2.1
  have e : Lib.cut (pairT (k, v)) [61] = (k, v, true) := cut_hit k v 61 h61
  unfold parsePair
  rw [show (toB (pairT (k, v))).data.toList = pairT (k, v) from rfl, e]
  simp [hk, hv]
theorem qAcc_of : ∀ (l acc : List (List UInt8 × List UInt8)), (∀ q ∈ l, isNameB (toB q.1) = true ∧ isWordB (toB q.2) = true) → qAcc acc (l.map fun q => toB (pairT q)) = some (acc ++ l)
  | [], acc, _ => by simp [qAcc]
  | q :: l, acc, h => by
    have hq := h q (by simp)
    rw [List.map_cons, qAcc, parsePair_of hq.1 hq.2]
    simp only
    rw [qAcc_of l _ (fun r hr => h r (by simp [hr]))]
    simp
theorem insL_last (p : List UInt8 × List UInt8) : ∀ acc : List (List UInt8 × List UInt8), (∀ q ∈ acc, q.1 < p.1) → insL acc p = acc ++ [p]
  | [], _ => rfl
  | q :: acc, h => by
    have h1 := h q (by simp)
    rw [insL, if_neg (fun e => List.lt_irrefl _ (by rw [← e] at h1; exact h1)), if_neg (fun e => List.lt_irrefl _ (List.lt_trans h1 e)), insL_last p acc (fun r hr => h r (by simp [hr]))]
    rfl
theorem fold_sorted : ∀ (l acc : List (List UInt8 × List UInt8)), SortedK (acc ++ l) → l.foldl insL acc = acc ++ l
  | [], acc, _ => by simp
  | p :: l, acc, h => by
    have h1 := List.pairwise_append.1 h
    rw [List.foldl_cons, insL_last p acc (fun q hq => h1.2.2 q hq p (by simp)), fold_sorted l (acc ++ [p]) (by simpa using h)]
    simp
theorem pairs_sorted (l : List (List UInt8 × List UInt8)) (h : SortedK l) : pairsL l = l := by
  have := fold_sorted l [] (by simpa using h)
  simpa [pairsL] using this
theorem toB_data (s : ByteArray) : toB s.data.toList = s := bytes_ext rfl
theorem pairsB_of (qs : List (ByteArray × ByteArray)) (q : ByteArray × ByteArray) (h : ∀ r ∈ q :: qs, isNameB r.1 = true ∧ isWordB r.2 = true) (hup : KeysUp (q :: qs)) :
    pairsB (toB (pairT (q.1.data.toList, q.2.data.toList) ++ queryL 38 (lists2 qs))) = some (q :: qs) := by
  have h38 : ∀ r ∈ q :: qs, 38 ∉ pairT (r.1.data.toList, r.2.data.toList) := by
    intro r hr
    have h1 := (word_no (name_word (h r hr).1)).2.2.1
    have h2 := (word_no (h r hr).2).2.2.1
    simp [pairT, h1, h2]
  have hs := split_query (q.1.data.toList, q.2.data.toList) (lists2 qs) (h38 q (by simp)) (by
    intro r hr
    obtain ⟨x, hx, rfl⟩ := List.mem_map.1 hr
    exact h38 x (by simp [hx]))
  unfold pairsB
  have hne : ¬ ((toB (pairT (q.1.data.toList, q.2.data.toList) ++ queryL 38 (lists2 qs))).toList.isEmpty = true) := by
    rw [Lib.toList_data]; simp [toB, pairT]
  rw [if_neg hne]
  have hsp : splitB 38 (toB (pairT (q.1.data.toList, q.2.data.toList) ++ queryL 38 (lists2 qs))) = (lists2 (q :: qs)).map fun r => toB (pairT r) := by
    unfold splitB
    rw [show (toB (pairT (q.1.data.toList, q.2.data.toList) ++ queryL 38 (lists2 qs))).data.toList = pairT (q.1.data.toList, q.2.data.toList) ++ queryL 38 (lists2 qs) from rfl, hs]
    simp [lists2, toB]
  rw [hsp, qAcc_of _ [] (by
    intro r hr
    obtain ⟨x, hx, rfl⟩ := List.mem_map.1 hr
    have := h x hx
    rw [toB_data, toB_data]; exact this)]
  simp only [List.nil_append, Option.map_some]
  rw [pairs_sorted _ (by
    unfold SortedK lists2
    exact List.pairwise_map.2 hup)]
  congr 1
  unfold lists2
  rw [List.map_map]
  conv => rhs; rw [← List.map_id (q :: qs)]
  refine List.map_congr_left fun x _ => ?_
  simp [toB_data]
theorem path_letters (xs : List ByteArray) (h : ∀ p ∈ xs, isWordB p = true) (b : UInt8) (hb : b ∈ pathL (lists xs)) : b = 47 ∨ letterB b = true := by
  unfold pathL lists at hb
  obtain ⟨l, hl, hb⟩ := List.mem_flatMap.1 hb
  obtain ⟨x, hx, rfl⟩ := List.mem_map.1 hl
  rcases List.mem_cons.1 hb with h1 | h1
  · exact .inl h1
  · exact .inr (word_letters (h x hx) b h1)
theorem query_letters : ∀ (sep : UInt8) (qs : List (ByteArray × ByteArray)), (∀ r ∈ qs, isNameB r.1 = true ∧ isWordB r.2 = true) → ∀ b, b ∈ queryL sep (lists2 qs) → b = sep ∨ b = 38 ∨ b = 61 ∨ letterB b = true
  | sep, [], _, b, hb => by simp [lists2, queryL] at hb
  | sep, q :: qs, h, b, hb => by
    have e : queryL sep (lists2 (q :: qs)) = sep :: (q.1.data.toList ++ 61 :: q.2.data.toList) ++ queryL 38 (lists2 qs) := rfl
    rw [e] at hb
    have hq := h q (by simp)
    simp only [List.cons_append, List.mem_cons, List.mem_append] at hb
    rcases hb with h1 | (h1 | h1 | h1) | h1
    · exact .inl h1
    · exact .inr (.inr (.inr (word_letters (name_word hq.1) b h1)))
    · exact .inr (.inr (.inl h1))
    · exact .inr (.inr (.inr (word_letters hq.2 b h1)))
    · rcases query_letters 38 qs (fun r hr => h r (by simp [hr])) b h1 with h2 | h2
      · exact .inr (.inl h2)
      · exact .inr h2
theorem noCap_of {b : UInt8} (h : b = 47 ∨ b = 63 ∨ b = 38 ∨ b = 61 ∨ letterB b = true) : ¬ (65 ≤ b.toNat ∧ b.toNat ≤ 90) := by
  rcases h with rfl | rfl | rfl | rfl | h
  · decide
  · decide
  · decide
  · decide
  · exact (letter_no b h).2.2.2.2.2.2
theorem adr_noCap {a : Adr} (h : AdrGood a) : ∀ b ∈ W06 a.cust a.path a.query, ¬ (65 ≤ b.toNat ∧ b.toNat ≤ 90) := by
  intro b hb
  unfold W06 writeL at hb
  simp only [List.mem_append] at hb
  refine noCap_of ?_
  rcases hb with (h1 | h1) | h1
  · exact .inr (.inr (.inr (.inr (word_letters (name_word h.name) b h1))))
  · rcases path_letters _ h.words b h1 with h2 | h2
    · exact .inl h2
    · exact .inr (.inr (.inr (.inr h2)))
  · rcases query_letters 63 _ h.query b h1 with h2 | h2 | h2 | h2
    · exact .inr (.inl h2)
    · exact .inr (.inr (.inl h2))
    · exact .inr (.inr (.inr (.inl h2)))
    · exact .inr (.inr (.inr (.inr h2)))
theorem pairsB_nil : pairsB (toB []) = some [] := by
  unfold pairsB
  rw [if_pos (by rw [Lib.toList_data]; rfl)]
def frontL (a : Adr) : List UInt8 := a.cust.data.toList ++ pathL (lists a.path)
theorem front_no63 {a : Adr} (h : AdrGood a) : 63 ∉ frontL a := by
  intro hm
  unfold frontL at hm
  rcases List.mem_append.1 hm with h1 | h1
  · exact (word_no (name_word h.name)).2.1 h1
  · rcases path_letters _ h.words _ h1 with h2 | h2
    · exact absurd h2 (by decide)
    · exact (letter_no _ h2).2.1 rfl
theorem left_of {a : Adr} (h : AdrGood a) : (leftL (toB (W06 a.cust a.path a.query))).1 = frontL a ∧ pairsB (toB (leftL (toB (W06 a.cust a.path a.query))).2.1) = some a.query := by
  unfold leftL
  rw [show (toB (W06 a.cust a.path a.query)).data.toList = W06 a.cust a.path a.query from rfl, low_same _ (adr_noCap h)]
  have e : W06 a.cust a.path a.query = frontL a ++ queryL 63 (lists2 a.query) := rfl
  rw [e]
  cases hq : a.query with
  | nil =>
    rw [show queryL 63 (lists2 []) = [] from rfl, List.append_nil, cut_none _ _ (front_no63 h)]
    exact ⟨rfl, pairsB_nil⟩
  | cons q qs =>
    have e2 : queryL 63 (lists2 (q :: qs)) = 63 :: (pairT (q.1.data.toList, q.2.data.toList) ++ queryL 38 (lists2 qs)) := by
      simp [lists2, queryL, pairT]
    rw [e2, cut_hit _ _ _ (front_no63 h)]
    exact ⟨rfl, pairsB_of qs q (by rw [← hq]; exact h.query) (by rw [← hq]; exact h.up)⟩
theorem trim_none (l : List UInt8) (x : UInt8) (hx : x ≠ 47) : Lib.trimSuffix (l ++ [x]) [47] = l ++ [x] := by
  unfold Lib.trimSuffix
  rw [if_neg]
  unfold Lib.hasSuffix
  intro h
  rw [List.isSuffixOf_iff_suffix] at h
  obtain ⟨t, ht⟩ := h
  have := (List.append_inj' ht rfl).2
  simp at this
  exact hx this.symm
theorem word_end {s : ByteArray} (h : isWordB s = true) : ∃ l x, s.data.toList = l ++ [x] ∧ x ≠ 47 := by
  have hne := (word_ne h).1
  refine ⟨s.data.toList.dropLast, s.data.toList.getLast hne, (List.dropLast_concat_getLast hne).symm, ?_⟩
  exact (letter_no _ (word_letters h _ (List.getLast_mem hne))).1
theorem front_end {a : Adr} (h : AdrGood a) : ∃ l x, frontL a = l ++ [x] ∧ x ≠ 47 := by
  unfold frontL
  rcases List.eq_nil_or_concat a.path with hp | ⟨p, x, hp⟩
  · rw [hp]
    obtain ⟨l, x, h1, h2⟩ := word_end (name_word h.name)
    exact ⟨l, x, by simp [lists, pathL, h1], h2⟩
  · obtain ⟨l, y, h1, h2⟩ := word_end (h.words x (by rw [hp]; simp))
    refine ⟨a.cust.data.toList ++ (pathL (lists p) ++ 47 :: l), y, ?_, h2⟩
    rw [hp]
    simp [lists, pathL, h1]
theorem cust_of {a : Adr} (h : AdrGood a) : (custL (toB (W06 a.cust a.path a.query))).1 = a.cust.data.toList ∧ pathB (custL (toB (W06 a.cust a.path a.query))) = some a.path := by
  obtain ⟨l, x, he, hx⟩ := front_end h
  have hc := (word_no (name_word h.name)).1
  unfold custL
  rw [(left_of h).1, he, trim_none l x hx, ← he]
  unfold frontL
  cases hp : a.path with
  | nil =>
    rw [show pathL (lists []) = [] from rfl, List.append_nil, cut_none _ _ hc]
    exact ⟨rfl, rfl⟩
  | cons p ps =>
    have e2 : pathL (lists (p :: ps)) = 47 :: (p.data.toList ++ pathL (lists ps)) := by simp [pathL, lists]
    have hw : ∀ q ∈ p :: ps, isWordB q = true := by rw [← hp]; exact h.words
    rw [e2, cut_hit _ _ _ hc]
    refine ⟨rfl, ?_⟩
    unfold pathB
    simp only [if_true]
    have hs := split_path p.data.toList (lists ps) (word_no (hw p (by simp))).1 (by
      intro y hy
      obtain ⟨z, hz, rfl⟩ := List.mem_map.1 hy
      exact (word_no (hw z (by simp [hz]))).1)
    have hsp : splitB 47 (toB (p.data.toList ++ pathL (lists ps))) = p :: ps := by
      unfold splitB
      rw [show (toB (p.data.toList ++ pathL (lists ps))).data.toList = p.data.toList ++ pathL (lists ps) from rfl, hs]
      have : ∀ z : ByteArray, (⟨z.data.toList.toArray⟩ : ByteArray) = z := fun z => bytes_ext rfl
      simp [lists, Function.comp_def]
    rw [hsp, res_words _ _ hw]
    rfl
theorem parse_write {a : Adr} (h : AdrGood a) (hs : (W06 a.cust a.path a.query).length ≤ 4096) : parseB (toB (W06 a.cust a.path a.query)) = (a, 0) := by
  unfold parseB
  have hz : ¬ 4096 < (toB (W06 a.cust a.path a.query)).size := by
    rw [Lib.size_eq, show (toB (W06 a.cust a.path a.query)).data.toList = W06 a.cust a.path a.query from rfl]; omega
  rw [if_neg hz, (cust_of h).1, (cust_of h).2, (left_of h).2, toB_data, h.name]
  unfold adrOf
  simp only
  rw [if_pos ⟨h.parts, h.pairs⟩]
theorem read_write {a : Adr} (h : AdrGood a) (hs : (W06 a.cust a.path a.query).length ≤ 4096) : readB (toB (W06 a.cust a.path a.query)) = true := by
  unfold readB
  rw [parse_write h hs]
  simp [toB]
end Go.Proofs.YtocgkpdolgnbgaaGreatDoor
