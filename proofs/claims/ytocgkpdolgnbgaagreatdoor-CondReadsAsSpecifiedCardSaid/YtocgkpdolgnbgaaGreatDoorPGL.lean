/- Plain: numerals and the text of a condition read back. -/
import Derived.Test.YtocgkpdolgnbgaaGreatDoorPJB
import Derived.Test.YtocgkpdolgnbgaaGreatDoorPPlainX
import Derived.Lib.AtoiTie
import Derived.Lib.AtoiAllCases
import Derived.Test.YtocgkpdolgnbgaaGreatDoorProg
import Derived.WalkKit
import Derived.WalkSpells
import Derived.WalkLawsBesides
import Derived.Below
import Derived.Deep.QuietTactic
import Derived.BigQuiet
import Derived.Lib.QuietBelow
import Derived.Lib.Strings
import Derived.Lib.Hide
import Derived.Deep.RegionWith
import Derived.Deep.RegionHeld3
import Derived.Lib.IndexBytes
import Derived.Test.YtocgkpdolgnbgaaGreatDoorPGB
namespace Go.Proofs.YtocgkpdolgnbgaaGreatDoor
open Go.RowKit Go.Sort
set_option linter.unusedVariables false
set_option linter.unusedSimpArgs false
set_option maxRecDepth 100000
theorem digit_of (d : Nat) (h : d < 10) : Lib.digitVal (UInt8.ofNat (48 + d)) = some d := by
  unfold Lib.digitVal
  have e : (UInt8.ofNat (48 + d)).toNat = 48 + d := by rw [UInt8.toNat_ofNat']; omega
  rw [e, if_pos (by omega)]
  congr 1; omega
theorem dec_back (u : Nat) : ∀ (acc : Nat) (r : List UInt8), Lib.decFrom acc (Lib.decDigits u ++ r) = Lib.decFrom (acc * 10 ^ Lib.nDigits u + u) r := by
  induction u using Nat.strongRecOn with
  | _ u ih =>
    intro acc r
    by_cases h : u < 10
    · rw [Lib.decDigits, dif_pos h, Lib.nDigits_small h]
      simp only [List.cons_append, List.nil_append, Lib.decFrom, digit_of u h, Nat.pow_one]
    · rw [Lib.decDigits, dif_neg h, Lib.nDigits_big h, List.append_assoc, ih (u / 10) (by omega)]
      simp only [List.cons_append, List.nil_append, Lib.decFrom, digit_of (u % 10) (by omega)]
      congr 1
      rw [Nat.pow_succ, Nat.add_mul, ← Nat.mul_assoc]
      omega
theorem dec_digit (u : Nat) : ∀ b ∈ Lib.decDigits u, 48 ≤ b.toNat ∧ b.toNat ≤ 57 := by
  induction u using Nat.strongRecOn with
  | _ u ih =>
    intro b hb
    by_cases h : u < 10
    · rw [Lib.decDigits, dif_pos h, List.mem_singleton] at hb
      subst hb
      rw [UInt8.toNat_ofNat']; omega
    · rw [Lib.decDigits, dif_neg h, List.mem_append, List.mem_singleton] at hb
      rcases hb with hb | rfl
      · exact ih (u / 10) (by omega) b hb
      · rw [UInt8.toNat_ofNat']; omega
theorem nd_le : ∀ (k u : Nat), u < 10 ^ (k + 1) → Lib.nDigits u ≤ k + 1
  | 0, u, h => by rw [Lib.nDigits_small (by simpa using h)]; omega
  | k + 1, u, h => by
    by_cases h1 : u < 10
    · rw [Lib.nDigits_small h1]; omega
    · rw [Lib.nDigits_big h1]
      have := nd_le k (u / 10) (by rw [Nat.pow_succ] at h; omega)
      omega
theorem dec_len (u : Nat) (h : u ≤ 1099511627777) : (Lib.decDigits u).length ≤ 13 ∧ 1 ≤ (Lib.decDigits u).length := by
  rw [Lib.decDigits_length]
  exact ⟨nd_le 12 u (by omega), Lib.nDigits_pos u⟩
theorem itoa_dec (n : Int) (h : 0 ≤ n) : (itoaB n).data.toList = Lib.decDigits n.toNat := by
  unfold itoaB Lib.itoa
  rw [if_neg (by omega)]
theorem dec_zero (u : Nat) : Lib.decFrom 0 (Lib.decDigits u) = some u := by
  have := dec_back u 0 []
  rw [List.append_nil] at this
  rw [this]
  simp [Lib.decFrom]
def numR (s : ByteArray) : Int := if s.size = 0 ∨ 15 < s.size then -1 else match Lib.decFrom 0 s.data.toList with
  | some n => n
  | none => -1
theorem numR_itoa (n : Int) (h0 : 0 ≤ n) (h1 : n ≤ 1099511627777) : numR (itoaB n) = n := by
  have hl := dec_len n.toNat (by omega)
  unfold numR
  rw [Lib.size_eq, itoa_dec n h0, if_neg (by omega), dec_zero]
  show ((n.toNat : Nat) : Int) = n
  omega
def atoiN (s : ByteArray) : Int := match Lib.atoiAll s.data.toList with
  | .ok v => v
  | .«syntax» => 0
  | .range => Lib.atoiSat s.data.toList
def atoiBad (s : ByteArray) : Bool := match Lib.atoiAll s.data.toList with
  | .ok _ => false
  | _ => true
theorem atoi_itoa (n : Int) (h0 : 0 ≤ n) (h1 : n ≤ 1099511627777) : Lib.atoiAll (itoaB n).data.toList = .ok n := by
  have hl := dec_len n.toNat (by omega)
  rw [itoa_dec n h0, Lib.atoiAll_short _ (by omega)]
  have hd := dec_digit n.toNat
  have hz := dec_zero n.toNat
  have hn : ((n.toNat : Nat) : Int) = n := by omega
  cases hc : Lib.decDigits n.toNat with
  | nil => rw [hc] at hl; simp at hl
  | cons b r =>
    rw [hc] at hd hz
    have hb := hd b (by simp)
    have e1 : (b == 45) = false := by rw [beq_eq_false_iff_ne]; rintro rfl; exact absurd hb.1 (by decide)
    have e2 : (b == 43) = false := by rw [beq_eq_false_iff_ne]; rintro rfl; exact absurd hb.1 (by decide)
    simp only [Lib.atoi, e1, e2, Lib.decNat, List.isEmpty_cons, hz]
    simp [Lib.NumEnd.ofOption, hn]
theorem atoiN_itoa (n : Int) (h0 : 0 ≤ n) (h1 : n ≤ 1099511627777) : atoiN (itoaB n) = n ∧ atoiBad (itoaB n) = false := by
  unfold atoiN atoiBad
  rw [atoi_itoa n h0 h1]
  exact ⟨rfl, rfl⟩
theorem split_sep (c : UInt8) : ∀ (x : List UInt8) (l : List (List UInt8)), c ∉ x → (∀ y ∈ l, c ∉ y) → splitL c (x ++ Lib.joinTail [c] l) = x :: l
  | x, [], hx, _ => by simp [Lib.joinTail]; exact split_none x c hx
  | x, y :: l, hx, hl => by
    have e : Lib.joinTail [c] (y :: l) = c :: (y ++ Lib.joinTail [c] l) := by simp [Lib.joinTail]
    rw [e, split_hit x _ c hx, split_sep c y l (hl y (by simp)) (fun z hz => hl z (by simp [hz]))]
theorem split_joinC (c : UInt8) (zs : List ByteArray) (h0 : zs ≠ []) (h : ∀ z ∈ zs, c ∉ z.data.toList) : splitB c ⟨(Lib.join (zs.map (·.data.toList)) [c]).toArray⟩ = zs := by
  cases zs with
  | nil => exact absurd rfl h0
  | cons x l =>
    unfold splitB
    rw [List.map_cons, Lib.join_cons]
    show (splitL c (x.data.toList ++ Lib.joinTail [c] (l.map (·.data.toList)))).map _ = _
    rw [split_sep c x.data.toList _ (h x (by simp)) (by
      intro y hy
      obtain ⟨z, hz, rfl⟩ := List.mem_map.1 hy
      exact h z (by simp [hz]))]
    have : ∀ z : ByteArray, (⟨z.data.toList.toArray⟩ : ByteArray) = z := fun z => bytes_ext rfl
    simp [Function.comp_def, this]
theorem letter_not (b : UInt8) (h : letterB b = true) : b ≠ 32 ∧ b ≠ 44 ∧ b ≠ 126 := by
  refine ⟨?_, ?_, ?_⟩ <;> (rintro rfl; revert h; decide)
theorem name_not {s : ByteArray} (h : isNameB s = true) : s.size ≠ 0 ∧ 32 ∉ s.data.toList ∧ 44 ∉ s.data.toList ∧ 126 ∉ s.data.toList := by
  have hw := word_letters (name_word h)
  have h1 := (word_ne (name_word h)).1
  refine ⟨fun e => h1 (List.eq_nil_of_length_eq_zero (by rw [← Lib.size_eq]; exact e)), fun hm => (letter_not _ (hw _ hm)).1 rfl, fun hm => (letter_not _ (hw _ hm)).2.1 rfl, fun hm => (letter_not _ (hw _ hm)).2.2 rfl⟩
theorem country_not {s : ByteArray} (h : countryB s = true) : s.size ≠ 0 ∧ 32 ∉ s.data.toList ∧ 44 ∉ s.data.toList ∧ 126 ∉ s.data.toList := by
  unfold countryB at h
  simp only [Bool.and_eq_true, decide_eq_true_eq, List.all_eq_true] at h
  obtain ⟨h1, h2⟩ := h
  refine ⟨by omega, fun hm => ?_, fun hm => ?_, fun hm => ?_⟩ <;> exact absurd (h2 _ hm) (by decide)
theorem num_not (n : Int) (h0 : 0 ≤ n) : (itoaB n).size ≠ 0 ∧ 32 ∉ (itoaB n).data.toList ∧ 44 ∉ (itoaB n).data.toList ∧ 126 ∉ (itoaB n).data.toList := by
  have hd := dec_digit n.toNat
  have hl : 1 ≤ (Lib.decDigits n.toNat).length := by rw [Lib.decDigits_length]; exact Lib.nDigits_pos _
  rw [Lib.size_eq, itoa_dec n h0]
  refine ⟨by omega, fun hm => ?_, fun hm => ?_, fun hm => ?_⟩ <;> exact absurd (hd _ hm) (by decide)
theorem str_bytes {p : Part} (hp : PartFit p) : ∀ b ∈ (stringP p.kind p.text).data.toList, letterB b = true ∨ b = 42 := by
  intro b hb
  rw [str_data] at hb
  rcases hp with ⟨hk, hw⟩ | ⟨hk, s, hs, hs2, ht⟩ | ⟨hk, ht⟩
  · rw [if_pos hk] at hb
    exact .inl (word_letters hw b hb)
  · rw [if_neg (by omega), ht] at hb
    simp only [List.mem_cons] at hb
    rcases hb with rfl | rfl | hb
    · exact .inr rfl
    · exact .inl (by decide)
    · exact .inl (word_letters hs b hb)
  · rw [if_neg (by omega), ht] at hb
    simp only [List.mem_cons] at hb
    rcases hb with rfl | hb
    · exact .inr rfl
    · exact absurd hb (by simp)
theorem patS_bytes {z : Pat} (hz : PatFit z) : ∀ b ∈ (patS z).data.toList, letterB b = true ∨ b = 42 ∨ b = 47 := by
  intro b hb
  rw [patS_eq, join_data, List.mem_append] at hb
  rcases hb with hb | hb
  · rcases str_bytes hz.cust.part b hb with h | h
    · exact .inl h
    · exact .inr (.inl h)
  · unfold pathL at hb
    rw [List.mem_flatMap] at hb
    obtain ⟨l, hl, hb⟩ := hb
    simp only [List.mem_cons] at hb
    rcases hb with rfl | hb
    · exact .inr (.inr rfl)
    · unfold lists at hl
      obtain ⟨y, hy, rfl⟩ := List.mem_map.1 hl
      rw [List.mem_append] at hy
      rcases hy with hy | hy
      · unfold strL at hy
        obtain ⟨p, hp, rfl⟩ := List.mem_map.1 hy
        rcases str_bytes (hz.parts p hp) b hb with h | h
        · exact .inl h
        · exact .inr (.inl h)
      · unfold tailL at hy
        split at hy
        · simp only [List.mem_singleton] at hy
          subst hy
          simp only [List.mem_cons, List.not_mem_nil, or_false] at hb
          rcases hb with rfl | rfl <;> exact .inr (.inl rfl)
        · exact absurd hy (by simp)
theorem pat_not {p : ByteArray} (h : patOk p = true) : 32 ∉ p.data.toList ∧ 126 ∉ p.data.toList := by
  by_cases h0 : p.size = 0
  · have : p.data.toList = [] := List.eq_nil_of_length_eq_zero (by rw [← Lib.size_eq]; exact h0)
    rw [this]; simp
  · obtain ⟨x, hx⟩ := patOk_some h h0
    rw [← str_compile hx]
    have hb := patS_bytes (compile_fit hx)
    refine ⟨fun hm => ?_, fun hm => ?_⟩
    · rcases hb _ hm with h | h | h
      · exact (letter_not _ h).1 rfl
      · exact absurd h (by decide)
      · exact absurd h (by decide)
    · rcases hb _ hm with h | h | h
      · exact (letter_not _ h).2.2 rfl
      · exact absurd h (by decide)
      · exact absurd h (by decide)
def listP (s : ByteArray) : List ByteArray := if s.data.toList = [126] then [] else splitB 44 s
def unT (s : ByteArray) : ByteArray := if s.data.toList = [126] then ⟨#[]⟩ else s
theorem comma_head {x : ByteArray} {r : List ByteArray} (h0 : x.size ≠ 0) : ∃ b t, b ∈ x.data.toList ∧ (commaT (x :: r)).data.toList = b :: t := by
  unfold commaT
  rw [List.map_cons, Lib.join_cons]
  cases hx : x.data.toList with
  | nil => rw [Lib.size_eq, hx] at h0; simp at h0
  | cons b t => exact ⟨b, _, by simp, rfl⟩
theorem join_not (xs : List ByteArray) (c : UInt8) (hc : c ≠ 44) (hc2 : c ≠ 126) (h : ∀ x ∈ xs, c ∉ x.data.toList) : c ∉ (joinT xs).data.toList := by
  unfold joinT orT
  split
  · intro hm
    simp only [List.mem_cons, List.not_mem_nil, or_false] at hm
    exact hc2 hm
  · unfold commaT
    cases xs with
    | nil => simp [Lib.join_nil]
    | cons x l =>
      rw [List.map_cons, Lib.join_cons]
      intro hm
      rcases List.mem_append.1 hm with hm | hm
      · exact h x (by simp) hm
      · have : ∀ l : List ByteArray, (∀ x ∈ l, c ∉ x.data.toList) → c ∉ Lib.joinTail [44] (l.map (·.data.toList)) := by
          intro l
          induction l with
          | nil => intro _; simp [Lib.joinTail]
          | cons y l ih =>
            intro hy
            have e : Lib.joinTail [44] ((y :: l).map (·.data.toList)) = 44 :: (y.data.toList ++ Lib.joinTail [44] (l.map (·.data.toList))) := by simp [Lib.joinTail]
            rw [e]
            simp only [List.mem_cons, List.mem_append, not_or]
            exact ⟨hc, hy y (by simp), ih (fun x hx => hy x (by simp [hx]))⟩
        exact this l (fun x hx => h x (by simp [hx])) hm
theorem list_join (xs : List ByteArray) (h : ∀ x ∈ xs, x.size ≠ 0 ∧ 44 ∉ x.data.toList ∧ 126 ∉ x.data.toList) : listP (joinT xs) = xs := by
  cases xs with
  | nil => unfold joinT orT commaT; rfl
  | cons x r =>
    obtain ⟨b, t, hb, he⟩ := comma_head (r := r) (h x (by simp)).1
    have hs : ¬ (commaT (x :: r)).size = 0 := by rw [Lib.size_eq, he]; simp
    unfold joinT orT listP
    rw [if_neg hs, if_neg (by
      rw [he]
      intro e
      injection e with e1 e2
      subst e1
      exact (h x (by simp)).2.2 hb)]
    exact split_joinC 44 (x :: r) (by simp) (fun z hz => (h z hz).2.1)
theorem unT_orT {p : ByteArray} (h : 126 ∉ p.data.toList) : unT (orT p ⟨#[126]⟩) = p := by
  unfold orT unT
  by_cases h0 : p.size = 0
  · rw [if_pos h0, if_pos rfl]
    exact (bytes_ext (by
      have : p.data.toList = [] := List.eq_nil_of_length_eq_zero (by rw [← Lib.size_eq]; exact h0)
      rw [this])).symm
  · rw [if_neg h0, if_neg (fun e => h (by rw [e]; simp))]
def tilde : ByteArray := ⟨#[126]⟩
def condF (num : ByteArray → Int) (f : List ByteArray) : CondV :=
  ⟨num (f.getD 0 tilde), num (f.getD 1 tilde), unT (f.getD 2 tilde), listP (f.getD 3 tilde), listP (f.getD 4 tilde), (listP (f.getD 5 tilde)).map num, num (f.getD 6 tilde)⟩
def badF (f : List ByteArray) : Bool := !decide (f.length = 7) || atoiBad (f.getD 0 tilde) || atoiBad (f.getD 1 tilde) || (listP (f.getD 5 tilde)).any atoiBad || atoiBad (f.getD 6 tilde)
def readR (s : ByteArray) : Option CondV := if (splitB 32 s).length = 7 ∧ validC (condF numR (splitB 32 s)) = true ∧ textC (condF numR (splitB 32 s)) = s then some (condF numR (splitB 32 s)) else none
def readC (s : ByteArray) : Option CondV := if badF (splitB 32 s) = false ∧ validC (condF atoiN (splitB 32 s)) = true ∧ textC (condF atoiN (splitB 32 s)) = s then some (condF atoiN (splitB 32 s)) else none
theorem fields_not {c : CondV} (hc : CondOk c) : ∀ z ∈ fieldsC c, 32 ∉ z.data.toList := by
  have a0 := hc.fr0; have a1 := hc.to0; have a2 := hc.us0
  have hp : 32 ∉ (orT c.pat ⟨#[126]⟩).data.toList := by
    unfold orT
    split
    · decide
    · exact (pat_not hc.pat).1
  have hsi : ∀ x ∈ c.si.map itoaB, 32 ∉ x.data.toList := by
    intro x hx
    obtain ⟨n, hn, rfl⟩ := List.mem_map.1 hx
    have := hc.si n hn
    unfold siteB at this
    simp only [decide_eq_true_eq] at this
    exact (num_not n this.1).2.1
  intro z hz
  unfold fieldsC at hz
  simp only [List.mem_cons, List.not_mem_nil, or_false] at hz
  rcases hz with rfl | rfl | rfl | rfl | rfl | rfl | rfl
  · exact (num_not _ a0).2.1
  · exact (num_not _ a1).2.1
  · exact hp
  · exact join_not _ 32 (by decide) (by decide) (fun x hx => (name_not (hc.cl x hx)).2.1)
  · exact join_not _ 32 (by decide) (by decide) (fun x hx => (country_not (hc.co x hx)).2.1)
  · exact join_not _ 32 (by decide) (by decide) hsi
  · exact (num_not _ a2).2.1
theorem split_text {c : CondV} (hc : CondOk c) : splitB 32 (textC c) = fieldsC c := split_joinC 32 (fieldsC c) (by simp [fieldsC]) (fields_not hc)
theorem cond_back {c : CondV} (hc : CondOk c) (num : ByteArray → Int) (hn : ∀ n : Int, 0 ≤ n → n ≤ 1099511627777 → num (itoaB n) = n) : condF num (fieldsC c) = c := by
  have a0 := hc.fr0; have a1 := hc.to0; have a2 := hc.us0; have b0 := hc.fr1; have b1 := hc.to1; have b2 := hc.us1
  have hs : ∀ n ∈ c.si, 0 ≤ n ∧ n < 64 := by
    intro n hn
    have := hc.si n hn
    unfold siteB at this
    simpa using this
  have e1 : listP (joinT c.cl) = c.cl := list_join _ (fun x hx => ⟨(name_not (hc.cl x hx)).1, (name_not (hc.cl x hx)).2.2⟩)
  have e2 : listP (joinT c.co) = c.co := list_join _ (fun x hx => ⟨(country_not (hc.co x hx)).1, (country_not (hc.co x hx)).2.2⟩)
  have e3 : listP (joinT (c.si.map itoaB)) = c.si.map itoaB := list_join _ (fun x hx => by
    obtain ⟨n, hn, rfl⟩ := List.mem_map.1 hx
    exact ⟨(num_not n (hs n hn).1).1, (num_not n (hs n hn).1).2.2⟩)
  have e4 : (c.si.map itoaB).map num = c.si := by
    rw [List.map_map]
    conv => rhs; rw [← List.map_id c.si]
    exact List.map_congr_left fun n hm => hn n (hs n hm).1 (by have := (hs n hm).2; omega)
  unfold condF fieldsC
  simp only [List.getD_cons_zero, List.getD_cons_succ]
  rw [hn _ a0 (by omega), hn _ a1 b1, hn _ a2 (by omega), e1, e2, e3, e4, unT_orT (pat_not hc.pat).2]
theorem bad_back {c : CondV} (hc : CondOk c) : badF (fieldsC c) = false := by
  have a0 := hc.fr0; have a1 := hc.to0; have a2 := hc.us0; have b0 := hc.fr1; have b1 := hc.to1; have b2 := hc.us1
  have hs : ∀ n ∈ c.si, 0 ≤ n ∧ n < 64 := by
    intro n hn
    have := hc.si n hn
    unfold siteB at this
    simpa using this
  have e3 : listP (joinT (c.si.map itoaB)) = c.si.map itoaB := list_join _ (fun x hx => by
    obtain ⟨n, hn, rfl⟩ := List.mem_map.1 hx
    exact ⟨(num_not n (hs n hn).1).1, (num_not n (hs n hn).1).2.2⟩)
  have e4 : (c.si.map itoaB).any atoiBad = false := by
    rw [List.any_eq_false]
    intro x hx
    obtain ⟨n, hn, rfl⟩ := List.mem_map.1 hx
    rw [(atoiN_itoa n (hs n hn).1 (by have := (hs n hn).2; omega)).2]
    decide
  unfold badF fieldsC
  simp only [List.getD_cons_zero, List.getD_cons_succ]
  rw [e3, e4, (atoiN_itoa _ a0 (by omega)).2, (atoiN_itoa _ a1 b1).2, (atoiN_itoa _ a2 (by omega)).2]
  rfl
theorem readR_text {c : CondV} (h : validC c = true) : readR (textC c) = some c := by
  have hc := (valid_iff c).1 h
  unfold readR
  rw [split_text hc, cond_back hc numR numR_itoa, if_pos ⟨rfl, h, rfl⟩]
theorem readC_text {c : CondV} (h : validC c = true) : readC (textC c) = some c := by
  have hc := (valid_iff c).1 h
  unfold readC
  rw [split_text hc, cond_back hc atoiN (fun n h0 h1 => (atoiN_itoa n h0 h1).1), if_pos ⟨bad_back hc, h, rfl⟩]
theorem readR_some {s : ByteArray} {c : CondV} (h : readR s = some c) : validC c = true ∧ textC c = s := by
  unfold readR at h
  split at h
  · rename_i h1; injection h with h; subst h; exact h1.2
  · cases h
theorem readC_some {s : ByteArray} {c : CondV} (h : readC s = some c) : validC c = true ∧ textC c = s := by
  unfold readC at h
  split at h
  · rename_i h1; injection h with h; subst h; exact h1.2
  · cases h
theorem read_eq (s : ByteArray) : readC s = readR s := by
  cases h : readC s with
  | some c =>
    obtain ⟨h1, h2⟩ := readC_some h
    rw [← h2, readR_text h1]
  | none =>
    cases h3 : readR s with
    | none => rfl
    | some c =>
      obtain ⟨h1, h2⟩ := readR_some h3
      rw [← h2, readC_text h1] at h
      cases h
end Go.Proofs.YtocgkpdolgnbgaaGreatDoor
namespace Go.Proofs.YtocgkpdolgnbgaaGreatDoor
open Go.RowKit Go.Sort
set_option linter.unusedVariables false
set_option linter.unusedSimpArgs false
set_option maxRecDepth 100000
structure But (g : Nat) (w w' : World) : Prop where
  os : w'.os = w.os
  tape : w'.tape = w.tape
  output : w'.output = w.output
  size : w.heap.size ≤ w'.heap.size
  block : ∀ k, k < w.heap.size → k ≠ g → w'.heap[k]? = w.heap[k]?
section
variable {g : Nat} {a w w' w'' : World}
theorem But.refl (g : Nat) (w : World) : But g w w := ⟨rfl, rfl, rfl, Nat.le_refl _, fun _ _ _ => rfl⟩
theorem But.trans (h : But g w w') (k : But g w' w'') : But g w w'' :=
  ⟨k.os.trans h.os, k.tape.trans h.tape, k.output.trans h.output, Nat.le_trans h.size k.size, fun i hi hn => (k.block i (Nat.lt_of_lt_of_le hi h.size) hn).trans (h.block i hi hn)⟩
theorem But.of_below (h : Below w.heap.size w w') : But g w w' := ⟨h.os, h.tape, h.output, h.size, fun k hk _ => h.block k hk⟩
theorem But.set (w : World) (g o : Nat) (v : Value) : But g w (w.setCell ⟨g, o, none⟩ v) := ⟨rfl, rfl, rfl, by simp [World.setCell], fun k _ hn => Below.heap_setCell _ _ _ _ hn⟩
theorem But.step (h : But g a w) (o : Nat) (v : Value) : But g a (w.setCell ⟨g, o, none⟩ v) := h.trans (But.set w g o v)
theorem But.drew (h : But g a w) : But g a w.drew := ⟨h.os, h.tape, h.output, h.size, h.block⟩
theorem But.below (h : But g w w') {B : Nat} (hg : B ≤ g) (hB : B ≤ w.heap.size) : Below B w w' := ⟨h.os, h.tape, h.output, h.size, fun k hk => h.block k (by omega) (by omega)⟩
theorem But.blk (h : But g w w') {b : Nat} {t : TypeId} {cs : Array Value} {fr : Nat × Nat} (hx : Blk w b t cs fr) (hn : b ≠ g) : Blk w' b t cs fr := (h.block b (Blk.lt hx) hn).trans hx
theorem But.cell (h : But g w w') {p : Addr} {v : Value} (hc : w.cell? p = some v) (hn : p.block ≠ g) : w'.cell? p = some v := (World.cell?_of_block (h.block _ (cell_lt hc) hn)).trans hc
theorem But.reads (h : But g w w') {A : Option Addr} {n : Nat} {vs : List Value} (hR : Reads w 1 A n vs) (hn : 0 < n → ∀ a, A = some a → a.block ≠ g) : Reads w' 1 A n vs := by
  refine ⟨hR.1, fun h0 => ?_⟩
  obtain ⟨b, o, rfl, hc⟩ := hR.2 h0
  exact ⟨b, o, rfl, fun j u hu => h.cell (hc j u hu) (hn h0 ⟨b, o, none⟩ rfl)⟩
end
def Errs (w : World) : Prop := (∃ ev, w.cell? ⟨1, 0, none⟩ = some ev ∧ (ev = .nilIface ∨ ∃ te pe, ev = .iface te pe)) ∧ (∃ ev, w.cell? ⟨2, 0, none⟩ = some ev ∧ (ev = .nilIface ∨ ∃ te pe, ev = .iface te pe))
theorem Errs.keep {w w' : World} (h : Errs w) (hb : Below w.heap.size w w') : Errs w' := by
  obtain ⟨⟨e1, h1, k1⟩, e2, h2, k2⟩ := h
  exact ⟨⟨e1, cell_keep hb h1, k1⟩, e2, cell_keep hb h2, k2⟩
theorem Errs.but {g : Nat} {w w' : World} (h : Errs w) (hb : But g w w') (hg : 2 < g) : Errs w' := by
  obtain ⟨⟨e1, h1, k1⟩, e2, h2, k2⟩ := h
  exact ⟨⟨e1, hb.cell h1 (by simp; omega), k1⟩, e2, hb.cell h2 (by simp; omega), k2⟩
theorem Env.but {g : Nat} {w w' : World} (h : Env w) (hb : But g w w') (hg : 2 < g) : Env w' := by
  obtain ⟨m, hm⟩ := h
  exact ⟨m, hb.cell hm (by simp; omega)⟩
theorem atoi_any (s : ByteArray) (w : World) (hs : s.size ≤ 1000000) (hE : Errs w) : Calls Tryz.prog 109 #[.string s] w fun e w' => (∃ ev, e = .returned (.tuple #[.int .i64 (atoiN s), ev]) ∧ ((ev = .nilIface ∧ atoiBad s = false) ∨ ((∃ te pe, ev = .iface te (.pointer pe)) ∧ atoiBad s = true))) ∧ Below w.heap.size w w' := by
  obtain ⟨⟨e1, h1, k1⟩, e2, h2, k2⟩ := hE
  unfold atoiN atoiBad
  cases h : Lib.atoiAll s.data.toList with
  | ok v =>
    refine (Tryz.strconv_Atoi_ok s (by omega) v h w).mono ?_
    rintro e w' ⟨rfl, hw⟩
    refine ⟨⟨_, rfl, .inl ⟨rfl, rfl⟩⟩, ?_⟩
    rcases hw with rfl | ⟨t, rfl⟩
    · exact Below.refl _ _
    · exact Lib.bytesWorld_below _ _ _
  | «syntax» =>
    refine (Tryz.strconv_Atoi_syntax s (by omega) h e1 w h1 k1).mono ?_
    rintro e w' ⟨N, rfl, _, _, hb⟩
    exact ⟨⟨_, rfl, .inr ⟨⟨_, _, rfl⟩, rfl⟩⟩, hb⟩
  | range =>
    refine (Tryz.strconv_Atoi_range s (by omega) h e2 w h2 k2).mono ?_
    rintro e w' ⟨N, rfl, _, _, hb⟩
    exact ⟨⟨_, rfl, .inr ⟨⟨_, _, rfl⟩, rfl⟩⟩, hb⟩
theorem strSplit_any (s : ByteArray) (c : UInt8) (w : World) (hs : s.size ≤ 1000000) (hE : Env w) : Calls Tryz.prog 60 #[.string s, .string ⟨#[c]⟩] w fun e w' => e = .returned (.slice (some ⟨w.heap.size, 0, none⟩) (splitB c s).length (splitB c s).length) ∧ Reads w' 1 (some ⟨w.heap.size, 0, none⟩) (splitB c s).length ((splitB c s).map .string) ∧ Below w.heap.size w w' := by
  obtain ⟨m, hm⟩ := hE
  refine (Tryz.strings_Split s ⟨#[c]⟩ m w (by omega) hm (show 1 ≤ 1 from Nat.le_refl _)).mono ?_
  rintro e w' ⟨rfl, rfl⟩
  have he := split_eq c _ s rfl
  have hl := count_split c s
  rw [he, hl]
  refine ⟨rfl, ⟨by simp, fun _ => ⟨w.heap.size, 0, rfl, fun j u hu => ?_⟩⟩, balloc (Below.refl _ _) _⟩
  have hb : Blk (w.alloc (.cells ((splitB c s).map Value.string).toArray 9)) w.heap.size 9 ((splitB c s).map Value.string).toArray (0, 0) := World.alloc_heap_new _ _
  rw [hb.cell]
  simpa using hu
def RB (w : World) (g : Nat) (A : Option Addr) (n c : Nat) (b : Bool) : Prop := Blk w g 94 #[.slice A n c, .bool b] (0, 0)
theorem RB.facts {w : World} {g : Nat} {A : Option Addr} {n c : Nat} {b : Bool} (h : RB w g A n c b) : w.cell? ⟨g, 0, none⟩ = some (.slice A n c) ∧ w.cell? ⟨g, 1, none⟩ = some (.bool b) ∧ w.frozen? ⟨g, 0, none⟩ = false ∧ w.frozen? ⟨g, 1, none⟩ = false ∧ g < w.heap.size :=
  ⟨Blk.cell h 0, Blk.cell h 1, Blk.free0 h 0, Blk.free0 h 1, Blk.lt h⟩
theorem RB.set1 {w : World} {g : Nat} {A : Option Addr} {n c : Nat} {b : Bool} (h : RB w g A n c b) (b' : Bool) : RB (w.setCell ⟨g, 1, none⟩ (.bool b')) g A n c b' := Blk.set_ h 1 _
theorem RB.set0 {w : World} {g : Nat} {A : Option Addr} {n c : Nat} {b : Bool} (h : RB w g A n c b) (A' : Option Addr) (n' c' : Nat) : RB (w.setCell ⟨g, 0, none⟩ (.slice A' n' c')) g A' n' c' b := Blk.set_ h 0 _
def RS (w : World) (g : Nat) (l : List ByteArray) (b : Bool) : Prop := ∃ A n c, RB w g A n c b ∧ Reads w 1 A n (l.map .string) ∧ (n ≤ 1000001 ∧ n ≤ c) ∧ (0 < n → ∀ a, A = some a → a.block < g)
theorem RS.keep {w w' : World} {g : Nat} {l : List ByteArray} {b : Bool} (h : RS w g l b) (hb : Below w.heap.size w w') : RS w' g l b := by
  obtain ⟨A, n, c, h1, h2, h3, h4⟩ := h
  exact ⟨A, n, c, Blk.keep h1 hb, h2.keep hb, h3, h4⟩
theorem RS.lt {w : World} {g : Nat} {l : List ByteArray} {b : Bool} (h : RS w g l b) : g < w.heap.size := by
  obtain ⟨A, n, c, h1, _⟩ := h
  exact Blk.lt h1
set_option maxHeartbeats 4000000 in
theorem next_any (w : World) (g : Nat) (l : List ByteArray) (b : Bool) (h : RS w g l b) : Calls Tryz.prog 62 #[.pointer (some ⟨g, 0, none⟩)] w fun e w' => e = .returned (.string (l.headD tilde)) ∧ RS w' g l.tail (b || l.isEmpty) ∧ But g w w' := by
  obtain ⟨A, n, c, hB, hR, ⟨hn, hnc⟩, hA⟩ := h
  obtain ⟨x0, x1, f0, f1, hz⟩ := hB.facts
  have hl : l.length = n := by have := hR.1; simp at this; omega
  cases l with
  | nil =>
    obtain rfl : n = 0 := by simpa using hl.symm
    have HB := Lib.hid hB; have HA := Lib.hid hA; have HNC := Lib.hid hnc
    clear hB hA hR hnc hn hl
    go_enter Tryz.func62, Tryz.ntmps62
    go_wp2
    go_ret
    refine ⟨rfl, ⟨A, 0, c, ?_, Reads.nil_ _ _ _, ⟨by omega, by omega⟩, fun h => absurd h (by omega)⟩, But.set _ _ _ _⟩
    show RB _ _ _ _ _ (b || true)
    rw [Bool.or_true]
    exact HB.out.set1 true
  | cons x r =>
    obtain ⟨bb, o, rfl, hcell⟩ := hR.2 (by simp at hl; omega)
    have hc1 : w.cell? ⟨bb, o, none⟩ = some (.string x) := hcell 0 _ rfl
    have hlg : bb < g := hA (by simp at hl; omega) _ rfl
    have hne : bb ≠ g := Nat.ne_of_lt hlg
    obtain ⟨m, rfl⟩ : ∃ m, n = m + 1 := ⟨r.length, by simp at hl; omega⟩
    have e0 : ((m : Int) + 1 == 0) = false := by simp; omega
    have e1 : (0 : Int) < (m : Int) + 1 := by omega
    have e2 : (1 : Int) ≤ (m : Int) + 1 := by omega
    have e3 : (m : Int) + 1 ≤ (c : Int) := by omega
    have HB := Lib.hid hB; have HC := Lib.hid hcell; have HL := Lib.hid hl; have HNC := Lib.hid hnc; have HN := Lib.hid hn
    clear hB hA hR hcell hl hnc hn
    go_enter Tryz.func62, Tryz.ntmps62
    go_wp2
    · go_ret
      have hm0 : m = 0 := by have := HNC.out; omega
      have hr0 : r = [] := List.eq_nil_of_length_eq_zero (by have := HL.out; simp at this; omega)
      subst hm0
      subst hr0
      exact ⟨rfl, ⟨some ⟨bb, o, none⟩, 0, 0, HB.out.set0 _ _ _, Reads.nil_ _ _ _, ⟨by omega, by omega⟩, fun h => absurd h (by omega)⟩, But.set _ _ _ _⟩
    · go_ret
      refine ⟨rfl, ⟨some ⟨bb, o + 1, none⟩, m, c - 1, HB.out.set0 _ _ _, ⟨by have := HL.out; simp at this ⊢; omega, fun hm => ⟨bb, o + 1, rfl, fun j u hu => ?_⟩⟩, ⟨by have := HN.out; omega, by have := HNC.out; omega⟩, fun _ a ha => by injection ha with ha; rw [← ha]; exact hlg⟩, But.set _ _ _ _⟩
      have := HC.out (j + 1) u (by simpa using hu)
      refine (But.set w g 0 _).cell (p := ⟨bb, o + 1 + j, none⟩) ?_ hne
      rw [← this]; congr 2; omega
set_option maxHeartbeats 4000000 in
theorem number_any (w : World) (g : Nat) (s : ByteArray) (l : List ByteArray) (b : Bool) (h : RS w g l b) (hs : s.size ≤ 1000000) (hE : Errs w) : Calls Tryz.prog 61 #[.pointer (some ⟨g, 0, none⟩), .string s] w fun e w' => e = .returned (.int .i64 (atoiN s)) ∧ RS w' g l (b || atoiBad s) ∧ But g w w' := by
  obtain ⟨A, n, c, hB, hR, hn, hA⟩ := h
  have hat := fun W hE => atoi_any s W hs hE
  generalize atoiN s = N at *
  generalize atoiBad s = ab at *
  have HAT := Lib.hid hat; have HE := Lib.hid hE; have HB := Lib.hid hB; have HR := Lib.hid hR; have HN := Lib.hid hn; have HA := Lib.hid hA
  clear hat hE hB hR hn hA
  have fin : ∀ w2 v, RB w2 g A n c b → Below w.heap.size w w2 → RS (w2.setCell ⟨g, 1, none⟩ (.bool v)) g l v ∧ But g w (w2.setCell ⟨g, 1, none⟩ (.bool v)) := fun w2 v hB2 hb2 => by
    have k1 : But g w w2 := But.of_below hb2
    have k2 := k1.step 1 (.bool v)
    exact ⟨⟨A, n, c, RB.set1 hB2 v, k2.reads HR.out (fun h0 a ha => Nat.ne_of_lt (HA.out h0 a ha)), HN.out, HA.out⟩, k2⟩
  have HF := Lib.hid fin
  clear fin
  cases ab
  · rw [Bool.or_false]
    cases b
    all_goals
      go_enter Tryz.func61, Tryz.ntmps61
      go_wp2_with ((go_at_call 109; refine (HAT.out _ (HE.out)).mono ?_; rintro e w2 ⟨⟨ev, rfl, hev⟩, hb2⟩; have hB2 := Blk.keep HB.out hb2; obtain ⟨x0, x1, f0, f1, hz⟩ := RB.facts hB2); obtain rfl : ev = .nilIface := (by rcases hev with ⟨h, _⟩ | ⟨_, h⟩; exact h; cases h))
      go_ret
      exact ⟨rfl, HF.out _ _ hB2 hb2⟩
  · rw [Bool.or_true]
    cases b
    all_goals
      go_enter Tryz.func61, Tryz.ntmps61
      go_wp2_with ((go_at_call 109; refine (HAT.out _ (HE.out)).mono ?_; rintro e w2 ⟨⟨ev, rfl, hev⟩, hb2⟩; have hB2 := Blk.keep HB.out hb2; obtain ⟨x0, x1, f0, f1, hz⟩ := RB.facts hB2); obtain ⟨te, pe, rfl⟩ : ∃ te pe, ev = .iface te (.pointer pe) := (by rcases hev with ⟨_, h⟩ | ⟨h, _⟩; cases h; exact h))
      go_ret
      exact ⟨rfl, HF.out _ _ hB2 hb2⟩
set_option maxHeartbeats 4000000 in
theorem list_any (w : World) (g : Nat) (l : List ByteArray) (b : Bool) (h : RS w g l b) (hs : (l.headD tilde).size ≤ 1000000) (hg : 2 < g) (hE : Env w) : Calls Tryz.prog 63 #[.pointer (some ⟨g, 0, none⟩)] w fun e w' => ∃ A c, e = .returned (.slice A (listP (l.headD tilde)).length c) ∧ Reads w' 1 A (listP (l.headD tilde)).length ((listP (l.headD tilde)).map .string) ∧ (0 < (listP (l.headD tilde)).length → ∀ a, A = some a → w.heap.size ≤ a.block) ∧ RS w' g l.tail (b || l.isEmpty) ∧ But g w w' := by
  have hN := next_any w g l b h
  have hSp := fun W hE => strSplit_any (l.headD tilde) 44 W hs hE
  generalize l.headD tilde = x at *
  generalize l.tail = r at *
  generalize (b || l.isEmpty) = b2 at *
  unfold listP
  have HN := Lib.hid hN; have HS := Lib.hid hSp; have HE := Lib.hid hE; have HG := Lib.hid hg
  clear hN hSp h hs hE hg
  by_cases hx : x.data.toList = [126]
  · have e1 : (x.toList == [126]) = true := by rw [Lib.toList_data]; simpa using hx
    have e2 : x.toList = [126] := by rw [Lib.toList_data]; exact hx
    rw [if_pos hx]
    clear hx
    go_enter Tryz.func63, Tryz.ntmps63
    go_wp2_with (go_at_call 62; refine HN.out.mono ?_; rintro e w2 ⟨rfl, hs2, hb2⟩)
    go_ret
    exact ⟨none, 0, rfl, Reads.nil_ _ _ _, fun h => absurd h (by simp), hs2, hb2⟩
  · have e1 : (x.toList == [126]) = false := by rw [Lib.toList_data]; simpa using hx
    have e2 : ¬ x.toList = [126] := by rw [Lib.toList_data]; exact hx
    rw [if_neg hx]
    clear hx
    generalize splitB 44 x = ps at *
    go_enter Tryz.func63, Tryz.ntmps63
    go_wp2_with (first | (go_at_call 62; refine HN.out.mono ?_; rintro e w2 ⟨rfl, hs2, hb2⟩) | (go_at_call 60; refine (HS.out _ (HE.out.but hb2 HG.out)).mono ?_; rintro e w3 ⟨rfl, hR3, hb3⟩))
    go_ret
    exact ⟨_, _, rfl, hR3, fun _ a ha => by injection ha with ha; rw [← ha]; exact hb2.size, hs2.keep hb3, hb2.trans (But.of_below hb3)⟩
end Go.Proofs.YtocgkpdolgnbgaaGreatDoor
namespace Go.Proofs.YtocgkpdolgnbgaaGreatDoor
open Go.RowKit Go.Sort
set_option linter.unusedVariables false
set_option linter.unusedSimpArgs false
set_option maxRecDepth 100000
attribute [local go_sem] Oper.semAt_some
theorem reads_keepIn2 {W W' : World} {A : Option Addr} {n lo h : Nat} {vs : List Value} (hR : Reads W 1 A n vs) (hk : KeepsIn lo h W W') (hb : 0 < n → ∀ a, A = some a → lo ≤ a.block ∧ a.block < h) : Reads W' 1 A n vs := by
  refine ⟨hR.1, fun hn => ?_⟩
  obtain ⟨b, o, rfl, hc⟩ := hR.2 hn
  have hb' := hb hn _ rfl
  exact ⟨b, o, rfl, fun j u hu => (World.cell?_of_block (hk _ (by simpa using hb'.1) (by simpa using hb'.2))).trans (hc j u hu)⟩
set_option maxHeartbeats 4000000 in
theorem valuesS_iter2 (lo b : Nat) (A : Option Addr) (n c : Nat) (xs : List ByteArray) (w : World) (h0 : w.cell? ⟨b, 0, none⟩ = some (.slice A n c)) (hA : Reads w 1 A n (xs.map .string)) (hn : n ≤ 1000000000) (hlo : 0 < n → ∀ a, A = some a → lo ≤ a.block) :
    Iter Tryz.prog 110 #[.pointer (some ⟨b, 0, none⟩)] (xs.map .string) (fun _ _ => False) lo w.heap.size w := by
  intro l J Jx W hW _ _ hY hJ0
  have g0 := cell_keep hW h0
  have hlt := fun h0 a ha => And.intro (hlo h0 a ha) (reads_lt hA h0 a ha)
  have hR := hA.keep hW
  have hl : xs.length = n := by have := hA.1; simp at this; omega
  generalize w.heap.size = h at *
  clear h0 hA hW w hlo
  refine callsIn_of_wp Tryz.func110 rfl trivial ?_ rfl
  simp only [Tryz.ntmps110, List.size_toArray, List.length_cons, List.length_nil, Nat.reduceAdd, Nat.reduceSub, Array.replicate_succ, Array.replicate_zero, List.push_toArray, List.append_toArray, List.nil_append, List.cons_append]
  have HY := Lib.hid hY
  have HLT := Lib.hid hlt
  have HR0 := Lib.hid hR
  have HL := Lib.hid hl
  clear hY hlt hR hl
  gi_wp2
  gi_loopw [7] (fun i wr => ∃ k : Nat, i = .int .i64 k ∧ k ≤ n ∧ Hid (Reads wr 1 A n (xs.map .string)) ∧ J k wr) (fun i _ => n - (intOf i).toNat)
  case atStart => exact ⟨0, rfl, by omega, HR0, hJ0⟩
  case round =>
    clear g0 hJ0 HR0
    obtain ⟨k, rfl, hk, HR, hJ⟩ := hrel
    by_cases hkn : k < n
    · obtain ⟨x, hx⟩ : ∃ x, xs[k]? = some x := ⟨_, List.getElem?_eq_getElem (by have := HL.out; omega)⟩
      have hxv : (xs.map Value.string)[k]? = some (.string x) := by simp [hx]
      obtain ⟨fn, tmps, assign, body, hy, hRd⟩ := HY.out k _ wr hxv hJ
      obtain ⟨pb, po, rfl, hcell⟩ := HR.out.2 (by omega)
      have hc1 : wr.cell? ⟨pb, po + k, none⟩ = some (.string x) := hcell k _ hxv
      have hk0 : (0 : Int) ≤ (k : Int) := by omega
      have hk1 : (k : Int) < (n : Int) := by omega
      clear hcell hx hxv
      gi_wp2
      refine ⟨rfl, hRd.mono ?_⟩
      rintro e W' (⟨rfl, hJ', hk'⟩ | ⟨rfl, hJx'⟩)
      · have HR2 := Lib.hid (reads_keepIn2 HR.out hk' HLT.out)
        clear hc1 HR
        gi_wp2
        exact ⟨⟨k + 1, by go_num, by omega, HR2, hJ'⟩, by simp [intOf]; omega⟩
      · gi_wp2
        refine bodyPost_ret (results_none rfl _ _ _) rfl ?_
        exact ⟨⟨_, rfl⟩, .inr hJx'⟩
    · obtain rfl : k = n := by omega
      have hlen : k = (xs.map Value.string).length := by have := HL.out; simp; omega
      have HLN := Lib.hid hlen
      clear hlen
      gi_wp2
      go_end0
      exact ⟨⟨_, rfl⟩, .inl (by rw [← HLN.out]; exact hJ)⟩
end Go.Proofs.YtocgkpdolgnbgaaGreatDoor
namespace Go.Proofs.YtocgkpdolgnbgaaGreatDoor
open Go.RowKit Go.Sort
set_option linter.unusedVariables false
set_option linter.unusedSimpArgs false
set_option maxRecDepth 100000
theorem headD_drop (L : List ByteArray) (k : Nat) : (L.drop k).headD tilde = L.getD k tilde := by
  rw [List.headD_eq_head?_getD, List.head?_drop, List.getD_eq_getElem?_getD]
theorem isEmpty_drop (L : List ByteArray) (k : Nat) : (L.drop k).isEmpty = decide (L.length ≤ k) := by
  rw [Bool.eq_iff_iff, List.isEmpty_iff, List.drop_eq_nil_iff, decide_eq_true_eq]
theorem listP_num (s : ByteArray) : (listP s).length ≤ s.size + 1 := by
  unfold listP
  split
  · simp
  · exact splitB_num 44 s
theorem listP_size (s x : ByteArray) (h : x ∈ listP s) : x.size ≤ s.size := by
  unfold listP at h
  split at h
  · cases h
  · exact splitB_size 44 s x h
structure PS (w W : World) (nb g : Nat) (L : List ByteArray) (k : Nat) (b : Bool) : Prop where
  res : CBox W w.heap.size 0 0 ⟨#[]⟩ none 0 0 none 0 0 none 0 0 0
  num : Blk W nb 95 #[.func (.func 61) #[.pointer (some ⟨g, 0, none⟩)] #[]] (0, 0)
  rs : RS W g (L.drop k) b
  below : Below w.heap.size w W
  lo : w.heap.size < g
  lo2 : g < nb
  env : Env W
  errs : Errs W
  two : 2 < w.heap.size
theorem PS.step {w W W' : World} {nb g k k' : Nat} {L : List ByteArray} {b b' : Bool} (h : PS w W nb g L k b) (hr : RS W' g (L.drop k') b') (hb : But g W W') : PS w W' nb g L k' b' :=
  ⟨hb.blk h.res (by have := h.lo; omega), hb.blk h.num (by have := h.lo2; omega), hr, h.below.trans (hb.below (by have := h.lo; omega) h.below.size), h.lo, h.lo2, h.env.but hb (by have := h.lo; have := h.two; omega), h.errs.but hb (by have := h.lo; have := h.two; omega), h.two⟩
theorem PS.keep {w W W' : World} {nb g k : Nat} {L : List ByteArray} {b : Bool} (h : PS w W nb g L k b) (hb : Below W.heap.size W W') : PS w W' nb g L k b :=
  h.step (h.rs.keep hb) (But.of_below hb)
theorem RS.but {w w' : World} {g c : Nat} {l : List ByteArray} {b : Bool} (h : RS w g l b) (hb : But c w w') (hc : g < c) : RS w' g l b := by
  obtain ⟨A, n, cp, h1, h2, h3, h4⟩ := h
  exact ⟨A, n, cp, hb.blk h1 (by omega), hb.reads h2 (fun h0 a ha => by have := h4 h0 a ha; omega), h3, h4⟩
theorem PS.far {w W W' : World} {nb g k c : Nat} {L : List ByteArray} {b : Bool} (h : PS w W nb g L k b) (hb : But c W W') (hc : nb < c) : PS w W' nb g L k b :=
  have h1 := h.lo; have h2 := h.lo2; have h3 := h.two
  ⟨hb.blk h.res (by omega), hb.blk h.num (by omega), h.rs.but hb (by omega), h.below.trans (hb.below (by omega) h.below.size), h1, h2, h.env.but hb (by omega), h.errs.but hb (by omega), h3⟩
theorem PS.n0 {w W : World} {nb g k : Nat} {L : List ByteArray} {b : Bool} (h : PS w W nb g L k b) : W.cell? ⟨nb, 0, none⟩ = some (.func (.func 61) #[.pointer (some ⟨g, 0, none⟩)] #[]) := Blk.cell h.num 0
theorem next_ps {w W : World} {nb g k : Nat} {L : List ByteArray} {b : Bool} (h : PS w W nb g L k b) : Calls Tryz.prog 62 #[.pointer (some ⟨g, 0, none⟩)] W fun e W' => e = .returned (.string (L.getD k tilde)) ∧ PS w W' nb g L (k + 1) (b || decide (L.length ≤ k)) ∧ But g W W' := by
  refine (next_any W g (L.drop k) b h.rs).mono ?_
  rintro e W' ⟨rfl, hr, hb⟩
  rw [List.tail_drop, isEmpty_drop] at hr
  exact ⟨by rw [headD_drop], h.step hr hb, hb⟩
theorem number_ps {w W : World} {nb g k : Nat} {L : List ByteArray} {b : Bool} {x : ByteArray} (h : PS w W nb g L k b) (hx : x.size ≤ 1000000) : Calls Tryz.prog 61 #[.pointer (some ⟨g, 0, none⟩), .string x] W fun e W' => e = .returned (.int .i64 (atoiN x)) ∧ PS w W' nb g L k (b || atoiBad x) ∧ But g W W' := by
  refine (number_any W g x (L.drop k) b h.rs hx h.errs).mono ?_
  rintro e W' ⟨rfl, hr, hb⟩
  exact ⟨rfl, h.step hr hb, hb⟩
theorem list_ps {w W : World} {nb g k : Nat} {L : List ByteArray} {b : Bool} (h : PS w W nb g L k b) (hx : (L.getD k tilde).size ≤ 1000000) : Calls Tryz.prog 63 #[.pointer (some ⟨g, 0, none⟩)] W fun e W' => ∃ A c, e = .returned (.slice A (listP (L.getD k tilde)).length c) ∧ Reads W' 1 A (listP (L.getD k tilde)).length ((listP (L.getD k tilde)).map .string) ∧ (0 < (listP (L.getD k tilde)).length → ∀ a, A = some a → W.heap.size ≤ a.block) ∧ PS w W' nb g L (k + 1) (b || decide (L.length ≤ k)) ∧ But g W W' := by
  refine (list_any W g (L.drop k) b h.rs (by rw [headD_drop]; exact hx) (by have := h.lo; have := h.two; omega) h.env).mono ?_
  rintro e W' ⟨A, c, rfl, hR, ha, hr, hb⟩
  rw [headD_drop] at *
  rw [List.tail_drop, isEmpty_drop] at hr
  exact ⟨A, c, rfl, hR, ha, h.step hr hb, hb⟩
theorem RS.start (w : World) (A : Option Addr) (n c : Nat) (l : List ByteArray) (hR : Reads w 1 A n (l.map .string)) (hn : n ≤ 1000001) (hc : n ≤ c) : RS (w.alloc (.cells #[.slice A n c, .bool false] 94)) w.heap.size l false := by
  refine ⟨A, n, c, World.alloc_heap_new _ _, hR.keep (balloc (Below.refl _ _) _), ⟨hn, hc⟩, fun h0 a ha => ?_⟩
  have := reads_lt hR h0 a ha
  omega
theorem PS.start {w w1 : World} {A : Option Addr} {n c : Nat} {L : List ByteArray} (hb : Below (w.alloc (.cells #[.int .i64 0, .int .i64 0, .string ⟨#[]⟩, .slice none 0 0, .slice none 0 0, .slice none 0 0, .int .i64 0] 25)).heap.size (w.alloc (.cells #[.int .i64 0, .int .i64 0, .string ⟨#[]⟩, .slice none 0 0, .slice none 0 0, .slice none 0 0, .int .i64 0] 25)) w1)
    (hR : Reads w1 1 A n (L.map .string)) (hn : n ≤ 1000001) (hc : n ≤ c) (hE : Env w) (hX : Errs w) (h2 : 2 < w.heap.size) :
    PS w ((w1.alloc (.cells #[.slice A n c, .bool false] 94)).alloc (.cells #[.func (.func 61) #[.pointer (some ⟨w1.heap.size, 0, none⟩)] #[]] 95)) (w1.heap.size + 1) w1.heap.size L 0 false := by
  have hs := hb.size
  have hb0 : Below w.heap.size w w1 := (balloc (Below.refl _ _) _).trans (hb.mono (by simp))
  have hb1 : Below w1.heap.size w1 ((w1.alloc (.cells #[.slice A n c, .bool false] 94)).alloc (.cells #[.func (.func 61) #[.pointer (some ⟨w1.heap.size, 0, none⟩)] #[]] 95)) := balloc (balloc (Below.refl _ _) _) _
  have hbw := hb0.trans (hb1.mono hb0.size)
  refine ⟨Blk.keep (Blk.keep (World.alloc_heap_new _ _) hb) hb1, ?_, (RS.start w1 A n c L hR hn hc).keep (balloc (Below.refl _ _) _), hbw, by simp at hs; omega, by omega, hE.keep hbw, hX.keep hbw, h2⟩
  have := World.alloc_heap_new (w1.alloc (.cells #[.slice A n c, .bool false] 94)) (.cells #[.func (.func 61) #[.pointer (some ⟨w1.heap.size, 0, none⟩)] #[]] 95)
  rw [World.size_alloc] at this
  exact this
theorem put_but {w : World} {g : Nat} {v0 v1 v2 v3 v4 v5 v6 : Value} : But g w (((((((w.setCell ⟨g, 0, none⟩ v0).setCell ⟨g, 1, none⟩ v1).setCell ⟨g, 2, none⟩ v2).setCell ⟨g, 3, none⟩ v3).setCell ⟨g, 4, none⟩ v4).setCell ⟨g, 5, none⟩ v5).setCell ⟨g, 6, none⟩ v6) :=
  ((((((But.set w g 0 _).step 1 _).step 2 _).step 3 _).step 4 _).step 5 _).step 6 _
def Calm (W W' : World) (row : Option Nat) : Prop := W.grownBy W' row ∧ ∀ r, row = some r → ∃ o : Obj, W.heap[r]? = some o ∧ o.isCells = false
section
variable {W W' : World} {row : Option Nat}
theorem Blk.calm {b : Nat} {t : TypeId} {cs : Array Value} {fr : Nat × Nat} (h : Blk W b t cs fr) (hc : Calm W W' row) : Blk W' b t cs fr := (grownBy_keeps_cells hc.1 hc.2 (k := b) (o := .cells cs t fr) h rfl).trans h
theorem Reads.calm {A : Option Addr} {n : Nat} {vs : List Value} (hR : Reads W 1 A n vs) (hc : Calm W W' row) : Reads W' 1 A n vs := by
  refine ⟨hR.1, fun h0 => ?_⟩
  obtain ⟨b, o, e, h⟩ := hR.2 h0
  exact ⟨b, o, e, fun j u hu => cell_kept (h j u hu) hc.1 hc.2⟩
theorem RS.calm {g : Nat} {l : List ByteArray} {b : Bool} (h : RS W g l b) (hc : Calm W W' row) : RS W' g l b := by
  obtain ⟨A, n, cp, h1, h2, h3, h4⟩ := h
  exact ⟨A, n, cp, Blk.calm h1 hc, Reads.calm h2 hc, h3, h4⟩
theorem PS.calm {w : World} {nb g k : Nat} {L : List ByteArray} {b : Bool} (h : PS w W nb g L k b) (hc : Calm W W' row) (hr : ∀ r, row = some r → w.heap.size ≤ r) : PS w W' nb g L k b := by
  refine ⟨Blk.calm h.res hc, Blk.calm h.num hc, h.rs.calm hc, h.below.grown hc.1 h.below.size hr, h.lo, h.lo2, ?_, ?_, h.two⟩
  · obtain ⟨m, hm⟩ := h.env
    exact ⟨m, cell_kept hm hc.1 hc.2⟩
  · obtain ⟨⟨e1, h1, h2⟩, e3, h3, h4⟩ := h.errs
    exact ⟨⟨e1, cell_kept h1 hc.1 hc.2, h2⟩, e3, cell_kept h3 hc.1 hc.2, h4⟩
theorem own_calm {base : Nat} {e : TypeId} {size n : Nat} {v : Value} {xs : List Value} (h : W.ownsRow base e size v n xs) (hc : Calm W W' row) : W'.ownsRow base e size v n xs := by
  obtain ⟨h1, h2⟩ := h
  refine ⟨h1, ?_⟩
  rcases h2 with h2 | ⟨g, cap, cur, hv, hg, hB, r⟩
  · exact .inl h2
  · exact .inr ⟨g, cap, cur, hv, hg, Blk.calm (t := e) (fr := (0, 0)) hB hc, r⟩
end
theorem own_but {W W' : World} {base c : Nat} {e : TypeId} {size n : Nat} {v : Value} {xs : List Value} (h : W.ownsRow base e size v n xs) (hb : But c W W') (hc : c < base) : W'.ownsRow base e size v n xs := by
  obtain ⟨h1, h2⟩ := h
  refine ⟨h1, ?_⟩
  rcases h2 with h2 | ⟨g, cap, cur, hv, hg, hB, r⟩
  · exact .inl h2
  · exact .inr ⟨g, cap, cur, hv, hg, hb.blk (t := e) (fr := (0, 0)) hB (by omega), r⟩
theorem own_cells {W : World} {base : Nat} {e : TypeId} {size n : Nat} {v : Value} {xs : List Value} (h : W.ownsRow base e size v n xs) : ∀ r, v.ownBlock = some r → base ≤ r ∧ ∃ o : Obj, W.heap[r]? = some o ∧ o.isCells = true := by
  intro r hr
  rcases h.2 with ⟨h2, _⟩ | ⟨g, cap, cur, hv, hg, hB, _⟩
  · rw [h2] at hr; cases hr
  · rw [hv] at hr
    injection hr with hr
    subst hr
    exact ⟨hg, _, hB, rfl⟩
theorem from_but {B c : Nat} {W W' : World} (hb : But c W W') (hc : c < B) : KeepsFrom B W W' := ⟨hb.size, fun k o hB hk _ => (hb.block k (Array.getElem?_eq_some_iff.1 hk).1 (by omega)).trans hk⟩
theorem from_grown {B : Nat} {W W' : World} {row : Option Nat} (hg : W.grownBy W' row) (hr : ∀ r, row = some r → ∃ o : Obj, W.heap[r]? = some o ∧ o.isCells = true) : KeepsFrom B W W' :=
  ⟨hg.size, fun k o _ hk ho => (hg.block k (Array.getElem?_eq_some_iff.1 hk).1 (fun e => by
    obtain ⟨o', h1, h2⟩ := hr k e.symm
    rw [hk] at h1
    injection h1 with h1
    subst h1
    rw [ho] at h2
    cases h2)).trans hk⟩
theorem in_but {lo hi c : Nat} {W W' : World} (hb : But c W W') (hc : c < lo) (hh : hi ≤ W.heap.size) : KeepsIn lo hi W W' := fun k h1 h2 => hb.block k (by omega) (by omega)
theorem in_grown {lo hi : Nat} {W W' : World} {row : Option Nat} (hg : W.grownBy W' row) (hr : ∀ r, row = some r → hi ≤ r) (hh : hi ≤ W.heap.size) : KeepsIn lo hi W W' := fun k _ h2 => hg.block k (by omega) (fun e => by have := hr k e.symm; omega)
theorem grown_below {hi : Nat} {W W' : World} {row : Option Nat} (hg : W.grownBy W' row) (hr : ∀ r, row = some r → hi ≤ r) (hh : hi ≤ W.heap.size) : Below hi W W' := ⟨hg.os, hg.tape, hg.output, hg.size, fun k hk => hg.block k (by omega) (fun e => by have := hr k e.symm; omega)⟩
theorem one_cell {w : World} {b : Nat} {v : Value} (h : w.cell? ⟨b, 0, none⟩ = some v) : ∀ (j : Nat) (u : Value), [v][j]? = some u → w.cell? ((⟨b, 0, none⟩ : Addr).add j) = some u := by
  intro j u hu
  cases j with
  | zero => simp at hu; subst hu; exact h
  | succ j => simp at hu
theorem PS.below_to {w W W' : World} {nb g k hi : Nat} {L : List ByteArray} {b : Bool} (h : PS w W nb g L k b) (hb : Below hi W W') (h1 : nb < hi) (h2 : hi ≤ W.heap.size) : PS w W' nb g L k b := by
  have l1 := h.lo; have l2 := h.lo2; have l3 := h.two
  have blk : ∀ {b : Nat} {t : TypeId} {cs : Array Value} {fr : Nat × Nat}, b < hi → Blk W b t cs fr → Blk W' b t cs fr := fun hlt hx => (hb.block _ hlt).trans hx
  have cell : ∀ {a : Addr} {v : Value}, a.block < hi → W.cell? a = some v → W'.cell? a = some v := fun hlt hx => (World.cell?_of_block (hb.block _ hlt)).trans hx
  refine ⟨blk (by omega) h.res, blk (by omega) h.num, ?_, h.below.trans (hb.mono (by omega)), l1, l2, ?_, ?_, l3⟩
  · obtain ⟨A, n, cp, q1, q2, q3, q4⟩ := h.rs
    refine ⟨A, n, cp, blk (by omega) q1, ⟨q2.1, fun h0 => ?_⟩, q3, q4⟩
    obtain ⟨b', o, e, hc⟩ := q2.2 h0
    exact ⟨b', o, e, fun j u hu => cell (by have := q4 h0 _ e; simp at this ⊢; omega) (hc j u hu)⟩
  · obtain ⟨m, hm⟩ := h.env
    exact ⟨m, cell (by simp; omega) hm⟩
  · obtain ⟨⟨e1, q1, q2⟩, e3, q3, q4⟩ := h.errs
    exact ⟨⟨e1, cell (by simp; omega) q1, q2⟩, e3, cell (by simp; omega) q3, q4⟩
theorem reads_below {W W' : World} {A : Option Addr} {n hi : Nat} {vs : List Value} (hR : Reads W 1 A n vs) (hb : Below hi W W') (hn : 0 < n → ∀ a, A = some a → a.block < hi) : Reads W' 1 A n vs := by
  refine ⟨hR.1, fun h0 => ?_⟩
  obtain ⟨b, o, e, h⟩ := hR.2 h0
  exact ⟨b, o, e, fun j u hu => (World.cell?_of_block (a := ⟨b, o + j, none⟩) (hb.block b (hn h0 _ e))).trans (h j u hu)⟩
end Go.Proofs.YtocgkpdolgnbgaaGreatDoor
