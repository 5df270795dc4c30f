/- What the package's pattern and allows return, and the specification's FewAsk. -/
import Derived.Test.YtjhlpkhfdghngaaGreatDoorGZ17
import Derived.Test.YtjhlpkhfdghngaaGreatDoorGZ24
import Derived.Test.YtjhlpkhfdghngaaGreatDoorProg
import Derived.WalkKit
import Derived.WalkSpells
import Derived.WalkLawsBesides
import Derived.Below
import Derived.Deep.QuietTactic
import Derived.BigQuiet
import Derived.Lib.QuietBelow
import Derived.Lib.Strings
import Derived.Lib.Hide
import Derived.Deep.RegionWith
import Derived.Deep.RegionHeld3
import Derived.Lib.IndexBytes
import Derived.Test.YtjhlpkhfdghngaaGreatDoorGZ16
import Derived.Test.YtjhlpkhfdghngaaGreatDoorGZ23
namespace Go.Proofs.YtjhlpkhfdghngaaGreatDoor
open Go.RowKit Go.Sort
set_option linter.unusedVariables false
set_option linter.unusedSimpArgs false
set_option maxRecDepth 100000
theorem two_cells (W : World) (t : Nat) (a b : Value) (g : Nat) (hg : g = W.heap.size) : (W.alloc (.cells #[a, b] t)).cell? ⟨g, 0, none⟩ = some a ∧ (W.alloc (.cells #[a, b] t)).cell? ⟨g, 1, none⟩ = some b := by
  subst hg
  have h : Blk (W.alloc (.cells #[a, b] t)) W.heap.size t #[a, b] (0, 0) := World.alloc_heap_new _ _
  exact ⟨Blk.cell h 0, Blk.cell h 1⟩
set_option maxHeartbeats 1000000 in
theorem condPattern_any (fr till us : Int) (pat : ByteArray) (A B S : Option Addr) (na ca nb cb ns cs : Nat) (w : World) :
    Calls Tryz.prog 167 #[.agg #[.int .i64 fr, .int .i64 till, .string pat, .slice A na ca, .slice B nb cb, .slice S ns cs, .int .i64 us]] w (Ret w (.string (if pat.size = 0 then ⟨#[42, 47, 42, 42]⟩ else pat))) := by
  have cO := cmpOr_any
  generalize hV : (if pat.size = 0 then (⟨#[42, 47, 42, 42]⟩ : ByteArray) else pat) = V
  have HC := Lib.hid (fun (g c : Nat) (W : World) h0 h1 => hV ▸ cO g c pat ⟨#[42, 47, 42, 42]⟩ W h0 h1)
  clear cO hV
  go_enter Tryz.func167, Tryz.ntmps167
  go_wp2_with (go_at_call 118; refine (HC.out _ _ _ (two_cells _ _ _ _ _ (by simp)).1 (two_cells _ _ _ _ _ (by simp)).2).mono ?_; rintro e w2 ⟨rfl, hb2⟩)
  go_ret
  exact ⟨rfl, belB⟩
theorem allowsS_any (A : Option Addr) (n c : Nat) (xs : List ByteArray) (x : ByteArray) (w : World) (hA : Reads w 1 A n (xs.map .string)) (hn : n ≤ 1000000000) : Calls Tryz.prog 168 #[.slice A n c, .string x] w (Ret w (.bool (allowsL xs x))) := by
  have hl : xs.length = n := by have := hA.1; simp at this; omega
  rcases Nat.eq_zero_or_pos n with h0 | h0
  · subst h0
    obtain rfl : xs = [] := List.eq_nil_of_length_eq_zero hl
    go_enter Tryz.func168, Tryz.ntmps168
    go_wp2
    go_ret
    exact ⟨rfl, Below.refl _ _⟩
  · have he : xs.isEmpty = false := by cases xs; simp at hl; omega; rfl
    obtain ⟨b, o, rfl, hc⟩ := hA.2 h0
    have cC := fun (W : World) (hb : Below w.heap.size w W) => Tryz.slices_Contains_string b o n c xs x W (by omega) (by omega) (fun j hj => by
        refine cell_keep hb (hc j _ ?_)
        rw [List.getElem?_map, List.getElem?_eq_getElem hj]
        simp [List.getD_eq_getElem?_getD, List.getElem?_eq_getElem hj])
    rw [List.take_of_length_le (by omega)] at cC
    have hcs : Lib.containsS xs x = allowsL xs x := by
      unfold allowsL
      rw [he, Bool.false_or, Bool.eq_iff_iff, Lib.containsS_iff]
      simp
    rw [hcs] at cC
    have HC := Lib.hid cC
    have hn0 : ((n : Int) == 0) = false := by simp; omega
    clear cC hc hA hcs he
    generalize allowsL xs x = res at *
    go_enter Tryz.func168, Tryz.ntmps168
    go_wp2_with (go_at_call 148; refine (HC.out _ belB).mono ?_; rintro e w2 ⟨rfl, rfl⟩)
    go_ret
    exact ⟨rfl, belB⟩
theorem allowsI_any (A : Option Addr) (n c : Nat) (xs : List Int) (x : Int) (w : World) (hA : Reads w 1 A n (xs.map (.int .i64))) (hn : n ≤ 1000000000) : Calls Tryz.prog 169 #[.slice A n c, .int .i64 x] w (Ret w (.bool (allowsL xs x))) := by
  have hl : xs.length = n := by have := hA.1; simp at this; omega
  rcases Nat.eq_zero_or_pos n with h0 | h0
  · subst h0
    obtain rfl : xs = [] := List.eq_nil_of_length_eq_zero hl
    go_enter Tryz.func169, Tryz.ntmps169
    go_wp2
    go_ret
    exact ⟨rfl, Below.refl _ _⟩
  · have he : xs.isEmpty = false := by cases xs; simp at hl; omega; rfl
    obtain ⟨b, o, rfl, hc⟩ := hA.2 h0
    have cC := fun (W : World) (hb : Below w.heap.size w W) => Tryz.slices_Contains_int b o n c xs x W (by omega) (by omega) (fun j hj => by
        refine cell_keep hb (hc j _ ?_)
        rw [List.getElem?_map, List.getElem?_eq_getElem hj]
        simp [List.getD_eq_getElem?_getD, List.getElem?_eq_getElem hj])
    rw [List.take_of_length_le (by omega)] at cC
    have hcs : xs.contains x = allowsL xs x := by
      unfold allowsL
      rw [he, Bool.false_or]
    rw [hcs] at cC
    have HC := Lib.hid cC
    have hn0 : ((n : Int) == 0) = false := by simp; omega
    clear cC hc hA he hcs
    generalize allowsL xs x = res at *
    go_enter Tryz.func169, Tryz.ntmps169
    go_wp2_with (go_at_call 230; refine (HC.out _ belB).mono ?_; rintro e w2 ⟨rfl, rfl⟩)
    go_ret
    exact ⟨rfl, belB⟩
end Go.Proofs.YtjhlpkhfdghngaaGreatDoor
namespace Go.Proofs.YtjhlpkhfdghngaaGreatDoor
open Go.RowKit Go.Sort
set_option linter.unusedVariables false
set_option linter.unusedSimpArgs false
set_option maxRecDepth 100000
structure AskV where
  addr : ByteArray
  client : ByteArray
  country : ByteArray
  site : Int
  lo : Int
  hi : Int
def validAsk (a : AskV) : Bool := readB a.addr && isNameB a.client && countryB a.country && siteB a.site && decide (0 ≤ a.lo ∧ a.lo ≤ a.hi ∧ a.hi ≤ 1099511627776)
def holdsC (c : CondV) (a : AskV) : Bool := validC c && validAsk a && decide (c.fr ≤ a.lo ∧ a.hi < c.till) && matchB (patT c.pat) a.addr && allowsL c.cl a.client && allowsL c.co a.country && allowsL c.si a.site
theorem match_pmA {p : ByteArray} (hp : patOk p = true) {s : ByteArray} (hs : readB s = true) : matchB (patT p) s = pmA p (parseB s).1 := by
  obtain ⟨x, hx, _⟩ := patT_some hp
  unfold matchB pmA
  rw [hx]
  show (readB s && matchP x (parseB s).1) = matchP x (parseB s).1
  rw [hs, Bool.true_and]
theorem holds_iff {c : CondV} (hc : CondOk c) (a : AskV) : holdsC c a = true ↔ validAsk a = true ∧ (c.fr ≤ a.lo ∧ a.hi < c.till) ∧ pmA c.pat (parseB a.addr).1 = true ∧ allowsL c.cl a.client = true ∧ allowsL c.co a.country = true ∧ allowsL c.si a.site = true := by
  unfold holdsC
  rw [(valid_iff c).2 hc]
  simp only [Bool.true_and, Bool.and_eq_true, decide_eq_true_eq]
  have hv : validAsk a = true → readB a.addr = true := fun h => by
    unfold validAsk at h
    simp only [Bool.and_eq_true] at h
    exact h.1.1.1.1
  constructor
  · rintro ⟨⟨⟨⟨⟨h1, h2⟩, h3⟩, h4⟩, h5⟩, h6⟩
    rw [match_pmA hc.pat (hv h1)] at h3
    exact ⟨h1, h2, h3, h4, h5, h6⟩
  · rintro ⟨h1, h2, h3, h4, h5, h6⟩
    rw [← match_pmA hc.pat (hv h1)] at h3
    exact ⟨⟨⟨⟨⟨h1, h2⟩, h3⟩, h4⟩, h5⟩, h6⟩
theorem allows_iff {α : Type} [DecidableEq α] (l : List α) (x : α) : allowsL l x = true ↔ l = [] ∨ x ∈ l := by
  unfold allowsL
  rw [Bool.or_eq_true, List.isEmpty_iff, List.contains_iff_mem]
end Go.Proofs.YtjhlpkhfdghngaaGreatDoor
namespace Go.Proofs.YtjhlpkhfdghngaaGreatDoor
open Go.RowKit Go.Sort
set_option linter.unusedVariables false
set_option linter.unusedSimpArgs false
set_option maxRecDepth 100000
def AskV.val (a : AskV) : Value := .agg #[.string a.addr, .string a.client, .string a.country, .int .i64 a.site, .int .i64 a.lo, .int .i64 a.hi]
end Go.Proofs.YtjhlpkhfdghngaaGreatDoor
namespace Go.Proofs.YtjhlpkhfdghngaaGreatDoor
open Go.RowKit Go.Sort
set_option linter.unusedVariables false
set_option linter.unusedSimpArgs false
set_option maxRecDepth 100000
def totP (l : List (List UInt8)) : Nat := (pathL l).length
theorem totP_cons (x : List UInt8) (l : List (List UInt8)) : totP (x :: l) = x.length + 1 + totP l := by simp [totP, pathL]; omega
theorem totP_nil : totP [] = 0 := rfl
theorem totP_app (a b : List (List UInt8)) : totP (a ++ b) = totP a + totP b := by simp [totP, pathL]
theorem split_tot (c : UInt8) : ∀ l : List UInt8, totP (splitL c l) = l.length + 1
  | [] => by simp [splitL, totP_cons, totP_nil]
  | b :: l => by
    have ih := split_tot c l
    unfold splitL
    split
    · rw [totP_cons, ih]; simp; omega
    · cases hs : splitL c l with
      | nil => exact absurd hs (splitL_ne c l)
      | cons p ps =>
        rw [hs, totP_cons] at ih
        simp only [totP_cons, List.length_cons]
        omega
theorem lists_split (c : UInt8) (s : ByteArray) : lists (splitB c s) = splitL c s.data.toList := by
  unfold splitB lists
  rw [List.map_map]
  conv => rhs; rw [← List.map_id (splitL c s.data.toList)]
  exact List.map_congr_left fun x _ => rfl
theorem totP_dropLast (l : List ByteArray) : totP (lists l.dropLast) ≤ totP (lists l) := by
  rcases List.eq_nil_or_concat l with rfl | ⟨a, x, rfl⟩
  · exact Nat.le_refl _
  · rw [List.concat_eq_append, List.dropLast_concat]
    unfold lists
    rw [List.map_append, totP_app]
    omega
theorem res_tot : ∀ (ps out r : List ByteArray), resB out ps = some r → totP (lists r) ≤ totP (lists out) + totP (lists ps)
  | [], out, r, e => by simp [resB] at e; subst e; simp [lists, totP_nil]
  | p :: ps, out, r, e => by
    rw [resB] at e
    cases hs : resStep out p with
    | none => rw [hs] at e; cases e
    | some o =>
      rw [hs, Option.bind_some] at e
      have ih := res_tot ps o r e
      have ho : totP (lists o) ≤ totP (lists out) + (p.data.toList.length + 1) := by
        unfold resStep at hs
        split at hs
        · injection hs with hs; subst hs; omega
        · split at hs
          · injection hs with hs; subst hs
            have := totP_dropLast out
            omega
          · split at hs
            · injection hs with hs; subst hs
              unfold lists
              rw [List.map_append, totP_app, List.map_cons, totP_cons]
              simp [totP_nil]
            · cases hs
      have hp : totP (lists (p :: ps)) = p.data.toList.length + 1 + totP (lists ps) := totP_cons _ _
      omega
def totQ : List (List UInt8 × List UInt8) → Nat
  | [] => 0
  | q :: l => q.1.length + q.2.length + 2 + totQ l
theorem query_tot : ∀ (sep : UInt8) (l : List (List UInt8 × List UInt8)), (queryL sep l).length = totQ l
  | _, [] => rfl
  | sep, (k, v) :: l => by simp [queryL, totQ, query_tot 38 l]; omega
theorem insL_tot (p : List UInt8 × List UInt8) : ∀ l : List (List UInt8 × List UInt8), totQ (insL l p) ≤ totQ l + (p.1.length + p.2.length + 2)
  | [] => by simp [insL, totQ]
  | q :: l => by
    unfold insL
    have ih := insL_tot p l
    split
    · simp only [totQ]; omega
    · split <;> simp only [totQ] <;> omega
theorem fold_tot : ∀ (l acc : List (List UInt8 × List UInt8)), totQ (l.foldl insL acc) ≤ totQ acc + totQ l
  | [], acc => by simp [totQ]
  | p :: l, acc => by
    have h1 := fold_tot l (insL acc p)
    have h2 := insL_tot p acc
    rw [List.foldl_cons]
    simp only [totQ]
    omega
theorem totQ_app : ∀ (a b : List (List UInt8 × List UInt8)), totQ (a ++ b) = totQ a + totQ b
  | [], b => by simp [totQ]
  | q :: a, b => by simp only [List.cons_append, totQ, totQ_app a b]; omega
theorem cut_tot (l : List UInt8) (c : UInt8) : (Lib.cut l [c]).1.length + (if (Lib.cut l [c]).2.2 then 1 + (Lib.cut l [c]).2.1.length else 0) = l.length ∧ ((Lib.cut l [c]).2.2 = false → (Lib.cut l [c]).2.1 = []) := by
  by_cases h : c ∈ l
  · obtain ⟨a, b, rfl, hna⟩ : ∃ a b, l = a ++ c :: b ∧ c ∉ a := by
      induction l with
      | nil => simp at h
      | cons x l ih =>
        by_cases e : x = c
        · subst e; exact ⟨[], l, rfl, by simp⟩
        · rcases List.mem_cons.1 h with h | h
          · exact absurd h.symm e
          · obtain ⟨a, b, h1, h2⟩ := ih h
            exact ⟨x :: a, b, by rw [h1]; rfl, by simp [h2]; exact fun e2 => e e2.symm⟩
    rw [cut_hit a b c hna]
    simp
    omega
  · rw [cut_none l c h]
    simp
theorem qAcc_tot : ∀ (ps : List ByteArray) (acc r : List (List UInt8 × List UInt8)), qAcc acc ps = some r → totQ r ≤ totQ acc + totP (lists ps)
  | [], acc, r, e => by simp [qAcc] at e; subst e; simp [lists, totP_nil]
  | p :: ps, acc, r, e => by
    rw [qAcc] at e
    cases hs : parsePair p with
    | none => rw [hs] at e; cases e
    | some x =>
      rw [hs] at e
      have ih := qAcc_tot ps _ r e
      have hx : x.1.length + x.2.length + 1 = p.data.toList.length := by
        unfold parsePair at hs
        split at hs
        · rename_i hc
          injection hs with hs
          subst hs
          simp only [Bool.and_eq_true] at hc
          have := (cut_tot p.data.toList 61).1
          rw [hc.1.1] at this
          simp only [if_true] at this
          dsimp only
          omega
        · cases hs
      have hp : totP (lists (p :: ps)) = p.data.toList.length + 1 + totP (lists ps) := totP_cons _ _
      rw [totQ_app] at ih
      simp only [totQ] at ih
      omega
theorem pairs_tot (q : List UInt8) (r : List (ByteArray × ByteArray)) (h : pairsB (toB q) = some r) : totQ (lists2 r) ≤ (if q = [] then 0 else q.length + 1) := by
  unfold pairsB at h
  split at h
  · injection h with h; subst h; simp [lists2, totQ]
  · rename_i hne
    rw [Lib.toList_data] at hne
    have hq : q ≠ [] := fun e => hne (by rw [e]; rfl)
    rw [if_neg hq]
    obtain ⟨acc, ha, rfl⟩ := Option.map_eq_some_iff.1 h
    have h1 := qAcc_tot _ _ _ ha
    rw [lists_split, split_tot] at h1
    have h2 := fold_tot acc []
    have h3 : lists2 ((pairsL acc).map fun q => (toB q.1, toB q.2)) = pairsL acc := by
      unfold lists2
      rw [List.map_map]
      conv => rhs; rw [← List.map_id (pairsL acc)]
      exact List.map_congr_left fun x _ => rfl
    rw [h3]
    unfold pairsL
    simp only [totQ] at h1 h2
    have h4 : (toB q).data.toList.length = q.length := rfl
    omega
theorem trimS_le (l : List UInt8) : (Lib.trimSuffix l [47]).length ≤ l.length := trim_len l [47]
theorem parse_short (s : ByteArray) (h : (parseB s).2 = 0) : (W06 (parseB s).1.cust (parseB s).1.path (parseB s).1.query).length ≤ s.size ∧ s.size ≤ 4096 := by
  unfold parseB at h ⊢
  split at h
  · cases h
  · rename_i hs
    rw [if_neg hs]
    refine ⟨?_, by omega⟩
    have hl0 := cut_tot (lowL s.data.toList) 63
    have hc0 := cut_tot (Lib.trimSuffix (leftL s).1 [47]) 47
    have ht := trimS_le (leftL s).1
    have hlow := lowL_len s.data.toList
    have hp : ∀ p, pathB (custL s) = some p → totP (lists p) ≤ if (custL s).2.2 then 1 + (custL s).2.1.length else 0 := by
      intro p hp
      unfold pathB at hp
      split at hp
      · rename_i hm
        have := res_tot _ _ _ hp
        rw [lists_split, split_tot] at this
        have e : (toB (custL s).2.1).data.toList.length = (custL s).2.1.length := rfl
        simp only [lists, List.map_nil, totP_nil] at this
        rw [if_pos hm]
        unfold lists
        omega
      · injection hp with hp; subst hp; simp [lists, totP_nil]
    have hq := fun r h => pairs_tot (leftL s).2.1 r h
    rw [size_data, ← hlow]
    change (leftL s).1.length + (if (leftL s).2.2 then 1 + (leftL s).2.1.length else 0) = _ ∧ _ at hl0
    change (custL s).1.length + (if (custL s).2.2 then 1 + (custL s).2.1.length else 0) = _ ∧ _ at hc0
    generalize pathB (custL s) = rr at *
    generalize pairsB (toB (leftL s).2.1) = qq at *
    generalize isNameB (toB (custL s).1) = nm at *
    unfold adrOf at h ⊢
    split at h
    · split at h
      · rename_i hl
        rw [if_pos hl]
        dsimp only
        have h1 := hp _ rfl
        have h2 := hq _ rfl
        unfold W06 writeL
        rw [List.length_append, List.length_append, query_tot]
        have e1 : (toB (custL s).1).data.toList.length = (custL s).1.length := rfl
        unfold totP at h1
        have h3 : (if (leftL s).2.1 = [] then 0 else (leftL s).2.1.length + 1) ≤ if (leftL s).2.2 then 1 + (leftL s).2.1.length else 0 := by
          split
          · omega
          · rename_i hne
            cases hb : (leftL s).2.2
            · exact absurd (hl0.2 hb) hne
            · simp; omega
        omega
      · cases h
    · cases h
end Go.Proofs.YtjhlpkhfdghngaaGreatDoor
namespace Go.Proofs.YtjhlpkhfdghngaaGreatDoor
open Go.RowKit Go.Sort
set_option linter.unusedVariables false
set_option linter.unusedSimpArgs false
set_option maxRecDepth 100000
def noAsk : AskV := ⟨⟨#[]⟩, ⟨#[]⟩, ⟨#[]⟩, 0, 0, 0⟩
def addrOf (p : ByteArray) : ByteArray := match bothP (patT p) ⟨#[42, 47, 42, 42]⟩ with
  | some (some z) => exText z
  | _ => ⟨#[]⟩
def sampleC (c : CondV) : AskV := ⟨addrOf c.pat, c.cl.headD ⟨#[97]⟩, c.co.headD ⟨#[97, 97]⟩, c.si.headD 0, c.fr, c.fr⟩
theorem exText_read {z : Pat} (hz : PatFit z) : readB (exText z) = true ∧ (parseB (exText z)).1 = exA z := by
  have hn : (wordsL z.parts).length ≤ 32 := by
    have := hz.num
    rw [words_len]; split at this <;> omega
  have := parse_join (with_cust hz.cust (c := 97) (.inl rfl)) (words_ok hz.parts) hn
  unfold exText
  rw [this.1]
  exact ⟨this.2, rfl⟩
theorem addr_of {p : ByteArray} (hp : patOk p = true) : readB (addrOf p) = true ∧ pmA p (parseB (addrOf p)).1 = true := by
  obtain ⟨x, hx, fx⟩ := patT_some hp
  have e : addrOf p = match commonP x anyP with
    | some z => exText z
    | none => ⟨#[]⟩ := by
    unfold addrOf bothP
    rw [hx, any_comp]
    dsimp only
    cases commonP x anyP <;> rfl
  rw [e]
  cases h : commonP x anyP with
  | none =>
    have := commonP_none fx any_fit h (exA x)
    rw [exA_match fx, any_match] at this
    cases this
  | some z =>
    obtain ⟨fz, hm⟩ := commonP_some fx any_fit h
    show readB (exText z) = true ∧ pmA p (parseB (exText z)).1 = true
    obtain ⟨h1, h2⟩ := exText_read fz
    refine ⟨h1, ?_⟩
    rw [h2]
    have := hm (exA z)
    rw [exA_match fz] at this
    have h3 := this.symm
    rw [Bool.and_eq_true] at h3
    unfold pmA
    rw [hx]
    exact h3.1
theorem head_allows {α : Type} [DecidableEq α] (l : List α) (d : α) : allowsL l (l.headD d) = true := by
  rw [allows_iff]
  cases l with
  | nil => exact .inl rfl
  | cons x l => exact .inr (by simp)
theorem head_right {α : Type} (l : List α) (d : α) (right : α → Bool) (h : ∀ x ∈ l, right x = true) (hd : right d = true) : right (l.headD d) = true := by
  cases l with
  | nil => exact hd
  | cons x l => exact h x (by simp)
theorem country_aa : countryB ⟨#[97, 97]⟩ = true := by decide
theorem valid_sample {c : CondV} (hc : CondOk c) : validAsk (sampleC c) = true := by
  have h0 := hc.fr0
  have h1 := hc.fr1
  unfold validAsk sampleC
  simp only [Bool.and_eq_true, decide_eq_true_eq]
  exact ⟨⟨⟨⟨(addr_of hc.pat).1, head_right c.cl _ isNameB hc.cl (word_one (.inl rfl))⟩, head_right c.co _ countryB hc.co country_aa⟩, head_right c.si _ siteB hc.si (by decide)⟩, h0, by omega, h1⟩
theorem holds_sample {c : CondV} (hc : CondOk c) (hlt : c.fr < c.till) : holdsC c (sampleC c) = true := by
  rw [holds_iff hc]
  exact ⟨valid_sample hc, ⟨by show c.fr ≤ c.fr; omega, hlt⟩, (addr_of hc.pat).2, head_allows _ _, head_allows _ _, head_allows _ _⟩
def outL {α : Type} [DecidableEq α] (a b all : List α) : Option α := (if a.isEmpty then all else a).find? fun x => !allowsL b x
def allClients : List ByteArray := (List.range 33).map fun i => ⟨#[99, UInt8.ofNat (48 + i / 10), UInt8.ofNat (48 + i % 10)]⟩
def allCountries : List ByteArray := (List.range 676).map fun i => ⟨#[UInt8.ofNat (97 + i / 26), UInt8.ofNat (97 + i % 26)]⟩
def allSites : List Int := (List.range 64).map Int.ofNat
def impR (a b : CondV) : Bool × AskV :=
  if a.till ≤ a.fr then (true, noAsk)
  else if a.fr < b.fr then (false, sampleC a)
  else if b.till < a.till then (false, { sampleC a with lo := a.till - 1, hi := a.till - 1 })
  else match compileB (patT b.pat), compileB (patT a.pat) with
    | some x, some y => if coverB x y then (match outL a.cl b.cl allClients, outL a.co b.co allCountries, outL a.si b.si allSites with
        | some s, _, _ => (false, { sampleC a with client := s })
        | none, some s, _ => (false, { sampleC a with country := s })
        | none, none, some n => (false, { sampleC a with site := n })
        | none, none, none => (true, noAsk))
      else (false, { sampleC a with addr := coverW x y })
    | _, _ => (true, noAsk)
end Go.Proofs.YtjhlpkhfdghngaaGreatDoor
