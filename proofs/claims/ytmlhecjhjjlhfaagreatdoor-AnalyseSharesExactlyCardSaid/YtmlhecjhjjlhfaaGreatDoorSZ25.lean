/- What the package's pattern and allows return, and the specification's FewAsk. -/
import Derived.Test.YtmlhecjhjjlhfaaGreatDoorSZ16
import Derived.Test.YtmlhecjhjjlhfaaGreatDoorSZ22
import Derived.Test.YtmlhecjhjjlhfaaGreatDoorProg
import Derived.WalkKit
import Derived.WalkSpells
import Derived.WalkLawsBesides
import Derived.Below
import Derived.Deep.QuietTactic
import Derived.BigQuiet
import Derived.Lib.QuietBelow
import Derived.Lib.Strings
import Derived.Lib.Hide
import Derived.Deep.RegionWith
import Derived.Deep.RegionHeld3
import Derived.Lib.IndexBytes
import Derived.Test.YtmlhecjhjjlhfaaGreatDoorSZ4
import Derived.Test.YtmlhecjhjjlhfaaGreatDoorSZ14
import Derived.Deep.RegionHeldLaw
import Derived.Deep.RegionLaw
import Derived.Test.YtmlhecjhjjlhfaaGreatDoorSZ6
import Derived.Test.YtmlhecjhjjlhfaaGreatDoorSZ23
import Derived.Test.YtmlhecjhjjlhfaaGreatDoorSZ18
namespace Go.Proofs.YtmlhecjhjjlhfaaGreatDoor
open Go.RowKit Go.Sort
set_option linter.unusedVariables false
set_option linter.unusedSimpArgs false
set_option maxRecDepth 100000
theorem two_cells (W : World) (t : Nat) (a b : Value) (g : Nat) (hg : g = W.heap.size) : (W.alloc (.cells #[a, b] t)).cell? ⟨g, 0, none⟩ = some a ∧ (W.alloc (.cells #[a, b] t)).cell? ⟨g, 1, none⟩ = some b := by
  subst hg
  have h : Blk (W.alloc (.cells #[a, b] t)) W.heap.size t #[a, b] (0, 0) := World.alloc_heap_new _ _
  exact ⟨Blk.cell h 0, Blk.cell h 1⟩
set_option maxHeartbeats 1000000 in
theorem condPattern_any (fr till us : Int) (pat : ByteArray) (A B S : Option Addr) (na ca nb cb ns cs : Nat) (w : World) :
    Calls Tryz.prog 105 #[.agg #[.int .i64 fr, .int .i64 till, .string pat, .slice A na ca, .slice B nb cb, .slice S ns cs, .int .i64 us]] w (Ret w (.string (if pat.size = 0 then ⟨#[42, 47, 42, 42]⟩ else pat))) := by
  have cO := cmpOr_any
  generalize hV : (if pat.size = 0 then (⟨#[42, 47, 42, 42]⟩ : ByteArray) else pat) = V
  have HC := Lib.hid (fun (g c : Nat) (W : World) h0 h1 => hV ▸ cO g c pat ⟨#[42, 47, 42, 42]⟩ W h0 h1)
  clear cO hV
  go_enter Tryz.func105, Tryz.ntmps105
  go_wp2_with (go_at_call 169; refine (HC.out _ _ _ (two_cells _ _ _ _ _ (by simp)).1 (two_cells _ _ _ _ _ (by simp)).2).mono ?_; rintro e w2 ⟨rfl, hb2⟩)
  go_ret
  exact ⟨rfl, belB⟩
theorem allowsS_any (A : Option Addr) (n c : Nat) (xs : List ByteArray) (x : ByteArray) (w : World) (hA : Reads w 1 A n (xs.map .string)) (hn : n ≤ 1000000000) : Calls Tryz.prog 106 #[.slice A n c, .string x] w (Ret w (.bool (allowsL xs x))) := by
  have hl : xs.length = n := by have := hA.1; simp at this; omega
  rcases Nat.eq_zero_or_pos n with h0 | h0
  · subst h0
    obtain rfl : xs = [] := List.eq_nil_of_length_eq_zero hl
    go_enter Tryz.func106, Tryz.ntmps106
    go_wp2
    go_ret
    exact ⟨rfl, Below.refl _ _⟩
  · have he : xs.isEmpty = false := by cases xs; simp at hl; omega; rfl
    obtain ⟨b, o, rfl, hc⟩ := hA.2 h0
    have cC := fun (W : World) (hb : Below w.heap.size w W) => Tryz.slices_Contains_string b o n c xs x W (by omega) (by omega) (fun j hj => by
        refine cell_keep hb (hc j _ ?_)
        rw [List.getElem?_map, List.getElem?_eq_getElem hj]
        simp [List.getD_eq_getElem?_getD, List.getElem?_eq_getElem hj])
    rw [List.take_of_length_le (by omega)] at cC
    have hcs : Lib.containsS xs x = allowsL xs x := by
      unfold allowsL
      rw [he, Bool.false_or, Bool.eq_iff_iff, Lib.containsS_iff]
      simp
    rw [hcs] at cC
    have HC := Lib.hid cC
    have hn0 : ((n : Int) == 0) = false := by simp; omega
    clear cC hc hA hcs he
    generalize allowsL xs x = res at *
    go_enter Tryz.func106, Tryz.ntmps106
    go_wp2_with (go_at_call 73; refine (HC.out _ belB).mono ?_; rintro e w2 ⟨rfl, rfl⟩)
    go_ret
    exact ⟨rfl, belB⟩
theorem allowsI_any (A : Option Addr) (n c : Nat) (xs : List Int) (x : Int) (w : World) (hA : Reads w 1 A n (xs.map (.int .i64))) (hn : n ≤ 1000000000) : Calls Tryz.prog 107 #[.slice A n c, .int .i64 x] w (Ret w (.bool (allowsL xs x))) := by
  have hl : xs.length = n := by have := hA.1; simp at this; omega
  rcases Nat.eq_zero_or_pos n with h0 | h0
  · subst h0
    obtain rfl : xs = [] := List.eq_nil_of_length_eq_zero hl
    go_enter Tryz.func107, Tryz.ntmps107
    go_wp2
    go_ret
    exact ⟨rfl, Below.refl _ _⟩
  · have he : xs.isEmpty = false := by cases xs; simp at hl; omega; rfl
    obtain ⟨b, o, rfl, hc⟩ := hA.2 h0
    have cC := fun (W : World) (hb : Below w.heap.size w W) => Tryz.slices_Contains_int b o n c xs x W (by omega) (by omega) (fun j hj => by
        refine cell_keep hb (hc j _ ?_)
        rw [List.getElem?_map, List.getElem?_eq_getElem hj]
        simp [List.getD_eq_getElem?_getD, List.getElem?_eq_getElem hj])
    rw [List.take_of_length_le (by omega)] at cC
    have hcs : xs.contains x = allowsL xs x := by
      unfold allowsL
      rw [he, Bool.false_or]
    rw [hcs] at cC
    have HC := Lib.hid cC
    have hn0 : ((n : Int) == 0) = false := by simp; omega
    clear cC hc hA he hcs
    generalize allowsL xs x = res at *
    go_enter Tryz.func107, Tryz.ntmps107
    go_wp2_with (go_at_call 170; refine (HC.out _ belB).mono ?_; rintro e w2 ⟨rfl, rfl⟩)
    go_ret
    exact ⟨rfl, belB⟩
end Go.Proofs.YtmlhecjhjjlhfaaGreatDoor
namespace Go.Proofs.YtmlhecjhjjlhfaaGreatDoor
open Go.RowKit Go.Sort
set_option linter.unusedVariables false
set_option linter.unusedSimpArgs false
set_option maxRecDepth 100000
def PatBox (w : World) (g : Nat) (c : ByteArray) (v : Value) (b : Bool) : Prop := Blk w g 96 #[.string c, v, .bool b] (0, 0)
theorem PatBox.facts {w : World} {g : Nat} {c : ByteArray} {v : Value} {b : Bool} (h : PatBox w g c v b) :
    w.cell? ⟨g, 0, none⟩ = some (.string c) ∧ w.cell? ⟨g, 1, none⟩ = some v ∧ w.cell? ⟨g, 2, none⟩ = some (.bool b) ∧ w.frozen? ⟨g, 0, none⟩ = false ∧ w.frozen? ⟨g, 1, none⟩ = false ∧ w.frozen? ⟨g, 2, none⟩ = false :=
  ⟨Blk.cell h 0, Blk.cell h 1, Blk.cell h 2, blk_free0 h 0, blk_free0 h 1, blk_free0 h 2⟩
end Go.Proofs.YtmlhecjhjjlhfaaGreatDoor
namespace Go.Proofs.YtmlhecjhjjlhfaaGreatDoor
open Go.RowKit Go.Sort
set_option linter.unusedVariables false
set_option linter.unusedSimpArgs false
set_option maxRecDepth 100000
def star : Part := ⟨2, ⟨#[]⟩⟩
def FreshAt (qs : List Part) (p : Part) (x : ByteArray) : Prop :=
  (p.kind = 0 ∧ x = p.text) ∨ (p.kind ≠ 0 ∧ (∀ q ∈ qs, q.kind = 0 → q.text ≠ x) ∧ ∃ u : List UInt8, u ≠ [] ∧ 46 ∉ u ∧ x.data.toList = u ++ p.text.data.toList)
theorem suffix_dot {t u e : List UInt8} {r : List UInt8} (ht : t = 46 :: r) (hu : 46 ∉ u) (h : t <:+ u ++ e) : t <:+ e := by
  rcases Nat.lt_or_ge e.length t.length with hl | hl
  · exfalso
    obtain ⟨a, ha⟩ := h
    have hal : a.length < u.length := by
      have := congrArg List.length ha
      simp only [List.length_append] at this
      omega
    have h1 : (a ++ t)[a.length]? = some 46 := by rw [List.getElem?_append_right (Nat.le_refl _), Nat.sub_self, ht]; rfl
    rw [ha, List.getElem?_append_left hal] at h1
    exact hu (List.mem_of_getElem? h1)
  · exact List.suffix_of_suffix_length_le h (List.suffix_append u e) hl
theorem fresh_has {q p : Part} (hq : PartFit q) (hp : PartFit p) {qs : List Part} (hm : q ∈ qs) {x : ByteArray} (h : FreshAt qs p x) : hasP q.kind q.text x = coversP q.kind q.text p.kind p.text := by
  rcases h with ⟨hk, rfl⟩ | ⟨hk, hn, u, hu0, hu, hx⟩
  · rw [hk, cov0]
  · have hn := hn q hm
    obtain ⟨k, t⟩ := q
    obtain ⟨k2, e⟩ := p
    dsimp only at *
    rw [Bool.eq_iff_iff]
    rcases hq with ⟨h1, h2⟩ | ⟨h1, s, h2, h3, h4⟩ | ⟨h1, h2⟩ <;> dsimp only at h1 h2 <;> subst h1
    ·
      rw [has0]
      refine ⟨fun h => absurd h (hn rfl), fun h => ?_⟩
      rcases hp with ⟨g1, _⟩ | ⟨g1, _⟩ | ⟨g1, _⟩ <;> dsimp only at g1 <;> subst g1
      · exact absurd rfl hk
      · rcases (cov1 0 t e).1 h with h | ⟨h, _⟩ <;> exact absurd h (by decide)
      · exact absurd ((cov2 0 t e).1 h) (by decide)
    · rw [has1, hx]
      have hlen : x.size = u.length + e.size := by rw [size_data, hx, List.length_append, size_data]
      have hul : 0 < u.length := List.length_pos_iff.2 hu0
      rcases hp with ⟨g1, _⟩ | ⟨g1, _⟩ | ⟨g1, g2⟩ <;> dsimp only at g1 <;> subst g1
      · exact absurd rfl hk
      · rw [cov1]
        constructor
        · rintro ⟨_, h⟩
          exact .inr ⟨rfl, suffix_dot h4 hu h⟩
        · rintro (h | ⟨_, h⟩)
          · exact absurd h (by decide)
          · have := h.length_le
            rw [← size_data, ← size_data] at this
            exact ⟨by omega, h.trans (List.suffix_append u _)⟩
      · rw [cov2]
        dsimp only at g2
        subst g2
        constructor
        · rintro ⟨_, h⟩
          have := suffix_dot h4 hu h
          rw [h4] at this
          simp at this
        · intro h; exact absurd h (by decide)
    · rw [has2]
      refine ⟨fun _ => ?_, fun _ => rfl⟩
      rcases hp with ⟨g1, _⟩ | ⟨g1, _⟩ | ⟨g1, _⟩ <;> dsimp only at g1 <;> subst g1
      · exact absurd rfl hk
      · exact (cov1 2 _ _).2 (.inl rfl)
      · exact (cov2 2 _ _).2 rfl
theorem fresh_self {p : Part} (hp : PartFit p) {qs : List Part} {x : ByteArray} (h : FreshAt qs p x) : hasP p.kind p.text x = true := by
  rcases h with ⟨hk, rfl⟩ | ⟨hk, _, u, hu0, hu, hx⟩
  · rw [hk]; exact (has0 _ _).2 rfl
  · obtain ⟨k, e⟩ := p
    dsimp only at *
    have hlen : x.size = u.length + e.size := by rw [size_data, hx, List.length_append, size_data]
    have hul : 0 < u.length := List.length_pos_iff.2 hu0
    rcases hp with ⟨g1, _⟩ | ⟨g1, _⟩ | ⟨g1, _⟩ <;> dsimp only at g1 <;> subst g1
    · exact absurd rfl hk
    · exact (has1 _ _).2 ⟨by omega, by rw [hx]; exact List.suffix_append u _⟩
    · exact has2 _ _
def partsM (x : Pat) (m : Nat) : List Part := x.parts ++ List.replicate (m - x.parts.length) star
theorem partsM_len (x : Pat) (m : Nat) (h : x.parts.length ≤ m) : (partsM x m).length = m := by simp [partsM]; omega
theorem partsM_fit {x : Pat} (hx : PatFit x) (m : Nat) : ∀ p ∈ partsM x m, PartFit p := by
  intro p hp
  rcases List.mem_append.1 hp with h | h
  · exact hx.parts p h
  · rw [List.eq_of_mem_replicate h]; exact star_fit
def atB (y x : Pat) (m : Nat) : Bool :=
  coversP y.cust.kind y.cust.text x.cust.kind x.cust.text && !decide (m < y.parts.length) && !(decide (y.parts.length < m) && !y.tail) && coverL y.parts (partsM x m)
def partsOf (ys : List Pat) : List Part := ys.flatMap fun y => y.cust :: y.parts
theorem fresh_parts {qs : List Part} : ∀ (ps xs : List Part) (ws : List ByteArray), (∀ p ∈ ps, PartFit p ∧ p ∈ qs) → (∀ p ∈ xs, PartFit p) → xs.length = ws.length → (∀ (k : Nat) (p : Part) (w : ByteArray), xs[k]? = some p → ws[k]? = some w → FreshAt qs p w) → matchesL ps ws = coverL ps xs
  | [], _, _, _, _, _, _ => by simp [matchesL, coverL]
  | a :: ps, [], [], _, _, _, _ => by simp [matchesL, coverL]
  | a :: ps, b :: xs, w :: ws, h, hx, hl, hf => by
    rw [matchesL, coverL, fresh_has (h a (by simp)).1 (hx b (by simp)) (h a (by simp)).2 (hf 0 b w rfl rfl), fresh_parts ps xs ws (fun p hp => h p (by simp [hp])) (fun p hp => hx p (by simp [hp])) (by simpa using hl) (fun k p w h1 h2 => hf (k + 1) p w h1 h2)]
  | _, [], _ :: _, _, _, hl, _ => by simp at hl
  | _, _ :: _, [], _, _, hl, _ => by simp at hl
structure Exam (qs : List Part) (x : Pat) (m : Nat) (c : ByteArray) (ws : List ByteArray) : Prop where
  name : isNameB c = true
  cust : FreshAt qs x.cust c
  words : ∀ w ∈ ws, isWordB w = true
  len : ws.length = m
  fresh : ∀ (k : Nat) (p : Part) (w : ByteArray), (partsM x m)[k]? = some p → ws[k]? = some w → FreshAt qs p w
theorem exam_at {qs : List Part} {x y : Pat} {m : Nat} {c : ByteArray} {ws : List ByteArray} (hx : PatFit x) (hy : PatFit y) (hq : ∀ q ∈ y.cust :: y.parts, q ∈ qs) (hm : x.parts.length ≤ m) (h : Exam qs x m c ws) : matchP y ⟨c, ws, []⟩ = atB y x m := by
  unfold matchP atB
  dsimp only
  rw [fresh_has hy.cust.part hx.cust.part (hq _ (by simp)) h.cust, h.len, fresh_parts y.parts (partsM x m) ws (fun p hp => ⟨hy.parts p hp, hq p (by simp [hp])⟩) (partsM_fit hx m) (by rw [partsM_len x m hm, h.len]) h.fresh]
theorem matches_of : ∀ (xs : List Part) (ws : List ByteArray), xs.length ≤ ws.length → (∀ (k : Nat) (p : Part) (w : ByteArray), xs[k]? = some p → ws[k]? = some w → hasP p.kind p.text w = true) → matchesL xs ws = true
  | [], _, _, _ => by simp [matchesL]
  | _ :: _, [], h, _ => by simp at h
  | a :: xs, w :: ws, h, hf => by
    rw [matchesL, hf 0 a w rfl rfl, matches_of xs ws (by simpa using h) (fun k p w h1 h2 => hf (k + 1) p w h1 h2)]
    rfl
theorem exam_self {qs : List Part} {x : Pat} {m : Nat} {c : ByteArray} {ws : List ByteArray} (hx : PatFit x) (hm : x.parts.length ≤ m) (ht : x.parts.length < m → x.tail = true) (h : Exam qs x m c ws) : matchP x ⟨c, ws, []⟩ = true := by
  rw [matchP_iff]
  refine ⟨fresh_self hx.cust.part h.cust, ?_, ?_⟩
  · refine matches_of _ _ (by rw [h.len]; exact hm) (fun k p w h1 h2 => fresh_self (hx.parts p (List.mem_of_getElem? h1)) (h.fresh k p w ?_ h2))
    unfold partsM
    rw [List.getElem?_append_left (List.getElem?_eq_some_iff.1 h1).1]
    exact h1
  · dsimp only
    rw [h.len]
    rcases Nat.lt_or_ge x.parts.length m with hl | hl
    · exact .inl (ht hl)
    · exact .inr (by omega)
def mostP (x : Pat) : Nat := if x.tail then 32 else x.parts.length
def gapN (x : Pat) (ys : List Pat) : Option Nat := (List.range' x.parts.length (mostP x + 1 - x.parts.length)).find? fun m => ys.all fun y => !atB y x m
theorem gap_some {x : Pat} {ys : List Pat} {m : Nat} (h : gapN x ys = some m) : x.parts.length ≤ m ∧ m ≤ mostP x ∧ ∀ y ∈ ys, atB y x m = false := by
  unfold gapN at h
  have h1 := List.mem_of_find?_eq_some h
  have h2 := List.find?_some h
  rw [List.mem_range'_1] at h1
  rw [List.all_eq_true] at h2
  exact ⟨h1.1, by omega, fun y hy => by simpa using h2 y hy⟩
end Go.Proofs.YtmlhecjhjjlhfaaGreatDoor
namespace Go.Proofs.YtmlhecjhjjlhfaaGreatDoor
open Go.RowKit Go.Sort
set_option linter.unusedVariables false
set_option linter.unusedSimpArgs false
set_option maxRecDepth 100000
section
variable {α : Type} [Inhabited α]
end
theorem cloneS (A : Option Addr) (n c : Nat) (zs : List ByteArray) (w : World) (hA : Reads w 1 A n (zs.map .string)) (h0 : 0 < n) (hn : n ≤ 1000000) : Calls Tryz.prog 176 #[.slice A n c] w fun e w' => ∃ g cap, e = .returned (.slice (some ⟨g, 0, none⟩) n cap) ∧ w'.ownsRow w.heap.size 9 1 (.slice (some ⟨g, 0, none⟩) n cap) n (zs.map .string) ∧ Below w.heap.size w w' := by
  have hl : zs.length = n := by have := hA.1; simp at this; omega
  obtain ⟨b, o, rfl, hc⟩ := hA.2 h0
  refine (Tryz.slices_Clone_string b o n c zs w (by omega) (by omega) (fun j hj => ?_)).mono ?_
  · refine hc j _ ?_
    rw [List.getElem?_map, List.getElem?_eq_getElem hj]
    simp [List.getD_eq_getElem?_getD, List.getElem?_eq_getElem hj]
  · rintro e w' ⟨v', rfl, hown, _, hb⟩
    rw [List.take_of_length_le (by omega)] at hown
    rcases hown.2 with ⟨_, h⟩ | ⟨g, cap, cur, rfl, r⟩
    · omega
    · exact ⟨g, cap, rfl, hown, hb⟩
end Go.Proofs.YtmlhecjhjjlhfaaGreatDoor
namespace Go.Proofs.YtmlhecjhjjlhfaaGreatDoor
open Go.RowKit Go.Sort
set_option linter.unusedVariables false
set_option linter.unusedSimpArgs false
set_option maxRecDepth 100000
theorem bothP_eq {p q : ByteArray} {x y : Pat} (hx : compileB p = some x) (hy : compileB q = some y) : bothP p q = some (commonP x y) := by unfold bothP; rw [hx, hy]
theorem clash_yes {p q : ByteArray} {x y z : Pat} (hx : compileB p = some x) (hy : compileB q = some y) (h : commonP x y = some z) : matchB p (exText z) = true ∧ matchB q (exText z) = true := by
  obtain ⟨fz, h2⟩ := commonP_some (compile_fit hx) (compile_fit hy) h
  have h3 := h2 (exA z)
  rw [exA_match fz] at h3
  have h4 := h3.symm
  rw [Bool.and_eq_true] at h4
  exact ⟨by rw [match_exText hx fz]; exact h4.1, by rw [match_exText hy fz]; exact h4.2⟩
theorem clash_no {p q : ByteArray} {x y : Pat} (hx : compileB p = some x) (hy : compileB q = some y) (h : commonP x y = none) (a : ByteArray) : (matchB p a && matchB q a) = false := by
  have hm1 : matchB p a = (readB a && matchP x (parseB a).1) := by unfold matchB; rw [hx]
  have hm2 : matchB q a = (readB a && matchP y (parseB a).1) := by unfold matchB; rw [hy]
  rw [hm1, hm2]
  have := commonP_none (compile_fit hx) (compile_fit hy) h (parseB a).1
  cases h4 : matchP x (parseB a).1 <;> cases h5 : matchP y (parseB a).1 <;> simp_all
theorem matched_size {q t : ByteArray} (h : matchB q t = true) : t.size ≤ 10000 := by
  unfold matchB at h
  split at h
  · cases h
  · rw [Bool.and_eq_true] at h
    have h2 := h.1
    unfold readB at h2
    rw [Bool.and_eq_true, Lib.toList_data, Lib.toList_data, beq_iff_eq] at h2
    rw [size_data, ← h2.2]
    exact parse_bound t
end Go.Proofs.YtmlhecjhjjlhfaaGreatDoor
