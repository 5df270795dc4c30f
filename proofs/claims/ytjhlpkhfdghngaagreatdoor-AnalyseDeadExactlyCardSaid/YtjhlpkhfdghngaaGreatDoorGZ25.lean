/- What the specification's Compile and Valid return. -/
import Derived.Test.YtjhlpkhfdghngaaGreatDoorGZ17
import Derived.Test.YtjhlpkhfdghngaaGreatDoorGZ4
import Derived.Test.YtjhlpkhfdghngaaGreatDoorProg
import Derived.WalkKit
import Derived.WalkSpells
import Derived.WalkLawsBesides
import Derived.Below
import Derived.Deep.QuietTactic
import Derived.BigQuiet
import Derived.Lib.QuietBelow
import Derived.Lib.Strings
import Derived.Lib.Hide
import Derived.Deep.RegionWith
import Derived.Deep.RegionHeld3
import Derived.Lib.IndexBytes
import Derived.Test.YtjhlpkhfdghngaaGreatDoorGZ22
import Derived.Test.YtjhlpkhfdghngaaGreatDoorGZ15
import Derived.Deep.RegionHeldLaw
import Derived.Deep.RegionLaw
import Derived.Test.YtjhlpkhfdghngaaGreatDoorGZ23
import Derived.Deep.DeepCutAuto
import Derived.KernelRfl
namespace Go.Proofs.YtjhlpkhfdghngaaGreatDoor
open Go.RowKit Go.Sort
set_option linter.unusedVariables false
set_option linter.unusedSimpArgs false
set_option maxRecDepth 100000
def PatBox (w : World) (g : Nat) (c : ByteArray) (v : Value) (b : Bool) : Prop := Blk w g 144 #[.string c, v, .bool b] (0, 0)
theorem PatBox.facts {w : World} {g : Nat} {c : ByteArray} {v : Value} {b : Bool} (h : PatBox w g c v b) :
    w.cell? ⟨g, 0, none⟩ = some (.string c) ∧ w.cell? ⟨g, 1, none⟩ = some v ∧ w.cell? ⟨g, 2, none⟩ = some (.bool b) ∧ w.frozen? ⟨g, 0, none⟩ = false ∧ w.frozen? ⟨g, 1, none⟩ = false ∧ w.frozen? ⟨g, 2, none⟩ = false :=
  ⟨Blk.cell h 0, Blk.cell h 1, Blk.cell h 2, blk_free0 h 0, blk_free0 h 1, blk_free0 h 2⟩
end Go.Proofs.YtjhlpkhfdghngaaGreatDoor
namespace Go.Proofs.YtjhlpkhfdghngaaGreatDoor
open Go.RowKit Go.Sort
set_option linter.unusedVariables false
set_option linter.unusedSimpArgs false
set_option maxRecDepth 100000
def coversV : Option Pat → Option Pat → Value
  | some x, some y => .tuple #[.bool (coverB x y), .string (if coverB x y then ⟨#[]⟩ else coverW x y), .int .i64 0]
  | _, _ => .tuple #[.bool false, .string ⟨#[]⟩, .int .i64 1]
theorem Reads.put {w : World} {g n k : Nat} {vs : List Value} (h : Reads w 1 (some ⟨g, 0, none⟩) n vs) (hk : k < n) (v : Value) : Reads (w.setCell ⟨g, 0 + k, none⟩ v) 1 (some ⟨g, 0, none⟩) n (vs.set k v) := by
  refine ⟨by simpa using h.1, fun hn => ⟨g, 0, rfl, fun j u hu => ?_⟩⟩
  obtain ⟨b, o, he, hc⟩ := h.2 hn
  injection he with he; injection he with h1 h2 _; subst h1; subst h2
  by_cases e : k = j
  · subst e
    have hl : k < vs.length := by have := h.1; omega
    rw [List.getElem?_set_self hl] at hu
    injection hu with hu; subst hu
    exact World.cell?_setCell_same w _ v (hc k _ (List.getElem?_eq_getElem hl))
  · rw [List.getElem?_set_ne e] at hu
    exact (World.cell?_setCell_other w _ ⟨g, 0 + j, none⟩ v (by intro h; injection h with _ h _; omega)).trans (hc j u hu)
end Go.Proofs.YtjhlpkhfdghngaaGreatDoor
namespace Go.Proofs.YtjhlpkhfdghngaaGreatDoor
open Go.RowKit Go.Sort
set_option linter.unusedVariables false
set_option linter.unusedSimpArgs false
set_option maxRecDepth 100000
theorem s1 : canonV (⟨#[65, 99, 109, 101, 47, 78, 101, 119, 115, 47, 46, 47, 50, 48, 50, 54, 47, 46, 46, 47, 97, 46, 72, 84, 77, 76, 47, 63, 98, 61, 50, 38, 97, 61, 49]⟩ : ByteArray) = .tuple #[.string (⟨#[97, 99, 109, 101, 47, 110, 101, 119, 115, 47, 97, 46, 104, 116, 109, 108, 63, 97, 61, 49, 38, 98, 61, 50]⟩ : ByteArray), .int .i64 0] := by kernel_rfl
theorem s2 : matchB (⟨#[97, 99, 109, 101, 47, 110, 101, 119, 115, 47, 42, 42]⟩ : ByteArray) (⟨#[97, 99, 109, 101, 47, 110, 101, 119, 115]⟩ : ByteArray) = true := by kernel_rfl
theorem s3 : matchB (⟨#[97, 99, 109, 101, 47, 42, 47, 42, 46, 104, 116, 109, 108]⟩ : ByteArray) (⟨#[97, 99, 109, 101, 47, 110, 101, 119, 115, 47, 97, 46, 104, 116, 109, 108]⟩ : ByteArray) = true := by kernel_rfl
theorem s4 : matchB (⟨#[97, 99, 109, 101, 47, 42]⟩ : ByteArray) (⟨#[97, 99, 109, 101, 47, 97, 47, 98]⟩ : ByteArray) = false := by kernel_rfl
theorem s5 : coversV (compileB (⟨#[97, 99, 109, 101, 47, 42, 42]⟩ : ByteArray)) (compileB (⟨#[97, 99, 109, 101, 47, 42, 46, 99, 115, 115]⟩ : ByteArray)) = .tuple #[.bool true, .string ⟨#[]⟩, .int .i64 0] := by kernel_rfl
theorem s6 : coversV (compileB (⟨#[97, 99, 109, 101, 47, 42, 46, 99, 115, 115]⟩ : ByteArray)) (compileB (⟨#[97, 99, 109, 101, 47, 42]⟩ : ByteArray)) = .tuple #[.bool false, .string (⟨#[97, 99, 109, 101, 47, 97]⟩ : ByteArray), .int .i64 0] := by kernel_rfl
theorem sortL_of {xs ys : List (List UInt8)} (hp : ys.Perm xs) (hs : ys.Pairwise (· ≤ ·)) : sortL xs = ys := by
  have tr : ∀ a b c : List UInt8, decide (a ≤ b) = true → decide (b ≤ c) = true → decide (a ≤ c) = true := fun a b c h1 h2 => by simp only [decide_eq_true_eq] at *; exact List.le_trans h1 h2
  have tot : ∀ a b : List UInt8, (decide (a ≤ b) || decide (b ≤ a)) = true := fun a b => by simp only [Bool.or_eq_true, decide_eq_true_eq]; exact List.le_total a b
  refine List.Perm.eq_of_pairwise (le := fun a b => decide (a ≤ b) = true) (fun a b _ _ h1 h2 => ?_) (List.pairwise_mergeSort tr tot _) (hs.imp fun h => decide_eq_true h) ((List.mergeSort_perm _ _).trans hp.symm)
  simp only [decide_eq_true_eq] at h1 h2
  exact List.le_antisymm h1 h2
theorem t10 : tagsL [(⟨#[98]⟩ : ByteArray), (⟨#[97]⟩ : ByteArray), (⟨#[98]⟩ : ByteArray)] = [97, 44, 98] := by
  have h : sortL (lists [(⟨#[98]⟩ : ByteArray), (⟨#[97]⟩ : ByteArray), (⟨#[98]⟩ : ByteArray)]) = [[97], [98], [98]] := sortL_of (by decide) (by decide)
  unfold tagsL
  rw [h]
  show Lib.join (Lib.compact [[97], [98], [98]]) [44] = [97, 44, 98]
  kernel_rfl
end Go.Proofs.YtjhlpkhfdghngaaGreatDoor
namespace Go.Proofs.YtjhlpkhfdghngaaGreatDoor
open Go.RowKit Go.Sort
set_option linter.unusedVariables false
set_option linter.unusedSimpArgs false
set_option maxRecDepth 100000
def star : Part := ⟨2, ⟨#[]⟩⟩
def FreshAt (qs : List Part) (p : Part) (x : ByteArray) : Prop :=
  (p.kind = 0 ∧ x = p.text) ∨ (p.kind ≠ 0 ∧ (∀ q ∈ qs, q.kind = 0 → q.text ≠ x) ∧ ∃ u : List UInt8, u ≠ [] ∧ 46 ∉ u ∧ x.data.toList = u ++ p.text.data.toList)
theorem suffix_dot {t u e : List UInt8} {r : List UInt8} (ht : t = 46 :: r) (hu : 46 ∉ u) (h : t <:+ u ++ e) : t <:+ e := by
  rcases Nat.lt_or_ge e.length t.length with hl | hl
  · exfalso
    obtain ⟨a, ha⟩ := h
    have hal : a.length < u.length := by
      have := congrArg List.length ha
      simp only [List.length_append] at this
      omega
    have h1 : (a ++ t)[a.length]? = some 46 := by rw [List.getElem?_append_right (Nat.le_refl _), Nat.sub_self, ht]; rfl
    rw [ha, List.getElem?_append_left hal] at h1
    exact hu (List.mem_of_getElem? h1)
  · exact List.suffix_of_suffix_length_le h (List.suffix_append u e) hl
theorem fresh_has {q p : Part} (hq : PartFit q) (hp : PartFit p) {qs : List Part} (hm : q ∈ qs) {x : ByteArray} (h : FreshAt qs p x) : hasP q.kind q.text x = coversP q.kind q.text p.kind p.text := by
  rcases h with ⟨hk, rfl⟩ | ⟨hk, hn, u, hu0, hu, hx⟩
  · rw [hk, cov0]
  · have hn := hn q hm
    obtain ⟨k, t⟩ := q
    obtain ⟨k2, e⟩ := p
    dsimp only at *
    rw [Bool.eq_iff_iff]
    rcases hq with ⟨h1, h2⟩ | ⟨h1, s, h2, h3, h4⟩ | ⟨h1, h2⟩ <;> dsimp only at h1 h2 <;> subst h1
    ·
      rw [has0]
      refine ⟨fun h => absurd h (hn rfl), fun h => ?_⟩
      rcases hp with ⟨g1, _⟩ | ⟨g1, _⟩ | ⟨g1, _⟩ <;> dsimp only at g1 <;> subst g1
      · exact absurd rfl hk
      · rcases (cov1 0 t e).1 h with h | ⟨h, _⟩ <;> exact absurd h (by decide)
      · exact absurd ((cov2 0 t e).1 h) (by decide)
    · rw [has1, hx]
      have hlen : x.size = u.length + e.size := by rw [size_data, hx, List.length_append, size_data]
      have hul : 0 < u.length := List.length_pos_iff.2 hu0
      rcases hp with ⟨g1, _⟩ | ⟨g1, _⟩ | ⟨g1, g2⟩ <;> dsimp only at g1 <;> subst g1
      · exact absurd rfl hk
      · rw [cov1]
        constructor
        · rintro ⟨_, h⟩
          exact .inr ⟨rfl, suffix_dot h4 hu h⟩
        · rintro (h | ⟨_, h⟩)
          · exact absurd h (by decide)
          · have := h.length_le
            rw [← size_data, ← size_data] at this
            exact ⟨by omega, h.trans (List.suffix_append u _)⟩
      · rw [cov2]
        dsimp only at g2
        subst g2
        constructor
        · rintro ⟨_, h⟩
          have := suffix_dot h4 hu h
          rw [h4] at this
          simp at this
        · intro h; exact absurd h (by decide)
    · rw [has2]
      refine ⟨fun _ => ?_, fun _ => rfl⟩
      rcases hp with ⟨g1, _⟩ | ⟨g1, _⟩ | ⟨g1, _⟩ <;> dsimp only at g1 <;> subst g1
      · exact absurd rfl hk
      · exact (cov1 2 _ _).2 (.inl rfl)
      · exact (cov2 2 _ _).2 rfl
theorem fresh_self {p : Part} (hp : PartFit p) {qs : List Part} {x : ByteArray} (h : FreshAt qs p x) : hasP p.kind p.text x = true := by
  rcases h with ⟨hk, rfl⟩ | ⟨hk, _, u, hu0, hu, hx⟩
  · rw [hk]; exact (has0 _ _).2 rfl
  · obtain ⟨k, e⟩ := p
    dsimp only at *
    have hlen : x.size = u.length + e.size := by rw [size_data, hx, List.length_append, size_data]
    have hul : 0 < u.length := List.length_pos_iff.2 hu0
    rcases hp with ⟨g1, _⟩ | ⟨g1, _⟩ | ⟨g1, _⟩ <;> dsimp only at g1 <;> subst g1
    · exact absurd rfl hk
    · exact (has1 _ _).2 ⟨by omega, by rw [hx]; exact List.suffix_append u _⟩
    · exact has2 _ _
def partsM (x : Pat) (m : Nat) : List Part := x.parts ++ List.replicate (m - x.parts.length) star
theorem partsM_len (x : Pat) (m : Nat) (h : x.parts.length ≤ m) : (partsM x m).length = m := by simp [partsM]; omega
theorem partsM_fit {x : Pat} (hx : PatFit x) (m : Nat) : ∀ p ∈ partsM x m, PartFit p := by
  intro p hp
  rcases List.mem_append.1 hp with h | h
  · exact hx.parts p h
  · rw [List.eq_of_mem_replicate h]; exact star_fit
def atB (y x : Pat) (m : Nat) : Bool :=
  coversP y.cust.kind y.cust.text x.cust.kind x.cust.text && !decide (m < y.parts.length) && !(decide (y.parts.length < m) && !y.tail) && coverL y.parts (partsM x m)
def partsOf (ys : List Pat) : List Part := ys.flatMap fun y => y.cust :: y.parts
theorem fresh_parts {qs : List Part} : ∀ (ps xs : List Part) (ws : List ByteArray), (∀ p ∈ ps, PartFit p ∧ p ∈ qs) → (∀ p ∈ xs, PartFit p) → xs.length = ws.length → (∀ (k : Nat) (p : Part) (w : ByteArray), xs[k]? = some p → ws[k]? = some w → FreshAt qs p w) → matchesL ps ws = coverL ps xs
  | [], _, _, _, _, _, _ => by simp [matchesL, coverL]
  | a :: ps, [], [], _, _, _, _ => by simp [matchesL, coverL]
  | a :: ps, b :: xs, w :: ws, h, hx, hl, hf => by
    rw [matchesL, coverL, fresh_has (h a (by simp)).1 (hx b (by simp)) (h a (by simp)).2 (hf 0 b w rfl rfl), fresh_parts ps xs ws (fun p hp => h p (by simp [hp])) (fun p hp => hx p (by simp [hp])) (by simpa using hl) (fun k p w h1 h2 => hf (k + 1) p w h1 h2)]
  | _, [], _ :: _, _, _, hl, _ => by simp at hl
  | _, _ :: _, [], _, _, hl, _ => by simp at hl
structure Exam (qs : List Part) (x : Pat) (m : Nat) (c : ByteArray) (ws : List ByteArray) : Prop where
  name : isNameB c = true
  cust : FreshAt qs x.cust c
  words : ∀ w ∈ ws, isWordB w = true
  len : ws.length = m
  fresh : ∀ (k : Nat) (p : Part) (w : ByteArray), (partsM x m)[k]? = some p → ws[k]? = some w → FreshAt qs p w
theorem exam_at {qs : List Part} {x y : Pat} {m : Nat} {c : ByteArray} {ws : List ByteArray} (hx : PatFit x) (hy : PatFit y) (hq : ∀ q ∈ y.cust :: y.parts, q ∈ qs) (hm : x.parts.length ≤ m) (h : Exam qs x m c ws) : matchP y ⟨c, ws, []⟩ = atB y x m := by
  unfold matchP atB
  dsimp only
  rw [fresh_has hy.cust.part hx.cust.part (hq _ (by simp)) h.cust, h.len, fresh_parts y.parts (partsM x m) ws (fun p hp => ⟨hy.parts p hp, hq p (by simp [hp])⟩) (partsM_fit hx m) (by rw [partsM_len x m hm, h.len]) h.fresh]
theorem matches_of : ∀ (xs : List Part) (ws : List ByteArray), xs.length ≤ ws.length → (∀ (k : Nat) (p : Part) (w : ByteArray), xs[k]? = some p → ws[k]? = some w → hasP p.kind p.text w = true) → matchesL xs ws = true
  | [], _, _, _ => by simp [matchesL]
  | _ :: _, [], h, _ => by simp at h
  | a :: xs, w :: ws, h, hf => by
    rw [matchesL, hf 0 a w rfl rfl, matches_of xs ws (by simpa using h) (fun k p w h1 h2 => hf (k + 1) p w h1 h2)]
    rfl
theorem exam_self {qs : List Part} {x : Pat} {m : Nat} {c : ByteArray} {ws : List ByteArray} (hx : PatFit x) (hm : x.parts.length ≤ m) (ht : x.parts.length < m → x.tail = true) (h : Exam qs x m c ws) : matchP x ⟨c, ws, []⟩ = true := by
  rw [matchP_iff]
  refine ⟨fresh_self hx.cust.part h.cust, ?_, ?_⟩
  · refine matches_of _ _ (by rw [h.len]; exact hm) (fun k p w h1 h2 => fresh_self (hx.parts p (List.mem_of_getElem? h1)) (h.fresh k p w ?_ h2))
    unfold partsM
    rw [List.getElem?_append_left (List.getElem?_eq_some_iff.1 h1).1]
    exact h1
  · dsimp only
    rw [h.len]
    rcases Nat.lt_or_ge x.parts.length m with hl | hl
    · exact .inl (ht hl)
    · exact .inr (by omega)
theorem stars_match : ∀ (n : Nat) (ws : List ByteArray), n ≤ ws.length → matchesL (List.replicate n star) ws = true
  | 0, _, _ => by simp [matchesL]
  | n + 1, [], h => by simp at h
  | n + 1, w :: ws, h => by
    rw [List.replicate_succ, matchesL, stars_match n ws (by simpa using h)]
    show (hasP 2 _ w && true) = true
    rw [has2]; rfl
theorem matches_app : ∀ (ps rs : List Part) (ws : List ByteArray), matchesL ps ws = true → matchesL rs (ws.drop ps.length) = true → matchesL (ps ++ rs) ws = true
  | [], rs, ws, _, h => by simpa using h
  | _ :: _, _, [], h, _ => by simp [matchesL] at h
  | p :: ps, rs, w :: ws, h, h2 => by
    rw [matchesL, Bool.and_eq_true] at h
    rw [List.cons_append, matchesL, h.1, matches_app ps rs ws h.2 (by simpa using h2)]
    rfl
theorem at_sound {x y : Pat} (hx : PatFit x) {m : Nat} (h : atB y x m = true) (a : Adr) (hm : matchP x a = true) (hl : a.path.length = m) : matchP y a = true := by
  unfold atB at h
  simp only [Bool.and_eq_true, Bool.not_eq_true', Bool.and_eq_false_iff, decide_eq_false_iff_not] at h
  obtain ⟨⟨⟨h1, h2⟩, h3⟩, h4⟩ := h
  rw [matchP_iff] at hm ⊢
  obtain ⟨e1, e2, e3⟩ := hm
  have hxl := matchesL_len _ _ e2
  refine ⟨covers_sound hx.cust.part h1 _ e1, coverL_sound _ _ (partsM_fit hx m) h4 _ ?_, ?_⟩
  · refine matches_app _ _ _ e2 (stars_match _ _ ?_)
    rw [List.length_drop]; omega
  · rcases h3 with h3 | h3
    · exact .inr (by omega)
    · exact .inl (by simpa using h3)
def mostP (x : Pat) : Nat := if x.tail then 32 else x.parts.length
def gapN (x : Pat) (ys : List Pat) : Option Nat := (List.range' x.parts.length (mostP x + 1 - x.parts.length)).find? fun m => ys.all fun y => !atB y x m
theorem gap_none {x : Pat} {ys : List Pat} (hx : PatFit x) (h : gapN x ys = none) (a : Adr) (ha : a.path.length ≤ 32) (hm : matchP x a = true) : ∃ y ∈ ys, matchP y a = true := by
  have h0 := hm
  rw [matchP_iff] at hm
  obtain ⟨e1, e2, e3⟩ := hm
  have hxl := matchesL_len _ _ e2
  unfold gapN at h
  rw [List.find?_eq_none] at h
  have hmem : a.path.length ∈ List.range' x.parts.length (mostP x + 1 - x.parts.length) := by
    rw [List.mem_range'_1]
    unfold mostP
    rcases e3 with e3 | e3
    · rw [e3, if_pos rfl]; omega
    · split <;> omega
  have h1 := h _ hmem
  rw [List.all_eq_true] at h1
  simp only [Classical.not_forall] at h1
  obtain ⟨y, hy, h2⟩ := h1
  refine ⟨y, hy, at_sound hx (m := a.path.length) ?_ a h0 rfl⟩
  simpa using h2
theorem gap_some {x : Pat} {ys : List Pat} {m : Nat} (h : gapN x ys = some m) : x.parts.length ≤ m ∧ m ≤ mostP x ∧ ∀ y ∈ ys, atB y x m = false := by
  unfold gapN at h
  have h1 := List.mem_of_find?_eq_some h
  have h2 := List.find?_some h
  rw [List.mem_range'_1] at h1
  rw [List.all_eq_true] at h2
  exact ⟨h1.1, by omega, fun y hy => by simpa using h2 y hy⟩
end Go.Proofs.YtjhlpkhfdghngaaGreatDoor
