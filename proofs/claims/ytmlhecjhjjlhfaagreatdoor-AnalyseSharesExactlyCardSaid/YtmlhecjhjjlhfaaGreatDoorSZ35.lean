/- Words that no pattern has as a part: analyse.unnamed, and the function that it returns. -/
import Derived.Test.YtmlhecjhjjlhfaaGreatDoorSZ33
import Derived.Test.YtmlhecjhjjlhfaaGreatDoorSZ32
import Derived.Test.YtmlhecjhjjlhfaaGreatDoorSZ18
import Derived.Test.YtmlhecjhjjlhfaaGreatDoorSZ13
import Derived.Test.YtmlhecjhjjlhfaaGreatDoorProg
import Derived.WalkKit
import Derived.WalkSpells
import Derived.WalkLawsBesides
import Derived.Below
import Derived.Deep.QuietTactic
import Derived.BigQuiet
import Derived.Lib.QuietBelow
import Derived.Lib.Strings
import Derived.Lib.Hide
import Derived.Deep.RegionWith
import Derived.Deep.RegionHeld3
import Derived.Lib.IndexBytes
import Derived.Test.YtmlhecjhjjlhfaaGreatDoorSZ15
import Derived.Test.YtmlhecjhjjlhfaaGreatDoorSZ30
import Derived.Test.YtmlhecjhjjlhfaaGreatDoorSZ28
import Derived.Test.YtmlhecjhjjlhfaaGreatDoorSZ34
import Derived.Test.YtmlhecjhjjlhfaaGreatDoorSZ6
import Derived.Test.YtmlhecjhjjlhfaaGreatDoorSZ2
import Derived.Test.YtmlhecjhjjlhfaaGreatDoorSZ19
import Derived.Test.YtmlhecjhjjlhfaaGreatDoorSZ10
import Derived.Test.YtmlhecjhjjlhfaaGreatDoorSZ7
import Derived.Laws.OwnMore
import Derived.Deep.DeepCutAuto
namespace Go.Proofs.YtmlhecjhjjlhfaaGreatDoor
open Go.RowKit Go.Sort
set_option linter.unusedVariables false
set_option linter.unusedSimpArgs false
set_option maxRecDepth 100000
open Go.Maps
def nextF (named : List ByteArray) : Nat → Nat → Nat
  | 0, k => k
  | f + 1, k => if hasN named (wN k) = true then nextF named f (k + 1) else k
def nextN (named : List ByteArray) (k : Nat) : Nat := nextF named (2 * named.length + 1) k
theorem hasN_iff (l : List ByteArray) (s : ByteArray) : hasN l s = true ↔ s ∈ l := by
  unfold hasN
  rw [List.any_eq_true]
  constructor
  · rintro ⟨t, ht, h⟩
    rw [decide_eq_true_eq] at h
    rwa [bytes_ext h]
  · intro h
    exact ⟨s, h, decide_eq_true rfl⟩
theorem nextF_ge (named : List ByteArray) : ∀ f k : Nat, k ≤ nextF named f k
  | 0, k => Nat.le_refl _
  | f + 1, k => by
    unfold nextF
    split
    · exact Nat.le_trans (Nat.le_succ k) (nextF_ge named f (k + 1))
    · exact Nat.le_refl _
theorem nextF_pass (named : List ByteArray) : ∀ f k j : Nat, k ≤ j → j < nextF named f k → hasN named (wN j) = true
  | 0, k, j, h1, h2 => by unfold nextF at h2; omega
  | f + 1, k, j, h1, h2 => by
    unfold nextF at h2
    split at h2
    · rename_i h
      rcases Nat.eq_or_lt_of_le h1 with rfl | h3
      · exact h
      · exact nextF_pass named f (k + 1) j h3 h2
    · omega
theorem nextF_stop (named : List ByteArray) : ∀ f k : Nat, nextF named f k < k + f → hasN named (wN (nextF named f k)) = false
  | 0, k, h => by unfold nextF at h; omega
  | f + 1, k, h => by
    unfold nextF at h ⊢
    split
    · rename_i h2
      rw [if_pos h2] at h
      exact nextF_stop named f (k + 1) (by omega)
    · rename_i h2
      simpa using h2
theorem next_le (named : List ByteArray) (k : Nat) : nextN named k ≤ k + 2 * named.length := by
  have h := few_passed named ⟨#[]⟩ k (nextN named k) (fun j h1 h2 => .inl ((hasN_iff _ _).1 (nextF_pass named _ k j h1 h2)))
  have := nextF_ge named (2 * named.length + 1) k
  unfold nextN at h ⊢
  omega
theorem next_ge (named : List ByteArray) (k : Nat) : k ≤ nextN named k := nextF_ge _ _ _
theorem next_stop (named : List ByteArray) (k : Nat) : hasN named (wN (nextN named k)) = false := by
  have h := next_le named k
  exact nextF_stop named _ k (by unfold nextN at h; omega)
theorem next_pass {named : List ByteArray} {k j : Nat} (h1 : k ≤ j) (h2 : j < nextN named k) : hasN named (wN j) = true := nextF_pass named _ k j h1 h2
theorem next_unique {named : List ByteArray} {k j : Nat} (h1 : k ≤ j) (hp : ∀ i, k ≤ i → i < j → hasN named (wN i) = true) (hs : hasN named (wN j) = false) : nextN named k = j := by
  rcases Nat.lt_trichotomy (nextN named k) j with h | h | h
  · have h2 := hp _ (next_ge named k) h
    rw [next_stop] at h2
    cases h2
  · exact h
  · have h2 := next_pass h1 h
    rw [hs] at h2
    cases h2
theorem wN_sum (j : Nat) : (⟨#[119]⟩ : ByteArray) ++ itoaB (j : Int) = wN j := by
  refine bytes_ext ?_
  rw [append_data, itoa_dec (j : Int) (by omega), wN_data]
  rfl
theorem namedL_num (B : Nat) : ∀ bs : List ByteArray, (∀ b ∈ bs, b.size ≤ B) → (namedL bs).length ≤ bs.length * (B + 1)
  | [], _ => by simp [namedL]
  | b :: bs, h => by
    have ih := namedL_num B bs (fun x hx => h x (by simp [hx]))
    have h1 := splitB_num 47 b
    have h2 := h b (by simp)
    unfold namedL at ih ⊢
    rw [List.flatMap_cons, List.length_append, List.length_cons, Nat.succ_mul]
    omega
structure WordSt (gb gm gn N : Nat) (named : List ByteArray) (k : Nat) (w : World) : Prop where
  b : Blk w gb 146 #[.map (some gm)] (0, 0)
  m : w.ownsMap Tryz.prog 9 (plainElem (H := Unit) Tryz.prog 4) gm N (seenD named)
  n : Blk w gn 3 #[.int .i64 k] (0, 0)
  d1 : gb ≠ gn
  d2 : gm ≠ gn
theorem WordSt.keep {gb gm gn N k : Nat} {named : List ByteArray} {w w' : World} (h : WordSt gb gm gn N named k w) (hb : Below w.heap.size w w') : WordSt gb gm gn N named k w' :=
  ⟨h.b.keep hb, ownsMap_keep h.m hb h.m.lt, h.n.keep hb, h.d1, h.d2⟩
theorem WordSt.next {gb gm gn N k : Nat} {named : List ByteArray} {w : World} (h : WordSt gb gm gn N named k w) (j : Nat) : WordSt gb gm gn N named j (w.setCell ⟨gn, 0, none⟩ (.int .i64 j)) :=
  ⟨(But.set w gn 0 _).blk h.b h.d1, h.m.setCell (a := ⟨gn, 0, none⟩) h.d2 _, Blk.set_ h.n 0 _, h.d1, h.d2⟩
theorem WordSt.but {gb gm gn N k g : Nat} {named : List ByteArray} {w w' : World} (h : WordSt gb gm gn N named k w) (hb : But g w w') (h1 : g ≠ gb) (h2 : g ≠ gm) (h3 : g ≠ gn) : WordSt gb gm gn N named k w' := by
  refine ⟨hb.blk h.b h1.symm, ?_, hb.blk h.n h3.symm, h.d1, h.d2⟩
  obtain ⟨es, clock, e1, e2⟩ := h.m
  exact ⟨es, clock, (hb.block gm h.m.lt h2.symm).trans e1, e2⟩
def ctrN (gn : Nat) (w : World) : Nat := match w.cell? ⟨gn, 0, none⟩ with
  | some v => (intOf v).toNat
  | none => 0
theorem WordSt.ctr {gb gm gn N k : Nat} {named : List ByteArray} {w : World} (h : WordSt gb gm gn N named k w) : ctrN gn w = k := by
  unfold ctrN
  rw [h.n.cell 0]
  show (intOf (.int .i64 (k : Int))).toNat = k
  simp [intOf]
set_option maxHeartbeats 4000000 in
theorem word_any (gb gm gn N k : Nat) (named : List ByteArray) (w : World) (hW : WordSt gb gm gn N named k w) (hk : k ≤ 400000) (hl : named.length ≤ 100000) (hT : ∀ W, But gn w W → Tab W) :
    Calls Tryz.prog 187 #[.pointer (some ⟨gn, 0, none⟩), .pointer (some ⟨gb, 0, none⟩)] w fun e w' => e = .returned (.string (wN (nextN named k))) ∧ WordSt gb gm gn N named (nextN named k + 1) w' ∧ But gn w w' := by
  have HT := Lib.hid hT; have HW0 := Lib.hid hW
  clear hT hW
  obtain ⟨r, hr⟩ : ∃ r, r = nextN named k := ⟨_, rfl⟩
  rw [← hr]
  have HR := Lib.hid hr
  clear hr
  go_enter Tryz.func187, Tryz.ntmps187
  go_wp2_with fail
  go_loopw [] (fun wr => ∃ j : Nat, k ≤ j ∧ j ≤ r ∧ Hid (WordSt gb gm gn N named j wr) ∧ Hid (But gn w wr)) (fun wr => r + 1 - ctrN gn wr)
  case atStart => exact ⟨k, Nat.le_refl _, by rw [HR.out]; exact next_ge _ _, HW0, Lib.hid (But.refl _ _)⟩
  case round =>
    obtain ⟨j, hkj, hjr, HS, HB⟩ := hrel
    have hr2 : r ≤ 600000 := by have := next_le named k; rw [← HR.out] at this; omega
    have hmeas := HS.out.ctr
    have cI := fun W (h : Below wr.heap.size wr W) => itoa_any (j : Int) W (by omega) (by omega) ((HT.out wr HB.out).keep h)
    have hwn := wN_sum j
    have HCI := Lib.hid cI; have HWN := Lib.hid hwn
    clear cI hwn
    have y0 : wr.cell? ⟨gn, 0, none⟩ = some (.int .i64 j) := HS.out.n.cell 0
    have hj0 : (0 : Int) ≤ (j : Int) := by omega
    have hsz : (itoaB (j : Int)).size ≤ 30 := by
      have := (dec_len j (by omega)).1
      rw [size_data, itoa_dec (j : Int) (by omega)]
      simpa using Nat.le_trans this (by omega)
    go_upto_region 2 with (go_at_call 188; refine (HCI.out _ (Below.refl _ _)).mono ?_; rintro e w2 ⟨rfl, hb2⟩)
    rw [HWN.out]
    have hS2 := HS.out.keep hb2
    have hB2 : But gn w w2 := HB.out.trans (But.of_below hb2)
    have y2 : w2.cell? ⟨gn, 0, none⟩ = some (.int .i64 j) := hS2.n.cell 0
    have z2 : w2.frozen? ⟨gn, 0, none⟩ = false := hS2.n.free0 0
    clear y0 hsz
    go_upto_region 3 with fail
    generalize hw3 : World.setCell _ _ _ = w3
    have hS3 : WordSt gb gm gn N named (j + 1) w3 := by
      rw [← hw3]
      exact hS2.next (j + 1)
    have hB3 : But gn w w3 := by
      rw [← hw3]
      exact hB2.step 0 _
    clear hw3 y2 z2 hS2 hB2 hb2
    have y3 : w3.cell? ⟨gb, 0, none⟩ = some (.map (some gm)) := hS3.b.cell 0
    have hkey : keyOf Tryz.prog 9 (.string (wN j)) = some (.string (wN j).data.toList) := WideMaps.keyOf_string_mk Tryz.underlying9 (by
      rw [size_data, wN_data]
      have := wL_len j (by omega)
      unfold maxLen; omega)
    have hat := seenD_at (wN j) named
    have HKEY := Lib.hid hkey; have HSE := Lib.hid hat; have HS3 := Lib.hid hS3; have HB3 := Lib.hid hB3
    clear hkey hat hS3 hB3
    have hc3 := HS3.out.ctr
    cases hh : hasN named (wN j)
    · have er : r = j := by rw [HR.out]; exact next_unique hkj (fun i h1 h2 => next_pass h1 (by rw [← HR.out]; omega)) hh
      rw [hh] at HSE
      subst er
      clear hh hmeas hc3
      go_wp2_with (at_lookup; refine wpList_lookup_own_bool _ rfl _ _ 146 rfl 9 4 keyLaw Tryz.underlying146 Tryz.underlying4 (zeroB _) gm N _ rfl HS3.out.m _ _ rfl HKEY.out _ HSE.out ?_)
      go_ret
      exact ⟨rfl, HS3.out, HB3.out⟩
    · rw [hh] at HSE
      have hjr2 : j < r := by
        rcases Nat.eq_or_lt_of_le hjr with e | e
        · exfalso
          have h2 := next_stop named k
          rw [← HR.out, ← e, hh] at h2
          cases h2
        · exact e
      clear hh
      go_wp2_with (at_lookup; refine wpList_lookup_own_bool _ rfl _ _ 146 rfl 9 4 keyLaw Tryz.underlying146 Tryz.underlying4 (zeroB _) gm N _ rfl HS3.out.m _ _ rfl HKEY.out _ HSE.out ?_)
      exact ⟨⟨j + 1, by omega, by omega, HS3, HB3⟩, by omega⟩
end Go.Proofs.YtmlhecjhjjlhfaaGreatDoor
namespace Go.Proofs.YtmlhecjhjjlhfaaGreatDoor
open Go.RowKit Go.Sort
set_option linter.unusedVariables false
set_option linter.unusedSimpArgs false
set_option maxRecDepth 100000
theorem find_from {f : Nat → Bool} : ∀ (n a k : Nat), k < n → (∀ j, j < k → f (a + j) = false) → f (a + k) = true → (List.range' a n).find? f = some (a + k)
  | 0, _, _, h, _, _ => by omega
  | n + 1, a, 0, _, _, h => by
    rw [List.range'_succ, List.find?_cons, show f a = true from h]; rfl
  | n + 1, a, k + 1, hk, h0, h => by
    have h1 : f a = false := h0 0 (by omega)
    have ih := find_from (f := f) n (a + 1) k (by omega) (fun j hj => by have := h0 (j + 1) (by omega); rwa [show a + (j + 1) = a + 1 + j by omega] at this) (by rwa [show a + (k + 1) = a + 1 + k by omega] at h)
    rw [List.range'_succ, List.find?_cons, h1]
    dsimp only
    rw [ih, show a + 1 + k = a + (k + 1) by omega]
theorem find_not {f : Nat → Bool} (n a : Nat) (h : ∀ j, j < n → f (a + j) = false) : (List.range' a n).find? f = none := by
  rw [List.find?_eq_none]
  intro y hy
  rw [List.mem_range'_1] at hy
  have := h (y - a) (by omega)
  rw [show a + (y - a) = y by omega] at this
  rw [this]; decide
theorem ex_match {bs : List ByteArray} {ys : List Pat} {x : Pat} {m : Nat} {c : ByteArray} {ws : List ByteArray} (hb : bs.map compileB = ys.map some) (hx : PatFit x) (hm : x.parts.length ≤ m) (h32 : m ≤ 32) (he : Exam (partsOf ys) x m c ws) :
    (bs.any fun q => matchB q (joinS (c :: ws))) = ys.any fun y => atB y x m := by
  have hl : ws.length ≤ 32 := by rw [he.len]; exact h32
  rw [Bool.eq_iff_iff, List.any_eq_true, List.any_eq_true]
  constructor
  · rintro ⟨q, hq, h⟩
    obtain ⟨y, hy, e⟩ := back_of hb hq
    refine ⟨y, hy, ?_⟩
    rw [match_join e he.name he.words hl, exam_at hx (compile_fit e) (fun q hq => List.mem_flatMap.2 ⟨y, hy, hq⟩) hm he] at h
    exact h
  · rintro ⟨y, hy, h⟩
    obtain ⟨q, hq, e⟩ := fore_of hb hy
    refine ⟨q, hq, ?_⟩
    rw [match_join e he.name he.words hl, exam_at hx (compile_fit e) (fun q hq => List.mem_flatMap.2 ⟨y, hy, hq⟩) hm he]
    exact h
theorem not_any {ys : List Pat} {x : Pat} {m : Nat} : (ys.all fun y => !atB y x m) = !(ys.any fun y => atB y x m) := by
  rw [Bool.eq_iff_iff]
  simp [List.all_eq_true]
def Missed (x : Pat) (ys : List Pat) (k : Nat) : Prop := ∀ j, j < k → (ys.any fun y => atB y x (x.parts.length + j)) = true
theorem Missed.zero (x : Pat) (ys : List Pat) : Missed x ys 0 := fun j hj => absurd hj (Nat.not_lt_zero j)
theorem Missed.succ {x : Pat} {ys : List Pat} {k : Nat} (h : Missed x ys k) (h2 : (ys.any fun y => atB y x (x.parts.length + k)) = true) : Missed x ys (k + 1) := by
  intro j hj
  rcases Nat.lt_or_ge j k with hl | hl
  · exact h j hl
  · obtain rfl : j = k := by omega
    exact h2
theorem gap_hit {p : ByteArray} {bs : List ByteArray} {x : Pat} {ys : List Pat} {k : Nat} {c : ByteArray} {ws : List ByteArray} (hp : compileB p = some x) (hb : bs.map compileB = ys.map some) (hk : x.parts.length + k ≤ mostP x) (h0 : Missed x ys k)
    (h : (bs.any fun q => matchB q (joinS (c :: ws))) = false) (he : Exam (partsOf ys) x (x.parts.length + k) c ws) : GapPost p bs (joinS (c :: ws)) true := by
  have hx := compile_fit hp
  have hm := most_le hx
  refine ⟨x, ys, hp, hb, .inr ⟨x.parts.length + k, c, ws, ?_, rfl, rfl, he⟩⟩
  unfold gapN
  refine find_from _ _ _ (by omega) (fun j hj => ?_) ?_
  · rw [not_any, h0 j hj]; rfl
  · rw [ex_match hb hx (by omega) (by omega) he] at h
    rw [not_any, h]; rfl
theorem gap_miss {p : ByteArray} {bs : List ByteArray} {x : Pat} {ys : List Pat} (hp : compileB p = some x) (hb : bs.map compileB = ys.map some) (h0 : Missed x ys (mostP x + 1 - x.parts.length)) : GapPost p bs ⟨#[]⟩ false := by
  refine ⟨x, ys, hp, hb, .inl ⟨?_, rfl, rfl⟩⟩
  unfold gapN
  refine find_not _ _ (fun j hj => ?_)
  rw [not_any, h0 j hj]; rfl
def MadeAt (named : List ByteArray) (p : Part) (w : ByteArray) : Prop := (p.kind = 0 ∧ w = p.text) ∨ (p.kind ≠ 0 ∧ ∃ j, j ≤ 1000000 ∧ w = wE j p.text ∧ w ∉ named)
theorem MadeAt.fresh {named : List ByteArray} {qs : List Part} {p : Part} {w : ByteArray} (hq : ∀ q ∈ qs, q.kind = 0 → q.text ∈ named) (h : MadeAt named p w) : FreshAt qs p w := by
  rcases h with h | ⟨hk, j, _, rfl, hn⟩
  · exact .inl h
  · exact fresh_found hq hk hn
theorem MadeAt.word {named : List ByteArray} {p : Part} {w : ByteArray} (hp : PartFit p) (h : MadeAt named p w) : isWordB w = true := by
  rcases h with ⟨hk, rfl⟩ | ⟨hk, j, hj, rfl, _⟩
  · rcases hp with ⟨_, h⟩ | ⟨h, _⟩ | ⟨h, _⟩
    · exact h
    · omega
    · omega
  · exact wE_word hp hk j hj
theorem wE_nil (j : Nat) : wE j ⟨#[]⟩ = wN j := by
  refine bytes_ext ?_
  rw [wE_data, wN_data]
  simp
theorem MadeAt.name {named : List ByteArray} {p : Part} {w : ByteArray} (hp : CustFit p) (h : MadeAt named p w) : isNameB w = true := by
  rcases h with ⟨hk, rfl⟩ | ⟨hk, j, hj, rfl, _⟩
  · rcases hp with ⟨_, h⟩ | ⟨h, _⟩
    · exact h
    · omega
  · rcases hp with ⟨h, _⟩ | ⟨_, h⟩
    · omega
    · rw [h, wE_nil]; exact wN_name j hj
structure Made (named : List ByteArray) (ps : List Part) (ws : List ByteArray) : Prop where
  len : ws.length = ps.length
  each : ∀ (k : Nat) (p : Part) (w : ByteArray), ps[k]? = some p → ws[k]? = some w → MadeAt named p w
theorem Made.nil (named : List ByteArray) : Made named [] [] := ⟨rfl, fun k p w h => by simp at h⟩
theorem Made.snoc {named : List ByteArray} {ps : List Part} {ws : List ByteArray} {p : Part} {w : ByteArray} (h : Made named ps ws) (hw : MadeAt named p w) : Made named (ps ++ [p]) (ws ++ [w]) := by
  refine ⟨by simp [h.len], fun k q v hq hv => ?_⟩
  rcases Nat.lt_or_ge k ps.length with hl | hl
  · rw [List.getElem?_append_left hl] at hq
    rw [List.getElem?_append_left (by rw [h.len]; exact hl)] at hv
    exact h.each k q v hq hv
  · rw [List.getElem?_append_right hl] at hq
    rw [List.getElem?_append_right (by rw [h.len]; exact hl), h.len] at hv
    have hk : k - ps.length = 0 := by
      have := (List.getElem?_eq_some_iff.1 hq).1
      simp at this; omega
    rw [hk] at hq hv
    simp at hq hv
    subst hq; subst hv
    exact hw
theorem exam_of {named : List ByteArray} {qs : List Part} {x : Pat} {m : Nat} {c : ByteArray} {ws : List ByteArray} (hq : ∀ q ∈ qs, q.kind = 0 → q.text ∈ named) (hx : PatFit x) (hm : x.parts.length ≤ m) (hc : MadeAt named x.cust c) (hw : Made named (partsM x m) ws) : Exam qs x m c ws := by
  have hl := hw.len
  rw [partsM_len x m hm] at hl
  refine ⟨hc.name hx.cust, hc.fresh hq, fun w hww => ?_, hl, fun k p w h1 h2 => (hw.each k p w h1 h2).fresh hq⟩
  obtain ⟨k, hk⟩ := List.mem_iff_getElem?.1 hww
  have hk2 := (List.getElem?_eq_some_iff.1 hk).1
  have h3 : (partsM x m)[k]? = some ((partsM x m)[k]'(by rw [partsM_len x m hm]; omega)) := List.getElem?_eq_getElem _
  exact (hw.each k _ w h3 hk).word (partsM_fit hx m _ (List.getElem_mem _))
end Go.Proofs.YtmlhecjhjjlhfaaGreatDoor
namespace Go.Proofs.YtmlhecjhjjlhfaaGreatDoor
open Go.RowKit Go.Sort
set_option linter.unusedVariables false
set_option linter.unusedSimpArgs false
set_option maxRecDepth 100000
def fewVy (v : VaryV) : Bool := decide (v.header.size ≤ 200) && decide (v.dflt.size ≤ 200) && decide (v.values.length ≤ 10) && v.values.all (fun x => decide (x.size ≤ 200))
def fewCR (c : CondV) : Bool := fewC c.cl.length c.co.length c.si.length c.pat c.cl c.co
def fewR (r : RuleV) : Bool := decide (r.name.size ≤ 200) && decide (r.pat.size ≤ 200) && decide (r.prog.size ≤ 200) && decide (r.tags.length ≤ 10) && decide (r.vary.length ≤ 10) && fewCR r.allow && r.tags.all (fun x => decide (x.size ≤ 200)) && r.vary.all fewVy
set_option maxHeartbeats 4000000 in
theorem rFew22_head (x : RuleM) (w : World) (hR : RuleReads w x) (hbad : (decide (x.r.name.size ≤ 200) && decide (x.r.pat.size ≤ 200) && decide (x.r.prog.size ≤ 200) && decide (x.r.tags.length ≤ 10) && decide (x.r.vary.length ≤ 10) && fewCR x.r.allow) = false) :
    Calls Tryz.prog 22 #[x.val] w (Ret w (.bool false)) := by
  have cF := fun W (hb : Below w.heap.size w W) => rFew_any x.r.allow.fr x.r.allow.till x.r.allow.us x.r.allow.pat x.m.A x.m.B x.m.S x.r.allow.cl.length x.m.ca x.r.allow.co.length x.m.cb x.r.allow.si.length x.m.cs x.r.allow.cl x.r.allow.co W (hR.allow.cl.keep hb) (hR.allow.co.keep hb)
  have hfc : fewC x.r.allow.cl.length x.r.allow.co.length x.r.allow.si.length x.r.allow.pat x.r.allow.cl x.r.allow.co = fewCR x.r.allow := rfl
  rw [hfc] at cF
  generalize fewCR x.r.allow = fc at *
  rw [RuleM.val_eq]
  have HF := Lib.hid cF
  clear cF hR hfc
  by_cases h0 : x.r.name.size ≤ 200
  rotate_left
  · have d0 : decide ((200 : Int) < (x.r.name.size : Int)) = true := decide_eq_true (by omega)
    clear hbad
    go_enter Tryz.func22, Tryz.ntmps22
    go_wp2
    go_ret
    exact ⟨rfl, belB⟩
  have d0 : decide ((200 : Int) < (x.r.name.size : Int)) = false := decide_eq_false (by omega)
  by_cases h1 : x.r.pat.size ≤ 200
  rotate_left
  · have d1 : decide ((200 : Int) < (x.r.pat.size : Int)) = true := decide_eq_true (by omega)
    clear hbad
    go_enter Tryz.func22, Tryz.ntmps22
    go_wp2
    go_ret
    exact ⟨rfl, belB⟩
  have d1 : decide ((200 : Int) < (x.r.pat.size : Int)) = false := decide_eq_false (by omega)
  by_cases h2 : x.r.prog.size ≤ 200
  rotate_left
  · have d2 : decide ((200 : Int) < (x.r.prog.size : Int)) = true := decide_eq_true (by omega)
    clear hbad
    go_enter Tryz.func22, Tryz.ntmps22
    go_wp2
    go_ret
    exact ⟨rfl, belB⟩
  have d2 : decide ((200 : Int) < (x.r.prog.size : Int)) = false := decide_eq_false (by omega)
  by_cases h3 : x.r.tags.length ≤ 10
  rotate_left
  · have d3 : decide ((10 : Int) < (x.r.tags.length : Int)) = true := decide_eq_true (by omega)
    clear hbad
    go_enter Tryz.func22, Tryz.ntmps22
    go_wp2
    go_ret
    exact ⟨rfl, belB⟩
  have d3 : decide ((10 : Int) < (x.r.tags.length : Int)) = false := decide_eq_false (by omega)
  by_cases h4 : x.r.vary.length ≤ 10
  rotate_left
  · have d4 : decide ((10 : Int) < (x.r.vary.length : Int)) = true := decide_eq_true (by omega)
    clear hbad
    go_enter Tryz.func22, Tryz.ntmps22
    go_wp2
    go_ret
    exact ⟨rfl, belB⟩
  have d4 : decide ((10 : Int) < (x.r.vary.length : Int)) = false := decide_eq_false (by omega)
  obtain rfl : fc = false := by simpa [h0, h1, h2, h3, h4] using hbad
  clear hbad
  go_enter Tryz.func22, Tryz.ntmps22
  go_wp2_with (go_at_call 51; refine (HF.out _ belB).mono ?_; rintro e w2 ⟨rfl, hb2⟩)
  go_ret
  exact ⟨rfl, belB⟩
end Go.Proofs.YtmlhecjhjjlhfaaGreatDoor
namespace Go.Proofs.YtmlhecjhjjlhfaaGreatDoor
open Go.RowKit Go.Sort
set_option linter.unusedVariables false
set_option linter.unusedSimpArgs false
set_option maxRecDepth 100000
theorem VBox.facts {w : World} {g : Nat} {c : CondV} {m : CondMem} (h : VBox w g c m) :
    w.cell? ⟨g, 0, none⟩ = some (.int .i64 c.fr) ∧ w.cell? ⟨g, 1, none⟩ = some (.int .i64 c.till) ∧ w.cell? ⟨g, 2, none⟩ = some (.string c.pat) ∧ w.cell? ⟨g, 3, none⟩ = some (.slice m.A c.cl.length m.ca) ∧ w.cell? ⟨g, 4, none⟩ = some (.slice m.B c.co.length m.cb) ∧ w.cell? ⟨g, 5, none⟩ = some (.slice m.S c.si.length m.cs) ∧ w.cell? ⟨g, 6, none⟩ = some (.int .i64 c.us) := CBox.facts h
theorem VBox.keep {w w' : World} {g : Nat} {c : CondV} {m : CondMem} (h : VBox w g c m) (hb : Below w.heap.size w w') : VBox w' g c m := Blk.keep h hb
def YBox (w : World) (g : Nat) (q : AskV) : Prop := ABox w g q.addr q.client q.country q.site q.lo q.hi
theorem YBox.facts {w : World} {g : Nat} {q : AskV} (h : YBox w g q) :
    w.cell? ⟨g, 0, none⟩ = some (.string q.addr) ∧ w.cell? ⟨g, 1, none⟩ = some (.string q.client) ∧ w.cell? ⟨g, 2, none⟩ = some (.string q.country) ∧ w.cell? ⟨g, 3, none⟩ = some (.int .i64 q.site) ∧ w.cell? ⟨g, 4, none⟩ = some (.int .i64 q.lo) ∧ w.cell? ⟨g, 5, none⟩ = some (.int .i64 q.hi) := ABox.facts h
theorem YBox.keep {w w' : World} {g : Nat} {q : AskV} (h : YBox w g q) (hb : Below w.heap.size w w') : YBox w' g q := Blk.keep h hb
end Go.Proofs.YtmlhecjhjjlhfaaGreatDoor
namespace Go.Proofs.YtmlhecjhjjlhfaaGreatDoor
open Go.RowKit Go.Sort
set_option linter.unusedVariables false
set_option linter.unusedSimpArgs false
set_option maxRecDepth 100000
def KB (w : World) (g : Nat) (b : Bool) (e : Int) : Prop := Blk w g 105 #[.bool b, .int .i64 e] (0, 0)
theorem KB.facts {w : World} {g : Nat} {b : Bool} {e : Int} (h : KB w g b e) : w.cell? ⟨g, 0, none⟩ = some (.bool b) ∧ w.cell? ⟨g, 1, none⟩ = some (.int .i64 e) := ⟨Blk.cell h 0, Blk.cell h 1⟩
theorem KB.keep {w w' : World} {g : Nat} {b : Bool} {e : Int} (h : KB w g b e) (hb : Below w.heap.size w w') : KB w' g b e := Blk.keep h hb
end Go.Proofs.YtmlhecjhjjlhfaaGreatDoor
namespace Go.Proofs.YtmlhecjhjjlhfaaGreatDoor
open Go.RowKit Go.Sort
set_option linter.unusedVariables false
set_option linter.unusedSimpArgs false
set_option maxRecDepth 100000
structure R9S (g : Nat) (X : Array Value) (w0 : World) (W : World) : Prop where
  x : Box1 W g 38 X
  b : Below w0.heap.size w0 W
theorem R9S.keep {g : Nat} {X : Array Value} {w0 W W' : World} (h : R9S g X w0 W) (hb : Below W.heap.size W W') : R9S g X w0 W' := ⟨h.x.keep hb, bstep h.b hb⟩
theorem strs_one (l : List ByteArray) : ∀ u ∈ l.map Value.string, u.oneCell' = true := by
  intro u hu
  obtain ⟨s, _, rfl⟩ := List.mem_map.1 hu
  rfl
structure R13S (g : Nat) (Y : Array Value) (w0 : World) (W : World) : Prop where
  x : Box1 W g 83 Y
  b : Below w0.heap.size w0 W
theorem R13S.keep {g : Nat} {Y : Array Value} {w0 W W' : World} (h : R13S g Y w0 W) (hb : Below W.heap.size W W') : R13S g Y w0 W' := ⟨h.x.keep hb, bstep h.b hb⟩
end Go.Proofs.YtmlhecjhjjlhfaaGreatDoor
