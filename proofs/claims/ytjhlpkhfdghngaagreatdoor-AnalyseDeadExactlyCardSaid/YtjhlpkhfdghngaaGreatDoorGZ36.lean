/- Whether a policy is right: policy.Check. -/
import Derived.Test.YtjhlpkhfdghngaaGreatDoorGZ33
import Derived.Test.YtjhlpkhfdghngaaGreatDoorGZ1
import Derived.Laws.Rows
import Derived.Laws.Tables
import Derived.Laws.CopyOwn
import Derived.Test.YtjhlpkhfdghngaaGreatDoorProg
import Derived.WalkKit
import Derived.WalkSpells
import Derived.WalkLawsBesides
import Derived.Below
import Derived.Deep.QuietTactic
import Derived.BigQuiet
import Derived.Lib.QuietBelow
import Derived.Lib.Strings
import Derived.Lib.Hide
import Derived.Deep.RegionWith
import Derived.Deep.RegionHeld3
import Derived.Lib.IndexBytes
import Derived.Test.YtjhlpkhfdghngaaGreatDoorGZ4
import Derived.OwnWalk
import Derived.Maps.AppendAt
import Derived.Test.YtjhlpkhfdghngaaGreatDoorGZ17
import Derived.Test.YtjhlpkhfdghngaaGreatDoorGZ32
import Derived.Test.YtjhlpkhfdghngaaGreatDoorGZ18
import Derived.Test.YtjhlpkhfdghngaaGreatDoorGZ24
import Derived.Test.YtjhlpkhfdghngaaGreatDoorGZ16
import Derived.Test.YtjhlpkhfdghngaaGreatDoorGZ25
import Derived.Test.YtjhlpkhfdghngaaGreatDoorGZ31
import Derived.Test.YtjhlpkhfdghngaaGreatDoorGZ14
import Derived.Test.YtjhlpkhfdghngaaGreatDoorGZ19
import Derived.Test.YtjhlpkhfdghngaaGreatDoorGZ7
import Derived.Test.YtjhlpkhfdghngaaGreatDoorGZ8
import Derived.Test.YtjhlpkhfdghngaaGreatDoorGZ26
import Derived.Test.YtjhlpkhfdghngaaGreatDoorGZ30
import Derived.Test.YtjhlpkhfdghngaaGreatDoorGZ34
import Derived.Test.YtjhlpkhfdghngaaGreatDoorGZ11
import Derived.Deep.DeepCutAuto
import Derived.Test.YtjhlpkhfdghngaaGreatDoorGZ9
import Derived.Maps.Views
import Derived.Maps.Own
import Derived.StringKeys
namespace Go.Proofs.YtjhlpkhfdghngaaGreatDoor
open Go.RowKit Go.Sort
set_option linter.unusedVariables false
set_option linter.unusedSimpArgs false
set_option maxRecDepth 100000
open Go.Maps
def hasN (l : List ByteArray) (s : ByteArray) : Bool := l.any fun t => decide (s.data.toList = t.data.toList)
def seenD : List ByteArray → DataW Unit
  | [] => .map []
  | s :: l => (seenD l).put (.string s.data.toList) (.lit (.bool true))
theorem seenD_map : ∀ l, IsMap (seenD l)
  | [] => isMap_empty
  | s :: l => by
    obtain ⟨es, e⟩ := seenD_map l
    unfold seenD
    rw [e]
    exact ⟨_, rfl⟩
theorem seenD_at (s : ByteArray) : ∀ l, (seenD l).atKey (.string s.data.toList) (.lit (.bool false)) = .lit (.bool (hasN l s))
  | [] => rfl
  | t :: l => by
    unfold seenD hasN
    rw [List.any_cons]
    by_cases h : s.data.toList = t.data.toList
    · rw [h, atKey_put_same (k := .string t.data.toList) (seenD_map l) (show WideAt.IsKeyLit (.string t.data.toList) from trivial), decide_eq_true rfl, Bool.true_or]
    · rw [atKey_put_other (fun e => h (by injection e)), seenD_at s l, decide_eq_false h, Bool.false_or]
      rfl
theorem plainElem_bool_inv {H : Type} {P : Program} {e : TypeId} (he : P.underlying e = some .bool) {v : Value} {c : Bool} {ps : List MemPlace} (h : plainElem (H := H) P e v = some (.lit (.bool c), ps)) : v = .bool c := by
  unfold plainElem at h
  rw [he] at h
  cases v <;> simp at h
  rw [h.1]
theorem ownsMap_keep {H : Type} {w w' : World} {P : Program} {k : TypeId} {R : Value → Option (DataW H × List MemPlace)} {b n B : Nat} {D : DataW H} (h : w.ownsMap P k R b n D) (hb : Below B w w') (hlt : b < B) : w'.ownsMap P k R b n D := by
  obtain ⟨es, clock, h1, h2⟩ := h
  exact ⟨es, clock, (hb.block b hlt).trans h1, h2⟩
theorem wpList_lookup_own_bool {H : Type} {P : Program} (w : World) {ops : Array Oper} {rest : List Oper} {o : Oper} {a : Act} {Q : Exit → Act → World → Prop}
    (hg : o.guard = none) (m x : Operand) (t : TypeId) (hop : o.op = Op.lookup t m x false)
    (k e : TypeId) (K : Keyed P k) (ht : P.underlying t = some (.map k e)) (he : P.underlying e = some .bool) (hz : (zeroValue e).run P w = .ok (.bool false) w) (b n : Nat) (D : DataW H)
    (hm : a.eval m = .map (some b)) (hown : w.ownsMap P k (plainElem P e) b n D) (key : Value) (kl : Lit) (hx : a.eval x = key) (hkey : keyOf P k key = some kl)
    (c : Bool) (hc : D.atKey kl (.lit (.bool false)) = .lit (.bool c))
    (hK : wpList P ops Q rest (a.put o.dst (.bool c)) w) :
    wpList P ops Q (o :: rest) a w := by
  refine wpList_plain hg fun K' hK' => ?_
  obtain ⟨v, ps, hrun, hat⟩ := hown.lookup K ht hz (plainElem_bool he false) hkey
  rw [hc] at hat
  obtain rfl := plainElem_bool_inv he hat
  unfold Oper.wp
  simp [execOp, hop, hm, hx, hrun, Result.andThen]
  exact hK' _ _ hK
theorem zeroB (w : World) : (zeroValue 4).run Tryz.prog w = .ok (.bool false) w := by kernel_rfl
end Go.Proofs.YtjhlpkhfdghngaaGreatDoor
namespace Go.Proofs.YtjhlpkhfdghngaaGreatDoor
open Go.RowKit Go.Sort
set_option linter.unusedVariables false
set_option linter.unusedSimpArgs false
set_option maxRecDepth 100000
theorem partOf_zero {w : ByteArray} (h : (partOfP w).kind = 0) : (partOfP w).text = w := by
  unfold partOfP at h ⊢
  split at h
  · rename_i h1; rw [if_pos h1]
  · rename_i h1
    split at h
    · rename_i h2; rw [if_neg h1, if_pos h2]
    · split at h <;> simp at h
theorem cmpL_mem : ∀ (l : List ByteArray) (acc : List Part) (r : List Part × Bool), cmpL l acc = some r → ∀ p ∈ r.1, p ∈ acc ∨ ∃ w ∈ l, p = partOfP w
  | [], acc, r, h, p, hp => by
    rw [cmpL] at h
    injection h with h
    subst h
    exact .inl hp
  | w :: l, acc, r, h, p, hp => by
    rw [cmpL] at h
    split at h
    · injection h with h
      subst h
      exact .inl hp
    · split at h
      · rcases cmpL_mem l _ r h p hp with h1 | ⟨z, hz, e⟩
        · rcases List.mem_append.1 h1 with h1 | h1
          · exact .inl h1
          · exact .inr ⟨w, by simp, by simpa using h1⟩
        · exact .inr ⟨z, by simp [hz], e⟩
      · cases h
theorem named_of {q : ByteArray} {y : Pat} (h : compileB q = some y) : ∀ p ∈ y.cust :: y.parts, p.kind = 0 → p.text ∈ splitB 47 q := by
  unfold compileB compL at h
  split at h
  · cases h
  · rename_i l0 r he
    rw [he]
    split at h
    · cases hc : cmpL r [] with
      | none => rw [hc] at h; cases h
      | some z =>
        rw [hc] at h
        simp only [Option.map_some, Option.some.injEq] at h
        subst h
        intro p hp hk
        rcases List.mem_cons.1 hp with rfl | hp
        · rw [partOf_zero hk]; simp
        · rcases cmpL_mem r [] z hc p hp with h1 | ⟨w, hw, rfl⟩
          · cases h1
          · rw [partOf_zero hk]; simp [hw]
    · cases h
def namedL (bs : List ByteArray) : List ByteArray := bs.flatMap (splitB 47)
theorem named_all {bs : List ByteArray} {ys : List Pat} (h : bs.map compileB = ys.map some) : ∀ q ∈ partsOf ys, q.kind = 0 → q.text ∈ namedL bs := by
  intro q hq hk
  obtain ⟨y, hy, hqy⟩ := List.mem_flatMap.1 hq
  have h1 : some y ∈ bs.map compileB := by rw [h]; exact List.mem_map.2 ⟨y, hy, rfl⟩
  obtain ⟨b, hb, e⟩ := List.mem_map.1 h1
  exact List.mem_flatMap.2 ⟨b, hb, named_of e q hqy hk⟩
def GapPost (p : ByteArray) (bs : List ByteArray) (s : ByteArray) (is : Bool) : Prop :=
  ∃ x ys, compileB p = some x ∧ bs.map compileB = ys.map some ∧ ((gapN x ys = none ∧ is = false ∧ s = ⟨#[]⟩) ∨ (∃ m c ws, gapN x ys = some m ∧ is = true ∧ s = joinS (c :: ws) ∧ Exam (partsOf ys) x m c ws))
theorem most_le {x : Pat} (hx : PatFit x) : mostP x ≤ 32 := by
  have := hx.num
  unfold mostP
  split <;> omega
theorem back_of {bs : List ByteArray} {ys : List Pat} (h : bs.map compileB = ys.map some) {q : ByteArray} (hq : q ∈ bs) : ∃ y ∈ ys, compileB q = some y := by
  have h1 : compileB q ∈ ys.map some := by rw [← h]; exact List.mem_map.2 ⟨q, hq, rfl⟩
  obtain ⟨y, hy, e⟩ := List.mem_map.1 h1
  exact ⟨y, hy, e.symm⟩
theorem fore_of {bs : List ByteArray} {ys : List Pat} (h : bs.map compileB = ys.map some) {y : Pat} (hy : y ∈ ys) : ∃ q ∈ bs, compileB q = some y := by
  have h1 : some y ∈ bs.map compileB := by rw [h]; exact List.mem_map.2 ⟨y, hy, rfl⟩
  exact List.mem_map.1 h1
theorem gap_found {p : ByteArray} {bs : List ByteArray} {s : ByteArray} (h : GapPost p bs s true) : matchB p s = true ∧ ∀ q ∈ bs, matchB q s = false := by
  obtain ⟨x, ys, hx, hb, h | ⟨m, c, ws, hg, _, rfl, he⟩⟩ := h
  · exact absurd h.2.1 (by decide)
  · have fx := compile_fit hx
    obtain ⟨h1, h2, h3⟩ := gap_some hg
    have hm := most_le fx
    have hl : ws.length ≤ 32 := by rw [he.len]; omega
    refine ⟨?_, fun q hq => ?_⟩
    · rw [match_join hx he.name he.words hl]
      exact exam_self fx h1 (fun h => by
        unfold mostP at h2
        split at h2
        · assumption
        · omega) he
    · obtain ⟨y, hy, e⟩ := back_of hb hq
      rw [match_join e he.name he.words hl, exam_at fx (compile_fit e) (fun q hq => List.mem_flatMap.2 ⟨y, hy, hq⟩) h1 he]
      exact h3 y hy
theorem match_read {q a : ByteArray} {y : Pat} (h : compileB q = some y) : matchB q a = (readB a && matchP y (parseB a).1) := by unfold matchB; rw [h]
theorem gap_not {p : ByteArray} {bs : List ByteArray} {s : ByteArray} (h : GapPost p bs s false) (a : ByteArray) (hm : matchB p a = true) : ∃ q ∈ bs, matchB q a = true := by
  obtain ⟨x, ys, hx, hb, ⟨hg, _, _⟩ | ⟨_, _, _, _, h, _⟩⟩ := h
  · rw [match_read hx, Bool.and_eq_true] at hm
    have hgood := parse_good a (by
      have := hm.1
      unfold readB at this
      simp only [Bool.and_eq_true] at this
      first | (simpa using this.1) | (simpa using this.2) | (simp_all))
    obtain ⟨y, hy, h2⟩ := gap_none (compile_fit hx) hg _ hgood.parts hm.2
    obtain ⟨q, hq, e⟩ := fore_of hb hy
    exact ⟨q, hq, by rw [match_read e, hm.1, h2]; rfl⟩
  · exact absurd h (by decide)
end Go.Proofs.YtjhlpkhfdghngaaGreatDoor
namespace Go.Proofs.YtjhlpkhfdghngaaGreatDoor
open Go.RowKit Go.Sort
set_option linter.unusedVariables false
set_option linter.unusedSimpArgs false
set_option maxRecDepth 100000
open Go.Maps
def nextF (named : List ByteArray) : Nat → Nat → Nat
  | 0, k => k
  | f + 1, k => if hasN named (wN k) = true then nextF named f (k + 1) else k
def nextN (named : List ByteArray) (k : Nat) : Nat := nextF named (2 * named.length + 1) k
theorem hasN_iff (l : List ByteArray) (s : ByteArray) : hasN l s = true ↔ s ∈ l := by
  unfold hasN
  rw [List.any_eq_true]
  constructor
  · rintro ⟨t, ht, h⟩
    rw [decide_eq_true_eq] at h
    rwa [bytes_ext h]
  · intro h
    exact ⟨s, h, decide_eq_true rfl⟩
theorem nextF_ge (named : List ByteArray) : ∀ f k : Nat, k ≤ nextF named f k
  | 0, k => Nat.le_refl _
  | f + 1, k => by
    unfold nextF
    split
    · exact Nat.le_trans (Nat.le_succ k) (nextF_ge named f (k + 1))
    · exact Nat.le_refl _
theorem nextF_pass (named : List ByteArray) : ∀ f k j : Nat, k ≤ j → j < nextF named f k → hasN named (wN j) = true
  | 0, k, j, h1, h2 => by unfold nextF at h2; omega
  | f + 1, k, j, h1, h2 => by
    unfold nextF at h2
    split at h2
    · rename_i h
      rcases Nat.eq_or_lt_of_le h1 with rfl | h3
      · exact h
      · exact nextF_pass named f (k + 1) j h3 h2
    · omega
theorem nextF_stop (named : List ByteArray) : ∀ f k : Nat, nextF named f k < k + f → hasN named (wN (nextF named f k)) = false
  | 0, k, h => by unfold nextF at h; omega
  | f + 1, k, h => by
    unfold nextF at h ⊢
    split
    · rename_i h2
      rw [if_pos h2] at h
      exact nextF_stop named f (k + 1) (by omega)
    · rename_i h2
      simpa using h2
theorem next_le (named : List ByteArray) (k : Nat) : nextN named k ≤ k + 2 * named.length := by
  have h := few_passed named ⟨#[]⟩ k (nextN named k) (fun j h1 h2 => .inl ((hasN_iff _ _).1 (nextF_pass named _ k j h1 h2)))
  have := nextF_ge named (2 * named.length + 1) k
  unfold nextN at h ⊢
  omega
theorem next_ge (named : List ByteArray) (k : Nat) : k ≤ nextN named k := nextF_ge _ _ _
theorem next_stop (named : List ByteArray) (k : Nat) : hasN named (wN (nextN named k)) = false := by
  have h := next_le named k
  exact nextF_stop named _ k (by unfold nextN at h; omega)
theorem next_pass {named : List ByteArray} {k j : Nat} (h1 : k ≤ j) (h2 : j < nextN named k) : hasN named (wN j) = true := nextF_pass named _ k j h1 h2
theorem next_unique {named : List ByteArray} {k j : Nat} (h1 : k ≤ j) (hp : ∀ i, k ≤ i → i < j → hasN named (wN i) = true) (hs : hasN named (wN j) = false) : nextN named k = j := by
  rcases Nat.lt_trichotomy (nextN named k) j with h | h | h
  · have h2 := hp _ (next_ge named k) h
    rw [next_stop] at h2
    cases h2
  · exact h
  · have h2 := next_pass h1 h
    rw [hs] at h2
    cases h2
theorem wN_sum (j : Nat) : (⟨#[119]⟩ : ByteArray) ++ itoaB (j : Int) = wN j := by
  refine bytes_ext ?_
  rw [append_data, itoa_dec (j : Int) (by omega), wN_data]
  rfl
theorem namedL_num (B : Nat) : ∀ bs : List ByteArray, (∀ b ∈ bs, b.size ≤ B) → (namedL bs).length ≤ bs.length * (B + 1)
  | [], _ => by simp [namedL]
  | b :: bs, h => by
    have ih := namedL_num B bs (fun x hx => h x (by simp [hx]))
    have h1 := splitB_num 47 b
    have h2 := h b (by simp)
    unfold namedL at ih ⊢
    rw [List.flatMap_cons, List.length_append, List.length_cons, Nat.succ_mul]
    omega
structure WordSt (gb gm gn N : Nat) (named : List ByteArray) (k : Nat) (w : World) : Prop where
  b : Blk w gb 91 #[.map (some gm)] (0, 0)
  m : w.ownsMap Tryz.prog 9 (plainElem (H := Unit) Tryz.prog 4) gm N (seenD named)
  n : Blk w gn 3 #[.int .i64 k] (0, 0)
  d1 : gb ≠ gn
  d2 : gm ≠ gn
theorem WordSt.keep {gb gm gn N k : Nat} {named : List ByteArray} {w w' : World} (h : WordSt gb gm gn N named k w) (hb : Below w.heap.size w w') : WordSt gb gm gn N named k w' :=
  ⟨h.b.keep hb, ownsMap_keep h.m hb h.m.lt, h.n.keep hb, h.d1, h.d2⟩
theorem WordSt.next {gb gm gn N k : Nat} {named : List ByteArray} {w : World} (h : WordSt gb gm gn N named k w) (j : Nat) : WordSt gb gm gn N named j (w.setCell ⟨gn, 0, none⟩ (.int .i64 j)) :=
  ⟨(But.set w gn 0 _).blk h.b h.d1, h.m.setCell (a := ⟨gn, 0, none⟩) h.d2 _, Blk.set_ h.n 0 _, h.d1, h.d2⟩
theorem WordSt.but {gb gm gn N k g : Nat} {named : List ByteArray} {w w' : World} (h : WordSt gb gm gn N named k w) (hb : But g w w') (h1 : g ≠ gb) (h2 : g ≠ gm) (h3 : g ≠ gn) : WordSt gb gm gn N named k w' := by
  refine ⟨hb.blk h.b h1.symm, ?_, hb.blk h.n h3.symm, h.d1, h.d2⟩
  obtain ⟨es, clock, e1, e2⟩ := h.m
  exact ⟨es, clock, (hb.block gm h.m.lt h2.symm).trans e1, e2⟩
def ctrN (gn : Nat) (w : World) : Nat := match w.cell? ⟨gn, 0, none⟩ with
  | some v => (intOf v).toNat
  | none => 0
theorem WordSt.ctr {gb gm gn N k : Nat} {named : List ByteArray} {w : World} (h : WordSt gb gm gn N named k w) : ctrN gn w = k := by
  unfold ctrN
  rw [h.n.cell 0]
  show (intOf (.int .i64 (k : Int))).toNat = k
  simp [intOf]
set_option maxHeartbeats 4000000 in
theorem word_any (gb gm gn N k : Nat) (named : List ByteArray) (w : World) (hW : WordSt gb gm gn N named k w) (hk : k ≤ 400000) (hl : named.length ≤ 100000) (hT : ∀ W, But gn w W → Tab W) :
    Calls Tryz.prog 257 #[.pointer (some ⟨gn, 0, none⟩), .pointer (some ⟨gb, 0, none⟩)] w fun e w' => e = .returned (.string (wN (nextN named k))) ∧ WordSt gb gm gn N named (nextN named k + 1) w' ∧ But gn w w' := by
  have HT := Lib.hid hT; have HW0 := Lib.hid hW
  clear hT hW
  obtain ⟨r, hr⟩ : ∃ r, r = nextN named k := ⟨_, rfl⟩
  rw [← hr]
  have HR := Lib.hid hr
  clear hr
  go_enter Tryz.func257, Tryz.ntmps257
  go_wp2_with fail
  go_loopw [] (fun wr => ∃ j : Nat, k ≤ j ∧ j ≤ r ∧ Hid (WordSt gb gm gn N named j wr) ∧ Hid (But gn w wr)) (fun wr => r + 1 - ctrN gn wr)
  case atStart => exact ⟨k, Nat.le_refl _, by rw [HR.out]; exact next_ge _ _, HW0, Lib.hid (But.refl _ _)⟩
  case round =>
    obtain ⟨j, hkj, hjr, HS, HB⟩ := hrel
    have hr2 : r ≤ 600000 := by have := next_le named k; rw [← HR.out] at this; omega
    have hmeas := HS.out.ctr
    have cI := fun W (h : Below wr.heap.size wr W) => itoa_any (j : Int) W (by omega) (by omega) ((HT.out wr HB.out).keep h)
    have hwn := wN_sum j
    have HCI := Lib.hid cI; have HWN := Lib.hid hwn
    clear cI hwn
    have y0 : wr.cell? ⟨gn, 0, none⟩ = some (.int .i64 j) := HS.out.n.cell 0
    have hj0 : (0 : Int) ≤ (j : Int) := by omega
    have hsz : (itoaB (j : Int)).size ≤ 30 := by
      have := (dec_len j (by omega)).1
      rw [size_data, itoa_dec (j : Int) (by omega)]
      simpa using Nat.le_trans this (by omega)
    go_upto_region 2 with (go_at_call 60; refine (HCI.out _ (Below.refl _ _)).mono ?_; rintro e w2 ⟨rfl, hb2⟩)
    rw [HWN.out]
    have hS2 := HS.out.keep hb2
    have hB2 : But gn w w2 := HB.out.trans (But.of_below hb2)
    have y2 : w2.cell? ⟨gn, 0, none⟩ = some (.int .i64 j) := hS2.n.cell 0
    have z2 : w2.frozen? ⟨gn, 0, none⟩ = false := hS2.n.free0 0
    clear y0 hsz
    go_upto_region 3 with fail
    generalize hw3 : World.setCell _ _ _ = w3
    have hS3 : WordSt gb gm gn N named (j + 1) w3 := by
      rw [← hw3]
      exact hS2.next (j + 1)
    have hB3 : But gn w w3 := by
      rw [← hw3]
      exact hB2.step 0 _
    clear hw3 y2 z2 hS2 hB2 hb2
    have y3 : w3.cell? ⟨gb, 0, none⟩ = some (.map (some gm)) := hS3.b.cell 0
    have hkey : keyOf Tryz.prog 9 (.string (wN j)) = some (.string (wN j).data.toList) := WideMaps.keyOf_string_mk Tryz.underlying9 (by
      rw [size_data, wN_data]
      have := wL_len j (by omega)
      unfold maxLen; omega)
    have hat := seenD_at (wN j) named
    have HKEY := Lib.hid hkey; have HSE := Lib.hid hat; have HS3 := Lib.hid hS3; have HB3 := Lib.hid hB3
    clear hkey hat hS3 hB3
    have hc3 := HS3.out.ctr
    cases hh : hasN named (wN j)
    · have er : r = j := by rw [HR.out]; exact next_unique hkj (fun i h1 h2 => next_pass h1 (by rw [← HR.out]; omega)) hh
      rw [hh] at HSE
      subst er
      clear hh hmeas hc3
      go_wp2_with (at_lookup; refine wpList_lookup_own_bool _ rfl _ _ 91 rfl 9 4 keyLaw Tryz.underlying91 Tryz.underlying4 (zeroB _) gm N _ rfl HS3.out.m _ _ rfl HKEY.out _ HSE.out ?_)
      go_ret
      exact ⟨rfl, HS3.out, HB3.out⟩
    · rw [hh] at HSE
      have hjr2 : j < r := by
        rcases Nat.eq_or_lt_of_le hjr with e | e
        · exfalso
          have h2 := next_stop named k
          rw [← HR.out, ← e, hh] at h2
          cases h2
        · exact e
      clear hh
      go_wp2_with (at_lookup; refine wpList_lookup_own_bool _ rfl _ _ 91 rfl 9 4 keyLaw Tryz.underlying91 Tryz.underlying4 (zeroB _) gm N _ rfl HS3.out.m _ _ rfl HKEY.out _ HSE.out ?_)
      exact ⟨⟨j + 1, by omega, by omega, HS3, HB3⟩, by omega⟩
end Go.Proofs.YtjhlpkhfdghngaaGreatDoor
namespace Go.Proofs.YtjhlpkhfdghngaaGreatDoor
open Go.RowKit Go.Sort
set_option linter.unusedVariables false
set_option linter.unusedSimpArgs false
set_option maxRecDepth 100000
def fixL (x : Pat) : List ByteArray := stringP x.cust.kind x.cust.text :: strL x.parts
def fixS (x : Pat) : ByteArray := joinS (fixL x)
theorem fix_no47 {x : Pat} (hx : PatFit x) : 47 ∉ (stringP x.cust.kind x.cust.text).data.toList ∧ ∀ w ∈ strL x.parts, 47 ∉ w.data.toList := by
  refine ⟨(str_fit hx.cust.part).2.2.1, fun w hw => ?_⟩
  obtain ⟨p, hp, rfl⟩ := List.mem_map.1 hw
  exact (str_fit (hx.parts p hp)).2.2.1
theorem fix_split {x : Pat} (hx : PatFit x) : splitB 47 (fixS x) = fixL x := split_join _ _ (fix_no47 hx).1 (fix_no47 hx).2
theorem fix_tail {p : ByteArray} {x : Pat} (h : compileB p = some x) (ht : x.tail = true) : p.data.toList = (fixS x).data.toList ++ [47, 42, 42] := by
  have e := str_compile h
  rw [← e, patS_eq, join_data, fixS, fixL, join_data, ht]
  simp [lists, tailL, pathL]
theorem splitL_put (c : UInt8) (r : List UInt8) : ∀ q : List UInt8, splitL c (q ++ c :: r) = splitL c q ++ splitL c r
  | [] => by simp [splitL]
  | b :: q => by
    have ih := splitL_put c r q
    rw [List.cons_append]
    by_cases hb : b = c
    · simp only [splitL, if_pos hb, ih, List.cons_append]
    · simp only [splitL, if_neg hb, ih]
      cases hq : splitL c q with
      | nil => exact absurd hq (splitL_ne c q)
      | cons z zs => rfl
theorem fix_no {p : ByteArray} {x : Pat} (h : compileB p = some x) (ht : x.tail = false) : p = fixS x ∧ Lib.hasSuffix p.data.toList [47, 42, 42] = false := by
  have e := str_compile h
  have hx := compile_fit h
  have e1 : p = fixS x := by rw [← e, patS_eq, fixS, fixL, ht]; simp [tailL]
  refine ⟨e1, ?_⟩
  cases hs : Lib.hasSuffix p.data.toList [47, 42, 42] with
  | false => rfl
  | true =>
    exfalso
    unfold Lib.hasSuffix at hs
    rw [List.isSuffixOf_iff_suffix] at hs
    obtain ⟨q, hq⟩ := hs
    have h1 : splitL 47 p.data.toList = splitL 47 q ++ [[42, 42]] := by rw [← hq, show q ++ [47, 42, 42] = q ++ 47 :: [42, 42] from rfl, splitL_put]; rfl
    have h2 : splitB 47 p = fixL x := by rw [e1]; exact fix_split hx
    have h3 : (⟨#[42, 42]⟩ : ByteArray) ∈ fixL x := by
      rw [← h2]
      unfold splitB
      rw [h1]
      simp
    rcases List.mem_cons.1 h3 with h3 | h3
    · exact (str_fit hx.cust.part).2.2.2 (by rw [← h3])
    · obtain ⟨z, hz, e2⟩ := List.mem_map.1 h3
      exact (str_fit (hx.parts z hz)).2.2.2 (by rw [e2])
theorem count_no {l : List UInt8} (h : 47 ∉ l) : l.count 47 = 0 := List.count_eq_zero.2 h
theorem count_path : ∀ l : List (List UInt8), (∀ x ∈ l, 47 ∉ x) → (pathL l).count 47 = l.length
  | [], _ => rfl
  | x :: l, h => by
    have ih := count_path l (fun y hy => h y (by simp [hy]))
    have hx := count_no (h x (by simp))
    unfold pathL at ih ⊢
    rw [List.flatMap_cons, List.cons_append, List.count_cons, List.count_append, hx, ih]
    simp
theorem fix_count {x : Pat} (hx : PatFit x) : Lib.countByte (fixS x).data.toList 47 = x.parts.length := by
  have h := fix_no47 hx
  unfold Lib.countByte fixS fixL
  rw [join_data, List.count_append, count_no h.1, count_path _ (fun y hy => by
    obtain ⟨w, hw, rfl⟩ := List.mem_map.1 hy
    exact h.2 w hw)]
  simp [lists, strL]
theorem fix_len (x : Pat) : (fixL x).length = x.parts.length + 1 := by simp [fixL, strL]
theorem fix_trim {p : ByteArray} {x : Pat} (h : compileB p = some x) : (⟨(Lib.trimSuffix p.data.toList [47, 42, 42]).toArray⟩ : ByteArray) = fixS x := by
  unfold Lib.trimSuffix
  cases ht : x.tail with
  | false =>
    obtain ⟨e, hs⟩ := fix_no h ht
    rw [hs, if_neg (by decide), ← e]
  | true =>
    have e := fix_tail h ht
    have hs : Lib.hasSuffix p.data.toList [47, 42, 42] = true := by
      unfold Lib.hasSuffix
      rw [List.isSuffixOf_iff_suffix, e]
      exact List.suffix_append _ _
    rw [if_pos hs, e]
    simp
theorem fix_has {p : ByteArray} {x : Pat} (h : compileB p = some x) : Lib.hasSuffix p.data.toList [47, 42, 42] = x.tail := by
  cases ht : x.tail with
  | false => exact (fix_no h ht).2
  | true =>
    unfold Lib.hasSuffix
    rw [List.isSuffixOf_iff_suffix, fix_tail h ht]
    exact List.suffix_append _ _
def starS : ByteArray := ⟨#[42]⟩
theorem partsM_str {x : Pat} (m : Nat) : strL (partsM x m) = strL x.parts ++ List.replicate (m - x.parts.length) starS := by
  unfold partsM strL
  rw [List.map_append, List.map_replicate]
  rfl
theorem str_starred {p : Part} (h : p.kind ≠ 0) : (stringP p.kind p.text).data.toList = 42 :: p.text.data.toList := by rw [str_data, if_neg h]
theorem str_plain {p : Part} (hp : PartFit p) (h : p.kind = 0) : Lib.hasPrefix (stringP p.kind p.text).data.toList [42] = false ∧ stringP p.kind p.text = p.text := by
  have e : stringP p.kind p.text = p.text := by unfold stringP; rw [if_pos h]
  refine ⟨?_, e⟩
  rw [e]
  rcases hp with ⟨_, hw⟩ | ⟨hk, _⟩ | ⟨hk, _⟩
  · cases hl : p.text.data.toList with
    | nil => rfl
    | cons b r =>
      have hb : b ≠ 42 := fun e => (word_no hw).2.2.2.2.1 (by rw [hl, e]; simp)
      simp [Lib.hasPrefix, List.isPrefixOf, hb.symm]
  · omega
  · omega
end Go.Proofs.YtjhlpkhfdghngaaGreatDoor
