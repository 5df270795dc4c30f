/- Whether a policy is right: policy.Check. -/
import Derived.Test.YtmlhecjhjjlhfaaGreatDoorSZ31
import Derived.Test.YtmlhecjhjjlhfaaGreatDoorSZ1
import Derived.Laws.Rows
import Derived.Laws.Tables
import Derived.Laws.CopyOwn
import Derived.Test.YtmlhecjhjjlhfaaGreatDoorProg
import Derived.WalkKit
import Derived.WalkSpells
import Derived.WalkLawsBesides
import Derived.Below
import Derived.Deep.QuietTactic
import Derived.BigQuiet
import Derived.Lib.QuietBelow
import Derived.Lib.Strings
import Derived.Lib.Hide
import Derived.Deep.RegionWith
import Derived.Deep.RegionHeld3
import Derived.Lib.IndexBytes
import Derived.Test.YtmlhecjhjjlhfaaGreatDoorSZ4
import Derived.OwnWalk
import Derived.Maps.AppendAt
import Derived.Test.YtmlhecjhjjlhfaaGreatDoorSZ16
import Derived.Test.YtmlhecjhjjlhfaaGreatDoorSZ30
import Derived.Test.YtmlhecjhjjlhfaaGreatDoorSZ17
import Derived.Test.YtmlhecjhjjlhfaaGreatDoorSZ24
import Derived.Test.YtmlhecjhjjlhfaaGreatDoorSZ15
import Derived.Test.YtmlhecjhjjlhfaaGreatDoorSZ25
import Derived.Test.YtmlhecjhjjlhfaaGreatDoorSZ29
import Derived.Test.YtmlhecjhjjlhfaaGreatDoorSZ13
import Derived.Test.YtmlhecjhjjlhfaaGreatDoorSZ18
import Derived.Test.YtmlhecjhjjlhfaaGreatDoorSZ7
import Derived.Test.YtmlhecjhjjlhfaaGreatDoorSZ3
import Derived.Test.YtmlhecjhjjlhfaaGreatDoorSZ26
import Derived.Test.YtmlhecjhjjlhfaaGreatDoorSZ28
import Derived.Test.YtmlhecjhjjlhfaaGreatDoorSZ32
import Derived.Test.YtmlhecjhjjlhfaaGreatDoorSZ10
import Derived.Deep.DeepCutAuto
import Derived.Test.YtmlhecjhjjlhfaaGreatDoorSZ8
import Derived.Maps.Views
import Derived.Maps.Own
import Derived.StringKeys
import Derived.KernelRfl
namespace Go.Proofs.YtmlhecjhjjlhfaaGreatDoor
open Go.RowKit Go.Sort
set_option linter.unusedVariables false
set_option linter.unusedSimpArgs false
set_option maxRecDepth 100000
open Go.Maps
def hasN (l : List ByteArray) (s : ByteArray) : Bool := l.any fun t => decide (s.data.toList = t.data.toList)
def seenD : List ByteArray → DataW Unit
  | [] => .map []
  | s :: l => (seenD l).put (.string s.data.toList) (.lit (.bool true))
theorem seenD_map : ∀ l, IsMap (seenD l)
  | [] => isMap_empty
  | s :: l => by
    obtain ⟨es, e⟩ := seenD_map l
    unfold seenD
    rw [e]
    exact ⟨_, rfl⟩
theorem seenD_at (s : ByteArray) : ∀ l, (seenD l).atKey (.string s.data.toList) (.lit (.bool false)) = .lit (.bool (hasN l s))
  | [] => rfl
  | t :: l => by
    unfold seenD hasN
    rw [List.any_cons]
    by_cases h : s.data.toList = t.data.toList
    · rw [h, atKey_put_same (k := .string t.data.toList) (seenD_map l) (show WideAt.IsKeyLit (.string t.data.toList) from trivial), decide_eq_true rfl, Bool.true_or]
    · rw [atKey_put_other (fun e => h (by injection e)), seenD_at s l, decide_eq_false h, Bool.false_or]
      rfl
theorem plainElem_bool_inv {H : Type} {P : Program} {e : TypeId} (he : P.underlying e = some .bool) {v : Value} {c : Bool} {ps : List MemPlace} (h : plainElem (H := H) P e v = some (.lit (.bool c), ps)) : v = .bool c := by
  unfold plainElem at h
  rw [he] at h
  cases v <;> simp at h
  rw [h.1]
theorem ownsMap_keep {H : Type} {w w' : World} {P : Program} {k : TypeId} {R : Value → Option (DataW H × List MemPlace)} {b n B : Nat} {D : DataW H} (h : w.ownsMap P k R b n D) (hb : Below B w w') (hlt : b < B) : w'.ownsMap P k R b n D := by
  obtain ⟨es, clock, h1, h2⟩ := h
  exact ⟨es, clock, (hb.block b hlt).trans h1, h2⟩
theorem wpList_lookup_own_bool {H : Type} {P : Program} (w : World) {ops : Array Oper} {rest : List Oper} {o : Oper} {a : Act} {Q : Exit → Act → World → Prop}
    (hg : o.guard = none) (m x : Operand) (t : TypeId) (hop : o.op = Op.lookup t m x false)
    (k e : TypeId) (K : Keyed P k) (ht : P.underlying t = some (.map k e)) (he : P.underlying e = some .bool) (hz : (zeroValue e).run P w = .ok (.bool false) w) (b n : Nat) (D : DataW H)
    (hm : a.eval m = .map (some b)) (hown : w.ownsMap P k (plainElem P e) b n D) (key : Value) (kl : Lit) (hx : a.eval x = key) (hkey : keyOf P k key = some kl)
    (c : Bool) (hc : D.atKey kl (.lit (.bool false)) = .lit (.bool c))
    (hK : wpList P ops Q rest (a.put o.dst (.bool c)) w) :
    wpList P ops Q (o :: rest) a w := by
  refine wpList_plain hg fun K' hK' => ?_
  obtain ⟨v, ps, hrun, hat⟩ := hown.lookup K ht hz (plainElem_bool he false) hkey
  rw [hc] at hat
  obtain rfl := plainElem_bool_inv he hat
  unfold Oper.wp
  simp [execOp, hop, hm, hx, hrun, Result.andThen]
  exact hK' _ _ hK
theorem zeroB (w : World) : (zeroValue 4).run Tryz.prog w = .ok (.bool false) w := by kernel_rfl
end Go.Proofs.YtmlhecjhjjlhfaaGreatDoor
namespace Go.Proofs.YtmlhecjhjjlhfaaGreatDoor
open Go.RowKit Go.Sort
set_option linter.unusedVariables false
set_option linter.unusedSimpArgs false
set_option maxRecDepth 100000
theorem partOf_zero {w : ByteArray} (h : (partOfP w).kind = 0) : (partOfP w).text = w := by
  unfold partOfP at h ⊢
  split at h
  · rename_i h1; rw [if_pos h1]
  · rename_i h1
    split at h
    · rename_i h2; rw [if_neg h1, if_pos h2]
    · split at h <;> simp at h
theorem cmpL_mem : ∀ (l : List ByteArray) (acc : List Part) (r : List Part × Bool), cmpL l acc = some r → ∀ p ∈ r.1, p ∈ acc ∨ ∃ w ∈ l, p = partOfP w
  | [], acc, r, h, p, hp => by
    rw [cmpL] at h
    injection h with h
    subst h
    exact .inl hp
  | w :: l, acc, r, h, p, hp => by
    rw [cmpL] at h
    split at h
    · injection h with h
      subst h
      exact .inl hp
    · split at h
      · rcases cmpL_mem l _ r h p hp with h1 | ⟨z, hz, e⟩
        · rcases List.mem_append.1 h1 with h1 | h1
          · exact .inl h1
          · exact .inr ⟨w, by simp, by simpa using h1⟩
        · exact .inr ⟨z, by simp [hz], e⟩
      · cases h
theorem named_of {q : ByteArray} {y : Pat} (h : compileB q = some y) : ∀ p ∈ y.cust :: y.parts, p.kind = 0 → p.text ∈ splitB 47 q := by
  unfold compileB compL at h
  split at h
  · cases h
  · rename_i l0 r he
    rw [he]
    split at h
    · cases hc : cmpL r [] with
      | none => rw [hc] at h; cases h
      | some z =>
        rw [hc] at h
        simp only [Option.map_some, Option.some.injEq] at h
        subst h
        intro p hp hk
        rcases List.mem_cons.1 hp with rfl | hp
        · rw [partOf_zero hk]; simp
        · rcases cmpL_mem r [] z hc p hp with h1 | ⟨w, hw, rfl⟩
          · cases h1
          · rw [partOf_zero hk]; simp [hw]
    · cases h
def namedL (bs : List ByteArray) : List ByteArray := bs.flatMap (splitB 47)
theorem named_all {bs : List ByteArray} {ys : List Pat} (h : bs.map compileB = ys.map some) : ∀ q ∈ partsOf ys, q.kind = 0 → q.text ∈ namedL bs := by
  intro q hq hk
  obtain ⟨y, hy, hqy⟩ := List.mem_flatMap.1 hq
  have h1 : some y ∈ bs.map compileB := by rw [h]; exact List.mem_map.2 ⟨y, hy, rfl⟩
  obtain ⟨b, hb, e⟩ := List.mem_map.1 h1
  exact List.mem_flatMap.2 ⟨b, hb, named_of e q hqy hk⟩
def GapPost (p : ByteArray) (bs : List ByteArray) (s : ByteArray) (is : Bool) : Prop :=
  ∃ x ys, compileB p = some x ∧ bs.map compileB = ys.map some ∧ ((gapN x ys = none ∧ is = false ∧ s = ⟨#[]⟩) ∨ (∃ m c ws, gapN x ys = some m ∧ is = true ∧ s = joinS (c :: ws) ∧ Exam (partsOf ys) x m c ws))
theorem most_le {x : Pat} (hx : PatFit x) : mostP x ≤ 32 := by
  have := hx.num
  unfold mostP
  split <;> omega
theorem back_of {bs : List ByteArray} {ys : List Pat} (h : bs.map compileB = ys.map some) {q : ByteArray} (hq : q ∈ bs) : ∃ y ∈ ys, compileB q = some y := by
  have h1 : compileB q ∈ ys.map some := by rw [← h]; exact List.mem_map.2 ⟨q, hq, rfl⟩
  obtain ⟨y, hy, e⟩ := List.mem_map.1 h1
  exact ⟨y, hy, e.symm⟩
theorem fore_of {bs : List ByteArray} {ys : List Pat} (h : bs.map compileB = ys.map some) {y : Pat} (hy : y ∈ ys) : ∃ q ∈ bs, compileB q = some y := by
  have h1 : some y ∈ bs.map compileB := by rw [h]; exact List.mem_map.2 ⟨y, hy, rfl⟩
  exact List.mem_map.1 h1
theorem gap_found {p : ByteArray} {bs : List ByteArray} {s : ByteArray} (h : GapPost p bs s true) : matchB p s = true ∧ ∀ q ∈ bs, matchB q s = false := by
  obtain ⟨x, ys, hx, hb, h | ⟨m, c, ws, hg, _, rfl, he⟩⟩ := h
  · exact absurd h.2.1 (by decide)
  · have fx := compile_fit hx
    obtain ⟨h1, h2, h3⟩ := gap_some hg
    have hm := most_le fx
    have hl : ws.length ≤ 32 := by rw [he.len]; omega
    refine ⟨?_, fun q hq => ?_⟩
    · rw [match_join hx he.name he.words hl]
      exact exam_self fx h1 (fun h => by
        unfold mostP at h2
        split at h2
        · assumption
        · omega) he
    · obtain ⟨y, hy, e⟩ := back_of hb hq
      rw [match_join e he.name he.words hl, exam_at fx (compile_fit e) (fun q hq => List.mem_flatMap.2 ⟨y, hy, hq⟩) h1 he]
      exact h3 y hy
theorem match_read {q a : ByteArray} {y : Pat} (h : compileB q = some y) : matchB q a = (readB a && matchP y (parseB a).1) := by unfold matchB; rw [h]
end Go.Proofs.YtmlhecjhjjlhfaaGreatDoor
namespace Go.Proofs.YtmlhecjhjjlhfaaGreatDoor
open Go.RowKit Go.Sort
set_option linter.unusedVariables false
set_option linter.unusedSimpArgs false
set_option maxRecDepth 100000
def fixL (x : Pat) : List ByteArray := stringP x.cust.kind x.cust.text :: strL x.parts
def fixS (x : Pat) : ByteArray := joinS (fixL x)
theorem fix_no47 {x : Pat} (hx : PatFit x) : 47 ∉ (stringP x.cust.kind x.cust.text).data.toList ∧ ∀ w ∈ strL x.parts, 47 ∉ w.data.toList := by
  refine ⟨(str_fit hx.cust.part).2.2.1, fun w hw => ?_⟩
  obtain ⟨p, hp, rfl⟩ := List.mem_map.1 hw
  exact (str_fit (hx.parts p hp)).2.2.1
theorem fix_split {x : Pat} (hx : PatFit x) : splitB 47 (fixS x) = fixL x := split_join _ _ (fix_no47 hx).1 (fix_no47 hx).2
theorem fix_tail {p : ByteArray} {x : Pat} (h : compileB p = some x) (ht : x.tail = true) : p.data.toList = (fixS x).data.toList ++ [47, 42, 42] := by
  have e := str_compile h
  rw [← e, patS_eq, join_data, fixS, fixL, join_data, ht]
  simp [lists, tailL, pathL]
theorem splitL_put (c : UInt8) (r : List UInt8) : ∀ q : List UInt8, splitL c (q ++ c :: r) = splitL c q ++ splitL c r
  | [] => by simp [splitL]
  | b :: q => by
    have ih := splitL_put c r q
    rw [List.cons_append]
    by_cases hb : b = c
    · simp only [splitL, if_pos hb, ih, List.cons_append]
    · simp only [splitL, if_neg hb, ih]
      cases hq : splitL c q with
      | nil => exact absurd hq (splitL_ne c q)
      | cons z zs => rfl
theorem fix_no {p : ByteArray} {x : Pat} (h : compileB p = some x) (ht : x.tail = false) : p = fixS x ∧ Lib.hasSuffix p.data.toList [47, 42, 42] = false := by
  have e := str_compile h
  have hx := compile_fit h
  have e1 : p = fixS x := by rw [← e, patS_eq, fixS, fixL, ht]; simp [tailL]
  refine ⟨e1, ?_⟩
  cases hs : Lib.hasSuffix p.data.toList [47, 42, 42] with
  | false => rfl
  | true =>
    exfalso
    unfold Lib.hasSuffix at hs
    rw [List.isSuffixOf_iff_suffix] at hs
    obtain ⟨q, hq⟩ := hs
    have h1 : splitL 47 p.data.toList = splitL 47 q ++ [[42, 42]] := by rw [← hq, show q ++ [47, 42, 42] = q ++ 47 :: [42, 42] from rfl, splitL_put]; rfl
    have h2 : splitB 47 p = fixL x := by rw [e1]; exact fix_split hx
    have h3 : (⟨#[42, 42]⟩ : ByteArray) ∈ fixL x := by
      rw [← h2]
      unfold splitB
      rw [h1]
      simp
    rcases List.mem_cons.1 h3 with h3 | h3
    · exact (str_fit hx.cust.part).2.2.2 (by rw [← h3])
    · obtain ⟨z, hz, e2⟩ := List.mem_map.1 h3
      exact (str_fit (hx.parts z hz)).2.2.2 (by rw [e2])
theorem count_no {l : List UInt8} (h : 47 ∉ l) : l.count 47 = 0 := List.count_eq_zero.2 h
theorem count_path : ∀ l : List (List UInt8), (∀ x ∈ l, 47 ∉ x) → (pathL l).count 47 = l.length
  | [], _ => rfl
  | x :: l, h => by
    have ih := count_path l (fun y hy => h y (by simp [hy]))
    have hx := count_no (h x (by simp))
    unfold pathL at ih ⊢
    rw [List.flatMap_cons, List.cons_append, List.count_cons, List.count_append, hx, ih]
    simp
theorem fix_count {x : Pat} (hx : PatFit x) : Lib.countByte (fixS x).data.toList 47 = x.parts.length := by
  have h := fix_no47 hx
  unfold Lib.countByte fixS fixL
  rw [join_data, List.count_append, count_no h.1, count_path _ (fun y hy => by
    obtain ⟨w, hw, rfl⟩ := List.mem_map.1 hy
    exact h.2 w hw)]
  simp [lists, strL]
theorem fix_len (x : Pat) : (fixL x).length = x.parts.length + 1 := by simp [fixL, strL]
theorem fix_trim {p : ByteArray} {x : Pat} (h : compileB p = some x) : (⟨(Lib.trimSuffix p.data.toList [47, 42, 42]).toArray⟩ : ByteArray) = fixS x := by
  unfold Lib.trimSuffix
  cases ht : x.tail with
  | false =>
    obtain ⟨e, hs⟩ := fix_no h ht
    rw [hs, if_neg (by decide), ← e]
  | true =>
    have e := fix_tail h ht
    have hs : Lib.hasSuffix p.data.toList [47, 42, 42] = true := by
      unfold Lib.hasSuffix
      rw [List.isSuffixOf_iff_suffix, e]
      exact List.suffix_append _ _
    rw [if_pos hs, e]
    simp
theorem fix_has {p : ByteArray} {x : Pat} (h : compileB p = some x) : Lib.hasSuffix p.data.toList [47, 42, 42] = x.tail := by
  cases ht : x.tail with
  | false => exact (fix_no h ht).2
  | true =>
    unfold Lib.hasSuffix
    rw [List.isSuffixOf_iff_suffix, fix_tail h ht]
    exact List.suffix_append _ _
def starS : ByteArray := ⟨#[42]⟩
theorem partsM_str {x : Pat} (m : Nat) : strL (partsM x m) = strL x.parts ++ List.replicate (m - x.parts.length) starS := by
  unfold partsM strL
  rw [List.map_append, List.map_replicate]
  rfl
theorem str_starred {p : Part} (h : p.kind ≠ 0) : (stringP p.kind p.text).data.toList = 42 :: p.text.data.toList := by rw [str_data, if_neg h]
theorem str_plain {p : Part} (hp : PartFit p) (h : p.kind = 0) : Lib.hasPrefix (stringP p.kind p.text).data.toList [42] = false ∧ stringP p.kind p.text = p.text := by
  have e : stringP p.kind p.text = p.text := by unfold stringP; rw [if_pos h]
  refine ⟨?_, e⟩
  rw [e]
  rcases hp with ⟨_, hw⟩ | ⟨hk, _⟩ | ⟨hk, _⟩
  · cases hl : p.text.data.toList with
    | nil => rfl
    | cons b r =>
      have hb : b ≠ 42 := fun e => (word_no hw).2.2.2.2.1 (by rw [hl, e]; simp)
      simp [Lib.hasPrefix, List.isPrefixOf, hb.symm]
  · omega
  · omega
end Go.Proofs.YtmlhecjhjjlhfaaGreatDoor
namespace Go.Proofs.YtmlhecjhjjlhfaaGreatDoor
open Go.RowKit Go.Sort
set_option linter.unusedVariables false
set_option linter.unusedSimpArgs false
set_option maxRecDepth 100000
theorem all_step {α : Type} (p : α → Bool) (l : List α) (k : Nat) (x : α) (hx : l[k]? = some x) (hp : p x = true) : (l.drop k).all p = (l.drop (k + 1)).all p := by
  obtain ⟨hl2, rfl⟩ := List.getElem?_eq_some_iff.1 hx
  rw [List.drop_eq_getElem_cons hl2, List.all_cons, hp, Bool.true_and]
theorem all_stop {α : Type} (p : α → Bool) (l : List α) (k : Nat) (x : α) (hx : l[k]? = some x) (hp : p x = false) : (l.drop k).all p = false := by
  obtain ⟨hl2, rfl⟩ := List.getElem?_eq_some_iff.1 hx
  rw [List.drop_eq_getElem_cons hl2, List.all_cons, hp, Bool.false_and]
end Go.Proofs.YtmlhecjhjjlhfaaGreatDoor
namespace Go.Proofs.YtmlhecjhjjlhfaaGreatDoor
open Go.RowKit Go.Sort
set_option linter.unusedVariables false
set_option linter.unusedSimpArgs false
set_option maxRecDepth 100000
def OkBox (w : World) (g : Nat) (b0 b1 b2 b3 : Bool) : Prop := Blk w g 4 #[.bool b0, .bool b1, .bool b2, .bool b3] (0, 0)
theorem OkBox.facts {w : World} {g : Nat} {b0 b1 b2 b3 : Bool} (h : OkBox w g b0 b1 b2 b3) : w.cell? ⟨g, 0, none⟩ = some (.bool b0) ∧ w.cell? ⟨g, 1, none⟩ = some (.bool b1) ∧ w.cell? ⟨g, 2, none⟩ = some (.bool b2) ∧ w.cell? ⟨g, 3, none⟩ = some (.bool b3) := ⟨Blk.cell h 0, Blk.cell h 1, Blk.cell h 2, Blk.cell h 3⟩
theorem OkBox.s0 {w : World} {g : Nat} {b0 b1 b2 b3 : Bool} (h : OkBox w g b0 b1 b2 b3) (b : Bool) : OkBox (w.setCell ⟨g, 0, none⟩ (.bool b)) g b b1 b2 b3 := Blk.set_ h 0 (.bool b)
theorem OkBox.s1 {w : World} {g : Nat} {b0 b1 b2 b3 : Bool} (h : OkBox w g b0 b1 b2 b3) (b : Bool) : OkBox (w.setCell ⟨g, 1, none⟩ (.bool b)) g b0 b b2 b3 := Blk.set_ h 1 (.bool b)
theorem OkBox.s2 {w : World} {g : Nat} {b0 b1 b2 b3 : Bool} (h : OkBox w g b0 b1 b2 b3) (b : Bool) : OkBox (w.setCell ⟨g, 2, none⟩ (.bool b)) g b0 b1 b b3 := Blk.set_ h 2 (.bool b)
theorem OkBox.s3 {w : World} {g : Nat} {b0 b1 b2 b3 : Bool} (h : OkBox w g b0 b1 b2 b3) (b : Bool) : OkBox (w.setCell ⟨g, 3, none⟩ (.bool b)) g b0 b1 b2 b := Blk.set_ h 3 (.bool b)
end Go.Proofs.YtmlhecjhjjlhfaaGreatDoor
namespace Go.Proofs.YtmlhecjhjjlhfaaGreatDoor
open Go.RowKit Go.Sort
set_option linter.unusedVariables false
set_option linter.unusedSimpArgs false
set_option maxRecDepth 100000
def cIn (l : List Int) : CondV := ⟨0, 1099511627777, ⟨#[]⟩, [], [], l, 0⟩
def cCo (l : List ByteArray) : CondV := ⟨0, 1099511627777, ⟨#[]⟩, [], l, [], 0⟩
def cA : CondV := ⟨0, 1099511627777, (⟨#[97, 99, 109, 101, 47, 42, 42]⟩ : ByteArray), [], [], [1, 2], 0⟩
def cT (a b : Int) : CondV := ⟨a, b, ⟨#[]⟩, [], [], [], 0⟩
theorem e1 : validC cA = true := by kernel_rfl
theorem e2 : validC (cIn [1, 2]) = true := by kernel_rfl
theorem e3 : validC (cIn [2, 3]) = true := by kernel_rfl
theorem e4 : validC (cIn [3]) = true := by kernel_rfl
theorem e5 : validC (cCo [(⟨#[100, 101]⟩ : ByteArray), (⟨#[102, 114]⟩ : ByteArray)]) = true := by kernel_rfl
theorem e6 : validC (cCo [(⟨#[100, 101]⟩ : ByteArray)]) = true := by kernel_rfl
theorem e7 : validC (cIn []) = true := by kernel_rfl
theorem e8 : validC (cIn allSites) = true := by kernel_rfl
theorem v1 : textC cA = (⟨#[48, 32, 49, 48, 57, 57, 53, 49, 49, 54, 50, 55, 55, 55, 55, 32, 97, 99, 109, 101, 47, 42, 42, 32, 126, 32, 126, 32, 49, 44, 50, 32, 48]⟩ : ByteArray) := by kernel_rfl
theorem v2 : meetC (cIn [1, 2]) (cIn [2, 3]) = cIn [2] := by kernel_rfl
theorem v3 : meetC (cIn [1, 2]) (cIn [3]) = zeroC := by kernel_rfl
theorem v4 : impR (cCo [(⟨#[100, 101]⟩ : ByteArray), (⟨#[102, 114]⟩ : ByteArray)]) (cCo [(⟨#[100, 101]⟩ : ByteArray)]) = (false, ⟨(⟨#[97]⟩ : ByteArray), (⟨#[97]⟩ : ByteArray), (⟨#[102, 114]⟩ : ByteArray), 0, 0, 0⟩) := by kernel_rfl
theorem v5 : impR (cIn []) (cIn allSites) = (true, noAsk) := by kernel_rfl
theorem v6 : emptyR (cT 5 5) = (true, noAsk, 0) := by kernel_rfl
theorem v7 : emptyR (cT 5 6) = (false, ⟨(⟨#[97]⟩ : ByteArray), (⟨#[97]⟩ : ByteArray), (⟨#[97, 97]⟩ : ByteArray), 0, 5, 5⟩, 0) := by kernel_rfl
end Go.Proofs.YtmlhecjhjjlhfaaGreatDoor
namespace Go.Proofs.YtmlhecjhjjlhfaaGreatDoor
open Go.RowKit Go.Sort
set_option linter.unusedVariables false
set_option linter.unusedSimpArgs false
set_option maxRecDepth 100000
theorem pathL_le2 (B : Nat) : ∀ l : List (List UInt8), (∀ p ∈ l, p.length ≤ B) → (pathL l).length ≤ l.length * (B + 1)
  | [], _ => by simp [pathL]
  | p :: l, h => by
    have h1 := h p (by simp)
    have h2 := pathL_le2 B l (fun q hq => h q (by simp [hq]))
    simp only [pathL, List.flatMap_cons, List.length_append, List.length_cons, Nat.succ_mul] at h2 ⊢
    omega
theorem str_size2 {p : Part} (h : PartFit p) : (stringP p.kind p.text).size ≤ 66 := by
  have e := str_data p.kind p.text
  rw [size_data, e]
  rcases h with ⟨hk, hw⟩ | ⟨hk, s, hs, hs2, ht⟩ | ⟨hk, ht⟩
  · have := (word_ne hw).2.2.2
    rw [size_data] at this
    rw [if_pos hk]; omega
  · rw [if_neg (by omega), ht]
    rw [size_data] at hs2
    simp only [List.length_cons]; omega
  · rw [if_neg (by omega), ht]
    decide
theorem patS_size2 {z : Pat} (h : PatFit z) : (patS z).size ≤ 10000 := by
  rw [patS_eq, size_data, join_data]
  have h1 := str_size2 h.cust.part
  rw [size_data] at h1
  have h2 := pathL_le2 66 (lists (strL z.parts ++ tailL z.tail)) (by
    intro p hp
    obtain ⟨x, hx, rfl⟩ := List.mem_map.1 hp
    rw [← size_data]
    rcases List.mem_append.1 hx with hx | hx
    · obtain ⟨y, hy, rfl⟩ := List.mem_map.1 hx
      exact str_size2 (h.parts y hy)
    · unfold tailL at hx
      split at hx
      · rw [List.mem_singleton.1 hx]; decide
      · cases hx)
  have h3 := h.num
  have h4 : (lists (strL z.parts ++ tailL z.tail)).length ≤ 33 := by
    unfold lists strL tailL
    rw [List.length_map, List.length_append, List.length_map]
    split <;> simp <;> omega
  rw [List.length_append]
  have := Nat.mul_le_mul_right 67 h4
  omega
def fewV (c : CondV) : Bool := fewC c.cl.length c.co.length c.si.length c.pat c.cl c.co
theorem few_fits {c : CondV} (h : fewV c = true) : CondFits c := by
  unfold fewV fewC at h
  simp only [Bool.and_eq_true, decide_eq_true_eq, List.all_eq_true] at h
  obtain ⟨⟨⟨⟨⟨h1, h2⟩, h3⟩, h4⟩, h5⟩, h6⟩ := h
  exact ⟨by omega, fun x hx => by have := h5 x hx; omega, fun x hx => by have := h6 x hx; omega, by omega, by omega, by omega⟩
def VBox (w : World) (g : Nat) (c : CondV) (m : CondMem) : Prop := CBox w g c.fr c.till c.pat m.A c.cl.length m.ca m.B c.co.length m.cb m.S c.si.length m.cs c.us
end Go.Proofs.YtmlhecjhjjlhfaaGreatDoor
