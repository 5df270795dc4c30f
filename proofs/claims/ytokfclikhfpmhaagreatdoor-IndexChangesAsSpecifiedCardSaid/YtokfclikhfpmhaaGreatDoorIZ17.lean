/- Plain: indexes as lists of items in ascending order of their keys: putting, leaving out, finding, and what begins with a text. -/
import Derived.Test.YtokfclikhfpmhaaGreatDoorIZ2
import Derived.Test.YtokfclikhfpmhaaGreatDoorIZ15
import Derived.Sort.Walk0
import Derived.Test.YtokfclikhfpmhaaGreatDoorProg
import Derived.WalkKit
import Derived.WalkSpells
import Derived.WalkLawsBesides
import Derived.Below
import Derived.Deep.QuietTactic
import Derived.BigQuiet
import Derived.Lib.QuietBelow
import Derived.Lib.Strings
import Derived.Lib.Hide
import Derived.Deep.RegionWith
import Derived.Deep.RegionHeld3
import Derived.Lib.IndexBytes
import Derived.Test.YtokfclikhfpmhaaGreatDoorIZ5
import Derived.Test.YtokfclikhfpmhaaGreatDoorIZ12
import Derived.Test.YtokfclikhfpmhaaGreatDoorIZ6
namespace Go.Proofs.YtokfclikhfpmhaaGreatDoor
open Go.RowKit Go.Sort
set_option linter.unusedVariables false
set_option linter.unusedSimpArgs false
set_option maxRecDepth 100000
set_option linter.unusedVariables false
structure It where
  k : ByteArray
  t : ByteArray
  z : Int
  r : Int
def It.vals (x : It) : List Value := [.string x.k, .string x.t, .int .i64 x.z, .int .i64 x.r]
def itsC (l : List It) : List Value := l.flatMap It.vals
theorem itsC_len : ∀ l : List It, (itsC l).length = l.length * 4
  | [] => rfl
  | x :: l => by rw [itsC, List.flatMap_cons, List.length_append, ← itsC, itsC_len l]; simp [It.vals]; omega
theorem itsC_app (a b : List It) : itsC (a ++ b) = itsC a ++ itsC b := by simp [itsC]
theorem itsC_at : ∀ (l : List It) (i j : Nat) (x : It), l[i]? = some x → j < 4 → (itsC l)[4 * i + j]? = x.vals[j]?
  | [], i, j, x, h, hj => by simp at h
  | y :: l, 0, j, x, h, hj => by
    simp only [List.getElem?_cons_zero, Option.some.injEq] at h
    subst h
    rw [itsC, List.flatMap_cons, List.getElem?_append_left (by simp [It.vals]; omega)]
    simp
  | y :: l, i + 1, j, x, h, hj => by
    rw [itsC, List.flatMap_cons, ← itsC, List.getElem?_append_right (by simp [It.vals]; omega)]
    rw [← itsC_at l i j x (by simpa using h) hj]
    congr 1
    simp [It.vals]; omega
def ltB (a b : ByteArray) : Bool := decide (a.data.toList < b.data.toList)
theorem less_ltB (a b : ByteArray) : Op.bytesLess a.toList b.toList = ltB a b := by rw [bytesLess_eq, Lib.toList_data, Lib.toList_data]; rfl
theorem ltB_irr (a : ByteArray) : ltB a a = false := by simp [ltB, List.lt_irrefl]
theorem ltB_tr {a b c : ByteArray} (h : ltB a b = true) (k : ltB b c = true) : ltB a c = true := by
  simp only [ltB, decide_eq_true_eq] at *
  exact List.lt_trans h k
theorem ltB_tot (a b : ByteArray) : ltB a b = true ∨ a = b ∨ ltB b a = true := by
  simp only [ltB, decide_eq_true_eq]
  by_cases h1 : a.data.toList < b.data.toList
  · exact .inl h1
  · by_cases h2 : a.data.toList = b.data.toList
    · exact .inr (.inl (bytes_ext h2))
    · exact .inr (.inr (lt_tri _ _ h2 h1))
theorem ordK : Tr.Ord It.k ltB := ⟨ltB_irr, fun _ _ _ => ltB_tr, ltB_tot⟩
theorem ltB_asym {a b : ByteArray} (h : ltB a b = true) : ltB b a = false := Tr.not_lt_of ordK h
theorem ltB_ne {a b : ByteArray} (h : ltB a b = true) : a ≠ b := fun e => by rw [e, ltB_irr] at h; cases h
theorem not_ltB {a b : ByteArray} (h : ltB a b = false) (hn : a ≠ b) : ltB b a = true := by
  rcases ltB_tot a b with k | k | k
  · rw [h] at k; cases k
  · exact absurd k hn
  · exact k
abbrev UpI (l : List It) : Prop := Tr.Up It.k ltB l
abbrev ITr := Tr.Tree It
def leB (a b : ByteArray) : Bool := ltB a b || decide (a = b)
theorem beq_dec (a b : ByteArray) : (a.toList == b.toList) = decide (a = b) := by
  rw [Bool.eq_iff_iff, Lib.toList_data, Lib.toList_data, beq_iff_eq, decide_eq_true_eq]
  exact ⟨bytes_ext, fun h => by rw [h]⟩
theorem less_leB (a b : ByteArray) : (Op.bytesLess a.toList b.toList || a.toList == b.toList) = leB a b := by rw [less_ltB, beq_dec]; rfl
theorem leB_not (a b : ByteArray) : leB a b = !ltB b a := by
  unfold leB
  rcases ltB_tot a b with h | h | h
  · rw [h, ltB_asym h]; rfl
  · subst h; rw [ltB_irr]; simp
  · rw [h, ltB_asym h, decide_eq_false (ltB_ne h).symm]; rfl
def ipA (x : It) (st : List It × Bool) (y : It) : List It × Bool := if !st.2 && leB x.k y.k then (st.1 ++ [x], true) else st
def ipSt (x : It) (st : List It × Bool) (y : It) : List It × Bool := if decide (y.k = x.k) then ipA x st y else ((ipA x st y).1 ++ [y], (ipA x st y).2)
def ipO (l : List It) (x : It) : List It := if (l.foldl (ipSt x) ([], false)).2 then (l.foldl (ipSt x) ([], false)).1 else (l.foldl (ipSt x) ([], false)).1 ++ [x]
def ixPut (l : List It) (x : It) : List It := l.filter (fun y => ltB y.k x.k) ++ x :: l.filter (fun y => ltB x.k y.k)
def ixDel (l : List It) (k : ByteArray) : List It := l.filter (fun y => decide (y.k ≠ k))
def ixGet (l : List It) (k : ByteArray) : Option It := l.find? fun y => decide (y.k = k)
def ixFrom (l : List It) (k : ByteArray) : List It := l.filter (fun y => !ltB y.k k)
theorem ipSt_hit {x y : It} {st : List It × Bool} (h : y.k = x.k) : ipSt x st y = ipA x st y := by simp [ipSt, h]
theorem ipSt_miss {x y : It} {st : List It × Bool} (h : y.k ≠ x.k) : ipSt x st y = ((ipA x st y).1 ++ [y], (ipA x st y).2) := by simp [ipSt, h]
theorem put_placed (x : It) : ∀ (l : List It) (acc : List It), (l.foldl (ipSt x) (acc, true)) = (acc ++ l.filter (fun y => decide (y.k ≠ x.k)), true)
  | [], acc => by simp
  | y :: l, acc => by
    have e : ipA x (acc, true) y = (acc, true) := by simp [ipA]
    rw [List.foldl_cons]
    by_cases h : y.k = x.k
    · rw [ipSt_hit h, e, put_placed x l acc, List.filter_cons, if_neg (by simp [h])]
    · rw [ipSt_miss h, e, put_placed x l (acc ++ [y]), List.filter_cons, if_pos (by simp [h])]
      simp
theorem filter_eq {p q : It → Bool} : ∀ (l : List It), (∀ y ∈ l, p y = q y) → l.filter p = l.filter q
  | [], _ => rfl
  | x :: l, h => by rw [List.filter_cons, List.filter_cons, h x (by simp), filter_eq l (fun y hy => h y (by simp [hy]))]
theorem up_cons {x : It} {l : List It} (h : UpI (x :: l)) : UpI l ∧ ∀ y ∈ l, ltB x.k y.k = true := by
  have := List.pairwise_cons.1 h
  exact ⟨this.2, this.1⟩
theorem put_fold (x : It) : ∀ (l acc : List It), UpI l → (let s := l.foldl (ipSt x) (acc, false); if s.2 then s.1 else s.1 ++ [x]) = acc ++ ixPut l x
  | [], acc, _ => by simp [ixPut]
  | y :: l, acc, h => by
    obtain ⟨h1, h2⟩ := up_cons h
    rw [List.foldl_cons]
    cases hle : leB x.k y.k
    · have hlt : ltB y.k x.k = true := by rw [leB_not] at hle; simpa using hle
      have e : ipSt x (acc, false) y = (acc ++ [y], false) := by
        unfold ipSt
        rw [decide_eq_false (ltB_ne hlt)]
        simp [ipA, hle]
      rw [e, put_fold x l _ h1]
      simp [ixPut, hlt, ltB_asym hlt]
    · have hge : ltB y.k x.k = false := by rw [leB_not] at hle; simpa using hle
      have hall : ∀ z ∈ l, ltB x.k z.k = true := by
        intro z hz
        by_cases e : x.k = y.k
        · rw [e]; exact h2 z hz
        · exact ltB_tr (not_ltB hge (fun e2 => e e2.symm)) (h2 z hz)
      have e1 : l.filter (fun z => ltB z.k x.k) = [] := Tr.filter_no l (fun z hz => ltB_asym (hall z hz))
      have e2 : l.filter (fun z => ltB x.k z.k) = l := Tr.filter_all l hall
      have e3 : l.filter (fun z => decide (z.k ≠ x.k)) = l := Tr.filter_all l (fun z hz => by simpa using (ltB_ne (hall z hz)).symm)
      have ea : ipA x (acc, false) y = (acc ++ [x], true) := by simp [ipA, hle]
      by_cases e : y.k = x.k
      · rw [ipSt_hit e, ea, put_placed x l (acc ++ [x]), e3]
        simp [ixPut, List.filter_cons, hge, e, ltB_irr, e1, e2]
      · rw [ipSt_miss e, ea, put_placed x l (acc ++ [x] ++ [y]), e3]
        have hxy : ltB x.k y.k = true := not_ltB hge e
        simp [ixPut, List.filter_cons, hge, hxy, e1, e2]
theorem ipO_eq {l : List It} (x : It) (h : UpI l) : ipO l x = ixPut l x := by
  have := put_fold x l [] h
  simpa [ipO] using this
theorem up_filter {l : List It} (p : It → Bool) (h : UpI l) : UpI (l.filter p) := List.Pairwise.filter p h
theorem up_put {l : List It} (x : It) (h : UpI l) : UpI (ixPut l x) := by
  show List.Pairwise _ (_ ++ x :: _)
  rw [List.pairwise_append, List.pairwise_cons]
  refine ⟨up_filter _ h, ⟨fun y hy => (List.mem_filter.1 hy).2, up_filter _ h⟩, ?_⟩
  intro a ha b hb
  have h1 : ltB a.k x.k = true := (List.mem_filter.1 ha).2
  rcases List.mem_cons.1 hb with rfl | hb
  · exact h1
  · exact ltB_tr h1 (List.mem_filter.1 hb).2
theorem up_del {l : List It} (k : ByteArray) (h : UpI l) : UpI (ixDel l k) := up_filter _ h
theorem put_parts {l : List It} (x : It) (h : UpI l) : (ixDel l x.k).filter (fun y => ltB y.k x.k) ++ x :: (ixDel l x.k).filter (fun y => !ltB y.k x.k) = ixPut l x := by
  unfold ixDel ixPut
  rw [List.filter_filter, List.filter_filter]
  congr 1
  · exact filter_eq l fun y _ => by
      cases hl : ltB y.k x.k
      · simp
      · simp [ltB_ne hl]
  · congr 1
    refine filter_eq l fun y _ => ?_
    rcases ltB_tot y.k x.k with k | k | k
    · rw [k, ltB_asym k]; simp
    · rw [k, ltB_irr]; simp
    · rw [k, ltB_asym k]; simp [(ltB_ne k).symm]
theorem ixDel_hit {y : It} {l : List It} {k : ByteArray} (e : y.k = k) (h : ∀ z ∈ l, ltB y.k z.k = true) : ixDel (y :: l) k = l := by
  unfold ixDel
  rw [List.filter_cons, if_neg (by simp [e])]
  exact Tr.filter_all l (fun z hz => by rw [← e]; simpa using (ltB_ne (h z hz)).symm)
theorem ixDel_miss {y : It} {l : List It} {k : ByteArray} (e : y.k ≠ k) : ixDel (y :: l) k = y :: ixDel l k := by
  unfold ixDel
  rw [List.filter_cons, if_pos (by simp [e])]
theorem ixGet_hit {y : It} {l : List It} {k : ByteArray} (e : y.k = k) : ixGet (y :: l) k = some y := by simp [ixGet, e]
theorem ixGet_miss {y : It} {l : List It} {k : ByteArray} (e : y.k ≠ k) : ixGet (y :: l) k = ixGet l k := by simp [ixGet, e]
theorem ixDel_len (l : List It) (k : ByteArray) (h : UpI l) : (ixDel l k).length + (if (ixGet l k).isSome then 1 else 0) = l.length := by
  induction l with
  | nil => simp [ixDel, ixGet]
  | cons y l ih =>
    obtain ⟨h1, h2⟩ := up_cons h
    have := ih h1
    by_cases e : y.k = k
    · rw [ixDel_hit e h2, ixGet_hit e]; simp
    · rw [ixDel_miss e, ixGet_miss e, List.length_cons, List.length_cons]; omega
theorem filter_two (m : List It) (p : It → Bool) : (m.filter p).length + (m.filter fun y => !p y).length = m.length := by
  induction m with
  | nil => rfl
  | cons y m ih => rw [List.filter_cons, List.filter_cons]; cases p y <;> simp <;> omega
theorem ixPut_len (l : List It) (x : It) (h : UpI l) : (ixPut l x).length = if (ixGet l x.k).isSome then l.length else l.length + 1 := by
  have h2 : (ixPut l x).length = (ixDel l x.k).length + 1 := by
    rw [← put_parts x h, List.length_append, List.length_cons]
    have := filter_two (ixDel l x.k) (fun y => ltB y.k x.k)
    omega
  have := ixDel_len l x.k h
  split <;> rename_i hs <;> simp only [hs] at this <;> simp at this <;> omega
theorem mem_put {l : List It} {x y : It} (h : y ∈ ixPut l x) : y = x ∨ y ∈ l := by
  rcases List.mem_append.1 h with h | h
  · exact .inr (List.mem_filter.1 h).1
  · rcases List.mem_cons.1 h with h | h
    · exact .inl h
    · exact .inr (List.mem_filter.1 h).1
theorem mem_del {l : List It} {k : ByteArray} {y : It} (h : y ∈ ixDel l k) : y ∈ l := (List.mem_filter.1 h).1
def bgB (p s : ByteArray) : Bool := Lib.hasPrefix s.data.toList p.data.toList
theorem beg_iff (p s : ByteArray) : bgB p s = true ↔ ∃ r, s.data.toList = p.data.toList ++ r := by
  unfold bgB Lib.hasPrefix
  rw [List.isPrefixOf_iff_prefix]
  exact ⟨fun ⟨r, h⟩ => ⟨r, h.symm⟩, fun ⟨r, h⟩ => ⟨r, h.symm⟩⟩
theorem beg_not_lt : ∀ (p r : List UInt8), ¬ (p ++ r) < p
  | [], r, h => by cases h
  | a :: p, r, h => by
    rw [List.cons_append] at h
    rcases List.cons_lt_cons_iff.1 h with h | ⟨_, h⟩
    · exact absurd h (UInt8.lt_irrefl a)
    · exact beg_not_lt p r h
theorem beg_between : ∀ (p s r : List UInt8), ¬ s < p → s < p ++ r → ∃ q, s = p ++ q
  | [], s, r, _, _ => ⟨s, rfl⟩
  | a :: p, [], r, h, _ => absurd (List.nil_lt_cons a p) h
  | a :: p, b :: s, r, h, h2 => by
    rw [List.cons_append] at h2
    rw [List.cons_lt_cons_iff] at h h2
    rcases h2 with h2 | ⟨e, h2⟩
    · exact absurd (.inl h2) h
    · subst e
      obtain ⟨q, hq⟩ := beg_between p s r (fun h3 => h (.inr ⟨rfl, h3⟩)) h2
      exact ⟨q, by rw [hq]; rfl⟩
theorem begins_together (p : ByteArray) : ∀ (l : List It), UpI l → (ixFrom l p).takeWhile (fun y => bgB p y.k) = l.filter (fun y => bgB p y.k)
  | [], _ => rfl
  | y :: l, h => by
    obtain ⟨h1, h2⟩ := up_cons h
    have ih := begins_together p l h1
    unfold ixFrom at ih ⊢
    rw [List.filter_cons, List.filter_cons]
    cases hl : ltB y.k p
    · simp only [Bool.not_false, if_true]
      rw [List.takeWhile_cons]
      cases hb : bgB p y.k
      · simp only [Bool.false_eq_true, if_false]
        symm
        refine Tr.filter_no l fun z hz => ?_
        cases hz2 : bgB p z.k
        · rfl
        · exfalso
          obtain ⟨r, hr⟩ := (beg_iff _ _).1 hz2
          have hyz := h2 z hz
          simp only [ltB, decide_eq_true_eq, decide_eq_false_iff_not] at hl hyz
          rw [hr] at hyz
          obtain ⟨q, hq⟩ := beg_between _ _ _ hl hyz
          have := (beg_iff p y.k).2 ⟨q, hq⟩
          rw [hb] at this; cases this
      · simp only [if_true]
        rw [ih]
    · simp only [Bool.not_true, Bool.false_eq_true, if_false]
      have : bgB p y.k = false := by
        cases hb : bgB p y.k
        · rfl
        · obtain ⟨r, hr⟩ := (beg_iff _ _).1 hb
          simp only [ltB, decide_eq_true_eq] at hl
          rw [hr] at hl
          exact absurd hl (beg_not_lt _ _)
      rw [this, if_neg (by decide), ih]
theorem filter_begin {p : ByteArray} {q : It → Bool} {l : List It} (h : UpI l) (hq : ∀ y ∈ l, q y = true → bgB p y.k = true) : ((ixFrom l p).takeWhile (fun y => bgB p y.k)).filter q = l.filter q := by
  rw [begins_together p l h, List.filter_filter]
  exact filter_eq l fun y hy => by
    cases e : q y
    · rfl
    · rw [hq y hy e]; rfl
def cutK (k : ByteArray) : List UInt8 × List UInt8 × Bool := Lib.cut k.data.toList [32]
def restB (l : List UInt8) : Bool := l.all fun b => decide (33 ≤ b.toNat) && decide (b.toNat ≤ 126)
def validI (x : It) : Bool := (cutK x.k).2.2 && readB (toB (cutK x.k).1) && decide ((splitR x.t).2 = 0) && decide (x.k.size ≤ 4096) && decide (0 ≤ x.z) && decide (x.z ≤ 1099511627776) && restB (cutK x.k).2.1
structure OpI where
  del : Bool
  it : It
def ixPutS (l : List It) (x : It) : List It × Int := if validI x then (if (ixGet l x.k).isNone && decide (l.length = 1048576) then (l, 2) else (ixPut l x, 0)) else (l, 1)
def opS (l : List It) (o : OpI) : List It := if o.del then ixDel l o.it.k else (ixPutS l o.it).1
def opsS (os : List OpI) : List It := os.foldl opS []
structure LGood (n : Nat) (l : List It) : Prop where
  up : UpI l
  len : l.length ≤ n
  ok : ∀ x ∈ l, validI x = true
theorem LGood.op {n : Nat} {l : List It} (h : LGood n l) (o : OpI) : LGood (n + 1) (opS l o) := by
  unfold opS
  split
  · exact ⟨up_del _ h.up, by have := ixDel_len l o.it.k h.up; have := h.len; omega, fun x hx => h.ok x (mem_del hx)⟩
  · unfold ixPutS
    split
    · rename_i hv
      split
      · exact ⟨h.up, by have := h.len; show l.length ≤ _; omega, h.ok⟩
      · exact ⟨up_put _ h.up, by have h8 := ixPut_len l o.it h.up; have h9 := h.len; show (ixPut l o.it).length ≤ _; split at h8 <;> omega, fun x hx => (mem_put hx).elim (fun e => e ▸ hv) (h.ok x)⟩
    · exact ⟨h.up, by have := h.len; show l.length ≤ _; omega, h.ok⟩
theorem LGood.nil : LGood 0 [] := ⟨List.Pairwise.nil, Nat.le_refl _, fun _ h => by cases h⟩
theorem valid_z {x : It} (h : validI x = true) : 0 ≤ x.z ∧ x.z ≤ 1099511627776 := by
  unfold validI at h
  simp only [Bool.and_eq_true, decide_eq_true_eq] at h
  exact ⟨h.1.1.2, h.1.2⟩
end Go.Proofs.YtokfclikhfpmhaaGreatDoor
namespace Go.Proofs.YtokfclikhfpmhaaGreatDoor
open Go.RowKit Go.Sort
set_option linter.unusedVariables false
set_option linter.unusedSimpArgs false
set_option maxRecDepth 100000
def It.val (x : It) : Value := .agg x.vals.toArray
structure ItsRead (w : World) (A : Option Addr) (n : Nat) (L : List It) : Prop where
  len : L.length = n
  rows : Reads w 4 A n (itsC L)
theorem ItsRead.keep {w w' : World} {A : Option Addr} {n : Nat} {L : List It} (h : ItsRead w A n L) (hb : Below w.heap.size w w') : ItsRead w' A n L := ⟨h.len, h.rows.keep hb⟩
theorem ItsRead.nil_ (w : World) (A : Option Addr) : ItsRead w A 0 [] := ⟨rfl, Reads.nil_ _ _ _⟩
theorem ItsRead.at_ {w : World} {A : Option Addr} {n k : Nat} {L : List It} {x : It} (h : ItsRead w A n L) (hk : L[k]? = some x) :
    ∃ b o, A = some ⟨b, o, none⟩ ∧ ∀ j u, x.vals[j]? = some u → w.cell? ⟨b, o + k * 4 + j, none⟩ = some u := by
  have hkl : k < L.length := (List.getElem?_eq_some_iff.1 hk).1
  obtain ⟨b, o, e, hc⟩ := h.rows.2 (by have := h.len; omega)
  refine ⟨b, o, e, fun j u hu => ?_⟩
  have hj : j < 4 := (List.getElem?_eq_some_iff.1 hu).1
  have := hc (4 * k + j) u (by rw [itsC_at L k j x hk hj]; exact hu)
  rw [show o + k * 4 + j = o + (4 * k + j) by omega]
  exact this
def ndC (p : Nat) (x : It) (L R : Option Addr) (n : Nat) (s : Int) : List Value := [.int .u64 (p : Int), .string x.k, .string x.k, .string x.t, .int .i64 x.z, .int .i64 x.r, .pointer L, .pointer R, .int .i64 (n : Int), .int .i64 s]
def NodeAt (w : World) : ITr → Option Addr → Prop
  | .nil, A => A = none
  | .node p x l r, A => ∃ b L R, A = some ⟨b, 0, none⟩ ∧ p < 18446744073709551616 ∧ RowV w b 114 (ndC p x L R (Tr.len (.node p x l r)) (Tr.total It.z (.node p x l r))) ∧ NodeAt w l L ∧ NodeAt w r R
theorem NodeAt.nil_ {w : World} : NodeAt w .nil none := rfl
theorem NodeAt.keep {w w' : World} (hb : Below w.heap.size w w') : ∀ {t : ITr} {A : Option Addr}, NodeAt w t A → NodeAt w' t A
  | .nil, A, h => h
  | .node p x l r, A, ⟨b, L, R, e, hp, hr, hl, hr2⟩ => ⟨b, L, R, e, hp, hr.keep hb, NodeAt.keep hb hl, NodeAt.keep hb hr2⟩
theorem NodeAt.facts {w : World} {p : Nat} {x : It} {l r : ITr} {A : Option Addr} (h : NodeAt w (.node p x l r) A) : ∃ b L R, A = some ⟨b, 0, none⟩ ∧ NodeAt w l L ∧ NodeAt w r R ∧ p < 18446744073709551616 ∧ RowV w b 114 (ndC p x L R (Tr.len (.node p x l r)) (Tr.total It.z (.node p x l r))) ∧
    w.cell? ⟨b, 0, none⟩ = some (.int .u64 (p : Int)) ∧ w.cell? ⟨b, 1, none⟩ = some (.string x.k) ∧ w.cell? ⟨b, 6, none⟩ = some (.pointer L) ∧ w.cell? ⟨b, 7, none⟩ = some (.pointer R) := by
  obtain ⟨b, L, R, e, hp, hr, hl, hr2⟩ := h
  exact ⟨b, L, R, e, hl, hr2, hp, hr, hr.cell rfl, hr.cell rfl, hr.cell rfl, hr.cell rfl⟩
structure TrOk (t : ITr) : Prop where
  len : Tr.len t ≤ 1000
  z : ∀ x ∈ Tr.toL t, 0 ≤ x.z ∧ x.z ≤ 1099511627776
theorem tot_bound : ∀ (t : ITr), (∀ x ∈ Tr.toL t, 0 ≤ x.z ∧ x.z ≤ 1099511627776) → 0 ≤ Tr.total It.z t ∧ Tr.total It.z t ≤ (Tr.len t : Int) * 1099511627776
  | .nil, _ => by simp [Tr.total, Tr.len]
  | .node p x l r, h => by
    have h1 := tot_bound l (fun y hy => h y (by simp [Tr.toL, hy]))
    have h2 := tot_bound r (fun y hy => h y (by simp [Tr.toL, hy]))
    have h3 := h x (by simp [Tr.toL])
    simp only [Tr.total, Tr.len]
    omega
theorem TrOk.bound {t : ITr} (h : TrOk t) : Tr.len t ≤ 1000 ∧ 0 ≤ Tr.total It.z t ∧ Tr.total It.z t ≤ 1099511627776000 := by
  have := tot_bound t h.z
  have := h.len
  omega
theorem TrOk.left {p : Nat} {x : It} {l r : ITr} (h : TrOk (.node p x l r)) : TrOk l := ⟨by have := h.len; simp only [Tr.len] at this; omega, fun y hy => h.z y (by simp [Tr.toL, hy])⟩
theorem TrOk.right {p : Nat} {x : It} {l r : ITr} (h : TrOk (.node p x l r)) : TrOk r := ⟨by have := h.len; simp only [Tr.len] at this; omega, fun y hy => h.z y (by simp [Tr.toL, hy])⟩
theorem TrOk.item {p : Nat} {x : It} {l r : ITr} (h : TrOk (.node p x l r)) : 0 ≤ x.z ∧ x.z ≤ 1099511627776 := h.z x (by simp [Tr.toL])
theorem TrOk.nil : TrOk .nil := ⟨by simp [Tr.len], fun x h => by cases h⟩
end Go.Proofs.YtokfclikhfpmhaaGreatDoor
namespace Go.Proofs.YtokfclikhfpmhaaGreatDoor
open Go.RowKit Go.Sort
set_option linter.unusedVariables false
set_option linter.unusedSimpArgs false
set_option maxRecDepth 100000
def adrT (k : ByteArray) : ByteArray := if (cutK k).2.2 then toB (cutK k).1 else ⟨#[]⟩
def restT (k : ByteArray) : ByteArray := toB (cutK k).2.1
def adrV (k : ByteArray) : Value := .tuple #[.string (if (cutK k).2.2 then toB (cutK k).1 else ⟨#[]⟩), .string (toB (cutK k).2.1), .bool (cutK k).2.2]
theorem adrV_eq (k : ByteArray) : adrV k = .tuple #[.string (adrT k), .string (restT k), .bool (cutK k).2.2] := rfl
set_option maxHeartbeats 2000000 in
theorem rAddr15_any (s : ByteArray) (w : World) (hs : s.size ≤ 4294967281) : Calls Tryz.prog 18 #[.string s] w (Ret w (adrV s)) := by
  go_enter Tryz.func18, Tryz.ntmps18
  go_wp2
  go_loopw [5] (fun i wr => ∃ k : Nat, i = .int .i64 k ∧ k ≤ s.size ∧ Hid ((32 : UInt8) ∉ s.data.toList.take k) ∧ Below w.heap.size w wr) (fun i _ => s.size - (intOf i).toNat)
  case atStart => exact ⟨0, rfl, Nat.zero_le _, Lib.hid (by simp), Below.refl _ _⟩
  case round =>
    obtain ⟨k, rfl, hk, HK, hbr⟩ := hrel
    by_cases hlt : k < s.size
    · have hd : ((s[k].toNat : Int) == 32) = (s[k].toNat == 32) := byte_int s[k] 32
      have hkl : k < s.data.toList.length := by rw [← Lib.size_eq]; exact hlt
      have hat := byte_at s k hlt
      cases hb : (s[k].toNat == 32)
      · rw [hb] at hd
        have hne : s[k] ≠ 32 := fun e => by rw [e] at hb; simp at hb
        have HK2 : Hid ((32 : UInt8) ∉ s.data.toList.take (k + 1)) := Lib.hid (by
          rw [take_snocB s k hlt]
          simp only [List.mem_append, List.mem_singleton, not_or]
          exact ⟨HK.out, fun e => hne e.symm⟩)
        clear hb HK hat hne
        go_wp2
        exact ⟨⟨k + 1, by go_num, by omega, HK2, hbr⟩, by simp [intOf]; omega⟩
      · rw [hb] at hd
        have he : s[k] = 32 := by rw [beq_iff_eq] at hb; exact UInt8.toNat_inj.1 hb
        have hv : adrV s = .tuple #[.string (s.extract 0 k), .string (s.extract (k + 1) s.size), .bool true] := by
          have h1 := at_split s.data.toList k hkl
          rw [← hat, he] at h1
          have h2 : Lib.cut s.data.toList [32] = (s.data.toList.take k, s.data.toList.drop (k + 1), true) := by
            conv => lhs; rw [h1]
            exact cut_hit _ _ _ HK.out
          unfold adrV cutK
          rw [h2]
          have e1 : toB (s.data.toList.take k) = s.extract 0 k := bytes_ext (by rw [Lib.extract_data]; simp [toB])
          have e2 : toB (s.data.toList.drop (k + 1)) = s.extract (k + 1) s.size := bytes_ext (by rw [Lib.extract_to_end]; rfl)
          rw [e1, e2]
          rfl
        have HV := Lib.hid hv
        have hk0 : (0 : Int) ≤ (k : Int) := by omega
        have hk1 : (k : Int) + 1 ≤ (s.size : Int) := by omega
        have hk2 : (k : Int) ≤ (s.size : Int) := by omega
        clear hb HK hat he hv
        go_wp2_with fail
        go_quiet (fail)
        go_wp2
        go_ret3
        rw [HV.out]
        exact ⟨rfl, belB⟩
    · have hv : adrV s = .tuple #[.string ⟨#[]⟩, .string ⟨#[]⟩, .bool false] := by
        have h1 := HK.out
        rw [List.take_of_length_le (by rw [← Lib.size_eq]; omega)] at h1
        unfold adrV cutK
        rw [cut_none _ _ h1]
        rfl
      have HV := Lib.hid hv
      clear hv HK
      go_wp2
      go_ret3
      rw [HV.out]
      exact ⟨rfl, belB⟩
end Go.Proofs.YtokfclikhfpmhaaGreatDoor
namespace Go.Proofs.YtokfclikhfpmhaaGreatDoor
open Go.RowKit Go.Sort
set_option linter.unusedVariables false
set_option linter.unusedSimpArgs false
set_option maxRecDepth 100000
theorem len_any (t : ITr) (A : Option Addr) (w : World) (h : NodeAt w t A) : Calls Tryz.prog 63 #[.pointer A] w (fun e w' => e = .returned (.int .i64 (Tr.len t : Nat)) ∧ w' = w) := by
  cases t with
  | nil =>
    cases (show A = none from h)
    go_enter Tryz.func63, Tryz.ntmps63
    go_wp2
    go_ret
    exact ⟨rfl, rfl⟩
  | node p x l r =>
    obtain ⟨b, L, R, rfl, hp, hr, hl, hr2⟩ := h
    have c8 := hr.cell (k := 8) rfl
    clear hr hl hr2 hp
    generalize Tr.len (.node p x l r) = n at *
    generalize Tr.total It.z (.node p x l r) = s at *
    go_enter Tryz.func63, Tryz.ntmps63
    go_wp2
    go_ret
    exact ⟨rfl, rfl⟩
theorem total_any (t : ITr) (A : Option Addr) (w : World) (h : NodeAt w t A) : Calls Tryz.prog 64 #[.pointer A] w (fun e w' => e = .returned (.int .i64 (Tr.total It.z t)) ∧ w' = w) := by
  cases t with
  | nil =>
    cases (show A = none from h)
    go_enter Tryz.func64, Tryz.ntmps64
    go_wp2
    go_ret
    exact ⟨rfl, rfl⟩
  | node p x l r =>
    obtain ⟨b, L, R, rfl, hp, hr, hl, hr2⟩ := h
    have c9 := hr.cell (k := 9) rfl
    clear hr hl hr2 hp
    generalize Tr.len (.node p x l r) = n at *
    generalize Tr.total It.z (.node p x l r) = s at *
    go_enter Tryz.func64, Tryz.ntmps64
    go_wp2
    go_ret
    exact ⟨rfl, rfl⟩
theorem len_ret (t : ITr) (A : Option Addr) (w : World) (h : NodeAt w t A) : Calls Tryz.prog 63 #[.pointer A] w (Ret w (.int .i64 (Tr.len t : Nat))) := (len_any t A w h).mono (by rintro e w' ⟨rfl, rfl⟩; exact ⟨rfl, Below.refl _ _⟩)
theorem total_ret (t : ITr) (A : Option Addr) (w : World) (h : NodeAt w t A) : Calls Tryz.prog 64 #[.pointer A] w (Ret w (.int .i64 (Tr.total It.z t))) := (total_any t A w h).mono (by rintro e w' ⟨rfl, rfl⟩; exact ⟨rfl, Below.refl _ _⟩)
theorem own_any (p : Nat) (x : It) (l r : ITr) (A : Option Addr) (w : World) (h : NodeAt w (.node p x l r) A) (ho : TrOk (.node p x l r)) : Calls Tryz.prog 124 #[.pointer A] w (Ret w (.int .i64 x.z)) := by
  obtain ⟨b, L, R, rfl, hl, hr2, hp, hr, c0, c1, c6, c7⟩ := h.facts
  have c9 := hr.cell (k := 9) rfl
  have k1 := fun W (hb : Below w.heap.size w W) => total_ret l L W (NodeAt.keep hb hl)
  have k2 := fun W (hb : Below w.heap.size w W) => total_ret r R W (NodeAt.keep hb hr2)
  have hz := ho.item
  have b1 := ho.left.bound
  have b2 := ho.right.bound
  have ht : Tr.total It.z (.node p x l r) = x.z + Tr.total It.z l + Tr.total It.z r := rfl
  have K1 := Lib.hid k1; have K2 := Lib.hid k2
  clear k1 k2 hl hr2 hp hr h ho c0 c1
  generalize Tr.total It.z (.node p x l r) = s at *
  generalize Tr.total It.z l = s1 at *
  generalize Tr.total It.z r = s2 at *
  have e1 : wrap64 (s - s1) = s - s1 := IntWalk.wrap64_in _ (by omega)
  have e2 : wrap64 (s - s1 - s2) = x.z := by rw [IntWalk.wrap64_in _ (by omega)]; omega
  have e3 : wrap64 x.z = x.z := IntWalk.wrap64_in _ (by omega)
  have r6 := cell_regrown c6; have r7 := cell_regrown c7; have r9 := cell_regrown c9
  go_enter Tryz.func124, Tryz.ntmps124
  go_wp2_with fail
  refine wp_region_quiet_below (by kernel_rfl) (by kernel_rfl) ?_; (repeat (any_goals (first | go_big_quiet_step ((first | first | (with_reducible exact qcalls2 K1.out _ _) | (with_reducible exact qcalls2 K2.out _ _))) | quiet_step ((first | first | (with_reducible exact qcalls2 K1.out _ _) | (with_reducible exact qcalls2 K2.out _ _)))))); refine wpQuiet_nil ?_; intro _ hwq; obtain ⟨⟨dq, osq⟩, hwq⟩ := hwq; subst hwq; have hbq := below_regrown (w) dq osq; generalize grow (redrawn (w) dq) osq = wq at *
  go_wp2
  go_ret
  exact ⟨ret_int (by omega), belB⟩
end Go.Proofs.YtokfclikhfpmhaaGreatDoor
namespace Go.Proofs.YtokfclikhfpmhaaGreatDoor
open Go.RowKit Go.Sort
set_option linter.unusedVariables false
set_option linter.unusedSimpArgs false
set_option maxRecDepth 100000
def TrP (t : ITr) (w : World) (e : Ending) (w' : World) : Prop := ∃ B, e = .returned (.pointer B) ∧ NodeAt w' t B ∧ Below w.heap.size w w'
theorem nodeWith_any (p : Nat) (x : It) (l r tl tr : ITr) (A L R : Option Addr) (w : World) (h : NodeAt w (.node p x l r) A) (hL : NodeAt w tl L) (hR : NodeAt w tr R) (ho : TrOk (.node p x l r)) (h1 : TrOk tl) (h2 : TrOk tr) :
    Calls Tryz.prog 95 #[.pointer A, .pointer L, .pointer R] w (TrP (.node p x tl tr) w) := by
  obtain ⟨b, L0, R0, rfl, hl0, hr0, hp, hr, c0, c1, c6, c7⟩ := h.facts
  have c2 := hr.cell (k := 2) rfl
  have c3 := hr.cell (k := 3) rfl
  have c4 := hr.cell (k := 4) rfl
  have c5 := hr.cell (k := 5) rfl
  have c8 := hr.cell (k := 8) rfl
  have c9 := hr.cell (k := 9) rfl
  have k1 := fun W (hb : Below w.heap.size w W) => len_ret tl L W (NodeAt.keep hb hL)
  have k2 := fun W (hb : Below w.heap.size w W) => len_ret tr R W (NodeAt.keep hb hR)
  have k3 := fun W (hb : Below w.heap.size w W) => own_any p x l r _ W (NodeAt.keep hb h) ho
  have k4 := fun W (hb : Below w.heap.size w W) => total_ret tl L W (NodeAt.keep hb hL)
  have k5 := fun W (hb : Below w.heap.size w W) => total_ret tr R W (NodeAt.keep hb hR)
  have hz := ho.item
  have b1 := h1.bound
  have b2 := h2.bound
  have K1 := Lib.hid k1; have K2 := Lib.hid k2; have K3 := Lib.hid k3; have K4 := Lib.hid k4; have K5 := Lib.hid k5; have HL := Lib.hid hL; have HR := Lib.hid hR
  have ht : Tr.total It.z (.node p x tl tr) = x.z + Tr.total It.z tl + Tr.total It.z tr := rfl
  have hn : Tr.len (.node p x tl tr) = 1 + Tr.len tl + Tr.len tr := rfl
  have HT := Lib.hid ht; have HN := Lib.hid hn; have HP := Lib.hid hp
  obtain ⟨D, hD⟩ : ∃ D, D = TrP (.node p x tl tr) w := ⟨_, rfl⟩
  rw [← hD]
  have HD := Lib.hid hD
  clear k1 k2 k3 k4 k5 hl0 hr0 hp hr h ho hL hR h1 h2 ht hn hD
  generalize Tr.len (.node p x l r) = n0 at *
  generalize Tr.total It.z (.node p x l r) = s0 at *
  generalize Tr.total It.z tl = s1 at *
  generalize Tr.total It.z tr = s2 at *
  generalize Tr.len tl = n1 at *
  generalize Tr.len tr = n2 at *
  unfold ndC at *
  go_enter Tryz.func95, Tryz.ntmps95
  go_upto_region 2 with fail
  have r1 : RowV (w.alloc (.cells (ndC p x L0 R0 n0 s0).toArray 114)) w.heap.size 114 (ndC p x L0 R0 n0 s0) := RowV.new w _ _
  have hb1 : Below w.heap.size w (w.alloc (.cells (ndC p x L0 R0 n0 s0).toArray 114)) := balloc (Below.refl _ _) _
  unfold ndC at r1 hb1
  generalize hw1 : World.alloc _ _ = w1 at *
  clear hw1
  have f6 := r1.free 6
  have f7 := r1.free 7
  have d6 := r1.cell (k := 6) rfl
  have d7 := r1.cell (k := 7) rfl
  go_upto_region 3 with fail
  have r2 := (r1.set_ 6 (.pointer L)).set_ 7 (.pointer R)
  have hb2 : Below w.heap.size w ((w1.setCell ⟨w.heap.size, 6, none⟩ (.pointer L)).setCell ⟨w.heap.size, 7, none⟩ (.pointer R)) := (hb1.setCell (by simp) _).setCell (by simp) _
  generalize hw2 : World.setCell _ _ _ = w2 at *
  clear hw2 r1 hb1 f6 f7 d6 d7 c0 c1 c2 c3 c4 c5 c6 c7 c8 c9
  have f8 := r2.free 8
  have d8 := r2.cell (k := 8) rfl
  go_upto_region 4 with (first | (go_at_call 63; refine (K1.out _ belB).mono ?_; rintro e w3 ⟨rfl, hb3⟩; clear K1; have r3 := r2.keep hb3; clear r2 f8 d8; have f8 := r3.free 8; have d8 := r3.cell (k := 8) rfl) | (go_at_call 63; refine (K2.out _ belB).mono ?_; rintro e w4 ⟨rfl, hb4⟩; clear K2; have r4 := r3.keep hb4; clear r3 f8 d8; have f8 := r4.free 8; have d8 := r4.cell (k := 8) rfl))
  have r5 := r4.set_ 8 (.int .i64 (1 + (n1 : Int) + (n2 : Int)))
  have hb5 : Below w.heap.size w (w4.setCell ⟨w.heap.size, 8, none⟩ (.int .i64 (1 + (n1 : Int) + (n2 : Int)))) := belB
  generalize hw5 : World.setCell _ _ _ = w5 at *
  clear hw5 r4 hb2 hb3 hb4 f8 d8
  have f9 := r5.free 9
  have d9 := r5.cell (k := 9) rfl
  go_upto_region 5 with (first | (go_at_call 124; refine (K3.out _ belB).mono ?_; rintro e w6 ⟨rfl, hb6⟩; clear K3; have r6 := r5.keep hb6; clear r5 f9 d9; have f9 := r6.free 9; have d9 := r6.cell (k := 9) rfl) | (go_at_call 64; refine (K4.out _ belB).mono ?_; rintro e w7 ⟨rfl, hb7⟩; clear K4; have r7 := r6.keep hb7; clear r6 f9 d9; have f9 := r7.free 9; have d9 := r7.cell (k := 9) rfl) | (go_at_call 64; refine (K5.out _ belB).mono ?_; rintro e w8 ⟨rfl, hb8⟩; clear K5; have r8 := r7.keep hb8; clear r7 f9 d9; have f9 := r8.free 9; have d9 := r8.cell (k := 9) rfl))
  have r9 := r8.set_ 9 (.int .i64 (x.z + s1 + s2))
  have hb9 : Below w.heap.size w (w8.setCell ⟨w.heap.size, 9, none⟩ (.int .i64 (x.z + s1 + s2))) := belB
  generalize hw9 : World.setCell _ _ _ = w9 at *
  clear hw9 r8 hb5 hb6 hb7 hb8 f9 d9
  go_wp2
  rw [HD.out]
  refine ⟨_, rfl, ⟨w.heap.size, L, R, rfl, HP.out, ?_, NodeAt.keep hb9 HL.out, NodeAt.keep hb9 HR.out⟩, hb9⟩
  rw [HT.out, HN.out]
  have e : ((1 + n1 + n2 : Nat) : Int) = 1 + (n1 : Int) + (n2 : Int) := by omega
  unfold ndC
  rw [e]
  exact r9
end Go.Proofs.YtokfclikhfpmhaaGreatDoor
namespace Go.Proofs.YtokfclikhfpmhaaGreatDoor
open Go.RowKit Go.Sort
set_option linter.unusedVariables false
set_option linter.unusedSimpArgs false
set_option maxRecDepth 100000
abbrev BP := ByteArray × ByteArray
def putA (p : BP) (st : List BP × Bool) (x : BP) : List BP × Bool := if !st.2 && leS p.1 x.1 then (st.1 ++ [p], true) else st
def putSt (p : BP) (st : List BP × Bool) (x : BP) : List BP × Bool := if x.1.toList != p.1.toList then ((putA p st x).1 ++ [x], (putA p st x).2) else putA p st x
def putB (l : List BP) (p : BP) : List BP := if (l.foldl (putSt p) ([], false)).2 then (l.foldl (putSt p) ([], false)).1 else (l.foldl (putSt p) ([], false)).1 ++ [p]
def putP (p : BP) : List BP → List BP
  | [] => [p]
  | x :: l => if leS p.1 x.1 then p :: (x :: l).filter (fun y => y.1.toList != p.1.toList) else x :: putP p l
theorem put_true (p : BP) : ∀ (l acc : List BP), l.foldl (putSt p) (acc, true) = (acc ++ l.filter (fun y => y.1.toList != p.1.toList), true)
  | [], acc => by simp
  | x :: l, acc => by
    rw [List.foldl_cons]
    have e : putA p (acc, true) x = (acc, true) := by simp [putA]
    cases hne : (x.1.toList != p.1.toList)
    · rw [show putSt p (acc, true) x = (acc, true) by simp only [putSt, hne, e]; rfl, put_true p l acc, List.filter_cons, if_neg (by rw [hne]; decide)]
    · rw [show putSt p (acc, true) x = (acc ++ [x], true) by simp only [putSt, hne, e]; rfl, put_true p l (acc ++ [x]), List.filter_cons, if_pos hne]
      simp
theorem put_false (p : BP) : ∀ (l acc : List BP), (if (l.foldl (putSt p) (acc, false)).2 then (l.foldl (putSt p) (acc, false)).1 else (l.foldl (putSt p) (acc, false)).1 ++ [p]) = acc ++ putP p l
  | [], acc => by simp [putP]
  | x :: l, acc => by
    rw [List.foldl_cons]
    cases hle : leS p.1 x.1
    · have e : putA p (acc, false) x = (acc, false) := by simp [putA, hle]
      have hne : (x.1.toList != p.1.toList) = true := by
        rw [ne_iff]
        intro h
        have : leS p.1 x.1 = true := (leS_iff _ _).2 (by rw [h]; exact List.le_refl _)
        rw [hle] at this; cases this
      rw [show putSt p (acc, false) x = (acc ++ [x], false) by simp only [putSt, hne, e]; rfl, put_false p l (acc ++ [x]), putP, hle]
      simp
    · have e : putA p (acc, false) x = (acc ++ [p], true) := by simp [putA, hle]
      have hp : putP p (x :: l) = p :: (x :: l).filter (fun y => y.1.toList != p.1.toList) := by rw [putP, if_pos hle]
      cases hne : (x.1.toList != p.1.toList)
      · rw [show putSt p (acc, false) x = (acc ++ [p], true) by simp only [putSt, hne, e]; rfl, hp, put_true]
        have hf : (x :: l).filter (fun y => y.1.toList != p.1.toList) = l.filter (fun y => y.1.toList != p.1.toList) := by rw [List.filter_cons, if_neg (by rw [hne]; decide)]
        rw [hf]
        simp
      · rw [show putSt p (acc, false) x = (acc ++ [p] ++ [x], true) by simp only [putSt, hne, e]; rfl, hp, put_true]
        have hf : (x :: l).filter (fun y => y.1.toList != p.1.toList) = x :: l.filter (fun y => y.1.toList != p.1.toList) := by rw [List.filter_cons, if_pos hne]
        rw [hf]
        simp
theorem putB_eq (l : List BP) (p : BP) : putB l p = putP p l := by
  have := put_false p l []
  unfold putB
  rw [this]; rfl
theorem putP_ins (p : BP) : ∀ l : List BP, SortedK (lists2 l) → lists2 (putP p l) = insL (lists2 l) (p.1.data.toList, p.2.data.toList)
  | [], _ => rfl
  | x :: l, h => by
    have h' := List.pairwise_cons.1 (show SortedK ((x.1.data.toList, x.2.data.toList) :: lists2 l) from h)
    have hf : p.1.data.toList ≤ x.1.data.toList → l.filter (fun y => y.1.toList != p.1.toList) = l := fun hle => by
      refine List.filter_eq_self.2 fun y hy => (ne_iff _ _).2 fun e => ?_
      have := h'.1 (y.1.data.toList, y.2.data.toList) (List.mem_map_of_mem hy)
      dsimp only at this
      rw [e] at this
      exact List.not_lt.2 hle this
    unfold putP
    show _ = insL ((x.1.data.toList, x.2.data.toList) :: lists2 l) _
    rw [insL]
    by_cases e : p.1.data.toList = x.1.data.toList
    · have hle : p.1.data.toList ≤ x.1.data.toList := by rw [e]; exact List.le_refl _
      have hx : ¬ (x.1.toList != p.1.toList) = true := by rw [ne_iff]; exact fun h => h e.symm
      rw [if_pos ((leS_iff _ _).2 hle), if_pos e, List.filter_cons, if_neg hx, hf hle]
      rfl
    · by_cases e2 : p.1.data.toList < x.1.data.toList
      · have hle := List.le_of_lt e2
        have hx : (x.1.toList != p.1.toList) = true := by rw [ne_iff]; exact fun h => e h.symm
        rw [if_pos ((leS_iff _ _).2 hle), if_neg e, if_pos e2, List.filter_cons, if_pos hx, hf hle]
        rfl
      · rw [if_neg (fun h => e2 (lt_of_le_ne' ((leS_iff _ _).1 h) e)), if_neg e, if_neg e2]
        show _ :: lists2 (putP p l) = _
        rw [putP_ins p l h'.2]
theorem putB_sorted {l : List BP} {a : List (BL × BL)} (h : lists2 l = pairsL a) (q : BL × BL) : lists2 (putB l (toB q.1, toB q.2)) = pairsL (a ++ [q]) := by
  rw [putB_eq, putP_ins _ _ (by rw [h]; exact (good_pairs a).2.2.1), h]
  simp [pairsL, toB]
def qRef : List BP → List ByteArray → Option (List BP)
  | acc, [] => some acc
  | acc, p :: r => match parsePair p with
    | none => none
    | some q => qRef (putB acc (toB q.1, toB q.2)) r
theorem qRef_eq : ∀ (ps : List ByteArray) (acc : List BP) (a : List (BL × BL)), lists2 acc = pairsL a → (qRef acc ps).map lists2 = (qAcc a ps).map pairsL
  | [], acc, a, h => by simp [qRef, qAcc, h]
  | p :: r, acc, a, h => by
    rw [qRef, qAcc]
    cases parsePair p with
    | none => rfl
    | some q => exact qRef_eq r _ _ (putB_sorted h q)
theorem lists2_back (l : List BP) : (lists2 l).map (fun q => (toB q.1, toB q.2)) = l := by
  simp [lists2, Function.comp_def, toB_data]
theorem pairsB_ref (s : ByteArray) : pairsB s = if s.toList.isEmpty then some [] else qRef [] (splitB 38 s) := by
  unfold pairsB
  split
  · rfl
  · have h := qRef_eq (splitB 38 s) [] [] rfl
    have h2 := congrArg (Option.map fun l : List (BL × BL) => l.map fun q => (toB q.1, toB q.2)) h
    rw [Option.map_map, Option.map_map] at h2
    have e : (fun l : List (BL × BL) => l.map fun q => (toB q.1, toB q.2)) ∘ lists2 = id := funext lists2_back
    rw [e, Option.map_id] at h2
    exact h2.symm
theorem at_first (c : UInt8) : ∀ l : BL, c ∈ l → ∃ a b, l = a ++ c :: b ∧ c ∉ a
  | [], h => by simp at h
  | x :: l, h => by
    by_cases e : x = c
    · subst e; exact ⟨[], l, rfl, by simp⟩
    · rcases List.mem_cons.1 h with h | h
      · exact absurd h.symm e
      · obtain ⟨a, b, h1, h2⟩ := at_first c l h
        exact ⟨x :: a, b, by rw [h1]; rfl, by simp [h2]; exact fun e2 => e e2.symm⟩
theorem split_cut (c : UInt8) (t : BL) : splitL c t = (Lib.cut t [c]).1 :: (if (Lib.cut t [c]).2.2 then splitL c (Lib.cut t [c]).2.1 else []) := by
  by_cases h : c ∈ t
  · obtain ⟨a, b, rfl, hna⟩ := at_first c t h
    rw [cut_hit a b c hna, split_hit a b c hna]
    rfl
  · rw [cut_none t c h, split_none t c h]
    rfl
def stemB (s : ByteArray) : ByteArray := toB (Lib.trimSuffix (leftL s).1 [47])
theorem stem_split (s : ByteArray) : ∃ r, splitB 47 (stemB s) = toB (custL s).1 :: r ∧ pathB (custL s) = resB [] r := by
  refine ⟨if (custL s).2.2 then splitB 47 (toB (custL s).2.1) else [], ?_, ?_⟩
  · unfold splitB stemB
    rw [show (toB (Lib.trimSuffix (leftL s).1 [47])).data.toList = Lib.trimSuffix (leftL s).1 [47] from rfl, split_cut]
    unfold custL
    rw [List.map_cons]
    congr 1
    split <;> rfl
  · unfold pathB
    split <;> rfl
end Go.Proofs.YtokfclikhfpmhaaGreatDoor
