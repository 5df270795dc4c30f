/- What 'write' returns: the text of an address. -/
import Derived.Test.YtocgkpdolgnbgaaGreatDoorHBuilder
import Derived.Test.YtocgkpdolgnbgaaGreatDoorHLower
import Derived.Test.YtocgkpdolgnbgaaGreatDoorHFuncs
import Derived.LoopTactic
import Derived.Test.YtocgkpdolgnbgaaGreatDoorProg
import Derived.WalkKit
import Derived.WalkSpells
import Derived.WalkLawsBesides
import Derived.Below
import Derived.Deep.QuietTactic
import Derived.BigQuiet
import Derived.Lib.QuietBelow
import Derived.Lib.Strings
import Derived.Lib.Hide
import Derived.Deep.RegionWith
import Derived.Deep.RegionHeld3
import Derived.Lib.IndexBytes
namespace Go.Proofs.YtocgkpdolgnbgaaGreatDoor
open Go.RowKit Go.Sort
set_option linter.unusedVariables false
set_option linter.unusedSimpArgs false
set_option maxRecDepth 100000
def queryL (sep : UInt8) : List (List UInt8 × List UInt8) → List UInt8
  | [] => []
  | (k, v) :: r => sep :: (k ++ 61 :: v) ++ queryL 38 r
def pathL (xs : List (List UInt8)) : List UInt8 := xs.flatMap fun p => 47 :: p
def writeL (c : List UInt8) (xs : List (List UInt8)) (qs : List (List UInt8 × List UInt8)) : List UInt8 := c ++ pathL xs ++ queryL 63 qs
def pairCells (qs : List (ByteArray × ByteArray)) : List Value := qs.flatMap fun q => [.string q.1, .string q.2]
def lists (xs : List ByteArray) : List (List UInt8) := xs.map (·.data.toList)
def lists2 (qs : List (ByteArray × ByteArray)) : List (List UInt8 × List UInt8) := qs.map fun q => (q.1.data.toList, q.2.data.toList)
def W06 (c : ByteArray) (xs : List ByteArray) (qs : List (ByteArray × ByteArray)) : List UInt8 := writeL c.data.toList (lists xs) (lists2 qs)
theorem builderAt_alloc {T e : TypeId} {B b : Nat} {p : Value} {bs : List Value} {w : World} (h : Lib.BuilderAt T e B b p bs w) (o : Obj) : Lib.BuilderAt T e B b p bs (w.alloc o) := by
  have hl := h.lt
  obtain ⟨hB, v, hb, hown, hne⟩ := h
  exact ⟨hB, v, (Below.heap_alloc w o b hl).trans hb, hown.alloc o, hne⟩
theorem isBuilder_alloc {T e : TypeId} {B b : Nat} {bs : List Value} {w : World} (h : Lib.IsBuilder T e B b bs w) (o : Obj) : Lib.IsBuilder T e B b bs (w.alloc o) := h.imp (builderAt_alloc · o) (builderAt_alloc · o)
theorem strCells_eq (s : ByteArray) : Lib.strCells s = Lib.byteCells s.data.toList := rfl
theorem byteCells_app (a b : List UInt8) : Lib.byteCells (a ++ b) = Lib.byteCells a ++ Lib.byteCells b := by simp [Lib.byteCells]
def pathK (c : ByteArray) (xs : List ByteArray) (k : Nat) : List UInt8 := c.data.toList ++ pathL ((lists xs).take k)
theorem pathK_succ (c : ByteArray) (xs : List ByteArray) (k : Nat) (x : ByteArray) (h : xs[k]? = some x) : pathK c xs (k + 1) = pathK c xs k ++ (47 :: x.data.toList) := by
  have : (lists xs)[k]? = some x.data.toList := by simp [lists, h]
  unfold pathK pathL
  rw [List.take_add_one, this]
  simp
theorem pathK_le (c : ByteArray) (xs : List ByteArray) (qs : List (ByteArray × ByteArray)) (k : Nat) : (pathK c xs k).length ≤ (W06 c xs qs).length := by
  have h : pathL (lists xs) = pathL ((lists xs).take k) ++ pathL ((lists xs).drop k) := by
    rw [pathL, pathL, pathL, ← List.flatMap_append, List.take_append_drop]
  unfold pathK W06 writeL
  rw [h]
  simp
def sepK (k : Nat) : ByteArray := if k = 0 then ⟨#[63]⟩ else ⟨#[38]⟩
def queryK (c : ByteArray) (xs : List ByteArray) (qs : List (ByteArray × ByteArray)) (k : Nat) : List UInt8 := c.data.toList ++ pathL (lists xs) ++ queryL 63 ((lists2 qs).take k)
theorem queryL_snoc (k v : List UInt8) : ∀ (sep : UInt8) (l : List (List UInt8 × List UInt8)), queryL sep (l ++ [(k, v)]) = queryL sep l ++ ((if l = [] then sep else 38) :: (k ++ 61 :: v))
  | sep, [] => by simp [queryL]
  | sep, (a, b) :: l => by
    rw [List.cons_append, queryL, queryL, queryL_snoc k v 38 l]
    simp
theorem queryL_append : ∀ (sep : UInt8) (l m : List (List UInt8 × List UInt8)), (queryL sep l).length ≤ (queryL sep (l ++ m)).length
  | sep, [], m => by simp [queryL]
  | sep, (a, b) :: l, m => by
    have := queryL_append 38 l m
    simp [queryL]
    omega
theorem queryK_succ (c : ByteArray) (xs : List ByteArray) (qs : List (ByteArray × ByteArray)) (k : Nat) (q : ByteArray × ByteArray) (h : qs[k]? = some q) :
    queryK c xs qs (k + 1) = queryK c xs qs k ++ ((sepK k).data.toList ++ q.1.data.toList ++ [61] ++ q.2.data.toList) := by
  have h' : (lists2 qs)[k]? = some (q.1.data.toList, q.2.data.toList) := by simp [lists2, h]
  have hl : k < (lists2 qs).length := (List.getElem?_eq_some_iff.1 h').1
  unfold queryK
  rw [List.take_add_one, h', Option.toList_some, queryL_snoc]
  by_cases hk : k = 0
  · subst hk
    simp [sepK, queryL]
  · have hne : (lists2 qs).take k ≠ [] := by
      intro e
      have := congrArg List.length e
      rw [List.length_take, Nat.min_eq_left (by omega)] at this
      exact hk (by simpa using this)
    simp [sepK, hk, hne]
theorem queryK_le (c : ByteArray) (xs : List ByteArray) (qs : List (ByteArray × ByteArray)) (k : Nat) : (queryK c xs qs k).length ≤ (W06 c xs qs).length := by
  have := queryL_append 63 ((lists2 qs).take k) ((lists2 qs).drop k)
  rw [List.take_append_drop] at this
  simp [queryK, W06, writeL]
  omega
theorem pairCells_at (qs : List (ByteArray × ByteArray)) : ∀ (k : Nat) (q : ByteArray × ByteArray), qs[k]? = some q → (pairCells qs)[k * 2]? = some (.string q.1) ∧ (pairCells qs)[k * 2 + 1]? = some (.string q.2) := by
  induction qs with
  | nil => intro k q h; simp at h
  | cons a r ih =>
    intro k q h
    cases k with
    | zero => simp at h; subst h; simp [pairCells]
    | succ k =>
      have := ih k q (by simpa using h)
      rw [show (k + 1) * 2 = k * 2 + 1 + 1 by omega]
      simpa [pairCells] using this
theorem pairCells_length (qs : List (ByteArray × ByteArray)) : (pairCells qs).length = qs.length * 2 := by induction qs <;> simp_all [pairCells]; omega
theorem pathK_all (c : ByteArray) (xs : List ByteArray) (qs : List (ByteArray × ByteArray)) (n : Nat) (h : xs.length ≤ n) : pathK c xs n = queryK c xs qs 0 := by
  simp [pathK, queryK, queryL, List.take_of_length_le (show (lists xs).length ≤ n by simpa [lists] using h)]
theorem queryK_all (c : ByteArray) (xs : List ByteArray) (qs : List (ByteArray × ByteArray)) (n : Nat) (h : qs.length ≤ n) : queryK c xs qs n = W06 c xs qs := by
  simp [queryK, W06, writeL, List.take_of_length_le (show (lists2 qs).length ≤ n by simpa [lists2] using h)]
theorem boxed3 {w wr : World} {x y z : Value} {t : TypeId} {o : Obj} (h : Below (w.heap.size + 1) ((w.alloc (.cells #[x, y, z] t)).alloc o) wr) :
    wr.cell? ⟨w.heap.size, 0, none⟩ = some x ∧ wr.cell? ⟨w.heap.size, 1, none⟩ = some y ∧ wr.cell? ⟨w.heap.size, 2, none⟩ = some z ∧ Below w.heap.size w wr := by
  have hb : Below w.heap.size w wr := (balloc (balloc (Below.refl _ w) _) _).trans (h.mono (by omega))
  refine ⟨?_, ?_, ?_, hb⟩ <;> (rw [h.cell (by simp)]; simp [go_sem])
theorem pathL_len : ∀ l : List (List UInt8), l.length ≤ (pathL l).length
  | [] => by simp [pathL]
  | a :: l => by have := pathL_len l; simp only [pathL, List.flatMap_cons, List.length_cons, List.length_append] at this ⊢; omega
theorem queryL_len : ∀ (sep : UInt8) (l : List (List UInt8 × List UInt8)), l.length ≤ (queryL sep l).length
  | sep, [] => by simp [queryL]
  | sep, (a, b) :: l => by have := queryL_len 38 l; simp only [queryL, List.length_cons, List.length_append] at this ⊢; omega
theorem slash_cells (x : ByteArray) : Lib.strCells (⟨#[47]⟩ ++ x) = Lib.byteCells (47 :: x.data.toList) := by simp [Lib.strCells, Lib.byteCells]
theorem pair_cells (s k v : ByteArray) : Lib.strCells (s ++ k ++ ⟨#[61]⟩ ++ v) = Lib.byteCells (s.data.toList ++ k.data.toList ++ [61] ++ v.data.toList) := by simp [Lib.strCells, Lib.byteCells]
set_option maxHeartbeats 4000000 in
theorem write_any (c : ByteArray) (P Q : Option Addr) (np cp nq cq : Nat) (xs : List ByteArray) (qs : List (ByteArray × ByteArray)) (w : World)
    (hP : Reads w 1 P np (xs.map .string)) (hQ : Reads w 2 Q nq (pairCells qs)) (htot : (W06 c xs qs).length ≤ 1000000000) :
    Calls Tryz.prog 160 #[.agg #[.string c, .slice P np cp, .slice Q nq cq]] w (Ret w (.string ⟨(W06 c xs qs).toArray⟩)) := by
  have hnp : np ≤ xs.length ∧ xs.length ≤ np := by have := hP.1; simp at this; omega
  have hnq : nq ≤ qs.length ∧ qs.length ≤ nq := by have := hQ.1; rw [pairCells_length] at this; omega
  have hlens : c.size ≤ 1000000000 ∧ np ≤ 1000000000 ∧ nq ≤ 1000000000 := by
    have h1 := pathL_len (lists xs)
    have h2 := queryL_len 63 (lists2 qs)
    simp only [lists, lists2, List.length_map] at h1 h2
    simp only [W06, writeL, lists, lists2, List.length_append] at htot
    rw [Lib.size_eq]
    omega
  obtain ⟨hc0, hnp9, hnq9⟩ := hlens
  have hB0 := Lib.fresh_isBuilder 148 5 (w.alloc (.cells #[.string c, .slice P np cp, .slice Q nq cq] 153))
  simp only [World.size_alloc] at hB0
  have HP := Lib.hid hP; have HQ := Lib.hid hQ; have HT := Lib.hid htot
  clear hP hQ htot
  go_enter Tryz.func160, Tryz.ntmps160
  go_wp2_with fail
  refine (writeString_any (w.heap.size + 1) (w.heap.size + 1) [] c _ hB0 (by simp; omega) (by simp)).mono ?_
  rintro e w1 ⟨rfl, hB1, hb1⟩
  clear hB0
  obtain ⟨a0, a1, a2, hbw⟩ := boxed3 hb1
  have hB1' : Lib.IsBuilder 148 5 (w.heap.size + 1) (w.heap.size + 1) (Lib.byteCells (pathK c xs 0)) w1 := by
    have : Lib.byteCells (pathK c xs 0) = [] ++ Lib.strCells c := by simp [pathK, pathL, strCells_eq]
    rw [this]; exact .inr hB1
  clear hB1
  obtain ⟨W0, hW0⟩ : ∃ W0, W0 = ((w.alloc (.cells #[.string c, .slice P np cp, .slice Q nq cq] 153)).alloc (.cells #[.pointer none, .slice none 0 0] 148)) := ⟨_, rfl⟩
  rw [← hW0] at hb1
  have HW0 := Lib.hid hW0
  clear hW0 hbw
  go_wp2_with fail
  go_loopw [15] (fun i wr => ∃ k : Nat, k ≤ np ∧ i = .int .i64 k ∧ Lib.IsBuilder 148 5 (w.heap.size + 1) (w.heap.size + 1) (Lib.byteCells (pathK c xs k)) wr ∧ Below (w.heap.size + 1) W0 wr) (fun i _ => np - (intOf i).toNat)
  case atStart => exact ⟨0, Nat.zero_le _, rfl, hB1', hb1⟩
  case round =>
    clear a0 a1 a2 hb1 hB1' w1
    obtain ⟨k, hk, rfl, hB, hb⟩ := hrel
    have hb' := hb
    rw [HW0.out] at hb'
    obtain ⟨a0, a1, a2, hbw⟩ := boxed3 hb'
    clear hb'
    by_cases hlt : k < np
    · have hPr := HP.out.keep hbw
      obtain ⟨pb, po, u, rfl, hu, hcell⟩ := hPr.at_ hlt
      clear hPr
      obtain ⟨x, hx, rfl⟩ : ∃ x, xs[k]? = some x ∧ u = .string x := strs_at hu
      clear hu
      have hsz := pathK_le c xs qs (k + 1)
      rw [pathK_succ c xs k x hx] at hsz
      have hT := HT.out
      simp only [List.length_append, List.length_cons, ← Lib.size_eq] at hsz
      have hxs : x.size ≤ 1000000000 := by omega
      have hlen : (Lib.byteCells (pathK c xs k)).length + (⟨#[47]⟩ ++ x : ByteArray).size ≤ 140737488355328 := by rw [Lib.byteCells_length, ByteArray.size_append, show (⟨#[47]⟩ : ByteArray).size = 1 from rfl]; omega
      clear hT hsz
      have HX := Lib.hid hx; clear hx
      go_wp2_with fail
      refine (writeString_any (w.heap.size + 1) (w.heap.size + 1) _ _ _ hB hlen (by have := hb.size; rw [HW0.out] at this; simp at this; omega)).mono ?_
      rintro e w2 ⟨rfl, hB2, hb2⟩
      go_wp2_with fail
      refine ⟨⟨k + 1, by omega, by go_num, ?_, hb.trans hb2⟩, by simp [intOf]; omega⟩
      rw [pathK_succ c xs k x HX.out, byteCells_app, ← slash_cells]
      exact .inr hB2
    · obtain rfl : k = np := by omega
      rw [pathK_all c xs qs k hnp.2] at hB
      clear hlt
      go_wp2_with fail
      clear a0 a1 a2 hbw
      go_loopw [6, 26] (fun s i wr => ∃ k : Nat, k ≤ nq ∧ i = .int .i64 k ∧ s = .string (sepK k) ∧ Lib.IsBuilder 148 5 (w.heap.size + 1) (w.heap.size + 1) (Lib.byteCells (queryK c xs qs k)) wr ∧ Below (w.heap.size + 1) W0 wr) (fun _ i _ => nq - (intOf i).toNat)
      case atStart => exact ⟨0, Nat.zero_le _, rfl, rfl, hB, hb⟩
      case round =>
        clear hB hb
        obtain ⟨k2, hk2, rfl, rfl, hB, hb⟩ := hrel
        have hb' := hb
        rw [HW0.out] at hb'
        obtain ⟨a0, a1, a2, hbw⟩ := boxed3 hb'
        clear hb'
        by_cases hlt : k2 < nq
        · have hQr := HQ.out.keep hbw
          obtain ⟨pb, po, rfl, hcell⟩ := hQr.2 (by omega)
          clear hQr
          have hql : k2 < qs.length := by omega
          obtain ⟨q, hq⟩ : ∃ q, qs[k2]? = some q := ⟨_, List.getElem?_eq_getElem hql⟩
          obtain ⟨e1, e2⟩ := pairCells_at qs k2 q hq
          have hc1 : wr.cell? ⟨pb, po + k2 * 2, none⟩ = _ := hcell _ _ e1
          have hc2 : wr.cell? ⟨pb, po + k2 * 2 + 1, none⟩ = _ := hcell _ _ e2
          clear hcell e1 e2
          have hsz := queryK_le c xs qs (k2 + 1)
          rw [queryK_succ c xs qs k2 q hq] at hsz
          have hT := HT.out
          have hs1 : (sepK k2).size = 1 := by unfold sepK; split <;> rfl
          simp only [List.length_append, ← Lib.size_eq] at hsz
          have hlen : (Lib.byteCells (queryK c xs qs k2)).length + ((sepK k2) ++ q.1 ++ ⟨#[61]⟩ ++ q.2 : ByteArray).size ≤ 140737488355328 := by
            simp only [Lib.byteCells_length, ByteArray.size_append, show (⟨#[61]⟩ : ByteArray).size = 1 from rfl]; omega
          have hq1 : q.1.size ≤ 1000000000 ∧ q.2.size ≤ 1000000000 := by omega
          have hs2 : (sepK k2).size ≤ 1 := by omega
          clear hT hsz hs1
          have HX := Lib.hid hq; clear hq
          obtain ⟨q1, q2⟩ := q
          dsimp only at hc1 hc2 hlen hq1 HX
          obtain ⟨hq1, hq2⟩ := hq1
          go_wp2_with fail
          refine (writeString_any (w.heap.size + 1) (w.heap.size + 1) _ _ _ (isBuilder_alloc hB _) hlen (by have := hb.size; rw [HW0.out] at this; simp at this; simp; omega)).mono ?_
          rintro e w2 ⟨rfl, hB2, hb2⟩
          go_wp2_with fail
          refine ⟨⟨k2 + 1, by omega, by go_num, by simp [sepK], ?_, (hb.alloc (by have := hb.size; rw [HW0.out] at this; simp at this; omega) _).trans hb2⟩, by simp [intOf]; omega⟩
          rw [queryK_succ c xs qs k2 _ HX.out, byteCells_app, ← pair_cells]
          exact .inr hB2
        · obtain rfl : k2 = nq := by omega
          rw [queryK_all c xs qs k2 hnq.2] at hB
          go_wp2_with fail
          refine (Tryz.Builder_String_any (w.heap.size + 1) (w.heap.size + 1) (W06 c xs qs) _ hB (by have := hb.size; rw [HW0.out] at this; simp at this; omega)).mono ?_
          rintro e w2 ⟨rfl, hb2⟩
          go_wp2_with fail
          go_ret
          exact ⟨rfl, hbw.trans (hb2.mono (by omega))⟩
end Go.Proofs.YtocgkpdolgnbgaaGreatDoor
