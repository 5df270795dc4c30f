/- What 'Tags' returns. -/
import Derived.Test.YtocgkpdolgnbgaaGreatDoorSorted
import Derived.Test.YtocgkpdolgnbgaaGreatDoorPairs
import Derived.Test.YtocgkpdolgnbgaaGreatDoorWrite
import Derived.Lib.Join
import Derived.Lib.SlicesCompact
import Derived.Lib.RowBridge
import Derived.Test.YtocgkpdolgnbgaaGreatDoorProg
import Derived.WalkKit
import Derived.WalkSpells
import Derived.WalkLawsBesides
import Derived.Below
import Derived.Deep.QuietTactic
import Derived.BigQuiet
import Derived.Lib.QuietBelow
import Derived.Lib.Strings
import Derived.Lib.Hide
import Derived.Deep.RegionWith
import Derived.Deep.RegionHeld3
import Derived.Lib.IndexBytes
namespace Go.Proofs.YtocgkpdolgnbgaaGreatDoor
open Go.RowKit Go.Sort
set_option linter.unusedVariables false
set_option linter.unusedSimpArgs false
set_option maxRecDepth 100000
open Go.Sort
def sortL (xs : List (List UInt8)) : List (List UInt8) := xs.mergeSort (fun x y => decide (x ≤ y))
theorem toB_back (l : List (List UInt8)) : (l.map toB).map (·.data.toList) = l := by
  rw [List.map_map]
  exact List.map_id l
theorem lists_enc (ps : List ByteArray) : ps.map Value.string = (lists ps).map encStr := by simp [lists]
theorem lists_len (ps : List ByteArray) : (lists ps).length = ps.length := by simp [lists]
theorem collect_any (gf : Nat) (lb : Array Value) (eg : ∀ args w, (callFunc gf args).run Tryz.prog w = .ok (.enter gf args) w) (ps : List ByteArray) (w : World)
    (lo hi : Nat) (hhi : hi ≤ w.heap.size) (hseq : Iter Tryz.prog gf lb (ps.map .string) (fun _ _ => False) lo hi w) (hlen : ps.length ≤ 1000000000) :
    Calls Tryz.prog 214 #[.func (.func gf) #[] lb] w fun e w' => ∃ v, e = .returned v ∧ w'.ownsRow w.heap.size 9 1 v ps.length (ps.map .string) ∧ Below w.heap.size w w' := by
  have cA := appendSeq_any gf lb eg ps w lo hi hhi hseq hlen
  go_enter Tryz.func214, Tryz.ntmps214
  go_wp2_with (go_at_call 224; refine cA.mono ?_; rintro e w1 ⟨v, rfl, hrow, hb⟩)
  go_ret
  exact ⟨v, rfl, hrow, hb⟩
theorem sorted_any (gf : Nat) (lb : Array Value) (eg : ∀ args w, (callFunc gf args).run Tryz.prog w = .ok (.enter gf args) w) (ps : List ByteArray) (w : World)
    (lo hi : Nat) (hhi : hi ≤ w.heap.size) (hseq : Iter Tryz.prog gf lb (ps.map .string) (fun _ _ => False) lo hi w) (hlen : ps.length ≤ 1000000000) :
    Calls Tryz.prog 194 #[.func (.func gf) #[] lb] w fun e w' => ∃ v, e = .returned v ∧ w'.ownsRow w.heap.size 9 1 v ps.length ((sortL (lists ps)).map encStr) ∧ Below w.heap.size w w' := by
  have cA := collect_any gf lb eg ps w lo hi hhi hseq hlen
  have hll := lists_len ps
  go_enter Tryz.func194, Tryz.ntmps194
  go_wp2_with (go_at_call 214; refine cA.mono ?_; rintro e w1 ⟨v, rfl, hrow, hb⟩)
  rw [lists_enc] at hrow
  rcases hrow.2 with ⟨rfl, hz⟩ | ⟨gb, cap, cur, rfl, hbase, hgb, r1, r2, r3, r4⟩
  · have hps : ps = [] := List.eq_nil_of_length_eq_zero hz
    subst hps
    go_wp2_with (go_at_call 215; refine (Tryz.slices_Sort_string_none none 0 w1).mono ?_; rintro e w' ⟨rfl, rfl⟩)
    go_ret
    exact ⟨_, rfl, by simpa [lists, sortL] using hrow, hb⟩
  · have hH : Holds encStr w1 gb 0 (lists ps).toArray := holds_of_block hgb (by rw [hll]; simpa using r4)
    have hgl : gb < w1.heap.size := (Array.getElem?_eq_some_iff.1 hgb).1
    have cS := Tryz.slices_Sort_string gb 0 cap (lists ps) w1 hH hgl (by omega)
    rw [hll] at cS
    go_wp2_with (go_at_call 215; refine cS.mono ?_; rintro e w' ⟨rfl, nn, os, rfl⟩)
    go_ret
    refine ⟨_, rfl, ?_, hb.grown (grownBy_sorted _) hb.size (fun j hj => by cases hj; exact hbase)⟩
    have := ownsRow_sorted (w := w1) (base := w.heap.size) (g := gb) (cap := cap) (n := nn) (e := 9) (os := os) (cur := cur) (ss := lists ps) (ts := sortL (lists ps)) (by simp [sortL]) hbase hgb (by rw [hll]; exact r1) r2 (by rw [r3])
    rw [hll] at this
    exact this
theorem lens_le : ∀ l : List (List UInt8), (∀ x ∈ l, x.length ≤ 64) → Lib.lens l ≤ l.length * 64
  | [], _ => by simp [Lib.lens]
  | x :: l, h => by
    have h1 := h x (by simp)
    have h2 := lens_le l (fun y hy => h y (by simp [hy]))
    simp only [Lib.lens, List.map_cons, List.sum_cons, List.length_cons] at h2 ⊢
    omega
theorem join_bound (l : List (List UInt8)) (h : ∀ x ∈ l, x.length ≤ 64) : (Lib.join l [44]).length ≤ l.length * 65 := by
  cases l with
  | nil => simp [Lib.join_nil]
  | cons x l =>
    have h1 := h x (by simp)
    have h2 := lens_le l (fun y hy => h y (by simp [hy]))
    rw [Lib.join_cons, List.length_append, Lib.joinTail_length]
    simp only [List.length_singleton, List.length_cons, List.length_nil, Nat.zero_add, Nat.one_mul]
    omega
theorem compactUpTo_mem (d : Array (List UInt8)) : ∀ m, m ≤ d.size → ∀ x ∈ Lib.compactUpTo d m, x ∈ d.toList
  | 0, _, x, hx => by simp [Lib.compactUpTo] at hx
  | m + 1, hm, x, hx => by
    rw [Lib.compactUpTo_succ] at hx
    rcases List.mem_append.1 hx with hx | hx
    · exact compactUpTo_mem d m (by omega) x hx
    · split at hx
      · rw [List.mem_singleton.1 hx]
        have : m < d.size := by omega
        rw [getElem!_pos d m this]
        simp
      · cases hx
theorem compact_mem (zs : List (List UInt8)) (x : List UInt8) (h : x ∈ Lib.compact zs) : x ∈ zs := by
  have := compactUpTo_mem zs.toArray zs.length (by simp) x h
  simpa using this
def tagsL (ps : List ByteArray) : List UInt8 := Lib.join (Lib.compact (sortL (lists ps))) [44]
def tagsR (ps : List ByteArray) : ByteArray × Int :=
  if ps.any (fun p => !isNameB p) then (⟨#[]⟩, 1) else if 4096 < (tagsL ps).length then (⟨#[]⟩, 2) else (toB (tagsL ps), 0)
def tagsV (ps : List ByteArray) : Value := .tuple #[.string (tagsR ps).1, .int .i64 (tagsR ps).2]
theorem grownBy_put {w : World} {g n : Nat} (d : Array (List UInt8)) : w.grownBy (putRow encStr (Sort.ahead w n) g 0 d) (some g) := by
  refine ⟨rfl, rfl, rfl, by simp [putRow, mapBlock, Sort.ahead], fun k hk hne => ?_⟩
  have : g ≠ k := fun e => hne (by rw [e])
  simp [putRow, mapBlock, Sort.ahead, Array.getElem?_modify, this]
end Go.Proofs.YtocgkpdolgnbgaaGreatDoor
