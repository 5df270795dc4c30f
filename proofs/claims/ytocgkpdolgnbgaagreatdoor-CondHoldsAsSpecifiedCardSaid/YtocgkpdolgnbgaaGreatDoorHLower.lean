/- What 'lower' returns: the text with small letters. -/
import Derived.Test.YtocgkpdolgnbgaaGreatDoorHBase
import Derived.Test.YtocgkpdolgnbgaaGreatDoorHShelf
import Derived.Laws.IdiomStrings
import Derived.LoopTactic
import Derived.Test.YtocgkpdolgnbgaaGreatDoorProg
import Derived.WalkKit
import Derived.WalkSpells
import Derived.WalkLawsBesides
import Derived.Below
import Derived.Deep.QuietTactic
import Derived.BigQuiet
import Derived.Lib.QuietBelow
import Derived.Lib.Strings
import Derived.Lib.Hide
import Derived.Deep.RegionWith
import Derived.Deep.RegionHeld3
import Derived.Lib.IndexBytes
namespace Go.Proofs.YtocgkpdolgnbgaaGreatDoor
open Go.RowKit Go.Sort
set_option linter.unusedVariables false
set_option linter.unusedSimpArgs false
set_option maxRecDepth 100000
def lowN (n : Nat) : Nat := if 65 ≤ n ∧ n ≤ 90 then n + 32 else n
def lowL (l : List UInt8) : List UInt8 := l.map fun b => UInt8.ofNat (lowN b.toNat)
theorem lowN_lt (b : UInt8) : lowN b.toNat < 256 := by have := b.toNat_lt; unfold lowN; split <;> omega
def Blk (w : World) (g : Nat) (t : TypeId) (cs : Array Value) (fr : Nat × Nat) : Prop := w.heap[g]? = some (.cells cs t fr)
section
variable {w w' : World} {g : Nat} {t : TypeId} {cs : Array Value} {fr : Nat × Nat}
theorem Blk.lt (h : Blk w g t cs fr) : g < w.heap.size := by
  rcases Nat.lt_or_ge g w.heap.size with hlt | hge
  · exact hlt
  · unfold Blk at h; rw [Array.getElem?_eq_none hge] at h; cases h
theorem Blk.cell (h : Blk w g t cs fr) (i : Nat) : w.cell? ⟨g, i, none⟩ = cs[i]? := cell_of_row w g i cs t fr h
theorem Blk.free (h : Blk w g t cs fr) (i : Nat) (hi : i < fr.1) : w.frozen? ⟨g, i, none⟩ = false := by
  unfold Blk at h
  simp [World.frozen?, h]
  omega
theorem Blk.keep (h : Blk w g t cs fr) (hb : Below w.heap.size w w') : Blk w' g t cs fr := (hb.block g h.lt).trans h
theorem Blk.set_ (h : Blk w g t cs fr) (i : Nat) (u : Value) : Blk (w.setCell ⟨g, i, none⟩ u) g t (cs.setIfInBounds i u) fr := by
  unfold Blk at h ⊢
  simp [World.setCell, Array.getElem?_modify, h]
end
theorem run_back {P : Program} (w : World) (src dst e : TypeId) (a : Addr) (n cap : Nat) (l : List UInt8) (hn : l.length = n) (hs : P.underlying src = some (.slice e)) (he : P.underlying e = some (.int .u8)) (hd : P.underlying dst = some .string)
    (hc : ∀ j (hj : j < l.length), w.cell? (a.add j) = some (.int .u8 (l[j].toNat : Int))) :
    (convert src dst (.slice (some a) n cap)).run P w = .ok (.string ⟨l.toArray⟩) w := by subst hn; exact run_convert_bytes_back w src dst e a cap l hs he hd hc
def lowAt (s : ByteArray) (k j : Nat) : Int := if j < k then (lowN (s.data.toList[j]?.getD 0).toNat : Nat) else ((s.data.toList[j]?.getD 0).toNat : Nat)
theorem lowAt_step (s : ByteArray) (k j : Nat) : lowAt s (k + 1) j = if j = k then (if 65 ≤ lowAt s k k ∧ lowAt s k k ≤ 90 then lowAt s k k + 97 - 65 else lowAt s k k) else lowAt s k j := by
  unfold lowAt
  by_cases h : j = k
  · subst h
    simp only [Nat.lt_irrefl, if_false, if_true, Nat.lt_add_one, lowN]
    split <;> split <;> omega
  · simp only [h, if_false]
    split <;> split <;> first | rfl | omega
theorem lowAt_bd (s : ByteArray) (k j : Nat) : 0 ≤ lowAt s k j ∧ lowAt s k j < 256 := by
  unfold lowAt
  have h1 := (s.data.toList[j]?.getD 0).toNat_lt
  have h2 := lowN_lt (s.data.toList[j]?.getD 0)
  split <;> omega
theorem lowAt_end (s : ByteArray) (j : Nat) (hj : j < (lowL s.data.toList).length) : lowAt s s.size j = ((lowL s.data.toList)[j].toNat : Nat) := by
  have hl : j < s.data.toList.length := by simpa [lowL] using hj
  have : j < s.size := by rw [Lib.size_eq]; exact hl
  unfold lowAt
  rw [if_pos this]
  have h2 := lowN_lt s.data.toList[j]
  simp only [lowL, List.getElem_map, List.getElem?_eq_getElem hl, Option.getD_some, UInt8.toNat_ofNat']
  omega
set_option maxHeartbeats 1000000 in
theorem lower_any (s : ByteArray) (w : World) (hs : s.size ≤ 4294967281) : Calls Tryz.prog 152 #[.string s] w (Ret w (.string ⟨(lowL s.data.toList).toArray⟩)) := by
  have hcv := fun W => run_bytes_of_string (P := Tryz.prog) W 9 131 5 s Tryz.underlying9 Tryz.underlying131 Tryz.underlying5
  go_enter Tryz.func152, Tryz.ntmps152
  go_wp2
  clear hcv
  obtain ⟨R, hR⟩ : ∃ R, bytesRow s (grownCap w s.size 0 5) = R := ⟨_, rfl⟩
  obtain ⟨C, hC⟩ : ∃ C, grownCap w s.size 0 5 = C := ⟨_, rfl⟩
  have hrow : ∀ j, j < s.size → R[j]? = some (.int .u8 (lowAt s 0 j)) := by
    intro j hj
    rw [← hR, bytesRow_at _ _ _ hj]
    simp only [lowAt, Nat.not_lt_zero, if_false]
    have hl : j < s.data.toList.length := by rw [← Lib.size_eq]; exact hj
    rw [List.getElem?_eq_getElem hl]
    rfl
  have hRs : s.size ≤ R.size := by rw [← hR]; simp only [bytesRow, Array.size_append, Array.size_map]; exact Nat.le_add_right _ _
  rw [hR, hC]
  clear hR hC
  go_loopw [10] (fun i wr => ∃ (k : Nat) (R' : Array Value), k ≤ s.size ∧ i = .int .i64 k ∧ Blk wr w.heap.size 5 R' (R.size, R.size + 1) ∧ (∀ j, j < s.size → R'[j]? = some (.int .u8 (lowAt s k j))) ∧ Below w.heap.size w wr) (fun i _ => s.size - (intOf i).toNat)
  case atStart => exact ⟨0, R, by omega, rfl, heap_alloc_new w _, hrow, by (repeat (first | exact .refl _ _ | assumption | refine .drew ?_ | refine balloc ?_ _ | refine bdrewN ?_ _ | refine .setCell ?_ (by simp <;> omega) _ | refine bstep ?_ (by assumption)))⟩
  case round =>
    obtain ⟨k, R', hk, rfl, hB, hr, hb⟩ := hrel
    have H := Lib.hid hr
    clear hr hrow
    by_cases hlt : k < s.size
    · have hcell : wr.cell? ⟨w.heap.size, k, none⟩ = some (.int .u8 (lowAt s k k)) := by rw [hB.cell]; exact H.out k hlt
      have hfree := hB.free k (by simp; omega)
      have hbd := lowAt_bd s k k
      go_wp2
      · refine ⟨⟨k + 1, _, by omega, by go_num, hB.set_ k _, fun j hj => ?_, by (repeat (first | exact .refl _ _ | assumption | refine .drew ?_ | refine balloc ?_ _ | refine bdrewN ?_ _ | refine .setCell ?_ (by simp <;> omega) _ | refine bstep ?_ (by assumption)))⟩, by simp [intOf]; omega⟩
        rw [Array.getElem?_setIfInBounds, lowAt_step]
        have hkR : k < R'.size := by
          have := H.out k hlt
          exact (Array.getElem?_eq_some_iff.1 this).1
        by_cases e : k = j
        · subst e
          rw [if_pos rfl, if_pos hkR, if_pos rfl, if_pos ⟨by assumption, by assumption⟩]
        · rw [if_neg e, if_neg (Ne.symm e)]
          exact H.out j hj
      all_goals
        refine ⟨⟨k + 1, _, by omega, by go_num, hB, fun j hj => ?_, hb⟩, by simp [intOf]; omega⟩
        rw [H.out j hj, lowAt_step]
        by_cases e : j = k
        · subst e
          rw [if_pos rfl, if_neg (by omega)]
        · rw [if_neg e]
    · obtain rfl : k = s.size := by omega
      have hback : ∀ c, (convert 131 9 (.slice (some ⟨w.heap.size, 0, none⟩) s.size c)).run Tryz.prog wr = .ok (.string ⟨(lowL s.data.toList).toArray⟩) wr := fun c =>
        run_back wr 131 9 5 ⟨w.heap.size, 0, none⟩ s.size c (lowL s.data.toList) (by simp [lowL]) Tryz.underlying131 Tryz.underlying5 Tryz.underlying9 (fun j hj => by
          have hj' : j < s.size := by rw [Lib.size_eq]; simpa [lowL] using hj
          have e : (⟨w.heap.size, 0, none⟩ : Addr).add j = ⟨w.heap.size, j, none⟩ := by unfold Addr.add; split <;> simp_all
          rw [e, hB.cell, H.out j hj', lowAt_end s j hj])
      go_wp2
      go_ret
      exact ⟨rfl, hb⟩
end Go.Proofs.YtocgkpdolgnbgaaGreatDoor
