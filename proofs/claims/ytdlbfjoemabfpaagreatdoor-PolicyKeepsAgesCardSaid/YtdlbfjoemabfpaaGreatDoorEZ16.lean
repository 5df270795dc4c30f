/- What the specification's split and text return. -/
import Derived.Test.YtdlbfjoemabfpaaGreatDoorEZ15
import Derived.Test.YtdlbfjoemabfpaaGreatDoorEZ9
import Derived.OwnWalk
import Derived.Test.YtdlbfjoemabfpaaGreatDoorProg
import Derived.WalkKit
import Derived.WalkSpells
import Derived.WalkLawsBesides
import Derived.Below
import Derived.Deep.QuietTactic
import Derived.BigQuiet
import Derived.Lib.QuietBelow
import Derived.Lib.Strings
import Derived.Lib.Hide
import Derived.Deep.RegionWith
import Derived.Deep.RegionHeld3
import Derived.Lib.IndexBytes
import Derived.Test.YtdlbfjoemabfpaaGreatDoorEZ11
import Derived.Test.YtdlbfjoemabfpaaGreatDoorEZ6
namespace Go.Proofs.YtdlbfjoemabfpaaGreatDoor
open Go.RowKit Go.Sort
set_option linter.unusedVariables false
set_option linter.unusedSimpArgs false
set_option maxRecDepth 100000
def SplitI (c : UInt8) (l : List UInt8) (k f : Nat) (acc : List ByteArray) : Prop := f ≤ k ∧ c ∉ (l.drop f).take (k - f) ∧ (splitL c l).map toB = acc ++ (splitL c (l.drop f)).map toB
theorem splitI_step {c : UInt8} {l : List UInt8} {k f : Nat} {acc : List ByteArray} (h : SplitI c l k f acc) (hk : k < l.length) (hne : l[k] ≠ c) : SplitI c l (k + 1) f acc := by
  obtain ⟨h1, h2, h3⟩ := h
  refine ⟨by omega, ?_, h3⟩
  have hl : k - f < (l.drop f).length := by rw [List.length_drop]; omega
  rw [show k + 1 - f = (k - f) + 1 by omega, List.take_succ_eq_append_getElem hl]
  simp only [List.mem_append, List.mem_singleton, not_or]
  refine ⟨h2, ?_⟩
  rw [List.getElem_drop]
  intro e
  apply hne
  rw [e]
  congr 1
  omega
theorem splitI_hit {c : UInt8} {l : List UInt8} {k f : Nat} {acc : List ByteArray} (h : SplitI c l k f acc) (hk : k < l.length) (he : l[k] = c) : SplitI c l (k + 1) (k + 1) (acc ++ [toB ((l.drop f).take (k - f))]) := by
  obtain ⟨h1, h2, h3⟩ := h
  refine ⟨Nat.le_refl _, by simp, ?_⟩
  have hl : k - f < (l.drop f).length := by rw [List.length_drop]; omega
  have hs := at_split (l.drop f) (k - f) hl
  have e1 : (l.drop f)[k - f] = c := by
    rw [List.getElem_drop, ← he]
    congr 1
    omega
  rw [e1, List.drop_drop, show f + (k - f + 1) = k + 1 by omega] at hs
  have hsp : splitL c (l.drop f) = (l.drop f).take (k - f) :: splitL c (l.drop (k + 1)) := by
    conv => lhs; rw [hs]
    exact split_hit _ _ _ h2
  rw [h3, hsp]
  simp
theorem splitI_end {c : UInt8} {l : List UInt8} {f : Nat} {acc : List ByteArray} (h : SplitI c l l.length f acc) : (splitL c l).map toB = acc ++ [toB (l.drop f)] := by
  obtain ⟨h1, h2, h3⟩ := h
  rw [List.take_of_length_le (by rw [List.length_drop]; omega)] at h2
  rw [h3, split_none _ _ h2]
  rfl
theorem splitB_eq (c : UInt8) (s : ByteArray) : splitB c s = (splitL c s.data.toList).map toB := rfl
def OwnPost (ps : List ByteArray) (w : World) (e : Ending) (w' : World) : Prop := ∃ A c, e = .returned (.slice A ps.length c) ∧ w'.ownsRow w.heap.size 9 1 (.slice A ps.length c) ps.length (ps.map .string) ∧ Below w.heap.size w w'
set_option maxHeartbeats 2000000 in
theorem rSplit_any (s : ByteArray) (c : UInt8) (w : World) (hs : s.size ≤ 4294967281) : Calls Tryz.prog 137 #[.string s, .int .u8 c.toNat] w (OwnPost (splitB c s) w) := by
  obtain ⟨i0, hi0, hz0, hz1, hz2⟩ := info_parts infoStr
  have HI : Hid ((Tryz.prog.info? 9 = some i0) ∧ i0.zero = some (.string ⟨#[]⟩) ∧ i0.size = 1 ∧ i0.bytes = 16) := Lib.hid ⟨hi0, hz0, hz1, hz2⟩
  clear hi0 hz0 hz1 hz2
  have hsl : s.data.toList.length = s.size := (Lib.size_eq s).symm
  have HSL := Lib.hid hsl
  clear hsl
  go_enter Tryz.func137, Tryz.ntmps137
  go_wp2
  go_loopw [5, 6, 7] (fun vo vf vi wr => ∃ (k f n : Nat) (acc : List ByteArray) (A : Option Addr) (c' : Nat), (vi = .int .i64 k ∧ vf = .int .i64 f ∧ vo = .slice A n c' ∧ k ≤ s.size ∧ f ≤ k ∧ n ≤ k) ∧ Hid (SplitI c s.data.toList k f acc ∧ acc.length = n) ∧ wr.ownsRow w.heap.size 9 1 (.slice A n c') n (acc.map .string) ∧ Below w.heap.size w wr) (fun _ _ i _ => s.size - (intOf i).toNat)
  case atStart => exact ⟨0, 0, 0, [], none, 0, ⟨rfl, rfl, rfl, Nat.zero_le _, Nat.le_refl _, Nat.le_refl _⟩, Lib.hid ⟨⟨Nat.le_refl _, by simp, by simp⟩, rfl⟩, World.ownsRow_nil _ _ _ _, Below.refl _ _⟩
  case round =>
    obtain ⟨k, f, n, acc, A, c', ⟨rfl, rfl, rfl, hk, hf, hn⟩, HK, hown, hbr⟩ := hrel
    have hbs := hbr.size
    by_cases hlt : k < s.size
    · have hd := byte_int s[k] c.toNat
      have hkl : k < s.data.toList.length := by rw [HSL.out]; exact hlt
      have hat := byte_at s k hlt
      cases hb : (s[k].toNat == c.toNat)
      · rw [hb] at hd
        have hne : s.data.toList[k] ≠ c := fun e => by rw [← hat] at e; rw [e] at hb; simp at hb
        have HK2 : Hid (SplitI c s.data.toList (k + 1) f acc ∧ acc.length = n) := Lib.hid ⟨splitI_step HK.out.1 hkl hne, HK.out.2⟩
        clear hb HK hat hne hkl
        go_wp2
        exact ⟨⟨k + 1, f, n, acc, A, c', ⟨by go_num, rfl, rfl, by omega, by omega, by omega⟩, HK2, hown, hbr⟩, by simp [intOf]; omega⟩
      · rw [hb] at hd
        have he : s.data.toList[k] = c := by rw [← hat]; rw [beq_iff_eq] at hb; exact UInt8.toNat_inj.1 hb
        have hpc : toB ((s.data.toList.drop f).take (k - f)) = s.extract f k := bytes_ext (by rw [Lib.extract_data]; rfl)
        have hhit := splitI_hit HK.out.1 hkl he
        rw [hpc] at hhit
        have HK2 : Hid (SplitI c s.data.toList (k + 1) (k + 1) (acc ++ [s.extract f k]) ∧ (acc ++ [s.extract f k]).length = n + 1) := Lib.hid ⟨hhit, by simp [HK.out.2]⟩
        have hk0 : (0 : Int) ≤ (f : Int) := by omega
        have hk1 : (f : Int) ≤ (k : Int) := by omega
        have hk2 : (k : Int) ≤ (s.size : Int) := by omega
        clear hb HK hat he hkl hpc hhit
        go_wp2_with (at_builtin; refine wpList_append_own _ rfl _ _ 27 rfl w.heap.size 9 i0 (.string ⟨#[]⟩) 1 16 Tryz.underlying27 HI.out.1 HI.out.2.1 HI.out.2.2.1 HI.out.2.2.2 rfl (by decide) _ _ _ rfl (hown.alloc _) ⟨wr.heap.size, 0, none⟩ 1 1 [.string (s.extract f k)] rfl rfl (cell_one_new _ _ _) (by simp [Value.oneCell']) (by unfold maxLen; omega) (by omega) (by simp; omega) ?_; intro v' w3 hown' hgrow _; obtain ⟨g', cap', rfl⟩ := ownsRow_succ hown')
        exact ⟨⟨k + 1, k + 1, n + 1, acc ++ [s.extract f k], some ⟨g', 0, none⟩, cap', ⟨by go_num, by go_num, rfl, by omega, by omega, by omega⟩, HK2, by rw [List.map_append]; exact hown', (hbr.alloc hbs _).grown hgrow (by simp; omega) (fun r e => ownsRow_block hown r e)⟩, by simp [intOf]; omega⟩
    · obtain rfl : k = s.size := by omega
      have hpc : toB (s.data.toList.drop f) = s.extract f s.size := bytes_ext (by rw [Lib.extract_to_end]; rfl)
      have hend : splitB c s = acc ++ [s.extract f s.size] := by
        rw [splitB_eq, ← hpc]
        exact splitI_end (by rw [HSL.out]; exact HK.out.1)
      have hlen : (splitB c s).length = n + 1 := by rw [hend]; simp [HK.out.2]
      have HEND := Lib.hid hend
      have HLEN := Lib.hid hlen
      have hk0 : (0 : Int) ≤ (f : Int) := by omega
      have hk1 : (f : Int) ≤ (s.size : Int) := by omega
      clear hpc hend hlen HK
      go_wp2_with (at_builtin; refine wpList_append_own _ rfl _ _ 27 rfl w.heap.size 9 i0 (.string ⟨#[]⟩) 1 16 Tryz.underlying27 HI.out.1 HI.out.2.1 HI.out.2.2.1 HI.out.2.2.2 rfl (by decide) _ _ _ rfl (hown.alloc _) ⟨wr.heap.size, 0, none⟩ 1 1 [.string (s.extract f s.size)] rfl rfl (cell_one_new _ _ _) (by simp [Value.oneCell']) (by unfold maxLen; omega) (by omega) (by simp; omega) ?_; intro v' w3 hown' hgrow _; obtain ⟨g', cap', rfl⟩ := ownsRow_succ hown')
      go_ret
      refine ⟨some ⟨g', 0, none⟩, cap', by rw [HLEN.out]; rfl, ?_, (hbr.alloc hbs _).grown hgrow (by simp; omega) (fun r e => ownsRow_block hown r e)⟩
      rw [HLEN.out, HEND.out, List.map_append]
      exact hown'
def Boxed3 (w : World) (g : Nat) (c : ByteArray) (P : Option Addr) (np cp : Nat) (Q : Option Addr) (nq cq : Nat) : Prop := Blk w g 148 #[.string c, .slice P np cp, .slice Q nq cq] (0, 0)
theorem pathK_add (c : ByteArray) (xs : List ByteArray) (k : Nat) (x : ByteArray) (h : xs[k]? = some x) : toB (pathK c xs k) ++ ⟨#[47]⟩ ++ x = toB (pathK c xs (k + 1)) := by
  rw [pathK_succ c xs k x h]
  exact bytes_ext (by simp [toB])
theorem queryK_add (c : ByteArray) (xs : List ByteArray) (qs : List (ByteArray × ByteArray)) (k : Nat) (q : ByteArray × ByteArray) (h : qs[k]? = some q) : toB (queryK c xs qs k) ++ sepK k ++ q.1 ++ ⟨#[61]⟩ ++ q.2 = toB (queryK c xs qs (k + 1)) := by
  rw [queryK_succ c xs qs k q h]
  exact bytes_ext (by simp [toB])
set_option maxHeartbeats 4000000 in
theorem rText_any (c : ByteArray) (P Q : Option Addr) (np cp nq cq : Nat) (xs : List ByteArray) (qs : List (ByteArray × ByteArray)) (w : World) (hP : Reads w 1 P np (xs.map .string)) (hQ : Reads w 2 Q nq (pairCells qs)) (htot : (W06 c xs qs).length ≤ 1000000000) :
    Calls Tryz.prog 230 #[.agg #[.string c, .slice P np cp, .slice Q nq cq]] w (Ret w (.string (toB (W06 c xs qs)))) := by
  have hnp : xs.length = np := by have := hP.1; simp at this; omega
  have hnq : qs.length = nq := by have := hQ.1; rw [pairCells_length] at this; omega
  have hc0 : toB (pathK c xs 0) = c := by simp [pathK, pathL, toB]
  have hend1 := pathK_all c xs qs np (by omega)
  have hend2 := queryK_all c xs qs nq (by omega)
  have HP := Lib.hid hP; have HQ := Lib.hid hQ; have HNP := Lib.hid hnp; have HNQ := Lib.hid hnq; have HC0 := Lib.hid hc0; have HE1 := Lib.hid hend1; have HE2 := Lib.hid hend2; have HT := Lib.hid htot
  have hnp9 : np ≤ 1000000000 := by
    have := pathL_len (lists xs)
    simp only [W06, writeL, List.length_append] at htot
    simp only [lists, List.length_map] at this htot
    omega
  have hnq9 : nq ≤ 1000000000 := by
    have := queryL_len 63 (lists2 qs)
    simp only [W06, writeL, List.length_append] at htot
    simp only [lists2, List.length_map] at this htot
    omega
  clear hP hQ hnp hnq hc0 hend1 hend2 htot
  go_enter Tryz.func230, Tryz.ntmps230
  go_wp2
  have hX0 : Boxed3 (w.alloc (.cells #[.string c, .slice P np cp, .slice Q nq cq] 148)) w.heap.size c P np cp Q nq cq := World.alloc_heap_new _ _
  go_loopw [3, 4] (fun vs vi wr => ∃ k : Nat, vi = .int .i64 k ∧ k ≤ np ∧ vs = .string (toB (pathK c xs k)) ∧ Boxed3 wr w.heap.size c P np cp Q nq cq ∧ Below w.heap.size w wr) (fun _ i _ => np - (intOf i).toNat)
  case atStart => exact ⟨0, rfl, Nat.zero_le _, by rw [HC0.out], hX0, balloc (Below.refl _ _) _⟩
  case round =>
    clear hX0
    obtain ⟨k, rfl, hk, rfl, hX, hbr⟩ := hrel
    have x1 : wr.cell? ⟨w.heap.size, 1, none⟩ = some (.slice P np cp) := Blk.cell hX 1
    have x2 : wr.cell? ⟨w.heap.size, 2, none⟩ = some (.slice Q nq cq) := Blk.cell hX 2
    by_cases hlt : k < np
    · obtain ⟨x, hx⟩ : ∃ x, xs[k]? = some x := ⟨_, List.getElem?_eq_getElem (by have := HNP.out; omega)⟩
      obtain ⟨b, o, rfl, hcell⟩ := (HP.out.keep hbr).2 (by omega)
      have hc1 : wr.cell? ⟨b, o + k, none⟩ = some (.string x) := hcell k _ (by simp [hx])
      have HS := Lib.hid (pathK_add c xs k x hx)
      have hz1 : (toB (pathK c xs k)).size ≤ 1000000000 := by rw [toB_size]; have := pathK_le c xs qs k; have := HT.out; omega
      have hz2 : x.size ≤ 1000000000 := by have := W06_x c xs qs x (List.mem_of_getElem? hx); have := HT.out; omega
      generalize toB (pathK c xs k) = S at *
      clear hcell hx
      go_wp2
      exact ⟨⟨k + 1, by go_num, by omega, congrArg Value.string HS.out, hX, hbr⟩, by simp [intOf]; omega⟩
    · obtain rfl : k = np := by omega
      have he := HE1.out
      rw [he]
      clear he HE1
      go_wp2
      clear x1 x2
      obtain ⟨wo, rfl⟩ : ∃ wo : World, wo = wr := ⟨_, rfl⟩
      go_loopw [3, 5] (fun vs vi wz => ∃ j : Nat, vi = .int .i64 j ∧ j ≤ nq ∧ vs = .string (toB (queryK c xs qs j)) ∧ Boxed3 wz w.heap.size c P k cp Q nq cq ∧ Below w.heap.size w wz) (fun _ i _ => nq - (intOf i).toNat)
      case atStart => exact ⟨0, rfl, Nat.zero_le _, rfl, hX, hbr⟩
      case round =>
        clear hX hbr
        obtain ⟨j, rfl, hj, rfl, hX, hbr⟩ := hrel
        have x2 : wr.cell? ⟨w.heap.size, 2, none⟩ = some (.slice Q nq cq) := Blk.cell hX 2
        by_cases hlt2 : j < nq
        · obtain ⟨q, hq⟩ : ∃ q, qs[j]? = some q := ⟨_, List.getElem?_eq_getElem (by have := HNQ.out; omega)⟩
          obtain ⟨b, o, rfl, hcell⟩ := (HQ.out.keep hbr).2 (by omega)
          obtain ⟨e1, e2⟩ := pairCells_at qs j q hq
          have hc1 : wr.cell? ⟨b, o + j * 2, none⟩ = _ := hcell _ _ e1
          have hc2 : wr.cell? ⟨b, o + j * 2 + 1, none⟩ = _ := hcell _ _ e2
          have hadd := queryK_add c xs qs j q hq
          have hz1 : (toB (queryK c xs qs j)).size ≤ 1000000000 := by rw [toB_size]; have := queryK_le c xs qs j; have := HT.out; omega
          have hz2 : q.1.size ≤ 1000000000 ∧ q.2.size ≤ 1000000000 := by have := W06_q c xs qs q (List.mem_of_getElem? hq); have := HT.out; omega
          obtain ⟨hz2, hz3⟩ := hz2
          obtain ⟨qk, qv⟩ := q
          dsimp only at hc1 hc2 hadd hz2 hz3
          have hj0 : (0 : Int) ≤ (j : Int) := by omega
          have hj1 : (j : Int) < (nq : Int) := by omega
          clear hcell hq e1 e2
          by_cases h0 : j = 0
          · subst h0
            simp only [Nat.zero_mul, Nat.add_zero] at hc1 hc2
            have HS : Hid (toB (queryK c xs qs 0) ++ ⟨#[63]⟩ ++ qk ++ ⟨#[61]⟩ ++ qv = toB (queryK c xs qs (0 + 1))) := Lib.hid hadd
            generalize toB (queryK c xs qs 0) = S at *
            clear hadd
            go_wp2_with fail
            have n1 : ¬ 9223372036854775807 < S.size + 1 := by omega
            have n2 : ¬ 9223372036854775807 < S.size + 1 + qk.size := by omega
            have n3 : ¬ 9223372036854775807 < S.size + 1 + qk.size + 1 := by omega
            have n4 : ¬ 9223372036854775807 < S.size + 1 + qk.size + 1 + qv.size := by omega
            go_quiet (fail)
            go_wp2
            exact ⟨⟨1, by go_num, by omega, congrArg Value.string HS.out, Blk.keep hX belB, belB⟩, by simp [intOf]; omega⟩
          · have HS : Hid (toB (queryK c xs qs j) ++ ⟨#[38]⟩ ++ qk ++ ⟨#[61]⟩ ++ qv = toB (queryK c xs qs (j + 1))) := Lib.hid (by simpa [sepK, h0] using hadd)
            have hd : ((j : Int) == 0) = false := beq_eq_false_iff_ne.2 (by omega)
            generalize toB (queryK c xs qs j) = S at *
            clear hadd
            go_wp2_with fail
            have n1 : ¬ 9223372036854775807 < S.size + 1 := by omega
            have n2 : ¬ 9223372036854775807 < S.size + 1 + qk.size := by omega
            have n3 : ¬ 9223372036854775807 < S.size + 1 + qk.size + 1 := by omega
            have n4 : ¬ 9223372036854775807 < S.size + 1 + qk.size + 1 + qv.size := by omega
            go_quiet (fail)
            go_wp2
            exact ⟨⟨j + 1, by go_num, by omega, congrArg Value.string HS.out, Blk.keep hX belB, belB⟩, by simp [intOf]; omega⟩
        · obtain rfl : j = nq := by omega
          have he := HE2.out
          rw [he]
          go_wp2
          go_ret
          exact ⟨rfl, hbr⟩
end Go.Proofs.YtdlbfjoemabfpaaGreatDoor
namespace Go.Proofs.YtdlbfjoemabfpaaGreatDoor
open Go.RowKit Go.Sort
set_option linter.unusedVariables false
set_option linter.unusedSimpArgs false
set_option maxRecDepth 100000
def sufB (p : ByteArray) : Bool := decide (1 < p.size) && (p.data.toList.head? == some 42)
def endsB (p w : ByteArray) : Bool := decide (p.size - 1 < w.size) && ((w.extract (w.size - (p.size - 1)) w.size).toList == (p.extract 1 p.size).toList)
def mtchB (p w : ByteArray) : Bool := p.toList == [42] || p.toList == w.toList || (sufB p && endsB p w)
theorem head_byte (s : ByteArray) (h : 0 < s.size) : (s.data.toList.head? == some 42) = (s[0].toNat == 42) := by
  have hl : 0 < s.data.toList.length := by rw [← Lib.size_eq]; exact h
  rw [byte_at s 0 h, List.head?_eq_getElem?, List.getElem?_eq_getElem hl, Bool.eq_iff_iff, beq_iff_eq, beq_iff_eq]
  constructor
  · intro e; injection e with e; rw [e]; rfl
  · intro e; exact congrArg some (UInt8.toNat_inj.1 e)
set_option maxHeartbeats 1000000 in
theorem rSuffix_any (p : ByteArray) (w : World) (hp : p.size ≤ 4294967281) : Calls Tryz.prog 158 #[.string p] w (Ret w (.bool (sufB p))) := by
  by_cases h1 : 1 < p.size
  · have d1 : decide ((1 : Int) < (p.size : Int)) = true := decide_eq_true (by omega)
    have hv : sufB p = (p[0].toNat == 42) := by unfold sufB; rw [decide_eq_true h1, head_byte p (by omega)]; rfl
    have hb := byte_int p[0] 42
    rw [← hv] at hb
    clear hv
    generalize sufB p = b at *
    have h0 : (0 : Int) < (p.size : Int) := by omega
    go_enter Tryz.func158, Tryz.ntmps158
    go_wp2
    go_ret
    exact ⟨ret_bool hb, belB⟩
  · have d1 : decide ((1 : Int) < (p.size : Int)) = false := decide_eq_false (by omega)
    have hv : sufB p = false := by unfold sufB; rw [decide_eq_false h1]; rfl
    rw [hv]
    clear hv
    go_enter Tryz.func158, Tryz.ntmps158
    go_wp2
    go_ret
    exact ⟨rfl, belB⟩
set_option maxHeartbeats 1000000 in
theorem rEnds_any (p s : ByteArray) (w : World) (hp : p.size ≤ 4294967281) (h1 : 1 ≤ p.size) (hs : s.size ≤ 4294967281) : Calls Tryz.prog 159 #[.string p, .string s] w (Ret w (.bool (endsB p s))) := by
  obtain ⟨n, hn⟩ : ∃ n, p.size = n + 1 := ⟨p.size - 1, by omega⟩
  have hi : (p.size : Int) - 1 = (n : Int) := by omega
  unfold endsB
  rw [show p.size - 1 = n by omega]
  by_cases h2 : n < s.size
  · obtain ⟨m, hm⟩ : ∃ m, s.size - n = m := ⟨_, rfl⟩
    have hi2 : (s.size : Int) - (n : Int) = (m : Int) := by omega
    have d1 : decide ((n : Int) < (s.size : Int)) = true := decide_eq_true (by omega)
    have hm0 : (0 : Int) ≤ (m : Int) := by omega
    have hm1 : (m : Int) ≤ (s.size : Int) := by omega
    have hp1 : (1 : Int) ≤ (p.size : Int) := by omega
    rw [hm, decide_eq_true h2, Bool.true_and]
    rw [hn]
    generalize hb : ((s.extract m s.size).toList == (p.extract 1 (n + 1)).toList) = b
    go_enter Tryz.func159, Tryz.ntmps159
    go_wp2_with fail
    go_quiet (fail)
    go_wp2
    go_ret
    exact ⟨rfl, belB⟩
  · have d1 : decide ((n : Int) < (s.size : Int)) = false := decide_eq_false (by omega)
    rw [decide_eq_false h2, Bool.false_and]
    go_enter Tryz.func159, Tryz.ntmps159
    go_wp2_with fail
    go_quiet (fail)
    go_wp2
    go_ret
    exact ⟨rfl, belB⟩
set_option maxHeartbeats 1000000 in
theorem rMatches_any (p s : ByteArray) (w : World) (hp : p.size ≤ 4294967281) (hs : s.size ≤ 4294967281) : Calls Tryz.prog 119 #[.string p, .string s] w (Ret w (.bool (mtchB p s))) := by
  have cS := fun W => rSuffix_any p W hp
  have hsz : sufB p = true → 1 ≤ p.size := by
    intro h; unfold sufB at h; simp only [Bool.and_eq_true, decide_eq_true_eq] at h; omega
  have cE := fun W (h : sufB p = true) => rEnds_any p s W hp (hsz h) hs
  unfold mtchB
  generalize endsB p s = en at *
  generalize sufB p = sf at *
  have HSF := Lib.hid cS
  clear cS hsz
  cases h1 : (p.toList == [42])
  · cases h2 : (p.toList == s.toList)
    · cases sf
      · clear cE
        go_enter Tryz.func119, Tryz.ntmps119
        go_wp2_with (go_at_call 158; refine (HSF.out _).mono ?_; rintro e w1 ⟨rfl, hb1⟩)
        go_ret
        exact ⟨rfl, belB⟩
      · have HEN := Lib.hid (fun W => cE W rfl)
        clear cE
        go_enter Tryz.func119, Tryz.ntmps119
        go_wp2_with (first | (go_at_call 158; refine (HSF.out _).mono ?_; rintro e w1 ⟨rfl, hb1⟩) | (go_at_call 159; refine (HEN.out _).mono ?_; rintro e w2 ⟨rfl, hb2⟩))
        go_ret
        exact ⟨ret_bool (by simp), belB⟩
    · clear cE
      go_enter Tryz.func119, Tryz.ntmps119
      go_wp2
      go_ret
      exact ⟨rfl, belB⟩
  · clear cE
    go_enter Tryz.func119, Tryz.ntmps119
    go_wp2
    go_ret
    exact ⟨rfl, belB⟩
def partR (s : ByteArray) : Bool := if decide (2 < s.size) && ((s.extract 0 2).toList == [42, 46]) then decide (s.size ≤ 34) && isWordB (s.extract 2 s.size) else s.toList == [42] || isWordB s
set_option maxHeartbeats 1000000 in
theorem rPart_any (s : ByteArray) (w : World) (hs : s.size ≤ 4294967200) : Calls Tryz.prog 138 #[.string s] w (Ret w (.bool (partR s))) := by
  have c1 := fun W => rWord_any s W (by omega)
  have c2 := fun W => rWord_any (s.extract 2 s.size) W (by rw [ByteArray.size_extract]; omega)
  unfold partR
  generalize isWordB (s.extract 2 s.size) = b2 at *
  generalize isWordB s = b1 at *
  by_cases h1 : 2 < s.size
  · have d1 : decide ((2 : Int) < (s.size : Int)) = true := decide_eq_true (by omega)
    have q2 : (2 : Int) ≤ (s.size : Int) := by omega
    rw [decide_eq_true h1]
    cases h2 : ((s.extract 0 2).toList == [42, 46])
    · simp only [Bool.and_false, Bool.false_eq_true, if_false]
      cases h3 : (s.toList == [42])
      · have HW := Lib.hid c1
        clear c1 c2
        go_enter Tryz.func138, Tryz.ntmps138
        go_wp2_with (go_at_call 90; refine (HW.out _).mono ?_; rintro e w1 ⟨rfl, hb1⟩)
        go_ret
        exact ⟨ret_bool (by simp), belB⟩
      · clear c1 c2
        go_enter Tryz.func138, Tryz.ntmps138
        go_wp2
        go_ret
        exact ⟨rfl, belB⟩
    · simp only [Bool.and_self, if_true]
      by_cases h4 : s.size ≤ 34
      · have d4 : decide ((s.size : Int) ≤ 34) = true := decide_eq_true (by omega)
        have HW := Lib.hid c2
        rw [decide_eq_true h4]
        clear c1 c2
        go_enter Tryz.func138, Tryz.ntmps138
        go_wp2_with (go_at_call 90; refine (HW.out _).mono ?_; rintro e w1 ⟨rfl, hb1⟩)
        go_ret
        exact ⟨ret_bool (by simp), belB⟩
      · have d4 : decide ((s.size : Int) ≤ 34) = false := decide_eq_false (by omega)
        rw [decide_eq_false h4]
        clear c1 c2
        go_enter Tryz.func138, Tryz.ntmps138
        go_wp2
        go_ret
        exact ⟨rfl, belB⟩
  · have d1 : decide ((2 : Int) < (s.size : Int)) = false := decide_eq_false (by omega)
    rw [decide_eq_false h1]
    simp only [Bool.false_and, Bool.false_eq_true, if_false]
    cases h3 : (s.toList == [42])
    · have HW := Lib.hid c1
      clear c1 c2
      go_enter Tryz.func138, Tryz.ntmps138
      go_wp2_with (go_at_call 90; refine (HW.out _).mono ?_; rintro e w1 ⟨rfl, hb1⟩)
      go_ret
      exact ⟨ret_bool (by simp), belB⟩
    · clear c1 c2
      go_enter Tryz.func138, Tryz.ntmps138
      go_wp2
      go_ret
      exact ⟨rfl, belB⟩
end Go.Proofs.YtdlbfjoemabfpaaGreatDoor
namespace Go.Proofs.YtdlbfjoemabfpaaGreatDoor
open Go.RowKit Go.Sort
set_option linter.unusedVariables false
set_option linter.unusedSimpArgs false
set_option maxRecDepth 100000
def strP (p : Part) : ByteArray := stringP p.kind p.text
theorem sufB_word {s : ByteArray} (h : isWordB s = true) : sufB s = false := by
  have h42 := (word_no h).2.2.2.2.1
  unfold sufB
  rw [Bool.and_eq_false_iff]
  right
  rw [beq_eq_false_iff_ne]
  intro e
  exact h42 (List.mem_of_mem_head? (by rw [e]; rfl))
theorem ends_star {p t : ByteArray} (w : ByteArray) (h : p.data.toList = 42 :: t.data.toList) : endsB p w = (decide (t.size < w.size) && Lib.hasSuffix w.data.toList t.data.toList) := by
  have hz : p.size = t.size + 1 := by rw [size_data, h, size_data]; rfl
  have e : p.extract 1 p.size = t := bytes_ext (by rw [extract_data, h]; rfl)
  unfold endsB
  rw [e, hz, hasSuffix_if, Nat.add_sub_cancel]
  by_cases hl : t.size < w.size
  · rw [decide_eq_true hl, decide_eq_true (show t.size ≤ w.size by omega), Bool.true_and, Bool.true_and]
  · rw [decide_eq_false hl, Bool.false_and, Bool.false_and]
theorem toList_eq (a b : ByteArray) : (a.toList == b.toList) = (a.data.toList == b.data.toList) := by rw [Lib.toList_data, Lib.toList_data]
theorem word_star {w : ByteArray} (h : isWordB w = true) (l : List UInt8) : w.data.toList ≠ 42 :: l := fun e => (word_no h).2.2.2.2.1 (by rw [e]; simp)
theorem fit_end {p : Part} (h : p.kind = 1 ∧ ∃ s : ByteArray, isWordB s = true ∧ s.size ≤ 32 ∧ p.text.data.toList = 46 :: s.data.toList) : p.text.data.toList ≠ [] ∧ 1 ≤ p.text.size := by
  obtain ⟨_, s, _, _, h⟩ := h
  rw [size_data, h]
  exact ⟨by simp, by simp⟩
theorem str0 {p : Part} (h : p.kind = 0) : strP p = p.text := by unfold strP stringP; rw [if_pos h]
theorem str_star {p : Part} (h : p.kind ≠ 0) : (strP p).data.toList = 42 :: p.text.data.toList := by
  unfold strP; rw [str_data, if_neg h]
theorem suf_star {p : Part} (h : p.kind ≠ 0) (hz : 1 ≤ p.text.size) : sufB (strP p) = true := by
  unfold sufB
  have e := str_star h
  rw [size_data, e]
  rw [size_data] at hz
  rw [decide_eq_true (show 1 < (42 :: p.text.data.toList).length by simp only [List.length_cons]; omega)]
  rfl
theorem mtch_has {p : Part} (hp : PartFit p) {w : ByteArray} (hw : isWordB w = true) : mtchB (strP p) w = hasP p.kind p.text w := by
  unfold mtchB
  rcases hp with ⟨hk, ht⟩ | h1 | ⟨hk, ht⟩
  · rw [str0 hk, sufB_word ht, toList_eq, hk]
    have h42 : (p.text.toList == [42]) = false := by
      rw [Lib.toList_data, beq_eq_false_iff_ne]; exact word_star ht []
    rw [h42, Bool.false_or, Bool.false_and, Bool.or_false]
    unfold hasP
    rw [if_pos rfl, toList_eq]
  · obtain ⟨hne, hz⟩ := fit_end h1
    have hk := h1.1
    have e := str_star (p := p) (by omega)
    have h42 : ((strP p).toList == [42]) = false := by
      rw [Lib.toList_data, e, beq_eq_false_iff_ne]
      intro h; injection h with _ h; exact hne h
    have h43 : ((strP p).toList == w.toList) = false := by
      rw [toList_eq, e, beq_eq_false_iff_ne]
      exact fun h => word_star hw _ h.symm
    rw [h42, h43, suf_star (by omega) hz, ends_star w e, hk]
    simp only [Bool.false_or, Bool.true_and]
    unfold hasP
    rw [if_neg (by decide), if_pos rfl]
  · have e := str_star (p := p) (by omega)
    rw [hk, ht, has2, Lib.toList_data, e, ht]
    rfl
theorem part_ok (s : ByteArray) : partR s = partOkB s := by
  unfold partR partOkB
  have hx : ((s.extract 0 2).toList == [42, 46]) = Lib.hasPrefix s.data.toList [42, 46] := by
    rw [Lib.toList_data, Lib.extract_data]
    unfold Lib.hasPrefix
    rw [Bool.eq_iff_iff, beq_iff_eq, List.isPrefixOf_iff_prefix]
    constructor
    · intro h
      refine ⟨s.data.toList.drop 2, ?_⟩
      rw [← h]
      simp
    · rintro ⟨r, h⟩
      rw [← h]; simp
  rw [hx]
  cases hp : Lib.hasPrefix s.data.toList [42, 46]
  · simp
  · obtain ⟨r, hr⟩ := prefix_two hp
    have e : (s.extract 2 s.size).data.toList = r := by rw [extract_data, hr]; rfl
    have hz : s.size = r.length + 2 := by rw [size_data, hr]; rfl
    have h42 : (s.toList == [42]) = false := by rw [Lib.toList_data, hr, beq_eq_false_iff_ne]; simp
    have hw : isWordB s = false := by
      cases h : isWordB s
      · rfl
      · exact absurd hr (word_star h _)
    rw [h42, hw]
    simp only [Bool.and_true, Bool.false_or, Bool.and_true]
    by_cases h2 : 2 < s.size
    · rw [if_pos (by simpa using h2)]
    · rw [if_neg (by simpa using h2)]
      have : isWordB (s.extract 2 s.size) = false := by
        cases h : isWordB (s.extract 2 s.size)
        · rfl
        · have := (word_ne h).1
          rw [e] at this
          exact absurd (List.eq_nil_of_length_eq_zero (by omega)) this
      rw [this, Bool.and_false]
end Go.Proofs.YtdlbfjoemabfpaaGreatDoor
namespace Go.Proofs.YtdlbfjoemabfpaaGreatDoor
open Go.RowKit Go.Sort
set_option linter.unusedVariables false
set_option linter.unusedSimpArgs false
set_option maxRecDepth 100000
def leS (s x : ByteArray) : Bool := Op.bytesLess s.toList x.toList || s.toList == x.toList
theorem foldl_take {α β : Type} (f : β → α → β) (b : β) {l : List α} {k : Nat} {x : α} (hx : l[k]? = some x) : (l.take (k + 1)).foldl f b = f ((l.take k).foldl f b) x := by
  rw [List.take_add_one, hx]; simp
end Go.Proofs.YtdlbfjoemabfpaaGreatDoor
namespace Go.Proofs.YtdlbfjoemabfpaaGreatDoor
open Go.RowKit Go.Sort
set_option linter.unusedVariables false
set_option linter.unusedSimpArgs false
set_option maxRecDepth 100000
def ResBox (w : World) (g : Nat) (s : ByteArray) (e : Int) : Prop := Blk w g 177 #[.string s, .int .i64 e] (0, 0)
theorem blk_free0 {w : World} {g : Nat} {t : TypeId} {cs : Array Value} (h : Blk w g t cs (0, 0)) (i : Nat) : w.frozen? ⟨g, i, none⟩ = false := by
  unfold Blk at h
  simp [World.frozen?, h]
theorem ResBox.facts {w : World} {g : Nat} {s : ByteArray} {e : Int} (h : ResBox w g s e) : w.cell? ⟨g, 0, none⟩ = some (.string s) ∧ w.cell? ⟨g, 1, none⟩ = some (.int .i64 e) ∧ w.frozen? ⟨g, 0, none⟩ = false ∧ w.frozen? ⟨g, 1, none⟩ = false :=
  ⟨Blk.cell h 0, Blk.cell h 1, blk_free0 h 0, blk_free0 h 1⟩
end Go.Proofs.YtdlbfjoemabfpaaGreatDoor
