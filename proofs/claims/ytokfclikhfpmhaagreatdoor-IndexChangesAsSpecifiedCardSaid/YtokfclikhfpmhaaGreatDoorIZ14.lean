/- Plain: what parts of patterns match, cover and have in common. -/
import Derived.Test.YtokfclikhfpmhaaGreatDoorIZ0
import Derived.Test.YtokfclikhfpmhaaGreatDoorIZ12
import Derived.Test.YtokfclikhfpmhaaGreatDoorProg
import Derived.WalkKit
import Derived.WalkSpells
import Derived.WalkLawsBesides
import Derived.Below
import Derived.Deep.QuietTactic
import Derived.BigQuiet
import Derived.Lib.QuietBelow
import Derived.Lib.Strings
import Derived.Lib.Hide
import Derived.Deep.RegionWith
import Derived.Deep.RegionHeld3
import Derived.Lib.IndexBytes
import Derived.OwnWalk
import Derived.Deep.DeepCutAuto
import Derived.Test.YtokfclikhfpmhaaGreatDoorIZ10
namespace Go.Proofs.YtokfclikhfpmhaaGreatDoor
open Go.RowKit Go.Sort
set_option linter.unusedVariables false
set_option linter.unusedSimpArgs false
set_option maxRecDepth 100000
def PartFit (p : Part) : Prop :=
  (p.kind = 0 ∧ isWordB p.text = true) ∨ (p.kind = 1 ∧ ∃ s : ByteArray, isWordB s = true ∧ s.size ≤ 32 ∧ p.text.data.toList = 46 :: s.data.toList) ∨ (p.kind = 2 ∧ p.text = ⟨#[]⟩)
def CustFit (p : Part) : Prop := (p.kind = 0 ∧ isNameB p.text = true) ∨ (p.kind = 2 ∧ p.text = ⟨#[]⟩)
theorem CustFit.part {p : Part} (h : CustFit p) : PartFit p := by
  rcases h with ⟨h1, h2⟩ | h
  · exact .inl ⟨h1, name_word h2⟩
  · exact .inr (.inr h)
theorem size_data (s : ByteArray) : s.size = s.data.toList.length := Lib.size_eq s
end Go.Proofs.YtokfclikhfpmhaaGreatDoor
namespace Go.Proofs.YtokfclikhfpmhaaGreatDoor
open Go.RowKit Go.Sort
set_option linter.unusedVariables false
set_option linter.unusedSimpArgs false
set_option maxRecDepth 100000
def wordsL (ps : List Part) : List ByteArray := ps.map fun p => withP p.kind p.text ⟨#[97]⟩
def joinS (ws : List ByteArray) : ByteArray := toB (Lib.join (lists ws) [47])
end Go.Proofs.YtokfclikhfpmhaaGreatDoor
namespace Go.Proofs.YtokfclikhfpmhaaGreatDoor
open Go.RowKit Go.Sort
set_option linter.unusedVariables false
set_option linter.unusedSimpArgs false
set_option maxRecDepth 100000
def matchesL : List Part → List ByteArray → Bool
  | [], _ => true
  | p :: ps, w :: ws => hasP p.kind p.text w && matchesL ps ws
  | _ :: _, [] => false
def matchP (x : Pat) (a : Adr) : Bool :=
  hasP x.cust.kind x.cust.text a.cust && !decide (a.path.length < x.parts.length) && !(decide (x.parts.length < a.path.length) && !x.tail) && matchesL x.parts a.path
def matchB (p q : ByteArray) : Bool := match compileB p with
  | none => false
  | some x => readB q && matchP x (parseB q).1
end Go.Proofs.YtokfclikhfpmhaaGreatDoor
namespace Go.Proofs.YtokfclikhfpmhaaGreatDoor
open Go.RowKit Go.Sort
set_option linter.unusedVariables false
set_option linter.unusedSimpArgs false
set_option maxRecDepth 100000
def mtL : List Part → List Part → List Part → Option (List Part)
  | acc, [], _ => some acc
  | acc, a :: r, [] => mtL (acc ++ [a]) r []
  | acc, a :: r, b :: q => if meetsP a b then mtL (acc ++ [meetP a b]) r q else none
def commonO (x y : Pat) : Option Pat :=
  if !meetsP x.cust y.cust || (decide (y.parts.length < x.parts.length) && !y.tail) then none else (mtL [] x.parts y.parts).map fun l => ⟨meetP x.cust y.cust, l, x.tail && y.tail⟩
def commonP (x y : Pat) : Option Pat := if x.parts.length < y.parts.length then commonO y x else commonO x y
end Go.Proofs.YtokfclikhfpmhaaGreatDoor
namespace Go.Proofs.YtokfclikhfpmhaaGreatDoor
open Go.RowKit Go.Sort
set_option linter.unusedVariables false
set_option linter.unusedSimpArgs false
set_option maxRecDepth 100000
theorem extract_data (s : ByteArray) (i : Nat) : (s.extract i s.size).data.toList = s.data.toList.drop i := by
  rw [Lib.extract_to_end]
theorem words_len (ps : List Part) : (wordsL ps).length = ps.length := by simp [wordsL]
def coverL : List Part → List Part → Bool
  | [], _ => true
  | _ :: _, [] => false
  | a :: xs, b :: ys => coversP a.kind a.text b.kind b.text && coverL xs ys
def coverB (x y : Pat) : Bool :=
  coversP x.cust.kind x.cust.text y.cust.kind y.cust.text && !decide (y.parts.length < x.parts.length) && !(decide (x.parts.length < y.parts.length) && !x.tail) && !(y.tail && !x.tail) && coverL x.parts y.parts
end Go.Proofs.YtokfclikhfpmhaaGreatDoor
namespace Go.Proofs.YtokfclikhfpmhaaGreatDoor
open Go.RowKit Go.Sort
set_option linter.unusedVariables false
set_option linter.unusedSimpArgs false
set_option maxRecDepth 100000
def SplitI (c : UInt8) (l : List UInt8) (k f : Nat) (acc : List ByteArray) : Prop := f ≤ k ∧ c ∉ (l.drop f).take (k - f) ∧ (splitL c l).map toB = acc ++ (splitL c (l.drop f)).map toB
theorem splitI_step {c : UInt8} {l : List UInt8} {k f : Nat} {acc : List ByteArray} (h : SplitI c l k f acc) (hk : k < l.length) (hne : l[k] ≠ c) : SplitI c l (k + 1) f acc := by
  obtain ⟨h1, h2, h3⟩ := h
  refine ⟨by omega, ?_, h3⟩
  have hl : k - f < (l.drop f).length := by rw [List.length_drop]; omega
  rw [show k + 1 - f = (k - f) + 1 by omega, List.take_succ_eq_append_getElem hl]
  simp only [List.mem_append, List.mem_singleton, not_or]
  refine ⟨h2, ?_⟩
  rw [List.getElem_drop]
  intro e
  apply hne
  rw [e]
  congr 1
  omega
theorem splitI_hit {c : UInt8} {l : List UInt8} {k f : Nat} {acc : List ByteArray} (h : SplitI c l k f acc) (hk : k < l.length) (he : l[k] = c) : SplitI c l (k + 1) (k + 1) (acc ++ [toB ((l.drop f).take (k - f))]) := by
  obtain ⟨h1, h2, h3⟩ := h
  refine ⟨Nat.le_refl _, by simp, ?_⟩
  have hl : k - f < (l.drop f).length := by rw [List.length_drop]; omega
  have hs := at_split (l.drop f) (k - f) hl
  have e1 : (l.drop f)[k - f] = c := by
    rw [List.getElem_drop, ← he]
    congr 1
    omega
  rw [e1, List.drop_drop, show f + (k - f + 1) = k + 1 by omega] at hs
  have hsp : splitL c (l.drop f) = (l.drop f).take (k - f) :: splitL c (l.drop (k + 1)) := by
    conv => lhs; rw [hs]
    exact split_hit _ _ _ h2
  rw [h3, hsp]
  simp
theorem splitI_end {c : UInt8} {l : List UInt8} {f : Nat} {acc : List ByteArray} (h : SplitI c l l.length f acc) : (splitL c l).map toB = acc ++ [toB (l.drop f)] := by
  obtain ⟨h1, h2, h3⟩ := h
  rw [List.take_of_length_le (by rw [List.length_drop]; omega)] at h2
  rw [h3, split_none _ _ h2]
  rfl
theorem splitB_eq (c : UInt8) (s : ByteArray) : splitB c s = (splitL c s.data.toList).map toB := rfl
def OwnPost (ps : List ByteArray) (w : World) (e : Ending) (w' : World) : Prop := ∃ A c, e = .returned (.slice A ps.length c) ∧ w'.ownsRow w.heap.size 9 1 (.slice A ps.length c) ps.length (ps.map .string) ∧ Below w.heap.size w w'
set_option maxHeartbeats 2000000 in
theorem rSplit_any (s : ByteArray) (c : UInt8) (w : World) (hs : s.size ≤ 4294967281) : Calls Tryz.prog 74 #[.string s, .int .u8 c.toNat] w (OwnPost (splitB c s) w) := by
  obtain ⟨i0, hi0, hz0, hz1, hz2⟩ := info_parts infoStr
  have HI : Hid ((Tryz.prog.info? 9 = some i0) ∧ i0.zero = some (.string ⟨#[]⟩) ∧ i0.size = 1 ∧ i0.bytes = 16) := Lib.hid ⟨hi0, hz0, hz1, hz2⟩
  clear hi0 hz0 hz1 hz2
  have hsl : s.data.toList.length = s.size := (Lib.size_eq s).symm
  have HSL := Lib.hid hsl
  clear hsl
  go_enter Tryz.func74, Tryz.ntmps74
  go_wp2
  go_loopw [5, 6, 7] (fun vo vf vi wr => ∃ (k f n : Nat) (acc : List ByteArray) (A : Option Addr) (c' : Nat), (vi = .int .i64 k ∧ vf = .int .i64 f ∧ vo = .slice A n c' ∧ k ≤ s.size ∧ f ≤ k ∧ n ≤ k) ∧ Hid (SplitI c s.data.toList k f acc ∧ acc.length = n) ∧ wr.ownsRow w.heap.size 9 1 (.slice A n c') n (acc.map .string) ∧ Below w.heap.size w wr) (fun _ _ i _ => s.size - (intOf i).toNat)
  case atStart => exact ⟨0, 0, 0, [], none, 0, ⟨rfl, rfl, rfl, Nat.zero_le _, Nat.le_refl _, Nat.le_refl _⟩, Lib.hid ⟨⟨Nat.le_refl _, by simp, by simp⟩, rfl⟩, World.ownsRow_nil _ _ _ _, Below.refl _ _⟩
  case round =>
    obtain ⟨k, f, n, acc, A, c', ⟨rfl, rfl, rfl, hk, hf, hn⟩, HK, hown, hbr⟩ := hrel
    have hbs := hbr.size
    by_cases hlt : k < s.size
    · have hd := byte_int s[k] c.toNat
      have hkl : k < s.data.toList.length := by rw [HSL.out]; exact hlt
      have hat := byte_at s k hlt
      cases hb : (s[k].toNat == c.toNat)
      · rw [hb] at hd
        have hne : s.data.toList[k] ≠ c := fun e => by rw [← hat] at e; rw [e] at hb; simp at hb
        have HK2 : Hid (SplitI c s.data.toList (k + 1) f acc ∧ acc.length = n) := Lib.hid ⟨splitI_step HK.out.1 hkl hne, HK.out.2⟩
        clear hb HK hat hne hkl
        go_wp2
        exact ⟨⟨k + 1, f, n, acc, A, c', ⟨by go_num, rfl, rfl, by omega, by omega, by omega⟩, HK2, hown, hbr⟩, by simp [intOf]; omega⟩
      · rw [hb] at hd
        have he : s.data.toList[k] = c := by rw [← hat]; rw [beq_iff_eq] at hb; exact UInt8.toNat_inj.1 hb
        have hpc : toB ((s.data.toList.drop f).take (k - f)) = s.extract f k := bytes_ext (by rw [Lib.extract_data]; rfl)
        have hhit := splitI_hit HK.out.1 hkl he
        rw [hpc] at hhit
        have HK2 : Hid (SplitI c s.data.toList (k + 1) (k + 1) (acc ++ [s.extract f k]) ∧ (acc ++ [s.extract f k]).length = n + 1) := Lib.hid ⟨hhit, by simp [HK.out.2]⟩
        have hk0 : (0 : Int) ≤ (f : Int) := by omega
        have hk1 : (f : Int) ≤ (k : Int) := by omega
        have hk2 : (k : Int) ≤ (s.size : Int) := by omega
        clear hb HK hat he hkl hpc hhit
        go_wp2_with (at_builtin; refine wpList_append_own _ rfl _ _ 43 rfl w.heap.size 9 i0 (.string ⟨#[]⟩) 1 16 Tryz.underlying43 HI.out.1 HI.out.2.1 HI.out.2.2.1 HI.out.2.2.2 rfl (by decide) _ _ _ rfl (hown.alloc _) ⟨wr.heap.size, 0, none⟩ 1 1 [.string (s.extract f k)] rfl rfl (cell_one_new _ _ _) (by simp [Value.oneCell']) (by unfold maxLen; omega) (by omega) (by simp; omega) ?_; intro v' w3 hown' hgrow _; obtain ⟨g', cap', rfl⟩ := ownsRow_succ hown')
        exact ⟨⟨k + 1, k + 1, n + 1, acc ++ [s.extract f k], some ⟨g', 0, none⟩, cap', ⟨by go_num, by go_num, rfl, by omega, by omega, by omega⟩, HK2, by rw [List.map_append]; exact hown', (hbr.alloc hbs _).grown hgrow (by simp; omega) (fun r e => ownsRow_block hown r e)⟩, by simp [intOf]; omega⟩
    · obtain rfl : k = s.size := by omega
      have hpc : toB (s.data.toList.drop f) = s.extract f s.size := bytes_ext (by rw [Lib.extract_to_end]; rfl)
      have hend : splitB c s = acc ++ [s.extract f s.size] := by
        rw [splitB_eq, ← hpc]
        exact splitI_end (by rw [HSL.out]; exact HK.out.1)
      have hlen : (splitB c s).length = n + 1 := by rw [hend]; simp [HK.out.2]
      have HEND := Lib.hid hend
      have HLEN := Lib.hid hlen
      have hk0 : (0 : Int) ≤ (f : Int) := by omega
      have hk1 : (f : Int) ≤ (s.size : Int) := by omega
      clear hpc hend hlen HK
      go_wp2_with (at_builtin; refine wpList_append_own _ rfl _ _ 43 rfl w.heap.size 9 i0 (.string ⟨#[]⟩) 1 16 Tryz.underlying43 HI.out.1 HI.out.2.1 HI.out.2.2.1 HI.out.2.2.2 rfl (by decide) _ _ _ rfl (hown.alloc _) ⟨wr.heap.size, 0, none⟩ 1 1 [.string (s.extract f s.size)] rfl rfl (cell_one_new _ _ _) (by simp [Value.oneCell']) (by unfold maxLen; omega) (by omega) (by simp; omega) ?_; intro v' w3 hown' hgrow _; obtain ⟨g', cap', rfl⟩ := ownsRow_succ hown')
      go_ret
      refine ⟨some ⟨g', 0, none⟩, cap', by rw [HLEN.out]; rfl, ?_, (hbr.alloc hbs _).grown hgrow (by simp; omega) (fun r e => ownsRow_block hown r e)⟩
      rw [HLEN.out, HEND.out, List.map_append]
      exact hown'
def Boxed3 (w : World) (g : Nat) (c : ByteArray) (P : Option Addr) (np cp : Nat) (Q : Option Addr) (nq cq : Nat) : Prop := Blk w g 46 #[.string c, .slice P np cp, .slice Q nq cq] (0, 0)
theorem pathK_add (c : ByteArray) (xs : List ByteArray) (k : Nat) (x : ByteArray) (h : xs[k]? = some x) : toB (pathK c xs k) ++ ⟨#[47]⟩ ++ x = toB (pathK c xs (k + 1)) := by
  rw [pathK_succ c xs k x h]
  exact bytes_ext (by simp [toB])
theorem queryK_add (c : ByteArray) (xs : List ByteArray) (qs : List (ByteArray × ByteArray)) (k : Nat) (q : ByteArray × ByteArray) (h : qs[k]? = some q) : toB (queryK c xs qs k) ++ sepK k ++ q.1 ++ ⟨#[61]⟩ ++ q.2 = toB (queryK c xs qs (k + 1)) := by
  rw [queryK_succ c xs qs k q h]
  exact bytes_ext (by simp [toB])
set_option maxHeartbeats 4000000 in
theorem rText_any (c : ByteArray) (P Q : Option Addr) (np cp nq cq : Nat) (xs : List ByteArray) (qs : List (ByteArray × ByteArray)) (w : World) (hP : Reads w 1 P np (xs.map .string)) (hQ : Reads w 2 Q nq (pairCells qs)) (htot : (W06 c xs qs).length ≤ 1000000000) :
    Calls Tryz.prog 150 #[.agg #[.string c, .slice P np cp, .slice Q nq cq]] w (Ret w (.string (toB (W06 c xs qs)))) := by
  have hnp : xs.length = np := by have := hP.1; simp at this; omega
  have hnq : qs.length = nq := by have := hQ.1; rw [pairCells_length] at this; omega
  have hc0 : toB (pathK c xs 0) = c := by simp [pathK, pathL, toB]
  have hend1 := pathK_all c xs qs np (by omega)
  have hend2 := queryK_all c xs qs nq (by omega)
  have HP := Lib.hid hP; have HQ := Lib.hid hQ; have HNP := Lib.hid hnp; have HNQ := Lib.hid hnq; have HC0 := Lib.hid hc0; have HE1 := Lib.hid hend1; have HE2 := Lib.hid hend2; have HT := Lib.hid htot
  have hnp9 : np ≤ 1000000000 := by
    have := pathL_len (lists xs)
    simp only [W06, writeL, List.length_append] at htot
    simp only [lists, List.length_map] at this htot
    omega
  have hnq9 : nq ≤ 1000000000 := by
    have := queryL_len 63 (lists2 qs)
    simp only [W06, writeL, List.length_append] at htot
    simp only [lists2, List.length_map] at this htot
    omega
  clear hP hQ hnp hnq hc0 hend1 hend2 htot
  go_enter Tryz.func150, Tryz.ntmps150
  go_wp2
  have hX0 : Boxed3 (w.alloc (.cells #[.string c, .slice P np cp, .slice Q nq cq] 46)) w.heap.size c P np cp Q nq cq := World.alloc_heap_new _ _
  go_loopw [3, 4] (fun vs vi wr => ∃ k : Nat, vi = .int .i64 k ∧ k ≤ np ∧ vs = .string (toB (pathK c xs k)) ∧ Boxed3 wr w.heap.size c P np cp Q nq cq ∧ Below w.heap.size w wr) (fun _ i _ => np - (intOf i).toNat)
  case atStart => exact ⟨0, rfl, Nat.zero_le _, by rw [HC0.out], hX0, balloc (Below.refl _ _) _⟩
  case round =>
    clear hX0
    obtain ⟨k, rfl, hk, rfl, hX, hbr⟩ := hrel
    have x1 : wr.cell? ⟨w.heap.size, 1, none⟩ = some (.slice P np cp) := Blk.cell hX 1
    have x2 : wr.cell? ⟨w.heap.size, 2, none⟩ = some (.slice Q nq cq) := Blk.cell hX 2
    by_cases hlt : k < np
    · obtain ⟨x, hx⟩ : ∃ x, xs[k]? = some x := ⟨_, List.getElem?_eq_getElem (by have := HNP.out; omega)⟩
      obtain ⟨b, o, rfl, hcell⟩ := (HP.out.keep hbr).2 (by omega)
      have hc1 : wr.cell? ⟨b, o + k, none⟩ = some (.string x) := hcell k _ (by simp [hx])
      have HS := Lib.hid (pathK_add c xs k x hx)
      have hz1 : (toB (pathK c xs k)).size ≤ 1000000000 := by rw [toB_size]; have := pathK_le c xs qs k; have := HT.out; omega
      have hz2 : x.size ≤ 1000000000 := by have := W06_x c xs qs x (List.mem_of_getElem? hx); have := HT.out; omega
      generalize toB (pathK c xs k) = S at *
      clear hcell hx
      go_wp2
      exact ⟨⟨k + 1, by go_num, by omega, congrArg Value.string HS.out, hX, hbr⟩, by simp [intOf]; omega⟩
    · obtain rfl : k = np := by omega
      have he := HE1.out
      rw [he]
      clear he HE1
      go_wp2
      clear x1 x2
      obtain ⟨wo, rfl⟩ : ∃ wo : World, wo = wr := ⟨_, rfl⟩
      go_loopw [3, 5] (fun vs vi wz => ∃ j : Nat, vi = .int .i64 j ∧ j ≤ nq ∧ vs = .string (toB (queryK c xs qs j)) ∧ Boxed3 wz w.heap.size c P k cp Q nq cq ∧ Below w.heap.size w wz) (fun _ i _ => nq - (intOf i).toNat)
      case atStart => exact ⟨0, rfl, Nat.zero_le _, rfl, hX, hbr⟩
      case round =>
        clear hX hbr
        obtain ⟨j, rfl, hj, rfl, hX, hbr⟩ := hrel
        have x2 : wr.cell? ⟨w.heap.size, 2, none⟩ = some (.slice Q nq cq) := Blk.cell hX 2
        by_cases hlt2 : j < nq
        · obtain ⟨q, hq⟩ : ∃ q, qs[j]? = some q := ⟨_, List.getElem?_eq_getElem (by have := HNQ.out; omega)⟩
          obtain ⟨b, o, rfl, hcell⟩ := (HQ.out.keep hbr).2 (by omega)
          obtain ⟨e1, e2⟩ := pairCells_at qs j q hq
          have hc1 : wr.cell? ⟨b, o + j * 2, none⟩ = _ := hcell _ _ e1
          have hc2 : wr.cell? ⟨b, o + j * 2 + 1, none⟩ = _ := hcell _ _ e2
          have hadd := queryK_add c xs qs j q hq
          have hz1 : (toB (queryK c xs qs j)).size ≤ 1000000000 := by rw [toB_size]; have := queryK_le c xs qs j; have := HT.out; omega
          have hz2 : q.1.size ≤ 1000000000 ∧ q.2.size ≤ 1000000000 := by have := W06_q c xs qs q (List.mem_of_getElem? hq); have := HT.out; omega
          obtain ⟨hz2, hz3⟩ := hz2
          obtain ⟨qk, qv⟩ := q
          dsimp only at hc1 hc2 hadd hz2 hz3
          have hj0 : (0 : Int) ≤ (j : Int) := by omega
          have hj1 : (j : Int) < (nq : Int) := by omega
          clear hcell hq e1 e2
          by_cases h0 : j = 0
          · subst h0
            simp only [Nat.zero_mul, Nat.add_zero] at hc1 hc2
            have HS : Hid (toB (queryK c xs qs 0) ++ ⟨#[63]⟩ ++ qk ++ ⟨#[61]⟩ ++ qv = toB (queryK c xs qs (0 + 1))) := Lib.hid hadd
            generalize toB (queryK c xs qs 0) = S at *
            clear hadd
            go_wp2_with fail
            have n1 : ¬ 9223372036854775807 < S.size + 1 := by omega
            have n2 : ¬ 9223372036854775807 < S.size + 1 + qk.size := by omega
            have n3 : ¬ 9223372036854775807 < S.size + 1 + qk.size + 1 := by omega
            have n4 : ¬ 9223372036854775807 < S.size + 1 + qk.size + 1 + qv.size := by omega
            go_quiet (fail)
            go_wp2
            exact ⟨⟨1, by go_num, by omega, congrArg Value.string HS.out, Blk.keep hX belB, belB⟩, by simp [intOf]; omega⟩
          · have HS : Hid (toB (queryK c xs qs j) ++ ⟨#[38]⟩ ++ qk ++ ⟨#[61]⟩ ++ qv = toB (queryK c xs qs (j + 1))) := Lib.hid (by simpa [sepK, h0] using hadd)
            have hd : ((j : Int) == 0) = false := beq_eq_false_iff_ne.2 (by omega)
            generalize toB (queryK c xs qs j) = S at *
            clear hadd
            go_wp2_with fail
            have n1 : ¬ 9223372036854775807 < S.size + 1 := by omega
            have n2 : ¬ 9223372036854775807 < S.size + 1 + qk.size := by omega
            have n3 : ¬ 9223372036854775807 < S.size + 1 + qk.size + 1 := by omega
            have n4 : ¬ 9223372036854775807 < S.size + 1 + qk.size + 1 + qv.size := by omega
            go_quiet (fail)
            go_wp2
            exact ⟨⟨j + 1, by go_num, by omega, congrArg Value.string HS.out, Blk.keep hX belB, belB⟩, by simp [intOf]; omega⟩
        · obtain rfl : j = nq := by omega
          have he := HE2.out
          rw [he]
          go_wp2
          go_ret
          exact ⟨rfl, hbr⟩
end Go.Proofs.YtokfclikhfpmhaaGreatDoor
namespace Go.Proofs.YtokfclikhfpmhaaGreatDoor
open Go.RowKit Go.Sort
set_option linter.unusedVariables false
set_option linter.unusedSimpArgs false
set_option maxRecDepth 100000
def leS (s x : ByteArray) : Bool := Op.bytesLess s.toList x.toList || s.toList == x.toList
def insA (s : ByteArray) (st : List ByteArray × Bool) (x : ByteArray) : List ByteArray × Bool := if !st.2 && leS s x then (st.1 ++ [s], true) else st
def insSt (s : ByteArray) (st : List ByteArray × Bool) (x : ByteArray) : List ByteArray × Bool := if x.toList != s.toList then ((insA s st x).1 ++ [x], (insA s st x).2) else insA s st x
def insB (l : List ByteArray) (s : ByteArray) : List ByteArray := if (l.foldl (insSt s) ([], false)).2 then (l.foldl (insSt s) ([], false)).1 else (l.foldl (insSt s) ([], false)).1 ++ [s]
theorem foldl_take {α β : Type} (f : β → α → β) (b : β) {l : List α} {k : Nat} {x : α} (hx : l[k]? = some x) : (l.take (k + 1)).foldl f b = f ((l.take k).foldl f b) x := by
  rw [List.take_add_one, hx]; simp
set_option maxHeartbeats 4000000 in
theorem rInsert_any (A : Option Addr) (n c : Nat) (l : List ByteArray) (s : ByteArray) (w : World) (hR : Reads w 1 A n (l.map .string)) (hn : n ≤ 1000000) : Calls Tryz.prog 131 #[.slice A n c, .string s] w (OwnPost (insB l s) w) := by
  have hl : l.length = n := by have := hR.1; simpa using this
  obtain ⟨i0, hi0, hz0, hz1, hz2⟩ := info_parts infoStr
  have HI : Hid ((Tryz.prog.info? 9 = some i0) ∧ i0.zero = some (.string ⟨#[]⟩) ∧ i0.size = 1 ∧ i0.bytes = 16) := Lib.hid ⟨hi0, hz0, hz1, hz2⟩
  have HL := Lib.hid hl
  have HR := Lib.hid hR
  clear hi0 hz0 hz1 hz2 hl hR
  go_enter Tryz.func131, Tryz.ntmps131
  go_wp2
  go_loopw [5, 6, 7] (fun va vp vi wr => ∃ (k m : Nat) (pl : Bool) (acc : List ByteArray) (A' : Option Addr) (c' : Nat), (vi = .int .i64 k ∧ vp = .bool pl ∧ va = .slice A' m c' ∧ k ≤ n ∧ m ≤ 2 * k) ∧ Hid ((l.take k).foldl (insSt s) ([], false) = (acc, pl) ∧ acc.length = m) ∧ wr.ownsRow w.heap.size 9 1 (.slice A' m c') m (acc.map .string) ∧ Below w.heap.size w wr) (fun _ _ i _ => n - (intOf i).toNat)
  case atStart => exact ⟨0, 0, false, [], none, 0, ⟨rfl, rfl, rfl, Nat.zero_le _, Nat.le_refl _⟩, Lib.hid ⟨rfl, rfl⟩, World.ownsRow_nil _ _ _ _, Below.refl _ _⟩
  case round =>
    obtain ⟨k, m, pl, acc, A', c', ⟨rfl, rfl, rfl, hk, hm⟩, HK, hown, hbr⟩ := hrel
    have hbs := hbr.size
    by_cases hlt : k < n
    · obtain ⟨x, hx⟩ : ∃ x, l[k]? = some x := ⟨_, List.getElem?_eq_getElem (by have := HL.out; omega)⟩
      obtain ⟨b, o, rfl, hcell⟩ := HR.out.2 (by omega)
      have hc0 : w.cell? ⟨b, o + k, none⟩ = some (.string x) := hcell k _ (by simp [hx])
      have hc1 : wr.cell? ⟨b, o + k, none⟩ = some (.string x) := cell_keep hbr hc0
      have hk0 : (0 : Int) ≤ (k : Int) := by omega
      have hk1 : (k : Int) < (n : Int) := by omega
      have hst : (l.take (k + 1)).foldl (insSt s) ([], false) = insSt s (acc, pl) x := by rw [foldl_take _ _ hx, HK.out.1]
      have hml := HK.out.2
      have HX := Lib.hid (show wr.heap.size = wr.heap.size from rfl)
      clear hcell hx
      by_cases hfirst : pl = false ∧ leS s x = true
      · obtain ⟨rfl, hle⟩ := hfirst
        have e1 : insA s (acc, false) x = (acc ++ [s], true) := by simp [insA, hle]
        have hle2 : (Op.bytesLess s.toList x.toList || s.toList == x.toList) = true := hle
        cases hne : (x.toList != s.toList)
        · have e2 : insSt s (acc, false) x = (acc ++ [s], true) := by simp only [insSt, hne, e1]; rfl
          have HK2 := Lib.hid (show (l.take (k + 1)).foldl (insSt s) ([], false) = (acc ++ [s], true) ∧ (acc ++ [s]).length = m + 1 from ⟨hst.trans e2, by simp [hml]⟩)
          have hq : (x.toList == s.toList) = true := by simpa [bne] using hne
          have hq2 : x.toList = s.toList := beq_iff_eq.1 hq
          clear e1 e2 hst hml HK hle
          go_wp2_with (at_builtin; refine wpList_append_own _ rfl _ _ 43 rfl w.heap.size 9 i0 (.string ⟨#[]⟩) 1 16 Tryz.underlying43 HI.out.1 HI.out.2.1 HI.out.2.2.1 HI.out.2.2.2 rfl (by decide) _ _ _ rfl (hown.alloc _) ⟨wr.heap.size, 0, none⟩ 1 1 [.string s] rfl rfl (cell_one_new _ _ _) (by simp [Value.oneCell']) (by unfold maxLen; omega) (by omega) (by simp; omega) ?_; intro v' w3 hown1 hgrow1 _; obtain ⟨g1, cap1, rfl⟩ := ownsRow_succ hown1; have hb3 : Below w.heap.size w w3 := (hbr.alloc hbs _).grown hgrow1 (by simp; omega) (fun r e => ownsRow_block hown r e); have hbs3 := hb3.size; have hc3 : w3.cell? ⟨b, o + k, none⟩ = some (.string x) := cell_keep hb3 hc0; clear hown)
          exact ⟨⟨k + 1, m + 1, true, acc ++ [s], some ⟨g1, 0, none⟩, cap1, ⟨by go_num, rfl, rfl, by omega, by omega⟩, HK2, by rw [List.map_append]; exact hown1, hb3⟩, by simp [intOf]; omega⟩
        · have e2 : insSt s (acc, false) x = (acc ++ [s] ++ [x], true) := by simp only [insSt, hne, e1]; rfl
          have HK2 := Lib.hid (show (l.take (k + 1)).foldl (insSt s) ([], false) = (acc ++ [s] ++ [x], true) ∧ (acc ++ [s] ++ [x]).length = m + 1 + 1 from ⟨hst.trans e2, by simp [hml]⟩)
          have hq : ¬ x.toList = s.toList := by simpa [bne] using hne
          have hq3 : (x.toList == s.toList) = false := by simpa using hq
          clear e1 e2 hst hml HK hle
          go_wp2_with (first | (at_builtin; refine wpList_append_own _ rfl _ _ 43 rfl w.heap.size 9 i0 (.string ⟨#[]⟩) 1 16 Tryz.underlying43 HI.out.1 HI.out.2.1 HI.out.2.2.1 HI.out.2.2.2 rfl (by decide) _ _ _ rfl (hown.alloc _) ⟨wr.heap.size, 0, none⟩ 1 1 [.string s] rfl rfl (cell_one_new _ _ _) (by simp [Value.oneCell']) (by unfold maxLen; omega) (by omega) (by simp; omega) ?_; intro v' w3 hown1 hgrow1 _; obtain ⟨g1, cap1, rfl⟩ := ownsRow_succ hown1; have hb3 : Below w.heap.size w w3 := (hbr.alloc hbs _).grown hgrow1 (by simp; omega) (fun r e => ownsRow_block hown r e); have hbs3 := hb3.size; have hc3 : w3.cell? ⟨b, o + k, none⟩ = some (.string x) := cell_keep hb3 hc0; clear hown) | (at_builtin; refine wpList_append_own _ rfl _ _ 43 rfl w.heap.size 9 i0 (.string ⟨#[]⟩) 1 16 Tryz.underlying43 HI.out.1 HI.out.2.1 HI.out.2.2.1 HI.out.2.2.2 rfl (by decide) _ _ _ rfl (hown1.alloc _) ⟨w3.heap.size, 0, none⟩ 1 1 [.string x] rfl rfl (cell_one_new _ _ _) (by simp [Value.oneCell']) (by unfold maxLen; omega) (by omega) (by simp; omega) ?_; intro v' w4 hown2 hgrow2 _; obtain ⟨g2, cap2, rfl⟩ := ownsRow_succ hown2; have hb4 : Below w.heap.size w w4 := (hb3.alloc hbs3 _).grown hgrow2 (by simp; omega) (fun r e => ownsRow_block hown1 r e)))
          exact ⟨⟨k + 1, m + 1 + 1, true, acc ++ [s] ++ [x], some ⟨g2, 0, none⟩, cap2, ⟨by go_num, rfl, rfl, by omega, by omega⟩, HK2, by rw [List.map_append, List.map_append]; exact hown2, hb4⟩, by simp [intOf]; omega⟩
      · have e1 : insA s (acc, pl) x = (acc, pl) := by
          unfold insA
          rw [if_neg]
          intro h
          simp only [Bool.and_eq_true, Bool.not_eq_true'] at h
          exact hfirst h
        have hguard : pl = true ∨ (pl = false ∧ (Op.bytesLess s.toList x.toList || s.toList == x.toList) = false) := by
          cases pl
          · right
            refine ⟨rfl, ?_⟩
            cases hle : leS s x
            · exact hle
            · exact absurd ⟨rfl, hle⟩ hfirst
          · exact .inl rfl
        clear hfirst
        cases hne : (x.toList != s.toList)
        · have e2 : insSt s (acc, pl) x = (acc, pl) := by simp only [insSt, hne, e1]; rfl
          have HK2 := Lib.hid (show (l.take (k + 1)).foldl (insSt s) ([], false) = (acc, pl) ∧ acc.length = m from ⟨hst.trans e2, hml⟩)
          have hq : (x.toList == s.toList) = true := by simpa [bne] using hne
          have hq2 : x.toList = s.toList := beq_iff_eq.1 hq
          clear e1 e2 hst hml HK
          rcases hguard with rfl | ⟨rfl, hg⟩
          · go_wp2
            exact ⟨⟨k + 1, m, _, acc, A', c', ⟨by go_num, rfl, rfl, by omega, by omega⟩, HK2, hown, hbr⟩, by simp [intOf]; omega⟩
          · exact absurd hg (by rw [hq2]; simp)
        · have e2 : insSt s (acc, pl) x = (acc ++ [x], pl) := by simp only [insSt, hne, e1]; rfl
          have HK2 := Lib.hid (show (l.take (k + 1)).foldl (insSt s) ([], false) = (acc ++ [x], pl) ∧ (acc ++ [x]).length = m + 1 from ⟨hst.trans e2, by simp [hml]⟩)
          have hq : ¬ x.toList = s.toList := by simpa [bne] using hne
          have hq3 : (x.toList == s.toList) = false := by simpa using hq
          clear e1 e2 hst hml HK
          rcases hguard with rfl | ⟨rfl, hg⟩
          all_goals
            go_wp2_with (at_builtin; refine wpList_append_own _ rfl _ _ 43 rfl w.heap.size 9 i0 (.string ⟨#[]⟩) 1 16 Tryz.underlying43 HI.out.1 HI.out.2.1 HI.out.2.2.1 HI.out.2.2.2 rfl (by decide) _ _ _ rfl (hown.alloc _) ⟨wr.heap.size, 0, none⟩ 1 1 [.string x] rfl rfl (cell_one_new _ _ _) (by simp [Value.oneCell']) (by unfold maxLen; omega) (by omega) (by simp; omega) ?_; intro v' w3 hown1 hgrow1 _; obtain ⟨g1, cap1, rfl⟩ := ownsRow_succ hown1; have hb3 : Below w.heap.size w w3 := (hbr.alloc hbs _).grown hgrow1 (by simp; omega) (fun r e => ownsRow_block hown r e); clear hown)
            exact ⟨⟨k + 1, m + 1, _, acc ++ [x], some ⟨g1, 0, none⟩, cap1, ⟨by go_num, rfl, rfl, by omega, by omega⟩, HK2, by rw [List.map_append]; exact hown1, hb3⟩, by simp [intOf]; omega⟩
    · obtain rfl : k = n := by omega
      have hfin : l.foldl (insSt s) ([], false) = (acc, pl) := by
        have := HK.out.1
        rwa [List.take_of_length_le (by have := HL.out; omega)] at this
      have hml := HK.out.2
      cases pl
      · have hv : insB l s = acc ++ [s] := by unfold insB; rw [hfin]; rfl
        have hvl : (insB l s).length = m + 1 := by rw [hv]; simp [hml]
        have HV := Lib.hid hv
        have HVL := Lib.hid hvl
        clear hv hvl hfin hml HK
        go_wp2_with (at_builtin; refine wpList_append_own _ rfl _ _ 43 rfl w.heap.size 9 i0 (.string ⟨#[]⟩) 1 16 Tryz.underlying43 HI.out.1 HI.out.2.1 HI.out.2.2.1 HI.out.2.2.2 rfl (by decide) _ _ _ rfl (hown.alloc _) ⟨wr.heap.size, 0, none⟩ 1 1 [.string s] rfl rfl (cell_one_new _ _ _) (by simp [Value.oneCell']) (by unfold maxLen; omega) (by omega) (by simp; omega) ?_; intro v' w3 hown1 hgrow1 _; obtain ⟨g1, cap1, rfl⟩ := ownsRow_succ hown1)
        go_ret
        refine ⟨some ⟨g1, 0, none⟩, cap1, by rw [HVL.out]; rfl, by rw [HVL.out, HV.out, List.map_append]; exact hown1, (hbr.alloc hbs _).grown hgrow1 (by simp; omega) (fun r e => ownsRow_block hown r e)⟩
      · have hv : insB l s = acc := by unfold insB; rw [hfin]; rfl
        have HV := Lib.hid hv
        have HML := Lib.hid hml
        clear hv hfin hml HK
        go_wp2
        go_ret
        refine ⟨A', c', by rw [HV.out, HML.out]; rfl, by rw [HV.out, HML.out]; exact hown, hbr⟩
end Go.Proofs.YtokfclikhfpmhaaGreatDoor
namespace Go.Proofs.YtokfclikhfpmhaaGreatDoor
open Go.RowKit Go.Sort
set_option linter.unusedVariables false
set_option linter.unusedSimpArgs false
set_option maxRecDepth 100000
def joinB (l : List ByteArray) (k : Nat) : ByteArray := toB (Lib.join ((lists l).take k) [44])
theorem joinB_zero (l : List ByteArray) : joinB l 0 = ⟨#[]⟩ := by simp [joinB, Lib.join_nil, toB]
theorem joinB_first (l : List ByteArray) (x : ByteArray) (h : l[0]? = some x) : joinB l 1 = x := by
  cases l with
  | nil => cases h
  | cons y r =>
    simp only [List.getElem?_cons_zero, Option.some.injEq] at h
    subst h
    simp only [joinB, lists, List.map_cons, List.take_succ_cons, List.take_zero, Lib.join_one]
    exact bytes_ext (by simp [toB])
theorem joinB_step (l : List ByteArray) (k : Nat) (x : ByteArray) (hk : k ≠ 0) (h : l[k]? = some x) : joinB l k ++ ⟨#[44]⟩ ++ x = joinB l (k + 1) := by
  cases l with
  | nil => cases h
  | cons y r =>
    obtain ⟨j, rfl⟩ : ∃ j, k = j + 1 := ⟨k - 1, by omega⟩
    rw [List.getElem?_cons_succ] at h
    simp only [joinB, lists, List.map_cons, List.take_succ_cons, Lib.join_cons]
    rw [Lib.joinTail_take_succ [44] (r.map (·.data.toList)) j x.data.toList (by rw [List.getElem?_map, h]; rfl)]
    exact bytes_ext (by simp [toB])
theorem joinB_le (l : List ByteArray) (k : Nat) : (joinB l k).size ≤ (Lib.join (lists l) [44]).length := by
  rw [joinB, toB_size]
  cases l with
  | nil => simp [lists]
  | cons y r =>
    cases k with
    | zero => simp [Lib.join_nil]
    | succ j =>
      simp only [lists, List.map_cons, List.take_succ_cons, Lib.join_cons, List.length_append]
      have := Lib.joinTail_take_le [44] (r.map (·.data.toList)) j
      omega
theorem joinB_all (l : List ByteArray) : joinB l l.length = toB (Lib.join (lists l) [44]) := by
  rw [joinB, List.take_of_length_le (by simp [lists])]
set_option maxHeartbeats 4000000 in
theorem rJoined_any (A : Option Addr) (n c : Nat) (l : List ByteArray) (w : World) (hR : Reads w 1 A n (l.map .string)) (hn : n ≤ 1000000) (htot : (Lib.join (lists l) [44]).length ≤ 1000000000) (hsz : ∀ x ∈ l, x.size ≤ 1000000000) : Calls Tryz.prog 132 #[.slice A n c] w (Ret w (.string (toB (Lib.join (lists l) [44])))) := by
  have hl : l.length = n := by have := hR.1; simpa using this
  have hend := joinB_all l
  rw [hl] at hend
  have HL := Lib.hid hl
  have HR := Lib.hid hR
  have HE := Lib.hid hend
  have HT := Lib.hid htot
  have HS := Lib.hid hsz
  clear hl hR hend htot hsz
  go_enter Tryz.func132, Tryz.ntmps132
  go_wp2
  go_loopw [3, 4] (fun vs vi wr => ∃ k : Nat, vi = .int .i64 k ∧ k ≤ n ∧ vs = .string (joinB l k) ∧ Below w.heap.size w wr) (fun _ i _ => n - (intOf i).toNat)
  case atStart => exact ⟨0, rfl, Nat.zero_le _, by rw [joinB_zero], Below.refl _ _⟩
  case round =>
    obtain ⟨k, rfl, hk, rfl, hbr⟩ := hrel
    by_cases hlt : k < n
    · obtain ⟨x, hx⟩ : ∃ x, l[k]? = some x := ⟨_, List.getElem?_eq_getElem (by have := HL.out; omega)⟩
      obtain ⟨b, o, rfl, hcell⟩ := (HR.out.keep hbr).2 (by omega)
      have hc1 : wr.cell? ⟨b, o + k, none⟩ = some (.string x) := hcell k _ (by simp [hx])
      have hz1 : (joinB l k).size ≤ 1000000000 := Nat.le_trans (joinB_le l k) HT.out
      have hz2 : x.size ≤ 1000000000 := HS.out x (List.mem_of_getElem? hx)
      have hk0 : (0 : Int) ≤ (k : Int) := by omega
      have hk1 : (k : Int) < (n : Int) := by omega
      by_cases h0 : k = 0
      · subst h0
        simp only [Nat.add_zero] at hc1
        have HJ := Lib.hid (joinB_first l x hx)
        rw [joinB_zero]
        clear hcell hx hz1
        go_wp2
        exact ⟨⟨1, by go_num, by omega, by rw [HJ.out]; exact congrArg Value.string (bytes_ext (by simp)), hbr⟩, by simp [intOf]; omega⟩
      · have HJ := Lib.hid (joinB_step l k x h0 hx)
        have hd : decide ((0 : Int) < (k : Int)) = true := by simp; omega
        generalize joinB l k = S at *
        clear hcell hx
        have n1 : ¬ 9223372036854775807 < S.size + 1 := by omega
        have n2 : ¬ 9223372036854775807 < S.size + 1 + x.size := by omega
        go_wp2
        exact ⟨⟨k + 1, by go_num, by omega, congrArg Value.string HJ.out, hbr⟩, by simp [intOf]; omega⟩
    · obtain rfl : k = n := by omega
      have he := HE.out
      rw [he]
      go_wp2
      go_ret
      exact ⟨rfl, hbr⟩
end Go.Proofs.YtokfclikhfpmhaaGreatDoor
