/- What the specification's insert and joined return. -/
import Derived.Test.YtiglpecjpncclaaGreatDoorRef3
import Derived.Test.YtiglpecjpncclaaGreatDoorProg
import Derived.WalkKit
import Derived.WalkSpells
import Derived.WalkLawsBesides
import Derived.Below
import Derived.Deep.QuietTactic
import Derived.BigQuiet
import Derived.Lib.QuietBelow
import Derived.Lib.Strings
import Derived.Lib.Hide
import Derived.Deep.RegionWith
import Derived.Deep.RegionHeld3
import Derived.Lib.IndexBytes
namespace Go.Proofs.YtiglpecjpncclaaGreatDoor
open Go.RowKit Go.Sort
set_option linter.unusedVariables false
set_option linter.unusedSimpArgs false
set_option maxRecDepth 100000
def leS (s x : ByteArray) : Bool := Op.bytesLess s.toList x.toList || s.toList == x.toList
def insA (s : ByteArray) (st : List ByteArray × Bool) (x : ByteArray) : List ByteArray × Bool := if !st.2 && leS s x then (st.1 ++ [s], true) else st
def insSt (s : ByteArray) (st : List ByteArray × Bool) (x : ByteArray) : List ByteArray × Bool := if x.toList != s.toList then ((insA s st x).1 ++ [x], (insA s st x).2) else insA s st x
def insB (l : List ByteArray) (s : ByteArray) : List ByteArray := if (l.foldl (insSt s) ([], false)).2 then (l.foldl (insSt s) ([], false)).1 else (l.foldl (insSt s) ([], false)).1 ++ [s]
theorem insSt_len (s : ByteArray) (st : List ByteArray × Bool) (x : ByteArray) : (insSt s st x).1.length ≤ st.1.length + 2 := by
  unfold insSt insA
  split <;> split <;> simp
theorem foldl_take {α β : Type} (f : β → α → β) (b : β) {l : List α} {k : Nat} {x : α} (hx : l[k]? = some x) : (l.take (k + 1)).foldl f b = f ((l.take k).foldl f b) x := by
  rw [List.take_add_one, hx]; simp
set_option maxHeartbeats 4000000 in
theorem rInsert_any (A : Option Addr) (n c : Nat) (l : List ByteArray) (s : ByteArray) (w : World) (hR : Reads w 1 A n (l.map .string)) (hn : n ≤ 1000000) : Calls Tryz.prog 63 #[.slice A n c, .string s] w (OwnPost (insB l s) w) := by
  have hl : l.length = n := by have := hR.1; simpa using this
  obtain ⟨i0, hi0, hz0, hz1, hz2⟩ := info_parts infoStr
  have HI : Hid ((Tryz.prog.info? 9 = some i0) ∧ i0.zero = some (.string ⟨#[]⟩) ∧ i0.size = 1 ∧ i0.bytes = 16) := Lib.hid ⟨hi0, hz0, hz1, hz2⟩
  have HL := Lib.hid hl
  have HR := Lib.hid hR
  clear hi0 hz0 hz1 hz2 hl hR
  go_enter Tryz.func63, Tryz.ntmps63
  go_wp2
  go_loopw [5, 6, 7] (fun va vp vi wr => ∃ (k m : Nat) (pl : Bool) (acc : List ByteArray) (A' : Option Addr) (c' : Nat), (vi = .int .i64 k ∧ vp = .bool pl ∧ va = .slice A' m c' ∧ k ≤ n ∧ m ≤ 2 * k) ∧ Hid ((l.take k).foldl (insSt s) ([], false) = (acc, pl) ∧ acc.length = m) ∧ wr.ownsRow w.heap.size 9 1 (.slice A' m c') m (acc.map .string) ∧ Below w.heap.size w wr) (fun _ _ i _ => n - (intOf i).toNat)
  case atStart => exact ⟨0, 0, false, [], none, 0, ⟨rfl, rfl, rfl, Nat.zero_le _, Nat.le_refl _⟩, Lib.hid ⟨rfl, rfl⟩, World.ownsRow_nil _ _ _ _, Below.refl _ _⟩
  case round =>
    obtain ⟨k, m, pl, acc, A', c', ⟨rfl, rfl, rfl, hk, hm⟩, HK, hown, hbr⟩ := hrel
    have hbs := hbr.size
    by_cases hlt : k < n
    · obtain ⟨x, hx⟩ : ∃ x, l[k]? = some x := ⟨_, List.getElem?_eq_getElem (by have := HL.out; omega)⟩
      obtain ⟨b, o, rfl, hcell⟩ := HR.out.2 (by omega)
      have hc0 : w.cell? ⟨b, o + k, none⟩ = some (.string x) := hcell k _ (by simp [hx])
      have hc1 : wr.cell? ⟨b, o + k, none⟩ = some (.string x) := cell_keep hbr hc0
      have hk0 : (0 : Int) ≤ (k : Int) := by omega
      have hk1 : (k : Int) < (n : Int) := by omega
      have hst : (l.take (k + 1)).foldl (insSt s) ([], false) = insSt s (acc, pl) x := by rw [foldl_take _ _ hx, HK.out.1]
      have hml := HK.out.2
      have HX := Lib.hid (show wr.heap.size = wr.heap.size from rfl)
      clear hcell hx
      by_cases hfirst : pl = false ∧ leS s x = true
      · obtain ⟨rfl, hle⟩ := hfirst
        have e1 : insA s (acc, false) x = (acc ++ [s], true) := by simp [insA, hle]
        have hle2 : (Op.bytesLess s.toList x.toList || s.toList == x.toList) = true := hle
        cases hne : (x.toList != s.toList)
        · have e2 : insSt s (acc, false) x = (acc ++ [s], true) := by simp only [insSt, hne, e1]; rfl
          have HK2 := Lib.hid (show (l.take (k + 1)).foldl (insSt s) ([], false) = (acc ++ [s], true) ∧ (acc ++ [s]).length = m + 1 from ⟨hst.trans e2, by simp [hml]⟩)
          have hq : (x.toList == s.toList) = true := by simpa [bne] using hne
          have hq2 : x.toList = s.toList := beq_iff_eq.1 hq
          clear e1 e2 hst hml HK hle
          go_wp2_with (at_builtin; refine wpList_append_own _ rfl _ _ 22 rfl w.heap.size 9 i0 (.string ⟨#[]⟩) 1 16 Tryz.underlying22 HI.out.1 HI.out.2.1 HI.out.2.2.1 HI.out.2.2.2 rfl (by decide) _ _ _ rfl (hown.alloc _) ⟨wr.heap.size, 0, none⟩ 1 1 [.string s] rfl rfl (cell_one_new _ _ _) (by simp [Value.oneCell']) (by unfold maxLen; omega) (by omega) (by simp; omega) ?_; intro v' w3 hown1 hgrow1 _; obtain ⟨g1, cap1, rfl⟩ := ownsRow_succ hown1; have hb3 : Below w.heap.size w w3 := (hbr.alloc hbs _).grown hgrow1 (by simp; omega) (fun r e => ownsRow_block hown r e); have hbs3 := hb3.size; have hc3 : w3.cell? ⟨b, o + k, none⟩ = some (.string x) := cell_keep hb3 hc0; clear hown)
          exact ⟨⟨k + 1, m + 1, true, acc ++ [s], some ⟨g1, 0, none⟩, cap1, ⟨by go_num, rfl, rfl, by omega, by omega⟩, HK2, by rw [List.map_append]; exact hown1, hb3⟩, by simp [intOf]; omega⟩
        · have e2 : insSt s (acc, false) x = (acc ++ [s] ++ [x], true) := by simp only [insSt, hne, e1]; rfl
          have HK2 := Lib.hid (show (l.take (k + 1)).foldl (insSt s) ([], false) = (acc ++ [s] ++ [x], true) ∧ (acc ++ [s] ++ [x]).length = m + 1 + 1 from ⟨hst.trans e2, by simp [hml]⟩)
          have hq : ¬ x.toList = s.toList := by simpa [bne] using hne
          have hq3 : (x.toList == s.toList) = false := by simpa using hq
          clear e1 e2 hst hml HK hle
          go_wp2_with (first | (at_builtin; refine wpList_append_own _ rfl _ _ 22 rfl w.heap.size 9 i0 (.string ⟨#[]⟩) 1 16 Tryz.underlying22 HI.out.1 HI.out.2.1 HI.out.2.2.1 HI.out.2.2.2 rfl (by decide) _ _ _ rfl (hown.alloc _) ⟨wr.heap.size, 0, none⟩ 1 1 [.string s] rfl rfl (cell_one_new _ _ _) (by simp [Value.oneCell']) (by unfold maxLen; omega) (by omega) (by simp; omega) ?_; intro v' w3 hown1 hgrow1 _; obtain ⟨g1, cap1, rfl⟩ := ownsRow_succ hown1; have hb3 : Below w.heap.size w w3 := (hbr.alloc hbs _).grown hgrow1 (by simp; omega) (fun r e => ownsRow_block hown r e); have hbs3 := hb3.size; have hc3 : w3.cell? ⟨b, o + k, none⟩ = some (.string x) := cell_keep hb3 hc0; clear hown) | (at_builtin; refine wpList_append_own _ rfl _ _ 22 rfl w.heap.size 9 i0 (.string ⟨#[]⟩) 1 16 Tryz.underlying22 HI.out.1 HI.out.2.1 HI.out.2.2.1 HI.out.2.2.2 rfl (by decide) _ _ _ rfl (hown1.alloc _) ⟨w3.heap.size, 0, none⟩ 1 1 [.string x] rfl rfl (cell_one_new _ _ _) (by simp [Value.oneCell']) (by unfold maxLen; omega) (by omega) (by simp; omega) ?_; intro v' w4 hown2 hgrow2 _; obtain ⟨g2, cap2, rfl⟩ := ownsRow_succ hown2; have hb4 : Below w.heap.size w w4 := (hb3.alloc hbs3 _).grown hgrow2 (by simp; omega) (fun r e => ownsRow_block hown1 r e)))
          exact ⟨⟨k + 1, m + 1 + 1, true, acc ++ [s] ++ [x], some ⟨g2, 0, none⟩, cap2, ⟨by go_num, rfl, rfl, by omega, by omega⟩, HK2, by rw [List.map_append, List.map_append]; exact hown2, hb4⟩, by simp [intOf]; omega⟩
      · have e1 : insA s (acc, pl) x = (acc, pl) := by
          unfold insA
          rw [if_neg]
          intro h
          simp only [Bool.and_eq_true, Bool.not_eq_true'] at h
          exact hfirst h
        have hguard : pl = true ∨ (pl = false ∧ (Op.bytesLess s.toList x.toList || s.toList == x.toList) = false) := by
          cases pl
          · right
            refine ⟨rfl, ?_⟩
            cases hle : leS s x
            · exact hle
            · exact absurd ⟨rfl, hle⟩ hfirst
          · exact .inl rfl
        clear hfirst
        cases hne : (x.toList != s.toList)
        · have e2 : insSt s (acc, pl) x = (acc, pl) := by simp only [insSt, hne, e1]; rfl
          have HK2 := Lib.hid (show (l.take (k + 1)).foldl (insSt s) ([], false) = (acc, pl) ∧ acc.length = m from ⟨hst.trans e2, hml⟩)
          have hq : (x.toList == s.toList) = true := by simpa [bne] using hne
          have hq2 : x.toList = s.toList := beq_iff_eq.1 hq
          clear e1 e2 hst hml HK
          rcases hguard with rfl | ⟨rfl, hg⟩
          · go_wp2
            exact ⟨⟨k + 1, m, _, acc, A', c', ⟨by go_num, rfl, rfl, by omega, by omega⟩, HK2, hown, hbr⟩, by simp [intOf]; omega⟩
          · exact absurd hg (by rw [hq2]; simp)
        · have e2 : insSt s (acc, pl) x = (acc ++ [x], pl) := by simp only [insSt, hne, e1]; rfl
          have HK2 := Lib.hid (show (l.take (k + 1)).foldl (insSt s) ([], false) = (acc ++ [x], pl) ∧ (acc ++ [x]).length = m + 1 from ⟨hst.trans e2, by simp [hml]⟩)
          have hq : ¬ x.toList = s.toList := by simpa [bne] using hne
          have hq3 : (x.toList == s.toList) = false := by simpa using hq
          clear e1 e2 hst hml HK
          rcases hguard with rfl | ⟨rfl, hg⟩
          all_goals
            go_wp2_with (at_builtin; refine wpList_append_own _ rfl _ _ 22 rfl w.heap.size 9 i0 (.string ⟨#[]⟩) 1 16 Tryz.underlying22 HI.out.1 HI.out.2.1 HI.out.2.2.1 HI.out.2.2.2 rfl (by decide) _ _ _ rfl (hown.alloc _) ⟨wr.heap.size, 0, none⟩ 1 1 [.string x] rfl rfl (cell_one_new _ _ _) (by simp [Value.oneCell']) (by unfold maxLen; omega) (by omega) (by simp; omega) ?_; intro v' w3 hown1 hgrow1 _; obtain ⟨g1, cap1, rfl⟩ := ownsRow_succ hown1; have hb3 : Below w.heap.size w w3 := (hbr.alloc hbs _).grown hgrow1 (by simp; omega) (fun r e => ownsRow_block hown r e); clear hown)
            exact ⟨⟨k + 1, m + 1, _, acc ++ [x], some ⟨g1, 0, none⟩, cap1, ⟨by go_num, rfl, rfl, by omega, by omega⟩, HK2, by rw [List.map_append]; exact hown1, hb3⟩, by simp [intOf]; omega⟩
    · obtain rfl : k = n := by omega
      have hfin : l.foldl (insSt s) ([], false) = (acc, pl) := by
        have := HK.out.1
        rwa [List.take_of_length_le (by have := HL.out; omega)] at this
      have hml := HK.out.2
      cases pl
      · have hv : insB l s = acc ++ [s] := by unfold insB; rw [hfin]; rfl
        have hvl : (insB l s).length = m + 1 := by rw [hv]; simp [hml]
        have HV := Lib.hid hv
        have HVL := Lib.hid hvl
        clear hv hvl hfin hml HK
        go_wp2_with (at_builtin; refine wpList_append_own _ rfl _ _ 22 rfl w.heap.size 9 i0 (.string ⟨#[]⟩) 1 16 Tryz.underlying22 HI.out.1 HI.out.2.1 HI.out.2.2.1 HI.out.2.2.2 rfl (by decide) _ _ _ rfl (hown.alloc _) ⟨wr.heap.size, 0, none⟩ 1 1 [.string s] rfl rfl (cell_one_new _ _ _) (by simp [Value.oneCell']) (by unfold maxLen; omega) (by omega) (by simp; omega) ?_; intro v' w3 hown1 hgrow1 _; obtain ⟨g1, cap1, rfl⟩ := ownsRow_succ hown1)
        go_ret
        refine ⟨some ⟨g1, 0, none⟩, cap1, by rw [HVL.out]; rfl, by rw [HVL.out, HV.out, List.map_append]; exact hown1, (hbr.alloc hbs _).grown hgrow1 (by simp; omega) (fun r e => ownsRow_block hown r e)⟩
      · have hv : insB l s = acc := by unfold insB; rw [hfin]; rfl
        have HV := Lib.hid hv
        have HML := Lib.hid hml
        clear hv hfin hml HK
        go_wp2
        go_ret
        refine ⟨A', c', by rw [HV.out, HML.out]; rfl, by rw [HV.out, HML.out]; exact hown, hbr⟩

end Go.Proofs.YtiglpecjpncclaaGreatDoor
