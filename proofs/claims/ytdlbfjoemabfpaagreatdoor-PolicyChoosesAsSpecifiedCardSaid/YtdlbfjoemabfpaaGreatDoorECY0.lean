/- What the specification's insert and joined return. -/
import Derived.Test.YtdlbfjoemabfpaaGreatDoorEZ25
import Derived.Test.YtdlbfjoemabfpaaGreatDoorEZ29
namespace Go.Proofs.YtdlbfjoemabfpaaGreatDoor
open Go.RowKit Go.Sort
set_option linter.unusedVariables false
set_option linter.unusedSimpArgs false
set_option maxRecDepth 100000
def insA (s : ByteArray) (st : List ByteArray × Bool) (x : ByteArray) : List ByteArray × Bool := if !st.2 && leS s x then (st.1 ++ [s], true) else st
def insSt (s : ByteArray) (st : List ByteArray × Bool) (x : ByteArray) : List ByteArray × Bool := if x.toList != s.toList then ((insA s st x).1 ++ [x], (insA s st x).2) else insA s st x
def insB (l : List ByteArray) (s : ByteArray) : List ByteArray := if (l.foldl (insSt s) ([], false)).2 then (l.foldl (insSt s) ([], false)).1 else (l.foldl (insSt s) ([], false)).1 ++ [s]
set_option maxHeartbeats 4000000 in
theorem rInsert_any (A : Option Addr) (n c : Nat) (l : List ByteArray) (s : ByteArray) (w : World) (hR : Reads w 1 A n (l.map .string)) (hn : n ≤ 1000000) : Calls Tryz.prog 199 #[.slice A n c, .string s] w (OwnPost (insB l s) w) := by
 have hl : l.length = n := by have := hR.1; simpa using this
 obtain ⟨i0, hi0, hz0, hz1, hz2⟩ := info_parts infoStr
 have HI : Hid ((Tryz.prog.info? 9 = some i0) ∧ i0.zero = some (.string ⟨#[]⟩) ∧ i0.size = 1 ∧ i0.bytes = 16) := Lib.hid ⟨hi0, hz0, hz1, hz2⟩
 have HL := Lib.hid hl
 have HR := Lib.hid hR
 clear hi0 hz0 hz1 hz2 hl hR
 go_enter Tryz.func199, Tryz.ntmps199
 go_wp2
 go_loopw [5, 6, 7] (fun va vp vi wr => ∃ (k m : Nat) (pl : Bool) (acc : List ByteArray) (A' : Option Addr) (c' : Nat), (vi = .int .i64 k ∧ vp = .bool pl ∧ va = .slice A' m c' ∧ k ≤ n ∧ m ≤ 2 * k) ∧ Hid ((l.take k).foldl (insSt s) ([], false) = (acc, pl) ∧ acc.length = m) ∧ wr.ownsRow w.heap.size 9 1 (.slice A' m c') m (acc.map .string) ∧ Below w.heap.size w wr) (fun _ _ i _ => n - (intOf i).toNat)
 case atStart => exact ⟨0, 0, false, [], none, 0, ⟨rfl, rfl, rfl, Nat.zero_le _, Nat.le_refl _⟩, Lib.hid ⟨rfl, rfl⟩, World.ownsRow_nil _ _ _ _, Below.refl _ _⟩
 case round =>
  obtain ⟨k, m, pl, acc, A', c', ⟨rfl, rfl, rfl, hk, hm⟩, HK, hown, hbr⟩ := hrel
  have hbs := hbr.size
  by_cases hlt : k < n
  ·obtain ⟨x, hx⟩ : ∃ x, l[k]? = some x := ⟨_, List.getElem?_eq_getElem (by have := HL.out; omega)⟩
   obtain ⟨b, o, rfl, hcell⟩ := HR.out.2 (by omega)
   have hc0 : w.cell? ⟨b, o + k, none⟩ = some (.string x) := hcell k _ (by simp [hx])
   have hc1 : wr.cell? ⟨b, o + k, none⟩ = some (.string x) := cell_keep hbr hc0
   have hk0 : (0 : Int) ≤ (k : Int) := by omega
   have hk1 : (k : Int) < (n : Int) := by omega
   have hst : (l.take (k + 1)).foldl (insSt s) ([], false) = insSt s (acc, pl) x := by rw [foldl_take _ _ hx, HK.out.1]
   have hml := HK.out.2
   have HX := Lib.hid (show wr.heap.size = wr.heap.size from rfl)
   clear hcell hx
   by_cases hfirst : pl = false ∧ leS s x = true
   ·obtain ⟨rfl, hle⟩ := hfirst
    have e1 : insA s (acc, false) x = (acc ++ [s], true) := by simp [insA, hle]
    have hle2 : (Op.bytesLess s.toList x.toList || s.toList == x.toList) = true := hle
    cases hne : (x.toList != s.toList)
    ·have e2 : insSt s (acc, false) x = (acc ++ [s], true) := by simp only [insSt, hne, e1]; rfl
     have HK2 := Lib.hid (show (l.take (k + 1)).foldl (insSt s) ([], false) = (acc ++ [s], true) ∧ (acc ++ [s]).length = m + 1 from ⟨hst.trans e2, by simp [hml]⟩)
     have hq : (x.toList == s.toList) = true := by simpa [bne] using hne
     have hq2 : x.toList = s.toList := beq_iff_eq.1 hq
     clear e1 e2 hst hml HK hle
     go_wp2_with (at_builtin; refine wpList_append_own _ rfl _ _ 27 rfl w.heap.size 9 i0 (.string ⟨#[]⟩) 1 16 Tryz.underlying27 HI.out.1 HI.out.2.1 HI.out.2.2.1 HI.out.2.2.2 rfl (by decide) _ _ _ rfl (hown.alloc _) ⟨wr.heap.size, 0, none⟩ 1 1 [.string s] rfl rfl (cell_one_new _ _ _) (by simp [Value.oneCell']) (by unfold maxLen; omega) (by omega) (by simp; omega) ?_; intro v' w3 hown1 hgrow1 _; obtain ⟨g1, cap1, rfl⟩ := ownsRow_succ hown1; have hb3 : Below w.heap.size w w3 := (hbr.alloc hbs _).grown hgrow1 (by simp; omega) (fun r e => ownsRow_block hown r e); have hbs3 := hb3.size; have hc3 : w3.cell? ⟨b, o + k, none⟩ = some (.string x) := cell_keep hb3 hc0; clear hown)
     exact ⟨⟨k + 1, m + 1, true, acc ++ [s], some ⟨g1, 0, none⟩, cap1, ⟨by go_num, rfl, rfl, by omega, by omega⟩, HK2, by rw [List.map_append]; exact hown1, hb3⟩, by simp [intOf]; omega⟩
    ·have e2 : insSt s (acc, false) x = (acc ++ [s] ++ [x], true) := by simp only [insSt, hne, e1]; rfl
     have HK2 := Lib.hid (show (l.take (k + 1)).foldl (insSt s) ([], false) = (acc ++ [s] ++ [x], true) ∧ (acc ++ [s] ++ [x]).length = m + 1 + 1 from ⟨hst.trans e2, by simp [hml]⟩)
     have hq : ¬ x.toList = s.toList := by simpa [bne] using hne
     have hq3 : (x.toList == s.toList) = false := by simpa using hq
     clear e1 e2 hst hml HK hle
     go_wp2_with (first | (at_builtin; refine wpList_append_own _ rfl _ _ 27 rfl w.heap.size 9 i0 (.string ⟨#[]⟩) 1 16 Tryz.underlying27 HI.out.1 HI.out.2.1 HI.out.2.2.1 HI.out.2.2.2 rfl (by decide) _ _ _ rfl (hown.alloc _) ⟨wr.heap.size, 0, none⟩ 1 1 [.string s] rfl rfl (cell_one_new _ _ _) (by simp [Value.oneCell']) (by unfold maxLen; omega) (by omega) (by simp; omega) ?_; intro v' w3 hown1 hgrow1 _; obtain ⟨g1, cap1, rfl⟩ := ownsRow_succ hown1; have hb3 : Below w.heap.size w w3 := (hbr.alloc hbs _).grown hgrow1 (by simp; omega) (fun r e => ownsRow_block hown r e); have hbs3 := hb3.size; have hc3 : w3.cell? ⟨b, o + k, none⟩ = some (.string x) := cell_keep hb3 hc0; clear hown) | (at_builtin; refine wpList_append_own _ rfl _ _ 27 rfl w.heap.size 9 i0 (.string ⟨#[]⟩) 1 16 Tryz.underlying27 HI.out.1 HI.out.2.1 HI.out.2.2.1 HI.out.2.2.2 rfl (by decide) _ _ _ rfl (hown1.alloc _) ⟨w3.heap.size, 0, none⟩ 1 1 [.string x] rfl rfl (cell_one_new _ _ _) (by simp [Value.oneCell']) (by unfold maxLen; omega) (by omega) (by simp; omega) ?_; intro v' w4 hown2 hgrow2 _; obtain ⟨g2, cap2, rfl⟩ := ownsRow_succ hown2; have hb4 : Below w.heap.size w w4 := (hb3.alloc hbs3 _).grown hgrow2 (by simp; omega) (fun r e => ownsRow_block hown1 r e)))
     exact ⟨⟨k + 1, m + 1 + 1, true, acc ++ [s] ++ [x], some ⟨g2, 0, none⟩, cap2, ⟨by go_num, rfl, rfl, by omega, by omega⟩, HK2, by rw [List.map_append, List.map_append]; exact hown2, hb4⟩, by simp [intOf]; omega⟩
   ·have e1 : insA s (acc, pl) x = (acc, pl) := by
     unfold insA
     rw [if_neg]
     intro h
     simp only [Bool.and_eq_true, Bool.not_eq_true'] at h
     exact hfirst h
    have hguard : pl = true ∨ (pl = false ∧ (Op.bytesLess s.toList x.toList || s.toList == x.toList) = false) := by
     cases pl
     ·right
      refine ⟨rfl, ?_⟩
      cases hle : leS s x
      ·exact hle
      ·exact absurd ⟨rfl, hle⟩ hfirst
     ·exact .inl rfl
    clear hfirst
    cases hne : (x.toList != s.toList)
    ·have e2 : insSt s (acc, pl) x = (acc, pl) := by simp only [insSt, hne, e1]; rfl
     have HK2 := Lib.hid (show (l.take (k + 1)).foldl (insSt s) ([], false) = (acc, pl) ∧ acc.length = m from ⟨hst.trans e2, hml⟩)
     have hq : (x.toList == s.toList) = true := by simpa [bne] using hne
     have hq2 : x.toList = s.toList := beq_iff_eq.1 hq
     clear e1 e2 hst hml HK
     rcases hguard with rfl | ⟨rfl, hg⟩
     ·go_wp2
      exact ⟨⟨k + 1, m, _, acc, A', c', ⟨by go_num, rfl, rfl, by omega, by omega⟩, HK2, hown, hbr⟩, by simp [intOf]; omega⟩
     ·exact absurd hg (by rw [hq2]; simp)
    ·have e2 : insSt s (acc, pl) x = (acc ++ [x], pl) := by simp only [insSt, hne, e1]; rfl
     have HK2 := Lib.hid (show (l.take (k + 1)).foldl (insSt s) ([], false) = (acc ++ [x], pl) ∧ (acc ++ [x]).length = m + 1 from ⟨hst.trans e2, by simp [hml]⟩)
     have hq : ¬ x.toList = s.toList := by simpa [bne] using hne
     have hq3 : (x.toList == s.toList) = false := by simpa using hq
     clear e1 e2 hst hml HK
     rcases hguard with rfl | ⟨rfl, hg⟩
     all_goals
      go_wp2_with (at_builtin; refine wpList_append_own _ rfl _ _ 27 rfl w.heap.size 9 i0 (.string ⟨#[]⟩) 1 16 Tryz.underlying27 HI.out.1 HI.out.2.1 HI.out.2.2.1 HI.out.2.2.2 rfl (by decide) _ _ _ rfl (hown.alloc _) ⟨wr.heap.size, 0, none⟩ 1 1 [.string x] rfl rfl (cell_one_new _ _ _) (by simp [Value.oneCell']) (by unfold maxLen; omega) (by omega) (by simp; omega) ?_; intro v' w3 hown1 hgrow1 _; obtain ⟨g1, cap1, rfl⟩ := ownsRow_succ hown1; have hb3 : Below w.heap.size w w3 := (hbr.alloc hbs _).grown hgrow1 (by simp; omega) (fun r e => ownsRow_block hown r e); clear hown)
      exact ⟨⟨k + 1, m + 1, _, acc ++ [x], some ⟨g1, 0, none⟩, cap1, ⟨by go_num, rfl, rfl, by omega, by omega⟩, HK2, by rw [List.map_append]; exact hown1, hb3⟩, by simp [intOf]; omega⟩
  ·obtain rfl : k = n := by omega
   have hfin : l.foldl (insSt s) ([], false) = (acc, pl) := by
    have := HK.out.1
    rwa [List.take_of_length_le (by have := HL.out; omega)] at this
   have hml := HK.out.2
   cases pl
   ·have hv : insB l s = acc ++ [s] := by unfold insB; rw [hfin]; rfl
    have hvl : (insB l s).length = m + 1 := by rw [hv]; simp [hml]
    have HV := Lib.hid hv
    have HVL := Lib.hid hvl
    clear hv hvl hfin hml HK
    go_wp2_with (at_builtin; refine wpList_append_own _ rfl _ _ 27 rfl w.heap.size 9 i0 (.string ⟨#[]⟩) 1 16 Tryz.underlying27 HI.out.1 HI.out.2.1 HI.out.2.2.1 HI.out.2.2.2 rfl (by decide) _ _ _ rfl (hown.alloc _) ⟨wr.heap.size, 0, none⟩ 1 1 [.string s] rfl rfl (cell_one_new _ _ _) (by simp [Value.oneCell']) (by unfold maxLen; omega) (by omega) (by simp; omega) ?_; intro v' w3 hown1 hgrow1 _; obtain ⟨g1, cap1, rfl⟩ := ownsRow_succ hown1)
    go_ret
    refine ⟨some ⟨g1, 0, none⟩, cap1, by rw [HVL.out]; rfl, by rw [HVL.out, HV.out, List.map_append]; exact hown1, (hbr.alloc hbs _).grown hgrow1 (by simp; omega) (fun r e => ownsRow_block hown r e)⟩
   ·have hv : insB l s = acc := by unfold insB; rw [hfin]; rfl
    have HV := Lib.hid hv
    have HML := Lib.hid hml
    clear hv hfin hml HK
    go_wp2
    go_ret
    refine ⟨A', c', by rw [HV.out, HML.out]; rfl, by rw [HV.out, HML.out]; exact hown, hbr⟩
end Go.Proofs.YtdlbfjoemabfpaaGreatDoor
namespace Go.Proofs.YtdlbfjoemabfpaaGreatDoor
open Go.RowKit Go.Sort
set_option linter.unusedVariables false
set_option linter.unusedSimpArgs false
set_option maxRecDepth 100000
def joinB (l : List ByteArray) (k : Nat) : ByteArray := toB (Lib.join ((lists l).take k) [44])
theorem joinB_zero (l : List ByteArray) : joinB l 0 = ⟨#[]⟩ := by simp [joinB, Lib.join_nil, toB]
theorem joinB_first (l : List ByteArray) (x : ByteArray) (h : l[0]? = some x) : joinB l 1 = x := by
 cases l with
 | nil => cases h
 | cons y r =>
  simp only [List.getElem?_cons_zero, Option.some.injEq] at h
  subst h
  simp only [joinB, lists, List.map_cons, List.take_succ_cons, List.take_zero, Lib.join_one]
  exact bytes_ext (by simp [toB])
theorem joinB_step (l : List ByteArray) (k : Nat) (x : ByteArray) (hk : k ≠ 0) (h : l[k]? = some x) : joinB l k ++ ⟨#[44]⟩ ++ x = joinB l (k + 1) := by
 cases l with
 | nil => cases h
 | cons y r =>
  obtain ⟨j, rfl⟩ : ∃ j, k = j + 1 := ⟨k - 1, by omega⟩
  rw [List.getElem?_cons_succ] at h
  simp only [joinB, lists, List.map_cons, List.take_succ_cons, Lib.join_cons]
  rw [Lib.joinTail_take_succ [44] (r.map (·.data.toList)) j x.data.toList (by rw [List.getElem?_map, h]; rfl)]
  exact bytes_ext (by simp [toB])
theorem joinB_le (l : List ByteArray) (k : Nat) : (joinB l k).size ≤ (Lib.join (lists l) [44]).length := by
 rw [joinB, toB_size]
 cases l with
 | nil => simp [lists]
 | cons y r =>
  cases k with
  | zero => simp [Lib.join_nil]
  | succ j =>
   simp only [lists, List.map_cons, List.take_succ_cons, Lib.join_cons, List.length_append]
   have := Lib.joinTail_take_le [44] (r.map (·.data.toList)) j
   omega
theorem joinB_all (l : List ByteArray) : joinB l l.length = toB (Lib.join (lists l) [44]) := by
 rw [joinB, List.take_of_length_le (by simp [lists])]
set_option maxHeartbeats 4000000 in
theorem rJoined_any (A : Option Addr) (n c : Nat) (l : List ByteArray) (w : World) (hR : Reads w 1 A n (l.map .string)) (hn : n ≤ 1000000) (htot : (Lib.join (lists l) [44]).length ≤ 1000000000) (hsz : ∀ x ∈ l, x.size ≤ 1000000000) : Calls Tryz.prog 200 #[.slice A n c] w (Ret w (.string (toB (Lib.join (lists l) [44])))) := by
 have hl : l.length = n := by have := hR.1; simpa using this
 have hend := joinB_all l
 rw [hl] at hend
 have HL := Lib.hid hl
 have HR := Lib.hid hR
 have HE := Lib.hid hend
 have HT := Lib.hid htot
 have HS := Lib.hid hsz
 clear hl hR hend htot hsz
 go_enter Tryz.func200, Tryz.ntmps200
 go_wp2
 go_loopw [3, 4] (fun vs vi wr => ∃ k : Nat, vi = .int .i64 k ∧ k ≤ n ∧ vs = .string (joinB l k) ∧ Below w.heap.size w wr) (fun _ i _ => n - (intOf i).toNat)
 case atStart => exact ⟨0, rfl, Nat.zero_le _, by rw [joinB_zero], Below.refl _ _⟩
 case round =>
  obtain ⟨k, rfl, hk, rfl, hbr⟩ := hrel
  by_cases hlt : k < n
  ·obtain ⟨x, hx⟩ : ∃ x, l[k]? = some x := ⟨_, List.getElem?_eq_getElem (by have := HL.out; omega)⟩
   obtain ⟨b, o, rfl, hcell⟩ := (HR.out.keep hbr).2 (by omega)
   have hc1 : wr.cell? ⟨b, o + k, none⟩ = some (.string x) := hcell k _ (by simp [hx])
   have hz1 : (joinB l k).size ≤ 1000000000 := Nat.le_trans (joinB_le l k) HT.out
   have hz2 : x.size ≤ 1000000000 := HS.out x (List.mem_of_getElem? hx)
   have hk0 : (0 : Int) ≤ (k : Int) := by omega
   have hk1 : (k : Int) < (n : Int) := by omega
   by_cases h0 : k = 0
   ·subst h0
    simp only [Nat.add_zero] at hc1
    have HJ := Lib.hid (joinB_first l x hx)
    rw [joinB_zero]
    clear hcell hx hz1
    go_wp2
    exact ⟨⟨1, by go_num, by omega, by rw [HJ.out]; exact congrArg Value.string (bytes_ext (by simp)), hbr⟩, by simp [intOf]; omega⟩
   ·have HJ := Lib.hid (joinB_step l k x h0 hx)
    have hd : decide ((0 : Int) < (k : Int)) = true := by simp; omega
    generalize joinB l k = S at *
    clear hcell hx
    have n1 : ¬ 9223372036854775807 < S.size + 1 := by omega
    have n2 : ¬ 9223372036854775807 < S.size + 1 + x.size := by omega
    go_wp2
    exact ⟨⟨k + 1, by go_num, by omega, congrArg Value.string HJ.out, hbr⟩, by simp [intOf]; omega⟩
  ·obtain rfl : k = n := by omega
   have he := HE.out
   rw [he]
   go_wp2
   go_ret
   exact ⟨rfl, hbr⟩
end Go.Proofs.YtdlbfjoemabfpaaGreatDoor
namespace Go.Proofs.YtdlbfjoemabfpaaGreatDoor
open Go.RowKit Go.Sort
set_option linter.unusedVariables false
set_option linter.unusedSimpArgs false
set_option maxRecDepth 100000
theorem insSt_bd (s : ByteArray) (st : List ByteArray × Bool) (x : ByteArray) (k : Nat) (h : st.1.length ≤ if st.2 then k + 1 else k) : (insSt s st x).1.length ≤ if (insSt s st x).2 then k + 2 else k + 1 := by
 obtain ⟨l, b⟩ := st
 unfold insSt insA
 cases b <;> cases leS s x <;> cases (x.toList != s.toList) <;> simp_all <;> omega
theorem insFold_bd (s : ByteArray) (l : List ByteArray) : ∀ (st : List ByteArray × Bool) (k : Nat), st.1.length ≤ (if st.2 then k + 1 else k) → (l.foldl (insSt s) st).1.length ≤ if (l.foldl (insSt s) st).2 then k + l.length + 1 else k + l.length := by
 induction l with
 | nil => intro st k h; obtain ⟨a, b⟩ := st; cases b <;> simpa using h
 | cons x l ih =>
  intro st k h
  have := ih (insSt s st x) (k + 1) (by simpa [Nat.add_assoc] using insSt_bd s st x k h)
  simp only [List.foldl_cons, List.length_cons]
  rw [show k + (l.length + 1) = k + 1 + l.length by omega]
  exact this
theorem insB_len (l : List ByteArray) (s : ByteArray) : (insB l s).length ≤ l.length + 1 := by
 have := insFold_bd s l ([], false) 0 (by simp)
 unfold insB
 split
 ·simp_all
 ·simp_all
theorem insSt_mem (s : ByteArray) (st : List ByteArray × Bool) (x y : ByteArray) (h : y ∈ (insSt s st x).1) : y ∈ st.1 ∨ y = s ∨ y = x := by
 obtain ⟨l, b⟩ := st
 unfold insSt insA at h
 revert h
 cases b <;> cases leS s x <;> cases (x.toList != s.toList) <;> simp <;> grind
theorem insFold_mem (s y : ByteArray) (l : List ByteArray) : ∀ st : List ByteArray × Bool, y ∈ (l.foldl (insSt s) st).1 → y ∈ st.1 ∨ y = s ∨ y ∈ l := by
 induction l with
 | nil => intro st h; exact .inl h
 | cons x l ih =>
  intro st h
  rcases ih (insSt s st x) h with h | h | h
  ·rcases insSt_mem s st x y h with h | h | h
   ·exact .inl h
   ·exact .inr (.inl h)
   ·exact .inr (.inr (by simp [h]))
  ·exact .inr (.inl h)
  ·exact .inr (.inr (by simp [h]))
theorem insB_mem (l : List ByteArray) (s y : ByteArray) (h : y ∈ insB l s) : y = s ∨ y ∈ l := by
 unfold insB at h
 split at h
 ·rcases insFold_mem s y l _ h with h | h | h
  ·cases h
  ·exact .inl h
  ·exact .inr h
 ·rcases List.mem_append.1 h with h | h
  ·rcases insFold_mem s y l _ h with h | h | h
   ·cases h
   ·exact .inl h
   ·exact .inr h
  ·exact .inl (List.mem_singleton.1 h)
def tagsK (l : List ByteArray) (k : Nat) : List ByteArray := (l.take k).foldl insB []
theorem tagsK_step (l : List ByteArray) (k : Nat) (x : ByteArray) (h : l[k]? = some x) : tagsK l (k + 1) = insB (tagsK l k) x := foldl_take _ _ h
theorem tagsK_mem (l : List ByteArray) (k : Nat) (y : ByteArray) (h : y ∈ tagsK l k) : y ∈ l := by
 have key : ∀ (m acc : List ByteArray), y ∈ m.foldl insB acc → y ∈ acc ∨ y ∈ m := by
  intro m
  induction m with
  | nil => intro acc h; exact .inl h
  | cons x m ih =>
   intro acc h
   rcases ih _ h with h | h
   ·rcases insB_mem _ _ _ h with h | h
    ·exact .inr (by simp [h])
    ·exact .inl h
   ·exact .inr (by simp [h])
 rcases key _ _ h with h | h
 ·cases h
 ·exact List.mem_of_mem_take h
theorem tagsK_len (l : List ByteArray) : ∀ k, k ≤ l.length → (tagsK l k).length ≤ k
 | 0, _ => by simp [tagsK]
 | k + 1, h => by
  have hx : l[k]? = some l[k] := List.getElem?_eq_getElem (by omega)
  rw [tagsK_step l k _ hx]
  have := insB_len (tagsK l k) l[k]
  have := tagsK_len l k (by omega)
  omega
theorem tagsK_all (l : List ByteArray) : tagsK l l.length = l.foldl insB [] := by rw [tagsK, List.take_length]
def rTagsL (l : List ByteArray) : List UInt8 := Lib.join (lists (l.foldl insB [])) [44]
def rTagsR (l : List ByteArray) : ByteArray × Int := if l.any (fun p => !isNameB p) then (⟨#[]⟩, 1) else if 4096 < (rTagsL l).length then (⟨#[]⟩, 2) else (toB (rTagsL l), 0)
def rTagsV (l : List ByteArray) : Value := .agg #[.string (rTagsR l).1, .int .i64 (rTagsR l).2]
theorem join_bound2 (l : List ByteArray) (h : ∀ x ∈ l, x.size ≤ 64) : (Lib.join (lists l) [44]).length ≤ l.length * 65 := by
 have := join_bound (lists l) (by
  intro x hx
  obtain ⟨p, hp, rfl⟩ := List.mem_map.1 hx
  have := h p hp
  rw [Lib.size_eq] at this; exact this)
 rwa [lists_len] at this
set_option maxHeartbeats 4000000 in
theorem rTags_any (A : Option Addr) (n c : Nat) (l : List ByteArray) (w : World) (hR : Reads w 1 A n (l.map .string)) (hn : n ≤ 1000000) (hsz : ∀ x ∈ l, x.size ≤ 4294967281) : Calls Tryz.prog 160 #[.slice A n c] w (Ret w (rTagsV l)) := by
 have hl : l.length = n := by have := hR.1; simpa using this
 have HL := Lib.hid hl
 have HR := Lib.hid hR
 have HS := Lib.hid hsz
 obtain ⟨V, hV⟩ : ∃ V, rTagsV l = V := ⟨_, rfl⟩
 have HV := Lib.hid hV
 rw [hV]
 clear hl hR hV hsz
 go_enter Tryz.func160, Tryz.ntmps160
 go_wp2
 have hX0 : ResBox (w.alloc (.cells #[.string ⟨#[]⟩, .int .i64 0] 177)) w.heap.size ⟨#[]⟩ 0 := World.alloc_heap_new _ _
 go_loopw [3, 4] (fun vo vi wr => ∃ (k m : Nat) (A' : Option Addr) (c' : Nat), (vi = .int .i64 k ∧ vo = .slice A' m c' ∧ k ≤ n ∧ m ≤ k) ∧ Hid ((tagsK l k).length = m ∧ ∀ p ∈ l.take k, isNameB p = true) ∧ ResBox wr w.heap.size ⟨#[]⟩ 0 ∧ Reads wr 1 A' m ((tagsK l k).map .string) ∧ Below w.heap.size w wr) (fun _ i _ => n - (intOf i).toNat)
 case atStart => exact ⟨0, 0, none, 0, ⟨rfl, rfl, Nat.zero_le _, Nat.le_refl _⟩, Lib.hid ⟨rfl, by simp⟩, hX0, Reads.nil_ _ _ _, balloc (Below.refl _ _) _⟩
 case round =>
  clear hX0
  obtain ⟨k, m, A', c', ⟨rfl, rfl, hk, hm⟩, HK, hX, hR2, hbr⟩ := hrel
  have HR2 := Lib.hid hR2
  clear hR2
  by_cases hlt : k < n
  ·obtain ⟨x, hx⟩ : ∃ x, l[k]? = some x := ⟨_, List.getElem?_eq_getElem (by have := HL.out; omega)⟩
   obtain ⟨b, o, rfl, hcell⟩ := HR.out.2 (by omega)
   have hc0 : w.cell? ⟨b, o + k, none⟩ = some (.string x) := hcell k _ (by simp [hx])
   have hc1 : wr.cell? ⟨b, o + k, none⟩ = some (.string x) := cell_keep hbr hc0
   have hk0 : (0 : Int) ≤ (k : Int) := by omega
   have hk1 : (k : Int) < (n : Int) := by omega
   have hxs := HS.out x (List.mem_of_getElem? hx)
   have HX := Lib.hid hx
   have cN := fun W => rName_any x W hxs
   clear hcell hx
   cases hname : isNameB x
   ·have hv : V = .agg #[.string ⟨#[]⟩, .int .i64 1] := by
     rw [← HV.out]
     unfold rTagsV rTagsR
     rw [if_pos (List.any_eq_true.2 ⟨x, List.mem_of_getElem? HX.out, by rw [hname]; rfl⟩)]
    subst hv
    rw [hname] at cN
    go_wp2_with (go_at_call 50; refine (cN _).mono ?_; rintro e w1 ⟨rfl, hb1⟩; have hX1 : ResBox w1 w.heap.size ⟨#[]⟩ 0 := Blk.keep hX hb1; obtain ⟨x0, x1, f0, f1⟩ := hX1.facts; clear cN)
    exact bodyPost_ret (v := .agg #[.string ⟨#[]⟩, .int .i64 1]) (by simp [results, Tryz.results160, go_sem, x0, x1, f0, f1]) rfl ⟨rfl, belB⟩
   ·rw [hname] at cN
    have hm2 : (tagsK l (k + 1)).length ≤ k + 1 := tagsK_len l (k + 1) (by have := HL.out; omega)
    have HM := Lib.hid (show tagsK l (k + 1) = insB (tagsK l k) x from tagsK_step l k x HX.out)
    go_wp2_with (first | (go_at_call 50; refine (cN _).mono ?_; rintro e w1 ⟨rfl, hb1⟩; have hX1 : ResBox w1 w.heap.size ⟨#[]⟩ 0 := Blk.keep hX hb1; have hc2 : w1.cell? ⟨b, o + k, none⟩ = some (.string x) := cell_keep hb1 hc1; have cI := rInsert_any A' m c' (tagsK l k) x w1 (HR2.out.keep hb1) (by omega); clear cN) | (go_at_call 199; refine cI.mono ?_; rintro e w2 ⟨A2, c2, rfl, hown2, hb2⟩; clear cI))
    rw [← HM.out] at hown2 ⊢
    exact ⟨⟨k + 1, _, A2, c2, ⟨by go_num, rfl, by omega, hm2⟩, Lib.hid ⟨rfl, by
     rw [List.take_add_one, HX.out]
     intro p hp
     rcases List.mem_append.1 hp with hp | hp
     ·exact HK.out.2 p hp
     ·rw [show p = x by simpa using hp]; exact hname⟩, Blk.keep hX1 hb2, Reads.of_own hown2, bstep hbr (bstep hb1 hb2)⟩, by simp [intOf]; omega⟩
  ·obtain rfl : k = n := by omega
   have hall : l.any (fun p => !isNameB p) = false := by
    rw [List.any_eq_false]
    intro p hp
    have := HK.out.2 p (by rw [List.take_of_length_le (by have := HL.out; omega)]; exact hp)
    simp [this]
   have hke : tagsK l k = l.foldl insB [] := by rw [← HL.out]; exact tagsK_all l
   have h64 : ∀ x ∈ tagsK l k, x.size ≤ 64 := fun x hx => size_of_name (by have := List.any_eq_false.1 hall x (tagsK_mem l k x hx); simpa using this)
   have hb := join_bound2 (tagsK l k) h64
   rw [HK.out.1] at hb
   have cJ := fun W h => rJoined_any A' m c' (tagsK l k) W h (by omega) (by omega) (fun x hx => by have := h64 x hx; omega)
   have hv : V = if 4096 < (toB (Lib.join (lists (tagsK l k)) [44])).size then .agg #[.string ⟨#[]⟩, .int .i64 2] else .agg #[.string (toB (Lib.join (lists (tagsK l k)) [44])), .int .i64 0] := by
    rw [← HV.out, hke]
    unfold rTagsV rTagsR rTagsL
    rw [if_neg (by rw [hall]; decide), toB_size]
    split <;> rfl
   have HC := Lib.hid cJ
   clear hall hke h64 hb cJ HV HK
   generalize toB (Lib.join (lists (tagsK l k)) [44]) = T at *
   by_cases hbig : 4096 < T.size
   ·rw [if_pos hbig] at hv
    subst hv
    have hd : decide ((4096 : Int) < (T.size : Int)) = true := by simp; omega
    go_wp2_with (go_at_call 200; refine (HC.out _ HR2.out).mono ?_; rintro e w1 ⟨rfl, hb1⟩; have hX1 : ResBox w1 w.heap.size ⟨#[]⟩ 0 := Blk.keep hX hb1; obtain ⟨x0, x1, f0, f1⟩ := hX1.facts)
    exact bodyPost_ret (v := .agg #[.string ⟨#[]⟩, .int .i64 2]) (by simp [results, Tryz.results160, go_sem, x0, x1, f0, f1]) rfl ⟨rfl, belB⟩
   ·rw [if_neg hbig] at hv
    subst hv
    have hd : decide ((4096 : Int) < (T.size : Int)) = false := by simp; omega
    go_wp2_with (go_at_call 200; refine (HC.out _ HR2.out).mono ?_; rintro e w1 ⟨rfl, hb1⟩; have hX1 : ResBox w1 w.heap.size ⟨#[]⟩ 0 := Blk.keep hX hb1; obtain ⟨x0, x1, f0, f1⟩ := hX1.facts)
    exact bodyPost_ret (v := .agg #[.string T, .int .i64 0]) (by simp [results, Tryz.results160, go_sem, x0, x1, f0, f1]) rfl ⟨rfl, belB⟩
end Go.Proofs.YtdlbfjoemabfpaaGreatDoor
namespace Go.Proofs.YtdlbfjoemabfpaaGreatDoor
open Go.RowKit Go.Sort
set_option linter.unusedVariables false
set_option linter.unusedSimpArgs false
set_option maxRecDepth 100000
def insP (s : ByteArray) : List ByteArray → List ByteArray
 | [] => [s]
 | x :: l => if leS s x then s :: (x :: l).filter (fun y => y.toList != s.toList) else x :: insP s l
theorem ins_true (s : ByteArray) : ∀ (l acc : List ByteArray), l.foldl (insSt s) (acc, true) = (acc ++ l.filter (fun y => y.toList != s.toList), true)
 | [], acc => by simp
 | x :: l, acc => by
  rw [List.foldl_cons]
  have e : insA s (acc, true) x = (acc, true) := by simp [insA]
  cases hne : (x.toList != s.toList)
  ·rw [show insSt s (acc, true) x = (acc, true) by simp only [insSt, hne, e]; rfl, ins_true s l acc, List.filter_cons, if_neg (by rw [hne]; decide)]
  ·rw [show insSt s (acc, true) x = (acc ++ [x], true) by simp only [insSt, hne, e]; rfl, ins_true s l (acc ++ [x]), List.filter_cons, if_pos hne]
   simp
theorem ins_false (s : ByteArray) : ∀ (l acc : List ByteArray), (if (l.foldl (insSt s) (acc, false)).2 then (l.foldl (insSt s) (acc, false)).1 else (l.foldl (insSt s) (acc, false)).1 ++ [s]) = acc ++ insP s l
 | [], acc => by simp [insP]
 | x :: l, acc => by
  rw [List.foldl_cons]
  cases hle : leS s x
  ·have e : insA s (acc, false) x = (acc, false) := by simp [insA, hle]
   have hne : (x.toList != s.toList) = true := by
    rw [ne_iff]
    intro h
    have : leS s x = true := (leS_iff s x).2 (by rw [h]; exact List.le_refl _)
    rw [hle] at this; cases this
   rw [show insSt s (acc, false) x = (acc ++ [x], false) by simp only [insSt, hne, e]; rfl, ins_false s l (acc ++ [x]), insP, hle]
   simp
  ·have e : insA s (acc, false) x = (acc ++ [s], true) := by simp [insA, hle]
   have hp : insP s (x :: l) = s :: (x :: l).filter (fun y => y.toList != s.toList) := by rw [insP, if_pos hle]
   cases hne : (x.toList != s.toList)
   ·rw [show insSt s (acc, false) x = (acc ++ [s], true) by simp only [insSt, hne, e]; rfl, hp, ins_true]
    have hf : (x :: l).filter (fun y => y.toList != s.toList) = l.filter (fun y => y.toList != s.toList) := by rw [List.filter_cons, if_neg (by rw [hne]; decide)]
    rw [hf]
    simp
   ·rw [show insSt s (acc, false) x = (acc ++ [s] ++ [x], true) by simp only [insSt, hne, e]; rfl, hp, ins_true]
    have hf : (x :: l).filter (fun y => y.toList != s.toList) = x :: l.filter (fun y => y.toList != s.toList) := by rw [List.filter_cons, if_pos hne]
    rw [hf]
    simp
theorem insB_eq (l : List ByteArray) (s : ByteArray) : insB l s = insP s l := by
 have := ins_false s l []
 unfold insB
 rw [this]; rfl
theorem insP_mem (s : ByteArray) (a : BL) : ∀ l, a ∈ lists (insP s l) ↔ a = s.data.toList ∨ a ∈ lists l
 | [] => by simp [insP, lists]
 | x :: l => by
  unfold insP
  split
  ·simp only [lists, List.map_cons, List.mem_cons, List.mem_map, List.mem_filter]
   constructor
   ·rintro (h | ⟨y, ⟨h1, _⟩, h2⟩)
    ·exact .inl h
    ·rcases h1 with rfl | h1
     ·exact .inr (.inl h2.symm)
     ·exact .inr (.inr ⟨y, h1, h2⟩)
   ·intro h
    by_cases hs : a = s.data.toList
    ·exact .inl hs
    ·right
     rcases h with h | h | ⟨y, h1, h2⟩
     ·exact absurd h hs
     ·exact ⟨x, ⟨.inl rfl, (ne_iff s x).2 (by rw [← h]; exact hs)⟩, h.symm⟩
     ·exact ⟨y, ⟨.inr h1, (ne_iff s y).2 (by rw [h2]; exact hs)⟩, h2⟩
  ·have ih := insP_mem s a l
   simp only [lists, List.map_cons, List.mem_cons] at ih ⊢
   rw [ih]
   constructor
   ·rintro (h | h | h)
    ·exact .inr (.inl h)
    ·exact .inl h
    ·exact .inr (.inr h)
   ·rintro (h | h | h)
    ·exact .inr (.inl h)
    ·exact .inl h
    ·exact .inr (.inr h)
theorem insP_sorted (s : ByteArray) : ∀ l, (lists l).Pairwise (· < ·) → (lists (insP s l)).Pairwise (· < ·)
 | [], _ => by simp [insP, lists]
 | x :: l, h => by
  have h' := List.pairwise_cons.1 (show (x.data.toList :: lists l).Pairwise (· < ·) from h)
  unfold insP
  split
  ·rename_i hle
   have hle := (leS_iff s x).1 hle
   show (s.data.toList :: lists ((x :: l).filter (fun y => y.toList != s.toList))).Pairwise (· < ·)
   refine List.pairwise_cons.2 ⟨fun a ha => ?_, h.sublist (List.filter_sublist.map _)⟩
   obtain ⟨y, hy, rfl⟩ := List.mem_map.1 ha
   obtain ⟨hy1, hy2⟩ := List.mem_filter.1 hy
   have hn := (ne_iff s y).1 hy2
   refine lt_of_le_ne' ?_ (fun e => hn e.symm)
   rcases List.mem_cons.1 hy1 with rfl | hy1
   ·exact hle
   ·exact List.le_trans hle (List.le_of_lt (h'.1 _ (List.mem_map_of_mem hy1)))
  ·rename_i hle
   have hlt : x.data.toList < s.data.toList := by
    rw [← Decidable.not_not (p := x.data.toList < s.data.toList), List.not_lt]
    exact fun h => hle ((leS_iff s x).2 h)
   show (x.data.toList :: lists (insP s l)).Pairwise (· < ·)
   refine List.pairwise_cons.2 ⟨fun a ha => ?_, insP_sorted s l h'.2⟩
   rcases (insP_mem s a l).1 ha with rfl | ha
   ·exact hlt
   ·exact h'.1 a ha
theorem insFold_sorted (l : List ByteArray) : ∀ acc, (lists acc).Pairwise (· < ·) → (lists (l.foldl insB acc)).Pairwise (· < ·) ∧ ∀ a, a ∈ lists (l.foldl insB acc) ↔ a ∈ lists acc ∨ a ∈ lists l := by
 induction l with
 | nil => intro acc h; exact ⟨h, fun a => by simp [lists]⟩
 | cons x l ih =>
  intro acc h
  obtain ⟨h1, h2⟩ := ih (insB acc x) (by rw [insB_eq]; exact insP_sorted x acc h)
  refine ⟨h1, fun a => ?_⟩
  rw [List.foldl_cons, h2, insB_eq, insP_mem]
  simp only [lists, List.map_cons, List.mem_cons]
  constructor
  ·rintro ((h | h) | h)
   ·exact .inr (.inl h)
   ·exact .inl h
   ·exact .inr (.inr h)
  ·rintro (h | h | h)
   ·exact .inl (.inr h)
   ·exact .inl (.inl h)
   ·exact .inr h
theorem rTags_same (l : List ByteArray) : rTagsL l = tagsL l := by
 have tr : ∀ a b c : BL, decide (a ≤ b) = true → decide (b ≤ c) = true → decide (a ≤ c) = true := fun a b c h1 h2 => by simp only [decide_eq_true_eq] at *; exact List.le_trans h1 h2
 have tot : ∀ a b : BL, (decide (a ≤ b) || decide (b ≤ a)) = true := fun a b => by simp only [Bool.or_eq_true, decide_eq_true_eq]; exact List.le_total a b
 obtain ⟨h1, h2⟩ := insFold_sorted l [] (by simp [lists])
 obtain ⟨h3, h4⟩ := compact_sorted (sortL (lists l)) ((List.pairwise_mergeSort tr tot _).imp fun h => by simpa using h)
 unfold rTagsL tagsL
 congr 1
 refine uniq_sorted _ _ h1 h3 fun a => ?_
 rw [h2, h4, sortL, (List.mergeSort_perm _ _).mem_iff]
 simp [lists]
theorem rTagsR_eq (l : List ByteArray) : rTagsR l = tagsR l := by
 unfold rTagsR tagsR
 rw [rTags_same]
end Go.Proofs.YtdlbfjoemabfpaaGreatDoor
namespace Go.Proofs.YtdlbfjoemabfpaaGreatDoor
open Go.RowKit Go.Sort
set_option linter.unusedVariables false
set_option linter.unusedSimpArgs false
set_option maxRecDepth 100000
theorem tagsR_small (ps : List ByteArray) : (tagsR ps).1.size ≤ 4096 := by
 unfold tagsR
 split
 ·exact Nat.zero_le _
 ·split
  ·exact Nat.zero_le _
  ·dsimp only; rw [toB_size]; omega
theorem splitR_long (s : ByteArray) (h : 4096 < s.size) : splitR s = ([], 3) := by
 have he : s.toList.isEmpty = false := by
  cases hem : s.toList.isEmpty
  ·rfl
  ·rw [Lib.toList_data] at hem
   have := List.isEmpty_iff.1 hem
   have h2 : s.size = 0 := by rw [Lib.size_eq, this]; rfl
   omega
 unfold splitR
 rw [if_neg (by simp [he]), if_neg]
 rintro ⟨_, h2⟩
 have h3 := tagsR_small (splitB 44 s)
 rw [beq_iff_eq, Lib.toList_data, Lib.toList_data] at h2
 rw [Lib.size_eq, h2, ← Lib.size_eq] at h3
 omega
set_option maxHeartbeats 4000000 in
theorem rSplitTags_any (s : ByteArray) (w : World) (hs : s.size ≤ 100000) : Calls Tryz.prog 120 #[.string s] w (RListPost (splitR s) w) := by
 by_cases hlong : 4096 < s.size
 ·rw [splitR_long s hlong]
  have hd : decide ((4096 : Int) < (s.size : Int)) = true := by simp; omega
  go_enter Tryz.func120, Tryz.ntmps120
  go_wp2
  exact bodyPost_ret (v := .agg #[.slice none 0 0, .int .i64 3]) (by simp [results, Tryz.results120, go_sem]) rfl (RListPost.none_ belB)
 ·have hd : decide ((4096 : Int) < (s.size : Int)) = false := by simp; omega
  cases hem : s.toList.isEmpty
  ·have hr : splitR s = if (tagsR (splitB 44 s)).2 = 0 ∧ ((tagsR (splitB 44 s)).1.toList == s.toList) = true then (splitB 44 s, 0) else ([], 3) := by
    unfold splitR; rw [if_neg (by simp [hem])]
   rw [hr]
   have cS := fun W => rSplit_any s 44 W (by omega)
   have hnum := splitB_num 44 s
   have hsz := splitB_size 44 s
   have herr := tagsR_err (splitB 44 s)
   have cT := fun A c W h => rTags_any A (splitB 44 s).length c (splitB 44 s) W h (by omega) (fun p hp => by have := hsz p hp; omega)
   unfold rTagsV at cT
   rw [rTagsR_eq] at cT
   have hne : (s.toList == []) = false := by
    cases h : s.toList with
    | nil => rw [h] at hem; cases hem
    | cons a l => rfl
   have hne2 : ¬ s.toList = [] := by simpa using hne
   have hbig : (splitB 44 s).length ≤ 200000 := by omega
   clear hnum hsz hem
   generalize splitB 44 s = ps at *
   generalize tagsR ps = r at *
   obtain ⟨T, er⟩ := r
   dsimp only at *
   have HT := Lib.hid cT
   have HS := Lib.hid cS
   clear cT cS hr
   have walkbad : ∀ V, V = RListPost ([], 3) w → (er = 0 → (T.toList == s.toList) = false) → Calls Tryz.prog 120 #[.string s] w V := by
    intro V hV h
    have HV := Lib.hid hV
    rcases herr with rfl | rfl | rfl
    ·have h := h rfl
     have h2 : ¬ T.toList = s.toList := by simpa using h
     go_enter Tryz.func120, Tryz.ntmps120
     go_wp2_with (first | (go_at_call 137; refine (HS.out _).mono ?_; rintro e w1 ⟨A, c, rfl, hown, hb1⟩; have hR := Reads.of_own hown; have hX1 : LBox w1 w.heap.size (.slice none 0 0) 0 := Blk.keep (World.alloc_heap_new _ _) hb1) | (go_at_call 160; refine (HT.out _ _ _ (hR.keep belB)).mono ?_; rintro e w2 ⟨rfl, hb2⟩; have hX2 : LBox w2 w.heap.size (.slice none 0 0) 0 := Blk.keep hX1 belB; obtain ⟨x0, x1, f0, f1⟩ := hX2.facts; have hz2 : w.heap.size < w2.heap.size := Blk.lt hX2))
     rw [HV.out]; exact bodyPost_ret (v := .agg #[.slice none 0 0, .int .i64 3]) (by simp [results, Tryz.results120, go_sem, hz2, x0, x1, f0, f1]) rfl (RListPost.none_ belB)
    all_goals
     go_enter Tryz.func120, Tryz.ntmps120
     go_wp2_with (first | (go_at_call 137; refine (HS.out _).mono ?_; rintro e w1 ⟨A, c, rfl, hown, hb1⟩; have hR := Reads.of_own hown; have hX1 : LBox w1 w.heap.size (.slice none 0 0) 0 := Blk.keep (World.alloc_heap_new _ _) hb1) | (go_at_call 160; refine (HT.out _ _ _ (hR.keep belB)).mono ?_; rintro e w2 ⟨rfl, hb2⟩; have hX2 : LBox w2 w.heap.size (.slice none 0 0) 0 := Blk.keep hX1 belB; obtain ⟨x0, x1, f0, f1⟩ := hX2.facts; have hz2 : w.heap.size < w2.heap.size := Blk.lt hX2))
     rw [HV.out]; exact bodyPost_ret (v := .agg #[.slice none 0 0, .int .i64 3]) (by simp [results, Tryz.results120, go_sem, hz2, x0, x1, f0, f1]) rfl (RListPost.none_ belB)
   by_cases hok : er = 0 ∧ (T.toList == s.toList) = true
   ·rw [if_pos hok]
    obtain ⟨rfl, he⟩ := hok
    have he2 : T.toList = s.toList := by simpa using he
    generalize hV : RListPost (ps, 0) w = V
    have HV := Lib.hid hV
    clear hV
    go_enter Tryz.func120, Tryz.ntmps120
    go_wp2_with (first | (go_at_call 137; refine (HS.out _).mono ?_; rintro e w1 ⟨A, c, rfl, hown, hb1⟩; have hR := Reads.of_own hown; have hX1 : LBox w1 w.heap.size (.slice none 0 0) 0 := Blk.keep (World.alloc_heap_new _ _) hb1) | (go_at_call 160; refine (HT.out _ _ _ (hR.keep belB)).mono ?_; rintro e w2 ⟨rfl, hb2⟩; have hX2 : LBox w2 w.heap.size (.slice none 0 0) 0 := Blk.keep hX1 belB; obtain ⟨x0, x1, f0, f1⟩ := hX2.facts; have hz2 : w.heap.size < w2.heap.size := Blk.lt hX2))
    have hA2 : ∀ a, A = some a → a.block ≠ w.heap.size := fun a ha => by have := ownsRow_block hown a.block (by rw [ha]; rfl); simp at this; omega
    rw [← HV.out]; exact bodyPost_ret (v := .agg #[.slice A ps.length c, .int .i64 0]) (by simp [results, Tryz.results120, go_sem, hz2, x0, x1, f0, f1]) rfl ⟨belB, A, c, rfl, Reads.keep (((hR.keep hb2).set_ ⟨w.heap.size, 0, none⟩ _ hA2).set_ ⟨w.heap.size, 1, none⟩ _ hA2) (balloc (Below.refl _ _) _)⟩
   ·rw [if_neg hok]
    exact walkbad _ rfl (fun h0 => by simpa [h0] using hok)
  ·have hr : splitR s = ([], 0) := by unfold splitR; rw [if_pos hem]
   rw [hr]
   have hq : s.toList = [] := List.isEmpty_iff.1 hem
   go_enter Tryz.func120, Tryz.ntmps120
   go_wp2
   exact bodyPost_ret (v := .agg #[.slice none 0 0, .int .i64 0]) (by simp [results, Tryz.results120, go_sem]) rfl (RListPost.none_ belB)
end Go.Proofs.YtdlbfjoemabfpaaGreatDoor
namespace Go.Proofs.YtdlbfjoemabfpaaGreatDoor
open Go.RowKit Go.Sort
set_option linter.unusedVariables false
set_option linter.unusedSimpArgs false
set_option maxRecDepth 100000
theorem splitR_len (s : ByteArray) : (splitR s).1.length ≤ 2 * s.size + 2 := by
 unfold splitR
 have := splitB_num 44 s
 split
 ·simp
 ·split
  ·simp; omega
  ·simp
theorem run_fieldL (A : Option Addr) (n c : Nat) (x : Value) (w : World) : (Instr.field 157 (.agg #[.slice A n c, x]) 0).run Tryz.prog w = .ok (.slice A n c) w := by
 first | kernel_rfl | rfl | simp [Instr.field, part, go_sem, Tryz.underlying157]
set_option maxHeartbeats 4000000 in
theorem rHasTag_any (s tag : ByteArray) (w : World) (hs : s.size ≤ 100000) : Calls Tryz.prog 70 #[.string s, .string tag] w (Ret w (.bool (hasTagB s tag))) := by
 have cS := rSplitTags_any s w hs
 unfold hasTagB
 have hlen := splitR_len s
 generalize splitR s = r at *
 obtain ⟨ps, er⟩ := r
 dsimp only at *
 have hn : ps.length ≤ 1000000 := by omega
 generalize hres : Lib.containsS ps tag = res
 have HRES := Lib.hid hres
 have HS := Lib.hid cS
 clear cS hlen hres
 go_enter Tryz.func70, Tryz.ntmps70
 go_wp2_with (go_at_call 120; refine HS.out.mono ?_; rintro e w1 ⟨hb1, A, c, rfl, hR⟩; have HR := Lib.hid hR)
 rw [run_fieldL]
 go_wp2
 go_loopw [6] (fun vi wr => ∃ k : Nat, vi = .int .i64 k ∧ k ≤ ps.length ∧ Hid (tag ∉ ps.take k) ∧ Below w1.heap.size w1 wr) (fun i _ => ps.length - (intOf i).toNat)
 case atStart => exact ⟨0, rfl, Nat.zero_le _, Lib.hid (by simp), belB⟩
 case round =>
  obtain ⟨k, rfl, hk, HK, hbr⟩ := hrel
  by_cases hlt : k < ps.length
  ·obtain ⟨x, hx⟩ : ∃ x, ps[k]? = some x := ⟨_, List.getElem?_eq_getElem hlt⟩
   obtain ⟨b, o, rfl, hcell⟩ := (HR.out.keep hbr).2 (by omega)
   have hc1 : wr.cell? ⟨b, o + k, none⟩ = some (.string x) := hcell k _ (by simp [hx])
   have hk0 : (0 : Int) ≤ (k : Int) := by omega
   have hk1 : (k : Int) < (ps.length : Int) := by omega
   have HX := Lib.hid hx
   clear hcell hx hR
   by_cases he : x = tag
   ·subst he
    have hv : true = res := by rw [← HRES.out]; exact ((Lib.containsS_iff _ _).2 (List.mem_of_getElem? HX.out)).symm
    have hq : (x.toList == x.toList) = true := by simp
    subst hv
    go_wp2
    go_ret
    exact ⟨rfl, belB⟩
   ·have hq2 : ¬ x.toList = tag.toList := by
     rw [Lib.toList_data, Lib.toList_data]
     exact fun h => he (bytes_ext h)
    have hq : (x.toList == tag.toList) = false := by simpa using hq2
    have HK2 : Hid (tag ∉ ps.take (k + 1)) := Lib.hid (by
     rw [List.take_add_one, HX.out]
     intro h
     rcases List.mem_append.1 h with h | h
     ·exact HK.out h
     ·exact he (by simpa using (show tag ∈ [x] from h) : tag = x).symm)
    clear HK
    go_wp2
    exact ⟨⟨k + 1, by go_num, by omega, HK2, hbr⟩, by simp [intOf]; omega⟩
  ·obtain rfl : k = ps.length := by omega
   have hv : false = res := by
    rw [← HRES.out]
    cases h : Lib.containsS ps tag
    ·rfl
    ·have := HK.out
     rw [List.take_length] at this
     exact absurd ((Lib.containsS_iff _ _).1 h) this
   subst hv
   go_wp2
   go_ret
   exact ⟨rfl, belB⟩
end Go.Proofs.YtdlbfjoemabfpaaGreatDoor
namespace Go.Proofs.YtdlbfjoemabfpaaGreatDoor
open Go.RowKit Go.Sort
set_option linter.unusedVariables false
set_option linter.unusedSimpArgs false
set_option maxRecDepth 100000
theorem all_step {α : Type} (p : α → Bool) (l : List α) (k : Nat) (x : α) (hx : l[k]? = some x) (hp : p x = true) : (l.drop k).all p = (l.drop (k + 1)).all p := by
 obtain ⟨hl2, rfl⟩ := List.getElem?_eq_some_iff.1 hx
 rw [List.drop_eq_getElem_cons hl2, List.all_cons, hp, Bool.true_and]
theorem all_stop {α : Type} (p : α → Bool) (l : List α) (k : Nat) (x : α) (hx : l[k]? = some x) (hp : p x = false) : (l.drop k).all p = false := by
 obtain ⟨hl2, rfl⟩ := List.getElem?_eq_some_iff.1 hx
 rw [List.drop_eq_getElem_cons hl2, List.all_cons, hp, Bool.false_and]
set_option maxHeartbeats 4000000 in
theorem rMatches22_any (x : RuleM) (a t : ByteArray) (w : World) (hR : RuleReads w x) (hp : x.r.pat.size ≤ 100000) (hn : x.r.tags.length ≤ 1000) (ha : a.size ≤ 100000) (ht : t.size ≤ 100000) :
  Calls Tryz.prog 19 #[x.val, .string a, .string t] w (Ret w (.bool (mtX x.r a t))) := by
 have cM := fun W => rMatch_any x.r.pat a W hp ha
 have cT := fun (s : ByteArray) (W : World) => rHasTag_any t s W ht
 have hA := hR.tags
 rw [RuleM.val_eq]
 unfold mtX
 cases hm : matchB x.r.pat a
 ·rw [hm] at cM
  have CM := Lib.hid cM
  clear cM cT hA hR hm
  go_enter Tryz.func19, Tryz.ntmps19
  go_wp2_with (go_at_call 69; refine (CM.out _).mono ?_; rintro e w2 ⟨rfl, hb2⟩)
  go_ret
  exact ⟨rfl, belB⟩
 ·rw [hm] at cM
  rw [Bool.true_and]
  obtain ⟨V, hV⟩ : ∃ V, V = x.r.tags.all (hasTagB t) := ⟨_, rfl⟩
  rw [← hV]
  obtain ⟨xs, hxs⟩ : ∃ xs, xs = x.r.tags := ⟨_, rfl⟩
  rw [← hxs] at hA hV hn ⊢
  have hT : x.T = x.T := rfl
  have CM := Lib.hid cM; have CT := Lib.hid cT; have HA := Lib.hid hA; have HV := Lib.hid hV
  generalize x.T = T at *
  generalize x.ct = ct at *
  obtain ⟨n, hnn⟩ : ∃ n, n = xs.length := ⟨_, rfl⟩
  rw [← hnn] at HA hn ⊢
  clear cM cT hA hR hV hm hT hxs
  have HNN := Lib.hid hnn
  clear hnn
  go_enter Tryz.func19, Tryz.ntmps19
  go_wp2_with (go_at_call 69; refine (CM.out _).mono ?_; rintro e w2 ⟨rfl, hb2⟩; have y2 : w2.cell? ⟨w.heap.size, 2, none⟩ = some (.slice T n ct) := cell_keep hb2 ((cell_of_row _ _ 2 _ _ _ (heap_alloc_new w _)).trans rfl))
  go_loopw [8] (fun i wr => ∃ k : Nat, k ≤ n ∧ i = .int .i64 k ∧ Hid (V = (xs.drop k).all (hasTagB t)) ∧ wr.cell? ⟨w.heap.size, 2, none⟩ = some (.slice T n ct) ∧ Below w.heap.size w wr) (fun i _ => n - (intOf i).toNat)
  case atStart => exact ⟨0, by omega, rfl, Lib.hid (by rw [HV.out]; rfl), y2, belB⟩
  case round =>
   obtain ⟨k, hk, rfl, HI, hy, hb⟩ := hrel
   clear y2 hb2
   by_cases hlt : k < n
   ·obtain ⟨x, hx⟩ : ∃ x, xs[k]? = some x := ⟨_, List.getElem?_eq_getElem (by have := HNN.out; omega)⟩
    obtain ⟨pb, po, rfl, hcell⟩ := (HA.out.keep hb).2 (by omega)
    have hc1 : wr.cell? ⟨pb, po + k, none⟩ = some (.string x) := hcell k _ (by simp [hx])
    have hk0 : (0 : Int) ≤ (k : Int) := by omega
    have hk1 : (k : Int) < (n : Int) := by omega
    have hx64 : (k : Int) + 1 ≤ 9223372036854775807 := by omega
    have cT := CT.out x
    clear hcell
    cases hpx : hasTagB t x
    all_goals
     rw [hpx] at cT
     have CX := Lib.hid cT
     clear cT
    ·have hVf : V = false := by rw [HI.out]; exact all_stop _ _ _ _ hx hpx
     subst hVf
     clear hx hpx
     go_wp2_with (go_at_call 70; refine (CX.out _).mono ?_; rintro e w3 ⟨rfl, hb3⟩)
     go_ret
     exact ⟨rfl, bstep hb hb3⟩
    ·have hVs : V = (xs.drop (k + 1)).all (hasTagB t) := by rw [HI.out]; exact all_step _ _ _ _ hx hpx
     have HI2 := Lib.hid hVs
     clear hx hpx hVs
     go_wp2_with (go_at_call 70; refine (CX.out _).mono ?_; rintro e w3 ⟨rfl, hb3⟩)
     exact ⟨⟨k + 1, by omega, by go_num, HI2, cell_keep hb3 hy, bstep hb hb3⟩, by simp [intOf]; omega⟩
   ·have hVt : V = true := by rw [HI.out, List.drop_eq_nil_of_le (by have := HNN.out; omega)]; rfl
    subst hVt
    go_wp2
    go_ret
    exact ⟨rfl, hb⟩
end Go.Proofs.YtdlbfjoemabfpaaGreatDoor
namespace Go.Proofs.YtdlbfjoemabfpaaGreatDoor
open Go.RowKit Go.Sort
set_option linter.unusedVariables false
set_option linter.unusedSimpArgs false
set_option maxRecDepth 100000
set_option maxHeartbeats 4000000 in
theorem rFewRules22_any (p : RuleM → Bool) (A : Option Addr) (n c : Nat) (L : List RuleM) (most : Int) (w : World) (hL : RulesRead w A n L) (hn : n ≤ 9223372036854775807)
  (cP : ∀ x ∈ L, ∀ W, Below w.heap.size w W → Calls Tryz.prog 27 #[x.val] W (Ret W (.bool (p x)))) :
  Calls Tryz.prog 9 #[.slice A n c, .int .i64 most] w (Ret w (.bool (L.all p && decide ((n : Int) ≤ most)))) := by
 have hl : L.length = n := hL.len
 obtain ⟨V, hV⟩ : ∃ V, V = L.all p := ⟨_, rfl⟩
 rw [← hV]
 have HP := Lib.hid cP; have HA := Lib.hid hL; have HL := Lib.hid hl; have HV := Lib.hid hV
 clear cP hL hl hV
 go_enter Tryz.func9, Tryz.ntmps9
 go_wp2
 go_loopw [5] (fun i wr => ∃ k : Nat, k ≤ n ∧ i = .int .i64 k ∧ Hid (V = (L.drop k).all p) ∧ Below w.heap.size w wr) (fun i _ => n - (intOf i).toNat)
 case atStart => exact ⟨0, by omega, rfl, Lib.hid (by rw [HV.out]; rfl), Below.refl _ _⟩
 case round =>
  obtain ⟨k, hk, rfl, HI, hb⟩ := hrel
  by_cases hlt : k < n
  ·obtain ⟨x, hx⟩ : ∃ x, L[k]? = some x := ⟨_, List.getElem?_eq_getElem (by have := HL.out; omega)⟩
   obtain ⟨_, b, o, rfl, hcell⟩ := (HA.out.keep hb).at_ hx
   have hld := rule_load wr b (o + k * 18) x hcell
   have hc := HP.out x (List.mem_of_getElem? hx) wr hb
   have hk0 : (0 : Int) ≤ (k : Int) := by omega
   have hk1 : (k : Int) < (n : Int) := by omega
   clear hcell
   have hxv : x.val = x.val := rfl
   generalize x.val = xv at hld hc
   clear hxv
   have HLD := Lib.hid hld
   clear hld
   cases hpx : p x
   ·rw [hpx] at hc
    have HC := Lib.hid hc
    have hVf : V = false := by rw [HI.out]; exact all_stop _ _ _ _ hx hpx
    subst hVf
    clear hc hx hpx
    rw [Bool.false_and]
    go_wp2_with (first | (refine wpList_load_addr rfl _ _ rfl ⟨b, o + k * 18, none⟩ xv rfl HLD.out ?_) | (go_at_call 27; refine (HC.out).mono ?_; rintro e w2 ⟨rfl, hb2⟩))
    go_ret
    exact ⟨rfl, bstep hb hb2⟩
   ·rw [hpx] at hc
    have HC := Lib.hid hc
    have hVs : V = (L.drop (k + 1)).all p := by rw [HI.out]; exact all_step _ _ _ _ hx hpx
    have HI2 := Lib.hid hVs
    clear hc hx hpx hVs
    go_wp2_with (first | (refine wpList_load_addr rfl _ _ rfl ⟨b, o + k * 18, none⟩ xv rfl HLD.out ?_) | (go_at_call 27; refine (HC.out).mono ?_; rintro e w2 ⟨rfl, hb2⟩))
    exact ⟨⟨k + 1, by omega, by go_num, HI2, bstep hb hb2⟩, by simp [intOf]; omega⟩
  ·have hVt : V = true := by rw [HI.out, List.drop_eq_nil_of_le (by have := HL.out; omega)]; rfl
   subst hVt
   rw [Bool.true_and]
   go_wp2
   go_ret
   exact ⟨rfl, hb⟩
end Go.Proofs.YtdlbfjoemabfpaaGreatDoor
namespace Go.Proofs.YtdlbfjoemabfpaaGreatDoor
open Go.RowKit Go.Sort
set_option linter.unusedVariables false
set_option linter.unusedSimpArgs false
set_option maxRecDepth 100000
set_option maxHeartbeats 4000000 in
theorem rRight22_any (p : RuleM → Bool) (A : Option Addr) (n c : Nat) (L : List RuleM) (w : World) (hL : RulesRead w A n L) (hn : n ≤ 1000000)
  (cP : ∀ x ∈ L, ∀ W, Below w.heap.size w W → Calls Tryz.prog 12 #[x.val] W (Ret W (.bool (p x)))) :
  Calls Tryz.prog 17 #[.slice A n c] w (Ret w (.bool (L.all p))) := by
 have hl : L.length = n := hL.len
 obtain ⟨V, hV⟩ : ∃ V, V = L.all p := ⟨_, rfl⟩
 rw [← hV]
 have HP := Lib.hid cP; have HA := Lib.hid hL; have HL := Lib.hid hl; have HV := Lib.hid hV
 clear cP hL hl hV
 go_enter Tryz.func17, Tryz.ntmps17
 go_wp2
 go_loopw [3] (fun i wr => ∃ k : Nat, k ≤ n ∧ i = .int .i64 k ∧ Hid (V = (L.drop k).all p) ∧ Below w.heap.size w wr) (fun i _ => n - (intOf i).toNat)
 case atStart => exact ⟨0, by omega, rfl, Lib.hid (by rw [HV.out]; rfl), Below.refl _ _⟩
 case round =>
  obtain ⟨k, hk, rfl, HI, hb⟩ := hrel
  by_cases hlt : k < n
  ·obtain ⟨x, hx⟩ : ∃ x, L[k]? = some x := ⟨_, List.getElem?_eq_getElem (by have := HL.out; omega)⟩
   obtain ⟨_, b, o, rfl, hcell⟩ := (HA.out.keep hb).at_ hx
   have hld := rule_load wr b (o + k * 18) x hcell
   have hc := HP.out x (List.mem_of_getElem? hx) wr hb
   have hk0 : (0 : Int) ≤ (k : Int) := by omega
   have hk1 : (k : Int) < (n : Int) := by omega
   clear hcell
   have hxv : x.val = x.val := rfl
   generalize x.val = xv at hld hc
   clear hxv
   have HLD := Lib.hid hld
   clear hld
   cases hpx : p x
   ·rw [hpx] at hc
    have HC := Lib.hid hc
    have hVf : V = false := by rw [HI.out]; exact all_stop _ _ _ _ hx hpx
    subst hVf
    clear hc hx hpx
    go_wp2_with (first | (refine wpList_load_addr rfl _ _ rfl ⟨b, o + k * 18, none⟩ xv rfl HLD.out ?_) | (go_at_call 12; refine (HC.out).mono ?_; rintro e w2 ⟨rfl, hb2⟩))
    go_ret
    exact ⟨rfl, bstep hb hb2⟩
   ·rw [hpx] at hc
    have HC := Lib.hid hc
    have hVs : V = (L.drop (k + 1)).all p := by rw [HI.out]; exact all_step _ _ _ _ hx hpx
    have HI2 := Lib.hid hVs
    clear hc hx hpx hVs
    go_wp2_with (first | (refine wpList_load_addr rfl _ _ rfl ⟨b, o + k * 18, none⟩ xv rfl HLD.out ?_) | (go_at_call 12; refine (HC.out).mono ?_; rintro e w2 ⟨rfl, hb2⟩))
    exact ⟨⟨k + 1, by omega, by go_num, HI2, bstep hb hb2⟩, by simp [intOf]; omega⟩
  ·have hVt : V = true := by rw [HI.out, List.drop_eq_nil_of_le (by have := HL.out; omega)]; rfl
   subst hVt
   go_wp2
   go_ret
   exact ⟨rfl, hb⟩
end Go.Proofs.YtdlbfjoemabfpaaGreatDoor
namespace Go.Proofs.YtdlbfjoemabfpaaGreatDoor
open Go.RowKit Go.Sort
set_option linter.unusedVariables false
set_option linter.unusedSimpArgs false
set_option maxRecDepth 100000
set_option maxHeartbeats 4000000 in
theorem rPossible22_any (A : Option Addr) (n c : Nat) (L : List RuleM) (a : ByteArray) (w : World) (hL : RulesRead w A n L) (hf : RulesFit L) (ha : a.size ≤ 100000) :
  Calls Tryz.prog 24 #[.slice A n c, .string a] w (IntsPost (possX a L 0) w) := by
 obtain ⟨i0, hi, hz0, hz1, hz2⟩ := info_parts infoInt22
 have HI := Lib.hid (And.intro hi (And.intro hz0 (And.intro hz1 hz2)))
 clear hi hz0 hz1 hz2
 have hl : L.length = n := hL.len
 have hn : n ≤ 1000 := by have := hf.n; omega
 have cM := fun (x : RuleM) (hx : x ∈ L) (W : World) => rMatch_any x.r.pat a W (hf.p x hx) ha
 obtain ⟨V, hV⟩ : ∃ V, V = possX a L 0 := ⟨_, rfl⟩
 rw [← hV]
 have HL := Lib.hid hL; have HM := Lib.hid cM; have HV := Lib.hid hV; have HLN := Lib.hid hl
 clear hL cM hV hl hf ha
 go_enter Tryz.func24, Tryz.ntmps24
 go_wp2
 go_loopw [5, 6] (fun ov iv wr => ∃ (k : Nat) (acc : List Nat) (B : Option Addr) (d : Nat), k ≤ n ∧ iv = .int .i64 k ∧ ov = .slice B acc.length d ∧ acc.length ≤ k ∧ Hid (V = acc ++ possX a (L.drop k) k) ∧ wr.ownsRow w.heap.size 3 1 (.slice B acc.length d) acc.length (i64s acc) ∧ Below w.heap.size w wr) (fun _ iv _ => n - (intOf iv).toNat)
 case atStart => exact ⟨0, [], none, 0, by omega, rfl, rfl, by simp, Lib.hid (by rw [HV.out]; rfl), World.ownsRow_nil _ _ _ _, Below.refl _ _⟩
 case round =>
  obtain ⟨k, acc, B, d, hk, rfl, rfl, hak, HVA, hown, hbr⟩ := hrel
  have hbs := hbr.size
  by_cases hlt : k < n
  ·obtain ⟨x, hx⟩ : ∃ x, L[k]? = some x := ⟨_, List.getElem?_eq_getElem (by have := HLN.out; omega)⟩
   obtain ⟨_, b, o, rfl, hcell⟩ := HL.out.at_ hx
   have hd : L.drop k = x :: L.drop (k + 1) := by
    obtain ⟨hl2, rfl⟩ := List.getElem?_eq_some_iff.1 hx
    exact List.drop_eq_getElem_cons hl2
   have hVA := HVA.out
   rw [hd, possX] at hVA
   have hMx := HM.out x (List.mem_of_getElem? hx)
   have hc1 : w.cell? ⟨b, o + k * 18 + 1, none⟩ = some (.string x.r.pat) := hcell 1 _ rfl
   have hc2 : w.cell? ⟨b, o + k * 18 + 2, none⟩ = some (.slice x.T x.r.tags.length x.ct) := hcell 2 _ rfl
   clear hd hcell
   generalize x.r.pat = pt at *
   generalize x.r.tags.length = tl at *
   generalize x.T = T at *
   generalize x.ct = ct at *
   have y1 := cell_keep hbr hc1
   have hk0 : (0 : Int) ≤ (k : Int) := by omega
   have hk1 : (k : Int) < (n : Int) := by omega
   have HMX := Lib.hid hMx
   clear hx hMx HVA HM hc1
   obtain ⟨m, hm⟩ : ∃ m, m = acc.length := ⟨_, rfl⟩
   have HML := Lib.hid hm
   rw [← hm] at hown hak ⊢
   clear hm
   cases hmb : matchB pt a
   ·rw [hmb] at HMX hVA
    have hVA : V = acc ++ possX a (L.drop (k + 1)) (k + 1) := by simpa using hVA
    have HVA := Lib.hid hVA
    clear hVA hmb
    go_wp2_with (go_at_call 69; refine (HMX.out _).mono ?_; rintro e w2 ⟨rfl, hb2⟩; have hs2 := hb2.size; have z2 := cell_keep (bstep hbr hb2) hc2)
    refine ⟨⟨k + 1, acc, B, d, by omega, by go_num, by rw [← HML.out], by rw [← HML.out]; omega, HVA, ?_, bstep hbr hb2⟩, by simp [intOf]; omega⟩
    rw [← HML.out]
    exact ownsRow_keep hown hb2
   ·rw [hmb] at HMX hVA
    by_cases htl : tl = 0
    ·subst htl
     have hVA : V = acc ++ [k] := by simpa using hVA
     have HVA := Lib.hid hVA
     clear hVA hmb
     go_wp2_with (first | (go_at_call 69; refine (HMX.out _).mono ?_; rintro e w2 ⟨rfl, hb2⟩; have hs2 := hb2.size; have z2 := cell_keep (bstep hbr hb2) hc2) | (at_builtin; refine wpList_append_own _ rfl _ _ 29 rfl w.heap.size 3 i0 (.int .i64 0) 1 8 Tryz.underlying29 HI.out.1 HI.out.2.1 HI.out.2.2.1 HI.out.2.2.2 rfl (by decide) _ _ _ rfl ((ownsRow_keep hown hb2).alloc _) ⟨w2.heap.size, 0, none⟩ 1 1 [.int .i64 k] rfl rfl (cell_one_new _ _ _) (by simp [Value.oneCell']) (by unfold maxLen; omega) (by omega) (by simp; omega) ?_; intro v' w3 hown' hgrow _; obtain ⟨g', cap', rfl⟩ := ownsRow_succ hown'; have hb3 : Below w.heap.size w w3 := ((bstep hbr hb2).alloc (by omega) _).grown hgrow (by simp; omega) (fun r e => ownsRow_block hown r e); have z3 := cell_keep hb3 hc2))
     go_ret
     refine ⟨some ⟨g', 0, none⟩, cap', ?_, ?_, hb3⟩
     ·rw [HVA.out, List.length_append, List.length_singleton, ← HML.out]
      rfl
     ·rw [HVA.out, i64s_app, List.length_append, List.length_singleton, ← HML.out]
      exact Reads.of_own hown'
    ·have hVA : V = (acc ++ [k]) ++ possX a (L.drop (k + 1)) (k + 1) := by simpa [htl] using hVA
     have HVA := Lib.hid hVA
     have htl0 : ((tl : Nat) : Int) ≠ 0 := by omega
     have htb : decide (((tl : Nat) : Int) = 0) = false := by simpa using htl
     clear hVA hmb
     go_wp2_with (first | (go_at_call 69; refine (HMX.out _).mono ?_; rintro e w2 ⟨rfl, hb2⟩; have hs2 := hb2.size; have z2 := cell_keep (bstep hbr hb2) hc2) | (at_builtin; refine wpList_append_own _ rfl _ _ 29 rfl w.heap.size 3 i0 (.int .i64 0) 1 8 Tryz.underlying29 HI.out.1 HI.out.2.1 HI.out.2.2.1 HI.out.2.2.2 rfl (by decide) _ _ _ rfl ((ownsRow_keep hown hb2).alloc _) ⟨w2.heap.size, 0, none⟩ 1 1 [.int .i64 k] rfl rfl (cell_one_new _ _ _) (by simp [Value.oneCell']) (by unfold maxLen; omega) (by omega) (by simp; omega) ?_; intro v' w3 hown' hgrow _; obtain ⟨g', cap', rfl⟩ := ownsRow_succ hown'; have hb3 : Below w.heap.size w w3 := ((bstep hbr hb2).alloc (by omega) _).grown hgrow (by simp; omega) (fun r e => ownsRow_block hown r e); have z3 := cell_keep hb3 hc2))
     refine ⟨⟨k + 1, acc ++ [k], some ⟨g', 0, none⟩, cap', by omega, by go_num, by rw [List.length_append, List.length_singleton, ← HML.out], by rw [List.length_append, List.length_singleton, ← HML.out]; omega, HVA, ?_, hb3⟩, by simp [intOf]; omega⟩
     rw [List.length_append, List.length_singleton, ← HML.out, i64s_app]
     exact hown'
  ·obtain rfl : k = n := by omega
   have hVA : V = acc := by rw [HVA.out, List.drop_eq_nil_of_le (by have := HLN.out; omega)]; simp [possX]
   subst hVA
   go_wp2
   go_ret
   exact ⟨B, d, rfl, Reads.of_own hown, hbr⟩
end Go.Proofs.YtdlbfjoemabfpaaGreatDoor
