/- What the specification's split and text return. -/
import Derived.Test.YtjhlpkhfdghngaaGreatDoorXZ6
import Derived.Test.YtjhlpkhfdghngaaGreatDoorXZ4
import Derived.OwnWalk
import Derived.Test.YtjhlpkhfdghngaaGreatDoorProg
import Derived.WalkKit
import Derived.WalkSpells
import Derived.WalkLawsBesides
import Derived.Below
import Derived.Deep.QuietTactic
import Derived.BigQuiet
import Derived.Lib.QuietBelow
import Derived.Lib.Strings
import Derived.Lib.Hide
import Derived.Deep.RegionWith
import Derived.Deep.RegionHeld3
import Derived.Lib.IndexBytes
import Derived.Test.YtjhlpkhfdghngaaGreatDoorXZ0
import Derived.Laws.Tables
import Derived.Maps.AppendAt
import Derived.Test.YtjhlpkhfdghngaaGreatDoorXZ5
import Derived.Test.YtjhlpkhfdghngaaGreatDoorXZ1
import Derived.Test.YtjhlpkhfdghngaaGreatDoorXZ2
import Derived.Lib.SmallJoins
import Derived.Deep.RegionHeldLaw
import Derived.Deep.RegionLaw
import Derived.Test.YtjhlpkhfdghngaaGreatDoorXZ3
import Derived.Deep.DeepCutAuto
namespace Go.Proofs.YtjhlpkhfdghngaaGreatDoor
open Go.RowKit Go.Sort
set_option linter.unusedVariables false
set_option linter.unusedSimpArgs false
set_option maxRecDepth 100000
def SplitI (c : UInt8) (l : List UInt8) (k f : Nat) (acc : List ByteArray) : Prop := f ≤ k ∧ c ∉ (l.drop f).take (k - f) ∧ (splitL c l).map toB = acc ++ (splitL c (l.drop f)).map toB
theorem splitI_step {c : UInt8} {l : List UInt8} {k f : Nat} {acc : List ByteArray} (h : SplitI c l k f acc) (hk : k < l.length) (hne : l[k] ≠ c) : SplitI c l (k + 1) f acc := by
  obtain ⟨h1, h2, h3⟩ := h
  refine ⟨by omega, ?_, h3⟩
  have hl : k - f < (l.drop f).length := by rw [List.length_drop]; omega
  rw [show k + 1 - f = (k - f) + 1 by omega, List.take_succ_eq_append_getElem hl]
  simp only [List.mem_append, List.mem_singleton, not_or]
  refine ⟨h2, ?_⟩
  rw [List.getElem_drop]
  intro e
  apply hne
  rw [e]
  congr 1
  omega
theorem splitI_hit {c : UInt8} {l : List UInt8} {k f : Nat} {acc : List ByteArray} (h : SplitI c l k f acc) (hk : k < l.length) (he : l[k] = c) : SplitI c l (k + 1) (k + 1) (acc ++ [toB ((l.drop f).take (k - f))]) := by
  obtain ⟨h1, h2, h3⟩ := h
  refine ⟨Nat.le_refl _, by simp, ?_⟩
  have hl : k - f < (l.drop f).length := by rw [List.length_drop]; omega
  have hs := at_split (l.drop f) (k - f) hl
  have e1 : (l.drop f)[k - f] = c := by
    rw [List.getElem_drop, ← he]
    congr 1
    omega
  rw [e1, List.drop_drop, show f + (k - f + 1) = k + 1 by omega] at hs
  have hsp : splitL c (l.drop f) = (l.drop f).take (k - f) :: splitL c (l.drop (k + 1)) := by
    conv => lhs; rw [hs]
    exact split_hit _ _ _ h2
  rw [h3, hsp]
  simp
theorem splitI_end {c : UInt8} {l : List UInt8} {f : Nat} {acc : List ByteArray} (h : SplitI c l l.length f acc) : (splitL c l).map toB = acc ++ [toB (l.drop f)] := by
  obtain ⟨h1, h2, h3⟩ := h
  rw [List.take_of_length_le (by rw [List.length_drop]; omega)] at h2
  rw [h3, split_none _ _ h2]
  rfl
theorem splitB_eq (c : UInt8) (s : ByteArray) : splitB c s = (splitL c s.data.toList).map toB := rfl
def OwnPost (ps : List ByteArray) (w : World) (e : Ending) (w' : World) : Prop := ∃ A c, e = .returned (.slice A ps.length c) ∧ w'.ownsRow w.heap.size 9 1 (.slice A ps.length c) ps.length (ps.map .string) ∧ Below w.heap.size w w'
set_option maxHeartbeats 2000000 in
theorem rSplit_any (s : ByteArray) (c : UInt8) (w : World) (hs : s.size ≤ 4294967281) : Calls Tryz.prog 178 #[.string s, .int .u8 c.toNat] w (OwnPost (splitB c s) w) := by
  obtain ⟨i0, hi0, hz0, hz1, hz2⟩ := info_parts infoStr
  have HI : Hid ((Tryz.prog.info? 9 = some i0) ∧ i0.zero = some (.string ⟨#[]⟩) ∧ i0.size = 1 ∧ i0.bytes = 16) := Lib.hid ⟨hi0, hz0, hz1, hz2⟩
  clear hi0 hz0 hz1 hz2
  have hsl : s.data.toList.length = s.size := (Lib.size_eq s).symm
  have HSL := Lib.hid hsl
  clear hsl
  go_enter Tryz.func178, Tryz.ntmps178
  go_wp2
  go_loopw [5, 6, 7] (fun vo vf vi wr => ∃ (k f n : Nat) (acc : List ByteArray) (A : Option Addr) (c' : Nat), (vi = .int .i64 k ∧ vf = .int .i64 f ∧ vo = .slice A n c' ∧ k ≤ s.size ∧ f ≤ k ∧ n ≤ k) ∧ Hid (SplitI c s.data.toList k f acc ∧ acc.length = n) ∧ wr.ownsRow w.heap.size 9 1 (.slice A n c') n (acc.map .string) ∧ Below w.heap.size w wr) (fun _ _ i _ => s.size - (intOf i).toNat)
  case atStart => exact ⟨0, 0, 0, [], none, 0, ⟨rfl, rfl, rfl, Nat.zero_le _, Nat.le_refl _, Nat.le_refl _⟩, Lib.hid ⟨⟨Nat.le_refl _, by simp, by simp⟩, rfl⟩, World.ownsRow_nil _ _ _ _, Below.refl _ _⟩
  case round =>
    obtain ⟨k, f, n, acc, A, c', ⟨rfl, rfl, rfl, hk, hf, hn⟩, HK, hown, hbr⟩ := hrel
    have hbs := hbr.size
    by_cases hlt : k < s.size
    · have hd := byte_int s[k] c.toNat
      have hkl : k < s.data.toList.length := by rw [HSL.out]; exact hlt
      have hat := byte_at s k hlt
      cases hb : (s[k].toNat == c.toNat)
      · rw [hb] at hd
        have hne : s.data.toList[k] ≠ c := fun e => by rw [← hat] at e; rw [e] at hb; simp at hb
        have HK2 : Hid (SplitI c s.data.toList (k + 1) f acc ∧ acc.length = n) := Lib.hid ⟨splitI_step HK.out.1 hkl hne, HK.out.2⟩
        clear hb HK hat hne hkl
        go_wp2
        exact ⟨⟨k + 1, f, n, acc, A, c', ⟨by go_num, rfl, rfl, by omega, by omega, by omega⟩, HK2, hown, hbr⟩, by simp [intOf]; omega⟩
      · rw [hb] at hd
        have he : s.data.toList[k] = c := by rw [← hat]; rw [beq_iff_eq] at hb; exact UInt8.toNat_inj.1 hb
        have hpc : toB ((s.data.toList.drop f).take (k - f)) = s.extract f k := bytes_ext (by rw [Lib.extract_data]; rfl)
        have hhit := splitI_hit HK.out.1 hkl he
        rw [hpc] at hhit
        have HK2 : Hid (SplitI c s.data.toList (k + 1) (k + 1) (acc ++ [s.extract f k]) ∧ (acc ++ [s.extract f k]).length = n + 1) := Lib.hid ⟨hhit, by simp [HK.out.2]⟩
        have hk0 : (0 : Int) ≤ (f : Int) := by omega
        have hk1 : (f : Int) ≤ (k : Int) := by omega
        have hk2 : (k : Int) ≤ (s.size : Int) := by omega
        clear hb HK hat he hkl hpc hhit
        go_wp2_with (at_builtin; refine wpList_append_own _ rfl _ _ 27 rfl w.heap.size 9 i0 (.string ⟨#[]⟩) 1 16 Tryz.underlying27 HI.out.1 HI.out.2.1 HI.out.2.2.1 HI.out.2.2.2 rfl (by decide) _ _ _ rfl (hown.alloc _) ⟨wr.heap.size, 0, none⟩ 1 1 [.string (s.extract f k)] rfl rfl (cell_one_new _ _ _) (by simp [Value.oneCell']) (by unfold maxLen; omega) (by omega) (by simp; omega) ?_; intro v' w3 hown' hgrow _; obtain ⟨g', cap', rfl⟩ := ownsRow_succ hown')
        exact ⟨⟨k + 1, k + 1, n + 1, acc ++ [s.extract f k], some ⟨g', 0, none⟩, cap', ⟨by go_num, by go_num, rfl, by omega, by omega, by omega⟩, HK2, by rw [List.map_append]; exact hown', (hbr.alloc hbs _).grown hgrow (by simp; omega) (fun r e => ownsRow_block hown r e)⟩, by simp [intOf]; omega⟩
    · obtain rfl : k = s.size := by omega
      have hpc : toB (s.data.toList.drop f) = s.extract f s.size := bytes_ext (by rw [Lib.extract_to_end]; rfl)
      have hend : splitB c s = acc ++ [s.extract f s.size] := by
        rw [splitB_eq, ← hpc]
        exact splitI_end (by rw [HSL.out]; exact HK.out.1)
      have hlen : (splitB c s).length = n + 1 := by rw [hend]; simp [HK.out.2]
      have HEND := Lib.hid hend
      have HLEN := Lib.hid hlen
      have hk0 : (0 : Int) ≤ (f : Int) := by omega
      have hk1 : (f : Int) ≤ (s.size : Int) := by omega
      clear hpc hend hlen HK
      go_wp2_with (at_builtin; refine wpList_append_own _ rfl _ _ 27 rfl w.heap.size 9 i0 (.string ⟨#[]⟩) 1 16 Tryz.underlying27 HI.out.1 HI.out.2.1 HI.out.2.2.1 HI.out.2.2.2 rfl (by decide) _ _ _ rfl (hown.alloc _) ⟨wr.heap.size, 0, none⟩ 1 1 [.string (s.extract f s.size)] rfl rfl (cell_one_new _ _ _) (by simp [Value.oneCell']) (by unfold maxLen; omega) (by omega) (by simp; omega) ?_; intro v' w3 hown' hgrow _; obtain ⟨g', cap', rfl⟩ := ownsRow_succ hown')
      go_ret
      refine ⟨some ⟨g', 0, none⟩, cap', by rw [HLEN.out]; rfl, ?_, (hbr.alloc hbs _).grown hgrow (by simp; omega) (fun r e => ownsRow_block hown r e)⟩
      rw [HLEN.out, HEND.out, List.map_append]
      exact hown'
end Go.Proofs.YtjhlpkhfdghngaaGreatDoor
namespace Go.Proofs.YtjhlpkhfdghngaaGreatDoor
open Go.RowKit Go.Sort
set_option linter.unusedVariables false
set_option linter.unusedSimpArgs false
set_option maxRecDepth 100000
def possX (a : ByteArray) : List RuleM → Nat → List Nat
  | [], _ => []
  | x :: r, k => if matchB x.r.pat a then (if x.r.tags.length = 0 then [k] else k :: possX a r (k + 1)) else possX a r (k + 1)
def i64s (l : List Nat) : List Value := l.map fun k : Nat => Value.int .i64 (k : Int)
theorem i64s_app (a b : List Nat) : i64s (a ++ b) = i64s a ++ i64s b := by simp [i64s]
theorem infoInt22 : (Tryz.prog.info? 3).map (fun i => (i.zero, i.size, i.bytes)) = some (some (.int .i64 0), 1, 8) := by kernel_rfl
theorem inf18 : (Tryz.prog.info? 33).map (·.size) = some 18 := by kernel_rfl
def IntsPost (l : List Nat) (w : World) (e : Ending) (w' : World) : Prop := ∃ A c, e = .returned (.slice A l.length c) ∧ Reads w' 1 A l.length (i64s l) ∧ Below w.heap.size w w'
set_option maxHeartbeats 4000000 in
theorem possible_any (A : Option Addr) (n c : Nat) (L : List RuleM) (a : ByteArray) (w : World) (hL : RulesRead w A n L) (hf : RulesFit L) (ha : a.size ≤ 100000) (hE : Env w) :
    Calls Tryz.prog 43 #[.slice A n c, .string a] w (IntsPost (possX a L 0) w) := by
  obtain ⟨i0, hi, hz0, hz1, hz2⟩ := info_parts infoInt22
  have HI := Lib.hid (And.intro hi (And.intro hz0 (And.intro hz1 hz2)))
  clear hi hz0 hz1 hz2
  have hl : L.length = n := hL.len
  have hn : n ≤ 1000 := by have := hf.n; omega
  have cM := fun (x : RuleM) (hx : x ∈ L) (W : World) (hb : Below w.heap.size w W) => match_any x.r.pat a W (hf.p x hx) ha (Env.keep hE hb)
  obtain ⟨V, hV⟩ : ∃ V, V = possX a L 0 := ⟨_, rfl⟩
  rw [← hV]
  have HL := Lib.hid hL; have HM := Lib.hid cM; have HV := Lib.hid hV; have HLN := Lib.hid hl
  clear hL cM hV hl hf hE
  go_enter Tryz.func43, Tryz.ntmps43
  go_wp2
  go_loopw [10, 5] (fun iv ov wr => ∃ (k : Nat) (acc : List Nat) (B : Option Addr) (d : Nat), k ≤ n ∧ iv = .int .i64 k ∧ ov = .slice B acc.length d ∧ acc.length ≤ k ∧ Hid (V = acc ++ possX a (L.drop k) k) ∧ wr.ownsRow w.heap.size 3 1 (.slice B acc.length d) acc.length (i64s acc) ∧ Below w.heap.size w wr) (fun iv _ _ => n - (intOf iv).toNat)
  case atStart => exact ⟨0, [], none, 0, by omega, rfl, rfl, by simp, Lib.hid (by rw [HV.out]; rfl), World.ownsRow_nil _ _ _ _, Below.refl _ _⟩
  case round =>
    obtain ⟨k, acc, B, d, hk, rfl, rfl, hak, HVA, hown, hbr⟩ := hrel
    have hbs := hbr.size
    by_cases hlt : k < n
    · obtain ⟨x, hx⟩ : ∃ x, L[k]? = some x := ⟨_, List.getElem?_eq_getElem (by have := HLN.out; omega)⟩
      obtain ⟨_, b, o, rfl, hcell⟩ := (HL.out.keep hbr).at_ hx
      have hld := rule_load wr b (o + k * 18) x hcell
      have hd : L.drop k = x :: L.drop (k + 1) := by
        obtain ⟨hl2, rfl⟩ := List.getElem?_eq_some_iff.1 hx
        exact List.drop_eq_getElem_cons hl2
      have hVA := HVA.out
      rw [hd, possX] at hVA
      have hMx := HM.out x (List.mem_of_getElem? hx)
      have hcl : x.cells.length = 18 := x.cells_len
      have hc1 : x.cells.toArray[1]? = some (.string x.r.pat) := rfl
      have hc2 : x.cells.toArray[2]? = some (.slice x.T x.r.tags.length x.ct) := rfl
      unfold RuleM.val at hld
      have hone : x.cells.toArray.all (·.oneCell') = true := by rw [List.all_toArray]; rfl
      have hi18 : (Tryz.prog.info? 33).map (·.size) = some x.cells.toArray.size := by rw [inf18, List.size_toArray, hcl]
      have hsz : x.cells.toArray.size = (#[.string ⟨#[]⟩, .string ⟨#[]⟩, .slice none 0 0, .int .i64 0, .int .i64 0, .int .i64 0, .int .i64 0, .slice none 0 0, .int .i64 0, .int .i64 0, .string ⟨#[]⟩, .slice none 0 0, .slice none 0 0, .slice none 0 0, .int .i64 0, .bool false, .int .i64 0, .string ⟨#[]⟩] : Array Value).size := by rw [List.size_toArray, hcl]; rfl
      have hsz2 : x.cells.toArray.size = 18 := by rw [List.size_toArray, hcl]
      generalize x.cells.toArray = X at *
      clear hcl hd hcell
      generalize x.r.pat = pt at *
      generalize x.r.tags.length = tl at *
      generalize x.T = T at *
      generalize x.ct = ct at *
      have HLD := Lib.hid hld; have HC1 := Lib.hid hc1; have HC2 := Lib.hid hc2; have HON := Lib.hid hone; have HI18 := Lib.hid hi18; have HSZ := Lib.hid hsz; have HMX := Lib.hid hMx
      clear hx hld hc1 hc2 hone hi18 hsz hMx HVA HM
      obtain ⟨m, hm⟩ : ∃ m, m = acc.length := ⟨_, rfl⟩
      have HML := Lib.hid hm
      rw [← hm] at hown hak ⊢
      clear hm
      have hrs : wr.heap.size = wr.heap.size := rfl
      cases hmb : matchB pt a
      · rw [hmb] at HMX hVA
        have hVA : V = acc ++ possX a (L.drop (k + 1)) (k + 1) := by simpa using hVA
        have HVA := Lib.hid hVA
        clear hVA hmb
        go_wp2_with (first | (refine wpList_load_addr rfl _ _ rfl ⟨b, o + k * 18, none⟩ (.agg X) rfl HLD.out ?_) | (refine wpList_store_row rfl _ _ _ rfl wr.heap.size X rfl rfl _ #[.string ⟨#[]⟩, .string ⟨#[]⟩, .slice none 0 0, .int .i64 0, .int .i64 0, .int .i64 0, .int .i64 0, .slice none 0 0, .int .i64 0, .int .i64 0, .string ⟨#[]⟩, .slice none 0 0, .slice none 0 0, .slice none 0 0, .int .i64 0, .bool false, .int .i64 0, .string ⟨#[]⟩] ((heap_alloc_new wr _).trans rfl) HI18.out HSZ.out.symm HON.out ?_; generalize hw6 : World.setRow _ _ _ = w6; have y1 : w6.cell? ⟨wr.heap.size, 1, none⟩ = some (.string pt) := (by rw [← hw6]; exact (cell_of_row _ _ 1 _ _ _ (setRow_heap _ _ _ _ _ _ (heap_alloc_new wr _))).trans HC1.out); have hb6 : Below wr.heap.size wr w6 := (by rw [← hw6]; exact below_setRow ((Below.refl _ _).alloc (Nat.le_refl _) _) (Nat.le_refl _) _); clear hw6) | (go_at_call 21; refine (HMX.out _ (bstep hbr hb6)).mono ?_; rintro e w2 ⟨rfl, hb2⟩))
        have hbw2 : Below w.heap.size w w2 := bstep hbr (hb6.trans (hb2.mono hb6.size))
        refine ⟨⟨k + 1, acc, B, d, by omega, by go_num, by rw [← HML.out], by rw [← HML.out]; omega, HVA, ?_, hbw2⟩, by simp [intOf]; omega⟩
        rw [← HML.out]
        exact ownsRow_keep hown (hb6.trans (hb2.mono hb6.size))
      · rw [hmb] at HMX hVA
        by_cases htl : tl = 0
        · subst htl
          have hVA : V = acc ++ [k] := by simpa using hVA
          have HVA := Lib.hid hVA
          clear hVA hmb
          go_wp2_with (first | (refine wpList_load_addr rfl _ _ rfl ⟨b, o + k * 18, none⟩ (.agg X) rfl HLD.out ?_) | (refine wpList_store_row rfl _ _ _ rfl wr.heap.size X rfl rfl _ #[.string ⟨#[]⟩, .string ⟨#[]⟩, .slice none 0 0, .int .i64 0, .int .i64 0, .int .i64 0, .int .i64 0, .slice none 0 0, .int .i64 0, .int .i64 0, .string ⟨#[]⟩, .slice none 0 0, .slice none 0 0, .slice none 0 0, .int .i64 0, .bool false, .int .i64 0, .string ⟨#[]⟩] ((heap_alloc_new wr _).trans rfl) HI18.out HSZ.out.symm HON.out ?_; generalize hw6 : World.setRow _ _ _ = w6; have y1 : w6.cell? ⟨wr.heap.size, 1, none⟩ = some (.string pt) := (by rw [← hw6]; exact (cell_of_row _ _ 1 _ _ _ (setRow_heap _ _ _ _ _ _ (heap_alloc_new wr _))).trans HC1.out); have hb6 : Below wr.heap.size wr w6 := (by rw [← hw6]; exact below_setRow ((Below.refl _ _).alloc (Nat.le_refl _) _) (Nat.le_refl _) _); have y2 : w6.cell? ⟨wr.heap.size, 2, none⟩ = some (.slice T 0 ct) := (by rw [← hw6]; exact (cell_of_row _ _ 2 _ _ _ (setRow_heap _ _ _ _ _ _ (heap_alloc_new wr _))).trans HC2.out); clear hw6) | (go_at_call 21; refine (HMX.out _ (bstep hbr hb6)).mono ?_; rintro e w2 ⟨rfl, hb2⟩; have hbk2 := hb6.trans (hb2.mono hb6.size); have hs2 := hbk2.size; have hg2 := hb2.size; have hg6 := cell_lt y2; have z2 := cell_keep hb2 y2) | (at_builtin; refine wpList_append_own _ rfl _ _ 29 rfl w.heap.size 3 i0 (.int .i64 0) 1 8 Tryz.underlying29 HI.out.1 HI.out.2.1 HI.out.2.2.1 HI.out.2.2.2 rfl (by decide) _ _ _ rfl ((ownsRow_keep hown hbk2).alloc _) ⟨w2.heap.size, 0, none⟩ 1 1 [.int .i64 k] rfl rfl (cell_one_new _ _ _) (by simp [Value.oneCell']) (by unfold maxLen; omega) (by omega) (by simp; omega) ?_; intro v' w3 hown' hgrow _; obtain ⟨g', cap', rfl⟩ := ownsRow_succ hown'; have z3 : w3.cell? ⟨wr.heap.size, 2, none⟩ = some (.slice T 0 ct) := (World.cell?_of_block (hgrow.block wr.heap.size (by simp; omega) (fun e => by have := (hown.lt _ e.symm).2; omega))).trans (cell_keep ((Below.refl w2.heap.size w2).alloc (Nat.le_refl _) _) z2); have hb3 : Below w.heap.size w w3 := ((bstep hbr hbk2).alloc (by have := hbr.size; omega) _).grown hgrow (by simp; omega) (fun r e => ownsRow_block hown r e)))
          go_ret
          refine ⟨some ⟨g', 0, none⟩, cap', ?_, ?_, hb3⟩
          · rw [HVA.out, List.length_append, List.length_singleton, ← HML.out]
            rfl
          · rw [HVA.out, i64s_app, List.length_append, List.length_singleton, ← HML.out]
            exact Reads.of_own hown'
        · have hVA : V = (acc ++ [k]) ++ possX a (L.drop (k + 1)) (k + 1) := by simpa [htl] using hVA
          have HVA := Lib.hid hVA
          have htl0 : ((tl : Nat) : Int) ≠ 0 := by omega
          have htb : decide (((tl : Nat) : Int) = 0) = false := by simpa using htl
          clear hVA hmb
          go_wp2_with (first | (refine wpList_load_addr rfl _ _ rfl ⟨b, o + k * 18, none⟩ (.agg X) rfl HLD.out ?_) | (refine wpList_store_row rfl _ _ _ rfl wr.heap.size X rfl rfl _ #[.string ⟨#[]⟩, .string ⟨#[]⟩, .slice none 0 0, .int .i64 0, .int .i64 0, .int .i64 0, .int .i64 0, .slice none 0 0, .int .i64 0, .int .i64 0, .string ⟨#[]⟩, .slice none 0 0, .slice none 0 0, .slice none 0 0, .int .i64 0, .bool false, .int .i64 0, .string ⟨#[]⟩] ((heap_alloc_new wr _).trans rfl) HI18.out HSZ.out.symm HON.out ?_; generalize hw6 : World.setRow _ _ _ = w6; have y1 : w6.cell? ⟨wr.heap.size, 1, none⟩ = some (.string pt) := (by rw [← hw6]; exact (cell_of_row _ _ 1 _ _ _ (setRow_heap _ _ _ _ _ _ (heap_alloc_new wr _))).trans HC1.out); have hb6 : Below wr.heap.size wr w6 := (by rw [← hw6]; exact below_setRow ((Below.refl _ _).alloc (Nat.le_refl _) _) (Nat.le_refl _) _); have y2 : w6.cell? ⟨wr.heap.size, 2, none⟩ = some (.slice T tl ct) := (by rw [← hw6]; exact (cell_of_row _ _ 2 _ _ _ (setRow_heap _ _ _ _ _ _ (heap_alloc_new wr _))).trans HC2.out); clear hw6) | (go_at_call 21; refine (HMX.out _ (bstep hbr hb6)).mono ?_; rintro e w2 ⟨rfl, hb2⟩; have hbk2 := hb6.trans (hb2.mono hb6.size); have hs2 := hbk2.size; have hg2 := hb2.size; have hg6 := cell_lt y2; have z2 := cell_keep hb2 y2) | (at_builtin; refine wpList_append_own _ rfl _ _ 29 rfl w.heap.size 3 i0 (.int .i64 0) 1 8 Tryz.underlying29 HI.out.1 HI.out.2.1 HI.out.2.2.1 HI.out.2.2.2 rfl (by decide) _ _ _ rfl ((ownsRow_keep hown hbk2).alloc _) ⟨w2.heap.size, 0, none⟩ 1 1 [.int .i64 k] rfl rfl (cell_one_new _ _ _) (by simp [Value.oneCell']) (by unfold maxLen; omega) (by omega) (by simp; omega) ?_; intro v' w3 hown' hgrow _; obtain ⟨g', cap', rfl⟩ := ownsRow_succ hown'; have z3 : w3.cell? ⟨wr.heap.size, 2, none⟩ = some (.slice T tl ct) := (World.cell?_of_block (hgrow.block wr.heap.size (by simp; omega) (fun e => by have := (hown.lt _ e.symm).2; omega))).trans (cell_keep ((Below.refl w2.heap.size w2).alloc (Nat.le_refl _) _) z2); have hb3 : Below w.heap.size w w3 := ((bstep hbr hbk2).alloc (by have := hbr.size; omega) _).grown hgrow (by simp; omega) (fun r e => ownsRow_block hown r e)))
          refine ⟨⟨k + 1, acc ++ [k], some ⟨g', 0, none⟩, cap', by omega, by go_num, by rw [List.length_append, List.length_singleton, ← HML.out], by rw [List.length_append, List.length_singleton, ← HML.out]; omega, HVA, ?_, hb3⟩, by simp [intOf]; omega⟩
          rw [List.length_append, List.length_singleton, ← HML.out, i64s_app]
          exact hown'
    · obtain rfl : k = n := by omega
      have hVA : V = acc := by rw [HVA.out, List.drop_eq_nil_of_le (by have := HLN.out; omega)]; simp [possX]
      subst hVA
      go_wp2
      go_ret
      exact ⟨B, d, rfl, Reads.of_own hown, hbr⟩
end Go.Proofs.YtjhlpkhfdghngaaGreatDoor
namespace Go.Proofs.YtjhlpkhfdghngaaGreatDoor
open Go.RowKit Go.Sort
set_option linter.unusedVariables false
set_option linter.unusedSimpArgs false
set_option maxRecDepth 100000
def Tab (w : World) : Prop := Lib.TabIs Tryz.prog w "internal/strconv.uint64pow10" .u64 Lib.pow10Tab
theorem tab_global : Tryz.prog.globalNamed "internal/strconv.uint64pow10" = some 3 := by kernel_rfl
theorem Tab.keep {w w' : World} (h : Tab w) (hb : Below w.heap.size w w') : Tab w' := Go.Joins.tab_stays tab_global h hb (Nat.le_refl _)
def orT (a b : ByteArray) : ByteArray := if a.size = 0 then b else a
def commaT (xs : List ByteArray) : ByteArray := ⟨(Lib.join (xs.map (·.data.toList)) [44]).toArray⟩
def joinT (xs : List ByteArray) : ByteArray := orT (commaT xs) ⟨#[126]⟩
def itoaB (n : Int) : ByteArray := ⟨(Lib.itoa n).toArray⟩
theorem itoa_any (n : Int) (w : World) (h0 : -9223372036854775808 ≤ n) (h1 : n ≤ 9223372036854775807) (ht : Tab w) : Calls Tryz.prog 60 #[.int .i64 n] w (Ret w (.string (itoaB n))) :=
  (Tryz.strconv_Itoa n h0 h1 w ht).mono fun e w' ⟨he, k, os, hw⟩ => ⟨he, by rw [hw]; exact below_grown w k os⟩
theorem sclone_any (s : ByteArray) (w : World) (hs : s.size ≤ 281474976710656) : Calls Tryz.prog 117 #[.string s] w (Ret w (.string s)) := by
  have HC := Lib.hid (fun W => Tryz.stringslite_Clone s W hs)
  go_enter Tryz.func117, Tryz.ntmps117
  go_wp2_with (go_at_call 193; refine (HC.out _).mono ?_; rintro e w2 ⟨rfl, hb2⟩)
  go_ret
  exact ⟨rfl, belB⟩
theorem comma_any (A : Option Addr) (n c : Nat) (ws : List ByteArray) (W : World) (base : Nat) (hown : W.ownsRow base 9 1 (.slice A n c) n (ws.map .string)) (hlen : (Lib.join (ws.map (·.data.toList)) [44]).length ≤ 140737488355328) (hn : n ≤ 1000000) :
    Calls Tryz.prog 62 #[.slice A n c, .string ⟨#[44]⟩] W (Ret W (.string (commaT ws))) := by
  have hl : ws.length = n := by have := hown.1; simpa using this
  rcases hown.2 with ⟨h, h0⟩ | ⟨g', cap, cur, he, hb, hh, h1, h2, h3, h4⟩
  · injection h with e1 e2 e3
    subst e1
    subst h0
    obtain rfl : ws = [] := List.eq_nil_of_length_eq_zero hl
    refine (Tryz.strings_Join_none none c ⟨#[44]⟩ W).mono fun e w' ⟨h5, h6⟩ => ⟨?_, by rw [h6]; exact Below.refl _ _⟩
    rw [h5]
    rfl
  · injection he with e1 e2 e3
    subst e1; subst e3
    have hcells := World.ownsRow.cells hown (g := g') rfl
    have := Tryz.strings_Join g' 0 c ws ⟨#[44]⟩ W (by
      intro j x hx
      have h9 := hcells j (.string x) (by simp [hx])
      unfold Addr.add at h9
      split at h9 <;> simp_all) ((hown.lt g' rfl).2) (by omega) (by omega) hlen
    rw [hl] at this
    exact this
theorem two_cells0 (W : World) (t : Nat) (a b : Value) (g : Nat) (hg : g = W.heap.size) : (W.alloc (.cells #[a, b] t)).cell? ⟨g, 0, none⟩ = some a ∧ (W.alloc (.cells #[a, b] t)).cell? ⟨g, 1, none⟩ = some b := by
  subst hg
  have h : Blk (W.alloc (.cells #[a, b] t)) W.heap.size t #[a, b] (0, 0) := World.alloc_heap_new _ _
  exact ⟨Blk.cell h 0, Blk.cell h 1⟩
set_option maxHeartbeats 4000000 in
theorem joinS_any (g : Nat) (eg : ∀ args w, (callFunc g args).run Tryz.prog w = .ok (.enter g args) w) (f : ByteArray → ByteArray) (A : Option Addr) (n c : Nat) (xs : List ByteArray) (w : World)
    (hf : ∀ x ∈ xs, ∀ W, Below w.heap.size w W → Calls Tryz.prog g #[.string x] W (Ret W (.string (f x)))) (hA : Reads w 1 A n (xs.map .string)) (hn : n ≤ 1000000) (hlen : (Lib.join ((xs.map f).map (·.data.toList)) [44]).length ≤ 140737488355328) :
    Calls Tryz.prog 119 #[.slice A n c, .func (.func g) #[] #[]] w (Ret w (.string (joinT (xs.map f)))) := by
  have hl : xs.length = n := by have := hA.1; simp at this; omega
  obtain ⟨i0, hi0, hz0, hz1, hz2⟩ := info_parts infoStr
  have HI : Hid ((Tryz.prog.info? 9 = some i0) ∧ i0.zero = some (.string ⟨#[]⟩) ∧ i0.size = 1 ∧ i0.bytes = 16) := Lib.hid ⟨hi0, hz0, hz1, hz2⟩
  have HF := Lib.hid hf; have HA := Lib.hid hA; have HL := Lib.hid hl; have HLEN := Lib.hid hlen
  unfold joinT orT
  obtain ⟨V, hV⟩ : ∃ V, V = (if (commaT (xs.map f)).size = 0 then (⟨#[126]⟩ : ByteArray) else commaT (xs.map f)) := ⟨_, rfl⟩
  rw [← hV]
  have HV := Lib.hid hV
  clear hf hA hl hi0 hz0 hz1 hz2 hlen hV
  go_enter Tryz.func119, Tryz.ntmps119
  go_wp2_with fail
  go_loopw [5, 10] (fun va vi wr => ∃ (k : Nat) (A' : Option Addr) (c' : Nat), (va = .slice A' k c' ∧ vi = .int .i64 k ∧ k ≤ n) ∧ wr.ownsRow w.heap.size 9 1 (.slice A' k c') k (((xs.map f).take k).map .string) ∧ Below w.heap.size w wr) (fun _ vi _ => n - (intOf vi).toNat)
  case atStart => exact ⟨0, none, 0, ⟨rfl, rfl, Nat.zero_le _⟩, World.ownsRow_nil _ _ _ _, Below.refl _ _⟩
  case round =>
    obtain ⟨k, A', c', ⟨rfl, rfl, hk⟩, hown, hbr⟩ := hrel
    by_cases hlt : k < n
    · obtain ⟨x, hx⟩ : ∃ x, xs[k]? = some x := ⟨_, List.getElem?_eq_getElem (by have := HL.out; omega)⟩
      obtain ⟨pb, po, rfl, hcell⟩ := (HA.out.keep hbr).2 (by omega)
      have hc1 : wr.cell? ⟨pb, po + k, none⟩ = some (.string x) := hcell k _ (by simp [hx])
      have hk0 : (0 : Int) ≤ (k : Int) := by omega
      have hk1 : (k : Int) < (n : Int) := by omega
      have htk : (xs.map f).take (k + 1) = (xs.map f).take k ++ [f x] := by rw [List.take_add_one, List.getElem?_map, hx]; rfl
      have HTK := Lib.hid htk
      have HX := Lib.hid hx
      clear hcell hx htk
      go_wp2_with (first | (go_at_fn g; refine (HF.out x (List.mem_of_getElem? HX.out) _ belB).mono ?_; rintro e w2 ⟨rfl, hb2⟩) | (at_builtin; refine wpList_append_own _ rfl _ _ 27 rfl w.heap.size 9 i0 (.string ⟨#[]⟩) 1 16 Tryz.underlying27 HI.out.1 HI.out.2.1 HI.out.2.2.1 HI.out.2.2.2 rfl (by decide) _ _ _ rfl ((ownsRow_keep hown hb2).alloc _) ⟨w2.heap.size, 0, none⟩ 1 1 [.string (f x)] rfl rfl (cell_one_new _ _ _) (by simp [Value.oneCell']) (by unfold maxLen; omega) (by omega) (by have := hb2.size; have := hbr.size; simp at *; omega) ?_; intro v' w3 hown' hgrow _; obtain ⟨g', cap', rfl⟩ := ownsRow_succ hown'))
      refine ⟨⟨k + 1, some ⟨g', 0, none⟩, cap', ⟨rfl, by go_num, by omega⟩, ?_, ?_⟩, by simp [intOf]; omega⟩
      · rw [HTK.out, List.map_append]; exact hown'
      · have h1 := hbr.size
        have h2 := hb2.size
        exact ((hbr.trans (hb2.mono h1)).alloc (by omega) _).grown hgrow (by simp; omega) (fun r e => ownsRow_block hown r e)
    · obtain rfl : k = n := by omega
      have ht : (xs.map f).take k = xs.map f := List.take_of_length_le (by simp; have := HL.out; omega)
      rw [ht] at hown
      have cJ := comma_any A' k c' (xs.map f) wr w.heap.size hown HLEN.out hn
      have HJ := Lib.hid cJ
      have cO := fun (b cc : Nat) (W : World) h0 h1 => cmpOr_any b cc (commaT (xs.map f)) ⟨#[126]⟩ W h0 h1
      have hVO := HV.out
      rw [← hVO] at cO
      generalize commaT (xs.map f) = T at *
      have HO := Lib.hid cO
      clear cJ cO hVO HV ht hown
      go_wp2_with (first | (go_at_call 62; refine HJ.out.mono ?_; rintro e w2 ⟨rfl, hb2⟩) | (go_at_call 118; refine (HO.out _ _ _ (two_cells0 _ _ _ _ _ (by simp)).1 (two_cells0 _ _ _ _ _ (by simp)).2).mono ?_; rintro e w3 ⟨rfl, hb3⟩))
      go_ret
      exact ⟨rfl, belB⟩
set_option maxHeartbeats 4000000 in
theorem joinI_any (g : Nat) (eg : ∀ args w, (callFunc g args).run Tryz.prog w = .ok (.enter g args) w) (f : Int → ByteArray) (A : Option Addr) (n c : Nat) (xs : List Int) (w : World)
    (hf : ∀ x ∈ xs, ∀ W, Below w.heap.size w W → Calls Tryz.prog g #[.int .i64 x] W (Ret W (.string (f x)))) (hA : Reads w 1 A n (xs.map (.int .i64))) (hn : n ≤ 1000000) (hlen : (Lib.join ((xs.map f).map (·.data.toList)) [44]).length ≤ 140737488355328) :
    Calls Tryz.prog 120 #[.slice A n c, .func (.func g) #[] #[]] w (Ret w (.string (joinT (xs.map f)))) := by
  have hl : xs.length = n := by have := hA.1; simp at this; omega
  obtain ⟨i0, hi0, hz0, hz1, hz2⟩ := info_parts infoStr
  have HI : Hid ((Tryz.prog.info? 9 = some i0) ∧ i0.zero = some (.string ⟨#[]⟩) ∧ i0.size = 1 ∧ i0.bytes = 16) := Lib.hid ⟨hi0, hz0, hz1, hz2⟩
  have HF := Lib.hid hf; have HA := Lib.hid hA; have HL := Lib.hid hl; have HLEN := Lib.hid hlen
  unfold joinT orT
  obtain ⟨V, hV⟩ : ∃ V, V = (if (commaT (xs.map f)).size = 0 then (⟨#[126]⟩ : ByteArray) else commaT (xs.map f)) := ⟨_, rfl⟩
  rw [← hV]
  have HV := Lib.hid hV
  clear hf hA hl hi0 hz0 hz1 hz2 hlen hV
  go_enter Tryz.func120, Tryz.ntmps120
  go_wp2_with fail
  go_loopw [5, 10] (fun va vi wr => ∃ (k : Nat) (A' : Option Addr) (c' : Nat), (va = .slice A' k c' ∧ vi = .int .i64 k ∧ k ≤ n) ∧ wr.ownsRow w.heap.size 9 1 (.slice A' k c') k (((xs.map f).take k).map .string) ∧ Below w.heap.size w wr) (fun _ vi _ => n - (intOf vi).toNat)
  case atStart => exact ⟨0, none, 0, ⟨rfl, rfl, Nat.zero_le _⟩, World.ownsRow_nil _ _ _ _, Below.refl _ _⟩
  case round =>
    obtain ⟨k, A', c', ⟨rfl, rfl, hk⟩, hown, hbr⟩ := hrel
    by_cases hlt : k < n
    · obtain ⟨x, hx⟩ : ∃ x, xs[k]? = some x := ⟨_, List.getElem?_eq_getElem (by have := HL.out; omega)⟩
      obtain ⟨pb, po, rfl, hcell⟩ := (HA.out.keep hbr).2 (by omega)
      have hc1 : wr.cell? ⟨pb, po + k, none⟩ = some (.int .i64 x) := hcell k _ (by simp [hx])
      have hk0 : (0 : Int) ≤ (k : Int) := by omega
      have hk1 : (k : Int) < (n : Int) := by omega
      have htk : (xs.map f).take (k + 1) = (xs.map f).take k ++ [f x] := by rw [List.take_add_one, List.getElem?_map, hx]; rfl
      have HTK := Lib.hid htk
      have HX := Lib.hid hx
      clear hcell hx htk
      go_wp2_with (first | (go_at_fn g; refine (HF.out x (List.mem_of_getElem? HX.out) _ belB).mono ?_; rintro e w2 ⟨rfl, hb2⟩) | (at_builtin; refine wpList_append_own _ rfl _ _ 27 rfl w.heap.size 9 i0 (.string ⟨#[]⟩) 1 16 Tryz.underlying27 HI.out.1 HI.out.2.1 HI.out.2.2.1 HI.out.2.2.2 rfl (by decide) _ _ _ rfl ((ownsRow_keep hown hb2).alloc _) ⟨w2.heap.size, 0, none⟩ 1 1 [.string (f x)] rfl rfl (cell_one_new _ _ _) (by simp [Value.oneCell']) (by unfold maxLen; omega) (by omega) (by have := hb2.size; have := hbr.size; simp at *; omega) ?_; intro v' w3 hown' hgrow _; obtain ⟨g', cap', rfl⟩ := ownsRow_succ hown'))
      refine ⟨⟨k + 1, some ⟨g', 0, none⟩, cap', ⟨rfl, by go_num, by omega⟩, ?_, ?_⟩, by simp [intOf]; omega⟩
      · rw [HTK.out, List.map_append]; exact hown'
      · have h1 := hbr.size
        have h2 := hb2.size
        exact ((hbr.trans (hb2.mono h1)).alloc (by omega) _).grown hgrow (by simp; omega) (fun r e => ownsRow_block hown r e)
    · obtain rfl : k = n := by omega
      have ht : (xs.map f).take k = xs.map f := List.take_of_length_le (by simp; have := HL.out; omega)
      rw [ht] at hown
      have cJ := comma_any A' k c' (xs.map f) wr w.heap.size hown HLEN.out hn
      have HJ := Lib.hid cJ
      have cO := fun (b cc : Nat) (W : World) h0 h1 => cmpOr_any b cc (commaT (xs.map f)) ⟨#[126]⟩ W h0 h1
      have hVO := HV.out
      rw [← hVO] at cO
      generalize commaT (xs.map f) = T at *
      have HO := Lib.hid cO
      clear cJ cO hVO HV ht hown
      go_wp2_with (first | (go_at_call 62; refine HJ.out.mono ?_; rintro e w2 ⟨rfl, hb2⟩) | (go_at_call 118; refine (HO.out _ _ _ (two_cells0 _ _ _ _ _ (by simp)).1 (two_cells0 _ _ _ _ _ (by simp)).2).mono ?_; rintro e w3 ⟨rfl, hb3⟩))
      go_ret
      exact ⟨rfl, belB⟩
end Go.Proofs.YtjhlpkhfdghngaaGreatDoor
namespace Go.Proofs.YtjhlpkhfdghngaaGreatDoor
open Go.RowKit Go.Sort
set_option linter.unusedVariables false
set_option linter.unusedSimpArgs false
set_option maxRecDepth 100000
def sepT (d : UInt8) (xs : List ByteArray) : ByteArray := ⟨(Lib.join (xs.map (·.data.toList)) [d]).toArray⟩
theorem sep_any (d : UInt8) (A : Option Addr) (n c : Nat) (ws : List ByteArray) (W : World) (base : Nat) (hown : W.ownsRow base 9 1 (.slice A n c) n (ws.map .string)) (hlen : (Lib.join (ws.map (·.data.toList)) [d]).length ≤ 140737488355328) (hn : n ≤ 1000000) :
    Calls Tryz.prog 62 #[.slice A n c, .string ⟨#[d]⟩] W (Ret W (.string (sepT d ws))) := by
  have hl : ws.length = n := by have := hown.1; simpa using this
  rcases hown.2 with ⟨h, h0⟩ | ⟨g', cap, cur, he, hb, hh, h1, h2, h3, h4⟩
  · injection h with e1 e2 e3
    subst e1
    subst h0
    obtain rfl : ws = [] := List.eq_nil_of_length_eq_zero hl
    refine (Tryz.strings_Join_none none c ⟨#[d]⟩ W).mono fun e w' ⟨h5, h6⟩ => ⟨?_, by rw [h6]; exact Below.refl _ _⟩
    rw [h5]
    rfl
  · injection he with e1 e2 e3
    subst e1; subst e3
    have hcells := World.ownsRow.cells hown (g := g') rfl
    have := Tryz.strings_Join g' 0 c ws ⟨#[d]⟩ W (by
      intro j x hx
      have h9 := hcells j (.string x) (by simp [hx])
      unfold Addr.add at h9
      split at h9 <;> simp_all) ((hown.lt g' rfl).2) (by omega) (by omega) hlen
    rw [hl] at this
    exact this
def numT (xs : List Int) : ByteArray := sepT 32 (xs.map itoaB)
set_option maxHeartbeats 4000000 in
theorem numbers_any (A : Option Addr) (n c : Nat) (xs : List Int) (w : World) (hx64 : ∀ x ∈ xs, -9223372036854775808 ≤ x ∧ x ≤ 9223372036854775807) (hT : Tab w) (hA : Reads w 1 A n (xs.map (.int .i64))) (hn : n ≤ 1000000) (hlen : (Lib.join ((xs.map itoaB).map (·.data.toList)) [32]).length ≤ 140737488355328) :
    Calls Tryz.prog 63 #[.slice A n c] w (Ret w (.string (numT xs))) := by
  have hl : xs.length = n := by have := hA.1; simp at this; omega
  obtain ⟨i0, hi0, hz0, hz1, hz2⟩ := info_parts infoStr
  have HI : Hid ((Tryz.prog.info? 9 = some i0) ∧ i0.zero = some (.string ⟨#[]⟩) ∧ i0.size = 1 ∧ i0.bytes = 16) := Lib.hid ⟨hi0, hz0, hz1, hz2⟩
  have cF : ∀ x ∈ xs, ∀ W, Below w.heap.size w W → Calls Tryz.prog 60 #[.int .i64 x] W (Ret W (.string (itoaB x))) := fun x hx W hb => itoa_any x W (hx64 x hx).1 (hx64 x hx).2 (hT.keep hb)
  have HF := Lib.hid cF; have HA := Lib.hid hA; have HL := Lib.hid hl; have HLEN := Lib.hid hlen
  unfold numT
  obtain ⟨V, hV⟩ : ∃ V, V = sepT 32 (xs.map itoaB) := ⟨_, rfl⟩
  rw [← hV]
  have HV := Lib.hid hV
  clear cF hA hl hi0 hz0 hz1 hz2 hlen hV hx64 hT
  go_enter Tryz.func63, Tryz.ntmps63
  go_wp2_with fail
  go_loopw [3, 8] (fun va vi wr => ∃ (k : Nat) (A' : Option Addr) (c' : Nat), (va = .slice A' k c' ∧ vi = .int .i64 k ∧ k ≤ n) ∧ wr.ownsRow w.heap.size 9 1 (.slice A' k c') k (((xs.map itoaB).take k).map .string) ∧ Below w.heap.size w wr) (fun _ vi _ => n - (intOf vi).toNat)
  case atStart => exact ⟨0, none, 0, ⟨rfl, rfl, Nat.zero_le _⟩, World.ownsRow_nil _ _ _ _, Below.refl _ _⟩
  case round =>
    obtain ⟨k, A', c', ⟨rfl, rfl, hk⟩, hown, hbr⟩ := hrel
    by_cases hlt : k < n
    · obtain ⟨x, hx⟩ : ∃ x, xs[k]? = some x := ⟨_, List.getElem?_eq_getElem (by have := HL.out; omega)⟩
      obtain ⟨pb, po, rfl, hcell⟩ := (HA.out.keep hbr).2 (by omega)
      have hc1 : wr.cell? ⟨pb, po + k, none⟩ = some (.int .i64 x) := hcell k _ (by simp [hx])
      have hk0 : (0 : Int) ≤ (k : Int) := by omega
      have hk1 : (k : Int) < (n : Int) := by omega
      have htk : (xs.map itoaB).take (k + 1) = (xs.map itoaB).take k ++ [itoaB x] := by rw [List.take_add_one, List.getElem?_map, hx]; rfl
      have HTK := Lib.hid htk
      have HX := Lib.hid hx
      clear hcell hx htk
      go_wp2_with (first | (go_at_call 60; refine (HF.out x (List.mem_of_getElem? HX.out) _ belB).mono ?_; rintro e w2 ⟨rfl, hb2⟩) | (at_builtin; refine wpList_append_own _ rfl _ _ 27 rfl w.heap.size 9 i0 (.string ⟨#[]⟩) 1 16 Tryz.underlying27 HI.out.1 HI.out.2.1 HI.out.2.2.1 HI.out.2.2.2 rfl (by decide) _ _ _ rfl ((ownsRow_keep hown hb2).alloc _) ⟨w2.heap.size, 0, none⟩ 1 1 [.string (itoaB x)] rfl rfl (cell_one_new _ _ _) (by simp [Value.oneCell']) (by unfold maxLen; omega) (by omega) (by have := hb2.size; have := hbr.size; simp at *; omega) ?_; intro v' w3 hown' hgrow _; obtain ⟨g', cap', rfl⟩ := ownsRow_succ hown'))
      refine ⟨⟨k + 1, some ⟨g', 0, none⟩, cap', ⟨rfl, by go_num, by omega⟩, ?_, ?_⟩, by simp [intOf]; omega⟩
      · rw [HTK.out, List.map_append]; exact hown'
      · have h1 := hbr.size
        have h2 := hb2.size
        exact ((hbr.trans (hb2.mono h1)).alloc (by omega) _).grown hgrow (by simp; omega) (fun r e => ownsRow_block hown r e)
    · obtain rfl : k = n := by omega
      have ht : (xs.map itoaB).take k = xs.map itoaB := List.take_of_length_le (by simp; have := HL.out; omega)
      rw [ht] at hown
      have cJ := sep_any 32 A' k c' (xs.map itoaB) wr w.heap.size hown HLEN.out hn
      rw [← HV.out] at cJ
      have HJ := Lib.hid cJ
      clear cJ HV ht hown
      go_wp2_with (go_at_call 62; refine HJ.out.mono ?_; rintro e w2 ⟨rfl, hb2⟩)
      go_ret
      exact ⟨rfl, belB⟩
end Go.Proofs.YtjhlpkhfdghngaaGreatDoor
namespace Go.Proofs.YtjhlpkhfdghngaaGreatDoor
open Go.RowKit Go.Sort
set_option linter.unusedVariables false
set_option linter.unusedSimpArgs false
set_option maxRecDepth 100000
theorem country_four (s : ByteArray) (h : s.size = 2) : countryB s = (decide ((97 : Int) ≤ ((s[0]'(by omega)).toNat : Int)) && decide (((s[0]'(by omega)).toNat : Int) ≤ 122) && decide ((97 : Int) ≤ ((s[1]'(by omega)).toNat : Int)) && decide (((s[1]'(by omega)).toNat : Int) ≤ 122)) := by
  unfold countryB
  rw [decide_eq_true h, Bool.true_and, two_bytes s h]
  simp only [List.all_cons, List.all_nil, Bool.and_true]
  rw [Bool.eq_iff_iff]
  simp only [Bool.and_eq_true, decide_eq_true_eq]
  omega
set_option maxHeartbeats 2000000 in
theorem rCountry_any (s : ByteArray) (w : World) (hs : s.size ≤ 4294967281) : Calls Tryz.prog 90 #[.string s] w (Ret w (.bool (countryB s))) := by
  by_cases h2 : s.size = 2
  · have d2 : ((s.size : Int) == 2) = true := by simp; omega
    have hv := country_four s h2
    have q0 : (0 : Int) < (s.size : Int) := by omega
    have q1 : (1 : Int) < (s.size : Int) := by omega
    rw [hv]
    clear hv
    cases e1 : decide ((97 : Int) ≤ ((s[0]'(by omega)).toNat : Int))
    · (go_enter Tryz.func90, Tryz.ntmps90; go_wp2; go_ret; exact ⟨rfl, belB⟩)
    cases e2 : decide (((s[0]'(by omega)).toNat : Int) ≤ 122)
    · (go_enter Tryz.func90, Tryz.ntmps90; go_wp2; go_ret; exact ⟨rfl, belB⟩)
    cases e3 : decide ((97 : Int) ≤ ((s[1]'(by omega)).toNat : Int))
    · (go_enter Tryz.func90, Tryz.ntmps90; go_wp2; go_ret; exact ⟨rfl, belB⟩)
    cases e4 : decide (((s[1]'(by omega)).toNat : Int) ≤ 122)
    · (go_enter Tryz.func90, Tryz.ntmps90; go_wp2; go_ret; exact ⟨rfl, belB⟩)
    · (go_enter Tryz.func90, Tryz.ntmps90; go_wp2; go_ret; exact ⟨rfl, belB⟩)
  · have d2 : ((s.size : Int) == 2) = false := beq_eq_false_iff_ne.2 (by omega)
    have hv : countryB s = false := by unfold countryB; rw [decide_eq_false h2]; rfl
    rw [hv]
    (go_enter Tryz.func90, Tryz.ntmps90; go_wp2; go_ret; exact ⟨rfl, belB⟩)
end Go.Proofs.YtjhlpkhfdghngaaGreatDoor
namespace Go.Proofs.YtjhlpkhfdghngaaGreatDoor
open Go.RowKit Go.Sort
set_option linter.unusedVariables false
set_option linter.unusedSimpArgs false
set_option maxRecDepth 100000
theorem le_prev2 (x y : ByteArray) : (Op.bytesLess x.toList y.toList || x.toList == y.toList) = !ltB y x := le_prev x y
def ascB (l : List ByteArray) : Bool := (List.range l.length).all (okK ltB (fun _ => true) l)
theorem asc_at {l : List ByteArray} {k : Nat} {x y : ByteArray} (hx : l[k + 1]? = some x) (hy : l[k]? = some y) : okK ltB (fun _ => true) l (k + 1) = ltB y x := by
  unfold okK
  rw [hx, Nat.add_sub_cancel, hy]
  simp
theorem asc_fail {l : List ByteArray} {k : Nat} (hk : k < l.length) (h2 : okK ltB (fun _ => true) l k = false) : ascB l = false := by
  unfold ascB
  rw [List.all_eq_false]
  exact ⟨k, by simpa using hk, by rw [h2]; simp⟩
set_option maxHeartbeats 2000000 in
theorem rAscend_any (A : Option Addr) (n c : Nat) (xs : List ByteArray) (w : World) (hA : Reads w 1 A n (xs.map .string)) (hn : n ≤ 1000000000) : Calls Tryz.prog 114 #[.slice A n c] w (Ret w (.bool (ascB xs))) := by
  have hl : xs.length = n := by have := hA.1; simp at this; omega
  obtain ⟨V, hV⟩ : ∃ V, V = ascB xs := ⟨_, rfl⟩
  rw [← hV]
  have HA := Lib.hid hA; have HL := Lib.hid hl; have HV := Lib.hid hV
  clear hA hl hV
  go_enter Tryz.func114, Tryz.ntmps114
  go_wp2
  go_loopw [3] (fun i wr => ∃ k : Nat, k ≤ n ∧ i = .int .i64 (k + 1 : Nat) ∧ Hid ((List.range (k + 1)).all (okK ltB (fun _ => true) xs) = true) ∧ Below w.heap.size w wr) (fun i _ => n + 1 - (intOf i).toNat)
  case atStart => exact ⟨0, by omega, rfl, Lib.hid (by simp [okK]; cases xs[0]? <;> rfl), Below.refl _ _⟩
  case round =>
    obtain ⟨k, hk, rfl, HK, hb⟩ := hrel
    by_cases hlt : k + 1 < n
    · obtain ⟨x, hx⟩ : ∃ x, xs[k + 1]? = some x := ⟨_, List.getElem?_eq_getElem (by have := HL.out; omega)⟩
      obtain ⟨y, hy⟩ : ∃ y, xs[k]? = some y := ⟨_, List.getElem?_eq_getElem (by have := HL.out; omega)⟩
      obtain ⟨pb, po, rfl, hcell⟩ := (HA.out.keep hb).2 (by omega)
      have hc1 : wr.cell? ⟨pb, po + (k + 1), none⟩ = some (.string x) := hcell (k + 1) _ (by simp [hx])
      have hc2 : wr.cell? ⟨pb, po + k, none⟩ = some (.string y) := hcell k _ (by simp [hy])
      have hk0 : (0 : Int) ≤ (k : Int) := by omega
      have hk1 : (k : Int) < (n : Int) := by omega
      have hk2 : (0 : Int) ≤ (k : Int) + 1 := by omega
      have hk3 : (k : Int) + 1 < (n : Int) := by omega
      have hle := le_prev2 x y
      have hat := asc_at hx hy
      cases ht : ltB y x
      · obtain rfl : V = false := by rw [HV.out]; exact asc_fail (k := k + 1) (by have := HL.out; omega) (by rw [hat, ht])
        rw [ht] at hle
        clear HK hcell hx hy hat ht
        go_wp2_with fail
        go_quiet (fail)
        go_wp2
        go_ret
        exact ⟨rfl, belB⟩
      · have HK2 : Hid ((List.range (k + 1 + 1)).all (okK ltB (fun _ => true) xs) = true) := Lib.hid (okK_upto HK.out (by rw [hat, ht]))
        rw [ht] at hle
        clear HK hcell hx hy hat ht
        go_wp2_with fail
        go_quiet (fail)
        go_wp2
        exact ⟨⟨k + 1, by omega, by go_num, HK2, belB⟩, by simp [intOf]; omega⟩
    · obtain rfl : V = true := by
        rw [HV.out]
        unfold ascB
        rw [List.all_eq_true]
        intro j hj
        have := HK.out
        rw [List.all_eq_true] at this
        exact this j (by simp at hj ⊢; have := HL.out; omega)
      go_wp2
      go_ret
      exact ⟨rfl, hb⟩
end Go.Proofs.YtjhlpkhfdghngaaGreatDoor
namespace Go.Proofs.YtjhlpkhfdghngaaGreatDoor
open Go.RowKit Go.Sort
set_option linter.unusedVariables false
set_option linter.unusedSimpArgs false
set_option maxRecDepth 100000
def partR (s : ByteArray) : Bool := if decide (2 < s.size) && ((s.extract 0 2).toList == [42, 46]) then decide (s.size ≤ 34) && isWordB (s.extract 2 s.size) else s.toList == [42] || isWordB s
set_option maxHeartbeats 1000000 in
theorem rPart_any (s : ByteArray) (w : World) (hs : s.size ≤ 4294967200) : Calls Tryz.prog 179 #[.string s] w (Ret w (.bool (partR s))) := by
  have c1 := fun W => rWord_any s W (by omega)
  have c2 := fun W => rWord_any (s.extract 2 s.size) W (by rw [ByteArray.size_extract]; omega)
  unfold partR
  generalize isWordB (s.extract 2 s.size) = b2 at *
  generalize isWordB s = b1 at *
  by_cases h1 : 2 < s.size
  · have d1 : decide ((2 : Int) < (s.size : Int)) = true := decide_eq_true (by omega)
    have q2 : (2 : Int) ≤ (s.size : Int) := by omega
    rw [decide_eq_true h1]
    cases h2 : ((s.extract 0 2).toList == [42, 46])
    · simp only [Bool.and_false, Bool.false_eq_true, if_false]
      cases h3 : (s.toList == [42])
      · have HW := Lib.hid c1
        clear c1 c2
        go_enter Tryz.func179, Tryz.ntmps179
        go_wp2_with (go_at_call 112; refine (HW.out _).mono ?_; rintro e w1 ⟨rfl, hb1⟩)
        go_ret
        exact ⟨ret_bool (by simp), belB⟩
      · clear c1 c2
        go_enter Tryz.func179, Tryz.ntmps179
        go_wp2
        go_ret
        exact ⟨rfl, belB⟩
    · simp only [Bool.and_self, if_true]
      by_cases h4 : s.size ≤ 34
      · have d4 : decide ((s.size : Int) ≤ 34) = true := decide_eq_true (by omega)
        have HW := Lib.hid c2
        rw [decide_eq_true h4]
        clear c1 c2
        go_enter Tryz.func179, Tryz.ntmps179
        go_wp2_with (go_at_call 112; refine (HW.out _).mono ?_; rintro e w1 ⟨rfl, hb1⟩)
        go_ret
        exact ⟨ret_bool (by simp), belB⟩
      · have d4 : decide ((s.size : Int) ≤ 34) = false := decide_eq_false (by omega)
        rw [decide_eq_false h4]
        clear c1 c2
        go_enter Tryz.func179, Tryz.ntmps179
        go_wp2
        go_ret
        exact ⟨rfl, belB⟩
  · have d1 : decide ((2 : Int) < (s.size : Int)) = false := decide_eq_false (by omega)
    rw [decide_eq_false h1]
    simp only [Bool.false_and, Bool.false_eq_true, if_false]
    cases h3 : (s.toList == [42])
    · have HW := Lib.hid c1
      clear c1 c2
      go_enter Tryz.func179, Tryz.ntmps179
      go_wp2_with (go_at_call 112; refine (HW.out _).mono ?_; rintro e w1 ⟨rfl, hb1⟩)
      go_ret
      exact ⟨ret_bool (by simp), belB⟩
    · clear c1 c2
      go_enter Tryz.func179, Tryz.ntmps179
      go_wp2
      go_ret
      exact ⟨rfl, belB⟩
end Go.Proofs.YtjhlpkhfdghngaaGreatDoor
namespace Go.Proofs.YtjhlpkhfdghngaaGreatDoor
open Go.RowKit Go.Sort
set_option linter.unusedVariables false
set_option linter.unusedSimpArgs false
set_option maxRecDepth 100000
def strP (p : Part) : ByteArray := stringP p.kind p.text
theorem word_star {w : ByteArray} (h : isWordB w = true) (l : List UInt8) : w.data.toList ≠ 42 :: l := fun e => (word_no h).2.2.2.2.1 (by rw [e]; simp)
theorem str0 {p : Part} (h : p.kind = 0) : strP p = p.text := by unfold strP stringP; rw [if_pos h]
theorem part_ok (s : ByteArray) : partR s = partOkB s := by
  unfold partR partOkB
  have hx : ((s.extract 0 2).toList == [42, 46]) = Lib.hasPrefix s.data.toList [42, 46] := by
    rw [Lib.toList_data, Lib.extract_data]
    unfold Lib.hasPrefix
    rw [Bool.eq_iff_iff, beq_iff_eq, List.isPrefixOf_iff_prefix]
    constructor
    · intro h
      refine ⟨s.data.toList.drop 2, ?_⟩
      rw [← h]
      simp
    · rintro ⟨r, h⟩
      rw [← h]; simp
  rw [hx]
  cases hp : Lib.hasPrefix s.data.toList [42, 46]
  · simp
  · obtain ⟨r, hr⟩ := prefix_two hp
    have e : (s.extract 2 s.size).data.toList = r := by rw [extract_data, hr]; rfl
    have hz : s.size = r.length + 2 := by rw [size_data, hr]; rfl
    have h42 : (s.toList == [42]) = false := by rw [Lib.toList_data, hr, beq_eq_false_iff_ne]; simp
    have hw : isWordB s = false := by
      cases h : isWordB s
      · rfl
      · exact absurd hr (word_star h _)
    rw [h42, hw]
    simp only [Bool.and_true, Bool.false_or, Bool.and_true]
    by_cases h2 : 2 < s.size
    · rw [if_pos (by simpa using h2)]
    · rw [if_neg (by simpa using h2)]
      have : isWordB (s.extract 2 s.size) = false := by
        cases h : isWordB (s.extract 2 s.size)
        · rfl
        · have := (word_ne h).1
          rw [e] at this
          exact absurd (List.eq_nil_of_length_eq_zero (by omega)) this
      rw [this, Bool.and_false]
end Go.Proofs.YtjhlpkhfdghngaaGreatDoor
namespace Go.Proofs.YtjhlpkhfdghngaaGreatDoor
open Go.RowKit Go.Sort
set_option linter.unusedVariables false
set_option linter.unusedSimpArgs false
set_option maxRecDepth 100000
def joinB (l : List ByteArray) (k : Nat) : ByteArray := toB (Lib.join ((lists l).take k) [44])
theorem joinB_first (l : List ByteArray) (x : ByteArray) (h : l[0]? = some x) : joinB l 1 = x := by
  cases l with
  | nil => cases h
  | cons y r =>
    simp only [List.getElem?_cons_zero, Option.some.injEq] at h
    subst h
    simp only [joinB, lists, List.map_cons, List.take_succ_cons, List.take_zero, Lib.join_one]
    exact bytes_ext (by simp [toB])
theorem joinB_step (l : List ByteArray) (k : Nat) (x : ByteArray) (hk : k ≠ 0) (h : l[k]? = some x) : joinB l k ++ ⟨#[44]⟩ ++ x = joinB l (k + 1) := by
  cases l with
  | nil => cases h
  | cons y r =>
    obtain ⟨j, rfl⟩ : ∃ j, k = j + 1 := ⟨k - 1, by omega⟩
    rw [List.getElem?_cons_succ] at h
    simp only [joinB, lists, List.map_cons, List.take_succ_cons, Lib.join_cons]
    rw [Lib.joinTail_take_succ [44] (r.map (·.data.toList)) j x.data.toList (by rw [List.getElem?_map, h]; rfl)]
    exact bytes_ext (by simp [toB])
theorem joinB_le (l : List ByteArray) (k : Nat) : (joinB l k).size ≤ (Lib.join (lists l) [44]).length := by
  rw [joinB, toB_size]
  cases l with
  | nil => simp [lists]
  | cons y r =>
    cases k with
    | zero => simp [Lib.join_nil]
    | succ j =>
      simp only [lists, List.map_cons, List.take_succ_cons, Lib.join_cons, List.length_append]
      have := Lib.joinTail_take_le [44] (r.map (·.data.toList)) j
      omega
theorem joinB_all (l : List ByteArray) : joinB l l.length = toB (Lib.join (lists l) [44]) := by
  rw [joinB, List.take_of_length_le (by simp [lists])]
end Go.Proofs.YtjhlpkhfdghngaaGreatDoor
namespace Go.Proofs.YtjhlpkhfdghngaaGreatDoor
open Go.RowKit Go.Sort
set_option linter.unusedVariables false
set_option linter.unusedSimpArgs false
set_option maxRecDepth 100000
def ResBox (w : World) (g : Nat) (s : ByteArray) (e : Int) : Prop := Blk w g 150 #[.string s, .int .i64 e] (0, 0)
theorem blk_free0 {w : World} {g : Nat} {t : TypeId} {cs : Array Value} (h : Blk w g t cs (0, 0)) (i : Nat) : w.frozen? ⟨g, i, none⟩ = false := by
  unfold Blk at h
  simp [World.frozen?, h]
theorem ResBox.facts {w : World} {g : Nat} {s : ByteArray} {e : Int} (h : ResBox w g s e) : w.cell? ⟨g, 0, none⟩ = some (.string s) ∧ w.cell? ⟨g, 1, none⟩ = some (.int .i64 e) ∧ w.frozen? ⟨g, 0, none⟩ = false ∧ w.frozen? ⟨g, 1, none⟩ = false :=
  ⟨Blk.cell h 0, Blk.cell h 1, blk_free0 h 0, blk_free0 h 1⟩
end Go.Proofs.YtjhlpkhfdghngaaGreatDoor
namespace Go.Proofs.YtjhlpkhfdghngaaGreatDoor
open Go.RowKit Go.Sort
set_option linter.unusedVariables false
set_option linter.unusedSimpArgs false
set_option maxRecDepth 100000
def PatBox (w : World) (g : Nat) (c : ByteArray) (v : Value) (b : Bool) : Prop := Blk w g 144 #[.string c, v, .bool b] (0, 0)
theorem PatBox.facts {w : World} {g : Nat} {c : ByteArray} {v : Value} {b : Bool} (h : PatBox w g c v b) :
    w.cell? ⟨g, 0, none⟩ = some (.string c) ∧ w.cell? ⟨g, 1, none⟩ = some v ∧ w.cell? ⟨g, 2, none⟩ = some (.bool b) ∧ w.frozen? ⟨g, 0, none⟩ = false ∧ w.frozen? ⟨g, 1, none⟩ = false ∧ w.frozen? ⟨g, 2, none⟩ = false :=
  ⟨Blk.cell h 0, Blk.cell h 1, Blk.cell h 2, blk_free0 h 0, blk_free0 h 1, blk_free0 h 2⟩
def RCompPost (r : Option Pat) (w : World) (e : Ending) (w' : World) : Prop :=
  Below w.heap.size w w' ∧ match r with
  | none => e = .returned (.tuple #[.agg #[.string ⟨#[]⟩, .slice none 0 0, .bool false], .bool false])
  | some x => ∃ A c, e = .returned (.tuple #[.agg #[.string (strP x.cust), .slice A x.parts.length c, .bool x.tail], .bool true]) ∧ Reads w' 1 A x.parts.length ((strL x.parts).map .string)
theorem strL_snoc (acc : List Part) (w : ByteArray) (h : partOkB w = true) : strL (acc ++ [partOfP w]) = strL acc ++ [w] := by
  unfold strL
  rw [List.map_append, List.map_singleton, str_part h]
set_option maxHeartbeats 4000000 in
theorem rCompile_any (s : ByteArray) (w : World) (hs : s.size ≤ 100000) : Calls Tryz.prog 96 #[.string s] w (RCompPost (compileB s) w) := by
  have cS := fun W => rSplit_any s 47 W (by omega)
  have hsz := splitB_size 47 s
  have hnum := splitB_num 47 s
  have hne : splitB 47 s ≠ [] := by
    intro h
    have := congrArg List.length h
    unfold splitB at this
    rw [List.length_map] at this
    exact splitL_ne 47 s.data.toList (List.eq_nil_of_length_eq_zero this)
  unfold compileB
  generalize splitB 47 s = l at *
  obtain ⟨l0, r, rfl⟩ := List.exists_cons_of_ne_nil hne
  have hl0 : l0.size ≤ 100000 := Nat.le_trans (hsz l0 (by simp)) hs
  have cN := fun W => rName_any l0 W (by omega)
  obtain ⟨m, hm⟩ : ∃ m, m = r.length := ⟨_, rfl⟩
  have HS : Hid (∀ W, Calls Tryz.prog 178 #[.string s, .int .u8 47] W (fun e w' => ∃ A c, e = .returned (.slice A (m + 1) c) ∧ w'.ownsRow W.heap.size 9 1 (.slice A (m + 1) c) (m + 1) ((l0 :: r).map .string) ∧ Below W.heap.size W w')) := Lib.hid (by rw [hm]; exact cS)
  have HN := Lib.hid cN
  have HM := Lib.hid hm
  have hm9 : m ≤ 100001 := by rw [hm]; simp at hnum; omega
  have hv : compL (l0 :: r) = if decide (m ≤ 32) && headOkB l0 then (cmpL r []).map fun x => ⟨partOfP l0, x.1, x.2⟩ else none := by rw [compL_cons, hm]
  have hn0 : (0 : Int) < (m : Int) + 1 := by omega
  generalize hV : RCompPost (compL (l0 :: r)) w = V
  have HV := Lib.hid hV
  have HSZ : Hid (∀ p ∈ r, p.size ≤ 100000) := Lib.hid (fun p hp => Nat.le_trans (hsz p (by simp [hp])) hs)
  obtain ⟨i0, hi0, hz0, hz1, hz2⟩ := info_parts infoStr
  have HI : Hid ((Tryz.prog.info? 9 = some i0) ∧ i0.zero = some (.string ⟨#[]⟩) ∧ i0.size = 1 ∧ i0.bytes = 16) := Lib.hid ⟨hi0, hz0, hz1, hz2⟩
  clear hne cS cN hm hsz hnum hV hi0 hz0 hz1 hz2
  cases hho : headOkB l0
  · have HNO : Hid (compL (l0 :: r) = none) := Lib.hid (by rw [hv, hho]; simp)
    unfold headOkB at hho
    simp only [Bool.or_eq_false_iff] at hho
    obtain ⟨h1, h2⟩ := hho
    have h1' : ¬ l0.toList = [42] := by simpa using h1
    rw [h2] at HN
    clear h2 hv
    go_enter Tryz.func96, Tryz.ntmps96
    go_wp2_with (first | (go_at_call 178; refine (HS.out _).mono ?_; rintro e w1 ⟨A, c, rfl, hown, hb1⟩; have hX1 : PatBox w1 w.heap.size ⟨#[]⟩ (.slice none 0 0) false := Blk.keep (World.alloc_heap_new _ _) hb1; obtain ⟨pb, po, u, rfl, hu, g0⟩ := (Reads.of_own hown).at_ (k := 0) (by omega); (obtain rfl : u = .string l0 := (by simpa using hu.symm)); clear hu; have gg : w1.cell? ⟨pb, po, none⟩ = some (.string l0) := g0; clear g0; have hR1 := Reads.of_own hown; clear hown; obtain ⟨x0, x1, x2, f0, f1, f2⟩ := hX1.facts; have hz1 : w.heap.size < w1.heap.size := Blk.lt hX1) | (go_at_call 53; refine (HN.out _).mono ?_; rintro e w2 ⟨rfl, hb2⟩; have hX2 : PatBox w2 w.heap.size ⟨#[]⟩ (.slice none 0 0) false := Blk.keep hX1 hb2; have gg2 := cell_keep hb2 gg; have hR2 := hR1.keep hb2; clear x0 x1 x2 f0 f1 f2; obtain ⟨x0, x1, x2, f0, f1, f2⟩ := hX2.facts; have hz2 : w.heap.size < w2.heap.size := Blk.lt hX2))
    rw [← HV.out, HNO.out]
    exact bodyPost_ret (v := .tuple #[.agg #[.string ⟨#[]⟩, .slice none 0 0, .bool false], .bool false]) (by simp [results, Tryz.results96, go_sem, hz2, x0, x1, x2, f0, f1, f2]) rfl ⟨belB, rfl⟩
  have hho2 : ((l0.toList == [42]) = true ∧ l0.toList = [42]) ∨ ((l0.toList == [42]) = false ∧ ¬ l0.toList = [42] ∧ isNameB l0 = true) := by
    have hho' := hho
    unfold headOkB at hho'
    cases h : (l0.toList == [42])
    · right; exact ⟨rfl, by simpa using h, by simpa [h] using hho'⟩
    · left; exact ⟨rfl, by simpa using h⟩
  by_cases hbig : m ≤ 32
  rotate_left
  · have HNO : Hid (compL (l0 :: r) = none) := Lib.hid (by rw [hv]; simp [hbig])
    have hd : decide ((32 : Int) < (m : Int)) = true := by simp; omega
    clear hv hho
    rcases hho2 with ⟨h1, h1'⟩ | ⟨h1, h1', h2⟩
    · go_enter Tryz.func96, Tryz.ntmps96
      go_wp2_with (first | (go_at_call 178; refine (HS.out _).mono ?_; rintro e w1 ⟨A, c, rfl, hown, hb1⟩; have hX1 : PatBox w1 w.heap.size ⟨#[]⟩ (.slice none 0 0) false := Blk.keep (World.alloc_heap_new _ _) hb1; obtain ⟨pb, po, u, rfl, hu, g0⟩ := (Reads.of_own hown).at_ (k := 0) (by omega); (obtain rfl : u = .string l0 := (by simpa using hu.symm)); clear hu; have gg : w1.cell? ⟨pb, po, none⟩ = some (.string l0) := g0; clear g0; have hR1 := Reads.of_own hown; clear hown; obtain ⟨x0, x1, x2, f0, f1, f2⟩ := hX1.facts; have hz1 : w.heap.size < w1.heap.size := Blk.lt hX1) | (go_at_call 53; refine (HN.out _).mono ?_; rintro e w2 ⟨rfl, hb2⟩; have hX2 : PatBox w2 w.heap.size ⟨#[]⟩ (.slice none 0 0) false := Blk.keep hX1 hb2; have gg2 := cell_keep hb2 gg; have hR2 := hR1.keep hb2; clear x0 x1 x2 f0 f1 f2; obtain ⟨x0, x1, x2, f0, f1, f2⟩ := hX2.facts; have hz2 : w.heap.size < w2.heap.size := Blk.lt hX2))
      rw [← HV.out, HNO.out]
      exact bodyPost_ret (v := .tuple #[.agg #[.string ⟨#[]⟩, .slice none 0 0, .bool false], .bool false]) (by simp [results, Tryz.results96, go_sem, hz1, x0, x1, x2, f0, f1, f2]) rfl ⟨belB, rfl⟩
    · rw [h2] at HN
      go_enter Tryz.func96, Tryz.ntmps96
      go_wp2_with (first | (go_at_call 178; refine (HS.out _).mono ?_; rintro e w1 ⟨A, c, rfl, hown, hb1⟩; have hX1 : PatBox w1 w.heap.size ⟨#[]⟩ (.slice none 0 0) false := Blk.keep (World.alloc_heap_new _ _) hb1; obtain ⟨pb, po, u, rfl, hu, g0⟩ := (Reads.of_own hown).at_ (k := 0) (by omega); (obtain rfl : u = .string l0 := (by simpa using hu.symm)); clear hu; have gg : w1.cell? ⟨pb, po, none⟩ = some (.string l0) := g0; clear g0; have hR1 := Reads.of_own hown; clear hown; obtain ⟨x0, x1, x2, f0, f1, f2⟩ := hX1.facts; have hz1 : w.heap.size < w1.heap.size := Blk.lt hX1) | (go_at_call 53; refine (HN.out _).mono ?_; rintro e w2 ⟨rfl, hb2⟩; have hX2 : PatBox w2 w.heap.size ⟨#[]⟩ (.slice none 0 0) false := Blk.keep hX1 hb2; have gg2 := cell_keep hb2 gg; have hR2 := hR1.keep hb2; clear x0 x1 x2 f0 f1 f2; obtain ⟨x0, x1, x2, f0, f1, f2⟩ := hX2.facts; have hz2 : w.heap.size < w2.heap.size := Blk.lt hX2))
      rw [← HV.out, HNO.out]
      exact bodyPost_ret (v := .tuple #[.agg #[.string ⟨#[]⟩, .slice none 0 0, .bool false], .bool false]) (by simp [results, Tryz.results96, go_sem, hz2, x0, x1, x2, f0, f1, f2]) rfl ⟨belB, rfl⟩
  have hd : decide ((32 : Int) < (m : Int)) = false := by simp; omega
  have hv2 : compL (l0 :: r) = (cmpL r []).map fun x => ⟨partOfP l0, x.1, x.2⟩ := by rw [hv, hho]; simp [hbig]
  have hst : strP (partOfP l0) = l0 := str_head hho
  have HV2 := Lib.hid hv2
  have HST := Lib.hid hst
  clear hv hho hv2 hst
  rcases hho2 with ⟨h1, h1'⟩ | ⟨h1, h1', h2⟩
  rotate_left
  rw [h2] at HN; clear h2
  rotate_left
  all_goals
    go_enter Tryz.func96, Tryz.ntmps96
    go_wp2_with (first | (go_at_call 178; refine (HS.out _).mono ?_; rintro e w1 ⟨A, c, rfl, hown, hb1⟩; have hX1 : PatBox w1 w.heap.size ⟨#[]⟩ (.slice none 0 0) false := Blk.keep (World.alloc_heap_new _ _) hb1; obtain ⟨pb, po, u, rfl, hu, g0⟩ := (Reads.of_own hown).at_ (k := 0) (by omega); (obtain rfl : u = .string l0 := (by simpa using hu.symm)); clear hu; have gg : w1.cell? ⟨pb, po, none⟩ = some (.string l0) := g0; clear g0; have hR1 := Reads.of_own hown; clear hown; obtain ⟨x0, x1, x2, f0, f1, f2⟩ := hX1.facts; have hz1 : w.heap.size < w1.heap.size := Blk.lt hX1) | (go_at_call 53; refine (HN.out _).mono ?_; rintro e w2 ⟨rfl, hb2⟩; have hX2 : PatBox w2 w.heap.size ⟨#[]⟩ (.slice none 0 0) false := Blk.keep hX1 hb2; have gg2 := cell_keep hb2 gg; have hR2 := hR1.keep hb2; clear x0 x1 x2 f0 f1 f2; obtain ⟨x0, x1, x2, f0, f1, f2⟩ := hX2.facts; have hz2 : w.heap.size < w2.heap.size := Blk.lt hX2))
  rotate_left
  have hX1' := hX2
  have hbA : Below w.heap.size w w2 := belB
  clear hX1 hR1 gg hb1 hb2
  rotate_left
  obtain ⟨w2, rfl⟩ : ∃ x : World, x = w1 := ⟨_, rfl⟩
  have hX1' := hX1
  have hR2 := hR1
  have gg2 := gg
  have hz2 := hz1
  have hbA : Below w.heap.size w w2 := belB
  clear hX1 hR1 gg hb1
  all_goals
    clear x0 x1 x2 f0 f1 f2
    have HRd := Lib.hid hR2
    have hpb : pb < w2.heap.size := cell_lt gg2
    have hB0 : PatBox (w2.alloc (.cells #[.string l0, .slice none 0 0, .bool false] 144)) w2.heap.size l0 (.slice none 0 0) false := World.alloc_heap_new _ _
    have hP0 : PatBox (w2.alloc (.cells #[.string l0, .slice none 0 0, .bool false] 144)) w.heap.size ⟨#[]⟩ (.slice none 0 0) false := (Below.heap_alloc _ _ _ hz2).trans hX1'
    clear hR2 gg2 hX1'
    go_loopw [6] (fun vi wr => ∃ (k : Nat) (acc : List Part) (A' : Option Addr) (c' : Nat) (tl : Bool), (vi = .int .i64 ((k : Int) + 1) ∧ k ≤ m ∧ acc.length ≤ k) ∧ Hid (CmpI r k acc tl) ∧ PatBox wr w2.heap.size l0 (.slice A' acc.length c') tl ∧ PatBox wr w.heap.size ⟨#[]⟩ (.slice none 0 0) false ∧
        wr.ownsRow (w2.heap.size + 1) 9 1 (.slice A' acc.length c') acc.length ((strL acc).map .string) ∧ Below w.heap.size w wr ∧ (∀ j, j < w2.heap.size → wr.heap[j]? = w2.heap[j]?) ∧ w2.heap.size + 1 ≤ wr.heap.size) (fun vi _ => m + 1 - (intOf vi).toNat)
    case atStart => exact ⟨0, [], none, 0, false, ⟨rfl, Nat.zero_le _, Nat.le_refl _⟩, Lib.hid (.inl ⟨rfl, by simp⟩), hB0, hP0, World.ownsRow_nil _ _ _ _, belB, fun j hj => Below.heap_alloc _ _ _ hj, by simp⟩
    case round =>
      clear hB0 hP0
      obtain ⟨k, acc, A', c', tl, ⟨rfl, hk, hak⟩, HC, hB, hP, hown, hbw, hFr, hzr⟩ := hrel
      obtain ⟨x0, x1, x2, f0, f1, f2⟩ := hP.facts
      obtain ⟨y0, y1, y2, g0, g1, g2⟩ := hB.facts
      by_cases hlt : k < m
      · obtain ⟨p, hp⟩ : ∃ p, r[k]? = some p := ⟨_, List.getElem?_eq_getElem (by have := HM.out; omega)⟩
        have hps := HSZ.out p (List.mem_of_getElem? hp)
        have hcell : wr.cell? ⟨pb, po + (k + 1), none⟩ = some (.string p) := by
          obtain ⟨b', o', e', hc'⟩ := HRd.out.2 (by omega)
          injection e' with e'; injection e' with e1 e2; subst e1; subst e2
          have := hc' (k + 1) (.string p) (by simp [hp])
          exact (World.cell?_of_block (hFr pb hpb)).trans this
        obtain ⟨rfl, hcmp⟩ : tl = false ∧ cmpL r [] = cmpL (r.drop k) acc := by
          rcases HC.out with h | ⟨_, h, _⟩
          · exact h
          · exfalso; have := HM.out; omega
        have hd2 : r.drop k = p :: r.drop (k + 1) := by
          obtain ⟨hl2, rfl⟩ := List.getElem?_eq_some_iff.1 hp
          exact List.drop_eq_getElem_cons hl2
        rw [hd2, cmpL] at hcmp
        have hemp : (r.drop (k + 1)).isEmpty = decide (k + 1 = m) := by
          have := HM.out
          by_cases h : k + 1 = m
          · rw [List.drop_eq_nil_of_le (by omega)]; simp [h]
          · simp [h]; omega
        rw [hemp] at hcmp
        have hk0 : (0 : Int) ≤ (k : Int) + 1 := by omega
        have hkm : (k : Int) + 1 < (m : Int) + 1 := by omega
        clear hd2 hemp hp HC HRd
        have cP := fun W => rPart_any p W (by omega)
        rw [part_ok] at cP
        cases h2s : (p.toList == [42, 42])
        · simp only [h2s, Bool.false_and, Bool.false_eq_true, if_false] at hcmp
          cases hok : partOkB p
          · have HNO : Hid (cmpL r [] = none) := Lib.hid (by rw [hcmp, hok]; rfl)
            rw [hok] at cP
            have HP := Lib.hid cP
            clear hcmp cP hok
            go_wp2_with (go_at_call 179; refine (HP.out _).mono ?_; rintro e w4 ⟨rfl, hb4⟩; have hP4 : PatBox w4 w.heap.size ⟨#[]⟩ (.slice none 0 0) false := Blk.keep hP hb4; have hB4 : PatBox w4 w2.heap.size l0 (.slice A' acc.length c') false := Blk.keep hB hb4; have hown4 := ownsRow_keep hown hb4; have hbw4 := bstep hbw hb4; have hFr4 : ∀ j, j < w2.heap.size → w4.heap[j]? = w2.heap[j]? := (fun j q1 => (hb4.block j (by omega)).trans (hFr j q1)); have hzr4 : w2.heap.size + 1 ≤ w4.heap.size := Nat.le_trans hzr hb4.size; have hcell4 := cell_keep hb4 hcell; clear x0 x1 x2 f0 f1 f2 y0 y1 y2 g0 g1 g2; obtain ⟨x0, x1, x2, f0, f1, f2⟩ := hP4.facts; obtain ⟨y0, y1, y2, g0, g1, g2⟩ := hB4.facts)
            rw [← HV.out, HV2.out, HNO.out]
            exact bodyPost_ret (v := .tuple #[.agg #[.string ⟨#[]⟩, .slice none 0 0, .bool false], .bool false]) (by simp [results, Tryz.results96, go_sem, hz2, x0, x1, x2, f0, f1, f2]) rfl ⟨belB, rfl⟩
          · have HSO : Hid (cmpL r [] = cmpL (r.drop (k + 1)) (acc ++ [partOfP p])) := Lib.hid (by rw [hcmp, hok]; rfl)
            have HSL := Lib.hid (strL_snoc acc p hok)
            rw [hok] at cP
            have HP := Lib.hid cP
            clear hcmp cP hok
            go_wp2_with (go_at_call 179; refine (HP.out _).mono ?_; rintro e w4 ⟨rfl, hb4⟩; have hP4 : PatBox w4 w.heap.size ⟨#[]⟩ (.slice none 0 0) false := Blk.keep hP hb4; have hB4 : PatBox w4 w2.heap.size l0 (.slice A' acc.length c') false := Blk.keep hB hb4; have hown4 := ownsRow_keep hown hb4; have hbw4 := bstep hbw hb4; have hFr4 : ∀ j, j < w2.heap.size → w4.heap[j]? = w2.heap[j]? := (fun j q1 => (hb4.block j (by omega)).trans (hFr j q1)); have hzr4 : w2.heap.size + 1 ≤ w4.heap.size := Nat.le_trans hzr hb4.size; have hcell4 := cell_keep hb4 hcell; clear x0 x1 x2 f0 f1 f2 y0 y1 y2 g0 g1 g2; obtain ⟨x0, x1, x2, f0, f1, f2⟩ := hP4.facts; obtain ⟨y0, y1, y2, g0, g1, g2⟩ := hB4.facts)
            have hown4d : w4.drew.ownsRow (w2.heap.size + 1) 9 1 (.slice A' acc.length c') acc.length ((strL acc).map .string) := hown4
            have y1d : w4.drew.cell? ⟨w2.heap.size, 1, none⟩ = some (.slice A' acc.length c') := y1
            have hcd : w4.drew.cell? ⟨pb, po + (k + 1), none⟩ = some (.string p) := hcell4
            have hzz : w2.heap.size < w4.heap.size := by omega
            have hzp : pb < w4.heap.size := by omega
            have y1e : (w4.alloc (.cells #[.string p] 9)).cell? ⟨w2.heap.size, 1, none⟩ = some (.slice A' acc.length c') := (World.cell?_of_block (Below.heap_alloc w4 _ _ hzz)).trans y1
            go_region_law ((refine step_append_lies _ (by rfl) _ _ _ (by rfl) (w2.heap.size + 1) 9 i0 (.string ⟨#[]⟩) 1 16 Tryz.underlying27 HI.out.1 HI.out.2.1 HI.out.2.2.1 HI.out.2.2.2 (by rfl) (by omega) (.slice A' acc.length c') acc.length ((strL acc).map .string) (by rfl) (hown4d.alloc _) ⟨w4.heap.size, 0, none⟩ 1 1 [.string p] (by rfl) (by rfl) (World.news_of_block (cs := #[.string p]) (t := 9) (fr := (0, 0)) (World.alloc_heap_new w4.drew _)) (by simp [Value.oneCell']) (by omega) (by unfold maxLen; omega) (by omega) (by simp; omega) (w4.heap.size + 1) (by simp) ?_; intro gg cap w7 hown7 hgrow hat hlt7; have hB7 : PatBox w7 w2.heap.size l0 (.slice A' acc.length c') false := (hgrow.block w2.heap.size (by simp; omega) (fun e => by have := ownsRow_block hown4 _ e.symm; omega)).trans ((Below.heap_alloc w4.drew _ w2.heap.size (show w2.heap.size < w4.heap.size by omega)).trans hB4); clear y0 y1 y2 g0 g1 g2; obtain ⟨y0, y1, y2, g0, g1, g2⟩ := hB7.facts))
            all_goals go_wp2
            all_goals
              have hal : (acc ++ [partOfP p]).length = acc.length + 1 := by simp
              have hb7 : Below w.heap.size w w7 := ((Below.drew hbw4).alloc hbw4.size _).grown hgrow (by have := hbw4.size; simp; omega) (fun r e => by have := ownsRow_block hown4 r e; omega)
              have hP7 : PatBox w7 w.heap.size ⟨#[]⟩ (.slice none 0 0) false := (hgrow.block w.heap.size (by simp; omega) (fun e => by have := ownsRow_block hown4 _ e.symm; omega)).trans ((Below.heap_alloc w4.drew _ _ (show w.heap.size < w4.heap.size by omega)).trans hP4)
              refine ⟨⟨k + 1, acc ++ [partOfP p], some ⟨gg, 0, none⟩, cap, false, ⟨by go_num, by omega, by simp; omega⟩, Lib.hid (.inl ⟨rfl, HSO.out⟩), by rw [hal]; exact Blk.set_ hB7 1 _, (Below.heap_setCell _ _ _ _ (by simp; omega)).trans hP7, by rw [hal, HSL.out, List.map_append]; exact ownsRow_same hown7 (fun j hj => Below.heap_setCell _ _ _ _ (by simp; omega)), hb7.setCell (p := ⟨w2.heap.size, 1, none⟩) (by simp; omega) _, fun j q1 => (Below.heap_setCell _ _ _ _ (by simp; omega)).trans ((hgrow.block j (by simp; omega) (fun e => by have := ownsRow_block hown4 _ e.symm; omega)).trans ((Below.heap_alloc w4.drew _ j (show j < w4.heap.size by omega)).trans (hFr4 j q1))), by have := hgrow.size; simp [World.setCell] at this ⊢; omega⟩, by simp [intOf]; omega⟩
        · obtain rfl : p = ⟨#[42, 42]⟩ := bytes_ext (by rw [← Lib.toList_data]; simpa using h2s)
          by_cases hlast : k + 1 = m
          · obtain rfl : m = k + 1 := hlast.symm
            have hlb : ((k : Int) + 1 == ((k + 1 : Nat) : Int)) = true := by simp
            rw [h2s, show decide (k + 1 = k + 1) = true by simp] at hcmp
            simp only [Bool.and_self, if_true] at hcmp
            have HH := Lib.hid hcmp
            clear hcmp cP
            go_wp2
            exact ⟨⟨k + 1, acc, A', c', true, ⟨by go_num, by omega, by omega⟩, Lib.hid (.inr ⟨rfl, HM.out, HH.out⟩), Blk.set_ hB 2 (.bool true), (Below.heap_setCell _ _ _ _ (by first | (simp; done) | (simp; omega))).trans hP, ownsRow_same hown (fun j hj => Below.heap_setCell _ _ _ _ (by first | (simp; done) | (simp; omega))), hbw.setCell (p := ⟨w2.heap.size, 2, none⟩) (by first | (simp; done) | (simp; omega)) _,
              fun j q1 => (Below.heap_setCell _ _ _ _ (by first | (simp; done) | (simp; omega))).trans (hFr j q1), by first | (simp [World.setCell]; done) | (simp [World.setCell]; omega)⟩, by simp [intOf]; omega⟩
          · have hlb : ((k : Int) + 1 == (m : Int)) = false := by simp; omega
            have HNO : Hid (cmpL r [] = none) := Lib.hid (by rw [hcmp, show decide (k + 1 = m) = false by simpa using hlast, partOk_stars]; simp)
            rw [partOk_stars] at cP
            have HP := Lib.hid cP
            clear hcmp cP
            go_wp2_with (go_at_call 179; refine (HP.out _).mono ?_; rintro e w4 ⟨rfl, hb4⟩; have hP4 : PatBox w4 w.heap.size ⟨#[]⟩ (.slice none 0 0) false := Blk.keep hP hb4; have hB4 : PatBox w4 w2.heap.size l0 (.slice A' acc.length c') false := Blk.keep hB hb4; have hown4 := ownsRow_keep hown hb4; have hbw4 := bstep hbw hb4; have hFr4 : ∀ j, j < w2.heap.size → w4.heap[j]? = w2.heap[j]? := (fun j q1 => (hb4.block j (by omega)).trans (hFr j q1)); have hzr4 : w2.heap.size + 1 ≤ w4.heap.size := Nat.le_trans hzr hb4.size; have hcell4 := cell_keep hb4 hcell; clear x0 x1 x2 f0 f1 f2 y0 y1 y2 g0 g1 g2; obtain ⟨x0, x1, x2, f0, f1, f2⟩ := hP4.facts; obtain ⟨y0, y1, y2, g0, g1, g2⟩ := hB4.facts)
            rw [← HV.out, HV2.out, HNO.out]
            exact bodyPost_ret (v := .tuple #[.agg #[.string ⟨#[]⟩, .slice none 0 0, .bool false], .bool false]) (by simp [results, Tryz.results96, go_sem, hz2, x0, x1, x2, f0, f1, f2]) rfl ⟨belB, rfl⟩
      · obtain rfl : k = m := by omega
        have HE : Hid (cmpL r [] = some (acc, tl)) := Lib.hid (by
          rcases HC.out with ⟨h, e⟩ | ⟨h, _, e⟩
          · rw [e, h, HM.out, List.drop_eq_nil_of_le (Nat.le_refl _), cmpL]
          · rw [e, h])
        have hob : ∀ a, A' = some a → a.block ≠ w.heap.size := fun a ha => by have := ownsRow_block hown a.block (by rw [ha]; rfl); omega
        have hRr := Reads.of_own hown
        clear HC
        go_wp2
        rw [← HV.out, HV2.out, HE.out]
        exact bodyPost_ret (v := .tuple #[.agg #[.string l0, .slice A' acc.length c', .bool tl], .bool true]) (by simp [results, Tryz.results96, go_sem, hz2, x0, x1, x2, f0, f1, f2]) rfl ⟨belB, A', c', by rw [HST.out], (((hRr.set_ _ _ hob).set_ _ _ hob).set_ _ _ hob)⟩
end Go.Proofs.YtjhlpkhfdghngaaGreatDoor
namespace Go.Proofs.YtjhlpkhfdghngaaGreatDoor
open Go.RowKit Go.Sort
set_option linter.unusedVariables false
set_option linter.unusedSimpArgs false
set_option maxRecDepth 100000
abbrev BL := List UInt8
theorem uniq_sorted : ∀ (xs ys : List BL), xs.Pairwise (· < ·) → ys.Pairwise (· < ·) → (∀ a, a ∈ xs ↔ a ∈ ys) → xs = ys
  | [], [], _, _, _ => rfl
  | [], y :: _, _, _, h => absurd ((h y).2 (by simp)) (by simp)
  | x :: _, [], _, _, h => absurd ((h x).1 (by simp)) (by simp)
  | x :: xs, y :: ys, hx, hy, h => by
    have hx' := List.pairwise_cons.1 hx
    have hy' := List.pairwise_cons.1 hy
    have e : x = y := by
      rcases List.mem_cons.1 ((h x).1 (by simp)) with e | e
      · exact e
      · rcases List.mem_cons.1 ((h y).2 (by simp)) with e2 | e2
        · exact e2.symm
        · exact absurd (hy'.1 x e) (List.lt_asymm (hx'.1 y e2))
    subst e
    rw [uniq_sorted xs ys hx'.2 hy'.2 (fun a => ?_)]
    constructor
    · intro ha
      rcases List.mem_cons.1 ((h a).1 (by simp [ha])) with e | e
      · subst e; exact absurd (hx'.1 a ha) (List.lt_irrefl a)
      · exact e
    · intro ha
      rcases List.mem_cons.1 ((h a).2 (by simp [ha])) with e | e
      · subst e; exact absurd (hy'.1 a ha) (List.lt_irrefl a)
      · exact e
theorem lt_of_le_ne' {a b : BL} (h : a ≤ b) (hn : a ≠ b) : a < b := by
  rcases Decidable.em (a < b) with h1 | h1
  · exact h1
  · exact absurd (List.le_antisymm h (List.not_lt.1 h1)) hn
theorem compact_inv (d : Array BL) (hs : ∀ i j, i ≤ j → j < d.size → d[i]! ≤ d[j]!) : ∀ m, m ≤ d.size → (Lib.compactUpTo d m).Pairwise (· < ·) ∧ (∀ j, j < m → d[j]! ∈ Lib.compactUpTo d m) ∧ (∀ x ∈ Lib.compactUpTo d m, ∃ j, j < m ∧ x = d[j]!)
  | 0, _ => by simp [Lib.compactUpTo]
  | m + 1, hm => by
    obtain ⟨h1, h2, h3⟩ := compact_inv d hs m (by omega)
    rw [Lib.compactUpTo_succ]
    by_cases hk : Lib.keeps d m = true
    · rw [if_pos hk]
      refine ⟨List.pairwise_append.2 ⟨h1, by simp, fun a ha b hb => ?_⟩, fun j hj => ?_, fun x hx => ?_⟩
      · rw [List.mem_singleton.1 hb]
        obtain ⟨j, hj, rfl⟩ := h3 a ha
        have hne : d[m - 1]! ≠ d[m]! := by
          intro e
          simp [Lib.keeps] at hk
          rcases hk with hk | hk
          · omega
          · first | exact hk e.symm | exact hk e
        have l1 := hs j (m - 1) (by omega) (by omega)
        have l2 := lt_of_le_ne' (hs (m - 1) m (by omega) (by omega)) hne
        exact Std.lt_of_le_of_lt l1 l2
      · by_cases e : j = m
        · subst e; simp
        · exact List.mem_append_left _ (h2 j (by omega))
      · rcases List.mem_append.1 hx with hx | hx
        · obtain ⟨j, hj, rfl⟩ := h3 x hx
          exact ⟨j, by omega, rfl⟩
        · exact ⟨m, by omega, List.mem_singleton.1 hx⟩
    · rw [if_neg hk, List.append_nil]
      refine ⟨h1, fun j hj => ?_, fun x hx => ?_⟩
      · by_cases e : j = m
        · subst e
          have hj0 : j ≠ 0 ∧ d[j]! = d[j - 1]! := by
            simp [Lib.keeps] at hk
            first | exact hk | exact ⟨hk.1, hk.2.symm⟩
          rw [hj0.2]
          exact h2 (j - 1) (by omega)
        · exact h2 j (by omega)
      · obtain ⟨j, hj, rfl⟩ := h3 x hx
        exact ⟨j, by omega, rfl⟩
theorem compact_sorted (zs : List BL) (hs : zs.Pairwise (· ≤ ·)) : (Lib.compact zs).Pairwise (· < ·) ∧ ∀ a, a ∈ Lib.compact zs ↔ a ∈ zs := by
  have hd : ∀ i j, i ≤ j → j < zs.toArray.size → zs.toArray[i]! ≤ zs.toArray[j]! := by
    intro i j hij hj
    simp only [List.size_toArray] at hj
    rw [getElem!_pos _ i (by simp; omega), getElem!_pos _ j (by simpa using hj)]
    simp only [List.getElem_toArray]
    rcases Nat.lt_or_eq_of_le hij with h | h
    · exact List.pairwise_iff_getElem.1 hs i j (by omega) hj h
    · subst h; exact List.le_refl _
  obtain ⟨h1, h2, h3⟩ := compact_inv zs.toArray hd zs.length (by simp)
  refine ⟨h1, fun a => ⟨fun h => ?_, fun h => ?_⟩⟩
  · exact compact_mem zs a h
  · obtain ⟨j, hj, rfl⟩ := List.getElem_of_mem h
    have := h2 j hj
    rw [getElem!_pos _ j (by simpa using hj)] at this
    unfold Lib.compact
    simpa using this
end Go.Proofs.YtjhlpkhfdghngaaGreatDoor
namespace Go.Proofs.YtjhlpkhfdghngaaGreatDoor
open Go.RowKit Go.Sort
set_option linter.unusedVariables false
set_option linter.unusedSimpArgs false
set_option maxRecDepth 100000
def RPathPost (r : Option (List ByteArray)) (w : World) (e : Ending) (w' : World) : Prop :=
  Below w.heap.size w w' ∧ match r with
    | none => e = .returned (.tuple #[.slice none 0 0, .bool false])
    | some out => ∃ A c, e = .returned (.tuple #[.slice A out.length c, .bool true]) ∧ Reads w' 1 A out.length (out.map .string) ∧ (∀ a, A = some a → w.heap.size ≤ a.block)
end Go.Proofs.YtjhlpkhfdghngaaGreatDoor
namespace Go.Proofs.YtjhlpkhfdghngaaGreatDoor
open Go.RowKit Go.Sort
set_option linter.unusedVariables false
set_option linter.unusedSimpArgs false
set_option maxRecDepth 100000
def PairBox (w : World) (g : Nat) (k v : ByteArray) : Prop := Blk w g 215 #[.string k, .string v] (0, 0)
theorem PairBox.facts {w : World} {g : Nat} {k v : ByteArray} (h : PairBox w g k v) : w.cell? ⟨g, 0, none⟩ = some (.string k) ∧ w.cell? ⟨g, 1, none⟩ = some (.string v) := ⟨Blk.cell h 0, Blk.cell h 1⟩
end Go.Proofs.YtjhlpkhfdghngaaGreatDoor
namespace Go.Proofs.YtjhlpkhfdghngaaGreatDoor
open Go.RowKit Go.Sort
set_option linter.unusedVariables false
set_option linter.unusedSimpArgs false
set_option maxRecDepth 100000
theorem PairsPost.none_ {w w' : World} (hb : Below w.heap.size w w') : PairsPost none w (.returned (.tuple #[.slice none 0 0, .bool false])) w' := ⟨hb, rfl⟩
end Go.Proofs.YtjhlpkhfdghngaaGreatDoor
namespace Go.Proofs.YtjhlpkhfdghngaaGreatDoor
open Go.RowKit Go.Sort
set_option linter.unusedVariables false
set_option linter.unusedSimpArgs false
set_option maxRecDepth 100000
def ReadBox (w : World) (g : Nat) (c : ByteArray) (A : Option Addr) (na ca : Nat) (B : Option Addr) (nb cb : Nat) (e : Int) : Prop := Blk w g 264 #[.string c, .slice A na ca, .slice B nb cb, .int .i64 e] (0, 0)
theorem ReadBox.facts {w : World} {g : Nat} {c : ByteArray} {A B : Option Addr} {na ca nb cb : Nat} {e : Int} (h : ReadBox w g c A na ca B nb cb e) :
    w.cell? ⟨g, 0, none⟩ = some (.string c) ∧ w.cell? ⟨g, 1, none⟩ = some (.slice A na ca) ∧ w.cell? ⟨g, 2, none⟩ = some (.slice B nb cb) ∧ w.cell? ⟨g, 3, none⟩ = some (.int .i64 e) ∧
      w.frozen? ⟨g, 0, none⟩ = false ∧ w.frozen? ⟨g, 1, none⟩ = false ∧ w.frozen? ⟨g, 2, none⟩ = false ∧ w.frozen? ⟨g, 3, none⟩ = false :=
  ⟨Blk.cell h 0, Blk.cell h 1, Blk.cell h 2, Blk.cell h 3, blk_free0 h 0, blk_free0 h 1, blk_free0 h 2, blk_free0 h 3⟩
theorem RPathPost.some_ {rr : Option (List ByteArray)} {X w' : World} {e : Ending} (h : RPathPost rr X e w') : Below X.heap.size X w' ∧ ∃ A c, e = .returned (.tuple #[.slice A (rr.getD []).length c, .bool rr.isSome]) ∧ Reads w' 1 A (rr.getD []).length ((rr.getD []).map .string) ∧ (∀ a, A = some a → X.heap.size ≤ a.block) := by
  obtain ⟨hb, h⟩ := h
  cases rr with
  | none => exact ⟨hb, none, 0, h, Reads.nil_ _ _ _, fun a ha => (by cases ha)⟩
  | some p => exact ⟨hb, h⟩
end Go.Proofs.YtjhlpkhfdghngaaGreatDoor
namespace Go.Proofs.YtjhlpkhfdghngaaGreatDoor
open Go.RowKit Go.Sort
set_option linter.unusedVariables false
set_option linter.unusedSimpArgs false
set_option maxRecDepth 100000
theorem RCompPost.any_ {r : Option Pat} {w w' : World} {e : Ending} (h : RCompPost r w e w') : Below w.heap.size w w' ∧ ∃ (c : ByteArray) (A : Option Addr) (n k : Nat) (t : Bool), e = .returned (.tuple #[.agg #[.string c, .slice A n k, .bool t], .bool r.isSome]) := by
  obtain ⟨hb, h⟩ := h
  cases r with
  | none => exact ⟨hb, _, none, 0, 0, _, h⟩
  | some x => obtain ⟨A, c, h, _⟩ := h; exact ⟨hb, _, A, _, c, _, h⟩
set_option maxHeartbeats 1000000 in
theorem rValid_any (s : ByteArray) (w : World) (hs : s.size ≤ 100000) : Calls Tryz.prog 54 #[.string s] w (Ret w (.bool (compileB s).isSome)) := by
  have cC := fun W => (rCompile_any s W hs).mono (fun e w' h => h.any_)
  generalize (compileB s).isSome = b at *
  have HC := Lib.hid cC
  clear cC
  go_enter Tryz.func54, Tryz.ntmps54
  go_wp2_with (go_at_call 96; refine (HC.out _).mono ?_; rintro e w1 ⟨hb1, c, A, n, k, t, rfl⟩)
  go_ret
  exact ⟨rfl, belB⟩
end Go.Proofs.YtjhlpkhfdghngaaGreatDoor
