/- Which rules may count: policy.Possible. -/
import Derived.Test.YtdlbfjoemabfpaaGreatDoorEZ15
import Derived.Test.YtdlbfjoemabfpaaGreatDoorEZ14
import Derived.Test.YtdlbfjoemabfpaaGreatDoorEZ0
import Derived.Laws.Tables
import Derived.OwnWalk
import Derived.Maps.AppendAt
import Derived.Test.YtdlbfjoemabfpaaGreatDoorEZ16
import Derived.Test.YtdlbfjoemabfpaaGreatDoorProg
import Derived.WalkKit
import Derived.WalkSpells
import Derived.WalkLawsBesides
import Derived.Below
import Derived.Deep.QuietTactic
import Derived.BigQuiet
import Derived.Lib.QuietBelow
import Derived.Lib.Strings
import Derived.Lib.Hide
import Derived.Deep.RegionWith
import Derived.Deep.RegionHeld3
import Derived.Lib.IndexBytes
import Derived.Test.YtdlbfjoemabfpaaGreatDoorEZ27
namespace Go.Proofs.YtdlbfjoemabfpaaGreatDoor
open Go.RowKit Go.Sort
set_option linter.unusedVariables false
set_option linter.unusedSimpArgs false
set_option maxRecDepth 100000
def possX (a : ByteArray) : List RuleM → Nat → List Nat
  | [], _ => []
  | x :: r, k => if matchB x.r.pat a then (if x.r.tags.length = 0 then [k] else k :: possX a r (k + 1)) else possX a r (k + 1)
def i64s (l : List Nat) : List Value := l.map fun k : Nat => Value.int .i64 (k : Int)
theorem i64s_app (a b : List Nat) : i64s (a ++ b) = i64s a ++ i64s b := by simp [i64s]
theorem infoInt22 : (Tryz.prog.info? 3).map (fun i => (i.zero, i.size, i.bytes)) = some (some (.int .i64 0), 1, 8) := by kernel_rfl
theorem inf18 : (Tryz.prog.info? 33).map (·.size) = some 18 := by kernel_rfl
def IntsPost (l : List Nat) (w : World) (e : Ending) (w' : World) : Prop := ∃ A c, e = .returned (.slice A l.length c) ∧ Reads w' 1 A l.length (i64s l) ∧ Below w.heap.size w w'
set_option maxHeartbeats 4000000 in
theorem possible_any (A : Option Addr) (n c : Nat) (L : List RuleM) (a : ByteArray) (w : World) (hL : RulesRead w A n L) (hf : RulesFit L) (ha : a.size ≤ 100000) (hE : Env w) :
    Calls Tryz.prog 23 #[.slice A n c, .string a] w (IntsPost (possX a L 0) w) := by
  obtain ⟨i0, hi, hz0, hz1, hz2⟩ := info_parts infoInt22
  have HI := Lib.hid (And.intro hi (And.intro hz0 (And.intro hz1 hz2)))
  clear hi hz0 hz1 hz2
  have hl : L.length = n := hL.len
  have hn : n ≤ 1000 := by have := hf.n; omega
  have cM := fun (x : RuleM) (hx : x ∈ L) (W : World) (hb : Below w.heap.size w W) => match_any x.r.pat a W (hf.p x hx) ha (Env.keep hE hb)
  obtain ⟨V, hV⟩ : ∃ V, V = possX a L 0 := ⟨_, rfl⟩
  rw [← hV]
  have HL := Lib.hid hL; have HM := Lib.hid cM; have HV := Lib.hid hV; have HLN := Lib.hid hl
  clear hL cM hV hl hf hE
  go_enter Tryz.func23, Tryz.ntmps23
  go_wp2
  go_loopw [10, 5] (fun iv ov wr => ∃ (k : Nat) (acc : List Nat) (B : Option Addr) (d : Nat), k ≤ n ∧ iv = .int .i64 k ∧ ov = .slice B acc.length d ∧ acc.length ≤ k ∧ Hid (V = acc ++ possX a (L.drop k) k) ∧ wr.ownsRow w.heap.size 3 1 (.slice B acc.length d) acc.length (i64s acc) ∧ Below w.heap.size w wr) (fun iv _ _ => n - (intOf iv).toNat)
  case atStart => exact ⟨0, [], none, 0, by omega, rfl, rfl, by simp, Lib.hid (by rw [HV.out]; rfl), World.ownsRow_nil _ _ _ _, Below.refl _ _⟩
  case round =>
    obtain ⟨k, acc, B, d, hk, rfl, rfl, hak, HVA, hown, hbr⟩ := hrel
    have hbs := hbr.size
    by_cases hlt : k < n
    · obtain ⟨x, hx⟩ : ∃ x, L[k]? = some x := ⟨_, List.getElem?_eq_getElem (by have := HLN.out; omega)⟩
      obtain ⟨_, b, o, rfl, hcell⟩ := (HL.out.keep hbr).at_ hx
      have hld := rule_load wr b (o + k * 18) x hcell
      have hd : L.drop k = x :: L.drop (k + 1) := by
        obtain ⟨hl2, rfl⟩ := List.getElem?_eq_some_iff.1 hx
        exact List.drop_eq_getElem_cons hl2
      have hVA := HVA.out
      rw [hd, possX] at hVA
      have hMx := HM.out x (List.mem_of_getElem? hx)
      have hcl : x.cells.length = 18 := x.cells_len
      have hc1 : x.cells.toArray[1]? = some (.string x.r.pat) := rfl
      have hc2 : x.cells.toArray[2]? = some (.slice x.T x.r.tags.length x.ct) := rfl
      unfold RuleM.val at hld
      have hone : x.cells.toArray.all (·.oneCell') = true := by rw [List.all_toArray]; rfl
      have hi18 : (Tryz.prog.info? 33).map (·.size) = some x.cells.toArray.size := by rw [inf18, List.size_toArray, hcl]
      have hsz : x.cells.toArray.size = (#[.string ⟨#[]⟩, .string ⟨#[]⟩, .slice none 0 0, .int .i64 0, .int .i64 0, .int .i64 0, .int .i64 0, .slice none 0 0, .int .i64 0, .int .i64 0, .string ⟨#[]⟩, .slice none 0 0, .slice none 0 0, .slice none 0 0, .int .i64 0, .bool false, .int .i64 0, .string ⟨#[]⟩] : Array Value).size := by rw [List.size_toArray, hcl]; rfl
      have hsz2 : x.cells.toArray.size = 18 := by rw [List.size_toArray, hcl]
      generalize x.cells.toArray = X at *
      clear hcl hd hcell
      generalize x.r.pat = pt at *
      generalize x.r.tags.length = tl at *
      generalize x.T = T at *
      generalize x.ct = ct at *
      have HLD := Lib.hid hld; have HC1 := Lib.hid hc1; have HC2 := Lib.hid hc2; have HON := Lib.hid hone; have HI18 := Lib.hid hi18; have HSZ := Lib.hid hsz; have HMX := Lib.hid hMx
      clear hx hld hc1 hc2 hone hi18 hsz hMx HVA HM
      obtain ⟨m, hm⟩ : ∃ m, m = acc.length := ⟨_, rfl⟩
      have HML := Lib.hid hm
      rw [← hm] at hown hak ⊢
      clear hm
      have hrs : wr.heap.size = wr.heap.size := rfl
      cases hmb : matchB pt a
      · rw [hmb] at HMX hVA
        have hVA : V = acc ++ possX a (L.drop (k + 1)) (k + 1) := by simpa using hVA
        have HVA := Lib.hid hVA
        clear hVA hmb
        go_wp2_with (first | (refine wpList_load_addr rfl _ _ rfl ⟨b, o + k * 18, none⟩ (.agg X) rfl HLD.out ?_) | (refine wpList_store_row rfl _ _ _ rfl wr.heap.size X rfl rfl _ #[.string ⟨#[]⟩, .string ⟨#[]⟩, .slice none 0 0, .int .i64 0, .int .i64 0, .int .i64 0, .int .i64 0, .slice none 0 0, .int .i64 0, .int .i64 0, .string ⟨#[]⟩, .slice none 0 0, .slice none 0 0, .slice none 0 0, .int .i64 0, .bool false, .int .i64 0, .string ⟨#[]⟩] ((heap_alloc_new wr _).trans rfl) HI18.out HSZ.out.symm HON.out ?_; generalize hw6 : World.setRow _ _ _ = w6; have y1 : w6.cell? ⟨wr.heap.size, 1, none⟩ = some (.string pt) := (by rw [← hw6]; exact (cell_of_row _ _ 1 _ _ _ (setRow_heap _ _ _ _ _ _ (heap_alloc_new wr _))).trans HC1.out); have hb6 : Below wr.heap.size wr w6 := (by rw [← hw6]; exact below_setRow ((Below.refl _ _).alloc (Nat.le_refl _) _) (Nat.le_refl _) _); clear hw6) | (go_at_call 65; refine (HMX.out _ (bstep hbr hb6)).mono ?_; rintro e w2 ⟨rfl, hb2⟩))
        have hbw2 : Below w.heap.size w w2 := bstep hbr (hb6.trans (hb2.mono hb6.size))
        refine ⟨⟨k + 1, acc, B, d, by omega, by go_num, by rw [← HML.out], by rw [← HML.out]; omega, HVA, ?_, hbw2⟩, by simp [intOf]; omega⟩
        rw [← HML.out]
        exact ownsRow_keep hown (hb6.trans (hb2.mono hb6.size))
      · rw [hmb] at HMX hVA
        by_cases htl : tl = 0
        · subst htl
          have hVA : V = acc ++ [k] := by simpa using hVA
          have HVA := Lib.hid hVA
          clear hVA hmb
          go_wp2_with (first | (refine wpList_load_addr rfl _ _ rfl ⟨b, o + k * 18, none⟩ (.agg X) rfl HLD.out ?_) | (refine wpList_store_row rfl _ _ _ rfl wr.heap.size X rfl rfl _ #[.string ⟨#[]⟩, .string ⟨#[]⟩, .slice none 0 0, .int .i64 0, .int .i64 0, .int .i64 0, .int .i64 0, .slice none 0 0, .int .i64 0, .int .i64 0, .string ⟨#[]⟩, .slice none 0 0, .slice none 0 0, .slice none 0 0, .int .i64 0, .bool false, .int .i64 0, .string ⟨#[]⟩] ((heap_alloc_new wr _).trans rfl) HI18.out HSZ.out.symm HON.out ?_; generalize hw6 : World.setRow _ _ _ = w6; have y1 : w6.cell? ⟨wr.heap.size, 1, none⟩ = some (.string pt) := (by rw [← hw6]; exact (cell_of_row _ _ 1 _ _ _ (setRow_heap _ _ _ _ _ _ (heap_alloc_new wr _))).trans HC1.out); have hb6 : Below wr.heap.size wr w6 := (by rw [← hw6]; exact below_setRow ((Below.refl _ _).alloc (Nat.le_refl _) _) (Nat.le_refl _) _); have y2 : w6.cell? ⟨wr.heap.size, 2, none⟩ = some (.slice T 0 ct) := (by rw [← hw6]; exact (cell_of_row _ _ 2 _ _ _ (setRow_heap _ _ _ _ _ _ (heap_alloc_new wr _))).trans HC2.out); clear hw6) | (go_at_call 65; refine (HMX.out _ (bstep hbr hb6)).mono ?_; rintro e w2 ⟨rfl, hb2⟩; have hbk2 := hb6.trans (hb2.mono hb6.size); have hs2 := hbk2.size; have hg2 := hb2.size; have hg6 := cell_lt y2; have z2 := cell_keep hb2 y2) | (at_builtin; refine wpList_append_own _ rfl _ _ 29 rfl w.heap.size 3 i0 (.int .i64 0) 1 8 Tryz.underlying29 HI.out.1 HI.out.2.1 HI.out.2.2.1 HI.out.2.2.2 rfl (by decide) _ _ _ rfl ((ownsRow_keep hown hbk2).alloc _) ⟨w2.heap.size, 0, none⟩ 1 1 [.int .i64 k] rfl rfl (cell_one_new _ _ _) (by simp [Value.oneCell']) (by unfold maxLen; omega) (by omega) (by simp; omega) ?_; intro v' w3 hown' hgrow _; obtain ⟨g', cap', rfl⟩ := ownsRow_succ hown'; have z3 : w3.cell? ⟨wr.heap.size, 2, none⟩ = some (.slice T 0 ct) := (World.cell?_of_block (hgrow.block wr.heap.size (by simp; omega) (fun e => by have := (hown.lt _ e.symm).2; omega))).trans (cell_keep ((Below.refl w2.heap.size w2).alloc (Nat.le_refl _) _) z2); have hb3 : Below w.heap.size w w3 := ((bstep hbr hbk2).alloc (by have := hbr.size; omega) _).grown hgrow (by simp; omega) (fun r e => ownsRow_block hown r e)))
          go_ret
          refine ⟨some ⟨g', 0, none⟩, cap', ?_, ?_, hb3⟩
          · rw [HVA.out, List.length_append, List.length_singleton, ← HML.out]
            rfl
          · rw [HVA.out, i64s_app, List.length_append, List.length_singleton, ← HML.out]
            exact Reads.of_own hown'
        · have hVA : V = (acc ++ [k]) ++ possX a (L.drop (k + 1)) (k + 1) := by simpa [htl] using hVA
          have HVA := Lib.hid hVA
          have htl0 : ((tl : Nat) : Int) ≠ 0 := by omega
          have htb : decide (((tl : Nat) : Int) = 0) = false := by simpa using htl
          clear hVA hmb
          go_wp2_with (first | (refine wpList_load_addr rfl _ _ rfl ⟨b, o + k * 18, none⟩ (.agg X) rfl HLD.out ?_) | (refine wpList_store_row rfl _ _ _ rfl wr.heap.size X rfl rfl _ #[.string ⟨#[]⟩, .string ⟨#[]⟩, .slice none 0 0, .int .i64 0, .int .i64 0, .int .i64 0, .int .i64 0, .slice none 0 0, .int .i64 0, .int .i64 0, .string ⟨#[]⟩, .slice none 0 0, .slice none 0 0, .slice none 0 0, .int .i64 0, .bool false, .int .i64 0, .string ⟨#[]⟩] ((heap_alloc_new wr _).trans rfl) HI18.out HSZ.out.symm HON.out ?_; generalize hw6 : World.setRow _ _ _ = w6; have y1 : w6.cell? ⟨wr.heap.size, 1, none⟩ = some (.string pt) := (by rw [← hw6]; exact (cell_of_row _ _ 1 _ _ _ (setRow_heap _ _ _ _ _ _ (heap_alloc_new wr _))).trans HC1.out); have hb6 : Below wr.heap.size wr w6 := (by rw [← hw6]; exact below_setRow ((Below.refl _ _).alloc (Nat.le_refl _) _) (Nat.le_refl _) _); have y2 : w6.cell? ⟨wr.heap.size, 2, none⟩ = some (.slice T tl ct) := (by rw [← hw6]; exact (cell_of_row _ _ 2 _ _ _ (setRow_heap _ _ _ _ _ _ (heap_alloc_new wr _))).trans HC2.out); clear hw6) | (go_at_call 65; refine (HMX.out _ (bstep hbr hb6)).mono ?_; rintro e w2 ⟨rfl, hb2⟩; have hbk2 := hb6.trans (hb2.mono hb6.size); have hs2 := hbk2.size; have hg2 := hb2.size; have hg6 := cell_lt y2; have z2 := cell_keep hb2 y2) | (at_builtin; refine wpList_append_own _ rfl _ _ 29 rfl w.heap.size 3 i0 (.int .i64 0) 1 8 Tryz.underlying29 HI.out.1 HI.out.2.1 HI.out.2.2.1 HI.out.2.2.2 rfl (by decide) _ _ _ rfl ((ownsRow_keep hown hbk2).alloc _) ⟨w2.heap.size, 0, none⟩ 1 1 [.int .i64 k] rfl rfl (cell_one_new _ _ _) (by simp [Value.oneCell']) (by unfold maxLen; omega) (by omega) (by simp; omega) ?_; intro v' w3 hown' hgrow _; obtain ⟨g', cap', rfl⟩ := ownsRow_succ hown'; have z3 : w3.cell? ⟨wr.heap.size, 2, none⟩ = some (.slice T tl ct) := (World.cell?_of_block (hgrow.block wr.heap.size (by simp; omega) (fun e => by have := (hown.lt _ e.symm).2; omega))).trans (cell_keep ((Below.refl w2.heap.size w2).alloc (Nat.le_refl _) _) z2); have hb3 : Below w.heap.size w w3 := ((bstep hbr hbk2).alloc (by have := hbr.size; omega) _).grown hgrow (by simp; omega) (fun r e => ownsRow_block hown r e)))
          refine ⟨⟨k + 1, acc ++ [k], some ⟨g', 0, none⟩, cap', by omega, by go_num, by rw [List.length_append, List.length_singleton, ← HML.out], by rw [List.length_append, List.length_singleton, ← HML.out]; omega, HVA, ?_, hb3⟩, by simp [intOf]; omega⟩
          rw [List.length_append, List.length_singleton, ← HML.out, i64s_app]
          exact hown'
    · obtain rfl : k = n := by omega
      have hVA : V = acc := by rw [HVA.out, List.drop_eq_nil_of_le (by have := HLN.out; omega)]; simp [possX]
      subst hVA
      go_wp2
      go_ret
      exact ⟨B, d, rfl, Reads.of_own hown, hbr⟩
end Go.Proofs.YtdlbfjoemabfpaaGreatDoor
namespace Go.Proofs.YtdlbfjoemabfpaaGreatDoor
open Go.RowKit Go.Sort
set_option linter.unusedVariables false
set_option linter.unusedSimpArgs false
set_option maxRecDepth 100000
def sepT (d : UInt8) (xs : List ByteArray) : ByteArray := ⟨(Lib.join (xs.map (·.data.toList)) [d]).toArray⟩
theorem sep_any (d : UInt8) (A : Option Addr) (n c : Nat) (ws : List ByteArray) (W : World) (base : Nat) (hown : W.ownsRow base 9 1 (.slice A n c) n (ws.map .string)) (hlen : (Lib.join (ws.map (·.data.toList)) [d]).length ≤ 140737488355328) (hn : n ≤ 1000000) :
    Calls Tryz.prog 59 #[.slice A n c, .string ⟨#[d]⟩] W (Ret W (.string (sepT d ws))) := by
  have hl : ws.length = n := by have := hown.1; simpa using this
  rcases hown.2 with ⟨h, h0⟩ | ⟨g', cap, cur, he, hb, hh, h1, h2, h3, h4⟩
  · injection h with e1 e2 e3
    subst e1
    subst h0
    obtain rfl : ws = [] := List.eq_nil_of_length_eq_zero hl
    refine (Tryz.strings_Join_none none c ⟨#[d]⟩ W).mono fun e w' ⟨h5, h6⟩ => ⟨?_, by rw [h6]; exact Below.refl _ _⟩
    rw [h5]
    rfl
  · injection he with e1 e2 e3
    subst e1; subst e3
    have hcells := World.ownsRow.cells hown (g := g') rfl
    have := Tryz.strings_Join g' 0 c ws ⟨#[d]⟩ W (by
      intro j x hx
      have h9 := hcells j (.string x) (by simp [hx])
      unfold Addr.add at h9
      split at h9 <;> simp_all) ((hown.lt g' rfl).2) (by omega) (by omega) hlen
    rw [hl] at this
    exact this
def numT (xs : List Int) : ByteArray := sepT 32 (xs.map itoaB)
set_option maxHeartbeats 4000000 in
theorem numbers_any (A : Option Addr) (n c : Nat) (xs : List Int) (w : World) (hx64 : ∀ x ∈ xs, -9223372036854775808 ≤ x ∧ x ≤ 9223372036854775807) (hT : Tab w) (hA : Reads w 1 A n (xs.map (.int .i64))) (hn : n ≤ 1000000) (hlen : (Lib.join ((xs.map itoaB).map (·.data.toList)) [32]).length ≤ 140737488355328) :
    Calls Tryz.prog 60 #[.slice A n c] w (Ret w (.string (numT xs))) := by
  have hl : xs.length = n := by have := hA.1; simp at this; omega
  obtain ⟨i0, hi0, hz0, hz1, hz2⟩ := info_parts infoStr
  have HI : Hid ((Tryz.prog.info? 9 = some i0) ∧ i0.zero = some (.string ⟨#[]⟩) ∧ i0.size = 1 ∧ i0.bytes = 16) := Lib.hid ⟨hi0, hz0, hz1, hz2⟩
  have cF : ∀ x ∈ xs, ∀ W, Below w.heap.size w W → Calls Tryz.prog 57 #[.int .i64 x] W (Ret W (.string (itoaB x))) := fun x hx W hb => itoa_any x W (hx64 x hx).1 (hx64 x hx).2 (hT.keep hb)
  have HF := Lib.hid cF; have HA := Lib.hid hA; have HL := Lib.hid hl; have HLEN := Lib.hid hlen
  unfold numT
  obtain ⟨V, hV⟩ : ∃ V, V = sepT 32 (xs.map itoaB) := ⟨_, rfl⟩
  rw [← hV]
  have HV := Lib.hid hV
  clear cF hA hl hi0 hz0 hz1 hz2 hlen hV hx64 hT
  go_enter Tryz.func60, Tryz.ntmps60
  go_wp2_with fail
  go_loopw [3, 8] (fun va vi wr => ∃ (k : Nat) (A' : Option Addr) (c' : Nat), (va = .slice A' k c' ∧ vi = .int .i64 k ∧ k ≤ n) ∧ wr.ownsRow w.heap.size 9 1 (.slice A' k c') k (((xs.map itoaB).take k).map .string) ∧ Below w.heap.size w wr) (fun _ vi _ => n - (intOf vi).toNat)
  case atStart => exact ⟨0, none, 0, ⟨rfl, rfl, Nat.zero_le _⟩, World.ownsRow_nil _ _ _ _, Below.refl _ _⟩
  case round =>
    obtain ⟨k, A', c', ⟨rfl, rfl, hk⟩, hown, hbr⟩ := hrel
    by_cases hlt : k < n
    · obtain ⟨x, hx⟩ : ∃ x, xs[k]? = some x := ⟨_, List.getElem?_eq_getElem (by have := HL.out; omega)⟩
      obtain ⟨pb, po, rfl, hcell⟩ := (HA.out.keep hbr).2 (by omega)
      have hc1 : wr.cell? ⟨pb, po + k, none⟩ = some (.int .i64 x) := hcell k _ (by simp [hx])
      have hk0 : (0 : Int) ≤ (k : Int) := by omega
      have hk1 : (k : Int) < (n : Int) := by omega
      have htk : (xs.map itoaB).take (k + 1) = (xs.map itoaB).take k ++ [itoaB x] := by rw [List.take_add_one, List.getElem?_map, hx]; rfl
      have HTK := Lib.hid htk
      have HX := Lib.hid hx
      clear hcell hx htk
      go_wp2_with (first | (go_at_call 57; refine (HF.out x (List.mem_of_getElem? HX.out) _ belB).mono ?_; rintro e w2 ⟨rfl, hb2⟩) | (at_builtin; refine wpList_append_own _ rfl _ _ 27 rfl w.heap.size 9 i0 (.string ⟨#[]⟩) 1 16 Tryz.underlying27 HI.out.1 HI.out.2.1 HI.out.2.2.1 HI.out.2.2.2 rfl (by decide) _ _ _ rfl ((ownsRow_keep hown hb2).alloc _) ⟨w2.heap.size, 0, none⟩ 1 1 [.string (itoaB x)] rfl rfl (cell_one_new _ _ _) (by simp [Value.oneCell']) (by unfold maxLen; omega) (by omega) (by have := hb2.size; have := hbr.size; simp at *; omega) ?_; intro v' w3 hown' hgrow _; obtain ⟨g', cap', rfl⟩ := ownsRow_succ hown'))
      refine ⟨⟨k + 1, some ⟨g', 0, none⟩, cap', ⟨rfl, by go_num, by omega⟩, ?_, ?_⟩, by simp [intOf]; omega⟩
      · rw [HTK.out, List.map_append]; exact hown'
      · have h1 := hbr.size
        have h2 := hb2.size
        exact ((hbr.trans (hb2.mono h1)).alloc (by omega) _).grown hgrow (by simp; omega) (fun r e => ownsRow_block hown r e)
    · obtain rfl : k = n := by omega
      have ht : (xs.map itoaB).take k = xs.map itoaB := List.take_of_length_le (by simp; have := HL.out; omega)
      rw [ht] at hown
      have cJ := sep_any 32 A' k c' (xs.map itoaB) wr w.heap.size hown HLEN.out hn
      rw [← HV.out] at cJ
      have HJ := Lib.hid cJ
      clear cJ HV ht hown
      go_wp2_with (go_at_call 59; refine HJ.out.mono ?_; rintro e w2 ⟨rfl, hb2⟩)
      go_ret
      exact ⟨rfl, belB⟩
end Go.Proofs.YtdlbfjoemabfpaaGreatDoor
