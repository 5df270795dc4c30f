/- slices.Sorted(slices.Values(l)) at []string: a new slice, sorted. -/
import Derived.Test.YtdlbfjoemabfpaaGreatDoorEZ3
import Derived.Shelf.SlIter.Sorted
import Derived.Test.YtdlbfjoemabfpaaGreatDoorProg
import Derived.WalkKit
import Derived.WalkSpells
import Derived.WalkLawsBesides
import Derived.Below
import Derived.Deep.QuietTactic
import Derived.BigQuiet
import Derived.Lib.QuietBelow
import Derived.Lib.Strings
import Derived.Lib.Hide
import Derived.Deep.RegionWith
import Derived.Deep.RegionHeld3
import Derived.Lib.IndexBytes
import Derived.Test.YtdlbfjoemabfpaaGreatDoorEZ0
import Derived.Test.YtdlbfjoemabfpaaGreatDoorEZ1
import Derived.Lib.AppendStr
import Derived.Laws.IdiomStrings
import Derived.LoopTactic
import Derived.Test.YtdlbfjoemabfpaaGreatDoorEZ2
namespace Go.Proofs.YtdlbfjoemabfpaaGreatDoor
open Go.RowKit Go.Sort
set_option linter.unusedVariables false
set_option linter.unusedSimpArgs false
set_option maxRecDepth 100000
attribute [local go_sem] Oper.semAt_some
theorem values_any (A : Option Addr) (n c : Nat) (w : World) : Calls Tryz.prog 77 #[.slice A n c] w fun e w' =>
    e = .returned (.func (.func 125) #[] #[.pointer (some ⟨w.heap.size, 0, none⟩)]) ∧ w' = w.alloc (.cells #[.slice A n c] 27) := by
  go_enter Tryz.func77, Tryz.ntmps77
  go_wp2
  go_ret
  exact ⟨rfl, rfl⟩
theorem Reads.keepsIn {w w' : World} {size n hI0 : Nat} {A : Option Addr} {vs : List Value} (h : Reads w size A n vs) (hk : KeepsIn 0 hI0 w w') (hA : ∀ a, A = some a → 0 < n → a.block < hI0) : Reads w' size A n vs := by
  refine ⟨h.1, fun h0 => ?_⟩
  obtain ⟨b, o, rfl, hc⟩ := h.2 h0
  exact ⟨b, o, rfl, fun j u hu => (World.cell?_of_block (hk b (Nat.zero_le _) (hA _ rfl h0))).trans (hc j u hu)⟩
set_option maxHeartbeats 2000000 in
theorem values_iter (B n c : Nat) (A : Option Addr) (ps : List ByteArray) (w : World) (hB : w.cell? ⟨B, 0, none⟩ = some (.slice A n c)) (hR : Reads w 1 A n (ps.map .string)) (hn : n ≤ 1000000000) :
    Iter Tryz.prog 125 #[.pointer (some ⟨B, 0, none⟩)] (ps.map .string) (fun _ _ => False) 0 w.heap.size w := by
  intro l J Jx W hW _ hJT hY hJ0
  have hBl := cell_lt hB
  have hlen : ps.length = n := by have := hR.1; simpa using this
  have g0 := cell_keep hW hB
  have hR0 := hR.keep hW
  have hA : ∀ a, A = some a → 0 < n → a.block < w.heap.size := by
    intro a ha h0
    obtain ⟨b, o, rfl, hc⟩ := hR.2 h0
    injection ha with ha; subst ha
    have h1 : 0 < (ps.map Value.string).length := by simp; omega
    have := hc 0 _ (List.getElem?_eq_getElem h1)
    exact cell_lt (a := ⟨b, o + 0, none⟩) this
  have HY := Lib.hid hY
  have HA := Lib.hid hA
  have HL := Lib.hid hlen
  have HBL : Hid (B < w.heap.size) := Lib.hid hBl
  clear hY hA hlen hBl hR hB hJT
  refine callsIn_of_wp Tryz.func125 rfl trivial ?_ rfl
  simp only [Tryz.ntmps125, List.size_toArray, List.length_cons, List.length_nil, Nat.reduceAdd, Nat.reduceSub, Array.replicate_succ, Array.replicate_zero, List.push_toArray, List.append_toArray, List.nil_append, List.cons_append]
  gi_wp2
  gi_loopw [7] (fun vi wr => ∃ k : Nat, (vi = .int .i64 k ∧ k ≤ n) ∧ wr.cell? ⟨B, 0, none⟩ = some (.slice A n c) ∧ Reads wr 1 A n (ps.map .string) ∧ J k wr) (fun vi _ => n - (intOf vi).toNat)
  case atStart => exact ⟨0, ⟨rfl, Nat.zero_le _⟩, g0, hR0, hJ0⟩
  case round =>
    clear g0 hR0 hJ0
    obtain ⟨k, ⟨rfl, hk⟩, g0, hR, hJ⟩ := hrel
    by_cases hlt : k < n
    · obtain ⟨pb, po, u, rfl, hu, hcell⟩ := hR.at_ hlt
      obtain ⟨x, hx, rfl⟩ := strs_at hu
      obtain ⟨fn, tmps, assign, body, hy, hRd⟩ := HY.out k _ wr hu hJ
      clear hu hx
      gi_wp2
      refine ⟨rfl, hRd.mono ?_⟩
      rintro e W' (⟨rfl, hJ', hk'⟩ | ⟨rfl, hJx'⟩)
      · have g0' : W'.cell? ⟨B, 0, none⟩ = some (.slice (some ⟨pb, po, none⟩) n c) := (World.cell?_of_block (hk' B (Nat.zero_le _) HBL.out)).trans g0
        have hR' := hR.keepsIn hk' HA.out
        clear g0 hR
        gi_wp2
        exact ⟨⟨k + 1, ⟨by go_num, by omega⟩, g0', hR', hJ'⟩, by simp [intOf]; omega⟩
      · gi_wp2
        refine bodyPost_ret (results_none rfl _ _ _) rfl ?_
        exact ⟨⟨_, rfl⟩, .inr hJx'⟩
    · obtain rfl : k = n := by omega
      gi_wp2
      go_end0
      exact ⟨⟨_, rfl⟩, .inl (by rw [List.length_map, HL.out]; exact hJ)⟩
def AppI (ps : List ByteArray) (w : World) (k : Nat) (W : World) : Prop :=
  (∃ v, Boxed W w.heap.size 27 v ∧ W.ownsRow w.heap.size 9 1 v (ps.take k).length ((ps.take k).map .string) ∧ True) ∧ Below w.heap.size w W ∧ w.heap.size + 1 ≤ W.heap.size
theorem appI_own (ps : List ByteArray) (w : World) (B : Nat) (hB : w.heap.size ≤ B) : OwnFrom B (AppI ps w) := by
  rintro k W W' row ⟨h2, h5, h6⟩ hg hr
  have hr' := fun r e => (hr r e).2
  exact ⟨holdsRow_own w.heap.size w.heap.size 27 9 1 (fun o : List ByteArray => o.length) (fun o => o.map .string) (fun _ _ => True) (ps.take k) W W' row h2 hg hr', h5.grown hg (by omega) (fun r e => by have := (hr r e).1; omega), Nat.le_trans h6 hg.size⟩
set_option maxHeartbeats 4000000 in
theorem appendSeq_any (gf : Nat) (lb : Array Value) (eg : ∀ args w, (callFunc gf args).run Tryz.prog w = .ok (.enter gf args) w) (ps : List ByteArray) (w : World)
    (lo hi : Nat) (hhi : hi ≤ w.heap.size) (hseq : Iter Tryz.prog gf lb (ps.map .string) (fun _ _ => False) lo hi w) (hlen : ps.length ≤ 1000000000) :
    Calls Tryz.prog 165 #[.slice none 0 0, .func (.func gf) #[] lb] w fun e w' => ∃ v, e = .returned v ∧ w'.ownsRow w.heap.size 9 1 v ps.length (ps.map .string) ∧ Below w.heap.size w w' := by
  obtain ⟨i0, hi0, hz0, hz1, hz2⟩ := info_parts infoStr
  refine (callsIn_wide (n := 0)).1 ?_
  refine callsIn_of_wp_marks Tryz.func165 rfl trivial ?_ rfl
  simp only [Tryz.ntmps165, List.size_toArray, List.length_cons, List.length_nil, Nat.reduceAdd, Nat.reduceSub, Array.replicate_succ, Array.replicate_zero, List.push_toArray, List.append_toArray, List.nil_append, List.cons_append]
  gi_wp2
  have hbw0 : Below w.heap.size w (w.alloc (.cells #[.slice none 0 0] 27)) := balloc (Below.refl _ _) _
  have b3 := Boxed.new w 27 (.slice none 0 0)
  refine range_law (gf := gf) (lb := lb) rfl eg hseq hbw0 (by simp; omega) (AppI ps w) (fun _ _ => False) (appI_own ps w _ (by simp)) (fun c => fun _ _ _ _ h => h.elim) ⟨⟨_, b3, World.ownsRow_nil _ _ _ _, trivial⟩, hbw0, by simp⟩
    (fun _ _ _ _ h => h.elim) (fun _ _ h => h.elim)
    (fun x => { tmps := #[.slice none 0 0, .func (.func gf) #[] lb, .pointer (some ⟨w.heap.size, 0, none⟩), undef, .slice none 0 0, x, .func (.func gf) #[] lb, x, undef, undef, undef, undef, undef], defers := [] }) ?assign ?body ?done ?stop
  case assign =>
    intro l x W K _ hK
    gi_wp2
    exact hK
  case body =>
    rintro l k x W hx ⟨⟨v, hv, hrow, _⟩, hbw, hsz6⟩
    obtain ⟨p, hp, rfl⟩ := strs_at hx
    have hkl : k < ps.length := (List.getElem?_eq_some_iff.1 hp).1
    have htk : ps.take (k + 1) = ps.take k ++ [p] := by rw [List.take_add_one, hp]; rfl
    have hlk : (ps.take k).length = k := by rw [List.length_take]; omega
    rw [hlk] at hrow
    have HT := Lib.hid htk
    have HK := Lib.hid hlk
    clear hx hp htk hlk b3 hbw0
    obtain ⟨A, c, rfl⟩ : ∃ A c, v = .slice A k c := by
      rcases hrow.2 with ⟨hv, h0⟩ | ⟨g, cap, cur, hv, _⟩
      · exact ⟨none, 0, by rw [hv, h0]⟩
      · exact ⟨_, _, hv⟩
    have c4 := hv.cell
    have f4 := hv.frozen
    gi_wp2_with (gi_at_builtin; refine wpListIn_append_own _ rfl _ _ 27 rfl w.heap.size 9 i0 (.string ⟨#[]⟩) 1 16 Tryz.underlying27 hi0 hz0 hz1 hz2 rfl (by decide) _ _ _ rfl (hrow.alloc _) ⟨W.heap.size, 0, none⟩ 1 1 [.string p] rfl rfl (cell_one_new _ _ _) (by simp [Value.oneCell']) (by unfold maxLen; omega) (by omega) (by simp; omega) ?_; intro v' w3 hown' hgrow _; obtain ⟨g', cap', rfl⟩ := ownsRow_succ hown'; obtain ⟨hv1, hvs, hrs, hk2, hbs⟩ := hv.appended (by decide) hrow (by omega) (Nat.le_refl _) hown' hgrow; have c5 := hv1.cell; have f5 := hv1.frozen)
    refine ⟨hk2.from _, Below.keepsIn hbs (by omega), ⟨_, hvs, ?_, trivial⟩, hbw.trans hbs, by have := hbs.size; omega⟩
    rw [HT.out, List.length_append, HK.out, List.map_append]
    exact hrs
  case done =>
    rintro D W hD ⟨⟨v, hv, hrow, _⟩, hbw, hsz6⟩ hK
    rw [List.length_map, List.take_length] at hrow
    have c4 := hv.cell
    gi_wp2
    refine ⟨by simp, .inl ⟨_, _, rfl, run_takeDeferred hK, ?_⟩⟩
    have hD' : w.heap.size + 1 ≤ D := by simpa using hD
    refine ⟨v, by simp [results, Tryz.results165, go_sem], ?_⟩
    exact ⟨v, rfl, ownsRow_putObj hrow _ hK rfl, hbw.grown (grownBy_putObj' W D _) (by have := hbw.size; omega) (fun r e => by cases e; omega)⟩
  case stop =>
    rintro D c W hD hf _
    exact hf.elim
end Go.Proofs.YtdlbfjoemabfpaaGreatDoor
namespace Go.Proofs.YtdlbfjoemabfpaaGreatDoor
open Go.RowKit Go.Sort
set_option linter.unusedVariables false
set_option linter.unusedSimpArgs false
set_option maxRecDepth 100000
theorem sizeBuilder : (Tryz.prog.info? 122).map (·.size) = some 2 := by kernel_rfl
theorem liesBuilder : liesAt Tryz.prog Tryz.prog.depth 122 (2 / Tryz.prog.cellsOf 122) 0 122 1 = true := by kernel_rfl
theorem infoByte : (Tryz.prog.info? 5).map (fun i => (i.zero, i.size, i.bytes)) = some (some (.int .u8 0), 1, 1) := by kernel_rfl
set_option maxHeartbeats 1000000 in
theorem copyCheck_used (b : Nat) (w : World) (h0 : w.cell? ⟨b, 0, none⟩ = some (.pointer (some ⟨b, 0, none⟩))) :
    Calls Tryz.prog 142 #[.pointer (some ⟨b, 0, none⟩)] w fun e w' => e = .returned (.tuple #[]) ∧ w' = w := by
  obtain ⟨j, hj, _⟩ := Option.map_eq_some_iff.1 sizeBuilder
  go_enter Tryz.func142, Tryz.ntmps142
  go_wp2
  rw [Lib.run_neq_ptr_same w _ Tryz.underlying119 hj]
  go_wp2
  go_end0
  exact ⟨rfl, rfl⟩
set_option maxHeartbeats 1000000 in
theorem copyCheck_fresh (b : Nat) (w : World) (h0 : w.cell? ⟨b, 0, none⟩ = some (.pointer none)) (hsh : w.shape? b = some (122, 2)) (hfz : w.frozen? ⟨b, 0, none⟩ = false) :
    Calls Tryz.prog 142 #[.pointer (some ⟨b, 0, none⟩)] w fun e w' => e = .returned (.tuple #[]) ∧ w' = w.setCell ⟨b, 0, none⟩ (.pointer (some ⟨b, 0, none⟩)) := by
  obtain ⟨j, hj, hjs⟩ := Option.map_eq_some_iff.1 sizeBuilder
  go_enter Tryz.func142, Tryz.ntmps142
  go_wp2
  rw [Lib.run_to_unsafe w ⟨b, 0, none⟩ Tryz.underlying119 Tryz.underlying202 hj (by rw [hjs]; decide) hsh (Nat.zero_lt_succ 1)]
  simp only [Result.andThen]
  rw [Oper.upon_value]
  go_wp2
  rw [run_callFunc_extern Tryz.func182 (by kernel_rfl) (by kernel_rfl) (by kernel_rfl) (e := Extern.AbiNoEscape.same) (by kernel_rfl)]
  rw [Lib.run_noEscape]
  simp only [Result.andThen]
  rw [Oper.upon_value]
  go_wp2
  rw [Lib.run_from_unsafe w ⟨b, 0, none⟩ Tryz.underlying202 Tryz.underlying119 hj hsh liesBuilder]
  simp only [Result.andThen]
  rw [Oper.upon_value]
  go_wp2
  go_end0
  exact ⟨rfl, rfl⟩
theorem copyCheck_any (B b : Nat) (bs : List Value) (w : World) (h : Lib.IsBuilder 122 5 B b bs w) :
    Calls Tryz.prog 142 #[.pointer (some ⟨b, 0, none⟩)] w fun e w' => e = .returned (.tuple #[]) ∧ (Lib.BuilderAt 122 5 B b (.pointer (some ⟨b, 0, none⟩)) bs w' ∧ Below B w w') := by
  rcases h with h | h
  · refine (copyCheck_fresh b w h.cell0 h.shape h.frozen0).mono ?_
    rintro e w' ⟨rfl, rfl⟩
    exact ⟨rfl, h.used _, (Below.refl B w).setCell (p := ⟨b, 0, none⟩) h.1 _⟩
  · refine (copyCheck_used b w h.cell0).mono ?_
    rintro e w' ⟨rfl, rfl⟩
    exact ⟨rfl, h, Below.refl B _⟩
set_option maxHeartbeats 2000000 in
theorem writeString_any (B b : Nat) (bs : List Value) (s : ByteArray) (w : World) (h : Lib.IsBuilder 122 5 B b bs w) (hlen : bs.length + s.size ≤ 140737488355328) (hBw : B ≤ w.heap.size) :
    Calls Tryz.prog 102 #[.pointer (some ⟨b, 0, none⟩), .string s] w fun e w' => e = .returned (.tuple #[.int .i64 s.size, .nilIface]) ∧ (Lib.BuilderAt 122 5 B b (.pointer (some ⟨b, 0, none⟩)) (bs ++ Lib.strCells s) w' ∧ Below B w w') := by
  obtain ⟨i0, hi, hz0, hz1, hz2⟩ := info_parts infoByte
  go_enter Tryz.func102, Tryz.ntmps102
  go_wp2_with (go_at_call 142; refine (copyCheck_any B b bs _ h).mono ?_)
  rintro e w1 ⟨rfl, h1, hb1⟩
  obtain ⟨hB, v, hbk, hown, hne⟩ := h1
  have c0 : w1.cell? ⟨b, 0, none⟩ = some (.pointer (some ⟨b, 0, none⟩)) := by rw [Lib.cell_of_heap hbk]; rfl
  have c1 : w1.cell? ⟨b, 1, none⟩ = some v := by rw [Lib.cell_of_heap hbk]; rfl
  go_wp2_with (at_builtin; refine Lib.wpList_append_own_string _ rfl _ _ 120 9 rfl B 5 i0 Tryz.underlying120 Tryz.underlying9 hi hz0 hz1 hz2 _ _ _ rfl hown s rfl ?c3 ?c4 ?c5 ?_)
  case c3 => unfold maxLen; omega
  case c4 => omega
  case c5 => have := hb1.size; omega
  intro v' w2 hown' hgrow _
  have hlt : b < w1.heap.size := by
    rcases Nat.lt_or_ge b w1.heap.size with h' | h'
    · exact h'
    · simp [Array.getElem?_eq_none h'] at hbk
  have hb2 : w2.heap[b]? = some (.cells #[.pointer (some ⟨b, 0, none⟩), v] 122 (0, 0)) := by
    rw [hgrow.block b hlt (fun e => hne e.symm)]
    exact hbk
  have d0 : w2.cell? ⟨b, 0, none⟩ = some (.pointer (some ⟨b, 0, none⟩)) := by rw [Lib.cell_of_heap hb2]; rfl
  have d1 : w2.cell? ⟨b, 1, none⟩ = some v := by rw [Lib.cell_of_heap hb2]; rfl
  have f1 : w2.frozen? ⟨b, 1, none⟩ = false := Lib.frozen_of_heap hb2 1
  obtain ⟨ao, n', cap, rfl⟩ : ∃ ao n' cap, v' = .slice ao n' cap := by
    rcases hown'.2 with ⟨hv, _⟩ | ⟨g, cap, cur, hv, _⟩
    · exact ⟨_, _, _, hv⟩
    · exact ⟨_, _, _, hv⟩
  go_wp2
  go_ret2
  refine ⟨rfl, ?_, ?_⟩
  · exact Lib.BuilderAt.put (T := 122) (e := 5) hB hb2 (bs' := bs ++ Lib.strCells s) (by simpa [Lib.strCells_length] using hown') (by decide)
  · exact (hb1.grown hgrow (by have := hb1.size; omega) (fun k hk => (hown.lt k hk).1)).setCell (p := ⟨b, 1, none⟩) hB _
end Go.Proofs.YtdlbfjoemabfpaaGreatDoor
namespace Go.Proofs.YtdlbfjoemabfpaaGreatDoor
open Go.RowKit Go.Sort
set_option linter.unusedVariables false
set_option linter.unusedSimpArgs false
set_option maxRecDepth 100000
def lowN (n : Nat) : Nat := if 65 ≤ n ∧ n ≤ 90 then n + 32 else n
def lowL (l : List UInt8) : List UInt8 := l.map fun b => UInt8.ofNat (lowN b.toNat)
theorem lowN_lt (b : UInt8) : lowN b.toNat < 256 := by have := b.toNat_lt; unfold lowN; split <;> omega
def Blk (w : World) (g : Nat) (t : TypeId) (cs : Array Value) (fr : Nat × Nat) : Prop := w.heap[g]? = some (.cells cs t fr)
section
variable {w w' : World} {g : Nat} {t : TypeId} {cs : Array Value} {fr : Nat × Nat}
theorem Blk.lt (h : Blk w g t cs fr) : g < w.heap.size := by
  rcases Nat.lt_or_ge g w.heap.size with hlt | hge
  · exact hlt
  · unfold Blk at h; rw [Array.getElem?_eq_none hge] at h; cases h
theorem Blk.cell (h : Blk w g t cs fr) (i : Nat) : w.cell? ⟨g, i, none⟩ = cs[i]? := cell_of_row w g i cs t fr h
theorem Blk.free (h : Blk w g t cs fr) (i : Nat) (hi : i < fr.1) : w.frozen? ⟨g, i, none⟩ = false := by
  unfold Blk at h
  simp [World.frozen?, h]
  omega
theorem Blk.keep (h : Blk w g t cs fr) (hb : Below w.heap.size w w') : Blk w' g t cs fr := (hb.block g h.lt).trans h
theorem Blk.set_ (h : Blk w g t cs fr) (i : Nat) (u : Value) : Blk (w.setCell ⟨g, i, none⟩ u) g t (cs.setIfInBounds i u) fr := by
  unfold Blk at h ⊢
  simp [World.setCell, Array.getElem?_modify, h]
end
theorem run_back {P : Program} (w : World) (src dst e : TypeId) (a : Addr) (n cap : Nat) (l : List UInt8) (hn : l.length = n) (hs : P.underlying src = some (.slice e)) (he : P.underlying e = some (.int .u8)) (hd : P.underlying dst = some .string)
    (hc : ∀ j (hj : j < l.length), w.cell? (a.add j) = some (.int .u8 (l[j].toNat : Int))) :
    (convert src dst (.slice (some a) n cap)).run P w = .ok (.string ⟨l.toArray⟩) w := by subst hn; exact run_convert_bytes_back w src dst e a cap l hs he hd hc
def lowAt (s : ByteArray) (k j : Nat) : Int := if j < k then (lowN (s.data.toList[j]?.getD 0).toNat : Nat) else ((s.data.toList[j]?.getD 0).toNat : Nat)
theorem lowAt_step (s : ByteArray) (k j : Nat) : lowAt s (k + 1) j = if j = k then (if 65 ≤ lowAt s k k ∧ lowAt s k k ≤ 90 then lowAt s k k + 97 - 65 else lowAt s k k) else lowAt s k j := by
  unfold lowAt
  by_cases h : j = k
  · subst h
    simp only [Nat.lt_irrefl, if_false, if_true, Nat.lt_add_one, lowN]
    split <;> split <;> omega
  · simp only [h, if_false]
    split <;> split <;> first | rfl | omega
theorem lowAt_bd (s : ByteArray) (k j : Nat) : 0 ≤ lowAt s k j ∧ lowAt s k j < 256 := by
  unfold lowAt
  have h1 := (s.data.toList[j]?.getD 0).toNat_lt
  have h2 := lowN_lt (s.data.toList[j]?.getD 0)
  split <;> omega
theorem lowAt_end (s : ByteArray) (j : Nat) (hj : j < (lowL s.data.toList).length) : lowAt s s.size j = ((lowL s.data.toList)[j].toNat : Nat) := by
  have hl : j < s.data.toList.length := by simpa [lowL] using hj
  have : j < s.size := by rw [Lib.size_eq]; exact hl
  unfold lowAt
  rw [if_pos this]
  have h2 := lowN_lt s.data.toList[j]
  simp only [lowL, List.getElem_map, List.getElem?_eq_getElem hl, Option.getD_some, UInt8.toNat_ofNat']
  omega
set_option maxHeartbeats 1000000 in
theorem lower_any (s : ByteArray) (w : World) (hs : s.size ≤ 4294967281) : Calls Tryz.prog 190 #[.string s] w (Ret w (.string ⟨(lowL s.data.toList).toArray⟩)) := by
  have hcv := fun W => run_bytes_of_string (P := Tryz.prog) W 9 120 5 s Tryz.underlying9 Tryz.underlying120 Tryz.underlying5
  go_enter Tryz.func190, Tryz.ntmps190
  go_wp2
  clear hcv
  obtain ⟨R, hR⟩ : ∃ R, bytesRow s (grownCap w s.size 0 5) = R := ⟨_, rfl⟩
  obtain ⟨C, hC⟩ : ∃ C, grownCap w s.size 0 5 = C := ⟨_, rfl⟩
  have hrow : ∀ j, j < s.size → R[j]? = some (.int .u8 (lowAt s 0 j)) := by
    intro j hj
    rw [← hR, bytesRow_at _ _ _ hj]
    simp only [lowAt, Nat.not_lt_zero, if_false]
    have hl : j < s.data.toList.length := by rw [← Lib.size_eq]; exact hj
    rw [List.getElem?_eq_getElem hl]
    rfl
  have hRs : s.size ≤ R.size := by rw [← hR]; simp only [bytesRow, Array.size_append, Array.size_map]; exact Nat.le_add_right _ _
  rw [hR, hC]
  clear hR hC
  go_loopw [10] (fun i wr => ∃ (k : Nat) (R' : Array Value), k ≤ s.size ∧ i = .int .i64 k ∧ Blk wr w.heap.size 5 R' (R.size, R.size + 1) ∧ (∀ j, j < s.size → R'[j]? = some (.int .u8 (lowAt s k j))) ∧ Below w.heap.size w wr) (fun i _ => s.size - (intOf i).toNat)
  case atStart => exact ⟨0, R, by omega, rfl, heap_alloc_new w _, hrow, belB⟩
  case round =>
    obtain ⟨k, R', hk, rfl, hB, hr, hb⟩ := hrel
    have H := Lib.hid hr
    clear hr hrow
    by_cases hlt : k < s.size
    · have hcell : wr.cell? ⟨w.heap.size, k, none⟩ = some (.int .u8 (lowAt s k k)) := by rw [hB.cell]; exact H.out k hlt
      have hfree := hB.free k (by simp; omega)
      have hbd := lowAt_bd s k k
      go_wp2
      · refine ⟨⟨k + 1, _, by omega, by go_num, hB.set_ k _, fun j hj => ?_, belB⟩, by simp [intOf]; omega⟩
        rw [Array.getElem?_setIfInBounds, lowAt_step]
        have hkR : k < R'.size := by
          have := H.out k hlt
          exact (Array.getElem?_eq_some_iff.1 this).1
        by_cases e : k = j
        · subst e
          rw [if_pos rfl, if_pos hkR, if_pos rfl, if_pos ⟨by assumption, by assumption⟩]
        · rw [if_neg e, if_neg (Ne.symm e)]
          exact H.out j hj
      all_goals
        refine ⟨⟨k + 1, _, by omega, by go_num, hB, fun j hj => ?_, hb⟩, by simp [intOf]; omega⟩
        rw [H.out j hj, lowAt_step]
        by_cases e : j = k
        · subst e
          rw [if_pos rfl, if_neg (by omega)]
        · rw [if_neg e]
    · obtain rfl : k = s.size := by omega
      have hback : ∀ c, (convert 120 9 (.slice (some ⟨w.heap.size, 0, none⟩) s.size c)).run Tryz.prog wr = .ok (.string ⟨(lowL s.data.toList).toArray⟩) wr := fun c =>
        run_back wr 120 9 5 ⟨w.heap.size, 0, none⟩ s.size c (lowL s.data.toList) (by simp [lowL]) Tryz.underlying120 Tryz.underlying5 Tryz.underlying9 (fun j hj => by
          have hj' : j < s.size := by rw [Lib.size_eq]; simpa [lowL] using hj
          have e : (⟨w.heap.size, 0, none⟩ : Addr).add j = ⟨w.heap.size, j, none⟩ := by unfold Addr.add; split <;> simp_all
          rw [e, hB.cell, H.out j hj', lowAt_end s j hj])
      go_wp2
      go_ret
      exact ⟨rfl, hb⟩
end Go.Proofs.YtdlbfjoemabfpaaGreatDoor
namespace Go.Proofs.YtdlbfjoemabfpaaGreatDoor
open Go.RowKit Go.Sort
set_option linter.unusedVariables false
set_option linter.unusedSimpArgs false
set_option maxRecDepth 100000
def queryL (sep : UInt8) : List (List UInt8 × List UInt8) → List UInt8
  | [] => []
  | (k, v) :: r => sep :: (k ++ 61 :: v) ++ queryL 38 r
def pathL (xs : List (List UInt8)) : List UInt8 := xs.flatMap fun p => 47 :: p
def writeL (c : List UInt8) (xs : List (List UInt8)) (qs : List (List UInt8 × List UInt8)) : List UInt8 := c ++ pathL xs ++ queryL 63 qs
def pairCells (qs : List (ByteArray × ByteArray)) : List Value := qs.flatMap fun q => [.string q.1, .string q.2]
def lists (xs : List ByteArray) : List (List UInt8) := xs.map (·.data.toList)
def lists2 (qs : List (ByteArray × ByteArray)) : List (List UInt8 × List UInt8) := qs.map fun q => (q.1.data.toList, q.2.data.toList)
def W06 (c : ByteArray) (xs : List ByteArray) (qs : List (ByteArray × ByteArray)) : List UInt8 := writeL c.data.toList (lists xs) (lists2 qs)
theorem builderAt_alloc {T e : TypeId} {B b : Nat} {p : Value} {bs : List Value} {w : World} (h : Lib.BuilderAt T e B b p bs w) (o : Obj) : Lib.BuilderAt T e B b p bs (w.alloc o) := by
  have hl := h.lt
  obtain ⟨hB, v, hb, hown, hne⟩ := h
  exact ⟨hB, v, (Below.heap_alloc w o b hl).trans hb, hown.alloc o, hne⟩
theorem isBuilder_alloc {T e : TypeId} {B b : Nat} {bs : List Value} {w : World} (h : Lib.IsBuilder T e B b bs w) (o : Obj) : Lib.IsBuilder T e B b bs (w.alloc o) := h.imp (builderAt_alloc · o) (builderAt_alloc · o)
theorem strCells_eq (s : ByteArray) : Lib.strCells s = Lib.byteCells s.data.toList := rfl
theorem byteCells_app (a b : List UInt8) : Lib.byteCells (a ++ b) = Lib.byteCells a ++ Lib.byteCells b := by simp [Lib.byteCells]
def pathK (c : ByteArray) (xs : List ByteArray) (k : Nat) : List UInt8 := c.data.toList ++ pathL ((lists xs).take k)
theorem pathK_succ (c : ByteArray) (xs : List ByteArray) (k : Nat) (x : ByteArray) (h : xs[k]? = some x) : pathK c xs (k + 1) = pathK c xs k ++ (47 :: x.data.toList) := by
  have : (lists xs)[k]? = some x.data.toList := by simp [lists, h]
  unfold pathK pathL
  rw [List.take_add_one, this]
  simp
theorem pathK_le (c : ByteArray) (xs : List ByteArray) (qs : List (ByteArray × ByteArray)) (k : Nat) : (pathK c xs k).length ≤ (W06 c xs qs).length := by
  have h : pathL (lists xs) = pathL ((lists xs).take k) ++ pathL ((lists xs).drop k) := by
    rw [pathL, pathL, pathL, ← List.flatMap_append, List.take_append_drop]
  unfold pathK W06 writeL
  rw [h]
  simp
def sepK (k : Nat) : ByteArray := if k = 0 then ⟨#[63]⟩ else ⟨#[38]⟩
def queryK (c : ByteArray) (xs : List ByteArray) (qs : List (ByteArray × ByteArray)) (k : Nat) : List UInt8 := c.data.toList ++ pathL (lists xs) ++ queryL 63 ((lists2 qs).take k)
theorem queryL_snoc (k v : List UInt8) : ∀ (sep : UInt8) (l : List (List UInt8 × List UInt8)), queryL sep (l ++ [(k, v)]) = queryL sep l ++ ((if l = [] then sep else 38) :: (k ++ 61 :: v))
  | sep, [] => by simp [queryL]
  | sep, (a, b) :: l => by
    rw [List.cons_append, queryL, queryL, queryL_snoc k v 38 l]
    simp
theorem queryL_append : ∀ (sep : UInt8) (l m : List (List UInt8 × List UInt8)), (queryL sep l).length ≤ (queryL sep (l ++ m)).length
  | sep, [], m => by simp [queryL]
  | sep, (a, b) :: l, m => by
    have := queryL_append 38 l m
    simp [queryL]
    omega
theorem queryK_succ (c : ByteArray) (xs : List ByteArray) (qs : List (ByteArray × ByteArray)) (k : Nat) (q : ByteArray × ByteArray) (h : qs[k]? = some q) :
    queryK c xs qs (k + 1) = queryK c xs qs k ++ ((sepK k).data.toList ++ q.1.data.toList ++ [61] ++ q.2.data.toList) := by
  have h' : (lists2 qs)[k]? = some (q.1.data.toList, q.2.data.toList) := by simp [lists2, h]
  have hl : k < (lists2 qs).length := (List.getElem?_eq_some_iff.1 h').1
  unfold queryK
  rw [List.take_add_one, h', Option.toList_some, queryL_snoc]
  by_cases hk : k = 0
  · subst hk
    simp [sepK, queryL]
  · have hne : (lists2 qs).take k ≠ [] := by
      intro e
      have := congrArg List.length e
      rw [List.length_take, Nat.min_eq_left (by omega)] at this
      exact hk (by simpa using this)
    simp [sepK, hk, hne]
theorem queryK_le (c : ByteArray) (xs : List ByteArray) (qs : List (ByteArray × ByteArray)) (k : Nat) : (queryK c xs qs k).length ≤ (W06 c xs qs).length := by
  have := queryL_append 63 ((lists2 qs).take k) ((lists2 qs).drop k)
  rw [List.take_append_drop] at this
  simp [queryK, W06, writeL]
  omega
theorem pairCells_at (qs : List (ByteArray × ByteArray)) : ∀ (k : Nat) (q : ByteArray × ByteArray), qs[k]? = some q → (pairCells qs)[k * 2]? = some (.string q.1) ∧ (pairCells qs)[k * 2 + 1]? = some (.string q.2) := by
  induction qs with
  | nil => intro k q h; simp at h
  | cons a r ih =>
    intro k q h
    cases k with
    | zero => simp at h; subst h; simp [pairCells]
    | succ k =>
      have := ih k q (by simpa using h)
      rw [show (k + 1) * 2 = k * 2 + 1 + 1 by omega]
      simpa [pairCells] using this
theorem pairCells_length (qs : List (ByteArray × ByteArray)) : (pairCells qs).length = qs.length * 2 := by induction qs <;> simp_all [pairCells]; omega
theorem pathK_all (c : ByteArray) (xs : List ByteArray) (qs : List (ByteArray × ByteArray)) (n : Nat) (h : xs.length ≤ n) : pathK c xs n = queryK c xs qs 0 := by
  simp [pathK, queryK, queryL, List.take_of_length_le (show (lists xs).length ≤ n by simpa [lists] using h)]
theorem queryK_all (c : ByteArray) (xs : List ByteArray) (qs : List (ByteArray × ByteArray)) (n : Nat) (h : qs.length ≤ n) : queryK c xs qs n = W06 c xs qs := by
  simp [queryK, W06, writeL, List.take_of_length_le (show (lists2 qs).length ≤ n by simpa [lists2] using h)]
theorem boxed3 {w wr : World} {x y z : Value} {t : TypeId} {o : Obj} (h : Below (w.heap.size + 1) ((w.alloc (.cells #[x, y, z] t)).alloc o) wr) :
    wr.cell? ⟨w.heap.size, 0, none⟩ = some x ∧ wr.cell? ⟨w.heap.size, 1, none⟩ = some y ∧ wr.cell? ⟨w.heap.size, 2, none⟩ = some z ∧ Below w.heap.size w wr := by
  have hb : Below w.heap.size w wr := (balloc (balloc (Below.refl _ w) _) _).trans (h.mono (by omega))
  refine ⟨?_, ?_, ?_, hb⟩ <;> (rw [h.cell (by simp)]; simp [go_sem])
theorem pathL_len : ∀ l : List (List UInt8), l.length ≤ (pathL l).length
  | [] => by simp [pathL]
  | a :: l => by have := pathL_len l; simp only [pathL, List.flatMap_cons, List.length_cons, List.length_append] at this ⊢; omega
theorem queryL_len : ∀ (sep : UInt8) (l : List (List UInt8 × List UInt8)), l.length ≤ (queryL sep l).length
  | sep, [] => by simp [queryL]
  | sep, (a, b) :: l => by have := queryL_len 38 l; simp only [queryL, List.length_cons, List.length_append] at this ⊢; omega
theorem slash_cells (x : ByteArray) : Lib.strCells (⟨#[47]⟩ ++ x) = Lib.byteCells (47 :: x.data.toList) := by simp [Lib.strCells, Lib.byteCells]
theorem pair_cells (s k v : ByteArray) : Lib.strCells (s ++ k ++ ⟨#[61]⟩ ++ v) = Lib.byteCells (s.data.toList ++ k.data.toList ++ [61] ++ v.data.toList) := by simp [Lib.strCells, Lib.byteCells]
set_option maxHeartbeats 4000000 in
theorem write_any (c : ByteArray) (P Q : Option Addr) (np cp nq cq : Nat) (xs : List ByteArray) (qs : List (ByteArray × ByteArray)) (w : World)
    (hP : Reads w 1 P np (xs.map .string)) (hQ : Reads w 2 Q nq (pairCells qs)) (htot : (W06 c xs qs).length ≤ 1000000000) :
    Calls Tryz.prog 150 #[.agg #[.string c, .slice P np cp, .slice Q nq cq]] w (Ret w (.string ⟨(W06 c xs qs).toArray⟩)) := by
  have hnp : np ≤ xs.length ∧ xs.length ≤ np := by have := hP.1; simp at this; omega
  have hnq : nq ≤ qs.length ∧ qs.length ≤ nq := by have := hQ.1; rw [pairCells_length] at this; omega
  have hlens : c.size ≤ 1000000000 ∧ np ≤ 1000000000 ∧ nq ≤ 1000000000 := by
    have h1 := pathL_len (lists xs)
    have h2 := queryL_len 63 (lists2 qs)
    simp only [lists, lists2, List.length_map] at h1 h2
    simp only [W06, writeL, lists, lists2, List.length_append] at htot
    rw [Lib.size_eq]
    omega
  obtain ⟨hc0, hnp9, hnq9⟩ := hlens
  have hB0 := Lib.fresh_isBuilder 122 5 (w.alloc (.cells #[.string c, .slice P np cp, .slice Q nq cq] 148))
  simp only [World.size_alloc] at hB0
  have HP := Lib.hid hP; have HQ := Lib.hid hQ; have HT := Lib.hid htot
  clear hP hQ htot
  go_enter Tryz.func150, Tryz.ntmps150
  go_wp2_with fail
  refine (writeString_any (w.heap.size + 1) (w.heap.size + 1) [] c _ hB0 (by simp; omega) (by simp)).mono ?_
  rintro e w1 ⟨rfl, hB1, hb1⟩
  clear hB0
  obtain ⟨a0, a1, a2, hbw⟩ := boxed3 hb1
  have hB1' : Lib.IsBuilder 122 5 (w.heap.size + 1) (w.heap.size + 1) (Lib.byteCells (pathK c xs 0)) w1 := by
    have : Lib.byteCells (pathK c xs 0) = [] ++ Lib.strCells c := by simp [pathK, pathL, strCells_eq]
    rw [this]; exact .inr hB1
  clear hB1
  obtain ⟨W0, hW0⟩ : ∃ W0, W0 = ((w.alloc (.cells #[.string c, .slice P np cp, .slice Q nq cq] 148)).alloc (.cells #[.pointer none, .slice none 0 0] 122)) := ⟨_, rfl⟩
  rw [← hW0] at hb1
  have HW0 := Lib.hid hW0
  clear hW0 hbw
  go_wp2_with fail
  go_loopw [15] (fun i wr => ∃ k : Nat, k ≤ np ∧ i = .int .i64 k ∧ Lib.IsBuilder 122 5 (w.heap.size + 1) (w.heap.size + 1) (Lib.byteCells (pathK c xs k)) wr ∧ Below (w.heap.size + 1) W0 wr) (fun i _ => np - (intOf i).toNat)
  case atStart => exact ⟨0, Nat.zero_le _, rfl, hB1', hb1⟩
  case round =>
    clear a0 a1 a2 hb1 hB1' w1
    obtain ⟨k, hk, rfl, hB, hb⟩ := hrel
    have hb' := hb
    rw [HW0.out] at hb'
    obtain ⟨a0, a1, a2, hbw⟩ := boxed3 hb'
    clear hb'
    by_cases hlt : k < np
    · have hPr := HP.out.keep hbw
      obtain ⟨pb, po, u, rfl, hu, hcell⟩ := hPr.at_ hlt
      clear hPr
      obtain ⟨x, hx, rfl⟩ : ∃ x, xs[k]? = some x ∧ u = .string x := strs_at hu
      clear hu
      have hsz := pathK_le c xs qs (k + 1)
      rw [pathK_succ c xs k x hx] at hsz
      have hT := HT.out
      simp only [List.length_append, List.length_cons, ← Lib.size_eq] at hsz
      have hxs : x.size ≤ 1000000000 := by omega
      have hlen : (Lib.byteCells (pathK c xs k)).length + (⟨#[47]⟩ ++ x : ByteArray).size ≤ 140737488355328 := by rw [Lib.byteCells_length, ByteArray.size_append, show (⟨#[47]⟩ : ByteArray).size = 1 from rfl]; omega
      clear hT hsz
      have HX := Lib.hid hx; clear hx
      go_wp2_with fail
      refine (writeString_any (w.heap.size + 1) (w.heap.size + 1) _ _ _ hB hlen (by have := hb.size; rw [HW0.out] at this; simp at this; omega)).mono ?_
      rintro e w2 ⟨rfl, hB2, hb2⟩
      go_wp2_with fail
      refine ⟨⟨k + 1, by omega, by go_num, ?_, hb.trans hb2⟩, by simp [intOf]; omega⟩
      rw [pathK_succ c xs k x HX.out, byteCells_app, ← slash_cells]
      exact .inr hB2
    · obtain rfl : k = np := by omega
      rw [pathK_all c xs qs k hnp.2] at hB
      clear hlt
      go_wp2_with fail
      clear a0 a1 a2 hbw
      go_loopw [6, 26] (fun s i wr => ∃ k : Nat, k ≤ nq ∧ i = .int .i64 k ∧ s = .string (sepK k) ∧ Lib.IsBuilder 122 5 (w.heap.size + 1) (w.heap.size + 1) (Lib.byteCells (queryK c xs qs k)) wr ∧ Below (w.heap.size + 1) W0 wr) (fun _ i _ => nq - (intOf i).toNat)
      case atStart => exact ⟨0, Nat.zero_le _, rfl, rfl, hB, hb⟩
      case round =>
        clear hB hb
        obtain ⟨k2, hk2, rfl, rfl, hB, hb⟩ := hrel
        have hb' := hb
        rw [HW0.out] at hb'
        obtain ⟨a0, a1, a2, hbw⟩ := boxed3 hb'
        clear hb'
        by_cases hlt : k2 < nq
        · have hQr := HQ.out.keep hbw
          obtain ⟨pb, po, rfl, hcell⟩ := hQr.2 (by omega)
          clear hQr
          have hql : k2 < qs.length := by omega
          obtain ⟨q, hq⟩ : ∃ q, qs[k2]? = some q := ⟨_, List.getElem?_eq_getElem hql⟩
          obtain ⟨e1, e2⟩ := pairCells_at qs k2 q hq
          have hc1 : wr.cell? ⟨pb, po + k2 * 2, none⟩ = _ := hcell _ _ e1
          have hc2 : wr.cell? ⟨pb, po + k2 * 2 + 1, none⟩ = _ := hcell _ _ e2
          clear hcell e1 e2
          have hsz := queryK_le c xs qs (k2 + 1)
          rw [queryK_succ c xs qs k2 q hq] at hsz
          have hT := HT.out
          have hs1 : (sepK k2).size = 1 := by unfold sepK; split <;> rfl
          simp only [List.length_append, ← Lib.size_eq] at hsz
          have hlen : (Lib.byteCells (queryK c xs qs k2)).length + ((sepK k2) ++ q.1 ++ ⟨#[61]⟩ ++ q.2 : ByteArray).size ≤ 140737488355328 := by
            simp only [Lib.byteCells_length, ByteArray.size_append, show (⟨#[61]⟩ : ByteArray).size = 1 from rfl]; omega
          have hq1 : q.1.size ≤ 1000000000 ∧ q.2.size ≤ 1000000000 := by omega
          have hs2 : (sepK k2).size ≤ 1 := by omega
          clear hT hsz hs1
          have HX := Lib.hid hq; clear hq
          obtain ⟨q1, q2⟩ := q
          dsimp only at hc1 hc2 hlen hq1 HX
          obtain ⟨hq1, hq2⟩ := hq1
          go_wp2_with fail
          refine (writeString_any (w.heap.size + 1) (w.heap.size + 1) _ _ _ (isBuilder_alloc hB _) hlen (by have := hb.size; rw [HW0.out] at this; simp at this; simp; omega)).mono ?_
          rintro e w2 ⟨rfl, hB2, hb2⟩
          go_wp2_with fail
          refine ⟨⟨k2 + 1, by omega, by go_num, by simp [sepK], ?_, (hb.alloc (by have := hb.size; rw [HW0.out] at this; simp at this; omega) _).trans hb2⟩, by simp [intOf]; omega⟩
          rw [queryK_succ c xs qs k2 _ HX.out, byteCells_app, ← pair_cells]
          exact .inr hB2
        · obtain rfl : k2 = nq := by omega
          rw [queryK_all c xs qs k2 hnq.2] at hB
          go_wp2_with fail
          refine (Tryz.Builder_String_any (w.heap.size + 1) (w.heap.size + 1) (W06 c xs qs) _ hB (by have := hb.size; rw [HW0.out] at this; simp at this; omega)).mono ?_
          rintro e w2 ⟨rfl, hb2⟩
          go_wp2_with fail
          go_ret
          exact ⟨rfl, hbw.trans (hb2.mono (by omega))⟩
end Go.Proofs.YtdlbfjoemabfpaaGreatDoor
