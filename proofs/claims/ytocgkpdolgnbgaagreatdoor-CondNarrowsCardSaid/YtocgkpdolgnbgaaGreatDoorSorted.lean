/- slices.Sorted(slices.Values(l)) at []string: a new slice, sorted. -/
import Derived.Test.YtocgkpdolgnbgaaGreatDoorResolve
import Derived.Test.YtocgkpdolgnbgaaGreatDoorIter
import Derived.Shelf.SlIter.Sorted
import Derived.Test.YtocgkpdolgnbgaaGreatDoorProg
import Derived.WalkKit
import Derived.WalkSpells
import Derived.WalkLawsBesides
import Derived.Below
import Derived.Deep.QuietTactic
import Derived.BigQuiet
import Derived.Lib.QuietBelow
import Derived.Lib.Strings
import Derived.Lib.Hide
import Derived.Deep.RegionWith
import Derived.Deep.RegionHeld3
import Derived.Lib.IndexBytes
namespace Go.Proofs.YtocgkpdolgnbgaaGreatDoor
open Go.RowKit Go.Sort
set_option linter.unusedVariables false
set_option linter.unusedSimpArgs false
set_option maxRecDepth 100000
attribute [local go_sem] Oper.semAt_some
theorem values_any (A : Option Addr) (n c : Nat) (w : World) : Calls Tryz.prog 64 #[.slice A n c] w fun e w' =>
    e = .returned (.func (.func 110) #[] #[.pointer (some ⟨w.heap.size, 0, none⟩)]) ∧ w' = w.alloc (.cells #[.slice A n c] 22) := by
  go_enter Tryz.func64, Tryz.ntmps64
  go_wp2
  go_ret
  exact ⟨rfl, rfl⟩
theorem Reads.keepsIn {w w' : World} {size n hI0 : Nat} {A : Option Addr} {vs : List Value} (h : Reads w size A n vs) (hk : KeepsIn 0 hI0 w w') (hA : ∀ a, A = some a → 0 < n → a.block < hI0) : Reads w' size A n vs := by
  refine ⟨h.1, fun h0 => ?_⟩
  obtain ⟨b, o, rfl, hc⟩ := h.2 h0
  exact ⟨b, o, rfl, fun j u hu => (World.cell?_of_block (hk b (Nat.zero_le _) (hA _ rfl h0))).trans (hc j u hu)⟩
set_option maxHeartbeats 2000000 in
theorem values_iter (B n c : Nat) (A : Option Addr) (ps : List ByteArray) (w : World) (hB : w.cell? ⟨B, 0, none⟩ = some (.slice A n c)) (hR : Reads w 1 A n (ps.map .string)) (hn : n ≤ 1000000000) :
    Iter Tryz.prog 110 #[.pointer (some ⟨B, 0, none⟩)] (ps.map .string) (fun _ _ => False) 0 w.heap.size w := by
  intro l J Jx W hW _ hJT hY hJ0
  have hBl := cell_lt hB
  have hlen : ps.length = n := by have := hR.1; simpa using this
  have g0 := cell_keep hW hB
  have hR0 := hR.keep hW
  have hA : ∀ a, A = some a → 0 < n → a.block < w.heap.size := by
    intro a ha h0
    obtain ⟨b, o, rfl, hc⟩ := hR.2 h0
    injection ha with ha; subst ha
    have h1 : 0 < (ps.map Value.string).length := by simp; omega
    have := hc 0 _ (List.getElem?_eq_getElem h1)
    exact cell_lt (a := ⟨b, o + 0, none⟩) this
  have HY := Lib.hid hY
  have HA := Lib.hid hA
  have HL := Lib.hid hlen
  have HBL : Hid (B < w.heap.size) := Lib.hid hBl
  clear hY hA hlen hBl hR hB hJT
  refine callsIn_of_wp Tryz.func110 rfl trivial ?_ rfl
  simp only [Tryz.ntmps110, List.size_toArray, List.length_cons, List.length_nil, Nat.reduceAdd, Nat.reduceSub, Array.replicate_succ, Array.replicate_zero, List.push_toArray, List.append_toArray, List.nil_append, List.cons_append]
  gi_wp2
  gi_loopw [7] (fun vi wr => ∃ k : Nat, (vi = .int .i64 k ∧ k ≤ n) ∧ wr.cell? ⟨B, 0, none⟩ = some (.slice A n c) ∧ Reads wr 1 A n (ps.map .string) ∧ J k wr) (fun vi _ => n - (intOf vi).toNat)
  case atStart => exact ⟨0, ⟨rfl, Nat.zero_le _⟩, g0, hR0, hJ0⟩
  case round =>
    clear g0 hR0 hJ0
    obtain ⟨k, ⟨rfl, hk⟩, g0, hR, hJ⟩ := hrel
    by_cases hlt : k < n
    · obtain ⟨pb, po, u, rfl, hu, hcell⟩ := hR.at_ hlt
      obtain ⟨x, hx, rfl⟩ := strs_at hu
      obtain ⟨fn, tmps, assign, body, hy, hRd⟩ := HY.out k _ wr hu hJ
      clear hu hx
      gi_wp2
      refine ⟨rfl, hRd.mono ?_⟩
      rintro e W' (⟨rfl, hJ', hk'⟩ | ⟨rfl, hJx'⟩)
      · have g0' : W'.cell? ⟨B, 0, none⟩ = some (.slice (some ⟨pb, po, none⟩) n c) := (World.cell?_of_block (hk' B (Nat.zero_le _) HBL.out)).trans g0
        have hR' := hR.keepsIn hk' HA.out
        clear g0 hR
        gi_wp2
        exact ⟨⟨k + 1, ⟨by go_num, by omega⟩, g0', hR', hJ'⟩, by simp [intOf]; omega⟩
      · gi_wp2
        refine bodyPost_ret (results_none rfl _ _ _) rfl ?_
        exact ⟨⟨_, rfl⟩, .inr hJx'⟩
    · obtain rfl : k = n := by omega
      gi_wp2
      go_end0
      exact ⟨⟨_, rfl⟩, .inl (by rw [List.length_map, HL.out]; exact hJ)⟩
/-- What holds behind k values. -/
def AppI (ps : List ByteArray) (w : World) (k : Nat) (W : World) : Prop :=
  (∃ v, Boxed W w.heap.size 22 v ∧ W.ownsRow w.heap.size 9 1 v (ps.take k).length ((ps.take k).map .string) ∧ True) ∧ Below w.heap.size w W ∧ w.heap.size + 1 ≤ W.heap.size
theorem appI_own (ps : List ByteArray) (w : World) (B : Nat) (hB : w.heap.size ≤ B) : OwnFrom B (AppI ps w) := by
  rintro k W W' row ⟨h2, h5, h6⟩ hg hr
  have hr' := fun r e => (hr r e).2
  exact ⟨holdsRow_own w.heap.size w.heap.size 22 9 1 (fun o : List ByteArray => o.length) (fun o => o.map .string) (fun _ _ => True) (ps.take k) W W' row h2 hg hr', h5.grown hg (by omega) (fun r e => by have := (hr r e).1; omega), Nat.le_trans h6 hg.size⟩
set_option maxHeartbeats 4000000 in
theorem appendSeq_any (gf : Nat) (lb : Array Value) (eg : ∀ args w, (callFunc gf args).run Tryz.prog w = .ok (.enter gf args) w) (ps : List ByteArray) (w : World)
    (lo hi : Nat) (hhi : hi ≤ w.heap.size) (hseq : Iter Tryz.prog gf lb (ps.map .string) (fun _ _ => False) lo hi w) (hlen : ps.length ≤ 1000000000) :
    Calls Tryz.prog 224 #[.slice none 0 0, .func (.func gf) #[] lb] w fun e w' => ∃ v, e = .returned v ∧ w'.ownsRow w.heap.size 9 1 v ps.length (ps.map .string) ∧ Below w.heap.size w w' := by
  obtain ⟨i0, hi0, hz0, hz1, hz2⟩ := info_parts infoStr
  refine (callsIn_wide (n := 0)).1 ?_
  refine callsIn_of_wp_marks Tryz.func224 rfl trivial ?_ rfl
  simp only [Tryz.ntmps224, List.size_toArray, List.length_cons, List.length_nil, Nat.reduceAdd, Nat.reduceSub, Array.replicate_succ, Array.replicate_zero, List.push_toArray, List.append_toArray, List.nil_append, List.cons_append]
  gi_wp2
  have hbw0 : Below w.heap.size w (w.alloc (.cells #[.slice none 0 0] 22)) := balloc (Below.refl _ _) _
  have b3 := Boxed.new w 22 (.slice none 0 0)
  refine range_law (gf := gf) (lb := lb) rfl eg hseq hbw0 (by simp; omega) (AppI ps w) (fun _ _ => False) (appI_own ps w _ (by simp)) (fun c => fun _ _ _ _ h => h.elim) ⟨⟨_, b3, World.ownsRow_nil _ _ _ _, trivial⟩, hbw0, by simp⟩
    (fun _ _ _ _ h => h.elim) (fun _ _ h => h.elim)
    (fun x => { tmps := #[.slice none 0 0, .func (.func gf) #[] lb, .pointer (some ⟨w.heap.size, 0, none⟩), undef, .slice none 0 0, x, .func (.func gf) #[] lb, x, undef, undef, undef, undef, undef], defers := [] }) ?assign ?body ?done ?stop
  case assign =>
    intro l x W K _ hK
    gi_wp2
    exact hK
  case body =>
    rintro l k x W hx ⟨⟨v, hv, hrow, _⟩, hbw, hsz6⟩
    obtain ⟨p, hp, rfl⟩ := strs_at hx
    have hkl : k < ps.length := (List.getElem?_eq_some_iff.1 hp).1
    have htk : ps.take (k + 1) = ps.take k ++ [p] := by rw [List.take_add_one, hp]; rfl
    have hlk : (ps.take k).length = k := by rw [List.length_take]; omega
    rw [hlk] at hrow
    have HT := Lib.hid htk
    have HK := Lib.hid hlk
    clear hx hp htk hlk b3 hbw0
    obtain ⟨A, c, rfl⟩ : ∃ A c, v = .slice A k c := by
      rcases hrow.2 with ⟨hv, h0⟩ | ⟨g, cap, cur, hv, _⟩
      · exact ⟨none, 0, by rw [hv, h0]⟩
      · exact ⟨_, _, hv⟩
    have c4 := hv.cell
    have f4 := hv.frozen
    gi_wp2_with (gi_at_builtin; refine wpListIn_append_own _ rfl _ _ 22 rfl w.heap.size 9 i0 (.string ⟨#[]⟩) 1 16 Tryz.underlying22 hi0 hz0 hz1 hz2 rfl (by decide) _ _ _ rfl (hrow.alloc _) ⟨W.heap.size, 0, none⟩ 1 1 [.string p] rfl rfl (cell_one_new _ _ _) (by simp [Value.oneCell']) (by unfold maxLen; omega) (by omega) (by simp; omega) ?_; intro v' w3 hown' hgrow _; obtain ⟨g', cap', rfl⟩ := ownsRow_succ hown'; obtain ⟨hv1, hvs, hrs, hk2, hbs⟩ := hv.appended (by decide) hrow (by omega) (Nat.le_refl _) hown' hgrow; have c5 := hv1.cell; have f5 := hv1.frozen)
    refine ⟨hk2.from _, Below.keepsIn hbs (by omega), ⟨_, hvs, ?_, trivial⟩, hbw.trans hbs, by have := hbs.size; omega⟩
    rw [HT.out, List.length_append, HK.out, List.map_append]
    exact hrs
  case done =>
    rintro D W hD ⟨⟨v, hv, hrow, _⟩, hbw, hsz6⟩ hK
    rw [List.length_map, List.take_length] at hrow
    have c4 := hv.cell
    gi_wp2
    refine ⟨by simp, .inl ⟨_, _, rfl, run_takeDeferred hK, ?_⟩⟩
    have hD' : w.heap.size + 1 ≤ D := by simpa using hD
    refine ⟨v, by simp [results, Tryz.results224, go_sem], ?_⟩
    exact ⟨v, rfl, ownsRow_putObj hrow _ hK rfl, hbw.grown (grownBy_putObj' W D _) (by have := hbw.size; omega) (fun r e => by cases e; omega)⟩
  case stop =>
    rintro D c W hD hf _
    exact hf.elim

end Go.Proofs.YtocgkpdolgnbgaaGreatDoor
