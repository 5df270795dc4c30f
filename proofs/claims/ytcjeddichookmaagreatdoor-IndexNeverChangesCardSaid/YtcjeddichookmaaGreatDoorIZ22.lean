/- Items from a key on: From gives a list of its own. -/
import Derived.Test.YtcjeddichookmaaGreatDoorIZ20
import Derived.Test.YtcjeddichookmaaGreatDoorProg
import Derived.WalkKit
import Derived.WalkSpells
import Derived.WalkLawsBesides
import Derived.Below
import Derived.Deep.QuietTactic
import Derived.BigQuiet
import Derived.Lib.QuietBelow
import Derived.Lib.Strings
import Derived.Lib.Hide
import Derived.Deep.RegionWith
import Derived.Deep.RegionHeld3
import Derived.Lib.IndexBytes
import Derived.Test.YtcjeddichookmaaGreatDoorIZ21
import Derived.Test.YtcjeddichookmaaGreatDoorIZ17
namespace Go.Proofs.YtcjeddichookmaaGreatDoor
open Go.RowKit Go.Sort
set_option linter.unusedVariables false
set_option linter.unusedSimpArgs false
set_option maxRecDepth 100000
attribute [local go_sem] Oper.semAt_some
def OwnP (acc : List It) (w : World) (e : Ending) (W : World) : Prop := ∃ v, e = .returned v ∧ W.ownsRow w.heap.size 34 4 v acc.length (itsC acc) ∧ Below w.heap.size w W
theorem own_post {w W : World} {acc : List It} {v : Value} (h : W.ownsRow w.heap.size 34 4 v acc.length (itsC acc)) (hb : Below w.heap.size w W) : OwnP acc w (.returned v) W := ⟨v, rfl, h, hb⟩
set_option maxHeartbeats 4000000 in
theorem ixFromO_any (A : Option Addr) (L : List It) (key : ByteArray) (q : Int) (w : World) (h : IxAt w A L) (hu : UpI L) (hn : L.length ≤ 1000) : Calls Tryz.prog 7 #[.agg #[.pointer A], .string key, .int .i64 q] w (OwnP (takeI q (ixFrom L key)) w) := by
  obtain ⟨i0, hi0, hz0, hz1, hz2⟩ := info_parts infoItem
  have eg : ∀ args w, (callFunc 31 args).run Tryz.prog w = .ok (.enter 31 args) w := enters_of Tryz.func31 (by kernel_rfl) rfl
  have hfl : (ixFrom L key).length ≤ 1000 := Nat.le_trans (List.length_filter_le _ _) hn
  obtain ⟨W0, hW0⟩ : ∃ W0, W0 = ((((w.alloc (.cells #[.pointer A] 27)).alloc (.cells #[.int .i64 q] 3)).alloc (.cells #[.slice none 0 0] 31)).alloc (.cells #[.pointer A] 25)).alloc (.cells #[.string key] 9) := ⟨_, rfl⟩
  have hbW : Below w.heap.size w W0 := by rw [hW0]; exact belB
  have b3 : Boxed W0 (w.heap.size + 2) 31 (.slice none 0 0) := by rw [hW0]; exact RowV.alloc (RowV.alloc (by have h := RowV.new ((w.alloc (.cells #[.pointer A] 27)).alloc (.cells #[.int .i64 q] 3)) 31 [.slice none 0 0]; rwa [World.size_alloc, World.size_alloc] at h) _) _
  have b2 : Boxed W0 (w.heap.size + 1) 3 (.int .i64 q) := by rw [hW0]; exact RowV.alloc (RowV.alloc (RowV.alloc (by have h := RowV.new (w.alloc (.cells #[.pointer A] 27)) 3 [.int .i64 q]; rwa [World.size_alloc] at h) _) _) _
  have hB1 : W0.cell? ⟨w.heap.size + 3, 0, none⟩ = some (.pointer A) := RowV.cell (t := 25) (cs := [.pointer A]) (k := 0) (by rw [hW0]; exact RowV.alloc (by have h := RowV.new (((w.alloc (.cells #[.pointer A] 27)).alloc (.cells #[.int .i64 q] 3)).alloc (.cells #[.slice none 0 0] 31)) 25 [.pointer A]; rwa [World.size_alloc, World.size_alloc, World.size_alloc] at h) _) rfl
  have hB2 : W0.cell? ⟨w.heap.size + 4, 0, none⟩ = some (.string key) := RowV.cell (t := 9) (cs := [.string key]) (k := 0) (by rw [hW0]; have h := RowV.new ((((w.alloc (.cells #[.pointer A] 27)).alloc (.cells #[.int .i64 q] 3)).alloc (.cells #[.slice none 0 0] 31)).alloc (.cells #[.pointer A] 25)) 9 [.string key]; rwa [World.size_alloc, World.size_alloc, World.size_alloc, World.size_alloc] at h) rfl
  have hseq := from_iter (w.heap.size + 3) (w.heap.size + 4) A key L w W0 hbW hB1 hB2 h hu
  have hsz : w.heap.size + 5 ≤ W0.heap.size := by rw [hW0]; simp [World.size_alloc]
  have HW0 := Lib.hid hW0
  have hlv : (itsV (ixFrom L key)).length = (ixFrom L key).length := by simp [itsV]
  obtain ⟨F, hF⟩ : ∃ F, F = ixFrom L key := ⟨_, rfl⟩
  rw [← hF] at hseq hfl hlv ⊢
  clear hF h hu hn hB1 hB2
  refine (callsIn_wide (n := 0)).1 ?_
  refine callsIn_of_wp_marks Tryz.func7 rfl trivial ?_ rfl
  simp only [Tryz.ntmps7, List.size_toArray, List.length_cons, List.length_nil, Nat.reduceAdd, Nat.reduceSub, Array.replicate_succ, Array.replicate_zero, List.push_toArray, List.append_toArray, List.nil_append, List.cons_append]
  gi_wp2_with (refine ⟨trivial, rfl, ?_⟩; gi_at_call 15; refine (callsIn_wide.2 (from_any _ _ _)).mono ?_; rintro e w' ⟨rfl, hw⟩; rw [hw])
  rw [← HW0.out]
  clear HW0 hW0
  refine range_box (gf := 31) (lb := #[.pointer (some ⟨w.heap.size + 3, 0, none⟩), .pointer (some ⟨w.heap.size + 4, 0, none⟩)]) rfl eg hseq (Below.refl _ _) hbW.size (fun k => FrS w q (takeI q (F.take k))) (fun c W => c = .exit 0 ∧ FrS w q (takeI q F) W)
    (frS_own w q (fun k => takeI q (F.take k)) _ hbW.size) (fun c => fun s W W' row h hg hr => ⟨h.1, frS_own (β := Unit) w q (fun _ => takeI q F) _ hbW.size s W W' row h.2 hg hr⟩) ⟨⟨_, b3, by rw [show takeI q (F.take 0) = [] by simp [takeI]]; exact World.ownsRow_nil _ _ _ _, trivial⟩, b2, hbW, hsz⟩
    (fun _ _ _ _ h => h.elim) (fun _ _ h => h.elim) obIt
    (fun x g => { tmps := #[.agg #[.pointer A], .string key, .int .i64 q, .pointer (some ⟨w.heap.size, 0, none⟩), undef, .pointer (some ⟨w.heap.size + 1, 0, none⟩), .slice none 0 0, .pointer (some ⟨w.heap.size + 1 + 1, 0, none⟩), .pointer (some ⟨g, 0, none⟩), .pointer (some ⟨w.heap.size, 0, none⟩), .pointer A, .string key, .func (.func 31) #[] #[.pointer (some ⟨w.heap.size + 1 + 1 + 1, 0, none⟩), .pointer (some ⟨w.heap.size + 1 + 1 + 1 + 1, 0, none⟩)], x, undef, undef, undef, undef, undef, undef, undef, undef, undef], defers := [] }) ?assign ?body ?done ?stop
  case assign =>
    intro l x W K hx hK
    obtain ⟨i, hi⟩ := List.mem_iff_getElem?.1 hx
    obtain ⟨y, hy, rfl⟩ := itsV_of hi
    clear hx hi hy
    gi_wp2
    exact hK
  case body =>
    rintro l k g x W hx ⟨⟨v, hv, hrow, _⟩, hq, hbw, hsz6⟩ hgl hg
    obtain ⟨y, hy, rfl⟩ := itsV_of hx
    have hkl : k < F.length := (List.getElem?_eq_some_iff.1 hy).1
    have htk : F.take (k + 1) = F.take k ++ [y] := by rw [List.take_add_one, hy]; rfl
    have hit : RowV W g 34 [.string y.k, .string y.t, .int .i64 y.z, .int .i64 y.r] := hg
    have hml : (takeI q (F.take k)).length ≤ 1000 := by unfold takeI; rw [List.length_take, List.length_take]; omega
    have HTK := Lib.hid htk
    obtain ⟨acc, hacc⟩ : ∃ acc, acc = takeI q (F.take k) := ⟨_, rfl⟩
    rw [← hacc] at hrow hml
    obtain ⟨m, hm⟩ : ∃ m, m = acc.length := ⟨_, rfl⟩
    rw [← hm] at hrow hml
    obtain ⟨A', c, rfl⟩ : ∃ A c, v = .slice A m c := by
      rcases hrow.2 with ⟨hv, h0⟩ | ⟨g, cap, cur, hv, _⟩
      · exact ⟨none, 0, by rw [hv, h0]⟩
      · exact ⟨_, _, hv⟩
    have c4 := hv.cell
    have f4 := hv.frozen
    have c5 := hq.cell
    have d0 := hit.cell (k := 0) rfl
    have d1 := hit.cell (k := 1) rfl
    have d2 := hit.cell (k := 2) rfl
    have d3 := hit.cell (k := 3) rfl
    have HA := Lib.hid hacc; have HM := Lib.hid hm; have HY := Lib.hid hy
    clear hx hy htk hacc hm hseq
    by_cases hlt : (m : Int) < q
    · have hge : ¬ q ≤ (m : Int) := by omega
      have hne := takeI_yes (q := q) (F := F.take k) y (by rw [← HA.out, ← HM.out]; exact hlt)
      have HNE := Lib.hid hne
      clear hne
      gi_wp2_with (gi_at_builtin; refine wpListIn_append_own _ rfl _ _ 31 rfl w.heap.size 34 i0 (.agg #[.string ⟨#[]⟩, .string ⟨#[]⟩, .int .i64 0, .int .i64 0]) 4 48 Tryz.underlying31 hi0 hz0 hz1 hz2 rfl (by decide) _ _ _ rfl (hrow.alloc _) ⟨W.heap.size, 0, none⟩ 1 1 [.string y.k, .string y.t, .int .i64 y.z, .int .i64 y.r] rfl rfl (World.news_of_block (cs := #[.string y.k, .string y.t, .int .i64 y.z, .int .i64 y.r]) (t := 34) (fr := (0, 0)) (World.alloc_heap_new W _)) (by simp [Value.oneCell']) (by unfold maxLen; omega) (by omega) (by have := hbw.size; simp; omega) ?_; intro v' w3 hown' hgrow _; obtain ⟨g', cap', rfl⟩ := ownsRow_succ hown'; obtain ⟨hv1, hvs, hrs, hk2, hbs⟩ := hv.appended (by decide) hrow hbw.size (by omega) hown' hgrow; have hq1 := (hq.alloc (.cells #[.string y.k, .string y.t, .int .i64 y.z, .int .i64 y.r] 34)).kept hgrow (hq.not_row (by decide) hrow); have c6 := hv1.cell; have f6 := hv1.frozen)
      refine ⟨hk2.from _, Below.keepsIn hbs (Nat.le_refl _), ?_⟩
      show FrS w q (takeI q (F.take (k + 1))) _
      rw [HTK.out, HNE.out]
      refine ⟨⟨_, hvs, ?_, trivial⟩, boxed_far hq1 (by simp) _, hbw.trans hbs, Nat.le_trans hsz6 hbs.size⟩
      rw [List.length_append, ← HA.out, ← HM.out, itsC_app]
      exact hrs
    · have hge : q ≤ (m : Int) := by omega
      have hfin : acc = takeI q F := by
        rw [HA.out]
        have h8 := HM.out
        rw [HA.out] at h8
        unfold takeI at h8 ⊢
        rw [List.length_take, List.length_take] at h8
        rw [List.take_take]
        congr 1
        omega
      have HF := Lib.hid hfin
      clear hfin
      gi_wp2
      refine ⟨.refl _ _, rfl, ⟨_, hv, ?_, trivial⟩, hq, hbw, hsz6⟩
      rw [← HF.out, ← HM.out]
      exact hrow
  case done =>
    rintro D W hD ⟨⟨v, hv, hrow, _⟩, hq, hbw, hsz6⟩ hK
    rw [hlv, List.take_length] at hrow
    have c4 := hv.cell
    gi_wp2
    refine ⟨by simp, .inl ⟨_, _, rfl, run_takeDeferred hK, ?_⟩⟩
    have hD' : w.heap.size ≤ D := Nat.le_trans hbW.size hD
    have hown := ownsRow_putObj hrow (.deferred none) hK rfl
    refine ⟨v, by simp [results, Tryz.results7, go_sem], ?_⟩
    exact own_post hown (hbw.grown (grownBy_putObj' W D _) (by have := hbw.size; omega) (fun r e => by cases e; omega))
  case stop =>
    rintro D c W hD ⟨rfl, ⟨v, hv, hrow, _⟩, hq, hbw, hsz6⟩ hK
    have c4 := hv.cell
    gi_wp2
    refine ⟨by simp, .inl ⟨_, _, rfl, run_takeDeferred hK, ?_⟩⟩
    have hD' : w.heap.size ≤ D := Nat.le_trans hbW.size hD
    have hown := ownsRow_putObj hrow (.deferred none) hK rfl
    refine ⟨v, by simp [results, Tryz.results7, go_sem], ?_⟩
    exact own_post hown (hbw.grown (grownBy_putObj' W D _) (by have := hbw.size; omega) (fun r e => by cases e; omega))
end Go.Proofs.YtcjeddichookmaaGreatDoor
namespace Go.Proofs.YtcjeddichookmaaGreatDoor
open Go.RowKit Go.Sort
set_option linter.unusedVariables false
set_option linter.unusedSimpArgs false
set_option maxRecDepth 100000
def opC (o : OpI) : List Value := [.bool o.del, .string o.it.k, .string o.it.t, .int .i64 o.it.z, .int .i64 o.it.r]
def opsC (l : List OpI) : List Value := l.flatMap opC
theorem opsC_len : ∀ l : List OpI, (opsC l).length = l.length * 5
  | [] => rfl
  | x :: l => by rw [opsC, List.flatMap_cons, List.length_append, ← opsC, opsC_len l]; simp [opC]; omega
theorem opsC_at : ∀ (l : List OpI) (i j : Nat) (x : OpI), l[i]? = some x → j < 5 → (opsC l)[5 * i + j]? = (opC x)[j]?
  | [], i, j, x, h, hj => by simp at h
  | y :: l, 0, j, x, h, hj => by
    simp only [List.getElem?_cons_zero, Option.some.injEq] at h
    subst h
    rw [opsC, List.flatMap_cons, List.getElem?_append_left (by simp [opC]; omega)]
    simp
  | y :: l, i + 1, j, x, h, hj => by
    rw [opsC, List.flatMap_cons, ← opsC, List.getElem?_append_right (by simp [opC]; omega)]
    rw [← opsC_at l i j x (by simpa using h) hj]
    congr 1
    simp [opC]; omega
structure OpsRead (w : World) (A : Option Addr) (n : Nat) (L : List OpI) : Prop where
  len : L.length = n
  rows : Reads w 5 A n (opsC L)
theorem OpsRead.keep {w w' : World} {A : Option Addr} {n : Nat} {L : List OpI} (h : OpsRead w A n L) (hb : Below w.heap.size w w') : OpsRead w' A n L := ⟨h.len, h.rows.keep hb⟩
theorem OpsRead.cells {w : World} {A : Option Addr} {n k : Nat} {L : List OpI} {x : OpI} (h : OpsRead w A n L) (hk : L[k]? = some x) :
    ∃ b o, A = some ⟨b, o, none⟩ ∧ w.cell? ⟨b, o + k * 5, none⟩ = some (.bool x.del) ∧ w.cell? ⟨b, o + k * 5 + 1, none⟩ = some (.string x.it.k) ∧ w.cell? ⟨b, o + k * 5 + 2, none⟩ = some (.string x.it.t) ∧ w.cell? ⟨b, o + k * 5 + 3, none⟩ = some (.int .i64 x.it.z) ∧ w.cell? ⟨b, o + k * 5 + 4, none⟩ = some (.int .i64 x.it.r) := by
  have hkl : k < L.length := (List.getElem?_eq_some_iff.1 hk).1
  obtain ⟨b, o, e, hc⟩ := h.rows.2 (by have := h.len; omega)
  have hh := fun j u (hj : j < 5) (hu : (opC x)[j]? = some u) => hc (5 * k + j) u (by rw [opsC_at L k j x hk hj]; exact hu)
  refine ⟨b, o, e, ?_, ?_, ?_, ?_, ?_⟩
  · rw [show o + k * 5 = o + (5 * k + 0) by omega]; exact hh 0 _ (by omega) rfl
  · rw [show o + k * 5 + 1 = o + (5 * k + 1) by omega]; exact hh 1 _ (by omega) rfl
  · rw [show o + k * 5 + 2 = o + (5 * k + 2) by omega]; exact hh 2 _ (by omega) rfl
  · rw [show o + k * 5 + 3 = o + (5 * k + 3) by omega]; exact hh 3 _ (by omega) rfl
  · rw [show o + k * 5 + 4 = o + (5 * k + 4) by omega]; exact hh 4 _ (by omega) rfl
theorem OpsRead.cells_at {w : World} {b o n k : Nat} {L : List OpI} {x : OpI} (h : OpsRead w (some ⟨b, o, none⟩) n L) (hk : L[k]? = some x) :
    w.cell? ⟨b, o + k * 5, none⟩ = some (.bool x.del) ∧ w.cell? ⟨b, o + k * 5 + 1, none⟩ = some (.string x.it.k) ∧ w.cell? ⟨b, o + k * 5 + 2, none⟩ = some (.string x.it.t) ∧ w.cell? ⟨b, o + k * 5 + 3, none⟩ = some (.int .i64 x.it.z) ∧ w.cell? ⟨b, o + k * 5 + 4, none⟩ = some (.int .i64 x.it.r) := by
  obtain ⟨b', o', e, h0⟩ := h.cells hk
  injection e with e
  injection e with e1 e2 _
  subst e1; subst e2
  exact h0
def smallI (x : It) : Bool := decide (x.k.size ≤ 300) && decide (x.t.size ≤ 300)
def fewO (os : List OpI) : Bool := (os.all fun o => smallI o.it) && decide (os.length ≤ 40)
set_option maxHeartbeats 2000000 in
theorem few15_any (A : Option Addr) (n c : Nat) (os : List OpI) (w : World) (hA : OpsRead w A n os) (hn : n ≤ 9223372036854775807) : Calls Tryz.prog 4 #[.slice A n c] w (Ret w (.bool (fewO os))) := by
  have hl : n ≤ os.length ∧ os.length ≤ n := by have := hA.len; omega
  have HA := Lib.hid hA
  clear hA
  obtain ⟨V, hV⟩ : ∃ V, V = fewO os := ⟨_, rfl⟩
  rw [← hV]
  have HV := Lib.hid hV
  clear hV
  go_enter Tryz.func4, Tryz.ntmps4
  go_wp2
  go_loopw [3] (fun vi wr => ∃ k : Nat, vi = .int .i64 k ∧ k ≤ n ∧ Hid ((os.take k).all (fun o => smallI o.it) = true) ∧ Below w.heap.size w wr) (fun i _ => n - (intOf i).toNat)
  case atStart => exact ⟨0, rfl, Nat.zero_le _, Lib.hid (by simp), Below.refl _ _⟩
  case round =>
    obtain ⟨k, rfl, hk, HK, hbr⟩ := hrel
    by_cases hlt : k < n
    · obtain ⟨x, hx⟩ : ∃ x, os[k]? = some x := ⟨_, List.getElem?_eq_getElem (by omega)⟩
      obtain ⟨b, o, rfl, c0, c1, c2, c3, c4⟩ := (HA.out.keep hbr).cells hx
      have hk0 : (0 : Int) ≤ (k : Int) := by omega
      have hk1 : (k : Int) < (n : Int) := by omega
      have hxm := List.mem_of_getElem? hx
      have hbad : smallI x.it = false → V = false := fun h => by
        rw [HV.out]
        unfold fewO
        rw [Bool.and_eq_false_iff]
        left
        rw [List.all_eq_false]
        exact ⟨x, hxm, by rw [h]; simp⟩
      by_cases h1 : x.it.k.size ≤ 300
      · have h1b : ¬ (300 : Int) < (x.it.k.size : Int) := by omega
        by_cases h2 : x.it.t.size ≤ 300
        · have h2b : ¬ (300 : Int) < (x.it.t.size : Int) := by omega
          have htk : (os.take (k + 1)).all (fun o => smallI o.it) = true := by
            rw [List.take_add_one, hx]
            simp only [Option.toList_some, List.all_append, HK.out, List.all_cons, List.all_nil, Bool.and_true, Bool.true_and]
            simp [smallI, h1, h2]
          have HTK := Lib.hid htk
          clear hx hxm hbad htk HK h1 h2 c0 c3 c4
          go_wp2
          exact ⟨⟨k + 1, by go_num, by omega, HTK, hbr⟩, by simp [intOf]; omega⟩
        · have h2b : (300 : Int) < (x.it.t.size : Int) := by omega
          have HB := Lib.hid (hbad (by simp [smallI, h2]))
          clear hx hxm hbad HK h1 h2 c0 c3 c4
          go_wp2
          go_ret
          exact ⟨ret_bool HB.out.symm, hbr⟩
      · have h1b : (300 : Int) < (x.it.k.size : Int) := by omega
        have HB := Lib.hid (hbad (by simp [smallI, h1]))
        clear hx hxm hbad HK h1 c0 c3 c4
        go_wp2
        go_ret
        exact ⟨ret_bool HB.out.symm, hbr⟩
    · obtain rfl : k = n := by omega
      have hv : V = decide (k ≤ 40) := by
        rw [HV.out]
        unfold fewO
        have h := HK.out
        rw [List.take_of_length_le (by omega)] at h
        rw [h, Bool.true_and, HA.out.len]
      have HV2 := Lib.hid hv
      clear hv HK
      go_wp2
      go_ret
      exact ⟨ret_bool (by rw [HV2.out]; simp; omega), hbr⟩
end Go.Proofs.YtcjeddichookmaaGreatDoor
namespace Go.Proofs.YtcjeddichookmaaGreatDoor
open Go.RowKit Go.Sort
set_option linter.unusedVariables false
set_option linter.unusedSimpArgs false
set_option maxRecDepth 100000
theorem ItsRead.far {w : World} {A : Option Addr} {n : Nat} {L : List It} {g : Nat} {s : TypeId} {P : Option Addr} (h : ItsRead w A n L) (hg : RowV w g s [.pointer P]) (v : Value) : ItsRead (w.setCell ⟨g, 0, none⟩ v) A n L := by
  refine ⟨h.len, ?_⟩
  rcases Nat.eq_zero_or_pos n with h0 | h0
  · subst h0
    have := h.len
    have e : L = [] := List.eq_nil_of_length_eq_zero this
    subst e
    exact Reads.nil_ _ _ _
  · refine h.rows.set_ _ _ fun a ha => ?_
    obtain ⟨b, o, e, hc⟩ := h.rows.2 h0
    rw [e] at ha
    injection ha with ha
    subst ha
    intro hbg
    obtain ⟨x, l, rfl⟩ : ∃ x l, L = x :: l := by
      cases L with
      | nil => have := h.len; simp at this; omega
      | cons x l => exact ⟨x, l, rfl⟩
    have h1 := hc 0 (.string x.k) rfl
    have hbg2 : b = g := hbg
    subst hbg2
    rw [cell_of_row w b (o + 0) _ s _ hg] at h1
    rw [Nat.add_zero] at h1
    cases o with
    | zero => simp at h1
    | succ o => simp at h1
theorem IxAt.far {w : World} {A : Option Addr} {L : List It} {g : Nat} {s : TypeId} {ds : List Value} (h : IxAt w A L) (hg : RowV w g s ds) (hs : s ≠ 58) (k : Nat) (v : Value) : IxAt (w.setCell ⟨g, k, none⟩ v) A L :=
  let ⟨t, h1, h2, h3⟩ := h; ⟨t, NodeAt.far hg hs k v h1, h2, h3⟩
theorem ops_take {os : List OpI} {k : Nat} {x : OpI} (hx : os[k]? = some x) : opsS (os.take (k + 1)) = opS (opsS (os.take k)) x := by
  unfold opsS
  rw [List.take_add_one, hx]
  simp
theorem ops_good : ∀ (os : List OpI) (k : Nat), k ≤ os.length → LGood k (opsS (os.take k))
  | os, 0, _ => by simpa [opsS] using LGood.nil
  | os, k + 1, h => by
    obtain ⟨x, hx⟩ : ∃ x, os[k]? = some x := ⟨_, List.getElem?_eq_getElem (by omega)⟩
    rw [ops_take hx]
    exact (ops_good os k (by omega)).op x
end Go.Proofs.YtcjeddichookmaaGreatDoor
namespace Go.Proofs.YtcjeddichookmaaGreatDoor
open Go.RowKit Go.Sort
set_option linter.unusedVariables false
set_option linter.unusedSimpArgs false
set_option maxRecDepth 100000
def e0 : It := ⟨(⟨#[97, 99, 109, 101, 47, 97, 32, 100, 101]⟩ : ByteArray), (⟨#[120]⟩ : ByteArray), 0, 1⟩
def e1 : It := ⟨(⟨#[97, 99, 109, 101, 47, 97, 47, 98, 32, 45]⟩ : ByteArray), (⟨#[120, 44, 121]⟩ : ByteArray), 0, 2⟩
def e2 : It := ⟨(⟨#[97, 99, 109, 101, 47, 97, 98, 32, 45]⟩ : ByteArray), ⟨#[]⟩, 0, 3⟩
def e3 : It := ⟨(⟨#[98, 111, 108, 116, 47, 97, 32, 45]⟩ : ByteArray), (⟨#[120]⟩ : ByteArray), 0, 4⟩
def SL : List It := [e0, e1, e2, e3]
theorem sp_x : splitR (⟨#[120]⟩ : ByteArray) = ([(⟨#[120]⟩ : ByteArray)], 0) := by
  have h1 : splitB 44 (⟨#[120]⟩ : ByteArray) = [(⟨#[120]⟩ : ByteArray)] := by kernel_rfl
  have h : tagsR [(⟨#[120]⟩ : ByteArray)] = ((⟨#[120]⟩ : ByteArray), 0) := by
    have hs : sortL (lists [(⟨#[120]⟩ : ByteArray)]) = [[120]] := sortL_of (by decide) (by decide)
    have ht : tagsL [(⟨#[120]⟩ : ByteArray)] = [120] := by
      unfold tagsL
      rw [hs]
      show Lib.join (Lib.compact [[120]]) [44] = [120]
      kernel_rfl
    unfold tagsR
    rw [ht, if_neg (by decide +kernel), if_neg (by decide)]
    rfl
  unfold splitR
  rw [h1, h, if_neg (by decide +kernel), if_pos (by decide +kernel)]
theorem sp_xy : splitR (⟨#[120, 44, 121]⟩ : ByteArray) = ([(⟨#[120]⟩ : ByteArray), (⟨#[121]⟩ : ByteArray)], 0) := by
  have h1 : splitB 44 (⟨#[120, 44, 121]⟩ : ByteArray) = [(⟨#[120]⟩ : ByteArray), (⟨#[121]⟩ : ByteArray)] := by kernel_rfl
  have h : tagsR [(⟨#[120]⟩ : ByteArray), (⟨#[121]⟩ : ByteArray)] = ((⟨#[120, 44, 121]⟩ : ByteArray), 0) := by
    have hs : sortL (lists [(⟨#[120]⟩ : ByteArray), (⟨#[121]⟩ : ByteArray)]) = [[120], [121]] := sortL_of (by decide) (by decide)
    have ht : tagsL [(⟨#[120]⟩ : ByteArray), (⟨#[121]⟩ : ByteArray)] = [120, 44, 121] := by
      unfold tagsL
      rw [hs]
      show Lib.join (Lib.compact [[120], [121]]) [44] = [120, 44, 121]
      kernel_rfl
    unfold tagsR
    rw [ht, if_neg (by decide +kernel), if_neg (by decide)]
    rfl
  unfold splitR
  rw [h1, h, if_neg (by decide +kernel), if_pos (by decide +kernel)]
theorem sp_no : splitR ⟨#[]⟩ = ([], 0) := by
  unfold splitR
  rw [if_pos (by decide +kernel)]
theorem va0 : validI e0 = true := by unfold validI e0; dsimp only; rw [sp_x]; kernel_rfl
theorem va1 : validI e1 = true := by unfold validI e1; dsimp only; rw [sp_xy]; kernel_rfl
theorem va2 : validI e2 = true := by unfold validI e2; dsimp only; rw [sp_no]; kernel_rfl
theorem va3 : validI e3 = true := by unfold validI e3; dsimp only; rw [sp_x]; kernel_rfl
theorem put3 : ixPutS [] e3 = ([e3], 0) := by unfold ixPutS; rw [va3]; kernel_rfl
theorem put2 : ixPutS [e3] e2 = ([e2, e3], 0) := by unfold ixPutS; rw [va2]; kernel_rfl
theorem put1 : ixPutS [e2, e3] e1 = ([e1, e2, e3], 0) := by unfold ixPutS; rw [va1]; kernel_rfl
theorem put0 : ixPutS [e1, e2, e3] e0 = ([e0, e1, e2, e3], 0) := by unfold ixPutS; rw [va0]; kernel_rfl
theorem up3 : UpI [e3] := List.pairwise_singleton _ _
theorem up2 : UpI [e2, e3] := by have := (LGood.op ⟨up3, Nat.le_refl _, fun x hx => by simp at hx; subst hx; exact va3⟩ ⟨false, e2⟩).up; unfold opS at this; rw [if_neg (by decide), put2] at this; exact this
theorem put_up {L M : List It} {x : It} (h : UpI L) (hp : ixPutS L x = (M, 0)) (hv : validI x = true) (hl : L.length ≤ 100) : UpI M := by
  unfold ixPutS at hp
  rw [if_pos hv, if_neg (by simp; omega)] at hp
  injection hp with hp _
  rw [← hp]
  exact up_put x h
theorem up1 : UpI [e1, e2, e3] := put_up up2 put1 va1 (by simp)
theorem up0 : UpI SL := put_up up1 put0 va0 (by simp)
theorem put_step (j : Nat) (hj : j < 4) (x : It) (hx : SL[j]? = some x) : ixPutS (SL.drop (j + 1)) x = (SL.drop j, 0) ∧ UpI (SL.drop (j + 1)) := by
  match j, hj, x, hx with
  | 0, _, _, rfl => exact ⟨put0, up1⟩
  | 1, _, _, rfl => exact ⟨put1, up2⟩
  | 2, _, _, rfl => exact ⟨put2, up3⟩
  | 3, _, _, rfl => exact ⟨put3, List.Pairwise.nil⟩
theorem ck1 : takeI 9 (ixFrom SL ⟨#[]⟩) = SL := by kernel_rfl
theorem ck2 : takeI 2 (ixFrom SL (⟨#[97, 99, 109, 101, 47, 97, 47]⟩ : ByteArray)) = [e1, e2] := by kernel_rfl
theorem ck3 : (((ixFrom SL (⟨#[97, 99, 109, 101, 47, 97]⟩ : ByteArray)).takeWhile fun y => bgB (⟨#[97, 99, 109, 101, 47, 97]⟩ : ByteArray) y.k).filter fun x => underB (⟨#[97, 99, 109, 101, 47, 97]⟩ : ByteArray) (adrI x)) = [e0, e1] := by kernel_rfl
theorem ck4 : (((ixFrom SL (⟨#[97, 99, 109, 101]⟩ : ByteArray)).takeWhile fun y => bgB (⟨#[97, 99, 109, 101]⟩ : ByteArray) y.k).filter fun x => underB (⟨#[97, 99, 109, 101]⟩ : ByteArray) (adrI x)) = [e0, e1, e2] := by kernel_rfl
theorem tg0 : tagB e0 (⟨#[97, 99, 109, 101]⟩ : ByteArray) (⟨#[120]⟩ : ByteArray) = true := by
  unfold tagB hasTagB e0; dsimp only; rw [sp_x]; kernel_rfl
theorem tg1 : tagB e1 (⟨#[97, 99, 109, 101]⟩ : ByteArray) (⟨#[120]⟩ : ByteArray) = true := by
  unfold tagB hasTagB e1; dsimp only; rw [sp_xy]; kernel_rfl
theorem tg2 : tagB e2 (⟨#[97, 99, 109, 101]⟩ : ByteArray) (⟨#[120]⟩ : ByteArray) = false := by
  unfold tagB hasTagB e2; dsimp only; rw [sp_no]; kernel_rfl
theorem tg3 : tagB e3 (⟨#[98, 111, 108, 116]⟩ : ByteArray) (⟨#[121]⟩ : ByteArray) = false := by
  unfold tagB hasTagB e3; dsimp only; rw [sp_x]; kernel_rfl
theorem ck5 : (((ixFrom SL (⟨#[97, 99, 109, 101]⟩ : ByteArray)).takeWhile fun y => bgB (⟨#[97, 99, 109, 101]⟩ : ByteArray) y.k).filter fun x => tagB x (⟨#[97, 99, 109, 101]⟩ : ByteArray) (⟨#[120]⟩ : ByteArray)) = [e0, e1] := by
  have h : ((ixFrom SL (⟨#[97, 99, 109, 101]⟩ : ByteArray)).takeWhile fun y => bgB (⟨#[97, 99, 109, 101]⟩ : ByteArray) y.k) = [e0, e1, e2] := by kernel_rfl
  rw [h]
  simp [List.filter_cons, tg0, tg1, tg2]
theorem ck6 : (((ixFrom SL (⟨#[98, 111, 108, 116]⟩ : ByteArray)).takeWhile fun y => bgB (⟨#[98, 111, 108, 116]⟩ : ByteArray) y.k).filter fun x => tagB x (⟨#[98, 111, 108, 116]⟩ : ByteArray) (⟨#[121]⟩ : ByteArray)) = [] := by
  have h : ((ixFrom SL (⟨#[98, 111, 108, 116]⟩ : ByteArray)).takeWhile fun y => bgB (⟨#[98, 111, 108, 116]⟩ : ByteArray) y.k) = [e3] := by kernel_rfl
  rw [h]
  simp [List.filter_cons, tg3]
end Go.Proofs.YtcjeddichookmaaGreatDoor
namespace Go.Proofs.YtcjeddichookmaaGreatDoor
open Go.RowKit Go.Sort
set_option linter.unusedVariables false
set_option linter.unusedSimpArgs false
set_option maxRecDepth 100000
def SC : List Value := [.string (⟨#[97, 99, 109, 101, 47, 97, 32, 100, 101]⟩ : ByteArray), .string (⟨#[120]⟩ : ByteArray), .int .i64 0, .int .i64 1, .string (⟨#[97, 99, 109, 101, 47, 97, 47, 98, 32, 45]⟩ : ByteArray), .string (⟨#[120, 44, 121]⟩ : ByteArray), .int .i64 0, .int .i64 2, .string (⟨#[97, 99, 109, 101, 47, 97, 98, 32, 45]⟩ : ByteArray), .string ⟨#[]⟩, .int .i64 0, .int .i64 3, .string (⟨#[98, 111, 108, 116, 47, 97, 32, 45]⟩ : ByteArray), .string (⟨#[120]⟩ : ByteArray), .int .i64 0, .int .i64 4]
theorem sc_row {w : World} {g : Nat} (h : RowV w g 34 SC) : ItsRead w (some ⟨g, 0, none⟩) 4 SL :=
  ⟨rfl, by rfl, fun _ => ⟨g, 0, rfl, fun j u hu => by rw [Nat.zero_add]; exact h.cell (show SC[j]? = some u from hu)⟩⟩
theorem ItsRead.sub {w : World} {b o n : Nat} {L : List It} (h : ItsRead w (some ⟨b, o, none⟩) n L) (i m : Nat) (hm : i + m ≤ n) : ItsRead w (some ⟨b, o + 4 * i, none⟩) m ((L.drop i).take m) := by
  have hl := h.len
  refine ⟨by rw [List.length_take, List.length_drop]; omega, by rw [itsC_len, List.length_take, List.length_drop, Nat.min_eq_left (by omega)], fun h0 => ⟨b, o + 4 * i, rfl, fun j u hu => ?_⟩⟩
  obtain ⟨b', o', e, hc⟩ := h.rows.2 (by omega)
  injection e with e
  injection e with e1 e2 _
  subst e1; subst e2
  have hjl : j < ((L.drop i).take m).length * 4 := by
    have := (List.getElem?_eq_some_iff.1 hu).1
    rwa [itsC_len] at this
  rw [List.length_take, List.length_drop] at hjl
  obtain ⟨x, hx⟩ : ∃ x, L[i + j / 4]? = some x := ⟨_, List.getElem?_eq_getElem (by omega)⟩
  have hx2 : ((L.drop i).take m)[j / 4]? = some x := by rw [List.getElem?_take_of_lt (by omega), List.getElem?_drop]; exact hx
  have h1 := itsC_at L (i + j / 4) (j % 4) x hx (by omega)
  have h2 := itsC_at ((L.drop i).take m) (j / 4) (j % 4) x hx2 (by omega)
  rw [show 4 * (j / 4) + j % 4 = j by omega] at h2
  rw [h2, ← h1, show 4 * (i + j / 4) + j % 4 = 4 * i + j by omega] at hu
  rw [show o + 4 * i + j = o + (4 * i + j) by omega]
  exact hc _ _ hu
def ItsN (n : Nat) (L : List It) (w : World) (e : Ending) (w' : World) : Prop := ∃ A c, e = .returned (.slice A n c) ∧ ItsRead w' A n L ∧ Below w.heap.size w w'
theorem its_n {n : Nat} {L : List It} {w w' : World} {e : Ending} (hn : L.length = n) (h : ItsPost L w e w') : ItsN n L w e w' := by subst hn; exact h
set_option maxHeartbeats 8000000 in
theorem sanity15_any (w : World) (hE : Env w) (hK : Ks w) : Calls Tryz.prog 5 #[] w (Ret w (.bool true)) := by
  have hnew := fun W => new_any W
  have HNW := Lib.hid hnew; have HE := Lib.hid hE; have HK := Lib.hid hK
  clear hnew hE hK
  go_enter Tryz.func5, Tryz.ntmps5
  go_upto_region 2 with fail
  have hS0 : RowV (w.alloc (.cells SC.toArray 34)) w.heap.size 34 SC := RowV.new w _ SC
  have hb0 : Below w.heap.size w (w.alloc (.cells SC.toArray 34)) := balloc (Below.refl _ _) _
  unfold SC at hS0 hb0
  generalize hw0 : World.alloc _ _ = w0 at *
  clear hw0
  have HS0 := Lib.hid hS0
  clear hS0
  go_upto_region 3 with (go_at_call 6; refine (HNW.out _).mono ?_; rintro e w1 ⟨rfl, hb1⟩)
  have hS1 := HS0.out.keep hb1
  have hX2 := RowV.new w1 27 [.pointer none]
  have hS2 := hS1.alloc (.cells #[.pointer none] 27)
  have hb2 : Below w.heap.size w (w1.alloc (.cells #[.pointer none] 27)) := balloc (bstep hb0 hb1) _
  have hg2 : w.heap.size < w1.heap.size := hS1.lt
  generalize hw2 : w1.alloc (.cells #[.pointer none] 27) = w2 at *
  generalize w1.heap.size = g2 at *
  have HS2 := Lib.hid hS2; have HX2 := Lib.hid hX2; have HB2 := Lib.hid hb2
  clear hw2 hb0 hb1 hS1 hX2 hS2 hb2 HS0 HNW
  go_wp2
  go_loopw [3] (fun vi wr => ∃ (j : Nat) (z : Int) (P : Option Addr), (vi = .int .i64 z ∧ z = (j : Int) - 1 ∧ j ≤ 4) ∧ RowV wr g2 27 [.pointer P] ∧ Hid (IxAt wr P (SL.drop j)) ∧ Below w.heap.size w wr ∧ Hid (RowV wr w.heap.size 34 SC)) (fun vi _ => (intOf vi + 1).toNat)
  case atStart => exact ⟨4, 3, none, ⟨rfl, rfl, Nat.le_refl _⟩, HX2.out, Lib.hid (IxAt.nil_ _), HB2.out, HS2⟩
  case round =>
    clear HX2 HB2
    obtain ⟨j, z, P, ⟨rfl, hz, hj⟩, hX, HI, hbr, HSR⟩ := hrel
    by_cases h0 : j = 0
    · subst h0
      have hz1 : z = -1 := by omega
      subst hz1
      clear hz
      have hI : IxAt wr P SL := HI.out
      have hLr := sc_row HSR.out
      have x5 := hX.cell (k := 0) rfl
      have f1 := fun W (h : IxAt W P SL) => ixFrom_any P SL ⟨#[]⟩ 9 W h up0 (by simp [SL])
      have f2 := fun W (h : IxAt W P SL) => ixFrom_any P SL (⟨#[97, 99, 109, 101, 47, 97, 47]⟩ : ByteArray) 2 W h up0 (by simp [SL])
      rw [ck1] at f1
      rw [ck2] at f2
      replace f1 := fun W h => (f1 W h).mono fun _ _ h => its_n (n := 4) rfl h
      replace f2 := fun W h => (f2 W h).mono fun _ _ h => its_n (n := 2) rfl h
      have hsz : ∀ x ∈ SL, x.k.size ≤ 100000 ∧ x.t.size ≤ 100000 := fun x hx => by
        simp only [SL, List.mem_cons, List.not_mem_nil, or_false] at hx
        rcases hx with rfl | rfl | rfl | rfl <;> exact ⟨by decide +kernel, by decide +kernel⟩
      have f3 := fun W (h : IxAt W P SL) (hb : Below w.heap.size w W) => ixUnder_any P SL (⟨#[97, 99, 109, 101, 47, 97]⟩ : ByteArray) W h up0 (by simp [SL]) (fun x hx => (hsz x hx).1) (by decide +kernel) (Env.keep HE.out hb)
      have f4 := fun W (h : IxAt W P SL) (hb : Below w.heap.size w W) => ixUnder_any P SL (⟨#[97, 99, 109, 101]⟩ : ByteArray) W h up0 (by simp [SL]) (fun x hx => (hsz x hx).1) (by decide +kernel) (Env.keep HE.out hb)
      rw [ck3] at f3
      rw [ck4] at f4
      replace f3 := fun W h hb => (f3 W h hb).mono fun _ _ h => its_n (n := 2) rfl h
      replace f4 := fun W h hb => (f4 W h hb).mono fun _ _ h => its_n (n := 3) rfl h
      have f5 := fun W (h : IxAt W P SL) (hb : Below w.heap.size w W) => ixTagged_any P SL (⟨#[97, 99, 109, 101]⟩ : ByteArray) (⟨#[120]⟩ : ByteArray) W h up0 (by simp [SL]) hsz (Env.keep HE.out hb)
      have f6 := fun W (h : IxAt W P SL) (hb : Below w.heap.size w W) => ixTagged_any P SL (⟨#[98, 111, 108, 116]⟩ : ByteArray) (⟨#[121]⟩ : ByteArray) W h up0 (by simp [SL]) hsz (Env.keep HE.out hb)
      rw [ck5] at f5
      rw [ck6] at f6
      replace f5 := fun W h hb => (f5 W h hb).mono fun _ _ h => its_n (n := 2) rfl h
      replace f6 := fun W h hb => (f6 W h hb).mono fun _ _ h => its_n (n := 0) rfl h
      have f7 := fun W (h : IxAt W P SL) => ixLen_any P SL W h
      have F1 := Lib.hid f1; have F2 := Lib.hid f2; have F3 := Lib.hid f3; have F4 := Lib.hid f4; have F5 := Lib.hid f5; have F6 := Lib.hid f6; have F7 := Lib.hid f7; have HII := Lib.hid hI; have HLR := Lib.hid hLr
      clear f1 f2 f3 f4 f5 f6 f7 hI hLr hsz HI HSR
      go_upto_region 10 with fail
      go_cut [6] (fun s6 wx => s6 = .bool true ∧ Below wr.heap.size wr wx)
      case first =>
        go_region_held3 (fun w' => w'.cell? ⟨g2, 0, none⟩ = some (.pointer P) ∧ Below wr.heap.size wr w')
          (first | (go_split_ands; refine (fun (hB : Below wr.heap.size wr _) => (⟨cell_keep hB x5, hB⟩ : _ ∧ _)) ?_; (repeat (first | exact .refl _ _ | assumption | refine .drew ?_ | refine balloc ?_ _ | refine bdrewN ?_ _ | refine .setCell ?_ (by simp <;> omega) _ | refine bstep ?_ (by assumption)))) | (refine (fun (hB : Below wr.heap.size wr _) => (⟨cell_keep hB x5, hB⟩ : _ ∧ _)) ?_; (repeat (first | exact .refl _ _ | assumption | refine .drew ?_ | refine balloc ?_ _ | refine bdrewN ?_ _ | refine .setCell ?_ (by simp <;> omega) _ | refine bstep ?_ (by assumption)))))
          (first | (go_at_call 7; go_split_ands; refine (F1.out _ (HII.out.keep ‹_›)).mono ?_; rintro e wa1 ⟨A1, a1, rfl, r1, hba1⟩; clear F1) | (go_at_call 7; go_split_ands; refine (F2.out _ (HII.out.keep ‹_›)).mono ?_; rintro e wa2 ⟨A2, a2, rfl, r2, hba2⟩; clear F2) | (go_at_call 13; go_split_ands; refine (F3.out _ (HII.out.keep ‹_›) (bstep hbr ‹_›)).mono ?_; rintro e wa3 ⟨A3, a3, rfl, r3, hba3⟩; clear F3) | (go_at_call 13; go_split_ands; refine (F4.out _ (HII.out.keep ‹_›) (bstep hbr ‹_›)).mono ?_; rintro e wa4 ⟨A4, a4, rfl, r4, hba4⟩; clear F4) | (go_at_call 10; go_split_ands; refine (rSame15_eq _ _ 4 _ _ _ _ r1 (HLR.out.keep ‹_›) (by decide)).mono ?_; rintro e wb1 ⟨rfl, hbb1⟩; clear r1) | (go_at_call 10; go_split_ands; refine (rSame15_eq _ _ 2 _ _ _ _ r2 ((HLR.out.keep ‹_›).sub 1 2 (by decide)) (by decide)).mono ?_; rintro e wb2 ⟨rfl, hbb2⟩; clear r2) | (go_at_call 10; go_split_ands; refine (rSame15_eq _ _ 2 _ _ _ _ r3 ((HLR.out.keep ‹_›).sub 0 2 (by decide)) (by decide)).mono ?_; rintro e wb3 ⟨rfl, hbb3⟩; clear r3) | (go_at_call 10; go_split_ands; refine (rSame15_eq _ _ 3 _ _ _ _ r4 ((HLR.out.keep ‹_›).sub 0 3 (by decide)) (by decide)).mono ?_; rintro e wb4 ⟨rfl, hbb4⟩; clear r4))
        all_goals go_wp2_with fail
        all_goals go_meet
        all_goals exact ⟨rfl, by first | assumption | (go_split_ands; assumption)⟩
      case rest =>
        obtain ⟨rfl, hbx⟩ := hcut
        go_upto_region 11 with fail
        go_region_held3 (fun w' => w'.cell? ⟨g2, 0, none⟩ = some (.pointer P) ∧ Below wr.heap.size wr w')
          (first | (go_split_ands; refine (fun (hB : Below wr.heap.size wr _) => (⟨cell_keep hB x5, hB⟩ : _ ∧ _)) ?_; (repeat (first | exact .refl _ _ | assumption | refine .drew ?_ | refine balloc ?_ _ | refine bdrewN ?_ _ | refine .setCell ?_ (by simp <;> omega) _ | refine bstep ?_ (by assumption)))) | (refine (fun (hB : Below wr.heap.size wr _) => (⟨cell_keep hB x5, hB⟩ : _ ∧ _)) ?_; (repeat (first | exact .refl _ _ | assumption | refine .drew ?_ | refine balloc ?_ _ | refine bdrewN ?_ _ | refine .setCell ?_ (by simp <;> omega) _ | refine bstep ?_ (by assumption)))))
          (first | (go_at_call 14; go_split_ands; refine (F5.out _ (HII.out.keep ‹_›) (bstep hbr ‹_›)).mono ?_; rintro e wa5 ⟨A5, a5, rfl, r5, hba5⟩; clear F5) | (go_at_call 14; go_split_ands; refine (F6.out _ (HII.out.keep ‹_›) (bstep hbr ‹_›)).mono ?_; rintro e wa6 ⟨A6, a6, rfl, r6, hba6⟩; clear F6) | (go_at_call 11; go_split_ands; refine (F7.out _ (HII.out.keep ‹_›)).mono ?_; rintro e wa7 ⟨rfl, hba7⟩; clear F7) | (go_at_call 10; go_split_ands; refine (rSame15_eq _ _ 2 _ _ _ _ r5 ((HLR.out.keep ‹_›).sub 0 2 (by decide)) (by decide)).mono ?_; rintro e wb5 ⟨rfl, hbb5⟩; clear r5))
        all_goals go_wp2_with fail
        all_goals go_ret
        all_goals exact ⟨rfl, bstep hbr (by first | assumption | (go_split_ands; assumption))⟩
    · obtain ⟨j', rfl⟩ : ∃ j', j = j' + 1 := ⟨j - 1, by omega⟩
      have hz1 : z = (j' : Int) := by omega
      subst hz1
      have hj4 : j' < 4 := by omega
      obtain ⟨x, hx⟩ : ∃ x, SL[j']? = some x := ⟨_, List.getElem?_eq_getElem (show j' < SL.length from hj4)⟩
      have hL := sc_row HSR.out
      obtain ⟨c0, c1, c2, c3⟩ := hL.cells_at hx
      obtain ⟨hps, hup⟩ := put_step j' hj4 x hx
      have hsm : x.k.size ≤ 300 ∧ x.t.size ≤ 300 := by
        match j', hj4, x, hx with
        | 0, _, _, rfl => exact ⟨by decide +kernel, by decide +kernel⟩
        | 1, _, _, rfl => exact ⟨by decide +kernel, by decide +kernel⟩
        | 2, _, _, rfl => exact ⟨by decide +kernel, by decide +kernel⟩
        | 3, _, _, rfl => exact ⟨by decide +kernel, by decide +kernel⟩
      have hpt := fun W (h : IxAt W P (SL.drop (j' + 1))) (hb : Below w.heap.size w W) => ixPut_any P (SL.drop (j' + 1)) x W h hup (by rw [List.length_drop]; simp [SL]; omega) (by omega) (by omega) (Env.keep HE.out hb) (HK.out.keep hb)
      unfold IxPutP at hpt
      rw [hps] at hpt
      have HPTT := Lib.hid hpt
      have hj0 : (0 : Int) ≤ (j' : Int) := by omega
      have hj4b : (j' : Int) < 4 := by omega
      have x5 := hX.cell (k := 0) rfl
      have x6 := hX.free 0
      simp only [Nat.zero_add] at c0 c1 c2 c3
      clear hpt hps hup hL hz hx hsm
      go_upto_region 6 with fail
      go_cut [4, 5] (fun s8 s9 wx => ∃ (g : Nat) (Q : Option Addr), s8 = .pointer (some ⟨g, 0, none⟩) ∧ s9 = .int .i64 0 ∧ wr.heap.size ≤ g ∧ RowV wx g 27 [.pointer Q] ∧ IxAt wx Q (SL.drop j') ∧ Below wr.heap.size wr wx)
      case first =>
        go_region_held3 (fun w' => w'.cell? ⟨g2, 0, none⟩ = some (.pointer P) ∧ w'.cell? ⟨w.heap.size, j' * 4, none⟩ = some (.string x.k) ∧ w'.cell? ⟨w.heap.size, j' * 4 + 1, none⟩ = some (.string x.t) ∧ w'.cell? ⟨w.heap.size, j' * 4 + 2, none⟩ = some (.int .i64 x.z) ∧ w'.cell? ⟨w.heap.size, j' * 4 + 3, none⟩ = some (.int .i64 x.r) ∧ Below wr.heap.size wr w')
          (first | (go_split_ands; refine (fun (hB : Below wr.heap.size wr _) => (⟨cell_keep hB x5, cell_keep hB c0, cell_keep hB c1, cell_keep hB c2, cell_keep hB c3, hB⟩ : _ ∧ _ ∧ _ ∧ _ ∧ _ ∧ _)) ?_; (repeat (first | exact .refl _ _ | assumption | refine .drew ?_ | refine balloc ?_ _ | refine bdrewN ?_ _ | refine .setCell ?_ (by simp <;> omega) _ | refine bstep ?_ (by assumption)))) | (refine (fun (hB : Below wr.heap.size wr _) => (⟨cell_keep hB x5, cell_keep hB c0, cell_keep hB c1, cell_keep hB c2, cell_keep hB c3, hB⟩ : _ ∧ _ ∧ _ ∧ _ ∧ _ ∧ _)) ?_; (repeat (first | exact .refl _ _ | assumption | refine .drew ?_ | refine balloc ?_ _ | refine bdrewN ?_ _ | refine .setCell ?_ (by simp <;> omega) _ | refine bstep ?_ (by assumption)))))
          (first | (go_at_call 9; go_split_ands; refine (HPTT.out _ (HI.out.keep ‹_›) (bstep hbr ‹_›)).mono ?_; rintro e w3 ⟨Q, rfl, hix, hb3⟩; first | (have hn : RowV w3 wr.heap.size 27 [.pointer none] := RowV.keep (w := (wr.alloc (.cells #[.pointer none] 27)).drew) (RowV.new wr 27 [.pointer none]) hb3; have n0 := hn.cell (k := 0) rfl; have n1 := hn.free 0) | skip))
        all_goals go_wp2_with fail
        all_goals go_meet
        · exact ⟨_, Q, rfl, rfl, by have := hb3.size; exact this, RowV.new w3 27 [.pointer Q], hix.keep (balloc (Below.refl _ _) _), balloc (bstep (Below.drew (Below.refl _ _)) hb3) _⟩
        · exact ⟨_, Q, rfl, rfl, Nat.le_refl _, hn.set_ 0 _, hix.far hn (by decide) 0 _, (bstep (Below.drew (balloc (Below.refl _ _) _)) hb3).setCell (by simp) _⟩
      case rest =>
        obtain ⟨g, Q, rfl, rfl, hgg, hgR, hix, hbx⟩ := hcut
        have HIX := Lib.hid hix
        have hX2 := hX.keep hbx
        have y5 := hX2.cell (k := 0) rfl
        have yg := hgR.cell (k := 0) rfl
        have yf := hX2.free 0
        clear HPTT c0 c1 c2 c3 x5 x6 hix
        go_wp2
        exact ⟨⟨j', (j' : Int) - 1, Q, ⟨rfl, rfl, by omega⟩, hX2.set_ 0 _, Lib.hid (HIX.out.far hX2 (by decide) 0 _), (bstep hbr hbx).setCell (by simp; omega) _, Lib.hid ((HSR.out.keep hbx).far _ _ (by simp; omega))⟩, by simp [intOf] <;> omega⟩
end Go.Proofs.YtcjeddichookmaaGreatDoor
