/- Items from a key on: From. -/
import Derived.Test.YtcjeddichookmaaGreatDoorIZ19
import Derived.Test.YtcjeddichookmaaGreatDoorIZ7
import Derived.Test.YtcjeddichookmaaGreatDoorIZ16
import Derived.Test.YtcjeddichookmaaGreatDoorProg
import Derived.WalkKit
import Derived.WalkSpells
import Derived.WalkLawsBesides
import Derived.Below
import Derived.Deep.QuietTactic
import Derived.BigQuiet
import Derived.Lib.QuietBelow
import Derived.Lib.Strings
import Derived.Lib.Hide
import Derived.Deep.RegionWith
import Derived.Deep.RegionHeld3
import Derived.Lib.IndexBytes
import Derived.Test.YtcjeddichookmaaGreatDoorIZ9
import Derived.Test.YtcjeddichookmaaGreatDoorIZ13
import Derived.Test.YtcjeddichookmaaGreatDoorIZ14
import Derived.Test.YtcjeddichookmaaGreatDoorIZ15
import Derived.Test.YtcjeddichookmaaGreatDoorIZ12
import Derived.OwnWalk
import Derived.Test.YtcjeddichookmaaGreatDoorIZ11
import Derived.Deep.RegionHeldLaw
import Derived.Deep.RegionLaw
namespace Go.Proofs.YtcjeddichookmaaGreatDoor
open Go.RowKit Go.Sort
set_option linter.unusedVariables false
set_option linter.unusedSimpArgs false
set_option maxRecDepth 100000
attribute [local go_sem] Oper.semAt_some
def obIt : Value → Obj
  | .agg X => .cells X 34
  | _ => .cells #[] 34
def FrS (w : World) (q : Int) (acc : List It) (W : World) : Prop :=
  (∃ v, Boxed W (w.heap.size + 2) 31 v ∧ W.ownsRow w.heap.size 34 4 v acc.length (itsC acc) ∧ True) ∧ Boxed W (w.heap.size + 1) 3 (.int .i64 q) ∧ Below w.heap.size w W ∧ w.heap.size + 5 ≤ W.heap.size
theorem frS_own {β : Type} (w : World) (q : Int) (acc : β → List It) (B : Nat) (hB : w.heap.size ≤ B) : OwnFrom B (fun s W => FrS w q (acc s) W) := by
  rintro s W W' row ⟨h2, h3, h5, h6⟩ hg hr
  have hr' := fun r e => (hr r e).2
  exact ⟨holdsRow_own w.heap.size (w.heap.size + 2) 31 34 4 (fun o : List It => o.length) (fun o => itsC o) (fun _ _ => True) (acc s) W W' row h2 hg hr', boxed_own1 _ _ _ W W' row h3 hg hr', h5.grown hg (by omega) (fun r e => by have := (hr r e).1; omega), Nat.le_trans h6 hg.size⟩
theorem its_post {w W : World} {acc : List It} {v : Value} (h : W.ownsRow w.heap.size 34 4 v acc.length (itsC acc)) (hb : Below w.heap.size w W) : ItsPost acc w (.returned v) W := by
  obtain ⟨A, c, rfl⟩ : ∃ A c, v = .slice A acc.length c := by
    rcases h.2 with ⟨hv, h0⟩ | ⟨g, cap, cur, hv, _⟩
    · exact ⟨none, 0, by rw [hv, h0]⟩
    · exact ⟨_, _, hv⟩
  exact ⟨A, c, rfl, its_own h rfl, hb⟩
set_option maxHeartbeats 4000000 in
theorem ixFrom_any (A : Option Addr) (L : List It) (key : ByteArray) (q : Int) (w : World) (h : IxAt w A L) (hu : UpI L) (hn : L.length ≤ 1000) : Calls Tryz.prog 7 #[.agg #[.pointer A], .string key, .int .i64 q] w (ItsPost (takeI q (ixFrom L key)) w) := by
  obtain ⟨i0, hi0, hz0, hz1, hz2⟩ := info_parts infoItem
  have eg : ∀ args w, (callFunc 31 args).run Tryz.prog w = .ok (.enter 31 args) w := enters_of Tryz.func31 (by kernel_rfl) rfl
  have hfl : (ixFrom L key).length ≤ 1000 := Nat.le_trans (List.length_filter_le _ _) hn
  obtain ⟨W0, hW0⟩ : ∃ W0, W0 = ((((w.alloc (.cells #[.pointer A] 27)).alloc (.cells #[.int .i64 q] 3)).alloc (.cells #[.slice none 0 0] 31)).alloc (.cells #[.pointer A] 25)).alloc (.cells #[.string key] 9) := ⟨_, rfl⟩
  have hbW : Below w.heap.size w W0 := by rw [hW0]; exact belB
  have b3 : Boxed W0 (w.heap.size + 2) 31 (.slice none 0 0) := by rw [hW0]; exact RowV.alloc (RowV.alloc (by have h := RowV.new ((w.alloc (.cells #[.pointer A] 27)).alloc (.cells #[.int .i64 q] 3)) 31 [.slice none 0 0]; rwa [World.size_alloc, World.size_alloc] at h) _) _
  have b2 : Boxed W0 (w.heap.size + 1) 3 (.int .i64 q) := by rw [hW0]; exact RowV.alloc (RowV.alloc (RowV.alloc (by have h := RowV.new (w.alloc (.cells #[.pointer A] 27)) 3 [.int .i64 q]; rwa [World.size_alloc] at h) _) _) _
  have hB1 : W0.cell? ⟨w.heap.size + 3, 0, none⟩ = some (.pointer A) := RowV.cell (t := 25) (cs := [.pointer A]) (k := 0) (by rw [hW0]; exact RowV.alloc (by have h := RowV.new (((w.alloc (.cells #[.pointer A] 27)).alloc (.cells #[.int .i64 q] 3)).alloc (.cells #[.slice none 0 0] 31)) 25 [.pointer A]; rwa [World.size_alloc, World.size_alloc, World.size_alloc] at h) _) rfl
  have hB2 : W0.cell? ⟨w.heap.size + 4, 0, none⟩ = some (.string key) := RowV.cell (t := 9) (cs := [.string key]) (k := 0) (by rw [hW0]; have h := RowV.new ((((w.alloc (.cells #[.pointer A] 27)).alloc (.cells #[.int .i64 q] 3)).alloc (.cells #[.slice none 0 0] 31)).alloc (.cells #[.pointer A] 25)) 9 [.string key]; rwa [World.size_alloc, World.size_alloc, World.size_alloc, World.size_alloc] at h) rfl
  have hseq := from_iter (w.heap.size + 3) (w.heap.size + 4) A key L w W0 hbW hB1 hB2 h hu
  have hsz : w.heap.size + 5 ≤ W0.heap.size := by rw [hW0]; simp [World.size_alloc]
  have HW0 := Lib.hid hW0
  have hlv : (itsV (ixFrom L key)).length = (ixFrom L key).length := by simp [itsV]
  obtain ⟨F, hF⟩ : ∃ F, F = ixFrom L key := ⟨_, rfl⟩
  rw [← hF] at hseq hfl hlv ⊢
  clear hF h hu hn hB1 hB2
  refine (callsIn_wide (n := 0)).1 ?_
  refine callsIn_of_wp_marks Tryz.func7 rfl trivial ?_ rfl
  simp only [Tryz.ntmps7, List.size_toArray, List.length_cons, List.length_nil, Nat.reduceAdd, Nat.reduceSub, Array.replicate_succ, Array.replicate_zero, List.push_toArray, List.append_toArray, List.nil_append, List.cons_append]
  gi_wp2_with (refine ⟨trivial, rfl, ?_⟩; gi_at_call 15; refine (callsIn_wide.2 (from_any _ _ _)).mono ?_; rintro e w' ⟨rfl, hw⟩; rw [hw])
  rw [← HW0.out]
  clear HW0 hW0
  refine range_box (gf := 31) (lb := #[.pointer (some ⟨w.heap.size + 3, 0, none⟩), .pointer (some ⟨w.heap.size + 4, 0, none⟩)]) rfl eg hseq (Below.refl _ _) hbW.size (fun k => FrS w q (takeI q (F.take k))) (fun c W => c = .exit 0 ∧ FrS w q (takeI q F) W)
    (frS_own w q (fun k => takeI q (F.take k)) _ hbW.size) (fun c => fun s W W' row h hg hr => ⟨h.1, frS_own (β := Unit) w q (fun _ => takeI q F) _ hbW.size s W W' row h.2 hg hr⟩) ⟨⟨_, b3, by rw [show takeI q (F.take 0) = [] by simp [takeI]]; exact World.ownsRow_nil _ _ _ _, trivial⟩, b2, hbW, hsz⟩
    (fun _ _ _ _ h => h.elim) (fun _ _ h => h.elim) obIt
    (fun x g => { tmps := #[.agg #[.pointer A], .string key, .int .i64 q, .pointer (some ⟨w.heap.size, 0, none⟩), undef, .pointer (some ⟨w.heap.size + 1, 0, none⟩), .slice none 0 0, .pointer (some ⟨w.heap.size + 1 + 1, 0, none⟩), .pointer (some ⟨g, 0, none⟩), .pointer (some ⟨w.heap.size, 0, none⟩), .pointer A, .string key, .func (.func 31) #[] #[.pointer (some ⟨w.heap.size + 1 + 1 + 1, 0, none⟩), .pointer (some ⟨w.heap.size + 1 + 1 + 1 + 1, 0, none⟩)], x, undef, undef, undef, undef, undef, undef, undef, undef, undef], defers := [] }) ?assign ?body ?done ?stop
  case assign =>
    intro l x W K hx hK
    obtain ⟨i, hi⟩ := List.mem_iff_getElem?.1 hx
    obtain ⟨y, hy, rfl⟩ := itsV_of hi
    clear hx hi hy
    gi_wp2
    exact hK
  case body =>
    rintro l k g x W hx ⟨⟨v, hv, hrow, _⟩, hq, hbw, hsz6⟩ hgl hg
    obtain ⟨y, hy, rfl⟩ := itsV_of hx
    have hkl : k < F.length := (List.getElem?_eq_some_iff.1 hy).1
    have htk : F.take (k + 1) = F.take k ++ [y] := by rw [List.take_add_one, hy]; rfl
    have hit : RowV W g 34 [.string y.k, .string y.t, .int .i64 y.z, .int .i64 y.r] := hg
    have hml : (takeI q (F.take k)).length ≤ 1000 := by unfold takeI; rw [List.length_take, List.length_take]; omega
    have HTK := Lib.hid htk
    obtain ⟨acc, hacc⟩ : ∃ acc, acc = takeI q (F.take k) := ⟨_, rfl⟩
    rw [← hacc] at hrow hml
    obtain ⟨m, hm⟩ : ∃ m, m = acc.length := ⟨_, rfl⟩
    rw [← hm] at hrow hml
    obtain ⟨A', c, rfl⟩ : ∃ A c, v = .slice A m c := by
      rcases hrow.2 with ⟨hv, h0⟩ | ⟨g, cap, cur, hv, _⟩
      · exact ⟨none, 0, by rw [hv, h0]⟩
      · exact ⟨_, _, hv⟩
    have c4 := hv.cell
    have f4 := hv.frozen
    have c5 := hq.cell
    have d0 := hit.cell (k := 0) rfl
    have d1 := hit.cell (k := 1) rfl
    have d2 := hit.cell (k := 2) rfl
    have d3 := hit.cell (k := 3) rfl
    have HA := Lib.hid hacc; have HM := Lib.hid hm; have HY := Lib.hid hy
    clear hx hy htk hacc hm hseq
    by_cases hlt : (m : Int) < q
    · have hge : ¬ q ≤ (m : Int) := by omega
      have hne := takeI_yes (q := q) (F := F.take k) y (by rw [← HA.out, ← HM.out]; exact hlt)
      have HNE := Lib.hid hne
      clear hne
      gi_wp2_with (gi_at_builtin; refine wpListIn_append_own _ rfl _ _ 31 rfl w.heap.size 34 i0 (.agg #[.string ⟨#[]⟩, .string ⟨#[]⟩, .int .i64 0, .int .i64 0]) 4 48 Tryz.underlying31 hi0 hz0 hz1 hz2 rfl (by decide) _ _ _ rfl (hrow.alloc _) ⟨W.heap.size, 0, none⟩ 1 1 [.string y.k, .string y.t, .int .i64 y.z, .int .i64 y.r] rfl rfl (World.news_of_block (cs := #[.string y.k, .string y.t, .int .i64 y.z, .int .i64 y.r]) (t := 34) (fr := (0, 0)) (World.alloc_heap_new W _)) (by simp [Value.oneCell']) (by unfold maxLen; omega) (by omega) (by have := hbw.size; simp; omega) ?_; intro v' w3 hown' hgrow _; obtain ⟨g', cap', rfl⟩ := ownsRow_succ hown'; obtain ⟨hv1, hvs, hrs, hk2, hbs⟩ := hv.appended (by decide) hrow hbw.size (by omega) hown' hgrow; have hq1 := (hq.alloc (.cells #[.string y.k, .string y.t, .int .i64 y.z, .int .i64 y.r] 34)).kept hgrow (hq.not_row (by decide) hrow); have c6 := hv1.cell; have f6 := hv1.frozen)
      refine ⟨hk2.from _, Below.keepsIn hbs (Nat.le_refl _), ?_⟩
      show FrS w q (takeI q (F.take (k + 1))) _
      rw [HTK.out, HNE.out]
      refine ⟨⟨_, hvs, ?_, trivial⟩, boxed_far hq1 (by simp) _, hbw.trans hbs, Nat.le_trans hsz6 hbs.size⟩
      rw [List.length_append, ← HA.out, ← HM.out, itsC_app]
      exact hrs
    · have hge : q ≤ (m : Int) := by omega
      have hfin : acc = takeI q F := by
        rw [HA.out]
        have h8 := HM.out
        rw [HA.out] at h8
        unfold takeI at h8 ⊢
        rw [List.length_take, List.length_take] at h8
        rw [List.take_take]
        congr 1
        omega
      have HF := Lib.hid hfin
      clear hfin
      gi_wp2
      refine ⟨.refl _ _, rfl, ⟨_, hv, ?_, trivial⟩, hq, hbw, hsz6⟩
      rw [← HF.out, ← HM.out]
      exact hrow
  case done =>
    rintro D W hD ⟨⟨v, hv, hrow, _⟩, hq, hbw, hsz6⟩ hK
    rw [hlv, List.take_length] at hrow
    have c4 := hv.cell
    gi_wp2
    refine ⟨by simp, .inl ⟨_, _, rfl, run_takeDeferred hK, ?_⟩⟩
    have hD' : w.heap.size ≤ D := Nat.le_trans hbW.size hD
    have hown := ownsRow_putObj hrow (.deferred none) hK rfl
    refine ⟨v, by simp [results, Tryz.results7, go_sem], ?_⟩
    exact its_post hown (hbw.grown (grownBy_putObj' W D _) (by have := hbw.size; omega) (fun r e => by cases e; omega))
  case stop =>
    rintro D c W hD ⟨rfl, ⟨v, hv, hrow, _⟩, hq, hbw, hsz6⟩ hK
    have c4 := hv.cell
    gi_wp2
    refine ⟨by simp, .inl ⟨_, _, rfl, run_takeDeferred hK, ?_⟩⟩
    have hD' : w.heap.size ≤ D := Nat.le_trans hbW.size hD
    have hown := ownsRow_putObj hrow (.deferred none) hK rfl
    refine ⟨v, by simp [results, Tryz.results7, go_sem], ?_⟩
    exact its_post hown (hbw.grown (grownBy_putObj' W D _) (by have := hbw.size; omega) (fun r e => by cases e; omega))
end Go.Proofs.YtcjeddichookmaaGreatDoor
namespace Go.Proofs.YtcjeddichookmaaGreatDoor
open Go.RowKit Go.Sort
set_option linter.unusedVariables false
set_option linter.unusedSimpArgs false
set_option maxRecDepth 100000
attribute [local go_sem] Oper.semAt_some
def FlS (w : World) (key : ByteArray) (fv : Value) (acc : List It) (W : World) : Prop :=
  (∃ v, Boxed W (w.heap.size + 3) 31 v ∧ W.ownsRow w.heap.size 34 4 v acc.length (itsC acc) ∧ True) ∧ Boxed W (w.heap.size + 1) 9 (.string key) ∧ Boxed W (w.heap.size + 2) 50 fv ∧ Below w.heap.size w W ∧ w.heap.size + 6 ≤ W.heap.size
theorem flS_own {β : Type} (w : World) (key : ByteArray) (fv : Value) (acc : β → List It) (B : Nat) (hB : w.heap.size ≤ B) : OwnFrom B (fun s W => FlS w key fv (acc s) W) := by
  rintro s W W' row ⟨h2, h3, h4, h5, h6⟩ hg hr
  have hr' := fun r e => (hr r e).2
  exact ⟨holdsRow_own w.heap.size (w.heap.size + 3) 31 34 4 (fun o : List It => o.length) (fun o => itsC o) (fun _ _ => True) (acc s) W W' row h2 hg hr', boxed_own1 _ _ _ W W' row h3 hg hr', boxed_own1 _ _ _ W W' row h4 hg hr', h5.grown hg (by omega) (fun r e => by have := (hr r e).1; omega), Nat.le_trans h6 hg.size⟩
theorem FlS.keep {w W W' : World} {key : ByteArray} {fv : Value} {acc : List It} (h : FlS w key fv acc W) (hb : Below W.heap.size W W') : FlS w key fv acc W' := by
  obtain ⟨⟨v, h1, h2, _⟩, h3, h4, h5, h6⟩ := h
  exact ⟨⟨v, boxed_keep h1 hb, ownsRow_keep h2 hb, trivial⟩, boxed_keep h3 hb, boxed_keep h4 hb, bstep h5 hb, Nat.le_trans h6 hb.size⟩
theorem takeWhile_all {p : It → Bool} : ∀ (l : List It) (k : Nat), (∀ x ∈ l.take k, p x = true) → k ≤ l.length → (∀ x, l[k]? = some x → p x = false) → l.takeWhile p = l.take k
  | [], k, _, _, _ => by simp
  | x :: l, 0, _, _, h => by rw [List.takeWhile_cons, h x rfl]; rfl
  | x :: l, k + 1, h1, h2, h3 => by
    rw [List.takeWhile_cons, h1 x (by simp), if_pos rfl, List.take_succ_cons, takeWhile_all l k (fun y hy => h1 y (by simp [hy])) (by simpa using h2) (fun y hy => h3 y (by simpa using hy))]
set_option maxHeartbeats 4000000 in
theorem ixFilter_any (gf : Nat) (lb : Array Value) (egf : ∀ args w, (callFunc gf args).run Tryz.prog w = .ok (.enter gf args) w) (p : It → Bool) (A : Option Addr) (L : List It) (key : ByteArray) (w : World) (h : IxAt w A L) (hu : UpI L) (hn : L.length ≤ 1000)
    (hp : ∀ x ∈ L, ∀ W, Below w.heap.size w W → Calls Tryz.prog gf (#[.agg #[.string x.k, .string x.t, .int .i64 x.z, .int .i64 x.r]] ++ lb) W (Ret W (.bool (p x)))) :
    Calls Tryz.prog 24 #[.agg #[.pointer A], .string key, .func (.func gf) #[] lb] w (ItsPost (((ixFrom L key).takeWhile fun y => bgB key y.k).filter p) w) := by
  obtain ⟨i0, hi0, hz0, hz1, hz2⟩ := info_parts infoItem
  have eg : ∀ args w, (callFunc 31 args).run Tryz.prog w = .ok (.enter 31 args) w := enters_of Tryz.func31 (by kernel_rfl) rfl
  have hfl : (ixFrom L key).length ≤ 1000 := Nat.le_trans (List.length_filter_le _ _) hn
  obtain ⟨W0, hW0⟩ : ∃ W0, W0 = (((((w.alloc (.cells #[.pointer A] 27)).alloc (.cells #[.string key] 9)).alloc (.cells #[.func (.func gf) #[] lb] 50)).alloc (.cells #[.slice none 0 0] 31)).alloc (.cells #[.pointer A] 25)).alloc (.cells #[.string key] 9) := ⟨_, rfl⟩
  have hbW : Below w.heap.size w W0 := by rw [hW0]; exact belB
  have r1 := RowV.new (w.alloc (.cells #[.pointer A] 27)) 9 [.string key]
  have r2 := RowV.new ((w.alloc (.cells #[.pointer A] 27)).alloc (.cells #[.string key] 9)) 50 [.func (.func gf) #[] lb]
  have r3 := RowV.new (((w.alloc (.cells #[.pointer A] 27)).alloc (.cells #[.string key] 9)).alloc (.cells #[.func (.func gf) #[] lb] 50)) 31 [.slice none 0 0]
  have r4 := RowV.new ((((w.alloc (.cells #[.pointer A] 27)).alloc (.cells #[.string key] 9)).alloc (.cells #[.func (.func gf) #[] lb] 50)).alloc (.cells #[.slice none 0 0] 31)) 25 [.pointer A]
  have r5 := RowV.new (((((w.alloc (.cells #[.pointer A] 27)).alloc (.cells #[.string key] 9)).alloc (.cells #[.func (.func gf) #[] lb] 50)).alloc (.cells #[.slice none 0 0] 31)).alloc (.cells #[.pointer A] 25)) 9 [.string key]
  simp only [World.size_alloc] at r1 r2 r3 r4 r5
  have b1 : Boxed W0 (w.heap.size + 1) 9 (.string key) := by rw [hW0]; exact RowV.alloc (RowV.alloc (RowV.alloc (RowV.alloc r1 _) _) _) _
  have b2 : Boxed W0 (w.heap.size + 2) 50 (.func (.func gf) #[] lb) := by rw [hW0]; exact RowV.alloc (RowV.alloc (RowV.alloc r2 _) _) _
  have b3 : Boxed W0 (w.heap.size + 3) 31 (.slice none 0 0) := by rw [hW0]; exact RowV.alloc (RowV.alloc r3 _) _
  have hB1 : W0.cell? ⟨w.heap.size + 4, 0, none⟩ = some (.pointer A) := RowV.cell (t := 25) (cs := [.pointer A]) (k := 0) (by rw [hW0]; exact RowV.alloc r4 _) rfl
  have hB2 : W0.cell? ⟨w.heap.size + 5, 0, none⟩ = some (.string key) := RowV.cell (t := 9) (cs := [.string key]) (k := 0) (by rw [hW0]; exact r5) rfl
  have hseq := from_iter (w.heap.size + 4) (w.heap.size + 5) A key L w W0 hbW hB1 hB2 h hu
  have hsz : w.heap.size + 6 ≤ W0.heap.size := by rw [hW0]; simp [World.size_alloc]
  have hlv : (itsV (ixFrom L key)).length = (ixFrom L key).length := by simp [itsV]
  have hpF : ∀ x ∈ ixFrom L key, ∀ W, Below w.heap.size w W → Calls Tryz.prog gf (#[.agg #[.string x.k, .string x.t, .int .i64 x.z, .int .i64 x.r]] ++ lb) W (Ret W (.bool (p x))) := fun x hx => hp x (List.mem_filter.1 hx).1
  have HW0 := Lib.hid hW0
  obtain ⟨F, hF⟩ : ∃ F, F = ixFrom L key := ⟨_, rfl⟩
  rw [← hF] at hseq hfl hlv hpF ⊢
  obtain ⟨R, hR⟩ : ∃ R, R = (F.takeWhile fun y => bgB key y.k).filter p := ⟨_, rfl⟩
  rw [← hR]
  obtain ⟨fv, hfv⟩ : ∃ fv, fv = Value.func (.func gf) #[] lb := ⟨_, rfl⟩
  have HR := Lib.hid hR; have HPF := Lib.hid hpF
  clear hF h hu hn hB1 hB2 hR hp hpF r1 r2 r3 r4 r5
  refine (callsIn_wide (n := 0)).1 ?_
  refine callsIn_of_wp_marks Tryz.func24 rfl trivial ?_ rfl
  simp only [Tryz.ntmps24, List.size_toArray, List.length_cons, List.length_nil, Nat.reduceAdd, Nat.reduceSub, Array.replicate_succ, Array.replicate_zero, List.push_toArray, List.append_toArray, List.nil_append, List.cons_append]
  gi_wp2_with (refine ⟨trivial, rfl, ?_⟩; gi_at_call 15; refine (callsIn_wide.2 (from_any _ _ _)).mono ?_; rintro e w' ⟨rfl, hw⟩; rw [hw])
  rw [← HW0.out]
  clear HW0 hW0
  refine range_box (gf := 31) (lb := #[.pointer (some ⟨w.heap.size + 4, 0, none⟩), .pointer (some ⟨w.heap.size + 5, 0, none⟩)]) rfl eg hseq (Below.refl _ _) hbW.size (fun k W => FlS w key (.func (.func gf) #[] lb) ((F.take k).filter p) W ∧ ∀ x ∈ F.take k, bgB key x.k = true) (fun c W => c = .exit 0 ∧ FlS w key (.func (.func gf) #[] lb) R W)
    (fun s W W' row h hg hr => ⟨flS_own w key _ (fun k => (F.take k).filter p) _ hbW.size s W W' row h.1 hg hr, h.2⟩) (fun c => fun s W W' row h hg hr => ⟨h.1, flS_own (β := Unit) w key _ (fun _ => R) _ hbW.size s W W' row h.2 hg hr⟩) ⟨⟨⟨_, b3, World.ownsRow_nil _ _ _ _, trivial⟩, b1, b2, hbW, hsz⟩, fun x hx => by simp at hx⟩
    (fun _ _ _ _ h => h.elim) (fun _ _ h => h.elim) obIt
    (fun x g => { tmps := #[.agg #[.pointer A], .string key, .func (.func gf) #[] lb, .pointer (some ⟨w.heap.size, 0, none⟩), .pointer (some ⟨w.heap.size + 1, 0, none⟩), .pointer (some ⟨w.heap.size + 1 + 1, 0, none⟩), .slice none 0 0, .pointer (some ⟨w.heap.size + 1 + 1 + 1, 0, none⟩), .pointer (some ⟨g, 0, none⟩), .pointer (some ⟨w.heap.size, 0, none⟩), .pointer A, .string key, .func (.func 31) #[] #[.pointer (some ⟨w.heap.size + 1 + 1 + 1 + 1, 0, none⟩), .pointer (some ⟨w.heap.size + 1 + 1 + 1 + 1 + 1, 0, none⟩)], x, undef, undef, undef, undef, undef, undef, undef, undef, undef, undef, undef, undef, undef], defers := [] }) ?assign ?body ?done ?stop
  case assign =>
    intro l x W K hx hK
    obtain ⟨i, hi⟩ := List.mem_iff_getElem?.1 hx
    obtain ⟨y, hy, rfl⟩ := itsV_of hi
    clear hx hi hy
    gi_wp2
    exact hK
  case body =>
    rintro l k g x W hx ⟨hS, hall⟩ hgl hg
    obtain ⟨y, hy, rfl⟩ := itsV_of hx
    have hkl : k < F.length := (List.getElem?_eq_some_iff.1 hy).1
    have htk : F.take (k + 1) = F.take k ++ [y] := by rw [List.take_add_one, hy]; rfl
    have hit : RowV W g 34 [.string y.k, .string y.t, .int .i64 y.z, .int .i64 y.r] := hg
    have hml : ((F.take k).filter p).length ≤ 1000 := Nat.le_trans (List.length_filter_le _ _) (by rw [List.length_take]; omega)
    have hpy := HPF.out y (List.mem_of_getElem? hy)
    have hpre := fun W => Tryz.strings_HasPrefix y.k key W
    have HTK := Lib.hid htk; have HS := Lib.hid hS; have HY := Lib.hid hy; have HAL := Lib.hid hall; have HPY := Lib.hid hpy; have HML := Lib.hid hml
    obtain ⟨⟨v, hv, hrow, _⟩, hq, hq2, hbw, hsz6⟩ := hS
    have c5 := hq.cell
    have c6 := hq2.cell
    have d0 := hit.cell (k := 0) rfl
    have d1 := hit.cell (k := 1) rfl
    have d2 := hit.cell (k := 2) rfl
    have d3 := hit.cell (k := 3) rfl
    clear hx hy htk hseq hall hpy hml hv hrow hq hq2
    cases hb : bgB key y.k
    · have hb' := hb
      unfold bgB at hb'
      rw [hb'] at hpre
      have HPR := Lib.hid hpre
      clear hpre hb'
      gi_wp2_with (refine ⟨trivial, rfl, ?_⟩; gi_at_call 39; refine (CallsIn.inRound l (callsIn_wide.2 (HPR.out _))).mono ?_; rintro e w1 ⟨rfl, hw1⟩; rw [hw1]; clear hw1 w1)
      refine ⟨.refl _ _, rfl, ?_⟩
      have e : (F.takeWhile fun y => bgB key y.k) = F.take k := takeWhile_all F k HAL.out (by omega) (fun z hz => by rw [HY.out] at hz; injection hz with hz; subst hz; exact hb)
      rw [HR.out, e]
      exact HS.out
    · have HBY := Lib.hid hb
      unfold bgB at hb
      rw [hb] at hpre
      have HPR := Lib.hid hpre
      clear hpre
      have hall2 : ∀ x ∈ F.take (k + 1), bgB key x.k = true := by
        rw [HTK.out]
        intro x hx
        rcases List.mem_append.1 hx with hx | hx
        · exact HAL.out x hx
        · rw [List.mem_singleton] at hx; subst hx; exact HBY.out
      have HAL2 := Lib.hid hall2
      have HPY2 := Lib.hid (HPY.out W hbw)
      clear hall2 HPY
      cases hpb : p y
      · rw [hpb] at HPY2
        have hfl2 : (F.take (k + 1)).filter p = (F.take k).filter p := by rw [HTK.out]; simp [List.filter_append, hpb]
        have HFL := Lib.hid hfl2
        clear hfl2
        gi_wp2_with (first | (refine ⟨trivial, rfl, ?_⟩; gi_at_call 39; refine (CallsIn.inRound l (callsIn_wide.2 (HPR.out _))).mono ?_; rintro e w1 ⟨rfl, hw1⟩; rw [hw1]; clear hw1 w1) | (refine ⟨trivial, rfl, ?_⟩; refine (CallsIn.inRound l (callsIn_wide.2 HPY2.out)).mono ?_; rintro e w2 ⟨rfl, hb2⟩))
        refine ⟨(keepsOthers_of_below hb2).from _, Below.keepsIn hb2 hbw.size, ?_, HAL2.out⟩
        rw [HFL.out]
        exact HS.out.keep hb2
      · rw [hpb] at HPY2
        have hfl2 : (F.take (k + 1)).filter p = (F.take k).filter p ++ [y] := by rw [HTK.out]; simp [List.filter_append, hpb]
        have HFL := Lib.hid hfl2
        have HIT := Lib.hid hit
        clear hfl2 hit
        obtain ⟨acc, hacc⟩ : ∃ acc, acc = (F.take k).filter p := ⟨_, rfl⟩
        rw [← hacc] at HS HML HFL
        obtain ⟨m, hm⟩ : ∃ m, m = acc.length := ⟨_, rfl⟩
        rw [← hm] at HML
        have HM := Lib.hid hm
        clear hacc hm
        gi_wp2_with (first | (refine ⟨trivial, rfl, ?_⟩; gi_at_call 39; refine (CallsIn.inRound l (callsIn_wide.2 (HPR.out _))).mono ?_; rintro e w1 ⟨rfl, hw1⟩; rw [hw1]; clear hw1 w1) | (refine ⟨trivial, rfl, ?_⟩; refine (CallsIn.inRound l (callsIn_wide.2 HPY2.out)).mono ?_; rintro e w2 ⟨rfl, hb2⟩; clear HPY2; have hS2 := HS.out.keep hb2; obtain ⟨⟨v, hv, hrow, _⟩, hq, hq2, hbw2, hsz2⟩ := hS2; rw [← HM.out] at hrow; obtain ⟨A', c, hvv⟩ : ∃ A c, v = .slice A m c := (by (rcases hrow.2 with h9 | h9); (exact ⟨none, 0, by rw [h9.1, h9.2]⟩); (obtain ⟨g, cap, cur, h9, _⟩ := h9; exact ⟨_, _, h9⟩)); subst hvv; have c4 := hv.cell; have f4 := hv.frozen; have hit2 := HIT.out.keep hb2; clear d0 d1 d2 d3 c5 c6; have d0 := hit2.cell (k := 0) rfl; have d1 := hit2.cell (k := 1) rfl; have d2 := hit2.cell (k := 2) rfl; have d3 := hit2.cell (k := 3) rfl) | (gi_at_builtin; refine wpListIn_append_own _ rfl _ _ 31 rfl w.heap.size 34 i0 (.agg #[.string ⟨#[]⟩, .string ⟨#[]⟩, .int .i64 0, .int .i64 0]) 4 48 Tryz.underlying31 hi0 hz0 hz1 hz2 rfl (by decide) _ _ _ rfl (hrow.alloc _) ⟨w2.heap.size, 0, none⟩ 1 1 [.string y.k, .string y.t, .int .i64 y.z, .int .i64 y.r] rfl rfl (World.news_of_block (cs := #[.string y.k, .string y.t, .int .i64 y.z, .int .i64 y.r]) (t := 34) (fr := (0, 0)) (World.alloc_heap_new w2 _)) (by simp [Value.oneCell']) (by have := HML.out; unfold maxLen; omega) (by have := HML.out; omega) (by have := hbw2.size; simp; omega) ?_; intro v' w3 hown' hgrow _; obtain ⟨g', cap', rfl⟩ := ownsRow_succ hown'; obtain ⟨hv1, hvs, hrs, hk2, hbs⟩ := hv.appended (by decide) hrow hbw2.size (by omega) hown' hgrow; have hq1 := (hq.alloc (.cells #[.string y.k, .string y.t, .int .i64 y.z, .int .i64 y.r] 34)).kept hgrow (hq.not_row (by decide) hrow); have hq3 := (hq2.alloc (.cells #[.string y.k, .string y.t, .int .i64 y.z, .int .i64 y.r] 34)).kept hgrow (hq2.not_row (by decide) hrow); have c6 := hv1.cell; have f6 := hv1.frozen))
        refine ⟨((keepsOthers_of_below hb2).trans hk2).from _, (Below.keepsIn hb2 hbw.size).trans (Below.keepsIn hbs (Nat.le_refl _)), ?_, HAL2.out⟩
        rw [HFL.out]
        refine ⟨⟨_, hvs, ?_, trivial⟩, boxed_far hq1 (by simp) _, boxed_far hq3 (by simp) _, hbw2.trans hbs, Nat.le_trans hsz2 hbs.size⟩
        rw [List.length_append, ← HM.out, itsC_app]
        exact hrs
  case done =>
    rintro D W hD ⟨⟨⟨v, hv, hrow, _⟩, hq, hq2, hbw, hsz6⟩, hall⟩ hK
    rw [hlv, List.take_length] at hrow hall
    have hRR : F.filter p = R := by
      rw [HR.out, takeWhile_all F F.length (by rw [List.take_length]; exact hall) (Nat.le_refl _) (fun x hx => by simp at hx), List.take_length]
    rw [hRR] at hrow
    have c4 := hv.cell
    clear hall hRR
    gi_wp2
    refine ⟨by simp, .inl ⟨_, _, rfl, run_takeDeferred hK, ?_⟩⟩
    have hD' : w.heap.size ≤ D := Nat.le_trans hbW.size hD
    have hown := ownsRow_putObj hrow (.deferred none) hK rfl
    refine ⟨v, by simp [results, Tryz.results24, go_sem], ?_⟩
    exact its_post hown (hbw.grown (grownBy_putObj' W D _) (by have := hbw.size; omega) (fun r e => by cases e; omega))
  case stop =>
    rintro D c W hD ⟨rfl, ⟨v, hv, hrow, _⟩, hq, hq2, hbw, hsz6⟩ hK
    have c4 := hv.cell
    gi_wp2
    refine ⟨by simp, .inl ⟨_, _, rfl, run_takeDeferred hK, ?_⟩⟩
    have hD' : w.heap.size ≤ D := Nat.le_trans hbW.size hD
    have hown := ownsRow_putObj hrow (.deferred none) hK rfl
    refine ⟨v, by simp [results, Tryz.results24, go_sem], ?_⟩
    exact its_post hown (hbw.grown (grownBy_putObj' W D _) (by have := hbw.size; omega) (fun r e => by cases e; omega))
end Go.Proofs.YtcjeddichookmaaGreatDoor
namespace Go.Proofs.YtcjeddichookmaaGreatDoor
open Go.RowKit Go.Sort
set_option linter.unusedVariables false
set_option linter.unusedSimpArgs false
set_option maxRecDepth 100000
def adrI (x : It) : ByteArray := toB (cutK x.k).1
theorem adrI_size (x : It) : (adrI x).size ≤ x.k.size := by unfold adrI; rw [toB_size]; exact (cutK_len x.k).1
theorem under1_any (x : It) (pr : ByteArray) (B : Nat) (w : World) (hc : w.cell? ⟨B, 0, none⟩ = some (.string pr)) (hk : x.k.size ≤ 100000) (hp : pr.size ≤ 100000) (hE : Env w) : Calls Tryz.prog 25 #[.agg #[.string x.k, .string x.t, .int .i64 x.z, .int .i64 x.r], .pointer (some ⟨B, 0, none⟩)] w (Ret w (.bool (underB pr (adrI x)))) := by
  obtain ⟨W1, hW1⟩ : ∃ W1, W1 = w.alloc (.cells #[.string x.k, .string x.t, .int .i64 x.z, .int .i64 x.r] 34) := ⟨_, rfl⟩
  have hb1 : Below w.heap.size w W1 := by rw [hW1]; exact belB
  have hsz := adrI_size x
  have ha := fun W (hb : Below W1.heap.size W1 W) => addressOf_any x W (by omega) (Env.keep (Env.keep hE hb1) hb)
  have hu := fun W (hb : Below W1.heap.size W1 W) => under_any pr (adrI x) W (by omega) (by omega) (Env.keep (Env.keep hE hb1) hb)
  have hr : RowV W1 w.heap.size 34 [.string x.k, .string x.t, .int .i64 x.z, .int .i64 x.r] := by rw [hW1]; exact RowV.new w _ _
  have c1 := cell_keep hb1 hc
  have d0 := hr.cell (k := 0) rfl
  have d1 := hr.cell (k := 1) rfl
  have d2 := hr.cell (k := 2) rfl
  have d3 := hr.cell (k := 3) rfl
  have k0 := cell_regrown c1; have k1 := cell_regrown d0; have k2 := cell_regrown d1; have k3 := cell_regrown d2; have k4 := cell_regrown d3
  rw [show toB (cutK x.k).1 = adrI x from rfl] at ha
  have HA := Lib.hid ha; have HU := Lib.hid hu; have HW1 := Lib.hid hW1; have HB1 := Lib.hid hb1
  clear ha hu hE hsz hr hc hb1 hW1
  generalize adrI x = a at *
  generalize underB pr a = u at *
  go_enter Tryz.func25, Tryz.ntmps25
  go_upto_region 1 with fail
  rw [← HW1.out]
  clear HW1
  refine wp_region_quiet_below (by kernel_rfl) (by kernel_rfl) ?_; (repeat (any_goals (first | go_big_quiet_step ((first | first | (with_reducible exact qcalls2 HA.out _ _) | (with_reducible exact qcalls2 HU.out _ _))) | quiet_step ((first | first | (with_reducible exact qcalls2 HA.out _ _) | (with_reducible exact qcalls2 HU.out _ _)))))); refine wpQuiet_nil ?_; intro _ hwq; obtain ⟨⟨dq, osq⟩, hwq⟩ := hwq; subst hwq; have hbq := below_regrown (W1) dq osq; generalize grow (redrawn (W1) dq) osq = wq at *
  have hb9 := bstep HB1.out hbq
  go_wp2
  go_ret
  exact ⟨rfl, hb9⟩
set_option maxHeartbeats 2000000 in
theorem ixUnder_any (A : Option Addr) (L : List It) (pr : ByteArray) (w : World) (h : IxAt w A L) (hu : UpI L) (hn : L.length ≤ 1000) (hk : ∀ x ∈ L, x.k.size ≤ 100000) (hp : pr.size ≤ 100000) (hE : Env w) :
    Calls Tryz.prog 13 #[.agg #[.pointer A], .string pr] w (ItsPost (((ixFrom L pr).takeWhile fun y => bgB pr y.k).filter fun x => underB pr (adrI x)) w) := by
  obtain ⟨W1, hW1⟩ : ∃ W1, W1 = (w.alloc (.cells #[.pointer A] 27)).alloc (.cells #[.string pr] 9) := ⟨_, rfl⟩
  have hb1 : Below w.heap.size w W1 := by rw [hW1]; exact belB
  have hc : W1.cell? ⟨w.heap.size + 1, 0, none⟩ = some (.string pr) := RowV.cell (t := 9) (cs := [.string pr]) (k := 0) (by rw [hW1]; have h := RowV.new (w.alloc (.cells #[.pointer A] 27)) 9 [.string pr]; rwa [World.size_alloc] at h) rfl
  have hf := ixFilter_any 25 #[.pointer (some ⟨w.heap.size + 1, 0, none⟩)] (enters_of Tryz.func25 (by kernel_rfl) rfl) (fun x => underB pr (adrI x)) A L pr W1 (h.keep hb1) hu hn (fun x hx W hb => under1_any x pr _ W (cell_keep hb hc) (hk x hx) hp (Env.keep (Env.keep hE hb1) hb))
  have HF := Lib.hid hf; have HB1 := Lib.hid hb1; have HW1 := Lib.hid hW1
  have hmf : ∀ (fn : Fn) (first cap : Array Value) (w : World), (Instr.makeFunc fn first cap).run Tryz.prog w = .ok (.func fn first cap) w := fun _ _ _ _ => rfl
  clear hf hb1 hW1 h hu hk hE hc
  generalize ((ixFrom L pr).takeWhile fun y => bgB pr y.k).filter (fun x => underB pr (adrI x)) = R at *
  go_enter Tryz.func13, Tryz.ntmps13
  go_wp2_with (go_at_call 24; rw [← HW1.out]; refine HF.out.mono ?_; rintro e w2 ⟨A', c', rfl, hr, hb2⟩)
  go_ret
  exact ⟨A', c', rfl, hr, bstep HB1.out hb2⟩
def tagB (x : It) (cu tg : ByteArray) : Bool := decide ((parseB (adrI x)).2 = 0) && decide ((parseB (adrI x)).1.cust = cu) && hasTagB x.t tg
set_option maxHeartbeats 4000000 in
theorem tagged1_any (x : It) (cu tg : ByteArray) (B1 B2 : Nat) (w : World) (hc1 : w.cell? ⟨B1, 0, none⟩ = some (.string cu)) (hc2 : w.cell? ⟨B2, 0, none⟩ = some (.string tg)) (hk : x.k.size ≤ 100000) (ht : x.t.size ≤ 100000) (hE : Env w) :
    Calls Tryz.prog 28 #[.agg #[.string x.k, .string x.t, .int .i64 x.z, .int .i64 x.r], .pointer (some ⟨B1, 0, none⟩), .pointer (some ⟨B2, 0, none⟩)] w (Ret w (.bool (tagB x cu tg))) := by
  have hsz := adrI_size x
  have ha := fun W (hb : Below w.heap.size w W) => addressOf_any x W (by omega) (Env.keep hE hb)
  have hp := fun W (hb : Below w.heap.size w W) => parse_any (adrI x) W (by omega) (Env.keep hE hb)
  have htg := fun W (hb : Below w.heap.size w W) => hasTag_any x.t tg W ht (Env.keep hE hb)
  rw [show toB (cutK x.k).1 = adrI x from rfl] at ha
  have hr : RowV (w.alloc (.cells #[.string x.k, .string x.t, .int .i64 x.z, .int .i64 x.r] 34)) w.heap.size 34 [.string x.k, .string x.t, .int .i64 x.z, .int .i64 x.r] := RowV.new w _ _
  have hv : tagB x cu tg = (decide ((parseB (adrI x)).2 = 0) && decide ((parseB (adrI x)).1.cust = cu) && hasTagB x.t tg) := rfl
  unfold AdrPost at hp
  have HA := Lib.hid ha; have HP := Lib.hid hp; have HT := Lib.hid htg; have HR := Lib.hid hr; have HC1 := Lib.hid hc1; have HC2 := Lib.hid hc2
  clear ha hp htg hr hc1 hc2 hE hsz
  generalize tagB x cu tg = V at *
  generalize parseB (adrI x) = pr at *
  obtain ⟨⟨pcu, pps, pqs⟩, er⟩ := pr
  dsimp only at HP hv
  generalize adrI x = a at *
  generalize hasTagB x.t tg = ht at *
  by_cases h1 : er = 0
  · subst h1
    by_cases h2 : pcu = cu
    · have HV := Lib.hid (show V = ht by rw [hv, decide_eq_true h2]; simp)
      have hq : (pcu.toList == cu.toList) = true := by rw [h2]; simp
      clear hv h2
      go_enter Tryz.func28, Tryz.ntmps28
      go_wp2_with (first | (go_at_call 27; refine (HA.out _ belB).mono ?_; rintro e w2 ⟨rfl, hb2⟩; have hr2 := HR.out.keep hb2; have d1 := hr2.cell (k := 1) rfl) | (go_at_call 29; refine (HP.out _ belB).mono ?_; rintro e w3 ⟨hb3, PA, pc, PB, pd, rfl, _⟩; clear d1; have hr3 := hr2.keep hb3; have d1 := hr3.cell (k := 1) rfl; have hbw3 : Below w.heap.size w w3 := belB; have c5 := cell_keep hbw3 HC1.out; have c6 := cell_keep hbw3 HC2.out; have hz1 := cell_lt c5; have hz2 := cell_lt c6; have hz3 := cell_lt d1) | (go_at_call 30; refine (HT.out _ belB).mono ?_; rintro e w4 ⟨rfl, hb4⟩))
      go_ret
      exact ⟨ret_bool HV.out.symm, belB⟩
    · have HV := Lib.hid (show V = false by rw [hv, decide_eq_false h2]; simp)
      have hq : (pcu.toList == cu.toList) = false := by rw [beq_dec]; simpa using h2
      have hq2 : ¬ pcu.toList = cu.toList := by simpa using hq
      clear hv h2
      go_enter Tryz.func28, Tryz.ntmps28
      go_wp2_with (first | (go_at_call 27; refine (HA.out _ belB).mono ?_; rintro e w2 ⟨rfl, hb2⟩; have hr2 := HR.out.keep hb2; have d1 := hr2.cell (k := 1) rfl) | (go_at_call 29; refine (HP.out _ belB).mono ?_; rintro e w3 ⟨hb3, PA, pc, PB, pd, rfl, _⟩; clear d1; have hr3 := hr2.keep hb3; have d1 := hr3.cell (k := 1) rfl; have hbw3 : Below w.heap.size w w3 := belB; have c5 := cell_keep hbw3 HC1.out; have c6 := cell_keep hbw3 HC2.out; have hz1 := cell_lt c5; have hz2 := cell_lt c6; have hz3 := cell_lt d1) | (go_at_call 30; refine (HT.out _ belB).mono ?_; rintro e w4 ⟨rfl, hb4⟩))
      go_ret
      exact ⟨ret_bool HV.out.symm, belB⟩
  · have HV := Lib.hid (show V = false by rw [hv, decide_eq_false h1]; simp)
    have hq : (er == 0) = false := by simpa using h1
    clear hv
    go_enter Tryz.func28, Tryz.ntmps28
    go_wp2_with (first | (go_at_call 27; refine (HA.out _ belB).mono ?_; rintro e w2 ⟨rfl, hb2⟩; have hr2 := HR.out.keep hb2; have d1 := hr2.cell (k := 1) rfl) | (go_at_call 29; refine (HP.out _ belB).mono ?_; rintro e w3 ⟨hb3, PA, pc, PB, pd, rfl, _⟩; clear d1; have hr3 := hr2.keep hb3; have d1 := hr3.cell (k := 1) rfl; have hbw3 : Below w.heap.size w w3 := belB; have c5 := cell_keep hbw3 HC1.out; have c6 := cell_keep hbw3 HC2.out; have hz1 := cell_lt c5; have hz2 := cell_lt c6; have hz3 := cell_lt d1) | (go_at_call 30; refine (HT.out _ belB).mono ?_; rintro e w4 ⟨rfl, hb4⟩))
    go_ret
    exact ⟨ret_bool HV.out.symm, belB⟩
set_option maxHeartbeats 2000000 in
theorem ixTagged_any (A : Option Addr) (L : List It) (cu tg : ByteArray) (w : World) (h : IxAt w A L) (hu : UpI L) (hn : L.length ≤ 1000) (hk : ∀ x ∈ L, x.k.size ≤ 100000 ∧ x.t.size ≤ 100000) (hE : Env w) :
    Calls Tryz.prog 14 #[.agg #[.pointer A], .string cu, .string tg] w (ItsPost (((ixFrom L cu).takeWhile fun y => bgB cu y.k).filter fun x => tagB x cu tg) w) := by
  obtain ⟨W1, hW1⟩ : ∃ W1, W1 = ((w.alloc (.cells #[.pointer A] 27)).alloc (.cells #[.string cu] 9)).alloc (.cells #[.string tg] 9) := ⟨_, rfl⟩
  have hb1 : Below w.heap.size w W1 := by rw [hW1]; exact belB
  have hc : W1.cell? ⟨w.heap.size + 1, 0, none⟩ = some (.string cu) := RowV.cell (t := 9) (cs := [.string cu]) (k := 0) (by rw [hW1]; exact RowV.alloc (by have h := RowV.new (w.alloc (.cells #[.pointer A] 27)) 9 [.string cu]; rwa [World.size_alloc] at h) _) rfl
  have hc2 : W1.cell? ⟨w.heap.size + 1 + 1, 0, none⟩ = some (.string tg) := RowV.cell (t := 9) (cs := [.string tg]) (k := 0) (by rw [hW1]; have h := RowV.new ((w.alloc (.cells #[.pointer A] 27)).alloc (.cells #[.string cu] 9)) 9 [.string tg]; rwa [World.size_alloc, World.size_alloc] at h) rfl
  have hf := ixFilter_any 28 #[.pointer (some ⟨w.heap.size + 1, 0, none⟩), .pointer (some ⟨w.heap.size + 1 + 1, 0, none⟩)] (enters_of Tryz.func28 (by kernel_rfl) rfl) (fun x => tagB x cu tg) A L cu W1 (h.keep hb1) hu hn (fun x hx W hb => tagged1_any x cu tg _ _ W (cell_keep hb hc) (cell_keep hb hc2) (hk x hx).1 (hk x hx).2 (Env.keep (Env.keep hE hb1) hb))
  have HF := Lib.hid hf; have HB1 := Lib.hid hb1; have HW1 := Lib.hid hW1
  have hmf : ∀ (fn : Fn) (first cap : Array Value) (w : World), (Instr.makeFunc fn first cap).run Tryz.prog w = .ok (.func fn first cap) w := fun _ _ _ _ => rfl
  clear hf hb1 hW1 h hu hk hE hc hc2
  generalize ((ixFrom L cu).takeWhile fun y => bgB cu y.k).filter (fun x => tagB x cu tg) = R at *
  go_enter Tryz.func14, Tryz.ntmps14
  go_wp2_with (go_at_call 24; rw [← HW1.out]; refine HF.out.mono ?_; rintro e w2 ⟨A', c', rfl, hr, hb2⟩)
  go_ret
  exact ⟨A', c', rfl, hr, bstep HB1.out hb2⟩
end Go.Proofs.YtcjeddichookmaaGreatDoor
namespace Go.Proofs.YtcjeddichookmaaGreatDoor
open Go.RowKit Go.Sort
set_option linter.unusedVariables false
set_option linter.unusedSimpArgs false
set_option maxRecDepth 100000
set_option maxHeartbeats 4000000 in
theorem rSame15_eq (A B : Option Addr) (n c c2 : Nat) (L : List It) (w : World) (hA : ItsRead w A n L) (hB : ItsRead w B n L) (hn : n ≤ 1000000) : Calls Tryz.prog 10 #[.slice A n c, .slice B n c2] w (Ret w (.bool true)) := by
  have hl : n ≤ L.length ∧ L.length ≤ n := by have := hA.len; omega
  have HA := Lib.hid hA
  have HB := Lib.hid hB
  clear hA hB
  go_enter Tryz.func10, Tryz.ntmps10
  go_wp2
  go_loopw [5] (fun vi wr => ∃ k : Nat, vi = .int .i64 k ∧ k ≤ n ∧ Below w.heap.size w wr) (fun i _ => n - (intOf i).toNat)
  case atStart => exact ⟨0, rfl, Nat.zero_le _, Below.refl _ _⟩
  case round =>
    obtain ⟨k, rfl, hk, hbr⟩ := hrel
    by_cases hlt : k < n
    · obtain ⟨x, hx⟩ : ∃ x, L[k]? = some x := ⟨_, List.getElem?_eq_getElem (by omega)⟩
      obtain ⟨b, o, rfl, c0, c1, c2, c3⟩ := (HA.out.keep hbr).cells hx
      obtain ⟨b2, o2, rfl, d0, d1, d2, d3⟩ := (HB.out.keep hbr).cells hx
      have hk0 : (0 : Int) ≤ (k : Int) := by omega
      have hk1 : (k : Int) < (n : Int) := by omega
      have k0 := cell_regrown c0; have k1 := cell_regrown c1; have k2 := cell_regrown c2; have k3 := cell_regrown c3
      have m0 := cell_regrown d0; have m1 := cell_regrown d1; have m2 := cell_regrown d2; have m3 := cell_regrown d3
      clear hx
      go_upto_region 6 with fail
      refine wp_region_quiet_below (by kernel_rfl) (by kernel_rfl) ?_; (repeat (any_goals (first | go_big_quiet_step (fail) | quiet_step (fail)))); refine wpQuiet_nil ?_; intro _ hwq; obtain ⟨⟨dq, osq⟩, hwq⟩ := hwq; subst hwq; have hbq := below_regrown (wr) dq osq; generalize grow (redrawn (wr) dq) osq = wq at *
      go_wp2
      exact ⟨⟨k + 1, by go_num, by omega, belB⟩, by simp [intOf]; omega⟩
    · obtain rfl : k = n := by omega
      go_wp2
      go_ret
      exact ⟨rfl, hbr⟩
end Go.Proofs.YtcjeddichookmaaGreatDoor
