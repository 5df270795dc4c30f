/- What 'resolve' returns: the parts that are left of some parts. -/
import Derived.Test.YtjhlpkhfdghngaaGreatDoorGZ3
import Derived.RangeFuncBox
import Derived.Maps.AppendAt
import Derived.WalkSmall
import Derived.Test.YtjhlpkhfdghngaaGreatDoorProg
import Derived.WalkKit
import Derived.WalkSpells
import Derived.WalkLawsBesides
import Derived.Below
import Derived.Deep.QuietTactic
import Derived.BigQuiet
import Derived.Lib.QuietBelow
import Derived.Lib.Strings
import Derived.Lib.Hide
import Derived.Deep.RegionWith
import Derived.Deep.RegionHeld3
import Derived.Lib.IndexBytes
import Derived.Test.YtjhlpkhfdghngaaGreatDoorGZ1
import Derived.Shelf.SlIter.Sorted
namespace Go.Proofs.YtjhlpkhfdghngaaGreatDoor
open Go.RowKit Go.Sort
set_option linter.unusedVariables false
set_option linter.unusedSimpArgs false
set_option maxRecDepth 100000
attribute [local go_sem] Oper.semAt_some
def resStep (out : List ByteArray) (p : ByteArray) : Option (List ByteArray) :=
  if p.toList == [46] then some out else if p.toList == [46, 46] && !out.isEmpty then some out.dropLast else if isWordB p then some (out ++ [p]) else none
def resB : List ByteArray → List ByteArray → Option (List ByteArray)
  | out, [] => some out
  | out, p :: r => (resStep out p).bind fun o => resB o r
theorem infoStr : (Tryz.prog.info? 9).map (fun i => (i.zero, i.size, i.bytes)) = some (some (.string ⟨#[]⟩), 1, 16) := by kernel_rfl
structure Tame (T : World → World → Prop) (b n₀ : Nat) : Prop where
  below : ∀ W W', T W W' → Below b W W'
  size : ∀ W W', T W W' → W'.heap.size = W.heap.size
  same : ∀ W W', T W W' → ∀ k, n₀ ≤ k → W'.heap[k]? = W.heap[k]?
  others : ∀ W W', T W W' → KeepsOthers W W'
theorem tame_turns (b b' n₀ : Nat) (hb : b ≤ b') (hn : b' < n₀) : Tame (Turns b') b n₀ where
  below := by rintro W W' ⟨v, rfl⟩; exact (Below.refl b W).setCell (p := ⟨b', 0, none⟩) hb v
  size := by rintro W W' ⟨v, rfl⟩; simp [World.setCell]
  same := by rintro W W' ⟨v, rfl⟩ k hk; exact Below.heap_setCell W _ _ _ (by simp; omega)
  others := by rintro W W' ⟨v, rfl⟩; exact KeepsOthers.setCell _ _ _
theorem tame_none (b n₀ : Nat) : Tame (fun _ _ => False) b n₀ := ⟨fun _ _ h => h.elim, fun _ _ h => h.elim, fun _ _ h => h.elim, fun _ _ h => h.elim⟩
theorem keepsOthers_of_below {W W' : World} (h : Below W.heap.size W W') : KeepsOthers W W' := ⟨h.size, fun k o hk _ => (h.block k (Array.getElem?_eq_some_iff.1 hk).1).trans hk⟩
theorem grown_of_below {W W' : World} (h : Below W.heap.size W W') : W.grownBy W' none := ⟨h.os, h.tape, h.output, h.size, fun k hk _ => h.block k hk⟩
theorem ownsRow_keep {W W' : World} {base : Nat} {e : TypeId} {size n : Nat} {v : Value} {xs : List Value} (h : W.ownsRow base e size v n xs) (hb : Below W.heap.size W W') : W'.ownsRow base e size v n xs := h.kept (row := none) (grown_of_below hb) (by cases h : v.ownBlock <;> simp)
theorem boxed_keep {W W' : World} {B : Nat} {t : TypeId} {v : Value} (h : Boxed W B t v) (hb : Below W.heap.size W W') : Boxed W' B t v := (hb.block B h.lt).trans h
theorem ownsRow_same {W W' : World} {base : Nat} {e : TypeId} {size n : Nat} {v : Value} {xs : List Value} (h : W.ownsRow base e size v n xs) (hs : ∀ k, base ≤ k → W'.heap[k]? = W.heap[k]?) : W'.ownsRow base e size v n xs := by
  obtain ⟨hl, h2⟩ := h
  refine ⟨hl, ?_⟩
  rcases h2 with h0 | ⟨g, cap, cur, hv, hg, hh, r⟩
  · exact .inl h0
  · exact .inr ⟨g, cap, cur, hv, hg, (hs g hg).trans hh, r⟩
theorem boxed_far {W : World} {B : Nat} {t : TypeId} {v : Value} (h : Boxed W B t v) {p : Addr} (hp : B ≠ p.block) (u : Value) : Boxed (W.setCell p u) B t v := (Below.heap_setCell W p u B hp).trans h
theorem fail_end {w W w2 : World} {b B : Nat} (hb : b ≤ w.heap.size) (h3 : Boxed W w.heap.size 27 (.slice none 0 0)) (h4 : Boxed W (w.heap.size + 1) 4 (.bool false)) (hbw : Below b w W) (hsz : w.heap.size + 1 + 1 + 1 ≤ W.heap.size) (hb2 : Below W.heap.size W w2) :
    KeepsFrom B W ((w2.setCell ⟨w.heap.size, 0, none⟩ (.slice none 0 0)).setCell ⟨w.heap.size + 1, 0, none⟩ (.bool false)) ∧ Boxed ((w2.setCell ⟨w.heap.size, 0, none⟩ (.slice none 0 0)).setCell ⟨w.heap.size + 1, 0, none⟩ (.bool false)) w.heap.size 27 (.slice none 0 0) ∧
      Boxed ((w2.setCell ⟨w.heap.size, 0, none⟩ (.slice none 0 0)).setCell ⟨w.heap.size + 1, 0, none⟩ (.bool false)) (w.heap.size + 1) 4 (.bool false) ∧ Below b w ((w2.setCell ⟨w.heap.size, 0, none⟩ (.slice none 0 0)).setCell ⟨w.heap.size + 1, 0, none⟩ (.bool false)) ∧
      w.heap.size + 1 + 1 + 1 ≤ ((w2.setCell ⟨w.heap.size, 0, none⟩ (.slice none 0 0)).setCell ⟨w.heap.size + 1, 0, none⟩ (.bool false)).heap.size := by
  refine ⟨(((keepsOthers_of_below hb2).trans (KeepsOthers.setCell _ _ _)).trans (KeepsOthers.setCell _ _ _)).from _, boxed_far ((boxed_keep h3 hb2).set _) (by simp) _, (boxed_far (boxed_keep h4 hb2) (by simp) _).set _, ?_, ?_⟩
  · exact ((hbw.trans (hb2.mono (by omega))).setCell (p := ⟨w.heap.size, 0, none⟩) hb _).setCell (p := ⟨w.heap.size + 1, 0, none⟩) (by simp; omega) _
  · have := hb2.size; simp [World.setCell]; omega
def ResI (ps : List ByteArray) (w : World) (b : Nat) (k : Nat) (W : World) : Prop :=
  ∃ out : List ByteArray, (resB [] ps = resB out (ps.drop k) ∧ out.length ≤ k) ∧
    (∃ v, Boxed W (w.heap.size + 1 + 1) 27 v ∧ W.ownsRow (w.heap.size + 1 + 1) 9 1 v out.length (out.map .string) ∧ True) ∧
    Boxed W w.heap.size 27 (.slice none 0 0) ∧ Boxed W (w.heap.size + 1) 4 (.bool false) ∧ Below b w W ∧ w.heap.size + 1 + 1 + 1 ≤ W.heap.size
theorem resI_own (ps : List ByteArray) (w : World) (b B : Nat) (hb : b ≤ w.heap.size) (hB : w.heap.size ≤ B) : OwnFrom B (ResI ps w b) := by
  rintro k W W' row ⟨out, h1, h2, h3, h4, h5, h6⟩ hg hr
  have hr' := fun r e => (hr r e).2
  refine ⟨out, h1, holdsRow_own (w.heap.size + 1 + 1) (w.heap.size + 1 + 1) 27 9 1 (fun o : List ByteArray => o.length) (fun o => o.map .string) (fun _ _ => True) out W W' row h2 hg hr', boxed_own w.heap.size 27 (fun _ : Unit => .slice none 0 0) () W W' row h3 hg hr', boxed_own (w.heap.size + 1) 4 (fun _ : Unit => .bool false) () W W' row h4 hg hr', ?_, Nat.le_trans h6 hg.size⟩
  exact h5.grown hg (by omega) (fun r e => by have := (hr r e).1; omega)
theorem resI_turn {T : World → World → Prop} (ps : List ByteArray) (w : World) (b : Nat) (ht : Tame T b w.heap.size) (k : Nat) (W W' : World) (h : ResI ps w b k W) (hT : T W W') : ResI ps w b k W' := by
  obtain ⟨out, h1, ⟨v, hv, hrow, _⟩, h3, h4, h5, h6⟩ := h
  have hs := ht.same W W' hT
  exact ⟨out, h1, ⟨v, (hs _ (by omega)).trans hv, ownsRow_same hrow (fun j hj => hs j (by omega)), trivial⟩, (hs _ (by omega)).trans h3, (hs _ (by omega)).trans h4, h5.trans (ht.below W W' hT), by rw [ht.size W W' hT]; exact h6⟩
def ResPost (r : Option (List ByteArray)) (w : World) (b : Nat) (e : Ending) (w' : World) : Prop :=
  Below b w w' ∧ match r with
    | none => e = .returned (.tuple #[.slice none 0 0, .bool false])
    | some out => ∃ A c, e = .returned (.tuple #[.slice A out.length c, .bool true]) ∧ Reads w' 1 A out.length (out.map .string) ∧ (∀ a, A = some a → w.heap.size ≤ a.block) ∧ out.length ≤ c
theorem ownsRow_cap {w : World} {base : Nat} {e : TypeId} {size n c : Nat} {A : Option Addr} {xs : List Value} (h : w.ownsRow base e size (.slice A n c) n xs) : n ≤ c := by
  rcases h.2 with ⟨h, h0⟩ | ⟨g, cap, cur, hv, _, _, hc, _⟩
  · omega
  · injection hv with _ _ hv; omega
theorem ownsRow_block {w : World} {base : Nat} {e : TypeId} {size n : Nat} {v : Value} {xs : List Value} (h : w.ownsRow base e size v n xs) (r : Nat) (hr : v.ownBlock = some r) : base ≤ r := by
  rcases h.2 with ⟨rfl, _⟩ | ⟨g, cap, cur, rfl, hg, _⟩
  · cases hr
  · injection hr with hr; subst hr; exact hg
set_option maxHeartbeats 4000000 in
theorem resolve_any (gf b : Nat) (lb : Array Value) (eg : ∀ args w, (callFunc gf args).run Tryz.prog w = .ok (.enter gf args) w) (T : World → World → Prop) (ps : List ByteArray) (w : World)
    (lo hi : Nat) (hhi : hi ≤ w.heap.size) (hseq : Iter Tryz.prog gf lb (ps.map .string) T lo hi w) (ht : Tame T b w.heap.size) (hb : b ≤ w.heap.size) (hlen : ps.length ≤ 1000000000) (hsz : ∀ p ∈ ps, p.size ≤ 4294967281) :
    Calls Tryz.prog 157 #[.func (.func gf) #[] lb] w (ResPost (resB [] ps) w b) := by
  obtain ⟨i0, hi0, hz0, hz1, hz2⟩ := info_parts infoStr
  refine (callsIn_wide (n := 0)).1 ?_
  refine callsIn_of_wp_marks Tryz.func157 rfl trivial ?_ rfl
  simp only [Tryz.ntmps157, List.size_toArray, List.length_cons, List.length_nil, Nat.reduceAdd, Nat.reduceSub, Array.replicate_succ, Array.replicate_zero, List.push_toArray, List.append_toArray, List.nil_append, List.cons_append]
  gi_wp2
  have HS := Lib.hid hsz
  clear hsz
  have hbw0 : Below w.heap.size w (((w.alloc (.cells #[.slice none 0 0] 27)).alloc (.cells #[.bool false] 4)).alloc (.cells #[.slice none 0 0] 27)) := balloc (balloc (balloc (Below.refl _ _) _) _) _
  have b1 := Boxed.new w 27 (.slice none 0 0)
  have b2 := Boxed.new (w.alloc (.cells #[.slice none 0 0] 27)) 4 (.bool false)
  have b3 := Boxed.new ((w.alloc (.cells #[.slice none 0 0] 27)).alloc (.cells #[.bool false] 4)) 27 (.slice none 0 0)
  simp only [World.size_alloc] at b2 b3
  refine range_law (gf := gf) (lb := lb) rfl eg hseq hbw0 (by simp; omega) (ResI ps w b)
    (fun c W => c = .ret ∧ resB [] ps = none ∧ Boxed W w.heap.size 27 (.slice none 0 0) ∧ Boxed W (w.heap.size + 1) 4 (.bool false) ∧ Below b w W ∧ w.heap.size + 1 + 1 + 1 ≤ W.heap.size)
    (resI_own ps w b _ hb (by simp; omega)) ?ixo ⟨[], ⟨rfl, Nat.le_refl _⟩, ⟨_, b3, World.ownsRow_nil _ _ _ _, trivial⟩, (b1.alloc _).alloc _, b2.alloc _, hbw0.mono hb, by simp⟩
    (resI_turn ps w b ht) ht.others
    (fun x => { tmps := #[.func (.func gf) #[] lb, undef, .pointer (some ⟨w.heap.size, 0, none⟩), .pointer (some ⟨w.heap.size + 1, 0, none⟩), .pointer (some ⟨w.heap.size + 1 + 1, 0, none⟩), x, .func (.func gf) #[] lb, x, undef, undef, undef, undef, undef, undef, undef, undef, undef, undef, undef, undef, undef, undef, undef, undef, undef, undef, undef, undef, undef, undef, undef, undef], defers := [] }) ?assign ?body ?done ?stop
  case ixo =>
    rintro c _ W W' row ⟨h0, h1, h2, h3, h4, h5⟩ hg hr
    have hr' := fun r e => (hr r e).2
    exact ⟨h0, h1, boxed_own w.heap.size 27 (fun _ : Unit => .slice none 0 0) () W W' row h2 hg hr', boxed_own (w.heap.size + 1) 4 (fun _ : Unit => .bool false) () W W' row h3 hg hr', h4.grown hg (by omega) (fun r e => by have := (hr r e).1; simp at this; omega), Nat.le_trans h5 hg.size⟩
  case assign =>
    intro l x W K _ hK
    gi_wp2
    exact hK
  case body =>
    rintro l k x W hx ⟨out, ⟨hr1, hr2⟩, ⟨v, hv, hrow, _⟩, h3, h4, hbw, hsz6⟩
    obtain ⟨p, hp, rfl⟩ := strs_at hx
    have hps := HS.out p (List.mem_of_getElem? hp)
    have hkl : k < ps.length := (List.getElem?_eq_some_iff.1 hp).1
    have hd : ps.drop k = p :: ps.drop (k + 1) := by
      obtain ⟨hl2, rfl⟩ := List.getElem?_eq_some_iff.1 hp
      exact List.drop_eq_getElem_cons hl2
    rw [hd, resB] at hr1
    clear hx hp hd b1 b2 b3 hbw0
    obtain ⟨A, c, rfl⟩ : ∃ A c, v = .slice A out.length c := by
      rcases hrow.2 with ⟨hv, h0⟩ | ⟨g, cap, cur, hv, _⟩
      · exact ⟨none, 0, by rw [hv, h0]⟩
      · exact ⟨_, _, hv⟩
    have c4 := hv.cell
    have f4 := hv.frozen
    have c2 := h3.cell; have f2 := h3.frozen
    have c3 := h4.cell; have f3 := h4.frozen
    have cW := isWord_any p W (by omega)
    have HR := Lib.hid hr1
    clear hr1
    by_cases e1 : (p.toList == [46]) = true
    · have hn := HR.out
      simp only [resStep, e1, if_true, Option.bind_some] at hn
      have HN := Lib.hid hn
      clear hn HR cW
      gi_wp2
      exact ⟨KeepsFrom.refl _ _, KeepsIn.refl _ _ _, out, ⟨HN.out, by omega⟩, ⟨_, hv, hrow, trivial⟩, h3, h4, hbw, hsz6⟩
    have e1' : (p.toList == [46]) = false := by simpa using e1
    clear e1
    by_cases e2 : (p.toList == [46, 46]) = true
    · rcases List.eq_nil_or_concat out with rfl | ⟨init, last, rfl⟩
      · have hwf : isWordB p = false := by simp [isWordB, beq_iff_eq.1 e2]
        have hn : resB [] ps = none := by rw [HR.out]; simp [resStep, e1', e2, hwf]
        rw [hwf] at cW
        have HW := Lib.hid cW
        clear cW hwf
        simp only [List.length_nil] at c4 hv hrow
        gi_wp2_with (refine ⟨trivial, rfl, ?_⟩; gi_at_call 140; refine (CallsIn.inRound l (callsIn_wide.2 HW.out)).mono ?_; rintro e w2 ⟨rfl, hb2⟩; have c2' := cell_keep hb2 c2; have f2' := frozen_keep hb2 (cell_lt c2) f2; have c3' := cell_keep hb2 c3; have f3' := frozen_keep hb2 (cell_lt c3) f3)
        obtain ⟨k1, k2, k3, k4, k5⟩ := fail_end (B := (((w.alloc (.cells #[.slice none 0 0] 27)).alloc (.cells #[.bool false] 4)).alloc (.cells #[.slice none 0 0] 27)).heap.size) hb h3 h4 hbw hsz6 hb2
        exact ⟨k1, rfl, hn, k2, k3, k4, k5⟩
      · rw [List.concat_eq_append] at *
        have hn := HR.out
        have hs : resStep (init ++ [last]) p = some init := by simp [resStep, e1', e2]
        rw [hs, Option.bind_some] at hn
        have HN := Lib.hid hn
        clear hn hs HR cW
        rw [List.length_append, List.length_singleton] at c4 hv hrow hr2
        obtain ⟨g, hA⟩ : ∃ g, A = some ⟨g, 0, none⟩ := by
          rcases hrow.2 with ⟨h0, _⟩ | ⟨g, cap, cur, h0, _⟩
          · cases h0
          · exact ⟨g, by injection h0⟩
        subst hA
        have hcap : init.length + 1 ≤ c := by
          rcases hrow.2 with ⟨h0, _⟩ | ⟨g, cap, cur, h0, _, _, hle, _⟩
          · cases h0
          · injection h0 with _ _ h0; omega
        have hpop := ownsRow_pop (xs := init.map Value.string) (last := [.string last]) (n := init.length) (size := 1) (by simp) (by simpa using hrow)
        have hpos : (0 : Int) < ((init.length + 1 : Nat) : Int) := by omega
        have hl9 : init.length ≤ 1000000000 := by omega
        gi_wp2
        refine ⟨(KeepsOthers.setCell _ _ _).from _, Below.keepsIn ((Below.refl (w.heap.size + 1 + 1) W).setCell (p := ⟨w.heap.size + 1 + 1, 0, none⟩) (Nat.le_refl _) _) (by omega), init, ⟨HN.out, by omega⟩, ⟨_, hv.set _, hpop.kept (grownBy_setCell' W _ _) (.inr (hv.not_row (by decide) hpop).symm), trivial⟩, boxed_far h3 (by simp; omega) _, boxed_far h4 (by simp) _, hbw.setCell (p := ⟨w.heap.size + 1 + 1, 0, none⟩) (by simp; omega) _, by simp [World.setCell]; omega⟩
    have e2' : (p.toList == [46, 46]) = false := by simpa using e2
    clear e2
    cases hw : isWordB p
    · have hn : resB [] ps = none := by rw [HR.out]; simp [resStep, e1', e2', hw]
      rw [hw] at cW
      have HW := Lib.hid cW
      clear cW hw
      gi_wp2_with (refine ⟨trivial, rfl, ?_⟩; gi_at_call 140; refine (CallsIn.inRound l (callsIn_wide.2 HW.out)).mono ?_; rintro e w2 ⟨rfl, hb2⟩; have c2' := cell_keep hb2 c2; have f2' := frozen_keep hb2 (cell_lt c2) f2; have c3' := cell_keep hb2 c3; have f3' := frozen_keep hb2 (cell_lt c3) f3)
      obtain ⟨k1, k2, k3, k4, k5⟩ := fail_end (B := (((w.alloc (.cells #[.slice none 0 0] 27)).alloc (.cells #[.bool false] 4)).alloc (.cells #[.slice none 0 0] 27)).heap.size) hb h3 h4 hbw hsz6 hb2
      exact ⟨k1, rfl, hn, k2, k3, k4, k5⟩
    · have hn := HR.out
      have hs : resStep out p = some (out ++ [p]) := by simp [resStep, e1', e2', hw]
      rw [hs, Option.bind_some] at hn
      rw [hw] at cW
      have HW := Lib.hid cW
      have HN := Lib.hid hn
      clear cW hw hn hs HR
      gi_wp2_with (first | (refine ⟨trivial, rfl, ?_⟩; gi_at_call 140; refine (CallsIn.inRound l (callsIn_wide.2 HW.out)).mono ?_; rintro e w2 ⟨rfl, hb2⟩; have c4' := cell_keep hb2 c4; have hv2 := boxed_keep hv hb2; have hrow2 := ownsRow_keep hrow hb2) | (gi_at_builtin; refine wpListIn_append_own _ rfl _ _ 27 rfl (w.heap.size + 1 + 1) 9 i0 (.string ⟨#[]⟩) 1 16 Tryz.underlying27 hi0 hz0 hz1 hz2 rfl (by decide) _ _ _ rfl (hrow2.alloc _) ⟨w2.heap.size, 0, none⟩ 1 1 [.string p] rfl rfl (cell_one_new _ _ _) (by simp [Value.oneCell']) (by unfold maxLen; omega) (by omega) (by have := hb2.size; simp; omega) ?_; intro v' w3 hown' hgrow _; obtain ⟨g', cap', rfl⟩ := ownsRow_succ hown'; obtain ⟨hv1, hvs, hrs, hk2, hbs⟩ := hv2.appended (by decide) hrow2 (by have := hb2.size; omega) (Nat.le_refl _) hown' hgrow; have c5 := hv1.cell; have f5 := hv1.frozen))
      have hs2 := hb2.size
      have hbs' : Below (w.heap.size + 1 + 1) W (w3.setCell ⟨w.heap.size + 1 + 1, 0, none⟩ (.slice (some ⟨g', 0, none⟩) (out.length + 1) cap')) := (hb2.mono (by omega)).trans hbs
      refine ⟨((keepsOthers_of_below hb2).trans hk2).from _, Below.keepsIn hbs' (by omega), out ++ [p], ⟨HN.out, by simp; omega⟩, ⟨_, hvs, by simpa using hrs, trivial⟩, (hbs'.block _ (by omega)).trans h3, (hbs'.block _ (by omega)).trans h4, hbw.trans (hbs'.mono (by omega)), by have := hbs'.size; omega⟩
  case done =>
    rintro D W hD ⟨out, ⟨hr1, hr2⟩, ⟨v, hv, hrow, _⟩, h3, h4, hbw, hsz6⟩ hK
    rw [List.length_map, List.drop_eq_nil_of_le (Nat.le_refl _), resB] at hr1
    obtain ⟨A, c, rfl⟩ : ∃ A c, v = .slice A out.length c := by
      rcases hrow.2 with ⟨hv, h0⟩ | ⟨g, cap, cur, hv, _⟩
      · exact ⟨none, 0, by rw [hv, h0]⟩
      · exact ⟨_, _, hv⟩
    have c4 := hv.cell
    have c2 := h3.cell; have f2 := h3.frozen
    have c3 := h4.cell; have f3 := h4.frozen
    gi_wp2
    have hk2 := ((KeepsOthers.setCell W ⟨w.heap.size, 0, none⟩ (.slice A out.length c)).trans (KeepsOthers.setCell _ ⟨w.heap.size + 1, 0, none⟩ (.bool true))).same D _ hK rfl
    have hD' : w.heap.size + 1 + 1 + 1 ≤ D := by simpa using hD
    obtain ⟨W2, hW2⟩ : ∃ W2, W2 = (W.setCell ⟨w.heap.size, 0, none⟩ (.slice A out.length c)).setCell ⟨w.heap.size + 1, 0, none⟩ (.bool true) := ⟨_, rfl⟩
    have x3 : Boxed W2 w.heap.size 27 (.slice A out.length c) := hW2 ▸ boxed_far (h3.set _) (by simp) _
    have x4 : Boxed W2 (w.heap.size + 1) 4 (.bool true) := hW2 ▸ (boxed_far h4 (by simp) _).set _
    have hb2 : Below b w W2 := hW2 ▸ (hbw.setCell (p := ⟨w.heap.size, 0, none⟩) hb _).setCell (p := ⟨w.heap.size + 1, 0, none⟩) (by simp; omega) _
    have hr2' : W2.ownsRow (w.heap.size + 1 + 1) 9 1 (.slice A out.length c) out.length (out.map .string) := by
      rw [hW2]
      refine ownsRow_same hrow (fun j hj => ?_)
      rw [Below.heap_setCell _ _ _ _ (by simp; omega), Below.heap_setCell _ _ _ _ (by simp; omega)]
    rw [← hW2] at hk2 ⊢
    clear hW2 h3 h4 hbw hrow c2 c3 c4 f2 f3 hv
    refine ⟨by simp, .inl ⟨_, _, rfl, run_takeDeferred hk2, ?_⟩⟩
    have hne : ∀ (B : Nat) (t : TypeId) (v : Value), Boxed W2 B t v → B < D → (W2.putObj D (.deferred none)).cell? ⟨B, 0, none⟩ = some v := fun B t v hv hlt => Boxed.cell (t := t) ((World.putObj_heap_other (by omega)).trans hv)
    have y3 := hne _ _ _ x3 (by omega)
    have y4 := hne _ _ _ x4 (by omega)
    refine ⟨.tuple #[.slice A out.length c, .bool true], by simp [results, Tryz.results157, go_sem, y3, y4], ?_, ?_⟩
    · exact hb2.grown (grownBy_putObj' W2 D _) (by have := hb2.size; omega) (fun r e => by cases e; omega)
    · rw [hr1]
      exact ⟨A, c, rfl, Reads.of_own (ownsRow_putObj hr2' _ hk2 rfl), fun a ha => Nat.le_trans (by omega) (ownsRow_block hr2' a.block (by rw [ha]; rfl)), ownsRow_cap hr2'⟩
  case stop =>
    rintro D c W hD ⟨rfl, hr1, h3, h4, hbw, hsz6⟩ hK
    have hD' : w.heap.size + 1 + 1 + 1 ≤ D := by simpa using hD
    gi_wp2
    refine ⟨by simp, .inl ⟨_, _, rfl, run_takeDeferred hK, ?_⟩⟩
    have hne : ∀ (B : Nat) (t : TypeId) (v : Value), Boxed W B t v → B < D → (W.putObj D (.deferred none)).cell? ⟨B, 0, none⟩ = some v := fun B t v hv hlt => Boxed.cell (t := t) ((World.putObj_heap_other (by omega)).trans hv)
    have y3 := hne _ _ _ h3 (by omega)
    have y4 := hne _ _ _ h4 (by omega)
    refine ⟨.tuple #[.slice none 0 0, .bool false], by simp [results, Tryz.results157, go_sem, y3, y4], ?_, ?_⟩
    · exact hbw.grown (grownBy_putObj' W D _) (by have := hbw.size; omega) (fun r e => by cases e; omega)
    · rw [hr1]
end Go.Proofs.YtjhlpkhfdghngaaGreatDoor
namespace Go.Proofs.YtjhlpkhfdghngaaGreatDoor
open Go.RowKit Go.Sort
set_option linter.unusedVariables false
set_option linter.unusedSimpArgs false
set_option maxRecDepth 100000
attribute [local go_sem] Oper.semAt_some
theorem values_any (A : Option Addr) (n c : Nat) (w : World) : Calls Tryz.prog 81 #[.slice A n c] w fun e w' =>
    e = .returned (.func (.func 152) #[] #[.pointer (some ⟨w.heap.size, 0, none⟩)]) ∧ w' = w.alloc (.cells #[.slice A n c] 27) := by
  go_enter Tryz.func81, Tryz.ntmps81
  go_wp2
  go_ret
  exact ⟨rfl, rfl⟩
theorem Reads.keepsIn {w w' : World} {size n hI0 : Nat} {A : Option Addr} {vs : List Value} (h : Reads w size A n vs) (hk : KeepsIn 0 hI0 w w') (hA : ∀ a, A = some a → 0 < n → a.block < hI0) : Reads w' size A n vs := by
  refine ⟨h.1, fun h0 => ?_⟩
  obtain ⟨b, o, rfl, hc⟩ := h.2 h0
  exact ⟨b, o, rfl, fun j u hu => (World.cell?_of_block (hk b (Nat.zero_le _) (hA _ rfl h0))).trans (hc j u hu)⟩
set_option maxHeartbeats 2000000 in
theorem values_iter (B n c : Nat) (A : Option Addr) (ps : List ByteArray) (w : World) (hB : w.cell? ⟨B, 0, none⟩ = some (.slice A n c)) (hR : Reads w 1 A n (ps.map .string)) (hn : n ≤ 1000000000) :
    Iter Tryz.prog 152 #[.pointer (some ⟨B, 0, none⟩)] (ps.map .string) (fun _ _ => False) 0 w.heap.size w := by
  intro l J Jx W hW _ hJT hY hJ0
  have hBl := cell_lt hB
  have hlen : ps.length = n := by have := hR.1; simpa using this
  have g0 := cell_keep hW hB
  have hR0 := hR.keep hW
  have hA : ∀ a, A = some a → 0 < n → a.block < w.heap.size := by
    intro a ha h0
    obtain ⟨b, o, rfl, hc⟩ := hR.2 h0
    injection ha with ha; subst ha
    have h1 : 0 < (ps.map Value.string).length := by simp; omega
    have := hc 0 _ (List.getElem?_eq_getElem h1)
    exact cell_lt (a := ⟨b, o + 0, none⟩) this
  have HY := Lib.hid hY
  have HA := Lib.hid hA
  have HL := Lib.hid hlen
  have HBL : Hid (B < w.heap.size) := Lib.hid hBl
  clear hY hA hlen hBl hR hB hJT
  refine callsIn_of_wp Tryz.func152 rfl trivial ?_ rfl
  simp only [Tryz.ntmps152, List.size_toArray, List.length_cons, List.length_nil, Nat.reduceAdd, Nat.reduceSub, Array.replicate_succ, Array.replicate_zero, List.push_toArray, List.append_toArray, List.nil_append, List.cons_append]
  gi_wp2
  gi_loopw [7] (fun vi wr => ∃ k : Nat, (vi = .int .i64 k ∧ k ≤ n) ∧ wr.cell? ⟨B, 0, none⟩ = some (.slice A n c) ∧ Reads wr 1 A n (ps.map .string) ∧ J k wr) (fun vi _ => n - (intOf vi).toNat)
  case atStart => exact ⟨0, ⟨rfl, Nat.zero_le _⟩, g0, hR0, hJ0⟩
  case round =>
    clear g0 hR0 hJ0
    obtain ⟨k, ⟨rfl, hk⟩, g0, hR, hJ⟩ := hrel
    by_cases hlt : k < n
    · obtain ⟨pb, po, u, rfl, hu, hcell⟩ := hR.at_ hlt
      obtain ⟨x, hx, rfl⟩ := strs_at hu
      obtain ⟨fn, tmps, assign, body, hy, hRd⟩ := HY.out k _ wr hu hJ
      clear hu hx
      gi_wp2
      refine ⟨rfl, hRd.mono ?_⟩
      rintro e W' (⟨rfl, hJ', hk'⟩ | ⟨rfl, hJx'⟩)
      · have g0' : W'.cell? ⟨B, 0, none⟩ = some (.slice (some ⟨pb, po, none⟩) n c) := (World.cell?_of_block (hk' B (Nat.zero_le _) HBL.out)).trans g0
        have hR' := hR.keepsIn hk' HA.out
        clear g0 hR
        gi_wp2
        exact ⟨⟨k + 1, ⟨by go_num, by omega⟩, g0', hR', hJ'⟩, by simp [intOf]; omega⟩
      · gi_wp2
        refine bodyPost_ret (results_none rfl _ _ _) rfl ?_
        exact ⟨⟨_, rfl⟩, .inr hJx'⟩
    · obtain rfl : k = n := by omega
      gi_wp2
      go_end0
      exact ⟨⟨_, rfl⟩, .inl (by rw [List.length_map, HL.out]; exact hJ)⟩
def AppI (ps : List ByteArray) (w : World) (k : Nat) (W : World) : Prop :=
  (∃ v, Boxed W w.heap.size 27 v ∧ W.ownsRow w.heap.size 9 1 v (ps.take k).length ((ps.take k).map .string) ∧ True) ∧ Below w.heap.size w W ∧ w.heap.size + 1 ≤ W.heap.size
theorem appI_own (ps : List ByteArray) (w : World) (B : Nat) (hB : w.heap.size ≤ B) : OwnFrom B (AppI ps w) := by
  rintro k W W' row ⟨h2, h5, h6⟩ hg hr
  have hr' := fun r e => (hr r e).2
  exact ⟨holdsRow_own w.heap.size w.heap.size 27 9 1 (fun o : List ByteArray => o.length) (fun o => o.map .string) (fun _ _ => True) (ps.take k) W W' row h2 hg hr', h5.grown hg (by omega) (fun r e => by have := (hr r e).1; omega), Nat.le_trans h6 hg.size⟩
set_option maxHeartbeats 4000000 in
theorem appendSeq_any (gf : Nat) (lb : Array Value) (eg : ∀ args w, (callFunc gf args).run Tryz.prog w = .ok (.enter gf args) w) (ps : List ByteArray) (w : World)
    (lo hi : Nat) (hhi : hi ≤ w.heap.size) (hseq : Iter Tryz.prog gf lb (ps.map .string) (fun _ _ => False) lo hi w) (hlen : ps.length ≤ 1000000000) :
    Calls Tryz.prog 219 #[.slice none 0 0, .func (.func gf) #[] lb] w fun e w' => ∃ v, e = .returned v ∧ w'.ownsRow w.heap.size 9 1 v ps.length (ps.map .string) ∧ Below w.heap.size w w' := by
  obtain ⟨i0, hi0, hz0, hz1, hz2⟩ := info_parts infoStr
  refine (callsIn_wide (n := 0)).1 ?_
  refine callsIn_of_wp_marks Tryz.func219 rfl trivial ?_ rfl
  simp only [Tryz.ntmps219, List.size_toArray, List.length_cons, List.length_nil, Nat.reduceAdd, Nat.reduceSub, Array.replicate_succ, Array.replicate_zero, List.push_toArray, List.append_toArray, List.nil_append, List.cons_append]
  gi_wp2
  have hbw0 : Below w.heap.size w (w.alloc (.cells #[.slice none 0 0] 27)) := balloc (Below.refl _ _) _
  have b3 := Boxed.new w 27 (.slice none 0 0)
  refine range_law (gf := gf) (lb := lb) rfl eg hseq hbw0 (by simp; omega) (AppI ps w) (fun _ _ => False) (appI_own ps w _ (by simp)) (fun c => fun _ _ _ _ h => h.elim) ⟨⟨_, b3, World.ownsRow_nil _ _ _ _, trivial⟩, hbw0, by simp⟩
    (fun _ _ _ _ h => h.elim) (fun _ _ h => h.elim)
    (fun x => { tmps := #[.slice none 0 0, .func (.func gf) #[] lb, .pointer (some ⟨w.heap.size, 0, none⟩), undef, .slice none 0 0, x, .func (.func gf) #[] lb, x, undef, undef, undef, undef, undef], defers := [] }) ?assign ?body ?done ?stop
  case assign =>
    intro l x W K _ hK
    gi_wp2
    exact hK
  case body =>
    rintro l k x W hx ⟨⟨v, hv, hrow, _⟩, hbw, hsz6⟩
    obtain ⟨p, hp, rfl⟩ := strs_at hx
    have hkl : k < ps.length := (List.getElem?_eq_some_iff.1 hp).1
    have htk : ps.take (k + 1) = ps.take k ++ [p] := by rw [List.take_add_one, hp]; rfl
    have hlk : (ps.take k).length = k := by rw [List.length_take]; omega
    rw [hlk] at hrow
    have HT := Lib.hid htk
    have HK := Lib.hid hlk
    clear hx hp htk hlk b3 hbw0
    obtain ⟨A, c, rfl⟩ : ∃ A c, v = .slice A k c := by
      rcases hrow.2 with ⟨hv, h0⟩ | ⟨g, cap, cur, hv, _⟩
      · exact ⟨none, 0, by rw [hv, h0]⟩
      · exact ⟨_, _, hv⟩
    have c4 := hv.cell
    have f4 := hv.frozen
    gi_wp2_with (gi_at_builtin; refine wpListIn_append_own _ rfl _ _ 27 rfl w.heap.size 9 i0 (.string ⟨#[]⟩) 1 16 Tryz.underlying27 hi0 hz0 hz1 hz2 rfl (by decide) _ _ _ rfl (hrow.alloc _) ⟨W.heap.size, 0, none⟩ 1 1 [.string p] rfl rfl (cell_one_new _ _ _) (by simp [Value.oneCell']) (by unfold maxLen; omega) (by omega) (by simp; omega) ?_; intro v' w3 hown' hgrow _; obtain ⟨g', cap', rfl⟩ := ownsRow_succ hown'; obtain ⟨hv1, hvs, hrs, hk2, hbs⟩ := hv.appended (by decide) hrow (by omega) (Nat.le_refl _) hown' hgrow; have c5 := hv1.cell; have f5 := hv1.frozen)
    refine ⟨hk2.from _, Below.keepsIn hbs (by omega), ⟨_, hvs, ?_, trivial⟩, hbw.trans hbs, by have := hbs.size; omega⟩
    rw [HT.out, List.length_append, HK.out, List.map_append]
    exact hrs
  case done =>
    rintro D W hD ⟨⟨v, hv, hrow, _⟩, hbw, hsz6⟩ hK
    rw [List.length_map, List.take_length] at hrow
    have c4 := hv.cell
    gi_wp2
    refine ⟨by simp, .inl ⟨_, _, rfl, run_takeDeferred hK, ?_⟩⟩
    have hD' : w.heap.size + 1 ≤ D := by simpa using hD
    refine ⟨v, by simp [results, Tryz.results219, go_sem], ?_⟩
    exact ⟨v, rfl, ownsRow_putObj hrow _ hK rfl, hbw.grown (grownBy_putObj' W D _) (by have := hbw.size; omega) (fun r e => by cases e; omega)⟩
  case stop =>
    rintro D c W hD hf _
    exact hf.elim
end Go.Proofs.YtjhlpkhfdghngaaGreatDoor
