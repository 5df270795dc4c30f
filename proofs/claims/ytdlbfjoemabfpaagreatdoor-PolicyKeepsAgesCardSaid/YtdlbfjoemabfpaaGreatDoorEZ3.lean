/- The pieces of a text between the bytes c: 'splitL'; and strings.SplitSeq's iterator yields them. -/
import Derived.Test.YtdlbfjoemabfpaaGreatDoorEZ2
import Derived.Test.YtdlbfjoemabfpaaGreatDoorEZ1
import Derived.Test.YtdlbfjoemabfpaaGreatDoorProg
import Derived.WalkKit
import Derived.WalkSpells
import Derived.WalkLawsBesides
import Derived.Below
import Derived.Deep.QuietTactic
import Derived.BigQuiet
import Derived.Lib.QuietBelow
import Derived.Lib.Strings
import Derived.Lib.Hide
import Derived.Deep.RegionWith
import Derived.Deep.RegionHeld3
import Derived.Lib.IndexBytes
import Derived.RangeFuncBox
import Derived.Maps.AppendAt
import Derived.WalkSmall
import Derived.Shelf.SlGeneric
import Derived.Shelf.SlIter.Nil
import Derived.Shelf.SortM.Plain
import Derived.Shelf.SortM.SortNone
import Derived.Ground.GgzProg
import Derived.Ground.SlgmProg
namespace Go.Proofs.YtdlbfjoemabfpaaGreatDoor
open Go.RowKit Go.Sort
set_option linter.unusedVariables false
set_option linter.unusedSimpArgs false
set_option maxRecDepth 100000
attribute [local go_sem] Oper.semAt_some
def splitL (c : UInt8) : List UInt8 → List (List UInt8)
  | [] => [[]]
  | b :: r => if b = c then [] :: splitL c r else match splitL c r with
    | [] => [[b]]
    | p :: ps => (b :: p) :: ps
theorem splitL_ne (c : UInt8) (l : List UInt8) : splitL c l ≠ [] := by
  cases l with
  | nil => simp [splitL]
  | cons b r => unfold splitL; split <;> (try split) <;> simp
theorem indexByte_cons (b c : UInt8) (l : List UInt8) : Lib.indexByte (b :: l) c = if b = c then 0 else if Lib.indexByte l c = -1 then -1 else Lib.indexByte l c + 1 := by
  rw [Lib.indexByte]; simp only [beq_iff_eq]
theorem indexByte_ge (c : UInt8) : ∀ l : List UInt8, -1 ≤ Lib.indexByte l c
  | [] => by simp [Lib.indexByte]
  | b :: l => by have := indexByte_ge c l; rw [indexByte_cons]; split <;> (try split) <;> omega
theorem splitL_miss (c : UInt8) : ∀ l : List UInt8, Lib.indexByte l c < 0 → splitL c l = [l]
  | [], _ => rfl
  | b :: r, h => by
    rw [indexByte_cons] at h
    have hg := indexByte_ge c r
    unfold splitL
    by_cases e : b = c
    · rw [if_pos e] at h; omega
    · rw [if_neg e] at h
      have hr : Lib.indexByte r c < 0 := by split at h <;> omega
      rw [if_neg e, splitL_miss c r hr]
theorem splitL_hit (c : UInt8) : ∀ (l : List UInt8) (i : Nat), Lib.indexByte l c = i → splitL c l = l.take i :: splitL c (l.drop (i + 1)) ∧ i < l.length
  | [], i, h => by simp [Lib.indexByte] at h
  | b :: r, i, h => by
    rw [indexByte_cons] at h
    have hg := indexByte_ge c r
    rw [splitL]
    by_cases e : b = c
    · rw [if_pos e] at h
      obtain rfl : i = 0 := by omega
      rw [if_pos e]
      simp
    · rw [if_neg e] at h ⊢
      by_cases h2 : Lib.indexByte r c = -1
      · rw [if_pos h2] at h; omega
      · rw [if_neg h2] at h
        obtain ⟨j, hj⟩ : ∃ j : Nat, Lib.indexByte r c = j := ⟨(Lib.indexByte r c).toNat, by omega⟩
        obtain rfl : i = j + 1 := by omega
        obtain ⟨e1, e2⟩ := splitL_hit c r j hj
        rw [e1]
        simp
        exact e2
def splitB (c : UInt8) (s : ByteArray) : List ByteArray := (splitL c s.data.toList).map fun l => ⟨l.toArray⟩
theorem bytes_ext {a b : ByteArray} (h : a.data.toList = b.data.toList) : a = b := by
  obtain ⟨⟨a⟩⟩ := a; obtain ⟨⟨b⟩⟩ := b; simp at h; rw [h]
theorem splitB_miss (c : UInt8) (s : ByteArray) (h : Lib.indexByte s.data.toList c < 0) : splitB c s = [s] := by
  unfold splitB; rw [splitL_miss c _ h]; rfl
theorem splitB_hit (c : UInt8) (s : ByteArray) (i : Nat) (h : Lib.indexByte s.data.toList c = i) : splitB c s = s.extract 0 i :: splitB c (s.extract (i + 1) s.size) ∧ i < s.size := by
  obtain ⟨e1, e2⟩ := splitL_hit c _ i h
  unfold splitB
  rw [e1, Lib.extract_to_end, List.map_cons]
  refine ⟨congrArg (· :: _) (bytes_ext ?_), by rw [Lib.size_eq]; exact e2⟩
  rw [Lib.extract_data]; simp
theorem drop_head {α : Type} {l : List α} {k : Nat} {x : α} {r : List α} (h : l.drop k = x :: r) : l[k]? = some x := by
  have := List.getElem?_drop (xs := l) (i := k) (j := 0)
  rw [h] at this; simpa using this.symm
def Turns (b : Nat) (W W' : World) : Prop := ∃ v, W' = W.setCell ⟨b, 0, none⟩ v
def curLen (w : World) (b : Nat) : Nat := match w.cell? ⟨b, 0, none⟩ with
  | some (.string s) => s.size
  | _ => 0
set_option maxHeartbeats 4000000 in
theorem splitSeq_iter (b : Nat) (c : UInt8) (s : ByteArray) (w : World) (hs : s.size ≤ 4294967281)
    (h0 : w.cell? ⟨b, 0, none⟩ = some (.string s)) (h1 : w.cell? ⟨b + 1, 0, none⟩ = some (.string ⟨#[c]⟩)) (h2 : w.cell? ⟨b + 2, 0, none⟩ = some (.int .i64 0)) (hf : w.frozen? ⟨b, 0, none⟩ = false) :
    Iter Tryz.prog 242 #[.pointer (some ⟨b + 1, 0, none⟩), .pointer (some ⟨b, 0, none⟩), .pointer (some ⟨b + 2, 0, none⟩)] ((splitB c s).map .string) (Turns b) b (b + 3) w := by
  intro l J Jx W hW _ hJT hY hJ0
  have g0 := cell_keep hW h0
  have g1 := cell_keep hW h1
  have g2 := cell_keep hW h2
  have gf := frozen_keep hW (cell_lt h0) hf
  clear h0 h1 h2 hf hW w
  refine callsIn_of_wp Tryz.func242 rfl trivial ?_ rfl
  simp only [Tryz.ntmps242, List.size_toArray, List.length_cons, List.length_nil, Nat.reduceAdd, Nat.reduceSub, Array.replicate_succ, Array.replicate_zero, List.push_toArray, List.append_toArray, List.nil_append, List.cons_append]
  have HJT := Lib.hid hJT; have HY := Lib.hid hY
  clear hJT hY
  gi_wp2
  gi_loopw [7] (fun _ wr => ∃ (k : Nat) (cur : ByteArray), Hid ((splitB c s).drop k = splitB c cur) ∧ cur.size ≤ 4294967281 ∧ wr.cell? ⟨b, 0, none⟩ = some (.string cur) ∧ wr.cell? ⟨b + 1, 0, none⟩ = some (.string ⟨#[c]⟩) ∧ wr.cell? ⟨b + 2, 0, none⟩ = some (.int .i64 0) ∧ wr.frozen? ⟨b, 0, none⟩ = false ∧ J k wr)
    (fun _ wr => curLen wr b)
  case atStart => exact ⟨0, s, Lib.hid (by simp), hs, g0, g1, g2, gf, hJ0⟩
  case round =>
    clear g0 g1 g2 gf hJ0
    obtain ⟨k, cur, HD, hcur, g0, g1, g2, gf, hJ⟩ := hrel
    have HM := Lib.hid (show curLen wr b = cur.size by simp [curLen, g0])
    by_cases hi : Lib.indexByte cur.data.toList c < 0
    · have hd := HD.out
      rw [splitB_miss c cur hi] at hd
      have hx : ((splitB c s).map Value.string)[k]? = some (.string cur) := by
        have : (splitB c s)[k]? = some cur := drop_head hd
        simp [this]
      have hlen : k + 1 = (splitB c s).length := by
        have := congrArg List.length hd
        simp at this; omega
      obtain ⟨fn, tmps, assign, body, hy, hR⟩ := HY.out k _ wr hx hJ
      have HL := Lib.hid hlen
      clear hd hx hlen HY HJT HD
      obtain ⟨ix, hix⟩ : ∃ ix, Lib.indexByte cur.data.toList c = ix := ⟨_, rfl⟩
      have cI := Tryz.strings_Index_one cur c wr
      rw [hix] at cI hi
      have HI := Lib.hid cI
      clear cI hix
      gi_wp2_with (refine ⟨trivial, rfl, ?_⟩; gi_at_call 164; refine (callsIn_wide.2 HI.out).mono ?_; rintro e w' ⟨rfl, hw'⟩; rw [hw'])
      refine ⟨rfl, hR.mono ?_⟩
      rintro e W' (⟨rfl, hJ', hk'⟩ | ⟨rfl, hJx'⟩)
      · gi_wp2
        go_end0
        exact ⟨⟨_, rfl⟩, .inl (by rw [List.length_map, ← HL.out]; exact hJ')⟩
      · gi_wp2
        go_end0
        exact ⟨⟨_, rfl⟩, .inr hJx'⟩
    · obtain ⟨i, hix⟩ : ∃ i : Nat, Lib.indexByte cur.data.toList c = i := ⟨(Lib.indexByte cur.data.toList c).toNat, by omega⟩
      obtain ⟨hd, hil⟩ := splitB_hit c cur i hix
      rw [← HD.out] at hd
      have hx : ((splitB c s).map Value.string)[k]? = some (.string (cur.extract 0 i)) := by
        have : (splitB c s)[k]? = some (cur.extract 0 i) := drop_head hd
        simp [this]
      have hd2 : (splitB c s).drop (k + 1) = splitB c (cur.extract (i + 1) cur.size) := by
        have := congrArg (List.drop 1) hd
        simpa [List.drop_drop] using this
      obtain ⟨fn, tmps, assign, body, hy, hR⟩ := HY.out k _ wr hx hJ
      have HD2 := Lib.hid hd2
      have cI := Tryz.strings_Index_one cur c wr
      rw [hix] at cI
      have HI := Lib.hid cI
      have hsz : (cur.extract (i + 1) cur.size).size ≤ cur.size - (i + 1) := by simp
      clear hd hx hd2 cI hix HD hi
      gi_wp2_with (refine ⟨trivial, rfl, ?_⟩; gi_at_call 164; refine (callsIn_wide.2 HI.out).mono ?_; rintro e w' ⟨rfl, hw'⟩; rw [hw'])
      refine ⟨rfl, hR.mono ?_⟩
      rintro e W' (⟨rfl, hJ', hk'⟩ | ⟨rfl, hJx'⟩)
      · have e0 : W'.cell? ⟨b, 0, none⟩ = some (.string cur) := (World.cell?_of_block (hk' _ (by simp) (by simp))).trans g0
        have e1 : W'.cell? ⟨b + 1, 0, none⟩ = some (.string ⟨#[c]⟩) := (World.cell?_of_block (hk' _ (by simp) (by simp))).trans g1
        have e2 : W'.cell? ⟨b + 2, 0, none⟩ = some (.int .i64 0) := (World.cell?_of_block (hk' _ (by simp) (by simp))).trans g2
        have ef : W'.frozen? ⟨b, 0, none⟩ = false := (World.frozen?_of_block (hk' _ (by simp) (by simp))).trans gf
        clear g0 g1 g2 gf
        gi_wp2
        have hst : (W'.setCell ⟨b, 0, none⟩ (.string (cur.extract (i + 1) cur.size))).cell? ⟨b, 0, none⟩ = some (.string (cur.extract (i + 1) cur.size)) := World.cell?_setCell_same' _ _ _ (by rw [e0]; rfl)
        refine ⟨⟨k + 1, _, HD2, by omega, hst, ?_, ?_, by rw [World.frozen?_setCell]; exact ef, HJT.out _ _ _ hJ' ⟨_, rfl⟩⟩, ?_⟩
        · rw [World.cell?_setCell_other _ _ _ _ (by simp)]; exact e1
        · rw [World.cell?_setCell_other _ _ _ _ (by simp)]; exact e2
        · rw [HM.out, curLen, hst]; dsimp only; omega
      · gi_wp2
        refine bodyPost_ret (results_none rfl _ _ _) rfl ?_
        exact ⟨⟨_, rfl⟩, .inr hJx'⟩
end Go.Proofs.YtdlbfjoemabfpaaGreatDoor
namespace Go.Proofs.YtdlbfjoemabfpaaGreatDoor
open Go.RowKit Go.Sort
set_option linter.unusedVariables false
set_option linter.unusedSimpArgs false
set_option maxRecDepth 100000
attribute [local go_sem] Oper.semAt_some
def resStep (out : List ByteArray) (p : ByteArray) : Option (List ByteArray) :=
  if p.toList == [46] then some out else if p.toList == [46, 46] && !out.isEmpty then some out.dropLast else if isWordB p then some (out ++ [p]) else none
def resB : List ByteArray → List ByteArray → Option (List ByteArray)
  | out, [] => some out
  | out, p :: r => (resStep out p).bind fun o => resB o r
theorem infoStr : (Tryz.prog.info? 9).map (fun i => (i.zero, i.size, i.bytes)) = some (some (.string ⟨#[]⟩), 1, 16) := by kernel_rfl
structure Tame (T : World → World → Prop) (b n₀ : Nat) : Prop where
  below : ∀ W W', T W W' → Below b W W'
  size : ∀ W W', T W W' → W'.heap.size = W.heap.size
  same : ∀ W W', T W W' → ∀ k, n₀ ≤ k → W'.heap[k]? = W.heap[k]?
  others : ∀ W W', T W W' → KeepsOthers W W'
theorem tame_turns (b b' n₀ : Nat) (hb : b ≤ b') (hn : b' < n₀) : Tame (Turns b') b n₀ where
  below := by rintro W W' ⟨v, rfl⟩; exact (Below.refl b W).setCell (p := ⟨b', 0, none⟩) hb v
  size := by rintro W W' ⟨v, rfl⟩; simp [World.setCell]
  same := by rintro W W' ⟨v, rfl⟩ k hk; exact Below.heap_setCell W _ _ _ (by simp; omega)
  others := by rintro W W' ⟨v, rfl⟩; exact KeepsOthers.setCell _ _ _
theorem tame_none (b n₀ : Nat) : Tame (fun _ _ => False) b n₀ := ⟨fun _ _ h => h.elim, fun _ _ h => h.elim, fun _ _ h => h.elim, fun _ _ h => h.elim⟩
theorem keepsOthers_of_below {W W' : World} (h : Below W.heap.size W W') : KeepsOthers W W' := ⟨h.size, fun k o hk _ => (h.block k (Array.getElem?_eq_some_iff.1 hk).1).trans hk⟩
theorem grown_of_below {W W' : World} (h : Below W.heap.size W W') : W.grownBy W' none := ⟨h.os, h.tape, h.output, h.size, fun k hk _ => h.block k hk⟩
theorem ownsRow_keep {W W' : World} {base : Nat} {e : TypeId} {size n : Nat} {v : Value} {xs : List Value} (h : W.ownsRow base e size v n xs) (hb : Below W.heap.size W W') : W'.ownsRow base e size v n xs := h.kept (row := none) (grown_of_below hb) (by cases h : v.ownBlock <;> simp)
theorem boxed_keep {W W' : World} {B : Nat} {t : TypeId} {v : Value} (h : Boxed W B t v) (hb : Below W.heap.size W W') : Boxed W' B t v := (hb.block B h.lt).trans h
theorem ownsRow_same {W W' : World} {base : Nat} {e : TypeId} {size n : Nat} {v : Value} {xs : List Value} (h : W.ownsRow base e size v n xs) (hs : ∀ k, base ≤ k → W'.heap[k]? = W.heap[k]?) : W'.ownsRow base e size v n xs := by
  obtain ⟨hl, h2⟩ := h
  refine ⟨hl, ?_⟩
  rcases h2 with h0 | ⟨g, cap, cur, hv, hg, hh, r⟩
  · exact .inl h0
  · exact .inr ⟨g, cap, cur, hv, hg, (hs g hg).trans hh, r⟩
theorem boxed_far {W : World} {B : Nat} {t : TypeId} {v : Value} (h : Boxed W B t v) {p : Addr} (hp : B ≠ p.block) (u : Value) : Boxed (W.setCell p u) B t v := (Below.heap_setCell W p u B hp).trans h
theorem fail_end {w W w2 : World} {b B : Nat} (hb : b ≤ w.heap.size) (h3 : Boxed W w.heap.size 27 (.slice none 0 0)) (h4 : Boxed W (w.heap.size + 1) 4 (.bool false)) (hbw : Below b w W) (hsz : w.heap.size + 1 + 1 + 1 ≤ W.heap.size) (hb2 : Below W.heap.size W w2) :
    KeepsFrom B W ((w2.setCell ⟨w.heap.size, 0, none⟩ (.slice none 0 0)).setCell ⟨w.heap.size + 1, 0, none⟩ (.bool false)) ∧ Boxed ((w2.setCell ⟨w.heap.size, 0, none⟩ (.slice none 0 0)).setCell ⟨w.heap.size + 1, 0, none⟩ (.bool false)) w.heap.size 27 (.slice none 0 0) ∧
      Boxed ((w2.setCell ⟨w.heap.size, 0, none⟩ (.slice none 0 0)).setCell ⟨w.heap.size + 1, 0, none⟩ (.bool false)) (w.heap.size + 1) 4 (.bool false) ∧ Below b w ((w2.setCell ⟨w.heap.size, 0, none⟩ (.slice none 0 0)).setCell ⟨w.heap.size + 1, 0, none⟩ (.bool false)) ∧
      w.heap.size + 1 + 1 + 1 ≤ ((w2.setCell ⟨w.heap.size, 0, none⟩ (.slice none 0 0)).setCell ⟨w.heap.size + 1, 0, none⟩ (.bool false)).heap.size := by
  refine ⟨(((keepsOthers_of_below hb2).trans (KeepsOthers.setCell _ _ _)).trans (KeepsOthers.setCell _ _ _)).from _, boxed_far ((boxed_keep h3 hb2).set _) (by simp) _, (boxed_far (boxed_keep h4 hb2) (by simp) _).set _, ?_, ?_⟩
  · exact ((hbw.trans (hb2.mono (by omega))).setCell (p := ⟨w.heap.size, 0, none⟩) hb _).setCell (p := ⟨w.heap.size + 1, 0, none⟩) (by simp; omega) _
  · have := hb2.size; simp [World.setCell]; omega
def ResI (ps : List ByteArray) (w : World) (b : Nat) (k : Nat) (W : World) : Prop :=
  ∃ out : List ByteArray, (resB [] ps = resB out (ps.drop k) ∧ out.length ≤ k) ∧
    (∃ v, Boxed W (w.heap.size + 1 + 1) 27 v ∧ W.ownsRow (w.heap.size + 1 + 1) 9 1 v out.length (out.map .string) ∧ True) ∧
    Boxed W w.heap.size 27 (.slice none 0 0) ∧ Boxed W (w.heap.size + 1) 4 (.bool false) ∧ Below b w W ∧ w.heap.size + 1 + 1 + 1 ≤ W.heap.size
theorem resI_own (ps : List ByteArray) (w : World) (b B : Nat) (hb : b ≤ w.heap.size) (hB : w.heap.size ≤ B) : OwnFrom B (ResI ps w b) := by
  rintro k W W' row ⟨out, h1, h2, h3, h4, h5, h6⟩ hg hr
  have hr' := fun r e => (hr r e).2
  refine ⟨out, h1, holdsRow_own (w.heap.size + 1 + 1) (w.heap.size + 1 + 1) 27 9 1 (fun o : List ByteArray => o.length) (fun o => o.map .string) (fun _ _ => True) out W W' row h2 hg hr', boxed_own w.heap.size 27 (fun _ : Unit => .slice none 0 0) () W W' row h3 hg hr', boxed_own (w.heap.size + 1) 4 (fun _ : Unit => .bool false) () W W' row h4 hg hr', ?_, Nat.le_trans h6 hg.size⟩
  exact h5.grown hg (by omega) (fun r e => by have := (hr r e).1; omega)
theorem resI_turn {T : World → World → Prop} (ps : List ByteArray) (w : World) (b : Nat) (ht : Tame T b w.heap.size) (k : Nat) (W W' : World) (h : ResI ps w b k W) (hT : T W W') : ResI ps w b k W' := by
  obtain ⟨out, h1, ⟨v, hv, hrow, _⟩, h3, h4, h5, h6⟩ := h
  have hs := ht.same W W' hT
  exact ⟨out, h1, ⟨v, (hs _ (by omega)).trans hv, ownsRow_same hrow (fun j hj => hs j (by omega)), trivial⟩, (hs _ (by omega)).trans h3, (hs _ (by omega)).trans h4, h5.trans (ht.below W W' hT), by rw [ht.size W W' hT]; exact h6⟩
def ResPost (r : Option (List ByteArray)) (w : World) (b : Nat) (e : Ending) (w' : World) : Prop :=
  Below b w w' ∧ match r with
    | none => e = .returned (.tuple #[.slice none 0 0, .bool false])
    | some out => ∃ A c, e = .returned (.tuple #[.slice A out.length c, .bool true]) ∧ Reads w' 1 A out.length (out.map .string) ∧ (∀ a, A = some a → w.heap.size ≤ a.block) ∧ out.length ≤ c
theorem ownsRow_cap {w : World} {base : Nat} {e : TypeId} {size n c : Nat} {A : Option Addr} {xs : List Value} (h : w.ownsRow base e size (.slice A n c) n xs) : n ≤ c := by
  rcases h.2 with ⟨h, h0⟩ | ⟨g, cap, cur, hv, _, _, hc, _⟩
  · omega
  · injection hv with _ _ hv; omega
theorem ownsRow_block {w : World} {base : Nat} {e : TypeId} {size n : Nat} {v : Value} {xs : List Value} (h : w.ownsRow base e size v n xs) (r : Nat) (hr : v.ownBlock = some r) : base ≤ r := by
  rcases h.2 with ⟨rfl, _⟩ | ⟨g, cap, cur, rfl, hg, _⟩
  · cases hr
  · injection hr with hr; subst hr; exact hg
set_option maxHeartbeats 4000000 in
theorem resolve_any (gf b : Nat) (lb : Array Value) (eg : ∀ args w, (callFunc gf args).run Tryz.prog w = .ok (.enter gf args) w) (T : World → World → Prop) (ps : List ByteArray) (w : World)
    (lo hi : Nat) (hhi : hi ≤ w.heap.size) (hseq : Iter Tryz.prog gf lb (ps.map .string) T lo hi w) (ht : Tame T b w.heap.size) (hb : b ≤ w.heap.size) (hlen : ps.length ≤ 1000000000) (hsz : ∀ p ∈ ps, p.size ≤ 4294967281) :
    Calls Tryz.prog 194 #[.func (.func gf) #[] lb] w (ResPost (resB [] ps) w b) := by
  obtain ⟨i0, hi0, hz0, hz1, hz2⟩ := info_parts infoStr
  refine (callsIn_wide (n := 0)).1 ?_
  refine callsIn_of_wp_marks Tryz.func194 rfl trivial ?_ rfl
  simp only [Tryz.ntmps194, List.size_toArray, List.length_cons, List.length_nil, Nat.reduceAdd, Nat.reduceSub, Array.replicate_succ, Array.replicate_zero, List.push_toArray, List.append_toArray, List.nil_append, List.cons_append]
  gi_wp2
  have HS := Lib.hid hsz
  clear hsz
  have hbw0 : Below w.heap.size w (((w.alloc (.cells #[.slice none 0 0] 27)).alloc (.cells #[.bool false] 4)).alloc (.cells #[.slice none 0 0] 27)) := balloc (balloc (balloc (Below.refl _ _) _) _) _
  have b1 := Boxed.new w 27 (.slice none 0 0)
  have b2 := Boxed.new (w.alloc (.cells #[.slice none 0 0] 27)) 4 (.bool false)
  have b3 := Boxed.new ((w.alloc (.cells #[.slice none 0 0] 27)).alloc (.cells #[.bool false] 4)) 27 (.slice none 0 0)
  simp only [World.size_alloc] at b2 b3
  refine range_law (gf := gf) (lb := lb) rfl eg hseq hbw0 (by simp; omega) (ResI ps w b)
    (fun c W => c = .ret ∧ resB [] ps = none ∧ Boxed W w.heap.size 27 (.slice none 0 0) ∧ Boxed W (w.heap.size + 1) 4 (.bool false) ∧ Below b w W ∧ w.heap.size + 1 + 1 + 1 ≤ W.heap.size)
    (resI_own ps w b _ hb (by simp; omega)) ?ixo ⟨[], ⟨rfl, Nat.le_refl _⟩, ⟨_, b3, World.ownsRow_nil _ _ _ _, trivial⟩, (b1.alloc _).alloc _, b2.alloc _, hbw0.mono hb, by simp⟩
    (resI_turn ps w b ht) ht.others
    (fun x => { tmps := #[.func (.func gf) #[] lb, undef, .pointer (some ⟨w.heap.size, 0, none⟩), .pointer (some ⟨w.heap.size + 1, 0, none⟩), .pointer (some ⟨w.heap.size + 1 + 1, 0, none⟩), x, .func (.func gf) #[] lb, x, undef, undef, undef, undef, undef, undef, undef, undef, undef, undef, undef, undef, undef, undef, undef, undef, undef, undef, undef, undef, undef, undef, undef, undef], defers := [] }) ?assign ?body ?done ?stop
  case ixo =>
    rintro c _ W W' row ⟨h0, h1, h2, h3, h4, h5⟩ hg hr
    have hr' := fun r e => (hr r e).2
    exact ⟨h0, h1, boxed_own w.heap.size 27 (fun _ : Unit => .slice none 0 0) () W W' row h2 hg hr', boxed_own (w.heap.size + 1) 4 (fun _ : Unit => .bool false) () W W' row h3 hg hr', h4.grown hg (by omega) (fun r e => by have := (hr r e).1; simp at this; omega), Nat.le_trans h5 hg.size⟩
  case assign =>
    intro l x W K _ hK
    gi_wp2
    exact hK
  case body =>
    rintro l k x W hx ⟨out, ⟨hr1, hr2⟩, ⟨v, hv, hrow, _⟩, h3, h4, hbw, hsz6⟩
    obtain ⟨p, hp, rfl⟩ := strs_at hx
    have hps := HS.out p (List.mem_of_getElem? hp)
    have hkl : k < ps.length := (List.getElem?_eq_some_iff.1 hp).1
    have hd : ps.drop k = p :: ps.drop (k + 1) := by
      obtain ⟨hl2, rfl⟩ := List.getElem?_eq_some_iff.1 hp
      exact List.drop_eq_getElem_cons hl2
    rw [hd, resB] at hr1
    clear hx hp hd b1 b2 b3 hbw0
    obtain ⟨A, c, rfl⟩ : ∃ A c, v = .slice A out.length c := by
      rcases hrow.2 with ⟨hv, h0⟩ | ⟨g, cap, cur, hv, _⟩
      · exact ⟨none, 0, by rw [hv, h0]⟩
      · exact ⟨_, _, hv⟩
    have c4 := hv.cell
    have f4 := hv.frozen
    have c2 := h3.cell; have f2 := h3.frozen
    have c3 := h4.cell; have f3 := h4.frozen
    have cW := isWord_any p W (by omega)
    have HR := Lib.hid hr1
    clear hr1
    by_cases e1 : (p.toList == [46]) = true
    · have hn := HR.out
      simp only [resStep, e1, if_true, Option.bind_some] at hn
      have HN := Lib.hid hn
      clear hn HR cW
      gi_wp2
      exact ⟨KeepsFrom.refl _ _, KeepsIn.refl _ _ _, out, ⟨HN.out, by omega⟩, ⟨_, hv, hrow, trivial⟩, h3, h4, hbw, hsz6⟩
    have e1' : (p.toList == [46]) = false := by simpa using e1
    clear e1
    by_cases e2 : (p.toList == [46, 46]) = true
    · rcases List.eq_nil_or_concat out with rfl | ⟨init, last, rfl⟩
      · have hwf : isWordB p = false := by simp [isWordB, beq_iff_eq.1 e2]
        have hn : resB [] ps = none := by rw [HR.out]; simp [resStep, e1', e2, hwf]
        rw [hwf] at cW
        have HW := Lib.hid cW
        clear cW hwf
        simp only [List.length_nil] at c4 hv hrow
        gi_wp2_with (refine ⟨trivial, rfl, ?_⟩; gi_at_call 121; refine (CallsIn.inRound l (callsIn_wide.2 HW.out)).mono ?_; rintro e w2 ⟨rfl, hb2⟩; have c2' := cell_keep hb2 c2; have f2' := frozen_keep hb2 (cell_lt c2) f2; have c3' := cell_keep hb2 c3; have f3' := frozen_keep hb2 (cell_lt c3) f3)
        obtain ⟨k1, k2, k3, k4, k5⟩ := fail_end (B := (((w.alloc (.cells #[.slice none 0 0] 27)).alloc (.cells #[.bool false] 4)).alloc (.cells #[.slice none 0 0] 27)).heap.size) hb h3 h4 hbw hsz6 hb2
        exact ⟨k1, rfl, hn, k2, k3, k4, k5⟩
      · rw [List.concat_eq_append] at *
        have hn := HR.out
        have hs : resStep (init ++ [last]) p = some init := by simp [resStep, e1', e2]
        rw [hs, Option.bind_some] at hn
        have HN := Lib.hid hn
        clear hn hs HR cW
        rw [List.length_append, List.length_singleton] at c4 hv hrow hr2
        obtain ⟨g, hA⟩ : ∃ g, A = some ⟨g, 0, none⟩ := by
          rcases hrow.2 with ⟨h0, _⟩ | ⟨g, cap, cur, h0, _⟩
          · cases h0
          · exact ⟨g, by injection h0⟩
        subst hA
        have hcap : init.length + 1 ≤ c := by
          rcases hrow.2 with ⟨h0, _⟩ | ⟨g, cap, cur, h0, _, _, hle, _⟩
          · cases h0
          · injection h0 with _ _ h0; omega
        have hpop := ownsRow_pop (xs := init.map Value.string) (last := [.string last]) (n := init.length) (size := 1) (by simp) (by simpa using hrow)
        have hpos : (0 : Int) < ((init.length + 1 : Nat) : Int) := by omega
        have hl9 : init.length ≤ 1000000000 := by omega
        gi_wp2
        refine ⟨(KeepsOthers.setCell _ _ _).from _, Below.keepsIn ((Below.refl (w.heap.size + 1 + 1) W).setCell (p := ⟨w.heap.size + 1 + 1, 0, none⟩) (Nat.le_refl _) _) (by omega), init, ⟨HN.out, by omega⟩, ⟨_, hv.set _, hpop.kept (grownBy_setCell' W _ _) (.inr (hv.not_row (by decide) hpop).symm), trivial⟩, boxed_far h3 (by simp; omega) _, boxed_far h4 (by simp) _, hbw.setCell (p := ⟨w.heap.size + 1 + 1, 0, none⟩) (by simp; omega) _, by simp [World.setCell]; omega⟩
    have e2' : (p.toList == [46, 46]) = false := by simpa using e2
    clear e2
    cases hw : isWordB p
    · have hn : resB [] ps = none := by rw [HR.out]; simp [resStep, e1', e2', hw]
      rw [hw] at cW
      have HW := Lib.hid cW
      clear cW hw
      gi_wp2_with (refine ⟨trivial, rfl, ?_⟩; gi_at_call 121; refine (CallsIn.inRound l (callsIn_wide.2 HW.out)).mono ?_; rintro e w2 ⟨rfl, hb2⟩; have c2' := cell_keep hb2 c2; have f2' := frozen_keep hb2 (cell_lt c2) f2; have c3' := cell_keep hb2 c3; have f3' := frozen_keep hb2 (cell_lt c3) f3)
      obtain ⟨k1, k2, k3, k4, k5⟩ := fail_end (B := (((w.alloc (.cells #[.slice none 0 0] 27)).alloc (.cells #[.bool false] 4)).alloc (.cells #[.slice none 0 0] 27)).heap.size) hb h3 h4 hbw hsz6 hb2
      exact ⟨k1, rfl, hn, k2, k3, k4, k5⟩
    · have hn := HR.out
      have hs : resStep out p = some (out ++ [p]) := by simp [resStep, e1', e2', hw]
      rw [hs, Option.bind_some] at hn
      rw [hw] at cW
      have HW := Lib.hid cW
      have HN := Lib.hid hn
      clear cW hw hn hs HR
      gi_wp2_with (first | (refine ⟨trivial, rfl, ?_⟩; gi_at_call 121; refine (CallsIn.inRound l (callsIn_wide.2 HW.out)).mono ?_; rintro e w2 ⟨rfl, hb2⟩; have c4' := cell_keep hb2 c4; have hv2 := boxed_keep hv hb2; have hrow2 := ownsRow_keep hrow hb2) | (gi_at_builtin; refine wpListIn_append_own _ rfl _ _ 27 rfl (w.heap.size + 1 + 1) 9 i0 (.string ⟨#[]⟩) 1 16 Tryz.underlying27 hi0 hz0 hz1 hz2 rfl (by decide) _ _ _ rfl (hrow2.alloc _) ⟨w2.heap.size, 0, none⟩ 1 1 [.string p] rfl rfl (cell_one_new _ _ _) (by simp [Value.oneCell']) (by unfold maxLen; omega) (by omega) (by have := hb2.size; simp; omega) ?_; intro v' w3 hown' hgrow _; obtain ⟨g', cap', rfl⟩ := ownsRow_succ hown'; obtain ⟨hv1, hvs, hrs, hk2, hbs⟩ := hv2.appended (by decide) hrow2 (by have := hb2.size; omega) (Nat.le_refl _) hown' hgrow; have c5 := hv1.cell; have f5 := hv1.frozen))
      have hs2 := hb2.size
      have hbs' : Below (w.heap.size + 1 + 1) W (w3.setCell ⟨w.heap.size + 1 + 1, 0, none⟩ (.slice (some ⟨g', 0, none⟩) (out.length + 1) cap')) := (hb2.mono (by omega)).trans hbs
      refine ⟨((keepsOthers_of_below hb2).trans hk2).from _, Below.keepsIn hbs' (by omega), out ++ [p], ⟨HN.out, by simp; omega⟩, ⟨_, hvs, by simpa using hrs, trivial⟩, (hbs'.block _ (by omega)).trans h3, (hbs'.block _ (by omega)).trans h4, hbw.trans (hbs'.mono (by omega)), by have := hbs'.size; omega⟩
  case done =>
    rintro D W hD ⟨out, ⟨hr1, hr2⟩, ⟨v, hv, hrow, _⟩, h3, h4, hbw, hsz6⟩ hK
    rw [List.length_map, List.drop_eq_nil_of_le (Nat.le_refl _), resB] at hr1
    obtain ⟨A, c, rfl⟩ : ∃ A c, v = .slice A out.length c := by
      rcases hrow.2 with ⟨hv, h0⟩ | ⟨g, cap, cur, hv, _⟩
      · exact ⟨none, 0, by rw [hv, h0]⟩
      · exact ⟨_, _, hv⟩
    have c4 := hv.cell
    have c2 := h3.cell; have f2 := h3.frozen
    have c3 := h4.cell; have f3 := h4.frozen
    gi_wp2
    have hk2 := ((KeepsOthers.setCell W ⟨w.heap.size, 0, none⟩ (.slice A out.length c)).trans (KeepsOthers.setCell _ ⟨w.heap.size + 1, 0, none⟩ (.bool true))).same D _ hK rfl
    have hD' : w.heap.size + 1 + 1 + 1 ≤ D := by simpa using hD
    obtain ⟨W2, hW2⟩ : ∃ W2, W2 = (W.setCell ⟨w.heap.size, 0, none⟩ (.slice A out.length c)).setCell ⟨w.heap.size + 1, 0, none⟩ (.bool true) := ⟨_, rfl⟩
    have x3 : Boxed W2 w.heap.size 27 (.slice A out.length c) := hW2 ▸ boxed_far (h3.set _) (by simp) _
    have x4 : Boxed W2 (w.heap.size + 1) 4 (.bool true) := hW2 ▸ (boxed_far h4 (by simp) _).set _
    have hb2 : Below b w W2 := hW2 ▸ (hbw.setCell (p := ⟨w.heap.size, 0, none⟩) hb _).setCell (p := ⟨w.heap.size + 1, 0, none⟩) (by simp; omega) _
    have hr2' : W2.ownsRow (w.heap.size + 1 + 1) 9 1 (.slice A out.length c) out.length (out.map .string) := by
      rw [hW2]
      refine ownsRow_same hrow (fun j hj => ?_)
      rw [Below.heap_setCell _ _ _ _ (by simp; omega), Below.heap_setCell _ _ _ _ (by simp; omega)]
    rw [← hW2] at hk2 ⊢
    clear hW2 h3 h4 hbw hrow c2 c3 c4 f2 f3 hv
    refine ⟨by simp, .inl ⟨_, _, rfl, run_takeDeferred hk2, ?_⟩⟩
    have hne : ∀ (B : Nat) (t : TypeId) (v : Value), Boxed W2 B t v → B < D → (W2.putObj D (.deferred none)).cell? ⟨B, 0, none⟩ = some v := fun B t v hv hlt => Boxed.cell (t := t) ((World.putObj_heap_other (by omega)).trans hv)
    have y3 := hne _ _ _ x3 (by omega)
    have y4 := hne _ _ _ x4 (by omega)
    refine ⟨.tuple #[.slice A out.length c, .bool true], by simp [results, Tryz.results194, go_sem, y3, y4], ?_, ?_⟩
    · exact hb2.grown (grownBy_putObj' W2 D _) (by have := hb2.size; omega) (fun r e => by cases e; omega)
    · rw [hr1]
      exact ⟨A, c, rfl, Reads.of_own (ownsRow_putObj hr2' _ hk2 rfl), fun a ha => Nat.le_trans (by omega) (ownsRow_block hr2' a.block (by rw [ha]; rfl)), ownsRow_cap hr2'⟩
  case stop =>
    rintro D c W hD ⟨rfl, hr1, h3, h4, hbw, hsz6⟩ hK
    have hD' : w.heap.size + 1 + 1 + 1 ≤ D := by simpa using hD
    gi_wp2
    refine ⟨by simp, .inl ⟨_, _, rfl, run_takeDeferred hK, ?_⟩⟩
    have hne : ∀ (B : Nat) (t : TypeId) (v : Value), Boxed W B t v → B < D → (W.putObj D (.deferred none)).cell? ⟨B, 0, none⟩ = some v := fun B t v hv hlt => Boxed.cell (t := t) ((World.putObj_heap_other (by omega)).trans hv)
    have y3 := hne _ _ _ h3 (by omega)
    have y4 := hne _ _ _ h4 (by omega)
    refine ⟨.tuple #[.slice none 0 0, .bool false], by simp [results, Tryz.results194, go_sem, y3, y4], ?_, ?_⟩
    · exact hbw.grown (grownBy_putObj' W D _) (by have := hbw.size; omega) (fun r e => by cases e; omega)
    · rw [hr1]
end Go.Proofs.YtdlbfjoemabfpaaGreatDoor
namespace Go.Proofs
open Go.Shelf
def Tryz.keys228_ren : Go.Shelf.Ren := ⟨fun | 7 => 228 | 10 => 243 | n => n, fun | 23 => 240 | 26 => 9 | 3 => 9 | 28 => 93 | 0 => 0 | 27 => 92 | 33 => 71 | 4 => 4 | n => n, fun | n => n⟩
theorem Tryz.keys228 : Go.Proofs.SlLaysZ.n7 Tryz.prog Tryz.keys228_ren := {
  mixed := by kernel_rfl
  f7 := ⟨Tryz.f228.name, by decide, Tryz.func228.trans (congrArg some (by kernel_rfl))⟩
  f10 := ⟨Tryz.f243.name, by decide, Tryz.func243.trans (congrArg some (by kernel_rfl))⟩
  t0 := Tryz.underlying0
  a0 := Tryz.isAgg0
  z0 := Tryz.sizeOf0
  v0 := Tryz.zeroValue0
  t4 := Tryz.underlying4
  a4 := Tryz.isAgg4
  z4 := Tryz.sizeOf4
  v4 := Tryz.zeroValue4
  t23 := Tryz.underlying240
  a23 := Tryz.isAgg240
  z23 := Tryz.sizeOf240
  v23 := Tryz.zeroValue240
  t26 := Tryz.underlying9
  a26 := Tryz.isAgg9
  z26 := Tryz.sizeOf9
  v26 := Tryz.zeroValue9
  t27 := Tryz.underlying92
  a27 := Tryz.isAgg92
  z27 := Tryz.sizeOf92
  v27 := Tryz.zeroValue92
  t28 := Tryz.underlying93
  a28 := Tryz.isAgg93
  z28 := Tryz.sizeOf93
  v28 := Tryz.zeroValue93
  t33 := Tryz.underlying71
  a33 := Tryz.isAgg71
  z33 := Tryz.sizeOf71
  v33 := Tryz.zeroValue71 }
def Tryz.sorted76_ren : Go.Shelf.Ren := ⟨fun | 6 => 76 | 8 => 123 | 9 => 124 | 11 => 165 | 13 => 167 | 12 => 166 | 23 => 211 | 24 => 212 | 14 => 202 | 15 => 203 | 16 => 204 | 17 => 205 | 18 => 206 | 19 => 207 | 20 => 208 | 21 => 209 | 22 => 210 | 25 => 232 | 26 => 233 | 27 => 234 | 28 => 235 | 29 => 236 | 30 => 237 | 31 => 244 | n => n, fun | 26 => 9 | 28 => 93 | 24 => 27 | 0 => 0 | 3 => 3 | 37 => 190 | 48 => 129 | 50 => 132 | 4 => 4 | 40 => 222 | 39 => 221 | 45 => 226 | 5 => 5 | 9 => 9 | 51 => 244 | 55 => 248 | 57 => 250 | 58 => 251 | 33 => 71 | n => n, fun | n => n⟩
theorem Tryz.sorted76 : Go.Proofs.SlLaysZ.n6 Tryz.prog Tryz.sorted76_ren := {
  mixed := by kernel_rfl
  f6 := ⟨Tryz.f76.name, by decide, Tryz.func76.trans (congrArg some (by kernel_rfl))⟩
  f8 := ⟨Tryz.f123.name, by decide, Tryz.func123.trans (congrArg some (by kernel_rfl))⟩
  f11 := ⟨Tryz.f165.name, by decide, Tryz.func165.trans (congrArg some (by kernel_rfl))⟩
  t0 := Tryz.underlying0
  a0 := Tryz.isAgg0
  z0 := Tryz.sizeOf0
  v0 := Tryz.zeroValue0
  t24 := Tryz.underlying27
  a24 := Tryz.isAgg27
  z24 := Tryz.sizeOf27
  v24 := Tryz.zeroValue27
  t26 := Tryz.underlying9
  a26 := Tryz.isAgg9
  z26 := Tryz.sizeOf9
  v26 := Tryz.zeroValue9
  t28 := Tryz.underlying93
  a28 := Tryz.isAgg93
  z28 := Tryz.sizeOf93
  v28 := Tryz.zeroValue93
  i26 := by kernel_rfl }
def Tryz.sort124_ren : Go.Shelf.Ren := ⟨fun | 6 => 124 | 8 => 167 | 9 => 166 | 19 => 211 | 20 => 212 | 21 => 202 | 22 => 203 | 23 => 204 | 24 => 205 | 25 => 206 | 26 => 207 | 27 => 208 | 28 => 209 | 29 => 210 | 36 => 232 | 31 => 233 | 32 => 234 | 37 => 235 | 38 => 236 | 39 => 237 | 41 => 244 | n => n, fun | 27 => 27 | 29 => 9 | 3 => 3 | 32 => 190 | 26 => 27 | 0 => 0 | 44 => 129 | 46 => 132 | 4 => 4 | 36 => 222 | 35 => 221 | 41 => 226 | 5 => 5 | 9 => 9 | 53 => 244 | 57 => 248 | 63 => 250 | 64 => 251 | n => n, fun | n => n⟩
theorem Tryz.sort124 : Go.Proofs.SlLaysM.n6 Tryz.prog Tryz.sort124_ren := {
  mixed := by kernel_rfl
  f6 := ⟨Tryz.f124.name, by decide, Tryz.func124.trans (congrArg some (by kernel_rfl))⟩
  f8 := Tryz.func167.trans (congrArg some (by kernel_rfl))
  f9 := ⟨Tryz.f166.name, by decide, Tryz.func166.trans (congrArg some (by kernel_rfl))⟩
  f19 := Tryz.func211.trans (congrArg some (by kernel_rfl))
  f20 := Tryz.func212.trans (congrArg some (by kernel_rfl))
  f21 := ⟨Tryz.f202.name, by decide, Tryz.func202.trans (congrArg some (by kernel_rfl))⟩
  f22 := ⟨Tryz.f203.name, by decide, Tryz.func203.trans (congrArg some (by kernel_rfl))⟩
  f23 := ⟨Tryz.f204.name, by decide, Tryz.func204.trans (congrArg some (by kernel_rfl))⟩
  f24 := ⟨Tryz.f205.name, by decide, Tryz.func205.trans (congrArg some (by kernel_rfl))⟩
  f25 := ⟨Tryz.f206.name, by decide, Tryz.func206.trans (congrArg some (by kernel_rfl))⟩
  f26 := ⟨Tryz.f207.name, by decide, Tryz.func207.trans (congrArg some (by kernel_rfl))⟩
  f27 := ⟨Tryz.f208.name, by decide, Tryz.func208.trans (congrArg some (by kernel_rfl))⟩
  f28 := ⟨Tryz.f209.name, by decide, Tryz.func209.trans (congrArg some (by kernel_rfl))⟩
  f29 := ⟨Tryz.f210.name, by decide, Tryz.func210.trans (congrArg some (by kernel_rfl))⟩
  f31 := Tryz.func233.trans (congrArg some (by kernel_rfl))
  f32 := Tryz.func234.trans (congrArg some (by kernel_rfl))
  f36 := ⟨Tryz.f232.name, by decide, Tryz.func232.trans (congrArg some (by kernel_rfl))⟩
  f37 := ⟨Tryz.f235.name, by decide, Tryz.func235.trans (congrArg some (by kernel_rfl))⟩
  f38 := ⟨Tryz.f236.name, by decide, Tryz.func236.trans (congrArg some (by kernel_rfl))⟩
  f39 := ⟨Tryz.f237.name, by decide, Tryz.func237.trans (congrArg some (by kernel_rfl))⟩
  f41 := ⟨Tryz.f244.name, by decide, Tryz.func244.trans (congrArg some (by kernel_rfl))⟩
  t0 := Tryz.underlying0
  a0 := Tryz.isAgg0
  z0 := Tryz.sizeOf0
  v0 := Tryz.zeroValue0
  t3 := Tryz.underlying3
  a3 := Tryz.isAgg3
  z3 := Tryz.sizeOf3
  v3 := Tryz.zeroValue3
  t4 := Tryz.underlying4
  a4 := Tryz.isAgg4
  z4 := Tryz.sizeOf4
  v4 := Tryz.zeroValue4
  t5 := Tryz.underlying5
  a5 := Tryz.isAgg5
  z5 := Tryz.sizeOf5
  v5 := Tryz.zeroValue5
  t9 := Tryz.underlying9
  a9 := Tryz.isAgg9
  z9 := Tryz.sizeOf9
  v9 := Tryz.zeroValue9
  t26 := Tryz.underlying27
  a26 := Tryz.isAgg27
  z26 := Tryz.sizeOf27
  v26 := Tryz.zeroValue27
  t27 := Tryz.underlying27
  a27 := Tryz.isAgg27
  z27 := Tryz.sizeOf27
  v27 := Tryz.zeroValue27
  t29 := Tryz.underlying9
  a29 := Tryz.isAgg9
  z29 := Tryz.sizeOf9
  v29 := Tryz.zeroValue9
  t32 := Tryz.underlying190
  a32 := Tryz.isAgg190
  z32 := Tryz.sizeOf190
  v32 := Tryz.zeroValue190
  t35 := Tryz.underlying221
  a35 := Tryz.isAgg221
  z35 := Tryz.sizeOf221
  v35 := Tryz.zeroValue221
  t36 := Tryz.underlying222
  a36 := Tryz.isAgg222
  z36 := Tryz.sizeOf222
  v36 := Tryz.zeroValue222
  t41 := Tryz.underlying226
  a41 := Tryz.isAgg226
  z41 := Tryz.sizeOf226
  v41 := Tryz.zeroValue226
  t44 := Tryz.underlying129
  a44 := Tryz.isAgg129
  z44 := Tryz.sizeOf129
  v44 := Tryz.zeroValue129
  t46 := Tryz.underlying132
  a46 := Tryz.isAgg132
  z46 := Tryz.sizeOf132
  v46 := Tryz.zeroValue132
  t53 := Tryz.underlying244
  a53 := Tryz.isAgg244
  z53 := Tryz.sizeOf244
  v53 := Tryz.zeroValue244
  t57 := Tryz.underlying248
  a57 := Tryz.isAgg248
  z57 := Tryz.sizeOf248
  v57 := Tryz.zeroValue248
  t63 := Tryz.underlying250
  a63 := Tryz.isAgg250
  z63 := Tryz.sizeOf250
  v63 := Tryz.zeroValue250
  t64 := Tryz.underlying251
  a64 := Tryz.isAgg251
  z64 := Tryz.sizeOf251
  v64 := Tryz.zeroValue251 }
open Go.RowKit Go.Maps Go.Sort Go.Shelf
theorem Tryz.sorts76 (m : Nat) : AnyZ.SortsIn Tryz.prog Tryz.sorted76_ren Fence.wide m :=
  ⟨fun blk off cap ss W hH hblk hsz => callsIn_wide.2 (AnyM.slices_Sort_string Tryz.sort124 blk off cap ss W hH hblk hsz),
   fun p cap W => callsIn_wide.2 (AnyM.slices_Sort_string_none Tryz.sort124 p cap W)⟩
theorem Tryz.maps_Keys_228 (mb : Option Nat) (W : World) : CallsIn Fence.wide 5 Tryz.prog 228 #[.map mb] W fun e w' => e = .returned (.func (.func 243) #[] #[.pointer (some ⟨W.heap.size, 0, none⟩)]) ∧ w' = W.alloc (.cells #[.map mb] 240) :=
  AnyZ.keys_in Tryz.keys228 Fence.wide 5 trivial rfl mb W
set_option maxHeartbeats 1000000 in
theorem Tryz.slices_Sorted_keys_76_228 {H : Type} (b nn : Nat) (D0 : DataW H) (R : Value → Option (DataW H × List MemPlace)) (w : World) (hown : w.ownsMap Tryz.prog 9 R b nn D0) (hmax : Maps.size D0 ≤ maxLen) (hbytes : Maps.size D0 * 16 ≤ 140737488355328) :
    CallsIn Fence.wide 5 Tryz.prog 76 #[.func (.func 243) #[] #[.pointer (some ⟨w.heap.size, 0, none⟩)]] (w.alloc (.cells #[.map (some b)] 240)) fun e w' => ∃ (v : Value) (ss : List (List UInt8)), e = .returned v ∧ ss.Perm (strKeys D0) ∧
      w'.ownsRow (w.alloc (.cells #[.map (some b)] 240)).heap.size 9 1 v ss.length ((ss.mergeSort (fun x y => decide (x ≤ y))).map encStr) ∧ (v = .slice none 0 0 ↔ ss = []) ∧ Below (w.alloc (.cells #[.map (some b)] 240)).heap.size (w.alloc (.cells #[.map (some b)] 240)) w' := by
  have hbl := hown.lt
  have hseq : SeqGives Fence.wide 2 Tryz.prog 243 #[.pointer (some ⟨w.heap.size, 0, none⟩)] encStr (fun ss => ss.Perm (strKeys D0)) (Maps.size D0) (w.alloc (.cells #[.map (some b)] 240)) :=
    AnyZ.keys_gives (ρ := Tryz.keys228_ren) { Tryz.keys228 with } Fence.wide _ trivial rfl (by omega) w.heap.size b nn D0 _ (by simp) (by simp) (by
      obtain ⟨es, clock, hb, Ft, hs, hD⟩ := hown
      exact ⟨es, clock, (Below.heap_alloc _ _ b hbl).trans hb, Ft, hs, hD⟩)
  exact AnyZ.sorted_in Tryz.sorted76 Fence.wide 5 trivial trivial trivial trivial rfl (by omega) (Tryz.sorts76 _) (enters_of Tryz.func124 (by kernel_rfl) rfl) 243 #[.pointer (some ⟨w.heap.size, 0, none⟩)] trivial (enters_of Tryz.func243 (by kernel_rfl) rfl) _ _ hmax hbytes _ hseq
end Go.Proofs
