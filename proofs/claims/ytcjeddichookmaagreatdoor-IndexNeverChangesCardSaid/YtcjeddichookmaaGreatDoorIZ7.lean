/- What 'pairs' returns: the pairs of a query. -/
import Derived.Test.YtcjeddichookmaaGreatDoorIZ5
import Derived.Test.YtcjeddichookmaaGreatDoorIZ1
import Derived.Maps.OwnIn
import Derived.Maps.StringElems
import Derived.Test.YtcjeddichookmaaGreatDoorProg
import Derived.WalkKit
import Derived.WalkSpells
import Derived.WalkLawsBesides
import Derived.Below
import Derived.Deep.QuietTactic
import Derived.BigQuiet
import Derived.Lib.QuietBelow
import Derived.Lib.Strings
import Derived.Lib.Hide
import Derived.Deep.RegionWith
import Derived.Deep.RegionHeld3
import Derived.Lib.IndexBytes
import Derived.Test.YtcjeddichookmaaGreatDoorIZ4
import Derived.LoopTactic
import Derived.RegionTactic
import Derived.StillTailTactics
import Derived.IntWalk
namespace Go.Proofs.YtcjeddichookmaaGreatDoor
open Go.RowKit Go.Sort
set_option linter.unusedVariables false
set_option linter.unusedSimpArgs false
set_option maxRecDepth 100000
attribute [local go_sem] Oper.semAt_some
open Go.Maps
theorem splitSeq_any (s sep : ByteArray) (w : World) : Calls Tryz.prog 44 #[.string s, .string sep] w fun e w' =>
    e = .returned (.func (.func 82) #[] #[.pointer (some ⟨w.heap.size + 1, 0, none⟩), .pointer (some ⟨w.heap.size, 0, none⟩), .pointer (some ⟨w.heap.size + 1 + 1, 0, none⟩)]) ∧
      w' = ((w.alloc (.cells #[.string s] 9)).alloc (.cells #[.string sep] 9)).alloc (.cells #[.int .i64 0] 3) := by
  go_enter Tryz.func44, Tryz.ntmps44
  go_wp2
  go_ret
  exact ⟨rfl, rfl⟩
def toB (l : List UInt8) : ByteArray := ⟨l.toArray⟩
def parsePair (p : ByteArray) : Option (List UInt8 × List UInt8) :=
  if (Lib.cut p.data.toList [61]).2.2 && isNameB (toB (Lib.cut p.data.toList [61]).1) && isWordB (toB (Lib.cut p.data.toList [61]).2.1) then some ((Lib.cut p.data.toList [61]).1, (Lib.cut p.data.toList [61]).2.1) else none
def qAcc : List (List UInt8 × List UInt8) → List ByteArray → Option (List (List UInt8 × List UInt8))
  | acc, [] => some acc
  | acc, p :: r => match parsePair p with
    | none => none
    | some q => qAcc (acc ++ [q]) r
def pairsB (s : ByteArray) : Option (List (ByteArray × ByteArray)) :=
  if s.toList.isEmpty then some [] else (qAcc [] (splitB 38 s)).map fun acc => (pairsL acc).map fun q => (toB q.1, toB q.2)
theorem keyLaw : Keyed Tryz.prog 9 := string_keyed Tryz.underlying9
theorem zeroStr (w : World) : (zeroValue 9).run Tryz.prog w = .ok (.string ByteArray.empty) w := by kernel_rfl
theorem infoPair : (Tryz.prog.info? 116).map (fun i => (i.zero, i.size, i.bytes)) = some (some (.agg #[.string ⟨#[]⟩, .string ⟨#[]⟩]), 2, 32) := by kernel_rfl
theorem cut_any (s : ByteArray) (c : UInt8) (w : World) (hs : s.size ≤ 4294967200) (hE : Env w) :
    Calls Tryz.prog 34 #[.string s, .string ⟨#[c]⟩] w (Ret w (.tuple #[.string (toB (Lib.cut s.data.toList [c]).1), .string (toB (Lib.cut s.data.toList [c]).2.1), .bool (Lib.cut s.data.toList [c]).2.2])) := by
  obtain ⟨m, hm⟩ := hE
  refine (Tryz.strings_Cut s ⟨#[c]⟩ m w (by omega) hm).mono ?_
  rintro e w' ⟨rfl, n, rfl⟩
  exact ⟨rfl, bdrewN (Below.refl _ _) n⟩
theorem splitL_len (c : UInt8) : ∀ (l p : List UInt8), p ∈ splitL c l → p.length ≤ l.length
  | [], p, h => by simp [splitL] at h; simp [h]
  | b :: r, p, h => by
    unfold splitL at h
    have ih := splitL_len c r
    split at h
    · rcases List.mem_cons.1 h with rfl | h
      · simp
      · have := ih p h; simp; omega
    · split at h
      · simp at h; simp [h]
      · rename_i q ps e
        rcases List.mem_cons.1 h with rfl | h
        · have := ih q (by rw [e]; simp); simp; omega
        · have := ih p (by rw [e]; simp [h]); simp; omega
theorem splitL_num (c : UInt8) : ∀ l : List UInt8, (splitL c l).length ≤ l.length + 1
  | [] => by simp [splitL]
  | b :: r => by
    unfold splitL
    have ih := splitL_num c r
    split
    · simp; omega
    · split
      · simp
      · rename_i e; rw [e] at ih; simp at ih ⊢; omega
theorem splitB_size (c : UInt8) (s p : ByteArray) (h : p ∈ splitB c s) : p.size ≤ s.size := by
  obtain ⟨l, hl, rfl⟩ := List.mem_map.1 h
  have := splitL_len c _ l hl
  rw [Lib.size_eq s]
  exact this
theorem splitB_num (c : UInt8) (s : ByteArray) : (splitB c s).length ≤ s.size + 1 := by
  have := splitL_num c s.data.toList
  rw [Lib.size_eq s, splitB, List.length_map]
  exact this
theorem cut_fst_len (l q : List UInt8) : (Lib.cut l q).1.length ≤ l.length := by
  unfold Lib.cut; split
  · simp; omega
  · exact Nat.le_refl _
theorem cut_snd_len (l q : List UInt8) : (Lib.cut l q).2.1.length ≤ l.length := by
  unfold Lib.cut; split
  · simp
  · simp
theorem toB_size (l : List UInt8) : (toB l).size = l.length := rfl
theorem size_of_name {s : ByteArray} (h : isNameB s = true) : s.size ≤ 64 := by
  simp [isNameB, isWordB] at h; omega
theorem size_of_word {s : ByteArray} (h : isWordB s = true) : s.size ≤ 64 := by
  simp [isWordB] at h; omega
theorem mem_fold_insL (q : List UInt8 × List UInt8) : ∀ (acc l : List (List UInt8 × List UInt8)), SortedK l → q ∈ acc.foldl insL l → q ∈ l ∨ q ∈ acc
  | [], _, _, h => .inl h
  | p :: acc, l, hs, h => by
    rcases mem_fold_insL q acc _ (sorted_insL p l hs) h with h | h
    · rcases (mem_insL p l hs q).1 h with h | ⟨h, _⟩
      · exact .inr (by rw [h]; simp)
      · exact .inl h
    · exact .inr (by simp [h])
theorem mem_pairsL {q : List UInt8 × List UInt8} {acc : List (List UInt8 × List UInt8)} (h : q ∈ pairsL acc) : q ∈ acc := by
  rcases mem_fold_insL q acc [] List.Pairwise.nil h with h | h
  · cases h
  · exact h
theorem zeroPlain : plainElem (H := Unit) Tryz.prog 9 (.string ByteArray.empty) = some (.lit (.string []), []) := plainElem_string Tryz.underlying9 (by decide)
def PairI (ps : List ByteArray) (w : World) (k : Nat) (W : World) : Prop :=
  ∃ acc : List (List UInt8 × List UInt8), (qAcc [] ps = qAcc acc (ps.drop k) ∧ (∀ q ∈ acc, q.1.length ≤ 64 ∧ q.2.length ≤ 64)) ∧
    Boxed W w.heap.size 64 (.slice none 0 0) ∧ Boxed W (w.heap.size + 1) 4 (.bool false) ∧ Boxed W (w.heap.size + 1 + 1 + 1) 112 (.map (some (w.heap.size + 1 + 1))) ∧
    W.ownsMap Tryz.prog 9 (plainElem Tryz.prog 9) (w.heap.size + 1 + 1) k (mapD acc) ∧ Below w.heap.size w W ∧ w.heap.size + 7 ≤ W.heap.size
theorem boxed_own1 (B : Nat) (t : TypeId) (v : Value) (W W' : World) (row : Option Nat) (h : Boxed W B t v) (hg : W.grownBy W' row) (hr : ∀ r, row = some r → ∃ o : Obj, W.heap[r]? = some o ∧ o.isCells = false) : Boxed W' B t v :=
  boxed_own B t (fun _ : Unit => v) () W W' row h hg hr
theorem pairI_own (ps : List ByteArray) (w : World) (B : Nat) (hB : w.heap.size + 7 ≤ B) : OwnFrom B (PairI ps w) := by
  rintro k W W' row ⟨acc, h1, h2, h3, h4, h5, h6, h7⟩ hg hr
  have hr' := fun r e => (hr r e).2
  exact ⟨acc, h1, boxed_own1 _ _ _ W W' row h2 hg hr', boxed_own1 _ _ _ W W' row h3 hg hr', boxed_own1 _ _ _ W W' row h4 hg hr', h5.kept hg (fun e => by have := (hr _ e.symm).1; omega), h6.grown hg (by omega) (fun r e => by have := (hr r e).1; omega), Nat.le_trans h7 hg.size⟩
theorem ownsMap_same {P : Program} {k : TypeId} {R : Value → Option (DataW Unit × List MemPlace)} {W W' : World} {b n : Nat} {D : DataW Unit} (h : W.ownsMap P k R b n D) (hs : W'.heap[b]? = W.heap[b]?) : W'.ownsMap P k R b n D := by
  obtain ⟨es, clock, hb, r⟩ := h
  exact ⟨es, clock, hs.trans hb, r⟩
theorem pairI_turn (ps : List ByteArray) (w : World) (k : Nat) (W W' : World) (h : PairI ps w k W) (hT : Turns (w.heap.size + 1 + 1 + 1 + 1) W W') : PairI ps w k W' := by
  obtain ⟨acc, h1, h2, h3, h4, h5, h6, h7⟩ := h
  obtain ⟨v, rfl⟩ := hT
  exact ⟨acc, h1, boxed_far h2 (by first | (simp; done) | (simp; omega)) _, boxed_far h3 (by first | (simp; done) | (simp; omega)) _, boxed_far h4 (by simp) _, ownsMap_same h5 (Below.heap_setCell _ _ _ _ (by first | (simp; done) | (simp; omega))), h6.setCell (p := ⟨w.heap.size + 1 + 1 + 1 + 1, 0, none⟩) (by simp; omega) _, by simpa [World.setCell] using h7⟩
theorem fail2_end {w W w2 : World} {B : Nat} (h3 : Boxed W w.heap.size 64 (.slice none 0 0)) (h4 : Boxed W (w.heap.size + 1) 4 (.bool false)) (hbw : Below w.heap.size w W) (hsz : w.heap.size + 7 ≤ W.heap.size) (hb2 : Below W.heap.size W w2) :
    KeepsFrom B W ((w2.setCell ⟨w.heap.size, 0, none⟩ (.slice none 0 0)).setCell ⟨w.heap.size + 1, 0, none⟩ (.bool false)) ∧ Boxed ((w2.setCell ⟨w.heap.size, 0, none⟩ (.slice none 0 0)).setCell ⟨w.heap.size + 1, 0, none⟩ (.bool false)) w.heap.size 64 (.slice none 0 0) ∧
      Boxed ((w2.setCell ⟨w.heap.size, 0, none⟩ (.slice none 0 0)).setCell ⟨w.heap.size + 1, 0, none⟩ (.bool false)) (w.heap.size + 1) 4 (.bool false) ∧ Below w.heap.size w ((w2.setCell ⟨w.heap.size, 0, none⟩ (.slice none 0 0)).setCell ⟨w.heap.size + 1, 0, none⟩ (.bool false)) ∧
      w.heap.size + 7 ≤ ((w2.setCell ⟨w.heap.size, 0, none⟩ (.slice none 0 0)).setCell ⟨w.heap.size + 1, 0, none⟩ (.bool false)).heap.size := by
  refine ⟨(((keepsOthers_of_below hb2).trans (KeepsOthers.setCell _ _ _)).trans (KeepsOthers.setCell _ _ _)).from _, boxed_far ((boxed_keep h3 hb2).set _) (by simp) _, (boxed_far (boxed_keep h4 hb2) (by simp) _).set _, ?_, ?_⟩
  · exact ((hbw.trans (hb2.mono (by omega))).setCell (p := ⟨w.heap.size, 0, none⟩) (by simp) _).setCell (p := ⟨w.heap.size + 1, 0, none⟩) (by first | (simp; done) | (simp; omega)) _
  · have := hb2.size; simp [World.setCell]; omega
def PairsPost (r : Option (List (ByteArray × ByteArray))) (w : World) (e : Ending) (w' : World) : Prop :=
  Below w.heap.size w w' ∧ match r with
    | none => e = .returned (.tuple #[.slice none 0 0, .bool false])
    | some out => ∃ A c, e = .returned (.tuple #[.slice A out.length c, .bool true]) ∧ Reads w' 2 A out.length (pairCells out) ∧ ∀ a, A = some a → w.heap.size ≤ a.block
set_option maxHeartbeats 8000000 in
theorem pairs_ne (s : ByteArray) (w : World) (hs : s.size ≤ 1000000000) (hE : Env w) (hne : s.toList.isEmpty = false) :
    Calls Tryz.prog 47 #[.string s] w (PairsPost ((qAcc [] (splitB 38 s)).map fun acc => (pairsL acc).map fun q => (toB q.1, toB q.2)) w) := by
  have hmm := @run_makeMap Tryz.prog
  refine (callsIn_wide (n := 0)).1 ?_
  refine callsIn_of_wp_marks Tryz.func47 rfl trivial ?_ rfl
  simp only [Tryz.ntmps47, List.size_toArray, List.length_cons, List.length_nil, Nat.reduceAdd, Nat.reduceSub, Array.replicate_succ, Array.replicate_zero, List.push_toArray, List.append_toArray, List.nil_append, List.cons_append]
  gi_wp2_with (refine ⟨trivial, rfl, ?_⟩; gi_at_call 44; refine (callsIn_wide.2 (splitSeq_any s _ _)).mono ?_; rintro e w' ⟨rfl, hw⟩; rw [hw])
  obtain ⟨W1, hW1⟩ : ∃ W1, W1 = (w.alloc (.cells #[.slice none 0 0] 64)).alloc (.cells #[.bool false] 4) := ⟨_, rfl⟩
  obtain ⟨Wl, hWl⟩ : ∃ Wl, Wl = (((((W1.alloc (.map #[] 0)).alloc (.cells #[.map (some (w.heap.size + 1 + 1))] 112)).alloc (.cells #[.string s] 9)).alloc (.cells #[.string ⟨#[38]⟩] 9)).alloc (.cells #[.int .i64 0] 3)) := ⟨_, rfl⟩
  have hs1 : W1.heap.size = w.heap.size + 1 + 1 := by rw [hW1]; simp
  have hsz : Wl.heap.size = w.heap.size + 7 := by rw [hWl]; simp [hs1]
  have hbW : Below w.heap.size w Wl := by rw [hWl, hW1]; exact balloc (balloc (balloc (balloc (balloc (balloc (balloc (Below.refl _ _) _) _) _) _) _) _) _
  have b1 : Boxed Wl w.heap.size 64 (.slice none 0 0) := by rw [hWl, hW1]; exact ((((((Boxed.new w _ _).alloc _).alloc _).alloc _).alloc _).alloc _).alloc _
  have b2 : Boxed Wl (w.heap.size + 1) 4 (.bool false) := by
    have := Boxed.new (w.alloc (.cells #[.slice none 0 0] 64)) 4 (.bool false)
    rw [World.size_alloc] at this
    rw [hWl, hW1]; exact ((((this.alloc _).alloc _).alloc _).alloc _).alloc _
  have bm : Wl.ownsMap Tryz.prog 9 (plainElem Tryz.prog 9) (w.heap.size + 1 + 1) 0 (mapD []) := by
    have := World.ownsMap_made W1 Tryz.prog 9 (plainElem (H := Unit) Tryz.prog 9)
    rw [hs1] at this
    rw [hWl]; exact (((this.alloc _).alloc _).alloc _).alloc _
  have b4 : Boxed Wl (w.heap.size + 1 + 1 + 1) 112 (.map (some (w.heap.size + 1 + 1))) := by
    have := Boxed.new (W1.alloc (.map #[] 0)) 112 (.map (some (w.heap.size + 1 + 1)))
    rw [World.size_alloc, hs1] at this
    rw [hWl]; exact ((this.alloc _).alloc _).alloc _
  have b5 : Boxed Wl (w.heap.size + 1 + 1 + 1 + 1) 9 (.string s) := by
    have := Boxed.new ((W1.alloc (.map #[] 0)).alloc (.cells #[.map (some (w.heap.size + 1 + 1))] 112)) 9 (.string s)
    rw [World.size_alloc, World.size_alloc, hs1] at this
    rw [hWl]; exact (this.alloc _).alloc _
  have b6 : Boxed Wl (w.heap.size + 1 + 1 + 1 + 1 + 1) 9 (.string ⟨#[38]⟩) := by
    have := Boxed.new (((W1.alloc (.map #[] 0)).alloc (.cells #[.map (some (w.heap.size + 1 + 1))] 112)).alloc (.cells #[.string s] 9)) 9 (.string ⟨#[38]⟩)
    rw [World.size_alloc, World.size_alloc, World.size_alloc, hs1] at this
    rw [hWl]; exact this.alloc _
  have b7 : Boxed Wl (w.heap.size + 1 + 1 + 1 + 1 + 1 + 1) 3 (.int .i64 0) := by
    have := Boxed.new ((((W1.alloc (.map #[] 0)).alloc (.cells #[.map (some (w.heap.size + 1 + 1))] 112)).alloc (.cells #[.string s] 9)).alloc (.cells #[.string ⟨#[38]⟩] 9)) 3 (.int .i64 0)
    rw [World.size_alloc, World.size_alloc, World.size_alloc, World.size_alloc, hs1] at this
    rw [hWl]; exact this
  rw [hW1] at hWl
  rw [← hWl]
  clear hWl hW1 hs1 W1 hmm hne
  have hsq := splitSeq_iter (w.heap.size + 1 + 1 + 1 + 1) 38 s Wl (by omega) b5.cell b6.cell b7.cell b5.frozen
  refine range_law (gf := 82) (lb := #[.pointer (some ⟨w.heap.size + 1 + 1 + 1 + 1 + 1, 0, none⟩), .pointer (some ⟨w.heap.size + 1 + 1 + 1 + 1, 0, none⟩), .pointer (some ⟨w.heap.size + 1 + 1 + 1 + 1 + 1 + 1, 0, none⟩)]) rfl (enters_of Tryz.func82 (by kernel_rfl) rfl) hsq (Below.refl _ _) (by omega) (PairI (splitB 38 s) w)
    (fun c W => c = .ret ∧ qAcc [] (splitB 38 s) = none ∧ Boxed W w.heap.size 64 (.slice none 0 0) ∧ Boxed W (w.heap.size + 1) 4 (.bool false) ∧ Below w.heap.size w W ∧ w.heap.size + 7 ≤ W.heap.size)
    (pairI_own (splitB 38 s) w _ (by omega)) ?ixo ⟨[], ⟨rfl, by simp⟩, b1, b2, b4, bm, hbW, by omega⟩
    (pairI_turn _ _) (by rintro W W' ⟨v, rfl⟩; exact KeepsOthers.setCell _ _ _)
    (fun x => { tmps := #[.string s, undef, .pointer (some ⟨w.heap.size, 0, none⟩), .pointer (some ⟨w.heap.size + 1, 0, none⟩), .pointer (some ⟨w.heap.size + 1 + 1 + 1, 0, none⟩), x, undef, undef, undef, undef, undef, undef, .string s, .bool false, .map (some (w.heap.size + 1 + 1)), .string s, .func (.func 82) #[] #[.pointer (some ⟨w.heap.size + 1 + 1 + 1 + 1 + 1, 0, none⟩), .pointer (some ⟨w.heap.size + 1 + 1 + 1 + 1, 0, none⟩), .pointer (some ⟨w.heap.size + 1 + 1 + 1 + 1 + 1 + 1, 0, none⟩)], x, undef, undef, undef, undef, undef, undef, undef, undef, undef, undef, undef, undef, undef, undef, undef, undef, undef, undef, undef, undef, undef, undef, undef, undef, undef, undef, undef, undef, undef, undef, undef, undef, undef, undef, undef, undef, undef, undef, undef], defers := [] }) ?assign ?body ?done ?stop
  case ixo =>
    rintro c _ W W' row ⟨h0, h1, h2, h3, h4, h5⟩ hg hr
    have hr' := fun r e => (hr r e).2
    exact ⟨h0, h1, boxed_own1 _ _ _ W W' row h2 hg hr', boxed_own1 _ _ _ W W' row h3 hg hr', h4.grown hg (by omega) (fun r e => by have := (hr r e).1; omega), Nat.le_trans h5 hg.size⟩
  case assign =>
    intro l x W K _ hK
    gi_wp2
    exact hK
  case body =>
    rintro l k x W hx ⟨acc, ⟨hr1, hr2⟩, h3, h4, h5, hown, hbw, hsz6⟩
    obtain ⟨p, hp, rfl⟩ := strs_at hx
    have hpm := List.mem_of_getElem? hp
    have hps : p.size ≤ 1000000000 := Nat.le_trans (splitB_size 38 s p hpm) hs
    have hkl : k < (splitB 38 s).length := (List.getElem?_eq_some_iff.1 hp).1
    have hnum := splitB_num 38 s
    have hd : (splitB 38 s).drop k = p :: (splitB 38 s).drop (k + 1) := by
      obtain ⟨hl2, rfl⟩ := List.getElem?_eq_some_iff.1 hp
      exact List.drop_eq_getElem_cons hl2
    rw [hd, qAcc] at hr1
    clear hx hp hd hpm
    have hE1 := hE.keep (w := w) (w' := W) hbw
    have cC := cut_any p 61 W (by omega) hE1
    have hKl := cut_fst_len p.data.toList [61]
    have hVl := cut_snd_len p.data.toList [61]
    have hpz : p.data.toList.length = p.size := (Lib.size_eq p).symm
    simp only [parsePair] at hr1
    generalize Lib.cut p.data.toList [61] = r at hr1 cC hKl hVl
    obtain ⟨K, V, ok⟩ := r
    dsimp only at hr1 cC hKl hVl
    have cN := fun W' => isName_any (toB K) W' (by rw [toB_size]; omega)
    have cV := fun W' => isWord_any (toB V) W' (by rw [toB_size]; omega)
    have c2 := h3.cell; have f2 := h3.frozen
    have c3 := h4.cell; have f3 := h4.frozen
    have c4 := h5.cell
    cases ok
    · have hn : qAcc [] (splitB 38 s) = none := by rw [hr1]; simp
      clear hr1 cN cV
      gi_wp2_with (first | (refine ⟨trivial, rfl, ?_⟩; gi_at_call 34; refine (CallsIn.inRound l (callsIn_wide.2 (cC))).mono ?_; rintro e w1 ⟨rfl, hb1⟩; replace f2 := frozen_keep hb1 (cell_lt c2) f2; replace c2 := cell_keep hb1 c2; replace f3 := frozen_keep hb1 (cell_lt c3) f3; replace c3 := cell_keep hb1 c3; replace c4 := cell_keep hb1 c4) | (refine And.intro trivial ?_))
      obtain ⟨k1, k2, k3, k4, k5⟩ := fail2_end (B := Wl.heap.size) h3 h4 hbw hsz6 (w2 := w1) belB
      exact ⟨k1, rfl, hn, k2, k3, k4, k5⟩
    cases hnm : isNameB (toB K)
    · have hn : qAcc [] (splitB 38 s) = none := by rw [hr1]; simp [hnm]
      rw [hnm] at cN
      have HN := Lib.hid cN
      clear hr1 cV cN hnm
      gi_wp2_with (first | (refine ⟨trivial, rfl, ?_⟩; gi_at_call 34; refine (CallsIn.inRound l (callsIn_wide.2 (cC))).mono ?_; rintro e w1 ⟨rfl, hb1⟩; replace f2 := frozen_keep hb1 (cell_lt c2) f2; replace c2 := cell_keep hb1 c2; replace f3 := frozen_keep hb1 (cell_lt c3) f3; replace c3 := cell_keep hb1 c3; replace c4 := cell_keep hb1 c4) | (refine ⟨trivial, rfl, ?_⟩; gi_at_call 48; refine (CallsIn.inRound l (callsIn_wide.2 (HN.out _))).mono ?_; rintro e w2 ⟨rfl, hb2⟩; replace f2 := frozen_keep hb2 (cell_lt c2) f2; replace c2 := cell_keep hb2 c2; replace f3 := frozen_keep hb2 (cell_lt c3) f3; replace c3 := cell_keep hb2 c3; replace c4 := cell_keep hb2 c4) | (refine And.intro trivial ?_))
      obtain ⟨k1, k2, k3, k4, k5⟩ := fail2_end (B := Wl.heap.size) h3 h4 hbw hsz6 (w2 := w2) belB
      exact ⟨k1, rfl, hn, k2, k3, k4, k5⟩
    cases hwd : isWordB (toB V)
    · have hn : qAcc [] (splitB 38 s) = none := by rw [hr1]; simp [hwd]
      rw [hnm] at cN
      rw [hwd] at cV
      have HN := Lib.hid cN
      have HV := Lib.hid cV
      clear hr1 cV cN hnm hwd
      gi_wp2_with (first | (refine ⟨trivial, rfl, ?_⟩; gi_at_call 34; refine (CallsIn.inRound l (callsIn_wide.2 (cC))).mono ?_; rintro e w1 ⟨rfl, hb1⟩; replace f2 := frozen_keep hb1 (cell_lt c2) f2; replace c2 := cell_keep hb1 c2; replace f3 := frozen_keep hb1 (cell_lt c3) f3; replace c3 := cell_keep hb1 c3; replace c4 := cell_keep hb1 c4) | (refine ⟨trivial, rfl, ?_⟩; gi_at_call 48; refine (CallsIn.inRound l (callsIn_wide.2 (HN.out _))).mono ?_; rintro e w2 ⟨rfl, hb2⟩; replace f2 := frozen_keep hb2 (cell_lt c2) f2; replace c2 := cell_keep hb2 c2; replace f3 := frozen_keep hb2 (cell_lt c3) f3; replace c3 := cell_keep hb2 c3; replace c4 := cell_keep hb2 c4) | (refine ⟨trivial, rfl, ?_⟩; gi_at_call 64; refine (CallsIn.inRound l (callsIn_wide.2 (HV.out _))).mono ?_; rintro e w3 ⟨rfl, hb3⟩; replace f2 := frozen_keep hb3 (cell_lt c2) f2; replace c2 := cell_keep hb3 c2; replace f3 := frozen_keep hb3 (cell_lt c3) f3; replace c3 := cell_keep hb3 c3; replace c4 := cell_keep hb3 c4) | (refine And.intro trivial ?_))
      obtain ⟨k1, k2, k3, k4, k5⟩ := fail2_end (B := Wl.heap.size) h3 h4 hbw hsz6 (w2 := w3) belB
      exact ⟨k1, rfl, hn, k2, k3, k4, k5⟩
    have hn : qAcc [] (splitB 38 s) = qAcc (acc ++ [(K, V)]) ((splitB 38 s).drop (k + 1)) := by rw [hr1]; simp [hnm, hwd]
    have hK64 := size_of_name hnm
    have hV64 := size_of_word hwd
    rw [toB_size] at hK64 hV64
    rw [hnm] at cN
    rw [hwd] at cV
    have HN := Lib.hid cN
    have HV := Lib.hid cV
    have HE := Lib.hid hn
    clear hr1 cV cN hnm hwd hn
    gi_wp2_with (first | (refine ⟨trivial, rfl, ?_⟩; gi_at_call 34; refine (CallsIn.inRound l (callsIn_wide.2 (cC))).mono ?_; rintro e w1 ⟨rfl, hb1⟩; replace f2 := frozen_keep hb1 (cell_lt c2) f2; replace c2 := cell_keep hb1 c2; replace f3 := frozen_keep hb1 (cell_lt c3) f3; replace c3 := cell_keep hb1 c3; replace c4 := cell_keep hb1 c4; have hown1 := hown.kept (row := none) (grown_of_below hb1) (by simp)) | (refine ⟨trivial, rfl, ?_⟩; gi_at_call 48; refine (CallsIn.inRound l (callsIn_wide.2 (HN.out _))).mono ?_; rintro e w2 ⟨rfl, hb2⟩; replace f2 := frozen_keep hb2 (cell_lt c2) f2; replace c2 := cell_keep hb2 c2; replace f3 := frozen_keep hb2 (cell_lt c3) f3; replace c3 := cell_keep hb2 c3; replace c4 := cell_keep hb2 c4; have hown2 := hown1.kept (row := none) (grown_of_below hb2) (by simp)) | (refine ⟨trivial, rfl, ?_⟩; gi_at_call 64; refine (CallsIn.inRound l (callsIn_wide.2 (HV.out _))).mono ?_; rintro e w3 ⟨rfl, hb3⟩; replace f2 := frozen_keep hb3 (cell_lt c2) f2; replace c2 := cell_keep hb3 c2; replace f3 := frozen_keep hb3 (cell_lt c3) f3; replace c3 := cell_keep hb3 c3; replace c4 := cell_keep hb3 c4; obtain ⟨w4, hrun4, hown4, hgrow4⟩ := (hown2.kept (row := none) (grown_of_below hb3) (by simp)).update keyLaw Tryz.underlying112 (by unfold maxLen; omega) (Go.WideMaps.keyOf_string_mk Tryz.underlying9 (s := toB K) (by unfold maxLen; rw [toB_size]; omega)) (plainElem_string (s := toB V) Tryz.underlying9 (by unfold maxLen; rw [toB_size]; omega))) | (refine And.intro trivial ?_))
    have hbc : Below W.heap.size W w3 := belB
    have hz3 := hbc.size
    have hbw4 : Below w.heap.size w w4 := (hbw.trans (hbc.mono (by omega))).grown hgrow4 (by omega) (fun r e => by injection e; omega)
    have hbl : ∀ j, j < W.heap.size → j ≠ w.heap.size + 1 + 1 → w4.heap[j]? = W.heap[j]? := fun j h1 h2 => (hgrow4.block j (by omega) (fun e => by injection e; omega)).trans (hbc.block j h1)
    refine ⟨((keepsOthers_of_below hbc).from _).trans (KeepsFrom.of_grownBy hgrow4 (fun j e => by injection e; omega)), fun j h1 h2 => hbl j (by omega) (by omega), acc ++ [(K, V)], ⟨HE.out, ?_⟩, (hbl _ (by omega) (by omega)).trans h3, (hbl _ (by omega) (by omega)).trans h4, (hbl _ (by omega) (by omega)).trans h5, ?_, hbw4, by have := hgrow4.size; omega⟩
    · intro q hq
      rcases List.mem_append.1 hq with hq | hq
      · exact hr2 q hq
      · rw [List.mem_singleton.1 hq]; exact ⟨hK64, hV64⟩
    · have : mapD (acc ++ [(K, V)]) = (mapD acc).put (.string K) (.lit (.string V)) := by simp [mapD]
      rw [this]; exact hown4
  case done =>
    rintro D W hD ⟨acc, ⟨hr1, hr2⟩, h3, h4, h5, hown, hbw, hsz6⟩ hK
    rw [List.length_map, List.drop_eq_nil_of_le (Nat.le_refl _), qAcc] at hr1
    have hG := good_pairs acc
    have hDsz : Maps.size (mapD acc) ≤ (splitB 38 s).length := by
      rw [List.length_map] at hown
      exact hown.size_le
    have hnum := splitB_num 38 s
    have c2 := h3.cell; have f2 := h3.frozen
    have c3 := h4.cell; have f3 := h4.frozen
    have c4 := h5.cell
    obtain ⟨Wm, hWm⟩ : ∃ Wm, Wm = W.alloc (.cells #[.map (some (w.heap.size + 1 + 1))] 112) := ⟨_, rfl⟩
    have hwm : Wm.heap.size = W.heap.size + 1 := by rw [hWm]; simp
    have hbm : Below W.heap.size W Wm := by rw [hWm]; exact balloc (Below.refl _ _) _
    have cS := Tryz.slices_Sorted_keys_65_66 (w.heap.size + 1 + 1) _ (mapD acc) (plainElem Tryz.prog 9) W hown (by unfold maxLen; omega) (by omega)
    rw [← hWm] at cS
    gi_wp2
    refine ⟨trivial, rfl, ?_⟩
    gi_at_call 66
    refine (callsIn_wide.2 (callsIn_wide.1 (Tryz.maps_Keys_66 (some (w.heap.size + 1 + 1)) W))).mono ?_
    rintro e w1 ⟨rfl, hw1⟩
    rw [← hWm] at hw1; clear hWm
    rw [hw1]
    gi_wp2
    refine ⟨trivial, rfl, ?_⟩
    gi_at_call 65
    refine (callsIn_wide.2 (callsIn_wide.1 cS)).mono ?_
    rintro e w2 ⟨v, ss, rfl, hperm, hrow, hnil, hbs⟩
    have hks := sorted_keys acc ss hperm
    obtain ⟨vA, vc, rfl⟩ : ∃ vA vc, v = .slice vA ss.length vc := by
      rcases hrow.2 with ⟨hv, h0⟩ | ⟨g, cap, cur, hv, _⟩
      · exact ⟨none, 0, by rw [hv, h0]⟩
      · exact ⟨_, _, hv⟩
    gi_wp2
    have hnl : ss.length ≤ (splitB 38 s).length := by
      have := hperm.length_eq
      rw [this]
      refine Nat.le_trans (Nat.le_of_eq ?_) hDsz
      unfold strKeys Maps.size
      split <;> simp_all
    obtain ⟨out, hout⟩ : ∃ out, out = (pairsL acc).map fun q => (toB q.1, toB q.2) := ⟨_, rfl⟩
    have hlk : ss.length = (pairsL acc).length := by
      have := congrArg List.length hks
      simpa using this
    rw [hks] at hrow
    have hrd := Reads.of_own hrow
    have hbsW : Below W.heap.size W w2 := bstep hbm hbs
    have HR := Lib.hid hr1
    have HO := Lib.hid hout
    have HLK := Lib.hid hlk
    clear hks hr1 hlk hout hrow hperm hbs hbm hnil cS b1 b2 bm b4 b5 b6 b7 hbW
    gi_loopw [9, 43] (fun va vi wr => ∃ (k : Nat) (A : Option Addr) (c : Nat), (va = .slice A k c ∧ vi = .int .i64 k ∧ k ≤ ss.length) ∧ wr.ownsRow w2.heap.size 116 2 (.slice A k c) k (pairCells (out.take k)) ∧ Below w2.heap.size w2 wr) (fun _ vi _ => ss.length - (intOf vi).toNat)
    case atStart => exact ⟨0, none, 0, ⟨rfl, rfl, Nat.zero_le _⟩, World.ownsRow_nil _ _ _ _, Below.refl _ _⟩
    case round =>
      obtain ⟨k, A, c, ⟨rfl, rfl, hk⟩, hown9, hbr⟩ := hrel
      have hbWr : Below W.heap.size W wr := hbsW.trans (hbr.mono hbsW.size)
      by_cases hlt : k < ss.length
      · obtain ⟨q, hq⟩ : ∃ q, (pairsL acc)[k]? = some q := ⟨_, List.getElem?_eq_getElem (by have := HLK.out; omega)⟩
        have hqm := List.mem_of_getElem? hq
        obtain ⟨hq1, hq2⟩ := hr2 q (mem_pairsL hqm)
        obtain ⟨pb, po, u, rfl, hu, hcell⟩ := (hrd.keep hbr).at_ hlt
        obtain rfl : u = .string (toB q.1) := by
          simp [hq] at hu
          exact hu.symm
        obtain ⟨lv, lps, hlkp, hlv⟩ := (hown.kept (row := none) (grown_of_below hbWr) (by simp)).lookup keyLaw Tryz.underlying112 (zeroStr _) zeroPlain (WideMaps.keyOf_string_mk Tryz.underlying9 (s := toB q.1) (by unfold maxLen; rw [toB_size]; omega))
        obtain ⟨s', rfl, he, _⟩ := plainElem_string_inv Tryz.underlying9 hlv
        obtain rfl : s' = toB q.2 := by
          have h1 := hG.2.2.2.2 q.1 q.2 hqm (.lit (.string []))
          have h2 := congrArg Prod.fst he
          dsimp only at h2
          rw [show (toB q.1).data.toList = q.1 from rfl, h1] at h2
          injection h2 with h2
          injection h2 with h2
          exact bytes_ext h2.symm
        have c4r := cell_keep hbWr c4
        have HQ := Lib.hid hq
        clear hu hq hlv he hqm
        obtain ⟨i0, hi0, hz0, hz1, hz2⟩ := info_parts infoPair
        gi_wp2_with (gi_at_builtin; refine wpListIn_append_own _ rfl _ _ 64 rfl w2.heap.size 116 i0 (.agg #[.string ⟨#[]⟩, .string ⟨#[]⟩]) 2 32 Tryz.underlying64 hi0 hz0 hz1 hz2 rfl (by decide) _ _ _ rfl (hown9.alloc _) ⟨wr.heap.size, 0, none⟩ 1 1 [.string (toB q.1), .string (toB q.2)] rfl rfl (World.news_of_block (World.alloc_heap_new _ _)) (by simp [Value.oneCell']) (by unfold maxLen; omega) (by omega) (by have := hbr.size; simp; omega) ?_; intro v' w3 hown' hgrow _; obtain ⟨g', cap', rfl⟩ := ownsRow_succ hown')
        refine ⟨⟨k + 1, some ⟨g', 0, none⟩, cap', ⟨rfl, by go_num, by omega⟩, ?_, ?_⟩, by simp [intOf]; omega⟩
        · have hqo : out[k]? = some (toB q.1, toB q.2) := by rw [HO.out]; simp [HQ.out]
          have : pairCells (out.take (k + 1)) = pairCells (out.take k) ++ [.string (toB q.1), .string (toB q.2)] := by simp [pairCells, List.take_add_one, hqo]
          rw [this]; exact hown'
        · exact (balloc hbr _).grown hgrow (by have := hbr.size; simp; omega) (fun r e => ownsRow_block hown9 r e)
      · obtain rfl : k = ss.length := by omega
        clear hlt
        have f2r := frozen_keep hbWr (cell_lt c2) f2
        have f3r := frozen_keep hbWr (cell_lt c3) f3
        have c2r := cell_keep hbWr c2
        have c3r := cell_keep hbWr c3
        gi_wp2
        have hDW : w.heap.size + 7 ≤ D := by omega
        have hDl : D < W.heap.size := (Array.getElem?_eq_some_iff.1 hK).1
        have hKr : wr.heap[D]? = some (.deferred (some [])) := (hbWr.block D hDl).trans hK
        have hk2 := ((KeepsOthers.setCell wr ⟨w.heap.size, 0, none⟩ (.slice A ss.length c)).trans (KeepsOthers.setCell _ ⟨w.heap.size + 1, 0, none⟩ (.bool true))).same D _ hKr rfl
        obtain ⟨W2, hW2⟩ : ∃ W2, W2 = (wr.setCell ⟨w.heap.size, 0, none⟩ (.slice A ss.length c)).setCell ⟨w.heap.size + 1, 0, none⟩ (.bool true) := ⟨_, rfl⟩
        have x3 : Boxed W2 w.heap.size 64 (.slice A ss.length c) := hW2 ▸ boxed_far ((boxed_keep h3 hbWr).set _) (by simp) _
        have x4 : Boxed W2 (w.heap.size + 1) 4 (.bool true) := hW2 ▸ (boxed_far (boxed_keep h4 hbWr) (by simp) _).set _
        have hzW := hbWr.size
        have hzw2 := hbsW.size
        have hb2 : Below w.heap.size w W2 := hW2 ▸ ((hbw.trans (hbWr.mono (by omega))).setCell (p := ⟨w.heap.size, 0, none⟩) (by simp) _).setCell (p := ⟨w.heap.size + 1, 0, none⟩) (by first | (simp; done) | (simp; omega)) _
        have hr2' : W2.ownsRow w2.heap.size 116 2 (.slice A ss.length c) ss.length (pairCells (out.take ss.length)) := by
          rw [hW2]
          refine ownsRow_same hown9 (fun j hj => ?_)
          rw [Below.heap_setCell _ _ _ _ (by simp; omega), Below.heap_setCell _ _ _ _ (by simp; omega)]
        rw [← hW2] at hk2 ⊢
        clear hW2 h3 h4 hown9 hown c2 c3 c4 f2 f3 c2r c3r f2r f3r
        refine ⟨by simp, .inl ⟨_, _, rfl, run_takeDeferred hk2, ?_⟩⟩
        have hne : ∀ (B : Nat) (t : TypeId) (v : Value), Boxed W2 B t v → B < D → (W2.putObj D (.deferred none)).cell? ⟨B, 0, none⟩ = some v := fun B t v hv hlt => Boxed.cell (t := t) ((World.putObj_heap_other (by omega)).trans hv)
        have y3 := hne _ _ _ x3 (by omega)
        have y4 := hne _ _ _ x4 (by omega)
        refine ⟨.tuple #[.slice A ss.length c, .bool true], by simp [results, Tryz.results47, go_sem, y3, y4], ?_, ?_⟩
        · exact hb2.grown (grownBy_putObj' W2 D _) (by have := hb2.size; omega) (fun r e => by cases e; omega)
        · rw [HR.out]
          have hol : out.length = ss.length := by rw [HO.out, List.length_map, HLK.out]
          rw [← hol, List.take_length] at hr2'
          refine ⟨A, c, ?_, ?_, fun a ha => Nat.le_trans (by omega) (ownsRow_block hr2' a.block (by rw [ha]; rfl))⟩
          · dsimp only; rw [← HO.out, ← hol]
          · dsimp only; rw [← HO.out]; exact Reads.of_own (ownsRow_putObj hr2' _ hk2 rfl)
  case stop =>
    rintro D c W hD ⟨rfl, hr1, h3, h4, hbw, hsz6⟩ hK
    gi_wp2
    refine ⟨by simp, .inl ⟨_, _, rfl, run_takeDeferred hK, ?_⟩⟩
    have hne : ∀ (B : Nat) (t : TypeId) (v : Value), Boxed W B t v → B < D → (W.putObj D (.deferred none)).cell? ⟨B, 0, none⟩ = some v := fun B t v hv hlt => Boxed.cell (t := t) ((World.putObj_heap_other (by omega)).trans hv)
    have y3 := hne _ _ _ h3 (by omega)
    have y4 := hne _ _ _ h4 (by omega)
    refine ⟨.tuple #[.slice none 0 0, .bool false], by simp [results, Tryz.results47, go_sem, y3, y4], ?_, ?_⟩
    · exact hbw.grown (grownBy_putObj' W D _) (by have := hbw.size; omega) (fun r e => by cases e; omega)
    · rw [hr1]; rfl
theorem pairs_empty (s : ByteArray) (w : World) (hne : s.toList.isEmpty = true) : Calls Tryz.prog 47 #[.string s] w (PairsPost (some []) w) := by
  obtain rfl : s = ⟨#[]⟩ := by
    rw [Lib.toList_data] at hne
    exact bytes_ext (by simpa using hne)
  go_enter Tryz.func47, Tryz.ntmps47
  go_wp2_with fail
  exact bodyPost_ret (v := .tuple #[.slice none 0 0, .bool true]) (by simp [results, Tryz.results47, go_sem]) rfl ⟨belB, none, 0, rfl, Reads.nil_ _ _ _, fun a ha => (by cases ha)⟩
theorem pairs_any (s : ByteArray) (w : World) (hs : s.size ≤ 1000000000) (hE : Env w) : Calls Tryz.prog 47 #[.string s] w (PairsPost (pairsB s) w) := by
  unfold pairsB
  cases h : s.toList.isEmpty
  · exact pairs_ne s w hs hE h
  · exact pairs_empty s w h
end Go.Proofs.YtcjeddichookmaaGreatDoor
namespace Go.Proofs.YtcjeddichookmaaGreatDoor
open Go.RowKit Go.Sort
set_option linter.unusedVariables false
set_option linter.unusedSimpArgs false
set_option maxRecDepth 100000
def b8 (l : List Nat) : List Value := l.map fun x : Nat => Value.int .u8 (x : Int)
theorem b8_at (l : List Nat) {k : Nat} (hk : k < l.length) : (b8 l)[k]? = some (.int .u8 ((l.getD k 0 : Nat) : Int)) := by
  simp [b8, List.getD_eq_getElem?_getD, List.getElem?_eq_getElem hk]
def pre (S : List Nat) (t : Nat) : List Nat := S.take t ++ List.replicate (64 - t) 0
section
variable {S : List Nat}
theorem pre_len (hS : S.length = 64) {t : Nat} (h : t ≤ 64) : (pre S t).length = 64 := by
  unfold pre; simp [hS]; omega
theorem pre_lt (hS : S.length = 64) {t k : Nat} (hk : k < t) (ht : t ≤ 64) : (pre S t).getD k 0 = S.getD k 0 := by
  unfold pre
  rw [List.getD_eq_getElem?_getD, List.getElem?_append_left (by simp [hS]; omega), ← List.getD_eq_getElem?_getD, Sha.getD_take hk]
theorem pre_ge (hS : S.length = 64) {t k : Nat} (hk : t ≤ k) (ht : t ≤ 64) : (pre S t).getD k 0 = 0 := by
  unfold pre
  rw [List.getD_eq_getElem?_getD, List.getElem?_append_right (by simp [hS]; omega)]
  rw [List.getElem?_replicate]
  split <;> simp
theorem at64 (l : List Nat) (hl : l.length = 64) (k : Nat) : l[k]? = if k < 64 then some (l.getD k 0) else none := by
  split
  · rw [List.getD_eq_getElem?_getD, List.getElem?_eq_getElem (by omega)]; simp
  · exact List.getElem?_eq_none (by omega)
theorem pre_succ (hS : S.length = 64) {t : Nat} (ht : t < 64) : (pre S t).set t (S.getD t 0) = pre S (t + 1) := by
  apply List.ext_getElem?
  intro k
  rw [at64 _ (by rw [List.length_set]; exact pre_len hS (by omega)), at64 _ (pre_len hS (by omega))]
  split
  · congr 1
    rcases Nat.lt_trichotomy k t with h | h | h
    · rw [pre_lt hS (by omega) (by omega), ← pre_lt hS h (by omega), List.getD_eq_getElem?_getD, List.getElem?_set_ne (by omega), ← List.getD_eq_getElem?_getD]
    · subst h
      rw [pre_lt hS (by omega) (by omega), List.getD_eq_getElem?_getD, List.getElem?_set_self (by rw [pre_len hS (by omega)]; omega), Option.getD_some]
    · rw [pre_ge hS (by omega) (by omega), List.getD_eq_getElem?_getD, List.getElem?_set_ne (by omega), ← List.getD_eq_getElem?_getD, pre_ge hS (Nat.le_of_lt h) (by omega)]
  · rfl
theorem pre_zero (S : List Nat) : pre S 0 = List.replicate 64 0 := by simp [pre]
theorem pre_all (hS : S.length = 64) : pre S 64 = S := by
  unfold pre
  rw [List.take_of_length_le (by omega)]; simp
theorem pre_none (hS : S.length = 64) {t : Nat} (ht : t < 64) : (pre S t).set t 0 = pre S t := by
  apply List.ext_getElem?
  intro k
  by_cases h : t = k
  · subst h
    rw [List.getElem?_set_self (by rw [pre_len hS (by omega)]; omega), at64 _ (pre_len hS (by omega)), if_pos ht, pre_ge hS (Nat.le_refl _) (by omega)]
  · rw [List.getElem?_set_ne h]
theorem set_set (L : List Nat) (t a v : Nat) : (L.set t a).set t v = L.set t v := List.set_set ..
theorem set_at {L : List Nat} {t v : Nat} (h : t < L.length) : (L.set t v).getD t 0 = v := by
  rw [List.getD_eq_getElem?_getD, List.getElem?_set_self h, Option.getD_some]
end
theorem or8 (a x : Nat) (ha : a < 16777216) (hx : x < 256) : bits .or .u32 ((a : Int) * 256) (x : Int) = ((a * 256 + x : Nat) : Int) := by
  have h := u32_or_nat (a * 256) x (by omega) (by omega)
  rw [Sha.or_byte a x hx] at h
  have e : ((a * 256 : Nat) : Int) = (a : Int) * 256 := by omega
  rw [e] at h; exact h
structure Sched (b S : List Nat) : Prop where
  len : S.length = 64
  lo : ∀ t, t < 16 → S.getD t 0 = Sha.part (b.drop (4 * t)) 4
  hi : ∀ t, 16 ≤ t → t < 64 → S.getD t 0 = Sha.add32 (Sha.add32 (Sha.add32 (S.getD (t - 16) 0) (Sha.s0 (S.getD (t - 15) 0))) (S.getD (t - 7) 0)) (Sha.s1 (S.getD (t - 2) 0))
  lt : ∀ t, S.getD t 0 < 4294967296
theorem sched_is {b : List Nat} (hb : ∀ x ∈ b, x < 256) : Sched b (Sha.sched b) :=
  ⟨Sha.sched_len b, fun t h => by rw [Sha.sched_lo b t h, Sha.part4], Sha.sched_hi b, Sha.sched_lt hb⟩
set_option maxHeartbeats 4000000 in
theorem schedule_any (A : Option Addr) (c : Nat) (b : List Nat) (w : World) (hR : Reads w 1 A 64 (b8 b)) (hb : ∀ x ∈ b, x < 256) (hc : 64 ≤ c) (hc2 : c ≤ 1000000000) :
    Calls Tryz.prog 100 #[.slice A 64 c] w (Ret w (.agg (w32 (Sha.sched b)).toArray)) := by
  obtain ⟨bb, bo, rfl, hcell⟩ := hR.2 (by decide)
  have hbl : b.length = 64 := by have := hR.1; simpa [b8] using this
  have hlt : bb < w.heap.size := by
    have := hcell 0 _ (b8_at b (k := 0) (by omega))
    exact cell_lt this
  have hS := sched_is hb
  generalize Sha.sched b = S at *
  have HS := Lib.hid hS
  have HB := Lib.hid hb; have HL := Lib.hid hbl; have HC := Lib.hid (fun k hk => hcell k _ (b8_at b (k := k) hk))
  clear hR hb hbl hcell hS
  go_enter Tryz.func100, Tryz.ntmps100
  go_wp2
  go_loopw [11] (fun i wr => ∃ t : Nat, t ≤ 64 ∧ i = .int .i64 t ∧ Hid (Row32 wr (w.heap.size + 1) 144 (pre S t)) ∧ Hid (Row32 wr w.heap.size 144 (pre S 0)) ∧ Below w.heap.size w wr) (fun i _ => 64 - (intOf i).toNat)
  case atStart =>
    refine ⟨0, by omega, rfl, Lib.hid ?_, Lib.hid ?_, belB⟩
    · rw [pre_zero]; exact Eq.trans (heap_alloc2_new w _ _) rfl
    · rw [pre_zero]; exact Eq.trans (heap_alloc2_old w _ _) rfl
  case round =>
    obtain ⟨t, ht, rfl, HW, HZ, hbw⟩ := hrel
    have hsz : w.heap.size + 1 < wr.heap.size := HW.out.lt
    by_cases h64 : t < 64
    · by_cases h16 : t < 16
      · have hct : 4 * t + 4 ≤ c := by omega
        have hpd : ∀ j, j < 4 → wr.cell? ⟨bb, bo + (4 * t + j), none⟩ = some (.int .u8 (b.getD (4 * t + j) 0 : Nat)) := fun j hj => cell_keep hbw (HC.out (4 * t + j) (by have := HL.out; omega))
        have HP := Lib.hid hpd
        clear hpd
        obtain ⟨d, hd⟩ : ∃ d, d = b.drop (4 * t) := ⟨_, rfl⟩
        have hdl : ∀ j, d.getD j 0 = b.getD (4 * t + j) 0 := fun j => by rw [hd, Sha.getD_drop]
        have hdb : ∀ j, d.getD j 0 < 256 := fun j => by rw [hdl]; exact Sha.getD_lt HB.out _
        have h4 : Sha.part d 4 = S.getD t 0 := by rw [hd]; exact (HS.out.lo t h16).symm
        have HD := Lib.hid hdl; have HE := Lib.hid hdb; have H4 := Lib.hid h4
        clear hd hdl hdb h4
        go_wp2_with fail
        obtain ⟨wo, rfl⟩ : ∃ wo : World, wo = wr := ⟨_, rfl⟩
        go_loopw [24] (fun i wi => ∃ j : Nat, j ≤ 4 ∧ i = .int .i64 j ∧ Hid (Row32 wi (w.heap.size + 1) 144 ((pre S t).set t (Sha.part d j))) ∧ Hid (Row32 wi w.heap.size 144 (pre S 0)) ∧ Below w.heap.size w wi) (fun i _ => 4 - (intOf i).toNat)
        case atStart =>
          refine ⟨0, by omega, rfl, Lib.hid ?_, HZ, hbw⟩
          show Row32 _ _ _ ((pre S t).set t 0)
          rw [pre_none HS.out.len h64]; exact HW.out
        case round =>
          obtain ⟨j, hj, rfl, HW2, HZ2, hb2⟩ := hrel
          have hsz2 : w.heap.size + 1 < wr.heap.size := HW2.out.lt
          by_cases hj4 : j < 4
          · have hx : wr.cell? ⟨bb, bo + 4 * t + j, none⟩ = some (.int .u8 (d.getD j 0 : Nat)) := by rw [HD.out j, Nat.add_assoc]; exact cell_keep hb2 (HC.out (4 * t + j) (by have := HL.out; omega))
            have hy := HE.out j
            have hp := Sha.part_lt d HE.out j
            have hp2 : Sha.part d j < 16777216 := by
              have : 256 ^ j ≤ 256 ^ 3 := Nat.pow_le_pow_right (by decide) (by omega)
              omega
            have hcw := HW2.out.cell (k := t) (by rw [List.length_set, pre_len HS.out.len (by omega)]; exact h64)
            rw [set_at (by rw [pre_len HS.out.len (by omega)]; exact h64)] at hcw
            have hfw := HW2.out.free t
            have ho := or8 (Sha.part d j) (d.getD j 0) hp2 hy
            have hs : Sha.part d (j + 1) = Sha.part d j * 256 + d.getD j 0 := rfl
            rw [← hs] at ho
            have HW3 : Hid (∀ W, Row32 W (w.heap.size + 1) 144 ((pre S t).set t (Sha.part d j)) → Row32 (W.setCell ⟨w.heap.size + 1, t, none⟩ (.int .u32 (Sha.part d (j + 1) : Nat))) (w.heap.size + 1) 144 ((pre S t).set t (Sha.part d (j + 1)))) := Lib.hid fun W h => by
              have := h.set_ t (Sha.part d (j + 1))
              rw [set_set] at this; exact this
            clear hs hp
            generalize d.getD j 0 = x at *
            generalize Sha.part d j = y at *
            go_wp2_with fail
            exact ⟨⟨j + 1, by omega, by go_num, Lib.hid (HW3.out _ HW2.out), Lib.hid (HZ2.out.far _ _ (by simp)), belB⟩, by simp [intOf]; omega⟩
          · have hj' : j = 4 := by omega
            have HW3 : Hid (Row32 wr (w.heap.size + 1) 144 (pre S (t + 1))) := Lib.hid (by
              have := HW2.out
              rw [hj', H4.out, pre_succ HS.out.len h64] at this; exact this)
            clear hj'
            go_wp2_with fail
            exact ⟨⟨t + 1, by omega, by go_num, HW3, HZ2, hb2⟩, by simp [intOf]; omega⟩
      · have e1 := pre_lt HS.out.len (k := t - 15) (t := t) (by omega) ht
        have e2 := pre_lt HS.out.len (k := t - 2) (t := t) (by omega) ht
        have e3 := pre_lt HS.out.len (k := t - 16) (t := t) (by omega) ht
        have e4 := pre_lt HS.out.len (k := t - 7) (t := t) (by omega) ht
        have c1 := HW.out.cell (k := t - 15) (by rw [pre_len HS.out.len (by omega)]; omega)
        have c2 := HW.out.cell (k := t - 2) (by rw [pre_len HS.out.len (by omega)]; omega)
        have c3 := HW.out.cell (k := t - 16) (by rw [pre_len HS.out.len (by omega)]; omega)
        have c4 := HW.out.cell (k := t - 7) (by rw [pre_len HS.out.len (by omega)]; omega)
        have c5 := HW.out.cell (k := t) (by rw [pre_len HS.out.len (by omega)]; omega)
        have f5 := HW.out.free t
        rw [e1] at c1; rw [e2] at c2; rw [e3] at c3; rw [e4] at c4
        clear e1 e2 e3 e4
        have hi := HS.out.hi t (by omega) h64
        have l1 := HS.out.lt (t - 15)
        have l2 := HS.out.lt (t - 2)
        have l3 := HS.out.lt (t - 16)
        have l4 := HS.out.lt (t - 7)
        have HN : Hid (∀ W, Row32 W (w.heap.size + 1) 144 (pre S t) → Row32 (W.setCell ⟨w.heap.size + 1, t, none⟩ (.int .u32 (S.getD t 0 : Nat))) (w.heap.size + 1) 144 (pre S (t + 1))) := Lib.hid fun W h => by
          have := h.set_ t (S.getD t 0)
          rw [pre_succ HS.out.len h64] at this; exact this
        generalize S.getD t 0 = x0 at *
        generalize S.getD (t - 15) 0 = p at *
        generalize S.getD (t - 2) 0 = q at *
        generalize S.getD (t - 16) 0 = x3 at *
        generalize S.getD (t - 7) 0 = x4 at *
        have i1 : (0 : Int) ≤ (t : Int) - 15 := by omega
        have i2 : (0 : Int) ≤ (t : Int) - 2 := by omega
        have i3 : (0 : Int) ≤ (t : Int) - 16 := by omega
        have i4 : (0 : Int) ≤ (t : Int) - 7 := by omega
        have n1 : ((t : Int) - 15).toNat = t - 15 := by omega
        have n2 : ((t : Int) - 2).toNat = t - 2 := by omega
        have n3 : ((t : Int) - 16).toNat = t - 16 := by omega
        have n4 : ((t : Int) - 7).toNat = t - 7 := by omega
        have HI := Lib.hid hi
        clear hi
        have r1 := Lib.hid fun W => rotl_same p 7 W l1 (by omega) (by omega)
        have r2 := Lib.hid fun W => rotl_same p 18 W l1 (by omega) (by omega)
        have r3 := Lib.hid fun W => rotl_same q 17 W l2 (by omega) (by omega)
        have r4 := Lib.hid fun W => rotl_same q 19 W l2 (by omega) (by omega)
        have x1 := xor_words (Sha.rot p 7) (Sha.rot p 18) (Sha.rot_lt p 7 l1) (Sha.rot_lt p 18 l1)
        have x2 : bits .xor .u32 ((Sha.rot p 7 ^^^ Sha.rot p 18 : Nat) : Int) ((p : Int) / 8) = ((Sha.s0 p : Nat) : Int) := xor_words (Sha.rot p 7 ^^^ Sha.rot p 18) (p / 8) (Sha.xor_lt (Sha.rot_lt p 7 l1) (Sha.rot_lt p 18 l1)) (by omega)
        have x3' := xor_words (Sha.rot q 17) (Sha.rot q 19) (Sha.rot_lt q 17 l2) (Sha.rot_lt q 19 l2)
        have x4' : bits .xor .u32 ((Sha.rot q 17 ^^^ Sha.rot q 19 : Nat) : Int) ((q : Int) / 1024) = ((Sha.s1 q : Nat) : Int) := xor_words (Sha.rot q 17 ^^^ Sha.rot q 19) (q / 1024) (Sha.xor_lt (Sha.rot_lt q 17 l2) (Sha.rot_lt q 19 l2)) (by omega)
        have l5 := Sha.s0_lt p l1
        have l6 := Sha.s1_lt q l2
        go_wp2_with fail
        go_quiet (fail)
        go_wp2_with fail
        refine (r1.out _).mono ?_
        rintro e w1 ⟨rfl, rfl⟩
        go_wp2_with fail
        refine (r2.out _).mono ?_
        rintro e w1 ⟨rfl, rfl⟩
        go_wp2_with fail
        refine (r3.out _).mono ?_
        rintro e w1 ⟨rfl, rfl⟩
        go_wp2_with fail
        refine (r4.out _).mono ?_
        rintro e w1 ⟨rfl, rfl⟩
        go_wp2_with fail
        generalize Sha.s0 p = s0 at *
        generalize Sha.s1 q = s1 at *
        have v3 : IntKind.i64.wrap ((t : Int) - 16) = (t : Int) - 16 := IntWalk.i64_in _ (by omega)
        have v4 : IntKind.i64.wrap ((t : Int) - 7) = (t : Int) - 7 := IntWalk.i64_in _ (by omega)
        have j3 : (t : Int) - 16 < 64 := by omega
        have j4 : (t : Int) - 7 < 64 := by omega
        have j5 : (7 : Int) ≤ t := by omega
        obtain ⟨wd, hwd⟩ : ∃ wd, wd = (wr.drewN nq).drew := ⟨_, rfl⟩
        have d3 : wd.cell? ⟨w.heap.size + 1, t - 16, none⟩ = some (.int .u32 x3) := by rw [hwd]; exact c3
        have d4 : wd.cell? ⟨w.heap.size + 1, t - 7, none⟩ = some (.int .u32 x4) := by rw [hwd]; exact c4
        have d5 : wd.cell? ⟨w.heap.size + 1, t, none⟩ = some (.int .u32 ((pre S t).getD t 0 : Nat)) := by rw [hwd]; exact c5
        have df : wd.frozen? ⟨w.heap.size + 1, t, none⟩ = false := by rw [hwd]; exact f5
        have HW' : Hid (Row32 wd (w.heap.size + 1) 144 (pre S t)) := Lib.hid (by rw [hwd]; exact HW.out)
        have HZ' : Hid (Row32 wd w.heap.size 144 (pre S 0)) := Lib.hid (by rw [hwd]; exact HZ.out)
        have hbd : Below w.heap.size w wd := by rw [hwd]; exact (bdrewN hbw _).drew
        have hszd : w.heap.size + 1 < wd.heap.size := HW'.out.lt
        refine wp_region_still_tail 14 (by kernel_rfl) (by kernel_rfl) ?_
        simp only [List.take_succ_cons, List.take_zero, List.drop_succ_cons, List.drop_zero]
        change wpStill _ _ (wr.drewN nq).drew _ _ _
        rw [← hwd]
        clear c1 c2 c3 c4 c5 f5 HW HZ hbw hsz
        have HWD := Lib.hid hwd
        clear hwd
        repeat still_step
        refine wpStill_nil ?_
        change wpList _ _ _ _ _ (wr.drewN nq).drew
        rw [← HWD.out]
        clear v3 v4 j3 j4 j5 HWD
        go_wp2_with fail
        refine ⟨⟨t + 1, by omega, by go_num, Lib.hid ?_, Lib.hid (HZ'.out.far _ _ (by simp)), belB⟩, by simp [intOf]; omega⟩
        have := HN.out _ HW'.out
        rw [show ((x0 : Nat) : Int) = ((x3 : Int) + s0 + x4 + s1) % 4294967296 by rw [HI.out]; unfold Sha.add32; omega] at this
        exact this
    · have he : t = 64 := by omega
      have HW2 : Hid (Row32 wr (w.heap.size + 1) 144 S) := Lib.hid (by
        have := HW.out
        rw [he, pre_all HS.out.len] at this; exact this)
      have hl : (w32 S).length = 64 := by rw [w32_len, HS.out.len]
      have hi : (Tryz.prog.info? 144).map (·.size) = some (w32 S).toArray.size := by rw [List.size_toArray, hl]; kernel_rfl
      have hpl : (w32 (pre S 0)).toArray.size = (w32 S).toArray.size := by rw [List.size_toArray, List.size_toArray, hl, w32_len, pre_len HS.out.len (by omega)]
      have h1 : (w32 S).toArray.all (·.oneCell') = true := by rw [List.all_toArray, List.all_eq_true]; exact w32_one S
      clear he HW
      go_wp2_with (first | (refine wpList_load_row rfl _ _ rfl (w.heap.size + 1) rfl _ (w32 S).toArray (0, 0) _ HW2.out Tryz.underlying144 rfl hi ?_) | (refine wpList_store_row rfl _ _ _ rfl w.heap.size (w32 S).toArray rfl rfl _ _ HZ.out hi hpl h1 ?_))
      refine bodyPost_ret (v := .agg (w32 S).toArray) ?_ rfl ⟨rfl, ?_⟩
      · exact results_cell_row rfl _ _ w.heap.size _ _ (0, 0) _ rfl (setRow_heap _ _ _ _ _ _ HZ.out) Tryz.underlying144 rfl hi
      · exact below_setRow hbw (Nat.le_refl _) _
end Go.Proofs.YtcjeddichookmaaGreatDoor
