/- What 'Split', 'HasTag' and 'Under' return. -/
import Derived.Test.YtjhlpkhfdghngaaGreatDoorXZ2
import Derived.Test.YtjhlpkhfdghngaaGreatDoorXZ3
import Derived.Lib.Split
import Derived.Lib.CountLaws
import Derived.Test.YtjhlpkhfdghngaaGreatDoorProg
import Derived.WalkKit
import Derived.WalkSpells
import Derived.WalkLawsBesides
import Derived.Below
import Derived.Deep.QuietTactic
import Derived.BigQuiet
import Derived.Lib.QuietBelow
import Derived.Lib.Strings
import Derived.Lib.Hide
import Derived.Deep.RegionWith
import Derived.Deep.RegionHeld3
import Derived.Lib.IndexBytes
import Derived.Test.YtjhlpkhfdghngaaGreatDoorXZ0
import Derived.Deep.DeepCutAuto
import Derived.Deep.RegionHeldLaw
import Derived.Deep.RegionLaw
import Derived.OwnWalk
namespace Go.Proofs.YtjhlpkhfdghngaaGreatDoor
open Go.RowKit Go.Sort
set_option linter.unusedVariables false
set_option linter.unusedSimpArgs false
set_option maxRecDepth 100000
theorem split_eq (c : UInt8) : ∀ (k : Nat) (s : ByteArray), Lib.countB s ⟨#[c]⟩ = k → Lib.splitB ⟨#[c]⟩ 0 k s = splitB c s
  | k, s, h => by
    have hidx : Lib.indexB s ⟨#[c]⟩ = Lib.indexByte s.data.toList c := Lib.index_one s.data.toList c
    by_cases hm : Lib.indexB s ⟨#[c]⟩ = -1
    · rw [Lib.splitB_miss _ _ _ _ hm, splitB_miss c s (by omega)]
    · have hge := Lib.index_ge s.data.toList [c]
      obtain ⟨i, hi⟩ : ∃ i : Nat, Lib.indexB s ⟨#[c]⟩ = i := by
        have : Lib.indexB s ⟨#[c]⟩ = Lib.index s.data.toList [c] := rfl
        exact ⟨(Lib.indexB s ⟨#[c]⟩).toNat, by omega⟩
      have hcount := Lib.countB_hit s ⟨#[c]⟩ i (Nat.le_refl _) hi
      cases k with
      | zero => omega
      | succ k =>
        rw [Lib.splitB_hit _ _ _ _ i hi, (splitB_hit c s i (by rw [← hidx]; exact hi)).1]
        rw [show i + 0 = i from rfl]
        congr 1
        exact split_eq c k _ (by omega)
theorem count_split (c : UInt8) (s : ByteArray) : Lib.countB s ⟨#[c]⟩ + 1 = (splitB c s).length := by
  rw [← split_eq c _ s rfl]
  exact (Lib.splitB_all ⟨#[c]⟩ (Nat.le_refl _) 0 _ s rfl).symm
theorem reads_new (w : World) (t : TypeId) (vs : List Value) (n : Nat) (hn : vs.length = n) : Reads (w.alloc (.cells vs.toArray t)) 1 (some ⟨w.heap.size, 0, none⟩) n vs :=
  ⟨by omega, fun _ => ⟨_, _, rfl, fun j u hu => by
    have := World.news_of_block (w := w.alloc (.cells vs.toArray t)) (World.alloc_heap_new w (.cells vs.toArray t)) j u (by simpa using hu)
    have hadd : (⟨w.heap.size, 0, none⟩ : Addr).add j = ⟨w.heap.size, 0 + j, none⟩ := by unfold Addr.add; split <;> simp_all
    rw [hadd] at this; exact this⟩⟩
def ListPost (ps : List ByteArray) (w : World) (e : Ending) (w' : World) : Prop := Below w.heap.size w w' ∧ ∃ A c, e = .returned (.slice A ps.length c) ∧ Reads w' 1 A ps.length (ps.map .string) ∧ (∀ a, A = some a → w.heap.size ≤ a.block) ∧ ps.length ≤ c
theorem split_any (s : ByteArray) (c : UInt8) (w : World) (hs : s.size ≤ 4294967200) (hE : Env w) : Calls Tryz.prog 138 #[.string s, .string ⟨#[c]⟩] w (ListPost (splitB c s) w) := by
  obtain ⟨m, hm⟩ := hE
  refine (Tryz.strings_Split s ⟨#[c]⟩ m w (by omega) hm (Nat.le_refl _)).mono ?_
  rintro e w' ⟨rfl, rfl⟩
  rw [count_split, split_eq c _ s rfl]
  exact ⟨balloc (Below.refl _ _) _, _, _, rfl, reads_new _ _ _ _ (by simp), fun a ha => by injection ha with ha; subst ha; exact Nat.le_refl _, Nat.le_refl _⟩
def splitR (s : ByteArray) : List ByteArray × Int :=
  if s.toList.isEmpty then ([], 0) else if (tagsR (splitB 44 s)).2 = 0 ∧ ((tagsR (splitB 44 s)).1.toList == s.toList) = true then (splitB 44 s, 0) else ([], 3)
def SplitPost (r : List ByteArray × Int) (w : World) (e : Ending) (w' : World) : Prop := Below w.heap.size w w' ∧ ∃ A c, e = .returned (.tuple #[.slice A r.1.length c, .int .i64 r.2]) ∧ Reads w' 1 A r.1.length (r.1.map .string)
theorem SplitPost.none_ {w w' : World} {er : Int} (hb : Below w.heap.size w w') : SplitPost ([], er) w (.returned (.tuple #[.slice none 0 0, .int .i64 er])) w' := ⟨hb, none, 0, rfl, Reads.nil_ _ _ _⟩
theorem tagsR_err (ps : List ByteArray) : (tagsR ps).2 = 0 ∨ (tagsR ps).2 = 1 ∨ (tagsR ps).2 = 2 := by
  unfold tagsR; split <;> (try split) <;> simp
set_option maxHeartbeats 2000000 in
theorem addrSplit_any (s : ByteArray) (w : World) (hs : s.size ≤ 100000) (hE : Env w) : Calls Tryz.prog 225 #[.string s] w (SplitPost (splitR s) w) := by
  cases hem : s.toList.isEmpty
  · have hr : splitR s = if (tagsR (splitB 44 s)).2 = 0 ∧ ((tagsR (splitB 44 s)).1.toList == s.toList) = true then (splitB 44 s, 0) else ([], 3) := by
      unfold splitR; rw [if_neg (by simp [hem])]
    rw [hr]
    have cS := split_any s 44 w (by omega) hE
    have hnum := splitB_num 44 s
    have hsz := splitB_size 44 s
    have herr := tagsR_err (splitB 44 s)
    have cT := fun A c W h => tags_any A (splitB 44 s).length c (splitB 44 s) W h (by omega) (fun p hp => by have := hsz p hp; omega)
    unfold tagsV at cT
    generalize splitB 44 s = ps at *
    generalize tagsR ps = r at *
    obtain ⟨T, er⟩ := r
    dsimp only at *
    have HT := Lib.hid cT
    have HS := Lib.hid cS
    clear cT cS hr
    have walkbad : ∀ V, V = SplitPost ([], 3) w → (er = 0 → (T.toList == s.toList) = false) → Calls Tryz.prog 225 #[.string s] w V := by
      intro V hV h
      have HV := Lib.hid hV
      rcases herr with rfl | rfl | rfl
      · have h := h rfl
        go_enter Tryz.func225, Tryz.ntmps225
        go_wp2_with (first | (go_at_call 138; refine HS.out.mono ?_; rintro e w1 ⟨hb1, A, c, rfl, hR, hA⟩) | (go_at_call 23; refine (HT.out _ _ _ hR).mono ?_; rintro e w2 ⟨rfl, hb2⟩))
        rw [HV.out]; exact SplitPost.none_ belB
      all_goals
        go_enter Tryz.func225, Tryz.ntmps225
        go_wp2_with (first | (go_at_call 138; refine HS.out.mono ?_; rintro e w1 ⟨hb1, A, c, rfl, hR, hA⟩) | (go_at_call 23; refine (HT.out _ _ _ hR).mono ?_; rintro e w2 ⟨rfl, hb2⟩))
        rw [HV.out]; exact SplitPost.none_ belB
    by_cases hok : er = 0 ∧ (T.toList == s.toList) = true
    · rw [if_pos hok]
      obtain ⟨rfl, he⟩ := hok
      generalize hV : SplitPost (ps, 0) w = V
      have HV := Lib.hid hV
      clear hV
      go_enter Tryz.func225, Tryz.ntmps225
      go_wp2_with (first | (go_at_call 138; refine HS.out.mono ?_; rintro e w1 ⟨hb1, A, c, rfl, hR, hA⟩) | (go_at_call 23; refine (HT.out _ _ _ hR).mono ?_; rintro e w2 ⟨rfl, hb2⟩))
      rw [← HV.out]; exact ⟨belB, A, c, rfl, hR.keep hb2⟩
    · rw [if_neg hok]
      exact walkbad _ rfl (fun h0 => by simpa [h0] using hok)
  · have hr : splitR s = ([], 0) := by unfold splitR; rw [if_pos hem]
    rw [hr]
    go_enter Tryz.func225, Tryz.ntmps225
    go_wp2
    go_ret2
    exact SplitPost.none_ belB
def hasTagB (s tag : ByteArray) : Bool := Lib.containsS (splitR s).1 tag
theorem hasTag_any (s tag : ByteArray) (w : World) (hs : s.size ≤ 100000) (hE : Env w) : Calls Tryz.prog 161 #[.string s, .string tag] w (Ret w (.bool (hasTagB s tag))) := by
  have cS := addrSplit_any s w hs hE
  unfold hasTagB
  have hlen : (splitR s).1.length ≤ 200000 := by
    unfold splitR
    have := splitB_num 44 s
    split
    · simp
    · split
      · simp; omega
      · simp
  generalize splitR s = r at *
  obtain ⟨ps, er⟩ := r
  dsimp only at *
  have HS := Lib.hid cS
  clear cS
  have cK : ∀ (A : Option Addr) (c : Nat) (W : World), Reads W 1 A ps.length (ps.map .string) → Calls Tryz.prog 148 #[.slice A ps.length c, .string tag] W (Ret W (.bool (Lib.containsS ps tag))) := by
    intro A c W hR
    by_cases h0 : ps = []
    · subst h0
      refine (Tryz.slices_Contains_string_empty A c tag W).mono ?_
      rintro e w' ⟨rfl, rfl⟩
      exact ⟨rfl, Below.refl _ _⟩
    · obtain ⟨b, o, rfl, hc⟩ := hR.2 (List.length_pos_iff.2 h0)
      have := Tryz.slices_Contains_string b o ps.length c ps tag W (Nat.le_refl _) (by omega) (fun j hj => by
        refine hc j _ ?_
        rw [List.getElem?_map, List.getElem?_eq_getElem hj]
        simp [List.getD_eq_getElem?_getD, List.getElem?_eq_getElem hj])
      refine this.mono ?_
      rintro e w' ⟨rfl, rfl⟩
      rw [List.take_length]
      exact ⟨rfl, Below.refl _ _⟩
  have HK := Lib.hid cK
  clear cK
  generalize Lib.containsS ps tag = res at *
  go_enter Tryz.func161, Tryz.ntmps161
  go_wp2_with (first | (go_at_call 225; refine HS.out.mono ?_; rintro e w1 ⟨hb1, A, c, rfl, hR⟩) | (go_at_call 148; refine (HK.out _ _ _ hR).mono ?_; rintro e w2 ⟨rfl, hb2⟩))
  go_ret
  exact ⟨rfl, belB⟩
end Go.Proofs.YtjhlpkhfdghngaaGreatDoor
namespace Go.Proofs.YtjhlpkhfdghngaaGreatDoor
open Go.RowKit Go.Sort
set_option linter.unusedVariables false
set_option linter.unusedSimpArgs false
set_option maxRecDepth 100000
theorem index_hit (a b : List UInt8) (c : UInt8) (h : c ∉ a) : Lib.index (a ++ c :: b) [c] = a.length := by
  rw [Lib.index_one]
  induction a with
  | nil => simp [indexByte_cons]
  | cons x a ih =>
    simp only [List.mem_cons, not_or] at h
    rw [List.cons_append, indexByte_cons, if_neg (fun e => h.1 e.symm), ih h.2, if_neg (by omega)]
    simp
theorem indexByte_miss (a : List UInt8) (c : UInt8) (h : c ∉ a) : Lib.indexByte a c = -1 := by
  induction a with
  | nil => rfl
  | cons x a ih =>
    simp only [List.mem_cons, not_or] at h
    rw [indexByte_cons, if_neg (fun e => h.1 e.symm), ih h.2, if_pos rfl]
theorem index_miss (a : List UInt8) (c : UInt8) (h : c ∉ a) : Lib.index a [c] = -1 := by
  rw [Lib.index_one]; exact indexByte_miss a c h
theorem indexByte_mem (a : List UInt8) (c : UInt8) (h : Lib.indexByte a c < 0) : c ∉ a := by
  induction a with
  | nil => simp
  | cons x a ih =>
    have := indexByte_ge c a
    rw [indexByte_cons] at h
    split at h
    · omega
    · rename_i hne
      split at h
      · rename_i he
        simp only [List.mem_cons, not_or]
        exact ⟨fun e => hne e.symm, ih (by omega)⟩
      · omega
theorem cut_hit (a b : List UInt8) (c : UInt8) (h : c ∉ a) : Lib.cut (a ++ c :: b) [c] = (a, b, true) := by
  unfold Lib.cut
  rw [index_hit a b c h, if_pos (by omega)]
  simp
theorem cut_none (a : List UInt8) (c : UInt8) (h : c ∉ a) : Lib.cut a [c] = (a, [], false) := by
  unfold Lib.cut
  rw [index_miss a c h, if_neg (by omega)]
theorem split_hit (a b : List UInt8) (c : UInt8) (h : c ∉ a) : splitL c (a ++ c :: b) = a :: splitL c b := by
  induction a with
  | nil => simp [splitL]
  | cons x a ih =>
    simp only [List.mem_cons, not_or] at h
    rw [List.cons_append, splitL, if_neg (fun e => h.1 e.symm), ih h.2]
theorem split_none (a : List UInt8) (c : UInt8) (h : c ∉ a) : splitL c a = [a] := splitL_miss c a (by rw [indexByte_miss a c h]; omega)
theorem letter_no (b : UInt8) (h : letterB b = true) : b ≠ 47 ∧ b ≠ 63 ∧ b ≠ 38 ∧ b ≠ 61 ∧ b ≠ 42 ∧ b ≠ 44 ∧ ¬ (65 ≤ b.toNat ∧ b.toNat ≤ 90) := by
  unfold letterB isLetN at h
  simp only [decide_eq_true_eq] at h
  have k : ∀ c : Nat, c < 256 → b.toNat ≠ c → b ≠ UInt8.ofNat c := fun c hc h e => h (by rw [e, UInt8.toNat_ofNat']; omega)
  exact ⟨k 47 (by omega) (by omega), k 63 (by omega) (by omega), k 38 (by omega) (by omega), k 61 (by omega) (by omega), k 42 (by omega) (by omega), k 44 (by omega) (by omega), by omega⟩
theorem word_letters {s : ByteArray} (h : isWordB s = true) : ∀ b ∈ s.data.toList, letterB b = true := by
  unfold isWordB at h
  simp only [Bool.and_eq_true, List.all_eq_true] at h
  exact h.2
theorem name_word {s : ByteArray} (h : isNameB s = true) : isWordB s = true := by
  unfold isNameB at h
  simp only [Bool.and_eq_true] at h
  exact h.1
theorem word_no {s : ByteArray} (h : isWordB s = true) : 47 ∉ s.data.toList ∧ 63 ∉ s.data.toList ∧ 38 ∉ s.data.toList ∧ 61 ∉ s.data.toList ∧ 42 ∉ s.data.toList ∧ 44 ∉ s.data.toList :=
  ⟨fun hm => (letter_no _ (word_letters h _ hm)).1 rfl, fun hm => (letter_no _ (word_letters h _ hm)).2.1 rfl, fun hm => (letter_no _ (word_letters h _ hm)).2.2.1 rfl, fun hm => (letter_no _ (word_letters h _ hm)).2.2.2.1 rfl, fun hm => (letter_no _ (word_letters h _ hm)).2.2.2.2.1 rfl, fun hm => (letter_no _ (word_letters h _ hm)).2.2.2.2.2.1 rfl⟩
theorem word_ne {s : ByteArray} (h : isWordB s = true) : s.data.toList ≠ [] ∧ s.data.toList ≠ [46] ∧ s.data.toList ≠ [46, 46] ∧ s.size ≤ 64 := by
  unfold isWordB at h
  simp only [Bool.and_eq_true, Bool.not_eq_true', decide_eq_true_eq, Lib.toList_data] at h
  obtain ⟨⟨⟨⟨h1, h2⟩, h3⟩, h4⟩, _⟩ := h
  exact ⟨by intro e; simp [e] at h1, by intro e; simp [e] at h3, by intro e; simp [e] at h4, h2⟩
end Go.Proofs.YtjhlpkhfdghngaaGreatDoor
namespace Go.Proofs.YtjhlpkhfdghngaaGreatDoor
open Go.RowKit Go.Sort
set_option linter.unusedVariables false
set_option linter.unusedSimpArgs false
set_option maxRecDepth 100000
structure CondMem where
  A : Option Addr
  ca : Nat
  B : Option Addr
  cb : Nat
  S : Option Addr
  cs : Nat
structure CondReads (w : World) (c : CondV) (m : CondMem) : Prop where
  cl : Reads w 1 m.A c.cl.length (c.cl.map .string)
  co : Reads w 1 m.B c.co.length (c.co.map .string)
  si : Reads w 1 m.S c.si.length (c.si.map (.int .i64))
theorem CondReads.keep {w w' : World} {c : CondV} {m : CondMem} (h : CondReads w c m) (hb : Below w.heap.size w w') : CondReads w' c m := ⟨h.cl.keep hb, h.co.keep hb, h.si.keep hb⟩
def CondMem.val (c : CondV) (m : CondMem) : Value := .agg #[.int .i64 c.fr, .int .i64 c.till, .string c.pat, .slice m.A c.cl.length m.ca, .slice m.B c.co.length m.cb, .slice m.S c.si.length m.cs, .int .i64 c.us]
def CBox (w : World) (g : Nat) (fr till : Int) (pat : ByteArray) (A : Option Addr) (na ca : Nat) (B : Option Addr) (nb cb : Nat) (S : Option Addr) (ns cs : Nat) (us : Int) : Prop := Blk w g 31 #[.int .i64 fr, .int .i64 till, .string pat, .slice A na ca, .slice B nb cb, .slice S ns cs, .int .i64 us] (0, 0)
section
variable {w : World} {g : Nat} {fr till us : Int} {pat : ByteArray} {A B S : Option Addr} {na ca nb cb ns cs : Nat}
theorem CBox.facts (h : CBox w g fr till pat A na ca B nb cb S ns cs us) :
    w.cell? ⟨g, 0, none⟩ = some (.int .i64 fr) ∧ w.cell? ⟨g, 1, none⟩ = some (.int .i64 till) ∧ w.cell? ⟨g, 2, none⟩ = some (.string pat) ∧ w.cell? ⟨g, 3, none⟩ = some (.slice A na ca) ∧ w.cell? ⟨g, 4, none⟩ = some (.slice B nb cb) ∧ w.cell? ⟨g, 5, none⟩ = some (.slice S ns cs) ∧ w.cell? ⟨g, 6, none⟩ = some (.int .i64 us) :=
  ⟨Blk.cell h 0, Blk.cell h 1, Blk.cell h 2, Blk.cell h 3, Blk.cell h 4, Blk.cell h 5, Blk.cell h 6⟩
end
def fewC (na nb ns : Nat) (pat : ByteArray) (cl co : List ByteArray) : Bool := decide (na ≤ 40) && decide (nb ≤ 40) && decide (ns ≤ 70) && decide (pat.size ≤ 1000) && cl.all (fun x => decide (x.size ≤ 100)) && co.all (fun x => decide (x.size ≤ 100))
theorem all_take2 {α : Type} {p : α → Bool} {l : List α} {k : Nat} {x : α} (h : (l.take k).all p = true) (hx : l[k]? = some x) (hp : p x = true) : (l.take (k + 1)).all p = true := by
  rw [List.take_add_one, hx]
  simp [h, hp]
theorem all_false2 {α : Type} {p : α → Bool} {l : List α} {k : Nat} {x : α} (hx : l[k]? = some x) (hp : p x = false) : l.all p = false := by
  rw [List.all_eq_false]
  exact ⟨x, List.mem_of_getElem? hx, by rw [hp]; decide⟩
set_option maxHeartbeats 4000000 in
theorem rFew_any (fr till us : Int) (pat : ByteArray) (A B S : Option Addr) (na ca nb cb ns cs : Nat) (cl co : List ByteArray) (w : World) (hA : Reads w 1 A na (cl.map .string)) (hB : Reads w 1 B nb (co.map .string)) :
    Calls Tryz.prog 105 #[.agg #[.int .i64 fr, .int .i64 till, .string pat, .slice A na ca, .slice B nb cb, .slice S ns cs, .int .i64 us]] w (Ret w (.bool (fewC na nb ns pat cl co))) := by
  have hna : cl.length = na := by have := hA.1; simp at this; omega
  have hnb : co.length = nb := by have := hB.1; simp at this; omega
  obtain ⟨V, hV⟩ : ∃ V, V = fewC na nb ns pat cl co := ⟨_, rfl⟩
  rw [← hV]
  unfold fewC at hV
  have HA := Lib.hid hA; have HB := Lib.hid hB; have HNA := Lib.hid hna; have HNB := Lib.hid hnb
  clear hA hB hna hnb
  by_cases h1 : na ≤ 40
  rotate_left
  · obtain rfl : V = false := by rw [hV]; simp [h1]
    have d1 : decide ((40 : Int) < (na : Int)) = true := decide_eq_true (by omega)
    clear hV
    go_enter Tryz.func105, Tryz.ntmps105
    go_wp2
    go_ret
    exact ⟨rfl, belB⟩
  have d1 : decide ((40 : Int) < (na : Int)) = false := decide_eq_false (by omega)
  by_cases h2 : nb ≤ 40
  rotate_left
  · obtain rfl : V = false := by rw [hV]; simp [h2]
    have d2 : decide ((40 : Int) < (nb : Int)) = true := decide_eq_true (by omega)
    clear hV
    go_enter Tryz.func105, Tryz.ntmps105
    go_wp2
    go_ret
    exact ⟨rfl, belB⟩
  have d2 : decide ((40 : Int) < (nb : Int)) = false := decide_eq_false (by omega)
  by_cases h3 : ns ≤ 70
  rotate_left
  · obtain rfl : V = false := by rw [hV]; simp [h3]
    have d3 : decide ((70 : Int) < (ns : Int)) = true := decide_eq_true (by omega)
    clear hV
    go_enter Tryz.func105, Tryz.ntmps105
    go_wp2
    go_ret
    exact ⟨rfl, belB⟩
  have d3 : decide ((70 : Int) < (ns : Int)) = false := decide_eq_false (by omega)
  by_cases h4 : pat.size ≤ 1000
  rotate_left
  · obtain rfl : V = false := by rw [hV]; simp [h4]
    have d4 : decide ((1000 : Int) < (pat.size : Int)) = true := decide_eq_true (by omega)
    clear hV
    go_enter Tryz.func105, Tryz.ntmps105
    go_wp2
    go_ret
    exact ⟨rfl, belB⟩
  have d4 : decide ((1000 : Int) < (pat.size : Int)) = false := decide_eq_false (by omega)
  have hv2 : V = (cl.all (fun x => decide (x.size ≤ 100)) && co.all (fun x => decide (x.size ≤ 100))) := by rw [hV]; simp [h1, h2, h3, h4]
  have HV := Lib.hid hv2
  clear hV hv2
  go_enter Tryz.func105, Tryz.ntmps105
  go_wp2
  have hX0 : CBox (w.alloc (.cells #[.int .i64 fr, .int .i64 till, .string pat, .slice A na ca, .slice B nb cb, .slice S ns cs, .int .i64 us] 31)) w.heap.size fr till pat A na ca B nb cb S ns cs us := World.alloc_heap_new _ _
  go_loopw [3] (fun vi wr => ∃ k : Nat, vi = .int .i64 k ∧ k ≤ na ∧ Hid ((cl.take k).all (fun x => decide (x.size ≤ 100)) = true) ∧ CBox wr w.heap.size fr till pat A na ca B nb cb S ns cs us ∧ Below w.heap.size w wr) (fun i _ => na - (intOf i).toNat)
  case atStart => exact ⟨0, rfl, Nat.zero_le _, Lib.hid (by simp), hX0, balloc (Below.refl _ _) _⟩
  case round =>
    clear hX0
    obtain ⟨k, rfl, hk, HK, hX, hbr⟩ := hrel
    obtain ⟨x0, x1, x2, x3, x4, x5, x6⟩ := hX.facts
    by_cases hlt : k < na
    · obtain ⟨x, hx⟩ : ∃ x, cl[k]? = some x := ⟨_, List.getElem?_eq_getElem (by have := HNA.out; omega)⟩
      obtain ⟨b, o, rfl, hcell⟩ := (HA.out.keep hbr).2 (by omega)
      have hc1 : wr.cell? ⟨b, o + k, none⟩ = some (.string x) := hcell k _ (by simp [hx])
      have hk0 : (0 : Int) ≤ (k : Int) := by omega
      have hk1 : (k : Int) < (na : Int) := by omega
      by_cases hs : x.size ≤ 100
      · have HK2 : Hid ((cl.take (k + 1)).all (fun x => decide (x.size ≤ 100)) = true) := Lib.hid (all_take2 HK.out hx (by simpa using hs))
        have d5 : decide ((100 : Int) < (x.size : Int)) = false := decide_eq_false (by omega)
        clear hcell hx HK
        go_wp2
        exact ⟨⟨k + 1, by go_num, by omega, HK2, hX, hbr⟩, by simp [intOf]; omega⟩
      · obtain rfl : V = false := by rw [HV.out, all_false2 hx (by simpa using hs)]; rfl
        have d5 : decide ((100 : Int) < (x.size : Int)) = true := decide_eq_true (by omega)
        clear hcell hx HK
        go_wp2
        go_ret
        exact ⟨rfl, hbr⟩
    · obtain rfl : k = na := by omega
      have hall : cl.all (fun x => decide (x.size ≤ 100)) = true := by
        have := HK.out
        rwa [List.take_of_length_le (by have := HNA.out; omega)] at this
      have hv3 : V = co.all (fun x => decide (x.size ≤ 100)) := by rw [HV.out, hall, Bool.true_and]
      have HV2 := Lib.hid hv3
      clear hall hv3 HK HV
      go_wp2
      clear x0 x1 x2 x3 x4 x5 x6
      obtain ⟨wo, rfl⟩ : ∃ wo : World, wo = wr := ⟨_, rfl⟩
      go_loopw [4] (fun vi wz => ∃ j : Nat, vi = .int .i64 j ∧ j ≤ nb ∧ Hid ((co.take j).all (fun x => decide (x.size ≤ 100)) = true) ∧ CBox wz w.heap.size fr till pat A k ca B nb cb S ns cs us ∧ Below w.heap.size w wz) (fun i _ => nb - (intOf i).toNat)
      case atStart => exact ⟨0, rfl, Nat.zero_le _, Lib.hid (by simp), hX, hbr⟩
      case round =>
        clear hX hbr
        obtain ⟨j, rfl, hj, HJ, hX, hbr⟩ := hrel
        obtain ⟨x0, x1, x2, x3, x4, x5, x6⟩ := hX.facts
        by_cases hlt2 : j < nb
        · obtain ⟨x, hx⟩ : ∃ x, co[j]? = some x := ⟨_, List.getElem?_eq_getElem (by have := HNB.out; omega)⟩
          obtain ⟨b, o, rfl, hcell⟩ := (HB.out.keep hbr).2 (by omega)
          have hc1 : wr.cell? ⟨b, o + j, none⟩ = some (.string x) := hcell j _ (by simp [hx])
          have hj0 : (0 : Int) ≤ (j : Int) := by omega
          have hj1 : (j : Int) < (nb : Int) := by omega
          by_cases hs : x.size ≤ 100
          · have HJ2 : Hid ((co.take (j + 1)).all (fun x => decide (x.size ≤ 100)) = true) := Lib.hid (all_take2 HJ.out hx (by simpa using hs))
            have d5 : decide ((100 : Int) < (x.size : Int)) = false := decide_eq_false (by omega)
            clear hcell hx HJ
            go_wp2
            exact ⟨⟨j + 1, by go_num, by omega, HJ2, hX, hbr⟩, by simp [intOf]; omega⟩
          · obtain rfl : V = false := by rw [HV2.out, all_false2 hx (by simpa using hs)]
            have d5 : decide ((100 : Int) < (x.size : Int)) = true := decide_eq_true (by omega)
            clear hcell hx HJ
            go_wp2
            go_ret
            exact ⟨rfl, hbr⟩
        · obtain rfl : j = nb := by omega
          have hall : co.all (fun x => decide (x.size ≤ 100)) = true := by
            have := HJ.out
            rwa [List.take_of_length_le (by have := HNB.out; omega)] at this
          obtain rfl : V = true := by rw [HV2.out, hall]
          go_wp2
          go_ret
          exact ⟨rfl, hbr⟩
end Go.Proofs.YtjhlpkhfdghngaaGreatDoor
namespace Go.Proofs.YtjhlpkhfdghngaaGreatDoor
open Go.RowKit Go.Sort
set_option linter.unusedVariables false
set_option linter.unusedSimpArgs false
set_option maxRecDepth 100000
structure VaryV where
  header : ByteArray
  values : List ByteArray
  dflt : ByteArray
structure VaryM where
  v : VaryV
  A : Option Addr
  c : Nat
def VaryM.cells (x : VaryM) : List Value := [.string x.v.header, .slice x.A x.v.values.length x.c, .string x.v.dflt]
def VaryReads (w : World) (x : VaryM) : Prop := Reads w 1 x.A x.v.values.length (x.v.values.map .string)
theorem VaryReads.keep {w w' : World} {x : VaryM} (h : VaryReads w x) (hb : Below w.heap.size w w') : VaryReads w' x := Reads.keep h hb
structure RuleV where
  name : ByteArray
  pat : ByteArray
  tags : List ByteArray
  fresh : Int
  stale : Int
  down : Int
  neg : Int
  vary : List VaryV
  allow : CondV
  signed : Bool
  cost : Int
  prog : ByteArray
structure RuleM where
  r : RuleV
  T : Option Addr
  ct : Nat
  V : Option Addr
  cv : Nat
  L : List VaryM
  m : CondMem
def RuleM.cells (x : RuleM) : List Value := [.string x.r.name, .string x.r.pat, .slice x.T x.r.tags.length x.ct, .int .i64 x.r.fresh, .int .i64 x.r.stale, .int .i64 x.r.down, .int .i64 x.r.neg, .slice x.V x.r.vary.length x.cv,
  .int .i64 x.r.allow.fr, .int .i64 x.r.allow.till, .string x.r.allow.pat, .slice x.m.A x.r.allow.cl.length x.m.ca, .slice x.m.B x.r.allow.co.length x.m.cb, .slice x.m.S x.r.allow.si.length x.m.cs, .int .i64 x.r.allow.us, .bool x.r.signed, .int .i64 x.r.cost, .string x.r.prog]
def RuleM.val (x : RuleM) : Value := .agg x.cells.toArray
structure RuleReads (w : World) (x : RuleM) : Prop where
  tags : Reads w 1 x.T x.r.tags.length (x.r.tags.map .string)
  vary : Reads w 3 x.V x.r.vary.length (x.L.flatMap VaryM.cells)
  same : x.L.map (·.v) = x.r.vary
  each : ∀ y ∈ x.L, VaryReads w y
  allow : CondReads w x.r.allow x.m
theorem RuleReads.keep {w w' : World} {x : RuleM} (h : RuleReads w x) (hb : Below w.heap.size w w') : RuleReads w' x :=
  ⟨h.tags.keep hb, h.vary.keep hb, h.same, fun y hy => (h.each y hy).keep hb, h.allow.keep hb⟩
theorem VaryM.cells_len (x : VaryM) : x.cells.length = 3 := rfl
theorem RuleM.cells_len (x : RuleM) : x.cells.length = 18 := rfl
structure RulesRead (w : World) (A : Option Addr) (n : Nat) (L : List RuleM) : Prop where
  len : L.length = n
  rows : Reads w 18 A n (L.flatMap RuleM.cells)
  each : ∀ x ∈ L, RuleReads w x
theorem RulesRead.keep {w w' : World} {A : Option Addr} {n : Nat} {L : List RuleM} (h : RulesRead w A n L) (hb : Below w.heap.size w w') : RulesRead w' A n L := ⟨h.len, h.rows.keep hb, fun x hx => (h.each x hx).keep hb⟩
theorem RulesRead.at_ {w : World} {A : Option Addr} {n k : Nat} {L : List RuleM} {x : RuleM} (h : RulesRead w A n L) (hk : L[k]? = some x) :
    RuleReads w x ∧ ∃ b o, A = some ⟨b, o, none⟩ ∧ ∀ j u, x.cells[j]? = some u → w.cell? ⟨b, o + k * 18 + j, none⟩ = some u :=
  ⟨h.each x (List.mem_of_getElem? hk), Reads.row h.rows (fun a _ => a.cells_len) h.len hk⟩
end Go.Proofs.YtjhlpkhfdghngaaGreatDoor
namespace Go.Proofs.YtjhlpkhfdghngaaGreatDoor
open Go.RowKit Go.Sort
set_option linter.unusedVariables false
set_option linter.unusedSimpArgs false
theorem hasSuffix_if (s t : ByteArray) : Lib.hasSuffix s.data.toList t.data.toList = (decide (t.size ≤ s.size) && ((s.extract (s.size - t.size) s.size).toList == t.toList)) := by
  unfold Lib.hasSuffix
  rw [Lib.toList_data, Lib.toList_data, Lib.extract_data, Lib.size_eq, Lib.size_eq, Bool.eq_iff_iff]
  simp only [List.isSuffixOf_iff_suffix, Bool.and_eq_true, decide_eq_true_eq, beq_iff_eq]
  constructor
  · intro h
    have hl := h.length_le
    refine ⟨hl, ?_⟩
    rw [List.take_of_length_le (by simp)]
    obtain ⟨p, hp⟩ := h
    rw [← hp]; simp
  · rintro ⟨_, h⟩
    rw [← h]
    simp [List.take_of_length_le]
    exact List.drop_suffix _ _
set_option maxHeartbeats 1000000 in
theorem hasSuffix_any (s t : ByteArray) (w : World) (hs : s.size ≤ 4294967281) (ht : t.size ≤ 4294967281) :
    Calls Tryz.prog 143 #[.string s, .string t] w (Ret w (.bool (Lib.hasSuffix s.data.toList t.data.toList))) := by
  by_cases h : (t.size : Int) ≤ s.size
  · go_enter Tryz.func143, Tryz.ntmps143
    go_wp2
    go_ret
    exact ⟨ret_bool (by rw [hasSuffix_if]; simp [show t.size ≤ s.size by omega]), belB⟩
  · go_enter Tryz.func143, Tryz.ntmps143
    go_wp2
    go_ret
    exact ⟨ret_bool (by rw [hasSuffix_if]; simp [show ¬ t.size ≤ s.size by omega]), belB⟩
structure Part where
  kind : Nat
  text : ByteArray
def hasP (k : Nat) (t s : ByteArray) : Bool := if k = 0 then t.toList == s.toList else if k = 1 then decide (t.size < s.size) && Lib.hasSuffix s.data.toList t.data.toList else true
def coversP (k : Nat) (t : ByteArray) (k2 : Nat) (t2 : ByteArray) : Bool :=
  if k2 = 0 then hasP k t t2 else if k2 = 1 then k == 2 || (k == 1 && Lib.hasSuffix t2.data.toList t.data.toList) else k == 2
def withP (k : Nat) (t b : ByteArray) : ByteArray := if k = 0 then t else if k = 1 then b ++ t else b
set_option maxHeartbeats 1000000 in
theorem has_any (k : Nat) (t s : ByteArray) (w : World) (hs : s.size ≤ 4294967281) (ht : t.size ≤ 4294967281) (hk : k ≤ 2) :
    Calls Tryz.prog 74 #[.agg #[.int .i64 k, .string t], .string s] w (Ret w (.bool (hasP k t s))) := by
  have hk' : k = 0 ∨ k = 1 ∨ k = 2 := by omega
  rcases hk' with rfl | rfl | rfl
  · go_enter Tryz.func74, Tryz.ntmps74
    go_wp2
    go_ret
    exact ⟨ret_bool (by simp [hasP]), belB⟩
  · by_cases h : (t.size : Int) < s.size
    · go_enter Tryz.func74, Tryz.ntmps74
      go_wp2_with (go_at_call 143; refine (hasSuffix_any s t _ hs ht).mono ?_; rintro e w1 ⟨rfl, hb1⟩)
      go_ret
      exact ⟨ret_bool (by simp [hasP]; omega), belB⟩
    · go_enter Tryz.func74, Tryz.ntmps74
      go_wp2
      go_ret
      exact ⟨ret_bool (by simp [hasP]; omega), belB⟩
  · go_enter Tryz.func74, Tryz.ntmps74
    go_wp2
    go_ret
    exact ⟨ret_bool (by simp [hasP]), belB⟩
def withoutP (k : Nat) (t : ByteArray) (k2 : Nat) (t2 : ByteArray) : ByteArray := if hasP k2 t2 (withP k t ⟨#[97]⟩) then withP k t ⟨#[98]⟩ else withP k t ⟨#[97]⟩
def stringP (k : Nat) (t : ByteArray) : ByteArray := if k = 0 then t else ⟨#[42]⟩ ++ t
def Part.val (p : Part) : Value := .agg #[.int .i64 p.kind, .string p.text]
def partOfP (s : ByteArray) : Part :=
  if s.size < 1 then ⟨0, s⟩ else if !((s.extract 0 1).toList == [42]) then ⟨0, s⟩ else if !((s.extract 1 s.size).toList.isEmpty) then ⟨1, s.extract 1 s.size⟩ else ⟨2, ⟨#[]⟩⟩
set_option maxHeartbeats 2000000 in
theorem partOf_any (s : ByteArray) (w : World) (hs : s.size ≤ 4294967200) :
    Calls Tryz.prog 139 #[.string s] w (Ret w (partOfP s).val) := by
  by_cases h1 : (1 : Int) ≤ s.size
  · have e0 : ¬ s.size < 1 := by omega
    cases h2 : ((s.extract 0 1).toList == [42])
    · have e1 : (partOfP s).val = .agg #[.int .i64 0, .string s] := by simp [partOfP, Part.val, e0, h2]
      rw [e1]
      clear e1
      go_enter Tryz.func139, Tryz.ntmps139
      go_wp2
      exact bodyPost_ret (v := .agg #[.int .i64 0, .string s]) (by simp [results, Tryz.results139, go_sem]) rfl ⟨rfl, belB⟩
    · cases h3 : (s.extract 1 s.size).toList.isEmpty
      · have e1 : (partOfP s).val = .agg #[.int .i64 1, .string (s.extract 1 s.size)] := by simp [partOfP, Part.val, e0, h2, h3]
        rw [e1]
        clear e1
        go_enter Tryz.func139, Tryz.ntmps139
        go_wp2
        exact bodyPost_ret (v := .agg #[.int .i64 1, .string (s.extract 1 s.size)]) (by simp [results, Tryz.results139, go_sem]) rfl ⟨rfl, belB⟩
      · have e1 : (partOfP s).val = .agg #[.int .i64 2, .string ⟨#[]⟩] := by simp [partOfP, Part.val, e0, h2, h3]
        rw [e1]
        clear e1
        go_enter Tryz.func139, Tryz.ntmps139
        go_wp2
        exact bodyPost_ret (v := .agg #[.int .i64 2, .string ⟨#[]⟩]) (by simp [results, Tryz.results139, go_sem]) rfl ⟨rfl, belB⟩
  · have e1 : (partOfP s).val = .agg #[.int .i64 0, .string s] := by simp [partOfP, Part.val, show s.size < 1 by omega]
    rw [e1]
    clear e1
    go_enter Tryz.func139, Tryz.ntmps139
    go_wp2
    exact bodyPost_ret (v := .agg #[.int .i64 0, .string s]) (by simp [results, Tryz.results139, go_sem]) rfl ⟨rfl, belB⟩
def meetP (p q : Part) : Part := if coversP p.kind p.text q.kind q.text then q else p
def meetsP (p q : Part) : Bool := coversP p.kind p.text q.kind q.text || coversP q.kind q.text p.kind p.text
end Go.Proofs.YtjhlpkhfdghngaaGreatDoor
namespace Go.Proofs.YtjhlpkhfdghngaaGreatDoor
open Go.RowKit Go.Sort
set_option linter.unusedVariables false
set_option linter.unusedSimpArgs false
set_option maxRecDepth 100000
theorem has1 (t w : ByteArray) : hasP 1 t w = true ↔ t.size < w.size ∧ t.data.toList <:+ w.data.toList := by
  unfold hasP
  rw [if_neg (by decide), if_pos rfl]
  simp only [Bool.and_eq_true, decide_eq_true_eq, Lib.hasSuffix, List.isSuffixOf_iff_suffix]
theorem has2 (t w : ByteArray) : hasP 2 t w = true := by
  unfold hasP; rw [if_neg (by decide), if_neg (by decide)]
def PartFit (p : Part) : Prop :=
  (p.kind = 0 ∧ isWordB p.text = true) ∨ (p.kind = 1 ∧ ∃ s : ByteArray, isWordB s = true ∧ s.size ≤ 32 ∧ p.text.data.toList = 46 :: s.data.toList) ∨ (p.kind = 2 ∧ p.text = ⟨#[]⟩)
def CustFit (p : Part) : Prop := (p.kind = 0 ∧ isNameB p.text = true) ∨ (p.kind = 2 ∧ p.text = ⟨#[]⟩)
theorem CustFit.part {p : Part} (h : CustFit p) : PartFit p := by
  rcases h with ⟨h1, h2⟩ | h
  · exact .inl ⟨h1, name_word h2⟩
  · exact .inr (.inr h)
theorem size_data (s : ByteArray) : s.size = s.data.toList.length := Lib.size_eq s
end Go.Proofs.YtjhlpkhfdghngaaGreatDoor
namespace Go.Proofs.YtjhlpkhfdghngaaGreatDoor
open Go.RowKit Go.Sort
set_option linter.unusedVariables false
set_option linter.unusedSimpArgs false
set_option maxRecDepth 100000
structure Pat where
  cust : Part
  parts : List Part
  tail : Bool
def partCells (ps : List Part) : List Value := ps.flatMap fun p => [.int .i64 p.kind, .string p.text]
def partOkB (w : ByteArray) : Bool := w.toList == [42] || isWordB w || (decide (w.size ≤ 34) && Lib.hasPrefix w.data.toList [42, 46] && isWordB (w.extract 2 w.size))
def cmpL : List ByteArray → List Part → Option (List Part × Bool)
  | [], acc => some (acc, false)
  | w :: r, acc => if w.toList == [42, 42] && r.isEmpty then some (acc, true) else if partOkB w then cmpL r (acc ++ [partOfP w]) else none
def headOkB (l0 : ByteArray) : Bool := l0.toList == [42] || isNameB l0
def compL : List ByteArray → Option Pat
  | [] => none
  | l0 :: r => if r.length ≤ 32 && headOkB l0 then (cmpL r []).map fun x => ⟨partOfP l0, x.1, x.2⟩ else none
def compileB (s : ByteArray) : Option Pat := compL (splitB 47 s)
def CompPost (r : Option Pat) (w : World) (e : Ending) (w' : World) : Prop :=
  Below w.heap.size w w' ∧ match r with
  | none => ∃ (k : Nat) (t : ByteArray) (A : Option Addr) (n c : Nat) (b : Bool), e = .returned (.tuple #[.agg #[.int .i64 k, .string t, .slice A n c, .bool b], .bool false])
  | some p => ∃ A c, e = .returned (.tuple #[.agg #[.int .i64 p.cust.kind, .string p.cust.text, .slice A p.parts.length c, .bool p.tail], .bool true]) ∧ Reads w' 2 A p.parts.length (partCells p.parts) ∧ ∀ a, A = some a → w.heap.size ≤ a.block
theorem CompPost.none_ {w w' : World} (k : Nat) (t : ByteArray) (A : Option Addr) (n c : Nat) (b : Bool) (hb : Below w.heap.size w w') : CompPost none w (.returned (.tuple #[.agg #[.int .i64 k, .string t, .slice A n c, .bool b], .bool false])) w' := ⟨hb, k, t, A, n, c, b, rfl⟩
theorem Blk.free0 {w : World} {g : Nat} {t : TypeId} {cs : Array Value} (h : Blk w g t cs (0, 0)) (i : Nat) : w.frozen? ⟨g, i, none⟩ = false := by
  unfold Blk at h
  simp [World.frozen?, h]
theorem partOfP_kind (s : ByteArray) : (partOfP s).kind ≤ 2 := by
  unfold partOfP; split <;> (try split) <;> (try split) <;> simp
theorem partOfP_size (s : ByteArray) : (partOfP s).text.size ≤ s.size := by
  unfold partOfP; split <;> (try split) <;> (try split) <;> simp <;> exact Nat.zero_le _
def PBox (w : World) (g : Nat) (k : Nat) (t : ByteArray) (v : Value) (b : Bool) : Prop := Blk w g 112 #[.int .i64 k, .string t, v, .bool b] (0, 0)
theorem PBox.facts {w : World} {g k : Nat} {t : ByteArray} {v : Value} {b : Bool} (h : PBox w g k t v b) :
    w.cell? ⟨g, 0, none⟩ = some (.int .i64 k) ∧ w.cell? ⟨g, 1, none⟩ = some (.string t) ∧ w.cell? ⟨g, 2, none⟩ = some v ∧ w.cell? ⟨g, 3, none⟩ = some (.bool b) ∧
      w.frozen? ⟨g, 0, none⟩ = false ∧ w.frozen? ⟨g, 1, none⟩ = false ∧ w.frozen? ⟨g, 2, none⟩ = false ∧ w.frozen? ⟨g, 3, none⟩ = false :=
  ⟨Blk.cell h 0, Blk.cell h 1, Blk.cell h 2, Blk.cell h 3, Blk.free0 h 0, Blk.free0 h 1, Blk.free0 h 2, Blk.free0 h 3⟩
theorem infoPart : (Tryz.prog.info? 109).map (fun i => (i.zero, i.size, i.bytes)) = some (some (.agg #[.int .i64 0, .string ⟨#[]⟩]), 2, 24) := by kernel_rfl
def CmpI (r : List ByteArray) (k : Nat) (acc : List Part) (tl : Bool) : Prop := (tl = false ∧ cmpL r [] = cmpL (r.drop k) acc) ∨ (tl = true ∧ k = r.length ∧ cmpL r [] = some (acc, true))
theorem undrew {X w : World} (h : Below X.drew.heap.size X.drew w) : Below X.heap.size X w := ⟨h.os, h.tape, h.output, h.size, h.block⟩
theorem isWord_stars : isWordB ⟨#[42, 42]⟩ = false := by simp [isWordB, Lib.toList_data, letterB, isLetN]
theorem partOk_stars : partOkB ⟨#[42, 42]⟩ = false := by simp [partOkB, isWord_stars, Lib.toList_data, Lib.hasPrefix, List.isPrefixOf]
set_option maxHeartbeats 4000000 in
theorem compile_any (s : ByteArray) (w : World) (hs : s.size ≤ 100000) (hE : Env w) : Calls Tryz.prog 72 #[.string s] w (CompPost (compileB s) w) := by
  have hE1 := hE.keep (balloc (Below.refl _ _) (.cells #[.int .i64 0, .string ⟨#[]⟩, .slice none 0 0, .bool false] 112))
  have cS := split_any s 47 _ (by omega) hE1
  have hsz := splitB_size 47 s
  have hnum := splitB_num 47 s
  have hne : splitB 47 s ≠ [] := by
    intro h
    have := congrArg List.length h
    unfold splitB at this
    rw [List.length_map] at this
    exact splitL_ne 47 s.data.toList (List.eq_nil_of_length_eq_zero this)
  unfold compileB
  generalize splitB 47 s = l at *
  obtain ⟨l0, r, rfl⟩ := List.exists_cons_of_ne_nil hne
  have hl0 : l0.size ≤ 100000 := Nat.le_trans (hsz l0 (by simp)) hs
  have cN := fun W => isName_any l0 W (by omega)
  clear hne
  obtain ⟨m, hm⟩ : ∃ m, m = r.length := ⟨_, rfl⟩
  have HS : Hid (∀ W, W = (w.alloc (.cells #[.int .i64 0, .string ⟨#[]⟩, .slice none 0 0, .bool false] 112)) → Calls Tryz.prog 138 #[.string s, .string ⟨#[47]⟩] W (fun e w' => Below W.heap.size W w' ∧ ∃ A c, e = .returned (.slice A (m + 1) c) ∧ Reads w' 1 A (m + 1) ((l0 :: r).map .string) ∧ (∀ a, A = some a → W.heap.size ≤ a.block) ∧ m + 1 ≤ c)) := Lib.hid (by rintro W rfl; rw [hm]; exact cS)
  have HN := Lib.hid cN
  have HM := Lib.hid hm
  have hm9 : m ≤ 100001 := by rw [hm]; simp at hnum; omega
  clear cS cN hE hE1
  simp only [compL]
  rw [← hm]
  clear hm
  by_cases hbig : 32 < m
  · rw [show decide (m ≤ 32) = false by simp; omega]
    simp only [Bool.false_and, Bool.false_eq_true, if_false]
    have hd : decide ((33 : Int) < (m : Int) + 1) = true := by simp; omega
    go_enter Tryz.func72, Tryz.ntmps72
    go_wp2_with (go_at_call 138; refine (HS.out _ rfl).mono ?_; rintro e w1 ⟨hb1, A, c, rfl, hR, hA, hcap⟩; have hB1 : PBox w1 w.heap.size 0 ⟨#[]⟩ (.slice none 0 0) false := (hb1.block w.heap.size (by simp)).trans (World.alloc_heap_new _ _); obtain ⟨c0, c1, c2, c3, f0, f1, f2, f3⟩ := hB1.facts; obtain ⟨pb, po, u, rfl, hu, g0⟩ := hR.at_ (k := 0) (by omega); (obtain rfl : u = .string l0 := (by simpa using hu.symm)); clear hu; have gg : w1.cell? ⟨pb, po, none⟩ = some (.string l0) := g0; clear g0; have hcap1 : (m : Int) + 1 ≤ (c : Int) := (by omega); have hA1 : w.heap.size < pb := (by have := hA _ rfl; simp at this; omega))
    exact bodyPost_ret (v := .tuple #[.agg #[.int .i64 0, .string ⟨#[]⟩, .slice none 0 0, .bool false], .bool false]) (by simp [results, Tryz.results72, go_sem, c0, c1, c2, c3]) rfl (CompPost.none_ 0 _ _ _ _ _ belB)
  have hd : decide ((33 : Int) < (m : Int) + 1) = false := by simp; omega
  rw [show decide (m ≤ 32) = true by simp; omega]
  simp only [Bool.true_and]
  have hn0 : (0 : Int) < (m : Int) + 1 := by omega
  cases hho : headOkB l0
  · simp only [Bool.false_eq_true, if_false]
    unfold headOkB at hho
    simp only [Bool.or_eq_false_iff] at hho
    obtain ⟨h1, h2⟩ := hho
    rw [h2] at HN
    clear h2
    go_enter Tryz.func72, Tryz.ntmps72
    go_wp2_with (first | (go_at_call 138; refine (HS.out _ rfl).mono ?_; rintro e w1 ⟨hb1, A, c, rfl, hR, hA, hcap⟩; have hB1 : PBox w1 w.heap.size 0 ⟨#[]⟩ (.slice none 0 0) false := (hb1.block w.heap.size (by simp)).trans (World.alloc_heap_new _ _); obtain ⟨c0, c1, c2, c3, f0, f1, f2, f3⟩ := hB1.facts; obtain ⟨pb, po, u, rfl, hu, g0⟩ := hR.at_ (k := 0) (by omega); (obtain rfl : u = .string l0 := (by simpa using hu.symm)); clear hu; have gg : w1.cell? ⟨pb, po, none⟩ = some (.string l0) := g0; clear g0; have hcap1 : (m : Int) + 1 ≤ (c : Int) := (by omega); have hA1 : w.heap.size < pb := (by have := hA _ rfl; simp at this; omega)) | (go_at_call 78; refine (HN.out _).mono ?_; rintro e w2 ⟨rfl, hb2⟩; have hB2 : PBox w2 w.heap.size 0 ⟨#[]⟩ (.slice none 0 0) false := Blk.keep hB1 hb2; clear c0 c1 c2 c3 f0 f1 f2 f3; obtain ⟨c0, c1, c2, c3, f0, f1, f2, f3⟩ := hB2.facts; have gg' := cell_keep hb2 gg))
    exact bodyPost_ret (v := .tuple #[.agg #[.int .i64 0, .string ⟨#[]⟩, .slice none 0 0, .bool false], .bool false]) (by simp [results, Tryz.results72, go_sem, c0, c1, c2, c3]) rfl (CompPost.none_ 0 _ _ _ _ _ belB)
  simp only [if_true]
  have hpv : ∀ W, Calls Tryz.prog 139 #[.string l0] W (Ret W (.agg #[.int .i64 (partOfP l0).kind, .string (partOfP l0).text])) := fun W => partOf_any l0 W (by omega)
  generalize (partOfP l0) = p0 at *
  obtain ⟨kd, tx⟩ := p0
  dsimp only at hpv
  have HPV := Lib.hid hpv
  have HSZ : Hid (∀ p ∈ r, p.size ≤ 100000) := Lib.hid (fun p hp => Nat.le_trans (hsz p (by simp [hp])) hs)
  clear hpv hsz hnum
  have hho2 : ((l0.toList == [42]) = true) ∨ ((l0.toList == [42]) = false ∧ isNameB l0 = true) := by
    unfold headOkB at hho
    cases h : (l0.toList == [42])
    · right; exact ⟨rfl, by simpa [h] using hho⟩
    · left; rfl
  have hn1 : (1 : Int) ≤ (m : Int) + 1 := by omega
  clear hho
  obtain ⟨i0, hi0, hz0, hz1, hz2⟩ := info_parts infoPart
  have HI : Hid ((Tryz.prog.info? 109 = some i0) ∧ i0.zero = some (.agg #[.int .i64 0, .string ⟨#[]⟩]) ∧ i0.size = 2 ∧ i0.bytes = 24) := Lib.hid ⟨hi0, hz0, hz1, hz2⟩
  clear hi0 hz0 hz1 hz2
  rcases hho2 with h1 | ⟨h1, h2⟩
  rotate_left
  rw [h2] at HN; clear h2
  rotate_left
  all_goals
    go_enter Tryz.func72, Tryz.ntmps72
    go_wp2_with (first | (go_at_call 138; refine (HS.out _ rfl).mono ?_; rintro e w1 ⟨hb1, A, c, rfl, hR, hA, hcap⟩; have hB1 : PBox w1 w.heap.size 0 ⟨#[]⟩ (.slice none 0 0) false := (hb1.block w.heap.size (by simp)).trans (World.alloc_heap_new _ _); obtain ⟨c0, c1, c2, c3, f0, f1, f2, f3⟩ := hB1.facts; obtain ⟨pb, po, u, rfl, hu, g0⟩ := hR.at_ (k := 0) (by omega); (obtain rfl : u = .string l0 := (by simpa using hu.symm)); clear hu; have gg : w1.cell? ⟨pb, po, none⟩ = some (.string l0) := g0; clear g0; have hcap1 : (m : Int) + 1 ≤ (c : Int) := (by omega); have hA1 : w.heap.size < pb := (by have := hA _ rfl; simp at this; omega)) | (go_at_call 78; refine (HN.out _).mono ?_; rintro e w2 ⟨rfl, hb2⟩; have hB2 : PBox w2 w.heap.size 0 ⟨#[]⟩ (.slice none 0 0) false := Blk.keep hB1 hb2; clear c0 c1 c2 c3 f0 f1 f2 f3; obtain ⟨c0, c1, c2, c3, f0, f1, f2, f3⟩ := hB2.facts; have gg' := cell_keep hb2 gg) | (go_at_call 139; refine (HPV.out _).mono ?_; rintro e w3 ⟨rfl, hb3⟩; have hB3 : PBox w3 w.heap.size 0 ⟨#[]⟩ (.slice none 0 0) false := Blk.keep (by assumption) hb3; clear c0 c1 c2 c3 f0 f1 f2 f3; obtain ⟨c0, c1, c2, c3, f0, f1, f2, f3⟩ := hB3.facts))
    all_goals
      have HRd : Hid (Reads w3 1 (some ⟨pb, po, none⟩) (m + 1) ((l0 :: r).map .string)) := Lib.hid (hR.keep belB)
      have hpb : pb < w3.heap.size := cell_lt (a := ⟨pb, po, none⟩) (cell_keep (w := w1) belB gg)
      have hbw : Below w.heap.size w w3 := belB
      have hz3 : w.heap.size < w3.heap.size := by omega
      clear hR gg c0 c1 c2 c3 f0 f1 f2 f3
      obtain ⟨W0, hW0⟩ : ∃ W0, W0 = (w3.setCell ⟨w.heap.size, 0, none⟩ (.int .i64 kd)).setCell ⟨w.heap.size, 1, none⟩ (.string tx) := ⟨_, rfl⟩
      have hB0 : PBox W0 w.heap.size kd tx (.slice none 0 0) false := by rw [hW0]; exact Blk.set_ (Blk.set_ hB3 0 (.int .i64 kd)) 1 (.string tx)
      have hFr : ∀ j, j ≠ w.heap.size → W0.heap[j]? = w3.heap[j]? := fun j hj => by
        rw [hW0, Below.heap_setCell _ _ _ _ (by simpa using hj), Below.heap_setCell _ _ _ _ (by simpa using hj)]
      have hbw0 : Below w.heap.size w W0 := by rw [hW0]; exact belB
      have hz0 : W0.heap.size = w3.heap.size := by rw [hW0]; simp [World.setCell]
      rw [← hW0]
      clear hW0 hB3 hbw
      go_loopw [34] (fun vi wr => ∃ (k : Nat) (acc : List Part) (A' : Option Addr) (c' : Nat) (tl : Bool), (vi = .int .i64 k ∧ k ≤ m ∧ acc.length ≤ k) ∧ Hid (CmpI r k acc tl) ∧ PBox wr w.heap.size kd tx (.slice A' acc.length c') tl ∧
          wr.ownsRow w3.heap.size 109 2 (.slice A' acc.length c') acc.length (partCells acc) ∧ Below w.heap.size w wr ∧ (∀ j, j < w3.heap.size → j ≠ w.heap.size → wr.heap[j]? = w3.heap[j]?) ∧ w3.heap.size ≤ wr.heap.size) (fun vi _ => m - (intOf vi).toNat)
      case atStart => exact ⟨0, [], none, 0, false, ⟨rfl, Nat.zero_le _, Nat.le_refl _⟩, Lib.hid (.inl ⟨rfl, by simp⟩), hB0, World.ownsRow_nil _ _ _ _, hbw0, fun j _ hj => hFr j hj, by omega⟩
      case round =>
        clear hB0 hFr hbw0 hz0 W0
        obtain ⟨k, acc, A', c', tl, ⟨rfl, hk, hak⟩, HC, hB, hown, hbw, hFr, hzr⟩ := hrel
        obtain ⟨c0, c1, c2, c3, f0, f1, f2, f3⟩ := hB.facts
        by_cases hlt : k < m
        · try (exfalso; omega)
          all_goals
            obtain ⟨p, hp⟩ : ∃ p, r[k]? = some p := ⟨_, List.getElem?_eq_getElem (by have := HM.out; omega)⟩
            have hps := HSZ.out p (List.mem_of_getElem? hp)
            have hcell : wr.cell? ⟨pb, po + 1 + k, none⟩ = some (.string p) := by
              obtain ⟨b', o', e', hc'⟩ := HRd.out.2 (by omega)
              injection e' with e'; injection e' with e1 e2; subst e1; subst e2
              have := hc' (k + 1) (.string p) (by simp [hp])
              rw [show po + 1 + k = po + (k + 1) by omega]
              exact (World.cell?_of_block (hFr pb hpb (by omega))).trans this
            obtain ⟨rfl, hcmp⟩ : tl = false ∧ cmpL r [] = cmpL (r.drop k) acc := by
              rcases HC.out with h | ⟨_, h, _⟩
              · exact h
              · exfalso; have := HM.out; omega
            have hd2 : r.drop k = p :: r.drop (k + 1) := by
              obtain ⟨hl2, rfl⟩ := List.getElem?_eq_some_iff.1 hp
              exact List.drop_eq_getElem_cons hl2
            rw [hd2, cmpL] at hcmp
            have hemp : (r.drop (k + 1)).isEmpty = decide (k + 1 = m) := by
              have := HM.out
              by_cases h : k + 1 = m
              · rw [List.drop_eq_nil_of_le (by omega)]; simp [h]
              · simp [h]; omega
            rw [hemp] at hcmp
            have hk0 : (0 : Int) ≤ (k : Int) := by omega
            have hkm : (k : Int) < (m : Int) := by omega
            clear hd2 hemp hp HC HRd
            cases h2s : (p.toList == [42, 42])
            · simp only [h2s, Bool.false_and, Bool.false_eq_true, if_false] at hcmp
              have hp2 : ∀ W, Calls Tryz.prog 139 #[.string p] W (Ret W (.agg #[.int .i64 (partOfP p).kind, .string (partOfP p).text])) := fun W => partOf_any p W (by omega)
              have cW := fun W => isWord_any p W (by omega)
              have cH := fun W => Tryz.strings_HasPrefix p ⟨#[42, 46]⟩ W
              have cX := fun W => isWord_any (p.extract 2 p.size) W (by simp; omega)
              have hpre : Lib.hasPrefix p.data.toList [42, 46] = true → 2 ≤ p.size := by
                intro h
                rw [Lib.hasPrefix, List.isPrefixOf_iff_prefix] at h
                have := h.length_le
                rw [Lib.size_eq]; simpa using this
              rw [show (⟨#[42, 46]⟩ : ByteArray).data.toList = [42, 46] from rfl] at cH
              have hok : partOkB p = ((p.toList == [42]) || isWordB p || (decide (p.size ≤ 34) && Lib.hasPrefix p.data.toList [42, 46] && isWordB (p.extract 2 p.size))) := rfl
              generalize partOfP p = pq at hcmp hp2
              obtain ⟨pk, pt⟩ := pq
              dsimp only at hp2
              generalize isWordB p = b1 at hok cW
              generalize Lib.hasPrefix p.data.toList [42, 46] = b2 at hok cH hpre
              generalize isWordB (p.extract 2 p.size) = b3 at hok cX
              have HP2 := Lib.hid hp2
              have HW := Lib.hid cW; have HH := Lib.hid cH; have HX := Lib.hid cX
              clear hp2 cW cH cX
              cases e1 : (p.toList == [42])
              · cases b1
                · by_cases hs34 : p.size ≤ 34
                  · have hd3 : decide ((p.size : Int) ≤ 34) = true := by simp; omega
                    cases b2
                    · have hnone : cmpL r [] = none := by rw [hcmp, hok]; simp [e1]
                      have HNO := Lib.hid hnone; clear hnone hcmp hok
                      go_wp2_with (first | (go_at_call 140; refine (HW.out _).mono ?_; rintro e w4 ⟨rfl, hb4⟩; replace hB : PBox w4 w.heap.size kd tx (.slice A' acc.length c') false := Blk.keep hB hb4; replace hown := ownsRow_keep hown hb4; replace hbw := hbw.trans (hb4.mono (by omega)); replace hFr : ∀ j, j < w3.heap.size → j ≠ w.heap.size → w4.heap[j]? = w3.heap[j]? := (fun j q1 q2 => (hb4.block j (by omega)).trans (hFr j q1 q2)); replace hzr : w3.heap.size ≤ w4.heap.size := Nat.le_trans hzr hb4.size; clear c0 c1 c2 c3 f0 f1 f2 f3; obtain ⟨c0, c1, c2, c3, f0, f1, f2, f3⟩ := hB.facts; clear HW) | (go_at_call 141; refine (HH.out _).mono ?_; rintro e w5 ⟨rfl, hw5⟩; rw [hw5]; clear hw5 w5) | (go_at_call 140; refine (HX.out _).mono ?_; rintro e w5 ⟨rfl, hb5⟩; replace hB : PBox w5 w.heap.size kd tx (.slice A' acc.length c') false := Blk.keep hB hb5; replace hown := ownsRow_keep hown hb5; replace hbw := hbw.trans (hb5.mono (by omega)); replace hFr : ∀ j, j < w3.heap.size → j ≠ w.heap.size → w5.heap[j]? = w3.heap[j]? := (fun j q1 q2 => (hb5.block j (by omega)).trans (hFr j q1 q2)); replace hzr : w3.heap.size ≤ w5.heap.size := Nat.le_trans hzr hb5.size; clear c0 c1 c2 c3 f0 f1 f2 f3; obtain ⟨c0, c1, c2, c3, f0, f1, f2, f3⟩ := hB.facts; clear HX))
                      rw [HNO.out]; exact bodyPost_ret (v := .tuple #[.agg #[.int .i64 kd, .string tx, .slice A' acc.length c', .bool false], .bool false]) (by simp [results, Tryz.results72, go_sem, c0, c1, c2, c3]) rfl (CompPost.none_ _ _ _ _ _ _ belB)
                    · have h2p : (2 : Int) ≤ (p.size : Int) := by have := hpre rfl; omega
                      cases b3
                      · have hnone : cmpL r [] = none := by rw [hcmp, hok]; simp [e1]
                        have HNO := Lib.hid hnone; clear hnone hcmp hok
                        go_wp2_with (first | (go_at_call 140; refine (HW.out _).mono ?_; rintro e w4 ⟨rfl, hb4⟩; replace hB : PBox w4 w.heap.size kd tx (.slice A' acc.length c') false := Blk.keep hB hb4; replace hown := ownsRow_keep hown hb4; replace hbw := hbw.trans (hb4.mono (by omega)); replace hFr : ∀ j, j < w3.heap.size → j ≠ w.heap.size → w4.heap[j]? = w3.heap[j]? := (fun j q1 q2 => (hb4.block j (by omega)).trans (hFr j q1 q2)); replace hzr : w3.heap.size ≤ w4.heap.size := Nat.le_trans hzr hb4.size; clear c0 c1 c2 c3 f0 f1 f2 f3; obtain ⟨c0, c1, c2, c3, f0, f1, f2, f3⟩ := hB.facts; clear HW) | (go_at_call 141; refine (HH.out _).mono ?_; rintro e w5 ⟨rfl, hw5⟩; rw [hw5]; clear hw5 w5) | (go_at_call 140; refine (HX.out _).mono ?_; rintro e w5 ⟨rfl, hb5⟩; replace hB : PBox w5 w.heap.size kd tx (.slice A' acc.length c') false := Blk.keep hB hb5; replace hown := ownsRow_keep hown hb5; replace hbw := hbw.trans (hb5.mono (by omega)); replace hFr : ∀ j, j < w3.heap.size → j ≠ w.heap.size → w5.heap[j]? = w3.heap[j]? := (fun j q1 q2 => (hb5.block j (by omega)).trans (hFr j q1 q2)); replace hzr : w3.heap.size ≤ w5.heap.size := Nat.le_trans hzr hb5.size; clear c0 c1 c2 c3 f0 f1 f2 f3; obtain ⟨c0, c1, c2, c3, f0, f1, f2, f3⟩ := hB.facts; clear HX))
                        rw [HNO.out]; exact bodyPost_ret (v := .tuple #[.agg #[.int .i64 kd, .string tx, .slice A' acc.length c', .bool false], .bool false]) (by simp [results, Tryz.results72, go_sem, c0, c1, c2, c3]) rfl (CompPost.none_ _ _ _ _ _ _ belB)
                      · have hsome : cmpL r [] = cmpL (r.drop (k + 1)) (acc ++ [⟨pk, pt⟩]) := by rw [hcmp, hok]; simp [e1, hs34]
                        have HSO := Lib.hid hsome; clear hsome hcmp hok
                        go_wp2_with (first | (go_at_call 140; refine (HW.out _).mono ?_; rintro e w4 ⟨rfl, hb4⟩; replace hB : PBox w4 w.heap.size kd tx (.slice A' acc.length c') false := Blk.keep hB hb4; replace hown := ownsRow_keep hown hb4; replace hbw := hbw.trans (hb4.mono (by omega)); replace hFr : ∀ j, j < w3.heap.size → j ≠ w.heap.size → w4.heap[j]? = w3.heap[j]? := (fun j q1 q2 => (hb4.block j (by omega)).trans (hFr j q1 q2)); replace hzr : w3.heap.size ≤ w4.heap.size := Nat.le_trans hzr hb4.size; clear c0 c1 c2 c3 f0 f1 f2 f3; obtain ⟨c0, c1, c2, c3, f0, f1, f2, f3⟩ := hB.facts; clear HW) | (go_at_call 141; refine (HH.out _).mono ?_; rintro e w5 ⟨rfl, hw5⟩; rw [hw5]; clear hw5 w5) | (go_at_call 140; refine (HX.out _).mono ?_; rintro e w5 ⟨rfl, hb5⟩; replace hB : PBox w5 w.heap.size kd tx (.slice A' acc.length c') false := Blk.keep hB hb5; replace hown := ownsRow_keep hown hb5; replace hbw := hbw.trans (hb5.mono (by omega)); replace hFr : ∀ j, j < w3.heap.size → j ≠ w.heap.size → w5.heap[j]? = w3.heap[j]? := (fun j q1 q2 => (hb5.block j (by omega)).trans (hFr j q1 q2)); replace hzr : w3.heap.size ≤ w5.heap.size := Nat.le_trans hzr hb5.size; clear c0 c1 c2 c3 f0 f1 f2 f3; obtain ⟨c0, c1, c2, c3, f0, f1, f2, f3⟩ := hB.facts; clear HX))
                        go_region_law (first | (go_simp; go_at_call 139; refine (HP2.out _).mono ?_; rintro e w6 ⟨rfl, hb6⟩; replace hb6 := undrew hb6; replace hB : PBox w6 w.heap.size kd tx (.slice A' acc.length c') false := Blk.keep hB hb6; replace hown := ownsRow_keep hown hb6; replace hbw := hbw.trans (hb6.mono (by omega)); replace hFr : ∀ j, j < w3.heap.size → j ≠ w.heap.size → w6.heap[j]? = w3.heap[j]? := (fun j q1 q2 => (hb6.block j (by omega)).trans (hFr j q1 q2)); replace hzr : w3.heap.size ≤ w6.heap.size := Nat.le_trans hzr hb6.size; have hz6 : w.heap.size < w6.heap.size := (by omega); clear c0 c1 c2 c3 f0 f1 f2 f3; obtain ⟨c0, c1, c2, c3, f0, f1, f2, f3⟩ := hB.facts) | (refine step_append_lies _ (by rfl) _ _ _ (by rfl) w3.heap.size 109 i0 (.agg #[.int .i64 0, .string ⟨#[]⟩]) 2 24 Tryz.underlying110 HI.out.1 HI.out.2.1 HI.out.2.2.1 HI.out.2.2.2 (by rfl) (by omega) (.slice A' acc.length c') acc.length (partCells acc) (by rfl) (hown.alloc _) ⟨w6.heap.size, 0, none⟩ 1 1 [.int .i64 pk, .string pt] (by rfl) (by rfl) (World.news_of_block (cs := #[.int .i64 pk, .string pt]) (t := 109) (fr := (0, 0)) (World.alloc_heap_new w6 _)) (by simp [Value.oneCell']) (by omega) (by unfold maxLen; omega) (by omega) (by simp; omega) (w6.heap.size + 1) (by simp) ?_; intro gg cap w7 hown7 hgrow hat hlt7; have hB7 : PBox w7 w.heap.size kd tx (.slice A' acc.length c') false := (hgrow.block w.heap.size (by simp; omega) (fun e => by have := ownsRow_block hown _ e.symm; omega)).trans ((Below.heap_alloc w6 _ w.heap.size (by omega)).trans hB); clear c0 c1 c2 c3 f0 f1 f2 f3; obtain ⟨c0, c1, c2, c3, f0, f1, f2, f3⟩ := hB7.facts)); all_goals go_wp2; all_goals (have hal : (acc ++ [(⟨pk, pt⟩ : Part)]).length = acc.length + 1 := (by simp); have hpc : partCells (acc ++ [⟨pk, pt⟩]) = partCells acc ++ [.int .i64 pk, .string pt] := (by simp [partCells]); refine ⟨⟨k + 1, acc ++ [⟨pk, pt⟩], some ⟨gg, 0, none⟩, cap, false, ⟨by go_num, by omega, by simp; omega⟩, Lib.hid (.inl ⟨rfl, HSO.out⟩), by rw [hal]; exact Blk.set_ hB7 2 _, by rw [hal, hpc]; exact ownsRow_same hown7 (fun j hj => Below.heap_setCell _ _ _ _ (by simp; omega)), ((hbw.alloc hbw.size _).grown hgrow (by have := hbw.size; simp; omega) (fun r e => by have := ownsRow_block hown r e; omega)).setCell (p := ⟨w.heap.size, 2, none⟩) (by simp) _, fun j q1 q2 => (Below.heap_setCell _ _ _ _ (by simpa using q2)).trans ((hgrow.block j (by simp; omega) (fun e => by have := ownsRow_block hown _ e.symm; omega)).trans ((Below.heap_alloc w6 _ j (by omega)).trans (hFr j q1 q2))), by have := hgrow.size; simp [World.setCell] at this ⊢; omega⟩, by simp [intOf]; omega⟩)
                  · have hd3 : decide ((p.size : Int) ≤ 34) = false := by simp; omega
                    have hnone : cmpL r [] = none := by rw [hcmp, hok]; simp [e1, hs34]
                    have HNO := Lib.hid hnone; clear hnone hcmp hok
                    go_wp2_with (first | (go_at_call 140; refine (HW.out _).mono ?_; rintro e w4 ⟨rfl, hb4⟩; replace hB : PBox w4 w.heap.size kd tx (.slice A' acc.length c') false := Blk.keep hB hb4; replace hown := ownsRow_keep hown hb4; replace hbw := hbw.trans (hb4.mono (by omega)); replace hFr : ∀ j, j < w3.heap.size → j ≠ w.heap.size → w4.heap[j]? = w3.heap[j]? := (fun j q1 q2 => (hb4.block j (by omega)).trans (hFr j q1 q2)); replace hzr : w3.heap.size ≤ w4.heap.size := Nat.le_trans hzr hb4.size; clear c0 c1 c2 c3 f0 f1 f2 f3; obtain ⟨c0, c1, c2, c3, f0, f1, f2, f3⟩ := hB.facts; clear HW) | (go_at_call 141; refine (HH.out _).mono ?_; rintro e w5 ⟨rfl, hw5⟩; rw [hw5]; clear hw5 w5) | (go_at_call 140; refine (HX.out _).mono ?_; rintro e w5 ⟨rfl, hb5⟩; replace hB : PBox w5 w.heap.size kd tx (.slice A' acc.length c') false := Blk.keep hB hb5; replace hown := ownsRow_keep hown hb5; replace hbw := hbw.trans (hb5.mono (by omega)); replace hFr : ∀ j, j < w3.heap.size → j ≠ w.heap.size → w5.heap[j]? = w3.heap[j]? := (fun j q1 q2 => (hb5.block j (by omega)).trans (hFr j q1 q2)); replace hzr : w3.heap.size ≤ w5.heap.size := Nat.le_trans hzr hb5.size; clear c0 c1 c2 c3 f0 f1 f2 f3; obtain ⟨c0, c1, c2, c3, f0, f1, f2, f3⟩ := hB.facts; clear HX))
                    rw [HNO.out]; exact bodyPost_ret (v := .tuple #[.agg #[.int .i64 kd, .string tx, .slice A' acc.length c', .bool false], .bool false]) (by simp [results, Tryz.results72, go_sem, c0, c1, c2, c3]) rfl (CompPost.none_ _ _ _ _ _ _ belB)
                · have hsome : cmpL r [] = cmpL (r.drop (k + 1)) (acc ++ [⟨pk, pt⟩]) := by rw [hcmp, hok]; simp
                  have HSO := Lib.hid hsome; clear hsome hcmp hok
                  go_wp2_with (first | (go_at_call 140; refine (HW.out _).mono ?_; rintro e w4 ⟨rfl, hb4⟩; replace hB : PBox w4 w.heap.size kd tx (.slice A' acc.length c') false := Blk.keep hB hb4; replace hown := ownsRow_keep hown hb4; replace hbw := hbw.trans (hb4.mono (by omega)); replace hFr : ∀ j, j < w3.heap.size → j ≠ w.heap.size → w4.heap[j]? = w3.heap[j]? := (fun j q1 q2 => (hb4.block j (by omega)).trans (hFr j q1 q2)); replace hzr : w3.heap.size ≤ w4.heap.size := Nat.le_trans hzr hb4.size; clear c0 c1 c2 c3 f0 f1 f2 f3; obtain ⟨c0, c1, c2, c3, f0, f1, f2, f3⟩ := hB.facts; clear HW) | (go_at_call 141; refine (HH.out _).mono ?_; rintro e w5 ⟨rfl, hw5⟩; rw [hw5]; clear hw5 w5) | (go_at_call 140; refine (HX.out _).mono ?_; rintro e w5 ⟨rfl, hb5⟩; replace hB : PBox w5 w.heap.size kd tx (.slice A' acc.length c') false := Blk.keep hB hb5; replace hown := ownsRow_keep hown hb5; replace hbw := hbw.trans (hb5.mono (by omega)); replace hFr : ∀ j, j < w3.heap.size → j ≠ w.heap.size → w5.heap[j]? = w3.heap[j]? := (fun j q1 q2 => (hb5.block j (by omega)).trans (hFr j q1 q2)); replace hzr : w3.heap.size ≤ w5.heap.size := Nat.le_trans hzr hb5.size; clear c0 c1 c2 c3 f0 f1 f2 f3; obtain ⟨c0, c1, c2, c3, f0, f1, f2, f3⟩ := hB.facts; clear HX))
                  go_region_law (first | (go_simp; go_at_call 139; refine (HP2.out _).mono ?_; rintro e w6 ⟨rfl, hb6⟩; replace hb6 := undrew hb6; replace hB : PBox w6 w.heap.size kd tx (.slice A' acc.length c') false := Blk.keep hB hb6; replace hown := ownsRow_keep hown hb6; replace hbw := hbw.trans (hb6.mono (by omega)); replace hFr : ∀ j, j < w3.heap.size → j ≠ w.heap.size → w6.heap[j]? = w3.heap[j]? := (fun j q1 q2 => (hb6.block j (by omega)).trans (hFr j q1 q2)); replace hzr : w3.heap.size ≤ w6.heap.size := Nat.le_trans hzr hb6.size; have hz6 : w.heap.size < w6.heap.size := (by omega); clear c0 c1 c2 c3 f0 f1 f2 f3; obtain ⟨c0, c1, c2, c3, f0, f1, f2, f3⟩ := hB.facts) | (refine step_append_lies _ (by rfl) _ _ _ (by rfl) w3.heap.size 109 i0 (.agg #[.int .i64 0, .string ⟨#[]⟩]) 2 24 Tryz.underlying110 HI.out.1 HI.out.2.1 HI.out.2.2.1 HI.out.2.2.2 (by rfl) (by omega) (.slice A' acc.length c') acc.length (partCells acc) (by rfl) (hown.alloc _) ⟨w6.heap.size, 0, none⟩ 1 1 [.int .i64 pk, .string pt] (by rfl) (by rfl) (World.news_of_block (cs := #[.int .i64 pk, .string pt]) (t := 109) (fr := (0, 0)) (World.alloc_heap_new w6 _)) (by simp [Value.oneCell']) (by omega) (by unfold maxLen; omega) (by omega) (by simp; omega) (w6.heap.size + 1) (by simp) ?_; intro gg cap w7 hown7 hgrow hat hlt7; have hB7 : PBox w7 w.heap.size kd tx (.slice A' acc.length c') false := (hgrow.block w.heap.size (by simp; omega) (fun e => by have := ownsRow_block hown _ e.symm; omega)).trans ((Below.heap_alloc w6 _ w.heap.size (by omega)).trans hB); clear c0 c1 c2 c3 f0 f1 f2 f3; obtain ⟨c0, c1, c2, c3, f0, f1, f2, f3⟩ := hB7.facts)); all_goals go_wp2; all_goals (have hal : (acc ++ [(⟨pk, pt⟩ : Part)]).length = acc.length + 1 := (by simp); have hpc : partCells (acc ++ [⟨pk, pt⟩]) = partCells acc ++ [.int .i64 pk, .string pt] := (by simp [partCells]); refine ⟨⟨k + 1, acc ++ [⟨pk, pt⟩], some ⟨gg, 0, none⟩, cap, false, ⟨by go_num, by omega, by simp; omega⟩, Lib.hid (.inl ⟨rfl, HSO.out⟩), by rw [hal]; exact Blk.set_ hB7 2 _, by rw [hal, hpc]; exact ownsRow_same hown7 (fun j hj => Below.heap_setCell _ _ _ _ (by simp; omega)), ((hbw.alloc hbw.size _).grown hgrow (by have := hbw.size; simp; omega) (fun r e => by have := ownsRow_block hown r e; omega)).setCell (p := ⟨w.heap.size, 2, none⟩) (by simp) _, fun j q1 q2 => (Below.heap_setCell _ _ _ _ (by simpa using q2)).trans ((hgrow.block j (by simp; omega) (fun e => by have := ownsRow_block hown _ e.symm; omega)).trans ((Below.heap_alloc w6 _ j (by omega)).trans (hFr j q1 q2))), by have := hgrow.size; simp [World.setCell] at this ⊢; omega⟩, by simp [intOf]; omega⟩)
              · have hsome : cmpL r [] = cmpL (r.drop (k + 1)) (acc ++ [⟨pk, pt⟩]) := by rw [hcmp, hok]; simp [e1]
                have HSO := Lib.hid hsome; clear hsome hcmp hok
                go_wp2_with (first | (go_at_call 140; refine (HW.out _).mono ?_; rintro e w4 ⟨rfl, hb4⟩; replace hB : PBox w4 w.heap.size kd tx (.slice A' acc.length c') false := Blk.keep hB hb4; replace hown := ownsRow_keep hown hb4; replace hbw := hbw.trans (hb4.mono (by omega)); replace hFr : ∀ j, j < w3.heap.size → j ≠ w.heap.size → w4.heap[j]? = w3.heap[j]? := (fun j q1 q2 => (hb4.block j (by omega)).trans (hFr j q1 q2)); replace hzr : w3.heap.size ≤ w4.heap.size := Nat.le_trans hzr hb4.size; clear c0 c1 c2 c3 f0 f1 f2 f3; obtain ⟨c0, c1, c2, c3, f0, f1, f2, f3⟩ := hB.facts; clear HW) | (go_at_call 141; refine (HH.out _).mono ?_; rintro e w5 ⟨rfl, hw5⟩; rw [hw5]; clear hw5 w5) | (go_at_call 140; refine (HX.out _).mono ?_; rintro e w5 ⟨rfl, hb5⟩; replace hB : PBox w5 w.heap.size kd tx (.slice A' acc.length c') false := Blk.keep hB hb5; replace hown := ownsRow_keep hown hb5; replace hbw := hbw.trans (hb5.mono (by omega)); replace hFr : ∀ j, j < w3.heap.size → j ≠ w.heap.size → w5.heap[j]? = w3.heap[j]? := (fun j q1 q2 => (hb5.block j (by omega)).trans (hFr j q1 q2)); replace hzr : w3.heap.size ≤ w5.heap.size := Nat.le_trans hzr hb5.size; clear c0 c1 c2 c3 f0 f1 f2 f3; obtain ⟨c0, c1, c2, c3, f0, f1, f2, f3⟩ := hB.facts; clear HX))
                go_region_law (first | (go_simp; go_at_call 139; refine (HP2.out _).mono ?_; rintro e w6 ⟨rfl, hb6⟩; replace hb6 := undrew hb6; replace hB : PBox w6 w.heap.size kd tx (.slice A' acc.length c') false := Blk.keep hB hb6; replace hown := ownsRow_keep hown hb6; replace hbw := hbw.trans (hb6.mono (by omega)); replace hFr : ∀ j, j < w3.heap.size → j ≠ w.heap.size → w6.heap[j]? = w3.heap[j]? := (fun j q1 q2 => (hb6.block j (by omega)).trans (hFr j q1 q2)); replace hzr : w3.heap.size ≤ w6.heap.size := Nat.le_trans hzr hb6.size; have hz6 : w.heap.size < w6.heap.size := (by omega); clear c0 c1 c2 c3 f0 f1 f2 f3; obtain ⟨c0, c1, c2, c3, f0, f1, f2, f3⟩ := hB.facts) | (refine step_append_lies _ (by rfl) _ _ _ (by rfl) w3.heap.size 109 i0 (.agg #[.int .i64 0, .string ⟨#[]⟩]) 2 24 Tryz.underlying110 HI.out.1 HI.out.2.1 HI.out.2.2.1 HI.out.2.2.2 (by rfl) (by omega) (.slice A' acc.length c') acc.length (partCells acc) (by rfl) (hown.alloc _) ⟨w6.heap.size, 0, none⟩ 1 1 [.int .i64 pk, .string pt] (by rfl) (by rfl) (World.news_of_block (cs := #[.int .i64 pk, .string pt]) (t := 109) (fr := (0, 0)) (World.alloc_heap_new w6 _)) (by simp [Value.oneCell']) (by omega) (by unfold maxLen; omega) (by omega) (by simp; omega) (w6.heap.size + 1) (by simp) ?_; intro gg cap w7 hown7 hgrow hat hlt7; have hB7 : PBox w7 w.heap.size kd tx (.slice A' acc.length c') false := (hgrow.block w.heap.size (by simp; omega) (fun e => by have := ownsRow_block hown _ e.symm; omega)).trans ((Below.heap_alloc w6 _ w.heap.size (by omega)).trans hB); clear c0 c1 c2 c3 f0 f1 f2 f3; obtain ⟨c0, c1, c2, c3, f0, f1, f2, f3⟩ := hB7.facts)); all_goals go_wp2; all_goals (have hal : (acc ++ [(⟨pk, pt⟩ : Part)]).length = acc.length + 1 := (by simp); have hpc : partCells (acc ++ [⟨pk, pt⟩]) = partCells acc ++ [.int .i64 pk, .string pt] := (by simp [partCells]); refine ⟨⟨k + 1, acc ++ [⟨pk, pt⟩], some ⟨gg, 0, none⟩, cap, false, ⟨by go_num, by omega, by simp; omega⟩, Lib.hid (.inl ⟨rfl, HSO.out⟩), by rw [hal]; exact Blk.set_ hB7 2 _, by rw [hal, hpc]; exact ownsRow_same hown7 (fun j hj => Below.heap_setCell _ _ _ _ (by simp; omega)), ((hbw.alloc hbw.size _).grown hgrow (by have := hbw.size; simp; omega) (fun r e => by have := ownsRow_block hown r e; omega)).setCell (p := ⟨w.heap.size, 2, none⟩) (by simp) _, fun j q1 q2 => (Below.heap_setCell _ _ _ _ (by simpa using q2)).trans ((hgrow.block j (by simp; omega) (fun e => by have := ownsRow_block hown _ e.symm; omega)).trans ((Below.heap_alloc w6 _ j (by omega)).trans (hFr j q1 q2))), by have := hgrow.size; simp [World.setCell] at this ⊢; omega⟩, by simp [intOf]; omega⟩)
            · obtain rfl : p = ⟨#[42, 42]⟩ := bytes_ext (by rw [← Lib.toList_data]; simpa using h2s)
              by_cases hlast : k + 1 = m
              · have hlb : ((k : Int) == (m : Int) + 1 - 2) = true := by simp; omega
                rw [h2s, show decide (k + 1 = m) = true by simpa using hlast] at hcmp
                simp only [Bool.and_self, if_true] at hcmp
                have HH := Lib.hid hcmp
                clear hcmp
                go_wp2
                refine ⟨⟨k + 1, acc, A', c', true, ⟨by go_num, by omega, by omega⟩, Lib.hid (.inr ⟨rfl, by rw [← HM.out]; exact hlast, HH.out⟩), Blk.set_ hB 3 (.bool true), ownsRow_same hown (fun j hj => Below.heap_setCell _ _ _ _ (by simp; omega)), hbw.setCell (p := ⟨w.heap.size, 3, none⟩) (by simp) _,
                  fun j q1 q2 => (Below.heap_setCell _ _ _ _ (by simpa using q2)).trans (hFr j q1 q2), by simp [World.setCell]; omega⟩, by simp [intOf]; omega⟩
              · have hlb : ((k : Int) == (m : Int) + 1 - 2) = false := by simp; omega
                have hnone : cmpL r [] = none := by
                  rw [hcmp, show decide (k + 1 = m) = false by simpa using hlast, partOk_stars]; simp
                have HW : Hid (∀ W, Calls Tryz.prog 140 #[.string ⟨#[42, 42]⟩] W (Ret W (.bool false))) := Lib.hid (fun W => by rw [← isWord_stars]; exact isWord_any ⟨#[42, 42]⟩ W (by decide))
                have HH : Hid (∀ W, Calls Tryz.prog 141 #[.string ⟨#[42, 42]⟩, .string ⟨#[42, 46]⟩] W fun e w' => e = .returned (.bool false) ∧ w' = W) := Lib.hid (fun W => Tryz.strings_HasPrefix ⟨#[42, 42]⟩ ⟨#[42, 46]⟩ W)
                have HNO := Lib.hid hnone; clear hnone hcmp
                go_wp2_with (first | (go_at_call 140; refine (HW.out _).mono ?_; rintro e w4 ⟨rfl, hb4⟩; replace hB : PBox w4 w.heap.size kd tx (.slice A' acc.length c') false := Blk.keep hB hb4; replace hown := ownsRow_keep hown hb4; replace hbw := hbw.trans (hb4.mono (by omega)); replace hFr : ∀ j, j < w3.heap.size → j ≠ w.heap.size → w4.heap[j]? = w3.heap[j]? := (fun j q1 q2 => (hb4.block j (by omega)).trans (hFr j q1 q2)); replace hzr : w3.heap.size ≤ w4.heap.size := Nat.le_trans hzr hb4.size; clear c0 c1 c2 c3 f0 f1 f2 f3; obtain ⟨c0, c1, c2, c3, f0, f1, f2, f3⟩ := hB.facts; clear HW) | (go_at_call 141; refine (HH.out _).mono ?_; rintro e w5 ⟨rfl, hw5⟩; rw [hw5]; clear hw5 w5))
                rw [HNO.out]; exact bodyPost_ret (v := .tuple #[.agg #[.int .i64 kd, .string tx, .slice A' acc.length c', .bool false], .bool false]) (by simp [results, Tryz.results72, go_sem, c0, c1, c2, c3]) rfl (CompPost.none_ _ _ _ _ _ _ belB)
        · obtain rfl : k = m := by omega
          go_wp2
          have hend : cmpL r [] = some (acc, tl) := (by rcases HC.out with ⟨h, e⟩ | ⟨h, _, e⟩; (rw [e, h, HM.out, List.drop_eq_nil_of_le (Nat.le_refl _), cmpL]); (rw [e, h])); rw [hend]; have hob : ∀ a, A' = some a → a.block ≠ w.heap.size := (fun a ha => by have := ownsRow_block hown a.block (by rw [ha]; rfl); omega); have hob2 : ∀ a, A' = some a → w.heap.size ≤ a.block := (fun a ha => by have := ownsRow_block hown a.block (by rw [ha]; rfl); omega); exact bodyPost_ret (v := .tuple #[.agg #[.int .i64 kd, .string tx, .slice A' acc.length c', .bool tl], .bool true]) (by simp [results, Tryz.results72, go_sem, c0, c1, c2, c3]) rfl ⟨belB, A', c', rfl, ((((Reads.of_own hown).set_ _ _ hob).set_ _ _ hob).set_ _ _ hob).set_ _ _ hob, hob2⟩
end Go.Proofs.YtjhlpkhfdghngaaGreatDoor
namespace Go.Proofs.YtjhlpkhfdghngaaGreatDoor
open Go.RowKit Go.Sort
set_option linter.unusedVariables false
set_option linter.unusedSimpArgs false
set_option maxRecDepth 100000
theorem valid_any (s : ByteArray) (w : World) (hs : s.size ≤ 100000) (hE : Env w) : Calls Tryz.prog 49 #[.string s] w (Ret w (.bool (compileB s).isSome)) := by
  have cC := compile_any s w hs hE
  generalize compileB s = r at *
  have HC := Lib.hid cC
  clear cC
  cases r with
  | none =>
    go_enter Tryz.func49, Tryz.ntmps49
    go_wp2_with (go_at_call 72; refine HC.out.mono ?_; rintro e w1 ⟨hb1, k, t, A, n, c, b, rfl⟩)
    go_ret
    exact ⟨rfl, belB⟩
  | some p =>
    go_enter Tryz.func49, Tryz.ntmps49
    go_wp2_with (go_at_call 72; refine HC.out.mono ?_; rintro e w1 ⟨hb1, A, c, rfl, hR⟩)
    go_ret
    exact ⟨rfl, belB⟩
theorem partCells_at (qs : List Part) : ∀ (k : Nat) (q : Part), qs[k]? = some q → (partCells qs)[k * 2]? = some (.int .i64 q.kind) ∧ (partCells qs)[k * 2 + 1]? = some (.string q.text) := by
  induction qs with
  | nil => intro k q h; simp at h
  | cons a qs ih =>
    intro k q h
    cases k with
    | zero => simp at h; subst h; simp [partCells]
    | succ k =>
      have := ih k q (by simpa using h)
      rw [show (k + 1) * 2 = k * 2 + 2 by omega]
      simpa [partCells] using this
def wordsL (ps : List Part) : List ByteArray := ps.map fun p => withP p.kind p.text ⟨#[97]⟩
def PartsOk (ps : List Part) : Prop := ∀ p ∈ ps, p.kind ≤ 2 ∧ p.text.size ≤ 100000
theorem lens_le' (B : Nat) : ∀ l : List (List UInt8), (∀ x ∈ l, x.length ≤ B) → Lib.lens l ≤ l.length * B
  | [], _ => by simp [Lib.lens]
  | x :: l, h => by
    have h1 := h x (by simp)
    have h2 := lens_le' B l (fun y hy => h y (by simp [hy]))
    simp only [Lib.lens, List.map_cons, List.sum_cons, List.length_cons] at h2 ⊢
    rw [Nat.succ_mul]
    omega
def joinS (ws : List ByteArray) : ByteArray := toB (Lib.join (lists ws) [47])
def strL (ps : List Part) : List ByteArray := ps.map fun p => stringP p.kind p.text
def patS (p : Pat) : ByteArray := joinS (stringP p.cust.kind p.cust.text :: strL p.parts ++ (if p.tail then [⟨#[42, 42]⟩] else []))
end Go.Proofs.YtjhlpkhfdghngaaGreatDoor
