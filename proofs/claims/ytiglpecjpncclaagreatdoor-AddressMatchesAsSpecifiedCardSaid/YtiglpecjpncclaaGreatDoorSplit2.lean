/- What 'Split', 'HasTag' and 'Under' return. -/
import Derived.Test.YtiglpecjpncclaaGreatDoorTags
import Derived.Test.YtiglpecjpncclaaGreatDoorCanon
import Derived.Lib.Split
import Derived.Lib.CountLaws
import Derived.Test.YtiglpecjpncclaaGreatDoorProg
import Derived.WalkKit
import Derived.WalkSpells
import Derived.WalkLawsBesides
import Derived.Below
import Derived.Deep.QuietTactic
import Derived.BigQuiet
import Derived.Lib.QuietBelow
import Derived.Lib.Strings
import Derived.Lib.Hide
import Derived.Deep.RegionWith
import Derived.Deep.RegionHeld3
import Derived.Lib.IndexBytes
namespace Go.Proofs.YtiglpecjpncclaaGreatDoor
open Go.RowKit Go.Sort
set_option linter.unusedVariables false
set_option linter.unusedSimpArgs false
set_option maxRecDepth 100000
theorem split_eq (c : UInt8) : ∀ (k : Nat) (s : ByteArray), Lib.countB s ⟨#[c]⟩ = k → Lib.splitB ⟨#[c]⟩ 0 k s = splitB c s
  | k, s, h => by
    have hidx : Lib.indexB s ⟨#[c]⟩ = Lib.indexByte s.data.toList c := Lib.index_one s.data.toList c
    by_cases hm : Lib.indexB s ⟨#[c]⟩ = -1
    · rw [Lib.splitB_miss _ _ _ _ hm, splitB_miss c s (by omega)]
    · have hge := Lib.index_ge s.data.toList [c]
      obtain ⟨i, hi⟩ : ∃ i : Nat, Lib.indexB s ⟨#[c]⟩ = i := by
        have : Lib.indexB s ⟨#[c]⟩ = Lib.index s.data.toList [c] := rfl
        exact ⟨(Lib.indexB s ⟨#[c]⟩).toNat, by omega⟩
      have hcount := Lib.countB_hit s ⟨#[c]⟩ i (Nat.le_refl _) hi
      cases k with
      | zero => omega
      | succ k =>
        rw [Lib.splitB_hit _ _ _ _ i hi, (splitB_hit c s i (by rw [← hidx]; exact hi)).1]
        rw [show i + 0 = i from rfl]
        congr 1
        exact split_eq c k _ (by omega)
theorem count_split (c : UInt8) (s : ByteArray) : Lib.countB s ⟨#[c]⟩ + 1 = (splitB c s).length := by
  rw [← split_eq c _ s rfl]
  exact (Lib.splitB_all ⟨#[c]⟩ (Nat.le_refl _) 0 _ s rfl).symm
theorem reads_new (w : World) (t : TypeId) (vs : List Value) (n : Nat) (hn : vs.length = n) : Reads (w.alloc (.cells vs.toArray t)) 1 (some ⟨w.heap.size, 0, none⟩) n vs :=
  ⟨by omega, fun _ => ⟨_, _, rfl, fun j u hu => by
    have := World.news_of_block (w := w.alloc (.cells vs.toArray t)) (World.alloc_heap_new w (.cells vs.toArray t)) j u (by simpa using hu)
    have hadd : (⟨w.heap.size, 0, none⟩ : Addr).add j = ⟨w.heap.size, 0 + j, none⟩ := by unfold Addr.add; split <;> simp_all
    rw [hadd] at this; exact this⟩⟩
def ListPost (ps : List ByteArray) (w : World) (e : Ending) (w' : World) : Prop := Below w.heap.size w w' ∧ ∃ A c, e = .returned (.slice A ps.length c) ∧ Reads w' 1 A ps.length (ps.map .string) ∧ (∀ a, A = some a → w.heap.size ≤ a.block) ∧ ps.length ≤ c
theorem split_any (s : ByteArray) (c : UInt8) (w : World) (hs : s.size ≤ 4294967200) (hE : Env w) : Calls Tryz.prog 65 #[.string s, .string ⟨#[c]⟩] w (ListPost (splitB c s) w) := by
  obtain ⟨m, hm⟩ := hE
  refine (Tryz.strings_Split s ⟨#[c]⟩ m w (by omega) hm (Nat.le_refl _)).mono ?_
  rintro e w' ⟨rfl, rfl⟩
  rw [count_split, split_eq c _ s rfl]
  exact ⟨balloc (Below.refl _ _) _, _, _, rfl, reads_new _ _ _ _ (by simp), fun a ha => by injection ha with ha; subst ha; exact Nat.le_refl _, Nat.le_refl _⟩
def splitR (s : ByteArray) : List ByteArray × Int :=
  if s.toList.isEmpty then ([], 0) else if (tagsR (splitB 44 s)).2 = 0 ∧ ((tagsR (splitB 44 s)).1.toList == s.toList) = true then (splitB 44 s, 0) else ([], 3)
def SplitPost (r : List ByteArray × Int) (w : World) (e : Ending) (w' : World) : Prop := Below w.heap.size w w' ∧ ∃ A c, e = .returned (.tuple #[.slice A r.1.length c, .int .i64 r.2]) ∧ Reads w' 1 A r.1.length (r.1.map .string)
theorem SplitPost.none_ {w w' : World} {er : Int} (hb : Below w.heap.size w w') : SplitPost ([], er) w (.returned (.tuple #[.slice none 0 0, .int .i64 er])) w' := ⟨hb, none, 0, rfl, Reads.nil_ _ _ _⟩
theorem tagsR_err (ps : List ByteArray) : (tagsR ps).2 = 0 ∨ (tagsR ps).2 = 1 ∨ (tagsR ps).2 = 2 := by
  unfold tagsR; split <;> (try split) <;> simp
set_option maxHeartbeats 2000000 in
theorem addrSplit_any (s : ByteArray) (w : World) (hs : s.size ≤ 100000) (hE : Env w) : Calls Tryz.prog 21 #[.string s] w (SplitPost (splitR s) w) := by
  cases hem : s.toList.isEmpty
  · have hr : splitR s = if (tagsR (splitB 44 s)).2 = 0 ∧ ((tagsR (splitB 44 s)).1.toList == s.toList) = true then (splitB 44 s, 0) else ([], 3) := by
      unfold splitR; rw [if_neg (by simp [hem])]
    rw [hr]
    have cS := split_any s 44 w (by omega) hE
    have hnum := splitB_num 44 s
    have hsz := splitB_size 44 s
    have herr := tagsR_err (splitB 44 s)
    have cT := fun A c W h => tags_any A (splitB 44 s).length c (splitB 44 s) W h (by omega) (fun p hp => by have := hsz p hp; omega)
    unfold tagsV at cT
    generalize splitB 44 s = ps at *
    generalize tagsR ps = r at *
    obtain ⟨T, er⟩ := r
    dsimp only at *
    have HT := Lib.hid cT
    have HS := Lib.hid cS
    clear cT cS hr
    have walkbad : ∀ V, V = SplitPost ([], 3) w → (er = 0 → (T.toList == s.toList) = false) → Calls Tryz.prog 21 #[.string s] w V := by
      intro V hV h
      have HV := Lib.hid hV
      rcases herr with rfl | rfl | rfl
      · have h := h rfl
        go_enter Tryz.func21, Tryz.ntmps21
        go_wp2_with (first | (go_at_call 65; refine HS.out.mono ?_; rintro e w1 ⟨hb1, A, c, rfl, hR, hA⟩) | (go_at_call 19; refine (HT.out _ _ _ hR).mono ?_; rintro e w2 ⟨rfl, hb2⟩))
        rw [HV.out]; exact SplitPost.none_ (by (repeat (first | exact Below.refl _ _ | assumption | refine Below.drew ?_ | refine balloc ?_ _ | refine bdrewN ?_ _ | refine Below.setCell ?_ (by first | (simp; done) | (simp; omega)) _ | refine bstep ?_ (by assumption))))
      all_goals
        go_enter Tryz.func21, Tryz.ntmps21
        go_wp2_with (first | (go_at_call 65; refine HS.out.mono ?_; rintro e w1 ⟨hb1, A, c, rfl, hR, hA⟩) | (go_at_call 19; refine (HT.out _ _ _ hR).mono ?_; rintro e w2 ⟨rfl, hb2⟩))
        rw [HV.out]; exact SplitPost.none_ (by (repeat (first | exact Below.refl _ _ | assumption | refine Below.drew ?_ | refine balloc ?_ _ | refine bdrewN ?_ _ | refine Below.setCell ?_ (by first | (simp; done) | (simp; omega)) _ | refine bstep ?_ (by assumption))))
    by_cases hok : er = 0 ∧ (T.toList == s.toList) = true
    · rw [if_pos hok]
      obtain ⟨rfl, he⟩ := hok
      generalize hV : SplitPost (ps, 0) w = V
      have HV := Lib.hid hV
      clear hV
      go_enter Tryz.func21, Tryz.ntmps21
      go_wp2_with (first | (go_at_call 65; refine HS.out.mono ?_; rintro e w1 ⟨hb1, A, c, rfl, hR, hA⟩) | (go_at_call 19; refine (HT.out _ _ _ hR).mono ?_; rintro e w2 ⟨rfl, hb2⟩))
      rw [← HV.out]; exact ⟨by (repeat (first | exact Below.refl _ _ | assumption | refine Below.drew ?_ | refine balloc ?_ _ | refine bdrewN ?_ _ | refine Below.setCell ?_ (by first | (simp; done) | (simp; omega)) _ | refine bstep ?_ (by assumption))), A, c, rfl, hR.keep hb2⟩
    · rw [if_neg hok]
      exact walkbad _ rfl (fun h0 => by simpa [h0] using hok)
  · have hr : splitR s = ([], 0) := by unfold splitR; rw [if_pos hem]
    rw [hr]
    go_enter Tryz.func21, Tryz.ntmps21
    go_wp2
    go_ret2
    exact SplitPost.none_ (by (repeat (first | exact Below.refl _ _ | assumption | refine Below.drew ?_ | refine balloc ?_ _ | refine bdrewN ?_ _ | refine Below.setCell ?_ (by first | (simp; done) | (simp; omega)) _ | refine bstep ?_ (by assumption))))
def hasTagB (s tag : ByteArray) : Bool := Lib.containsS (splitR s).1 tag
theorem hasTag_any (s tag : ByteArray) (w : World) (hs : s.size ≤ 100000) (hE : Env w) : Calls Tryz.prog 24 #[.string s, .string tag] w (Ret w (.bool (hasTagB s tag))) := by
  have cS := addrSplit_any s w hs hE
  unfold hasTagB
  have hlen : (splitR s).1.length ≤ 200000 := by
    unfold splitR
    have := splitB_num 44 s
    split
    · simp
    · split
      · simp; omega
      · simp
  generalize splitR s = r at *
  obtain ⟨ps, er⟩ := r
  dsimp only at *
  have HS := Lib.hid cS
  clear cS
  have cK : ∀ (A : Option Addr) (c : Nat) (W : World), Reads W 1 A ps.length (ps.map .string) → Calls Tryz.prog 66 #[.slice A ps.length c, .string tag] W (Ret W (.bool (Lib.containsS ps tag))) := by
    intro A c W hR
    by_cases h0 : ps = []
    · subst h0
      refine (Tryz.slices_Contains_string_empty A c tag W).mono ?_
      rintro e w' ⟨rfl, rfl⟩
      exact ⟨rfl, Below.refl _ _⟩
    · obtain ⟨b, o, rfl, hc⟩ := hR.2 (List.length_pos_iff.2 h0)
      have := Tryz.slices_Contains_string b o ps.length c ps tag W (Nat.le_refl _) (by omega) (fun j hj => by
        refine hc j _ ?_
        rw [List.getElem?_map, List.getElem?_eq_getElem hj]
        simp [List.getD_eq_getElem?_getD, List.getElem?_eq_getElem hj])
      refine this.mono ?_
      rintro e w' ⟨rfl, rfl⟩
      rw [List.take_length]
      exact ⟨rfl, Below.refl _ _⟩
  have HK := Lib.hid cK
  clear cK
  generalize Lib.containsS ps tag = res at *
  go_enter Tryz.func24, Tryz.ntmps24
  go_wp2_with (first | (go_at_call 21; refine HS.out.mono ?_; rintro e w1 ⟨hb1, A, c, rfl, hR⟩) | (go_at_call 66; refine (HK.out _ _ _ hR).mono ?_; rintro e w2 ⟨rfl, hb2⟩))
  go_ret
  exact ⟨rfl, by (repeat (first | exact Below.refl _ _ | assumption | refine Below.drew ?_ | refine balloc ?_ _ | refine bdrewN ?_ _ | refine Below.setCell ?_ (by first | (simp; done) | (simp; omega)) _ | refine bstep ?_ (by assumption)))⟩
/-- Is the address that the first text writes a prefix of that of the second one? -/
def underB (p a : ByteArray) : Bool :=
  readB p && readB a && !decide (0 < (parseB p).1.query.length) && (Lib.hasPrefix a.data.toList p.data.toList && ((a.data.toList.drop p.size).isEmpty || (a.data.toList.drop p.size).head? == some 47 || (a.data.toList.drop p.size).head? == some 63))
theorem byte_beq (b : UInt8) (c : Nat) (hc : c < 256) : ((b.toNat : Int) == (c : Int)) = (some b == some (UInt8.ofNat c)) := by
  rw [Bool.eq_iff_iff, beq_iff_eq, beq_iff_eq, Option.some_inj, ← UInt8.toNat_inj, UInt8.toNat_ofNat']
  omega
theorem under_bytes (b : UInt8) : ((b.toNat : Int) == 47 || (b.toNat : Int) == 63) = (some b == some 47 || some b == some 63) := by
  have h1 := byte_beq b 47 (by omega)
  have h2 := byte_beq b 63 (by omega)
  rw [show ((b.toNat : Int) == 47) = _ from h1, show ((b.toNat : Int) == 63) = _ from h2]
  rfl
set_option maxHeartbeats 2000000 in
theorem under_any (p a : ByteArray) (w : World) (hp : p.size ≤ 4294967281) (ha : a.size ≤ 4294967281) (hE : Env w) : Calls Tryz.prog 26 #[.string p, .string a] w (Ret w (.bool (underB p a))) := by
  have c1 := fun W h => read_any p W hp h
  have c2 := fun W h => read_any a W ha h
  have c3 := fun W => Tryz.strings_CutPrefix a p W
  unfold underB
  have hql := parse_bound p
  have hrest : Lib.hasPrefix a.data.toList p.data.toList = true → Lib.trimPrefix a.data.toList p.data.toList = a.data.toList.drop p.size := by
    intro h
    unfold Lib.trimPrefix
    rw [if_pos h, Lib.size_eq]
  have hR : (Lib.trimPrefix a.data.toList p.data.toList).length ≤ 4294967281 := by
    unfold Lib.trimPrefix
    have hz := Lib.size_eq a
    split
    · rw [List.length_drop]; omega
    · omega
  have hql2 : (parseB p).1.query.length ≤ 100000 := by
    rcases parse_errno p with h | h | h
    · have := (parse_good p h).pairs; omega
    all_goals rw [parse_err p (by omega)]; simp [noAdr]
  generalize readB p = k1 at *
  generalize readB a = k2 at *
  generalize (parseB p).1 = x at *
  generalize (parseB a).1 = y at *
  generalize Lib.hasPrefix a.data.toList p.data.toList = hp2 at *
  have hv : ∀ R, Lib.trimPrefix a.data.toList p.data.toList = R → (k1 && k2 && !decide (0 < x.query.length) && (hp2 && ((a.data.toList.drop p.size).isEmpty || (a.data.toList.drop p.size).head? == some 47 || (a.data.toList.drop p.size).head? == some 63))) =
      (k1 && k2 && !decide (0 < x.query.length) && (hp2 && (R.isEmpty || R.head? == some 47 || R.head? == some 63))) := by
    intro R hR
    cases hp2
    · simp
    · rw [← hR, hrest rfl]
  rw [hv _ rfl]
  clear hv hrest
  generalize Lib.trimPrefix a.data.toList p.data.toList = R at *
  obtain ⟨nq, hnq⟩ : ∃ nq, nq = x.query.length := ⟨_, rfl⟩
  rw [← hnq] at hql2 ⊢
  have H1 : Hid (∀ W, Env W → Calls Tryz.prog 67 #[.string p] W fun e w' => ∃ A ca B cb, e = .returned (.tuple #[.agg #[.string x.cust, .slice A x.path.length ca, .slice B nq cb], .bool k1]) ∧ Below W.heap.size W w') := Lib.hid (fun W h => (c1 W h).mono (by
    rintro e w' ⟨hb, A, ca, B, cb, rfl, _, _⟩; rw [hnq]; exact ⟨A, ca, B, cb, rfl, hb⟩))
  have H2 : Hid (∀ W, Env W → Calls Tryz.prog 67 #[.string a] W fun e w' => ∃ A ca B cb, e = .returned (.tuple #[.agg #[.string y.cust, .slice A y.path.length ca, .slice B y.query.length cb], .bool k2]) ∧ Below W.heap.size W w') := Lib.hid (fun W h => (c2 W h).mono (by
    rintro e w' ⟨hb, A, ca, B, cb, rfl, _, _⟩; exact ⟨A, ca, B, cb, rfl, hb⟩))
  have H3 := Lib.hid c3
  clear c1 c2 c3 hql hnq
  cases k1
  · simp only [Bool.false_and]
    go_enter Tryz.func26, Tryz.ntmps26
    go_wp2_with (first | (go_at_call 67; refine (H1.out _ hE).mono ?_; rintro e w1 ⟨A, ca, B, cb, rfl, hb1⟩; have hE1 := Env.keep (Env.keep hE hb1) (balloc (Below.refl _ _) (.cells #[.string x.cust, .slice A x.path.length ca, .slice B nq cb] 25)); clear hE) | (go_at_call 67; refine (H2.out _ hE1).mono ?_; rintro e w2 ⟨A2, ca2, B2, cb2, rfl, hb2⟩; obtain ⟨hc2, hf2⟩ := bcell hb2; have hz2 : w1.heap.size < w2.heap.size := (by have := hb2.size; simp at this; omega); clear hE1))
    go_ret
    exact ⟨rfl, by (repeat (first | exact Below.refl _ _ | assumption | refine Below.drew ?_ | refine balloc ?_ _ | refine bdrewN ?_ _ | refine Below.setCell ?_ (by first | (simp; done) | (simp; omega)) _ | refine bstep ?_ (by assumption)))⟩
  cases k2
  · simp only [Bool.and_false, Bool.false_and]
    go_enter Tryz.func26, Tryz.ntmps26
    go_wp2_with (first | (go_at_call 67; refine (H1.out _ hE).mono ?_; rintro e w1 ⟨A, ca, B, cb, rfl, hb1⟩; have hE1 := Env.keep (Env.keep hE hb1) (balloc (Below.refl _ _) (.cells #[.string x.cust, .slice A x.path.length ca, .slice B nq cb] 25)); clear hE) | (go_at_call 67; refine (H2.out _ hE1).mono ?_; rintro e w2 ⟨A2, ca2, B2, cb2, rfl, hb2⟩; obtain ⟨hc2, hf2⟩ := bcell hb2; have hz2 : w1.heap.size < w2.heap.size := (by have := hb2.size; simp at this; omega); clear hE1))
    go_ret
    exact ⟨rfl, by (repeat (first | exact Below.refl _ _ | assumption | refine Below.drew ?_ | refine balloc ?_ _ | refine bdrewN ?_ _ | refine Below.setCell ?_ (by first | (simp; done) | (simp; omega)) _ | refine bstep ?_ (by assumption)))⟩
  by_cases h0 : 0 < nq
  · have hd : decide ((0 : Int) < (nq : Int)) = true := by simp; omega
    rw [show decide (0 < nq) = true by simpa using h0]
    simp only [Bool.and_self, Bool.not_true, Bool.and_false, Bool.false_and]
    go_enter Tryz.func26, Tryz.ntmps26
    go_wp2_with (first | (go_at_call 67; refine (H1.out _ hE).mono ?_; rintro e w1 ⟨A, ca, B, cb, rfl, hb1⟩; have hE1 := Env.keep (Env.keep hE hb1) (balloc (Below.refl _ _) (.cells #[.string x.cust, .slice A x.path.length ca, .slice B nq cb] 25)); clear hE) | (go_at_call 67; refine (H2.out _ hE1).mono ?_; rintro e w2 ⟨A2, ca2, B2, cb2, rfl, hb2⟩; obtain ⟨hc2, hf2⟩ := bcell hb2; have hz2 : w1.heap.size < w2.heap.size := (by have := hb2.size; simp at this; omega); clear hE1))
    go_ret
    exact ⟨rfl, by (repeat (first | exact Below.refl _ _ | assumption | refine Below.drew ?_ | refine balloc ?_ _ | refine bdrewN ?_ _ | refine Below.setCell ?_ (by first | (simp; done) | (simp; omega)) _ | refine bstep ?_ (by assumption)))⟩
  have hd : decide ((0 : Int) < (nq : Int)) = false := by simp; omega
  rw [show decide (0 < nq) = false by simpa using h0]
  simp only [Bool.and_self, Bool.not_false, Bool.true_and]
  cases hp2
  · simp only [Bool.false_and]
    go_enter Tryz.func26, Tryz.ntmps26
    go_wp2_with (first | (go_at_call 67; refine (H1.out _ hE).mono ?_; rintro e w1 ⟨A, ca, B, cb, rfl, hb1⟩; have hE1 := Env.keep (Env.keep hE hb1) (balloc (Below.refl _ _) (.cells #[.string x.cust, .slice A x.path.length ca, .slice B nq cb] 25)); clear hE) | (go_at_call 67; refine (H2.out _ hE1).mono ?_; rintro e w2 ⟨A2, ca2, B2, cb2, rfl, hb2⟩; obtain ⟨hc2, hf2⟩ := bcell hb2; have hz2 : w1.heap.size < w2.heap.size := (by have := hb2.size; simp at this; omega); clear hE1) | (go_at_call 68; refine (H3.out _).mono ?_; rintro e w3 ⟨rfl, hw3⟩; rw [hw3]; clear hw3 w3))
    go_ret
    exact ⟨rfl, by (repeat (first | exact Below.refl _ _ | assumption | refine Below.drew ?_ | refine balloc ?_ _ | refine bdrewN ?_ _ | refine Below.setCell ?_ (by first | (simp; done) | (simp; omega)) _ | refine bstep ?_ (by assumption)))⟩
  cases R with
  | nil =>
    go_enter Tryz.func26, Tryz.ntmps26
    go_wp2_with (first | (go_at_call 67; refine (H1.out _ hE).mono ?_; rintro e w1 ⟨A, ca, B, cb, rfl, hb1⟩; have hE1 := Env.keep (Env.keep hE hb1) (balloc (Below.refl _ _) (.cells #[.string x.cust, .slice A x.path.length ca, .slice B nq cb] 25)); clear hE) | (go_at_call 67; refine (H2.out _ hE1).mono ?_; rintro e w2 ⟨A2, ca2, B2, cb2, rfl, hb2⟩; obtain ⟨hc2, hf2⟩ := bcell hb2; have hz2 : w1.heap.size < w2.heap.size := (by have := hb2.size; simp at this; omega); clear hE1) | (go_at_call 68; refine (H3.out _).mono ?_; rintro e w3 ⟨rfl, hw3⟩; rw [hw3]; clear hw3 w3))
    go_ret
    exact ⟨rfl, by (repeat (first | exact Below.refl _ _ | assumption | refine Below.drew ?_ | refine balloc ?_ _ | refine bdrewN ?_ _ | refine Below.setCell ?_ (by first | (simp; done) | (simp; omega)) _ | refine bstep ?_ (by assumption)))⟩
  | cons b r =>
    simp only [Bool.true_and, List.isEmpty_cons, Bool.false_or, List.head?_cons]
    go_enter Tryz.func26, Tryz.ntmps26
    go_wp2_with (first | (go_at_call 67; refine (H1.out _ hE).mono ?_; rintro e w1 ⟨A, ca, B, cb, rfl, hb1⟩; have hE1 := Env.keep (Env.keep hE hb1) (balloc (Below.refl _ _) (.cells #[.string x.cust, .slice A x.path.length ca, .slice B nq cb] 25)); clear hE) | (go_at_call 67; refine (H2.out _ hE1).mono ?_; rintro e w2 ⟨A2, ca2, B2, cb2, rfl, hb2⟩; obtain ⟨hc2, hf2⟩ := bcell hb2; have hz2 : w1.heap.size < w2.heap.size := (by have := hb2.size; simp at this; omega); clear hE1) | (go_at_call 68; refine (H3.out _).mono ?_; rintro e w3 ⟨rfl, hw3⟩; rw [hw3]; clear hw3 w3))
    all_goals
      go_ret
      refine ⟨ret_bool ?_, by (repeat (first | exact Below.refl _ _ | assumption | refine Below.drew ?_ | refine balloc ?_ _ | refine bdrewN ?_ _ | refine Below.setCell ?_ (by first | (simp; done) | (simp; omega)) _ | refine bstep ?_ (by assumption)))⟩
      rw [← under_bytes]
      first | rfl | (rename_i hh; have hh2 : (b.toNat : Int) = 47 := hh; rw [hh2]; rfl)

end Go.Proofs.YtiglpecjpncclaaGreatDoor
