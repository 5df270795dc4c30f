/- What words and names are: the program's isLetter, isWord and isName return what 'isWordB', 'isNameB' say. -/
import Derived.Test.YtocgkpdolgnbgaaGreatDoorPBase
import Derived.Test.YtocgkpdolgnbgaaGreatDoorPShelf
import Derived.Laws.RangeAny
import Derived.Test.YtocgkpdolgnbgaaGreatDoorProg
import Derived.WalkKit
import Derived.WalkSpells
import Derived.WalkLawsBesides
import Derived.Below
import Derived.Deep.QuietTactic
import Derived.BigQuiet
import Derived.Lib.QuietBelow
import Derived.Lib.Strings
import Derived.Lib.Hide
import Derived.Deep.RegionWith
import Derived.Deep.RegionHeld3
import Derived.Lib.IndexBytes
import Derived.LoopTactic
import Derived.Maps.Views
import Derived.Sort.KeysCollected
namespace Go.Proofs.YtocgkpdolgnbgaaGreatDoor
open Go.RowKit Go.Sort
set_option linter.unusedVariables false
set_option linter.unusedSimpArgs false
def isLetN (c : Nat) : Bool := decide (97 ≤ c ∧ c ≤ 122 ∨ 48 ≤ c ∧ c ≤ 57 ∨ c = 45 ∨ c = 95 ∨ c = 46)
def letterB (b : UInt8) : Bool := isLetN b.toNat
set_option maxHeartbeats 1000000 in
theorem isLetter_any (c : Nat) (w : World) : Calls Tryz.prog 172 #[.int .i32 c] w (Ret w (.bool (isLetN c))) := by
  go_enter Tryz.func172, Tryz.ntmps172
  go_wp2
  all_goals
    go_ret
    exact ⟨ret_bool (by first | (rw [Bool.eq_iff_iff]; simp [isLetN]; done) | (rw [Bool.eq_iff_iff]; simp [isLetN]; omega)), by (repeat (first | exact .refl _ _ | assumption | refine .drew ?_ | refine balloc ?_ _ | refine bdrewN ?_ _ | refine .setCell ?_ (by simp <;> omega) _ | refine bstep ?_ (by assumption)))⟩
theorem notLetter_any (c : Nat) (w : World) : Calls Tryz.prog 171 #[.int .i32 c] w (Ret w (.bool (!isLetN c))) := by
  go_enter Tryz.func171, Tryz.ntmps171
  go_wp2_with (go_at_call 172; refine (isLetter_any c _).mono ?_; rintro e w1 ⟨rfl, hb1⟩)
  go_ret
  exact ⟨rfl, by (repeat (first | exact .refl _ _ | assumption | refine .drew ?_ | refine balloc ?_ _ | refine bdrewN ?_ _ | refine .setCell ?_ (by simp <;> omega) _ | refine bstep ?_ (by assumption)))⟩
theorem idx_letters (s : ByteArray) : ∀ (f pos : Nat), s.size ≤ pos + f → decide (0 ≤ Lib.idxFuncFrom (fun c => !isLetN c) true s f pos) = (s.data.toList.drop pos).any (fun b => !letterB b)
  | 0, pos, h => by
    have : s.data.toList.drop pos = [] := List.drop_eq_nil_of_le (by rw [← Lib.size_eq]; omega)
    simp [Lib.idxFuncFrom, this]
  | f + 1, pos, h => by
    unfold Lib.idxFuncFrom
    by_cases hp : pos < s.size
    · have hl : pos < s.data.toList.length := by rw [← Lib.size_eq]; exact hp
      have hd : s.data.toList.drop pos = s.data.toList[pos] :: s.data.toList.drop (pos + 1) := List.drop_eq_getElem_cons hl
      have hb : s.data.toList[pos] = s[pos] := by simp; rfl
      rw [if_pos hp, hd, List.any_cons, hb]
      by_cases ha : (s[pos]'hp).toNat < 128
      · rw [Go.decode_ascii s pos hp ha]
        dsimp only
        cases hx : isLetN (s[pos]'hp).toNat
        · simp [letterB, hx]
        · have ih := idx_letters s f (pos + 1) (by omega)
          simp only [Bool.not_true, Bool.false_eq_true, if_false, ih, letterB, hx, Bool.false_or]
      · have h2 := Go.decode_high s pos hp (by omega)
        have h3 : isLetN (Utf8.decode s pos).1 = false := by simp only [isLetN, decide_eq_false_iff_not]; omega
        have h4 : isLetN (s[pos]'hp).toNat = false := by simp only [isLetN, decide_eq_false_iff_not]; omega
        simp [h3, letterB, h4]
    · have : s.data.toList.drop pos = [] := List.drop_eq_nil_of_le (by rw [← Lib.size_eq]; omega)
      simp [hp, this]
def isWordB (s : ByteArray) : Bool := !s.toList.isEmpty && decide (s.size ≤ 64) && !(s.toList == [46]) && !(s.toList == [46, 46]) && s.data.toList.all letterB
theorem containsNot (s : ByteArray) (w : World) : Calls Tryz.prog 170 #[.string s, .func (.func 171) #[] #[]] w (Ret w (.bool (!s.data.toList.all letterB))) := by
  refine (Tryz.strings_ContainsFunc_grows 171 #[] (enters_of Tryz.func171 (by kernel_rfl) rfl) (fun c => !isLetN c) s w ?_).mono ?_
  · intro W x _ _
    exact notLetter_any x W
  · rintro e w1 ⟨rfl, hb⟩
    refine ⟨ret_bool ?_, hb⟩
    have := idx_letters s s.size 0 (by omega)
    rw [Lib.idxFunc, this]
    simp [List.all_eq_not_any_not]
set_option maxHeartbeats 2000000 in
theorem isWord_any (s : ByteArray) (w : World) (hs : s.size ≤ 4294967281) : Calls Tryz.prog 133 #[.string s] w (Ret w (.bool (isWordB s))) := by
  by_cases h64 : s.size ≤ 64
  all_goals
    go_enter Tryz.func133, Tryz.ntmps133
    go_wp2_with (go_at_call 170; refine (containsNot s _).mono ?_; rintro e w1 ⟨rfl, hb1⟩)
    all_goals
      go_ret
      exact ⟨ret_bool (by simp [isWordB, *]), by (repeat (first | exact .refl _ _ | assumption | refine .drew ?_ | refine balloc ?_ _ | refine bdrewN ?_ _ | refine .setCell ?_ (by simp <;> omega) _ | refine bstep ?_ (by assumption)))⟩
def isNameB (s : ByteArray) : Bool := isWordB s && !decide (0 ≤ Lib.indexByte s.data.toList 46)
set_option maxHeartbeats 2000000 in
theorem isName_any (s : ByteArray) (w : World) (hs : s.size ≤ 4294967281) : Calls Tryz.prog 131 #[.string s] w (Ret w (.bool (isNameB s))) := by
  have c1 := fun W => isWord_any s W hs
  cases hw : isWordB s
  all_goals
    rw [hw] at c1
    go_enter Tryz.func131, Tryz.ntmps131
    go_wp2_with (first | (go_at_call 133; refine (c1 _).mono ?_; rintro e w1 ⟨rfl, hb1⟩) | (go_at_call 107; refine (Tryz.strings_Contains_one s 46 _).mono ?_; rintro e w2 ⟨rfl, rfl⟩))
    go_ret
    exact ⟨ret_bool (by simp [isNameB, hw]), by (repeat (first | exact .refl _ _ | assumption | refine .drew ?_ | refine balloc ?_ _ | refine bdrewN ?_ _ | refine .setCell ?_ (by simp <;> omega) _ | refine bstep ?_ (by assumption)))⟩
end Go.Proofs.YtocgkpdolgnbgaaGreatDoor
namespace Go.Proofs.YtocgkpdolgnbgaaGreatDoor
open Go.RowKit Go.Sort
set_option linter.unusedVariables false
set_option linter.unusedSimpArgs false
set_option maxRecDepth 100000
section
variable {α : Type}
def okK (lt : α → α → Bool) (right : α → Bool) (l : List α) (k : Nat) : Bool := match l[k]? with
  | none => true
  | some x => right x && (k == 0 || (match l[k - 1]? with
    | none => true
    | some y => lt y x))
def setB (lt : α → α → Bool) (right : α → Bool) (most : Nat) (l : List α) : Bool := (List.range l.length).all (okK lt right l) && decide (l.length ≤ most)
end
def ltB (a b : ByteArray) : Bool := decide (a.data.toList < b.data.toList)
def ltI (a b : Int) : Bool := decide (a < b)
def countryB (s : ByteArray) : Bool := decide (s.size = 2) && s.data.toList.all fun b => decide (97 ≤ b.toNat ∧ b.toNat ≤ 122)
def siteB (n : Int) : Bool := decide (0 ≤ n ∧ n < 64)
structure CondV where
  fr : Int
  till : Int
  pat : ByteArray
  cl : List ByteArray
  co : List ByteArray
  si : List Int
  us : Int
def zeroC : CondV := ⟨0, 0, ⟨#[]⟩, [], [], [], 0⟩
end Go.Proofs.YtocgkpdolgnbgaaGreatDoor
namespace Go.Proofs.YtocgkpdolgnbgaaGreatDoor
open Go.RowKit Go.Sort
set_option linter.unusedVariables false
set_option linter.unusedSimpArgs false
theorem strs_at {xs : List ByteArray} {k : Nat} {u : Value} (h : (xs.map Value.string)[k]? = some u) : ∃ x, xs[k]? = some x ∧ u = .string x := by
  rw [List.getElem?_map, Option.map_eq_some_iff] at h
  obtain ⟨x, hx, rfl⟩ := h
  exact ⟨x, hx, rfl⟩
end Go.Proofs.YtocgkpdolgnbgaaGreatDoor
namespace Go.Proofs.YtocgkpdolgnbgaaGreatDoor
open Go.Maps Go.Sort
set_option linter.unusedVariables false
theorem lt_tri (a b : List UInt8) (h1 : a ≠ b) (h2 : ¬ a < b) : b < a := by
  rcases Decidable.em (b < a) with h | h
  · exact h
  · exact absurd (List.le_antisymm (List.not_lt.1 h) (List.not_lt.1 h2)) h1
end Go.Proofs.YtocgkpdolgnbgaaGreatDoor
