/- What 'Split', 'HasTag' and 'Under' return. -/
import Derived.Test.YtocgkpdolgnbgaaGreatDoorHSorted
import Derived.Test.YtocgkpdolgnbgaaGreatDoorHPairs
import Derived.Test.YtocgkpdolgnbgaaGreatDoorHWrite
import Derived.Lib.Join
import Derived.Lib.SlicesCompact
import Derived.Lib.RowBridge
import Derived.Test.YtocgkpdolgnbgaaGreatDoorProg
import Derived.WalkKit
import Derived.WalkSpells
import Derived.WalkLawsBesides
import Derived.Below
import Derived.Deep.QuietTactic
import Derived.BigQuiet
import Derived.Lib.QuietBelow
import Derived.Lib.Strings
import Derived.Lib.Hide
import Derived.Deep.RegionWith
import Derived.Deep.RegionHeld3
import Derived.Lib.IndexBytes
import Derived.Test.YtocgkpdolgnbgaaGreatDoorHCanon
import Derived.Lib.Split
import Derived.Lib.CountLaws
namespace Go.Proofs.YtocgkpdolgnbgaaGreatDoor
open Go.RowKit Go.Sort
set_option linter.unusedVariables false
set_option linter.unusedSimpArgs false
set_option maxRecDepth 100000
theorem split_eq (c : UInt8) : ∀ (k : Nat) (s : ByteArray), Lib.countB s ⟨#[c]⟩ = k → Lib.splitB ⟨#[c]⟩ 0 k s = splitB c s
  | k, s, h => by
    have hidx : Lib.indexB s ⟨#[c]⟩ = Lib.indexByte s.data.toList c := Lib.index_one s.data.toList c
    by_cases hm : Lib.indexB s ⟨#[c]⟩ = -1
    · rw [Lib.splitB_miss _ _ _ _ hm, splitB_miss c s (by omega)]
    · have hge := Lib.index_ge s.data.toList [c]
      obtain ⟨i, hi⟩ : ∃ i : Nat, Lib.indexB s ⟨#[c]⟩ = i := by
        have : Lib.indexB s ⟨#[c]⟩ = Lib.index s.data.toList [c] := rfl
        exact ⟨(Lib.indexB s ⟨#[c]⟩).toNat, by omega⟩
      have hcount := Lib.countB_hit s ⟨#[c]⟩ i (Nat.le_refl _) hi
      cases k with
      | zero => omega
      | succ k =>
        rw [Lib.splitB_hit _ _ _ _ i hi, (splitB_hit c s i (by rw [← hidx]; exact hi)).1]
        rw [show i + 0 = i from rfl]
        congr 1
        exact split_eq c k _ (by omega)
theorem count_split (c : UInt8) (s : ByteArray) : Lib.countB s ⟨#[c]⟩ + 1 = (splitB c s).length := by
  rw [← split_eq c _ s rfl]
  exact (Lib.splitB_all ⟨#[c]⟩ (Nat.le_refl _) 0 _ s rfl).symm
theorem reads_new (w : World) (t : TypeId) (vs : List Value) (n : Nat) (hn : vs.length = n) : Reads (w.alloc (.cells vs.toArray t)) 1 (some ⟨w.heap.size, 0, none⟩) n vs :=
  ⟨by omega, fun _ => ⟨_, _, rfl, fun j u hu => by
    have := World.news_of_block (w := w.alloc (.cells vs.toArray t)) (World.alloc_heap_new w (.cells vs.toArray t)) j u (by simpa using hu)
    have hadd : (⟨w.heap.size, 0, none⟩ : Addr).add j = ⟨w.heap.size, 0 + j, none⟩ := by unfold Addr.add; split <;> simp_all
    rw [hadd] at this; exact this⟩⟩
def ListPost (ps : List ByteArray) (w : World) (e : Ending) (w' : World) : Prop := Below w.heap.size w w' ∧ ∃ A c, e = .returned (.slice A ps.length c) ∧ Reads w' 1 A ps.length (ps.map .string) ∧ (∀ a, A = some a → w.heap.size ≤ a.block) ∧ ps.length ≤ c
theorem split_any (s : ByteArray) (c : UInt8) (w : World) (hs : s.size ≤ 4294967200) (hE : Env w) : Calls Tryz.prog 60 #[.string s, .string ⟨#[c]⟩] w (ListPost (splitB c s) w) := by
  obtain ⟨m, hm⟩ := hE
  refine (Tryz.strings_Split s ⟨#[c]⟩ m w (by omega) hm (Nat.le_refl _)).mono ?_
  rintro e w' ⟨rfl, rfl⟩
  rw [count_split, split_eq c _ s rfl]
  exact ⟨balloc (Below.refl _ _) _, _, _, rfl, reads_new _ _ _ _ (by simp), fun a ha => by injection ha with ha; subst ha; exact Nat.le_refl _, Nat.le_refl _⟩
def SplitPost (r : List ByteArray × Int) (w : World) (e : Ending) (w' : World) : Prop := Below w.heap.size w w' ∧ ∃ A c, e = .returned (.tuple #[.slice A r.1.length c, .int .i64 r.2]) ∧ Reads w' 1 A r.1.length (r.1.map .string)
theorem SplitPost.none_ {w w' : World} {er : Int} (hb : Below w.heap.size w w') : SplitPost ([], er) w (.returned (.tuple #[.slice none 0 0, .int .i64 er])) w' := ⟨hb, none, 0, rfl, Reads.nil_ _ _ _⟩
end Go.Proofs.YtocgkpdolgnbgaaGreatDoor
