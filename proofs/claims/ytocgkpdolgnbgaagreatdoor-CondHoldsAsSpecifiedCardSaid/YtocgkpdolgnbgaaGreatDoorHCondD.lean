/- Plain: sets in ascending order, countries, sites. -/
import Derived.Test.YtocgkpdolgnbgaaGreatDoorHWords
import Derived.Test.YtocgkpdolgnbgaaGreatDoorProg
import Derived.WalkKit
import Derived.WalkSpells
import Derived.WalkLawsBesides
import Derived.Below
import Derived.Deep.QuietTactic
import Derived.BigQuiet
import Derived.Lib.QuietBelow
import Derived.Lib.Strings
import Derived.Lib.Hide
import Derived.Deep.RegionWith
import Derived.Deep.RegionHeld3
import Derived.Lib.IndexBytes
namespace Go.Proofs.YtocgkpdolgnbgaaGreatDoor
open Go.RowKit Go.Sort
set_option linter.unusedVariables false
set_option linter.unusedSimpArgs false
set_option maxRecDepth 100000
section
variable {α : Type}
def okK (lt : α → α → Bool) (right : α → Bool) (l : List α) (k : Nat) : Bool := match l[k]? with
  | none => true
  | some x => right x && (k == 0 || (match l[k - 1]? with
    | none => true
    | some y => lt y x))
def setB (lt : α → α → Bool) (right : α → Bool) (most : Nat) (l : List α) : Bool := (List.range l.length).all (okK lt right l) && decide (l.length ≤ most)
end
def ltB (a b : ByteArray) : Bool := decide (a.data.toList < b.data.toList)
def ltI (a b : Int) : Bool := decide (a < b)
def countryB (s : ByteArray) : Bool := decide (s.size = 2) && s.data.toList.all fun b => decide (97 ≤ b.toNat ∧ b.toNat ≤ 122)
def siteB (n : Int) : Bool := decide (0 ≤ n ∧ n < 64)
structure CondV where
  fr : Int
  till : Int
  pat : ByteArray
  cl : List ByteArray
  co : List ByteArray
  si : List Int
  us : Int
def zeroC : CondV := ⟨0, 0, ⟨#[]⟩, [], [], [], 0⟩
end Go.Proofs.YtocgkpdolgnbgaaGreatDoor
