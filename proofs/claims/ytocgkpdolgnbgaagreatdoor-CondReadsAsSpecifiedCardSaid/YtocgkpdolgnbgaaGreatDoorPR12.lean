/- What the specification's Meet of conditions returns. -/
import Derived.Test.YtocgkpdolgnbgaaGreatDoorPGI
import Derived.Test.YtocgkpdolgnbgaaGreatDoorPJA
import Derived.Test.YtocgkpdolgnbgaaGreatDoorProg
import Derived.WalkKit
import Derived.WalkSpells
import Derived.WalkLawsBesides
import Derived.Below
import Derived.Deep.QuietTactic
import Derived.BigQuiet
import Derived.Lib.QuietBelow
import Derived.Lib.Strings
import Derived.Lib.Hide
import Derived.Deep.RegionWith
import Derived.Deep.RegionHeld3
import Derived.Lib.IndexBytes
import Derived.Test.YtocgkpdolgnbgaaGreatDoorPGK
import Derived.Test.YtocgkpdolgnbgaaGreatDoorPJD
import Derived.Test.YtocgkpdolgnbgaaGreatDoorPGL
namespace Go.Proofs.YtocgkpdolgnbgaaGreatDoor
open Go.RowKit Go.Sort
set_option linter.unusedVariables false
set_option linter.unusedSimpArgs false
set_option maxRecDepth 100000
theorem blk_put8 {w : World} {g : Nat} {t : TypeId} {c0 c1 c2 c3 c4 c5 c6 c7 : Value} (h : Blk w g t #[c0, c1, c2, c3, c4, c5, c6, c7] (0, 0)) (v0 v1 v2 v3 v4 v5 v6 v7 : Value) : Blk ((((((((w.setCell ⟨g, 0, none⟩ v0).setCell ⟨g, 1, none⟩ v1).setCell ⟨g, 2, none⟩ v2).setCell ⟨g, 3, none⟩ v3).setCell ⟨g, 4, none⟩ v4).setCell ⟨g, 5, none⟩ v5).setCell ⟨g, 6, none⟩ v6).setCell ⟨g, 7, none⟩ v7) g t #[v0, v1, v2, v3, v4, v5, v6, v7] (0, 0) := by
  have h0 := Blk.set_ h 0 v0
  simp only [List.setIfInBounds_toArray, List.set_cons_zero, List.set_cons_succ] at h0
  have h1 := Blk.set_ h0 1 v1
  simp only [List.setIfInBounds_toArray, List.set_cons_zero, List.set_cons_succ] at h1
  have h2 := Blk.set_ h1 2 v2
  simp only [List.setIfInBounds_toArray, List.set_cons_zero, List.set_cons_succ] at h2
  have h3 := Blk.set_ h2 3 v3
  simp only [List.setIfInBounds_toArray, List.set_cons_zero, List.set_cons_succ] at h3
  have h4 := Blk.set_ h3 4 v4
  simp only [List.setIfInBounds_toArray, List.set_cons_zero, List.set_cons_succ] at h4
  have h5 := Blk.set_ h4 5 v5
  simp only [List.setIfInBounds_toArray, List.set_cons_zero, List.set_cons_succ] at h5
  have h6 := Blk.set_ h5 6 v6
  simp only [List.setIfInBounds_toArray, List.set_cons_zero, List.set_cons_succ] at h6
  have h7 := Blk.set_ h6 7 v7
  simp only [List.setIfInBounds_toArray, List.set_cons_zero, List.set_cons_succ] at h7
  exact h7
theorem below_put8 {a w : World} {g : Nat} (h : Below a.heap.size a w) (hg : a.heap.size ≤ g) (v0 v1 v2 v3 v4 v5 v6 v7 : Value) : Below a.heap.size a ((((((((w.setCell ⟨g, 0, none⟩ v0).setCell ⟨g, 1, none⟩ v1).setCell ⟨g, 2, none⟩ v2).setCell ⟨g, 3, none⟩ v3).setCell ⟨g, 4, none⟩ v4).setCell ⟨g, 5, none⟩ v5).setCell ⟨g, 6, none⟩ v6).setCell ⟨g, 7, none⟩ v7) :=
  (((((((h.setCell (p := ⟨g, 0, none⟩) hg v0).setCell (p := ⟨g, 1, none⟩) hg v1).setCell (p := ⟨g, 2, none⟩) hg v2).setCell (p := ⟨g, 3, none⟩) hg v3).setCell (p := ⟨g, 4, none⟩) hg v4).setCell (p := ⟨g, 5, none⟩) hg v5).setCell (p := ⟨g, 6, none⟩) hg v6).setCell (p := ⟨g, 7, none⟩) hg v7
def DM (g0 g1 H : Nat) (fa ta ua fb tb ub : Int) (p : ByteArray) (S1 S2 S3 : Option Addr) (k1 s1 k2 s2 k3 s3 : Nat) (l1 l2 : List ByteArray) (l3 : List Int) (j : Nat) (v : Value) (w : World) : Prop :=
  match j with
  | 0 => v = .pointer (some ⟨g0, 0, none⟩)
  | 1 => v = .int .i64 fa
  | 2 => v = .pointer (some ⟨g1, 0, none⟩)
  | 3 => v = .int .i64 fb
  | 4 => v = .int .i64 (max fa fb)
  | 5 => v = .pointer (some ⟨g0, 1, none⟩)
  | 6 => v = .int .i64 ta
  | 7 => v = .pointer (some ⟨g1, 1, none⟩)
  | 8 => v = .int .i64 tb
  | 9 => v = .int .i64 (min ta tb)
  | 10 => v = .string p
  | 11 => ∃ b, v = .slice (some b) 0 0
  | 12 => v = .slice S1 k1 s1
  | 13 => ∃ A c, v = .slice A k1 c ∧ Reads w 1 A k1 (l1.map .string) ∧ OfType w A k1 9
  | 14 => ∃ b, v = .slice (some b) 0 0
  | 15 => v = .slice S2 k2 s2
  | 16 => ∃ A c, v = .slice A k2 c ∧ Reads w 1 A k2 (l2.map .string) ∧ OfType w A k2 9
  | 17 => ∃ b, v = .slice (some b) 0 0
  | 18 => v = .slice S3 k3 s3
  | 19 => ∃ A c, v = .slice A k3 c ∧ Reads w 1 A k3 (l3.map (.int .i64)) ∧ OfType w A k3 3
  | 20 => v = .pointer (some ⟨g0, 6, none⟩)
  | 21 => v = .int .i64 ua
  | 22 => v = .pointer (some ⟨g1, 6, none⟩)
  | 23 => v = .int .i64 ub
  | 24 => v = .int .i64 (usesM ua ub)
  | 25 => ∃ A1 c1 A2 c2 A3 c3, v = .agg #[.int .i64 (max fa fb), .int .i64 (min ta tb), .string p, .slice A1 k1 c1, .slice A2 k2 c2, .slice A3 k3 c3, .int .i64 (usesM ua ub)] ∧ Reads w 1 A1 k1 (l1.map .string) ∧ Reads w 1 A2 k2 (l2.map .string) ∧ Reads w 1 A3 k3 (l3.map (.int .i64)) ∧ OfType w A1 k1 9 ∧ OfType w A2 k2 9 ∧ OfType w A3 k3 3
  | 26 => ∃ g, v = .pointer (some ⟨g, 0, none⟩) ∧ H ≤ g ∧ CBox w g 0 0 ⟨#[]⟩ none 0 0 none 0 0 none 0 0 0
  | _ => True
theorem DM.keep {g0 g1 H : Nat} {fa ta ua fb tb ub : Int} {p : ByteArray} {S1 S2 S3 : Option Addr} {k1 s1 k2 s2 k3 s3 : Nat} {l1 l2 : List ByteArray} {l3 : List Int} (j : Nat) (v : Value) (w w' : World) (h : DM g0 g1 H fa ta ua fb tb ub p S1 S2 S3 k1 s1 k2 s2 k3 s3 l1 l2 l3 j v w) (hb : Below w.heap.size w w') : DM g0 g1 H fa ta ua fb tb ub p S1 S2 S3 k1 s1 k2 s2 k3 s3 l1 l2 l3 j v w' := by
  unfold DM at h
  split at h
  all_goals first
    | exact h
    | (obtain ⟨A, c, e, hR, hT⟩ := h; exact ⟨A, c, e, hR.keep hb, hT.keep hb⟩)
    | (obtain ⟨A1, c1, A2, c2, A3, c3, e, r1, r2, r3, u1, u2, u3⟩ := h; exact ⟨A1, c1, A2, c2, A3, c3, e, r1.keep hb, r2.keep hb, r3.keep hb, u1.keep hb, u2.keep hb, u3.keep hb⟩)
    | (obtain ⟨g, e, hg, hx⟩ := h; exact ⟨g, e, hg, Blk.keep hx hb⟩)
    | (unfold DM; split <;> first | trivial | (exfalso; simp_all; done))
theorem OfType.but {w w' : World} {A : Option Addr} {n g : Nat} {t t' : TypeId} {cs : Array Value} {fr : Nat × Nat} (h : OfType w A n t) (hb : But g w w') (hB : Blk w g t' cs fr) (ht : t ≠ t') : OfType w' A n t := fun h0 =>
  let ⟨b, o, cs', fr', e, hx⟩ := h h0
  ⟨b, o, cs', fr', e, hb.blk hx (h.off hB ht h0 _ e)⟩
theorem put8_but {w : World} {g : Nat} {v0 v1 v2 v3 v4 v5 v6 v7 : Value} : But g w ((((((((w.setCell ⟨g, 0, none⟩ v0).setCell ⟨g, 1, none⟩ v1).setCell ⟨g, 2, none⟩ v2).setCell ⟨g, 3, none⟩ v3).setCell ⟨g, 4, none⟩ v4).setCell ⟨g, 5, none⟩ v5).setCell ⟨g, 6, none⟩ v6).setCell ⟨g, 7, none⟩ v7) :=
  (((((((But.set w g 0 _).step 1 _).step 2 _).step 3 _).step 4 _).step 5 _).step 6 _).step 7 _
def RMadePost (X : CondV) (f : Int) (w : World) (e : Ending) (w' : World) : Prop := Below w.heap.size w w' ∧ ∃ n : CondMem, e = .returned (.agg #[.int .i64 X.fr, .int .i64 X.till, .string X.pat, .slice n.A X.cl.length n.ca, .slice n.B X.co.length n.cb, .slice n.S X.si.length n.cs, .int .i64 X.us, .int .i64 f]) ∧ CondReads w' X n
end Go.Proofs.YtocgkpdolgnbgaaGreatDoor
