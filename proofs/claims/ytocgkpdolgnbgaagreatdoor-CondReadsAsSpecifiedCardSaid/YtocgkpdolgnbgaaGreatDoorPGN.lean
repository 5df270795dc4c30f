/- Text of any condition, by the package and by the specification; boxes of their results. -/
import Derived.Test.YtocgkpdolgnbgaaGreatDoorPR11
import Derived.Test.YtocgkpdolgnbgaaGreatDoorPGI
import Derived.Test.YtocgkpdolgnbgaaGreatDoorPGM
import Derived.Test.YtocgkpdolgnbgaaGreatDoorPJE
import Derived.Test.YtocgkpdolgnbgaaGreatDoorProg
import Derived.WalkKit
import Derived.WalkSpells
import Derived.WalkLawsBesides
import Derived.Below
import Derived.Deep.QuietTactic
import Derived.BigQuiet
import Derived.Lib.QuietBelow
import Derived.Lib.Strings
import Derived.Lib.Hide
import Derived.Deep.RegionWith
import Derived.Deep.RegionHeld3
import Derived.Lib.IndexBytes
import Derived.Test.YtocgkpdolgnbgaaGreatDoorPR12
import Derived.Test.YtocgkpdolgnbgaaGreatDoorPJA
import Derived.Test.YtocgkpdolgnbgaaGreatDoorPJC
import Derived.Test.YtocgkpdolgnbgaaGreatDoorPJD
import Derived.Test.YtocgkpdolgnbgaaGreatDoorPGL
namespace Go.Proofs.YtocgkpdolgnbgaaGreatDoor
open Go.RowKit Go.Sort
set_option linter.unusedVariables false
set_option linter.unusedSimpArgs false
set_option maxRecDepth 100000
def textE (c : CondV) : ByteArray × Int := if validC c then (textC c, 0) else (⟨#[]⟩, 1)
theorem text_all (c : CondV) (m : CondMem) (w : World) (hR : CondReads w c m) (hc : CondFits c) (hE : Env w) (hT : Tab w) : Calls Tryz.prog 22 #[CondMem.val c m] w (Ret w (.tuple #[.string (textE c).1, .int .i64 (textE c).2])) := by
  unfold textE
  cases hv : validC c
  · exact text_bad c m w hR hc hv hE
  · exact text_valid c m w hR hc hv hE hT
theorem rText_all (c : CondV) (m : CondMem) (w : World) (hR : CondReads w c m) (hc : CondFits c) : Calls Tryz.prog 26 #[CondMem.val c m] w (Ret w (.agg #[.string (textE c).1, .int .i64 (textE c).2])) := by
  unfold textE
  cases hv : validC c
  · exact rText21_bad c m w hR hc hv
  · exact rText21_good c m w hR hc hv
def KB (w : World) (g : Nat) (b : Bool) (e : Int) : Prop := Blk w g 43 #[.bool b, .int .i64 e] (0, 0)
theorem KB.facts {w : World} {g : Nat} {b : Bool} {e : Int} (h : KB w g b e) : w.cell? ⟨g, 0, none⟩ = some (.bool b) ∧ w.cell? ⟨g, 1, none⟩ = some (.int .i64 e) := ⟨Blk.cell h 0, Blk.cell h 1⟩
theorem KB.keep {w w' : World} {g : Nat} {b : Bool} {e : Int} (h : KB w g b e) (hb : Below w.heap.size w w') : KB w' g b e := Blk.keep h hb
def WB (w : World) (g : Nat) (s : ByteArray) (e : Int) : Prop := Blk w g 56 #[.string s, .int .i64 e] (0, 0)
theorem WB.facts {w : World} {g : Nat} {s : ByteArray} {e : Int} (h : WB w g s e) : w.cell? ⟨g, 0, none⟩ = some (.string s) ∧ w.cell? ⟨g, 1, none⟩ = some (.int .i64 e) := ⟨Blk.cell h 0, Blk.cell h 1⟩
theorem WB.keep {w w' : World} {g : Nat} {s : ByteArray} {e : Int} (h : WB w g s e) (hb : Below w.heap.size w w') : WB w' g s e := Blk.keep h hb
end Go.Proofs.YtocgkpdolgnbgaaGreatDoor
namespace Go.Proofs.YtocgkpdolgnbgaaGreatDoor
open Go.RowKit Go.Sort
set_option linter.unusedVariables false
set_option linter.unusedSimpArgs false
set_option maxRecDepth 100000
def MX (w : World) (g : Nat) (c : CondV) (m : CondMem) (e : Int) : Prop := Blk w g 40 #[.int .i64 c.fr, .int .i64 c.till, .string c.pat, .slice m.A c.cl.length m.ca, .slice m.B c.co.length m.cb, .slice m.S c.si.length m.cs, .int .i64 c.us, .int .i64 e] (0, 0)
theorem MX.facts {w : World} {g : Nat} {c : CondV} {m : CondMem} {e : Int} (h : MX w g c m e) :
    w.cell? ⟨g, 0, none⟩ = some (.int .i64 c.fr) ∧ w.cell? ⟨g, 1, none⟩ = some (.int .i64 c.till) ∧ w.cell? ⟨g, 2, none⟩ = some (.string c.pat) ∧ w.cell? ⟨g, 3, none⟩ = some (.slice m.A c.cl.length m.ca) ∧ w.cell? ⟨g, 4, none⟩ = some (.slice m.B c.co.length m.cb) ∧ w.cell? ⟨g, 5, none⟩ = some (.slice m.S c.si.length m.cs) ∧ w.cell? ⟨g, 6, none⟩ = some (.int .i64 c.us) ∧ w.cell? ⟨g, 7, none⟩ = some (.int .i64 e) :=
  ⟨Blk.cell h 0, Blk.cell h 1, Blk.cell h 2, Blk.cell h 3, Blk.cell h 4, Blk.cell h 5, Blk.cell h 6, Blk.cell h 7⟩
theorem MX.keep {w w' : World} {g : Nat} {c : CondV} {m : CondMem} {e : Int} (h : MX w g c m e) (hb : Below w.heap.size w w') : MX w' g c m e := Blk.keep h hb
end Go.Proofs.YtocgkpdolgnbgaaGreatDoor
namespace Go.Proofs.YtocgkpdolgnbgaaGreatDoor
open Go.RowKit Go.Sort
set_option linter.unusedVariables false
set_option linter.unusedSimpArgs false
set_option maxRecDepth 100000
theorem field_size (s : ByteArray) (hs : s.size ≤ 100000) (k : Nat) : ((splitB 32 s).getD k tilde).size ≤ 100000 := by
  rw [List.getD_eq_getElem?_getD]
  cases h : (splitB 32 s)[k]? with
  | none => show tilde.size ≤ _; decide
  | some x => have := splitB_size 32 s x (List.mem_of_getElem? h); simp; omega
theorem unT_size (s : ByteArray) (h : s.size ≤ 100000) : (unT s).size ≤ 100000 := by
  unfold unT
  split
  · decide
  · exact h
theorem condF_fits (num : ByteArray → Int) (Ls : List ByteArray) (hz : ∀ k, (Ls.getD k tilde).size ≤ 100000) : CondFits (condF num Ls) := by
  have n := fun k => listP_num (Ls.getD k tilde)
  have z := fun k x (hx : x ∈ listP (Ls.getD k tilde)) => listP_size (Ls.getD k tilde) x hx
  refine ⟨unT_size _ (hz 2), fun x hx => Nat.le_trans (z 3 x hx) (hz 3), fun x hx => Nat.le_trans (z 4 x hx) (hz 4), ?_, ?_, ?_⟩
  · have h1 := n 3; have h2 := hz 3; show (listP (Ls.getD 3 tilde)).length ≤ _; omega
  · have h1 := n 4; have h2 := hz 4; show (listP (Ls.getD 4 tilde)).length ≤ _; omega
  · have h1 := n 5; have h2 := hz 5; show ((listP (Ls.getD 5 tilde)).map num).length ≤ _; rw [List.length_map]; omega
theorem zero_fits : CondFits zeroC := fits_of ((valid_iff _).2 zero_ok) (by decide)
theorem readR_fits (s : ByteArray) (hs : s.size ≤ 100000) : CondFits ((readR s).getD zeroC) := by
  unfold readR
  split
  · exact condF_fits _ _ (field_size s hs)
  · exact zero_fits
theorem readR_textE (s : ByteArray) (h : (readR s).isSome = true) : textE ((readR s).getD zeroC) = (s, 0) := by
  cases hr : readR s with
  | none => rw [hr] at h; cases h
  | some c =>
    obtain ⟨h1, h2⟩ := readR_some hr
    show textE c = (s, 0)
    unfold textE
    rw [if_pos h1, h2]
theorem itoa_size2 (n : Int) (h0 : 0 ≤ n) (h1 : n ≤ 1099511627777) : (itoaB n).size ≤ 13 := by
  rw [Lib.size_eq, itoa_dec n h0]
  exact (dec_len n.toNat (by omega)).1
theorem orT_size2 {a b : ByteArray} {B : Nat} (ha : a.size ≤ B) (hb : b.size ≤ B) : (orT a b).size ≤ B := by
  unfold orT; split <;> assumption
theorem joinT_size (xs : List ByteArray) (B n : Nat) (h : ∀ x ∈ xs, x.size ≤ B) (hn : xs.length ≤ n) : (joinT xs).size ≤ n * (B + 1) + 1 := by
  unfold joinT
  refine orT_size2 ?_ (by show 1 ≤ _; omega)
  have h1 := join_le 44 B (xs.map (·.data.toList)) (by
    intro y hy
    obtain ⟨z, hz, rfl⟩ := List.mem_map.1 hy
    have := h z hz
    rwa [Lib.size_eq] at this)
  rw [List.length_map] at h1
  have h2 : xs.length * (B + 1) ≤ n * (B + 1) := Nat.mul_le_mul_right _ hn
  unfold commaT
  rw [Lib.size_eq]
  show (Lib.join _ _).length ≤ _
  omega
theorem textC_size {c : CondV} (hv : validC c = true) (hf : fewV c = true) : (textC c).size ≤ 100000 := by
  have ok := (valid_iff c).1 hv
  unfold fewV fewC at hf
  simp only [Bool.and_eq_true, decide_eq_true_eq, List.all_eq_true] at hf
  obtain ⟨⟨⟨⟨⟨h1, h2⟩, h3⟩, h4⟩, h5⟩, h6⟩ := hf
  have f0 := itoa_size2 c.fr ok.fr0 (by have := ok.fr1; omega)
  have f1 := itoa_size2 c.till ok.to0 ok.to1
  have f6 := itoa_size2 c.us ok.us0 (by have := ok.us1; omega)
  have f2 : (orT c.pat ⟨#[126]⟩).size ≤ 1000 := orT_size2 h4 (by decide)
  have f3 := joinT_size c.cl 100 40 (fun x hx => h5 x hx) h1
  have f4 := joinT_size c.co 100 40 (fun x hx => h6 x hx) h2
  have f5 := joinT_size (c.si.map itoaB) 13 70 (by
    intro x hx
    obtain ⟨n, hn, rfl⟩ := List.mem_map.1 hx
    have hs := ok.si n hn
    simp only [siteB, Bool.and_eq_true, decide_eq_true_eq] at hs
    exact itoa_size2 n (by omega) (by omega)) (by rw [List.length_map]; exact h3)
  have hj := join_le 32 5000 ((fieldsC c).map (·.data.toList)) (by
    intro y hy
    obtain ⟨z, hz, rfl⟩ := List.mem_map.1 hy
    rw [← Lib.size_eq]
    simp only [fieldsC, List.mem_cons, List.not_mem_nil, or_false] at hz
    rcases hz with rfl | rfl | rfl | rfl | rfl | rfl | rfl <;> omega)
  unfold textC
  rw [Lib.size_eq]
  show (Lib.join _ _).length ≤ _
  have hl : ((fieldsC c).map (·.data.toList)).length = 7 := rfl
  rw [hl] at hj
  omega
theorem textE_iff (c : CondV) (s : ByteArray) : (validC c = true ∧ textC c = s) ↔ ((textE c).2 = 0 ∧ (textE c).1 = s) := by
  unfold textE
  cases validC c <;> simp
theorem textE_err (c : CondV) : (textE c).2 = 0 ∨ (textE c).2 = 1 := by unfold textE; split <;> simp
end Go.Proofs.YtocgkpdolgnbgaaGreatDoor
