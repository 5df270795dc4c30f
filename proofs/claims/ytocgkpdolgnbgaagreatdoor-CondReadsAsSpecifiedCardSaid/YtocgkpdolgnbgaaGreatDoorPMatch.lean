/- What 'Match' returns. -/
import Derived.Test.YtocgkpdolgnbgaaGreatDoorPPats
import Derived.Test.YtocgkpdolgnbgaaGreatDoorProg
import Derived.WalkKit
import Derived.WalkSpells
import Derived.WalkLawsBesides
import Derived.Below
import Derived.Deep.QuietTactic
import Derived.BigQuiet
import Derived.Lib.QuietBelow
import Derived.Lib.Strings
import Derived.Lib.Hide
import Derived.Deep.RegionWith
import Derived.Deep.RegionHeld3
import Derived.Lib.IndexBytes
namespace Go.Proofs.YtocgkpdolgnbgaaGreatDoor
open Go.RowKit Go.Sort
set_option linter.unusedVariables false
set_option linter.unusedSimpArgs false
set_option maxRecDepth 100000
structure PatGood (p : Pat) : Prop where
  kind : p.cust.kind ≤ 2
  text : p.cust.text.size ≤ 100000
  parts : PartsOk p.parts
  num : p.parts.length ≤ 32
theorem cmpL_good : ∀ (l : List ByteArray) (acc : List Part) (r : List Part × Bool), (∀ x ∈ l, x.size ≤ 100000) → PartsOk acc → cmpL l acc = some r → PartsOk r.1 ∧ r.1.length ≤ acc.length + l.length
  | [], acc, r, _, h, e => by simp [cmpL] at e; subst e; exact ⟨h, by simp⟩
  | w :: l, acc, r, hl, h, e => by
    rw [cmpL] at e
    split at e
    · injection e with e; subst e; exact ⟨h, by simp⟩
    · split at e
      · have hw := hl w (by simp)
        have := cmpL_good l (acc ++ [partOfP w]) r (fun x hx => hl x (by simp [hx])) (by
          intro x hx
          rcases List.mem_append.1 hx with hx | hx
          · exact h x hx
          · rw [List.mem_singleton.1 hx]
            exact ⟨partOfP_kind w, Nat.le_trans (partOfP_size w) hw⟩) e
        refine ⟨this.1, ?_⟩
        have h2 := this.2
        simp at h2 ⊢; omega
      · cases e
theorem compile_good (s : ByteArray) (hs : s.size ≤ 100000) (p : Pat) (h : compileB s = some p) : PatGood p := by
  unfold compileB at h
  have hsz := splitB_size 47 s
  generalize splitB 47 s = l at *
  cases l with
  | nil => cases h
  | cons l0 r =>
    simp only [compL] at h
    split at h
    · rename_i hc
      rw [Bool.and_eq_true, decide_eq_true_eq] at hc
      cases hq : cmpL r [] with
      | none => rw [hq] at h; cases h
      | some x =>
        rw [hq, Option.map_some] at h
        injection h with h
        subst h
        have h0 := hsz l0 (by simp)
        have := cmpL_good r [] x (fun y hy => Nat.le_trans (hsz y (by simp [hy])) hs) (fun y hy => by cases hy) hq
        exact ⟨partOfP_kind l0, by have := partOfP_size l0; show (partOfP l0).text.size ≤ _; omega, this.1, by have h1 := hc.1; have h2 := this.2; show x.1.length ≤ 32; simp at h2; omega⟩
    · cases h
end Go.Proofs.YtocgkpdolgnbgaaGreatDoor
