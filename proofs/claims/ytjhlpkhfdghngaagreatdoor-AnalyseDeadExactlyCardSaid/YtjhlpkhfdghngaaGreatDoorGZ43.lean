/- Plain: a rule by which nobody gets anything. -/
import Derived.Test.YtjhlpkhfdghngaaGreatDoorGZ40
import Derived.Test.YtjhlpkhfdghngaaGreatDoorGZ26
import Derived.Test.YtjhlpkhfdghngaaGreatDoorProg
import Derived.WalkKit
import Derived.WalkSpells
import Derived.WalkLawsBesides
import Derived.Below
import Derived.Deep.QuietTactic
import Derived.BigQuiet
import Derived.Lib.QuietBelow
import Derived.Lib.Strings
import Derived.Lib.Hide
import Derived.Deep.RegionWith
import Derived.Deep.RegionHeld3
import Derived.Lib.IndexBytes
import Derived.Test.YtjhlpkhfdghngaaGreatDoorGZ39
namespace Go.Proofs.YtjhlpkhfdghngaaGreatDoor
open Go.RowKit Go.Sort
set_option linter.unusedVariables false
set_option linter.unusedSimpArgs false
set_option maxRecDepth 100000
theorem comp_ne {p : ByteArray} (h : (compileB p).isSome = true) : p.size ≠ 0 := by
  intro h0
  have hd : p = ⟨#[]⟩ := bytes_ext (List.eq_nil_of_length_eq_zero (by rw [← Lib.size_eq]; exact h0))
  subst hd
  have h2 : compileB ⟨#[]⟩ = none := by decide +kernel
  rw [h2] at h
  cases h
theorem pmA_comp {p : ByteArray} {x : Pat} (h : compileB p = some x) (a : Adr) : pmA p a = matchP x a := by
  unfold pmA patT
  rw [if_neg (comp_ne (by rw [h]; rfl)), h]
  rfl
theorem match_pm {p s : ByteArray} (hp : (compileB p).isSome = true) : matchB p s = (readB s && pmA p (parseB s).1) := by
  obtain ⟨x, hx⟩ := Option.isSome_iff_exists.1 hp
  rw [match_read hx, pmA_comp hx]
theorem meet_match {p q m : ByteArray} (hp : (compileB p).isSome = true) (hq : patOk q = true) (hm : pmeet p q = some m) (hc : (compileB m).isSome = true) (s : ByteArray) : matchB m s = (matchB p s && pmA q (parseB s).1) := by
  have h := pmA_meet (p := p) (q := q) (by unfold patOk; rw [hp]; simp) hq (parseB s).1
  rw [hm] at h
  rw [match_pm hc, match_pm hp]
  dsimp only at h
  rw [h, Bool.and_assoc]
theorem live_ask {l : List RuleP} {i : Nat} {r : RuleP} {c : CondV} {m s T : ByteArray} (hr : l[i]? = some r) (hp : (compileB r.1).isSome = true) (hc : CondOk c) (hlt : c.fr < c.till) (hT : tagsR r.2 = (T, 0)) (hm : pmeet r.1 c.pat = some m) (hg : GapPost m (beforeR l i r.2) s true) :
    holdsC c { sampleC c with addr := s } = true ∧ chooseR l s T = some i := by
  obtain ⟨h1, h2⟩ := gap_found hg
  have hcm : (compileB m).isSome = true := by
    obtain ⟨x, ys, hx, _⟩ := hg
    rw [hx]; rfl
  rw [meet_match hp hc.pat hm hcm, Bool.and_eq_true] at h1
  have hrd : readB s = true := by
    have := h1.1
    rw [match_pm hp, Bool.and_eq_true] at this
    exact this.1
  have hs := holds_sample hc hlt
  obtain ⟨g1, g2, g3, g4, g5, g6⟩ := (holds_iff hc _).1 hs
  refine ⟨(holds_iff hc _).2 ⟨?_, g2, h1.2, g4, g5, g6⟩, ?_⟩
  · unfold validAsk at g1 ⊢
    simp only [Bool.and_eq_true] at g1 ⊢
    exact ⟨⟨⟨⟨hrd, g1.1.1.1.2⟩, g1.1.1.2⟩, g1.1.2⟩, g1.2⟩
  · refine (choose_iff l s T i).2 ⟨r, hr, ?_, fun j q hj hq => ?_⟩
    · unfold mtR
      rw [h1.1, Bool.true_and]
      exact all_has.2 fun x hx => hasTag_tags hT x hx
    · cases hmq : mtR q s T
      · rfl
      · exfalso
        unfold mtR at hmq
        rw [Bool.and_eq_true] at hmq
        have hsb : subB q.2 r.2 = true := (subB_iff _ _).2 fun x hx => (tags_mem hT x).1 (all_has.1 hmq.2 x hx)
        have := h2 q.1 (before_mem.2 ⟨j, q, hj, hq, hsb, rfl⟩)
        rw [this] at hmq
        exact absurd hmq.1 (by decide)
end Go.Proofs.YtjhlpkhfdghngaaGreatDoor
namespace Go.Proofs.YtjhlpkhfdghngaaGreatDoor
open Go.RowKit Go.Sort
set_option linter.unusedVariables false
set_option linter.unusedSimpArgs false
set_option maxRecDepth 100000
section
variable {H : Type} {enc : TypeId × Value → H} {W : World} {base : Nat} {sp : Nat → Bool} {hd : Bool}
theorem open_texts {r : Reach} {b0 : Nat} {v : Value} {d : DataW H} {ps : List MemPlace} (hval : Value.okWide Tryz.prog W r b0 27 v) (h : DataW.Trod enc Tryz.prog W base sp hd 27 v d ps) :
    ∃ (A : Option Addr) (n c : Nat) (xs : List ByteArray), v = .slice A n c ∧ Reads W 1 A n (xs.map .string) ∧ n ≤ 9223372036854775807 := by
  obtain ⟨fuel, hf⟩ := h
  obtain ⟨A, n, c, rfl⟩ := Go.WideShapes.okWide_slice Tryz.underlying27 hval
  have hf2 : DataW.trod enc Tryz.prog W base sp hd fuel 27 [.slice A n c] = some (d, ps) := by simpa [Value.cells] using hf
  obtain ⟨A', n', c', xs, he, hl, hR⟩ := strs_reads hf2
  injection he with e1 e2 e3
  subst e1; subst e2; subst e3
  exact ⟨A, n, c, xs, rfl, hR, slice_bound Tryz.underlying27 hf2⟩
end
end Go.Proofs.YtjhlpkhfdghngaaGreatDoor
