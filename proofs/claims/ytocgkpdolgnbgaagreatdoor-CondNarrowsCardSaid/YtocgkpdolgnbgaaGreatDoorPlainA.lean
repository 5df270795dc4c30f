/- Plain: patterns are the same where they match the same; what two patterns have in common does not hang on order or brackets. -/
import Derived.Test.YtocgkpdolgnbgaaGreatDoorPlainX
import Derived.Test.YtocgkpdolgnbgaaGreatDoorProg
import Derived.WalkKit
import Derived.WalkSpells
import Derived.WalkLawsBesides
import Derived.Below
import Derived.Deep.QuietTactic
import Derived.BigQuiet
import Derived.Lib.QuietBelow
import Derived.Lib.Strings
import Derived.Lib.Hide
import Derived.Deep.RegionWith
import Derived.Deep.RegionHeld3
import Derived.Lib.IndexBytes
namespace Go.Proofs.YtocgkpdolgnbgaaGreatDoor
open Go.RowKit Go.Sort
set_option linter.unusedVariables false
set_option linter.unusedSimpArgs false
set_option maxRecDepth 100000
theorem coverL_anti : ∀ (xs ys : List Part), (∀ p ∈ xs, PartFit p) → (∀ p ∈ ys, PartFit p) → coverL xs ys = true → coverL ys xs = true → xs = ys
  | [], [], _, _, _, _ => rfl
  | [], b :: ys, _, _, _, h => by simp [coverL] at h
  | a :: xs, [], _, _, h, _ => by simp [coverL] at h
  | a :: xs, b :: ys, hx, hy, h1, h2 => by
    simp only [coverL, Bool.and_eq_true] at h1 h2
    rw [covers_anti (hx a (by simp)) (hy b (by simp)) h1.1 h2.1, coverL_anti xs ys (fun p hp => hx p (by simp [hp])) (fun p hp => hy p (by simp [hp])) h1.2 h2.2]
theorem cover_anti {x y : Pat} (hx : PatFit x) (hy : PatFit y) (h1 : coverB x y = true) (h2 : coverB y x = true) : x = y := by
  rw [coverB_iff] at h1 h2
  obtain ⟨a1, a2, a3, a4, a5⟩ := h1
  obtain ⟨b1, b2, b3, b4, b5⟩ := h2
  have hc := covers_anti hx.cust.part hy.cust.part a1 b1
  have hp := coverL_anti _ _ hx.parts hy.parts a5 b5
  have ht : x.tail = y.tail := by
    cases hxt : x.tail <;> cases hyt : y.tail
    · rfl
    · have := a4 hyt; rw [hxt] at this; cases this
    · have := b4 hxt; rw [hyt] at this; cases this
    · rfl
  obtain ⟨xc, xp, xt⟩ := x
  obtain ⟨yc, yp, yt⟩ := y
  simp only at hc hp ht
  rw [hc, hp, ht]
theorem cover_of {x y : Pat} (hx : PatFit x) (hy : PatFit y) (h : ∀ a : Adr, matchP y a = true → matchP x a = true) : coverB x y = true := by
  cases hc : coverB x y
  · obtain ⟨h1, h2⟩ := coverW_exact (compile_str hx) (compile_str hy) hc
    unfold matchB at h1 h2
    rw [compile_str hy] at h1
    rw [compile_str hx] at h2
    have h1 : (readB (coverW x y) && matchP y (parseB (coverW x y)).1) = true := h1
    have h2 : (readB (coverW x y) && matchP x (parseB (coverW x y)).1) = false := h2
    rw [Bool.and_eq_true] at h1
    rw [h1.1, h _ h1.2] at h2
    cases h2
  · rfl
theorem pat_ext {x y : Pat} (hx : PatFit x) (hy : PatFit y) (h : ∀ a : Adr, matchP x a = matchP y a) : x = y :=
  cover_anti hx hy (cover_of hx hy fun a ha => by rw [h a]; exact ha) (cover_of hy hx fun a ha => by rw [← h a]; exact ha)
/-- What a pattern, or none, matches. -/
def matchO (z : Option Pat) (a : Adr) : Bool := match z with
  | some z => matchP z a
  | none => false
theorem common_match {x y : Pat} (hx : PatFit x) (hy : PatFit y) (a : Adr) : matchO (commonP x y) a = (matchP x a && matchP y a) := by
  cases h : commonP x y with
  | none => exact (commonP_none hx hy h a).symm
  | some z => exact (commonP_some hx hy h).2 a
theorem opt_ext {x y : Option Pat} (hx : ∀ z, x = some z → PatFit z) (hy : ∀ z, y = some z → PatFit z) (h : ∀ a, matchO x a = matchO y a) : x = y := by
  cases x with
  | none =>
    cases y with
    | none => rfl
    | some z =>
      have := h (exA z)
      rw [show matchO (some z) (exA z) = matchP z (exA z) from rfl, exA_match (hy z rfl)] at this
      cases this
  | some z =>
    cases y with
    | none =>
      have := h (exA z)
      rw [show matchO (some z) (exA z) = matchP z (exA z) from rfl, exA_match (hx z rfl)] at this
      cases this
    | some z' => rw [pat_ext (hx z rfl) (hy z' rfl) h]
theorem common_comm {x y : Pat} (hx : PatFit x) (hy : PatFit y) : commonP x y = commonP y x :=
  opt_ext (fun z h => (commonP_some hx hy h).1) (fun z h => (commonP_some hy hx h).1) fun a => by rw [common_match hx hy, common_match hy hx, Bool.and_comm]
theorem common_idem {x : Pat} (hx : PatFit x) : commonP x x = some x :=
  opt_ext (fun z h => (commonP_some hx hx h).1) (fun z h => by injection h with h; rw [← h]; exact hx) fun a => by rw [common_match hx hx, Bool.and_self]; rfl
theorem bind_match {x : Option Pat} {w : Pat} (hx : ∀ z, x = some z → PatFit z) (hw : PatFit w) (a : Adr) : matchO (x.bind fun z => commonP z w) a = (matchO x a && matchP w a) := by
  cases x with
  | none => rfl
  | some z => exact common_match (hx z rfl) hw a
theorem common_assoc {x y w : Pat} (hx : PatFit x) (hy : PatFit y) (hw : PatFit w) : ((commonP x y).bind fun z => commonP z w) = ((commonP y w).bind fun z => commonP x z) := by
  have f1 : ∀ z, commonP x y = some z → PatFit z := fun z h => (commonP_some hx hy h).1
  have f2 : ∀ z, commonP y w = some z → PatFit z := fun z h => (commonP_some hy hw h).1
  refine opt_ext (fun z h => ?_) (fun z h => ?_) fun a => ?_
  · obtain ⟨u, hu, hz⟩ := Option.bind_eq_some_iff.1 h
    exact (commonP_some (f1 u hu) hw hz).1
  · obtain ⟨u, hu, hz⟩ := Option.bind_eq_some_iff.1 h
    exact (commonP_some hx (f2 u hu) hz).1
  · rw [bind_match f1 hw, common_match hx hy]
    have : matchO ((commonP y w).bind fun z => commonP x z) a = (matchP x a && matchO (commonP y w) a) := by
      cases h : commonP y w with
      | none => simp [matchO]
      | some z => exact common_match hx (f2 z h) a
    rw [this, common_match hy hw, Bool.and_assoc]
/-- Is it empty, or a pattern? -/
def patOk (p : ByteArray) : Bool := decide (p.size = 0) || (compileB p).isSome
/-- The pattern of both, where an empty one is any. -/
def pmeet (p q : ByteArray) : Option ByteArray := if p.size = 0 then some q else if q.size = 0 then some p else match compileB p, compileB q with
  | some x, some y => (commonP x y).map patS
  | _, _ => none
def pmatch (p a : ByteArray) : Bool := decide (p.size = 0) || matchB p a
theorem patS_ne {z : Pat} (hz : PatFit z) : (patS z).size ≠ 0 := by
  intro h
  have hc := compile_str hz
  have hd : patS z = ⟨#[]⟩ := bytes_ext (List.eq_nil_of_length_eq_zero (by rw [← Lib.size_eq]; exact h))
  rw [hd] at hc
  have : compileB ⟨#[]⟩ = none := by
    unfold compileB
    rw [show splitB 47 ⟨#[]⟩ = [⟨#[]⟩] from rfl, compL_cons]
    have : headOkB ⟨#[]⟩ = false := by
      unfold headOkB isNameB isWordB
      rw [Lib.toList_data]; rfl
    rw [this]; simp
  rw [this] at hc
  cases hc
theorem patOk_some {p : ByteArray} (h : patOk p = true) (h0 : p.size ≠ 0) : ∃ x, compileB p = some x := by
  unfold patOk at h
  rw [Bool.or_eq_true, decide_eq_true_eq] at h
  rcases h with h | h
  · exact absurd h h0
  · exact Option.isSome_iff_exists.1 h
theorem pmeet_ok {p q r : ByteArray} (hp : patOk p = true) (hq : patOk q = true) (h : pmeet p q = some r) : patOk r = true := by
  unfold pmeet at h
  split at h
  · injection h with h; rw [← h]; exact hq
  · split at h
    · injection h with h; rw [← h]; exact hp
    · rename_i h1 h2
      obtain ⟨x, hx⟩ := patOk_some hp h1
      obtain ⟨y, hy⟩ := patOk_some hq h2
      rw [hx, hy] at h
      obtain ⟨z, hz, hr⟩ := Option.map_eq_some_iff.1 h
      unfold patOk
      rw [← hr, compile_str (commonP_some (compile_fit hx) (compile_fit hy) hz).1]
      simp
theorem pmeet_two {p q : ByteArray} {x y : Pat} (h1 : p.size ≠ 0) (h2 : q.size ≠ 0) (hx : compileB p = some x) (hy : compileB q = some y) : pmeet p q = (commonP x y).map patS := by
  unfold pmeet
  rw [if_neg h1, if_neg h2, hx, hy]
theorem pmeet_comm {p q : ByteArray} (hp : patOk p = true) (hq : patOk q = true) : pmeet p q = pmeet q p := by
  by_cases h1 : p.size = 0
  · by_cases h2 : q.size = 0
    · have n1 : p.data.toList = [] := List.eq_nil_of_length_eq_zero (by rw [← Lib.size_eq]; exact h1)
      have n2 : q.data.toList = [] := List.eq_nil_of_length_eq_zero (by rw [← Lib.size_eq]; exact h2)
      have e : p = q := bytes_ext (by rw [n1, n2])
      rw [e]
    · unfold pmeet; rw [if_pos h1, if_neg h2, if_pos h1]
  · by_cases h2 : q.size = 0
    · unfold pmeet; rw [if_neg h1, if_pos h2, if_pos h2]
    · obtain ⟨x, hx⟩ := patOk_some hp h1
      obtain ⟨y, hy⟩ := patOk_some hq h2
      rw [pmeet_two h1 h2 hx hy, pmeet_two h2 h1 hy hx, common_comm (compile_fit hx) (compile_fit hy)]
theorem pmeet_self {p : ByteArray} (hp : patOk p = true) : pmeet p p = some p := by
  by_cases h1 : p.size = 0
  · unfold pmeet; rw [if_pos h1]
  · obtain ⟨x, hx⟩ := patOk_some hp h1
    rw [pmeet_two h1 h1 hx hx, common_idem (compile_fit hx), Option.map_some, str_compile hx]
theorem pmeet_assoc {p q r : ByteArray} (hp : patOk p = true) (hq : patOk q = true) (hr : patOk r = true) : ((pmeet p q).bind fun s => pmeet s r) = ((pmeet q r).bind fun s => pmeet p s) := by
  by_cases h1 : p.size = 0
  · have e1 : pmeet p q = some q := by unfold pmeet; rw [if_pos h1]
    have e2 : ∀ s, pmeet p s = some s := fun s => by unfold pmeet; rw [if_pos h1]
    rw [e1, Option.bind_some]
    cases h : pmeet q r with
    | none => rfl
    | some s => rw [Option.bind_some, e2]
  · by_cases h2 : q.size = 0
    · have e1 : pmeet p q = some p := by unfold pmeet; rw [if_neg h1, if_pos h2]
      have e2 : pmeet q r = some r := by unfold pmeet; rw [if_pos h2]
      rw [e1, e2]; rfl
    · obtain ⟨x, hx⟩ := patOk_some hp h1
      obtain ⟨y, hy⟩ := patOk_some hq h2
      have fx := compile_fit hx
      have fy := compile_fit hy
      by_cases h3 : r.size = 0
      · have e2 : pmeet q r = some q := by unfold pmeet; rw [if_neg h2, if_pos h3]
        rw [e2, Option.bind_some]
        cases h : pmeet p q with
        | none => rfl
        | some s =>
          rw [Option.bind_some]
          have hs : s.size ≠ 0 := by
            rw [pmeet_two h1 h2 hx hy] at h
            obtain ⟨z, hz, hr⟩ := Option.map_eq_some_iff.1 h
            rw [← hr]
            exact patS_ne (commonP_some fx fy hz).1
          unfold pmeet
          rw [if_neg hs, if_pos h3]
      · obtain ⟨u, hu⟩ := patOk_some hr h3
        have fu := compile_fit hu
        rw [pmeet_two h1 h2 hx hy, pmeet_two h2 h3 hy hu]
        have key := common_assoc fx fy fu
        have l1 : (((commonP x y).map patS).bind fun s => pmeet s r) = ((commonP x y).bind fun z => commonP z u).map patS := by
          cases h : commonP x y with
          | none => rfl
          | some z =>
            have fz := (commonP_some fx fy h).1
            show pmeet (patS z) r = (commonP z u).map patS
            exact pmeet_two (patS_ne fz) h3 (compile_str fz) hu
        have l2 : (((commonP y u).map patS).bind fun s => pmeet p s) = ((commonP y u).bind fun z => commonP x z).map patS := by
          cases h : commonP y u with
          | none => rfl
          | some z =>
            have fz := (commonP_some fy fu h).1
            show pmeet p (patS z) = (commonP x z).map patS
            exact pmeet_two h1 (patS_ne fz) hx (compile_str fz)
        rw [l1, l2, key]
theorem pmeet_match {p q : ByteArray} (hp : patOk p = true) (hq : patOk q = true) (a : ByteArray) : (match pmeet p q with | some r => pmatch r a | none => false) = (pmatch p a && pmatch q a) ∨ readB a = false := by
  by_cases h1 : p.size = 0
  · left
    have e1 : pmeet p q = some q := by unfold pmeet; rw [if_pos h1]
    have : pmatch p a = true := by unfold pmatch; rw [decide_eq_true h1]; rfl
    rw [e1, this, Bool.true_and]
  · by_cases h2 : q.size = 0
    · left
      have e1 : pmeet p q = some p := by unfold pmeet; rw [if_neg h1, if_pos h2]
      have : pmatch q a = true := by unfold pmatch; rw [decide_eq_true h2]; rfl
      rw [e1, this, Bool.and_true]
    · obtain ⟨x, hx⟩ := patOk_some hp h1
      obtain ⟨y, hy⟩ := patOk_some hq h2
      have fx := compile_fit hx
      have fy := compile_fit hy
      cases hr : readB a
      · exact .inr rfl
      · left
        have m : ∀ (s : ByteArray) (z : Pat), s.size ≠ 0 → compileB s = some z → pmatch s a = matchP z (parseB a).1 := fun s z hs hz => by
          unfold pmatch matchB
          rw [decide_eq_false hs, Bool.false_or, hz]
          show (readB a && _) = _
          rw [hr, Bool.true_and]
        rw [pmeet_two h1 h2 hx hy, m p x h1 hx, m q y h2 hy, ← common_match fx fy]
        cases h : commonP x y with
        | none => rfl
        | some z =>
          have fz := (commonP_some fx fy h).1
          exact m (patS z) z (patS_ne fz) (compile_str fz)

end Go.Proofs.YtocgkpdolgnbgaaGreatDoor
