/- The reference's FewRules, given what Few returns of each rule. -/
import Derived.Test.YtmlhecjhjjlhfaaGreatDoorSZ33
import Derived.Test.YtmlhecjhjjlhfaaGreatDoorProg
import Derived.WalkKit
import Derived.WalkSpells
import Derived.WalkLawsBesides
import Derived.Below
import Derived.Deep.QuietTactic
import Derived.BigQuiet
import Derived.Lib.QuietBelow
import Derived.Lib.Strings
import Derived.Lib.Hide
import Derived.Deep.RegionWith
import Derived.Deep.RegionHeld3
import Derived.Lib.IndexBytes
import Derived.Test.YtmlhecjhjjlhfaaGreatDoorSZ30
import Derived.Test.YtmlhecjhjjlhfaaGreatDoorSZ26
namespace Go.Proofs.YtmlhecjhjjlhfaaGreatDoor
open Go.RowKit Go.Sort
set_option linter.unusedVariables false
set_option linter.unusedSimpArgs false
set_option maxRecDepth 100000
set_option maxHeartbeats 4000000 in
theorem rFewRules22_any (p : RuleM → Bool) (A : Option Addr) (n c : Nat) (L : List RuleM) (most : Int) (w : World) (hL : RulesRead w A n L) (hn : n ≤ 9223372036854775807)
    (cP : ∀ x ∈ L, ∀ W, Below w.heap.size w W → Calls Tryz.prog 22 #[x.val] W (Ret W (.bool (p x)))) :
    Calls Tryz.prog 5 #[.slice A n c, .int .i64 most] w (Ret w (.bool (L.all p && decide ((n : Int) ≤ most)))) := by
  have hl : L.length = n := hL.len
  obtain ⟨V, hV⟩ : ∃ V, V = L.all p := ⟨_, rfl⟩
  rw [← hV]
  have HP := Lib.hid cP; have HA := Lib.hid hL; have HL := Lib.hid hl; have HV := Lib.hid hV
  clear cP hL hl hV
  go_enter Tryz.func5, Tryz.ntmps5
  go_wp2
  go_loopw [5] (fun i wr => ∃ k : Nat, k ≤ n ∧ i = .int .i64 k ∧ Hid (V = (L.drop k).all p) ∧ Below w.heap.size w wr) (fun i _ => n - (intOf i).toNat)
  case atStart => exact ⟨0, by omega, rfl, Lib.hid (by rw [HV.out]; rfl), Below.refl _ _⟩
  case round =>
    obtain ⟨k, hk, rfl, HI, hb⟩ := hrel
    by_cases hlt : k < n
    · obtain ⟨x, hx⟩ : ∃ x, L[k]? = some x := ⟨_, List.getElem?_eq_getElem (by have := HL.out; omega)⟩
      obtain ⟨_, b, o, rfl, hcell⟩ := (HA.out.keep hb).at_ hx
      have hld := rule_load wr b (o + k * 18) x hcell
      have hc := HP.out x (List.mem_of_getElem? hx) wr hb
      have hk0 : (0 : Int) ≤ (k : Int) := by omega
      have hk1 : (k : Int) < (n : Int) := by omega
      clear hcell
      have hxv : x.val = x.val := rfl
      generalize x.val = xv at hld hc
      clear hxv
      have HLD := Lib.hid hld
      clear hld
      cases hpx : p x
      · rw [hpx] at hc
        have HC := Lib.hid hc
        have hVf : V = false := by rw [HI.out]; exact all_stop _ _ _ _ hx hpx
        subst hVf
        clear hc hx hpx
        rw [Bool.false_and]
        go_wp2_with (first | (refine wpList_load_addr rfl _ _ rfl ⟨b, o + k * 18, none⟩ xv rfl HLD.out ?_) | (go_at_call 22; refine (HC.out).mono ?_; rintro e w2 ⟨rfl, hb2⟩))
        go_ret
        exact ⟨rfl, bstep hb hb2⟩
      · rw [hpx] at hc
        have HC := Lib.hid hc
        have hVs : V = (L.drop (k + 1)).all p := by rw [HI.out]; exact all_step _ _ _ _ hx hpx
        have HI2 := Lib.hid hVs
        clear hc hx hpx hVs
        go_wp2_with (first | (refine wpList_load_addr rfl _ _ rfl ⟨b, o + k * 18, none⟩ xv rfl HLD.out ?_) | (go_at_call 22; refine (HC.out).mono ?_; rintro e w2 ⟨rfl, hb2⟩))
        exact ⟨⟨k + 1, by omega, by go_num, HI2, bstep hb hb2⟩, by simp [intOf]; omega⟩
    · have hVt : V = true := by rw [HI.out, List.drop_eq_nil_of_le (by have := HL.out; omega)]; rfl
      subst hVt
      rw [Bool.true_and]
      go_wp2
      go_ret
      exact ⟨rfl, hb⟩
end Go.Proofs.YtmlhecjhjjlhfaaGreatDoor
namespace Go.Proofs.YtmlhecjhjjlhfaaGreatDoor
open Go.RowKit Go.Sort
set_option linter.unusedVariables false
set_option linter.unusedSimpArgs false
set_option maxRecDepth 100000
abbrev RuleP := ByteArray × List ByteArray
def mtR (r : RuleP) (a t : ByteArray) : Bool := matchB r.1 a && r.2.all (hasTagB t)
def chooseR (l : List RuleP) (a t : ByteArray) : Option Nat := l.findIdx? fun r => mtR r a t
theorem choose_iff (l : List RuleP) (a t : ByteArray) (i : Nat) : chooseR l a t = some i ↔ ∃ r, l[i]? = some r ∧ mtR r a t = true ∧ ∀ j q, j < i → l[j]? = some q → mtR q a t = false := by
  unfold chooseR
  rw [List.findIdx?_eq_some_iff_getElem]
  constructor
  · rintro ⟨h, h1, h2⟩
    refine ⟨l[i], List.getElem?_eq_getElem h, h1, fun j q hj hq => ?_⟩
    have := h2 j hj
    obtain ⟨h3, h4⟩ := List.getElem?_eq_some_iff.1 hq
    rw [← h4]; simpa using this
  · rintro ⟨r, hr, h1, h2⟩
    obtain ⟨h3, h4⟩ := List.getElem?_eq_some_iff.1 hr
    refine ⟨h3, by rw [h4]; exact h1, fun j hj => ?_⟩
    have := h2 j l[j] hj (List.getElem?_eq_getElem (by omega))
    simpa using this
def subB (a b : List ByteArray) : Bool := a.all fun t => Lib.containsS b t
theorem subB_iff (a b : List ByteArray) : subB a b = true ↔ ∀ t ∈ a, t ∈ b := by
  unfold subB
  rw [List.all_eq_true]
  exact forall_congr' fun t => forall_congr' fun _ => Lib.containsS_iff b t
def beforeR (l : List RuleP) (i : Nat) (ts : List ByteArray) : List ByteArray := ((l.take i).filter fun q => subB q.2 ts).map (·.1)
theorem before_mem {l : List RuleP} {i : Nat} {ts : List ByteArray} {p : ByteArray} : p ∈ beforeR l i ts ↔ ∃ j q, j < i ∧ l[j]? = some q ∧ subB q.2 ts = true ∧ q.1 = p := by
  unfold beforeR
  rw [List.mem_map]
  constructor
  · rintro ⟨q, hq, rfl⟩
    obtain ⟨h1, h2⟩ := List.mem_filter.1 hq
    obtain ⟨j, hj⟩ := List.mem_iff_getElem?.1 h1
    rw [List.getElem?_take] at hj
    split at hj
    · rename_i hlt
      exact ⟨j, q, hlt, hj, h2, rfl⟩
    · cases hj
  · rintro ⟨j, q, hj, hq, h2, rfl⟩
    refine ⟨q, List.mem_filter.2 ⟨List.mem_iff_getElem?.2 ⟨j, ?_⟩, h2⟩, rfl⟩
    rw [List.getElem?_take, if_pos hj]; exact hq
theorem all_has {ts : List ByteArray} {t : ByteArray} : ts.all (hasTagB t) = true ↔ ∀ x ∈ ts, hasTagB t x = true := List.all_eq_true
end Go.Proofs.YtmlhecjhjjlhfaaGreatDoor
namespace Go.Proofs.YtmlhecjhjjlhfaaGreatDoor
open Go.RowKit Go.Sort
set_option linter.unusedVariables false
set_option linter.unusedSimpArgs false
set_option maxRecDepth 100000
theorem comp_ne {p : ByteArray} (h : (compileB p).isSome = true) : p.size ≠ 0 := by
  intro h0
  have hd : p = ⟨#[]⟩ := bytes_ext (List.eq_nil_of_length_eq_zero (by rw [← Lib.size_eq]; exact h0))
  subst hd
  have h2 : compileB ⟨#[]⟩ = none := by decide +kernel
  rw [h2] at h
  cases h
theorem pmA_comp {p : ByteArray} {x : Pat} (h : compileB p = some x) (a : Adr) : pmA p a = matchP x a := by
  unfold pmA patT
  rw [if_neg (comp_ne (by rw [h]; rfl)), h]
  rfl
theorem match_pm {p s : ByteArray} (hp : (compileB p).isSome = true) : matchB p s = (readB s && pmA p (parseB s).1) := by
  obtain ⟨x, hx⟩ := Option.isSome_iff_exists.1 hp
  rw [match_read hx, pmA_comp hx]
theorem meet_match {p q m : ByteArray} (hp : (compileB p).isSome = true) (hq : patOk q = true) (hm : pmeet p q = some m) (hc : (compileB m).isSome = true) (s : ByteArray) : matchB m s = (matchB p s && pmA q (parseB s).1) := by
  have h := pmA_meet (p := p) (q := q) (by unfold patOk; rw [hp]; simp) hq (parseB s).1
  rw [hm] at h
  rw [match_pm hc, match_pm hp]
  dsimp only at h
  rw [h, Bool.and_assoc]
theorem live_ask {l : List RuleP} {i : Nat} {r : RuleP} {c : CondV} {m s T : ByteArray} (hr : l[i]? = some r) (hp : (compileB r.1).isSome = true) (hc : CondOk c) (hlt : c.fr < c.till) (hT : tagsR r.2 = (T, 0)) (hm : pmeet r.1 c.pat = some m) (hg : GapPost m (beforeR l i r.2) s true) :
    holdsC c { sampleC c with addr := s } = true ∧ chooseR l s T = some i := by
  obtain ⟨h1, h2⟩ := gap_found hg
  have hcm : (compileB m).isSome = true := by
    obtain ⟨x, ys, hx, _⟩ := hg
    rw [hx]; rfl
  rw [meet_match hp hc.pat hm hcm, Bool.and_eq_true] at h1
  have hrd : readB s = true := by
    have := h1.1
    rw [match_pm hp, Bool.and_eq_true] at this
    exact this.1
  have hs := holds_sample hc hlt
  obtain ⟨g1, g2, g3, g4, g5, g6⟩ := (holds_iff hc _).1 hs
  refine ⟨(holds_iff hc _).2 ⟨?_, g2, h1.2, g4, g5, g6⟩, ?_⟩
  · unfold validAsk at g1 ⊢
    simp only [Bool.and_eq_true] at g1 ⊢
    exact ⟨⟨⟨⟨hrd, g1.1.1.1.2⟩, g1.1.1.2⟩, g1.1.2⟩, g1.2⟩
  · refine (choose_iff l s T i).2 ⟨r, hr, ?_, fun j q hj hq => ?_⟩
    · unfold mtR
      rw [h1.1, Bool.true_and]
      exact all_has.2 fun x hx => hasTag_tags hT x hx
    · cases hmq : mtR q s T
      · rfl
      · exfalso
        unfold mtR at hmq
        rw [Bool.and_eq_true] at hmq
        have hsb : subB q.2 r.2 = true := (subB_iff _ _).2 fun x hx => (tags_mem hT x).1 (all_has.1 hmq.2 x hx)
        have := h2 q.1 (before_mem.2 ⟨j, q, hj, hq, hsb, rfl⟩)
        rw [this] at hmq
        exact absurd hmq.1 (by decide)
end Go.Proofs.YtmlhecjhjjlhfaaGreatDoor
