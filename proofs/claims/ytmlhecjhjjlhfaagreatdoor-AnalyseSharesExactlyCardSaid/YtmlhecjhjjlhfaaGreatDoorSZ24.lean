/- Plain: conditions: Meet, Within, Implies, Holds, and their laws. -/
import Derived.Test.YtmlhecjhjjlhfaaGreatDoorSZ22
import Derived.Test.YtmlhecjhjjlhfaaGreatDoorProg
import Derived.WalkKit
import Derived.WalkSpells
import Derived.WalkLawsBesides
import Derived.Below
import Derived.Deep.QuietTactic
import Derived.BigQuiet
import Derived.Lib.QuietBelow
import Derived.Lib.Strings
import Derived.Lib.Hide
import Derived.Deep.RegionWith
import Derived.Deep.RegionHeld3
import Derived.Lib.IndexBytes
import Derived.Test.YtmlhecjhjjlhfaaGreatDoorSZ7
import Derived.Test.YtmlhecjhjjlhfaaGreatDoorSZ16
import Derived.Sort.Walk0
import Derived.Test.YtmlhecjhjjlhfaaGreatDoorSZ23
import Derived.Deep.DeepCutAuto
namespace Go.Proofs.YtmlhecjhjjlhfaaGreatDoor
open Go.RowKit Go.Sort
set_option linter.unusedVariables false
set_option linter.unusedSimpArgs false
set_option maxRecDepth 100000
def timesB (c : CondV) : Bool := decide (0 ≤ c.fr ∧ c.fr ≤ 1099511627776 ∧ 0 ≤ c.till ∧ c.till ≤ 1099511627777 ∧ 0 ≤ c.us ∧ c.us ≤ 1073741824)
def validC (c : CondV) : Bool := timesB c && patOk c.pat && setB ltB isNameB 32 c.cl && setB ltB countryB 32 c.co && setB ltI siteB 64 c.si
theorem ltB_tr (a b c : ByteArray) (h1 : ltB a b = true) (h2 : ltB b c = true) : ltB a c = true := by
  unfold ltB at *
  rw [decide_eq_true_eq] at *
  exact List.lt_trans h1 h2
theorem ltI_tr (a b c : Int) (h1 : ltI a b = true) (h2 : ltI b c = true) : ltI a c = true := by
  unfold ltI at *
  rw [decide_eq_true_eq] at *
  omega
structure CondOk (c : CondV) : Prop where
  fr0 : 0 ≤ c.fr
  fr1 : c.fr ≤ 1099511627776
  to0 : 0 ≤ c.till
  to1 : c.till ≤ 1099511627777
  us0 : 0 ≤ c.us
  us1 : c.us ≤ 1073741824
  pat : patOk c.pat = true
  cl : ∀ x ∈ c.cl, isNameB x = true
  clUp : c.cl.Pairwise fun a b => ltB a b = true
  clLen : c.cl.length ≤ 32
  co : ∀ x ∈ c.co, countryB x = true
  coUp : c.co.Pairwise fun a b => ltB a b = true
  coLen : c.co.length ≤ 32
  si : ∀ x ∈ c.si, siteB x = true
  siUp : c.si.Pairwise fun a b => ltI a b = true
  siLen : c.si.length ≤ 64
theorem valid_iff (c : CondV) : validC c = true ↔ CondOk c := by
  unfold validC timesB
  rw [Bool.and_eq_true, Bool.and_eq_true, Bool.and_eq_true, Bool.and_eq_true, decide_eq_true_eq, setB_iff ltB_tr, setB_iff ltB_tr, setB_iff ltI_tr]
  constructor
  · rintro ⟨⟨⟨⟨⟨a1, a2, a3, a4, a5, a6⟩, b⟩, c1, c2, c3⟩, d1, d2, d3⟩, e1, e2, e3⟩
    exact ⟨a1, a2, a3, a4, a5, a6, b, c1, c2, c3, d1, d2, d3, e1, e2, e3⟩
  · rintro ⟨a1, a2, a3, a4, a5, a6, b, c1, c2, c3, d1, d2, d3, e1, e2, e3⟩
    exact ⟨⟨⟨⟨⟨a1, a2, a3, a4, a5, a6⟩, b⟩, c1, c2, c3⟩, d1, d2, d3⟩, e1, e2, e3⟩
def usesM (a b : Int) : Int := if 0 < a ∧ 0 < b then min a b else max a b
def meetO (a b : CondV) : Option CondV := (pmeet a.pat b.pat).bind fun p => (bothO a.cl b.cl).bind fun cl => (bothO a.co b.co).bind fun co => (bothO a.si b.si).bind fun si =>
  if max a.fr b.fr < min a.till b.till then some ⟨max a.fr b.fr, min a.till b.till, p, cl, co, si, usesM a.us b.us⟩ else none
def meetC (a b : CondV) : CondV := (meetO a b).getD zeroC
end Go.Proofs.YtmlhecjhjjlhfaaGreatDoor
namespace Go.Proofs.YtmlhecjhjjlhfaaGreatDoor
open Go.RowKit Go.Sort
set_option linter.unusedVariables false
set_option linter.unusedSimpArgs false
set_option maxRecDepth 100000
theorem single_comp (s : ByteArray) (h : 47 ∉ s.data.toList) : (compileB s).isSome = headOkB s := by
  unfold compileB
  have e : splitB 47 s = [s] := splitB_miss 47 s (by rw [indexByte_miss _ _ h]; omega)
  rw [e, compL_cons]
  cases headOkB s
  · rfl
  · rfl
theorem name_eq (s : ByteArray) : isNameB s = (!(s.toList == [42]) && !decide (0 ≤ Lib.indexByte s.data.toList 47) && (compileB s).isSome) := by
  by_cases h : 47 ∈ s.data.toList
  · have h1 : isNameB s = false := by
      cases hn : isNameB s
      · rfl
      · exact absurd h (word_no (name_word hn)).1
    have h2 : decide (0 ≤ Lib.indexByte s.data.toList 47) = true := by
      rw [decide_eq_true_eq]
      rcases Int.lt_or_le (Lib.indexByte s.data.toList 47) 0 with hlt | hle
      · exact absurd h (indexByte_mem _ _ hlt)
      · exact hle
    rw [h1, h2]; simp
  · rw [indexByte_miss _ _ h, single_comp s h]
    unfold headOkB
    cases hs : (s.toList == [42])
    · simp
    · have : isNameB s = false := by
        cases hn : isNameB s
        · rfl
        · have := (word_no (name_word hn)).2.2.2.2.1
          rw [beq_iff_eq, Lib.toList_data] at hs
          rw [hs] at this
          exact absurd (by simp) this
      rw [this]; rfl
set_option maxHeartbeats 1000000 in
theorem condName_any (s : ByteArray) (w : World) (hs : s.size ≤ 100000) (hE : Env w) : Calls Tryz.prog 148 #[.string s] w (Ret w (.bool (isNameB s))) := by
  have HVA := Lib.hid (fun W h => valid_any s W hs h)
  have HE := Lib.hid hE
  rw [name_eq]
  clear hE
  generalize (compileB s).isSome = b at *
  generalize hc : decide (0 ≤ Lib.indexByte s.data.toList 47) = cc
  have cC := fun W => Tryz.strings_Contains_one s 47 W
  rw [hc] at cC
  have HC := Lib.hid cC
  clear cC hc
  cases h1 : (s.toList == [42])
  · have h1' : ¬ s.toList = [42] := by simpa using h1
    cases cc
    · go_enter Tryz.func148, Tryz.ntmps148
      go_wp2_with (first | (go_at_call 118; refine (HC.out _).mono ?_; rintro e w1 ⟨rfl, rfl⟩) | (go_at_call 33; refine (HVA.out _ (Env.keep HE.out belB)).mono ?_; rintro e w2 ⟨rfl, hb2⟩))
      go_ret
      exact ⟨ret_bool (by simp), belB⟩
    · go_enter Tryz.func148, Tryz.ntmps148
      go_wp2_with (first | (go_at_call 118; refine (HC.out _).mono ?_; rintro e w1 ⟨rfl, rfl⟩) | (go_at_call 33; refine (HVA.out _ (Env.keep HE.out belB)).mono ?_; rintro e w2 ⟨rfl, hb2⟩))
      go_ret
      exact ⟨rfl, belB⟩
  · have h1' : s.toList = [42] := by simpa using h1
    go_enter Tryz.func148, Tryz.ntmps148
    go_wp2
    all_goals (go_ret; exact ⟨rfl, belB⟩)
theorem le_prevI (x y : Int) : decide (x ≤ y) = !ltI y x := by
  unfold ltI
  rw [Bool.eq_iff_iff]; simp
set_option maxHeartbeats 2000000 in
theorem isSetI_any (g : Nat) (eg : ∀ args w, (callFunc g args).run Tryz.prog w = .ok (.enter g args) w) (right : Int → Bool) (A : Option Addr) (n c : Nat) (xs : List Int) (most : Nat) (w : World)
    (hp : ∀ x, ∀ W, Calls Tryz.prog g #[.int .i64 x] W (Ret W (.bool (right x)))) (hA : Reads w 1 A n (xs.map (.int .i64))) (hn : n ≤ 1000000000) (hm : most ≤ 1000000) :
    Calls Tryz.prog 150 #[.slice A n c, .int .i64 most, .func (.func g) #[] #[]] w (Ret w (.bool (setB ltI right most xs))) := by
  have hl : xs.length = n := by have := hA.1; simp at this; omega
  have HP := Lib.hid hp; have HA := Lib.hid hA; have HL := Lib.hid hl
  obtain ⟨V, hV⟩ : ∃ V, V = setB ltI right most xs := ⟨_, rfl⟩
  rw [← hV]
  have HV := Lib.hid hV
  clear hp hA hl hV
  go_enter Tryz.func150, Tryz.ntmps150
  go_wp2
  go_loopw [11] (fun i wr => ∃ k : Nat, k ≤ n ∧ i = .int .i64 k ∧ Hid ((List.range k).all (okK ltI right xs) = true) ∧ Below w.heap.size w wr) (fun i _ => n - (intOf i).toNat)
  case atStart => exact ⟨0, by omega, rfl, Lib.hid rfl, Below.refl _ _⟩
  case round =>
    obtain ⟨k, hk, rfl, HK, hb⟩ := hrel
    by_cases hlt : k < n
    · obtain ⟨x, hx⟩ : ∃ x, xs[k]? = some x := ⟨_, List.getElem?_eq_getElem (by have := HL.out; omega)⟩
      obtain ⟨pb, po, rfl, hcell⟩ := (HA.out.keep hb).2 (by omega)
      have hc1 : wr.cell? ⟨pb, po + k, none⟩ = some (.int .i64 x) := hcell k _ (by simp [hx])
      have hc := fun W => HP.out x W
      have hok : okK ltI right xs k = (right x && (k == 0 || (match xs[k - 1]? with
        | none => true
        | some y => ltI y x))) := by unfold okK; rw [hx]; cases xs[k - 1]? <;> rfl
      have hfail : okK ltI right xs k = false → V = false := fun h => by rw [HV.out]; exact okK_fail (by have := HL.out; omega) h
      cases hr : right x
      · have hVf : V = false := hfail (by rw [hok, hr]; rfl)
        rw [hr] at hc
        have HC := Lib.hid hc
        clear hc hr hok hfail hcell hx
        subst hVf
        go_wp2_with (go_at_fn g; refine (HC.out _).mono ?_; rintro e w2 ⟨rfl, hb2⟩)
        go_ret
        exact ⟨rfl, belB⟩
      · rw [hr] at hc
        have HC := Lib.hid hc
        rcases k with _ | j
        · have HK2 : Hid ((List.range (0 + 1)).all (okK ltI right xs) = true) := Lib.hid (okK_upto HK.out (by rw [hok, hr]; rfl))
          simp only [Nat.add_zero] at hc1
          clear hc hr hok hfail hcell hx
          go_wp2_with (go_at_fn g; refine (HC.out _).mono ?_; rintro e w2 ⟨rfl, hb2⟩)
          exact ⟨⟨1, by omega, by go_num, HK2, belB⟩, by simp [intOf]; omega⟩
        · obtain ⟨y, hy⟩ : ∃ y, xs[j]? = some y := ⟨_, List.getElem?_eq_getElem (by have := HL.out; omega)⟩
          have hc2 : wr.cell? ⟨pb, po + j, none⟩ = some (.int .i64 y) := hcell j _ (by simp [hy])
          have hle := le_prevI x y
          rw [Nat.add_sub_cancel, hy] at hok
          have hok : okK ltI right xs (j + 1) = ltI y x := by rw [hok, hr]; simp
          have hj0 : (0 : Int) ≤ (j : Int) := by omega
          have hj1 : (j : Int) < (n : Int) := by omega
          cases ht : ltI y x
          · have hVf : V = false := hfail (by rw [hok, ht])
            rw [ht] at hle
            clear hc hr hok hfail hcell hx hy
            subst hVf
            go_wp2_with (go_at_fn g; refine (HC.out _).mono ?_; rintro e w2 ⟨rfl, hb2⟩; have hc3 := cell_keep hb2 hc2)
            go_ret
            exact ⟨rfl, belB⟩
          · have HK2 : Hid ((List.range (j + 1 + 1)).all (okK ltI right xs) = true) := Lib.hid (okK_upto HK.out (by rw [hok, ht]))
            rw [ht] at hle
            clear hc hr hok hfail hcell hx hy
            go_wp2_with (go_at_fn g; refine (HC.out _).mono ?_; rintro e w2 ⟨rfl, hb2⟩; have hc3 := cell_keep hb2 hc2)
            exact ⟨⟨j + 1 + 1, by omega, by go_num, HK2, belB⟩, by simp [intOf]; omega⟩
    · obtain rfl : k = n := by omega
      have hv : V = decide (k ≤ most) := by rw [HV.out]; unfold setB; rw [HL.out, HK.out]; rfl
      by_cases hm2 : k ≤ most
      · rw [decide_eq_true hm2] at hv
        have d1 : decide ((k : Int) ≤ most) = true := decide_eq_true (by omega)
        subst hv
        go_wp2
        go_ret
        exact ⟨rfl, hb⟩
      · rw [decide_eq_false hm2] at hv
        have d1 : decide ((k : Int) ≤ most) = false := decide_eq_false (by omega)
        subst hv
        go_wp2
        go_ret
        exact ⟨rfl, hb⟩
end Go.Proofs.YtmlhecjhjjlhfaaGreatDoor
namespace Go.Proofs.YtmlhecjhjjlhfaaGreatDoor
open Go.RowKit Go.Sort
set_option linter.unusedVariables false
set_option linter.unusedSimpArgs false
set_option maxRecDepth 100000
def anyP : Pat := ⟨⟨2, ⟨#[]⟩⟩, [], true⟩
theorem any_fit : PatFit anyP := ⟨.inr ⟨rfl, rfl⟩, (by intro p hp; cases hp), by decide⟩
theorem any_str : patS anyP = ⟨#[42, 47, 42, 42]⟩ := bytes_ext (by
  rw [patS_eq, join_data, str_data]
  rfl)
theorem any_comp : compileB ⟨#[42, 47, 42, 42]⟩ = some anyP := by rw [← any_str]; exact compile_str any_fit
theorem any_match (a : Adr) : matchP anyP a = true := by
  unfold matchP anyP
  rw [has2]
  simp [matchesL]
def patT (p : ByteArray) : ByteArray := if p.size = 0 then ⟨#[42, 47, 42, 42]⟩ else p
def pmA (p : ByteArray) (a : Adr) : Bool := matchO (compileB (patT p)) a
theorem patT_some {p : ByteArray} (h : patOk p = true) : ∃ x, compileB (patT p) = some x ∧ PatFit x := by
  unfold patT
  by_cases h0 : p.size = 0
  · rw [if_pos h0]; exact ⟨_, any_comp, any_fit⟩
  · rw [if_neg h0]
    obtain ⟨x, hx⟩ := patOk_some h h0
    exact ⟨x, hx, compile_fit hx⟩
theorem pmA_meet {p q : ByteArray} (hp : patOk p = true) (hq : patOk q = true) (a : Adr) : (match pmeet p q with | some r => pmA r a | none => false) = (pmA p a && pmA q a) := by
  have h0 : ∀ s : ByteArray, s.size = 0 → pmA s a = true := fun s hs => by
    unfold pmA patT; rw [if_pos hs, any_comp]; exact any_match a
  by_cases h1 : p.size = 0
  · have e1 : pmeet p q = some q := by unfold pmeet; rw [if_pos h1]
    rw [e1, h0 p h1, Bool.true_and]
  · by_cases h2 : q.size = 0
    · have e1 : pmeet p q = some p := by unfold pmeet; rw [if_neg h1, if_pos h2]
      rw [e1, h0 q h2, Bool.and_true]
    · obtain ⟨x, hx⟩ := patOk_some hp h1
      obtain ⟨y, hy⟩ := patOk_some hq h2
      have fx := compile_fit hx
      have fy := compile_fit hy
      have e : ∀ (s : ByteArray) (z : Pat), s.size ≠ 0 → compileB s = some z → pmA s a = matchP z a := fun s z hs hz => by
        unfold pmA patT; rw [if_neg hs, hz]; rfl
      rw [pmeet_two h1 h2 hx hy, e p x h1 hx, e q y h2 hy, ← common_match fx fy]
      cases h : commonP x y with
      | none => rfl
      | some z =>
        have fz := (commonP_some fx fy h).1
        exact e (patS z) z (patS_ne fz) (compile_str fz)
end Go.Proofs.YtmlhecjhjjlhfaaGreatDoor
namespace Go.Proofs.YtmlhecjhjjlhfaaGreatDoor
open Go.RowKit Go.Sort
set_option linter.unusedVariables false
set_option linter.unusedSimpArgs false
set_option maxRecDepth 100000
theorem key_less (a b : ByteArray) : (!(Op.bytesLess a.toList b.toList || a.toList == b.toList)) = decide (b.data.toList < a.data.toList) := by
  rw [bytesLess_eq, Lib.toList_data, Lib.toList_data, Bool.eq_iff_iff]
  simp only [Bool.not_eq_true', Bool.or_eq_false_iff, decide_eq_false_iff_not, beq_eq_false_iff_ne, decide_eq_true_eq]
  constructor
  · rintro ⟨h1, h2⟩; exact lt_tri _ _ h2 h1
  · intro h
    exact ⟨fun h1 => List.lt_irrefl _ (List.lt_trans h h1), fun e => List.lt_irrefl _ (by rw [e] at h; exact h)⟩
theorem pairK_at (qs : List (ByteArray × ByteArray)) (k : Nat) (hk : k < qs.length) : pairK qs k = true ↔ isNameB qs[k].1 = true ∧ isWordB qs[k].2 = true ∧ (k = 0 ∨ ∃ h : k - 1 < qs.length, qs[k - 1].1.data.toList < qs[k].1.data.toList) := by
  unfold pairK
  rw [List.getElem?_eq_getElem hk]
  simp only [Bool.and_eq_true, Bool.or_eq_true, beq_iff_eq]
  have hk1 : k - 1 < qs.length := by omega
  rw [List.getElem?_eq_getElem hk1]
  simp only [Option.getD_some]
  rw [key_less, decide_eq_true_eq]
  constructor
  · rintro ⟨⟨h1, h2⟩, h3⟩
    exact ⟨h1, h2, h3.imp id fun h => ⟨hk1, h⟩⟩
  · rintro ⟨h1, h2, h3⟩
    exact ⟨⟨h1, h2⟩, h3.imp id fun ⟨_, h⟩ => h⟩
theorem formed_iff (c : ByteArray) (xs : List ByteArray) (qs : List (ByteArray × ByteArray)) : formedB c xs qs = true ↔ AdrGood ⟨c, xs, qs⟩ ∧ (W06 c xs qs).length ≤ 4096 := by
  unfold formedB headOk
  simp only [Bool.and_eq_true, decide_eq_true_eq, List.all_eq_true, List.mem_range]
  constructor
  · rintro ⟨⟨⟨⟨⟨h1, h2⟩, h3⟩, h4⟩, h5⟩, h6⟩
    have hat := fun k hk => (pairK_at qs k hk).1 (h5 k hk)
    refine ⟨⟨h1, h4, h2, h3, ?_, ?_⟩, h6⟩
    · intro q hq
      obtain ⟨k, hk, rfl⟩ := List.getElem_of_mem hq
      exact ⟨(hat k hk).1, (hat k hk).2.1⟩
    · unfold KeysUp
      rw [List.pairwise_iff_getElem]
      intro i j
      induction j with
      | zero => intro _ _ h; omega
      | succ j ih =>
        intro hi hj hij
        rcases (hat (j + 1) hj).2.2 with h | ⟨h, h7⟩
        · omega
        · have e : j + 1 - 1 = j := rfl
          simp only [e] at h7
          by_cases hij2 : i = j
          · subst hij2; exact h7
          · exact List.lt_trans (ih hi (by omega) (by omega)) h7
  · rintro ⟨⟨h1, h4, h2, h3, h5, h7⟩, h6⟩
    refine ⟨⟨⟨⟨⟨h1, h2⟩, h3⟩, h4⟩, fun k hk => ?_⟩, h6⟩
    rw [pairK_at qs k hk]
    have hq := h5 qs[k] (List.getElem_mem hk)
    refine ⟨hq.1, hq.2, ?_⟩
    by_cases h0 : k = 0
    · exact .inl h0
    · have hk1 : k - 1 < qs.length := by omega
      exact .inr ⟨hk1, List.pairwise_iff_getElem.1 h7 (k - 1) k hk1 hk (by omega)⟩
section
variable {c : ByteArray} {ws : List ByteArray} (hc : isNameB c = true) (hw : ∀ w ∈ ws, isWordB w = true) (hn : ws.length ≤ 32)
include hc hw hn
end
end Go.Proofs.YtmlhecjhjjlhfaaGreatDoor
namespace Go.Proofs.YtmlhecjhjjlhfaaGreatDoor
open Go.RowKit Go.Sort
set_option linter.unusedVariables false
set_option linter.unusedSimpArgs false
set_option maxRecDepth 100000
def totP (l : List (List UInt8)) : Nat := (pathL l).length
theorem totP_cons (x : List UInt8) (l : List (List UInt8)) : totP (x :: l) = x.length + 1 + totP l := by simp [totP, pathL]; omega
theorem totP_nil : totP [] = 0 := rfl
theorem totP_app (a b : List (List UInt8)) : totP (a ++ b) = totP a + totP b := by simp [totP, pathL]
theorem split_tot (c : UInt8) : ∀ l : List UInt8, totP (splitL c l) = l.length + 1
  | [] => by simp [splitL, totP_cons, totP_nil]
  | b :: l => by
    have ih := split_tot c l
    unfold splitL
    split
    · rw [totP_cons, ih]; simp; omega
    · cases hs : splitL c l with
      | nil => exact absurd hs (splitL_ne c l)
      | cons p ps =>
        rw [hs, totP_cons] at ih
        simp only [totP_cons, List.length_cons]
        omega
theorem lists_split (c : UInt8) (s : ByteArray) : lists (splitB c s) = splitL c s.data.toList := by
  unfold splitB lists
  rw [List.map_map]
  conv => rhs; rw [← List.map_id (splitL c s.data.toList)]
  exact List.map_congr_left fun x _ => rfl
theorem totP_dropLast (l : List ByteArray) : totP (lists l.dropLast) ≤ totP (lists l) := by
  rcases List.eq_nil_or_concat l with rfl | ⟨a, x, rfl⟩
  · exact Nat.le_refl _
  · rw [List.concat_eq_append, List.dropLast_concat]
    unfold lists
    rw [List.map_append, totP_app]
    omega
theorem res_tot : ∀ (ps out r : List ByteArray), resB out ps = some r → totP (lists r) ≤ totP (lists out) + totP (lists ps)
  | [], out, r, e => by simp [resB] at e; subst e; simp [lists, totP_nil]
  | p :: ps, out, r, e => by
    rw [resB] at e
    cases hs : resStep out p with
    | none => rw [hs] at e; cases e
    | some o =>
      rw [hs, Option.bind_some] at e
      have ih := res_tot ps o r e
      have ho : totP (lists o) ≤ totP (lists out) + (p.data.toList.length + 1) := by
        unfold resStep at hs
        split at hs
        · injection hs with hs; subst hs; omega
        · split at hs
          · injection hs with hs; subst hs
            have := totP_dropLast out
            omega
          · split at hs
            · injection hs with hs; subst hs
              unfold lists
              rw [List.map_append, totP_app, List.map_cons, totP_cons]
              simp [totP_nil]
            · cases hs
      have hp : totP (lists (p :: ps)) = p.data.toList.length + 1 + totP (lists ps) := totP_cons _ _
      omega
def totQ : List (List UInt8 × List UInt8) → Nat
  | [] => 0
  | q :: l => q.1.length + q.2.length + 2 + totQ l
theorem query_tot : ∀ (sep : UInt8) (l : List (List UInt8 × List UInt8)), (queryL sep l).length = totQ l
  | _, [] => rfl
  | sep, (k, v) :: l => by simp [queryL, totQ, query_tot 38 l]; omega
theorem insL_tot (p : List UInt8 × List UInt8) : ∀ l : List (List UInt8 × List UInt8), totQ (insL l p) ≤ totQ l + (p.1.length + p.2.length + 2)
  | [] => by simp [insL, totQ]
  | q :: l => by
    unfold insL
    have ih := insL_tot p l
    split
    · simp only [totQ]; omega
    · split <;> simp only [totQ] <;> omega
theorem fold_tot : ∀ (l acc : List (List UInt8 × List UInt8)), totQ (l.foldl insL acc) ≤ totQ acc + totQ l
  | [], acc => by simp [totQ]
  | p :: l, acc => by
    have h1 := fold_tot l (insL acc p)
    have h2 := insL_tot p acc
    rw [List.foldl_cons]
    simp only [totQ]
    omega
theorem totQ_app : ∀ (a b : List (List UInt8 × List UInt8)), totQ (a ++ b) = totQ a + totQ b
  | [], b => by simp [totQ]
  | q :: a, b => by simp only [List.cons_append, totQ, totQ_app a b]; omega
theorem cut_tot (l : List UInt8) (c : UInt8) : (Lib.cut l [c]).1.length + (if (Lib.cut l [c]).2.2 then 1 + (Lib.cut l [c]).2.1.length else 0) = l.length ∧ ((Lib.cut l [c]).2.2 = false → (Lib.cut l [c]).2.1 = []) := by
  by_cases h : c ∈ l
  · obtain ⟨a, b, rfl, hna⟩ : ∃ a b, l = a ++ c :: b ∧ c ∉ a := by
      induction l with
      | nil => simp at h
      | cons x l ih =>
        by_cases e : x = c
        · subst e; exact ⟨[], l, rfl, by simp⟩
        · rcases List.mem_cons.1 h with h | h
          · exact absurd h.symm e
          · obtain ⟨a, b, h1, h2⟩ := ih h
            exact ⟨x :: a, b, by rw [h1]; rfl, by simp [h2]; exact fun e2 => e e2.symm⟩
    rw [cut_hit a b c hna]
    simp
    omega
  · rw [cut_none l c h]
    simp
theorem qAcc_tot : ∀ (ps : List ByteArray) (acc r : List (List UInt8 × List UInt8)), qAcc acc ps = some r → totQ r ≤ totQ acc + totP (lists ps)
  | [], acc, r, e => by simp [qAcc] at e; subst e; simp [lists, totP_nil]
  | p :: ps, acc, r, e => by
    rw [qAcc] at e
    cases hs : parsePair p with
    | none => rw [hs] at e; cases e
    | some x =>
      rw [hs] at e
      have ih := qAcc_tot ps _ r e
      have hx : x.1.length + x.2.length + 1 = p.data.toList.length := by
        unfold parsePair at hs
        split at hs
        · rename_i hc
          injection hs with hs
          subst hs
          simp only [Bool.and_eq_true] at hc
          have := (cut_tot p.data.toList 61).1
          rw [hc.1.1] at this
          simp only [if_true] at this
          dsimp only
          omega
        · cases hs
      have hp : totP (lists (p :: ps)) = p.data.toList.length + 1 + totP (lists ps) := totP_cons _ _
      rw [totQ_app] at ih
      simp only [totQ] at ih
      omega
theorem pairs_tot (q : List UInt8) (r : List (ByteArray × ByteArray)) (h : pairsB (toB q) = some r) : totQ (lists2 r) ≤ (if q = [] then 0 else q.length + 1) := by
  unfold pairsB at h
  split at h
  · injection h with h; subst h; simp [lists2, totQ]
  · rename_i hne
    rw [Lib.toList_data] at hne
    have hq : q ≠ [] := fun e => hne (by rw [e]; rfl)
    rw [if_neg hq]
    obtain ⟨acc, ha, rfl⟩ := Option.map_eq_some_iff.1 h
    have h1 := qAcc_tot _ _ _ ha
    rw [lists_split, split_tot] at h1
    have h2 := fold_tot acc []
    have h3 : lists2 ((pairsL acc).map fun q => (toB q.1, toB q.2)) = pairsL acc := by
      unfold lists2
      rw [List.map_map]
      conv => rhs; rw [← List.map_id (pairsL acc)]
      exact List.map_congr_left fun x _ => rfl
    rw [h3]
    unfold pairsL
    simp only [totQ] at h1 h2
    have h4 : (toB q).data.toList.length = q.length := rfl
    omega
theorem trimS_le (l : List UInt8) : (Lib.trimSuffix l [47]).length ≤ l.length := trim_len l [47]
theorem parse_short (s : ByteArray) (h : (parseB s).2 = 0) : (W06 (parseB s).1.cust (parseB s).1.path (parseB s).1.query).length ≤ s.size ∧ s.size ≤ 4096 := by
  unfold parseB at h ⊢
  split at h
  · cases h
  · rename_i hs
    rw [if_neg hs]
    refine ⟨?_, by omega⟩
    have hl0 := cut_tot (lowL s.data.toList) 63
    have hc0 := cut_tot (Lib.trimSuffix (leftL s).1 [47]) 47
    have ht := trimS_le (leftL s).1
    have hlow := lowL_len s.data.toList
    have hp : ∀ p, pathB (custL s) = some p → totP (lists p) ≤ if (custL s).2.2 then 1 + (custL s).2.1.length else 0 := by
      intro p hp
      unfold pathB at hp
      split at hp
      · rename_i hm
        have := res_tot _ _ _ hp
        rw [lists_split, split_tot] at this
        have e : (toB (custL s).2.1).data.toList.length = (custL s).2.1.length := rfl
        simp only [lists, List.map_nil, totP_nil] at this
        rw [if_pos hm]
        unfold lists
        omega
      · injection hp with hp; subst hp; simp [lists, totP_nil]
    have hq := fun r h => pairs_tot (leftL s).2.1 r h
    rw [size_data, ← hlow]
    change (leftL s).1.length + (if (leftL s).2.2 then 1 + (leftL s).2.1.length else 0) = _ ∧ _ at hl0
    change (custL s).1.length + (if (custL s).2.2 then 1 + (custL s).2.1.length else 0) = _ ∧ _ at hc0
    generalize pathB (custL s) = rr at *
    generalize pairsB (toB (leftL s).2.1) = qq at *
    generalize isNameB (toB (custL s).1) = nm at *
    unfold adrOf at h ⊢
    split at h
    · split at h
      · rename_i hl
        rw [if_pos hl]
        dsimp only
        have h1 := hp _ rfl
        have h2 := hq _ rfl
        unfold W06 writeL
        rw [List.length_append, List.length_append, query_tot]
        have e1 : (toB (custL s).1).data.toList.length = (custL s).1.length := rfl
        unfold totP at h1
        have h3 : (if (leftL s).2.1 = [] then 0 else (leftL s).2.1.length + 1) ≤ if (leftL s).2.2 then 1 + (leftL s).2.1.length else 0 := by
          split
          · omega
          · rename_i hne
            cases hb : (leftL s).2.2
            · exact absurd (hl0.2 hb) hne
            · simp; omega
        omega
      · cases h
    · cases h
end Go.Proofs.YtmlhecjhjjlhfaaGreatDoor
namespace Go.Proofs.YtmlhecjhjjlhfaaGreatDoor
open Go.RowKit Go.Sort
set_option linter.unusedVariables false
set_option linter.unusedSimpArgs false
set_option maxRecDepth 100000
def coversV : Option Pat → Option Pat → Value
  | some x, some y => .tuple #[.bool (coverB x y), .string (if coverB x y then ⟨#[]⟩ else coverW x y), .int .i64 0]
  | _, _ => .tuple #[.bool false, .string ⟨#[]⟩, .int .i64 1]
theorem Reads.put {w : World} {g n k : Nat} {vs : List Value} (h : Reads w 1 (some ⟨g, 0, none⟩) n vs) (hk : k < n) (v : Value) : Reads (w.setCell ⟨g, 0 + k, none⟩ v) 1 (some ⟨g, 0, none⟩) n (vs.set k v) := by
  refine ⟨by simpa using h.1, fun hn => ⟨g, 0, rfl, fun j u hu => ?_⟩⟩
  obtain ⟨b, o, he, hc⟩ := h.2 hn
  injection he with he; injection he with h1 h2 _; subst h1; subst h2
  by_cases e : k = j
  · subst e
    have hl : k < vs.length := by have := h.1; omega
    rw [List.getElem?_set_self hl] at hu
    injection hu with hu; subst hu
    exact World.cell?_setCell_same w _ v (hc k _ (List.getElem?_eq_getElem hl))
  · rw [List.getElem?_set_ne e] at hu
    exact (World.cell?_setCell_other w _ ⟨g, 0 + j, none⟩ v (by intro h; injection h with _ h _; omega)).trans (hc j u hu)
end Go.Proofs.YtmlhecjhjjlhfaaGreatDoor
