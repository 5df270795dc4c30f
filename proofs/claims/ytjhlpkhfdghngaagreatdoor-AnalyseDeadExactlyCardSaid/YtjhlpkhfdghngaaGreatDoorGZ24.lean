/- Plain: conditions: what is valid, what two have in common, which is within which. -/
import Derived.Test.YtjhlpkhfdghngaaGreatDoorGZ22
import Derived.Test.YtjhlpkhfdghngaaGreatDoorGZ7
import Derived.Test.YtjhlpkhfdghngaaGreatDoorProg
import Derived.WalkKit
import Derived.WalkSpells
import Derived.WalkLawsBesides
import Derived.Below
import Derived.Deep.QuietTactic
import Derived.BigQuiet
import Derived.Lib.QuietBelow
import Derived.Lib.Strings
import Derived.Lib.Hide
import Derived.Deep.RegionWith
import Derived.Deep.RegionHeld3
import Derived.Lib.IndexBytes
import Derived.Test.YtjhlpkhfdghngaaGreatDoorGZ17
import Derived.Sort.Walk0
namespace Go.Proofs.YtjhlpkhfdghngaaGreatDoor
open Go.RowKit Go.Sort
set_option linter.unusedVariables false
set_option linter.unusedSimpArgs false
set_option maxRecDepth 100000
section
variable {α : Type}
theorem okK_at {lt : α → α → Bool} {right : α → Bool} {l : List α} (h : (List.range l.length).all (okK lt right l) = true) (k : Nat) (hk : k < l.length) : right l[k] = true ∧ ∀ j, (hj : j + 1 = k) → lt (l[j]'(by omega)) l[k] = true := by
  have := (List.all_eq_true.1 h) k (by simpa using hk)
  unfold okK at this
  rw [List.getElem?_eq_getElem hk] at this
  simp only [Bool.and_eq_true] at this
  refine ⟨this.1, fun j hj => ?_⟩
  subst hj
  have h2 := this.2
  rw [Nat.add_sub_cancel, List.getElem?_eq_getElem (show j < l.length by omega)] at h2
  simpa using h2
theorem setB_iff {lt : α → α → Bool} (tr : ∀ a b c, lt a b = true → lt b c = true → lt a c = true) (right : α → Bool) (most : Nat) (l : List α) : setB lt right most l = true ↔ (∀ x ∈ l, right x = true) ∧ l.Pairwise (fun a b => lt a b = true) ∧ l.length ≤ most := by
  unfold setB
  rw [Bool.and_eq_true, decide_eq_true_eq]
  constructor
  · rintro ⟨h, hm⟩
    refine ⟨fun x hx => ?_, List.pairwise_iff_getElem.2 fun i j hi hj hij => ?_, hm⟩
    · obtain ⟨k, hk, rfl⟩ := List.getElem_of_mem hx
      exact (okK_at h k hk).1
    · have key : ∀ d i, (hd : i + d + 1 < l.length) → lt (l[i]'(by omega)) (l[i + d + 1]'hd) = true := by
        intro d
        induction d with
        | zero => intro i hd; exact (okK_at h (i + 1) hd).2 i rfl
        | succ d ih => intro i hd; exact tr _ _ _ (ih i (by omega)) ((okK_at h (i + (d + 1) + 1) hd).2 (i + d + 1) (by omega))
      have := key (j - i - 1) i (by omega)
      simpa [show i + (j - i - 1) + 1 = j by omega] using this
  · rintro ⟨h1, h2, h3⟩
    refine ⟨List.all_eq_true.2 fun k hk => ?_, h3⟩
    have hk : k < l.length := by simpa using hk
    unfold okK
    rw [List.getElem?_eq_getElem hk]
    simp only [Bool.and_eq_true, h1 _ (List.getElem_mem hk), true_and]
    cases k with
    | zero => rfl
    | succ k =>
      rw [Nat.add_sub_cancel, List.getElem?_eq_getElem (show k < l.length by omega)]
      simp [List.pairwise_iff_getElem.1 h2 k (k + 1) (by omega) hk (by omega)]
variable [DecidableEq α]
def allowsL (l : List α) (x : α) : Bool := l.isEmpty || l.contains x
def bothF (a b : List α) : List α := (if a.isEmpty then b else a).filter (allowsL b)
def bothOk (a b : List α) : Bool := !(bothF a b).isEmpty || (if a.isEmpty then b else a).isEmpty
def bothO (a b : List α) : Option (List α) := if bothOk a b then some (bothF a b) else none
end
end Go.Proofs.YtjhlpkhfdghngaaGreatDoor
namespace Go.Proofs.YtjhlpkhfdghngaaGreatDoor
open Go.RowKit Go.Sort
set_option linter.unusedVariables false
set_option linter.unusedSimpArgs false
set_option maxRecDepth 100000
def timesB (c : CondV) : Bool := decide (0 ≤ c.fr ∧ c.fr ≤ 1099511627776 ∧ 0 ≤ c.till ∧ c.till ≤ 1099511627777 ∧ 0 ≤ c.us ∧ c.us ≤ 1073741824)
def validC (c : CondV) : Bool := timesB c && patOk c.pat && setB ltB isNameB 32 c.cl && setB ltB countryB 32 c.co && setB ltI siteB 64 c.si
theorem ltB_tr (a b c : ByteArray) (h1 : ltB a b = true) (h2 : ltB b c = true) : ltB a c = true := by
  unfold ltB at *
  rw [decide_eq_true_eq] at *
  exact List.lt_trans h1 h2
theorem ltI_tr (a b c : Int) (h1 : ltI a b = true) (h2 : ltI b c = true) : ltI a c = true := by
  unfold ltI at *
  rw [decide_eq_true_eq] at *
  omega
structure CondOk (c : CondV) : Prop where
  fr0 : 0 ≤ c.fr
  fr1 : c.fr ≤ 1099511627776
  to0 : 0 ≤ c.till
  to1 : c.till ≤ 1099511627777
  us0 : 0 ≤ c.us
  us1 : c.us ≤ 1073741824
  pat : patOk c.pat = true
  cl : ∀ x ∈ c.cl, isNameB x = true
  clUp : c.cl.Pairwise fun a b => ltB a b = true
  clLen : c.cl.length ≤ 32
  co : ∀ x ∈ c.co, countryB x = true
  coUp : c.co.Pairwise fun a b => ltB a b = true
  coLen : c.co.length ≤ 32
  si : ∀ x ∈ c.si, siteB x = true
  siUp : c.si.Pairwise fun a b => ltI a b = true
  siLen : c.si.length ≤ 64
theorem valid_iff (c : CondV) : validC c = true ↔ CondOk c := by
  unfold validC timesB
  rw [Bool.and_eq_true, Bool.and_eq_true, Bool.and_eq_true, Bool.and_eq_true, decide_eq_true_eq, setB_iff ltB_tr, setB_iff ltB_tr, setB_iff ltI_tr]
  constructor
  · rintro ⟨⟨⟨⟨⟨a1, a2, a3, a4, a5, a6⟩, b⟩, c1, c2, c3⟩, d1, d2, d3⟩, e1, e2, e3⟩
    exact ⟨a1, a2, a3, a4, a5, a6, b, c1, c2, c3, d1, d2, d3, e1, e2, e3⟩
  · rintro ⟨a1, a2, a3, a4, a5, a6, b, c1, c2, c3, d1, d2, d3, e1, e2, e3⟩
    exact ⟨⟨⟨⟨⟨a1, a2, a3, a4, a5, a6⟩, b⟩, c1, c2, c3⟩, d1, d2, d3⟩, e1, e2, e3⟩
def usesM (a b : Int) : Int := if 0 < a ∧ 0 < b then min a b else max a b
def meetO (a b : CondV) : Option CondV := (pmeet a.pat b.pat).bind fun p => (bothO a.cl b.cl).bind fun cl => (bothO a.co b.co).bind fun co => (bothO a.si b.si).bind fun si =>
  if max a.fr b.fr < min a.till b.till then some ⟨max a.fr b.fr, min a.till b.till, p, cl, co, si, usesM a.us b.us⟩ else none
def meetC (a b : CondV) : CondV := (meetO a b).getD zeroC
end Go.Proofs.YtjhlpkhfdghngaaGreatDoor
namespace Go.Proofs.YtjhlpkhfdghngaaGreatDoor
open Go.RowKit Go.Sort
set_option linter.unusedVariables false
set_option linter.unusedSimpArgs false
set_option maxRecDepth 100000
theorem single_comp (s : ByteArray) (h : 47 ∉ s.data.toList) : (compileB s).isSome = headOkB s := by
  unfold compileB
  have e : splitB 47 s = [s] := splitB_miss 47 s (by rw [indexByte_miss _ _ h]; omega)
  rw [e, compL_cons]
  cases headOkB s
  · rfl
  · rfl
theorem name_eq (s : ByteArray) : isNameB s = (!(s.toList == [42]) && !decide (0 ≤ Lib.indexByte s.data.toList 47) && (compileB s).isSome) := by
  by_cases h : 47 ∈ s.data.toList
  · have h1 : isNameB s = false := by
      cases hn : isNameB s
      · rfl
      · exact absurd h (word_no (name_word hn)).1
    have h2 : decide (0 ≤ Lib.indexByte s.data.toList 47) = true := by
      rw [decide_eq_true_eq]
      rcases Int.lt_or_le (Lib.indexByte s.data.toList 47) 0 with hlt | hle
      · exact absurd h (indexByte_mem _ _ hlt)
      · exact hle
    rw [h1, h2]; simp
  · rw [indexByte_miss _ _ h, single_comp s h]
    unfold headOkB
    cases hs : (s.toList == [42])
    · simp
    · have : isNameB s = false := by
        cases hn : isNameB s
        · rfl
        · have := (word_no (name_word hn)).2.2.2.2.1
          rw [beq_iff_eq, Lib.toList_data] at hs
          rw [hs] at this
          exact absurd (by simp) this
      rw [this]; rfl
set_option maxHeartbeats 1000000 in
theorem condName_any (s : ByteArray) (w : World) (hs : s.size ≤ 100000) (hE : Env w) : Calls Tryz.prog 108 #[.string s] w (Ret w (.bool (isNameB s))) := by
  have HVA := Lib.hid (fun W h => valid_any s W hs h)
  have HE := Lib.hid hE
  rw [name_eq]
  clear hE
  generalize (compileB s).isSome = b at *
  generalize hc : decide (0 ≤ Lib.indexByte s.data.toList 47) = cc
  have cC := fun W => Tryz.strings_Contains_one s 47 W
  rw [hc] at cC
  have HC := Lib.hid cC
  clear cC hc
  cases h1 : (s.toList == [42])
  · have h1' : ¬ s.toList = [42] := by simpa using h1
    cases cc
    · go_enter Tryz.func108, Tryz.ntmps108
      go_wp2_with (first | (go_at_call 149; refine (HC.out _).mono ?_; rintro e w1 ⟨rfl, rfl⟩) | (go_at_call 49; refine (HVA.out _ (Env.keep HE.out belB)).mono ?_; rintro e w2 ⟨rfl, hb2⟩))
      go_ret
      exact ⟨ret_bool (by simp), belB⟩
    · go_enter Tryz.func108, Tryz.ntmps108
      go_wp2_with (first | (go_at_call 149; refine (HC.out _).mono ?_; rintro e w1 ⟨rfl, rfl⟩) | (go_at_call 49; refine (HVA.out _ (Env.keep HE.out belB)).mono ?_; rintro e w2 ⟨rfl, hb2⟩))
      go_ret
      exact ⟨rfl, belB⟩
  · have h1' : s.toList = [42] := by simpa using h1
    go_enter Tryz.func108, Tryz.ntmps108
    go_wp2
    all_goals (go_ret; exact ⟨rfl, belB⟩)
theorem le_prevI (x y : Int) : decide (x ≤ y) = !ltI y x := by
  unfold ltI
  rw [Bool.eq_iff_iff]; simp
set_option maxHeartbeats 2000000 in
theorem isSetI_any (g : Nat) (eg : ∀ args w, (callFunc g args).run Tryz.prog w = .ok (.enter g args) w) (right : Int → Bool) (A : Option Addr) (n c : Nat) (xs : List Int) (most : Nat) (w : World)
    (hp : ∀ x, ∀ W, Calls Tryz.prog g #[.int .i64 x] W (Ret W (.bool (right x)))) (hA : Reads w 1 A n (xs.map (.int .i64))) (hn : n ≤ 1000000000) (hm : most ≤ 1000000) :
    Calls Tryz.prog 110 #[.slice A n c, .int .i64 most, .func (.func g) #[] #[]] w (Ret w (.bool (setB ltI right most xs))) := by
  have hl : xs.length = n := by have := hA.1; simp at this; omega
  have HP := Lib.hid hp; have HA := Lib.hid hA; have HL := Lib.hid hl
  obtain ⟨V, hV⟩ : ∃ V, V = setB ltI right most xs := ⟨_, rfl⟩
  rw [← hV]
  have HV := Lib.hid hV
  clear hp hA hl hV
  go_enter Tryz.func110, Tryz.ntmps110
  go_wp2
  go_loopw [11] (fun i wr => ∃ k : Nat, k ≤ n ∧ i = .int .i64 k ∧ Hid ((List.range k).all (okK ltI right xs) = true) ∧ Below w.heap.size w wr) (fun i _ => n - (intOf i).toNat)
  case atStart => exact ⟨0, by omega, rfl, Lib.hid rfl, Below.refl _ _⟩
  case round =>
    obtain ⟨k, hk, rfl, HK, hb⟩ := hrel
    by_cases hlt : k < n
    · obtain ⟨x, hx⟩ : ∃ x, xs[k]? = some x := ⟨_, List.getElem?_eq_getElem (by have := HL.out; omega)⟩
      obtain ⟨pb, po, rfl, hcell⟩ := (HA.out.keep hb).2 (by omega)
      have hc1 : wr.cell? ⟨pb, po + k, none⟩ = some (.int .i64 x) := hcell k _ (by simp [hx])
      have hc := fun W => HP.out x W
      have hok : okK ltI right xs k = (right x && (k == 0 || (match xs[k - 1]? with
        | none => true
        | some y => ltI y x))) := by unfold okK; rw [hx]; cases xs[k - 1]? <;> rfl
      have hfail : okK ltI right xs k = false → V = false := fun h => by rw [HV.out]; exact okK_fail (by have := HL.out; omega) h
      cases hr : right x
      · have hVf : V = false := hfail (by rw [hok, hr]; rfl)
        rw [hr] at hc
        have HC := Lib.hid hc
        clear hc hr hok hfail hcell hx
        subst hVf
        go_wp2_with (go_at_fn g; refine (HC.out _).mono ?_; rintro e w2 ⟨rfl, hb2⟩)
        go_ret
        exact ⟨rfl, belB⟩
      · rw [hr] at hc
        have HC := Lib.hid hc
        rcases k with _ | j
        · have HK2 : Hid ((List.range (0 + 1)).all (okK ltI right xs) = true) := Lib.hid (okK_upto HK.out (by rw [hok, hr]; rfl))
          simp only [Nat.add_zero] at hc1
          clear hc hr hok hfail hcell hx
          go_wp2_with (go_at_fn g; refine (HC.out _).mono ?_; rintro e w2 ⟨rfl, hb2⟩)
          exact ⟨⟨1, by omega, by go_num, HK2, belB⟩, by simp [intOf]; omega⟩
        · obtain ⟨y, hy⟩ : ∃ y, xs[j]? = some y := ⟨_, List.getElem?_eq_getElem (by have := HL.out; omega)⟩
          have hc2 : wr.cell? ⟨pb, po + j, none⟩ = some (.int .i64 y) := hcell j _ (by simp [hy])
          have hle := le_prevI x y
          rw [Nat.add_sub_cancel, hy] at hok
          have hok : okK ltI right xs (j + 1) = ltI y x := by rw [hok, hr]; simp
          have hj0 : (0 : Int) ≤ (j : Int) := by omega
          have hj1 : (j : Int) < (n : Int) := by omega
          cases ht : ltI y x
          · have hVf : V = false := hfail (by rw [hok, ht])
            rw [ht] at hle
            clear hc hr hok hfail hcell hx hy
            subst hVf
            go_wp2_with (go_at_fn g; refine (HC.out _).mono ?_; rintro e w2 ⟨rfl, hb2⟩; have hc3 := cell_keep hb2 hc2)
            go_ret
            exact ⟨rfl, belB⟩
          · have HK2 : Hid ((List.range (j + 1 + 1)).all (okK ltI right xs) = true) := Lib.hid (okK_upto HK.out (by rw [hok, ht]))
            rw [ht] at hle
            clear hc hr hok hfail hcell hx hy
            go_wp2_with (go_at_fn g; refine (HC.out _).mono ?_; rintro e w2 ⟨rfl, hb2⟩; have hc3 := cell_keep hb2 hc2)
            exact ⟨⟨j + 1 + 1, by omega, by go_num, HK2, belB⟩, by simp [intOf]; omega⟩
    · obtain rfl : k = n := by omega
      have hv : V = decide (k ≤ most) := by rw [HV.out]; unfold setB; rw [HL.out, HK.out]; rfl
      by_cases hm2 : k ≤ most
      · rw [decide_eq_true hm2] at hv
        have d1 : decide ((k : Int) ≤ most) = true := decide_eq_true (by omega)
        subst hv
        go_wp2
        go_ret
        exact ⟨rfl, hb⟩
      · rw [decide_eq_false hm2] at hv
        have d1 : decide ((k : Int) ≤ most) = false := decide_eq_false (by omega)
        subst hv
        go_wp2
        go_ret
        exact ⟨rfl, hb⟩
end Go.Proofs.YtjhlpkhfdghngaaGreatDoor
namespace Go.Proofs.YtjhlpkhfdghngaaGreatDoor
open Go.RowKit Go.Sort
set_option linter.unusedVariables false
set_option linter.unusedSimpArgs false
set_option maxRecDepth 100000
def anyP : Pat := ⟨⟨2, ⟨#[]⟩⟩, [], true⟩
theorem any_fit : PatFit anyP := ⟨.inr ⟨rfl, rfl⟩, (by intro p hp; cases hp), by decide⟩
theorem any_str : patS anyP = ⟨#[42, 47, 42, 42]⟩ := bytes_ext (by
  rw [patS_eq, join_data, str_data]
  rfl)
theorem any_comp : compileB ⟨#[42, 47, 42, 42]⟩ = some anyP := by rw [← any_str]; exact compile_str any_fit
theorem any_match (a : Adr) : matchP anyP a = true := by
  unfold matchP anyP
  rw [has2]
  simp [matchesL]
def patT (p : ByteArray) : ByteArray := if p.size = 0 then ⟨#[42, 47, 42, 42]⟩ else p
def pmA (p : ByteArray) (a : Adr) : Bool := matchO (compileB (patT p)) a
theorem patT_some {p : ByteArray} (h : patOk p = true) : ∃ x, compileB (patT p) = some x ∧ PatFit x := by
  unfold patT
  by_cases h0 : p.size = 0
  · rw [if_pos h0]; exact ⟨_, any_comp, any_fit⟩
  · rw [if_neg h0]
    obtain ⟨x, hx⟩ := patOk_some h h0
    exact ⟨x, hx, compile_fit hx⟩
theorem pmA_meet {p q : ByteArray} (hp : patOk p = true) (hq : patOk q = true) (a : Adr) : (match pmeet p q with | some r => pmA r a | none => false) = (pmA p a && pmA q a) := by
  have h0 : ∀ s : ByteArray, s.size = 0 → pmA s a = true := fun s hs => by
    unfold pmA patT; rw [if_pos hs, any_comp]; exact any_match a
  by_cases h1 : p.size = 0
  · have e1 : pmeet p q = some q := by unfold pmeet; rw [if_pos h1]
    rw [e1, h0 p h1, Bool.true_and]
  · by_cases h2 : q.size = 0
    · have e1 : pmeet p q = some p := by unfold pmeet; rw [if_neg h1, if_pos h2]
      rw [e1, h0 q h2, Bool.and_true]
    · obtain ⟨x, hx⟩ := patOk_some hp h1
      obtain ⟨y, hy⟩ := patOk_some hq h2
      have fx := compile_fit hx
      have fy := compile_fit hy
      have e : ∀ (s : ByteArray) (z : Pat), s.size ≠ 0 → compileB s = some z → pmA s a = matchP z a := fun s z hs hz => by
        unfold pmA patT; rw [if_neg hs, hz]; rfl
      rw [pmeet_two h1 h2 hx hy, e p x h1 hx, e q y h2 hy, ← common_match fx fy]
      cases h : commonP x y with
      | none => rfl
      | some z =>
        have fz := (commonP_some fx fy h).1
        exact e (patS z) z (patS_ne fz) (compile_str fz)
end Go.Proofs.YtjhlpkhfdghngaaGreatDoor
namespace Go.Proofs.YtjhlpkhfdghngaaGreatDoor
open Go.RowKit Go.Sort
set_option linter.unusedVariables false
set_option linter.unusedSimpArgs false
set_option maxRecDepth 100000
theorem key_less (a b : ByteArray) : (!(Op.bytesLess a.toList b.toList || a.toList == b.toList)) = decide (b.data.toList < a.data.toList) := by
  rw [bytesLess_eq, Lib.toList_data, Lib.toList_data, Bool.eq_iff_iff]
  simp only [Bool.not_eq_true', Bool.or_eq_false_iff, decide_eq_false_iff_not, beq_eq_false_iff_ne, decide_eq_true_eq]
  constructor
  · rintro ⟨h1, h2⟩; exact lt_tri _ _ h2 h1
  · intro h
    exact ⟨fun h1 => List.lt_irrefl _ (List.lt_trans h h1), fun e => List.lt_irrefl _ (by rw [e] at h; exact h)⟩
theorem pairK_at (qs : List (ByteArray × ByteArray)) (k : Nat) (hk : k < qs.length) : pairK qs k = true ↔ isNameB qs[k].1 = true ∧ isWordB qs[k].2 = true ∧ (k = 0 ∨ ∃ h : k - 1 < qs.length, qs[k - 1].1.data.toList < qs[k].1.data.toList) := by
  unfold pairK
  rw [List.getElem?_eq_getElem hk]
  simp only [Bool.and_eq_true, Bool.or_eq_true, beq_iff_eq]
  have hk1 : k - 1 < qs.length := by omega
  rw [List.getElem?_eq_getElem hk1]
  simp only [Option.getD_some]
  rw [key_less, decide_eq_true_eq]
  constructor
  · rintro ⟨⟨h1, h2⟩, h3⟩
    exact ⟨h1, h2, h3.imp id fun h => ⟨hk1, h⟩⟩
  · rintro ⟨h1, h2, h3⟩
    exact ⟨⟨h1, h2⟩, h3.imp id fun ⟨_, h⟩ => h⟩
theorem formed_iff (c : ByteArray) (xs : List ByteArray) (qs : List (ByteArray × ByteArray)) : formedB c xs qs = true ↔ AdrGood ⟨c, xs, qs⟩ ∧ (W06 c xs qs).length ≤ 4096 := by
  unfold formedB headOk
  simp only [Bool.and_eq_true, decide_eq_true_eq, List.all_eq_true, List.mem_range]
  constructor
  · rintro ⟨⟨⟨⟨⟨h1, h2⟩, h3⟩, h4⟩, h5⟩, h6⟩
    have hat := fun k hk => (pairK_at qs k hk).1 (h5 k hk)
    refine ⟨⟨h1, h4, h2, h3, ?_, ?_⟩, h6⟩
    · intro q hq
      obtain ⟨k, hk, rfl⟩ := List.getElem_of_mem hq
      exact ⟨(hat k hk).1, (hat k hk).2.1⟩
    · unfold KeysUp
      rw [List.pairwise_iff_getElem]
      intro i j
      induction j with
      | zero => intro _ _ h; omega
      | succ j ih =>
        intro hi hj hij
        rcases (hat (j + 1) hj).2.2 with h | ⟨h, h7⟩
        · omega
        · have e : j + 1 - 1 = j := rfl
          simp only [e] at h7
          by_cases hij2 : i = j
          · subst hij2; exact h7
          · exact List.lt_trans (ih hi (by omega) (by omega)) h7
  · rintro ⟨⟨h1, h4, h2, h3, h5, h7⟩, h6⟩
    refine ⟨⟨⟨⟨⟨h1, h2⟩, h3⟩, h4⟩, fun k hk => ?_⟩, h6⟩
    rw [pairK_at qs k hk]
    have hq := h5 qs[k] (List.getElem_mem hk)
    refine ⟨hq.1, hq.2, ?_⟩
    by_cases h0 : k = 0
    · exact .inl h0
    · have hk1 : k - 1 < qs.length := by omega
      exact .inr ⟨hk1, List.pairwise_iff_getElem.1 h7 (k - 1) k hk1 hk (by omega)⟩
section
variable {c : ByteArray} {ws : List ByteArray} (hc : isNameB c = true) (hw : ∀ w ∈ ws, isWordB w = true) (hn : ws.length ≤ 32)
include hc hw hn
end
end Go.Proofs.YtjhlpkhfdghngaaGreatDoor
