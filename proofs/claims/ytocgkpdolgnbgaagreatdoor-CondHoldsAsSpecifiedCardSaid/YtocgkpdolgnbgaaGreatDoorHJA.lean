/- What the package's pattern and allows return, and the specification's FewAsk. -/
import Derived.Test.YtocgkpdolgnbgaaGreatDoorHC4
import Derived.Test.YtocgkpdolgnbgaaGreatDoorHPlainB
import Derived.Test.YtocgkpdolgnbgaaGreatDoorProg
import Derived.WalkKit
import Derived.WalkSpells
import Derived.WalkLawsBesides
import Derived.Below
import Derived.Deep.QuietTactic
import Derived.BigQuiet
import Derived.Lib.QuietBelow
import Derived.Lib.Strings
import Derived.Lib.Hide
import Derived.Deep.RegionWith
import Derived.Deep.RegionHeld3
import Derived.Lib.IndexBytes
import Derived.Test.YtocgkpdolgnbgaaGreatDoorHC1
import Derived.Test.YtocgkpdolgnbgaaGreatDoorHPats
import Derived.Test.YtocgkpdolgnbgaaGreatDoorHC3
import Derived.Test.YtocgkpdolgnbgaaGreatDoorHPlainX
import Derived.Sort.Walk0
namespace Go.Proofs.YtocgkpdolgnbgaaGreatDoor
open Go.RowKit Go.Sort
set_option linter.unusedVariables false
set_option linter.unusedSimpArgs false
set_option maxRecDepth 100000
theorem two_cells (W : World) (t : Nat) (a b : Value) (g : Nat) (hg : g = W.heap.size) : (W.alloc (.cells #[a, b] t)).cell? ⟨g, 0, none⟩ = some a ∧ (W.alloc (.cells #[a, b] t)).cell? ⟨g, 1, none⟩ = some b := by
  subst hg
  have h : Blk (W.alloc (.cells #[a, b] t)) W.heap.size t #[a, b] (0, 0) := World.alloc_heap_new _ _
  exact ⟨Blk.cell h 0, Blk.cell h 1⟩
set_option maxHeartbeats 1000000 in
theorem condPattern_any (fr till us : Int) (pat : ByteArray) (A B S : Option Addr) (na ca nb cb ns cs : Nat) (w : World) :
    Calls Tryz.prog 41 #[.agg #[.int .i64 fr, .int .i64 till, .string pat, .slice A na ca, .slice B nb cb, .slice S ns cs, .int .i64 us]] w (Ret w (.string (if pat.size = 0 then ⟨#[42, 47, 42, 42]⟩ else pat))) := by
  have cO := cmpOr_any
  generalize hV : (if pat.size = 0 then (⟨#[42, 47, 42, 42]⟩ : ByteArray) else pat) = V
  have HC := Lib.hid (fun (g c : Nat) (W : World) h0 h1 => hV ▸ cO g c pat ⟨#[42, 47, 42, 42]⟩ W h0 h1)
  clear cO hV
  go_enter Tryz.func41, Tryz.ntmps41
  go_wp2_with (go_at_call 34; refine (HC.out _ _ _ (two_cells _ _ _ _ _ (by simp)).1 (two_cells _ _ _ _ _ (by simp)).2).mono ?_; rintro e w2 ⟨rfl, hb2⟩)
  go_ret
  exact ⟨rfl, by (repeat (first | exact .refl _ _ | assumption | refine .drew ?_ | refine balloc ?_ _ | refine bdrewN ?_ _ | refine .setCell ?_ (by simp <;> omega) _ | refine bstep ?_ (by assumption)))⟩
theorem allowsS_any (A : Option Addr) (n c : Nat) (xs : List ByteArray) (x : ByteArray) (w : World) (hA : Reads w 1 A n (xs.map .string)) (hn : n ≤ 1000000000) : Calls Tryz.prog 82 #[.slice A n c, .string x] w (Ret w (.bool (allowsL xs x))) := by
  have hl : xs.length = n := by have := hA.1; simp at this; omega
  rcases Nat.eq_zero_or_pos n with h0 | h0
  · subst h0
    obtain rfl : xs = [] := List.eq_nil_of_length_eq_zero hl
    go_enter Tryz.func82, Tryz.ntmps82
    go_wp2
    go_ret
    exact ⟨rfl, Below.refl _ _⟩
  · have he : xs.isEmpty = false := by cases xs; simp at hl; omega; rfl
    obtain ⟨b, o, rfl, hc⟩ := hA.2 h0
    have cC := fun (W : World) (hb : Below w.heap.size w W) => Tryz.slices_Contains_string b o n c xs x W (by omega) (by omega) (fun j hj => by
        refine cell_keep hb (hc j _ ?_)
        rw [List.getElem?_map, List.getElem?_eq_getElem hj]
        simp [List.getD_eq_getElem?_getD, List.getElem?_eq_getElem hj])
    rw [List.take_of_length_le (by omega)] at cC
    have hcs : Lib.containsS xs x = allowsL xs x := by
      unfold allowsL
      rw [he, Bool.false_or, Bool.eq_iff_iff, Lib.containsS_iff]
      simp
    rw [hcs] at cC
    have HC := Lib.hid cC
    have hn0 : ((n : Int) == 0) = false := by simp; omega
    clear cC hc hA hcs he
    generalize allowsL xs x = res at *
    go_enter Tryz.func82, Tryz.ntmps82
    go_wp2_with (go_at_call 123; refine (HC.out _ (by (repeat (first | exact .refl _ _ | assumption | refine .drew ?_ | refine balloc ?_ _ | refine bdrewN ?_ _ | refine .setCell ?_ (by simp <;> omega) _ | refine bstep ?_ (by assumption))))).mono ?_; rintro e w2 ⟨rfl, rfl⟩)
    go_ret
    exact ⟨rfl, by (repeat (first | exact .refl _ _ | assumption | refine .drew ?_ | refine balloc ?_ _ | refine bdrewN ?_ _ | refine .setCell ?_ (by simp <;> omega) _ | refine bstep ?_ (by assumption)))⟩
theorem allowsI_any (A : Option Addr) (n c : Nat) (xs : List Int) (x : Int) (w : World) (hA : Reads w 1 A n (xs.map (.int .i64))) (hn : n ≤ 1000000000) : Calls Tryz.prog 83 #[.slice A n c, .int .i64 x] w (Ret w (.bool (allowsL xs x))) := by
  have hl : xs.length = n := by have := hA.1; simp at this; omega
  rcases Nat.eq_zero_or_pos n with h0 | h0
  · subst h0
    obtain rfl : xs = [] := List.eq_nil_of_length_eq_zero hl
    go_enter Tryz.func83, Tryz.ntmps83
    go_wp2
    go_ret
    exact ⟨rfl, Below.refl _ _⟩
  · have he : xs.isEmpty = false := by cases xs; simp at hl; omega; rfl
    obtain ⟨b, o, rfl, hc⟩ := hA.2 h0
    have cC := fun (W : World) (hb : Below w.heap.size w W) => Tryz.slices_Contains_int b o n c xs x W (by omega) (by omega) (fun j hj => by
        refine cell_keep hb (hc j _ ?_)
        rw [List.getElem?_map, List.getElem?_eq_getElem hj]
        simp [List.getD_eq_getElem?_getD, List.getElem?_eq_getElem hj])
    rw [List.take_of_length_le (by omega)] at cC
    have hcs : xs.contains x = allowsL xs x := by
      unfold allowsL
      rw [he, Bool.false_or]
    rw [hcs] at cC
    have HC := Lib.hid cC
    have hn0 : ((n : Int) == 0) = false := by simp; omega
    clear cC hc hA he hcs
    generalize allowsL xs x = res at *
    go_enter Tryz.func83, Tryz.ntmps83
    go_wp2_with (go_at_call 124; refine (HC.out _ (by (repeat (first | exact .refl _ _ | assumption | refine .drew ?_ | refine balloc ?_ _ | refine bdrewN ?_ _ | refine .setCell ?_ (by simp <;> omega) _ | refine bstep ?_ (by assumption))))).mono ?_; rintro e w2 ⟨rfl, rfl⟩)
    go_ret
    exact ⟨rfl, by (repeat (first | exact .refl _ _ | assumption | refine .drew ?_ | refine balloc ?_ _ | refine bdrewN ?_ _ | refine .setCell ?_ (by simp <;> omega) _ | refine bstep ?_ (by assumption)))⟩
end Go.Proofs.YtocgkpdolgnbgaaGreatDoor
namespace Go.Proofs.YtocgkpdolgnbgaaGreatDoor
open Go.RowKit Go.Sort
set_option linter.unusedVariables false
set_option linter.unusedSimpArgs false
set_option maxRecDepth 100000
def timesB (c : CondV) : Bool := decide (0 ≤ c.fr ∧ c.fr ≤ 1099511627776 ∧ 0 ≤ c.till ∧ c.till ≤ 1099511627777 ∧ 0 ≤ c.us ∧ c.us ≤ 1073741824)
def validC (c : CondV) : Bool := timesB c && patOk c.pat && setB ltB isNameB 32 c.cl && setB ltB countryB 32 c.co && setB ltI siteB 64 c.si
theorem ltB_tr (a b c : ByteArray) (h1 : ltB a b = true) (h2 : ltB b c = true) : ltB a c = true := by
  unfold ltB at *
  rw [decide_eq_true_eq] at *
  exact List.lt_trans h1 h2
theorem ltI_tr (a b c : Int) (h1 : ltI a b = true) (h2 : ltI b c = true) : ltI a c = true := by
  unfold ltI at *
  rw [decide_eq_true_eq] at *
  omega
structure CondOk (c : CondV) : Prop where
  fr0 : 0 ≤ c.fr
  fr1 : c.fr ≤ 1099511627776
  to0 : 0 ≤ c.till
  to1 : c.till ≤ 1099511627777
  us0 : 0 ≤ c.us
  us1 : c.us ≤ 1073741824
  pat : patOk c.pat = true
  cl : ∀ x ∈ c.cl, isNameB x = true
  clUp : c.cl.Pairwise fun a b => ltB a b = true
  clLen : c.cl.length ≤ 32
  co : ∀ x ∈ c.co, countryB x = true
  coUp : c.co.Pairwise fun a b => ltB a b = true
  coLen : c.co.length ≤ 32
  si : ∀ x ∈ c.si, siteB x = true
  siUp : c.si.Pairwise fun a b => ltI a b = true
  siLen : c.si.length ≤ 64
theorem valid_iff (c : CondV) : validC c = true ↔ CondOk c := by
  unfold validC timesB
  rw [Bool.and_eq_true, Bool.and_eq_true, Bool.and_eq_true, Bool.and_eq_true, decide_eq_true_eq, setB_iff ltB_tr, setB_iff ltB_tr, setB_iff ltI_tr]
  constructor
  · rintro ⟨⟨⟨⟨⟨a1, a2, a3, a4, a5, a6⟩, b⟩, c1, c2, c3⟩, d1, d2, d3⟩, e1, e2, e3⟩
    exact ⟨a1, a2, a3, a4, a5, a6, b, c1, c2, c3, d1, d2, d3, e1, e2, e3⟩
  · rintro ⟨a1, a2, a3, a4, a5, a6, b, c1, c2, c3, d1, d2, d3, e1, e2, e3⟩
    exact ⟨⟨⟨⟨⟨a1, a2, a3, a4, a5, a6⟩, b⟩, c1, c2, c3⟩, d1, d2, d3⟩, e1, e2, e3⟩
def usesM (a b : Int) : Int := if 0 < a ∧ 0 < b then min a b else max a b
def meetO (a b : CondV) : Option CondV := (pmeet a.pat b.pat).bind fun p => (bothO a.cl b.cl).bind fun cl => (bothO a.co b.co).bind fun co => (bothO a.si b.si).bind fun si =>
  if max a.fr b.fr < min a.till b.till then some ⟨max a.fr b.fr, min a.till b.till, p, cl, co, si, usesM a.us b.us⟩ else none
def meetC (a b : CondV) : CondV := (meetO a b).getD zeroC
end Go.Proofs.YtocgkpdolgnbgaaGreatDoor
namespace Go.Proofs.YtocgkpdolgnbgaaGreatDoor
open Go.RowKit Go.Sort
set_option linter.unusedVariables false
set_option linter.unusedSimpArgs false
set_option maxRecDepth 100000
theorem single_comp (s : ByteArray) (h : 47 ∉ s.data.toList) : (compileB s).isSome = headOkB s := by
  unfold compileB
  have e : splitB 47 s = [s] := splitB_miss 47 s (by rw [indexByte_miss _ _ h]; omega)
  rw [e, compL_cons]
  cases headOkB s
  · rfl
  · rfl
theorem name_eq (s : ByteArray) : isNameB s = (!(s.toList == [42]) && !decide (0 ≤ Lib.indexByte s.data.toList 47) && (compileB s).isSome) := by
  by_cases h : 47 ∈ s.data.toList
  · have h1 : isNameB s = false := by
      cases hn : isNameB s
      · rfl
      · exact absurd h (word_no (name_word hn)).1
    have h2 : decide (0 ≤ Lib.indexByte s.data.toList 47) = true := by
      rw [decide_eq_true_eq]
      rcases Int.lt_or_le (Lib.indexByte s.data.toList 47) 0 with hlt | hle
      · exact absurd h (indexByte_mem _ _ hlt)
      · exact hle
    rw [h1, h2]; simp
  · rw [indexByte_miss _ _ h, single_comp s h]
    unfold headOkB
    cases hs : (s.toList == [42])
    · simp
    · have : isNameB s = false := by
        cases hn : isNameB s
        · rfl
        · have := (word_no (name_word hn)).2.2.2.2.1
          rw [beq_iff_eq, Lib.toList_data] at hs
          rw [hs] at this
          exact absurd (by simp) this
      rw [this]; rfl
set_option maxHeartbeats 1000000 in
theorem condName_any (s : ByteArray) (w : World) (hs : s.size ≤ 100000) (hE : Env w) : Calls Tryz.prog 56 #[.string s] w (Ret w (.bool (isNameB s))) := by
  have HVA := Lib.hid (fun W h => valid_any s W hs h)
  have HE := Lib.hid hE
  rw [name_eq]
  clear hE
  generalize (compileB s).isSome = b at *
  generalize hc : decide (0 ≤ Lib.indexByte s.data.toList 47) = cc
  have cC := fun W => Tryz.strings_Contains_one s 47 W
  rw [hc] at cC
  have HC := Lib.hid cC
  clear cC hc
  cases h1 : (s.toList == [42])
  · have h1' : ¬ s.toList = [42] := by simpa using h1
    cases cc
    · go_enter Tryz.func56, Tryz.ntmps56
      go_wp2_with (first | (go_at_call 107; refine (HC.out _).mono ?_; rintro e w1 ⟨rfl, rfl⟩) | (go_at_call 54; refine (HVA.out _ (Env.keep HE.out (by (repeat (first | exact .refl _ _ | assumption | refine .drew ?_ | refine balloc ?_ _ | refine bdrewN ?_ _ | refine .setCell ?_ (by simp <;> omega) _ | refine bstep ?_ (by assumption)))))).mono ?_; rintro e w2 ⟨rfl, hb2⟩))
      go_ret
      exact ⟨ret_bool (by simp), by (repeat (first | exact .refl _ _ | assumption | refine .drew ?_ | refine balloc ?_ _ | refine bdrewN ?_ _ | refine .setCell ?_ (by simp <;> omega) _ | refine bstep ?_ (by assumption)))⟩
    · go_enter Tryz.func56, Tryz.ntmps56
      go_wp2_with (first | (go_at_call 107; refine (HC.out _).mono ?_; rintro e w1 ⟨rfl, rfl⟩) | (go_at_call 54; refine (HVA.out _ (Env.keep HE.out (by (repeat (first | exact .refl _ _ | assumption | refine .drew ?_ | refine balloc ?_ _ | refine bdrewN ?_ _ | refine .setCell ?_ (by simp <;> omega) _ | refine bstep ?_ (by assumption)))))).mono ?_; rintro e w2 ⟨rfl, hb2⟩))
      go_ret
      exact ⟨rfl, by (repeat (first | exact .refl _ _ | assumption | refine .drew ?_ | refine balloc ?_ _ | refine bdrewN ?_ _ | refine .setCell ?_ (by simp <;> omega) _ | refine bstep ?_ (by assumption)))⟩
  · have h1' : s.toList = [42] := by simpa using h1
    go_enter Tryz.func56, Tryz.ntmps56
    go_wp2
    all_goals (go_ret; exact ⟨rfl, by (repeat (first | exact .refl _ _ | assumption | refine .drew ?_ | refine balloc ?_ _ | refine bdrewN ?_ _ | refine .setCell ?_ (by simp <;> omega) _ | refine bstep ?_ (by assumption)))⟩)
theorem le_prevI (x y : Int) : decide (x ≤ y) = !ltI y x := by
  unfold ltI
  rw [Bool.eq_iff_iff]; simp
set_option maxHeartbeats 2000000 in
theorem isSetI_any (g : Nat) (eg : ∀ args w, (callFunc g args).run Tryz.prog w = .ok (.enter g args) w) (right : Int → Bool) (A : Option Addr) (n c : Nat) (xs : List Int) (most : Nat) (w : World)
    (hp : ∀ x, ∀ W, Calls Tryz.prog g #[.int .i64 x] W (Ret W (.bool (right x)))) (hA : Reads w 1 A n (xs.map (.int .i64))) (hn : n ≤ 1000000000) (hm : most ≤ 1000000) :
    Calls Tryz.prog 58 #[.slice A n c, .int .i64 most, .func (.func g) #[] #[]] w (Ret w (.bool (setB ltI right most xs))) := by
  have hl : xs.length = n := by have := hA.1; simp at this; omega
  have HP := Lib.hid hp; have HA := Lib.hid hA; have HL := Lib.hid hl
  obtain ⟨V, hV⟩ : ∃ V, V = setB ltI right most xs := ⟨_, rfl⟩
  rw [← hV]
  have HV := Lib.hid hV
  clear hp hA hl hV
  go_enter Tryz.func58, Tryz.ntmps58
  go_wp2
  go_loopw [11] (fun i wr => ∃ k : Nat, k ≤ n ∧ i = .int .i64 k ∧ Hid ((List.range k).all (okK ltI right xs) = true) ∧ Below w.heap.size w wr) (fun i _ => n - (intOf i).toNat)
  case atStart => exact ⟨0, by omega, rfl, Lib.hid rfl, Below.refl _ _⟩
  case round =>
    obtain ⟨k, hk, rfl, HK, hb⟩ := hrel
    by_cases hlt : k < n
    · obtain ⟨x, hx⟩ : ∃ x, xs[k]? = some x := ⟨_, List.getElem?_eq_getElem (by have := HL.out; omega)⟩
      obtain ⟨pb, po, rfl, hcell⟩ := (HA.out.keep hb).2 (by omega)
      have hc1 : wr.cell? ⟨pb, po + k, none⟩ = some (.int .i64 x) := hcell k _ (by simp [hx])
      have hc := fun W => HP.out x W
      have hok : okK ltI right xs k = (right x && (k == 0 || (match xs[k - 1]? with
        | none => true
        | some y => ltI y x))) := by unfold okK; rw [hx]; cases xs[k - 1]? <;> rfl
      have hfail : okK ltI right xs k = false → V = false := fun h => by rw [HV.out]; exact okK_fail (by have := HL.out; omega) h
      cases hr : right x
      · have hVf : V = false := hfail (by rw [hok, hr]; rfl)
        rw [hr] at hc
        have HC := Lib.hid hc
        clear hc hr hok hfail hcell hx
        subst hVf
        go_wp2_with (go_at_fn g; refine (HC.out _).mono ?_; rintro e w2 ⟨rfl, hb2⟩)
        go_ret
        exact ⟨rfl, by (repeat (first | exact .refl _ _ | assumption | refine .drew ?_ | refine balloc ?_ _ | refine bdrewN ?_ _ | refine .setCell ?_ (by simp <;> omega) _ | refine bstep ?_ (by assumption)))⟩
      · rw [hr] at hc
        have HC := Lib.hid hc
        rcases k with _ | j
        · have HK2 : Hid ((List.range (0 + 1)).all (okK ltI right xs) = true) := Lib.hid (okK_upto HK.out (by rw [hok, hr]; rfl))
          simp only [Nat.add_zero] at hc1
          clear hc hr hok hfail hcell hx
          go_wp2_with (go_at_fn g; refine (HC.out _).mono ?_; rintro e w2 ⟨rfl, hb2⟩)
          exact ⟨⟨1, by omega, by go_num, HK2, by (repeat (first | exact .refl _ _ | assumption | refine .drew ?_ | refine balloc ?_ _ | refine bdrewN ?_ _ | refine .setCell ?_ (by simp <;> omega) _ | refine bstep ?_ (by assumption)))⟩, by simp [intOf]; omega⟩
        · obtain ⟨y, hy⟩ : ∃ y, xs[j]? = some y := ⟨_, List.getElem?_eq_getElem (by have := HL.out; omega)⟩
          have hc2 : wr.cell? ⟨pb, po + j, none⟩ = some (.int .i64 y) := hcell j _ (by simp [hy])
          have hle := le_prevI x y
          rw [Nat.add_sub_cancel, hy] at hok
          have hok : okK ltI right xs (j + 1) = ltI y x := by rw [hok, hr]; simp
          have hj0 : (0 : Int) ≤ (j : Int) := by omega
          have hj1 : (j : Int) < (n : Int) := by omega
          cases ht : ltI y x
          · have hVf : V = false := hfail (by rw [hok, ht])
            rw [ht] at hle
            clear hc hr hok hfail hcell hx hy
            subst hVf
            go_wp2_with (go_at_fn g; refine (HC.out _).mono ?_; rintro e w2 ⟨rfl, hb2⟩; have hc3 := cell_keep hb2 hc2)
            go_ret
            exact ⟨rfl, by (repeat (first | exact .refl _ _ | assumption | refine .drew ?_ | refine balloc ?_ _ | refine bdrewN ?_ _ | refine .setCell ?_ (by simp <;> omega) _ | refine bstep ?_ (by assumption)))⟩
          · have HK2 : Hid ((List.range (j + 1 + 1)).all (okK ltI right xs) = true) := Lib.hid (okK_upto HK.out (by rw [hok, ht]))
            rw [ht] at hle
            clear hc hr hok hfail hcell hx hy
            go_wp2_with (go_at_fn g; refine (HC.out _).mono ?_; rintro e w2 ⟨rfl, hb2⟩; have hc3 := cell_keep hb2 hc2)
            exact ⟨⟨j + 1 + 1, by omega, by go_num, HK2, by (repeat (first | exact .refl _ _ | assumption | refine .drew ?_ | refine balloc ?_ _ | refine bdrewN ?_ _ | refine .setCell ?_ (by simp <;> omega) _ | refine bstep ?_ (by assumption)))⟩, by simp [intOf]; omega⟩
    · obtain rfl : k = n := by omega
      have hv : V = decide (k ≤ most) := by rw [HV.out]; unfold setB; rw [HL.out, HK.out]; rfl
      by_cases hm2 : k ≤ most
      · rw [decide_eq_true hm2] at hv
        have d1 : decide ((k : Int) ≤ most) = true := decide_eq_true (by omega)
        subst hv
        go_wp2
        go_ret
        exact ⟨rfl, hb⟩
      · rw [decide_eq_false hm2] at hv
        have d1 : decide ((k : Int) ≤ most) = false := decide_eq_false (by omega)
        subst hv
        go_wp2
        go_ret
        exact ⟨rfl, hb⟩
end Go.Proofs.YtocgkpdolgnbgaaGreatDoor
namespace Go.Proofs.YtocgkpdolgnbgaaGreatDoor
open Go.RowKit Go.Sort
set_option linter.unusedVariables false
set_option linter.unusedSimpArgs false
set_option maxRecDepth 100000
set_option maxHeartbeats 8000000 in
theorem condValid_any (c : CondV) (m : CondMem) (w : World) (hR : CondReads w c m) (hp : c.pat.size ≤ 100000) (hcl : ∀ x ∈ c.cl, x.size ≤ 100000) (hco : ∀ x ∈ c.co, x.size ≤ 100000) (h1 : c.cl.length ≤ 1000000) (h2 : c.co.length ≤ 1000000) (h3 : c.si.length ≤ 1000000) (hE : Env w) :
    Calls Tryz.prog 19 #[CondMem.val c m] w (Ret w (.bool (validC c))) := by
  obtain ⟨fr, till, pat, cl, co, si, us⟩ := c
  obtain ⟨A, ca, B, cb, S, cs⟩ := m
  obtain ⟨hA, hB, hS⟩ := hR
  dsimp only at hA hB hS hp hcl hco h1 h2 h3
  unfold CondMem.val
  dsimp only
  obtain ⟨V, hV⟩ : ∃ V, V = validC ⟨fr, till, pat, cl, co, si, us⟩ := ⟨_, rfl⟩
  rw [← hV]
  unfold validC timesB patOk at hV
  dsimp only at hV
  have c1 := fun W (hb : Below w.heap.size w W) => isSetS_any 56 (enters_of Tryz.func56 (by kernel_rfl) rfl) isNameB A cl.length ca cl 32 W (fun x hx W' hE' => condName_any x W' (hcl x hx) hE') (hA.keep hb) (by omega) (by omega) (Env.keep hE hb)
  have c2 := fun W (hb : Below w.heap.size w W) => isSetS_any 57 (enters_of Tryz.func57 (by kernel_rfl) rfl) countryB B co.length cb co 32 W (fun x hx W' _ => isCountry_any x W' (by have := hco x hx; omega)) (hB.keep hb) (by omega) (by omega) (Env.keep hE hb)
  have c3 := fun W (hb : Below w.heap.size w W) => isSetI_any 59 (enters_of Tryz.func59 (by kernel_rfl) rfl) siteB S si.length cs si 64 W (fun x W' => isSite_any x W') (hS.keep hb) (by omega) (by omega)
  have hva := fun W h => valid_any pat W hp h
  generalize (compileB pat).isSome = b1 at *
  generalize setB ltB isNameB 32 cl = b2 at *
  generalize setB ltB countryB 32 co = b3 at *
  generalize setB ltI siteB 64 si = b4 at *
  have h32 : ((32 : Nat) : Int) = 32 := rfl
  have h64 : ((64 : Nat) : Int) = 64 := rfl
  simp only [h32] at c1 c2
  simp only [h64] at c3
  clear h32 h64
  have C1 := Lib.hid c1
  have C2 := Lib.hid c2
  have C3 := Lib.hid c3
  have HVA := Lib.hid hva
  have HE := Lib.hid hE
  clear c1 c2 c3 hva hE hA hB hS hcl hco h1 h2 h3 hp
  by_cases t1 : 0 ≤ fr
  rotate_left
  · obtain rfl : V = false := by rw [hV]; simp [t1]
    have d1 : decide (0 ≤ fr) = false := decide_eq_false t1
    clear hV
    (go_enter Tryz.func19, Tryz.ntmps19; go_wp2_with (first | (go_at_call 54; refine (HVA.out _ (Env.keep HE.out (by (repeat (first | exact .refl _ _ | assumption | refine .drew ?_ | refine balloc ?_ _ | refine bdrewN ?_ _ | refine .setCell ?_ (by simp <;> omega) _ | refine bstep ?_ (by assumption)))))).mono ?_; rintro e w2 ⟨rfl, hb2⟩; (have hX2 : CBox w2 w.heap.size fr till pat A cl.length ca B co.length cb S si.length cs us := (by first | exact Blk.keep hX2 hb2 | exact Blk.keep (World.alloc_heap_new _ _) hb2); obtain ⟨x0, x1, x2, x3, x4, x5, x6⟩ := hX2.facts)) | (go_at_call 55; (first | (refine (C1.out _ (by (repeat (first | exact .refl _ _ | assumption | refine .drew ?_ | refine balloc ?_ _ | refine bdrewN ?_ _ | refine .setCell ?_ (by simp <;> omega) _ | refine bstep ?_ (by assumption))))).mono ?_; clear C1) | refine (C2.out _ (by (repeat (first | exact .refl _ _ | assumption | refine .drew ?_ | refine balloc ?_ _ | refine bdrewN ?_ _ | refine .setCell ?_ (by simp <;> omega) _ | refine bstep ?_ (by assumption))))).mono ?_); rintro e w2 ⟨rfl, hb2⟩; (have hX2 : CBox w2 w.heap.size fr till pat A cl.length ca B co.length cb S si.length cs us := (by first | exact Blk.keep hX2 hb2 | exact Blk.keep (World.alloc_heap_new _ _) hb2); obtain ⟨x0, x1, x2, x3, x4, x5, x6⟩ := hX2.facts)) | (go_at_call 58; refine (C3.out _ (by (repeat (first | exact .refl _ _ | assumption | refine .drew ?_ | refine balloc ?_ _ | refine bdrewN ?_ _ | refine .setCell ?_ (by simp <;> omega) _ | refine bstep ?_ (by assumption))))).mono ?_; rintro e w2 ⟨rfl, hb2⟩)); go_ret; exact ⟨rfl, by (repeat (first | exact .refl _ _ | assumption | refine .drew ?_ | refine balloc ?_ _ | refine bdrewN ?_ _ | refine .setCell ?_ (by simp <;> omega) _ | refine bstep ?_ (by assumption)))⟩)
  have d1 : decide (0 ≤ fr) = true := decide_eq_true t1
  by_cases t2 : fr ≤ 1099511627776
  rotate_left
  · obtain rfl : V = false := by rw [hV]; simp [t2]
    have d2 : decide (fr ≤ 1099511627776) = false := decide_eq_false t2
    clear hV
    (go_enter Tryz.func19, Tryz.ntmps19; go_wp2_with (first | (go_at_call 54; refine (HVA.out _ (Env.keep HE.out (by (repeat (first | exact .refl _ _ | assumption | refine .drew ?_ | refine balloc ?_ _ | refine bdrewN ?_ _ | refine .setCell ?_ (by simp <;> omega) _ | refine bstep ?_ (by assumption)))))).mono ?_; rintro e w2 ⟨rfl, hb2⟩; (have hX2 : CBox w2 w.heap.size fr till pat A cl.length ca B co.length cb S si.length cs us := (by first | exact Blk.keep hX2 hb2 | exact Blk.keep (World.alloc_heap_new _ _) hb2); obtain ⟨x0, x1, x2, x3, x4, x5, x6⟩ := hX2.facts)) | (go_at_call 55; (first | (refine (C1.out _ (by (repeat (first | exact .refl _ _ | assumption | refine .drew ?_ | refine balloc ?_ _ | refine bdrewN ?_ _ | refine .setCell ?_ (by simp <;> omega) _ | refine bstep ?_ (by assumption))))).mono ?_; clear C1) | refine (C2.out _ (by (repeat (first | exact .refl _ _ | assumption | refine .drew ?_ | refine balloc ?_ _ | refine bdrewN ?_ _ | refine .setCell ?_ (by simp <;> omega) _ | refine bstep ?_ (by assumption))))).mono ?_); rintro e w2 ⟨rfl, hb2⟩; (have hX2 : CBox w2 w.heap.size fr till pat A cl.length ca B co.length cb S si.length cs us := (by first | exact Blk.keep hX2 hb2 | exact Blk.keep (World.alloc_heap_new _ _) hb2); obtain ⟨x0, x1, x2, x3, x4, x5, x6⟩ := hX2.facts)) | (go_at_call 58; refine (C3.out _ (by (repeat (first | exact .refl _ _ | assumption | refine .drew ?_ | refine balloc ?_ _ | refine bdrewN ?_ _ | refine .setCell ?_ (by simp <;> omega) _ | refine bstep ?_ (by assumption))))).mono ?_; rintro e w2 ⟨rfl, hb2⟩)); go_ret; exact ⟨rfl, by (repeat (first | exact .refl _ _ | assumption | refine .drew ?_ | refine balloc ?_ _ | refine bdrewN ?_ _ | refine .setCell ?_ (by simp <;> omega) _ | refine bstep ?_ (by assumption)))⟩)
  have d2 : decide (fr ≤ 1099511627776) = true := decide_eq_true t2
  by_cases t3 : 0 ≤ till
  rotate_left
  · obtain rfl : V = false := by rw [hV]; simp [t3]
    have d3 : decide (0 ≤ till) = false := decide_eq_false t3
    clear hV
    (go_enter Tryz.func19, Tryz.ntmps19; go_wp2_with (first | (go_at_call 54; refine (HVA.out _ (Env.keep HE.out (by (repeat (first | exact .refl _ _ | assumption | refine .drew ?_ | refine balloc ?_ _ | refine bdrewN ?_ _ | refine .setCell ?_ (by simp <;> omega) _ | refine bstep ?_ (by assumption)))))).mono ?_; rintro e w2 ⟨rfl, hb2⟩; (have hX2 : CBox w2 w.heap.size fr till pat A cl.length ca B co.length cb S si.length cs us := (by first | exact Blk.keep hX2 hb2 | exact Blk.keep (World.alloc_heap_new _ _) hb2); obtain ⟨x0, x1, x2, x3, x4, x5, x6⟩ := hX2.facts)) | (go_at_call 55; (first | (refine (C1.out _ (by (repeat (first | exact .refl _ _ | assumption | refine .drew ?_ | refine balloc ?_ _ | refine bdrewN ?_ _ | refine .setCell ?_ (by simp <;> omega) _ | refine bstep ?_ (by assumption))))).mono ?_; clear C1) | refine (C2.out _ (by (repeat (first | exact .refl _ _ | assumption | refine .drew ?_ | refine balloc ?_ _ | refine bdrewN ?_ _ | refine .setCell ?_ (by simp <;> omega) _ | refine bstep ?_ (by assumption))))).mono ?_); rintro e w2 ⟨rfl, hb2⟩; (have hX2 : CBox w2 w.heap.size fr till pat A cl.length ca B co.length cb S si.length cs us := (by first | exact Blk.keep hX2 hb2 | exact Blk.keep (World.alloc_heap_new _ _) hb2); obtain ⟨x0, x1, x2, x3, x4, x5, x6⟩ := hX2.facts)) | (go_at_call 58; refine (C3.out _ (by (repeat (first | exact .refl _ _ | assumption | refine .drew ?_ | refine balloc ?_ _ | refine bdrewN ?_ _ | refine .setCell ?_ (by simp <;> omega) _ | refine bstep ?_ (by assumption))))).mono ?_; rintro e w2 ⟨rfl, hb2⟩)); go_ret; exact ⟨rfl, by (repeat (first | exact .refl _ _ | assumption | refine .drew ?_ | refine balloc ?_ _ | refine bdrewN ?_ _ | refine .setCell ?_ (by simp <;> omega) _ | refine bstep ?_ (by assumption)))⟩)
  have d3 : decide (0 ≤ till) = true := decide_eq_true t3
  by_cases t4 : till ≤ 1099511627777
  rotate_left
  · obtain rfl : V = false := by rw [hV]; simp [t4]
    have d4 : decide (till ≤ 1099511627777) = false := decide_eq_false t4
    clear hV
    (go_enter Tryz.func19, Tryz.ntmps19; go_wp2_with (first | (go_at_call 54; refine (HVA.out _ (Env.keep HE.out (by (repeat (first | exact .refl _ _ | assumption | refine .drew ?_ | refine balloc ?_ _ | refine bdrewN ?_ _ | refine .setCell ?_ (by simp <;> omega) _ | refine bstep ?_ (by assumption)))))).mono ?_; rintro e w2 ⟨rfl, hb2⟩; (have hX2 : CBox w2 w.heap.size fr till pat A cl.length ca B co.length cb S si.length cs us := (by first | exact Blk.keep hX2 hb2 | exact Blk.keep (World.alloc_heap_new _ _) hb2); obtain ⟨x0, x1, x2, x3, x4, x5, x6⟩ := hX2.facts)) | (go_at_call 55; (first | (refine (C1.out _ (by (repeat (first | exact .refl _ _ | assumption | refine .drew ?_ | refine balloc ?_ _ | refine bdrewN ?_ _ | refine .setCell ?_ (by simp <;> omega) _ | refine bstep ?_ (by assumption))))).mono ?_; clear C1) | refine (C2.out _ (by (repeat (first | exact .refl _ _ | assumption | refine .drew ?_ | refine balloc ?_ _ | refine bdrewN ?_ _ | refine .setCell ?_ (by simp <;> omega) _ | refine bstep ?_ (by assumption))))).mono ?_); rintro e w2 ⟨rfl, hb2⟩; (have hX2 : CBox w2 w.heap.size fr till pat A cl.length ca B co.length cb S si.length cs us := (by first | exact Blk.keep hX2 hb2 | exact Blk.keep (World.alloc_heap_new _ _) hb2); obtain ⟨x0, x1, x2, x3, x4, x5, x6⟩ := hX2.facts)) | (go_at_call 58; refine (C3.out _ (by (repeat (first | exact .refl _ _ | assumption | refine .drew ?_ | refine balloc ?_ _ | refine bdrewN ?_ _ | refine .setCell ?_ (by simp <;> omega) _ | refine bstep ?_ (by assumption))))).mono ?_; rintro e w2 ⟨rfl, hb2⟩)); go_ret; exact ⟨rfl, by (repeat (first | exact .refl _ _ | assumption | refine .drew ?_ | refine balloc ?_ _ | refine bdrewN ?_ _ | refine .setCell ?_ (by simp <;> omega) _ | refine bstep ?_ (by assumption)))⟩)
  have d4 : decide (till ≤ 1099511627777) = true := decide_eq_true t4
  by_cases t5 : 0 ≤ us
  rotate_left
  · obtain rfl : V = false := by rw [hV]; simp [t5]
    have d5 : decide (0 ≤ us) = false := decide_eq_false t5
    clear hV
    (go_enter Tryz.func19, Tryz.ntmps19; go_wp2_with (first | (go_at_call 54; refine (HVA.out _ (Env.keep HE.out (by (repeat (first | exact .refl _ _ | assumption | refine .drew ?_ | refine balloc ?_ _ | refine bdrewN ?_ _ | refine .setCell ?_ (by simp <;> omega) _ | refine bstep ?_ (by assumption)))))).mono ?_; rintro e w2 ⟨rfl, hb2⟩; (have hX2 : CBox w2 w.heap.size fr till pat A cl.length ca B co.length cb S si.length cs us := (by first | exact Blk.keep hX2 hb2 | exact Blk.keep (World.alloc_heap_new _ _) hb2); obtain ⟨x0, x1, x2, x3, x4, x5, x6⟩ := hX2.facts)) | (go_at_call 55; (first | (refine (C1.out _ (by (repeat (first | exact .refl _ _ | assumption | refine .drew ?_ | refine balloc ?_ _ | refine bdrewN ?_ _ | refine .setCell ?_ (by simp <;> omega) _ | refine bstep ?_ (by assumption))))).mono ?_; clear C1) | refine (C2.out _ (by (repeat (first | exact .refl _ _ | assumption | refine .drew ?_ | refine balloc ?_ _ | refine bdrewN ?_ _ | refine .setCell ?_ (by simp <;> omega) _ | refine bstep ?_ (by assumption))))).mono ?_); rintro e w2 ⟨rfl, hb2⟩; (have hX2 : CBox w2 w.heap.size fr till pat A cl.length ca B co.length cb S si.length cs us := (by first | exact Blk.keep hX2 hb2 | exact Blk.keep (World.alloc_heap_new _ _) hb2); obtain ⟨x0, x1, x2, x3, x4, x5, x6⟩ := hX2.facts)) | (go_at_call 58; refine (C3.out _ (by (repeat (first | exact .refl _ _ | assumption | refine .drew ?_ | refine balloc ?_ _ | refine bdrewN ?_ _ | refine .setCell ?_ (by simp <;> omega) _ | refine bstep ?_ (by assumption))))).mono ?_; rintro e w2 ⟨rfl, hb2⟩)); go_ret; exact ⟨rfl, by (repeat (first | exact .refl _ _ | assumption | refine .drew ?_ | refine balloc ?_ _ | refine bdrewN ?_ _ | refine .setCell ?_ (by simp <;> omega) _ | refine bstep ?_ (by assumption)))⟩)
  have d5 : decide (0 ≤ us) = true := decide_eq_true t5
  by_cases t6 : us ≤ 1073741824
  rotate_left
  · obtain rfl : V = false := by rw [hV]; simp [t6]
    have d6 : decide (us ≤ 1073741824) = false := decide_eq_false t6
    clear hV
    (go_enter Tryz.func19, Tryz.ntmps19; go_wp2_with (first | (go_at_call 54; refine (HVA.out _ (Env.keep HE.out (by (repeat (first | exact .refl _ _ | assumption | refine .drew ?_ | refine balloc ?_ _ | refine bdrewN ?_ _ | refine .setCell ?_ (by simp <;> omega) _ | refine bstep ?_ (by assumption)))))).mono ?_; rintro e w2 ⟨rfl, hb2⟩; (have hX2 : CBox w2 w.heap.size fr till pat A cl.length ca B co.length cb S si.length cs us := (by first | exact Blk.keep hX2 hb2 | exact Blk.keep (World.alloc_heap_new _ _) hb2); obtain ⟨x0, x1, x2, x3, x4, x5, x6⟩ := hX2.facts)) | (go_at_call 55; (first | (refine (C1.out _ (by (repeat (first | exact .refl _ _ | assumption | refine .drew ?_ | refine balloc ?_ _ | refine bdrewN ?_ _ | refine .setCell ?_ (by simp <;> omega) _ | refine bstep ?_ (by assumption))))).mono ?_; clear C1) | refine (C2.out _ (by (repeat (first | exact .refl _ _ | assumption | refine .drew ?_ | refine balloc ?_ _ | refine bdrewN ?_ _ | refine .setCell ?_ (by simp <;> omega) _ | refine bstep ?_ (by assumption))))).mono ?_); rintro e w2 ⟨rfl, hb2⟩; (have hX2 : CBox w2 w.heap.size fr till pat A cl.length ca B co.length cb S si.length cs us := (by first | exact Blk.keep hX2 hb2 | exact Blk.keep (World.alloc_heap_new _ _) hb2); obtain ⟨x0, x1, x2, x3, x4, x5, x6⟩ := hX2.facts)) | (go_at_call 58; refine (C3.out _ (by (repeat (first | exact .refl _ _ | assumption | refine .drew ?_ | refine balloc ?_ _ | refine bdrewN ?_ _ | refine .setCell ?_ (by simp <;> omega) _ | refine bstep ?_ (by assumption))))).mono ?_; rintro e w2 ⟨rfl, hb2⟩)); go_ret; exact ⟨rfl, by (repeat (first | exact .refl _ _ | assumption | refine .drew ?_ | refine balloc ?_ _ | refine bdrewN ?_ _ | refine .setCell ?_ (by simp <;> omega) _ | refine bstep ?_ (by assumption)))⟩)
  have d6 : decide (us ≤ 1073741824) = true := decide_eq_true t6
  have hV2 : V = ((decide (pat.size = 0) || b1) && b2 && b3 && b4) := by rw [hV]; simp [t1, t2, t3, t4, t5, t6]
  clear hV
  by_cases hs : pat.size = 0
  · obtain rfl : pat = ⟨#[]⟩ := bytes_ext (List.eq_nil_of_length_eq_zero (by rw [← Lib.size_eq]; exact hs))
    clear hs
    cases b2
    · obtain rfl : V = false := by rw [hV2]; simp
      clear hV2
      (go_enter Tryz.func19, Tryz.ntmps19; go_wp2_with (first | (go_at_call 55; (first | (refine (C1.out _ (by (repeat (first | exact .refl _ _ | assumption | refine .drew ?_ | refine balloc ?_ _ | refine bdrewN ?_ _ | refine .setCell ?_ (by simp <;> omega) _ | refine bstep ?_ (by assumption))))).mono ?_; clear C1) | refine (C2.out _ (by (repeat (first | exact .refl _ _ | assumption | refine .drew ?_ | refine balloc ?_ _ | refine bdrewN ?_ _ | refine .setCell ?_ (by simp <;> omega) _ | refine bstep ?_ (by assumption))))).mono ?_); rintro e w2 ⟨rfl, hb2⟩; (have hX2 : CBox w2 w.heap.size fr till ⟨#[]⟩ A cl.length ca B co.length cb S si.length cs us := (by first | exact Blk.keep hX2 hb2 | exact Blk.keep (World.alloc_heap_new _ _) hb2); obtain ⟨x0, x1, x2, x3, x4, x5, x6⟩ := hX2.facts)) | (go_at_call 58; refine (C3.out _ (by (repeat (first | exact .refl _ _ | assumption | refine .drew ?_ | refine balloc ?_ _ | refine bdrewN ?_ _ | refine .setCell ?_ (by simp <;> omega) _ | refine bstep ?_ (by assumption))))).mono ?_; rintro e w2 ⟨rfl, hb2⟩)); go_ret; exact ⟨rfl, by (repeat (first | exact .refl _ _ | assumption | refine .drew ?_ | refine balloc ?_ _ | refine bdrewN ?_ _ | refine .setCell ?_ (by simp <;> omega) _ | refine bstep ?_ (by assumption)))⟩)
    cases b3
    · obtain rfl : V = false := by rw [hV2]; simp
      clear hV2
      (go_enter Tryz.func19, Tryz.ntmps19; go_wp2_with (first | (go_at_call 55; (first | (refine (C1.out _ (by (repeat (first | exact .refl _ _ | assumption | refine .drew ?_ | refine balloc ?_ _ | refine bdrewN ?_ _ | refine .setCell ?_ (by simp <;> omega) _ | refine bstep ?_ (by assumption))))).mono ?_; clear C1) | refine (C2.out _ (by (repeat (first | exact .refl _ _ | assumption | refine .drew ?_ | refine balloc ?_ _ | refine bdrewN ?_ _ | refine .setCell ?_ (by simp <;> omega) _ | refine bstep ?_ (by assumption))))).mono ?_); rintro e w2 ⟨rfl, hb2⟩; (have hX2 : CBox w2 w.heap.size fr till ⟨#[]⟩ A cl.length ca B co.length cb S si.length cs us := (by first | exact Blk.keep hX2 hb2 | exact Blk.keep (World.alloc_heap_new _ _) hb2); obtain ⟨x0, x1, x2, x3, x4, x5, x6⟩ := hX2.facts)) | (go_at_call 58; refine (C3.out _ (by (repeat (first | exact .refl _ _ | assumption | refine .drew ?_ | refine balloc ?_ _ | refine bdrewN ?_ _ | refine .setCell ?_ (by simp <;> omega) _ | refine bstep ?_ (by assumption))))).mono ?_; rintro e w2 ⟨rfl, hb2⟩)); go_ret; exact ⟨rfl, by (repeat (first | exact .refl _ _ | assumption | refine .drew ?_ | refine balloc ?_ _ | refine bdrewN ?_ _ | refine .setCell ?_ (by simp <;> omega) _ | refine bstep ?_ (by assumption)))⟩)
    obtain rfl : V = b4 := by rw [hV2]; cases b1 <;> cases b4 <;> rfl
    clear hV2
    (go_enter Tryz.func19, Tryz.ntmps19; go_wp2_with (first | (go_at_call 55; (first | (refine (C1.out _ (by (repeat (first | exact .refl _ _ | assumption | refine .drew ?_ | refine balloc ?_ _ | refine bdrewN ?_ _ | refine .setCell ?_ (by simp <;> omega) _ | refine bstep ?_ (by assumption))))).mono ?_; clear C1) | refine (C2.out _ (by (repeat (first | exact .refl _ _ | assumption | refine .drew ?_ | refine balloc ?_ _ | refine bdrewN ?_ _ | refine .setCell ?_ (by simp <;> omega) _ | refine bstep ?_ (by assumption))))).mono ?_); rintro e w2 ⟨rfl, hb2⟩; (have hX2 : CBox w2 w.heap.size fr till ⟨#[]⟩ A cl.length ca B co.length cb S si.length cs us := (by first | exact Blk.keep hX2 hb2 | exact Blk.keep (World.alloc_heap_new _ _) hb2); obtain ⟨x0, x1, x2, x3, x4, x5, x6⟩ := hX2.facts)) | (go_at_call 58; refine (C3.out _ (by (repeat (first | exact .refl _ _ | assumption | refine .drew ?_ | refine balloc ?_ _ | refine bdrewN ?_ _ | refine .setCell ?_ (by simp <;> omega) _ | refine bstep ?_ (by assumption))))).mono ?_; rintro e w2 ⟨rfl, hb2⟩)); go_ret; exact ⟨rfl, by (repeat (first | exact .refl _ _ | assumption | refine .drew ?_ | refine balloc ?_ _ | refine bdrewN ?_ _ | refine .setCell ?_ (by simp <;> omega) _ | refine bstep ?_ (by assumption)))⟩)
  · have hn : ¬ pat.toList = [] := fun e => hs (by rw [Lib.toList_data] at e; rw [Lib.size_eq, e]; rfl)
    have hn2 : (pat.toList == []) = false := by simpa using hn
    rw [decide_eq_false hs, Bool.false_or] at hV2
    cases b1
    · obtain rfl : V = false := by rw [hV2]; simp
      clear hV2
      (go_enter Tryz.func19, Tryz.ntmps19; go_wp2_with (first | (go_at_call 54; refine (HVA.out _ (Env.keep HE.out (by (repeat (first | exact .refl _ _ | assumption | refine .drew ?_ | refine balloc ?_ _ | refine bdrewN ?_ _ | refine .setCell ?_ (by simp <;> omega) _ | refine bstep ?_ (by assumption)))))).mono ?_; rintro e w2 ⟨rfl, hb2⟩; (have hX2 : CBox w2 w.heap.size fr till pat A cl.length ca B co.length cb S si.length cs us := (by first | exact Blk.keep hX2 hb2 | exact Blk.keep (World.alloc_heap_new _ _) hb2); obtain ⟨x0, x1, x2, x3, x4, x5, x6⟩ := hX2.facts)) | (go_at_call 55; (first | (refine (C1.out _ (by (repeat (first | exact .refl _ _ | assumption | refine .drew ?_ | refine balloc ?_ _ | refine bdrewN ?_ _ | refine .setCell ?_ (by simp <;> omega) _ | refine bstep ?_ (by assumption))))).mono ?_; clear C1) | refine (C2.out _ (by (repeat (first | exact .refl _ _ | assumption | refine .drew ?_ | refine balloc ?_ _ | refine bdrewN ?_ _ | refine .setCell ?_ (by simp <;> omega) _ | refine bstep ?_ (by assumption))))).mono ?_); rintro e w2 ⟨rfl, hb2⟩; (have hX2 : CBox w2 w.heap.size fr till pat A cl.length ca B co.length cb S si.length cs us := (by first | exact Blk.keep hX2 hb2 | exact Blk.keep (World.alloc_heap_new _ _) hb2); obtain ⟨x0, x1, x2, x3, x4, x5, x6⟩ := hX2.facts)) | (go_at_call 58; refine (C3.out _ (by (repeat (first | exact .refl _ _ | assumption | refine .drew ?_ | refine balloc ?_ _ | refine bdrewN ?_ _ | refine .setCell ?_ (by simp <;> omega) _ | refine bstep ?_ (by assumption))))).mono ?_; rintro e w2 ⟨rfl, hb2⟩)); go_ret; exact ⟨rfl, by (repeat (first | exact .refl _ _ | assumption | refine .drew ?_ | refine balloc ?_ _ | refine bdrewN ?_ _ | refine .setCell ?_ (by simp <;> omega) _ | refine bstep ?_ (by assumption)))⟩)
    cases b2
    · obtain rfl : V = false := by rw [hV2]; simp
      clear hV2
      (go_enter Tryz.func19, Tryz.ntmps19; go_wp2_with (first | (go_at_call 54; refine (HVA.out _ (Env.keep HE.out (by (repeat (first | exact .refl _ _ | assumption | refine .drew ?_ | refine balloc ?_ _ | refine bdrewN ?_ _ | refine .setCell ?_ (by simp <;> omega) _ | refine bstep ?_ (by assumption)))))).mono ?_; rintro e w2 ⟨rfl, hb2⟩; (have hX2 : CBox w2 w.heap.size fr till pat A cl.length ca B co.length cb S si.length cs us := (by first | exact Blk.keep hX2 hb2 | exact Blk.keep (World.alloc_heap_new _ _) hb2); obtain ⟨x0, x1, x2, x3, x4, x5, x6⟩ := hX2.facts)) | (go_at_call 55; (first | (refine (C1.out _ (by (repeat (first | exact .refl _ _ | assumption | refine .drew ?_ | refine balloc ?_ _ | refine bdrewN ?_ _ | refine .setCell ?_ (by simp <;> omega) _ | refine bstep ?_ (by assumption))))).mono ?_; clear C1) | refine (C2.out _ (by (repeat (first | exact .refl _ _ | assumption | refine .drew ?_ | refine balloc ?_ _ | refine bdrewN ?_ _ | refine .setCell ?_ (by simp <;> omega) _ | refine bstep ?_ (by assumption))))).mono ?_); rintro e w2 ⟨rfl, hb2⟩; (have hX2 : CBox w2 w.heap.size fr till pat A cl.length ca B co.length cb S si.length cs us := (by first | exact Blk.keep hX2 hb2 | exact Blk.keep (World.alloc_heap_new _ _) hb2); obtain ⟨x0, x1, x2, x3, x4, x5, x6⟩ := hX2.facts)) | (go_at_call 58; refine (C3.out _ (by (repeat (first | exact .refl _ _ | assumption | refine .drew ?_ | refine balloc ?_ _ | refine bdrewN ?_ _ | refine .setCell ?_ (by simp <;> omega) _ | refine bstep ?_ (by assumption))))).mono ?_; rintro e w2 ⟨rfl, hb2⟩)); go_ret; exact ⟨rfl, by (repeat (first | exact .refl _ _ | assumption | refine .drew ?_ | refine balloc ?_ _ | refine bdrewN ?_ _ | refine .setCell ?_ (by simp <;> omega) _ | refine bstep ?_ (by assumption)))⟩)
    cases b3
    · obtain rfl : V = false := by rw [hV2]; simp
      clear hV2
      (go_enter Tryz.func19, Tryz.ntmps19; go_wp2_with (first | (go_at_call 54; refine (HVA.out _ (Env.keep HE.out (by (repeat (first | exact .refl _ _ | assumption | refine .drew ?_ | refine balloc ?_ _ | refine bdrewN ?_ _ | refine .setCell ?_ (by simp <;> omega) _ | refine bstep ?_ (by assumption)))))).mono ?_; rintro e w2 ⟨rfl, hb2⟩; (have hX2 : CBox w2 w.heap.size fr till pat A cl.length ca B co.length cb S si.length cs us := (by first | exact Blk.keep hX2 hb2 | exact Blk.keep (World.alloc_heap_new _ _) hb2); obtain ⟨x0, x1, x2, x3, x4, x5, x6⟩ := hX2.facts)) | (go_at_call 55; (first | (refine (C1.out _ (by (repeat (first | exact .refl _ _ | assumption | refine .drew ?_ | refine balloc ?_ _ | refine bdrewN ?_ _ | refine .setCell ?_ (by simp <;> omega) _ | refine bstep ?_ (by assumption))))).mono ?_; clear C1) | refine (C2.out _ (by (repeat (first | exact .refl _ _ | assumption | refine .drew ?_ | refine balloc ?_ _ | refine bdrewN ?_ _ | refine .setCell ?_ (by simp <;> omega) _ | refine bstep ?_ (by assumption))))).mono ?_); rintro e w2 ⟨rfl, hb2⟩; (have hX2 : CBox w2 w.heap.size fr till pat A cl.length ca B co.length cb S si.length cs us := (by first | exact Blk.keep hX2 hb2 | exact Blk.keep (World.alloc_heap_new _ _) hb2); obtain ⟨x0, x1, x2, x3, x4, x5, x6⟩ := hX2.facts)) | (go_at_call 58; refine (C3.out _ (by (repeat (first | exact .refl _ _ | assumption | refine .drew ?_ | refine balloc ?_ _ | refine bdrewN ?_ _ | refine .setCell ?_ (by simp <;> omega) _ | refine bstep ?_ (by assumption))))).mono ?_; rintro e w2 ⟨rfl, hb2⟩)); go_ret; exact ⟨rfl, by (repeat (first | exact .refl _ _ | assumption | refine .drew ?_ | refine balloc ?_ _ | refine bdrewN ?_ _ | refine .setCell ?_ (by simp <;> omega) _ | refine bstep ?_ (by assumption)))⟩)
    obtain rfl : V = b4 := by rw [hV2]; cases b4 <;> rfl
    clear hV2
    (go_enter Tryz.func19, Tryz.ntmps19; go_wp2_with (first | (go_at_call 54; refine (HVA.out _ (Env.keep HE.out (by (repeat (first | exact .refl _ _ | assumption | refine .drew ?_ | refine balloc ?_ _ | refine bdrewN ?_ _ | refine .setCell ?_ (by simp <;> omega) _ | refine bstep ?_ (by assumption)))))).mono ?_; rintro e w2 ⟨rfl, hb2⟩; (have hX2 : CBox w2 w.heap.size fr till pat A cl.length ca B co.length cb S si.length cs us := (by first | exact Blk.keep hX2 hb2 | exact Blk.keep (World.alloc_heap_new _ _) hb2); obtain ⟨x0, x1, x2, x3, x4, x5, x6⟩ := hX2.facts)) | (go_at_call 55; (first | (refine (C1.out _ (by (repeat (first | exact .refl _ _ | assumption | refine .drew ?_ | refine balloc ?_ _ | refine bdrewN ?_ _ | refine .setCell ?_ (by simp <;> omega) _ | refine bstep ?_ (by assumption))))).mono ?_; clear C1) | refine (C2.out _ (by (repeat (first | exact .refl _ _ | assumption | refine .drew ?_ | refine balloc ?_ _ | refine bdrewN ?_ _ | refine .setCell ?_ (by simp <;> omega) _ | refine bstep ?_ (by assumption))))).mono ?_); rintro e w2 ⟨rfl, hb2⟩; (have hX2 : CBox w2 w.heap.size fr till pat A cl.length ca B co.length cb S si.length cs us := (by first | exact Blk.keep hX2 hb2 | exact Blk.keep (World.alloc_heap_new _ _) hb2); obtain ⟨x0, x1, x2, x3, x4, x5, x6⟩ := hX2.facts)) | (go_at_call 58; refine (C3.out _ (by (repeat (first | exact .refl _ _ | assumption | refine .drew ?_ | refine balloc ?_ _ | refine bdrewN ?_ _ | refine .setCell ?_ (by simp <;> omega) _ | refine bstep ?_ (by assumption))))).mono ?_; rintro e w2 ⟨rfl, hb2⟩)); go_ret; exact ⟨rfl, by (repeat (first | exact .refl _ _ | assumption | refine .drew ?_ | refine balloc ?_ _ | refine bdrewN ?_ _ | refine .setCell ?_ (by simp <;> omega) _ | refine bstep ?_ (by assumption)))⟩)
end Go.Proofs.YtocgkpdolgnbgaaGreatDoor
namespace Go.Proofs.YtocgkpdolgnbgaaGreatDoor
open Go.RowKit Go.Sort
set_option linter.unusedVariables false
set_option linter.unusedSimpArgs false
set_option maxRecDepth 100000
def anyP : Pat := ⟨⟨2, ⟨#[]⟩⟩, [], true⟩
theorem any_fit : PatFit anyP := ⟨.inr ⟨rfl, rfl⟩, (by intro p hp; cases hp), by decide⟩
theorem any_str : patS anyP = ⟨#[42, 47, 42, 42]⟩ := bytes_ext (by
  rw [patS_eq, join_data, str_data]
  rfl)
theorem any_comp : compileB ⟨#[42, 47, 42, 42]⟩ = some anyP := by rw [← any_str]; exact compile_str any_fit
theorem any_match (a : Adr) : matchP anyP a = true := by
  unfold matchP anyP
  rw [has2]
  simp [matchesL]
def patT (p : ByteArray) : ByteArray := if p.size = 0 then ⟨#[42, 47, 42, 42]⟩ else p
theorem patT_some {p : ByteArray} (h : patOk p = true) : ∃ x, compileB (patT p) = some x ∧ PatFit x := by
  unfold patT
  by_cases h0 : p.size = 0
  · rw [if_pos h0]; exact ⟨_, any_comp, any_fit⟩
  · rw [if_neg h0]
    obtain ⟨x, hx⟩ := patOk_some h h0
    exact ⟨x, hx, compile_fit hx⟩
end Go.Proofs.YtocgkpdolgnbgaaGreatDoor
namespace Go.Proofs.YtocgkpdolgnbgaaGreatDoor
open Go.RowKit Go.Sort
set_option linter.unusedVariables false
set_option linter.unusedSimpArgs false
set_option maxRecDepth 100000
structure AskV where
  addr : ByteArray
  client : ByteArray
  country : ByteArray
  site : Int
  lo : Int
  hi : Int
def validAsk (a : AskV) : Bool := readB a.addr && isNameB a.client && countryB a.country && siteB a.site && decide (0 ≤ a.lo ∧ a.lo ≤ a.hi ∧ a.hi ≤ 1099511627776)
def holdsC (c : CondV) (a : AskV) : Bool := validC c && validAsk a && decide (c.fr ≤ a.lo ∧ a.hi < c.till) && matchB (patT c.pat) a.addr && allowsL c.cl a.client && allowsL c.co a.country && allowsL c.si a.site
theorem ask_times {a : AskV} (h : validAsk a = true) : 0 ≤ a.lo ∧ a.lo ≤ a.hi ∧ a.hi ≤ 1099511627776 ∧ isNameB a.client = true ∧ countryB a.country = true ∧ siteB a.site = true ∧ readB a.addr = true := by
  unfold validAsk at h
  simp only [Bool.and_eq_true, decide_eq_true_eq] at h
  exact ⟨h.2.1, h.2.2.1, h.2.2.2, h.1.1.1.2, h.1.1.2, h.1.2, h.1.1.1.1⟩
end Go.Proofs.YtocgkpdolgnbgaaGreatDoor
namespace Go.Proofs.YtocgkpdolgnbgaaGreatDoor
open Go.RowKit Go.Sort
set_option linter.unusedVariables false
set_option linter.unusedSimpArgs false
set_option maxRecDepth 100000
def AskV.val (a : AskV) : Value := .agg #[.string a.addr, .string a.client, .string a.country, .int .i64 a.site, .int .i64 a.lo, .int .i64 a.hi]
set_option maxHeartbeats 2000000 in
theorem rFewAsk_any (a : AskV) (w : World) : Calls Tryz.prog 23 #[AskV.val a] w (Ret w (.bool (decide (a.addr.size ≤ 5000) && decide (a.client.size ≤ 5000) && decide (a.country.size ≤ 5000)))) := by
  obtain ⟨ad, cl, co, si, lo, hi⟩ := a
  unfold AskV.val
  dsimp only
  by_cases h1 : ad.size ≤ 5000
  · have d1 : decide ((ad.size : Int) ≤ 5000) = true := decide_eq_true (by omega)
    by_cases h2 : cl.size ≤ 5000
    · have d2 : decide ((cl.size : Int) ≤ 5000) = true := decide_eq_true (by omega)
      by_cases h3 : co.size ≤ 5000
      · have d3 : decide ((co.size : Int) ≤ 5000) = true := decide_eq_true (by omega)
        rw [decide_eq_true h1, decide_eq_true h2, decide_eq_true h3]
        go_enter Tryz.func23, Tryz.ntmps23
        go_wp2
        go_ret
        exact ⟨rfl, by (repeat (first | exact .refl _ _ | assumption | refine .drew ?_ | refine balloc ?_ _ | refine bdrewN ?_ _ | refine .setCell ?_ (by simp <;> omega) _ | refine bstep ?_ (by assumption)))⟩
      · have d3 : decide ((co.size : Int) ≤ 5000) = false := decide_eq_false (by omega)
        rw [decide_eq_true h1, decide_eq_true h2, decide_eq_false h3]
        go_enter Tryz.func23, Tryz.ntmps23
        go_wp2
        go_ret
        exact ⟨rfl, by (repeat (first | exact .refl _ _ | assumption | refine .drew ?_ | refine balloc ?_ _ | refine bdrewN ?_ _ | refine .setCell ?_ (by simp <;> omega) _ | refine bstep ?_ (by assumption)))⟩
    · have d2 : decide ((cl.size : Int) ≤ 5000) = false := decide_eq_false (by omega)
      rw [decide_eq_true h1, decide_eq_false h2]
      go_enter Tryz.func23, Tryz.ntmps23
      go_wp2
      go_ret
      exact ⟨rfl, by (repeat (first | exact .refl _ _ | assumption | refine .drew ?_ | refine balloc ?_ _ | refine bdrewN ?_ _ | refine .setCell ?_ (by simp <;> omega) _ | refine bstep ?_ (by assumption)))⟩
  · have d1 : decide ((ad.size : Int) ≤ 5000) = false := decide_eq_false (by omega)
    rw [decide_eq_false h1]
    go_enter Tryz.func23, Tryz.ntmps23
    go_wp2
    go_ret
    exact ⟨rfl, by (repeat (first | exact .refl _ _ | assumption | refine .drew ?_ | refine balloc ?_ _ | refine bdrewN ?_ _ | refine .setCell ?_ (by simp <;> omega) _ | refine bstep ?_ (by assumption)))⟩
end Go.Proofs.YtocgkpdolgnbgaaGreatDoor
namespace Go.Proofs.YtocgkpdolgnbgaaGreatDoor
open Go.RowKit Go.Sort
set_option linter.unusedVariables false
set_option linter.unusedSimpArgs false
set_option maxRecDepth 100000
theorem key_less (a b : ByteArray) : (!(Op.bytesLess a.toList b.toList || a.toList == b.toList)) = decide (b.data.toList < a.data.toList) := by
  rw [bytesLess_eq, Lib.toList_data, Lib.toList_data, Bool.eq_iff_iff]
  simp only [Bool.not_eq_true', Bool.or_eq_false_iff, decide_eq_false_iff_not, beq_eq_false_iff_ne, decide_eq_true_eq]
  constructor
  · rintro ⟨h1, h2⟩; exact lt_tri _ _ h2 h1
  · intro h
    exact ⟨fun h1 => List.lt_irrefl _ (List.lt_trans h h1), fun e => List.lt_irrefl _ (by rw [e] at h; exact h)⟩
theorem pairK_at (qs : List (ByteArray × ByteArray)) (k : Nat) (hk : k < qs.length) : pairK qs k = true ↔ isNameB qs[k].1 = true ∧ isWordB qs[k].2 = true ∧ (k = 0 ∨ ∃ h : k - 1 < qs.length, qs[k - 1].1.data.toList < qs[k].1.data.toList) := by
  unfold pairK
  rw [List.getElem?_eq_getElem hk]
  simp only [Bool.and_eq_true, Bool.or_eq_true, beq_iff_eq]
  have hk1 : k - 1 < qs.length := by omega
  rw [List.getElem?_eq_getElem hk1]
  simp only [Option.getD_some]
  rw [key_less, decide_eq_true_eq]
  constructor
  · rintro ⟨⟨h1, h2⟩, h3⟩
    exact ⟨h1, h2, h3.imp id fun h => ⟨hk1, h⟩⟩
  · rintro ⟨h1, h2, h3⟩
    exact ⟨⟨h1, h2⟩, h3.imp id fun ⟨_, h⟩ => h⟩
theorem formed_iff (c : ByteArray) (xs : List ByteArray) (qs : List (ByteArray × ByteArray)) : formedB c xs qs = true ↔ AdrGood ⟨c, xs, qs⟩ ∧ (W06 c xs qs).length ≤ 4096 := by
  unfold formedB headOk
  simp only [Bool.and_eq_true, decide_eq_true_eq, List.all_eq_true, List.mem_range]
  constructor
  · rintro ⟨⟨⟨⟨⟨h1, h2⟩, h3⟩, h4⟩, h5⟩, h6⟩
    have hat := fun k hk => (pairK_at qs k hk).1 (h5 k hk)
    refine ⟨⟨h1, h4, h2, h3, ?_, ?_⟩, h6⟩
    · intro q hq
      obtain ⟨k, hk, rfl⟩ := List.getElem_of_mem hq
      exact ⟨(hat k hk).1, (hat k hk).2.1⟩
    · unfold KeysUp
      rw [List.pairwise_iff_getElem]
      intro i j
      induction j with
      | zero => intro _ _ h; omega
      | succ j ih =>
        intro hi hj hij
        rcases (hat (j + 1) hj).2.2 with h | ⟨h, h7⟩
        · omega
        · have e : j + 1 - 1 = j := rfl
          simp only [e] at h7
          by_cases hij2 : i = j
          · subst hij2; exact h7
          · exact List.lt_trans (ih hi (by omega) (by omega)) h7
  · rintro ⟨⟨h1, h4, h2, h3, h5, h7⟩, h6⟩
    refine ⟨⟨⟨⟨⟨h1, h2⟩, h3⟩, h4⟩, fun k hk => ?_⟩, h6⟩
    rw [pairK_at qs k hk]
    have hq := h5 qs[k] (List.getElem_mem hk)
    refine ⟨hq.1, hq.2, ?_⟩
    by_cases h0 : k = 0
    · exact .inl h0
    · have hk1 : k - 1 < qs.length := by omega
      exact .inr ⟨hk1, List.pairwise_iff_getElem.1 h7 (k - 1) k hk1 hk (by omega)⟩
section
variable {c : ByteArray} {ws : List ByteArray} (hc : isNameB c = true) (hw : ∀ w ∈ ws, isWordB w = true) (hn : ws.length ≤ 32)
include hc hw hn
end
end Go.Proofs.YtocgkpdolgnbgaaGreatDoor
namespace Go.Proofs.YtocgkpdolgnbgaaGreatDoor
open Go.RowKit Go.Sort
set_option linter.unusedVariables false
set_option linter.unusedSimpArgs false
set_option maxRecDepth 100000
def totP (l : List (List UInt8)) : Nat := (pathL l).length
theorem totP_cons (x : List UInt8) (l : List (List UInt8)) : totP (x :: l) = x.length + 1 + totP l := by simp [totP, pathL]; omega
theorem totP_nil : totP [] = 0 := rfl
theorem totP_app (a b : List (List UInt8)) : totP (a ++ b) = totP a + totP b := by simp [totP, pathL]
theorem split_tot (c : UInt8) : ∀ l : List UInt8, totP (splitL c l) = l.length + 1
  | [] => by simp [splitL, totP_cons, totP_nil]
  | b :: l => by
    have ih := split_tot c l
    unfold splitL
    split
    · rw [totP_cons, ih]; simp; omega
    · cases hs : splitL c l with
      | nil => exact absurd hs (splitL_ne c l)
      | cons p ps =>
        rw [hs, totP_cons] at ih
        simp only [totP_cons, List.length_cons]
        omega
theorem lists_split (c : UInt8) (s : ByteArray) : lists (splitB c s) = splitL c s.data.toList := by
  unfold splitB lists
  rw [List.map_map]
  conv => rhs; rw [← List.map_id (splitL c s.data.toList)]
  exact List.map_congr_left fun x _ => rfl
theorem totP_dropLast (l : List ByteArray) : totP (lists l.dropLast) ≤ totP (lists l) := by
  rcases List.eq_nil_or_concat l with rfl | ⟨a, x, rfl⟩
  · exact Nat.le_refl _
  · rw [List.concat_eq_append, List.dropLast_concat]
    unfold lists
    rw [List.map_append, totP_app]
    omega
theorem res_tot : ∀ (ps out r : List ByteArray), resB out ps = some r → totP (lists r) ≤ totP (lists out) + totP (lists ps)
  | [], out, r, e => by simp [resB] at e; subst e; simp [lists, totP_nil]
  | p :: ps, out, r, e => by
    rw [resB] at e
    cases hs : resStep out p with
    | none => rw [hs] at e; cases e
    | some o =>
      rw [hs, Option.bind_some] at e
      have ih := res_tot ps o r e
      have ho : totP (lists o) ≤ totP (lists out) + (p.data.toList.length + 1) := by
        unfold resStep at hs
        split at hs
        · injection hs with hs; subst hs; omega
        · split at hs
          · injection hs with hs; subst hs
            have := totP_dropLast out
            omega
          · split at hs
            · injection hs with hs; subst hs
              unfold lists
              rw [List.map_append, totP_app, List.map_cons, totP_cons]
              simp [totP_nil]
            · cases hs
      have hp : totP (lists (p :: ps)) = p.data.toList.length + 1 + totP (lists ps) := totP_cons _ _
      omega
def totQ : List (List UInt8 × List UInt8) → Nat
  | [] => 0
  | q :: l => q.1.length + q.2.length + 2 + totQ l
theorem query_tot : ∀ (sep : UInt8) (l : List (List UInt8 × List UInt8)), (queryL sep l).length = totQ l
  | _, [] => rfl
  | sep, (k, v) :: l => by simp [queryL, totQ, query_tot 38 l]; omega
theorem insL_tot (p : List UInt8 × List UInt8) : ∀ l : List (List UInt8 × List UInt8), totQ (insL l p) ≤ totQ l + (p.1.length + p.2.length + 2)
  | [] => by simp [insL, totQ]
  | q :: l => by
    unfold insL
    have ih := insL_tot p l
    split
    · simp only [totQ]; omega
    · split <;> simp only [totQ] <;> omega
theorem fold_tot : ∀ (l acc : List (List UInt8 × List UInt8)), totQ (l.foldl insL acc) ≤ totQ acc + totQ l
  | [], acc => by simp [totQ]
  | p :: l, acc => by
    have h1 := fold_tot l (insL acc p)
    have h2 := insL_tot p acc
    rw [List.foldl_cons]
    simp only [totQ]
    omega
theorem totQ_app : ∀ (a b : List (List UInt8 × List UInt8)), totQ (a ++ b) = totQ a + totQ b
  | [], b => by simp [totQ]
  | q :: a, b => by simp only [List.cons_append, totQ, totQ_app a b]; omega
theorem cut_tot (l : List UInt8) (c : UInt8) : (Lib.cut l [c]).1.length + (if (Lib.cut l [c]).2.2 then 1 + (Lib.cut l [c]).2.1.length else 0) = l.length ∧ ((Lib.cut l [c]).2.2 = false → (Lib.cut l [c]).2.1 = []) := by
  by_cases h : c ∈ l
  · obtain ⟨a, b, rfl, hna⟩ : ∃ a b, l = a ++ c :: b ∧ c ∉ a := by
      induction l with
      | nil => simp at h
      | cons x l ih =>
        by_cases e : x = c
        · subst e; exact ⟨[], l, rfl, by simp⟩
        · rcases List.mem_cons.1 h with h | h
          · exact absurd h.symm e
          · obtain ⟨a, b, h1, h2⟩ := ih h
            exact ⟨x :: a, b, by rw [h1]; rfl, by simp [h2]; exact fun e2 => e e2.symm⟩
    rw [cut_hit a b c hna]
    simp
    omega
  · rw [cut_none l c h]
    simp
theorem qAcc_tot : ∀ (ps : List ByteArray) (acc r : List (List UInt8 × List UInt8)), qAcc acc ps = some r → totQ r ≤ totQ acc + totP (lists ps)
  | [], acc, r, e => by simp [qAcc] at e; subst e; simp [lists, totP_nil]
  | p :: ps, acc, r, e => by
    rw [qAcc] at e
    cases hs : parsePair p with
    | none => rw [hs] at e; cases e
    | some x =>
      rw [hs] at e
      have ih := qAcc_tot ps _ r e
      have hx : x.1.length + x.2.length + 1 = p.data.toList.length := by
        unfold parsePair at hs
        split at hs
        · rename_i hc
          injection hs with hs
          subst hs
          simp only [Bool.and_eq_true] at hc
          have := (cut_tot p.data.toList 61).1
          rw [hc.1.1] at this
          simp only [if_true] at this
          dsimp only
          omega
        · cases hs
      have hp : totP (lists (p :: ps)) = p.data.toList.length + 1 + totP (lists ps) := totP_cons _ _
      rw [totQ_app] at ih
      simp only [totQ] at ih
      omega
theorem pairs_tot (q : List UInt8) (r : List (ByteArray × ByteArray)) (h : pairsB (toB q) = some r) : totQ (lists2 r) ≤ (if q = [] then 0 else q.length + 1) := by
  unfold pairsB at h
  split at h
  · injection h with h; subst h; simp [lists2, totQ]
  · rename_i hne
    rw [Lib.toList_data] at hne
    have hq : q ≠ [] := fun e => hne (by rw [e]; rfl)
    rw [if_neg hq]
    obtain ⟨acc, ha, rfl⟩ := Option.map_eq_some_iff.1 h
    have h1 := qAcc_tot _ _ _ ha
    rw [lists_split, split_tot] at h1
    have h2 := fold_tot acc []
    have h3 : lists2 ((pairsL acc).map fun q => (toB q.1, toB q.2)) = pairsL acc := by
      unfold lists2
      rw [List.map_map]
      conv => rhs; rw [← List.map_id (pairsL acc)]
      exact List.map_congr_left fun x _ => rfl
    rw [h3]
    unfold pairsL
    simp only [totQ] at h1 h2
    have h4 : (toB q).data.toList.length = q.length := rfl
    omega
theorem trimS_le (l : List UInt8) : (Lib.trimSuffix l [47]).length ≤ l.length := trim_len l [47]
theorem parse_short (s : ByteArray) (h : (parseB s).2 = 0) : (W06 (parseB s).1.cust (parseB s).1.path (parseB s).1.query).length ≤ s.size ∧ s.size ≤ 4096 := by
  unfold parseB at h ⊢
  split at h
  · cases h
  · rename_i hs
    rw [if_neg hs]
    refine ⟨?_, by omega⟩
    have hl0 := cut_tot (lowL s.data.toList) 63
    have hc0 := cut_tot (Lib.trimSuffix (leftL s).1 [47]) 47
    have ht := trimS_le (leftL s).1
    have hlow := lowL_len s.data.toList
    have hp : ∀ p, pathB (custL s) = some p → totP (lists p) ≤ if (custL s).2.2 then 1 + (custL s).2.1.length else 0 := by
      intro p hp
      unfold pathB at hp
      split at hp
      · rename_i hm
        have := res_tot _ _ _ hp
        rw [lists_split, split_tot] at this
        have e : (toB (custL s).2.1).data.toList.length = (custL s).2.1.length := rfl
        simp only [lists, List.map_nil, totP_nil] at this
        rw [if_pos hm]
        unfold lists
        omega
      · injection hp with hp; subst hp; simp [lists, totP_nil]
    have hq := fun r h => pairs_tot (leftL s).2.1 r h
    rw [size_data, ← hlow]
    change (leftL s).1.length + (if (leftL s).2.2 then 1 + (leftL s).2.1.length else 0) = _ ∧ _ at hl0
    change (custL s).1.length + (if (custL s).2.2 then 1 + (custL s).2.1.length else 0) = _ ∧ _ at hc0
    generalize pathB (custL s) = rr at *
    generalize pairsB (toB (leftL s).2.1) = qq at *
    generalize isNameB (toB (custL s).1) = nm at *
    unfold adrOf at h ⊢
    split at h
    · split at h
      · rename_i hl
        rw [if_pos hl]
        dsimp only
        have h1 := hp _ rfl
        have h2 := hq _ rfl
        unfold W06 writeL
        rw [List.length_append, List.length_append, query_tot]
        have e1 : (toB (custL s).1).data.toList.length = (custL s).1.length := rfl
        unfold totP at h1
        have h3 : (if (leftL s).2.1 = [] then 0 else (leftL s).2.1.length + 1) ≤ if (leftL s).2.2 then 1 + (leftL s).2.1.length else 0 := by
          split
          · omega
          · rename_i hne
            cases hb : (leftL s).2.2
            · exact absurd (hl0.2 hb) hne
            · simp; omega
        omega
      · cases h
    · cases h
end Go.Proofs.YtocgkpdolgnbgaaGreatDoor
namespace Go.Proofs.YtocgkpdolgnbgaaGreatDoor
open Go.RowKit Go.Sort
set_option linter.unusedVariables false
set_option linter.unusedSimpArgs false
set_option maxRecDepth 100000
theorem canon_shape (s : ByteArray) : ∃ (t : ByteArray) (f : Int), canonV s = .tuple #[.string t, .int .i64 f] ∧ readB s = (decide (f = 0) && (t.toList == s.toList)) := by
  unfold canonV readB
  by_cases h : (parseB s).2 = 0
  · have hg := parse_good s h
    have hsh := parse_short s h
    have hf : formedB (parseB s).1.cust (parseB s).1.path (parseB s).1.query = true := (formed_iff _ _ _).2 ⟨hg, by omega⟩
    rw [if_pos h]
    unfold textV
    rw [if_pos hf, decide_eq_true h]
    exact ⟨_, 0, rfl, rfl⟩
  · rw [if_neg h]
    refine ⟨_, _, rfl, ?_⟩
    rw [decide_eq_false h]
    rfl
set_option maxHeartbeats 8000000 in
theorem validAsk_any (a : AskV) (w : World) (h1 : a.addr.size ≤ 100000) (h2 : a.client.size ≤ 100000) (h3 : a.country.size ≤ 100000) (hE : Env w) : Calls Tryz.prog 28 #[AskV.val a] w (Ret w (.bool (validAsk a))) := by
  obtain ⟨ad, cl, co, si, lo, hi⟩ := a
  dsimp only at h1 h2 h3
  unfold AskV.val
  dsimp only
  obtain ⟨V, hV⟩ : ∃ V, V = validAsk ⟨ad, cl, co, si, lo, hi⟩ := ⟨_, rfl⟩
  rw [← hV]
  unfold validAsk at hV
  dsimp only at hV
  obtain ⟨t, f, hcs, hrb⟩ := canon_shape ad
  have c1 := fun W h => canonical_any ad W (by omega) h
  have c2 := fun W h => condName_any cl W h2 h
  have c3 := fun W => isCountry_any co W (by omega)
  have c4 := fun W => isSite_any si W
  rw [hcs] at c1
  rw [hrb] at hV
  clear hcs hrb
  generalize isNameB cl = b2 at *
  generalize countryB co = b3 at *
  generalize siteB si = b4 at *
  have C1 := Lib.hid c1
  have C2 := Lib.hid c2
  have C3 := Lib.hid c3
  have C4 := Lib.hid c4
  have HE := Lib.hid hE
  clear c1 c2 c3 c4 hE h1 h2 h3
  by_cases t1 : f = 0
  rotate_left
  · obtain rfl : V = false := by rw [hV]; simp [t1]
    have d1 : (f == 0) = false := by simpa using t1
    clear hV
    (go_enter Tryz.func28, Tryz.ntmps28; go_wp2_with (first | (go_at_call 79; refine (C1.out _ (Env.keep HE.out (by (repeat (first | exact .refl _ _ | assumption | refine .drew ?_ | refine balloc ?_ _ | refine bdrewN ?_ _ | refine .setCell ?_ (by simp <;> omega) _ | refine bstep ?_ (by assumption)))))).mono ?_; rintro e w2 ⟨rfl, hb2⟩; (have hX2 : Blk w2 w.heap.size 34 #[.string ad, .string cl, .string co, .int .i64 si, .int .i64 lo, .int .i64 hi] (0, 0) := (by first | exact Blk.keep hX2 hb2 | exact Blk.keep (World.alloc_heap_new _ _) hb2); have x0 := hX2.cell 0; have x1 := hX2.cell 1; have x2 := hX2.cell 2; have x3 := hX2.cell 3; have x4 := hX2.cell 4; have x5 := hX2.cell 5)) | (go_at_call 56; refine (C2.out _ (Env.keep HE.out (by (repeat (first | exact .refl _ _ | assumption | refine .drew ?_ | refine balloc ?_ _ | refine bdrewN ?_ _ | refine .setCell ?_ (by simp <;> omega) _ | refine bstep ?_ (by assumption)))))).mono ?_; rintro e w2 ⟨rfl, hb2⟩; (have hX2 : Blk w2 w.heap.size 34 #[.string ad, .string cl, .string co, .int .i64 si, .int .i64 lo, .int .i64 hi] (0, 0) := (by first | exact Blk.keep hX2 hb2 | exact Blk.keep (World.alloc_heap_new _ _) hb2); have x0 := hX2.cell 0; have x1 := hX2.cell 1; have x2 := hX2.cell 2; have x3 := hX2.cell 3; have x4 := hX2.cell 4; have x5 := hX2.cell 5)) | (go_at_call 57; refine (C3.out _).mono ?_; rintro e w2 ⟨rfl, hb2⟩; (have hX2 : Blk w2 w.heap.size 34 #[.string ad, .string cl, .string co, .int .i64 si, .int .i64 lo, .int .i64 hi] (0, 0) := (by first | exact Blk.keep hX2 hb2 | exact Blk.keep (World.alloc_heap_new _ _) hb2); have x0 := hX2.cell 0; have x1 := hX2.cell 1; have x2 := hX2.cell 2; have x3 := hX2.cell 3; have x4 := hX2.cell 4; have x5 := hX2.cell 5)) | (go_at_call 59; refine (C4.out _).mono ?_; rintro e w2 ⟨rfl, hb2⟩; (have hX2 : Blk w2 w.heap.size 34 #[.string ad, .string cl, .string co, .int .i64 si, .int .i64 lo, .int .i64 hi] (0, 0) := (by first | exact Blk.keep hX2 hb2 | exact Blk.keep (World.alloc_heap_new _ _) hb2); have x0 := hX2.cell 0; have x1 := hX2.cell 1; have x2 := hX2.cell 2; have x3 := hX2.cell 3; have x4 := hX2.cell 4; have x5 := hX2.cell 5))); go_ret; exact ⟨rfl, by (repeat (first | exact .refl _ _ | assumption | refine .drew ?_ | refine balloc ?_ _ | refine bdrewN ?_ _ | refine .setCell ?_ (by simp <;> omega) _ | refine bstep ?_ (by assumption)))⟩)
  subst t1
  have hV2 : V = ((t.toList == ad.toList) && b2 && b3 && b4 && decide (0 ≤ lo ∧ lo ≤ hi ∧ hi ≤ 1099511627776)) := by rw [hV]; rfl
  clear hV
  cases t2 : (t.toList == ad.toList)
  · obtain rfl : V = false := by rw [hV2, t2]; rfl
    clear hV2
    (go_enter Tryz.func28, Tryz.ntmps28; go_wp2_with (first | (go_at_call 79; refine (C1.out _ (Env.keep HE.out (by (repeat (first | exact .refl _ _ | assumption | refine .drew ?_ | refine balloc ?_ _ | refine bdrewN ?_ _ | refine .setCell ?_ (by simp <;> omega) _ | refine bstep ?_ (by assumption)))))).mono ?_; rintro e w2 ⟨rfl, hb2⟩; (have hX2 : Blk w2 w.heap.size 34 #[.string ad, .string cl, .string co, .int .i64 si, .int .i64 lo, .int .i64 hi] (0, 0) := (by first | exact Blk.keep hX2 hb2 | exact Blk.keep (World.alloc_heap_new _ _) hb2); have x0 := hX2.cell 0; have x1 := hX2.cell 1; have x2 := hX2.cell 2; have x3 := hX2.cell 3; have x4 := hX2.cell 4; have x5 := hX2.cell 5)) | (go_at_call 56; refine (C2.out _ (Env.keep HE.out (by (repeat (first | exact .refl _ _ | assumption | refine .drew ?_ | refine balloc ?_ _ | refine bdrewN ?_ _ | refine .setCell ?_ (by simp <;> omega) _ | refine bstep ?_ (by assumption)))))).mono ?_; rintro e w2 ⟨rfl, hb2⟩; (have hX2 : Blk w2 w.heap.size 34 #[.string ad, .string cl, .string co, .int .i64 si, .int .i64 lo, .int .i64 hi] (0, 0) := (by first | exact Blk.keep hX2 hb2 | exact Blk.keep (World.alloc_heap_new _ _) hb2); have x0 := hX2.cell 0; have x1 := hX2.cell 1; have x2 := hX2.cell 2; have x3 := hX2.cell 3; have x4 := hX2.cell 4; have x5 := hX2.cell 5)) | (go_at_call 57; refine (C3.out _).mono ?_; rintro e w2 ⟨rfl, hb2⟩; (have hX2 : Blk w2 w.heap.size 34 #[.string ad, .string cl, .string co, .int .i64 si, .int .i64 lo, .int .i64 hi] (0, 0) := (by first | exact Blk.keep hX2 hb2 | exact Blk.keep (World.alloc_heap_new _ _) hb2); have x0 := hX2.cell 0; have x1 := hX2.cell 1; have x2 := hX2.cell 2; have x3 := hX2.cell 3; have x4 := hX2.cell 4; have x5 := hX2.cell 5)) | (go_at_call 59; refine (C4.out _).mono ?_; rintro e w2 ⟨rfl, hb2⟩; (have hX2 : Blk w2 w.heap.size 34 #[.string ad, .string cl, .string co, .int .i64 si, .int .i64 lo, .int .i64 hi] (0, 0) := (by first | exact Blk.keep hX2 hb2 | exact Blk.keep (World.alloc_heap_new _ _) hb2); have x0 := hX2.cell 0; have x1 := hX2.cell 1; have x2 := hX2.cell 2; have x3 := hX2.cell 3; have x4 := hX2.cell 4; have x5 := hX2.cell 5))); go_ret; exact ⟨rfl, by (repeat (first | exact .refl _ _ | assumption | refine .drew ?_ | refine balloc ?_ _ | refine bdrewN ?_ _ | refine .setCell ?_ (by simp <;> omega) _ | refine bstep ?_ (by assumption)))⟩)
  rw [t2] at hV2
  cases b2
  · obtain rfl : V = false := by rw [hV2]; rfl
    clear hV2
    (go_enter Tryz.func28, Tryz.ntmps28; go_wp2_with (first | (go_at_call 79; refine (C1.out _ (Env.keep HE.out (by (repeat (first | exact .refl _ _ | assumption | refine .drew ?_ | refine balloc ?_ _ | refine bdrewN ?_ _ | refine .setCell ?_ (by simp <;> omega) _ | refine bstep ?_ (by assumption)))))).mono ?_; rintro e w2 ⟨rfl, hb2⟩; (have hX2 : Blk w2 w.heap.size 34 #[.string ad, .string cl, .string co, .int .i64 si, .int .i64 lo, .int .i64 hi] (0, 0) := (by first | exact Blk.keep hX2 hb2 | exact Blk.keep (World.alloc_heap_new _ _) hb2); have x0 := hX2.cell 0; have x1 := hX2.cell 1; have x2 := hX2.cell 2; have x3 := hX2.cell 3; have x4 := hX2.cell 4; have x5 := hX2.cell 5)) | (go_at_call 56; refine (C2.out _ (Env.keep HE.out (by (repeat (first | exact .refl _ _ | assumption | refine .drew ?_ | refine balloc ?_ _ | refine bdrewN ?_ _ | refine .setCell ?_ (by simp <;> omega) _ | refine bstep ?_ (by assumption)))))).mono ?_; rintro e w2 ⟨rfl, hb2⟩; (have hX2 : Blk w2 w.heap.size 34 #[.string ad, .string cl, .string co, .int .i64 si, .int .i64 lo, .int .i64 hi] (0, 0) := (by first | exact Blk.keep hX2 hb2 | exact Blk.keep (World.alloc_heap_new _ _) hb2); have x0 := hX2.cell 0; have x1 := hX2.cell 1; have x2 := hX2.cell 2; have x3 := hX2.cell 3; have x4 := hX2.cell 4; have x5 := hX2.cell 5)) | (go_at_call 57; refine (C3.out _).mono ?_; rintro e w2 ⟨rfl, hb2⟩; (have hX2 : Blk w2 w.heap.size 34 #[.string ad, .string cl, .string co, .int .i64 si, .int .i64 lo, .int .i64 hi] (0, 0) := (by first | exact Blk.keep hX2 hb2 | exact Blk.keep (World.alloc_heap_new _ _) hb2); have x0 := hX2.cell 0; have x1 := hX2.cell 1; have x2 := hX2.cell 2; have x3 := hX2.cell 3; have x4 := hX2.cell 4; have x5 := hX2.cell 5)) | (go_at_call 59; refine (C4.out _).mono ?_; rintro e w2 ⟨rfl, hb2⟩; (have hX2 : Blk w2 w.heap.size 34 #[.string ad, .string cl, .string co, .int .i64 si, .int .i64 lo, .int .i64 hi] (0, 0) := (by first | exact Blk.keep hX2 hb2 | exact Blk.keep (World.alloc_heap_new _ _) hb2); have x0 := hX2.cell 0; have x1 := hX2.cell 1; have x2 := hX2.cell 2; have x3 := hX2.cell 3; have x4 := hX2.cell 4; have x5 := hX2.cell 5))); go_ret; exact ⟨rfl, by (repeat (first | exact .refl _ _ | assumption | refine .drew ?_ | refine balloc ?_ _ | refine bdrewN ?_ _ | refine .setCell ?_ (by simp <;> omega) _ | refine bstep ?_ (by assumption)))⟩)
  cases b3
  · obtain rfl : V = false := by rw [hV2]; rfl
    clear hV2
    (go_enter Tryz.func28, Tryz.ntmps28; go_wp2_with (first | (go_at_call 79; refine (C1.out _ (Env.keep HE.out (by (repeat (first | exact .refl _ _ | assumption | refine .drew ?_ | refine balloc ?_ _ | refine bdrewN ?_ _ | refine .setCell ?_ (by simp <;> omega) _ | refine bstep ?_ (by assumption)))))).mono ?_; rintro e w2 ⟨rfl, hb2⟩; (have hX2 : Blk w2 w.heap.size 34 #[.string ad, .string cl, .string co, .int .i64 si, .int .i64 lo, .int .i64 hi] (0, 0) := (by first | exact Blk.keep hX2 hb2 | exact Blk.keep (World.alloc_heap_new _ _) hb2); have x0 := hX2.cell 0; have x1 := hX2.cell 1; have x2 := hX2.cell 2; have x3 := hX2.cell 3; have x4 := hX2.cell 4; have x5 := hX2.cell 5)) | (go_at_call 56; refine (C2.out _ (Env.keep HE.out (by (repeat (first | exact .refl _ _ | assumption | refine .drew ?_ | refine balloc ?_ _ | refine bdrewN ?_ _ | refine .setCell ?_ (by simp <;> omega) _ | refine bstep ?_ (by assumption)))))).mono ?_; rintro e w2 ⟨rfl, hb2⟩; (have hX2 : Blk w2 w.heap.size 34 #[.string ad, .string cl, .string co, .int .i64 si, .int .i64 lo, .int .i64 hi] (0, 0) := (by first | exact Blk.keep hX2 hb2 | exact Blk.keep (World.alloc_heap_new _ _) hb2); have x0 := hX2.cell 0; have x1 := hX2.cell 1; have x2 := hX2.cell 2; have x3 := hX2.cell 3; have x4 := hX2.cell 4; have x5 := hX2.cell 5)) | (go_at_call 57; refine (C3.out _).mono ?_; rintro e w2 ⟨rfl, hb2⟩; (have hX2 : Blk w2 w.heap.size 34 #[.string ad, .string cl, .string co, .int .i64 si, .int .i64 lo, .int .i64 hi] (0, 0) := (by first | exact Blk.keep hX2 hb2 | exact Blk.keep (World.alloc_heap_new _ _) hb2); have x0 := hX2.cell 0; have x1 := hX2.cell 1; have x2 := hX2.cell 2; have x3 := hX2.cell 3; have x4 := hX2.cell 4; have x5 := hX2.cell 5)) | (go_at_call 59; refine (C4.out _).mono ?_; rintro e w2 ⟨rfl, hb2⟩; (have hX2 : Blk w2 w.heap.size 34 #[.string ad, .string cl, .string co, .int .i64 si, .int .i64 lo, .int .i64 hi] (0, 0) := (by first | exact Blk.keep hX2 hb2 | exact Blk.keep (World.alloc_heap_new _ _) hb2); have x0 := hX2.cell 0; have x1 := hX2.cell 1; have x2 := hX2.cell 2; have x3 := hX2.cell 3; have x4 := hX2.cell 4; have x5 := hX2.cell 5))); go_ret; exact ⟨rfl, by (repeat (first | exact .refl _ _ | assumption | refine .drew ?_ | refine balloc ?_ _ | refine bdrewN ?_ _ | refine .setCell ?_ (by simp <;> omega) _ | refine bstep ?_ (by assumption)))⟩)
  cases b4
  · obtain rfl : V = false := by rw [hV2]; rfl
    clear hV2
    (go_enter Tryz.func28, Tryz.ntmps28; go_wp2_with (first | (go_at_call 79; refine (C1.out _ (Env.keep HE.out (by (repeat (first | exact .refl _ _ | assumption | refine .drew ?_ | refine balloc ?_ _ | refine bdrewN ?_ _ | refine .setCell ?_ (by simp <;> omega) _ | refine bstep ?_ (by assumption)))))).mono ?_; rintro e w2 ⟨rfl, hb2⟩; (have hX2 : Blk w2 w.heap.size 34 #[.string ad, .string cl, .string co, .int .i64 si, .int .i64 lo, .int .i64 hi] (0, 0) := (by first | exact Blk.keep hX2 hb2 | exact Blk.keep (World.alloc_heap_new _ _) hb2); have x0 := hX2.cell 0; have x1 := hX2.cell 1; have x2 := hX2.cell 2; have x3 := hX2.cell 3; have x4 := hX2.cell 4; have x5 := hX2.cell 5)) | (go_at_call 56; refine (C2.out _ (Env.keep HE.out (by (repeat (first | exact .refl _ _ | assumption | refine .drew ?_ | refine balloc ?_ _ | refine bdrewN ?_ _ | refine .setCell ?_ (by simp <;> omega) _ | refine bstep ?_ (by assumption)))))).mono ?_; rintro e w2 ⟨rfl, hb2⟩; (have hX2 : Blk w2 w.heap.size 34 #[.string ad, .string cl, .string co, .int .i64 si, .int .i64 lo, .int .i64 hi] (0, 0) := (by first | exact Blk.keep hX2 hb2 | exact Blk.keep (World.alloc_heap_new _ _) hb2); have x0 := hX2.cell 0; have x1 := hX2.cell 1; have x2 := hX2.cell 2; have x3 := hX2.cell 3; have x4 := hX2.cell 4; have x5 := hX2.cell 5)) | (go_at_call 57; refine (C3.out _).mono ?_; rintro e w2 ⟨rfl, hb2⟩; (have hX2 : Blk w2 w.heap.size 34 #[.string ad, .string cl, .string co, .int .i64 si, .int .i64 lo, .int .i64 hi] (0, 0) := (by first | exact Blk.keep hX2 hb2 | exact Blk.keep (World.alloc_heap_new _ _) hb2); have x0 := hX2.cell 0; have x1 := hX2.cell 1; have x2 := hX2.cell 2; have x3 := hX2.cell 3; have x4 := hX2.cell 4; have x5 := hX2.cell 5)) | (go_at_call 59; refine (C4.out _).mono ?_; rintro e w2 ⟨rfl, hb2⟩; (have hX2 : Blk w2 w.heap.size 34 #[.string ad, .string cl, .string co, .int .i64 si, .int .i64 lo, .int .i64 hi] (0, 0) := (by first | exact Blk.keep hX2 hb2 | exact Blk.keep (World.alloc_heap_new _ _) hb2); have x0 := hX2.cell 0; have x1 := hX2.cell 1; have x2 := hX2.cell 2; have x3 := hX2.cell 3; have x4 := hX2.cell 4; have x5 := hX2.cell 5))); go_ret; exact ⟨rfl, by (repeat (first | exact .refl _ _ | assumption | refine .drew ?_ | refine balloc ?_ _ | refine bdrewN ?_ _ | refine .setCell ?_ (by simp <;> omega) _ | refine bstep ?_ (by assumption)))⟩)
  by_cases t3 : 0 ≤ lo
  rotate_left
  · obtain rfl : V = false := by rw [hV2]; simp [t3]
    have d3 : decide (0 ≤ lo) = false := decide_eq_false t3
    clear hV2
    (go_enter Tryz.func28, Tryz.ntmps28; go_wp2_with (first | (go_at_call 79; refine (C1.out _ (Env.keep HE.out (by (repeat (first | exact .refl _ _ | assumption | refine .drew ?_ | refine balloc ?_ _ | refine bdrewN ?_ _ | refine .setCell ?_ (by simp <;> omega) _ | refine bstep ?_ (by assumption)))))).mono ?_; rintro e w2 ⟨rfl, hb2⟩; (have hX2 : Blk w2 w.heap.size 34 #[.string ad, .string cl, .string co, .int .i64 si, .int .i64 lo, .int .i64 hi] (0, 0) := (by first | exact Blk.keep hX2 hb2 | exact Blk.keep (World.alloc_heap_new _ _) hb2); have x0 := hX2.cell 0; have x1 := hX2.cell 1; have x2 := hX2.cell 2; have x3 := hX2.cell 3; have x4 := hX2.cell 4; have x5 := hX2.cell 5)) | (go_at_call 56; refine (C2.out _ (Env.keep HE.out (by (repeat (first | exact .refl _ _ | assumption | refine .drew ?_ | refine balloc ?_ _ | refine bdrewN ?_ _ | refine .setCell ?_ (by simp <;> omega) _ | refine bstep ?_ (by assumption)))))).mono ?_; rintro e w2 ⟨rfl, hb2⟩; (have hX2 : Blk w2 w.heap.size 34 #[.string ad, .string cl, .string co, .int .i64 si, .int .i64 lo, .int .i64 hi] (0, 0) := (by first | exact Blk.keep hX2 hb2 | exact Blk.keep (World.alloc_heap_new _ _) hb2); have x0 := hX2.cell 0; have x1 := hX2.cell 1; have x2 := hX2.cell 2; have x3 := hX2.cell 3; have x4 := hX2.cell 4; have x5 := hX2.cell 5)) | (go_at_call 57; refine (C3.out _).mono ?_; rintro e w2 ⟨rfl, hb2⟩; (have hX2 : Blk w2 w.heap.size 34 #[.string ad, .string cl, .string co, .int .i64 si, .int .i64 lo, .int .i64 hi] (0, 0) := (by first | exact Blk.keep hX2 hb2 | exact Blk.keep (World.alloc_heap_new _ _) hb2); have x0 := hX2.cell 0; have x1 := hX2.cell 1; have x2 := hX2.cell 2; have x3 := hX2.cell 3; have x4 := hX2.cell 4; have x5 := hX2.cell 5)) | (go_at_call 59; refine (C4.out _).mono ?_; rintro e w2 ⟨rfl, hb2⟩; (have hX2 : Blk w2 w.heap.size 34 #[.string ad, .string cl, .string co, .int .i64 si, .int .i64 lo, .int .i64 hi] (0, 0) := (by first | exact Blk.keep hX2 hb2 | exact Blk.keep (World.alloc_heap_new _ _) hb2); have x0 := hX2.cell 0; have x1 := hX2.cell 1; have x2 := hX2.cell 2; have x3 := hX2.cell 3; have x4 := hX2.cell 4; have x5 := hX2.cell 5))); go_ret; exact ⟨rfl, by (repeat (first | exact .refl _ _ | assumption | refine .drew ?_ | refine balloc ?_ _ | refine bdrewN ?_ _ | refine .setCell ?_ (by simp <;> omega) _ | refine bstep ?_ (by assumption)))⟩)
  have d3 : decide (0 ≤ lo) = true := decide_eq_true t3
  by_cases t4 : lo ≤ hi
  rotate_left
  · obtain rfl : V = false := by rw [hV2]; simp [t4]
    have d4 : decide (lo ≤ hi) = false := decide_eq_false t4
    clear hV2
    (go_enter Tryz.func28, Tryz.ntmps28; go_wp2_with (first | (go_at_call 79; refine (C1.out _ (Env.keep HE.out (by (repeat (first | exact .refl _ _ | assumption | refine .drew ?_ | refine balloc ?_ _ | refine bdrewN ?_ _ | refine .setCell ?_ (by simp <;> omega) _ | refine bstep ?_ (by assumption)))))).mono ?_; rintro e w2 ⟨rfl, hb2⟩; (have hX2 : Blk w2 w.heap.size 34 #[.string ad, .string cl, .string co, .int .i64 si, .int .i64 lo, .int .i64 hi] (0, 0) := (by first | exact Blk.keep hX2 hb2 | exact Blk.keep (World.alloc_heap_new _ _) hb2); have x0 := hX2.cell 0; have x1 := hX2.cell 1; have x2 := hX2.cell 2; have x3 := hX2.cell 3; have x4 := hX2.cell 4; have x5 := hX2.cell 5)) | (go_at_call 56; refine (C2.out _ (Env.keep HE.out (by (repeat (first | exact .refl _ _ | assumption | refine .drew ?_ | refine balloc ?_ _ | refine bdrewN ?_ _ | refine .setCell ?_ (by simp <;> omega) _ | refine bstep ?_ (by assumption)))))).mono ?_; rintro e w2 ⟨rfl, hb2⟩; (have hX2 : Blk w2 w.heap.size 34 #[.string ad, .string cl, .string co, .int .i64 si, .int .i64 lo, .int .i64 hi] (0, 0) := (by first | exact Blk.keep hX2 hb2 | exact Blk.keep (World.alloc_heap_new _ _) hb2); have x0 := hX2.cell 0; have x1 := hX2.cell 1; have x2 := hX2.cell 2; have x3 := hX2.cell 3; have x4 := hX2.cell 4; have x5 := hX2.cell 5)) | (go_at_call 57; refine (C3.out _).mono ?_; rintro e w2 ⟨rfl, hb2⟩; (have hX2 : Blk w2 w.heap.size 34 #[.string ad, .string cl, .string co, .int .i64 si, .int .i64 lo, .int .i64 hi] (0, 0) := (by first | exact Blk.keep hX2 hb2 | exact Blk.keep (World.alloc_heap_new _ _) hb2); have x0 := hX2.cell 0; have x1 := hX2.cell 1; have x2 := hX2.cell 2; have x3 := hX2.cell 3; have x4 := hX2.cell 4; have x5 := hX2.cell 5)) | (go_at_call 59; refine (C4.out _).mono ?_; rintro e w2 ⟨rfl, hb2⟩; (have hX2 : Blk w2 w.heap.size 34 #[.string ad, .string cl, .string co, .int .i64 si, .int .i64 lo, .int .i64 hi] (0, 0) := (by first | exact Blk.keep hX2 hb2 | exact Blk.keep (World.alloc_heap_new _ _) hb2); have x0 := hX2.cell 0; have x1 := hX2.cell 1; have x2 := hX2.cell 2; have x3 := hX2.cell 3; have x4 := hX2.cell 4; have x5 := hX2.cell 5))); go_ret; exact ⟨rfl, by (repeat (first | exact .refl _ _ | assumption | refine .drew ?_ | refine balloc ?_ _ | refine bdrewN ?_ _ | refine .setCell ?_ (by simp <;> omega) _ | refine bstep ?_ (by assumption)))⟩)
  have d4 : decide (lo ≤ hi) = true := decide_eq_true t4
  obtain rfl : V = decide (hi ≤ 1099511627776) := by rw [hV2]; simp [t3, t4]
  clear hV2
  (go_enter Tryz.func28, Tryz.ntmps28; go_wp2_with (first | (go_at_call 79; refine (C1.out _ (Env.keep HE.out (by (repeat (first | exact .refl _ _ | assumption | refine .drew ?_ | refine balloc ?_ _ | refine bdrewN ?_ _ | refine .setCell ?_ (by simp <;> omega) _ | refine bstep ?_ (by assumption)))))).mono ?_; rintro e w2 ⟨rfl, hb2⟩; (have hX2 : Blk w2 w.heap.size 34 #[.string ad, .string cl, .string co, .int .i64 si, .int .i64 lo, .int .i64 hi] (0, 0) := (by first | exact Blk.keep hX2 hb2 | exact Blk.keep (World.alloc_heap_new _ _) hb2); have x0 := hX2.cell 0; have x1 := hX2.cell 1; have x2 := hX2.cell 2; have x3 := hX2.cell 3; have x4 := hX2.cell 4; have x5 := hX2.cell 5)) | (go_at_call 56; refine (C2.out _ (Env.keep HE.out (by (repeat (first | exact .refl _ _ | assumption | refine .drew ?_ | refine balloc ?_ _ | refine bdrewN ?_ _ | refine .setCell ?_ (by simp <;> omega) _ | refine bstep ?_ (by assumption)))))).mono ?_; rintro e w2 ⟨rfl, hb2⟩; (have hX2 : Blk w2 w.heap.size 34 #[.string ad, .string cl, .string co, .int .i64 si, .int .i64 lo, .int .i64 hi] (0, 0) := (by first | exact Blk.keep hX2 hb2 | exact Blk.keep (World.alloc_heap_new _ _) hb2); have x0 := hX2.cell 0; have x1 := hX2.cell 1; have x2 := hX2.cell 2; have x3 := hX2.cell 3; have x4 := hX2.cell 4; have x5 := hX2.cell 5)) | (go_at_call 57; refine (C3.out _).mono ?_; rintro e w2 ⟨rfl, hb2⟩; (have hX2 : Blk w2 w.heap.size 34 #[.string ad, .string cl, .string co, .int .i64 si, .int .i64 lo, .int .i64 hi] (0, 0) := (by first | exact Blk.keep hX2 hb2 | exact Blk.keep (World.alloc_heap_new _ _) hb2); have x0 := hX2.cell 0; have x1 := hX2.cell 1; have x2 := hX2.cell 2; have x3 := hX2.cell 3; have x4 := hX2.cell 4; have x5 := hX2.cell 5)) | (go_at_call 59; refine (C4.out _).mono ?_; rintro e w2 ⟨rfl, hb2⟩; (have hX2 : Blk w2 w.heap.size 34 #[.string ad, .string cl, .string co, .int .i64 si, .int .i64 lo, .int .i64 hi] (0, 0) := (by first | exact Blk.keep hX2 hb2 | exact Blk.keep (World.alloc_heap_new _ _) hb2); have x0 := hX2.cell 0; have x1 := hX2.cell 1; have x2 := hX2.cell 2; have x3 := hX2.cell 3; have x4 := hX2.cell 4; have x5 := hX2.cell 5))); go_ret; exact ⟨rfl, by (repeat (first | exact .refl _ _ | assumption | refine .drew ?_ | refine balloc ?_ _ | refine bdrewN ?_ _ | refine .setCell ?_ (by simp <;> omega) _ | refine bstep ?_ (by assumption)))⟩)
end Go.Proofs.YtocgkpdolgnbgaaGreatDoor
namespace Go.Proofs.YtocgkpdolgnbgaaGreatDoor
open Go.RowKit Go.Sort
set_option linter.unusedVariables false
set_option linter.unusedSimpArgs false
set_option maxRecDepth 100000
structure CondFits (c : CondV) : Prop where
  p : c.pat.size ≤ 100000
  cl : ∀ x ∈ c.cl, x.size ≤ 100000
  co : ∀ x ∈ c.co, x.size ≤ 100000
  n1 : c.cl.length ≤ 1000000
  n2 : c.co.length ≤ 1000000
  n3 : c.si.length ≤ 1000000
structure AskFits (a : AskV) : Prop where
  p : a.addr.size ≤ 100000
  cl : a.client.size ≤ 100000
  co : a.country.size ≤ 100000
def ABox (w : World) (g : Nat) (ad cl co : ByteArray) (si lo hi : Int) : Prop := Blk w g 34 #[.string ad, .string cl, .string co, .int .i64 si, .int .i64 lo, .int .i64 hi] (0, 0)
theorem ABox.facts {w : World} {g : Nat} {ad cl co : ByteArray} {si lo hi : Int} (h : ABox w g ad cl co si lo hi) :
    w.cell? ⟨g, 0, none⟩ = some (.string ad) ∧ w.cell? ⟨g, 1, none⟩ = some (.string cl) ∧ w.cell? ⟨g, 2, none⟩ = some (.string co) ∧ w.cell? ⟨g, 3, none⟩ = some (.int .i64 si) ∧ w.cell? ⟨g, 4, none⟩ = some (.int .i64 lo) ∧ w.cell? ⟨g, 5, none⟩ = some (.int .i64 hi) :=
  ⟨Blk.cell h 0, Blk.cell h 1, Blk.cell h 2, Blk.cell h 3, Blk.cell h 4, Blk.cell h 5⟩
theorem two_box (w : World) (o1 o2 : Obj) : ((w.alloc o1).alloc o2).heap[w.heap.size]? = some o1 ∧ ((w.alloc o1).alloc o2).heap[w.heap.size + 1]? = some o2 := by
  refine ⟨(Below.heap_alloc _ _ _ (by simp)).trans (World.alloc_heap_new _ _), ?_⟩
  have := World.alloc_heap_new (w.alloc o1) o2
  rwa [World.size_alloc] at this
set_option maxHeartbeats 8000000 in
theorem holds_any (c : CondV) (m : CondMem) (a : AskV) (w : World) (hR : CondReads w c m) (hc : CondFits c) (ha : AskFits a) (hE : Env w) :
    Calls Tryz.prog 30 #[CondMem.val c m, AskV.val a] w (Ret w (.bool (holdsC c a))) := by
  have c1 := fun W (hb : Below w.heap.size w W) => condValid_any c m W (hR.keep hb) hc.p hc.cl hc.co hc.n1 hc.n2 hc.n3 (hE.keep hb)
  have c2 := fun W h => validAsk_any a W ha.p ha.cl ha.co h
  obtain ⟨V, hV⟩ : ∃ V, V = holdsC c a := ⟨_, rfl⟩
  rw [← hV]
  unfold holdsC at hV
  generalize validC c = v1 at *
  generalize validAsk a = v2 at *
  obtain ⟨fr, till, pat, cl, co, si, us⟩ := c
  obtain ⟨A, ca, B, cb, S, cs⟩ := m
  obtain ⟨ad, kl, ko, st, lo, hi⟩ := a
  obtain ⟨hA, hB, hS⟩ := hR
  obtain ⟨h1, h2, h3, n1, n2, n3⟩ := hc
  obtain ⟨g1, g2, g3⟩ := ha
  unfold CondMem.val at c1
  unfold AskV.val at c2
  unfold CondMem.val AskV.val
  dsimp only at hA hB hS h1 h2 h3 n1 n2 n3 g1 g2 g3 hV c1 c2
  dsimp only
  have c3 := fun W => condPattern_any fr till us pat A B S cl.length ca co.length cb si.length cs W
  have hpt : (if pat.size = 0 then (⟨#[42, 47, 42, 42]⟩ : ByteArray) else pat) = patT pat := rfl
  rw [hpt] at c3
  have hps : (patT pat).size ≤ 100000 := by unfold patT; split; exact (by decide); exact h1
  have c4 := fun W h => match_any (patT pat) ad W hps g1 h
  have c5 := fun W (hb : Below w.heap.size w W) => allowsS_any A cl.length ca cl kl W (hA.keep hb) (by omega)
  have c6 := fun W (hb : Below w.heap.size w W) => allowsS_any B co.length cb co ko W (hB.keep hb) (by omega)
  have c7 := fun W (hb : Below w.heap.size w W) => allowsI_any S si.length cs si st W (hS.keep hb) (by omega)
  generalize patT pat = pt at *
  generalize matchB pt ad = v4 at *
  generalize allowsL cl kl = v5 at *
  generalize allowsL co ko = v6 at *
  generalize allowsL si st = v7 at *
  obtain ⟨W0, hW0⟩ : ∃ W0, W0 = (w.alloc (.cells #[.int .i64 fr, .int .i64 till, .string pat, .slice A cl.length ca, .slice B co.length cb, .slice S si.length cs, .int .i64 us] 25)).alloc (.cells #[.string ad, .string kl, .string ko, .int .i64 st, .int .i64 lo, .int .i64 hi] 34) := ⟨_, rfl⟩
  have hb0 : Below w.heap.size w W0 := by rw [hW0]; exact balloc (balloc (Below.refl _ _) _) _
  have hX : CBox W0 w.heap.size fr till pat A cl.length ca B co.length cb S si.length cs us := by rw [hW0]; exact (two_box _ _ _).1
  have hY : ABox W0 (w.heap.size + 1) ad kl ko st lo hi := by rw [hW0]; exact (two_box _ _ _).2
  obtain ⟨x0, x1, x2, x3, x4, x5, x6⟩ := hX.facts
  obtain ⟨y0, y1, y2, y3, y4, y5⟩ := hY.facts
  have r0 := cell_regrown x0; have r1 := cell_regrown x1; have r2 := cell_regrown x2; have r3 := cell_regrown x3; have r4 := cell_regrown x4; have r5 := cell_regrown x5; have r6 := cell_regrown x6
  have q0 := cell_regrown y0; have q1 := cell_regrown y1; have q2 := cell_regrown y2; have q3 := cell_regrown y3; have q4 := cell_regrown y4; have q5 := cell_regrown y5
  replace c1 := fun W (hb : Below W0.heap.size W0 W) => c1 W (bstep hb0 hb)
  replace c2 := fun W (hb : Below W0.heap.size W0 W) => c2 W (hE.keep (bstep hb0 hb))
  replace c3 := fun W (_ : Below W0.heap.size W0 W) => c3 W
  replace c4 := fun W (hb : Below W0.heap.size W0 W) => c4 W (hE.keep (bstep hb0 hb))
  replace c5 := fun W (hb : Below W0.heap.size W0 W) => c5 W (bstep hb0 hb)
  replace c6 := fun W (hb : Below W0.heap.size W0 W) => c6 W (bstep hb0 hb)
  replace c7 := fun W (hb : Below W0.heap.size W0 W) => c7 W (bstep hb0 hb)
  have HW := Lib.hid hW0; have HB0 := Lib.hid hb0
  clear hW0 hb0 hX hY
  have C1 := Lib.hid c1; have C2 := Lib.hid c2; have C3 := Lib.hid c3; have C4 := Lib.hid c4; have C5 := Lib.hid c5; have C6 := Lib.hid c6; have C7 := Lib.hid c7
  clear c1 c2 c3 c4 c5 c6 c7 hE hA hB hS h1 h2 h3 n1 n2 n3 g1 g2 g3 hps hpt
  cases v1
  · obtain rfl : V = false := by rw [hV]; simp
    clear hV
    (go_enter Tryz.func30, Tryz.ntmps30; go_wp2_with fail; rw [← HW.out]; refine wp_region_quiet_below (by kernel_rfl) (by kernel_rfl) ?_; (repeat (any_goals (first | go_big_quiet_step ((first | (with_reducible exact qcalls2 C1.out _ _) | (with_reducible exact qcalls2 C2.out _ _) | (with_reducible exact qcalls2 C3.out _ _) | (with_reducible exact qcalls2 C4.out _ _) | (with_reducible exact qcalls2 C5.out _ _) | (with_reducible exact qcalls2 C6.out _ _) | (with_reducible exact qcalls2 C7.out _ _))) | quiet_step ((first | (with_reducible exact qcalls2 C1.out _ _) | (with_reducible exact qcalls2 C2.out _ _) | (with_reducible exact qcalls2 C3.out _ _) | (with_reducible exact qcalls2 C4.out _ _) | (with_reducible exact qcalls2 C5.out _ _) | (with_reducible exact qcalls2 C6.out _ _) | (with_reducible exact qcalls2 C7.out _ _)))))); refine wpQuiet_nil ?_; intro _ hwq; obtain ⟨⟨dq, osq⟩, hwq⟩ := hwq; subst hwq; have hbq := below_regrown (W0) dq osq; generalize grow (redrawn (W0) dq) osq = wq at *; go_wp2; go_ret; exact ⟨rfl, bstep HB0.out hbq⟩)
  cases v2
  · obtain rfl : V = false := by rw [hV]; simp
    clear hV
    (go_enter Tryz.func30, Tryz.ntmps30; go_wp2_with fail; rw [← HW.out]; refine wp_region_quiet_below (by kernel_rfl) (by kernel_rfl) ?_; (repeat (any_goals (first | go_big_quiet_step ((first | (with_reducible exact qcalls2 C1.out _ _) | (with_reducible exact qcalls2 C2.out _ _) | (with_reducible exact qcalls2 C3.out _ _) | (with_reducible exact qcalls2 C4.out _ _) | (with_reducible exact qcalls2 C5.out _ _) | (with_reducible exact qcalls2 C6.out _ _) | (with_reducible exact qcalls2 C7.out _ _))) | quiet_step ((first | (with_reducible exact qcalls2 C1.out _ _) | (with_reducible exact qcalls2 C2.out _ _) | (with_reducible exact qcalls2 C3.out _ _) | (with_reducible exact qcalls2 C4.out _ _) | (with_reducible exact qcalls2 C5.out _ _) | (with_reducible exact qcalls2 C6.out _ _) | (with_reducible exact qcalls2 C7.out _ _)))))); refine wpQuiet_nil ?_; intro _ hwq; obtain ⟨⟨dq, osq⟩, hwq⟩ := hwq; subst hwq; have hbq := below_regrown (W0) dq osq; generalize grow (redrawn (W0) dq) osq = wq at *; go_wp2; go_ret; exact ⟨rfl, bstep HB0.out hbq⟩)
  by_cases t1 : fr ≤ lo
  rotate_left
  · obtain rfl : V = false := by rw [hV]; simp [t1]
    have d1 : decide (fr ≤ lo) = false := decide_eq_false t1
    clear hV
    (go_enter Tryz.func30, Tryz.ntmps30; go_wp2_with fail; rw [← HW.out]; refine wp_region_quiet_below (by kernel_rfl) (by kernel_rfl) ?_; (repeat (any_goals (first | go_big_quiet_step ((first | (with_reducible exact qcalls2 C1.out _ _) | (with_reducible exact qcalls2 C2.out _ _) | (with_reducible exact qcalls2 C3.out _ _) | (with_reducible exact qcalls2 C4.out _ _) | (with_reducible exact qcalls2 C5.out _ _) | (with_reducible exact qcalls2 C6.out _ _) | (with_reducible exact qcalls2 C7.out _ _))) | quiet_step ((first | (with_reducible exact qcalls2 C1.out _ _) | (with_reducible exact qcalls2 C2.out _ _) | (with_reducible exact qcalls2 C3.out _ _) | (with_reducible exact qcalls2 C4.out _ _) | (with_reducible exact qcalls2 C5.out _ _) | (with_reducible exact qcalls2 C6.out _ _) | (with_reducible exact qcalls2 C7.out _ _)))))); refine wpQuiet_nil ?_; intro _ hwq; obtain ⟨⟨dq, osq⟩, hwq⟩ := hwq; subst hwq; have hbq := below_regrown (W0) dq osq; generalize grow (redrawn (W0) dq) osq = wq at *; go_wp2; go_ret; exact ⟨rfl, bstep HB0.out hbq⟩)
  have d1 : decide (fr ≤ lo) = true := decide_eq_true t1
  by_cases t2 : hi < till
  rotate_left
  · obtain rfl : V = false := by rw [hV]; simp [t2]
    have d2 : decide (hi < till) = false := decide_eq_false t2
    clear hV
    (go_enter Tryz.func30, Tryz.ntmps30; go_wp2_with fail; rw [← HW.out]; refine wp_region_quiet_below (by kernel_rfl) (by kernel_rfl) ?_; (repeat (any_goals (first | go_big_quiet_step ((first | (with_reducible exact qcalls2 C1.out _ _) | (with_reducible exact qcalls2 C2.out _ _) | (with_reducible exact qcalls2 C3.out _ _) | (with_reducible exact qcalls2 C4.out _ _) | (with_reducible exact qcalls2 C5.out _ _) | (with_reducible exact qcalls2 C6.out _ _) | (with_reducible exact qcalls2 C7.out _ _))) | quiet_step ((first | (with_reducible exact qcalls2 C1.out _ _) | (with_reducible exact qcalls2 C2.out _ _) | (with_reducible exact qcalls2 C3.out _ _) | (with_reducible exact qcalls2 C4.out _ _) | (with_reducible exact qcalls2 C5.out _ _) | (with_reducible exact qcalls2 C6.out _ _) | (with_reducible exact qcalls2 C7.out _ _)))))); refine wpQuiet_nil ?_; intro _ hwq; obtain ⟨⟨dq, osq⟩, hwq⟩ := hwq; subst hwq; have hbq := below_regrown (W0) dq osq; generalize grow (redrawn (W0) dq) osq = wq at *; go_wp2; go_ret; exact ⟨rfl, bstep HB0.out hbq⟩)
  have d2 : decide (hi < till) = true := decide_eq_true t2
  have hV2 : V = (v4 && v5 && v6 && v7) := by rw [hV]; simp [t1, t2]
  clear hV
  cases v4
  · obtain rfl : V = false := by rw [hV2]; simp
    clear hV2
    (go_enter Tryz.func30, Tryz.ntmps30; go_wp2_with fail; rw [← HW.out]; refine wp_region_quiet_below (by kernel_rfl) (by kernel_rfl) ?_; (repeat (any_goals (first | go_big_quiet_step ((first | (with_reducible exact qcalls2 C1.out _ _) | (with_reducible exact qcalls2 C2.out _ _) | (with_reducible exact qcalls2 C3.out _ _) | (with_reducible exact qcalls2 C4.out _ _) | (with_reducible exact qcalls2 C5.out _ _) | (with_reducible exact qcalls2 C6.out _ _) | (with_reducible exact qcalls2 C7.out _ _))) | quiet_step ((first | (with_reducible exact qcalls2 C1.out _ _) | (with_reducible exact qcalls2 C2.out _ _) | (with_reducible exact qcalls2 C3.out _ _) | (with_reducible exact qcalls2 C4.out _ _) | (with_reducible exact qcalls2 C5.out _ _) | (with_reducible exact qcalls2 C6.out _ _) | (with_reducible exact qcalls2 C7.out _ _)))))); refine wpQuiet_nil ?_; intro _ hwq; obtain ⟨⟨dq, osq⟩, hwq⟩ := hwq; subst hwq; have hbq := below_regrown (W0) dq osq; generalize grow (redrawn (W0) dq) osq = wq at *; go_wp2; go_ret; exact ⟨rfl, bstep HB0.out hbq⟩)
  cases v5
  · obtain rfl : V = false := by rw [hV2]; simp
    clear hV2
    (go_enter Tryz.func30, Tryz.ntmps30; go_wp2_with fail; rw [← HW.out]; refine wp_region_quiet_below (by kernel_rfl) (by kernel_rfl) ?_; (repeat (any_goals (first | go_big_quiet_step ((first | (with_reducible exact qcalls2 C1.out _ _) | (with_reducible exact qcalls2 C2.out _ _) | (with_reducible exact qcalls2 C3.out _ _) | (with_reducible exact qcalls2 C4.out _ _) | (with_reducible exact qcalls2 C5.out _ _) | (with_reducible exact qcalls2 C6.out _ _) | (with_reducible exact qcalls2 C7.out _ _))) | quiet_step ((first | (with_reducible exact qcalls2 C1.out _ _) | (with_reducible exact qcalls2 C2.out _ _) | (with_reducible exact qcalls2 C3.out _ _) | (with_reducible exact qcalls2 C4.out _ _) | (with_reducible exact qcalls2 C5.out _ _) | (with_reducible exact qcalls2 C6.out _ _) | (with_reducible exact qcalls2 C7.out _ _)))))); refine wpQuiet_nil ?_; intro _ hwq; obtain ⟨⟨dq, osq⟩, hwq⟩ := hwq; subst hwq; have hbq := below_regrown (W0) dq osq; generalize grow (redrawn (W0) dq) osq = wq at *; go_wp2; go_ret; exact ⟨rfl, bstep HB0.out hbq⟩)
  cases v6
  · obtain rfl : V = false := by rw [hV2]; simp
    clear hV2
    (go_enter Tryz.func30, Tryz.ntmps30; go_wp2_with fail; rw [← HW.out]; refine wp_region_quiet_below (by kernel_rfl) (by kernel_rfl) ?_; (repeat (any_goals (first | go_big_quiet_step ((first | (with_reducible exact qcalls2 C1.out _ _) | (with_reducible exact qcalls2 C2.out _ _) | (with_reducible exact qcalls2 C3.out _ _) | (with_reducible exact qcalls2 C4.out _ _) | (with_reducible exact qcalls2 C5.out _ _) | (with_reducible exact qcalls2 C6.out _ _) | (with_reducible exact qcalls2 C7.out _ _))) | quiet_step ((first | (with_reducible exact qcalls2 C1.out _ _) | (with_reducible exact qcalls2 C2.out _ _) | (with_reducible exact qcalls2 C3.out _ _) | (with_reducible exact qcalls2 C4.out _ _) | (with_reducible exact qcalls2 C5.out _ _) | (with_reducible exact qcalls2 C6.out _ _) | (with_reducible exact qcalls2 C7.out _ _)))))); refine wpQuiet_nil ?_; intro _ hwq; obtain ⟨⟨dq, osq⟩, hwq⟩ := hwq; subst hwq; have hbq := below_regrown (W0) dq osq; generalize grow (redrawn (W0) dq) osq = wq at *; go_wp2; go_ret; exact ⟨rfl, bstep HB0.out hbq⟩)
  obtain rfl : V = v7 := by rw [hV2]; simp
  clear hV2
  (go_enter Tryz.func30, Tryz.ntmps30; go_wp2_with fail; rw [← HW.out]; refine wp_region_quiet_below (by kernel_rfl) (by kernel_rfl) ?_; (repeat (any_goals (first | go_big_quiet_step ((first | (with_reducible exact qcalls2 C1.out _ _) | (with_reducible exact qcalls2 C2.out _ _) | (with_reducible exact qcalls2 C3.out _ _) | (with_reducible exact qcalls2 C4.out _ _) | (with_reducible exact qcalls2 C5.out _ _) | (with_reducible exact qcalls2 C6.out _ _) | (with_reducible exact qcalls2 C7.out _ _))) | quiet_step ((first | (with_reducible exact qcalls2 C1.out _ _) | (with_reducible exact qcalls2 C2.out _ _) | (with_reducible exact qcalls2 C3.out _ _) | (with_reducible exact qcalls2 C4.out _ _) | (with_reducible exact qcalls2 C5.out _ _) | (with_reducible exact qcalls2 C6.out _ _) | (with_reducible exact qcalls2 C7.out _ _)))))); refine wpQuiet_nil ?_; intro _ hwq; obtain ⟨⟨dq, osq⟩, hwq⟩ := hwq; subst hwq; have hbq := below_regrown (W0) dq osq; generalize grow (redrawn (W0) dq) osq = wq at *; go_wp2; go_ret; exact ⟨rfl, bstep HB0.out hbq⟩)
end Go.Proofs.YtocgkpdolgnbgaaGreatDoor
