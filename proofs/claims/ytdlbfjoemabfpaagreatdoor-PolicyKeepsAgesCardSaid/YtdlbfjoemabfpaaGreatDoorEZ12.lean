/- Plain: conditions: Meet, Within, Implies, Holds, and their laws. -/
import Derived.Test.YtdlbfjoemabfpaaGreatDoorEZ11
import Derived.Test.YtdlbfjoemabfpaaGreatDoorProg
import Derived.WalkKit
import Derived.WalkSpells
import Derived.WalkLawsBesides
import Derived.Below
import Derived.Deep.QuietTactic
import Derived.BigQuiet
import Derived.Lib.QuietBelow
import Derived.Lib.Strings
import Derived.Lib.Hide
import Derived.Deep.RegionWith
import Derived.Deep.RegionHeld3
import Derived.Lib.IndexBytes
import Derived.Test.YtdlbfjoemabfpaaGreatDoorEZ9
import Derived.Test.YtdlbfjoemabfpaaGreatDoorEZ2
import Derived.Test.YtdlbfjoemabfpaaGreatDoorEZ10
import Derived.Sort.Walk0
namespace Go.Proofs.YtdlbfjoemabfpaaGreatDoor
open Go.RowKit Go.Sort
set_option linter.unusedVariables false
set_option linter.unusedSimpArgs false
set_option maxRecDepth 100000
def timesB (c : CondV) : Bool := decide (0 ≤ c.fr ∧ c.fr ≤ 1099511627776 ∧ 0 ≤ c.till ∧ c.till ≤ 1099511627777 ∧ 0 ≤ c.us ∧ c.us ≤ 1073741824)
def validC (c : CondV) : Bool := timesB c && patOk c.pat && setB ltB isNameB 32 c.cl && setB ltB countryB 32 c.co && setB ltI siteB 64 c.si
theorem ltB_tr (a b c : ByteArray) (h1 : ltB a b = true) (h2 : ltB b c = true) : ltB a c = true := by
  unfold ltB at *
  rw [decide_eq_true_eq] at *
  exact List.lt_trans h1 h2
theorem ltI_tr (a b c : Int) (h1 : ltI a b = true) (h2 : ltI b c = true) : ltI a c = true := by
  unfold ltI at *
  rw [decide_eq_true_eq] at *
  omega
structure CondOk (c : CondV) : Prop where
  fr0 : 0 ≤ c.fr
  fr1 : c.fr ≤ 1099511627776
  to0 : 0 ≤ c.till
  to1 : c.till ≤ 1099511627777
  us0 : 0 ≤ c.us
  us1 : c.us ≤ 1073741824
  pat : patOk c.pat = true
  cl : ∀ x ∈ c.cl, isNameB x = true
  clUp : c.cl.Pairwise fun a b => ltB a b = true
  clLen : c.cl.length ≤ 32
  co : ∀ x ∈ c.co, countryB x = true
  coUp : c.co.Pairwise fun a b => ltB a b = true
  coLen : c.co.length ≤ 32
  si : ∀ x ∈ c.si, siteB x = true
  siUp : c.si.Pairwise fun a b => ltI a b = true
  siLen : c.si.length ≤ 64
theorem valid_iff (c : CondV) : validC c = true ↔ CondOk c := by
  unfold validC timesB
  rw [Bool.and_eq_true, Bool.and_eq_true, Bool.and_eq_true, Bool.and_eq_true, decide_eq_true_eq, setB_iff ltB_tr, setB_iff ltB_tr, setB_iff ltI_tr]
  constructor
  · rintro ⟨⟨⟨⟨⟨a1, a2, a3, a4, a5, a6⟩, b⟩, c1, c2, c3⟩, d1, d2, d3⟩, e1, e2, e3⟩
    exact ⟨a1, a2, a3, a4, a5, a6, b, c1, c2, c3, d1, d2, d3, e1, e2, e3⟩
  · rintro ⟨a1, a2, a3, a4, a5, a6, b, c1, c2, c3, d1, d2, d3, e1, e2, e3⟩
    exact ⟨⟨⟨⟨⟨a1, a2, a3, a4, a5, a6⟩, b⟩, c1, c2, c3⟩, d1, d2, d3⟩, e1, e2, e3⟩
def usesM (a b : Int) : Int := if 0 < a ∧ 0 < b then min a b else max a b
def meetO (a b : CondV) : Option CondV := (pmeet a.pat b.pat).bind fun p => (bothO a.cl b.cl).bind fun cl => (bothO a.co b.co).bind fun co => (bothO a.si b.si).bind fun si =>
  if max a.fr b.fr < min a.till b.till then some ⟨max a.fr b.fr, min a.till b.till, p, cl, co, si, usesM a.us b.us⟩ else none
def meetC (a b : CondV) : CondV := (meetO a b).getD zeroC
end Go.Proofs.YtdlbfjoemabfpaaGreatDoor
namespace Go.Proofs.YtdlbfjoemabfpaaGreatDoor
open Go.RowKit Go.Sort
set_option linter.unusedVariables false
set_option linter.unusedSimpArgs false
set_option maxRecDepth 100000
set_option maxHeartbeats 4000000 in
theorem cmpOr_any (g c : Nat) (a b : ByteArray) (w : World) (h0 : w.cell? ⟨g, 0, none⟩ = some (.string a)) (h1 : w.cell? ⟨g, 1, none⟩ = some (.string b)) : Calls Tryz.prog 98 #[.slice (some ⟨g, 0, none⟩) 2 c] w (Ret w (.string (if a.size = 0 then b else a))) := by
  have hE : ∀ s : ByteArray, s.size = 0 → s = ⟨#[]⟩ := fun s h => bytes_ext (List.eq_nil_of_length_eq_zero (by rw [← Lib.size_eq]; exact h))
  have hN : ∀ s : ByteArray, s.size ≠ 0 → ¬ s.toList = [] := fun s h e => h (by rw [Lib.toList_data] at e; rw [Lib.size_eq, e]; rfl)
  obtain ⟨V, hV⟩ : ∃ V, V = if a.size = 0 then b else a := ⟨_, rfl⟩
  rw [← hV]
  have HV := Lib.hid hV
  have H0 := Lib.hid h0
  have H1 := Lib.hid h1
  clear h0 h1 hV
  go_enter Tryz.func98, Tryz.ntmps98
  go_wp2
  go_loopw [8] (fun vi wr => ∃ k : Nat, vi = .int .i64 k ∧ k ≤ 2 ∧ Hid ((0 < k → a.size = 0) ∧ (1 < k → b.size = 0)) ∧ Below w.heap.size w wr) (fun i _ => 2 - (intOf i).toNat)
  case atStart => exact ⟨0, rfl, by omega, Lib.hid ⟨fun h => by omega, fun h => by omega⟩, Below.refl _ _⟩
  case round =>
    obtain ⟨k, rfl, hk, HK, hbr⟩ := hrel
    have c0 := cell_keep hbr H0.out
    have c1 := cell_keep hbr H1.out
    by_cases hlt : k < 2
    · rcases k with _ | _ | k
      · by_cases hs : a.size = 0
        · have ha := hE a hs
          have HK2 : Hid ((0 < 1 → a.size = 0) ∧ (1 < 1 → b.size = 0)) := Lib.hid ⟨fun _ => hs, fun h => by omega⟩
          rw [ha] at c0
          clear HK ha
          go_wp2
          exact ⟨⟨1, by go_num, by omega, HK2, hbr⟩, by simp [intOf]; try omega⟩
        · have hn := hN a hs
          have hn2 : (a.toList == []) = false := by simpa using hn
          obtain rfl : V = a := by rw [HV.out, if_neg hs]
          clear HK
          go_wp2
          go_ret
          exact ⟨rfl, hbr⟩
      · have hs := HK.out.1 (by omega)
        obtain rfl : V = b := by rw [HV.out, if_pos hs]
        by_cases hs2 : V.size = 0
        · have hb := hE V hs2
          have HK2 : Hid ((0 < 2 → a.size = 0) ∧ (1 < 2 → V.size = 0)) := Lib.hid ⟨fun _ => hs, fun _ => hs2⟩
          rw [hb] at c1
          clear HK hb
          go_wp2
          exact ⟨⟨2, by go_num, by omega, HK2, hbr⟩, by simp [intOf]; try omega⟩
        · have hn := hN V hs2
          have hn2 : (V.toList == []) = false := by simpa using hn
          clear HK
          go_wp2
          go_ret
          exact ⟨rfl, hbr⟩
      · omega
    · obtain rfl : k = 2 := by omega
      have hs := HK.out.1 (by omega)
      have hs2 := HK.out.2 (by omega)
      obtain rfl : V = ⟨#[]⟩ := by rw [HV.out, if_pos hs, hE b hs2]
      go_wp2
      go_ret
      exact ⟨rfl, hbr⟩
end Go.Proofs.YtdlbfjoemabfpaaGreatDoor
namespace Go.Proofs.YtdlbfjoemabfpaaGreatDoor
open Go.RowKit Go.Sort
set_option linter.unusedVariables false
set_option linter.unusedSimpArgs false
set_option maxRecDepth 100000
theorem two_cells (W : World) (t : Nat) (a b : Value) (g : Nat) (hg : g = W.heap.size) : (W.alloc (.cells #[a, b] t)).cell? ⟨g, 0, none⟩ = some a ∧ (W.alloc (.cells #[a, b] t)).cell? ⟨g, 1, none⟩ = some b := by
  subst hg
  have h : Blk (W.alloc (.cells #[a, b] t)) W.heap.size t #[a, b] (0, 0) := World.alloc_heap_new _ _
  exact ⟨Blk.cell h 0, Blk.cell h 1⟩
set_option maxHeartbeats 1000000 in
theorem condPattern_any (fr till us : Int) (pat : ByteArray) (A B S : Option Addr) (na ca nb cb ns cs : Nat) (w : World) :
    Calls Tryz.prog 128 #[.agg #[.int .i64 fr, .int .i64 till, .string pat, .slice A na ca, .slice B nb cb, .slice S ns cs, .int .i64 us]] w (Ret w (.string (if pat.size = 0 then ⟨#[42, 47, 42, 42]⟩ else pat))) := by
  have cO := cmpOr_any
  generalize hV : (if pat.size = 0 then (⟨#[42, 47, 42, 42]⟩ : ByteArray) else pat) = V
  have HC := Lib.hid (fun (g c : Nat) (W : World) h0 h1 => hV ▸ cO g c pat ⟨#[42, 47, 42, 42]⟩ W h0 h1)
  clear cO hV
  go_enter Tryz.func128, Tryz.ntmps128
  go_wp2_with (go_at_call 98; refine (HC.out _ _ _ (two_cells _ _ _ _ _ (by simp)).1 (two_cells _ _ _ _ _ (by simp)).2).mono ?_; rintro e w2 ⟨rfl, hb2⟩)
  go_ret
  exact ⟨rfl, belB⟩
theorem allowsS_any (A : Option Addr) (n c : Nat) (xs : List ByteArray) (x : ByteArray) (w : World) (hA : Reads w 1 A n (xs.map .string)) (hn : n ≤ 1000000000) : Calls Tryz.prog 129 #[.slice A n c, .string x] w (Ret w (.bool (allowsL xs x))) := by
  have hl : xs.length = n := by have := hA.1; simp at this; omega
  rcases Nat.eq_zero_or_pos n with h0 | h0
  · subst h0
    obtain rfl : xs = [] := List.eq_nil_of_length_eq_zero hl
    go_enter Tryz.func129, Tryz.ntmps129
    go_wp2
    go_ret
    exact ⟨rfl, Below.refl _ _⟩
  · have he : xs.isEmpty = false := by cases xs; simp at hl; omega; rfl
    obtain ⟨b, o, rfl, hc⟩ := hA.2 h0
    have cC := fun (W : World) (hb : Below w.heap.size w W) => Tryz.slices_Contains_string b o n c xs x W (by omega) (by omega) (fun j hj => by
        refine cell_keep hb (hc j _ ?_)
        rw [List.getElem?_map, List.getElem?_eq_getElem hj]
        simp [List.getD_eq_getElem?_getD, List.getElem?_eq_getElem hj])
    rw [List.take_of_length_le (by omega)] at cC
    have hcs : Lib.containsS xs x = allowsL xs x := by
      unfold allowsL
      rw [he, Bool.false_or, Bool.eq_iff_iff, Lib.containsS_iff]
      simp
    rw [hcs] at cC
    have HC := Lib.hid cC
    have hn0 : ((n : Int) == 0) = false := by simp; omega
    clear cC hc hA hcs he
    generalize allowsL xs x = res at *
    go_enter Tryz.func129, Tryz.ntmps129
    go_wp2_with (go_at_call 116; refine (HC.out _ belB).mono ?_; rintro e w2 ⟨rfl, rfl⟩)
    go_ret
    exact ⟨rfl, belB⟩
theorem allowsI_any (A : Option Addr) (n c : Nat) (xs : List Int) (x : Int) (w : World) (hA : Reads w 1 A n (xs.map (.int .i64))) (hn : n ≤ 1000000000) : Calls Tryz.prog 130 #[.slice A n c, .int .i64 x] w (Ret w (.bool (allowsL xs x))) := by
  have hl : xs.length = n := by have := hA.1; simp at this; omega
  rcases Nat.eq_zero_or_pos n with h0 | h0
  · subst h0
    obtain rfl : xs = [] := List.eq_nil_of_length_eq_zero hl
    go_enter Tryz.func130, Tryz.ntmps130
    go_wp2
    go_ret
    exact ⟨rfl, Below.refl _ _⟩
  · have he : xs.isEmpty = false := by cases xs; simp at hl; omega; rfl
    obtain ⟨b, o, rfl, hc⟩ := hA.2 h0
    have cC := fun (W : World) (hb : Below w.heap.size w W) => Tryz.slices_Contains_int b o n c xs x W (by omega) (by omega) (fun j hj => by
        refine cell_keep hb (hc j _ ?_)
        rw [List.getElem?_map, List.getElem?_eq_getElem hj]
        simp [List.getD_eq_getElem?_getD, List.getElem?_eq_getElem hj])
    rw [List.take_of_length_le (by omega)] at cC
    have hcs : xs.contains x = allowsL xs x := by
      unfold allowsL
      rw [he, Bool.false_or]
    rw [hcs] at cC
    have HC := Lib.hid cC
    have hn0 : ((n : Int) == 0) = false := by simp; omega
    clear cC hc hA he hcs
    generalize allowsL xs x = res at *
    go_enter Tryz.func130, Tryz.ntmps130
    go_wp2_with (go_at_call 171; refine (HC.out _ belB).mono ?_; rintro e w2 ⟨rfl, rfl⟩)
    go_ret
    exact ⟨rfl, belB⟩
end Go.Proofs.YtdlbfjoemabfpaaGreatDoor
namespace Go.Proofs.YtdlbfjoemabfpaaGreatDoor
open Go.RowKit Go.Sort
set_option linter.unusedVariables false
set_option linter.unusedSimpArgs false
set_option maxRecDepth 100000
theorem single_comp (s : ByteArray) (h : 47 ∉ s.data.toList) : (compileB s).isSome = headOkB s := by
  unfold compileB
  have e : splitB 47 s = [s] := splitB_miss 47 s (by rw [indexByte_miss _ _ h]; omega)
  rw [e, compL_cons]
  cases headOkB s
  · rfl
  · rfl
theorem name_eq (s : ByteArray) : isNameB s = (!(s.toList == [42]) && !decide (0 ≤ Lib.indexByte s.data.toList 47) && (compileB s).isSome) := by
  by_cases h : 47 ∈ s.data.toList
  · have h1 : isNameB s = false := by
      cases hn : isNameB s
      · rfl
      · exact absurd h (word_no (name_word hn)).1
    have h2 : decide (0 ≤ Lib.indexByte s.data.toList 47) = true := by
      rw [decide_eq_true_eq]
      rcases Int.lt_or_le (Lib.indexByte s.data.toList 47) 0 with hlt | hle
      · exact absurd h (indexByte_mem _ _ hlt)
      · exact hle
    rw [h1, h2]; simp
  · rw [indexByte_miss _ _ h, single_comp s h]
    unfold headOkB
    cases hs : (s.toList == [42])
    · simp
    · have : isNameB s = false := by
        cases hn : isNameB s
        · rfl
        · have := (word_no (name_word hn)).2.2.2.2.1
          rw [beq_iff_eq, Lib.toList_data] at hs
          rw [hs] at this
          exact absurd (by simp) this
      rw [this]; rfl
set_option maxHeartbeats 1000000 in
theorem condName_any (s : ByteArray) (w : World) (hs : s.size ≤ 100000) (hE : Env w) : Calls Tryz.prog 86 #[.string s] w (Ret w (.bool (isNameB s))) := by
  have HVA := Lib.hid (fun W h => valid_any s W hs h)
  have HE := Lib.hid hE
  rw [name_eq]
  clear hE
  generalize (compileB s).isSome = b at *
  generalize hc : decide (0 ≤ Lib.indexByte s.data.toList 47) = cc
  have cC := fun W => Tryz.strings_Contains_one s 47 W
  rw [hc] at cC
  have HC := Lib.hid cC
  clear cC hc
  cases h1 : (s.toList == [42])
  · have h1' : ¬ s.toList = [42] := by simpa using h1
    cases cc
    · go_enter Tryz.func86, Tryz.ntmps86
      go_wp2_with (first | (go_at_call 122; refine (HC.out _).mono ?_; rintro e w1 ⟨rfl, rfl⟩) | (go_at_call 46; refine (HVA.out _ (Env.keep HE.out belB)).mono ?_; rintro e w2 ⟨rfl, hb2⟩))
      go_ret
      exact ⟨ret_bool (by simp), belB⟩
    · go_enter Tryz.func86, Tryz.ntmps86
      go_wp2_with (first | (go_at_call 122; refine (HC.out _).mono ?_; rintro e w1 ⟨rfl, rfl⟩) | (go_at_call 46; refine (HVA.out _ (Env.keep HE.out belB)).mono ?_; rintro e w2 ⟨rfl, hb2⟩))
      go_ret
      exact ⟨rfl, belB⟩
  · have h1' : s.toList = [42] := by simpa using h1
    go_enter Tryz.func86, Tryz.ntmps86
    go_wp2
    all_goals (go_ret; exact ⟨rfl, belB⟩)
theorem le_prevI (x y : Int) : decide (x ≤ y) = !ltI y x := by
  unfold ltI
  rw [Bool.eq_iff_iff]; simp
set_option maxHeartbeats 2000000 in
theorem isSetI_any (g : Nat) (eg : ∀ args w, (callFunc g args).run Tryz.prog w = .ok (.enter g args) w) (right : Int → Bool) (A : Option Addr) (n c : Nat) (xs : List Int) (most : Nat) (w : World)
    (hp : ∀ x, ∀ W, Calls Tryz.prog g #[.int .i64 x] W (Ret W (.bool (right x)))) (hA : Reads w 1 A n (xs.map (.int .i64))) (hn : n ≤ 1000000000) (hm : most ≤ 1000000) :
    Calls Tryz.prog 88 #[.slice A n c, .int .i64 most, .func (.func g) #[] #[]] w (Ret w (.bool (setB ltI right most xs))) := by
  have hl : xs.length = n := by have := hA.1; simp at this; omega
  have HP := Lib.hid hp; have HA := Lib.hid hA; have HL := Lib.hid hl
  obtain ⟨V, hV⟩ : ∃ V, V = setB ltI right most xs := ⟨_, rfl⟩
  rw [← hV]
  have HV := Lib.hid hV
  clear hp hA hl hV
  go_enter Tryz.func88, Tryz.ntmps88
  go_wp2
  go_loopw [11] (fun i wr => ∃ k : Nat, k ≤ n ∧ i = .int .i64 k ∧ Hid ((List.range k).all (okK ltI right xs) = true) ∧ Below w.heap.size w wr) (fun i _ => n - (intOf i).toNat)
  case atStart => exact ⟨0, by omega, rfl, Lib.hid rfl, Below.refl _ _⟩
  case round =>
    obtain ⟨k, hk, rfl, HK, hb⟩ := hrel
    by_cases hlt : k < n
    · obtain ⟨x, hx⟩ : ∃ x, xs[k]? = some x := ⟨_, List.getElem?_eq_getElem (by have := HL.out; omega)⟩
      obtain ⟨pb, po, rfl, hcell⟩ := (HA.out.keep hb).2 (by omega)
      have hc1 : wr.cell? ⟨pb, po + k, none⟩ = some (.int .i64 x) := hcell k _ (by simp [hx])
      have hc := fun W => HP.out x W
      have hok : okK ltI right xs k = (right x && (k == 0 || (match xs[k - 1]? with
        | none => true
        | some y => ltI y x))) := by unfold okK; rw [hx]; cases xs[k - 1]? <;> rfl
      have hfail : okK ltI right xs k = false → V = false := fun h => by rw [HV.out]; exact okK_fail (by have := HL.out; omega) h
      cases hr : right x
      · have hVf : V = false := hfail (by rw [hok, hr]; rfl)
        rw [hr] at hc
        have HC := Lib.hid hc
        clear hc hr hok hfail hcell hx
        subst hVf
        go_wp2_with (go_at_fn g; refine (HC.out _).mono ?_; rintro e w2 ⟨rfl, hb2⟩)
        go_ret
        exact ⟨rfl, belB⟩
      · rw [hr] at hc
        have HC := Lib.hid hc
        rcases k with _ | j
        · have HK2 : Hid ((List.range (0 + 1)).all (okK ltI right xs) = true) := Lib.hid (okK_upto HK.out (by rw [hok, hr]; rfl))
          simp only [Nat.add_zero] at hc1
          clear hc hr hok hfail hcell hx
          go_wp2_with (go_at_fn g; refine (HC.out _).mono ?_; rintro e w2 ⟨rfl, hb2⟩)
          exact ⟨⟨1, by omega, by go_num, HK2, belB⟩, by simp [intOf]; omega⟩
        · obtain ⟨y, hy⟩ : ∃ y, xs[j]? = some y := ⟨_, List.getElem?_eq_getElem (by have := HL.out; omega)⟩
          have hc2 : wr.cell? ⟨pb, po + j, none⟩ = some (.int .i64 y) := hcell j _ (by simp [hy])
          have hle := le_prevI x y
          rw [Nat.add_sub_cancel, hy] at hok
          have hok : okK ltI right xs (j + 1) = ltI y x := by rw [hok, hr]; simp
          have hj0 : (0 : Int) ≤ (j : Int) := by omega
          have hj1 : (j : Int) < (n : Int) := by omega
          cases ht : ltI y x
          · have hVf : V = false := hfail (by rw [hok, ht])
            rw [ht] at hle
            clear hc hr hok hfail hcell hx hy
            subst hVf
            go_wp2_with (go_at_fn g; refine (HC.out _).mono ?_; rintro e w2 ⟨rfl, hb2⟩; have hc3 := cell_keep hb2 hc2)
            go_ret
            exact ⟨rfl, belB⟩
          · have HK2 : Hid ((List.range (j + 1 + 1)).all (okK ltI right xs) = true) := Lib.hid (okK_upto HK.out (by rw [hok, ht]))
            rw [ht] at hle
            clear hc hr hok hfail hcell hx hy
            go_wp2_with (go_at_fn g; refine (HC.out _).mono ?_; rintro e w2 ⟨rfl, hb2⟩; have hc3 := cell_keep hb2 hc2)
            exact ⟨⟨j + 1 + 1, by omega, by go_num, HK2, belB⟩, by simp [intOf]; omega⟩
    · obtain rfl : k = n := by omega
      have hv : V = decide (k ≤ most) := by rw [HV.out]; unfold setB; rw [HL.out, HK.out]; rfl
      by_cases hm2 : k ≤ most
      · rw [decide_eq_true hm2] at hv
        have d1 : decide ((k : Int) ≤ most) = true := decide_eq_true (by omega)
        subst hv
        go_wp2
        go_ret
        exact ⟨rfl, hb⟩
      · rw [decide_eq_false hm2] at hv
        have d1 : decide ((k : Int) ≤ most) = false := decide_eq_false (by omega)
        subst hv
        go_wp2
        go_ret
        exact ⟨rfl, hb⟩
end Go.Proofs.YtdlbfjoemabfpaaGreatDoor
namespace Go.Proofs.YtdlbfjoemabfpaaGreatDoor
open Go.RowKit Go.Sort
set_option linter.unusedVariables false
set_option linter.unusedSimpArgs false
set_option maxRecDepth 100000
set_option maxHeartbeats 8000000 in
theorem condValid_any (c : CondV) (m : CondMem) (w : World) (hR : CondReads w c m) (hp : c.pat.size ≤ 100000) (hcl : ∀ x ∈ c.cl, x.size ≤ 100000) (hco : ∀ x ∈ c.co, x.size ≤ 100000) (h1 : c.cl.length ≤ 1000000) (h2 : c.co.length ≤ 1000000) (h3 : c.si.length ≤ 1000000) (hE : Env w) :
    Calls Tryz.prog 49 #[CondMem.val c m] w (Ret w (.bool (validC c))) := by
  obtain ⟨fr, till, pat, cl, co, si, us⟩ := c
  obtain ⟨A, ca, B, cb, S, cs⟩ := m
  obtain ⟨hA, hB, hS⟩ := hR
  dsimp only at hA hB hS hp hcl hco h1 h2 h3
  unfold CondMem.val
  dsimp only
  obtain ⟨V, hV⟩ : ∃ V, V = validC ⟨fr, till, pat, cl, co, si, us⟩ := ⟨_, rfl⟩
  rw [← hV]
  unfold validC timesB patOk at hV
  dsimp only at hV
  have c1 := fun W (hb : Below w.heap.size w W) => isSetS_any 86 (enters_of Tryz.func86 (by kernel_rfl) rfl) isNameB A cl.length ca cl 32 W (fun x hx W' hE' => condName_any x W' (hcl x hx) hE') (hA.keep hb) (by omega) (by omega) (Env.keep hE hb)
  have c2 := fun W (hb : Below w.heap.size w W) => isSetS_any 87 (enters_of Tryz.func87 (by kernel_rfl) rfl) countryB B co.length cb co 32 W (fun x hx W' _ => isCountry_any x W' (by have := hco x hx; omega)) (hB.keep hb) (by omega) (by omega) (Env.keep hE hb)
  have c3 := fun W (hb : Below w.heap.size w W) => isSetI_any 89 (enters_of Tryz.func89 (by kernel_rfl) rfl) siteB S si.length cs si 64 W (fun x W' => isSite_any x W') (hS.keep hb) (by omega) (by omega)
  have hva := fun W h => valid_any pat W hp h
  generalize (compileB pat).isSome = b1 at *
  generalize setB ltB isNameB 32 cl = b2 at *
  generalize setB ltB countryB 32 co = b3 at *
  generalize setB ltI siteB 64 si = b4 at *
  have h32 : ((32 : Nat) : Int) = 32 := rfl
  have h64 : ((64 : Nat) : Int) = 64 := rfl
  simp only [h32] at c1 c2
  simp only [h64] at c3
  clear h32 h64
  have C1 := Lib.hid c1
  have C2 := Lib.hid c2
  have C3 := Lib.hid c3
  have HVA := Lib.hid hva
  have HE := Lib.hid hE
  clear c1 c2 c3 hva hE hA hB hS hcl hco h1 h2 h3 hp
  by_cases t1 : 0 ≤ fr
  rotate_left
  · obtain rfl : V = false := by rw [hV]; simp [t1]
    have d1 : decide (0 ≤ fr) = false := decide_eq_false t1
    clear hV
    (go_enter Tryz.func49, Tryz.ntmps49; go_wp2_with (first | (go_at_call 46; refine (HVA.out _ (Env.keep HE.out belB)).mono ?_; rintro e w2 ⟨rfl, hb2⟩; (have hX2 : CBox w2 w.heap.size fr till pat A cl.length ca B co.length cb S si.length cs us := (by first | exact Blk.keep hX2 hb2 | exact Blk.keep (World.alloc_heap_new _ _) hb2); obtain ⟨x0, x1, x2, x3, x4, x5, x6⟩ := hX2.facts)) | (go_at_call 85; (first | (refine (C1.out _ belB).mono ?_; clear C1) | refine (C2.out _ belB).mono ?_); rintro e w2 ⟨rfl, hb2⟩; (have hX2 : CBox w2 w.heap.size fr till pat A cl.length ca B co.length cb S si.length cs us := (by first | exact Blk.keep hX2 hb2 | exact Blk.keep (World.alloc_heap_new _ _) hb2); obtain ⟨x0, x1, x2, x3, x4, x5, x6⟩ := hX2.facts)) | (go_at_call 88; refine (C3.out _ belB).mono ?_; rintro e w2 ⟨rfl, hb2⟩)); go_ret; exact ⟨rfl, belB⟩)
  have d1 : decide (0 ≤ fr) = true := decide_eq_true t1
  by_cases t2 : fr ≤ 1099511627776
  rotate_left
  · obtain rfl : V = false := by rw [hV]; simp [t2]
    have d2 : decide (fr ≤ 1099511627776) = false := decide_eq_false t2
    clear hV
    (go_enter Tryz.func49, Tryz.ntmps49; go_wp2_with (first | (go_at_call 46; refine (HVA.out _ (Env.keep HE.out belB)).mono ?_; rintro e w2 ⟨rfl, hb2⟩; (have hX2 : CBox w2 w.heap.size fr till pat A cl.length ca B co.length cb S si.length cs us := (by first | exact Blk.keep hX2 hb2 | exact Blk.keep (World.alloc_heap_new _ _) hb2); obtain ⟨x0, x1, x2, x3, x4, x5, x6⟩ := hX2.facts)) | (go_at_call 85; (first | (refine (C1.out _ belB).mono ?_; clear C1) | refine (C2.out _ belB).mono ?_); rintro e w2 ⟨rfl, hb2⟩; (have hX2 : CBox w2 w.heap.size fr till pat A cl.length ca B co.length cb S si.length cs us := (by first | exact Blk.keep hX2 hb2 | exact Blk.keep (World.alloc_heap_new _ _) hb2); obtain ⟨x0, x1, x2, x3, x4, x5, x6⟩ := hX2.facts)) | (go_at_call 88; refine (C3.out _ belB).mono ?_; rintro e w2 ⟨rfl, hb2⟩)); go_ret; exact ⟨rfl, belB⟩)
  have d2 : decide (fr ≤ 1099511627776) = true := decide_eq_true t2
  by_cases t3 : 0 ≤ till
  rotate_left
  · obtain rfl : V = false := by rw [hV]; simp [t3]
    have d3 : decide (0 ≤ till) = false := decide_eq_false t3
    clear hV
    (go_enter Tryz.func49, Tryz.ntmps49; go_wp2_with (first | (go_at_call 46; refine (HVA.out _ (Env.keep HE.out belB)).mono ?_; rintro e w2 ⟨rfl, hb2⟩; (have hX2 : CBox w2 w.heap.size fr till pat A cl.length ca B co.length cb S si.length cs us := (by first | exact Blk.keep hX2 hb2 | exact Blk.keep (World.alloc_heap_new _ _) hb2); obtain ⟨x0, x1, x2, x3, x4, x5, x6⟩ := hX2.facts)) | (go_at_call 85; (first | (refine (C1.out _ belB).mono ?_; clear C1) | refine (C2.out _ belB).mono ?_); rintro e w2 ⟨rfl, hb2⟩; (have hX2 : CBox w2 w.heap.size fr till pat A cl.length ca B co.length cb S si.length cs us := (by first | exact Blk.keep hX2 hb2 | exact Blk.keep (World.alloc_heap_new _ _) hb2); obtain ⟨x0, x1, x2, x3, x4, x5, x6⟩ := hX2.facts)) | (go_at_call 88; refine (C3.out _ belB).mono ?_; rintro e w2 ⟨rfl, hb2⟩)); go_ret; exact ⟨rfl, belB⟩)
  have d3 : decide (0 ≤ till) = true := decide_eq_true t3
  by_cases t4 : till ≤ 1099511627777
  rotate_left
  · obtain rfl : V = false := by rw [hV]; simp [t4]
    have d4 : decide (till ≤ 1099511627777) = false := decide_eq_false t4
    clear hV
    (go_enter Tryz.func49, Tryz.ntmps49; go_wp2_with (first | (go_at_call 46; refine (HVA.out _ (Env.keep HE.out belB)).mono ?_; rintro e w2 ⟨rfl, hb2⟩; (have hX2 : CBox w2 w.heap.size fr till pat A cl.length ca B co.length cb S si.length cs us := (by first | exact Blk.keep hX2 hb2 | exact Blk.keep (World.alloc_heap_new _ _) hb2); obtain ⟨x0, x1, x2, x3, x4, x5, x6⟩ := hX2.facts)) | (go_at_call 85; (first | (refine (C1.out _ belB).mono ?_; clear C1) | refine (C2.out _ belB).mono ?_); rintro e w2 ⟨rfl, hb2⟩; (have hX2 : CBox w2 w.heap.size fr till pat A cl.length ca B co.length cb S si.length cs us := (by first | exact Blk.keep hX2 hb2 | exact Blk.keep (World.alloc_heap_new _ _) hb2); obtain ⟨x0, x1, x2, x3, x4, x5, x6⟩ := hX2.facts)) | (go_at_call 88; refine (C3.out _ belB).mono ?_; rintro e w2 ⟨rfl, hb2⟩)); go_ret; exact ⟨rfl, belB⟩)
  have d4 : decide (till ≤ 1099511627777) = true := decide_eq_true t4
  by_cases t5 : 0 ≤ us
  rotate_left
  · obtain rfl : V = false := by rw [hV]; simp [t5]
    have d5 : decide (0 ≤ us) = false := decide_eq_false t5
    clear hV
    (go_enter Tryz.func49, Tryz.ntmps49; go_wp2_with (first | (go_at_call 46; refine (HVA.out _ (Env.keep HE.out belB)).mono ?_; rintro e w2 ⟨rfl, hb2⟩; (have hX2 : CBox w2 w.heap.size fr till pat A cl.length ca B co.length cb S si.length cs us := (by first | exact Blk.keep hX2 hb2 | exact Blk.keep (World.alloc_heap_new _ _) hb2); obtain ⟨x0, x1, x2, x3, x4, x5, x6⟩ := hX2.facts)) | (go_at_call 85; (first | (refine (C1.out _ belB).mono ?_; clear C1) | refine (C2.out _ belB).mono ?_); rintro e w2 ⟨rfl, hb2⟩; (have hX2 : CBox w2 w.heap.size fr till pat A cl.length ca B co.length cb S si.length cs us := (by first | exact Blk.keep hX2 hb2 | exact Blk.keep (World.alloc_heap_new _ _) hb2); obtain ⟨x0, x1, x2, x3, x4, x5, x6⟩ := hX2.facts)) | (go_at_call 88; refine (C3.out _ belB).mono ?_; rintro e w2 ⟨rfl, hb2⟩)); go_ret; exact ⟨rfl, belB⟩)
  have d5 : decide (0 ≤ us) = true := decide_eq_true t5
  by_cases t6 : us ≤ 1073741824
  rotate_left
  · obtain rfl : V = false := by rw [hV]; simp [t6]
    have d6 : decide (us ≤ 1073741824) = false := decide_eq_false t6
    clear hV
    (go_enter Tryz.func49, Tryz.ntmps49; go_wp2_with (first | (go_at_call 46; refine (HVA.out _ (Env.keep HE.out belB)).mono ?_; rintro e w2 ⟨rfl, hb2⟩; (have hX2 : CBox w2 w.heap.size fr till pat A cl.length ca B co.length cb S si.length cs us := (by first | exact Blk.keep hX2 hb2 | exact Blk.keep (World.alloc_heap_new _ _) hb2); obtain ⟨x0, x1, x2, x3, x4, x5, x6⟩ := hX2.facts)) | (go_at_call 85; (first | (refine (C1.out _ belB).mono ?_; clear C1) | refine (C2.out _ belB).mono ?_); rintro e w2 ⟨rfl, hb2⟩; (have hX2 : CBox w2 w.heap.size fr till pat A cl.length ca B co.length cb S si.length cs us := (by first | exact Blk.keep hX2 hb2 | exact Blk.keep (World.alloc_heap_new _ _) hb2); obtain ⟨x0, x1, x2, x3, x4, x5, x6⟩ := hX2.facts)) | (go_at_call 88; refine (C3.out _ belB).mono ?_; rintro e w2 ⟨rfl, hb2⟩)); go_ret; exact ⟨rfl, belB⟩)
  have d6 : decide (us ≤ 1073741824) = true := decide_eq_true t6
  have hV2 : V = ((decide (pat.size = 0) || b1) && b2 && b3 && b4) := by rw [hV]; simp [t1, t2, t3, t4, t5, t6]
  clear hV
  by_cases hs : pat.size = 0
  · obtain rfl : pat = ⟨#[]⟩ := bytes_ext (List.eq_nil_of_length_eq_zero (by rw [← Lib.size_eq]; exact hs))
    clear hs
    cases b2
    · obtain rfl : V = false := by rw [hV2]; simp
      clear hV2
      (go_enter Tryz.func49, Tryz.ntmps49; go_wp2_with (first | (go_at_call 85; (first | (refine (C1.out _ belB).mono ?_; clear C1) | refine (C2.out _ belB).mono ?_); rintro e w2 ⟨rfl, hb2⟩; (have hX2 : CBox w2 w.heap.size fr till ⟨#[]⟩ A cl.length ca B co.length cb S si.length cs us := (by first | exact Blk.keep hX2 hb2 | exact Blk.keep (World.alloc_heap_new _ _) hb2); obtain ⟨x0, x1, x2, x3, x4, x5, x6⟩ := hX2.facts)) | (go_at_call 88; refine (C3.out _ belB).mono ?_; rintro e w2 ⟨rfl, hb2⟩)); go_ret; exact ⟨rfl, belB⟩)
    cases b3
    · obtain rfl : V = false := by rw [hV2]; simp
      clear hV2
      (go_enter Tryz.func49, Tryz.ntmps49; go_wp2_with (first | (go_at_call 85; (first | (refine (C1.out _ belB).mono ?_; clear C1) | refine (C2.out _ belB).mono ?_); rintro e w2 ⟨rfl, hb2⟩; (have hX2 : CBox w2 w.heap.size fr till ⟨#[]⟩ A cl.length ca B co.length cb S si.length cs us := (by first | exact Blk.keep hX2 hb2 | exact Blk.keep (World.alloc_heap_new _ _) hb2); obtain ⟨x0, x1, x2, x3, x4, x5, x6⟩ := hX2.facts)) | (go_at_call 88; refine (C3.out _ belB).mono ?_; rintro e w2 ⟨rfl, hb2⟩)); go_ret; exact ⟨rfl, belB⟩)
    obtain rfl : V = b4 := by rw [hV2]; cases b1 <;> cases b4 <;> rfl
    clear hV2
    (go_enter Tryz.func49, Tryz.ntmps49; go_wp2_with (first | (go_at_call 85; (first | (refine (C1.out _ belB).mono ?_; clear C1) | refine (C2.out _ belB).mono ?_); rintro e w2 ⟨rfl, hb2⟩; (have hX2 : CBox w2 w.heap.size fr till ⟨#[]⟩ A cl.length ca B co.length cb S si.length cs us := (by first | exact Blk.keep hX2 hb2 | exact Blk.keep (World.alloc_heap_new _ _) hb2); obtain ⟨x0, x1, x2, x3, x4, x5, x6⟩ := hX2.facts)) | (go_at_call 88; refine (C3.out _ belB).mono ?_; rintro e w2 ⟨rfl, hb2⟩)); go_ret; exact ⟨rfl, belB⟩)
  · have hn : ¬ pat.toList = [] := fun e => hs (by rw [Lib.toList_data] at e; rw [Lib.size_eq, e]; rfl)
    have hn2 : (pat.toList == []) = false := by simpa using hn
    rw [decide_eq_false hs, Bool.false_or] at hV2
    cases b1
    · obtain rfl : V = false := by rw [hV2]; simp
      clear hV2
      (go_enter Tryz.func49, Tryz.ntmps49; go_wp2_with (first | (go_at_call 46; refine (HVA.out _ (Env.keep HE.out belB)).mono ?_; rintro e w2 ⟨rfl, hb2⟩; (have hX2 : CBox w2 w.heap.size fr till pat A cl.length ca B co.length cb S si.length cs us := (by first | exact Blk.keep hX2 hb2 | exact Blk.keep (World.alloc_heap_new _ _) hb2); obtain ⟨x0, x1, x2, x3, x4, x5, x6⟩ := hX2.facts)) | (go_at_call 85; (first | (refine (C1.out _ belB).mono ?_; clear C1) | refine (C2.out _ belB).mono ?_); rintro e w2 ⟨rfl, hb2⟩; (have hX2 : CBox w2 w.heap.size fr till pat A cl.length ca B co.length cb S si.length cs us := (by first | exact Blk.keep hX2 hb2 | exact Blk.keep (World.alloc_heap_new _ _) hb2); obtain ⟨x0, x1, x2, x3, x4, x5, x6⟩ := hX2.facts)) | (go_at_call 88; refine (C3.out _ belB).mono ?_; rintro e w2 ⟨rfl, hb2⟩)); go_ret; exact ⟨rfl, belB⟩)
    cases b2
    · obtain rfl : V = false := by rw [hV2]; simp
      clear hV2
      (go_enter Tryz.func49, Tryz.ntmps49; go_wp2_with (first | (go_at_call 46; refine (HVA.out _ (Env.keep HE.out belB)).mono ?_; rintro e w2 ⟨rfl, hb2⟩; (have hX2 : CBox w2 w.heap.size fr till pat A cl.length ca B co.length cb S si.length cs us := (by first | exact Blk.keep hX2 hb2 | exact Blk.keep (World.alloc_heap_new _ _) hb2); obtain ⟨x0, x1, x2, x3, x4, x5, x6⟩ := hX2.facts)) | (go_at_call 85; (first | (refine (C1.out _ belB).mono ?_; clear C1) | refine (C2.out _ belB).mono ?_); rintro e w2 ⟨rfl, hb2⟩; (have hX2 : CBox w2 w.heap.size fr till pat A cl.length ca B co.length cb S si.length cs us := (by first | exact Blk.keep hX2 hb2 | exact Blk.keep (World.alloc_heap_new _ _) hb2); obtain ⟨x0, x1, x2, x3, x4, x5, x6⟩ := hX2.facts)) | (go_at_call 88; refine (C3.out _ belB).mono ?_; rintro e w2 ⟨rfl, hb2⟩)); go_ret; exact ⟨rfl, belB⟩)
    cases b3
    · obtain rfl : V = false := by rw [hV2]; simp
      clear hV2
      (go_enter Tryz.func49, Tryz.ntmps49; go_wp2_with (first | (go_at_call 46; refine (HVA.out _ (Env.keep HE.out belB)).mono ?_; rintro e w2 ⟨rfl, hb2⟩; (have hX2 : CBox w2 w.heap.size fr till pat A cl.length ca B co.length cb S si.length cs us := (by first | exact Blk.keep hX2 hb2 | exact Blk.keep (World.alloc_heap_new _ _) hb2); obtain ⟨x0, x1, x2, x3, x4, x5, x6⟩ := hX2.facts)) | (go_at_call 85; (first | (refine (C1.out _ belB).mono ?_; clear C1) | refine (C2.out _ belB).mono ?_); rintro e w2 ⟨rfl, hb2⟩; (have hX2 : CBox w2 w.heap.size fr till pat A cl.length ca B co.length cb S si.length cs us := (by first | exact Blk.keep hX2 hb2 | exact Blk.keep (World.alloc_heap_new _ _) hb2); obtain ⟨x0, x1, x2, x3, x4, x5, x6⟩ := hX2.facts)) | (go_at_call 88; refine (C3.out _ belB).mono ?_; rintro e w2 ⟨rfl, hb2⟩)); go_ret; exact ⟨rfl, belB⟩)
    obtain rfl : V = b4 := by rw [hV2]; cases b4 <;> rfl
    clear hV2
    (go_enter Tryz.func49, Tryz.ntmps49; go_wp2_with (first | (go_at_call 46; refine (HVA.out _ (Env.keep HE.out belB)).mono ?_; rintro e w2 ⟨rfl, hb2⟩; (have hX2 : CBox w2 w.heap.size fr till pat A cl.length ca B co.length cb S si.length cs us := (by first | exact Blk.keep hX2 hb2 | exact Blk.keep (World.alloc_heap_new _ _) hb2); obtain ⟨x0, x1, x2, x3, x4, x5, x6⟩ := hX2.facts)) | (go_at_call 85; (first | (refine (C1.out _ belB).mono ?_; clear C1) | refine (C2.out _ belB).mono ?_); rintro e w2 ⟨rfl, hb2⟩; (have hX2 : CBox w2 w.heap.size fr till pat A cl.length ca B co.length cb S si.length cs us := (by first | exact Blk.keep hX2 hb2 | exact Blk.keep (World.alloc_heap_new _ _) hb2); obtain ⟨x0, x1, x2, x3, x4, x5, x6⟩ := hX2.facts)) | (go_at_call 88; refine (C3.out _ belB).mono ?_; rintro e w2 ⟨rfl, hb2⟩)); go_ret; exact ⟨rfl, belB⟩)
end Go.Proofs.YtdlbfjoemabfpaaGreatDoor
namespace Go.Proofs.YtdlbfjoemabfpaaGreatDoor
open Go.RowKit Go.Sort
set_option linter.unusedVariables false
set_option linter.unusedSimpArgs false
set_option maxRecDepth 100000
def anyP : Pat := ⟨⟨2, ⟨#[]⟩⟩, [], true⟩
theorem any_fit : PatFit anyP := ⟨.inr ⟨rfl, rfl⟩, (by intro p hp; cases hp), by decide⟩
theorem any_str : patS anyP = ⟨#[42, 47, 42, 42]⟩ := bytes_ext (by
  rw [patS_eq, join_data, str_data]
  rfl)
theorem any_comp : compileB ⟨#[42, 47, 42, 42]⟩ = some anyP := by rw [← any_str]; exact compile_str any_fit
theorem any_match (a : Adr) : matchP anyP a = true := by
  unfold matchP anyP
  rw [has2]
  simp [matchesL]
def patT (p : ByteArray) : ByteArray := if p.size = 0 then ⟨#[42, 47, 42, 42]⟩ else p
end Go.Proofs.YtdlbfjoemabfpaaGreatDoor
namespace Go.Proofs.YtdlbfjoemabfpaaGreatDoor
open Go.RowKit Go.Sort
set_option linter.unusedVariables false
set_option linter.unusedSimpArgs false
set_option maxRecDepth 100000
structure AskV where
  addr : ByteArray
  client : ByteArray
  country : ByteArray
  site : Int
  lo : Int
  hi : Int
def validAsk (a : AskV) : Bool := readB a.addr && isNameB a.client && countryB a.country && siteB a.site && decide (0 ≤ a.lo ∧ a.lo ≤ a.hi ∧ a.hi ≤ 1099511627776)
def holdsC (c : CondV) (a : AskV) : Bool := validC c && validAsk a && decide (c.fr ≤ a.lo ∧ a.hi < c.till) && matchB (patT c.pat) a.addr && allowsL c.cl a.client && allowsL c.co a.country && allowsL c.si a.site
theorem ask_times {a : AskV} (h : validAsk a = true) : 0 ≤ a.lo ∧ a.lo ≤ a.hi ∧ a.hi ≤ 1099511627776 ∧ isNameB a.client = true ∧ countryB a.country = true ∧ siteB a.site = true ∧ readB a.addr = true := by
  unfold validAsk at h
  simp only [Bool.and_eq_true, decide_eq_true_eq] at h
  exact ⟨h.2.1, h.2.2.1, h.2.2.2, h.1.1.1.2, h.1.1.2, h.1.2, h.1.1.1.1⟩
end Go.Proofs.YtdlbfjoemabfpaaGreatDoor
namespace Go.Proofs.YtdlbfjoemabfpaaGreatDoor
open Go.RowKit Go.Sort
set_option linter.unusedVariables false
set_option linter.unusedSimpArgs false
set_option maxRecDepth 100000
def AskV.val (a : AskV) : Value := .agg #[.string a.addr, .string a.client, .string a.country, .int .i64 a.site, .int .i64 a.lo, .int .i64 a.hi]
set_option maxHeartbeats 2000000 in
theorem rFewAsk_any (a : AskV) (w : World) : Calls Tryz.prog 35 #[AskV.val a] w (Ret w (.bool (decide (a.addr.size ≤ 5000) && decide (a.client.size ≤ 5000) && decide (a.country.size ≤ 5000)))) := by
  obtain ⟨ad, cl, co, si, lo, hi⟩ := a
  unfold AskV.val
  dsimp only
  by_cases h1 : ad.size ≤ 5000
  · have d1 : decide ((ad.size : Int) ≤ 5000) = true := decide_eq_true (by omega)
    by_cases h2 : cl.size ≤ 5000
    · have d2 : decide ((cl.size : Int) ≤ 5000) = true := decide_eq_true (by omega)
      by_cases h3 : co.size ≤ 5000
      · have d3 : decide ((co.size : Int) ≤ 5000) = true := decide_eq_true (by omega)
        rw [decide_eq_true h1, decide_eq_true h2, decide_eq_true h3]
        go_enter Tryz.func35, Tryz.ntmps35
        go_wp2
        go_ret
        exact ⟨rfl, belB⟩
      · have d3 : decide ((co.size : Int) ≤ 5000) = false := decide_eq_false (by omega)
        rw [decide_eq_true h1, decide_eq_true h2, decide_eq_false h3]
        go_enter Tryz.func35, Tryz.ntmps35
        go_wp2
        go_ret
        exact ⟨rfl, belB⟩
    · have d2 : decide ((cl.size : Int) ≤ 5000) = false := decide_eq_false (by omega)
      rw [decide_eq_true h1, decide_eq_false h2]
      go_enter Tryz.func35, Tryz.ntmps35
      go_wp2
      go_ret
      exact ⟨rfl, belB⟩
  · have d1 : decide ((ad.size : Int) ≤ 5000) = false := decide_eq_false (by omega)
    rw [decide_eq_false h1]
    go_enter Tryz.func35, Tryz.ntmps35
    go_wp2
    go_ret
    exact ⟨rfl, belB⟩
end Go.Proofs.YtdlbfjoemabfpaaGreatDoor
namespace Go.Proofs.YtdlbfjoemabfpaaGreatDoor
open Go.RowKit Go.Sort
set_option linter.unusedVariables false
set_option linter.unusedSimpArgs false
set_option maxRecDepth 100000
theorem key_less (a b : ByteArray) : (!(Op.bytesLess a.toList b.toList || a.toList == b.toList)) = decide (b.data.toList < a.data.toList) := by
  rw [bytesLess_eq, Lib.toList_data, Lib.toList_data, Bool.eq_iff_iff]
  simp only [Bool.not_eq_true', Bool.or_eq_false_iff, decide_eq_false_iff_not, beq_eq_false_iff_ne, decide_eq_true_eq]
  constructor
  · rintro ⟨h1, h2⟩; exact lt_tri _ _ h2 h1
  · intro h
    exact ⟨fun h1 => List.lt_irrefl _ (List.lt_trans h h1), fun e => List.lt_irrefl _ (by rw [e] at h; exact h)⟩
theorem pairK_at (qs : List (ByteArray × ByteArray)) (k : Nat) (hk : k < qs.length) : pairK qs k = true ↔ isNameB qs[k].1 = true ∧ isWordB qs[k].2 = true ∧ (k = 0 ∨ ∃ h : k - 1 < qs.length, qs[k - 1].1.data.toList < qs[k].1.data.toList) := by
  unfold pairK
  rw [List.getElem?_eq_getElem hk]
  simp only [Bool.and_eq_true, Bool.or_eq_true, beq_iff_eq]
  have hk1 : k - 1 < qs.length := by omega
  rw [List.getElem?_eq_getElem hk1]
  simp only [Option.getD_some]
  rw [key_less, decide_eq_true_eq]
  constructor
  · rintro ⟨⟨h1, h2⟩, h3⟩
    exact ⟨h1, h2, h3.imp id fun h => ⟨hk1, h⟩⟩
  · rintro ⟨h1, h2, h3⟩
    exact ⟨⟨h1, h2⟩, h3.imp id fun ⟨_, h⟩ => h⟩
theorem formed_iff (c : ByteArray) (xs : List ByteArray) (qs : List (ByteArray × ByteArray)) : formedB c xs qs = true ↔ AdrGood ⟨c, xs, qs⟩ ∧ (W06 c xs qs).length ≤ 4096 := by
  unfold formedB headOk
  simp only [Bool.and_eq_true, decide_eq_true_eq, List.all_eq_true, List.mem_range]
  constructor
  · rintro ⟨⟨⟨⟨⟨h1, h2⟩, h3⟩, h4⟩, h5⟩, h6⟩
    have hat := fun k hk => (pairK_at qs k hk).1 (h5 k hk)
    refine ⟨⟨h1, h4, h2, h3, ?_, ?_⟩, h6⟩
    · intro q hq
      obtain ⟨k, hk, rfl⟩ := List.getElem_of_mem hq
      exact ⟨(hat k hk).1, (hat k hk).2.1⟩
    · unfold KeysUp
      rw [List.pairwise_iff_getElem]
      intro i j
      induction j with
      | zero => intro _ _ h; omega
      | succ j ih =>
        intro hi hj hij
        rcases (hat (j + 1) hj).2.2 with h | ⟨h, h7⟩
        · omega
        · have e : j + 1 - 1 = j := rfl
          simp only [e] at h7
          by_cases hij2 : i = j
          · subst hij2; exact h7
          · exact List.lt_trans (ih hi (by omega) (by omega)) h7
  · rintro ⟨⟨h1, h4, h2, h3, h5, h7⟩, h6⟩
    refine ⟨⟨⟨⟨⟨h1, h2⟩, h3⟩, h4⟩, fun k hk => ?_⟩, h6⟩
    rw [pairK_at qs k hk]
    have hq := h5 qs[k] (List.getElem_mem hk)
    refine ⟨hq.1, hq.2, ?_⟩
    by_cases h0 : k = 0
    · exact .inl h0
    · have hk1 : k - 1 < qs.length := by omega
      exact .inr ⟨hk1, List.pairwise_iff_getElem.1 h7 (k - 1) k hk1 hk (by omega)⟩
section
variable {c : ByteArray} {ws : List ByteArray} (hc : isNameB c = true) (hw : ∀ w ∈ ws, isWordB w = true) (hn : ws.length ≤ 32)
include hc hw hn
end
end Go.Proofs.YtdlbfjoemabfpaaGreatDoor
