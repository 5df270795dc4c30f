/- Plain: sets in ascending order, countries, sites. -/
import Derived.Test.YtjhlpkhfdghngaaGreatDoorGZ3
import Derived.Test.YtjhlpkhfdghngaaGreatDoorProg
import Derived.WalkKit
import Derived.WalkSpells
import Derived.WalkLawsBesides
import Derived.Below
import Derived.Deep.QuietTactic
import Derived.BigQuiet
import Derived.Lib.QuietBelow
import Derived.Lib.Strings
import Derived.Lib.Hide
import Derived.Deep.RegionWith
import Derived.Deep.RegionHeld3
import Derived.Lib.IndexBytes
import Derived.Test.YtjhlpkhfdghngaaGreatDoorGZ2
import Derived.Sort.Walk0
import Derived.Test.YtjhlpkhfdghngaaGreatDoorGZ4
import Derived.LoopTactic
namespace Go.Proofs.YtjhlpkhfdghngaaGreatDoor
open Go.RowKit Go.Sort
set_option linter.unusedVariables false
set_option linter.unusedSimpArgs false
set_option maxRecDepth 100000
section
variable {α : Type}
def okK (lt : α → α → Bool) (right : α → Bool) (l : List α) (k : Nat) : Bool := match l[k]? with
  | none => true
  | some x => right x && (k == 0 || (match l[k - 1]? with
    | none => true
    | some y => lt y x))
def setB (lt : α → α → Bool) (right : α → Bool) (most : Nat) (l : List α) : Bool := (List.range l.length).all (okK lt right l) && decide (l.length ≤ most)
end
def ltB (a b : ByteArray) : Bool := decide (a.data.toList < b.data.toList)
def ltI (a b : Int) : Bool := decide (a < b)
def countryB (s : ByteArray) : Bool := decide (s.size = 2) && s.data.toList.all fun b => decide (97 ≤ b.toNat ∧ b.toNat ≤ 122)
def siteB (n : Int) : Bool := decide (0 ≤ n ∧ n < 64)
structure CondV where
  fr : Int
  till : Int
  pat : ByteArray
  cl : List ByteArray
  co : List ByteArray
  si : List Int
  us : Int
def zeroC : CondV := ⟨0, 0, ⟨#[]⟩, [], [], [], 0⟩
end Go.Proofs.YtjhlpkhfdghngaaGreatDoor
namespace Go.Proofs.YtjhlpkhfdghngaaGreatDoor
open Go.RowKit Go.Sort
set_option linter.unusedVariables false
set_option linter.unusedSimpArgs false
set_option maxRecDepth 100000
theorem isSite_any (n : Int) (w : World) : Calls Tryz.prog 111 #[.int .i64 n] w (Ret w (.bool (siteB n))) := by
  by_cases h0 : 0 ≤ n
  · by_cases h1 : n < 64
    · have hv : siteB n = true := decide_eq_true ⟨h0, h1⟩
      have d0 : decide (0 ≤ n) = true := decide_eq_true h0
      have d1 : decide (n < 64) = true := decide_eq_true h1
      rw [hv]
      go_enter Tryz.func111, Tryz.ntmps111
      go_wp2
      go_ret
      exact ⟨rfl, belB⟩
    · have hv : siteB n = false := decide_eq_false (fun h => h1 h.2)
      have d0 : decide (0 ≤ n) = true := decide_eq_true h0
      have d1 : decide (n < 64) = false := decide_eq_false h1
      rw [hv]
      go_enter Tryz.func111, Tryz.ntmps111
      go_wp2
      go_ret
      exact ⟨rfl, belB⟩
  · have hv : siteB n = false := decide_eq_false (fun h => h0 h.1)
    have d0 : decide (0 ≤ n) = false := decide_eq_false h0
    rw [hv]
    go_enter Tryz.func111, Tryz.ntmps111
    go_wp2
    go_ret
    exact ⟨rfl, belB⟩
theorem two_bytes (s : ByteArray) (h : s.size = 2) : s.data.toList = [s[0]'(by omega), s[1]'(by omega)] := by
  have hl : s.data.toList.length = 2 := by rw [← Lib.size_eq]; exact h
  refine List.ext_getElem (by simpa using hl) fun i h1 h2 => ?_
  have hi : i < 2 := by omega
  rcases i with _ | _ | i
  · rfl
  · rfl
  · omega
theorem country_two (s : ByteArray) (h : s.size = 2) : countryB s = (decide ((97 : Int) ≤ min ((s[0]'(by omega)).toNat : Int) ((s[1]'(by omega)).toNat : Int)) && decide (max ((s[0]'(by omega)).toNat : Int) ((s[1]'(by omega)).toNat : Int) ≤ 122)) := by
  unfold countryB
  rw [decide_eq_true h, Bool.true_and, two_bytes s h]
  simp only [List.all_cons, List.all_nil, Bool.and_true]
  rw [Bool.eq_iff_iff]
  simp only [Bool.and_eq_true, decide_eq_true_eq]
  omega
set_option maxHeartbeats 1000000 in
theorem isCountry_any (s : ByteArray) (w : World) (hs : s.size ≤ 4294967281) : Calls Tryz.prog 109 #[.string s] w (Ret w (.bool (countryB s))) := by
  by_cases h2 : s.size = 2
  · have d2 : ((s.size : Int) == 2) = true := by simp; omega
    have hv := country_two s h2
    have q0 : (0 : Int) < (s.size : Int) := by omega
    have q1 : (1 : Int) < (s.size : Int) := by omega
    rw [hv]
    clear hv
    cases e1 : decide ((97 : Int) ≤ min ((s[0]'(by omega)).toNat : Int) ((s[1]'(by omega)).toNat : Int))
    · go_enter Tryz.func109, Tryz.ntmps109
      go_wp2_with fail
      go_quiet (fail)
      go_wp2
      go_ret
      exact ⟨rfl, belB⟩
    · generalize e2 : decide (max ((s[0]'(by omega)).toNat : Int) ((s[1]'(by omega)).toNat : Int) ≤ 122) = b2
      go_enter Tryz.func109, Tryz.ntmps109
      go_wp2_with fail
      go_quiet (fail)
      go_wp2
      go_ret
      exact ⟨ret_bool (by simp), belB⟩
  · have d2 : ((s.size : Int) == 2) = false := beq_eq_false_iff_ne.2 (by omega)
    have hv : countryB s = false := by unfold countryB; rw [decide_eq_false h2]; rfl
    rw [hv]
    go_enter Tryz.func109, Tryz.ntmps109
    go_wp2_with fail
    go_quiet (fail)
    go_wp2
    go_ret
    exact ⟨rfl, belB⟩
theorem key_less2 (a b : ByteArray) : (!(Op.bytesLess a.toList b.toList || a.toList == b.toList)) = decide (b.data.toList < a.data.toList) := by
  rw [bytesLess_eq, Lib.toList_data, Lib.toList_data, Bool.eq_iff_iff]
  simp only [Bool.not_eq_true', Bool.or_eq_false_iff, decide_eq_false_iff_not, beq_eq_false_iff_ne, decide_eq_true_eq]
  constructor
  · rintro ⟨h1, h2⟩; exact lt_tri _ _ h2 h1
  · intro h
    exact ⟨fun h1 => List.lt_irrefl _ (List.lt_trans h h1), fun e => List.lt_irrefl _ (by rw [e] at h; exact h)⟩
theorem le_prev (x y : ByteArray) : (Op.bytesLess x.toList y.toList || x.toList == y.toList) = !ltB y x := by
  have := key_less2 x y
  unfold ltB
  rw [← this, Bool.not_not]
theorem okK_upto {α : Type} {lt : α → α → Bool} {right : α → Bool} {l : List α} {k : Nat} (h : (List.range k).all (okK lt right l) = true) (h2 : okK lt right l k = true) : (List.range (k + 1)).all (okK lt right l) = true := by
  rw [List.range_succ, List.all_append, h]; simp [h2]
theorem okK_fail {α : Type} {lt : α → α → Bool} {right : α → Bool} {l : List α} {k most : Nat} (hk : k < l.length) (h2 : okK lt right l k = false) : setB lt right most l = false := by
  unfold setB
  have : (List.range l.length).all (okK lt right l) = false := by
    rw [List.all_eq_false]
    exact ⟨k, by simpa using hk, by rw [h2]; simp⟩
  rw [this]; rfl
set_option maxHeartbeats 2000000 in
theorem isSetS_any (g : Nat) (eg : ∀ args w, (callFunc g args).run Tryz.prog w = .ok (.enter g args) w) (right : ByteArray → Bool) (A : Option Addr) (n c : Nat) (xs : List ByteArray) (most : Nat) (w : World)
    (hp : ∀ x ∈ xs, ∀ W, Env W → Calls Tryz.prog g #[.string x] W (Ret W (.bool (right x)))) (hA : Reads w 1 A n (xs.map .string)) (hn : n ≤ 1000000000) (hm : most ≤ 1000000) (hE : Env w) :
    Calls Tryz.prog 107 #[.slice A n c, .int .i64 most, .func (.func g) #[] #[]] w (Ret w (.bool (setB ltB right most xs))) := by
  have hl : xs.length = n := by have := hA.1; simp at this; omega
  have HP := Lib.hid hp; have HA := Lib.hid hA; have HL := Lib.hid hl; have HE := Lib.hid hE
  obtain ⟨V, hV⟩ : ∃ V, V = setB ltB right most xs := ⟨_, rfl⟩
  rw [← hV]
  have HV := Lib.hid hV
  clear hp hA hl hE hV
  go_enter Tryz.func107, Tryz.ntmps107
  go_wp2
  go_loopw [11] (fun i wr => ∃ k : Nat, k ≤ n ∧ i = .int .i64 k ∧ Hid ((List.range k).all (okK ltB right xs) = true) ∧ Below w.heap.size w wr) (fun i _ => n - (intOf i).toNat)
  case atStart => exact ⟨0, by omega, rfl, Lib.hid rfl, Below.refl _ _⟩
  case round =>
    obtain ⟨k, hk, rfl, HK, hb⟩ := hrel
    by_cases hlt : k < n
    · obtain ⟨x, hx⟩ : ∃ x, xs[k]? = some x := ⟨_, List.getElem?_eq_getElem (by have := HL.out; omega)⟩
      obtain ⟨pb, po, rfl, hcell⟩ := (HA.out.keep hb).2 (by omega)
      have hc1 : wr.cell? ⟨pb, po + k, none⟩ = some (.string x) := hcell k _ (by simp [hx])
      have hc := fun W h => HP.out x (List.mem_of_getElem? hx) W h
      have hok : okK ltB right xs k = (right x && (k == 0 || (match xs[k - 1]? with
        | none => true
        | some y => ltB y x))) := by unfold okK; rw [hx]; cases xs[k - 1]? <;> rfl
      have hfail : okK ltB right xs k = false → V = false := fun h => by rw [HV.out]; exact okK_fail (by have := HL.out; omega) h
      cases hr : right x
      · have hVf : V = false := hfail (by rw [hok, hr]; rfl)
        rw [hr] at hc
        have HC := Lib.hid hc
        clear hc hr hok hfail hcell hx
        subst hVf
        go_wp2_with (go_at_fn g; refine (HC.out _ (Env.keep HE.out belB)).mono ?_; rintro e w2 ⟨rfl, hb2⟩)
        go_ret
        exact ⟨rfl, belB⟩
      · rw [hr] at hc
        have HC := Lib.hid hc
        rcases k with _ | j
        · have HK2 : Hid ((List.range (0 + 1)).all (okK ltB right xs) = true) := Lib.hid (okK_upto HK.out (by rw [hok, hr]; rfl))
          simp only [Nat.add_zero] at hc1
          clear hc hr hok hfail hcell hx
          go_wp2_with (go_at_fn g; refine (HC.out _ (Env.keep HE.out belB)).mono ?_; rintro e w2 ⟨rfl, hb2⟩)
          exact ⟨⟨1, by omega, by go_num, HK2, belB⟩, by simp [intOf]; omega⟩
        · obtain ⟨y, hy⟩ : ∃ y, xs[j]? = some y := ⟨_, List.getElem?_eq_getElem (by have := HL.out; omega)⟩
          have hc2 : wr.cell? ⟨pb, po + j, none⟩ = some (.string y) := hcell j _ (by simp [hy])
          have hle := le_prev x y
          rw [Nat.add_sub_cancel, hy] at hok
          have hok : okK ltB right xs (j + 1) = ltB y x := by rw [hok, hr]; simp
          have hj0 : (0 : Int) ≤ (j : Int) := by omega
          have hj1 : (j : Int) < (n : Int) := by omega
          cases ht : ltB y x
          · have hVf : V = false := hfail (by rw [hok, ht])
            rw [ht] at hle
            clear hc hr hok hfail hcell hx hy
            subst hVf
            go_wp2_with (go_at_fn g; refine (HC.out _ (Env.keep HE.out belB)).mono ?_; rintro e w2 ⟨rfl, hb2⟩; have hc3 := cell_keep hb2 hc2)
            go_ret
            exact ⟨rfl, belB⟩
          · have HK2 : Hid ((List.range (j + 1 + 1)).all (okK ltB right xs) = true) := Lib.hid (okK_upto HK.out (by rw [hok, ht]))
            rw [ht] at hle
            clear hc hr hok hfail hcell hx hy
            go_wp2_with (go_at_fn g; refine (HC.out _ (Env.keep HE.out belB)).mono ?_; rintro e w2 ⟨rfl, hb2⟩; have hc3 := cell_keep hb2 hc2)
            exact ⟨⟨j + 1 + 1, by omega, by go_num, HK2, belB⟩, by simp [intOf]; omega⟩
    · obtain rfl : k = n := by omega
      have hv : V = decide (k ≤ most) := by rw [HV.out]; unfold setB; rw [HL.out, HK.out]; rfl
      by_cases hm2 : k ≤ most
      · rw [decide_eq_true hm2] at hv
        have d1 : decide ((k : Int) ≤ (most : Int)) = true := decide_eq_true (by omega)
        have d1' : decide (k ≤ most) = true := decide_eq_true hm2
        subst hv
        go_wp2
        go_ret
        exact ⟨rfl, hb⟩
      · rw [decide_eq_false hm2] at hv
        have d1 : decide ((k : Int) ≤ (most : Int)) = false := decide_eq_false (by omega)
        have d1' : decide (k ≤ most) = false := decide_eq_false hm2
        subst hv
        go_wp2
        go_ret
        exact ⟨rfl, hb⟩
end Go.Proofs.YtjhlpkhfdghngaaGreatDoor
namespace Go.Proofs.YtjhlpkhfdghngaaGreatDoor
open Go.RowKit Go.Sort
set_option linter.unusedVariables false
set_option linter.unusedSimpArgs false
set_option maxRecDepth 100000
def queryL (sep : UInt8) : List (List UInt8 × List UInt8) → List UInt8
  | [] => []
  | (k, v) :: r => sep :: (k ++ 61 :: v) ++ queryL 38 r
def pathL (xs : List (List UInt8)) : List UInt8 := xs.flatMap fun p => 47 :: p
def writeL (c : List UInt8) (xs : List (List UInt8)) (qs : List (List UInt8 × List UInt8)) : List UInt8 := c ++ pathL xs ++ queryL 63 qs
def pairCells (qs : List (ByteArray × ByteArray)) : List Value := qs.flatMap fun q => [.string q.1, .string q.2]
def lists (xs : List ByteArray) : List (List UInt8) := xs.map (·.data.toList)
def lists2 (qs : List (ByteArray × ByteArray)) : List (List UInt8 × List UInt8) := qs.map fun q => (q.1.data.toList, q.2.data.toList)
def W06 (c : ByteArray) (xs : List ByteArray) (qs : List (ByteArray × ByteArray)) : List UInt8 := writeL c.data.toList (lists xs) (lists2 qs)
theorem builderAt_alloc {T e : TypeId} {B b : Nat} {p : Value} {bs : List Value} {w : World} (h : Lib.BuilderAt T e B b p bs w) (o : Obj) : Lib.BuilderAt T e B b p bs (w.alloc o) := by
  have hl := h.lt
  obtain ⟨hB, v, hb, hown, hne⟩ := h
  exact ⟨hB, v, (Below.heap_alloc w o b hl).trans hb, hown.alloc o, hne⟩
theorem isBuilder_alloc {T e : TypeId} {B b : Nat} {bs : List Value} {w : World} (h : Lib.IsBuilder T e B b bs w) (o : Obj) : Lib.IsBuilder T e B b bs (w.alloc o) := h.imp (builderAt_alloc · o) (builderAt_alloc · o)
theorem strCells_eq (s : ByteArray) : Lib.strCells s = Lib.byteCells s.data.toList := rfl
theorem byteCells_app (a b : List UInt8) : Lib.byteCells (a ++ b) = Lib.byteCells a ++ Lib.byteCells b := by simp [Lib.byteCells]
def pathK (c : ByteArray) (xs : List ByteArray) (k : Nat) : List UInt8 := c.data.toList ++ pathL ((lists xs).take k)
theorem pathK_succ (c : ByteArray) (xs : List ByteArray) (k : Nat) (x : ByteArray) (h : xs[k]? = some x) : pathK c xs (k + 1) = pathK c xs k ++ (47 :: x.data.toList) := by
  have : (lists xs)[k]? = some x.data.toList := by simp [lists, h]
  unfold pathK pathL
  rw [List.take_add_one, this]
  simp
theorem pathK_le (c : ByteArray) (xs : List ByteArray) (qs : List (ByteArray × ByteArray)) (k : Nat) : (pathK c xs k).length ≤ (W06 c xs qs).length := by
  have h : pathL (lists xs) = pathL ((lists xs).take k) ++ pathL ((lists xs).drop k) := by
    rw [pathL, pathL, pathL, ← List.flatMap_append, List.take_append_drop]
  unfold pathK W06 writeL
  rw [h]
  simp
def sepK (k : Nat) : ByteArray := if k = 0 then ⟨#[63]⟩ else ⟨#[38]⟩
def queryK (c : ByteArray) (xs : List ByteArray) (qs : List (ByteArray × ByteArray)) (k : Nat) : List UInt8 := c.data.toList ++ pathL (lists xs) ++ queryL 63 ((lists2 qs).take k)
theorem queryL_snoc (k v : List UInt8) : ∀ (sep : UInt8) (l : List (List UInt8 × List UInt8)), queryL sep (l ++ [(k, v)]) = queryL sep l ++ ((if l = [] then sep else 38) :: (k ++ 61 :: v))
  | sep, [] => by simp [queryL]
  | sep, (a, b) :: l => by
    rw [List.cons_append, queryL, queryL, queryL_snoc k v 38 l]
    simp
theorem queryL_append : ∀ (sep : UInt8) (l m : List (List UInt8 × List UInt8)), (queryL sep l).length ≤ (queryL sep (l ++ m)).length
  | sep, [], m => by simp [queryL]
  | sep, (a, b) :: l, m => by
    have := queryL_append 38 l m
    simp [queryL]
    omega
theorem queryK_succ (c : ByteArray) (xs : List ByteArray) (qs : List (ByteArray × ByteArray)) (k : Nat) (q : ByteArray × ByteArray) (h : qs[k]? = some q) :
    queryK c xs qs (k + 1) = queryK c xs qs k ++ ((sepK k).data.toList ++ q.1.data.toList ++ [61] ++ q.2.data.toList) := by
  have h' : (lists2 qs)[k]? = some (q.1.data.toList, q.2.data.toList) := by simp [lists2, h]
  have hl : k < (lists2 qs).length := (List.getElem?_eq_some_iff.1 h').1
  unfold queryK
  rw [List.take_add_one, h', Option.toList_some, queryL_snoc]
  by_cases hk : k = 0
  · subst hk
    simp [sepK, queryL]
  · have hne : (lists2 qs).take k ≠ [] := by
      intro e
      have := congrArg List.length e
      rw [List.length_take, Nat.min_eq_left (by omega)] at this
      exact hk (by simpa using this)
    simp [sepK, hk, hne]
theorem queryK_le (c : ByteArray) (xs : List ByteArray) (qs : List (ByteArray × ByteArray)) (k : Nat) : (queryK c xs qs k).length ≤ (W06 c xs qs).length := by
  have := queryL_append 63 ((lists2 qs).take k) ((lists2 qs).drop k)
  rw [List.take_append_drop] at this
  simp [queryK, W06, writeL]
  omega
theorem pairCells_at (qs : List (ByteArray × ByteArray)) : ∀ (k : Nat) (q : ByteArray × ByteArray), qs[k]? = some q → (pairCells qs)[k * 2]? = some (.string q.1) ∧ (pairCells qs)[k * 2 + 1]? = some (.string q.2) := by
  induction qs with
  | nil => intro k q h; simp at h
  | cons a r ih =>
    intro k q h
    cases k with
    | zero => simp at h; subst h; simp [pairCells]
    | succ k =>
      have := ih k q (by simpa using h)
      rw [show (k + 1) * 2 = k * 2 + 1 + 1 by omega]
      simpa [pairCells] using this
theorem pairCells_length (qs : List (ByteArray × ByteArray)) : (pairCells qs).length = qs.length * 2 := by induction qs <;> simp_all [pairCells]; omega
theorem pathK_all (c : ByteArray) (xs : List ByteArray) (qs : List (ByteArray × ByteArray)) (n : Nat) (h : xs.length ≤ n) : pathK c xs n = queryK c xs qs 0 := by
  simp [pathK, queryK, queryL, List.take_of_length_le (show (lists xs).length ≤ n by simpa [lists] using h)]
theorem queryK_all (c : ByteArray) (xs : List ByteArray) (qs : List (ByteArray × ByteArray)) (n : Nat) (h : qs.length ≤ n) : queryK c xs qs n = W06 c xs qs := by
  simp [queryK, W06, writeL, List.take_of_length_le (show (lists2 qs).length ≤ n by simpa [lists2] using h)]
theorem boxed3 {w wr : World} {x y z : Value} {t : TypeId} {o : Obj} (h : Below (w.heap.size + 1) ((w.alloc (.cells #[x, y, z] t)).alloc o) wr) :
    wr.cell? ⟨w.heap.size, 0, none⟩ = some x ∧ wr.cell? ⟨w.heap.size, 1, none⟩ = some y ∧ wr.cell? ⟨w.heap.size, 2, none⟩ = some z ∧ Below w.heap.size w wr := by
  have hb : Below w.heap.size w wr := (balloc (balloc (Below.refl _ w) _) _).trans (h.mono (by omega))
  refine ⟨?_, ?_, ?_, hb⟩ <;> (rw [h.cell (by simp)]; simp [go_sem])
theorem pathL_len : ∀ l : List (List UInt8), l.length ≤ (pathL l).length
  | [] => by simp [pathL]
  | a :: l => by have := pathL_len l; simp only [pathL, List.flatMap_cons, List.length_cons, List.length_append] at this ⊢; omega
theorem queryL_len : ∀ (sep : UInt8) (l : List (List UInt8 × List UInt8)), l.length ≤ (queryL sep l).length
  | sep, [] => by simp [queryL]
  | sep, (a, b) :: l => by have := queryL_len 38 l; simp only [queryL, List.length_cons, List.length_append] at this ⊢; omega
theorem slash_cells (x : ByteArray) : Lib.strCells (⟨#[47]⟩ ++ x) = Lib.byteCells (47 :: x.data.toList) := by simp [Lib.strCells, Lib.byteCells]
theorem pair_cells (s k v : ByteArray) : Lib.strCells (s ++ k ++ ⟨#[61]⟩ ++ v) = Lib.byteCells (s.data.toList ++ k.data.toList ++ [61] ++ v.data.toList) := by simp [Lib.strCells, Lib.byteCells]
set_option maxHeartbeats 4000000 in
theorem write_any (c : ByteArray) (P Q : Option Addr) (np cp nq cq : Nat) (xs : List ByteArray) (qs : List (ByteArray × ByteArray)) (w : World)
    (hP : Reads w 1 P np (xs.map .string)) (hQ : Reads w 2 Q nq (pairCells qs)) (htot : (W06 c xs qs).length ≤ 1000000000) :
    Calls Tryz.prog 142 #[.agg #[.string c, .slice P np cp, .slice Q nq cq]] w (Ret w (.string ⟨(W06 c xs qs).toArray⟩)) := by
  have hnp : np ≤ xs.length ∧ xs.length ≤ np := by have := hP.1; simp at this; omega
  have hnq : nq ≤ qs.length ∧ qs.length ≤ nq := by have := hQ.1; rw [pairCells_length] at this; omega
  have hlens : c.size ≤ 1000000000 ∧ np ≤ 1000000000 ∧ nq ≤ 1000000000 := by
    have h1 := pathL_len (lists xs)
    have h2 := queryL_len 63 (lists2 qs)
    simp only [lists, lists2, List.length_map] at h1 h2
    simp only [W06, writeL, lists, lists2, List.length_append] at htot
    rw [Lib.size_eq]
    omega
  obtain ⟨hc0, hnp9, hnq9⟩ := hlens
  have hB0 := Lib.fresh_isBuilder 175 5 (w.alloc (.cells #[.string c, .slice P np cp, .slice Q nq cq] 117))
  simp only [World.size_alloc] at hB0
  have HP := Lib.hid hP; have HQ := Lib.hid hQ; have HT := Lib.hid htot
  clear hP hQ htot
  go_enter Tryz.func142, Tryz.ntmps142
  go_wp2_with fail
  refine (writeString_any (w.heap.size + 1) (w.heap.size + 1) [] c _ hB0 (by simp; omega) (by simp)).mono ?_
  rintro e w1 ⟨rfl, hB1, hb1⟩
  clear hB0
  obtain ⟨a0, a1, a2, hbw⟩ := boxed3 hb1
  have hB1' : Lib.IsBuilder 175 5 (w.heap.size + 1) (w.heap.size + 1) (Lib.byteCells (pathK c xs 0)) w1 := by
    have : Lib.byteCells (pathK c xs 0) = [] ++ Lib.strCells c := by simp [pathK, pathL, strCells_eq]
    rw [this]; exact .inr hB1
  clear hB1
  obtain ⟨W0, hW0⟩ : ∃ W0, W0 = ((w.alloc (.cells #[.string c, .slice P np cp, .slice Q nq cq] 117)).alloc (.cells #[.pointer none, .slice none 0 0] 175)) := ⟨_, rfl⟩
  rw [← hW0] at hb1
  have HW0 := Lib.hid hW0
  clear hW0 hbw
  go_wp2_with fail
  go_loopw [15] (fun i wr => ∃ k : Nat, k ≤ np ∧ i = .int .i64 k ∧ Lib.IsBuilder 175 5 (w.heap.size + 1) (w.heap.size + 1) (Lib.byteCells (pathK c xs k)) wr ∧ Below (w.heap.size + 1) W0 wr) (fun i _ => np - (intOf i).toNat)
  case atStart => exact ⟨0, Nat.zero_le _, rfl, hB1', hb1⟩
  case round =>
    clear a0 a1 a2 hb1 hB1' w1
    obtain ⟨k, hk, rfl, hB, hb⟩ := hrel
    have hb' := hb
    rw [HW0.out] at hb'
    obtain ⟨a0, a1, a2, hbw⟩ := boxed3 hb'
    clear hb'
    by_cases hlt : k < np
    · have hPr := HP.out.keep hbw
      obtain ⟨pb, po, u, rfl, hu, hcell⟩ := hPr.at_ hlt
      clear hPr
      obtain ⟨x, hx, rfl⟩ : ∃ x, xs[k]? = some x ∧ u = .string x := strs_at hu
      clear hu
      have hsz := pathK_le c xs qs (k + 1)
      rw [pathK_succ c xs k x hx] at hsz
      have hT := HT.out
      simp only [List.length_append, List.length_cons, ← Lib.size_eq] at hsz
      have hxs : x.size ≤ 1000000000 := by omega
      have hlen : (Lib.byteCells (pathK c xs k)).length + (⟨#[47]⟩ ++ x : ByteArray).size ≤ 140737488355328 := by rw [Lib.byteCells_length, ByteArray.size_append, show (⟨#[47]⟩ : ByteArray).size = 1 from rfl]; omega
      clear hT hsz
      have HX := Lib.hid hx; clear hx
      go_wp2_with fail
      refine (writeString_any (w.heap.size + 1) (w.heap.size + 1) _ _ _ hB hlen (by have := hb.size; rw [HW0.out] at this; simp at this; omega)).mono ?_
      rintro e w2 ⟨rfl, hB2, hb2⟩
      go_wp2_with fail
      refine ⟨⟨k + 1, by omega, by go_num, ?_, hb.trans hb2⟩, by simp [intOf]; omega⟩
      rw [pathK_succ c xs k x HX.out, byteCells_app, ← slash_cells]
      exact .inr hB2
    · obtain rfl : k = np := by omega
      rw [pathK_all c xs qs k hnp.2] at hB
      clear hlt
      go_wp2_with fail
      clear a0 a1 a2 hbw
      go_loopw [6, 26] (fun s i wr => ∃ k : Nat, k ≤ nq ∧ i = .int .i64 k ∧ s = .string (sepK k) ∧ Lib.IsBuilder 175 5 (w.heap.size + 1) (w.heap.size + 1) (Lib.byteCells (queryK c xs qs k)) wr ∧ Below (w.heap.size + 1) W0 wr) (fun _ i _ => nq - (intOf i).toNat)
      case atStart => exact ⟨0, Nat.zero_le _, rfl, rfl, hB, hb⟩
      case round =>
        clear hB hb
        obtain ⟨k2, hk2, rfl, rfl, hB, hb⟩ := hrel
        have hb' := hb
        rw [HW0.out] at hb'
        obtain ⟨a0, a1, a2, hbw⟩ := boxed3 hb'
        clear hb'
        by_cases hlt : k2 < nq
        · have hQr := HQ.out.keep hbw
          obtain ⟨pb, po, rfl, hcell⟩ := hQr.2 (by omega)
          clear hQr
          have hql : k2 < qs.length := by omega
          obtain ⟨q, hq⟩ : ∃ q, qs[k2]? = some q := ⟨_, List.getElem?_eq_getElem hql⟩
          obtain ⟨e1, e2⟩ := pairCells_at qs k2 q hq
          have hc1 : wr.cell? ⟨pb, po + k2 * 2, none⟩ = _ := hcell _ _ e1
          have hc2 : wr.cell? ⟨pb, po + k2 * 2 + 1, none⟩ = _ := hcell _ _ e2
          clear hcell e1 e2
          have hsz := queryK_le c xs qs (k2 + 1)
          rw [queryK_succ c xs qs k2 q hq] at hsz
          have hT := HT.out
          have hs1 : (sepK k2).size = 1 := by unfold sepK; split <;> rfl
          simp only [List.length_append, ← Lib.size_eq] at hsz
          have hlen : (Lib.byteCells (queryK c xs qs k2)).length + ((sepK k2) ++ q.1 ++ ⟨#[61]⟩ ++ q.2 : ByteArray).size ≤ 140737488355328 := by
            simp only [Lib.byteCells_length, ByteArray.size_append, show (⟨#[61]⟩ : ByteArray).size = 1 from rfl]; omega
          have hq1 : q.1.size ≤ 1000000000 ∧ q.2.size ≤ 1000000000 := by omega
          have hs2 : (sepK k2).size ≤ 1 := by omega
          clear hT hsz hs1
          have HX := Lib.hid hq; clear hq
          obtain ⟨q1, q2⟩ := q
          dsimp only at hc1 hc2 hlen hq1 HX
          obtain ⟨hq1, hq2⟩ := hq1
          go_wp2_with fail
          refine (writeString_any (w.heap.size + 1) (w.heap.size + 1) _ _ _ (isBuilder_alloc hB _) hlen (by have := hb.size; rw [HW0.out] at this; simp at this; simp; omega)).mono ?_
          rintro e w2 ⟨rfl, hB2, hb2⟩
          go_wp2_with fail
          refine ⟨⟨k2 + 1, by omega, by go_num, by simp [sepK], ?_, (hb.alloc (by have := hb.size; rw [HW0.out] at this; simp at this; omega) _).trans hb2⟩, by simp [intOf]; omega⟩
          rw [queryK_succ c xs qs k2 _ HX.out, byteCells_app, ← pair_cells]
          exact .inr hB2
        · obtain rfl : k2 = nq := by omega
          rw [queryK_all c xs qs k2 hnq.2] at hB
          go_wp2_with fail
          refine (Tryz.Builder_String_any (w.heap.size + 1) (w.heap.size + 1) (W06 c xs qs) _ hB (by have := hb.size; rw [HW0.out] at this; simp at this; omega)).mono ?_
          rintro e w2 ⟨rfl, hb2⟩
          go_wp2_with fail
          go_ret
          exact ⟨rfl, hbw.trans (hb2.mono (by omega))⟩
end Go.Proofs.YtjhlpkhfdghngaaGreatDoor
