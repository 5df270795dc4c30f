/- Plain: sets in ascending order, countries, sites. -/
import Derived.Test.YtdlbfjoemabfpaaGreatDoorEZ1
import Derived.Test.YtdlbfjoemabfpaaGreatDoorProg
import Derived.WalkKit
import Derived.WalkSpells
import Derived.WalkLawsBesides
import Derived.Below
import Derived.Deep.QuietTactic
import Derived.BigQuiet
import Derived.Lib.QuietBelow
import Derived.Lib.Strings
import Derived.Lib.Hide
import Derived.Deep.RegionWith
import Derived.Deep.RegionHeld3
import Derived.Lib.IndexBytes
import Derived.LoopTactic
import Derived.Maps.Views
import Derived.Sort.KeysCollected
import Derived.Sort.Walk0
import Derived.Test.YtdlbfjoemabfpaaGreatDoorEZ0
import Derived.RangeFuncNested
import Derived.RangeFuncBound
import Derived.RangeFuncCalls
import Derived.RangeFuncLeaves
import Derived.RangeFuncWrites
import Derived.OwnWalkIn
import Derived.TacticsInMore
import Derived.LoopNIn
import Derived.LoopIn
import Derived.Shelf.Abstract
import Derived.Shelf.RegionOpen
namespace Go.Proofs.YtdlbfjoemabfpaaGreatDoor
open Go.RowKit Go.Sort
set_option linter.unusedVariables false
set_option linter.unusedSimpArgs false
set_option maxRecDepth 100000
section
variable {α : Type}
def okK (lt : α → α → Bool) (right : α → Bool) (l : List α) (k : Nat) : Bool := match l[k]? with
  | none => true
  | some x => right x && (k == 0 || (match l[k - 1]? with
    | none => true
    | some y => lt y x))
def setB (lt : α → α → Bool) (right : α → Bool) (most : Nat) (l : List α) : Bool := (List.range l.length).all (okK lt right l) && decide (l.length ≤ most)
end
def ltB (a b : ByteArray) : Bool := decide (a.data.toList < b.data.toList)
def ltI (a b : Int) : Bool := decide (a < b)
def countryB (s : ByteArray) : Bool := decide (s.size = 2) && s.data.toList.all fun b => decide (97 ≤ b.toNat ∧ b.toNat ≤ 122)
def siteB (n : Int) : Bool := decide (0 ≤ n ∧ n < 64)
structure CondV where
  fr : Int
  till : Int
  pat : ByteArray
  cl : List ByteArray
  co : List ByteArray
  si : List Int
  us : Int
def zeroC : CondV := ⟨0, 0, ⟨#[]⟩, [], [], [], 0⟩
end Go.Proofs.YtdlbfjoemabfpaaGreatDoor
namespace Go.Proofs.YtdlbfjoemabfpaaGreatDoor
open Go.RowKit Go.Sort
set_option linter.unusedVariables false
set_option linter.unusedSimpArgs false
def idxFrom (p : ByteArray → Bool) : List ByteArray → Nat → Int
  | [], _ => -1
  | x :: r, k => if p x then k else idxFrom p r (k + 1)
theorem idxFrom_any (p : ByteArray → Bool) : ∀ (l : List ByteArray) (k : Nat), decide (0 ≤ idxFrom p l k) = l.any p
  | [], k => by simp [idxFrom]
  | x :: r, k => by
    unfold idxFrom
    cases h : p x
    · simp [h, idxFrom_any p r (k + 1)]
    · simp [h]
theorem strs_at {xs : List ByteArray} {k : Nat} {u : Value} (h : (xs.map Value.string)[k]? = some u) : ∃ x, xs[k]? = some x ∧ u = .string x := by
  rw [List.getElem?_map, Option.map_eq_some_iff] at h
  obtain ⟨x, hx, rfl⟩ := h
  exact ⟨x, hx, rfl⟩
set_option maxHeartbeats 1000000 in
theorem indexFunc_any (g : Nat) (eg : ∀ args w, (callFunc g args).run Tryz.prog w = .ok (.enter g args) w) (p : ByteArray → Bool) (A : Option Addr) (n c : Nat) (xs : List ByteArray) (w : World)
    (hp : ∀ x ∈ xs, ∀ W, Calls Tryz.prog g #[.string x] W (Ret W (.bool (p x)))) (hA : Reads w 1 A n (xs.map .string)) (hn : n ≤ 1000000000) :
    Calls Tryz.prog 115 #[.slice A n c, .func (.func g) #[] #[]] w (Ret w (.int .i64 (idxFrom p xs 0))) := by
  have hl : n ≤ xs.length ∧ xs.length ≤ n := by have := hA.1; simp at this; omega
  have HP := Lib.hid hp; have HA := Lib.hid hA
  clear hp hA
  go_enter Tryz.func115, Tryz.ntmps115
  go_wp2
  go_loopw [8] (fun i wr => ∃ k : Nat, k ≤ n ∧ i = .int .i64 k ∧ Hid (idxFrom p xs 0 = idxFrom p (xs.drop k) k) ∧ Below w.heap.size w wr) (fun i _ => n - (intOf i).toNat)
  case atStart => exact ⟨0, by omega, rfl, Lib.hid rfl, Below.refl _ _⟩
  case round =>
    obtain ⟨k, hk, rfl, HI, hb⟩ := hrel
    by_cases hlt : k < n
    · obtain ⟨pb, po, u, rfl, hu, hcell⟩ := (HA.out.keep hb).at_ hlt
      obtain ⟨x, hx, rfl⟩ := strs_at hu
      clear hu
      have hc := fun W => HP.out x (List.mem_of_getElem? hx) W
      have hd : xs.drop k = x :: xs.drop (k + 1) := by
        obtain ⟨hl2, rfl⟩ := List.getElem?_eq_some_iff.1 hx
        exact List.drop_eq_getElem_cons hl2
      have HI2 := HI.out
      rw [hd, idxFrom] at HI2
      clear hd hx HI
      have HI := Lib.hid HI2
      clear HI2
      cases hpx : p x
      all_goals
        rw [hpx] at hc HI
        have HC := Lib.hid hc
        clear hc hpx
        go_wp2_with (go_at_fn g; refine (HC.out _).mono ?_; rintro e w2 ⟨rfl, hb2⟩)
      · refine ⟨⟨k + 1, by omega, by go_num, Lib.hid (by have := HI.out; simpa using this), bstep hb hb2⟩, by simp [intOf]; omega⟩
      · go_ret
        have := HI.out
        exact ⟨ret_int (by rw [this]; simp), bstep hb hb2⟩
    · have he : idxFrom p xs 0 = -1 := by rw [HI.out, List.drop_eq_nil_of_le (by omega)]; rfl
      have HE := Lib.hid he
      clear he HI
      go_wp2
      go_ret
      exact ⟨ret_int HE.out.symm, hb⟩
theorem containsFunc_any (g : Nat) (eg : ∀ args w, (callFunc g args).run Tryz.prog w = .ok (.enter g args) w) (p : ByteArray → Bool) (A : Option Addr) (n c : Nat) (xs : List ByteArray) (w : World)
    (hp : ∀ x ∈ xs, ∀ W, Calls Tryz.prog g #[.string x] W (Ret W (.bool (p x)))) (hA : Reads w 1 A n (xs.map .string)) (hn : n ≤ 1000000000) :
    Calls Tryz.prog 66 #[.slice A n c, .func (.func g) #[] #[]] w (Ret w (.bool (xs.any p))) := by
  rw [← idxFrom_any p xs 0]
  have H := Lib.hid (indexFunc_any g eg p A n c xs w hp hA hn)
  clear hp hA
  generalize idxFrom p xs 0 = r at H ⊢
  go_enter Tryz.func66, Tryz.ntmps66
  go_wp2_with (go_at_call 115; refine H.out.mono ?_; rintro e w2 ⟨rfl, hb2⟩)
  go_ret
  exact ⟨rfl, hb2⟩
theorem notWord_any (x : ByteArray) (w : World) (hx : x.size ≤ 4294967281) : Calls Tryz.prog 239 #[.string x] w (Ret w (.bool (!isWordB x))) := by
  go_enter Tryz.func239, Tryz.ntmps239
  go_wp2_with (go_at_call 121; refine (isWord_any x _ hx).mono ?_; rintro e w1 ⟨rfl, hb1⟩)
  go_ret
  exact ⟨rfl, belB⟩
theorem notName_any (x : ByteArray) (w : World) (hx : x.size ≤ 4294967281) : Calls Tryz.prog 73 #[.string x] w (Ret w (.bool (!isNameB x))) := by
  go_enter Tryz.func73, Tryz.ntmps73
  go_wp2_with (go_at_call 74; refine (isName_any x _ hx).mono ?_; rintro e w1 ⟨rfl, hb1⟩)
  go_ret
  exact ⟨rfl, belB⟩
end Go.Proofs.YtdlbfjoemabfpaaGreatDoor
namespace Go.Proofs.YtdlbfjoemabfpaaGreatDoor
open Go.Maps Go.Sort
set_option linter.unusedVariables false
def insL : List (List UInt8 × List UInt8) → List UInt8 × List UInt8 → List (List UInt8 × List UInt8)
  | [], p => [p]
  | q :: r, p => if p.1 = q.1 then p :: r else if p.1 < q.1 then p :: q :: r else q :: insL r p
def pairsL (qs : List (List UInt8 × List UInt8)) : List (List UInt8 × List UInt8) := qs.foldl insL []
def SortedK (l : List (List UInt8 × List UInt8)) : Prop := l.Pairwise fun a b => a.1 < b.1
theorem lt_tri (a b : List UInt8) (h1 : a ≠ b) (h2 : ¬ a < b) : b < a := by
  rcases Decidable.em (b < a) with h | h
  · exact h
  · exact absurd (List.le_antisymm (List.not_lt.1 h) (List.not_lt.1 h2)) h1
theorem mem_insL (p : List UInt8 × List UInt8) : ∀ (l : List (List UInt8 × List UInt8)), SortedK l → ∀ x, x ∈ insL l p ↔ x = p ∨ (x ∈ l ∧ x.1 ≠ p.1)
  | [], _, x => by simp [insL]
  | q :: r, h, x => by
    have hr := List.pairwise_cons.1 h
    unfold insL
    by_cases e : p.1 = q.1
    · rw [if_pos e]
      simp only [List.mem_cons]
      constructor
      · rintro (h1 | h1)
        · exact .inl h1
        · exact .inr ⟨.inr h1, fun e2 => List.lt_irrefl _ (by have := hr.1 x h1; rw [e2, e] at this; exact this)⟩
      · rintro (h1 | ⟨h1 | h1, h2⟩)
        · exact .inl h1
        · subst h1; exact absurd e.symm h2
        · exact .inr h1
    · rw [if_neg e]
      by_cases e2 : p.1 < q.1
      · rw [if_pos e2]
        simp only [List.mem_cons]
        constructor
        · rintro (h1 | h1 | h1)
          · exact .inl h1
          · subst h1; exact .inr ⟨.inl rfl, fun h => e h.symm⟩
          · exact .inr ⟨.inr h1, fun h => List.lt_irrefl _ (by have := List.lt_trans e2 (hr.1 x h1); rw [h] at this; exact this)⟩
        · rintro (h1 | ⟨h1 | h1, _⟩)
          · exact .inl h1
          · exact .inr (.inl h1)
          · exact .inr (.inr h1)
      · rw [if_neg e2, List.mem_cons, mem_insL p r hr.2 x, List.mem_cons]
        constructor
        · rintro (h1 | h1 | ⟨h1, h2⟩)
          · subst h1; exact .inr ⟨.inl rfl, fun h => e h.symm⟩
          · exact .inl h1
          · exact .inr ⟨.inr h1, h2⟩
        · rintro (h1 | ⟨h1 | h1, h2⟩)
          · exact .inr (.inl h1)
          · exact .inl h1
          · exact .inr (.inr ⟨h1, h2⟩)
theorem sorted_insL (p : List UInt8 × List UInt8) : ∀ (l : List (List UInt8 × List UInt8)), SortedK l → SortedK (insL l p)
  | [], _ => List.pairwise_singleton _ _
  | q :: r, h => by
    have hr := List.pairwise_cons.1 h
    unfold insL
    by_cases e : p.1 = q.1
    · rw [if_pos e]
      exact List.pairwise_cons.2 ⟨fun x hx => e ▸ hr.1 x hx, hr.2⟩
    · rw [if_neg e]
      by_cases e2 : p.1 < q.1
      · rw [if_pos e2]
        refine List.pairwise_cons.2 ⟨fun x hx => ?_, h⟩
        rcases List.mem_cons.1 hx with rfl | hx
        · exact e2
        · exact List.lt_trans e2 (hr.1 x hx)
      · rw [if_neg e2]
        refine List.pairwise_cons.2 ⟨fun x hx => ?_, sorted_insL p r hr.2⟩
        rcases (mem_insL p r hr.2 x).1 hx with rfl | ⟨hx, _⟩
        · exact lt_tri _ _ e e2
        · exact hr.1 x hx
def mapD (qs : List (List UInt8 × List UInt8)) : DataW Unit := qs.foldl (fun D q => D.put (.string q.1) (.lit (.string q.2))) (.map [])
def Good (D : DataW Unit) (l : List (List UInt8 × List UInt8)) : Prop :=
  Tidy D ∧ (∃ es, D = .map es ∧ ∀ p ∈ es, ∃ x, p.1 = .string x) ∧ SortedK l ∧ (∀ x, (∃ v, (x, v) ∈ l) ↔ has D (.string x) = true) ∧ ∀ k v, (k, v) ∈ l → ∀ z, D.atKey (.string k) z = .lit (.string v)
theorem good_put {D : DataW Unit} {l : List (List UInt8 × List UInt8)} (h : Good D l) (k v : List UInt8) : Good (D.put (.string k) (.lit (.string v))) (insL l (k, v)) := by
  obtain ⟨h1, ⟨es, rfl, he⟩, h3, h4, h5⟩ := h
  have hk : WideAt.IsKeyLit (.string k) := trivial
  refine ⟨h1.put hk _, ⟨_, rfl, ?_⟩, sorted_insL _ _ h3, fun x => ?_, fun k' v' hm z => ?_⟩
  · intro p hp
    rcases List.mem_cons.1 ((WideShapes.insert_perm _ _).mem_iff.1 hp) with rfl | hp
    · exact ⟨k, rfl⟩
    · exact he p (List.mem_filter.1 hp).1
  · by_cases e : x = k
    · subst e
      rw [has_put_same h1.isMap hk]
      exact ⟨fun _ => rfl, fun _ => ⟨v, (mem_insL _ _ h3 _).2 (.inl rfl)⟩⟩
    · rw [has_put_other (by intro h; injection h with h; exact e h), ← h4 x]
      constructor
      · rintro ⟨v', hv⟩
        rcases (mem_insL _ _ h3 _).1 hv with h | ⟨h, _⟩
        · injection h with h _; exact absurd h e
        · exact ⟨v', h⟩
      · rintro ⟨v', hv⟩
        exact ⟨v', (mem_insL _ _ h3 _).2 (.inr ⟨hv, e⟩)⟩
  · rcases (mem_insL _ _ h3 _).1 hm with h | ⟨h, hne⟩
    · injection h with e1 e2
      subst e1; subst e2
      exact atKey_put_same h1.isMap hk _ _
    · rw [atKey_put_other (by intro h; injection h with h; exact hne h)]
      exact h5 k' v' h z
theorem good_empty : Good (.map []) [] := ⟨tidy_empty, ⟨[], rfl, by simp⟩, List.Pairwise.nil, by simp [has], by simp⟩
theorem good_fold : ∀ (qs : List (List UInt8 × List UInt8)) (D : DataW Unit) (l : List (List UInt8 × List UInt8)), Good D l → Good (qs.foldl (fun D q => D.put (.string q.1) (.lit (.string q.2))) D) (qs.foldl insL l)
  | [], _, _, h => h
  | q :: qs, D, l, h => good_fold qs _ _ (good_put h q.1 q.2)
theorem good_pairs (qs : List (List UInt8 × List UInt8)) : Good (mapD qs) (pairsL qs) := good_fold qs _ _ good_empty
theorem sorted_keys (qs : List (List UInt8 × List UInt8)) (ss : List (List UInt8)) (h : ss.Perm (strKeys (mapD qs))) : ss.mergeSort (fun x y => decide (x ≤ y)) = (pairsL qs).map (·.1) := by
  obtain ⟨h1, ⟨es, he, hs⟩, h3, h4, h5⟩ := good_pairs qs
  have hnd : ((pairsL qs).map (·.1)).Nodup := by
    refine List.pairwise_map.2 (h3.imp ?_)
    intro a b hlt e
    rw [e] at hlt
    exact List.lt_irrefl _ hlt
  have hp : ((pairsL qs).map (·.1)).Perm (strKeys (mapD qs)) := by
    obtain ⟨es', he', hp'⟩ := h1
    rw [he]
    refine perm_strKeys (by rw [he] at he'; injection he' with he'; rw [he']; exact hp') hs hnd fun x => ?_
    rw [← he, ← h4 x]
    simp
  have := mergeSort_of_perm (h.trans hp.symm)
  rw [show (fun x y : List UInt8 => decide (x ≤ y)) = leB from rfl, this]
  have tr : ∀ a b c : List UInt8, leB a b = true → leB b c = true → leB a c = true := fun a b c h1 h2 => by simp only [leB, decide_eq_true_eq] at *; exact List.le_trans h1 h2
  have tt : ∀ a b : List UInt8, (leB a b || leB b a) = true := fun a b => by simp only [leB, Bool.or_eq_true, decide_eq_true_eq]; exact List.le_total a b
  refine List.Perm.eq_of_pairwise (le := fun a b => leB a b = true) (fun a b _ _ h1 h2 => ?_) (List.pairwise_mergeSort tr tt _) ?_ (List.mergeSort_perm _ leB)
  · simp only [leB, decide_eq_true_eq] at h1 h2
    exact List.le_antisymm h1 h2
  · refine List.pairwise_map.2 (h3.imp fun {a b} hlt => ?_)
    simp only [leB, decide_eq_true_eq]
    exact List.not_lt.1 fun h => List.lt_irrefl _ (List.lt_trans h hlt)
end Go.Proofs.YtdlbfjoemabfpaaGreatDoor
namespace Go.Proofs.YtdlbfjoemabfpaaGreatDoor
open Go.RowKit Go.Sort
set_option linter.unusedVariables false
set_option linter.unusedSimpArgs false
set_option maxRecDepth 100000
theorem isSite_any (n : Int) (w : World) : Calls Tryz.prog 89 #[.int .i64 n] w (Ret w (.bool (siteB n))) := by
  by_cases h0 : 0 ≤ n
  · by_cases h1 : n < 64
    · have hv : siteB n = true := decide_eq_true ⟨h0, h1⟩
      have d0 : decide (0 ≤ n) = true := decide_eq_true h0
      have d1 : decide (n < 64) = true := decide_eq_true h1
      rw [hv]
      go_enter Tryz.func89, Tryz.ntmps89
      go_wp2
      go_ret
      exact ⟨rfl, belB⟩
    · have hv : siteB n = false := decide_eq_false (fun h => h1 h.2)
      have d0 : decide (0 ≤ n) = true := decide_eq_true h0
      have d1 : decide (n < 64) = false := decide_eq_false h1
      rw [hv]
      go_enter Tryz.func89, Tryz.ntmps89
      go_wp2
      go_ret
      exact ⟨rfl, belB⟩
  · have hv : siteB n = false := decide_eq_false (fun h => h0 h.1)
    have d0 : decide (0 ≤ n) = false := decide_eq_false h0
    rw [hv]
    go_enter Tryz.func89, Tryz.ntmps89
    go_wp2
    go_ret
    exact ⟨rfl, belB⟩
theorem two_bytes (s : ByteArray) (h : s.size = 2) : s.data.toList = [s[0]'(by omega), s[1]'(by omega)] := by
  have hl : s.data.toList.length = 2 := by rw [← Lib.size_eq]; exact h
  refine List.ext_getElem (by simpa using hl) fun i h1 h2 => ?_
  have hi : i < 2 := by omega
  rcases i with _ | _ | i
  · rfl
  · rfl
  · omega
theorem country_two (s : ByteArray) (h : s.size = 2) : countryB s = (decide ((97 : Int) ≤ min ((s[0]'(by omega)).toNat : Int) ((s[1]'(by omega)).toNat : Int)) && decide (max ((s[0]'(by omega)).toNat : Int) ((s[1]'(by omega)).toNat : Int) ≤ 122)) := by
  unfold countryB
  rw [decide_eq_true h, Bool.true_and, two_bytes s h]
  simp only [List.all_cons, List.all_nil, Bool.and_true]
  rw [Bool.eq_iff_iff]
  simp only [Bool.and_eq_true, decide_eq_true_eq]
  omega
set_option maxHeartbeats 1000000 in
theorem isCountry_any (s : ByteArray) (w : World) (hs : s.size ≤ 4294967281) : Calls Tryz.prog 87 #[.string s] w (Ret w (.bool (countryB s))) := by
  by_cases h2 : s.size = 2
  · have d2 : ((s.size : Int) == 2) = true := by simp; omega
    have hv := country_two s h2
    have q0 : (0 : Int) < (s.size : Int) := by omega
    have q1 : (1 : Int) < (s.size : Int) := by omega
    rw [hv]
    clear hv
    cases e1 : decide ((97 : Int) ≤ min ((s[0]'(by omega)).toNat : Int) ((s[1]'(by omega)).toNat : Int))
    · go_enter Tryz.func87, Tryz.ntmps87
      go_wp2_with fail
      go_quiet (fail)
      go_wp2
      go_ret
      exact ⟨rfl, belB⟩
    · generalize e2 : decide (max ((s[0]'(by omega)).toNat : Int) ((s[1]'(by omega)).toNat : Int) ≤ 122) = b2
      go_enter Tryz.func87, Tryz.ntmps87
      go_wp2_with fail
      go_quiet (fail)
      go_wp2
      go_ret
      exact ⟨ret_bool (by simp), belB⟩
  · have d2 : ((s.size : Int) == 2) = false := beq_eq_false_iff_ne.2 (by omega)
    have hv : countryB s = false := by unfold countryB; rw [decide_eq_false h2]; rfl
    rw [hv]
    go_enter Tryz.func87, Tryz.ntmps87
    go_wp2_with fail
    go_quiet (fail)
    go_wp2
    go_ret
    exact ⟨rfl, belB⟩
theorem key_less2 (a b : ByteArray) : (!(Op.bytesLess a.toList b.toList || a.toList == b.toList)) = decide (b.data.toList < a.data.toList) := by
  rw [bytesLess_eq, Lib.toList_data, Lib.toList_data, Bool.eq_iff_iff]
  simp only [Bool.not_eq_true', Bool.or_eq_false_iff, decide_eq_false_iff_not, beq_eq_false_iff_ne, decide_eq_true_eq]
  constructor
  · rintro ⟨h1, h2⟩; exact lt_tri _ _ h2 h1
  · intro h
    exact ⟨fun h1 => List.lt_irrefl _ (List.lt_trans h h1), fun e => List.lt_irrefl _ (by rw [e] at h; exact h)⟩
theorem le_prev (x y : ByteArray) : (Op.bytesLess x.toList y.toList || x.toList == y.toList) = !ltB y x := by
  have := key_less2 x y
  unfold ltB
  rw [← this, Bool.not_not]
theorem okK_upto {α : Type} {lt : α → α → Bool} {right : α → Bool} {l : List α} {k : Nat} (h : (List.range k).all (okK lt right l) = true) (h2 : okK lt right l k = true) : (List.range (k + 1)).all (okK lt right l) = true := by
  rw [List.range_succ, List.all_append, h]; simp [h2]
theorem okK_fail {α : Type} {lt : α → α → Bool} {right : α → Bool} {l : List α} {k most : Nat} (hk : k < l.length) (h2 : okK lt right l k = false) : setB lt right most l = false := by
  unfold setB
  have : (List.range l.length).all (okK lt right l) = false := by
    rw [List.all_eq_false]
    exact ⟨k, by simpa using hk, by rw [h2]; simp⟩
  rw [this]; rfl
set_option maxHeartbeats 2000000 in
theorem isSetS_any (g : Nat) (eg : ∀ args w, (callFunc g args).run Tryz.prog w = .ok (.enter g args) w) (right : ByteArray → Bool) (A : Option Addr) (n c : Nat) (xs : List ByteArray) (most : Nat) (w : World)
    (hp : ∀ x ∈ xs, ∀ W, Env W → Calls Tryz.prog g #[.string x] W (Ret W (.bool (right x)))) (hA : Reads w 1 A n (xs.map .string)) (hn : n ≤ 1000000000) (hm : most ≤ 1000000) (hE : Env w) :
    Calls Tryz.prog 85 #[.slice A n c, .int .i64 most, .func (.func g) #[] #[]] w (Ret w (.bool (setB ltB right most xs))) := by
  have hl : xs.length = n := by have := hA.1; simp at this; omega
  have HP := Lib.hid hp; have HA := Lib.hid hA; have HL := Lib.hid hl; have HE := Lib.hid hE
  obtain ⟨V, hV⟩ : ∃ V, V = setB ltB right most xs := ⟨_, rfl⟩
  rw [← hV]
  have HV := Lib.hid hV
  clear hp hA hl hE hV
  go_enter Tryz.func85, Tryz.ntmps85
  go_wp2
  go_loopw [11] (fun i wr => ∃ k : Nat, k ≤ n ∧ i = .int .i64 k ∧ Hid ((List.range k).all (okK ltB right xs) = true) ∧ Below w.heap.size w wr) (fun i _ => n - (intOf i).toNat)
  case atStart => exact ⟨0, by omega, rfl, Lib.hid rfl, Below.refl _ _⟩
  case round =>
    obtain ⟨k, hk, rfl, HK, hb⟩ := hrel
    by_cases hlt : k < n
    · obtain ⟨x, hx⟩ : ∃ x, xs[k]? = some x := ⟨_, List.getElem?_eq_getElem (by have := HL.out; omega)⟩
      obtain ⟨pb, po, rfl, hcell⟩ := (HA.out.keep hb).2 (by omega)
      have hc1 : wr.cell? ⟨pb, po + k, none⟩ = some (.string x) := hcell k _ (by simp [hx])
      have hc := fun W h => HP.out x (List.mem_of_getElem? hx) W h
      have hok : okK ltB right xs k = (right x && (k == 0 || (match xs[k - 1]? with
        | none => true
        | some y => ltB y x))) := by unfold okK; rw [hx]; cases xs[k - 1]? <;> rfl
      have hfail : okK ltB right xs k = false → V = false := fun h => by rw [HV.out]; exact okK_fail (by have := HL.out; omega) h
      cases hr : right x
      · have hVf : V = false := hfail (by rw [hok, hr]; rfl)
        rw [hr] at hc
        have HC := Lib.hid hc
        clear hc hr hok hfail hcell hx
        subst hVf
        go_wp2_with (go_at_fn g; refine (HC.out _ (Env.keep HE.out belB)).mono ?_; rintro e w2 ⟨rfl, hb2⟩)
        go_ret
        exact ⟨rfl, belB⟩
      · rw [hr] at hc
        have HC := Lib.hid hc
        rcases k with _ | j
        · have HK2 : Hid ((List.range (0 + 1)).all (okK ltB right xs) = true) := Lib.hid (okK_upto HK.out (by rw [hok, hr]; rfl))
          simp only [Nat.add_zero] at hc1
          clear hc hr hok hfail hcell hx
          go_wp2_with (go_at_fn g; refine (HC.out _ (Env.keep HE.out belB)).mono ?_; rintro e w2 ⟨rfl, hb2⟩)
          exact ⟨⟨1, by omega, by go_num, HK2, belB⟩, by simp [intOf]; omega⟩
        · obtain ⟨y, hy⟩ : ∃ y, xs[j]? = some y := ⟨_, List.getElem?_eq_getElem (by have := HL.out; omega)⟩
          have hc2 : wr.cell? ⟨pb, po + j, none⟩ = some (.string y) := hcell j _ (by simp [hy])
          have hle := le_prev x y
          rw [Nat.add_sub_cancel, hy] at hok
          have hok : okK ltB right xs (j + 1) = ltB y x := by rw [hok, hr]; simp
          have hj0 : (0 : Int) ≤ (j : Int) := by omega
          have hj1 : (j : Int) < (n : Int) := by omega
          cases ht : ltB y x
          · have hVf : V = false := hfail (by rw [hok, ht])
            rw [ht] at hle
            clear hc hr hok hfail hcell hx hy
            subst hVf
            go_wp2_with (go_at_fn g; refine (HC.out _ (Env.keep HE.out belB)).mono ?_; rintro e w2 ⟨rfl, hb2⟩; have hc3 := cell_keep hb2 hc2)
            go_ret
            exact ⟨rfl, belB⟩
          · have HK2 : Hid ((List.range (j + 1 + 1)).all (okK ltB right xs) = true) := Lib.hid (okK_upto HK.out (by rw [hok, ht]))
            rw [ht] at hle
            clear hc hr hok hfail hcell hx hy
            go_wp2_with (go_at_fn g; refine (HC.out _ (Env.keep HE.out belB)).mono ?_; rintro e w2 ⟨rfl, hb2⟩; have hc3 := cell_keep hb2 hc2)
            exact ⟨⟨j + 1 + 1, by omega, by go_num, HK2, belB⟩, by simp [intOf]; omega⟩
    · obtain rfl : k = n := by omega
      have hv : V = decide (k ≤ most) := by rw [HV.out]; unfold setB; rw [HL.out, HK.out]; rfl
      by_cases hm2 : k ≤ most
      · rw [decide_eq_true hm2] at hv
        have d1 : decide ((k : Int) ≤ (most : Int)) = true := decide_eq_true (by omega)
        have d1' : decide (k ≤ most) = true := decide_eq_true hm2
        subst hv
        go_wp2
        go_ret
        exact ⟨rfl, hb⟩
      · rw [decide_eq_false hm2] at hv
        have d1 : decide ((k : Int) ≤ (most : Int)) = false := decide_eq_false (by omega)
        have d1' : decide (k ≤ most) = false := decide_eq_false hm2
        subst hv
        go_wp2
        go_ret
        exact ⟨rfl, hb⟩
end Go.Proofs.YtdlbfjoemabfpaaGreatDoor
namespace Go.Proofs.YtdlbfjoemabfpaaGreatDoor
open Go.RowKit Go.Sort
set_option linter.unusedVariables false
set_option linter.unusedSimpArgs false
def KeepsIn (lo hi : Nat) (W W' : World) : Prop := ∀ k, lo ≤ k → k < hi → W'.heap[k]? = W.heap[k]?
theorem KeepsIn.refl (lo hI0 : Nat) (W : World) : KeepsIn lo hI0 W W := fun _ _ _ => rfl
theorem KeepsIn.trans {lo hi : Nat} {A B C : World} (h : KeepsIn lo hi A B) (k : KeepsIn lo hi B C) : KeepsIn lo hi A C := fun i h1 h2 => (k i h1 h2).trans (h i h1 h2)
theorem Below.keepsIn {B lo hI0 : Nat} {W W' : World} (h : Below B W W') (hh : hI0 ≤ B) : KeepsIn lo hI0 W W' := fun k _ h2 => h.block k (by omega)
def Iter (P : Program) (gf : Nat) (lb : Array Value) (xs : List Value) (T : World → World → Prop) (lo hI0 : Nat) (w : World) : Prop :=
  ∀ (l : Nat) (J : Nat → World → Prop) (Jx : World → Prop) (W : World), Below w.heap.size w W → AbidesFrom W.heap.size J → (∀ k W W', J k W → T W W' → J k W') →
    (∀ k x W1, xs[k]? = some x → J k W1 → YieldAt Fence.wide 0 P l #[x] W1 fun e W' =>
      (e = .returned (.bool true) ∧ J (k + 1) W' ∧ KeepsIn lo hI0 W1 W') ∨ (e = .returned (.bool false) ∧ Jx W')) →
    J 0 W →
    CallsIn Fence.wide 0 P gf (#[.func (.yield l) #[] #[]] ++ lb) W fun e W' => (∃ v, e = .returned v) ∧ (J xs.length W' ∨ Jx W')
def roundPostI (B lo hI0 : Nat) (I : Nat → World → Prop) (Ix : Code → World → Prop) (k : Nat) (W : World) : Exit → Act → World → Prop
  | .normal, _, W' => KeepsFrom B W W' ∧ KeepsIn lo hI0 W W' ∧ I k W'
  | .ret, _, W' => KeepsFrom B W W' ∧ Ix .ret W'
  | .exit id, _, W' => KeepsFrom B W W' ∧ Ix (.exit id) W'
  | .goto t, _, W' => KeepsFrom B W W' ∧ Ix (.goto t) W'
  | .panic _, _, _ => False
  | .outgrown, _, _ => False
theorem range_law {P : Program} {g : Operand} {p : Tmp} {assign body : Code} {Q : Exit → Act → World → Prop} {a : Act} {w : World}
    {gf : Nat} {lb : Array Value} (hg : a.eval g = .func (.func gf) #[] lb) (eg : ∀ args w, (callFunc gf args).run P w = .ok (.enter gf args) w)
    {xs : List Value} {T : World → World → Prop} {lo hI0 : Nat} {w0 : World} (hseq : Iter P gf lb xs T lo hI0 w0) (hb0 : Below w0.heap.size w0 w) (hn : hI0 ≤ w.heap.size)
    (I : Nat → World → Prop) (Ix : Code → World → Prop) (hI : OwnFrom w.heap.size I) (hIx : ∀ c, OwnFrom w.heap.size (fun (_ : Unit) => Ix c)) (h0 : I 0 w)
    (hT : ∀ k W W', I k W → T W W' → I k W') (hTk : ∀ W W', T W W' → KeepsOthers W W') (a₁ : Value → Act)
    (hassign : ∀ (l : Nat) (x : Value) (W : World) (K : Act → World → Prop), x ∈ xs → K (a₁ x) W →
      assign.wpIn (Fence.wide.inRound l) 0 P (Exit.then K (fun _ _ _ => False)) { tmps := (#[p].zip #[x]).foldl (fun t (p, v) => t.setIfInBounds p v) a.tmps, defers := [] } W)
    (hbody : ∀ (l k : Nat) (x : Value) (W : World), xs[k]? = some x → I k W → body.wpIn (Fence.wide.inRound l) 0 P (roundPostI w.heap.size lo hI0 I Ix (k + 1) W) (a₁ x) W)
    (hdone : ∀ (D : Nat) (W : World), w.heap.size ≤ D → I xs.length W → W.heap[D]? = some (.deferred (some [])) → Q .normal { a with defers := { target := .collected D, args := #[] } :: a.defers } W)
    (hstop : ∀ (D : Nat) (c : Code) (W : World), w.heap.size ≤ D → Ix c W → W.heap[D]? = some (.deferred (some [])) → c.wpIn Fence.wide 0 P Q { a with defers := { target := .collected D, args := #[] } :: a.defers } W) :
    (Code.rangeFunc g #[p] assign body).wpIn Fence.wide 0 P Q a w := by
  refine wpIn_rangeFunc ?_
  intro fn hfn
  obtain ⟨rec, hrec⟩ : ∃ rec : LoopState → Option Code → Loop, rec = fun st pe => { state := st, pending := pe, fn, tmps := a.tmps, params := #[p], assign, body, defers := w.heap.size } := ⟨_, rfl⟩
  obtain ⟨W1, hW1⟩ : ∃ W1, (w.alloc (.deferred (some []))).alloc (.loop (rec .ready none)) = W1 := ⟨_, rfl⟩
  have hL1 : W1.heap[w.heap.size + 1]? = some (.loop (rec .ready none)) := by
    rw [← hW1]; have := World.alloc_heap_new (w.alloc (.deferred (some []))) (.loop (rec .ready none)); rwa [World.size_alloc] at this
  have hK1 : W1.heap[w.heap.size]? = some (.deferred (some [])) := by
    rw [← hW1]; exact (Below.heap_alloc _ _ _ (by simp)).trans (World.alloc_heap_new w _)
  have hI1 : I 0 W1 := by rw [← hW1]; exact hI.alloc _ (hI.alloc _ h0)
  have hb1 : Below w0.heap.size w0 W1 := by rw [← hW1]; exact balloc (balloc hb0 _) _
  have hbk : ∀ (W : World) (l : Nat) (o : Obj), w.heap.size ≤ l → l < W.heap.size → KeepsIn lo hI0 W (W.putObj l o) := fun W l o h1 h2 k _ hk => World.putObj_heap_other (by omega)
  refine ⟨w.heap.size + 1, [{ target := .collected w.heap.size, args := #[] }], W1, { target := .fn (.func gf) lb, args := #[.func (.yield (w.heap.size + 1)) #[] #[]] }, W1, gf,
    #[.func (.yield (w.heap.size + 1)) #[] #[]] ++ lb, W1, ?_, ?_, ?_, ?_, (fun h => (by cases h)), ?_⟩
  · rw [← hW1, hrec]; exact run_enterLoop_outer _ _ _ _ _
  · simp only [resolve, hg]
    simp [go_sem]
  · intro f' hf'; trivial
  · simp [invoke, go_sem, eg]
  · have hnw : ∀ {A B : World} {row : Option Nat}, (∀ r, row = some r → W1.heap.size ≤ r ∧ ∃ o : Obj, A.heap[r]? = some o ∧ o.isWalk = true) → (∀ r, row = some r → w.heap.size ≤ r ∧ ∃ o : Obj, A.heap[r]? = some o ∧ o.isCells = false) :=
      fun hr r e => by obtain ⟨hB, o, ho, hw⟩ := hr r e; exact ⟨by rw [← hW1] at hB; simp at hB; omega, o, ho, Obj.not_cells_of_walk hw⟩
    refine (hseq (w.heap.size + 1)
      (fun k W => I k W ∧ W.heap[w.heap.size + 1]? = some (.loop (rec .ready none)) ∧ W.heap[w.heap.size]? = some (.deferred (some [])))
      (fun W => ∃ c, Ix c W ∧ W.heap[w.heap.size + 1]? = some (.loop (rec .done (some c))) ∧ W.heap[w.heap.size]? = some (.deferred (some [])))
      W1 hb1
      (fun s A B row hs hg' hr => ⟨hI s A B row hs.1 hg' (hnw (B := B) hr), (grownBy_keeps hg' (fun r e => (hr r e).2) hs.2.1 rfl).trans hs.2.1, (grownBy_keeps hg' (fun r e => (hr r e).2) hs.2.2 rfl).trans hs.2.2⟩)
      (fun k A B hs ht => ⟨hT k A B hs.1 ht, (hTk A B ht).same _ _ hs.2.1 rfl, (hTk A B ht).same _ _ hs.2.2 rfl⟩)
      ?_ ⟨hI1, hL1, hK1⟩).mono ?_
    · rintro k x W hx ⟨hi, hl, hk⟩
      have hlt : w.heap.size + 1 < W.heap.size := (Array.getElem?_eq_some_iff.1 hl).1
      have hy := run_yield (P := P) (args := #[x]) hl (by rw [hrec]; rfl)
      rw [hrec] at hy
      refine ⟨fn, _, assign, body, hy, roundIn_of_wpIn hfn (hassign _ x W _ (List.mem_of_getElem? hx) ⟨_, run_beginRound hl (by rw [hrec]), ?_⟩)⟩
      have hl2 : (W.putObj (w.heap.size + 1) (.loop { rec .ready none with state := .busy })).heap[w.heap.size + 1]? = some (.loop { rec .ready none with state := .busy }) := World.putObj_heap_same hlt
      have hk2 : (W.putObj (w.heap.size + 1) (.loop { rec .ready none with state := .busy })).heap[w.heap.size]? = some (.deferred (some [])) := (World.putObj_heap_other (by omega)).trans hk
      have hw2 : KeepsIn lo hI0 W (W.putObj (w.heap.size + 1) (.loop { rec .ready none with state := .busy })) := hbk _ _ _ (by omega) hlt
      refine wpIn_mono (hbody _ k x _ hx (hI.putObj _ hi (by omega) hl rfl)) ?_
      have fin : ∀ (jump : Option Code) (W3 : World), KeepsFrom w.heap.size (W.putObj (w.heap.size + 1) (.loop { rec .ready none with state := .busy })) W3 →
          (Instr.endRound (w.heap.size + 1) jump).run P W3 = .ok (.bool jump.isNone) (W3.putObj (w.heap.size + 1) (.loop (rec (if jump.isNone then .ready else .done) jump))) ∧
          W3.heap[w.heap.size + 1]? = some (.loop { rec .ready none with state := .busy }) ∧
          (W3.putObj (w.heap.size + 1) (.loop (rec (if jump.isNone then .ready else .done) jump))).heap[w.heap.size + 1]? = some (.loop (rec (if jump.isNone then .ready else .done) jump)) ∧
          (W3.putObj (w.heap.size + 1) (.loop (rec (if jump.isNone then .ready else .done) jump))).heap[w.heap.size]? = some (.deferred (some [])) := fun jump W3 hk3 => by
        have hl3 := hk3.same _ _ (by omega) hl2 rfl
        have := run_endRound (P := P) jump hl3
        rw [hrec] at this ⊢
        exact ⟨this, by rw [hrec] at hl3; exact hl3, World.putObj_heap_same (Array.getElem?_eq_some_iff.1 hl3).1, (World.putObj_heap_other (by omega)).trans (hk3.same _ _ (Nat.le_refl _) hk2 rfl)⟩
      rintro e a3 W3 hp
      cases e with
      | normal =>
        obtain ⟨hk3, hkp3, hi3⟩ := hp
        obtain ⟨hr, hl3, hl4, hk4⟩ := fin none W3 hk3
        have hlt3 := (Array.getElem?_eq_some_iff.1 hl3).1
        exact ⟨_, _, hr, .inl ⟨rfl, ⟨hI.putObj _ hi3 (by omega) hl3 rfl, hl4, hk4⟩, (hw2.trans hkp3).trans (hbk _ _ _ (by omega) hlt3)⟩⟩
      | ret =>
        obtain ⟨hk3, hi3⟩ := hp
        obtain ⟨hr, hl3, hl4, hk4⟩ := fin (some .ret) W3 hk3
        exact ⟨_, _, hr, .inr ⟨rfl, .ret, (hIx _).putObj (s := ()) _ hi3 (by omega) hl3 rfl, hl4, hk4⟩⟩
      | exit id =>
        obtain ⟨hk3, hi3⟩ := hp
        obtain ⟨hr, hl3, hl4, hk4⟩ := fin (some (.exit id)) W3 hk3
        exact ⟨_, _, hr, .inr ⟨rfl, .exit id, (hIx _).putObj (s := ()) _ hi3 (by omega) hl3 rfl, hl4, hk4⟩⟩
      | goto t =>
        obtain ⟨hk3, hi3⟩ := hp
        obtain ⟨hr, hl3, hl4, hk4⟩ := fin (some (.goto t)) W3 hk3
        exact ⟨_, _, hr, .inr ⟨rfl, .goto t, (hIx _).putObj (s := ()) _ hi3 (by omega) hl3 rfl, hl4, hk4⟩⟩
      | panic ch => exact hp.elim
      | outgrown => exact hp.elim
    · rintro e W2 ⟨⟨v, rfl⟩, (⟨hi, hl, hk⟩ | ⟨c, hi, hl, hk⟩)⟩
      · exact ⟨none, _, by have := run_endLoop (P := P) hl (by rw [hrec]; simp); rw [hrec] at this; exact this, hdone _ _ (Nat.le_refl _) (hI.putObj _ hi (by omega) hl rfl) ((World.putObj_heap_other (by omega)).trans hk)⟩
      · exact ⟨some c, _, by have := run_endLoop (P := P) hl (by rw [hrec]; simp); rw [hrec] at this; exact this, hstop _ c _ (Nat.le_refl _) ((hIx c).putObj (s := ()) _ hi (by omega) hl rfl) ((World.putObj_heap_other (by omega)).trans hk)⟩
end Go.Proofs.YtdlbfjoemabfpaaGreatDoor
